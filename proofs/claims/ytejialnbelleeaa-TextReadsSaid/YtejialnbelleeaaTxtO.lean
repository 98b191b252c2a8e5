/-
  The laws of the text: call.
-/
import Derived.Test.YtejialnbelleeaaTxtM
namespace Go.Proofs.Ytejialnbelleeaa
open Go Go.RowKit

theorem SlAt.takeN {α : Type} {sz : Nat} {enc : α → List Value} {w : World} {A : Option Addr} {c : Nat} {l : List α} (k : Nat) (h : SlAt sz enc w (.slice A l.length c) l) : SlAt sz enc w (.slice A (l.take k).length c) (l.take k) := by
  obtain ⟨A', c', he, hc, h0⟩ := h
  injection he with e1 e2 e3
  subst e1 e3
  refine ⟨A, c, rfl, ⟨by rw [List.length_take]; omega, by rw [List.length_take]; omega⟩, ?_⟩
  rcases h0 with rfl | ⟨b, off, rfl, h⟩
  · exact .inl (by simp)
  · refine .inr ⟨b, off, rfl, fun i x hi j y hj => ?_⟩
    rw [List.getElem?_take] at hi
    split at hi
    · exact h i x hi j y hj
    · cases hi

/-- Where a reader stands behind a call, and its error. -/
def stepC (s : ByteArray) (x : CallR) (p : Nat) (er : Int) : Nat × Int :=
  if x.kind = 1 then (nextP s p er, er)
  else if x.kind = 2 then ((stepR p er (isL (mets s p 0 (x.l.take 6)) p)).pos, (stepR p er (isL (mets s p 0 (x.l.take 6)) p)).err)
  else if x.kind = 3 then ((stepR p er (whileR s x.a p)).pos, (stepR p er (whileR s x.a p)).err)
  else if x.kind = 4 then ((stepR p er (wantR s x.word p)).pos, (stepR p er (wantR s x.word p)).err)
  else if x.kind = 5 then ((stepR p er (numR s p x.n x.pl)).pos, (stepR p er (numR s p x.n x.pl)).err)
  else if x.kind = 6 then ((stepR p er (hexR s p x.n)).pos, (stepR p er (hexR s p x.n)).err)
  else if x.kind = 7 then ((stepR p er (failR s p x.n 2)).pos, (stepR p er (failR s p x.n 2)).err)
  else if x.kind = 8 then ((stepR p er (endR s p)).pos, (stepR p er (endR s p)).err)
  else (p, er)

theorem word_size (x : CallR) : x.word.size ≤ 40 := by
  unfold CallR.word
  split
  · decide
  · rw [ByteArray.size_extract]; omega

set_option maxRecDepth 100000 in
set_option maxHeartbeats 8000000 in
theorem call_any (x : CallR) (g p : Nat) (s : ByteArray) (er : Int) (w : World) (hr : RdAt w g s p er) (hg : x.good w) (hp : p ≤ s.size) (hs : s.size ≤ 140737488351232) :
    Calls Try.prog 24 #[.pointer (some ⟨g, 0, none⟩), callV x] w fun e w' => e = .returned (.tuple #[]) ∧ RdAt w' g s (stepC s x p er).1 (stepC s x p er).2 ∧ Ext (G1 g) w w' := by
  have hK := fun w => kind_any x w
  have HW := Lib.hid (fun w hg => word_any x w hg)
  obtain ⟨st, hst⟩ : ∃ st, st = stepC s x p er := ⟨_, rfl⟩
  rw [← hst]
  unfold stepC at hst
  have hkk := x.kind_lt
  have hws := word_size x
  have h9 : x.kind = 0 ∨ x.kind = 1 ∨ x.kind = 2 ∨ x.kind = 3 ∨ x.kind = 4 ∨ x.kind = 5 ∨ x.kind = 6 ∨ x.kind = 7 ∨ x.kind = 8 := by omega
  generalize x.word = wd at *
  obtain ⟨k0, l, A, c, a, n, pl⟩ := x
  generalize CallR.kind ⟨k0, l, A, c, a, n, pl⟩ = kd at *
  have hgx := hg
  simp only at hst
  clear hkk
  rcases h9 with rfl | rfl | rfl | rfl | rfl | rfl | rfl | rfl | rfl
  · have HK := Lib.hid hK
    clear hK
    rw [if_neg (by decide), if_neg (by decide), if_neg (by decide), if_neg (by decide), if_neg (by decide), if_neg (by decide), if_neg (by decide), if_neg (by decide)] at hst
    have HST := Lib.hid hst
    clear hst
    go_enter Try.func24, Try.ntmps24
    go_wp2_with fail
    generalize hwz : World.alloc w _ = wz
    have fC : wz.heap[w.heap.size]? = some (.cells (callC ⟨k0, l, A, c, a, n, pl⟩) 27 (0, 0)) := by rw [← hwz]; exact heap_new _ _
    have y0 : Ext G0 w wz := by rw [← hwz]; exact (Ext.refl _ _).alloc _
    clear hwz
    refine (HK.out _).mono ?_
    rintro e w1 ⟨rfl, x1⟩
    have gC := ext_heap x1 fC (fun x => x)
    have y1 := y0.trans x1
    have hr2 := hr.ext y1 (fun x => x)
    clear fC y0 x1 HK
    go_wp2
    go_end0
    exact ⟨rfl, by rw [HST.out]; exact hr2, y1.up _⟩
  · have HK := Lib.hid hK
    clear hK
    rw [if_pos rfl] at hst
    have HST := Lib.hid hst
    clear hst
    go_enter Try.func24, Try.ntmps24
    go_wp2_with fail
    generalize hwz : World.alloc w _ = wz
    have fC : wz.heap[w.heap.size]? = some (.cells (callC ⟨k0, l, A, c, a, n, pl⟩) 27 (0, 0)) := by rw [← hwz]; exact heap_new _ _
    have y0 : Ext G0 w wz := by rw [← hwz]; exact (Ext.refl _ _).alloc _
    clear hwz
    refine (HK.out _).mono ?_
    rintro e w1 ⟨rfl, x1⟩
    have gC := ext_heap x1 fC (fun x => x)
    have y1 := y0.trans x1
    have hr2 := hr.ext y1 (fun x => x)
    clear fC y0 x1 HK
    go_wp2_with fail
    refine (Next_any g p s er _ hr2 hp hs).mono ?_
    rintro e w3 ⟨rfl, hr3, hx3⟩
    go_wp2
    go_end0
    refine ⟨rfl, ?_, (y1.up (G1 g)).trans hx3⟩
    rw [HST.out]
    exact hr3
  · have HK := Lib.hid hK
    clear hK
    rw [if_neg (by decide), if_pos rfl] at hst
    have HST := Lib.hid hst
    clear hst
    have hv6 := hg.strs.takeN 6
    have hsz6 : ∀ t ∈ l.take 6, t.size ≤ 140737488351232 := fun t ht => hg.sizes t (List.mem_of_mem_take ht)
    have hc6 : ((l.length : Int) ≤ 6 ∧ (l.take 6).length = l.length) ∨ (¬ (l.length : Int) ≤ 6 ∧ (l.take 6).length = 6) := by rw [List.length_take]; omega
    have hlm : (l.length : Int) ≤ 140737488351232 := by obtain ⟨_, _, _, ⟨_, h⟩, _⟩ := hg.strs; exact h
    have hlc : l.length ≤ c := by obtain ⟨_, _, he, ⟨h, _⟩, _⟩ := hg.strs; injection he with e1 e2 e3; rw [← e3] at h; exact h
    simp only at hv6
    clear hg hgx
    rcases hc6 with ⟨h6, hl6⟩ | ⟨h6, hl6⟩
    all_goals
      rw [hl6] at hv6
      have HV := Lib.hid hv6
      have HL6 := Lib.hid hl6
      clear hv6 hl6
      go_enter Try.func24, Try.ntmps24
      go_wp2_with fail
      generalize hwz : World.alloc w _ = wz
      have fC : wz.heap[w.heap.size]? = some (.cells (callC ⟨k0, l, A, c, a, n, pl⟩) 27 (0, 0)) := by rw [← hwz]; exact heap_new _ _
      have y0 : Ext G0 w wz := by rw [← hwz]; exact (Ext.refl _ _).alloc _
      clear hwz
      refine (HK.out _).mono ?_
      rintro e w1 ⟨rfl, x1⟩
      have gC := ext_heap x1 fC (fun x => x)
      have y1 := y0.trans x1
      have hr2 := hr.ext y1 (fun x => x)
      clear fC y0 x1 HK
      have c1 : w1.cell? ⟨w.heap.size, 1, none⟩ = some (.slice A l.length c) := blk_cell gC 1
      go_wp2_with fail
      have hi := Is_any g p s er (l.take 6) A c _ hr2 hp hs (by rw [HL6.out]; exact HV.out.ext y1) hsz6
      rw [HL6.out] at hi
      refine hi.mono ?_
      clear hi
      rintro e w3 ⟨rfl, hr3, hx3⟩
      go_wp2
      go_end0
      refine ⟨rfl, ?_, (y1.up (G1 g)).trans hx3⟩
      rw [HST.out]
      exact hr3
  · have HK := Lib.hid hK
    clear hK
    rw [if_neg (by decide), if_neg (by decide), if_pos rfl] at hst
    have HST := Lib.hid hst
    clear hst
    go_enter Try.func24, Try.ntmps24
    go_wp2_with fail
    generalize hwz : World.alloc w _ = wz
    have fC : wz.heap[w.heap.size]? = some (.cells (callC ⟨k0, l, A, c, a, n, pl⟩) 27 (0, 0)) := by rw [← hwz]; exact heap_new _ _
    have y0 : Ext G0 w wz := by rw [← hwz]; exact (Ext.refl _ _).alloc _
    clear hwz
    refine (HK.out _).mono ?_
    rintro e w1 ⟨rfl, x1⟩
    have gC := ext_heap x1 fC (fun x => x)
    have y1 := y0.trans x1
    have hr2 := hr.ext y1 (fun x => x)
    clear fC y0 x1 HK
    have c2 : w1.cell? ⟨w.heap.size, 2, none⟩ = some (wordV (Go.Proofs.Ytejialnbelleeaa.word a 0)) := blk_cell gC 2
    have c3 : w1.cell? ⟨w.heap.size, 3, none⟩ = some (wordV (Go.Proofs.Ytejialnbelleeaa.word a 1)) := blk_cell gC 3
    have c4 : w1.cell? ⟨w.heap.size, 4, none⟩ = some (wordV (Go.Proofs.Ytejialnbelleeaa.word a 2)) := blk_cell gC 4
    have c5 : w1.cell? ⟨w.heap.size, 5, none⟩ = some (wordV (Go.Proofs.Ytejialnbelleeaa.word a 3)) := blk_cell gC 5
    go_wp2_with fail
    refine (While_any g p s er a _ hr2 hp hs).mono ?_
    rintro e w3 ⟨rfl, hr3, hx3⟩
    go_wp2
    go_end0
    refine ⟨rfl, ?_, (y1.up (G1 g)).trans hx3⟩
    rw [HST.out]
    exact hr3
  · have HK := Lib.hid hK
    clear hK
    rw [if_neg (by decide), if_neg (by decide), if_neg (by decide), if_pos rfl] at hst
    have HST := Lib.hid hst
    clear hst
    go_enter Try.func24, Try.ntmps24
    go_wp2_with fail
    generalize hwz : World.alloc w _ = wz
    have fC : wz.heap[w.heap.size]? = some (.cells (callC ⟨k0, l, A, c, a, n, pl⟩) 27 (0, 0)) := by rw [← hwz]; exact heap_new _ _
    have y0 : Ext G0 w wz := by rw [← hwz]; exact (Ext.refl _ _).alloc _
    clear hwz
    refine (HK.out _).mono ?_
    rintro e w1 ⟨rfl, x1⟩
    have gC := ext_heap x1 fC (fun x => x)
    have y1 := y0.trans x1
    have hr2 := hr.ext y1 (fun x => x)
    clear fC y0 x1 HK
    have c0 : w1.cell? ⟨w.heap.size, 0, none⟩ = some (.int .i64 k0) := blk_cell gC 0
    have c1 : w1.cell? ⟨w.heap.size, 1, none⟩ = some (.slice A l.length c) := blk_cell gC 1
    have c2 : w1.cell? ⟨w.heap.size, 2, none⟩ = some (wordV (Go.Proofs.Ytejialnbelleeaa.word a 0)) := blk_cell gC 2
    have c3 : w1.cell? ⟨w.heap.size, 3, none⟩ = some (wordV (Go.Proofs.Ytejialnbelleeaa.word a 1)) := blk_cell gC 3
    have c4 : w1.cell? ⟨w.heap.size, 4, none⟩ = some (wordV (Go.Proofs.Ytejialnbelleeaa.word a 2)) := blk_cell gC 4
    have c5 : w1.cell? ⟨w.heap.size, 5, none⟩ = some (wordV (Go.Proofs.Ytejialnbelleeaa.word a 3)) := blk_cell gC 5
    have c6 : w1.cell? ⟨w.heap.size, 6, none⟩ = some (.int .i64 n) := blk_cell gC 6
    have c7 : w1.cell? ⟨w.heap.size, 7, none⟩ = some (.bool pl) := blk_cell gC 7
    go_wp2_with fail
    clear c0 c1 c2 c3 c4 c5 c6 c7
    refine (HW.out _ (hgx.ext y1)).mono ?_
    rintro e w2 ⟨rfl, x2⟩
    have hr4 := hr2.ext x2 (fun x => x)
    replace y1 := y1.trans x2
    clear hr2 x2 gC
    go_wp2_with fail
    refine (Want_any g p s er wd _ hr4 hp hs (by omega)).mono ?_
    rintro e w3 ⟨rfl, hr3, hx3⟩
    go_wp2
    go_end0
    refine ⟨rfl, ?_, (y1.up (G1 g)).trans hx3⟩
    rw [HST.out]
    exact hr3
  · have HK := Lib.hid hK
    clear hK
    rw [if_neg (by decide), if_neg (by decide), if_neg (by decide), if_neg (by decide), if_pos rfl] at hst
    have HST := Lib.hid hst
    clear hst
    go_enter Try.func24, Try.ntmps24
    go_wp2_with fail
    generalize hwz : World.alloc w _ = wz
    have fC : wz.heap[w.heap.size]? = some (.cells (callC ⟨k0, l, A, c, a, n, pl⟩) 27 (0, 0)) := by rw [← hwz]; exact heap_new _ _
    have y0 : Ext G0 w wz := by rw [← hwz]; exact (Ext.refl _ _).alloc _
    clear hwz
    refine (HK.out _).mono ?_
    rintro e w1 ⟨rfl, x1⟩
    have gC := ext_heap x1 fC (fun x => x)
    have y1 := y0.trans x1
    have hr2 := hr.ext y1 (fun x => x)
    clear fC y0 x1 HK
    have c6 : w1.cell? ⟨w.heap.size, 6, none⟩ = some (.int .i64 n) := blk_cell gC 6
    have c7 : w1.cell? ⟨w.heap.size, 7, none⟩ = some (.bool pl) := blk_cell gC 7
    go_wp2_with fail
    refine (Number_any g p s er n pl _ hr2 hp hs hgx.n1).mono ?_
    rintro e w3 ⟨rfl, hr3, hx3⟩
    go_wp2
    go_end0
    refine ⟨rfl, ?_, (y1.up (G1 g)).trans hx3⟩
    rw [HST.out]
    exact hr3
  · have HK := Lib.hid hK
    clear hK
    rw [if_neg (by decide), if_neg (by decide), if_neg (by decide), if_neg (by decide), if_neg (by decide), if_pos rfl] at hst
    have HST := Lib.hid hst
    clear hst
    go_enter Try.func24, Try.ntmps24
    go_wp2_with fail
    generalize hwz : World.alloc w _ = wz
    have fC : wz.heap[w.heap.size]? = some (.cells (callC ⟨k0, l, A, c, a, n, pl⟩) 27 (0, 0)) := by rw [← hwz]; exact heap_new _ _
    have y0 : Ext G0 w wz := by rw [← hwz]; exact (Ext.refl _ _).alloc _
    clear hwz
    refine (HK.out _).mono ?_
    rintro e w1 ⟨rfl, x1⟩
    have gC := ext_heap x1 fC (fun x => x)
    have y1 := y0.trans x1
    have hr2 := hr.ext y1 (fun x => x)
    clear fC y0 x1 HK
    have c6 : w1.cell? ⟨w.heap.size, 6, none⟩ = some (.int .i64 n) := blk_cell gC 6
    go_wp2_with fail
    refine (Hex_any g p s er n _ hr2 hp hs).mono ?_
    rintro e w3 ⟨rfl, hr3, hx3⟩
    go_wp2
    go_end0
    refine ⟨rfl, ?_, (y1.up (G1 g)).trans hx3⟩
    rw [HST.out]
    exact hr3
  · have HK := Lib.hid hK
    clear hK
    rw [if_neg (by decide), if_neg (by decide), if_neg (by decide), if_neg (by decide), if_neg (by decide), if_neg (by decide), if_pos rfl] at hst
    have HST := Lib.hid hst
    clear hst
    go_enter Try.func24, Try.ntmps24
    go_wp2_with fail
    generalize hwz : World.alloc w _ = wz
    have fC : wz.heap[w.heap.size]? = some (.cells (callC ⟨k0, l, A, c, a, n, pl⟩) 27 (0, 0)) := by rw [← hwz]; exact heap_new _ _
    have y0 : Ext G0 w wz := by rw [← hwz]; exact (Ext.refl _ _).alloc _
    clear hwz
    refine (HK.out _).mono ?_
    rintro e w1 ⟨rfl, x1⟩
    have gC := ext_heap x1 fC (fun x => x)
    have y1 := y0.trans x1
    have hr2 := hr.ext y1 (fun x => x)
    clear fC y0 x1 HK
    have c6 : w1.cell? ⟨w.heap.size, 6, none⟩ = some (.int .i64 n) := blk_cell gC 6
    go_wp2_with fail
    refine (Fail_any g p s er n 2 _ hr2).mono ?_
    rintro e w3 ⟨rfl, hr3, hx3⟩
    go_wp2
    go_end0
    refine ⟨rfl, ?_, (y1.up (G1 g)).trans hx3⟩
    rw [HST.out]
    exact hr3
  · have HK := Lib.hid hK
    clear hK
    rw [if_neg (by decide), if_neg (by decide), if_neg (by decide), if_neg (by decide), if_neg (by decide), if_neg (by decide), if_neg (by decide), if_pos rfl] at hst
    have HST := Lib.hid hst
    clear hst
    go_enter Try.func24, Try.ntmps24
    go_wp2_with fail
    generalize hwz : World.alloc w _ = wz
    have fC : wz.heap[w.heap.size]? = some (.cells (callC ⟨k0, l, A, c, a, n, pl⟩) 27 (0, 0)) := by rw [← hwz]; exact heap_new _ _
    have y0 : Ext G0 w wz := by rw [← hwz]; exact (Ext.refl _ _).alloc _
    clear hwz
    refine (HK.out _).mono ?_
    rintro e w1 ⟨rfl, x1⟩
    have gC := ext_heap x1 fC (fun x => x)
    have y1 := y0.trans x1
    have hr2 := hr.ext y1 (fun x => x)
    clear fC y0 x1 HK
    go_wp2_with fail
    refine (End_any g p s er _ hr2 hp).mono ?_
    rintro e w3 ⟨rfl, hr3, hx3⟩
    go_wp2
    go_end0
    refine ⟨rfl, ?_, (y1.up (G1 g)).trans hx3⟩
    rw [HST.out]
    exact hr3

end Go.Proofs.Ytejialnbelleeaa
