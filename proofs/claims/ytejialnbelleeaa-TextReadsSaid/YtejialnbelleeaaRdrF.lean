/-
  The reference's reader: Is.
-/
import Derived.Test.YtejialnbelleeaaRdrE
namespace Go.Proofs.Ytejialnbelleeaa
open Go Go.RowKit

theorem rBegins_both (s word : ByteArray) (p : Nat) (er : Int) (w : World) (hp : p ≤ s.size) (hs : s.size ≤ 140737488351232) (hw0 : word.size ≤ 140737488351232) (hw1 : 0 < word.size) :
    Calls Try.prog 60 #[rdV s p er, .string word] w fun e w' => e = .returned (.bool (decide (er = 0) && begB (s.extract p s.size) word)) ∧ Ext G0 w w' := by
  by_cases he : er = 0
  · subst he
    simpa using rBegins_any s word p w hp hs hw0
  · simpa [he] using rBegins_err s word p er w he hp hs hw0 hw1

def IsRel (s : ByteArray) (l0 : List ByteArray) (p : Nat) (er : Int) (n k : Nat) (w wr : World) : Prop := k ≤ l0.length ∧ (er = 0 → mets s p k (l0.drop k) = mets s p 0 l0) ∧ wr.heap[n]? = some (.cells (rdC s p er) 52 (0, 0)) ∧
  wr.heap[n + 1]? = some (.cells #[.string ByteArray.empty, .int .i64 0, .int .i64 0] 52 (0, 0)) ∧ Ext G0 w wr

set_option maxRecDepth 100000 in
set_option maxHeartbeats 2500000 in
theorem rIs_any (s : ByteArray) (p : Nat) (er : Int) (l0 : List ByteArray) (A : Option Addr) (c : Nat) (w : World) (hp : p ≤ s.size) (hs : s.size ≤ 140737488351232) (hv : StrsAt w (.slice A l0.length c) l0) (hl : ∀ t ∈ l0, t.size ≤ 140737488351232) :
    Calls Try.prog 47 #[rdV s p er, .slice A l0.length c] w fun e w' => e = .returned (.tuple #[rdV s (stepR p er (isL (mets s p 0 l0) p)).pos (stepR p er (isL (mets s p 0 l0) p)).err, .int .i64 ((stepR p er (isL (mets s p 0 l0) p)).val 0)]) ∧ Ext G0 w w' := by
  obtain ⟨st, hst⟩ : ∃ st, st = stepR p er (isL (mets s p 0 l0) p) := ⟨_, rfl⟩
  rw [← hst]
  replace hst := Lib.hid hst
  obtain ⟨_, _, he, ⟨_, hmax⟩, hcells⟩ := hv
  injection he with e1 e2 e3
  subst e1 e3
  clear e2
  go_enter Try.func47, Try.ntmps47
  go_wp2
  generalize hwz : World.alloc (World.alloc w _) _ = wz
  have fR : wz.heap[w.heap.size]? = some (.cells (rdC s p er) 52 (0, 0)) := by rw [← hwz]; exact heap_past (heap_new w _) _
  have fO : wz.heap[w.heap.size + 1]? = some (.cells (#[.string ByteArray.empty, .int .i64 0, .int .i64 0]) 52 (0, 0)) := by rw [← hwz]; exact heap_two w _ _
  have y0 : Ext G0 w wz := by rw [← hwz]; exact ((Ext.refl _ _).alloc _).alloc _
  clear hwz
  go_loopg [10] (l0.length) (fun n v wr => ∃ k : Nat, n = l0.length - k ∧ v = .int .i64 (k : Int) ∧ IsRel s l0 p er w.heap.size k w wr)
  case atStart => exact ⟨0, rfl, rfl, Nat.zero_le _, fun _ => rfl, fR, fO, y0⟩
  case round =>
    obtain ⟨k, rfl, rfl, hk, hF, gR, gO, hx⟩ := hrel
    clear fR fO y0
    by_cases hlt : k < l0.length
    · rcases hcells with h | ⟨b, off, rfl, hcell⟩
      · rw [h] at hlt; simp at hlt
      have e0 : wr.cell? ⟨b, off + k, none⟩ = some (.string l0[k]) := by
        have := hcell k l0[k] (by simp [hlt]) 0 _ rfl
        rw [Nat.mul_one] at this
        exact cell_ext hx this
      have hls := hl _ (List.getElem_mem hlt)
      have hm1 : mets s p k (l0.drop k) = if h : (l0[k].toList.isEmpty = false ∧ begB (s.extract p s.size) l0[k] = true) ∧ k + 1 ≤ 140737488351233 ∧ l0[k].size ≤ 140737488351232 then ⟨(k + 1, l0[k]), h.2⟩ :: mets s p (k + 1) (l0.drop (k + 1)) else mets s p (k + 1) (l0.drop (k + 1)) := by
        rw [List.drop_eq_getElem_cons hlt]; rfl
      clear hcell
      generalize l0[k] = t at *
      have i2 : k < l0.length := hlt
      by_cases hte : t.toList.isEmpty = true
      · have hm2 : mets s p k (l0.drop k) = mets s p (k + 1) (l0.drop (k + 1)) := by rw [hm1, dif_neg (by rintro ⟨⟨h, _⟩, _⟩; rw [hte] at h; cases h)]
        have HM := Lib.hid hm2
        have te2 : t.toList = [] := List.isEmpty_iff.1 hte
        have HF := Lib.hid hF
        clear hm1 hm2 hF
        go_wp2
        go_roundg (l0.length - (k + 1))
        case rel => exact ⟨k + 1, rfl, by go_num, by omega, fun h => by rw [← HM.out]; exact HF.out h, gR, gO, hx⟩
        case measure => omega
      · have te1 : t.toList.isEmpty = false := by simpa using hte
        have te2 : (!t.toList.isEmpty) = true := by simp [te1]
        have hsz : 0 < t.size := by
          rcases Nat.eq_zero_or_pos t.size with h | h
          · exact absurd (by rw [ByteArray.toList_eq, List.isEmpty_iff_length_eq_zero, Array.length_toList]; exact h) hte
          · exact h
        have HP := fun w => rBegins_both s t p er w hp hs hls hsz
        have HF := Lib.hid hF
        have s0 := blk_cell gR 0
        have s1 := blk_cell gR 1
        have s2 := blk_cell gR 2
        have s3 := IntWalk.i64_in ((k : Int) + 1) (by omega)
        cases hbg : decide (er = 0) && begB (s.extract p s.size) t with
        | false =>
          have hm2 : er = 0 → mets s p k (l0.drop k) = mets s p (k + 1) (l0.drop (k + 1)) := fun he => by
            subst he
            rw [hm1, dif_neg (by rintro ⟨⟨_, h⟩, _⟩; rw [h] at hbg; cases hbg)]
          have HM := Lib.hid hm2
          rw [hbg] at HP
          replace HP := Lib.hid HP
          clear hm1 hm2 hbg hte hF
          go_wp2_with (go_at_call 60; ((with_reducible refine (HP.out _).mono ?_); rintro e w2 ⟨rfl, hx2⟩))
          replace gR := ext_heap hx2 gR (fun x => x)
          replace gO := ext_heap hx2 gO (fun x => x)
          replace hx := hx.trans hx2
          go_roundg (l0.length - (k + 1))
          case rel => exact ⟨k + 1, rfl, by go_num, by omega, fun h => by rw [← HM.out h]; exact HF.out h, gR, gO, hx⟩
          case measure => omega
        | true =>
          have he : er = 0 := by
            rw [Bool.and_eq_true, decide_eq_true_eq] at hbg; exact hbg.1
          have hbg2 : begB (s.extract p s.size) t = true := by
            rw [Bool.and_eq_true, decide_eq_true_eq] at hbg; exact hbg.2
          have hxb : k + 1 ≤ 140737488351233 ∧ t.size ≤ 140737488351232 := ⟨by omega, hls⟩
          have hm2 : mets s p k (l0.drop k) = ⟨(k + 1, t), hxb⟩ :: mets s p (k + 1) (l0.drop (k + 1)) := by rw [hm1, dif_pos ⟨⟨te1, hbg2⟩, hxb⟩]
          have hfin : st = .ok ((k + 1 : Nat) : Int) (p + t.size) := by
            rw [hst.out, he, show stepR p 0 (isL (mets s p 0 l0) p) = isL (mets s p 0 l0) p from if_pos rfl, ← hF he, hm2]; rfl
          have HFIN := Lib.hid hfin
          have hle : p + t.size ≤ s.size := ((begB_iff s t p hp).1 hbg2).1
          rw [hbg] at HP
          replace HP := Lib.hid HP
          clear hm1 hm2 hbg hte hF he hfin hbg2
          have s4 := IntWalk.i64_in ((p : Int) + (t.size : Int)) (by omega)
          go_wp2_with (go_at_call 60; ((with_reducible refine (HP.out _).mono ?_); rintro e w2 ⟨rfl, hx2⟩); replace gR := ext_heap hx2 gR (fun x => x); replace gO := ext_heap hx2 gO (fun x => x); replace hx := hx.trans hx2; have c0 := blk_cell gR 0; have c1 := blk_cell gR 1; have r0 := blk_cell gO 0; have r1 := blk_cell gO 1; have r2 := blk_cell gO 2; have z := blk_free gO; have hlz := lt_of_block gO)
          refine bodyPost_ret (v := .tuple #[rdV s st.pos st.err, .int .i64 (st.val 0)]) (by rw [HFIN.out]; simp [results, Try.results47, go_sem, r0, r1, r2, Res.pos, Res.err, Res.val]) rfl ⟨rfl, ?_⟩
          exact ((hx.set (by simp) _).set (by simp) _).set (by simp) _
    · obtain rfl : k = l0.length := by omega
      have hfin : st.pos = p ∧ st.err = er ∧ st.val 0 = 0 := by
        rw [hst.out]
        by_cases he : er = 0
        · subst he
          rw [show stepR p 0 (isL (mets s p 0 l0) p) = isL (mets s p 0 l0) p from if_pos rfl, ← hF rfl, List.drop_length]
          exact ⟨rfl, rfl, rfl⟩
        · rw [show stepR p er (isL (mets s p 0 l0) p) = .fail p er from if_neg he]
          exact ⟨rfl, rfl, rfl⟩
      have HFIN := Lib.hid hfin
      clear hF hfin hcells hl hst
      have c0 := blk_cell gR 0
      have c1 := blk_cell gR 1
      have c2 := blk_cell gR 2
      have r0 := blk_cell gO 0
      have r1 := blk_cell gO 1
      have r2 := blk_cell gO 2
      have z := blk_free gO
      have hlz := lt_of_block gO
      go_wp2
      refine bodyPost_ret (v := .tuple #[rdV s st.pos st.err, .int .i64 (st.val 0)]) (by rw [HFIN.out.1, HFIN.out.2.1, HFIN.out.2.2]; simp [results, Try.results47, go_sem, r0, r1, r2]) rfl ⟨rfl, ?_⟩
      exact ((hx.set (by simp) _).set (by simp) _).set (by simp) _

end Go.Proofs.Ytejialnbelleeaa
