/-
  Package text: Is.
-/
import Derived.Test.YtejialnbelleeaaTxtJ
namespace Go.Proofs.Ytejialnbelleeaa
open Go Go.RowKit Go.Shelf
attribute [local go_sem] Oper.semAt_some

theorem Ext.grown {G : Nat → Prop} {W0 W W' : World} {row : Option Nat} (h : Ext G W0 W) (hg : W.grownBy W' row) (hr : ∀ r, row = some r → W0.heap.size ≤ r) : Ext G W0 W' :=
  ⟨hg.os.trans h.os, hg.tape.trans h.tape, hg.output.trans h.output, Nat.le_trans h.size hg.size, fun k hk hn => (hg.block k (Nat.lt_of_lt_of_le hk h.size) (fun e => by have := hr k e.symm; omega)).trans (h.block k hk hn)⟩

/-- The word that is read, if there is one. -/
def isL : List Met → Nat → Res Int
  | [], p => .ok 0 p
  | x :: _, p => .ok (x.val.1 : Int) (p + x.val.2.size)

set_option maxRecDepth 100000 in
set_option maxHeartbeats 4000000 in
theorem Is1_any (g p bx bw : Nat) (s : ByteArray) (l0 : List ByteArray) (A : Option Addr) (c : Nat) (w : World) (hr : RdAt w g s p 0) (hp : p ≤ s.size) (hs : s.size ≤ 140737488351232) (hbx : w.heap[bx]? = some (.cells #[.pointer (some ⟨g, 0, none⟩)] 29 (0, 0)))
    (hbw : w.heap[bw]? = some (.cells #[.slice A l0.length c] 22 (0, 0))) (hv : StrsAt w (.slice A l0.length c) l0) (hl : ∀ t ∈ l0, t.size ≤ 140737488351232) :
    Calls Try.prog 33 #[.pointer (some ⟨bx, 0, none⟩), .pointer (some ⟨bw, 0, none⟩)] w fun e w' => Ext (G1 g) w w' ∧ (isL (mets s p 0 l0) p).out intV g s e w' := by
  obtain ⟨ms, hms⟩ : ∃ ms, ms = mets s p 0 l0 := ⟨_, rfl⟩
  rw [← hms]
  have x0 : w.cell? ⟨bx, 0, none⟩ = some (.pointer (some ⟨g, 0, none⟩)) := blk_cell hbx 0
  have y0 : w.cell? ⟨bw, 0, none⟩ = some (.slice A l0.length c) := blk_cell hbw 0
  have hlx := lt_of_block hbx
  have hlw := lt_of_block hbw
  have hlg := hr.lt
  refine (callsIn_wide (n := 7)).1 ?_
  refine callsIn_of_wp_marks Try.func33 rfl trivial ?_ rfl
  simp only [Try.ntmps33, List.size_toArray, List.length_cons, List.length_nil, Nat.reduceAdd, Nat.reduceSub, Array.replicate_succ, Array.replicate_zero, List.push_toArray, List.append_toArray, List.nil_append, List.cons_append]
  gi_wp2_with (refine ⟨trivial, ?_⟩; gi_at_call 34; refine (callsIn_wide.2 (met_any g _ _ ⟨_, _, _, rfl⟩)).mono ?_; rintro e w' ⟨rfl, rfl⟩)
  generalize hw0 : World.alloc (World.alloc (World.alloc w _) _) _ = W0
  have hx0 : Ext G0 w W0 := by rw [← hw0]; exact (((Ext.refl _ _).alloc _).alloc _).alloc _
  have hsz : W0.heap.size = w.heap.size + 3 := by rw [← hw0]; simp
  have fR : W0.heap[w.heap.size]? = some (.cells #[.int .i64 0] 3 (0, 0)) := by rw [← hw0]; exact heap_past (heap_two' w _ _) _
  have fX : W0.heap[w.heap.size + 1]? = some (.cells #[.pointer (some ⟨g, 0, none⟩)] 29 (0, 0)) := by rw [← hw0]; exact heap_past (heap_two w _ _) _
  have fW : W0.heap[w.heap.size + 2]? = some (.cells #[.slice A l0.length c] 22 (0, 0)) := by rw [← hw0]; exact heap_at _ _ _ (by simp)
  have hr0 := hr.ext hx0 (fun x => x)
  have hbx0 := ext_heap hx0 hbx (fun x => x)
  clear hw0 x0 y0
  refine wpIn_rangeFunc_ownG rfl (by decide) (gf := 57) (lb := #[.pointer (some ⟨w.heap.size + 2, 0, none⟩), .pointer (some ⟨w.heap.size + 1, 0, none⟩)]) rfl trivial (enters_of Try.func57 (by kernel_rfl) rfl)
    (met1_stops g p _ _ s l0 A c W0.heap.size 6 (by decide) W0 hr0 hp fX fW (hv.ext hx0) hl rfl) (fun h k => h.trans k) (belowK_b (Nat.le_refl _)) (Below.refl _ _) (fun _ => rfl)
    (fun pre W => pre = [] ∧ Ext G0 W0 W)
    (fun cd pre W => cd = .ret ∧ ∃ x, pre = [x] ∧ Ext (G2 g w.heap.size) W0 W ∧ RdAt W g s (p + x.val.2.size) 0 ∧ W.heap[w.heap.size]? = some (.cells #[.int .i64 (x.val.1 : Int)] 3 (0, 0)))
    (fun _ X Y row hs hg hrow => ⟨hs.1, hs.2.grown hg (fun r e => (hrow r e).1)⟩)
    (fun cd _ X Y row hs hg hrow => by
      obtain ⟨hc, x, he, h1, h2, h3⟩ := hs
      refine ⟨hc, x, he, h1.grown hg (fun r e => (hrow r e).1), ?_, ?_⟩
      · exact (hg.block g (lt_of_block h2) (fun e => by have := (hrow _ e.symm).1; omega)).trans h2
      · exact (hg.block _ (lt_of_block h3) (fun e => by have := (hrow _ e.symm).1; omega)).trans h3)
    ⟨rfl, Ext.refl _ _⟩
    (fun x => { tmps := #[.pointer (some ⟨bx, 0, none⟩), .pointer (some ⟨bw, 0, none⟩), .pointer (some ⟨w.heap.size, 0, none⟩), .int .i64 (x.val.1 : Int), .string x.val.2, .pointer (some ⟨g, 0, none⟩), .slice A l0.length c, .func (.func 57) #[] #[.pointer (some ⟨w.heap.size + 2, 0, none⟩), .pointer (some ⟨w.heap.size + 1, 0, none⟩)], .int .i64 (x.val.1 : Int), .string x.val.2, undef, undef, undef, undef, undef, undef, undef, undef, undef, undef, undef, undef], defers := [] }) ?assign ?body ?done ?stop
  case assign =>
    intro l x W K hK
    gi_wp2
    exact hK
  case body =>
    rintro l pre x W ⟨rfl, hxW⟩ hlt
    have hrW := hr0.ext hxW (fun x => x)
    obtain ⟨r0, r1, r2⟩ := hrW.cells
    have x0 : W.cell? ⟨bx, 0, none⟩ = some (.pointer (some ⟨g, 0, none⟩)) := blk_cell (ext_heap hxW hbx0 (fun x => x)) 0
    have fRW := ext_heap hxW fR (fun x => x)
    have c0 := blk_cell fRW 0
    have z0 := blk_free fRW
    have z1 := blk_free hrW
    have hxb := x.property
    have i1 : (x.val.2.size : Int) ≤ 140737488351232 := by omega
    have s1 := IntWalk.i64_in ((p : Int) + (x.val.2.size : Int)) (by omega)
    have hlW := hrW.lt
    have hlR := lt_of_block fRW
    gi_wp2
    refine ⟨((KeepsOthers.setCell _ _ _).trans (KeepsOthers.setCell _ _ _)).from _, rfl, x, rfl, ((hxW.up (G2 g w.heap.size)).setCell (p := ⟨g, 1, none⟩) (.inl (.inl rfl)) _).setCell (p := ⟨w.heap.size, 0, none⟩) (.inl (.inr rfl)) _, ?_, ?_⟩
    · exact (hrW.move (p + x.val.2.size)).store (by simp; omega) _
    · rw [blk_set ((Below.heap_setCell _ _ _ _ (by simp; omega)).trans fRW)]
      rfl
  case done =>
    rintro D ys W hD rfl ⟨hnil, hxW⟩ hK
    have fRW := ext_heap hxW fR (fun x => x)
    have c0 := blk_cell fRW 0
    have z0 := blk_free fRW
    have hlR := lt_of_block fRW
    have hK2 : (W.setCell ⟨w.heap.size, 0, none⟩ (.int .i64 0)).heap[D]? = some (.deferred (some [])) := (Below.heap_setCell _ _ _ _ (by simp; omega)).trans hK
    gi_wp2
    refine ⟨by simp, .inl ⟨_, _, rfl, run_takeDeferred hK2, ?_⟩⟩
    have hrW := hr0.ext hxW (fun x => x)
    have fin := ((hx0.trans hxW).set (p := ⟨w.heap.size, 0, none⟩) (Nat.le_refl _) (.int .i64 0)).grown (grownBy_putObj' _ D (.deferred none)) (fun r e => by cases e; omega)
    have hc : ((W.setCell ⟨w.heap.size, 0, none⟩ (.int .i64 0)).putObj D (.deferred none)).heap[w.heap.size]? = some (.cells #[.int .i64 0] 3 (0, 0)) := by
      rw [World.putObj_heap_other (by omega), blk_set fRW]; rfl
    refine ⟨.int .i64 0, ?_, fin.up _, ?_⟩
    · simp [results, Try.results33, go_sem, blk_cell hc]
    · rw [hms, hnil]
      refine ⟨rfl, ?_⟩
      exact hr.ext fin (fun x => x)
  case stop =>
    rintro D cd pre W hD hpre ⟨rfl, x, rfl, h1, h2, h3⟩ hK
    gi_wp2
    refine ⟨by simp, .inl ⟨_, _, rfl, run_takeDeferred hK, ?_⟩⟩
    have fin := (((hx0.up (G1 g)).own2 h1 (Nat.le_refl _))).grown (grownBy_putObj' _ D (.deferred none)) (fun r e => by cases e; omega)
    have hc : (W.putObj D (.deferred none)).heap[w.heap.size]? = some (.cells #[.int .i64 (x.val.1 : Int)] 3 (0, 0)) := by
      rw [World.putObj_heap_other (by omega)]; exact h3
    have hg : RdAt (W.putObj D (.deferred none)) g s (p + x.val.2.size) 0 := by
      unfold RdAt; rw [World.putObj_heap_other (by omega)]; exact h2
    refine ⟨.int .i64 (x.val.1 : Int), ?_, fin, ?_⟩
    · simp [results, Try.results33, go_sem, blk_cell hc]
    · obtain ⟨t, ht⟩ := hpre
      rw [hms, ← ht]
      exact ⟨rfl, hg⟩

end Go.Proofs.Ytejialnbelleeaa
