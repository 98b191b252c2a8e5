/-
  Package set: Bytes.
-/
import Derived.Test.YtejialnbelleeaaDoorSetD
import Derived.Test.YtejialnbelleeaaDoorSetE
import Derived.Maps.AppendAt
namespace Go.Proofs.YtejialnbelleeaaDoor
open Go Go.RowKit Go.Shelf
attribute [local go_sem] Oper.semAt_some

theorem cells_own {β : Type} (B : Nat) (cs : β → Array Value) (t : TypeId) : Own (fun (s : β) W => W.heap[B]? = some (.cells (cs s) t (0, 0))) := fun s X Y row hs hg hrow => by
  refine (hg.block B (lt_of_block hs) fun e' => ?_).trans hs
  obtain ⟨o, ho, hc⟩ := hrow B e'.symm
  rw [hs] at ho; cases ho; cases hc
theorem cells_not_row {W : World} {B : Nat} {t e : TypeId} {cs : Array Value} (h : W.heap[B]? = some (.cells cs t (0, 0))) (hte : t ≠ e) {base size k : Nat} {v : Value} {xs : List Value} (hr : W.ownsRow base e size v k xs) : some B ≠ v.ownBlock := by
  rcases hr.2 with ⟨rfl, _⟩ | ⟨g, cap, cur, rfl, _, hgb, _⟩
  · simp [Value.ownBlock]
  · intro e'
    obtain rfl : B = g := by simpa [Value.ownBlock] using e'
    have := h.symm.trans hgb
    simp at this
    exact hte this.2
theorem ext_of_below_cells {n₀ B : Nat} {W W' : World} {cs : Array Value} {t : TypeId} (h : Below n₀ W W') (h1 : W.heap[B]? = some (.cells cs t (0, 0))) (h2 : W'.heap[B]? = some (.cells cs t (0, 0))) : Ext (GE n₀ B) W W' :=
  ⟨h.os, h.tape, h.output, h.size, fun k _ hg => by
    by_cases hkB : k = B
    · rw [hkB, h1, h2]
    · exact h.block k (by unfold GE at hg; omega)⟩
theorem ext_putObj {n₀ B l : Nat} {W : World} (o : Obj) (h0 : n₀ ≤ l) (hB : B < l) : Ext (GE n₀ B) W (W.putObj l o) :=
  have h := grownBy_putObj' W l o
  ⟨h.os, h.tape, h.output, h.size, fun k hk hg => h.block k hk fun e => by cases e; exact hg ⟨h0, by omega⟩⟩
theorem info_u8 : (Tryd.prog.info? 5).map (fun i => (i.zero, i.size, i.bytes)) = some (some (.int .u8 0), 1, 1) := by kernel_rfl

set_option maxRecDepth 100000 in
set_option maxHeartbeats 2000000 in
theorem bytes_any (s : Bs) (w : World) (htab : TabOk w) :
    Calls Tryd.prog 14 #[setV s] w fun e w' => ∃ v, e = .returned v ∧ w'.ownsRow w.heap.size 5 1 v (bytesS s).length ((bytesS s).map byteV) ∧ Below w.heap.size w w' := by
  obtain ⟨i0, hi, hz0, hz1, hz2⟩ := info_parts info_u8
  refine (callsIn_wide (n := 7)).1 ?_
  refine callsIn_of_wp_marks Tryd.func14 rfl trivial ?_ rfl
  simp only [Tryd.ntmps14, List.size_toArray, List.length_cons, List.length_nil, Nat.reduceAdd, Nat.reduceSub, Array.replicate_succ, Array.replicate_zero, List.push_toArray, List.append_toArray, List.nil_append, List.cons_append]
  gi_wp2_with (refine ⟨trivial, ?_⟩; gi_at_call 48; refine (callsIn_wide.2 (each_any s _)).mono ?_; rintro e w' ⟨rfl, rfl⟩)
  generalize hw2 : World.alloc (World.alloc w _) _ = w2
  have hsz2 : w2.heap.size = w.heap.size + 2 := by rw [← hw2]; simp
  have hb2 : Below w.heap.size w w2 := by rw [← hw2]; exact ((Below.refl _ w).alloc (Nat.le_refl _) _).alloc (by simp) _
  have bO2 : Boxed w2 (w.heap.size + 1) 34 (.slice none 0 0) := by rw [← hw2]; exact heap_two w _ _
  generalize hw3 : World.alloc w2 _ = w3
  have hsz3 : w3.heap.size = w.heap.size + 3 := by rw [← hw3]; simp [hsz2]
  have hb3 : Below w.heap.size w w3 := by rw [← hw3]; exact hb2.alloc (by omega) _
  have bO3 : Boxed w3 (w.heap.size + 1) 34 (.slice none 0 0) := by rw [← hw3]; exact bO2.alloc _
  have bS3 : w3.heap[w2.heap.size]? = some (.cells (setC s) 24 (0, 0)) := by rw [← hw3]; exact heap_new _ _
  rw [hsz2] at bS3
  clear hw2 hw3 bO2 hb2 hsz2
  refine wpIn_rangeFunc_ownG rfl (by decide) (gf := 62) (lb := #[.pointer (some ⟨w.heap.size + 2, 0, none⟩)]) rfl trivial (enters_of Tryd.func62 (by kernel_rfl) rfl)
    (each1_stops s w.heap.size (w.heap.size + 2) 6 (by decide) w3 bS3 (htab.below hb3) (lt_of_block (htab.choose_spec))) (fun h k => h.trans k) (fun W l o o' hl _ _ _ => ext_putObj o' (by omega) (by omega)) (Below.refl _ _) (fun _ => rfl)
    (fun pre W => (∃ v, Boxed W (w.heap.size + 1) 34 v ∧ W.ownsRow w.heap.size 5 1 v pre.length (pre.map byteV) ∧ True) ∧ (W.heap[w.heap.size + 2]? = some (.cells (setC s) 24 (0, 0)) ∧ Below w.heap.size w W))
    (fun _ _ _ => False)
    (OwnFrom.and (Own.from (holdsRow_own w.heap.size (w.heap.size + 1) 34 5 1 (fun pre : List (Fin 256) => pre.length) (fun pre => pre.map byteV) (fun _ _ => True)) _) (OwnFrom.and (Own.from (cells_own _ (fun _ => setC s) _) _) (ownFrom_below (Nat.le_refl _) (by omega))))
    (fun _ _ _ _ _ hs _ _ => hs)
    ⟨⟨_, bO3, World.ownsRow_nil _ _ _ _, trivial⟩, bS3, hb3⟩
    (fun x => { tmps := #[setV s, .pointer (some ⟨w.heap.size, 0, none⟩), .slice none 0 0, .pointer (some ⟨w.heap.size + 1, 0, none⟩), .int .u8 ((x.val : Nat) : Int), setV s, .func (.func 62) #[] #[.pointer (some ⟨w.heap.size + 2, 0, none⟩)], byteV x, undef, undef, undef, undef, undef], defers := [] }) ?assign ?body ?done ?stop
  case assign =>
    intro l x W K hK
    gi_wp2
    exact hK
  case body =>
    rintro l pre x W ⟨⟨v, hv, hrow, -⟩, hS, hB⟩ hlt
    have hc := hv.cell
    have hsz := hB.size
    have hlt' := hS
    replace hlt' := lt_of_block hlt'
    gi_wp2_with (gi_at_builtin; refine wpListIn_append_own _ rfl _ _ 34 rfl w.heap.size 5 i0 (.int .u8 0) 1 1 Tryd.underlying34 hi hz0 hz1 hz2 rfl (by decide) _ _ _ rfl (hrow.alloc _) ⟨W.heap.size, 0, none⟩ 1 1 [.int .u8 ((x.val : Nat) : Int)] rfl rfl (cell_one_new _ _ _) (by simp [Value.oneCell']) (by simp only [maxLen]; omega) (by omega) (by simp; omega) ?_; intro v' w1 hown' hgrow _; obtain ⟨g', cap', rfl⟩ := ownsRow_succ hown'; obtain ⟨hv1, hv2, hr2, hk2, hb2⟩ := hv.appended (by decide) hrow hB.size (by omega) hown' hgrow; have hc1 := hv1.cell; have hf1 := hv1.frozen)
    have hS1 : w1.heap[w.heap.size + 2]? = some (.cells (setC s) 24 (0, 0)) := (hgrow.block _ (by simp; omega) (cells_not_row hS (by decide) hrow)).trans (heap_past hS _)
    have hS2 : (w1.setCell ⟨w.heap.size + 1, 0, none⟩ (.slice (some ⟨g', 0, none⟩) (pre.length + 1) cap')).heap[w.heap.size + 2]? = some (.cells (setC s) 24 (0, 0)) := (Below.heap_setCell _ _ _ _ (by simp)).trans hS1
    exact ⟨hk2.from _, ext_of_below_cells hb2 hS hS2, ⟨_, hv2, by simpa [byteV] using hr2, trivial⟩, hS2, hB.trans hb2⟩
  case done =>
    rintro D ys W hD rfl ⟨⟨v, hv, hrow, -⟩, hS, hB⟩ hK
    have hc := hv.cell
    gi_wp2
    refine ⟨by simp, .inl ⟨_, _, rfl, run_takeDeferred hK, ?_⟩⟩
    exact ⟨_, results_tmp rfl _ _ _, v, rfl, ownsRow_putObj hrow _ hK rfl, hB.trans (belowK_b (w := w3) (by omega) W D _ _ hD hK rfl rfl)⟩
  case stop =>
    rintro D c pre W _ _ h _
    exact h.elim

end Go.Proofs.YtejialnbelleeaaDoor
