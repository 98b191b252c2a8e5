/-
  Package set: Fold.
-/
import Derived.Test.YtejialnbelleeaaDoorSetF
namespace Go.Proofs.YtejialnbelleeaaDoor
open Go Go.RowKit Go.Shelf
attribute [local go_sem] Oper.semAt_some

def letters : Bs := [spanS 97 122].foldl (fun a b => a ||| b) (spanS 65 90)
def foldU (acc : Bs) (l : List (Fin 256)) : Bs := l.foldl (fun acc b => acc ||| one (b.val ^^^ 32)) acc
theorem foldU_snoc (s : Bs) (pre : List (Fin 256)) (x : Fin 256) : foldU s (pre ++ [x]) = foldU s pre ||| one (x.val ^^^ 32) := by simp [foldU]
def foldS (s : Bs) : Bs := foldU s (bytesS ([letters].foldl (fun a b => a &&& b) s))

theorem xor32 : ∀ x : Fin 256, bits .xor .u8 ((x.val : Nat) : Int) 32 = ((x.val ^^^ 32 : Nat) : Int) ∧ x.val ^^^ 32 < 256 := by decide +kernel

theorem ext_own_G {n₀ B g : Nat} {W W' : World} (h : Ext (G1 g) W W') (h1 : n₀ ≤ g) (h2 : g ≠ B) : Ext (GE n₀ B) W W' :=
  ⟨h.os, h.tape, h.output, h.size, fun k hk hg => h.block k hk fun e => hg (by unfold G1 at e; subst e; exact ⟨h1, h2⟩)⟩

set_option maxRecDepth 100000 in
set_option maxHeartbeats 2000000 in
theorem fold_any (s : Bs) (w : World) (htab : TabOk w) :
    Calls Tryd.prog 16 #[setV s] w fun e w' => e = .returned (setV (foldS s)) ∧ Below w.heap.size w w' := by
  unfold foldS
  refine (callsIn_wide (n := 7)).1 ?_
  refine callsIn_of_wp_marks Tryd.func16 rfl trivial ?_ rfl
  simp only [Tryd.ntmps16, List.size_toArray, List.length_cons, List.length_nil, Nat.reduceAdd, Nat.reduceSub, Array.replicate_succ, Array.replicate_zero, List.push_toArray, List.append_toArray, List.nil_append, List.cons_append]
  have hs1 : ∀ w, Calls Tryd.prog 40 #[.int .u8 65, .int .u8 90] w fun e w' => e = .returned (setV (spanS 65 90)) ∧ Below w.heap.size w w' := fun w => span_any 65 90 w (by decide) (by decide)
  have hs2 : ∀ w, Calls Tryd.prog 40 #[.int .u8 97, .int .u8 122] w fun e w' => e = .returned (setV (spanS 97 122)) ∧ Below w.heap.size w w' := fun w => span_any 97 122 w (by decide) (by decide)
  have HS := Lib.hid (p := ∃ A B, letters = [B].foldl (fun a b => a ||| b) A ∧ (∀ w, Calls Tryd.prog 40 #[.int .u8 65, .int .u8 90] w fun e w' => e = .returned (setV A) ∧ Below w.heap.size w w') ∧ ∀ w, Calls Tryd.prog 40 #[.int .u8 97, .int .u8 122] w fun e w' => e = .returned (setV B) ∧ Below w.heap.size w w') ⟨_, _, rfl, hs1, hs2⟩
  clear hs1 hs2
  gi_wp2
  generalize hwz : World.alloc (World.alloc (World.alloc (World.alloc w _) _) _) _ = wz
  have hfacts : wz.heap.size = w.heap.size + 4 ∧ wz.heap[w.heap.size]? = some (.cells (setC s) 24 (0, 0)) ∧ wz.heap[w.heap.size + 1]? = some (.cells (setC 0#256) 24 (0, 0)) ∧
      wz.heap[w.heap.size + 2]? = some (.cells (setC s) 76 (0, 0)) ∧ wz.heap[w.heap.size + 3]? = some (.cells #[.pointer (some ⟨w.heap.size + 2, 0, none⟩)] 74 (0, 0)) ∧ Below w.heap.size w wz := by
    rw [← hwz]
    refine ⟨by simp, ?_, ?_, ?_, ?_, ?_⟩
    · exact heap_past (heap_past (heap_past (heap_new _ _) _) _) _
    · exact heap_past (heap_past (heap_two _ _ _) _) _
    · exact heap_past (heap_at _ _ _ (by simp)) _
    · exact heap_at _ _ _ (by simp)
    · exact ((((Below.refl _ w).alloc (Nat.le_refl _) _).alloc (by simp) _).alloc (by simp; omega) _).alloc (by simp; omega) _
  obtain ⟨hsz, hA, hR, hG, hP, hB⟩ := hfacts
  clear hwz
  refine (wpIn_wide (n := 7)).2 ?_
  obtain ⟨A, A2, hAA, hs1, hs2⟩ := HS.out
  have hor : ∀ (v : Value) (w : World), SetsAt w v [A2] → Calls Tryd.prog 21 #[setV A, v] w fun e w' => e = .returned (setV letters) ∧ Below w.heap.size w w' := fun v w hv => by
    rw [hAA]
    exact mor_any A _ _ _ hv
  obtain ⟨LL, hLL⟩ : ∃ LL, LL = letters := ⟨_, rfl⟩
  rw [← hLL] at hor
  have hand : ∀ (v : Value) (w : World), SetsAt w v [LL] → Calls Tryd.prog 17 #[setV s, v] w fun e w' => e = .returned (setV ([LL].foldl (fun a b => a &&& b) s)) ∧ Below w.heap.size w w' := fun v w hv => mand_any s _ _ _ hv
  have HO := Lib.hid hor
  obtain ⟨X, hXe⟩ : ∃ X, X = [LL].foldl (fun a b => a &&& b) s := ⟨_, rfl⟩
  rw [← hXe] at hand
  rw [hLL] at hXe
  have HX := Lib.hid hXe
  clear hLL hXe hAA
  have HN := Lib.hid hand
  clear hor hand
  have H1 := Lib.hid hs1
  have H2 := Lib.hid hs2
  clear hs1 hs2 HS
  apply region_phi (leaves := (Leaf.val _) :: (Leaf.val _) :: (Leaf.val _) :: (Leaf.ref false false (fun v w => SetsAt w v [A2])) :: (Leaf.val _) :: (Leaf.ref false false (fun v w => SetsAt w v [LL])) :: (Leaf.val _) :: (Leaf.ref false false (fun v w => ∃ B, wz.heap.size ≤ B ∧ w.heap[B]? = some (.cells (setC X) 24 (0, 0)) ∧ v = .func (.func 62) #[] #[.pointer (some ⟨B, 0, none⟩)])) :: ([] : List Leaf)) (k := 8) (b := #[0, 0, 2, 6, 14, 30, 63, 127]) (ms := []) (E := Ext G0) mixed (by kernel_rfl) rfl (by kernel_rfl) rfl
  apply owed_walk rfl
  · intro w1 hw hf
    obtain ⟨a0, a1, a2, a3⟩ := cells4 (ext_heapD hw hA (fun x => x))
    go_wp2
    exact ⟨rfl, rfl, Ext.refl _ _⟩
  · simp
  · go_simp
    try rfl
  apply owed_walk rfl
  · intro w1 hw hf
    go_wp2_with (go_at_call 40; refine (H1.out _).mono ?_; rintro e w2 ⟨rfl, hx2⟩)
    exact ⟨rfl, rfl, Ext.of_below hx2 _⟩
  · simp
  · go_simp
    try rfl
  apply owed_walk rfl
  · intro w1 hw hf
    go_wp2_with (go_at_call 40; refine (H2.out _).mono ?_; rintro e w2 ⟨rfl, hx2⟩)
    exact ⟨rfl, rfl, Ext.of_below hx2 _⟩
  · simp
  · go_simp
    try rfl
  apply owed_walk_ref rfl
  · exact fun v w w' h hx => SlAt.ext h hx
  · intro w1 hw hf
    go_wp2
    exact ⟨rfl, sets_new _ [A2] _ _ rfl (by simp), (Ext.refl _ _).alloc _⟩
  · simp
  · intro v
    go_simp
    try rfl
  intro v3
  apply owed_walk rfl
  · intro w1 hw hf
    simp only [List.mem_singleton, forall_eq] at hf
    have hv := hf (by decide)
    go_wp2_with (go_at_call 21; refine (HO.out _ _ hv).mono ?_; rintro e w2 ⟨rfl, hx2⟩)
    exact ⟨rfl, rfl, Ext.of_below hx2 _⟩
  · simp
  · go_simp
    try rfl
  apply owed_walk_ref rfl
  · exact fun v w w' h hx => SlAt.ext h hx
  · intro w1 hw hf
    go_wp2
    exact ⟨rfl, sets_new _ [LL] _ _ rfl (by simp), (Ext.refl _ _).alloc _⟩
  · simp
  · intro v
    go_simp
    try rfl
  intro v5
  apply owed_walk rfl
  · intro w1 hw hf
    simp only [List.mem_cons, List.not_mem_nil, or_false, forall_eq_or_imp, forall_eq] at hf
    have hv := hf.1 (by decide)
    go_wp2_with (go_at_call 17; refine (HN.out _ _ hv).mono ?_; rintro e w2 ⟨rfl, hx2⟩)
    exact ⟨rfl, rfl, Ext.of_below hx2 _⟩
  · simp
  · go_simp
    try rfl
  apply owed_walk_ref rfl
  · rintro v w w' ⟨B, h1, h2, h3⟩ hx; exact ⟨B, h1, ext_heap hx h2 (fun x => x), h3⟩
  · intro w1 hw hf
    have hws := hw.size
    go_wp2_with (go_at_call 48; refine (each_any X _).mono ?_; rintro e w2 ⟨rfl, rfl⟩)
    exact ⟨rfl, ⟨_, hws, heap_new _ _, rfl⟩, (Ext.refl _ _).alloc _⟩
  · simp
  · intro v
    go_simp
    try rfl
  intro v7
  apply owed_end
  intro w1 hw hf
  simp only [List.mem_cons, List.not_mem_nil, or_false, forall_eq_or_imp, forall_eq] at hf
  obtain ⟨B, hBz, hX, rfl⟩ := hf.1 (by decide)
  refine Tail.nil rfl ?_
  have hx := hw.ofDrew
  have hB1 : Below w.heap.size w w1 := hB.trans (hx.below.mono (by omega))
  have hsz1 := hx.size
  replace hR := ext_heap hx hR (fun x => x)
  replace hG := ext_heap hx hG (fun x => x)
  replace hP := ext_heap hx hP (fun x => x)
  have hBl := lt_of_block hX
  have htz : TabOk w1 := htab.below hB1
  have hnt := lt_of_block (htab.choose_spec)
  clear hA hf hw hB HO HN H1 H2 hx
  gi_wp2
  refine wpIn_rangeFunc_ownG rfl (by decide) (gf := 62) (lb := #[.pointer (some ⟨B, 0, none⟩)]) rfl trivial (enters_of Tryd.func62 (by kernel_rfl) rfl)
    (each1_stops X w.heap.size B 6 (by decide) w1 hX htz hnt) (fun h k => h.trans k) (fun W l o o' hl _ _ _ => ext_putObj o' (by omega) (by omega)) (Below.refl _ _) (fun _ => rfl)
    (fun pre W => W.heap[w.heap.size + 2]? = some (.cells (setC (foldU s pre)) 76 (0, 0)) ∧ W.heap[w.heap.size + 3]? = some (.cells #[.pointer (some ⟨w.heap.size + 2, 0, none⟩)] 74 (0, 0)) ∧
      W.heap[w.heap.size + 1]? = some (.cells (setC 0#256) 24 (0, 0)) ∧ Below w.heap.size w W)
    (fun _ _ _ => False)
    (OwnFrom.and (Own.from (cells_own _ (fun pre => setC (foldU s pre)) _) _) (OwnFrom.and (Own.from (cells_own _ (fun _ => _) _) _) (OwnFrom.and (Own.from (cells_own _ (fun _ => _) _) _) (ownFrom_below (Nat.le_refl _) (by omega)))))
    (fun _ _ _ _ _ hs _ _ => hs)
    ⟨hG, hP, hR, hB1⟩
    (fun x => { tmps := #[setV s, .pointer (some ⟨w.heap.size, 0, none⟩), .pointer (some ⟨w.heap.size + 1, 0, none⟩), .pointer (some ⟨w.heap.size + 3, 0, none⟩), .int .u8 ((x.val : Nat) : Int), setV s, setV s, .pointer (some ⟨w.heap.size + 2, 0, none⟩), setV s, setV A, setV A2, v3, setV LL, v5, setV X,
      .func (.func 62) #[] #[.pointer (some ⟨B, 0, none⟩)], .int .u8 ((x.val : Nat) : Int), undef, undef, undef, undef, undef, undef, undef, undef], defers := [] }) ?assign ?body ?done ?stop
  case assign =>
    intro l x W K hK
    gi_wp2
    exact hK
  case body =>
    rintro l pre x W ⟨hG, hP, hR, hB⟩ hlt
    have hsW := hB.size
    have p0 := blk_cell hP 0
    have hput := (callsIn_wide (n := 4)).2 (put_any (w.heap.size + 2) (foldU s pre) (x.val ^^^ 32) W (xor32 x).2 hG)
    rw [← (xor32 x).1] at hput
    gi_wp2_with (refine ⟨trivial, ?_⟩; gi_at_call 49; refine (CallsIn.inRound l hput).mono ?_; rintro e W2 ⟨rfl, hG2, hx2⟩)
    exact ⟨KeepsFrom.of_grownBy (row := some (w.heap.size + 2)) ⟨hx2.os, hx2.tape, hx2.output, hx2.size, fun k hk hne => hx2.block k hk fun e => hne (by unfold G1 at e; rw [e])⟩ (fun j e => by cases e; omega),
      ext_own_G hx2 (by omega) (by omega), by rw [foldU_snoc]; exact hG2, ext_heap hx2 hP (fun e => by unfold G1 at e; omega), ext_heap hx2 hR (fun e => by unfold G1 at e; omega),
      hB.trans ⟨hx2.os, hx2.tape, hx2.output, hx2.size, fun k hk => hx2.block k (by omega) (fun e => by unfold G1 at e; omega)⟩⟩
  case done =>
    rintro D ys W hD rfl ⟨hG, hP, hR, hB⟩ hK
    have p0 := blk_cell hP 0
    obtain ⟨g0, g1, g2, g3⟩ := cells4 hG
    obtain ⟨r0, r1, r2, r3⟩ := cells4 hR
    have z := blk_free hR
    gi_wp2
    rw [← HX.out]
    generalize foldU s (bytesS X) = Y at *
    have h4 := blk_set4 (u := Y) hR
    generalize hW4 : World.setCell (World.setCell (World.setCell (World.setCell W _ _) _ _) _ _) _ _ = W4 at h4 ⊢
    have hK4 : W4.heap[D]? = some (.deferred (some [])) := by
      rw [← hW4]
      refine (Below.heap_setCell _ _ _ _ (by simp; omega)).trans ((Below.heap_setCell _ _ _ _ (by simp; omega)).trans ((Below.heap_setCell _ _ _ _ (by simp; omega)).trans ((Below.heap_setCell _ _ _ _ (by simp; omega)).trans hK)))
    have hB4 : Below w.heap.size w W4 := by
      rw [← hW4]
      exact (((hB.setCell (by simp) _).setCell (by simp) _).setCell (by simp) _).setCell (by simp) _
    clear hW4
    refine ⟨by simp, .inl ⟨_, _, rfl, run_takeDeferred hK4, ?_⟩⟩
    have h5 : (W4.putObj D (.deferred none)).heap[w.heap.size + 1]? = some (.cells (setC Y) 24 (0, 0)) := (World.putObj_heap_other (by omega)).trans h4
    obtain ⟨r0, r1, r2, r3⟩ := cells4 h5
    refine ⟨setV Y, ?_, rfl, hB4.trans (belowK_b (w := w1) (by omega) W4 D _ _ hD hK4 rfl rfl)⟩
    simp [results, Tryd.results16, go_sem, r0, r1, r2, r3]
  case stop =>
    rintro D c pre W _ _ h _
    exact h.elim

end Go.Proofs.YtejialnbelleeaaDoor
