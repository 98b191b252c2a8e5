/-
  SetParts: the walk.
-/
import Derived.Test.YtejialnbelleeaaDoorSetN
namespace Go.Proofs.YtejialnbelleeaaDoor
open Go Go.RowKit

/-- A set of our own, still empty. -/
def NewSet (n : Nat) (v : Value) (w : World) : Prop := ∃ g, v = .pointer (some ⟨g, 0, none⟩) ∧ w.heap[g]? = some (.cells (setC 0#256) 24 (0, 0)) ∧ n ≤ g
theorem NewSet.ext {n : Nat} {v : Value} {w w' : World} (h : NewSet n v w) (hx : Ext G0 w w') : NewSet n v w' := let ⟨g, e, h, hg⟩ := h; ⟨g, e, ext_heap hx h (fun x => x), hg⟩

set_option maxRecDepth 100000 in
set_option maxHeartbeats 8000000 in
theorem parts_walk (a b na nb o x an ls on wi wo : Bs) (n : Nat) (co cn ca cb ka c1 c2 : Int) (w : World) (htab : TabOk w)
    (e1 : co + cn = ca + cb) (e2 : ca + ka = 256) (e3 : c1 - c2 = 1) (r0 : 0 ≤ co ∧ co ≤ 256) (r1 : 0 ≤ cn ∧ cn ≤ 256)
    (h1 : ∀ w, Calls Tryd.prog 20 #[setV a] w fun e w' => e = .returned (setV na) ∧ Below w.heap.size w w')
    (h2 : ∀ w, Calls Tryd.prog 20 #[setV na] w fun e w' => e = .returned (setV a) ∧ Below w.heap.size w w')
    (h3 : ∀ v w, SetsAt w v [b] → Calls Tryd.prog 21 #[setV a, v] w fun e w' => e = .returned (setV o) ∧ Below w.heap.size w w')
    (h4 : ∀ w, Calls Tryd.prog 20 #[setV o] w fun e w' => e = .returned (setV x) ∧ Below w.heap.size w w')
    (h5 : ∀ w, Calls Tryd.prog 20 #[setV b] w fun e w' => e = .returned (setV nb) ∧ Below w.heap.size w w')
    (h6 : ∀ v w, SetsAt w v [nb] → Calls Tryd.prog 17 #[setV na, v] w fun e w' => e = .returned (setV x) ∧ Below w.heap.size w w')
    (h7 : ∀ w, Calls Tryd.prog 22 #[setV a, setV b] w fun e w' => e = .returned (setV ls) ∧ Below w.heap.size w w')
    (h8 : ∀ v w, SetsAt w v [b] → Calls Tryd.prog 17 #[setV a, v] w fun e w' => e = .returned (setV an) ∧ Below w.heap.size w w')
    (h9 : ∀ v w, SetsAt w v [an] → Calls Tryd.prog 21 #[setV ls, v] w fun e w' => e = .returned (setV a) ∧ Below w.heap.size w w')
    (k1 : ∀ w, Calls Tryd.prog 15 #[setV o] w fun e w' => e = .returned (.int .i64 co) ∧ Below w.heap.size w w')
    (k2 : ∀ w, Calls Tryd.prog 15 #[setV an] w fun e w' => e = .returned (.int .i64 cn) ∧ Below w.heap.size w w')
    (k3 : ∀ w, Calls Tryd.prog 15 #[setV a] w fun e w' => e = .returned (.int .i64 ca) ∧ Below w.heap.size w w')
    (k4 : ∀ w, Calls Tryd.prog 15 #[setV b] w fun e w' => e = .returned (.int .i64 cb) ∧ Below w.heap.size w w')
    (k5 : ∀ w, Calls Tryd.prog 15 #[setV na] w fun e w' => e = .returned (.int .i64 ka) ∧ Below w.heap.size w w')
    (k6 : ∀ w, Calls Tryd.prog 15 #[setV wi] w fun e w' => e = .returned (.int .i64 c1) ∧ Below w.heap.size w w')
    (k7 : ∀ w, Calls Tryd.prog 15 #[setV wo] w fun e w' => e = .returned (.int .i64 c2) ∧ Below w.heap.size w w')
    (t1 : ∀ v w, BytesAt w v [n] → Calls Tryd.prog 13 #[v] w fun e w' => e = .returned (setV on) ∧ Below w.heap.size w w')
    (t2 : ∀ v w, SetsAt w v [on] → Calls Tryd.prog 21 #[setV a, v] w fun e w' => e = .returned (setV wi) ∧ Below w.heap.size w w')
    (t3 : ∀ w, Calls Tryd.prog 22 #[setV a, setV on] w fun e w' => e = .returned (setV wo) ∧ Below w.heap.size w w')
    (t4 : ∀ w, Calls Tryd.prog 23 #[setV wi, .int .u8 (n : Int)] w fun e w' => e = .returned (.bool true) ∧ Below w.heap.size w w')
    (t5 : ∀ w, Calls Tryd.prog 23 #[setV wo, .int .u8 (n : Int)] w fun e w' => e = .returned (.bool false) ∧ Below w.heap.size w w') :
    Calls Tryd.prog 5 #[setV a, setV b, .int .u8 (n : Int)] w fun e w' => e = .returned (.bool true) ∧ Below w.heap.size w w' := by
  have ha := equalIn_set a a
  have hx := equalIn_set x x
  rw [decide_eq_true rfl] at ha hx
  replace h1 := Lib.hid h1
  replace h2 := Lib.hid h2
  replace h3 := Lib.hid h3
  replace h4 := Lib.hid h4
  replace h5 := Lib.hid h5
  replace h6 := Lib.hid h6
  replace h7 := Lib.hid h7
  replace h8 := Lib.hid h8
  replace h9 := Lib.hid h9
  replace k1 := Lib.hid k1
  replace k2 := Lib.hid k2
  replace k3 := Lib.hid k3
  replace k4 := Lib.hid k4
  replace k5 := Lib.hid k5
  replace k6 := Lib.hid k6
  replace k7 := Lib.hid k7
  replace t1 := Lib.hid t1
  replace t2 := Lib.hid t2
  replace t3 := Lib.hid t3
  replace t4 := Lib.hid t4
  replace t5 := Lib.hid t5
  have s1 := IntWalk.i64_in (co + cn) (by omega)
  have s2 := IntWalk.i64_in (ca + cb) (by omega)
  have s3 := IntWalk.i64_in (ca + ka) (by omega)
  have s4 := IntWalk.i64_in (c1 - c2) (by omega)
  have q1 : (co + cn != ca + cb) = false := by simp [e1]
  have q2 : (ca + ka != 256) = false := by simp [e2]
  have q3 : (c1 - c2 == 1) = true := by simp [e3]
  clear e1 e2 e3 r0 r1
  go_enter Tryd.func5, Tryd.ntmps5
  go_wp2_with fail
  generalize hwz : World.alloc (World.alloc w _) _ = wz
  have fA : wz.heap[w.heap.size]? = some (.cells (setC a) 24 (0, 0)) := by rw [← hwz]; exact heap_two' w _ _
  have fB : wz.heap[w.heap.size + 1]? = some (.cells (setC b) 24 (0, 0)) := by rw [← hwz]; exact heap_two w _ _
  have y0 : Ext G0 w wz := by rw [← hwz]; exact ((Ext.refl _ _).alloc _).alloc _
  clear hwz
  refine (wakes_any _ (htab.ext y0)).mono ?_
  rintro e w1 ⟨rfl, b1⟩
  have x1 := Ext.of_below b1 G0
  have y1 := y0.trans x1
  replace fA := ext_heap x1 fA (fun x => x)
  replace fB := ext_heap x1 fB (fun x => x)
  clear b1 x1 y0
  go_wp2_with fail
  apply region_phi (leaves := (Leaf.val _) :: (Leaf.val _) :: (Leaf.val _) :: (Leaf.val _) :: (Leaf.val _) :: (Leaf.val _) :: (Leaf.val _) :: (Leaf.val _) :: (Leaf.ref false false (fun v w => SetsAt w v [b])) :: (Leaf.val _) :: (Leaf.val _) :: (Leaf.val _) :: (Leaf.val _) :: (Leaf.val _) :: (Leaf.val _) :: (Leaf.ref false false (fun v w => SetsAt w v [nb])) :: (Leaf.val _) :: (Leaf.val _) :: (Leaf.val _) :: (Leaf.val _) :: (Leaf.val _) :: (Leaf.val _) :: (Leaf.val _) :: (Leaf.val _) :: (Leaf.val _) :: (Leaf.ref false false (fun v w => SetsAt w v [b])) :: (Leaf.val _) :: (Leaf.ref false false (fun v w => SetsAt w v [an])) :: (Leaf.val _) :: (Leaf.val _) :: (Leaf.val _) :: (Leaf.val _) :: ([] : List Leaf)) (k := 32) (b := #[0, 1, 3, 0, 15, 31, 63, 63, 191, 511, 1023, 63, 4095, 63, 16383, 32767, 65535, 131071, 262143, 524287, 1048575, 1048575, 4194303, 1048575, 1048575, 17825791, 67108863, 134217727, 268435455, 1048575, 1073741823, 2147483647]) (ms := []) (E := Ext G0) mixed (by kernel_rfl) rfl (by kernel_rfl) rfl
  apply owed_walk rfl
  · intro w1 hw hf
    obtain ⟨q0, q1, q2, q3⟩ := cells4 (ext_heapD hw fA (fun x => x))
    go_wp2
    exact ⟨rfl, rfl, Ext.refl _ _⟩
  · simp
  · go_simp
    try rfl
  apply owed_walk rfl
  · intro w1 hw hf
    go_wp2_with (go_at_call 20; refine (h1.out _).mono ?_; rintro e w2 ⟨rfl, hx2⟩)
    exact ⟨rfl, rfl, Ext.of_below hx2 _⟩
  · simp
  · go_simp
    try rfl
  apply owed_walk rfl
  · intro w1 hw hf
    go_wp2_with (go_at_call 20; refine (h2.out _).mono ?_; rintro e w2 ⟨rfl, hx2⟩)
    exact ⟨rfl, rfl, Ext.of_below hx2 _⟩
  · simp
  · go_simp
    try rfl
  apply owed_walk rfl
  · intro w1 hw hf
    obtain ⟨q0, q1, q2, q3⟩ := cells4 (ext_heapD hw fA (fun x => x))
    go_wp2
    exact ⟨rfl, rfl, Ext.refl _ _⟩
  · simp
  · go_simp
    try rfl
  apply owed_walk rfl
  · intro w1 hw hf
    go_wp2
    exact ⟨rfl, rfl, Ext.refl _ _⟩
  · simp
  · go_simp
    try rfl
  apply owed_walk rfl
  · intro w1 hw hf
    go_wp2
    exact ⟨rfl, rfl, Ext.refl _ _⟩
  · simp
  · go_simp
    try rfl
  apply owed_walk rfl
  · intro w1 hw hf
    obtain ⟨q0, q1, q2, q3⟩ := cells4 (ext_heapD hw fA (fun x => x))
    go_wp2
    exact ⟨rfl, rfl, Ext.refl _ _⟩
  · simp
  · go_simp
    try rfl
  apply owed_walk rfl
  · intro w1 hw hf
    obtain ⟨q0, q1, q2, q3⟩ := cells4 (ext_heapD hw fB (fun x => x))
    go_wp2
    exact ⟨rfl, rfl, Ext.refl _ _⟩
  · simp
  · go_simp
    try rfl
  apply owed_walk_ref rfl
  · exact fun v w w' h hx => SlAt.ext h hx
  · intro w1 hw hf
    go_wp2
    exact ⟨rfl, sets_new _ [b] _ _ rfl (by simp), (Ext.refl _ _).alloc _⟩
  · simp
  · intro v
    go_simp
    try rfl
  intro v8
  apply owed_walk rfl
  · intro w1 hw hf
    have hv8 := hf _ (List.Mem.head _) (by dsimp only; decide)
    go_wp2_with (go_at_call 21; refine (h3.out _ _ hv8).mono ?_; rintro e w2 ⟨rfl, hx2⟩)
    exact ⟨rfl, rfl, Ext.of_below hx2 _⟩
  · simp
  · go_simp
    try rfl
  apply owed_walk rfl
  · intro w1 hw hf
    go_wp2_with (go_at_call 20; refine (h4.out _).mono ?_; rintro e w2 ⟨rfl, hx2⟩)
    exact ⟨rfl, rfl, Ext.of_below hx2 _⟩
  · simp
  · go_simp
    try rfl
  apply owed_walk rfl
  · intro w1 hw hf
    obtain ⟨q0, q1, q2, q3⟩ := cells4 (ext_heapD hw fA (fun x => x))
    go_wp2
    exact ⟨rfl, rfl, Ext.refl _ _⟩
  · simp
  · go_simp
    try rfl
  apply owed_walk rfl
  · intro w1 hw hf
    go_wp2_with (go_at_call 20; refine (h1.out _).mono ?_; rintro e w2 ⟨rfl, hx2⟩)
    exact ⟨rfl, rfl, Ext.of_below hx2 _⟩
  · simp
  · go_simp
    try rfl
  apply owed_walk rfl
  · intro w1 hw hf
    obtain ⟨q0, q1, q2, q3⟩ := cells4 (ext_heapD hw fB (fun x => x))
    go_wp2
    exact ⟨rfl, rfl, Ext.refl _ _⟩
  · simp
  · go_simp
    try rfl
  apply owed_walk rfl
  · intro w1 hw hf
    go_wp2_with (go_at_call 20; refine (h5.out _).mono ?_; rintro e w2 ⟨rfl, hx2⟩)
    exact ⟨rfl, rfl, Ext.of_below hx2 _⟩
  · simp
  · go_simp
    try rfl
  apply owed_walk_ref rfl
  · exact fun v w w' h hx => SlAt.ext h hx
  · intro w1 hw hf
    go_wp2
    exact ⟨rfl, sets_new _ [nb] _ _ rfl (by simp), (Ext.refl _ _).alloc _⟩
  · simp
  · intro v
    go_simp
    try rfl
  intro v15
  apply owed_walk rfl
  · intro w1 hw hf
    have hv15 := hf _ (List.Mem.head _) (by dsimp only; decide)
    go_wp2_with (go_at_call 17; refine (h6.out _ _ hv15).mono ?_; rintro e w2 ⟨rfl, hx2⟩)
    exact ⟨rfl, rfl, Ext.of_below hx2 _⟩
  · simp
  · go_simp
    try rfl
  apply owed_walk rfl
  · intro w1 hw hf
    go_wp2
    exact ⟨rfl, rfl, Ext.refl _ _⟩
  · simp
  · go_simp
    try rfl
  apply owed_walk rfl
  · intro w1 hw hf
    go_wp2
    exact ⟨rfl, rfl, Ext.refl _ _⟩
  · simp
  · go_simp
    try rfl
  apply owed_walk rfl
  · intro w1 hw hf
    go_wp2
    exact ⟨rfl, rfl, Ext.refl _ _⟩
  · simp
  · go_simp
    try rfl
  apply owed_walk rfl
  · intro w1 hw hf
    obtain ⟨q0, q1, q2, q3⟩ := cells4 (ext_heapD hw fA (fun x => x))
    go_wp2
    exact ⟨rfl, rfl, Ext.refl _ _⟩
  · simp
  · go_simp
    try rfl
  apply owed_walk rfl
  · intro w1 hw hf
    obtain ⟨q0, q1, q2, q3⟩ := cells4 (ext_heapD hw fB (fun x => x))
    go_wp2
    exact ⟨rfl, rfl, Ext.refl _ _⟩
  · simp
  · go_simp
    try rfl
  apply owed_walk rfl
  · intro w1 hw hf
    go_wp2_with (go_at_call 22; refine (h7.out _).mono ?_; rintro e w2 ⟨rfl, hx2⟩)
    exact ⟨rfl, rfl, Ext.of_below hx2 _⟩
  · simp
  · go_simp
    try rfl
  apply owed_walk rfl
  · intro w1 hw hf
    obtain ⟨q0, q1, q2, q3⟩ := cells4 (ext_heapD hw fA (fun x => x))
    go_wp2
    exact ⟨rfl, rfl, Ext.refl _ _⟩
  · simp
  · go_simp
    try rfl
  apply owed_walk rfl
  · intro w1 hw hf
    obtain ⟨q0, q1, q2, q3⟩ := cells4 (ext_heapD hw fB (fun x => x))
    go_wp2
    exact ⟨rfl, rfl, Ext.refl _ _⟩
  · simp
  · go_simp
    try rfl
  apply owed_walk_ref rfl
  · exact fun v w w' h hx => SlAt.ext h hx
  · intro w1 hw hf
    go_wp2
    exact ⟨rfl, sets_new _ [b] _ _ rfl (by simp), (Ext.refl _ _).alloc _⟩
  · simp
  · intro v
    go_simp
    try rfl
  intro v25
  apply owed_walk rfl
  · intro w1 hw hf
    have hv25 := hf _ (List.Mem.head _) (by dsimp only; decide)
    go_wp2_with (go_at_call 17; refine (h8.out _ _ hv25).mono ?_; rintro e w2 ⟨rfl, hx2⟩)
    exact ⟨rfl, rfl, Ext.of_below hx2 _⟩
  · simp
  · go_simp
    try rfl
  apply owed_walk_ref rfl
  · exact fun v w w' h hx => SlAt.ext h hx
  · intro w1 hw hf
    go_wp2
    exact ⟨rfl, sets_new _ [an] _ _ rfl (by simp), (Ext.refl _ _).alloc _⟩
  · simp
  · intro v
    go_simp
    try rfl
  intro v27
  apply owed_walk rfl
  · intro w1 hw hf
    have hv27 := hf _ (List.Mem.head _) (by dsimp only; decide)
    go_wp2_with (go_at_call 21; refine (h9.out _ _ hv27).mono ?_; rintro e w2 ⟨rfl, hx2⟩)
    exact ⟨rfl, rfl, Ext.of_below hx2 _⟩
  · simp
  · go_simp
    try rfl
  apply owed_walk rfl
  · intro w1 hw hf
    obtain ⟨q0, q1, q2, q3⟩ := cells4 (ext_heapD hw fA (fun x => x))
    go_wp2
    exact ⟨rfl, rfl, Ext.refl _ _⟩
  · simp
  · go_simp
    try rfl
  apply owed_walk rfl
  · intro w1 hw hf
    go_wp2
    exact ⟨rfl, rfl, Ext.refl _ _⟩
  · simp
  · go_simp
    try rfl
  apply owed_walk rfl
  · intro w1 hw hf
    go_wp2
    exact ⟨rfl, rfl, Ext.refl _ _⟩
  · simp
  · go_simp
    try rfl
  apply owed_end
  intro w2 hw _
  refine Tail.nil rfl ?_
  replace fA := ext_heapD hw fA (fun x => x)
  replace fB := ext_heapD hw fB (fun x => x)
  have y2 := y1.trans hw.ofDrew
  clear hw y1
  go_wp2_with fail
  apply region_phi (leaves := (Leaf.val _) :: (Leaf.val _) :: (Leaf.ref false false (fun v w => SetsAt w v [b])) :: (Leaf.val _) :: (Leaf.val _) :: (Leaf.val _) :: (Leaf.val _) :: (Leaf.ref false false (fun v w => SetsAt w v [b])) :: (Leaf.val _) :: (Leaf.val _) :: (Leaf.val _) :: (Leaf.val _) :: (Leaf.val _) :: (Leaf.val _) :: (Leaf.val _) :: (Leaf.val _) :: (Leaf.val _) :: (Leaf.val _) :: (Leaf.val _) :: (Leaf.val _) :: (Leaf.val _) :: (Leaf.val _) :: (Leaf.val _) :: (Leaf.val _) :: (Leaf.val _) :: (Leaf.val _) :: ([] : List Leaf)) (k := 26) (b := #[0, 0, 2, 7, 15, 0, 0, 64, 255, 511, 1023, 0, 3071, 0, 15359, 31743, 65535, 131071, 262143, 524287, 262143, 2097151, 4194303, 8388607, 16777215, 33554431]) (ms := []) (E := Ext G0) mixed (by kernel_rfl) rfl (by kernel_rfl) rfl
  apply owed_walk rfl
  · intro w1 hw hf
    obtain ⟨q0, q1, q2, q3⟩ := cells4 (ext_heapD hw fA (fun x => x))
    go_wp2
    exact ⟨rfl, rfl, Ext.refl _ _⟩
  · simp
  · go_simp
    try rfl
  apply owed_walk rfl
  · intro w1 hw hf
    obtain ⟨q0, q1, q2, q3⟩ := cells4 (ext_heapD hw fB (fun x => x))
    go_wp2
    exact ⟨rfl, rfl, Ext.refl _ _⟩
  · simp
  · go_simp
    try rfl
  apply owed_walk_ref rfl
  · exact fun v w w' h hx => SlAt.ext h hx
  · intro w1 hw hf
    go_wp2
    exact ⟨rfl, sets_new _ [b] _ _ rfl (by simp), (Ext.refl _ _).alloc _⟩
  · simp
  · intro v
    go_simp
    try rfl
  intro v2
  apply owed_walk rfl
  · intro w1 hw hf
    have hv2 := hf _ (List.Mem.head _) (by dsimp only; decide)
    go_wp2_with (go_at_call 21; refine (h3.out _ _ hv2).mono ?_; rintro e w2 ⟨rfl, hx2⟩)
    exact ⟨rfl, rfl, Ext.of_below hx2 _⟩
  · simp
  · go_simp
    try rfl
  apply owed_walk rfl
  · intro w1 hw hf
    go_wp2_with (go_at_call 15; refine (k1.out _).mono ?_; rintro e w2 ⟨rfl, hx2⟩)
    exact ⟨rfl, rfl, Ext.of_below hx2 _⟩
  · simp
  · go_simp
    try rfl
  apply owed_walk rfl
  · intro w1 hw hf
    obtain ⟨q0, q1, q2, q3⟩ := cells4 (ext_heapD hw fA (fun x => x))
    go_wp2
    exact ⟨rfl, rfl, Ext.refl _ _⟩
  · simp
  · go_simp
    try rfl
  apply owed_walk rfl
  · intro w1 hw hf
    obtain ⟨q0, q1, q2, q3⟩ := cells4 (ext_heapD hw fB (fun x => x))
    go_wp2
    exact ⟨rfl, rfl, Ext.refl _ _⟩
  · simp
  · go_simp
    try rfl
  apply owed_walk_ref rfl
  · exact fun v w w' h hx => SlAt.ext h hx
  · intro w1 hw hf
    go_wp2
    exact ⟨rfl, sets_new _ [b] _ _ rfl (by simp), (Ext.refl _ _).alloc _⟩
  · simp
  · intro v
    go_simp
    try rfl
  intro v7
  apply owed_walk rfl
  · intro w1 hw hf
    have hv7 := hf _ (List.Mem.head _) (by dsimp only; decide)
    go_wp2_with (go_at_call 17; refine (h8.out _ _ hv7).mono ?_; rintro e w2 ⟨rfl, hx2⟩)
    exact ⟨rfl, rfl, Ext.of_below hx2 _⟩
  · simp
  · go_simp
    try rfl
  apply owed_walk rfl
  · intro w1 hw hf
    go_wp2_with (go_at_call 15; refine (k2.out _).mono ?_; rintro e w2 ⟨rfl, hx2⟩)
    exact ⟨rfl, rfl, Ext.of_below hx2 _⟩
  · simp
  · go_simp
    try rfl
  apply owed_walk rfl
  · intro w1 hw hf
    go_wp2
    exact ⟨rfl, rfl, Ext.refl _ _⟩
  · simp
  · go_simp
    try rfl
  apply owed_walk rfl
  · intro w1 hw hf
    obtain ⟨q0, q1, q2, q3⟩ := cells4 (ext_heapD hw fA (fun x => x))
    go_wp2
    exact ⟨rfl, rfl, Ext.refl _ _⟩
  · simp
  · go_simp
    try rfl
  apply owed_walk rfl
  · intro w1 hw hf
    go_wp2_with (go_at_call 15; refine (k3.out _).mono ?_; rintro e w2 ⟨rfl, hx2⟩)
    exact ⟨rfl, rfl, Ext.of_below hx2 _⟩
  · simp
  · go_simp
    try rfl
  apply owed_walk rfl
  · intro w1 hw hf
    obtain ⟨q0, q1, q2, q3⟩ := cells4 (ext_heapD hw fB (fun x => x))
    go_wp2
    exact ⟨rfl, rfl, Ext.refl _ _⟩
  · simp
  · go_simp
    try rfl
  apply owed_walk rfl
  · intro w1 hw hf
    go_wp2_with (go_at_call 15; refine (k4.out _).mono ?_; rintro e w2 ⟨rfl, hx2⟩)
    exact ⟨rfl, rfl, Ext.of_below hx2 _⟩
  · simp
  · go_simp
    try rfl
  apply owed_walk rfl
  · intro w1 hw hf
    go_wp2
    exact ⟨rfl, rfl, Ext.refl _ _⟩
  · simp
  · go_simp
    try rfl
  apply owed_walk rfl
  · intro w1 hw hf
    go_wp2
    exact ⟨rfl, rfl, Ext.refl _ _⟩
  · simp
  · go_simp
    try rfl
  apply owed_walk rfl
  · intro w1 hw hf
    go_wp2
    exact ⟨rfl, rfl, Ext.refl _ _⟩
  · simp
  · go_simp
    try rfl
  apply owed_walk rfl
  · intro w1 hw hf
    obtain ⟨q0, q1, q2, q3⟩ := cells4 (ext_heapD hw fA (fun x => x))
    go_wp2
    exact ⟨rfl, rfl, Ext.refl _ _⟩
  · simp
  · go_simp
    try rfl
  apply owed_walk rfl
  · intro w1 hw hf
    go_wp2_with (go_at_call 15; refine (k3.out _).mono ?_; rintro e w2 ⟨rfl, hx2⟩)
    exact ⟨rfl, rfl, Ext.of_below hx2 _⟩
  · simp
  · go_simp
    try rfl
  apply owed_walk rfl
  · intro w1 hw hf
    obtain ⟨q0, q1, q2, q3⟩ := cells4 (ext_heapD hw fA (fun x => x))
    go_wp2
    exact ⟨rfl, rfl, Ext.refl _ _⟩
  · simp
  · go_simp
    try rfl
  apply owed_walk rfl
  · intro w1 hw hf
    go_wp2_with (go_at_call 20; refine (h1.out _).mono ?_; rintro e w2 ⟨rfl, hx2⟩)
    exact ⟨rfl, rfl, Ext.of_below hx2 _⟩
  · simp
  · go_simp
    try rfl
  apply owed_walk rfl
  · intro w1 hw hf
    go_wp2_with (go_at_call 15; refine (k5.out _).mono ?_; rintro e w2 ⟨rfl, hx2⟩)
    exact ⟨rfl, rfl, Ext.of_below hx2 _⟩
  · simp
  · go_simp
    try rfl
  apply owed_walk rfl
  · intro w1 hw hf
    go_wp2
    exact ⟨rfl, rfl, Ext.refl _ _⟩
  · simp
  · go_simp
    try rfl
  apply owed_walk rfl
  · intro w1 hw hf
    go_wp2
    exact ⟨rfl, rfl, Ext.refl _ _⟩
  · simp
  · go_simp
    try rfl
  apply owed_walk rfl
  · intro w1 hw hf
    go_wp2
    exact ⟨rfl, rfl, Ext.refl _ _⟩
  · simp
  · go_simp
    try rfl
  apply owed_end
  intro w3 hw _
  refine Tail.nil rfl ?_
  replace fA := ext_heapD hw fA (fun x => x)
  replace fB := ext_heapD hw fB (fun x => x)
  have y3 := y2.trans hw.ofDrew
  clear hw y2
  go_wp2_with fail
  have hn3 := y3.size
  have hlA := lt_of_block fA
  apply region_phi (leaves := (Leaf.val _) :: (Leaf.val _) :: (Leaf.ref false false (fun v w => BytesAt w v [n])) :: (Leaf.val _) :: (Leaf.ref false false (fun v w => SetsAt w v [on])) :: (Leaf.val _) :: (Leaf.ref false false (NewSet w3.heap.size)) :: ([] : List Leaf)) (k := 7) (b := #[0, 0, 2, 6, 14, 31, 0, 127]) (ms := []) (E := Ext G0) mixed (by kernel_rfl) rfl (by kernel_rfl) rfl
  apply owed_walk rfl
  · intro w1 hw hf
    obtain ⟨q0, q1, q2, q3⟩ := cells4 (ext_heapD hw fA (fun x => x))
    go_wp2
    exact ⟨rfl, rfl, Ext.refl _ _⟩
  · simp
  · go_simp
    try rfl
  apply owed_walk rfl
  · intro w1 hw hf
    go_wp2
    exact ⟨rfl, rfl, Ext.refl _ _⟩
  · simp
  · go_simp
    try rfl
  apply owed_walk_ref rfl
  · exact fun v w w' h hx => SlAt.ext h hx
  · intro w1 hw hf
    go_wp2
    exact ⟨rfl, bytes_new _ [n] _ rfl (by simp), (Ext.refl _ _).alloc _⟩
  · simp
  · intro v
    go_simp
    try rfl
  intro v2
  apply owed_walk rfl
  · intro w1 hw hf
    have hv2 := hf _ (List.Mem.head _) (by dsimp only; decide)
    go_wp2_with (go_at_call 13; refine (t1.out _ _ hv2).mono ?_; rintro e w2 ⟨rfl, hx2⟩)
    exact ⟨rfl, rfl, Ext.of_below hx2 _⟩
  · simp
  · go_simp
    try rfl
  apply owed_walk_ref rfl
  · exact fun v w w' h hx => SlAt.ext h hx
  · intro w1 hw hf
    go_wp2
    exact ⟨rfl, sets_new _ [on] _ _ rfl (by simp), (Ext.refl _ _).alloc _⟩
  · simp
  · intro v
    go_simp
    try rfl
  intro v4
  apply owed_walk rfl
  · intro w1 hw hf
    have hv4 := hf _ (List.Mem.head _) (by dsimp only; decide)
    go_wp2_with (go_at_call 21; refine (t2.out _ _ hv4).mono ?_; rintro e w2 ⟨rfl, hx2⟩)
    exact ⟨rfl, rfl, Ext.of_below hx2 _⟩
  · simp
  · go_simp
    try rfl
  apply owed_walk_ref rfl
  · exact fun v w w' h hx => h.ext hx
  · intro w1 hw hf
    go_wp2
    exact ⟨rfl, ⟨_, rfl, heap_new _ _, hw.size⟩, (Ext.refl _ _).alloc _⟩
  · simp
  · intro v
    go_simp
    try rfl
  intro v6
  apply owed_end
  intro w4 hw hf
  obtain ⟨g7, rfl, hg7, hn7⟩ := hf _ (List.Mem.head _) (by dsimp only; decide)
  unfold Tail
  replace fA := ext_heapD hw fA (fun x => x)
  have y4 := y3.trans hw.ofDrew
  clear hw y3 hf
  obtain ⟨q0, q1, q2, q3⟩ := cells4 hg7
  have hz := blk_free hg7
  have hlt := lt_of_block hg7
  go_wp2_with fail
  clear q0 q1 q2 q3 hz hlt
  generalize hwz : World.setCell (World.setCell (World.setCell (World.setCell w4 _ _) _ _) _ _) _ _ = w5
  have fW : w5.heap[g7]? = some (.cells (setC wi) 24 (0, 0)) := by rw [← hwz]; exact blk_set4 hg7
  replace fA : w5.heap[w.heap.size]? = some (.cells (setC a) 24 (0, 0)) := by rw [← hwz]; exact (heap_set4 (by omega)).trans fA
  have y5 : Ext G0 w w5 := by rw [← hwz]; exact (((y4.set (Nat.le_trans hn3 hn7) _).set (Nat.le_trans hn3 hn7) _).set (Nat.le_trans hn3 hn7) _).set (Nat.le_trans hn3 hn7) _
  clear hwz y4 hg7
  apply region_phi (leaves := (Leaf.val _) :: (Leaf.val _) :: (Leaf.val _) :: (Leaf.val _) :: (Leaf.val _) :: (Leaf.val _) :: (Leaf.ref false false (fun v w => BytesAt w v [n])) :: (Leaf.val _) :: (Leaf.val _) :: (Leaf.val _) :: (Leaf.val _) :: (Leaf.val _) :: (Leaf.val _) :: (Leaf.val _) :: (Leaf.val _) :: (Leaf.val _) :: (Leaf.val _) :: (Leaf.val _) :: (Leaf.ref false false (fun v w => BytesAt w v [n])) :: (Leaf.val _) :: (Leaf.val _) :: (Leaf.val _) :: (Leaf.val _) :: (Leaf.val _) :: (Leaf.val _) :: ([] : List Leaf)) (k := 25) (b := #[0, 0, 3, 7, 15, 15, 47, 111, 255, 15, 1023, 2047, 4095, 8191, 16383, 32767, 16383, 16383, 147455, 458751, 1048575, 2097151, 4194303, 8388607, 16777215, 33554431]) (ms := []) (E := Ext G0) mixed (by kernel_rfl) rfl (by kernel_rfl) rfl
  apply owed_walk rfl
  · intro w1 hw hf
    obtain ⟨q0, q1, q2, q3⟩ := cells4 (ext_heapD hw fW (fun x => x))
    go_wp2
    exact ⟨rfl, rfl, Ext.refl _ _⟩
  · simp
  · go_simp
    try rfl
  apply owed_walk rfl
  · intro w1 hw hf
    go_wp2
    exact ⟨rfl, rfl, Ext.refl _ _⟩
  · simp
  · go_simp
    try rfl
  apply owed_walk rfl
  · intro w1 hw hf
    go_wp2_with (go_at_call 23; refine (t4.out _).mono ?_; rintro e w2 ⟨rfl, hx2⟩)
    exact ⟨rfl, rfl, Ext.of_below hx2 _⟩
  · simp
  · go_simp
    try rfl
  apply owed_walk rfl
  · intro w1 hw hf
    go_wp2
    exact ⟨rfl, rfl, Ext.refl _ _⟩
  · simp
  · go_simp
    try rfl
  apply owed_walk rfl
  · intro w1 hw hf
    obtain ⟨q0, q1, q2, q3⟩ := cells4 (ext_heapD hw fA (fun x => x))
    go_wp2
    exact ⟨rfl, rfl, Ext.refl _ _⟩
  · simp
  · go_simp
    try rfl
  apply owed_walk rfl
  · intro w1 hw hf
    go_wp2
    exact ⟨rfl, rfl, Ext.refl _ _⟩
  · simp
  · go_simp
    try rfl
  apply owed_walk_ref rfl
  · exact fun v w w' h hx => SlAt.ext h hx
  · intro w1 hw hf
    go_wp2
    exact ⟨rfl, bytes_new _ [n] _ rfl (by simp), (Ext.refl _ _).alloc _⟩
  · simp
  · intro v
    go_simp
    try rfl
  intro v6
  apply owed_walk rfl
  · intro w1 hw hf
    have hv6 := hf _ (List.Mem.head _) (by dsimp only; decide)
    go_wp2_with (go_at_call 13; refine (t1.out _ _ hv6).mono ?_; rintro e w2 ⟨rfl, hx2⟩)
    exact ⟨rfl, rfl, Ext.of_below hx2 _⟩
  · simp
  · go_simp
    try rfl
  apply owed_walk rfl
  · intro w1 hw hf
    go_wp2_with (go_at_call 22; refine (t3.out _).mono ?_; rintro e w2 ⟨rfl, hx2⟩)
    exact ⟨rfl, rfl, Ext.of_below hx2 _⟩
  · simp
  · go_simp
    try rfl
  apply owed_walk rfl
  · intro w1 hw hf
    go_wp2
    exact ⟨rfl, rfl, Ext.refl _ _⟩
  · simp
  · go_simp
    try rfl
  apply owed_walk rfl
  · intro w1 hw hf
    go_wp2_with (go_at_call 23; refine (t5.out _).mono ?_; rintro e w2 ⟨rfl, hx2⟩)
    exact ⟨rfl, rfl, Ext.of_below hx2 _⟩
  · simp
  · go_simp
    try rfl
  apply owed_walk rfl
  · intro w1 hw hf
    go_wp2
    exact ⟨rfl, rfl, Ext.refl _ _⟩
  · simp
  · go_simp
    try rfl
  apply owed_walk rfl
  · intro w1 hw hf
    go_wp2
    exact ⟨rfl, rfl, Ext.refl _ _⟩
  · simp
  · go_simp
    try rfl
  apply owed_walk rfl
  · intro w1 hw hf
    go_wp2
    exact ⟨rfl, rfl, Ext.refl _ _⟩
  · simp
  · go_simp
    try rfl
  apply owed_walk rfl
  · intro w1 hw hf
    obtain ⟨q0, q1, q2, q3⟩ := cells4 (ext_heapD hw fW (fun x => x))
    go_wp2
    exact ⟨rfl, rfl, Ext.refl _ _⟩
  · simp
  · go_simp
    try rfl
  apply owed_walk rfl
  · intro w1 hw hf
    go_wp2_with (go_at_call 15; refine (k6.out _).mono ?_; rintro e w2 ⟨rfl, hx2⟩)
    exact ⟨rfl, rfl, Ext.of_below hx2 _⟩
  · simp
  · go_simp
    try rfl
  apply owed_walk rfl
  · intro w1 hw hf
    obtain ⟨q0, q1, q2, q3⟩ := cells4 (ext_heapD hw fA (fun x => x))
    go_wp2
    exact ⟨rfl, rfl, Ext.refl _ _⟩
  · simp
  · go_simp
    try rfl
  apply owed_walk rfl
  · intro w1 hw hf
    go_wp2
    exact ⟨rfl, rfl, Ext.refl _ _⟩
  · simp
  · go_simp
    try rfl
  apply owed_walk_ref rfl
  · exact fun v w w' h hx => SlAt.ext h hx
  · intro w1 hw hf
    go_wp2
    exact ⟨rfl, bytes_new _ [n] _ rfl (by simp), (Ext.refl _ _).alloc _⟩
  · simp
  · intro v
    go_simp
    try rfl
  intro v18
  apply owed_walk rfl
  · intro w1 hw hf
    have hv18 := hf _ (List.Mem.head _) (by dsimp only; decide)
    go_wp2_with (go_at_call 13; refine (t1.out _ _ hv18).mono ?_; rintro e w2 ⟨rfl, hx2⟩)
    exact ⟨rfl, rfl, Ext.of_below hx2 _⟩
  · simp
  · go_simp
    try rfl
  apply owed_walk rfl
  · intro w1 hw hf
    go_wp2_with (go_at_call 22; refine (t3.out _).mono ?_; rintro e w2 ⟨rfl, hx2⟩)
    exact ⟨rfl, rfl, Ext.of_below hx2 _⟩
  · simp
  · go_simp
    try rfl
  apply owed_walk rfl
  · intro w1 hw hf
    go_wp2_with (go_at_call 15; refine (k7.out _).mono ?_; rintro e w2 ⟨rfl, hx2⟩)
    exact ⟨rfl, rfl, Ext.of_below hx2 _⟩
  · simp
  · go_simp
    try rfl
  apply owed_walk rfl
  · intro w1 hw hf
    go_wp2
    exact ⟨rfl, rfl, Ext.refl _ _⟩
  · simp
  · go_simp
    try rfl
  apply owed_walk rfl
  · intro w1 hw hf
    go_wp2
    exact ⟨rfl, rfl, Ext.refl _ _⟩
  · simp
  · go_simp
    try rfl
  apply owed_walk rfl
  · intro w1 hw hf
    go_wp2
    exact ⟨rfl, rfl, Ext.refl _ _⟩
  · simp
  · go_simp
    try rfl
  apply owed_end
  intro w6 hw _
  unfold Tail
  have y6 := y5.trans hw.ofDrew
  clear hw y5
  go_wp2
  go_ret
  exact ⟨rfl, y6.below⟩
end Go.Proofs.YtejialnbelleeaaDoor
