/-
  SetOrders: the walk.
-/
import Derived.Test.YtejialnbelleeaaDoorSetN
namespace Go.Proofs.YtejialnbelleeaaDoor
open Go Go.RowKit

set_option maxRecDepth 100000 in
set_option maxHeartbeats 4000000 in
theorem orders_walk (a b c : Bs) (x y z : Int) (w : World) (htab : TabOk w) (hx0 : -2 < x) (hx1 : x < 2) (h0 : x = 0 ↔ a = b) (ht : 0 ≤ x ∨ 0 ≤ y ∨ z < 0)
    (h1 : ∀ w, TabOk w → Calls Tryd.prog 19 #[setV a, setV b] w fun e w' => e = .returned (.int .i64 x) ∧ Below w.heap.size w w')
    (h2 : ∀ w, TabOk w → Calls Tryd.prog 19 #[setV b, setV a] w fun e w' => e = .returned (.int .i64 (-x)) ∧ Below w.heap.size w w')
    (h3 : ∀ w, TabOk w → Calls Tryd.prog 19 #[setV b, setV c] w fun e w' => e = .returned (.int .i64 y) ∧ Below w.heap.size w w')
    (h4 : ∀ w, TabOk w → Calls Tryd.prog 19 #[setV a, setV c] w fun e w' => e = .returned (.int .i64 z) ∧ Below w.heap.size w w') :
    Calls Tryd.prog 4 #[setV a, setV b, setV c] w fun e w' => e = .returned (.bool true) ∧ Below w.heap.size w w' := by
  have he := equalIn_set a b
  have hd : decide (a = b) = decide (x = 0) := by simp [h0]
  rw [hd] at he
  have H1 := Lib.hid h1
  have H2 := Lib.hid h2
  have H3 := Lib.hid h3
  have H4 := Lib.hid h4
  clear h1 h2 h3 h4 hd h0
  go_enter Tryd.func4, Tryd.ntmps4
  go_wp2_with fail
  generalize hwz : World.alloc (World.alloc (World.alloc w _) _) _ = wz
  have fA : wz.heap[w.heap.size]? = some (.cells (setC a) 24 (0, 0)) := by rw [← hwz]; exact heap_past (heap_two' w _ _) _
  have fB : wz.heap[w.heap.size + 1]? = some (.cells (setC b) 24 (0, 0)) := by rw [← hwz]; exact heap_past (heap_two w _ _) _
  have fC : wz.heap[w.heap.size + 1 + 1]? = some (.cells (setC c) 24 (0, 0)) := by rw [← hwz]; exact heap_at _ _ _ (by simp)
  have y0 : Ext G0 w wz := by rw [← hwz]; exact (((Ext.refl _ _).alloc _).alloc _).alloc _
  clear hwz
  refine (wakes_any _ (htab.ext y0)).mono ?_
  rintro e w1 ⟨rfl, b1⟩
  have x1 := Ext.of_below b1 G0
  have y1 := y0.trans x1
  replace fA := ext_heap x1 fA (fun x => x)
  replace fB := ext_heap x1 fB (fun x => x)
  replace fC := ext_heap x1 fC (fun x => x)
  clear b1 x1 y0
  go_wp2_with fail
  rcases (show x = 0 ∨ x = 1 ∨ x = -1 by omega) with rfl | rfl | rfl
  · have hdx : decide ((0 : Int) = 0) = true := rfl
    rw [hdx] at he
    clear hdx hx0 hx1
    apply region_phi (leaves := (Leaf.val _) :: (Leaf.val _) :: (Leaf.val _) :: (Leaf.val _) :: (Leaf.val _) :: (Leaf.val _) :: (Leaf.val _) :: (Leaf.val _) :: (Leaf.val _) :: (Leaf.val _) :: (Leaf.val _) :: (Leaf.val _) :: (Leaf.val _) :: (Leaf.val _) :: (Leaf.val _) :: (Leaf.val _) :: (Leaf.val _) :: (Leaf.val _) :: ([] : List Leaf)) (k := 18) (b := #[0, 0, 3, 0, 0, 31, 63, 127, 255, 511, 511, 2047, 4095, 511, 511, 25087, 65535, 131071]) (ms := []) (E := Ext G0) mixed (by kernel_rfl) rfl (by kernel_rfl) rfl
    iterate 2
      apply owed_walk rfl
      · intro w1 hw hf
        obtain ⟨a0, a1, a2, a3⟩ := cells4 (ext_heapD hw fA (fun x => x))
        obtain ⟨e0, e1, e2, e3⟩ := cells4 (ext_heapD hw fB (fun x => x))
        go_wp2
        exact ⟨rfl, rfl, Ext.refl _ _⟩
      · simp
      · go_simp
        try rfl
    apply owed_walk rfl
    · intro w1 hw hf
      have htb := (htab.ext y1).ext hw.ofDrew
      go_wp2_with (go_at_call 19; refine (H1.out _ htb).mono ?_; rintro e w2 ⟨rfl, hx2⟩)
      exact ⟨rfl, rfl, Ext.of_below hx2 _⟩
    · simp
    · go_simp
      try rfl
    iterate 2
      apply owed_walk rfl
      · intro w1 hw hf
        obtain ⟨a0, a1, a2, a3⟩ := cells4 (ext_heapD hw fA (fun x => x))
        obtain ⟨e0, e1, e2, e3⟩ := cells4 (ext_heapD hw fB (fun x => x))
        go_wp2
        exact ⟨rfl, rfl, Ext.refl _ _⟩
      · simp
      · go_simp
        try rfl
    apply owed_walk rfl
    · intro w1 hw hf
      have htb := (htab.ext y1).ext hw.ofDrew
      go_wp2_with (go_at_call 19; refine (H2.out _ htb).mono ?_; rintro e w2 ⟨rfl, hx2⟩)
      exact ⟨rfl, rfl, Ext.of_below hx2 _⟩
    · simp
    · go_simp
      try rfl
    iterate 3
      apply owed_walk rfl
      · intro w1 hw hf
        go_wp2
        exact ⟨rfl, rfl, Ext.refl _ _⟩
      · simp
      · go_simp
        try rfl
    iterate 2
      apply owed_walk rfl
      · intro w1 hw hf
        obtain ⟨a0, a1, a2, a3⟩ := cells4 (ext_heapD hw fA (fun x => x))
        obtain ⟨e0, e1, e2, e3⟩ := cells4 (ext_heapD hw fB (fun x => x))
        go_wp2
        exact ⟨rfl, rfl, Ext.refl _ _⟩
      · simp
      · go_simp
        try rfl
    apply owed_walk rfl
    · intro w1 hw hf
      have htb := (htab.ext y1).ext hw.ofDrew
      go_wp2_with (go_at_call 19; refine (H1.out _ htb).mono ?_; rintro e w2 ⟨rfl, hx2⟩)
      exact ⟨rfl, rfl, Ext.of_below hx2 _⟩
    · simp
    · go_simp
      try rfl
    apply owed_walk rfl
    · intro w1 hw hf
      go_wp2
      exact ⟨rfl, rfl, Ext.refl _ _⟩
    · simp
    · go_simp
      try rfl
    iterate 2
      apply owed_walk rfl
      · intro w1 hw hf
        obtain ⟨a0, a1, a2, a3⟩ := cells4 (ext_heapD hw fA (fun x => x))
        obtain ⟨e0, e1, e2, e3⟩ := cells4 (ext_heapD hw fB (fun x => x))
        go_wp2
        exact ⟨rfl, rfl, Ext.refl _ _⟩
      · simp
      · go_simp
        try rfl
    iterate 3
      apply owed_walk rfl
      · intro w1 hw hf
        go_wp2
        exact ⟨rfl, rfl, Ext.refl _ _⟩
      · simp
      · go_simp
        try rfl
    apply owed_end
    intro w2 hw _
    refine Tail.nil rfl ?_
    replace fA := ext_heapD hw fA (fun x => x)
    replace fB := ext_heapD hw fB (fun x => x)
    replace fC := ext_heapD hw fC (fun x => x)
    have y2 := y1.trans hw.ofDrew
    clear hw y1
    obtain ⟨a0, a1, a2, a3⟩ := cells4 fA
    obtain ⟨e0, e1, e2, e3⟩ := cells4 fB
    go_wp2_with fail
    refine (H1.out _ (htab.ext y2)).mono ?_
    rintro e w3 ⟨rfl, b3⟩
    have x3 := Ext.of_below b3 G0
    have y3 := y2.trans x3
    clear b3 x3
    go_wp2
    go_ret
    exact ⟨rfl, y3.below⟩
  · have hdx : decide ((1 : Int) = 0) = false := rfl
    rw [hdx] at he
    clear hdx hx0 hx1
    apply region_phi (leaves := (Leaf.val _) :: (Leaf.val _) :: (Leaf.val _) :: (Leaf.val _) :: (Leaf.val _) :: (Leaf.val _) :: (Leaf.val _) :: (Leaf.val _) :: (Leaf.val _) :: (Leaf.val _) :: (Leaf.val _) :: (Leaf.val _) :: (Leaf.val _) :: (Leaf.val _) :: (Leaf.val _) :: (Leaf.val _) :: (Leaf.val _) :: (Leaf.val _) :: ([] : List Leaf)) (k := 18) (b := #[0, 0, 3, 0, 0, 31, 63, 127, 255, 511, 511, 2047, 4095, 511, 511, 25087, 65535, 131071]) (ms := []) (E := Ext G0) mixed (by kernel_rfl) rfl (by kernel_rfl) rfl
    iterate 2
      apply owed_walk rfl
      · intro w1 hw hf
        obtain ⟨a0, a1, a2, a3⟩ := cells4 (ext_heapD hw fA (fun x => x))
        obtain ⟨e0, e1, e2, e3⟩ := cells4 (ext_heapD hw fB (fun x => x))
        go_wp2
        exact ⟨rfl, rfl, Ext.refl _ _⟩
      · simp
      · go_simp
        try rfl
    apply owed_walk rfl
    · intro w1 hw hf
      have htb := (htab.ext y1).ext hw.ofDrew
      go_wp2_with (go_at_call 19; refine (H1.out _ htb).mono ?_; rintro e w2 ⟨rfl, hx2⟩)
      exact ⟨rfl, rfl, Ext.of_below hx2 _⟩
    · simp
    · go_simp
      try rfl
    iterate 2
      apply owed_walk rfl
      · intro w1 hw hf
        obtain ⟨a0, a1, a2, a3⟩ := cells4 (ext_heapD hw fA (fun x => x))
        obtain ⟨e0, e1, e2, e3⟩ := cells4 (ext_heapD hw fB (fun x => x))
        go_wp2
        exact ⟨rfl, rfl, Ext.refl _ _⟩
      · simp
      · go_simp
        try rfl
    apply owed_walk rfl
    · intro w1 hw hf
      have htb := (htab.ext y1).ext hw.ofDrew
      go_wp2_with (go_at_call 19; refine (H2.out _ htb).mono ?_; rintro e w2 ⟨rfl, hx2⟩)
      exact ⟨rfl, rfl, Ext.of_below hx2 _⟩
    · simp
    · go_simp
      try rfl
    iterate 3
      apply owed_walk rfl
      · intro w1 hw hf
        go_wp2
        exact ⟨rfl, rfl, Ext.refl _ _⟩
      · simp
      · go_simp
        try rfl
    iterate 2
      apply owed_walk rfl
      · intro w1 hw hf
        obtain ⟨a0, a1, a2, a3⟩ := cells4 (ext_heapD hw fA (fun x => x))
        obtain ⟨e0, e1, e2, e3⟩ := cells4 (ext_heapD hw fB (fun x => x))
        go_wp2
        exact ⟨rfl, rfl, Ext.refl _ _⟩
      · simp
      · go_simp
        try rfl
    apply owed_walk rfl
    · intro w1 hw hf
      have htb := (htab.ext y1).ext hw.ofDrew
      go_wp2_with (go_at_call 19; refine (H1.out _ htb).mono ?_; rintro e w2 ⟨rfl, hx2⟩)
      exact ⟨rfl, rfl, Ext.of_below hx2 _⟩
    · simp
    · go_simp
      try rfl
    apply owed_walk rfl
    · intro w1 hw hf
      go_wp2
      exact ⟨rfl, rfl, Ext.refl _ _⟩
    · simp
    · go_simp
      try rfl
    iterate 2
      apply owed_walk rfl
      · intro w1 hw hf
        obtain ⟨a0, a1, a2, a3⟩ := cells4 (ext_heapD hw fA (fun x => x))
        obtain ⟨e0, e1, e2, e3⟩ := cells4 (ext_heapD hw fB (fun x => x))
        go_wp2
        exact ⟨rfl, rfl, Ext.refl _ _⟩
      · simp
      · go_simp
        try rfl
    iterate 3
      apply owed_walk rfl
      · intro w1 hw hf
        go_wp2
        exact ⟨rfl, rfl, Ext.refl _ _⟩
      · simp
      · go_simp
        try rfl
    apply owed_end
    intro w2 hw _
    refine Tail.nil rfl ?_
    replace fA := ext_heapD hw fA (fun x => x)
    replace fB := ext_heapD hw fB (fun x => x)
    replace fC := ext_heapD hw fC (fun x => x)
    have y2 := y1.trans hw.ofDrew
    clear hw y1
    obtain ⟨a0, a1, a2, a3⟩ := cells4 fA
    obtain ⟨e0, e1, e2, e3⟩ := cells4 fB
    go_wp2_with fail
    refine (H1.out _ (htab.ext y2)).mono ?_
    rintro e w3 ⟨rfl, b3⟩
    have x3 := Ext.of_below b3 G0
    have y3 := y2.trans x3
    clear b3 x3
    go_wp2
    go_ret
    exact ⟨rfl, y3.below⟩
  · have hdx : decide ((-1 : Int) = 0) = false := rfl
    rw [hdx] at he
    clear hdx hx0 hx1
    apply region_phi (leaves := (Leaf.val _) :: (Leaf.val _) :: (Leaf.val _) :: (Leaf.val _) :: (Leaf.val _) :: (Leaf.val _) :: (Leaf.val _) :: (Leaf.val _) :: (Leaf.val _) :: (Leaf.val _) :: (Leaf.val _) :: (Leaf.val _) :: (Leaf.val _) :: (Leaf.val _) :: (Leaf.val _) :: (Leaf.val _) :: (Leaf.val _) :: (Leaf.val _) :: ([] : List Leaf)) (k := 18) (b := #[0, 0, 3, 0, 0, 31, 63, 127, 255, 511, 511, 2047, 4095, 511, 511, 25087, 65535, 131071]) (ms := []) (E := Ext G0) mixed (by kernel_rfl) rfl (by kernel_rfl) rfl
    iterate 2
      apply owed_walk rfl
      · intro w1 hw hf
        obtain ⟨a0, a1, a2, a3⟩ := cells4 (ext_heapD hw fA (fun x => x))
        obtain ⟨e0, e1, e2, e3⟩ := cells4 (ext_heapD hw fB (fun x => x))
        go_wp2
        exact ⟨rfl, rfl, Ext.refl _ _⟩
      · simp
      · go_simp
        try rfl
    apply owed_walk rfl
    · intro w1 hw hf
      have htb := (htab.ext y1).ext hw.ofDrew
      go_wp2_with (go_at_call 19; refine (H1.out _ htb).mono ?_; rintro e w2 ⟨rfl, hx2⟩)
      exact ⟨rfl, rfl, Ext.of_below hx2 _⟩
    · simp
    · go_simp
      try rfl
    iterate 2
      apply owed_walk rfl
      · intro w1 hw hf
        obtain ⟨a0, a1, a2, a3⟩ := cells4 (ext_heapD hw fA (fun x => x))
        obtain ⟨e0, e1, e2, e3⟩ := cells4 (ext_heapD hw fB (fun x => x))
        go_wp2
        exact ⟨rfl, rfl, Ext.refl _ _⟩
      · simp
      · go_simp
        try rfl
    apply owed_walk rfl
    · intro w1 hw hf
      have htb := (htab.ext y1).ext hw.ofDrew
      go_wp2_with (go_at_call 19; refine (H2.out _ htb).mono ?_; rintro e w2 ⟨rfl, hx2⟩)
      exact ⟨rfl, rfl, Ext.of_below hx2 _⟩
    · simp
    · go_simp
      try rfl
    iterate 3
      apply owed_walk rfl
      · intro w1 hw hf
        go_wp2
        exact ⟨rfl, rfl, Ext.refl _ _⟩
      · simp
      · go_simp
        try rfl
    iterate 2
      apply owed_walk rfl
      · intro w1 hw hf
        obtain ⟨a0, a1, a2, a3⟩ := cells4 (ext_heapD hw fA (fun x => x))
        obtain ⟨e0, e1, e2, e3⟩ := cells4 (ext_heapD hw fB (fun x => x))
        go_wp2
        exact ⟨rfl, rfl, Ext.refl _ _⟩
      · simp
      · go_simp
        try rfl
    apply owed_walk rfl
    · intro w1 hw hf
      have htb := (htab.ext y1).ext hw.ofDrew
      go_wp2_with (go_at_call 19; refine (H1.out _ htb).mono ?_; rintro e w2 ⟨rfl, hx2⟩)
      exact ⟨rfl, rfl, Ext.of_below hx2 _⟩
    · simp
    · go_simp
      try rfl
    apply owed_walk rfl
    · intro w1 hw hf
      go_wp2
      exact ⟨rfl, rfl, Ext.refl _ _⟩
    · simp
    · go_simp
      try rfl
    iterate 2
      apply owed_walk rfl
      · intro w1 hw hf
        obtain ⟨a0, a1, a2, a3⟩ := cells4 (ext_heapD hw fA (fun x => x))
        obtain ⟨e0, e1, e2, e3⟩ := cells4 (ext_heapD hw fB (fun x => x))
        go_wp2
        exact ⟨rfl, rfl, Ext.refl _ _⟩
      · simp
      · go_simp
        try rfl
    iterate 3
      apply owed_walk rfl
      · intro w1 hw hf
        go_wp2
        exact ⟨rfl, rfl, Ext.refl _ _⟩
      · simp
      · go_simp
        try rfl
    apply owed_end
    intro w2 hw _
    refine Tail.nil rfl ?_
    replace fA := ext_heapD hw fA (fun x => x)
    replace fB := ext_heapD hw fB (fun x => x)
    replace fC := ext_heapD hw fC (fun x => x)
    have y2 := y1.trans hw.ofDrew
    clear hw y1
    obtain ⟨a0, a1, a2, a3⟩ := cells4 fA
    obtain ⟨e0, e1, e2, e3⟩ := cells4 fB
    go_wp2_with fail
    refine (H1.out _ (htab.ext y2)).mono ?_
    rintro e w3 ⟨rfl, b3⟩
    have x3 := Ext.of_below b3 G0
    have y3 := y2.trans x3
    replace fA := ext_heap x3 fA (fun x => x)
    replace fB := ext_heap x3 fB (fun x => x)
    replace fC := ext_heap x3 fC (fun x => x)
    clear b3 x3 a0 a1 a2 a3 e0 e1 e2 e3
    obtain ⟨e0, e1, e2, e3⟩ := cells4 fB
    obtain ⟨c0, c1, c2, c3⟩ := cells4 fC
    go_wp2_with fail
    refine (H3.out _ (htab.ext y3)).mono ?_
    rintro e w4 ⟨rfl, b4⟩
    have x4 := Ext.of_below b4 G0
    have y4 := y3.trans x4
    replace fA := ext_heap x4 fA (fun x => x)
    replace fC := ext_heap x4 fC (fun x => x)
    clear b4 x4 e0 e1 e2 e3 c0 c1 c2 c3
    by_cases hy : 0 ≤ y
    · go_wp2
      go_ret
      exact ⟨rfl, y4.below⟩
    · have hz : z < 0 := by omega
      obtain ⟨a0, a1, a2, a3⟩ := cells4 fA
      obtain ⟨c0, c1, c2, c3⟩ := cells4 fC
      go_wp2_with fail
      refine (H4.out _ (htab.ext y4)).mono ?_
      rintro e w5 ⟨rfl, b5⟩
      go_wp2
      go_ret
      exact ⟨rfl, (y4.trans (Ext.of_below b5 G0)).below⟩

end Go.Proofs.YtejialnbelleeaaDoor
