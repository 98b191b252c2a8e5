/-
  The reference for sets: Not, And, Compare.
-/
import Derived.Test.YtejialnbelleeaaDoorRefC
import Derived.Test.YtejialnbelleeaaDoorOrdP
namespace Go.Proofs.YtejialnbelleeaaDoor
open Go Go.RowKit

theorem span_all : spanS 0 255 = ~~~(0#256) := by
  apply bs_ext; intro i hi
  rw [span_bit, BitVec.getLsbD_not]
  simp [hi]
  omega
theorem all_less (s : Bs) : spanS 0 255 &&& ~~~s = ~~~s := by
  rw [span_all]
  apply bs_ext; intro i hi
  rw [BitVec.getLsbD_and, BitVec.getLsbD_not, BitVec.getLsbD_not]
  simp [hi]

set_option maxHeartbeats 1000000 in
theorem rnot_any (s : Bs) (w : World) :
    Calls Tryd.prog 35 #[setV s] w fun e w' => e = .returned (setV (~~~s)) ∧ Below w.heap.size w w' := by
  have hsp := Lib.hid (rspan_any 0 255 · (by decide))
  have hl := fun w => rless_any (spanS 0 255) s w
  rw [all_less] at hl
  have HL := Lib.hid hl
  clear hl
  go_enter Tryd.func35, Tryd.ntmps35
  go_wp2
  generalize hwz : World.alloc (World.alloc w _) _ = wz
  have fA : wz.heap[w.heap.size]? = some (.cells (setC s) 24 (0, 0)) := by rw [← hwz]; exact heap_two' w _ _
  have fR : wz.heap[w.heap.size + 1]? = some (.cells (setC 0#256) 24 (0, 0)) := by rw [← hwz]; exact heap_two w _ _
  have y0 : Ext G0 w wz := by rw [← hwz]; exact ((Ext.refl _ _).alloc _).alloc _
  clear hwz
  apply region_phi (leaves := (Leaf.val _) :: (Leaf.val _) :: (Leaf.val _) :: ([] : List Leaf)) (k := 3) (b := #[0, 0, 3, 7]) (ms := []) (E := Ext G0) mixed (by kernel_rfl) rfl (by kernel_rfl) rfl
  apply owed_walk rfl
  · intro w1 hw hf
    go_wp2_with (go_at_call 41; refine (hsp.out _).mono ?_; rintro e w2 ⟨rfl, hx2⟩)
    exact ⟨rfl, rfl, Ext.of_below hx2 _⟩
  · simp
  · go_simp
    try rfl
  apply owed_walk rfl
  · intro w1 hw hf
    obtain ⟨q0, q1, q2, q3⟩ := cells4 (ext_heapD hw fA (fun x => x))
    go_wp2
    exact ⟨rfl, rfl, Ext.refl _ _⟩
  · simp
  · go_simp
    try rfl
  apply owed_walk rfl
  · intro w1 hw hf
    go_wp2_with (go_at_call 33; refine (HL.out _).mono ?_; rintro e w2 ⟨rfl, hx2⟩)
    exact ⟨rfl, rfl, Ext.of_below hx2 _⟩
  · simp
  · go_simp
    try rfl
  apply owed_end
  intro w1 hw _
  unfold Tail
  have gR := ext_heapD hw fR (fun x => x)
  have hx := y0.trans hw.ofDrew
  obtain ⟨q0, q1, q2, q3⟩ := cells4 gR
  have z := blk_free gR
  have hl := lt_of_block gR
  clear hw
  go_wp2
  refine bodyPost_ret (v := setV (~~~s)) (by simp [results, Tryd.results35, go_sem, q0, q1, q2, q3]) rfl ⟨rfl, ?_⟩
  exact ((((hx.set (by simp) _).set (by simp) _).set (by simp) _).set (by simp) _).below

set_option maxHeartbeats 1000000 in
theorem rand_any (a b : Bs) (w : World) :
    Calls Tryd.prog 31 #[setV a, setV b] w fun e w' => e = .returned (setV (a &&& b)) ∧ Below w.heap.size w w' := by
  have hn := Lib.hid (rnot_any b)
  have hl := fun w => rless_any a (~~~b) w
  rw [BitVec.not_not] at hl
  have HL := Lib.hid hl
  clear hl
  obtain ⟨r, hr⟩ : ∃ r, r = a &&& b := ⟨_, rfl⟩
  obtain ⟨nb, hnb⟩ : ∃ nb, nb = ~~~b := ⟨_, rfl⟩
  rw [← hr] at HL ⊢
  rw [← hnb] at HL hn
  clear hr hnb
  go_enter Tryd.func31, Tryd.ntmps31
  go_wp2
  generalize hwz : World.alloc (World.alloc (World.alloc w _) _) _ = wz
  have fA : wz.heap[w.heap.size]? = some (.cells (setC a) 24 (0, 0)) := by rw [← hwz]; exact heap_past (heap_two' w _ _) _
  have fB : wz.heap[w.heap.size + 1]? = some (.cells (setC b) 24 (0, 0)) := by rw [← hwz]; exact heap_past (heap_two w _ _) _
  have fR : wz.heap[w.heap.size + 1 + 1]? = some (.cells (setC 0#256) 24 (0, 0)) := by rw [← hwz]; exact heap_at _ _ _ (by simp)
  have y0 : Ext G0 w wz := by rw [← hwz]; exact (((Ext.refl _ _).alloc _).alloc _).alloc _
  clear hwz
  apply region_phi (leaves := (Leaf.val _) :: (Leaf.val _) :: (Leaf.val _) :: (Leaf.val _) :: ([] : List Leaf)) (k := 4) (b := #[0, 0, 2, 7, 15]) (ms := []) (E := Ext G0) mixed (by kernel_rfl) rfl (by kernel_rfl) rfl
  apply owed_walk rfl
  · intro w1 hw hf
    obtain ⟨q0, q1, q2, q3⟩ := cells4 (ext_heapD hw fA (fun x => x))
    go_wp2
    exact ⟨rfl, rfl, Ext.refl _ _⟩
  · simp
  · go_simp
    try rfl
  apply owed_walk rfl
  · intro w1 hw hf
    obtain ⟨q0, q1, q2, q3⟩ := cells4 (ext_heapD hw fB (fun x => x))
    go_wp2
    exact ⟨rfl, rfl, Ext.refl _ _⟩
  · simp
  · go_simp
    try rfl
  apply owed_walk rfl
  · intro w1 hw hf
    go_wp2_with (go_at_call 35; refine (hn.out _).mono ?_; rintro e w2 ⟨rfl, hx2⟩)
    exact ⟨rfl, rfl, Ext.of_below hx2 _⟩
  · simp
  · go_simp
    try rfl
  apply owed_walk rfl
  · intro w1 hw hf
    go_wp2_with (go_at_call 33; refine (HL.out _).mono ?_; rintro e w2 ⟨rfl, hx2⟩)
    exact ⟨rfl, rfl, Ext.of_below hx2 _⟩
  · simp
  · go_simp
    try rfl
  apply owed_end
  intro w1 hw _
  unfold Tail
  have gR := ext_heapD hw fR (fun x => x)
  have hx := y0.trans hw.ofDrew
  obtain ⟨q0, q1, q2, q3⟩ := cells4 gR
  have z := blk_free gR
  have hl := lt_of_block gR
  clear hw
  go_wp2
  refine bodyPost_ret (v := setV r) (by simp [results, Tryd.results31, go_sem, q0, q1, q2, q3]) rfl ⟨rfl, ?_⟩
  exact ((((hx.set (by simp; omega) _).set (by simp; omega) _).set (by simp; omega) _).set (by simp; omega) _).below

set_option maxRecDepth 100000 in
set_option maxHeartbeats 4000000 in
theorem rcmp_any (a b : Bs) (w : World) :
    Calls Tryd.prog 34 #[setV a, setV b] w fun e w' => e = .returned (.int .i64 (cmpS a b)) ∧ Below w.heap.size w w' := by
  obtain ⟨r, hr⟩ : ∃ r, r = cmpS a b := ⟨_, rfl⟩
  rw [← hr]
  have HR := Lib.hid hr
  clear hr
  go_enter Tryd.func34, Tryd.ntmps34
  go_wp2
  generalize hwz : World.alloc (World.alloc w _) _ = wz
  have fA : wz.heap[w.heap.size]? = some (.cells (setC a) 24 (0, 0)) := by rw [← hwz]; exact heap_two' w _ _
  have fB : wz.heap[w.heap.size + 1]? = some (.cells (setC b) 24 (0, 0)) := by rw [← hwz]; exact heap_two w _ _
  have y0 : Ext G0 w wz := by rw [← hwz]; exact ((Ext.refl _ _).alloc _).alloc _
  clear hwz
  go_loopw [6] (fun i wr => ∃ k : Nat, k ≤ 256 ∧ i = .int .i64 (k : Int) ∧ Hid (∀ j, j < k → a.getLsbD j = b.getLsbD j) ∧ wr.heap[w.heap.size]? = some (.cells (setC a) 24 (0, 0)) ∧ wr.heap[w.heap.size + 1]? = some (.cells (setC b) 24 (0, 0)) ∧ Ext G0 w wr) (fun i _ => 256 - (intOf i).toNat)
  case atStart => exact ⟨0, by omega, rfl, Lib.hid (fun j hj => by omega), fA, fB, y0⟩
  case round =>
    obtain ⟨k, hk, rfl, hE, gA, gB, hx⟩ := hrel
    clear fA fB y0
    by_cases hlt : k < 256
    · have HA := Lib.hid (rhas_any a k · hlt)
      have HB := Lib.hid (rhas_any b k · hlt)
      by_cases he : a.getLsbD k = b.getLsbD k
      · have hE1 : Hid (∀ j, j < k + 1 → a.getLsbD j = b.getLsbD j) := Lib.hid fun j hj => by
          by_cases e : j = k
          · rw [e]; exact he
          · exact hE.out j (by omega)
        rw [← he] at HB
        clear he
        generalize a.getLsbD k = x at *
        cases x
        all_goals
          go_wp2_with fail
          apply region_phi (leaves := (Leaf.val _) :: (Leaf.val _) :: (Leaf.val _) :: (Leaf.val _) :: (Leaf.val _) :: (Leaf.val _) :: (Leaf.val _) :: ([] : List Leaf)) (k := 7) (b := #[0, 0, 3, 0, 0, 31, 63]) (ms := []) (E := Ext G0) mixed (by kernel_rfl) rfl (by kernel_rfl) rfl
          apply owed_walk rfl
          · intro w1 hw hf
            obtain ⟨q0, q1, q2, q3⟩ := cells4 (ext_heapD hw gA (fun x => x))
            go_wp2
            exact ⟨rfl, rfl, Ext.refl _ _⟩
          · simp
          · go_simp
            try rfl
          apply owed_walk rfl
          · intro w1 hw hf
            go_wp2
            exact ⟨rfl, rfl, Ext.refl _ _⟩
          · simp
          · go_simp
            try rfl
          apply owed_walk rfl
          · intro w1 hw hf
            go_wp2_with (go_at_call 47; refine (HA.out _).mono ?_; rintro e w2 ⟨rfl, hx2⟩)
            exact ⟨rfl, rfl, Ext.of_below hx2 _⟩
          · simp
          · go_simp
            try rfl
          apply owed_walk rfl
          · intro w1 hw hf
            obtain ⟨q0, q1, q2, q3⟩ := cells4 (ext_heapD hw gB (fun x => x))
            go_wp2
            exact ⟨rfl, rfl, Ext.refl _ _⟩
          · simp
          · go_simp
            try rfl
          apply owed_walk rfl
          · intro w1 hw hf
            go_wp2
            exact ⟨rfl, rfl, Ext.refl _ _⟩
          · simp
          · go_simp
            try rfl
          apply owed_walk rfl
          · intro w1 hw hf
            go_wp2_with (go_at_call 47; refine (HB.out _).mono ?_; rintro e w2 ⟨rfl, hx2⟩)
            exact ⟨rfl, rfl, Ext.of_below hx2 _⟩
          · simp
          · go_simp
            try rfl
          apply owed_walk rfl
          · intro w1 hw hf
            go_wp2
            exact ⟨rfl, rfl, Ext.refl _ _⟩
          · simp
          · go_simp
            try rfl
          apply owed_end
          intro w1 hw _
          refine Tail.nil rfl ?_
          go_wp2
          go_roundw
          case rel => exact ⟨k + 1, by omega, by go_num, hE1, ext_heapD hw gA (fun x => x), ext_heapD hw gB (fun x => x), hx.trans hw.ofDrew⟩
          case measure => simp [intOf]; omega
      · have hc := cmpS_of he hE.out
        rw [← HR.out] at hc
        clear HR
        cases ha : a.getLsbD k with
        | false =>
          have hb : b.getLsbD k = true := by
            cases e : b.getLsbD k with
            | true => rfl
            | false => rw [ha, e] at he; exact absurd rfl he
          rw [ha] at HA hc
          rw [hb] at HB
          simp only [Bool.false_eq_true, if_false] at hc
          subst hc
          clear he ha hb
          go_wp2_with fail
          apply region_phi (leaves := (Leaf.val _) :: (Leaf.val _) :: (Leaf.val _) :: (Leaf.val _) :: (Leaf.val _) :: (Leaf.val _) :: (Leaf.val _) :: ([] : List Leaf)) (k := 7) (b := #[0, 0, 3, 0, 0, 31, 63]) (ms := []) (E := Ext G0) mixed (by kernel_rfl) rfl (by kernel_rfl) rfl
          apply owed_walk rfl
          · intro w1 hw hf
            obtain ⟨q0, q1, q2, q3⟩ := cells4 (ext_heapD hw gA (fun x => x))
            go_wp2
            exact ⟨rfl, rfl, Ext.refl _ _⟩
          · simp
          · go_simp
            try rfl
          apply owed_walk rfl
          · intro w1 hw hf
            go_wp2
            exact ⟨rfl, rfl, Ext.refl _ _⟩
          · simp
          · go_simp
            try rfl
          apply owed_walk rfl
          · intro w1 hw hf
            go_wp2_with (go_at_call 47; refine (HA.out _).mono ?_; rintro e w2 ⟨rfl, hx2⟩)
            exact ⟨rfl, rfl, Ext.of_below hx2 _⟩
          · simp
          · go_simp
            try rfl
          apply owed_walk rfl
          · intro w1 hw hf
            obtain ⟨q0, q1, q2, q3⟩ := cells4 (ext_heapD hw gB (fun x => x))
            go_wp2
            exact ⟨rfl, rfl, Ext.refl _ _⟩
          · simp
          · go_simp
            try rfl
          apply owed_walk rfl
          · intro w1 hw hf
            go_wp2
            exact ⟨rfl, rfl, Ext.refl _ _⟩
          · simp
          · go_simp
            try rfl
          apply owed_walk rfl
          · intro w1 hw hf
            go_wp2_with (go_at_call 47; refine (HB.out _).mono ?_; rintro e w2 ⟨rfl, hx2⟩)
            exact ⟨rfl, rfl, Ext.of_below hx2 _⟩
          · simp
          · go_simp
            try rfl
          apply owed_walk rfl
          · intro w1 hw hf
            go_wp2
            exact ⟨rfl, rfl, Ext.refl _ _⟩
          · simp
          · go_simp
            try rfl
          apply owed_end
          intro w1 hw _
          refine Tail.nil rfl ?_
          replace gA := ext_heapD hw gA (fun x => x)
          replace hx := hx.trans hw.ofDrew
          obtain ⟨q0, q1, q2, q3⟩ := cells4 gA
          clear hw
          go_wp2_with fail
          refine (HA.out _).mono ?_
          rintro e w2 ⟨rfl, b2⟩
          go_wp2
          go_ret
          exact ⟨rfl, (hx.trans (Ext.of_below b2 G0)).below⟩
        | true =>
          have hb : b.getLsbD k = false := by
            cases e : b.getLsbD k with
            | false => rfl
            | true => rw [ha, e] at he; exact absurd rfl he
          rw [ha] at HA hc
          rw [hb] at HB
          simp only [if_true] at hc
          subst hc
          clear he ha hb
          go_wp2_with fail
          apply region_phi (leaves := (Leaf.val _) :: (Leaf.val _) :: (Leaf.val _) :: (Leaf.val _) :: (Leaf.val _) :: (Leaf.val _) :: (Leaf.val _) :: ([] : List Leaf)) (k := 7) (b := #[0, 0, 3, 0, 0, 31, 63]) (ms := []) (E := Ext G0) mixed (by kernel_rfl) rfl (by kernel_rfl) rfl
          apply owed_walk rfl
          · intro w1 hw hf
            obtain ⟨q0, q1, q2, q3⟩ := cells4 (ext_heapD hw gA (fun x => x))
            go_wp2
            exact ⟨rfl, rfl, Ext.refl _ _⟩
          · simp
          · go_simp
            try rfl
          apply owed_walk rfl
          · intro w1 hw hf
            go_wp2
            exact ⟨rfl, rfl, Ext.refl _ _⟩
          · simp
          · go_simp
            try rfl
          apply owed_walk rfl
          · intro w1 hw hf
            go_wp2_with (go_at_call 47; refine (HA.out _).mono ?_; rintro e w2 ⟨rfl, hx2⟩)
            exact ⟨rfl, rfl, Ext.of_below hx2 _⟩
          · simp
          · go_simp
            try rfl
          apply owed_walk rfl
          · intro w1 hw hf
            obtain ⟨q0, q1, q2, q3⟩ := cells4 (ext_heapD hw gB (fun x => x))
            go_wp2
            exact ⟨rfl, rfl, Ext.refl _ _⟩
          · simp
          · go_simp
            try rfl
          apply owed_walk rfl
          · intro w1 hw hf
            go_wp2
            exact ⟨rfl, rfl, Ext.refl _ _⟩
          · simp
          · go_simp
            try rfl
          apply owed_walk rfl
          · intro w1 hw hf
            go_wp2_with (go_at_call 47; refine (HB.out _).mono ?_; rintro e w2 ⟨rfl, hx2⟩)
            exact ⟨rfl, rfl, Ext.of_below hx2 _⟩
          · simp
          · go_simp
            try rfl
          apply owed_walk rfl
          · intro w1 hw hf
            go_wp2
            exact ⟨rfl, rfl, Ext.refl _ _⟩
          · simp
          · go_simp
            try rfl
          apply owed_end
          intro w1 hw _
          refine Tail.nil rfl ?_
          replace gA := ext_heapD hw gA (fun x => x)
          replace hx := hx.trans hw.ofDrew
          obtain ⟨q0, q1, q2, q3⟩ := cells4 gA
          clear hw
          go_wp2_with fail
          refine (HA.out _).mono ?_
          rintro e w2 ⟨rfl, b2⟩
          go_wp2
          go_ret
          exact ⟨rfl, (hx.trans (Ext.of_below b2 G0)).below⟩
    · obtain rfl : k = 256 := by omega
      have hab : a = b := bs_ext fun i hi => hE.out i hi
      have h0 : cmpS a b = 0 := by rw [hab]; exact cmpS_self b
      rw [← HR.out] at h0
      subst h0
      go_wp2
      go_ret
      exact ⟨rfl, hx.below⟩

end Go.Proofs.YtejialnbelleeaaDoor
