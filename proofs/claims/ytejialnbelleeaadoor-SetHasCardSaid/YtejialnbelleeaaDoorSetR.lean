/-
  SetBack: the walk.
-/
import Derived.Test.YtejialnbelleeaaDoorSetN
import Derived.Test.YtejialnbelleeaaDoorSetP
namespace Go.Proofs.YtejialnbelleeaaDoor
open Go Go.RowKit

theorem SlAt.take {α : Type} {sz : Nat} {enc : α → List Value} {w : World} {A : Option Addr} {n c : Nat} {l : List α} (k : Nat) (h : SlAt sz enc w (.slice A n c) l) : SlAt sz enc w (.slice A (min n k) c) (l.take k) := by
  obtain ⟨A', c', he, hc, h0⟩ := h
  injection he with e1 e2 e3
  subst e1 e2 e3
  refine ⟨A, c, by rw [List.length_take, Nat.min_comm], ⟨by rw [List.length_take]; omega, by rw [List.length_take]; omega⟩, ?_⟩
  rcases h0 with rfl | ⟨b, off, rfl, h⟩
  · exact .inl (by simp)
  · refine .inr ⟨b, off, rfl, fun i x hi j y hj => ?_⟩
    rw [List.getElem?_take] at hi
    split at hi
    · exact h i x hi j y hj
    · cases hi

theorem SlAt.length {α : Type} {sz : Nat} {enc : α → List Value} {w : World} {A : Option Addr} {n c : Nat} {l : List α} (h : SlAt sz enc w (.slice A n c) l) : n = l.length ∧ n ≤ c ∧ (n : Int) ≤ 140737488351232 := by
  obtain ⟨A', c', he, hc, h0⟩ := h
  injection he with e1 e2 e3
  subst e1 e2 e3
  exact ⟨rfl, hc⟩

theorem manyR_take (l : List RunN) (k : Nat) (h : k < l.length) : manyR (l.take (k + 1)) = manyR (l.take k) + ((l[k].2 : Int) - (l[k].1 : Int) + 1) := by
  rw [List.take_succ_eq_append_getElem h, manyR_snoc]

set_option maxRecDepth 100000 in
set_option maxHeartbeats 8000000 in
theorem back_walk (a f : Bs) (r l : List RunN) (bs : List Nat) (A : Option Addr) (n c : Nat) (w : World) (htab : TabOk w) (hl : RunsAt w (.slice A n c) l)
    (hr128 : r.length ≤ 128) (hrlt : ∀ x ∈ r, x.1 < 256 ∧ x.2 < 256) (hmb : ∀ k, k ≤ r.length → -100000 < manyR (r.take k) ∧ manyR (r.take k) < 100000)
    (h1 : ∀ w, TabOk w → Calls Tryd.prog 11 #[setV a] w fun e w' => ∃ v, e = .returned v ∧ RunsAt w' v r ∧ Below w.heap.size w w')
    (h2 : ∀ v w, RunsAt w v r → Calls Tryd.prog 12 #[v] w fun e w' => e = .returned (.tuple #[setV a, .int .i64 0]) ∧ Below w.heap.size w w')
    (h3 : ∀ w, Calls Tryd.prog 15 #[setV a] w fun e w' => e = .returned (.int .i64 (manyR r)) ∧ Below w.heap.size w w')
    (h4 : ∀ w, TabOk w → Calls Tryd.prog 14 #[setV a] w fun e w' => ∃ v, e = .returned v ∧ BytesAt w' v bs ∧ Below w.heap.size w w')
    (h5 : ∀ v w, BytesAt w v bs → Calls Tryd.prog 13 #[v] w fun e w' => e = .returned (setV a) ∧ Below w.heap.size w w')
    (h6 : ∀ w, TabOk w → Calls Tryd.prog 16 #[setV a] w fun e w' => e = .returned (setV f) ∧ Below w.heap.size w w')
    (h7 : ∀ w, TabOk w → Calls Tryd.prog 16 #[setV f] w fun e w' => e = .returned (setV f) ∧ Below w.heap.size w w')
    (h8 : ∀ v w, SetsAt w v [a] → Calls Tryd.prog 17 #[setV f, v] w fun e w' => e = .returned (setV a) ∧ Below w.heap.size w w')
    (h9 : ∀ v w, RunsAt w v (l.take 130) → Calls Tryd.prog 12 #[v] w fun e w' => e = .returned (fromV (fromS (l.take 130))) ∧ Below w.heap.size w w')
    (h10 : ∀ s, fromS (l.take 130) = some s → ∀ w, TabOk w → Calls Tryd.prog 11 #[setV s] w fun e w' => ∃ v, e = .returned v ∧ RunsAt w' v (l.take 130) ∧ Below w.heap.size w w') :
    Calls Tryd.prog 3 #[setV a, .slice A n c] w fun e w' => e = .returned (.bool true) ∧ Below w.heap.size w w' := by
  have ha := equalIn_set a a
  have hf := equalIn_set f f
  have hzz := equalIn_set 0#256 0#256
  rw [decide_eq_true rfl] at ha hf hzz
  have hz0 : ∀ w, (Op.equalIn 10000 24 (setV 0#256) (.agg #[.int .u64 0, .int .u64 0, .int .u64 0, .int .u64 0])).run Tryd.prog w = .ok true w := hzz
  clear hzz
  replace h1 := Lib.hid h1
  replace h2 := Lib.hid h2
  replace h3 := Lib.hid h3
  replace h4 := Lib.hid h4
  replace h5 := Lib.hid h5
  replace h6 := Lib.hid h6
  replace h7 := Lib.hid h7
  replace h8 := Lib.hid h8
  replace h9 := Lib.hid h9
  replace h10 := Lib.hid h10
  replace hmb := Lib.hid hmb
  have hl0 := hl
  replace hl := Lib.hid hl
  go_enter Tryd.func3, Tryd.ntmps3
  go_wp2_with fail
  generalize hwz : World.alloc w _ = wz
  have fA : wz.heap[w.heap.size]? = some (.cells (setC a) 24 (0, 0)) := by rw [← hwz]; exact heap_new _ _
  have y0 : Ext G0 w wz := by rw [← hwz]; exact (Ext.refl _ _).alloc _
  clear hwz
  refine (wakes_any _ (htab.ext y0)).mono ?_
  rintro e w1 ⟨rfl, b1⟩
  have x1 := Ext.of_below b1 G0
  have y1 := y0.trans x1
  replace fA := ext_heap x1 fA (fun x => x)
  clear b1 x1 y0
  obtain ⟨q0, q1, q2, q3⟩ := cells4 fA
  go_wp2_with fail
  clear q0 q1 q2 q3
  refine (h1.out _ (htab.ext y1)).mono ?_
  rintro e w2 ⟨vr, rfl, hvr, b2⟩
  have x2 := Ext.of_below b2 G0
  have y2 := y1.trans x2
  replace fA := ext_heap x2 fA (fun x => x)
  clear b2 x2 y1
  have hvr0 := hvr
  obtain ⟨Ar, cr, rfl, ⟨hrc, hrm⟩, hcells⟩ := hvr
  replace hcells := Lib.hid hcells
  replace hvr0 := Lib.hid hvr0
  go_wp2_with fail
  refine (h2.out _ _ hvr0.out).mono ?_
  rintro e w3 ⟨rfl, b3⟩
  have x3 := Ext.of_below b3 G0
  have y3 := y2.trans x3
  replace fA := ext_heap x3 fA (fun x => x)
  clear b3 y2
  go_wp2_with fail
  generalize hwz : World.alloc w3 _ = w4
  have x4 : Ext G0 w2 w4 := by rw [← hwz]; exact x3.alloc _
  have fB : w4.heap[w3.heap.size]? = some (.cells (setC a) 24 (0, 0)) := by rw [← hwz]; exact heap_new _ _
  replace fA : w4.heap[w.heap.size]? = some (.cells (setC a) 24 (0, 0)) := by rw [← hwz]; exact heap_past fA _
  have y4 : Ext G0 w w4 := by rw [← hwz]; exact y3.alloc _
  clear hwz y3 x3
  generalize w3.heap.size = n3 at *
  go_loopw [8, 23] (fun m i wr => ∃ k : Nat, k ≤ r.length ∧ i = .int .i64 (k : Int) ∧ m = .int .i64 (manyR (r.take k)) ∧ Ext G0 w4 wr) (fun _ i _ => r.length - (intOf i).toNat)
  case atStart => exact ⟨0, Nat.zero_le _, rfl, rfl, Ext.refl _ _⟩
  case round =>
    obtain ⟨k, hk, rfl, rfl, hx⟩ := hrel
    by_cases hlt : k < r.length
    · rcases hcells.out with h | ⟨b, off, rfl, hcell⟩
      · rw [h] at hlt; simp at hlt
      obtain ⟨e0, e1⟩ := runs_cells hcell (x4.trans hx) hlt
      have hb0 := hmb.out k hk
      have hb1 := hmb.out (k + 1) hlt
      have ht := manyR_take r k hlt
      have hrl := hrlt _ (List.getElem_mem hlt)
      have s1 := IntWalk.i64_in ((r[k].2 : Int) - (r[k].1 : Int)) (by omega)
      have s2 := IntWalk.i64_in ((r[k].2 : Int) - (r[k].1 : Int) + 1) (by omega)
      have s3 := IntWalk.i64_in (manyR (r.take k) + ((r[k].2 : Int) - (r[k].1 : Int) + 1)) (by omega)
      have h2' : (0 : Int) ≤ (r[k].2 : Int) := by omega
      have h3' : (r[k].2 : Int) < 256 := by omega
      have h4' : (0 : Int) ≤ (r[k].1 : Int) := by omega
      have h5' : (r[k].1 : Int) < 256 := by omega
      replace ht := Lib.hid ht
      clear hb0 hb1 hrl hcell
      generalize r[k] = x at *
      generalize manyR (r.take k) = m at *
      go_wp2
      go_roundw
      case rel => exact ⟨k + 1, by omega, by go_num, by rw [ht.out], hx.alloc _⟩
      case measure => simp [intOf]; omega
    · obtain rfl : k = r.length := by omega
      rw [List.take_length]
      have y5 := y4.trans hx
      replace fA := ext_heap hx fA (fun x => x)
      replace fB := ext_heap hx fB (fun x => x)
      clear hx y4
      have hq : ((r.length : Int) > 128) = False := by simp; omega
      have hq2 : decide ((128 : Int) < (r.length : Int)) = false := by simp; omega
      go_wp2_with fail
      apply region_phi (leaves := (Leaf.val _) :: (Leaf.val _) :: (Leaf.val _) :: (Leaf.val _) :: (Leaf.val _) :: (Leaf.val _) :: (Leaf.val _) :: (Leaf.val _) :: (Leaf.val _) :: (Leaf.ref false false (fun v w => BytesAt w v bs)) :: (Leaf.val _) :: (Leaf.val _) :: (Leaf.val _) :: (Leaf.val _) :: (Leaf.val _) :: (Leaf.val _) :: (Leaf.val _) :: (Leaf.val _) :: (Leaf.val _) :: (Leaf.val _) :: (Leaf.val _) :: (Leaf.val _) :: (Leaf.val _) :: (Leaf.val _) :: (Leaf.val _) :: (Leaf.val _) :: (Leaf.val _) :: (Leaf.val _) :: (Leaf.val _) :: (Leaf.val _) :: (Leaf.val _) :: (Leaf.val _) :: (Leaf.val _) :: (Leaf.val _) :: (Leaf.val _) :: (Leaf.val _) :: (Leaf.val _) :: (Leaf.ref false false (fun v w => SetsAt w v [a])) :: (Leaf.val _) :: (Leaf.val _) :: (Leaf.val _) :: (Leaf.val _) :: ([] : List Leaf)) (k := 42) (b := #[0, 1, 3, 7, 7, 31, 63, 127, 255, 511, 1023, 255, 4095, 8191, 16383, 32767, 65535, 131071, 262143, 524287, 1048575, 1048575, 3145727, 8388607, 16777215, 33554431, 67108863, 134217727, 268435455, 67108863, 1073741823, 2147483647, 4294967295, 8589934591, 17179869183, 34359738367, 17179869183, 85899345919, 274877906943, 17179869183, 1099511627775, 2199023255551]) (ms := []) (E := Ext G0) mixed (by kernel_rfl) rfl (by kernel_rfl) rfl
      apply owed_walk rfl
      · intro w1 hw hf
        have htb := (htab.ext y5).ext hw.ofDrew
        go_wp2
        exact ⟨rfl, rfl, Ext.refl _ _⟩
      · simp
      · go_simp
        try rfl
      apply owed_walk rfl
      · intro w1 hw hf
        have htb := (htab.ext y5).ext hw.ofDrew
        go_wp2
        exact ⟨rfl, rfl, Ext.refl _ _⟩
      · simp
      · go_simp
        try rfl
      apply owed_walk rfl
      · intro w1 hw hf
        have htb := (htab.ext y5).ext hw.ofDrew
        go_wp2
        exact ⟨rfl, rfl, Ext.refl _ _⟩
      · simp
      · go_simp
        try rfl
      apply owed_walk rfl
      · intro w1 hw hf
        have htb := (htab.ext y5).ext hw.ofDrew
        obtain ⟨q0, q1, q2, q3⟩ := cells4 (ext_heapD hw fB (fun x => x))
        go_wp2
        exact ⟨rfl, rfl, Ext.refl _ _⟩
      · simp
      · go_simp
        try rfl
      apply owed_walk rfl
      · intro w1 hw hf
        have htb := (htab.ext y5).ext hw.ofDrew
        obtain ⟨q0, q1, q2, q3⟩ := cells4 (ext_heapD hw fA (fun x => x))
        go_wp2
        exact ⟨rfl, rfl, Ext.refl _ _⟩
      · simp
      · go_simp
        try rfl
      apply owed_walk rfl
      · intro w1 hw hf
        have htb := (htab.ext y5).ext hw.ofDrew
        go_wp2
        exact ⟨rfl, rfl, Ext.refl _ _⟩
      · simp
      · go_simp
        try rfl
      apply owed_walk rfl
      · intro w1 hw hf
        have htb := (htab.ext y5).ext hw.ofDrew
        go_wp2
        exact ⟨rfl, rfl, Ext.refl _ _⟩
      · simp
      · go_simp
        try rfl
      apply owed_walk rfl
      · intro w1 hw hf
        have htb := (htab.ext y5).ext hw.ofDrew
        go_wp2
        exact ⟨rfl, rfl, Ext.refl _ _⟩
      · simp
      · go_simp
        try rfl
      apply owed_walk rfl
      · intro w1 hw hf
        have htb := (htab.ext y5).ext hw.ofDrew
        obtain ⟨q0, q1, q2, q3⟩ := cells4 (ext_heapD hw fA (fun x => x))
        go_wp2
        exact ⟨rfl, rfl, Ext.refl _ _⟩
      · simp
      · go_simp
        try rfl
      apply owed_walk_ref rfl
      · exact fun v w w' h hx => SlAt.ext h hx
      · intro w1 hw hf
        have htb := (htab.ext y5).ext hw.ofDrew
        go_wp2_with (go_at_call 14; refine (h4.out _ htb).mono ?_; rintro e w2 ⟨v, rfl, hv, hx2⟩)
        exact ⟨rfl, hv, Ext.of_below hx2 _⟩
      · simp
      · intro v
        go_simp
        try rfl
      intro v9
      apply owed_walk rfl
      · intro w1 hw hf
        have htb := (htab.ext y5).ext hw.ofDrew
        have hv9 := hf _ (List.Mem.head _) (by dsimp only; decide)
        go_wp2_with (go_at_call 13; refine (h5.out _ _ hv9).mono ?_; rintro e w2 ⟨rfl, hx2⟩)
        exact ⟨rfl, rfl, Ext.of_below hx2 _⟩
      · simp
      · go_simp
        try rfl
      apply owed_walk rfl
      · intro w1 hw hf
        have htb := (htab.ext y5).ext hw.ofDrew
        obtain ⟨q0, q1, q2, q3⟩ := cells4 (ext_heapD hw fA (fun x => x))
        go_wp2
        exact ⟨rfl, rfl, Ext.refl _ _⟩
      · simp
      · go_simp
        try rfl
      apply owed_walk rfl
      · intro w1 hw hf
        have htb := (htab.ext y5).ext hw.ofDrew
        go_wp2
        exact ⟨rfl, rfl, Ext.refl _ _⟩
      · simp
      · go_simp
        try rfl
      apply owed_walk rfl
      · intro w1 hw hf
        have htb := (htab.ext y5).ext hw.ofDrew
        go_wp2
        exact ⟨rfl, rfl, Ext.refl _ _⟩
      · simp
      · go_simp
        try rfl
      apply owed_walk rfl
      · intro w1 hw hf
        have htb := (htab.ext y5).ext hw.ofDrew
        go_wp2
        exact ⟨rfl, rfl, Ext.refl _ _⟩
      · simp
      · go_simp
        try rfl
      apply owed_walk rfl
      · intro w1 hw hf
        have htb := (htab.ext y5).ext hw.ofDrew
        go_wp2
        exact ⟨rfl, rfl, Ext.refl _ _⟩
      · simp
      · go_simp
        try rfl
      apply owed_walk rfl
      · intro w1 hw hf
        have htb := (htab.ext y5).ext hw.ofDrew
        go_wp2
        exact ⟨rfl, rfl, Ext.refl _ _⟩
      · simp
      · go_simp
        try rfl
      apply owed_walk rfl
      · intro w1 hw hf
        have htb := (htab.ext y5).ext hw.ofDrew
        go_wp2
        exact ⟨rfl, rfl, Ext.refl _ _⟩
      · simp
      · go_simp
        try rfl
      apply owed_walk rfl
      · intro w1 hw hf
        have htb := (htab.ext y5).ext hw.ofDrew
        go_wp2
        exact ⟨rfl, rfl, Ext.refl _ _⟩
      · simp
      · go_simp
        try rfl
      apply owed_walk rfl
      · intro w1 hw hf
        have htb := (htab.ext y5).ext hw.ofDrew
        go_wp2
        exact ⟨rfl, rfl, Ext.refl _ _⟩
      · simp
      · go_simp
        try rfl
      apply owed_walk rfl
      · intro w1 hw hf
        have htb := (htab.ext y5).ext hw.ofDrew
        go_wp2
        exact ⟨rfl, rfl, Ext.refl _ _⟩
      · simp
      · go_simp
        try rfl
      apply owed_walk rfl
      · intro w1 hw hf
        have htb := (htab.ext y5).ext hw.ofDrew
        obtain ⟨q0, q1, q2, q3⟩ := cells4 (ext_heapD hw fA (fun x => x))
        go_wp2
        exact ⟨rfl, rfl, Ext.refl _ _⟩
      · simp
      · go_simp
        try rfl
      apply owed_walk rfl
      · intro w1 hw hf
        have htb := (htab.ext y5).ext hw.ofDrew
        go_wp2_with (go_at_call 15; refine (h3.out _).mono ?_; rintro e w2 ⟨rfl, hx2⟩)
        exact ⟨rfl, rfl, Ext.of_below hx2 _⟩
      · simp
      · go_simp
        try rfl
      apply owed_walk rfl
      · intro w1 hw hf
        have htb := (htab.ext y5).ext hw.ofDrew
        go_wp2
        exact ⟨rfl, rfl, Ext.refl _ _⟩
      · simp
      · go_simp
        try rfl
      apply owed_walk rfl
      · intro w1 hw hf
        have htb := (htab.ext y5).ext hw.ofDrew
        go_wp2
        exact ⟨rfl, rfl, Ext.refl _ _⟩
      · simp
      · go_simp
        try rfl
      apply owed_walk rfl
      · intro w1 hw hf
        have htb := (htab.ext y5).ext hw.ofDrew
        go_wp2
        exact ⟨rfl, rfl, Ext.refl _ _⟩
      · simp
      · go_simp
        try rfl
      apply owed_walk rfl
      · intro w1 hw hf
        have htb := (htab.ext y5).ext hw.ofDrew
        obtain ⟨q0, q1, q2, q3⟩ := cells4 (ext_heapD hw fA (fun x => x))
        go_wp2
        exact ⟨rfl, rfl, Ext.refl _ _⟩
      · simp
      · go_simp
        try rfl
      apply owed_walk rfl
      · intro w1 hw hf
        have htb := (htab.ext y5).ext hw.ofDrew
        go_wp2_with (go_at_call 16; refine (h6.out _ htb).mono ?_; rintro e w2 ⟨rfl, hx2⟩)
        exact ⟨rfl, rfl, Ext.of_below hx2 _⟩
      · simp
      · go_simp
        try rfl
      apply owed_walk rfl
      · intro w1 hw hf
        have htb := (htab.ext y5).ext hw.ofDrew
        go_wp2_with (go_at_call 16; refine (h7.out _ htb).mono ?_; rintro e w2 ⟨rfl, hx2⟩)
        exact ⟨rfl, rfl, Ext.of_below hx2 _⟩
      · simp
      · go_simp
        try rfl
      apply owed_walk rfl
      · intro w1 hw hf
        have htb := (htab.ext y5).ext hw.ofDrew
        obtain ⟨q0, q1, q2, q3⟩ := cells4 (ext_heapD hw fA (fun x => x))
        go_wp2
        exact ⟨rfl, rfl, Ext.refl _ _⟩
      · simp
      · go_simp
        try rfl
      apply owed_walk rfl
      · intro w1 hw hf
        have htb := (htab.ext y5).ext hw.ofDrew
        go_wp2_with (go_at_call 16; refine (h6.out _ htb).mono ?_; rintro e w2 ⟨rfl, hx2⟩)
        exact ⟨rfl, rfl, Ext.of_below hx2 _⟩
      · simp
      · go_simp
        try rfl
      apply owed_walk rfl
      · intro w1 hw hf
        have htb := (htab.ext y5).ext hw.ofDrew
        go_wp2
        exact ⟨rfl, rfl, Ext.refl _ _⟩
      · simp
      · go_simp
        try rfl
      apply owed_walk rfl
      · intro w1 hw hf
        have htb := (htab.ext y5).ext hw.ofDrew
        go_wp2
        exact ⟨rfl, rfl, Ext.refl _ _⟩
      · simp
      · go_simp
        try rfl
      apply owed_walk rfl
      · intro w1 hw hf
        have htb := (htab.ext y5).ext hw.ofDrew
        go_wp2
        exact ⟨rfl, rfl, Ext.refl _ _⟩
      · simp
      · go_simp
        try rfl
      apply owed_walk rfl
      · intro w1 hw hf
        have htb := (htab.ext y5).ext hw.ofDrew
        obtain ⟨q0, q1, q2, q3⟩ := cells4 (ext_heapD hw fA (fun x => x))
        go_wp2
        exact ⟨rfl, rfl, Ext.refl _ _⟩
      · simp
      · go_simp
        try rfl
      apply owed_walk rfl
      · intro w1 hw hf
        have htb := (htab.ext y5).ext hw.ofDrew
        go_wp2_with (go_at_call 16; refine (h6.out _ htb).mono ?_; rintro e w2 ⟨rfl, hx2⟩)
        exact ⟨rfl, rfl, Ext.of_below hx2 _⟩
      · simp
      · go_simp
        try rfl
      apply owed_walk rfl
      · intro w1 hw hf
        have htb := (htab.ext y5).ext hw.ofDrew
        obtain ⟨q0, q1, q2, q3⟩ := cells4 (ext_heapD hw fA (fun x => x))
        go_wp2
        exact ⟨rfl, rfl, Ext.refl _ _⟩
      · simp
      · go_simp
        try rfl
      apply owed_walk_ref rfl
      · exact fun v w w' h hx => SlAt.ext h hx
      · intro w1 hw hf
        have htb := (htab.ext y5).ext hw.ofDrew
        go_wp2
        exact ⟨rfl, sets_new _ [a] _ _ rfl (by simp), (Ext.refl _ _).alloc _⟩
      · simp
      · intro v
        go_simp
        try rfl
      intro v37
      apply owed_walk rfl
      · intro w1 hw hf
        have htb := (htab.ext y5).ext hw.ofDrew
        have hv37 := hf _ (List.Mem.head _) (by dsimp only; decide)
        go_wp2_with (go_at_call 17; refine (h8.out _ _ hv37).mono ?_; rintro e w2 ⟨rfl, hx2⟩)
        exact ⟨rfl, rfl, Ext.of_below hx2 _⟩
      · simp
      · go_simp
        try rfl
      apply owed_walk rfl
      · intro w1 hw hf
        have htb := (htab.ext y5).ext hw.ofDrew
        obtain ⟨q0, q1, q2, q3⟩ := cells4 (ext_heapD hw fA (fun x => x))
        go_wp2
        exact ⟨rfl, rfl, Ext.refl _ _⟩
      · simp
      · go_simp
        try rfl
      apply owed_walk rfl
      · intro w1 hw hf
        have htb := (htab.ext y5).ext hw.ofDrew
        go_wp2
        exact ⟨rfl, rfl, Ext.refl _ _⟩
      · simp
      · go_simp
        try rfl
      apply owed_walk rfl
      · intro w1 hw hf
        have htb := (htab.ext y5).ext hw.ofDrew
        go_wp2
        exact ⟨rfl, rfl, Ext.refl _ _⟩
      · simp
      · go_simp
        try rfl
      apply owed_end
      intro w6 hw _
      refine Tail.nil rfl ?_
      replace fA := ext_heapD hw fA (fun x => x)
      have y6 := y5.trans hw.ofDrew
      have hl6 := hl.out.ext y6
      clear hw y5 fB hq hq2
      obtain ⟨rfl, _, hmx⟩ := hl0.length
      have hs : (((l.length : Int) ≤ 130) ∧ RunsAt w6 (.slice A l.length c) (l.take 130)) ∨ ((¬ (l.length : Int) ≤ 130) ∧ RunsAt w6 (.slice A 130 c) (l.take 130)) := by
        have h0 := hl6.take 130
        by_cases h : l.length ≤ 130
        · rw [Nat.min_eq_left h] at h0
          exact .inl ⟨by omega, h0⟩
        · rw [Nat.min_eq_right (by omega)] at h0
          exact .inr ⟨by omega, h0⟩
      clear hl6 hl0 hl hcells hvr0 x4
      rcases hs with ⟨hle, hs⟩ | ⟨hle, hs⟩
      all_goals
        replace hs := Lib.hid hs
        go_wp2_with fail
        refine (h9.out _ _ hs.out).mono ?_
        rintro e w7 ⟨rfl, b7⟩
        have x7 := Ext.of_below b7 G0
        have y7 := y6.trans x7
        clear b7
        cases hfs : fromS (l.take 130) with
        | none =>
          simp only [fromV]
          clear hfs
          go_wp2_with fail
          generalize hwz : World.alloc w7 _ = w8
          have fS : w8.heap[w7.heap.size]? = some (.cells (setC 0#256) 24 (0, 0)) := by rw [← hwz]; exact heap_new _ _
          have y8 : Ext G0 w w8 := by rw [← hwz]; exact y7.alloc _
          clear hwz x7 y7
          generalize w7.heap.size = n7 at *
          apply region_phi (leaves := (Leaf.val _) :: (Leaf.val _) :: (Leaf.val _) :: (Leaf.val _) :: (Leaf.val _) :: (Leaf.val _) :: (Leaf.val _) :: (Leaf.val _) :: (Leaf.val _) :: (Leaf.val _) :: (Leaf.val _) :: (Leaf.val _) :: (Leaf.val _) :: (Leaf.val _) :: (Leaf.val _) :: (Leaf.val _) :: (Leaf.val _) :: ([] : List Leaf)) (k := 17) (b := #[0, 1, 3, 7, 7, 31, 63, 127, 255, 511, 255, 255, 2303, 6399, 15615, 32767, 65535, 131071]) (ms := []) (E := Ext G0) mixed (by kernel_rfl) rfl (by kernel_rfl) rfl
          apply owed_walk rfl
          · intro w1 hw hf
            go_wp2
            exact ⟨rfl, rfl, Ext.refl _ _⟩
          · simp
          · go_simp
            try rfl
          apply owed_walk rfl
          · intro w1 hw hf
            go_wp2
            exact ⟨rfl, rfl, Ext.refl _ _⟩
          · simp
          · go_simp
            try rfl
          apply owed_walk rfl
          · intro w1 hw hf
            go_wp2
            exact ⟨rfl, rfl, Ext.refl _ _⟩
          · simp
          · go_simp
            try rfl
          apply owed_walk rfl
          · intro w1 hw hf
            obtain ⟨q0, q1, q2, q3⟩ := cells4 (ext_heapD hw fS (fun x => x))
            go_wp2
            exact ⟨rfl, rfl, Ext.refl _ _⟩
          · simp
          · go_simp
            try rfl
          apply owed_walk rfl
          · intro w1 hw hf
            go_wp2
            exact ⟨rfl, rfl, Ext.refl _ _⟩
          · simp
          · go_simp
            try rfl
          apply owed_walk rfl
          · intro w1 hw hf
            go_wp2
            exact ⟨rfl, rfl, Ext.refl _ _⟩
          · simp
          · go_simp
            try rfl
          apply owed_walk rfl
          · intro w1 hw hf
            go_wp2
            exact ⟨rfl, rfl, Ext.refl _ _⟩
          · simp
          · go_simp
            try rfl
          apply owed_walk rfl
          · intro w1 hw hf
            go_wp2
            exact ⟨rfl, rfl, Ext.refl _ _⟩
          · simp
          · go_simp
            try rfl
          apply owed_walk rfl
          · intro w1 hw hf
            obtain ⟨q0, q1, q2, q3⟩ := cells4 (ext_heapD hw fS (fun x => x))
            go_wp2
            exact ⟨rfl, rfl, Ext.refl _ _⟩
          · simp
          · go_simp
            try rfl
          apply owed_walk rfl
          · intro w1 hw hf
            go_wp2
            exact ⟨rfl, rfl, Ext.refl _ _⟩
          · simp
          · go_simp
            try rfl
          apply owed_walk rfl
          · intro w1 hw hf
            go_wp2
            exact ⟨rfl, rfl, Ext.refl _ _⟩
          · simp
          · go_simp
            try rfl
          apply owed_walk rfl
          · intro w1 hw hf
            go_wp2
            exact ⟨rfl, rfl, Ext.refl _ _⟩
          · simp
          · go_simp
            try rfl
          apply owed_walk rfl
          · intro w1 hw hf
            go_wp2
            exact ⟨rfl, rfl, Ext.refl _ _⟩
          · simp
          · go_simp
            try rfl
          apply owed_walk rfl
          · intro w1 hw hf
            go_wp2
            exact ⟨rfl, rfl, Ext.refl _ _⟩
          · simp
          · go_simp
            try rfl
          apply owed_walk rfl
          · intro w1 hw hf
            go_wp2
            exact ⟨rfl, rfl, Ext.refl _ _⟩
          · simp
          · go_simp
            try rfl
          apply owed_walk rfl
          · intro w1 hw hf
            go_wp2
            exact ⟨rfl, rfl, Ext.refl _ _⟩
          · simp
          · go_simp
            try rfl
          apply owed_walk rfl
          · intro w1 hw hf
            go_wp2
            exact ⟨rfl, rfl, Ext.refl _ _⟩
          · simp
          · go_simp
            try rfl
          apply owed_end
          intro w9 hw _
          unfold Tail
          have y9 := y8.trans hw.ofDrew
          go_wp2
          go_ret
          exact ⟨rfl, y9.below⟩
        | some u =>
          simp only [fromV]
          have h10u := Lib.hid (h10.out u hfs)
          clear hfs
          go_wp2_with fail
          generalize hwz : World.alloc w7 _ = w8
          have fS : w8.heap[w7.heap.size]? = some (.cells (setC u) 24 (0, 0)) := by rw [← hwz]; exact heap_new _ _
          have x8 : Ext G0 w6 w8 := by rw [← hwz]; exact x7.alloc _
          have y8 : Ext G0 w w8 := by rw [← hwz]; exact y7.alloc _
          clear hwz x7 y7
          generalize w7.heap.size = n7 at *
          apply region_phi (leaves := (Leaf.val _) :: (Leaf.val _) :: (Leaf.val _) :: (Leaf.val _) :: (Leaf.val _) :: (Leaf.val _) :: (Leaf.val _) :: (Leaf.val _) :: (Leaf.val _) :: (Leaf.ref false false (fun v w => RunsAt w v (l.take 130))) :: (Leaf.val _) :: (Leaf.val _) :: (Leaf.val _) :: (Leaf.val _) :: (Leaf.val _) :: (Leaf.val _) :: (Leaf.val _) :: ([] : List Leaf)) (k := 17) (b := #[0, 1, 3, 7, 7, 31, 63, 127, 255, 511, 255, 255, 2303, 6399, 15615, 32767, 65535, 131071]) (ms := []) (E := Ext G0) mixed (by kernel_rfl) rfl (by kernel_rfl) rfl
          apply owed_walk rfl
          · intro w1 hw hf
            go_wp2
            exact ⟨rfl, rfl, Ext.refl _ _⟩
          · simp
          · go_simp
            try rfl
          apply owed_walk rfl
          · intro w1 hw hf
            go_wp2
            exact ⟨rfl, rfl, Ext.refl _ _⟩
          · simp
          · go_simp
            try rfl
          apply owed_walk rfl
          · intro w1 hw hf
            go_wp2
            exact ⟨rfl, rfl, Ext.refl _ _⟩
          · simp
          · go_simp
            try rfl
          apply owed_walk rfl
          · intro w1 hw hf
            obtain ⟨q0, q1, q2, q3⟩ := cells4 (ext_heapD hw fS (fun x => x))
            go_wp2
            exact ⟨rfl, rfl, Ext.refl _ _⟩
          · simp
          · go_simp
            try rfl
          apply owed_walk rfl
          · intro w1 hw hf
            go_wp2
            exact ⟨rfl, rfl, Ext.refl _ _⟩
          · simp
          · go_simp
            try rfl
          apply owed_walk rfl
          · intro w1 hw hf
            go_wp2
            exact ⟨rfl, rfl, Ext.refl _ _⟩
          · simp
          · go_simp
            try rfl
          apply owed_walk rfl
          · intro w1 hw hf
            go_wp2
            exact ⟨rfl, rfl, Ext.refl _ _⟩
          · simp
          · go_simp
            try rfl
          apply owed_walk rfl
          · intro w1 hw hf
            go_wp2
            exact ⟨rfl, rfl, Ext.refl _ _⟩
          · simp
          · go_simp
            try rfl
          apply owed_walk rfl
          · intro w1 hw hf
            obtain ⟨q0, q1, q2, q3⟩ := cells4 (ext_heapD hw fS (fun x => x))
            go_wp2
            exact ⟨rfl, rfl, Ext.refl _ _⟩
          · simp
          · go_simp
            try rfl
          apply owed_walk_ref rfl
          · exact fun v w w' h hx => SlAt.ext h hx
          · intro w1 hw hf
            go_wp2_with (go_at_call 11; have htb := (htab.ext y8).ext hw.ofDrew; refine (h10u.out _ htb).mono ?_; rintro e w2 ⟨v, rfl, hv, hx2⟩)
            exact ⟨rfl, hv, Ext.of_below hx2 _⟩
          · simp
          · intro v
            go_simp
            try rfl
          intro v9
          apply owed_walk rfl
          · intro w1 hw hf
            go_wp2
            exact ⟨rfl, rfl, Ext.refl _ _⟩
          · simp
          · go_simp
            try rfl
          apply owed_walk rfl
          · intro w1 hw hf
            go_wp2
            exact ⟨rfl, rfl, Ext.refl _ _⟩
          · simp
          · go_simp
            try rfl
          apply owed_walk rfl
          · intro w1 hw hf
            go_wp2
            exact ⟨rfl, rfl, Ext.refl _ _⟩
          · simp
          · go_simp
            try rfl
          apply owed_walk rfl
          · intro w1 hw hf
            go_wp2
            exact ⟨rfl, rfl, Ext.refl _ _⟩
          · simp
          · go_simp
            try rfl
          apply owed_walk rfl
          · intro w1 hw hf
            go_wp2
            exact ⟨rfl, rfl, Ext.refl _ _⟩
          · simp
          · go_simp
            try rfl
          apply owed_walk rfl
          · intro w1 hw hf
            have hv9 := hf _ (List.Mem.head _) (by dsimp only; decide)
            go_wp2_with (go_at_call 18; refine (equalR_same (l.take 130) _ _ _ hv9 ((hs.out.ext x8).ext hw.ofDrew)).mono ?_; rintro e w2 ⟨rfl, hx2⟩)
            exact ⟨rfl, rfl, Ext.of_below hx2 _⟩
          · simp
          · go_simp
            try rfl
          apply owed_walk rfl
          · intro w1 hw hf
            go_wp2
            exact ⟨rfl, rfl, Ext.refl _ _⟩
          · simp
          · go_simp
            try rfl
          apply owed_end
          intro w9 hw _
          unfold Tail
          have y9 := y8.trans hw.ofDrew
          go_wp2
          go_ret
          exact ⟨rfl, y9.below⟩

end Go.Proofs.YtejialnbelleeaaDoor
