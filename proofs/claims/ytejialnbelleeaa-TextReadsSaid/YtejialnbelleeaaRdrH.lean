/-
  The reference for sets: bit, Has.
-/
import Derived.Test.YtejialnbelleeaaTxtP
namespace Go.Proofs.Ytejialnbelleeaa
open Go Go.RowKit

theorem two_pow_lt {k : Nat} (h : k < 64) : (2 : Int) ^ k < 18446744073709551616 := by
  have h1 : (2 : Nat) ^ k < 2 ^ 64 := Nat.pow_lt_pow_right (by decide) h
  have h2 : (((2 : Nat) ^ k : Nat) : Int) < ((2 ^ 64 : Nat) : Int) := Int.ofNat_lt.2 h1
  rw [Int.natCast_pow] at h2
  have h3 : ((2 ^ 64 : Nat) : Int) = 18446744073709551616 := by decide
  rw [h3] at h2
  exact h2
theorem two_pow_pos (k : Nat) : (0 : Int) < (2 : Int) ^ k := by
  have h := Nat.two_pow_pos k
  have : (0 : Int) < (((2 : Nat) ^ k : Nat) : Int) := by omega
  rw [Int.natCast_pow] at this
  exact this

set_option maxHeartbeats 1000000 in
theorem bit_any (n : Nat) (w : World) (hn : n < 64) :
    Calls Try.prog 65 #[.int .i64 (n : Int)] w fun e w' => e = .returned (.int .u64 ((2 : Int) ^ n)) ∧ w = w' := by
  go_enter Try.func65, Try.ntmps65
  go_wp2
  go_loop [3, 5] (fun x i => ∃ k : Nat, k ≤ n ∧ i = .int .i64 (k : Int) ∧ x = .int .u64 ((2 : Int) ^ k)) (fun _ i => n - (intOf i).toNat)
  case atStart => exact ⟨0, Nat.zero_le _, rfl, rfl⟩
  case round =>
    obtain ⟨k, hk, rfl, rfl⟩ := hrel
    by_cases hlt : k < n
    · have h1 := two_pow_lt (k := k + 1) (by omega)
      have h0 := two_pow_pos k
      have h2 : (2 : Int) ^ (k + 1) = 2 * 2 ^ k := by rw [Int.pow_succ, Int.mul_comm]
      rw [h2] at h1
      replace h2 := Lib.hid h2
      have s1 : IntKind.u64.wrap (2 * 2 ^ k) = 2 * 2 ^ k := by rw [IntKind.wrap_u64]; omega
      generalize (2 : Int) ^ k = y at *
      clear h1
      go_wp2
      go_round
      case rel => exact ⟨k + 1, by omega, by go_num, by rw [h2.out]⟩
      case measure => simp [intOf]; omega
    · obtain rfl : k = n := by omega
      go_wp2
      go_ret
      exact ⟨rfl, rfl⟩

theorem div_bit (x : W64) (k : Nat) : ((x.toNat : Int) / 2 ^ k % 2 == 1) = x.getLsbD k := by
  rw [BitVec.getLsbD, Nat.testBit_eq_decide_div_mod_eq]
  have : ((x.toNat : Int) / 2 ^ k % 2) = ((x.toNat / 2 ^ k % 2 : Nat) : Int) := by simp
  rw [this, Bool.eq_iff_iff]
  simp
  omega

set_option maxRecDepth 100000 in
set_option maxHeartbeats 2000000 in
theorem rhas_any (s : Bs) (b : Nat) (w : World) (hb : b < 256) :
    Calls Try.prog 61 #[setV s, .int .i64 (b : Int)] w fun e w' => e = .returned (.bool (s.getLsbD b)) ∧ Below w.heap.size w w' := by
  obtain ⟨q, r, hq, hr, rfl⟩ : ∃ q r, q < 4 ∧ r < 64 ∧ b = 64 * q + r := ⟨b / 64, b % 64, by omega, by omega, by omega⟩
  have e1 : ((64 * q + r : Nat) : Int) / 64 = (q : Int) := by omega
  have e2 : ((64 * q + r : Nat) : Int) % 64 = (r : Int) := by omega
  have hfin : (((word s q).toNat : Int) / 2 ^ r % 2 == 1) = s.getLsbD (64 * q + r) := by rw [div_bit, word_bit _ _ _ hr]
  obtain ⟨b, hbb⟩ : ∃ b, b = 64 * q + r := ⟨_, rfl⟩
  rw [← hbb] at e1 e2 hfin hb ⊢
  have HF := Lib.hid hfin
  have hpl := two_pow_lt hr
  have hpp := two_pow_pos r
  have hbd : ∀ w, Calls Try.prog 65 #[.int .i64 (r : Int)] w fun e w' => e = .returned (.int .u64 ((2 : Int) ^ r)) ∧ w = w' := fun w => bit_any r w hr
  have HB := Lib.hid hbd
  clear hfin hbb hbd
  generalize (2 : Int) ^ r = y at *
  have hx := (word s q).isLt
  have z0 : (0 : Int) ≤ ((word s q).toNat : Int) / y := Int.ediv_nonneg (by omega) (by omega)
  have z1 : ((word s q).toNat : Int) / y ≤ ((word s q).toNat : Int) := Int.ediv_le_self _ (by omega)
  have s1 : IntKind.u64.wrap (((word s q).toNat : Int) / y) = ((word s q).toNat : Int) / y := by rw [IntKind.wrap_u64]; omega
  have s2 : (((word s q).toNat : Int) / y).tmod 2 = ((word s q).toNat : Int) / y % 2 := Int.tmod_eq_emod_of_nonneg z0
  clear z1
  have i1 : (q : Int) < 4 := by omega
  have i2 : (0 : Int) ≤ (b : Int) := by omega
  have i3 : (b : Int) < 256 := by omega
  go_enter Try.func61, Try.ntmps61
  go_wp2
  generalize hwz : World.alloc w _ = wz
  have fS : wz.heap[w.heap.size]? = some (.cells (setC s) 25 (0, 0)) := by rw [← hwz]; exact heap_new _ _
  have y0 : Ext G0 w wz := by rw [← hwz]; exact (Ext.refl _ _).alloc _
  clear hwz
  apply region_phi (leaves := (Leaf.val _) :: (Leaf.val _) :: (Leaf.val _) :: (Leaf.val _) :: (Leaf.val _) :: (Leaf.val _) :: (Leaf.val _) :: (Leaf.val _) :: (Leaf.val _) :: (Leaf.val _) :: ([] : List Leaf)) (k := 10) (b := #[0, 1, 3, 7, 0, 16, 48, 127, 255, 511, 1023]) (ms := []) (E := Ext G0) mixed (by kernel_rfl) rfl (by kernel_rfl) rfl
  apply owed_walk rfl
  · intro w1 hw hf
    have c0 : w1.cell? ⟨w.heap.size, q, none⟩ = some (wordV (word s q)) := (blk_cell (ext_heapD hw fS (fun x => x)) q).trans (setC_get s q hq)
    go_wp2
    exact ⟨rfl, rfl, Ext.refl _ _⟩
  · simp
  · go_simp
    try rfl
  apply owed_walk rfl
  · intro w1 hw hf
    have c0 : w1.cell? ⟨w.heap.size, q, none⟩ = some (wordV (word s q)) := (blk_cell (ext_heapD hw fS (fun x => x)) q).trans (setC_get s q hq)
    go_wp2
    exact ⟨rfl, rfl, Ext.refl _ _⟩
  · simp
  · go_simp
    try rfl
  apply owed_walk rfl
  · intro w1 hw hf
    have c0 : w1.cell? ⟨w.heap.size, q, none⟩ = some (wordV (word s q)) := (blk_cell (ext_heapD hw fS (fun x => x)) q).trans (setC_get s q hq)
    go_wp2
    exact ⟨rfl, rfl, Ext.refl _ _⟩
  · simp
  · go_simp
    try rfl
  apply owed_walk rfl
  · intro w1 hw hf
    have c0 : w1.cell? ⟨w.heap.size, q, none⟩ = some (wordV (word s q)) := (blk_cell (ext_heapD hw fS (fun x => x)) q).trans (setC_get s q hq)
    go_wp2
    exact ⟨rfl, rfl, Ext.refl _ _⟩
  · simp
  · go_simp
    try rfl
  apply owed_walk rfl
  · intro w1 hw hf
    have c0 : w1.cell? ⟨w.heap.size, q, none⟩ = some (wordV (word s q)) := (blk_cell (ext_heapD hw fS (fun x => x)) q).trans (setC_get s q hq)
    go_wp2
    exact ⟨rfl, rfl, Ext.refl _ _⟩
  · simp
  · go_simp
    try rfl
  apply owed_walk rfl
  · intro w1 hw hf
    have c0 : w1.cell? ⟨w.heap.size, q, none⟩ = some (wordV (word s q)) := (blk_cell (ext_heapD hw fS (fun x => x)) q).trans (setC_get s q hq)
    go_wp2
    exact ⟨rfl, rfl, Ext.refl _ _⟩
  · simp
  · go_simp
    try rfl
  apply owed_walk rfl
  · intro w1 hw hf
    have c0 : w1.cell? ⟨w.heap.size, q, none⟩ = some (wordV (word s q)) := (blk_cell (ext_heapD hw fS (fun x => x)) q).trans (setC_get s q hq)
    go_wp2_with (go_at_call 65; refine (HB.out _).mono ?_; rintro e w2 ⟨rfl, rfl⟩)
    exact ⟨rfl, rfl, Ext.refl _ _⟩
  · simp
  · go_simp
    try rfl
  apply owed_walk rfl
  · intro w1 hw hf
    have c0 : w1.cell? ⟨w.heap.size, q, none⟩ = some (wordV (word s q)) := (blk_cell (ext_heapD hw fS (fun x => x)) q).trans (setC_get s q hq)
    go_wp2
    exact ⟨rfl, rfl, Ext.refl _ _⟩
  · simp
  · go_simp
    try rfl
  apply owed_walk rfl
  · intro w1 hw hf
    have c0 : w1.cell? ⟨w.heap.size, q, none⟩ = some (wordV (word s q)) := (blk_cell (ext_heapD hw fS (fun x => x)) q).trans (setC_get s q hq)
    go_wp2
    exact ⟨rfl, rfl, Ext.refl _ _⟩
  · simp
  · go_simp
    try rfl
  apply owed_walk rfl
  · intro w1 hw hf
    have c0 : w1.cell? ⟨w.heap.size, q, none⟩ = some (wordV (word s q)) := (blk_cell (ext_heapD hw fS (fun x => x)) q).trans (setC_get s q hq)
    go_wp2
    exact ⟨rfl, rfl, Ext.refl _ _⟩
  · simp
  · go_simp
    try rfl
  apply owed_end
  intro w1 hw _
  unfold Tail
  go_wp2
  go_ret
  exact ⟨congrArg (fun x => Ending.returned (.bool x)) HF.out, (y0.trans hw.ofDrew).below⟩

end Go.Proofs.Ytejialnbelleeaa
