/-
  Package math/bits: OnesCount64, TrailingZeros64; package set: Count, Next.
-/
import Derived.Test.YtejialnbelleeaaDoorSetB
import Derived.Test.YtejialnbelleeaaDoorBits
namespace Go.Proofs.YtejialnbelleeaaDoor
open Go Go.RowKit

theorem add_word (x y : W64) : IntKind.u64.wrap ((x.toNat : Int) + (y.toNat : Int)) = ((x + y).toNat : Int) := by
  rw [IntKind.wrap_u64, BitVec.toNat_add, Int.natCast_emod]; simp
theorem mul_word (x y : W64) : IntKind.u64.wrap ((x.toNat : Int) * (y.toNat : Int)) = ((x * y).toNat : Int) := by
  rw [IntKind.wrap_u64, BitVec.toNat_mul, Int.natCast_emod]; simp
theorem shr_word (x : W64) (k : Nat) : (x.toNat : Int) / (2 ^ k : Nat) = ((x >>> k).toNat : Int) := by
  rw [BitVec.toNat_ushiftRight, Nat.shiftRight_eq_div_pow, Int.natCast_ediv]

set_option maxHeartbeats 1000000 in
theorem ones_any (x : W64) (w : World) :
    Calls Tryd.prog 50 #[wordV x] w fun e w' => e = .returned (.int .i64 (pcn x.getLsbD 64 : Int)) ∧ w = w' := by
  go_enter Tryd.func50, Tryd.ntmps50
  go_wp2
  go_ret
  refine ⟨?_, rfl⟩
  refine congrArg (fun z => Ending.returned (.int .i64 z)) ?_
  have h1 : ∀ x : W64, ((x.toNat : Int) / (2 : Int)) = ((x >>> 1).toNat : Int) := fun x => shr_word x 1
  have h2 : ∀ x : W64, ((x.toNat : Int) / (4 : Int)) = ((x >>> 2).toNat : Int) := fun x => shr_word x 2
  have h4 : ∀ x : W64, ((x.toNat : Int) / (16 : Int)) = ((x >>> 4).toNat : Int) := fun x => shr_word x 4
  have h8 : ∀ x : W64, ((x.toNat : Int) / (256 : Int)) = ((x >>> 8).toNat : Int) := fun x => shr_word x 8
  have h16 : ∀ x : W64, ((x.toNat : Int) / (65536 : Int)) = ((x >>> 16).toNat : Int) := fun x => shr_word x 16
  have h32 : ∀ x : W64, ((x.toNat : Int) / (4294967296 : Int)) = ((x >>> 32).toNat : Int) := fun x => shr_word x 32
  have a0 : ∀ x : W64, bits .and .u64 (x.toNat : Int) 6148914691236517205 = ((x &&& m0).toNat : Int) := fun x => bits_and x m0
  have a1 : ∀ x : W64, bits .and .u64 (x.toNat : Int) 3689348814741910323 = ((x &&& m1).toNat : Int) := fun x => bits_and x m1
  have a2 : ∀ x : W64, bits .and .u64 (x.toNat : Int) 1085102592571150095 = ((x &&& m2).toNat : Int) := fun x => bits_and x m2
  simp only [h1, h2, h4, h8, h16, h32, a0, a1, a2, add_word]
  obtain ⟨e1, e2⟩ := ones6_eq x
  rw [i64_and127, ← e1]
  show wrap64 ((ones6 x).toNat : Int) % 128 = _
  rw [show wrap64 ((ones6 x).toNat : Int) = ((ones6 x).toNat : Int) from by unfold wrap64; omega]
  simp

/-- How many bytes a set has. -/
def countS (s : Bs) : Nat := pcn s.getLsbD 256

theorem countS_words (s : Bs) : countS s = pcn (word s 0).getLsbD 64 + pcn (word s 1).getLsbD 64 + pcn (word s 2).getLsbD 64 + pcn (word s 3).getLsbD 64 := by
  have h : ∀ j, pcn (word s j).getLsbD 64 = pcn (fun i => s.getLsbD (64 * j + i)) 64 := fun j => pcn_congr 64 fun i hi => word_bit s j i hi
  have e0 : pcn s.getLsbD 64 = pcn (word s 0).getLsbD 64 := by rw [h]; exact pcn_congr 64 fun i _ => by rw [Nat.mul_zero, Nat.zero_add]
  have e1 : pcn s.getLsbD 128 = pcn s.getLsbD 64 + pcn (word s 1).getLsbD 64 := by rw [h]; exact pcn_add _ 64 64
  have e2 : pcn s.getLsbD 192 = pcn s.getLsbD 128 + pcn (word s 2).getLsbD 64 := by rw [h]; exact pcn_add _ 128 64
  have e3 : pcn s.getLsbD 256 = pcn s.getLsbD 192 + pcn (word s 3).getLsbD 64 := by rw [h]; exact pcn_add _ 192 64
  unfold countS
  rw [e3, e2, e1, e0]

set_option maxHeartbeats 2000000 in
theorem count_any (s : Bs) (w : World) :
    Calls Tryd.prog 15 #[setV s] w fun e w' => e = .returned (.int .i64 (countS s : Int)) ∧ Below w.heap.size w w' := by
  have i0 := fun w => (index_set s w).1
  have i1 := fun w => (index_set s w).2.1
  have i2 := fun w => (index_set s w).2.2.1
  have i3 := fun w => (index_set s w).2.2.2
  have p0 := pcn_le (word s 0).getLsbD 64
  have p1 := pcn_le (word s 1).getLsbD 64
  have p2 := pcn_le (word s 2).getLsbD 64
  have p3 := pcn_le (word s 3).getLsbD 64
  rw [countS_words]
  go_enter Tryd.func15, Tryd.ntmps15
  go_wp2
  refine wp_loop_rounds 5 ?_
  iterate 5
    rw [rounds_succ]
    go_wp2_with (go_at_call 50; refine (ones_any _ _).mono ?_; rintro e w2 ⟨rfl, rfl⟩)
  go_ret
  exact ⟨congrArg (fun z => Ending.returned (.int .i64 z)) (by simp), (Below.refl _ _).alloc (Nat.le_refl _) _⟩

/-! ### The least bit -/

def deB : List Nat := [0, 1, 56, 2, 57, 49, 28, 3, 61, 58, 42, 50, 38, 29, 17, 4, 62, 47, 59, 36, 45, 43, 51, 22, 53, 39, 33, 30, 24, 18, 12, 5, 63, 55, 48, 27, 60, 41, 37, 16, 46, 35, 44, 21, 52, 32, 23, 11, 54, 26, 40, 15, 34, 20, 31, 10, 25, 14, 19, 9, 13, 8, 7, 6]
/-- The table of math/bits lies in memory. -/
def TabOk (w : World) : Prop := ∃ t, w.heap[0]? = some (.cells ((deB.map fun n : Nat => Value.int .u8 (n : Int)).toArray) t (0, 0))
theorem TabOk.ext {w w' : World} (h : TabOk w) (hx : Ext G0 w w') : TabOk w' := let ⟨t, h⟩ := h; ⟨t, ext_heap hx h (fun x => x)⟩
theorem TabOk.below {w w' : World} (h : TabOk w) (hx : Below w.heap.size w w') : TabOk w' := h.ext (Ext.of_below hx _)
theorem TabOk.cell {w : World} (h : TabOk w) (i : Nat) (hi : i < 64) : w.cell? ⟨0, i, none⟩ = some (.int .u8 ((deB.getD i 0 : Nat) : Int)) := by
  obtain ⟨t, h⟩ := h
  rw [blk_cell h]
  have hl : i < deB.length := hi
  simp [hl]

/-- There is a least one. -/
theorem least_bit {p : Nat → Bool} : ∀ n, (∃ i, i < n ∧ p i = true) → ∃ t, t < n ∧ p t = true ∧ ∀ i, i < t → p i = false := by
  intro n
  induction n with
  | zero => rintro ⟨i, hi, _⟩; omega
  | succ n ih =>
    rintro ⟨i, hi, hp⟩
    by_cases h : ∃ i, i < n ∧ p i = true
    · obtain ⟨t, h1, h2, h3⟩ := ih h
      exact ⟨t, by omega, h2, h3⟩
    · have hn : ∀ i, i < n → p i = false := fun i hi => by
        cases e : p i with
        | false => rfl
        | true => exact absurd ⟨i, hi, e⟩ h
      have : i = n := by
        rcases Nat.lt_or_ge i n with h1 | h1
        · rw [hn i h1] at hp; cases hp
        · omega
      subst this
      exact ⟨i, by omega, hp, hn⟩

theorem ne_zero_bit {x : W64} (h : x ≠ 0#64) : ∃ i, i < 64 ∧ x.getLsbD i = true := by
  by_cases hx : ∃ i, i < 64 ∧ x.getLsbD i = true
  · exact hx
  · exfalso
    apply h
    apply BitVec.eq_of_getLsbD_eq
    intro i hi
    cases e : x.getLsbD i with
    | false => simp
    | true => exact absurd ⟨i, hi, e⟩ hx

theorem and_neg (x : W64) (t : Nat) (ht : t < 64) (h1 : x.getLsbD t = true) (h2 : ∀ i, i < t → x.getLsbD i = false) : x &&& -x = BitVec.twoPow 64 t := by
  apply BitVec.eq_of_getLsbD_eq
  intro i hi
  rw [BitVec.getLsbD_and, BitVec.getLsbD_neg, BitVec.getLsbD_twoPow]
  rcases Nat.lt_trichotomy i t with h | h | h
  · simp [h2 i h, Nat.ne_of_gt h]
  · subst h
    have hn : ¬ ∃ j, j < i ∧ x.getLsbD j = true := fun ⟨j, hj, e⟩ => by rw [h2 j hj] at e; cases e
    rw [h1, decide_eq_false hn]
    simp [hi]
  · have hy : ∃ j, j < i ∧ x.getLsbD j = true := ⟨t, h, h1⟩
    simp [hi, hy, Nat.ne_of_lt h]

theorem deB_all : ∀ t : Fin 64, deB.getD ((BitVec.twoPow 64 t.val * 0x03f79d71b4ca8b09#64) >>> 58).toNat 0 = t.val ∧ ((BitVec.twoPow 64 t.val * 0x03f79d71b4ca8b09#64) >>> 58).toNat < 64 := by decide +kernel

theorem neg_word (x : W64) : IntKind.u64.wrap (-(x.toNat : Int)) = ((-x).toNat : Int) := by
  rw [IntKind.wrap_u64, BitVec.toNat_neg]
  have := x.isLt
  omega

set_option maxHeartbeats 1000000 in
theorem tz_any (x : W64) (t : Nat) (ht : t < 64) (h1 : x.getLsbD t = true) (h2 : ∀ i, i < t → x.getLsbD i = false) (w : World) (htab : TabOk w) :
    Calls Tryd.prog 60 #[wordV x] w fun e w' => e = .returned (.int .i64 (t : Int)) ∧ w = w' := by
  have hne : ((x.toNat : Int) == 0) = false := by
    have : x.toNat ≠ 0 := fun e => by
      have : x = 0#64 := BitVec.eq_of_toNat_eq e
      rw [this] at h1; simp at h1
    simpa using this
  obtain ⟨q1, q2⟩ := deB_all ⟨t, ht⟩
  simp only at q1 q2
  have hc := htab.cell _ q2
  rw [q1] at hc
  have e1 : bits .and .u64 (x.toNat : Int) (IntKind.u64.wrap (-(x.toNat : Int))) = ((BitVec.twoPow 64 t).toNat : Int) := by rw [neg_word, bits_and, and_neg x t ht h1 h2]
  have e2 : IntKind.u64.wrap (((BitVec.twoPow 64 t).toNat : Int) * 285870213051353865) = ((BitVec.twoPow 64 t * 0x03f79d71b4ca8b09#64).toNat : Int) := mul_word _ 0x03f79d71b4ca8b09#64
  have e3 : (((BitVec.twoPow 64 t * 0x03f79d71b4ca8b09#64).toNat : Int) / (288230376151711744 : Int)) = (((BitVec.twoPow 64 t * 0x03f79d71b4ca8b09#64) >>> 58).toNat : Int) := shr_word _ 58
  have eT : IntKind.u64.wrap (bits .and .u64 (x.toNat : Int) (IntKind.u64.wrap (-(x.toNat : Int))) * 285870213051353865) / (288230376151711744 : Int) = (((BitVec.twoPow 64 t * 0x03f79d71b4ca8b09#64) >>> 58).toNat : Int) := by rw [e1, e2, e3]
  have k1 : 0 ≤ IntKind.u64.wrap (bits .and .u64 (x.toNat : Int) (IntKind.u64.wrap (-(x.toNat : Int))) * 285870213051353865) / (288230376151711744 : Int) := by rw [eT]; exact Int.natCast_nonneg _
  have k2 : IntKind.u64.wrap (bits .and .u64 (x.toNat : Int) (IntKind.u64.wrap (-(x.toNat : Int))) * 285870213051353865) / (288230376151711744 : Int) < 64 := by rw [eT]; exact Int.ofNat_lt.2 q2
  have k3 : w.cell? ⟨0, (IntKind.u64.wrap (bits .and .u64 (x.toNat : Int) (IntKind.u64.wrap (-(x.toNat : Int))) * 285870213051353865) / (288230376151711744 : Int)).toNat, none⟩ = some (.int .u8 (t : Int)) := by rw [eT, Int.toNat_natCast]; exact hc
  clear h1 h2 htab q1 q2 hc e1 e2 e3 eT
  go_enter Tryd.func60, Tryd.ntmps60
  go_wp2
  go_ret
  exact ⟨rfl, rfl⟩

theorem i64_and63 (n : Int) : bits .and .i64 n 63 = n % 64 := by
  have h : (BitVec.ofInt 64 63).toNat = 2 ^ 6 - 1 := by decide
  have key : (BitVec.ofInt 64 n &&& BitVec.ofInt 64 63).toNat = (n % ((2 ^ 64 : Nat) : Int)).toNat % 2 ^ 6 := by
    rw [BitVec.toNat_and, BitVec.toNat_ofInt, h, Nat.and_two_pow_sub_one_eq_mod]
  show IntKind.i64.wrap ((BitVec.ofInt 64 n &&& BitVec.ofInt 64 63).toNat : Nat) = n % 64
  rw [key, IntKind.wrap_i64]
  omega

/-- The least one from i on, among n. -/
def firstP (p : Nat → Bool) : Nat → Nat → Option Nat
  | 0, _ => none
  | n + 1, i => if p i then some i else firstP p n (i + 1)

theorem firstP_skip {p : Nat → Bool} : ∀ (d n i : Nat), (∀ j, i ≤ j → j < i + d → p j = false) → firstP p (d + n) i = firstP p n (i + d) := by
  intro d
  induction d with
  | zero => intro n i _; rw [Nat.zero_add, Nat.add_zero]
  | succ d ih =>
    intro n i h
    rw [show d + 1 + n = (d + n) + 1 by omega]
    simp only [firstP, h i (Nat.le_refl _) (by omega)]
    simp only [Bool.false_eq_true, if_false]
    rw [ih n (i + 1) (fun j h1 h2 => h j (by omega) (by omega))]
    congr 1; omega
theorem firstP_hit {p : Nat → Bool} {d n i : Nat} (hd : d < n) (h : ∀ j, i ≤ j → j < i + d → p j = false) (hp : p (i + d) = true) : firstP p n i = some (i + d) := by
  rw [show n = d + (n - d - 1 + 1) by omega, firstP_skip d _ i h]
  simp [firstP, hp]
theorem firstP_some {p : Nat → Bool} : ∀ (n i : Nat) {b : Nat}, firstP p n i = some b → i ≤ b ∧ b < i + n ∧ p b = true ∧ ∀ j, i ≤ j → j < b → p j = false := by
  intro n
  induction n with
  | zero => intro i b h; cases h
  | succ n ih =>
    intro i b h
    simp only [firstP] at h
    split at h
    · rename_i hp
      cases h
      exact ⟨Nat.le_refl _, by omega, hp, fun j h1 h2 => by omega⟩
    · rename_i hp
      obtain ⟨h1, h2, h3, h4⟩ := ih (i + 1) h
      refine ⟨by omega, by omega, h3, fun j h5 h6 => ?_⟩
      by_cases e : i = j
      · subst e; simpa using hp
      · exact h4 j (by omega) h6
theorem firstP_none {p : Nat → Bool} : ∀ (n i : Nat), firstP p n i = none → ∀ j, i ≤ j → j < i + n → p j = false := by
  intro n
  induction n with
  | zero => intro i _ j h1 h2; omega
  | succ n ih =>
    intro i h j h1 h2
    simp only [firstP] at h
    split at h
    · cases h
    · rename_i hp
      by_cases e : i = j
      · subst e; simpa using hp
      · exact ih (i + 1) h j (by omega) (by omega)

/-- The least byte of a set from a place on. -/
def nextS (s : Bs) (i : Nat) : Option Nat := firstP s.getLsbD (256 - i) i
def nextV : Option Nat → Value
  | some b => .tuple #[.int .u8 (b : Int), .bool true]
  | none => .tuple #[.int .u8 0, .bool false]

theorem shr_bit (s : Bs) (k i : Nat) : (word s (k / 64) >>> (k % 64)).getLsbD i = (decide (k % 64 + i < 64) && s.getLsbD (k + i)) := by
  rw [BitVec.getLsbD_ushiftRight]
  by_cases h : k % 64 + i < 64
  · rw [word_bit _ _ _ h]
    simp only [h, decide_true, Bool.true_and]
    congr 1; omega
  · rw [BitVec.getLsbD_of_ge _ _ (by omega)]
    simp [h]

theorem next_zero {s : Bs} {k : Nat} (hk : k < 256) (h : word s (k / 64) >>> (k % 64) = 0#64) : nextS s k = nextS s (k / 64 * 64 + 64) := by
  unfold nextS
  have e : 256 - k = (64 - k % 64) + (256 - (k / 64 * 64 + 64)) := by omega
  rw [e, firstP_skip]
  · congr 1; omega
  · intro j h1 h2
    have := shr_bit s k (j - k)
    rw [h] at this
    simp only [BitVec.getLsbD_zero] at this
    rw [decide_eq_true (by omega), Bool.true_and, show k + (j - k) = j by omega] at this
    exact this.symm

theorem next_hit {s : Bs} {k t : Nat} (hk : k < 256) (ht : t < 64) (h1 : (word s (k / 64) >>> (k % 64)).getLsbD t = true) (h2 : ∀ i, i < t → (word s (k / 64) >>> (k % 64)).getLsbD i = false) : nextS s k = some (k + t) ∧ k + t < 256 := by
  rw [shr_bit] at h1
  simp only [Bool.and_eq_true, decide_eq_true_eq] at h1
  refine ⟨firstP_hit (by omega) (fun j h3 h4 => ?_) h1.2, by omega⟩
  have := h2 (j - k) (by omega)
  rw [shr_bit, decide_eq_true (by omega), Bool.true_and, show k + (j - k) = j by omega] at this
  exact this

set_option maxRecDepth 100000 in
set_option maxHeartbeats 2000000 in
theorem next_any (s : Bs) (n : Int) (w : World) (htab : TabOk w) (hn : n < 9223372036854775808) (hn' : -9223372036854775808 ≤ n) :
    Calls Tryd.prog 46 #[setV s, .int .i64 n] w fun e w' => e = .returned (nextV (nextS s (max n 0).toNat)) ∧ Below w.heap.size w w' := by
  obtain ⟨k0, hk0⟩ : ∃ k : Nat, max n 0 = (k : Int) := ⟨(max n 0).toNat, by omega⟩
  rw [hk0, Int.toNat_natCast]
  have hcase : (n < 0 ∧ k0 = 0) ∨ n = (k0 : Int) := by omega
  clear hk0
  obtain ⟨k1, H, hb, hcase2⟩ : ∃ k1 : Nat, Hid (k1 = k0) ∧ Hid ((k1 : Int) < 9223372036854775808) ∧ ((n < 0 ∧ Hid (k1 = 0)) ∨ n = (k1 : Int)) := by
    rcases hcase with ⟨h1, h2⟩ | h1
    · exact ⟨0, h2.symm, Lib.hid (by omega), .inl ⟨h1, rfl⟩⟩
    · exact ⟨k0, rfl, Lib.hid (by omega), .inr h1⟩
  rw [← H.out]
  clear hcase H hn hn' k0
  rcases hcase2 with ⟨hneg, H⟩ | rfl
  all_goals
    go_enter Tryd.func46, Tryd.ntmps46
    go_wp2
    go_loopw [1] (fun i wr => ∃ k : Nat, (k : Int) < 9223372036854775808 ∧ i = .int .i64 (k : Int) ∧ nextS s k1 = nextS s k ∧ wr.heap[w.heap.size]? = some (.cells (setC s) 24 (0, 0)) ∧ Ext G0 w wr) (fun i _ => 256 - (intOf i).toNat)
    case atStart => first | exact ⟨k1, hb.out, rfl, rfl, heap_new _ _, (Ext.refl _ _).alloc _⟩ | exact ⟨0, by omega, rfl, by rw [H.out], heap_new _ _, (Ext.refl _ _).alloc _⟩
    case round =>
      obtain ⟨k, hkb, rfl, hk, hA, hx⟩ := hrel
      have HK := Lib.hid hk
      have HB := Lib.hid hkb
      clear hk hkb
      by_cases hlt : k < 256
      · have c := (blk_cell hA (k / 64)).trans (setC_get s (k / 64) (by omega))
        have h63 := i64_and63 (k : Int)
        have hdk : (k : Int) < 256 := by omega
        have hsh : (((word s (k / 64)).toNat : Int) / (2 : Int) ^ (k % 64)) = ((word s (k / 64) >>> (k % 64)).toNat : Int) := by rw [← shr_word]; simp
        by_cases hy : word s (k / 64) >>> (k % 64) = 0#64
        · have e0 := next_zero hlt hy
          have E0 := Lib.hid e0
          clear e0
          rw [hy] at hsh
          go_wp2_with fail
          go_roundw
          case rel => exact ⟨k / 64 * 64 + 64, by omega, by go_num, HK.out.trans E0.out, hA, hx⟩
          case measure => simp [intOf]; omega
        · obtain ⟨t, ht, hb1, hb2⟩ := least_bit 64 (ne_zero_bit hy)
          obtain ⟨e0, e1⟩ := next_hit hlt ht hb1 hb2
          have E0 := Lib.hid e0
          clear e0
          have hne : (((word s (k / 64) >>> (k % 64)).toNat : Int) != 0) = true := by
            have : (word s (k / 64) >>> (k % 64)).toNat ≠ 0 := fun e => hy (BitVec.eq_of_toNat_eq e)
            rw [bne_iff_ne]
            exact fun e => this (Int.ofNat_eq_zero.1 e)
          have HB1 := Lib.hid hb1
          have HB2 := Lib.hid hb2
          clear hb1 hb2 hy
          generalize word s (k / 64) >>> (k % 64) = y at *
          have ht1 := (htab.ext hx)
          go_wp2_with (go_at_call 60; refine (tz_any _ t ht HB1.out HB2.out _ ht1).mono ?_; rintro e w2 ⟨rfl, rfl⟩)
          go_ret2
          exact ⟨by rw [HK.out, E0.out]; simp [nextV], hx.below⟩
      · have e0 : nextS s k = none := by unfold nextS; rw [show 256 - k = 0 by omega]; rfl
        have E0 := Lib.hid e0
        have hdk : ¬ (k : Int) < 256 := by omega
        clear e0 hlt
        go_wp2
        go_ret2
        exact ⟨by rw [HK.out, E0.out]; rfl, hx.below⟩

end Go.Proofs.YtejialnbelleeaaDoor
