/-
  How many bits of a word are set, and the least of them: what Go's arithmetic on words comes to.
-/
import Derived.Test.YtejialnbelleeaaDoorSetBase
namespace Go.Proofs.YtejialnbelleeaaDoor
open Go Go.RowKit

/-- How many of the first n there are. -/
def pcn (p : Nat → Bool) : Nat → Nat
  | 0 => 0
  | n + 1 => pcn p n + if p n then 1 else 0

theorem pcn_add (p : Nat → Bool) (a : Nat) : ∀ b, pcn p (a + b) = pcn p a + pcn (fun i => p (a + i)) b := by
  intro b
  induction b with
  | zero => rfl
  | succ b ih => rw [← Nat.add_assoc]; simp only [pcn, ih]; omega
theorem pcn_congr {p q : Nat → Bool} : ∀ n, (∀ i, i < n → p i = q i) → pcn p n = pcn q n := by
  intro n
  induction n with
  | zero => intro _; rfl
  | succ n ih => intro h; simp only [pcn, ih (fun i hi => h i (by omega)), h n (by omega)]
theorem pcn_le (p : Nat → Bool) : ∀ n, pcn p n ≤ n := by
  intro n
  induction n with
  | zero => exact Nat.le_refl _
  | succ n ih => simp only [pcn]; split <;> omega

abbrev B8 := BitVec 8
/-- Eight bytes as a word. -/
def by8 (a b c d e f g h : B8) : W64 := (((h ++ g : BitVec 16) ++ (f ++ e : BitVec 16) : BitVec 32) ++ ((d ++ c : BitVec 16) ++ (b ++ a : BitVec 16) : BitVec 32) : BitVec 64)
def byteOf (x : W64) (j : Nat) : B8 := x.extractLsb' (8 * j) 8

theorem byteOf_bit (x : W64) (j k : Nat) (hk : k < 8) : (byteOf x j).getLsbD k = x.getLsbD (8 * j + k) := by simp [byteOf, hk]

theorem by8_bit (a b c d e f g h : B8) (i : Nat) : (by8 a b c d e f g h).getLsbD i = if i < 8 then a.getLsbD i else if i < 16 then b.getLsbD (i - 8) else if i < 24 then c.getLsbD (i - 16) else if i < 32 then d.getLsbD (i - 24) else
    if i < 40 then e.getLsbD (i - 32) else if i < 48 then f.getLsbD (i - 40) else if i < 56 then g.getLsbD (i - 48) else h.getLsbD (i - 56) := by
  unfold by8
  simp only [BitVec.getLsbD_append]
  by_cases h1 : i < 8
  · simp [h1, show i < 32 by omega, show i < 16 by omega]
  by_cases h2 : i < 16
  · simp [h1, h2, show i < 32 by omega]
  by_cases h3 : i < 24
  · simp [h1, h2, h3, show i < 32 by omega, show i - 16 < 8 by omega]
  by_cases h4 : i < 32
  · simp [h1, h2, h3, h4, show ¬ i - 16 < 8 by omega, Nat.sub_sub]
  by_cases h5 : i < 40
  · simp [h1, h2, h3, h4, h5, show i - 32 < 16 by omega, show i - 32 < 8 by omega]
  by_cases h6 : i < 48
  · simp [h1, h2, h3, h4, h5, h6, show i - 32 < 16 by omega, show ¬ i - 32 < 8 by omega, Nat.sub_sub]
  by_cases h7 : i < 56
  · simp [h1, h2, h3, h4, h5, h6, h7, show ¬ i - 32 < 16 by omega, show i - 48 < 8 by omega, Nat.sub_sub]
  · simp [h1, h2, h3, h4, h5, h6, h7, show ¬ i - 32 < 16 by omega, show ¬ i - 48 < 8 by omega, Nat.sub_sub]

theorem by8_of (x : W64) : by8 (byteOf x 0) (byteOf x 1) (byteOf x 2) (byteOf x 3) (byteOf x 4) (byteOf x 5) (byteOf x 6) (byteOf x 7) = x := by
  apply BitVec.eq_of_getLsbD_eq
  intro i hi
  rw [by8_bit]
  by_cases h1 : i < 8
  · rw [if_pos h1, byteOf_bit _ _ _ (by omega)]; exact congrArg _ (by omega)
  rw [if_neg h1]
  by_cases h2 : i < 16
  · rw [if_pos h2, byteOf_bit _ _ _ (by omega)]; exact congrArg _ (by omega)
  rw [if_neg h2]
  by_cases h3 : i < 24
  · rw [if_pos h3, byteOf_bit _ _ _ (by omega)]; exact congrArg _ (by omega)
  rw [if_neg h3]
  by_cases h4 : i < 32
  · rw [if_pos h4, byteOf_bit _ _ _ (by omega)]; exact congrArg _ (by omega)
  rw [if_neg h4]
  by_cases h5 : i < 40
  · rw [if_pos h5, byteOf_bit _ _ _ (by omega)]; exact congrArg _ (by omega)
  rw [if_neg h5]
  by_cases h6 : i < 48
  · rw [if_pos h6, byteOf_bit _ _ _ (by omega)]; exact congrArg _ (by omega)
  rw [if_neg h6]
  by_cases h7 : i < 56
  · rw [if_pos h7, byteOf_bit _ _ _ (by omega)]; exact congrArg _ (by omega)
  rw [if_neg h7, byteOf_bit _ _ _ (by omega)]; exact congrArg _ (by omega)

theorem by8_nat (a b c d e f g h : B8) : (by8 a b c d e f g h).toNat = a.toNat + 256 * b.toNat + 65536 * c.toNat + 16777216 * d.toNat + 4294967296 * e.toNat + 1099511627776 * f.toNat + 281474976710656 * g.toNat + 72057594037927936 * h.toNat := by
  have k : ∀ (n m : Nat) (x : BitVec n) (y : BitVec m), (x ++ y).toNat = x.toNat * 2 ^ m + y.toNat := fun n m x y => by
    rw [BitVec.toNat_append, Nat.shiftLeft_eq, Nat.mul_comm, ← Nat.two_pow_add_eq_or_of_lt y.isLt]
  unfold by8
  rw [k, k, k, k, k, k, k]
  simp only [Nat.reducePow]
  omega

/-- One step of the sum: each field is parted, and the halves added. -/
def st1 (x m : W64) (k : Nat) : W64 := ((x >>> k) &&& m) + (x &&& m)
def sb1 (x m : B8) (k : Nat) : B8 := ((x >>> k) &&& m) + (x &&& m)

theorem by8_ext {x : W64} {a b c d e f g h : B8} (h0 : byteOf x 0 = a) (h1 : byteOf x 1 = b) (h2 : byteOf x 2 = c) (h3 : byteOf x 3 = d) (h4 : byteOf x 4 = e) (h5 : byteOf x 5 = f) (h6 : byteOf x 6 = g) (h7 : byteOf x 7 = h) : x = by8 a b c d e f g h := by
  rw [← by8_of x, h0, h1, h2, h3, h4, h5, h6, h7]

/-- A shift, masked so that nothing comes over from the next byte. -/
theorem shr_mask (x m : W64) (mb : B8) (k j : Nat) (hm : byteOf m j = mb) (htop : ∀ i, 8 - k ≤ i → mb.getLsbD i = false) : byteOf ((x >>> k) &&& m) j = (byteOf x j >>> k) &&& mb := by
  apply BitVec.eq_of_getLsbD_eq
  intro i hi
  have hmb : m.getLsbD (8 * j + i) = mb.getLsbD i := by rw [← hm, byteOf_bit _ _ _ hi]
  rw [byteOf_bit _ _ _ hi, BitVec.getLsbD_and, BitVec.getLsbD_and, BitVec.getLsbD_ushiftRight, BitVec.getLsbD_ushiftRight, hmb]
  by_cases h : k + i < 8
  · rw [byteOf_bit _ _ _ h]; congr 2; omega
  · rw [htop i (by omega)]; simp
theorem and_mask (x m : W64) (mb : B8) (j : Nat) (hm : byteOf m j = mb) : byteOf (x &&& m) j = byteOf x j &&& mb := by
  apply BitVec.eq_of_getLsbD_eq
  intro i hi
  rw [byteOf_bit _ _ _ hi, BitVec.getLsbD_and, BitVec.getLsbD_and, byteOf_bit _ _ _ hi, ← hm, byteOf_bit _ _ _ hi]

theorem by8_add {a b c d e f g h a' b' c' d' e' f' g' h' : B8} (h0 : a.toNat + a'.toNat < 256) (h1 : b.toNat + b'.toNat < 256) (h2 : c.toNat + c'.toNat < 256) (h3 : d.toNat + d'.toNat < 256) (h4 : e.toNat + e'.toNat < 256) (h5 : f.toNat + f'.toNat < 256)
    (h6 : g.toNat + g'.toNat < 256) (h7 : h.toNat + h'.toNat < 256) : by8 a b c d e f g h + by8 a' b' c' d' e' f' g' h' = by8 (a + a') (b + b') (c + c') (d + d') (e + e') (f + f') (g + g') (h + h') := by
  have k : ∀ {x y : B8}, x.toNat + y.toNat < 256 → (x + y).toNat = x.toNat + y.toNat := fun {x y} hxy => by rw [BitVec.toNat_add]; exact Nat.mod_eq_of_lt hxy
  apply BitVec.eq_of_toNat_eq
  rw [BitVec.toNat_add, by8_nat, by8_nat, by8_nat, k h0, k h1, k h2, k h3, k h4, k h5, k h6, k h7]
  omega

def m0 : W64 := 0x5555555555555555#64
def m1 : W64 := 0x3333333333333333#64
def m2 : W64 := 0x0f0f0f0f0f0f0f0f#64

/-- A byte, after two steps. -/
def b2 (d : B8) : B8 := sb1 (sb1 d 0x55#8 1) 0x33#8 2

theorem b1_le (d : B8) : ((d >>> 1) &&& 0x55#8).toNat + (d &&& 0x55#8).toNat < 256 := by
  have h1 : ((d >>> 1) &&& 0x55#8).toNat ≤ 85 := by rw [BitVec.toNat_and]; exact Nat.and_le_right
  have h2 : (d &&& 0x55#8).toNat ≤ 85 := by rw [BitVec.toNat_and]; exact Nat.and_le_right
  omega
theorem b2_le (d : B8) : ((d >>> 2) &&& 0x33#8).toNat + (d &&& 0x33#8).toNat < 256 := by
  have h1 : ((d >>> 2) &&& 0x33#8).toNat ≤ 51 := by rw [BitVec.toNat_and]; exact Nat.and_le_right
  have h2 : (d &&& 0x33#8).toNat ≤ 51 := by rw [BitVec.toNat_and]; exact Nat.and_le_right
  omega

theorem byteOf_by8 (a b c d e f g h : B8) : byteOf (by8 a b c d e f g h) 0 = a ∧ byteOf (by8 a b c d e f g h) 1 = b ∧ byteOf (by8 a b c d e f g h) 2 = c ∧ byteOf (by8 a b c d e f g h) 3 = d ∧
    byteOf (by8 a b c d e f g h) 4 = e ∧ byteOf (by8 a b c d e f g h) 5 = f ∧ byteOf (by8 a b c d e f g h) 6 = g ∧ byteOf (by8 a b c d e f g h) 7 = h := by
  refine ⟨?_, ?_, ?_, ?_, ?_, ?_, ?_, ?_⟩ <;>
  · apply BitVec.eq_of_getLsbD_eq
    intro i hi
    rw [byteOf_bit _ _ _ hi, by8_bit]
    repeat (first | rw [if_pos (by omega)] | rw [if_neg (by omega)])
    exact congrArg _ (by omega)

theorem st_bytes (x m : W64) (mb : B8) (k : Nat) (hm : m = by8 mb mb mb mb mb mb mb mb) (htop : ∀ i, 8 - k ≤ i → mb.getLsbD i = false) (hle : ∀ d : B8, ((d >>> k) &&& mb).toNat + (d &&& mb).toNat < 256) :
    st1 x m k = by8 (sb1 (byteOf x 0) mb k) (sb1 (byteOf x 1) mb k) (sb1 (byteOf x 2) mb k) (sb1 (byteOf x 3) mb k) (sb1 (byteOf x 4) mb k) (sb1 (byteOf x 5) mb k) (sb1 (byteOf x 6) mb k) (sb1 (byteOf x 7) mb k) := by
  obtain ⟨q0, q1, q2, q3, q4, q5, q6, q7⟩ := byteOf_by8 mb mb mb mb mb mb mb mb
  rw [← hm] at q0 q1 q2 q3 q4 q5 q6 q7
  unfold st1 sb1
  rw [by8_ext (shr_mask x m mb k 0 q0 htop) (shr_mask x m mb k 1 q1 htop) (shr_mask x m mb k 2 q2 htop) (shr_mask x m mb k 3 q3 htop) (shr_mask x m mb k 4 q4 htop) (shr_mask x m mb k 5 q5 htop) (shr_mask x m mb k 6 q6 htop) (shr_mask x m mb k 7 q7 htop),
    by8_ext (and_mask x m mb 0 q0) (and_mask x m mb 1 q1) (and_mask x m mb 2 q2) (and_mask x m mb 3 q3) (and_mask x m mb 4 q4) (and_mask x m mb 5 q5) (and_mask x m mb 6 q6) (and_mask x m mb 7 q7)]
  exact by8_add (hle _) (hle _) (hle _) (hle _) (hle _) (hle _) (hle _) (hle _)

theorem top55 : ∀ i, 8 - 1 ≤ i → (0x55#8).getLsbD i = false := fun i hi => by
  by_cases h : i < 8
  · have : i = 7 := by omega
    subst this; rfl
  · exact BitVec.getLsbD_of_ge _ _ (by omega)
theorem top33 : ∀ i, 8 - 2 ≤ i → (0x33#8).getLsbD i = false := fun i hi => by
  by_cases h : i < 8
  · have : i = 6 ∨ i = 7 := by omega
    rcases this with rfl | rfl <;> rfl
  · exact BitVec.getLsbD_of_ge _ _ (by omega)

/-- A byte's sum. -/
def pcb (d : B8) : Nat := pcn d.getLsbD 8

theorem byte_all : ∀ d : B8, ((b2 d).toNat / 16 + (b2 d).toNat % 16 = pcb d) ∧ (b2 d).toNat / 16 ≤ 4 ∧ (b2 d).toNat % 16 ≤ 4 := by decide +kernel

/-- The third step, on a word whose fields of four bits are small. -/
theorem st3_bytes (a b c d e f g h : B8) (ha : a.toNat / 16 ≤ 4 ∧ a.toNat % 16 ≤ 4) (hb : b.toNat / 16 ≤ 4 ∧ b.toNat % 16 ≤ 4) (hc : c.toNat / 16 ≤ 4 ∧ c.toNat % 16 ≤ 4) (hd : d.toNat / 16 ≤ 4 ∧ d.toNat % 16 ≤ 4)
    (he : e.toNat / 16 ≤ 4 ∧ e.toNat % 16 ≤ 4) (hf : f.toNat / 16 ≤ 4 ∧ f.toNat % 16 ≤ 4) (hg : g.toNat / 16 ≤ 4 ∧ g.toNat % 16 ≤ 4) (hh : h.toNat / 16 ≤ 4 ∧ h.toNat % 16 ≤ 4) :
    ((by8 a b c d e f g h >>> 4) + by8 a b c d e f g h) = by8 (BitVec.ofNat 8 (a.toNat / 16 + a.toNat + 16 * (b.toNat % 16))) (BitVec.ofNat 8 (b.toNat / 16 + b.toNat + 16 * (c.toNat % 16))) (BitVec.ofNat 8 (c.toNat / 16 + c.toNat + 16 * (d.toNat % 16)))
      (BitVec.ofNat 8 (d.toNat / 16 + d.toNat + 16 * (e.toNat % 16))) (BitVec.ofNat 8 (e.toNat / 16 + e.toNat + 16 * (f.toNat % 16))) (BitVec.ofNat 8 (f.toNat / 16 + f.toNat + 16 * (g.toNat % 16))) (BitVec.ofNat 8 (g.toNat / 16 + g.toNat + 16 * (h.toNat % 16)))
      (BitVec.ofNat 8 (h.toNat / 16 + h.toNat)) := by
  have k : ∀ n, n < 256 → (BitVec.ofNat 8 n).toNat = n := fun n hn => by rw [BitVec.toNat_ofNat]; exact Nat.mod_eq_of_lt hn
  apply BitVec.eq_of_toNat_eq
  rw [BitVec.toNat_add, BitVec.toNat_ushiftRight, Nat.shiftRight_eq_div_pow, by8_nat, by8_nat, k _ (by omega), k _ (by omega), k _ (by omega), k _ (by omega), k _ (by omega), k _ (by omega), k _ (by omega), k _ (by omega)]
  simp only [Nat.reducePow]
  omega

theorem low4 (a n : Nat) : ((BitVec.ofNat 8 (a + 16 * n)) &&& 0x0f#8).toNat = a % 16 := by
  rw [BitVec.toNat_and, BitVec.toNat_ofNat]
  have : (0x0f#8).toNat = 2 ^ 4 - 1 := rfl
  rw [this, Nat.and_two_pow_sub_one_eq_mod]
  omega
theorem low4' (a : Nat) : ((BitVec.ofNat 8 a) &&& 0x0f#8).toNat = a % 16 := low4 a 0

theorem fin3 {a p : Nat} (h : a / 16 + a % 16 = p ∧ a / 16 ≤ 4 ∧ a % 16 ≤ 4) : (a / 16 + a) % 16 = p := by omega

def ones3 (x : W64) : W64 := ((st1 (st1 x m0 1) m1 2 >>> 4) + st1 (st1 x m0 1) m1 2) &&& m2
def ones6 (x : W64) : W64 := ones3 x + (ones3 x >>> 8) + ((ones3 x + (ones3 x >>> 8)) >>> 16) + ((ones3 x + (ones3 x >>> 8) + ((ones3 x + (ones3 x >>> 8)) >>> 16)) >>> 32)

theorem ones3_bytes (x : W64) : ∃ a b c d e f g h : B8, ones3 x = by8 a b c d e f g h ∧ a.toNat = pcb (byteOf x 0) ∧ b.toNat = pcb (byteOf x 1) ∧ c.toNat = pcb (byteOf x 2) ∧ d.toNat = pcb (byteOf x 3) ∧
    e.toNat = pcb (byteOf x 4) ∧ f.toNat = pcb (byteOf x 5) ∧ g.toNat = pcb (byteOf x 6) ∧ h.toNat = pcb (byteOf x 7) := by
  have e1 := st_bytes x m0 0x55#8 1 rfl top55 b1_le
  have e2 := st_bytes (st1 x m0 1) m1 0x33#8 2 rfl top33 b2_le
  obtain ⟨p0, p1, p2, p3, p4, p5, p6, p7⟩ := byteOf_by8 (sb1 (byteOf x 0) 0x55#8 1) (sb1 (byteOf x 1) 0x55#8 1) (sb1 (byteOf x 2) 0x55#8 1) (sb1 (byteOf x 3) 0x55#8 1) (sb1 (byteOf x 4) 0x55#8 1) (sb1 (byteOf x 5) 0x55#8 1) (sb1 (byteOf x 6) 0x55#8 1) (sb1 (byteOf x 7) 0x55#8 1)
  rw [← e1] at p0 p1 p2 p3 p4 p5 p6 p7
  rw [p0, p1, p2, p3, p4, p5, p6, p7] at e2
  have hb := fun j => byte_all (byteOf x j)
  have e3 := st3_bytes (b2 (byteOf x 0)) (b2 (byteOf x 1)) (b2 (byteOf x 2)) (b2 (byteOf x 3)) (b2 (byteOf x 4)) (b2 (byteOf x 5)) (b2 (byteOf x 6)) (b2 (byteOf x 7)) (hb 0).2 (hb 1).2 (hb 2).2 (hb 3).2 (hb 4).2 (hb 5).2 (hb 6).2 (hb 7).2
  unfold ones3
  rw [e2]
  change ∃ a b c d e f g h : B8, ((by8 (b2 (byteOf x 0)) (b2 (byteOf x 1)) (b2 (byteOf x 2)) (b2 (byteOf x 3)) (b2 (byteOf x 4)) (b2 (byteOf x 5)) (b2 (byteOf x 6)) (b2 (byteOf x 7)) >>> 4) + by8 (b2 (byteOf x 0)) (b2 (byteOf x 1)) (b2 (byteOf x 2)) (b2 (byteOf x 3)) (b2 (byteOf x 4)) (b2 (byteOf x 5)) (b2 (byteOf x 6)) (b2 (byteOf x 7))) &&& m2 = by8 a b c d e f g h ∧ _
  rw [e3]
  obtain ⟨q0, q1, q2, q3, q4, q5, q6, q7⟩ := byteOf_by8 0x0f#8 0x0f#8 0x0f#8 0x0f#8 0x0f#8 0x0f#8 0x0f#8 0x0f#8
  have hm2 : m2 = by8 0x0f#8 0x0f#8 0x0f#8 0x0f#8 0x0f#8 0x0f#8 0x0f#8 0x0f#8 := rfl
  rw [← hm2] at q0 q1 q2 q3 q4 q5 q6 q7
  refine ⟨_, _, _, _, _, _, _, _, by8_ext (and_mask _ _ _ 0 q0) (and_mask _ _ _ 1 q1) (and_mask _ _ _ 2 q2) (and_mask _ _ _ 3 q3) (and_mask _ _ _ 4 q4) (and_mask _ _ _ 5 q5) (and_mask _ _ _ 6 q6) (and_mask _ _ _ 7 q7), ?_⟩
  obtain ⟨r0, r1, r2, r3, r4, r5, r6, r7⟩ := byteOf_by8 (BitVec.ofNat 8 ((b2 (byteOf x 0)).toNat / 16 + (b2 (byteOf x 0)).toNat + 16 * ((b2 (byteOf x 1)).toNat % 16))) (BitVec.ofNat 8 ((b2 (byteOf x 1)).toNat / 16 + (b2 (byteOf x 1)).toNat + 16 * ((b2 (byteOf x 2)).toNat % 16)))
    (BitVec.ofNat 8 ((b2 (byteOf x 2)).toNat / 16 + (b2 (byteOf x 2)).toNat + 16 * ((b2 (byteOf x 3)).toNat % 16))) (BitVec.ofNat 8 ((b2 (byteOf x 3)).toNat / 16 + (b2 (byteOf x 3)).toNat + 16 * ((b2 (byteOf x 4)).toNat % 16)))
    (BitVec.ofNat 8 ((b2 (byteOf x 4)).toNat / 16 + (b2 (byteOf x 4)).toNat + 16 * ((b2 (byteOf x 5)).toNat % 16))) (BitVec.ofNat 8 ((b2 (byteOf x 5)).toNat / 16 + (b2 (byteOf x 5)).toNat + 16 * ((b2 (byteOf x 6)).toNat % 16)))
    (BitVec.ofNat 8 ((b2 (byteOf x 6)).toNat / 16 + (b2 (byteOf x 6)).toNat + 16 * ((b2 (byteOf x 7)).toNat % 16))) (BitVec.ofNat 8 ((b2 (byteOf x 7)).toNat / 16 + (b2 (byteOf x 7)).toNat))
  rw [r0, r1, r2, r3, r4, r5, r6, r7, low4, low4, low4, low4, low4, low4, low4, low4']
  exact ⟨fin3 (hb 0), fin3 (hb 1), fin3 (hb 2), fin3 (hb 3), fin3 (hb 4), fin3 (hb 5), fin3 (hb 6), fin3 (hb 7)⟩

theorem pcn_bytes (x : W64) : pcn x.getLsbD 64 = pcb (byteOf x 0) + pcb (byteOf x 1) + pcb (byteOf x 2) + pcb (byteOf x 3) + pcb (byteOf x 4) + pcb (byteOf x 5) + pcb (byteOf x 6) + pcb (byteOf x 7) := by
  have h : ∀ j, pcb (byteOf x j) = pcn (fun i => x.getLsbD (8 * j + i)) 8 := fun j => pcn_congr 8 fun i hi => byteOf_bit x j i hi
  have e0 : pcn x.getLsbD 8 = pcb (byteOf x 0) := by rw [h]; exact pcn_congr 8 fun i _ => by rw [Nat.mul_zero, Nat.zero_add]
  have e1 : pcn x.getLsbD 16 = pcn x.getLsbD 8 + pcb (byteOf x 1) := by rw [h]; exact pcn_add _ 8 8
  have e2 : pcn x.getLsbD 24 = pcn x.getLsbD 16 + pcb (byteOf x 2) := by rw [h]; exact pcn_add _ 16 8
  have e3 : pcn x.getLsbD 32 = pcn x.getLsbD 24 + pcb (byteOf x 3) := by rw [h]; exact pcn_add _ 24 8
  have e4 : pcn x.getLsbD 40 = pcn x.getLsbD 32 + pcb (byteOf x 4) := by rw [h]; exact pcn_add _ 32 8
  have e5 : pcn x.getLsbD 48 = pcn x.getLsbD 40 + pcb (byteOf x 5) := by rw [h]; exact pcn_add _ 40 8
  have e6 : pcn x.getLsbD 56 = pcn x.getLsbD 48 + pcb (byteOf x 6) := by rw [h]; exact pcn_add _ 48 8
  have e7 : pcn x.getLsbD 64 = pcn x.getLsbD 56 + pcb (byteOf x 7) := by rw [h]; exact pcn_add _ 56 8
  rw [e7, e6, e5, e4, e3, e2, e1, e0]

theorem div_of {y a b r : Nat} (h : y = a + b * r) (hb : 0 < b) (ha : a < b) : y / b = r := by
  rw [h, Nat.add_mul_div_left _ _ hb, Nat.div_eq_of_lt ha, Nat.zero_add]

section
variable {n0 n1 n2 n3 n4 n5 n6 n7 y : Nat} (h0 : n0 ≤ 8) (h1 : n1 ≤ 8) (h2 : n2 ≤ 8) (h3 : n3 ≤ 8) (h4 : n4 ≤ 8) (h5 : n5 ≤ 8) (h6 : n6 ≤ 8) (h7 : n7 ≤ 8)
include h0 h1 h2 h3 h4 h5 h6 h7
theorem sum8 (h : y = n0 + 256 * n1 + 65536 * n2 + 16777216 * n3 + 4294967296 * n4 + 1099511627776 * n5 + 281474976710656 * n6 + 72057594037927936 * n7) :
    (y + y / 256) % 18446744073709551616 = (n0 + n1) + 256 * (n1 + n2) + 65536 * (n2 + n3) + 16777216 * (n3 + n4) + 4294967296 * (n4 + n5) + 1099511627776 * (n5 + n6) + 281474976710656 * (n6 + n7) + 72057594037927936 * n7 := by
  have e := div_of (y := y) (a := n0) (b := 256) (r := n1 + 256 * n2 + 65536 * n3 + 16777216 * n4 + 4294967296 * n5 + 1099511627776 * n6 + 281474976710656 * n7) (by omega) (by decide) (by omega)
  rw [e, h, Nat.mod_eq_of_lt (by omega)]
  omega
theorem sum16 (h : y = (n0 + n1) + 256 * (n1 + n2) + 65536 * (n2 + n3) + 16777216 * (n3 + n4) + 4294967296 * (n4 + n5) + 1099511627776 * (n5 + n6) + 281474976710656 * (n6 + n7) + 72057594037927936 * n7) :
    (y + y / 65536) % 18446744073709551616 = (n0 + n1 + n2 + n3) + 256 * (n1 + n2 + n3 + n4) + 65536 * (n2 + n3 + n4 + n5) + 16777216 * (n3 + n4 + n5 + n6) + 4294967296 * (n4 + n5 + n6 + n7) + 1099511627776 * (n5 + n6 + n7) + 281474976710656 * (n6 + n7) + 72057594037927936 * n7 := by
  have e := div_of (y := y) (a := (n0 + n1) + 256 * (n1 + n2)) (b := 65536) (r := (n2 + n3) + 256 * (n3 + n4) + 65536 * (n4 + n5) + 16777216 * (n5 + n6) + 4294967296 * (n6 + n7) + 1099511627776 * n7) (by omega) (by decide) (by omega)
  rw [e, h, Nat.mod_eq_of_lt (by omega)]
  omega
omit h0 h1 h2 h3 h4 h5 h6 h7 in
theorem sum32 (h0 : n0 ≤ 32) (h1 : n1 ≤ 32) (h2 : n2 ≤ 32) (h3 : n3 ≤ 32) (h4 : n4 ≤ 32) (h5 : n5 ≤ 32) (h6 : n6 ≤ 32) (h7 : n7 ≤ 32)
    (h : y = n0 + 256 * n1 + 65536 * n2 + 16777216 * n3 + 4294967296 * n4 + 1099511627776 * n5 + 281474976710656 * n6 + 72057594037927936 * n7) :
    (y + y / 4294967296) % 18446744073709551616 % 128 = n0 + n4 ∧ (y + y / 4294967296) % 18446744073709551616 < 9223372036854775808 := by
  have e := div_of (y := y) (a := n0 + 256 * n1 + 65536 * n2 + 16777216 * n3) (b := 4294967296) (r := n4 + 256 * n5 + 65536 * n6 + 16777216 * n7) (by omega) (by decide) (by omega)
  have hm : (y + y / 4294967296) % 18446744073709551616 = (n0 + n4) + 128 * (2 * (n1 + n5) + 512 * (n2 + n6) + 131072 * (n3 + n7) + 33554432 * n4 + 8589934592 * n5 + 2199023255552 * n6 + 562949953421312 * n7) := by
    rw [e, h, Nat.mod_eq_of_lt (by omega)]
    omega
  rw [hm]
  constructor
  · rw [Nat.add_mul_mod_self_left, Nat.mod_eq_of_lt (by omega)]
  · omega
end

theorem four_le {a b c d : Nat} (ha : a ≤ 8) (hb : b ≤ 8) (hc : c ≤ 8) (hd : d ≤ 8) : a + b + c + d ≤ 32 := by omega
theorem three_le {a b c : Nat} (ha : a ≤ 8) (hb : b ≤ 8) (hc : c ≤ 8) : a + b + c ≤ 24 := by omega
theorem ones6_eq (x : W64) : (ones6 x).toNat % 128 = pcn x.getLsbD 64 ∧ (ones6 x).toNat < 9223372036854775808 := by
  obtain ⟨a, b, c, d, e, f, g, h, he, ha, hb, hc, hd, hee, hf, hg, hh⟩ := ones3_bytes x
  have hle : ∀ j, pcb (byteOf x j) ≤ 8 := fun j => pcn_le (byteOf x j).getLsbD 8
  have hn := by8_nat a b c d e f g h
  rw [← he, ha, hb, hc, hd, hee, hf, hg, hh] at hn
  rw [pcn_bytes]
  have s1 := sum8 (hle 0) (hle 1) (hle 2) (hle 3) (hle 4) (hle 5) (hle 6) (hle 7) hn
  have s2 := sum16 (hle 0) (hle 1) (hle 2) (hle 3) (hle 4) (hle 5) (hle 6) (hle 7) s1
  have s3 := sum32 (four_le (hle 0) (hle 1) (hle 2) (hle 3)) (four_le (hle 1) (hle 2) (hle 3) (hle 4)) (four_le (hle 2) (hle 3) (hle 4) (hle 5)) (four_le (hle 3) (hle 4) (hle 5) (hle 6)) (four_le (hle 4) (hle 5) (hle 6) (hle 7))
    (Nat.le_trans (three_le (hle 5) (hle 6) (hle 7)) (by decide)) (Nat.le_trans (Nat.add_le_add (hle 6) (hle 7)) (by decide)) (Nat.le_trans (hle 7) (by decide)) s2
  have k : ∀ (z : W64) (i : Nat), (z + (z >>> i)).toNat = (z.toNat + z.toNat / 2 ^ i) % 18446744073709551616 := fun z i => by rw [BitVec.toNat_add, BitVec.toNat_ushiftRight, Nat.shiftRight_eq_div_pow]
  have hk : (ones6 x).toNat = _ := k _ 32
  rw [k _ 16, k _ 8] at hk
  rw [hk]
  exact ⟨s3.1.trans (by simp only [Nat.add_assoc]), s3.2⟩

end Go.Proofs.YtejialnbelleeaaDoor
