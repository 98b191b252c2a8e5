/-
  Sets of bytes as bit vectors of 256 bits: their four words, and what the machine's operations on words do to them.
-/
import Derived.WalkKit
namespace Go.Proofs.Ytejialnbelleeaa
open Go Go.RowKit

abbrev Bs := BitVec 256
abbrev W64 := BitVec 64

/-- The word i of a set. -/
def word (s : Bs) (i : Nat) : W64 := s.extractLsb' (64 * i) 64
/-- A word as a value. -/
abbrev wordV (x : W64) : Value := .int .u64 (x.toNat : Int)
/-- A set's cells. -/
abbrev setC (s : Bs) : Array Value := #[wordV (word s 0), wordV (word s 1), wordV (word s 2), wordV (word s 3)]
/-- A set as a value. -/
abbrev setV (s : Bs) : Value := .agg (setC s)

theorem word_bit (s : Bs) (i k : Nat) (hk : k < 64) : (word s i).getLsbD k = s.getLsbD (64 * i + k) := by
  simp [word, hk]

theorem set_ext {a b : Bs} (h0 : word a 0 = word b 0) (h1 : word a 1 = word b 1) (h2 : word a 2 = word b 2) (h3 : word a 3 = word b 3) : a = b := by
  apply BitVec.eq_of_getLsbD_eq
  intro i hi
  have key : ∀ j, word a j = word b j → ∀ k, k < 64 → a.getLsbD (64 * j + k) = b.getLsbD (64 * j + k) := fun j hj k hk => by
    rw [← word_bit a j k hk, ← word_bit b j k hk, hj]
  have hj : i = 64 * (i / 64) + i % 64 := by omega
  have hm : i % 64 < 64 := Nat.mod_lt _ (by decide)
  have : i / 64 = 0 ∨ i / 64 = 1 ∨ i / 64 = 2 ∨ i / 64 = 3 := by omega
  rcases this with e | e | e | e
  · have := key 0 h0 _ hm; rw [← e, ← hj] at this; exact this
  · have := key 1 h1 _ hm; rw [← e, ← hj] at this; exact this
  · have := key 2 h2 _ hm; rw [← e, ← hj] at this; exact this
  · have := key 3 h3 _ hm; rw [← e, ← hj] at this; exact this

/-- A set of four words. -/
def ofWords (a b c d : W64) : Bs := ((d ++ c : BitVec 128) ++ (b ++ a : BitVec 128) : BitVec 256)

theorem ofWords_bit (a b c d : W64) (i : Nat) : (ofWords a b c d).getLsbD i = if i < 64 then a.getLsbD i else if i < 128 then b.getLsbD (i - 64) else if i < 192 then c.getLsbD (i - 128) else d.getLsbD (i - 192) := by
  unfold ofWords
  rw [BitVec.getLsbD_append, BitVec.getLsbD_append, BitVec.getLsbD_append]
  by_cases h1 : i < 64
  · rw [if_pos h1, if_pos h1, if_pos (by omega)]
  · by_cases h2 : i < 128
    · rw [if_pos h2, if_neg h1, if_neg h1, if_pos h2]
    · by_cases h3 : i < 192
      · rw [if_neg h2, if_pos (by omega), if_neg h1, if_neg h2, if_pos h3]
      · rw [if_neg h2, if_neg (by omega), if_neg h1, if_neg h2, if_neg h3, Nat.sub_sub]

theorem word_ofWords (a b c d : W64) : word (ofWords a b c d) 0 = a ∧ word (ofWords a b c d) 1 = b ∧ word (ofWords a b c d) 2 = c ∧ word (ofWords a b c d) 3 = d := by
  refine ⟨?_, ?_, ?_, ?_⟩
  · apply BitVec.eq_of_getLsbD_eq; intro i hi
    rw [word_bit _ _ _ hi, ofWords_bit, if_pos (by omega)]
    exact congrArg _ (by omega)
  · apply BitVec.eq_of_getLsbD_eq; intro i hi
    rw [word_bit _ _ _ hi, ofWords_bit, if_neg (by omega), if_pos (by omega)]
    exact congrArg _ (by omega)
  · apply BitVec.eq_of_getLsbD_eq; intro i hi
    rw [word_bit _ _ _ hi, ofWords_bit, if_neg (by omega), if_neg (by omega), if_pos (by omega)]
    exact congrArg _ (by omega)
  · apply BitVec.eq_of_getLsbD_eq; intro i hi
    rw [word_bit _ _ _ hi, ofWords_bit, if_neg (by omega), if_neg (by omega), if_neg (by omega)]
    exact congrArg _ (by omega)

theorem ofWords_word (s : Bs) : ofWords (word s 0) (word s 1) (word s 2) (word s 3) = s := by
  obtain ⟨h0, h1, h2, h3⟩ := word_ofWords (word s 0) (word s 1) (word s 2) (word s 3)
  exact set_ext h0 h1 h2 h3

theorem word_and (a b : Bs) (i : Nat) : word (a &&& b) i = word a i &&& word b i := by
  apply BitVec.eq_of_getLsbD_eq; intro k hk; simp [word_bit _ _ _ hk]
theorem word_or (a b : Bs) (i : Nat) : word (a ||| b) i = word a i ||| word b i := by
  apply BitVec.eq_of_getLsbD_eq; intro k hk; simp [word_bit _ _ _ hk]
theorem word_not (a : Bs) (i : Nat) (hi : i < 4) : word (~~~a) i = ~~~(word a i) := by
  apply BitVec.eq_of_getLsbD_eq; intro k hk
  rw [word_bit _ _ _ hk, BitVec.getLsbD_not, BitVec.getLsbD_not, word_bit _ _ _ hk]
  have h1 : 64 * i + k < 256 := by omega
  simp [h1, hk]
theorem word_zero (i : Nat) : word (0#256) i = 0#64 := by
  apply BitVec.eq_of_getLsbD_eq; intro k hk; simp [word_bit _ _ _ hk]

/-- The set of one byte. -/
def one (b : Nat) : Bs := BitVec.twoPow 256 b

theorem one_bit (b i : Nat) (hb : b < 256) : (one b).getLsbD i = decide (i = b) := by
  unfold one
  rw [BitVec.getLsbD_twoPow]
  by_cases h : i = b
  · subst h; simp [hb]
  · simp [h, Ne.symm h]

theorem word_one (b i : Nat) (hb : b < 256) : word (one b) i = if i = b / 64 then BitVec.twoPow 64 (b % 64) else 0#64 := by
  apply BitVec.eq_of_getLsbD_eq; intro k hk
  rw [word_bit _ _ _ hk, one_bit _ _ hb]
  by_cases h : i = b / 64
  · subst h
    rw [if_pos rfl, BitVec.getLsbD_twoPow]
    have h1 : b % 64 < 64 := Nat.mod_lt _ (by decide)
    simp only [h1, decide_true, Bool.true_and]
    congr 1
    exact propext ⟨fun _ => by omega, fun _ => by omega⟩
  · rw [if_neg h]
    simp
    omega

/-! ### The machine's operations on words -/

theorem ofInt_toNat (x : W64) : BitVec.ofInt 64 (x.toNat : Int) = x := by
  rw [BitVec.ofInt_natCast, BitVec.ofNat_toNat, BitVec.setWidth_eq]

theorem wrap_word (x : W64) : IntKind.u64.wrap (x.toNat : Int) = (x.toNat : Int) := by
  rw [IntKind.wrap_u64]
  have := x.isLt
  omega

theorem bits_and (x y : W64) : bits .and .u64 (x.toNat : Int) (y.toNat : Int) = ((x &&& y).toNat : Int) := by
  show IntKind.u64.wrap ((BitVec.ofInt 64 (x.toNat : Int) &&& BitVec.ofInt 64 (y.toNat : Int)).toNat : Int) = _
  rw [ofInt_toNat, ofInt_toNat, wrap_word]
theorem bits_or (x y : W64) : bits .or .u64 (x.toNat : Int) (y.toNat : Int) = ((x ||| y).toNat : Int) := by
  show IntKind.u64.wrap ((BitVec.ofInt 64 (x.toNat : Int) ||| BitVec.ofInt 64 (y.toNat : Int)).toNat : Int) = _
  rw [ofInt_toNat, ofInt_toNat, wrap_word]
theorem bits_xor (x y : W64) : bits .xor .u64 (x.toNat : Int) (y.toNat : Int) = ((x ^^^ y).toNat : Int) := by
  show IntKind.u64.wrap ((BitVec.ofInt 64 (x.toNat : Int) ^^^ BitVec.ofInt 64 (y.toNat : Int)).toNat : Int) = _
  rw [ofInt_toNat, ofInt_toNat, wrap_word]
theorem bits_andNot (x y : W64) : bits .andNot .u64 (x.toNat : Int) (y.toNat : Int) = ((x &&& ~~~y).toNat : Int) := by
  show IntKind.u64.wrap ((BitVec.ofInt 64 (x.toNat : Int) &&& ~~~(BitVec.ofInt 64 (y.toNat : Int))).toNat : Int) = _
  rw [ofInt_toNat, ofInt_toNat, wrap_word]

/-- '1 << k', k below 64. -/
theorem shl_one (k : Nat) : ((2 ^ k % 18446744073709551616 : Nat) : Int) = ((BitVec.twoPow 64 k).toNat : Int) := by
  rw [BitVec.toNat_twoPow]

theorem bits_not (x : W64) : bits .xor .u64 IntKind.u64.max (x.toNat : Int) = ((~~~x).toNat : Int) := by
  have : IntKind.u64.max = ((BitVec.allOnes 64).toNat : Int) := by decide
  rw [this, bits_xor, BitVec.allOnes_xor]

theorem wrap_pow (k : Nat) : IntKind.u64.wrap (2 ^ k) = ((BitVec.twoPow 64 k).toNat : Int) := by
  rw [IntKind.wrap_u64, BitVec.toNat_twoPow, Int.natCast_emod]
  simp

/-- '(w >> k) & 1 == 1': the bit. -/
theorem bit_test (x : W64) (k : Nat) : (bits .and .u64 ((x.toNat : Int) / 2 ^ k) 1 == 1) = x.getLsbD k := by
  have h1 : ((x.toNat : Int) / 2 ^ k) = (((x >>> k : W64)).toNat : Int) := by
    rw [BitVec.toNat_ushiftRight, Nat.shiftRight_eq_div_pow]
    simp
  have h2 : (1 : Int) = ((1#64).toNat : Int) := rfl
  rw [h1]
  conv => lhs; rw [h2, bits_and]
  have h3 : (x >>> k) &&& 1#64 = if x.getLsbD k then 1#64 else 0#64 := by
    apply BitVec.eq_of_getLsbD_eq; intro i hi
    rw [BitVec.getLsbD_and, BitVec.getLsbD_ushiftRight]
    by_cases e : i = 0
    · subst e; cases x.getLsbD k <;> simp
    · have h5 : (1#64).getLsbD i = false := by
        rw [BitVec.getLsbD_one]; simp [e]
      rw [h5, Bool.and_false]
      cases x.getLsbD k <;> simp [h5]
  rw [h3]
  cases x.getLsbD k <;> rfl

/-- What two sets come to, word by word. -/
def mapW (op : W64 → W64 → W64) (a b : Bs) : Bs := ofWords (op (word a 0) (word b 0)) (op (word a 1) (word b 1)) (op (word a 2) (word b 2)) (op (word a 3) (word b 3))

theorem mapW_eq {op : W64 → W64 → W64} {a b c : Bs} (h : ∀ i, i < 4 → word c i = op (word a i) (word b i)) : mapW op a b = c := by
  obtain ⟨h0, h1, h2, h3⟩ := word_ofWords (op (word a 0) (word b 0)) (op (word a 1) (word b 1)) (op (word a 2) (word b 2)) (op (word a 3) (word b 3))
  exact set_ext (h0.trans (h 0 (by decide)).symm) (h1.trans (h 1 (by decide)).symm) (h2.trans (h 2 (by decide)).symm) (h3.trans (h 3 (by decide)).symm)
theorem mapW_and (a b : Bs) : mapW (fun x y => x &&& y) a b = a &&& b := mapW_eq fun i _ => word_and a b i
theorem mapW_or (a b : Bs) : mapW (fun x y => x ||| y) a b = a ||| b := mapW_eq fun i _ => word_or a b i
theorem mapW_less (a b : Bs) : mapW (fun x y => x &&& ~~~y) a b = a &&& ~~~b := mapW_eq fun i hi => by rw [word_and, word_not _ _ hi]

/-- The same, the first k words done. -/
def partW (op : W64 → W64 → W64) (a b : Bs) (k : Nat) : Bs :=
  ofWords (if 0 < k then op (word a 0) (word b 0) else word a 0) (if 1 < k then op (word a 1) (word b 1) else word a 1) (if 2 < k then op (word a 2) (word b 2) else word a 2) (if 3 < k then op (word a 3) (word b 3) else word a 3)
theorem partW_word (op : W64 → W64 → W64) (a b : Bs) (k i : Nat) (hi : i < 4) : word (partW op a b k) i = if i < k then op (word a i) (word b i) else word a i := by
  obtain ⟨h0, h1, h2, h3⟩ := word_ofWords (if 0 < k then op (word a 0) (word b 0) else word a 0) (if 1 < k then op (word a 1) (word b 1) else word a 1) (if 2 < k then op (word a 2) (word b 2) else word a 2) (if 3 < k then op (word a 3) (word b 3) else word a 3)
  have : i = 0 ∨ i = 1 ∨ i = 2 ∨ i = 3 := by omega
  rcases this with rfl | rfl | rfl | rfl
  · exact h0
  · exact h1
  · exact h2
  · exact h3
theorem partW_zero (op : W64 → W64 → W64) (a b : Bs) : partW op a b 0 = a := by
  refine set_ext ?_ ?_ ?_ ?_ <;> (rw [partW_word _ _ _ _ _ (by decide)]; rfl)
theorem partW_four (op : W64 → W64 → W64) (a b : Bs) : partW op a b 4 = mapW op a b := by
  refine (mapW_eq fun i hi => ?_).symm
  rw [partW_word _ _ _ _ _ hi, if_pos hi]
theorem partW_set (op : W64 → W64 → W64) (a b : Bs) (k : Nat) (hk : k < 4) : (setC (partW op a b k)).setIfInBounds k (wordV (op (word a k) (word b k))) = setC (partW op a b (k + 1)) := by
  have : k = 0 ∨ k = 1 ∨ k = 2 ∨ k = 3 := by omega
  simp only [setC]
  rcases this with rfl | rfl | rfl | rfl <;>
    simp only [partW_word _ _ _ _ 0 (by decide), partW_word _ _ _ _ 1 (by decide), partW_word _ _ _ _ 2 (by decide), partW_word _ _ _ _ 3 (by decide)] <;> rfl

/-! ### Sets by what they have -/

def ofPn (p : Nat → Bool) : Nat → Bs
  | 0 => 0#256
  | n + 1 => if p n then ofPn p n ||| one n else ofPn p n

theorem ofPn_bit (p : Nat → Bool) (i : Nat) : ∀ n, n ≤ 256 → (ofPn p n).getLsbD i = (decide (i < n) && p i) := by
  intro n
  induction n with
  | zero => intro _; simp [ofPn]
  | succ n ih =>
    intro hn
    have ih := ih (by omega)
    simp only [ofPn]
    have h1 : decide (i < n + 1) = (decide (i < n) || decide (i = n)) := by
      rw [← Bool.decide_or]; congr 1; exact propext ⟨fun _ => by omega, fun _ => by omega⟩
    rw [h1]
    split
    · rename_i hp
      rw [BitVec.getLsbD_or, ih, one_bit _ _ (by omega)]
      by_cases e : i = n
      · subst e; simp [hp]
      · simp [e]
    · rename_i hp
      rw [ih]
      by_cases e : i = n
      · subst e; simp at hp; simp [hp]
      · simp [e]

/-- The set of the bytes of which p holds. -/
def ofP (p : Nat → Bool) : Bs := ofPn p 256

theorem ofP_bit (p : Nat → Bool) (i : Nat) : (ofP p).getLsbD i = (decide (i < 256) && p i) := ofPn_bit p i 256 (Nat.le_refl _)

theorem bs_ext {a b : Bs} (h : ∀ i, i < 256 → a.getLsbD i = b.getLsbD i) : a = b := BitVec.eq_of_getLsbD_eq h

theorem ofP_congr {p q : Nat → Bool} (h : ∀ i, i < 256 → p i = q i) : ofP p = ofP q := by
  apply bs_ext; intro i hi; rw [ofP_bit, ofP_bit, h i hi]

theorem ofP_self (s : Bs) : ofP (fun i => s.getLsbD i) = s := by
  apply bs_ext; intro i hi; rw [ofP_bit]; simp [hi]

theorem ofP_or_one (p : Nat → Bool) (b : Nat) (hb : b < 256) : ofP p ||| one b = ofP fun i => p i || decide (i = b) := by
  apply bs_ext; intro i hi
  rw [BitVec.getLsbD_or, ofP_bit, ofP_bit, one_bit _ _ hb]
  simp [hi]

theorem ofP_false : ofP (fun _ => false) = 0#256 := by
  apply bs_ext; intro i hi; rw [ofP_bit]; simp

/-- The bytes from lo up to hi. -/
def spanS (lo hi : Nat) : Bs := ofP fun i => decide (lo ≤ i) && decide (i ≤ hi)
/-- The set of a row of bytes. -/
def listS (l : List Nat) : Bs := ofP fun i => decide (i ∈ l)

end Go.Proofs.Ytejialnbelleeaa
