/-
  Sets, their bytes and their runs in plain Lean: what makes what again, and how many there are.
-/
import Derived.Test.YtejialnbelleeaaDoorSetI
namespace Go.Proofs.YtejialnbelleeaaDoor
open Go Go.RowKit

theorem span_bit (lo hi i : Nat) : (spanS lo hi).getLsbD i = (decide (i < 256) && (decide (lo ≤ i) && decide (i ≤ hi))) := ofP_bit _ i
theorem list_bit (l : List Nat) (i : Nat) : (listS l).getLsbD i = (decide (i < 256) && decide (i ∈ l)) := ofP_bit _ i

/-! ### The bytes of a set -/

theorem upS_mem {s : Bs} : ∀ (m i : Nat) (x : Fin 256), x ∈ upS s m i ↔ i ≤ x.val ∧ x.val < i + m ∧ s.getLsbD x.val = true
  | 0, i, x => by simp [upS]; omega
  | m + 1, i, x => by
    have ih := upS_mem (s := s) m (i + 1) x
    have hx := x.isLt
    unfold upS
    by_cases hi : i < 256
    · rw [dif_pos hi]
      by_cases hs : s.getLsbD i = true
      · rw [if_pos hs, List.mem_cons, ih]
        constructor
        · rintro (rfl | h)
          · exact ⟨Nat.le_refl _, by simp, hs⟩
          · exact ⟨by omega, by omega, h.2.2⟩
        · rintro ⟨h1, h2, h3⟩
          by_cases e : x.val = i
          · exact .inl (Fin.ext e)
          · exact .inr ⟨by omega, by omega, h3⟩
      · rw [if_neg hs, ih]
        constructor
        · rintro ⟨h1, h2, h3⟩; exact ⟨by omega, by omega, h3⟩
        · rintro ⟨h1, h2, h3⟩
          have : x.val ≠ i := fun e => hs (e ▸ h3)
          exact ⟨by omega, by omega, h3⟩
    · rw [dif_neg hi]
      simp; omega
theorem bytesS_mem {s : Bs} (x : Fin 256) : x ∈ bytesS s ↔ s.getLsbD x.val = true := by
  unfold bytesS
  rw [upS_mem]
  have := x.isLt
  constructor
  · exact fun h => h.2.2
  · exact fun h => ⟨by omega, by omega, h⟩
theorem upS_sorted {s : Bs} : ∀ (m i : Nat), (upS s m i).Pairwise (fun a b => a.val < b.val)
  | 0, i => List.Pairwise.nil
  | m + 1, i => by
    unfold upS
    split
    · split
      · refine List.Pairwise.cons ?_ (upS_sorted m (i + 1))
        intro x hx
        have := ((upS_mem m (i + 1) x).1 hx).1
        simp; omega
      · exact upS_sorted m (i + 1)
    · exact List.Pairwise.nil
theorem bytesS_sorted (s : Bs) : (bytesS s).Pairwise (fun a b => a.val < b.val) := upS_sorted 256 0
theorem upS_count {s : Bs} : ∀ (m i : Nat), i + m ≤ 256 → (upS s m i).length = pcn (fun j => s.getLsbD (i + j)) m
  | 0, i, _ => rfl
  | m + 1, i, h => by
    have ih := upS_count (s := s) m (i + 1) (by omega)
    have e : pcn (fun j => s.getLsbD (i + j)) (m + 1) = (if s.getLsbD i then 1 else 0) + pcn (fun j => s.getLsbD (i + 1 + j)) m := by
      rw [Nat.add_comm m 1, pcn_add]
      congr 1
      · simp [pcn]
      · exact pcn_congr m fun j _ => by rw [Nat.add_assoc]
    rw [e]
    unfold upS
    rw [dif_pos (by omega)]
    split
    · rw [List.length_cons, ih]; omega
    · rw [ih]; omega
theorem bytesS_count (s : Bs) : (bytesS s).length = countS s := by
  unfold bytesS countS
  rw [upS_count 256 0 (by omega)]
  exact pcn_congr _ fun j _ => by rw [Nat.zero_add]
theorem listS_bytes (s : Bs) : listS ((bytesS s).map (·.val)) = s := by
  apply bs_ext
  intro i hi
  rw [list_bit, Bool.eq_iff_iff]
  simp only [Bool.and_eq_true, decide_eq_true_eq, List.mem_map]
  constructor
  · rintro ⟨_, x, hx, rfl⟩; exact (bytesS_mem x).1 hx
  · exact fun h => ⟨hi, ⟨i, hi⟩, (bytesS_mem _).2 h, rfl⟩

/-! ### Runs -/

/-- Where the next run may begin. -/
def lbE : List RunN → Nat → Nat
  | [], lb => lb
  | r :: l, _ => lbE l (r.2 + 2)
theorem fromU_append : ∀ (l l' : List RunN) (lb : Nat) (acc : Bs), fromU (l ++ l') lb acc = (fromU l lb acc).bind fun s => fromU l' (lbE l lb) s
  | [], l', lb, acc => rfl
  | r :: l, l', lb, acc => by
    simp only [List.cons_append, fromU, lbE]
    split
    · rfl
    · exact fromU_append l l' _ _
theorem lbE_snoc : ∀ (l : List RunN) (r : RunN) (lb : Nat), lbE (l ++ [r]) lb = r.2 + 2
  | [], r, lb => rfl
  | _ :: l, r, lb => by simp only [List.cons_append, lbE]; exact lbE_snoc l r _
/-- What runs of a row of bytes come to. -/
theorem runsU_from : ∀ (n : Nat) (l : List (Fin 256)), l.length = n → l.Pairwise (fun a b => a.val < b.val) → fromS (runsU l) = some (listS (l.map (·.val))) ∧ (l = [] → runsU l = []) ∧ (∀ i x, l = i ++ [x] → ∃ j r, runsU l = j ++ [r] ∧ r.2 = x.val)
  | 0, l, hl, _ => by
    have : l = [] := List.length_eq_zero_iff.1 hl
    subst this
    refine ⟨?_, fun _ => rfl, fun i x h => by simp at h⟩
    refine congrArg some (?_ : (0#256 : Bs) = listS [])
    apply bs_ext; intro i hi; rw [list_bit]; simp
  | n + 1, l, hl, hs => by
    rcases List.eq_nil_or_concat l with rfl | ⟨pre, x, rfl⟩
    · simp at hl
    rw [List.concat_eq_append] at hl hs ⊢
    have hpre := (List.pairwise_append.1 hs).1
    have hlt : ∀ a ∈ pre, a.val < x.val := fun a ha => (List.pairwise_append.1 hs).2.2 a ha x (by simp)
    obtain ⟨h1, h2, h3⟩ := runsU_from n pre (by simpa using hl) hpre
    have hset : listS ((pre ++ [x]).map (·.val)) = listS (pre.map (·.val)) ||| spanS x.val x.val := by
      apply bs_ext; intro i hi
      rw [BitVec.getLsbD_or, list_bit, list_bit, span_bit, Bool.eq_iff_iff]
      simp only [Bool.or_eq_true, Bool.and_eq_true, decide_eq_true_eq, hi, true_and, List.map_append, List.mem_append, List.map_cons, List.map_nil, List.mem_singleton]
      constructor
      · rintro (h | h)
        · exact .inl h
        · exact .inr (by omega)
      · rintro (h | h)
        · exact .inl h
        · exact .inr (by omega)
    have fin : fromS (runsU (pre ++ [x])) = some (listS ((pre ++ [x]).map (·.val))) ∧ ∃ j r, runsU (pre ++ [x]) = j ++ [r] ∧ r.2 = x.val := by
      rw [runsU_snoc, hset]
      rcases List.eq_nil_or_concat pre with rfl | ⟨p', y, rfl⟩
      · rw [h2 rfl] at h1
        rw [h2 rfl, runStep_nil]
        refine ⟨?_, [], _, rfl, rfl⟩
        show fromU [(x.val, x.val)] 0 0#256 = _
        have e : fromU [] 0 0#256 = some (listS ([].map (fun x : Fin 256 => x.val))) := h1
        simp only [fromU] at e ⊢
        rw [if_neg (by omega)]
        injection e with e
        rw [← e]
      · rw [List.concat_eq_append] at hlt h1 h3 ⊢
        obtain ⟨j, r, e1, e2⟩ := h3 p' y rfl
        have hy : y.val < x.val := hlt y (by simp)
        rw [e1] at h1 ⊢
        unfold fromS at h1 ⊢
        rw [fromU_append] at h1
        obtain ⟨s0, q1, q2⟩ := Option.bind_eq_some_iff.1 h1
        simp only [fromU] at q2
        split at q2
        · cases q2
        rename_i q3
        injection q2 with q2
        by_cases hon : r.2 + 1 = x.val
        · rw [runStep_on _ _ _ hon]
          refine ⟨?_, j, _, rfl, rfl⟩
          rw [fromU_append, q1]
          simp only [Option.bind_some, fromU]
          rw [if_neg (by omega), ← q2]
          congr 1
          apply bs_ext; intro i hi
          rw [BitVec.getLsbD_or, BitVec.getLsbD_or, BitVec.getLsbD_or, span_bit, span_bit, span_bit, Bool.or_assoc]
          congr 1
          rw [Bool.eq_iff_iff]
          simp only [Bool.or_eq_true, Bool.and_eq_true, decide_eq_true_eq]
          omega
        · rw [runStep_new _ _ _ hon]
          refine ⟨?_, j ++ [r], _, rfl, rfl⟩
          rw [fromU_append, fromU_append, q1]
          simp only [Option.bind_some, fromU, lbE_snoc]
          rw [if_neg q3]
          simp only [Option.bind_some]
          rw [if_neg (by omega), q2]
    refine ⟨fin.1, fun h => by simp at h, fun i z h => ?_⟩
    obtain ⟨rfl, rfl⟩ : pre = i ∧ x = z := by simpa using List.append_inj' h rfl
    exact fin.2
theorem fromS_runs (s : Bs) : fromS (runsS s) = some s := by
  have := (runsU_from _ (bytesS s) rfl (bytesS_sorted s)).1
  rw [listS_bytes] at this
  exact this

/-- Is a place in one of runs? -/
def inR (l : List RunN) (i : Nat) : Prop := ∃ r ∈ l, r.1 ≤ i ∧ i ≤ r.2
theorem fromU_bit : ∀ (l : List RunN) (lb : Nat) (acc s : Bs), fromU l lb acc = some s → ∀ i, i < 256 → (s.getLsbD i = true ↔ acc.getLsbD i = true ∨ inR l i)
  | [], lb, acc, s, h, i, hi => by
    cases h
    simp [inR]
  | r :: l, lb, acc, s, h, i, hi => by
    simp only [fromU] at h
    split at h
    · cases h
    rw [fromU_bit l _ _ s h i hi, BitVec.getLsbD_or, span_bit]
    simp only [inR, Bool.or_eq_true, Bool.and_eq_true, decide_eq_true_eq, hi, true_and, List.mem_cons, exists_eq_or_imp, or_assoc]
theorem fromU_lb : ∀ (l : List RunN) (lb : Nat) (acc s : Bs), fromU l lb acc = some s → ∀ i, inR l i → lb ≤ i
  | [], lb, acc, s, h, i, hi => by simp [inR] at hi
  | r :: l, lb, acc, s, h, i, hi => by
    simp only [fromU] at h
    split at h
    · cases h
    obtain ⟨q, hq, h1, h2⟩ := hi
    rcases List.mem_cons.1 hq with rfl | hq
    · omega
    · have := fromU_lb l _ _ s h i ⟨q, hq, h1, h2⟩
      omega
/-- Runs that stand apart are told by what is in them. -/
theorem runs_unique : ∀ (l l' : List RunN) (lb : Nat) (a a' s s' : Bs), fromU l lb a = some s → fromU l' lb a' = some s' → (∀ i, inR l i ↔ inR l' i) → l = l'
  | [], [], _, _, _, _, _, _, _, _ => rfl
  | [], r :: l', lb, a, a', s, s', h, h', he => by
    simp only [fromU] at h'
    split at h'
    · cases h'
    have := (he r.1).2 ⟨r, by simp, by omega, by omega⟩
    simp [inR] at this
  | r :: l, [], lb, a, a', s, s', h, h', he => by
    simp only [fromU] at h
    split at h
    · cases h
    have := (he r.1).1 ⟨r, by simp, by omega, by omega⟩
    simp [inR] at this
  | r :: l, q :: l', lb, a, a', s, s', h, h', he => by
    simp only [fromU] at h h'
    split at h
    · cases h
    split at h'
    · cases h'
    rename_i c c'
    have lo := fromU_lb l _ _ _ h
    have lo' := fromU_lb l' _ _ _ h'
    have cons : ∀ (r : RunN) (l : List RunN) (i : Nat), inR (r :: l) i ↔ (r.1 ≤ i ∧ i ≤ r.2) ∨ inR l i := by
      intro r l i; simp [inR]
    simp only [cons] at he
    have e1 : r.1 = q.1 := by
      have h1 := (he r.1).1 (.inl ⟨by omega, by omega⟩)
      have h2 := (he q.1).2 (.inl ⟨by omega, by omega⟩)
      have h3 : q.1 ≤ r.1 := by
        rcases h1 with h1 | h1
        · exact h1.1
        · have := lo' _ h1; omega
      have h4 : r.1 ≤ q.1 := by
        rcases h2 with h2 | h2
        · exact h2.1
        · have := lo _ h2; omega
      omega
    have e2 : r.2 = q.2 := by
      rcases Nat.lt_trichotomy r.2 q.2 with hlt | e | hlt
      · rcases (he (r.2 + 1)).2 (.inl ⟨by omega, by omega⟩) with h5 | h5
        · omega
        · have := lo _ h5; omega
      · exact e
      · rcases (he (q.2 + 1)).1 (.inl ⟨by omega, by omega⟩) with h5 | h5
        · omega
        · have := lo' _ h5; omega
    obtain rfl : r = q := Prod.ext e1 e2
    congr 1
    refine runs_unique l l' _ _ _ s s' h h' fun i => ?_
    constructor
    · intro hi
      have hl := lo _ hi
      rcases (he i).1 (.inr hi) with h5 | h5
      · omega
      · exact h5
    · intro hi
      have hl := lo' _ hi
      rcases (he i).2 (.inr hi) with h5 | h5
      · omega
      · exact h5
theorem runs_fromS {l : List RunN} {s : Bs} (h : fromS l = some s) (hl : ∀ r ∈ l, r.1 < 256 ∧ r.2 < 256) : runsS s = l := by
  have h0 := fromS_runs s
  have hr : ∀ r ∈ runsS s, r.1 < 256 ∧ r.2 < 256 := runsU_lt _
  refine runs_unique _ _ 0 _ _ s s h0 h fun i => ?_
  have b1 := fromU_bit _ _ _ _ h0 i
  have b2 := fromU_bit _ _ _ _ h i
  constructor
  · rintro hi
    obtain ⟨r, hm, h1, h2⟩ := id hi
    have := hr r hm
    have := (b2 (by omega)).1 ((b1 (by omega)).2 (.inr hi))
    simpa using this
  · rintro hi
    obtain ⟨r, hm, h1, h2⟩ := id hi
    have := hl r hm
    have := (b1 (by omega)).1 ((b2 (by omega)).2 (.inr hi))
    simpa using this
theorem fromU_few : ∀ (l : List RunN) (lb : Nat) (acc s : Bs), fromU l lb acc = some s → (∀ r ∈ l, r.2 < 256) → l = [] ∨ lb + 2 * l.length ≤ 257
  | [], _, _, _, _, _ => .inl rfl
  | r :: l, lb, acc, s, h, hl => by
    simp only [fromU] at h
    split at h
    · cases h
    have h1 := hl r (by simp)
    right
    rcases fromU_few l _ _ _ h (fun q hq => hl q (List.mem_cons_of_mem _ hq)) with rfl | h2
    · simp; omega
    · simp; omega
theorem runsS_few (s : Bs) : (runsS s).length ≤ 128 := by
  have hr : ∀ r ∈ runsS s, r.1 < 256 ∧ r.2 < 256 := runsU_lt _
  rcases fromU_few _ _ _ _ (fromS_runs s) (fun r hm => (hr r hm).2) with h | h
  · rw [h]; simp
  · omega
/-- How many bytes runs have. -/
def manyR (l : List RunN) : Int := l.foldl (fun (n : Int) r => n + ((r.2 : Int) - (r.1 : Int) + 1)) 0
theorem manyR_snoc (l : List RunN) (r : RunN) : manyR (l ++ [r]) = manyR l + ((r.2 : Int) - (r.1 : Int) + 1) := by simp [manyR]
theorem runsU_many (l : List (Fin 256)) : ∀ n, l.length = n → manyR (runsU l) = (n : Int) := by
  intro n
  induction n generalizing l with
  | zero => intro h; rw [List.length_eq_zero_iff.1 h]; rfl
  | succ n ih =>
    intro h
    rcases List.eq_nil_or_concat l with rfl | ⟨pre, x, rfl⟩
    · simp at h
    rw [List.concat_eq_append] at h ⊢
    have hp := ih pre (by simpa using h)
    rw [runsU_snoc]
    rcases List.eq_nil_or_concat (runsU pre) with e | ⟨j, r, e⟩
    · rw [e] at hp ⊢
      rw [runStep_nil]
      simp [manyR] at hp ⊢
      omega
    · rw [List.concat_eq_append] at e
      rw [e] at hp ⊢
      rw [manyR_snoc] at hp
      by_cases hon : r.2 + 1 = x.val
      · rw [runStep_on _ _ _ hon, manyR_snoc]; omega
      · rw [runStep_new _ _ _ hon, manyR_snoc, manyR_snoc]; omega
theorem runsS_many (s : Bs) : manyR (runsS s) = (countS s : Int) := by
  have := runsU_many (bytesS s) _ rfl
  rw [bytesS_count] at this
  exact this

/-! ### Both cases -/

theorem xor32_lt {i : Nat} (h : i < 256) : i ^^^ 32 < 256 := by
  have : ∀ x : Fin 256, x.val ^^^ 32 < 256 := by decide +kernel
  exact this ⟨i, h⟩
theorem xor32_xor (i : Nat) : i ^^^ 32 ^^^ 32 = i := by rw [Nat.xor_assoc, Nat.xor_self, Nat.xor_zero]
theorem letters_xor (i : Nat) (h : i < 256) : letters.getLsbD (i ^^^ 32) = letters.getLsbD i := by
  have : ∀ x : Fin 256, letters.getLsbD (x.val ^^^ 32) = letters.getLsbD x.val := by decide +kernel
  exact this ⟨i, h⟩
theorem foldU_bit (l : List (Fin 256)) (acc : Bs) (i : Nat) (h : i < 256) : (foldU acc l).getLsbD i = (acc.getLsbD i || decide ((⟨i ^^^ 32, xor32_lt h⟩ : Fin 256) ∈ l)) := by
  induction l generalizing acc with
  | nil => simp [foldU]
  | cons x l ih =>
    have : foldU acc (x :: l) = foldU (acc ||| one (x.val ^^^ 32)) l := rfl
    rw [this, ih, BitVec.getLsbD_or, one_bit _ _ (xor32_lt x.isLt), Bool.or_assoc]
    congr 1
    rw [Bool.eq_iff_iff]
    simp only [Bool.or_eq_true, decide_eq_true_eq, List.mem_cons]
    constructor
    · rintro (rfl | h)
      · exact .inl (Fin.ext (xor32_xor _))
      · exact .inr h
    · rintro (h | h)
      · left; rw [← h]; exact (xor32_xor _).symm
      · exact .inr h
theorem foldS_bit (s : Bs) (i : Nat) (h : i < 256) : (foldS s).getLsbD i = (s.getLsbD i || (letters.getLsbD i && s.getLsbD (i ^^^ 32))) := by
  unfold foldS
  rw [foldU_bit _ _ _ h]
  congr 1
  rw [Bool.eq_iff_iff]
  simp only [decide_eq_true_eq, bytesS_mem, List.foldl_cons, List.foldl_nil, BitVec.getLsbD_and, Bool.and_eq_true, letters_xor i h, and_comm]
theorem foldS_twice (s : Bs) : foldS (foldS s) = foldS s := by
  apply bs_ext; intro i hi
  rw [foldS_bit _ _ hi, foldS_bit _ _ hi, foldS_bit _ _ (xor32_lt hi), letters_xor _ hi, xor32_xor]
  cases s.getLsbD i <;> cases letters.getLsbD i <;> cases s.getLsbD (i ^^^ 32) <;> rfl
theorem foldS_has (s : Bs) : foldS s &&& s = s := by
  apply bs_ext; intro i hi
  rw [BitVec.getLsbD_and, foldS_bit _ _ hi]
  cases s.getLsbD i <;> simp

/-! ### How many there are -/

theorem pcn_or_and (p q : Nat → Bool) : ∀ n, pcn (fun i => p i || q i) n + pcn (fun i => p i && q i) n = pcn p n + pcn q n
  | 0 => rfl
  | n + 1 => by
    have := pcn_or_and p q n
    simp only [pcn]
    rcases Bool.eq_false_or_eq_true (p n) with h1 | h1 <;> rcases Bool.eq_false_or_eq_true (q n) with h2 | h2 <;> simp [h1, h2] <;> omega
theorem count_or_and (a b : Bs) : countS (a ||| b) + countS (a &&& b) = countS a + countS b := by
  unfold countS
  refine Eq.trans ?_ (pcn_or_and _ _ 256)
  exact congr (congrArg _ (pcn_congr _ fun i _ => BitVec.getLsbD_or)) (pcn_congr _ fun i _ => BitVec.getLsbD_and)
theorem pcn_not (p : Nat → Bool) : ∀ n, pcn p n + pcn (fun i => !p i) n = n
  | 0 => rfl
  | n + 1 => by
    have := pcn_not p n
    simp only [pcn]
    rcases Bool.eq_false_or_eq_true (p n) with h1 | h1 <;> simp [h1] <;> omega
theorem count_not (a : Bs) : countS a + countS (~~~a) = 256 := by
  unfold countS
  refine Eq.trans ?_ (pcn_not a.getLsbD 256)
  exact congrArg _ (pcn_congr _ fun i hi => by rw [BitVec.getLsbD_not]; simp [hi])
theorem pcn_one (p q : Nat → Bool) (b : Nat) (h1 : p b = true) (h2 : q b = false) (h : ∀ i, i ≠ b → p i = q i) : ∀ n, pcn p n = pcn q n + if b < n then 1 else 0
  | 0 => by simp [pcn]
  | n + 1 => by
    have ih := pcn_one p q b h1 h2 h n
    simp only [pcn]
    by_cases e : n = b
    · subst e; rw [ih, h1, h2]; simp
    · rw [ih, h n e]
      by_cases hb : b < n
      · rw [if_pos hb, if_pos (by omega : b < n + 1)]; omega
      · rw [if_neg hb, if_neg (by omega : ¬ b < n + 1)]; omega
theorem count_with (a : Bs) (b : Nat) (hb : b < 256) : countS (a ||| listS [b]) = countS (a &&& ~~~(listS [b])) + 1 := by
  unfold countS
  rw [pcn_one (a ||| listS [b]).getLsbD (a &&& ~~~(listS [b])).getLsbD b ?_ ?_ ?_ 256, if_pos hb]
  · rw [BitVec.getLsbD_or, list_bit]; simp [hb]
  · rw [BitVec.getLsbD_and, BitVec.getLsbD_not, list_bit]; simp [hb]
  · intro i hi
    rw [BitVec.getLsbD_or, BitVec.getLsbD_and, BitVec.getLsbD_not, list_bit]
    simp [hi]
    by_cases h : i < 256
    · simp [h]
    · rw [BitVec.getLsbD_of_ge _ _ (by omega)]; simp

end Go.Proofs.YtejialnbelleeaaDoor
