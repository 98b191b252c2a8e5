/-
  The order of sets, in plain Lean.
-/
import Derived.Test.YtejialnbelleeaaDoorSetD
namespace Go.Proofs.YtejialnbelleeaaDoor
open Go Go.RowKit

theorem diff_comm (a b : Bs) : (b &&& ~~~a) ||| (a &&& ~~~b) = (a &&& ~~~b) ||| (b &&& ~~~a) := BitVec.or_comm _ _

/-- Where two sets part first. -/
theorem cmpS_at {a b : Bs} (h : a ≠ b) : ∃ i, i < 256 ∧ a.getLsbD i ≠ b.getLsbD i ∧ (∀ j, j < i → a.getLsbD j = b.getLsbD j) ∧ cmpS a b = if a.getLsbD i then -1 else 1 := by
  have hnn : nextS ((a &&& ~~~b) ||| (b &&& ~~~a)) 0 ≠ none := fun e => h (diff_zero (nextS_none e))
  obtain ⟨i, hi⟩ : ∃ i, nextS ((a &&& ~~~b) ||| (b &&& ~~~a)) 0 = some i := by
    cases e : nextS ((a &&& ~~~b) ||| (b &&& ~~~a)) 0 with
    | none => exact absurd e hnn
    | some n => exact ⟨n, rfl⟩
  obtain ⟨_, h2, h3, h4⟩ := firstP_some _ _ hi
  have hlt : i < 256 := by omega
  refine ⟨i, hlt, ?_, fun j hj => ?_, ?_⟩
  · simp only [BitVec.getLsbD_or, BitVec.getLsbD_and, BitVec.getLsbD_not, hlt, decide_true, Bool.true_and] at h3
    revert h3
    cases a.getLsbD i <;> cases b.getLsbD i <;> simp
  · have := h4 j (Nat.zero_le _) hj
    have hj' : j < 256 := by omega
    simp only [BitVec.getLsbD_or, BitVec.getLsbD_and, BitVec.getLsbD_not, hj', decide_true, Bool.true_and] at this
    revert this
    cases a.getLsbD j <;> cases b.getLsbD j <;> simp
  · unfold cmpS
    rw [if_neg h, hi]

theorem cmpS_self (a : Bs) : cmpS a a = 0 := by unfold cmpS; rw [if_pos rfl]
/-- It is told by any place where they part first. -/
theorem cmpS_of {a b : Bs} {i : Nat} (h1 : a.getLsbD i ≠ b.getLsbD i) (h2 : ∀ j, j < i → a.getLsbD j = b.getLsbD j) : cmpS a b = if a.getLsbD i then -1 else 1 := by
  have hne : a ≠ b := fun e => h1 (by rw [e])
  obtain ⟨k, _, k1, k2, k3⟩ := cmpS_at hne
  have : k = i := by
    rcases Nat.lt_trichotomy k i with h | h | h
    · exact absurd (h2 k h) k1
    · exact h
    · exact absurd (k2 i h) h1
  rw [k3, this]

theorem cmpS_anti (a b : Bs) : cmpS b a = -cmpS a b := by
  by_cases h : a = b
  · subst h; rw [cmpS_self]; rfl
  · obtain ⟨i, _, h1, h2, h3⟩ := cmpS_at h
    rw [h3, cmpS_of (fun e => h1 e.symm) (fun j hj => (h2 j hj).symm)]
    revert h1
    cases a.getLsbD i <;> cases b.getLsbD i <;> simp

theorem cmpS_zero (a b : Bs) : cmpS a b = 0 ↔ a = b := by
  constructor
  · intro h
    by_cases e : a = b
    · exact e
    · obtain ⟨i, _, _, _, h3⟩ := cmpS_at e
      rw [h3] at h
      split at h <;> cases h
  · rintro rfl; exact cmpS_self a
theorem cmpS_lt (a b : Bs) : -2 < cmpS a b ∧ cmpS a b < 2 := by
  by_cases e : a = b
  · subst e; rw [cmpS_self]; omega
  · obtain ⟨i, _, _, _, h3⟩ := cmpS_at e
    rw [h3]; split <;> omega

theorem cmpS_trans (a b c : Bs) : 0 ≤ cmpS a b ∨ 0 ≤ cmpS b c ∨ cmpS a c < 0 := by
  by_cases hab : a = b
  · subst hab; rw [cmpS_self]; exact .inl (Int.le_refl _)
  by_cases hbc : b = c
  · subst hbc; rw [cmpS_self]; exact .inr (.inl (Int.le_refl _))
  obtain ⟨i, _, i1, i2, i3⟩ := cmpS_at hab
  obtain ⟨j, _, j1, j2, j3⟩ := cmpS_at hbc
  rw [i3, j3]
  by_cases ha : a.getLsbD i = true
  · by_cases hb : b.getLsbD j = true
    · right; right
      have hbi : b.getLsbD i = false := by rw [ha] at i1; cases h : b.getLsbD i <;> simp_all
      have hcj : c.getLsbD j = false := by rw [hb] at j1; cases h : c.getLsbD j <;> simp_all
      rcases Nat.lt_trichotomy i j with h | h | h
      · rw [cmpS_of (i := i) (by rw [ha, ← j2 i h, hbi]; simp) (fun k hk => (i2 k hk).trans (j2 k (by omega))), ha]; decide
      · subst h; rw [hbi] at hb; cases hb
      · have haj : a.getLsbD j = true := (i2 j h).trans hb
        rw [cmpS_of (i := j) (by rw [haj, hcj]; simp) (fun k hk => (i2 k (by omega)).trans (j2 k hk)), haj]; decide
    · right; left; rw [if_neg hb]; decide
  · left; rw [if_neg ha]; decide

end Go.Proofs.YtejialnbelleeaaDoor
