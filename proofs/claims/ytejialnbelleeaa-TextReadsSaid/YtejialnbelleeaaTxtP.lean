/-
  Where a reader may stand behind a call, in plain Lean.
-/
import Derived.Test.YtejialnbelleeaaTxtO
namespace Go.Proofs.Ytejialnbelleeaa
open Go Go.RowKit

theorem nextP_bd {s : ByteArray} {p : Nat} (er : Int) (hp : p ≤ s.size) : p ≤ nextP s p er ∧ nextP s p er ≤ s.size := by
  unfold nextP; split <;> omega
theorem whileF_bd (s : ByteArray) (a : Bs) : ∀ n q, q ≤ s.size → q ≤ whileF s a n q ∧ whileF s a n q ≤ s.size
  | 0, q, h => ⟨Nat.le_refl _, h⟩
  | n + 1, q, h => by
    unfold whileF
    split
    · rename_i hc
      have := whileF_bd s a n (q + 1) (by omega)
      omega
    · exact ⟨Nat.le_refl _, h⟩
theorem wantF_bd (s word : ByteArray) (p : Nat) : ∀ n k, p + k ≤ s.size → match wantF s word p n k with
    | some j => k ≤ j ∧ p + j ≤ s.size
    | none => p + (k + n) ≤ s.size
  | 0, k, h => h
  | n + 1, k, h => by
    by_cases hc : p + k = s.size ∨ byteA s (p + k) ≠ byteA word k
    · rw [show wantF s word p (n + 1) k = some k from if_pos hc]
      exact ⟨Nat.le_refl _, h⟩
    · rw [show wantF s word p (n + 1) k = wantF s word p n (k + 1) from if_neg hc]
      have ih := wantF_bd s word p n (k + 1) (by omega)
      cases e : wantF s word p n (k + 1) with
      | some j => rw [e] at ih; simp only at ih ⊢; omega
      | none => rw [e] at ih; simp only at ih ⊢; omega
theorem mets_bd (s : ByteArray) (p : Nat) (hp : p ≤ s.size) : ∀ i ts, ∀ x ∈ mets s p i ts, p + x.val.2.size ≤ s.size
  | _, [] => fun x hx => by cases hx
  | i, t :: ts => fun x hx => by
    unfold mets at hx
    split at hx
    · rename_i h
      rcases List.mem_cons.1 hx with rfl | hx
      · have hb := h.1.2
        unfold begB at hb
        simp only [Bool.and_eq_true, decide_eq_true_eq] at hb
        have h1 := hb.1
        rw [ByteArray.size_extract] at h1
        simp only
        omega
      · exact mets_bd s p hp (i + 1) ts x hx
    · exact mets_bd s p hp (i + 1) ts x hx
theorem valN_in {s : ByteArray} {q : Nat} (h : ¬ valN s q < 0) : q < s.size := by
  unfold valN at h
  split at h
  · assumption
  · omega
theorem hexN_in {s : ByteArray} {q : Nat} (h : ¬ hexN s q < 0) : q < s.size := by
  unfold hexN at h
  split at h
  · assumption
  · omega
/-- A result that stands between p and the end, its error none or 130. -/
def Res.fine {α : Type} (p : Nat) (s : ByteArray) (r : Res α) : Prop := p ≤ r.pos ∧ r.pos ≤ s.size ∧ (r.err = 0 ∨ r.err = 130)
theorem numF_bd (s : ByteArray) (p : Nat) (gr : Int) (pl : Bool) : ∀ f q n, q ≤ s.size → (numF s p gr pl f q n).fine q s
  | 0, q, n, h => ⟨Nat.le_refl _, h, .inl rfl⟩
  | f + 1, q, n, h => by
    unfold numF
    split
    · exact ⟨Nat.le_refl _, h, .inl rfl⟩
    · rename_i hv
      have hq := valN_in hv
      split
      · exact ⟨Nat.le_refl _, h, .inr rfl⟩
      · obtain ⟨h1, h2, h3⟩ := numF_bd s p gr pl f (q + 1) (10 * n + valN s q) (by omega)
        exact ⟨by omega, h2, h3⟩
theorem hexF_bd (s : ByteArray) : ∀ k q n, q ≤ s.size → (hexF s k q n).fine q s
  | 0, q, n, h => ⟨Nat.le_refl _, h, .inl rfl⟩
  | f + 1, q, n, h => by
    unfold hexF
    split
    · exact ⟨Nat.le_refl _, h, .inr rfl⟩
    · rename_i hv
      have hq := hexN_in hv
      obtain ⟨h1, h2, h3⟩ := hexF_bd s f (q + 1) (16 * n + hexN s q) (by omega)
      exact ⟨by omega, h2, h3⟩
theorem numR_fine {s : ByteArray} {p : Nat} (gr : Int) (pl : Bool) (hp : p ≤ s.size) : (numR s p gr pl).fine p s := by
  unfold numR
  split
  · exact ⟨Nat.le_refl _, hp, .inr rfl⟩
  · exact numF_bd s p gr pl _ p 0 hp
theorem hexR_fine {s : ByteArray} {p : Nat} (dg : Int) (hp : p ≤ s.size) : (hexR s p dg).fine p s := by
  unfold hexR
  split
  · exact ⟨Nat.le_refl _, hp, .inl rfl⟩
  · exact hexF_bd s _ p 0 hp
theorem whileR_fine {s : ByteArray} {p : Nat} (a : Bs) (hp : p ≤ s.size) : (whileR s a p).fine p s := by
  have := whileF_bd s a (s.size - p) p hp
  exact ⟨this.1, this.2, .inl rfl⟩
theorem wantR_fine {s : ByteArray} {p : Nat} (word : ByteArray) (hp : p ≤ s.size) : (wantR s word p).fine p s := by
  have := wantF_bd s word p word.size 0 (by omega)
  unfold wantR
  cases e : wantF s word p word.size 0 with
  | some k => rw [e] at this; simp only at this; exact ⟨by simp only [Res.pos]; omega, by simp only [Res.pos]; omega, .inr rfl⟩
  | none => rw [e] at this; simp only at this; exact ⟨by simp only [Res.pos]; omega, by simp only [Res.pos]; omega, .inl rfl⟩
theorem isL_fine {s : ByteArray} {p : Nat} (l : List ByteArray) (hp : p ≤ s.size) : (isL (mets s p 0 l) p).fine p s := by
  have h := mets_bd s p hp 0 l
  cases e : mets s p 0 l with
  | nil => exact ⟨Nat.le_refl _, hp, .inl rfl⟩
  | cons x xs =>
    rw [e] at h
    have := h x (by simp)
    exact ⟨by simp only [isL, Res.pos]; omega, by simp only [isL, Res.pos]; omega, .inl rfl⟩
theorem endR_fine {s : ByteArray} {p : Nat} (hp : p ≤ s.size) : (endR s p).fine p s := by
  unfold endR
  split
  · exact ⟨Nat.le_refl _, hp, .inr rfl⟩
  · exact ⟨Nat.le_refl _, hp, .inl rfl⟩
theorem failR_bd {s : ByteArray} {p : Nat} (at_ er : Int) (hp : p ≤ s.size) : (failR s p at_ er).pos ≤ s.size := by
  unfold failR
  split
  · exact hp
  · simp only [Res.pos]; omega

theorem stepR_fine {α : Type} {s : ByteArray} {p : Nat} {er : Int} {r : Res α} (hp : p ≤ s.size) (h : r.fine p s) (he : er = 0 ∨ er = 130) : (stepR p er r).fine p s := by
  unfold stepR
  split
  · exact h
  · exact ⟨Nat.le_refl _, hp, he⟩
theorem stepR_le {α : Type} {s : ByteArray} {p : Nat} {er : Int} {r : Res α} (hp : p ≤ s.size) (h : r.pos ≤ s.size) : (stepR p er r).pos ≤ s.size := by
  unfold stepR
  split
  · exact h
  · exact hp
theorem stepR_bad {α : Type} {p : Nat} {er : Int} {r : Res α} (he : er ≠ 0) : stepR p er r = .fail p er := if_neg he

theorem stepC_fine {s : ByteArray} {p : Nat} {er : Int} (x : CallR) (hp : p ≤ s.size) (he : er = 0 ∨ er = 130) (h7 : x.kind ≠ 7) : p ≤ (stepC s x p er).1 ∧ (stepC s x p er).1 ≤ s.size ∧ ((stepC s x p er).2 = 0 ∨ (stepC s x p er).2 = 130) := by
  unfold stepC
  split
  · have := nextP_bd er hp; exact ⟨this.1, this.2, he⟩
  split
  · exact stepR_fine hp (isL_fine _ hp) he
  split
  · exact stepR_fine hp (whileR_fine _ hp) he
  split
  · exact stepR_fine hp (wantR_fine _ hp) he
  split
  · exact stepR_fine hp (numR_fine _ _ hp) he
  split
  · exact stepR_fine hp (hexR_fine _ hp) he

  split
  · exact stepR_fine hp (endR_fine hp) he
  · exact ⟨Nat.le_refl _, hp, he⟩
theorem stepC_bad {s : ByteArray} {p : Nat} {er : Int} (x : CallR) (he : er ≠ 0) : stepC s x p er = (p, er) := by
  unfold stepC
  simp only [stepR_bad he, Res.pos, Res.err]
  have hn : nextP s p er = p := by unfold nextP; rw [if_neg (by omega)]
  rw [hn]
  repeat' split
  all_goals rfl

end Go.Proofs.Ytejialnbelleeaa
