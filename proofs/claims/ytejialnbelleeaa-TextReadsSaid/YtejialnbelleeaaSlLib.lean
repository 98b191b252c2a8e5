/-
  Slices that read as rows: from a block that is owned, and back.
-/
import Derived.Test.YtejialnbelleeaaSetB
import Derived.Lib.SliceRun
import Derived.Lib.Walk
import Derived.Laws.CopyOwn
import Derived.Laws.IdiomCopy
import Derived.Laws.MakeOwn
namespace Go.Proofs.Ytejialnbelleeaa
open Go Go.RowKit

theorem flat_some {α β : Type} (sz : Nat) (enc : α → List β) : ∀ (l : List α), (∀ x ∈ l, (enc x).length = sz) → ∀ (j : Nat) (y : β), (l.flatMap enc)[j]? = some y → ∃ i x, l[i]? = some x ∧ (enc x)[j - i * sz]? = some y ∧ i * sz ≤ j ∧ j < i * sz + sz
  | [], _, j, y, h => by simp at h
  | x :: l, hsz, j, y, h => by
    have hx := hsz x (by simp)
    rw [List.flatMap_cons] at h
    by_cases hj : j < sz
    · rw [List.getElem?_append_left (by omega)] at h
      exact ⟨0, x, rfl, by simpa using h, by omega, by omega⟩
    · rw [List.getElem?_append_right (by omega), hx] at h
      obtain ⟨i, z, h1, h2, h3, h4⟩ := flat_some sz enc l (fun z hz => hsz z (by simp [hz])) _ _ h
      refine ⟨i + 1, z, by simpa using h1, ?_, ?_, ?_⟩
      · rw [show j - (i + 1) * sz = j - sz - i * sz by rw [Nat.add_mul]; omega]; exact h2
      · rw [Nat.add_mul]; omega
      · rw [Nat.add_mul]; omega

theorem SlAt.of_owns {α : Type} {sz : Nat} {enc : α → List Value} {base : Nat} {e : TypeId} {w : World} {v : Value} {l : List α} (hsz : ∀ x ∈ l, (enc x).length = sz) (h : w.ownsRow base e sz v l.length (l.flatMap enc)) (hm : (l.length : Int) ≤ 140737488351232) : SlAt sz enc w v l := by
  rcases h.2 with ⟨rfl, h0⟩ | ⟨g, cap, cur, rfl, hb, hg, hnc, hcm, hcs, htake⟩
  · have : l = [] := List.length_eq_zero_iff.1 h0
    subst this
    exact ⟨none, 0, rfl, ⟨Nat.le_refl _, by simp⟩, .inl rfl⟩
  · refine ⟨some ⟨g, 0, none⟩, cap, rfl, ⟨hnc, hm⟩, .inr ⟨g, 0, rfl, fun i x hi j y hj => ?_⟩⟩
    have hf := flat_get sz enc l hsz i x hi j y hj
    rw [blk_cell hg, Nat.zero_add]
    rw [← htake, List.getElem?_take] at hf
    split at hf
    · simpa using hf
    · cases hf

theorem SlAt.src {α : Type} {sz : Nat} {enc : α → List Value} {w : World} {a : Addr} {n c : Nat} {l : List α} (hsz : ∀ x ∈ l, (enc x).length = sz) (h : SlAt sz enc w (.slice (some a) n c) l) :
    ∀ j u, (l.flatMap enc)[j]? = some u → w.cell? (a.add j) = some u := by
  intro j u hj
  obtain ⟨A, c', he, _, h0⟩ := h
  injection he with e1 e2 e3
  subst e1
  rcases h0 with rfl | ⟨b, off, hb, hcell⟩
  · simp at hj
  · injection hb with hb
    subst hb
    obtain ⟨i, x, h1, h2, h3, h4⟩ := flat_some sz enc l hsz j u hj
    have := hcell i x h1 _ _ h2
    rw [show (⟨b, off, none⟩ : Addr).add j = ⟨b, off + i * sz + (j - i * sz), none⟩ by simp [Addr.add]; split <;> simp_all <;> omega]
    exact this
theorem flat_len {α : Type} (sz : Nat) (enc : α → List Value) : ∀ (l : List α), (∀ x ∈ l, (enc x).length = sz) → (l.flatMap enc).length = l.length * sz
  | [], _ => by simp
  | x :: l, h => by
    rw [List.flatMap_cons, List.length_append, h x (by simp), flat_len sz enc l (fun y hy => h y (by simp [hy])), List.length_cons, Nat.add_mul]; omega
end Go.Proofs.Ytejialnbelleeaa
