/-
  Package set: And, Or of a set and a row of sets.
-/
import Derived.Test.YtejialnbelleeaaSetA
namespace Go.Proofs.Ytejialnbelleeaa
open Go Go.RowKit

theorem cell_ext {w w' : World} (hx : Ext G0 w w') {p : Addr} {v : Value} (h : w.cell? p = some v) : w'.cell? p = some v := by
  rw [ext_cell hx ?_ (fun x => x)]
  · exact h
  · rcases Nat.lt_or_ge p.block w.heap.size with h2 | h2
    · exact h2
    · simp [World.cell?, Array.getElem?_eq_none h2] at h

/-- A slice that reads as a row: each element takes 'sz' cells, told by 'enc'. -/
def SlAt {α : Type} (sz : Nat) (enc : α → List Value) (w : World) (v : Value) (l : List α) : Prop :=
  ∃ A c, v = .slice A l.length c ∧ (l.length ≤ c ∧ (l.length : Int) ≤ 140737488351232) ∧ (l = [] ∨ ∃ b off, A = some ⟨b, off, none⟩ ∧ ∀ i x, l[i]? = some x → ∀ j y, (enc x)[j]? = some y → w.cell? ⟨b, off + i * sz + j, none⟩ = some y)

theorem SlAt.ext {α : Type} {sz : Nat} {enc : α → List Value} {w w' : World} {v : Value} {l : List α} (h : SlAt sz enc w v l) (hx : Ext G0 w w') : SlAt sz enc w' v l := by
  obtain ⟨A, c, rfl, hc, h0⟩ := h
  refine ⟨A, c, rfl, hc, h0.imp id ?_⟩
  rintro ⟨b, off, rfl, h⟩
  refine ⟨b, off, rfl, fun i x hi j y hj => ?_⟩
  exact cell_ext hx (h i x hi j y hj)

theorem flat_get {α β : Type} (sz : Nat) (enc : α → List β) : ∀ (l : List α), (∀ x ∈ l, (enc x).length = sz) → ∀ (i : Nat) (x : α), l[i]? = some x → ∀ (j : Nat) (y : β), (enc x)[j]? = some y → (l.flatMap enc)[i * sz + j]? = some y := by
  intro l
  induction l with
  | nil => intro _ i x h; simp at h
  | cons a l ih =>
    intro hl i x hi j y hj
    rw [List.flatMap_cons]
    have ha := hl a List.mem_cons_self
    cases i with
    | zero =>
      simp at hi
      subst hi
      rw [Nat.zero_mul, Nat.zero_add, List.getElem?_append_left (List.getElem?_eq_some_iff.1 hj).1]
      exact hj
    | succ i =>
      rw [List.getElem?_append_right (by rw [ha, Nat.succ_mul]; omega), ha, show (i + 1) * sz + j - sz = i * sz + j by rw [Nat.succ_mul]; omega]
      exact ih (fun x hx => hl x (List.mem_cons_of_mem _ hx)) i x (by simpa using hi) j y hj

/-- A slice over a block that has just been laid. -/
theorem SlAt.new {α : Type} {sz : Nat} {enc : α → List Value} {w : World} (l : List α) (cs : List Value) (t : TypeId) (c : Nat) (hcs : l.flatMap enc = cs) (hsz : ∀ x ∈ l, (enc x).length = sz) (hc : l.length ≤ c) (hm : (l.length : Int) ≤ 140737488351232) :
    SlAt sz enc (w.alloc (.cells cs.toArray t)) (.slice (some ⟨w.heap.size, 0, none⟩) l.length c) l := by
  refine ⟨_, c, rfl, ⟨hc, hm⟩, .inr ⟨_, _, rfl, fun i x hi j y hj => ?_⟩⟩
  rw [blk_cell (heap_new w _), Nat.zero_add]
  have := flat_get sz enc l hsz i x hi j y hj
  rw [hcs] at this
  simpa using this

abbrev setL (s : Bs) : List Value := [wordV (word s 0), wordV (word s 1), wordV (word s 2), wordV (word s 3)]
abbrev SetsAt := SlAt 4 setL
theorem sets_new (w : World) (l : List Bs) (cs : List Value) (t : TypeId) (h : l.flatMap setL = cs) (hm : (l.length : Int) ≤ 140737488351232) : SetsAt (w.alloc (.cells cs.toArray t)) (.slice (some ⟨w.heap.size, 0, none⟩) l.length l.length) l :=
  SlAt.new l cs t _ h (fun _ _ => rfl) (Nat.le_refl _) hm

theorem sets_cells {w wr : World} {l : List Bs} {b off k : Nat} (h : ∀ i x, l[i]? = some x → ∀ j y, (setL x)[j]? = some y → w.cell? ⟨b, off + i * 4 + j, none⟩ = some y) (hx : Ext G0 w wr) (hk : k < l.length) :
    wr.cell? ⟨b, off + k * 4, none⟩ = some (wordV (word l[k] 0)) ∧ wr.cell? ⟨b, off + k * 4 + 1, none⟩ = some (wordV (word l[k] 1)) ∧ wr.cell? ⟨b, off + k * 4 + 2, none⟩ = some (wordV (word l[k] 2)) ∧ wr.cell? ⟨b, off + k * 4 + 3, none⟩ = some (wordV (word l[k] 3)) := by
  have h := h k l[k] (by simp [hk])
  exact ⟨cell_ext hx (h 0 _ rfl), cell_ext hx (h 1 _ rfl), cell_ext hx (h 2 _ rfl), cell_ext hx (h 3 _ rfl)⟩

end Go.Proofs.Ytejialnbelleeaa
