/-
  A row of calls; the text's front.
-/
import Derived.Test.YtejialnbelleeaaTxtP
namespace Go.Proofs.Ytejialnbelleeaa
open Go Go.RowKit

abbrev CallsAt := SlAt 8 callL
theorem calls_cells {w wr : World} {l : List CallR} {b off k : Nat} (h : ∀ i x, l[i]? = some x → ∀ j y, (callL x)[j]? = some y → w.cell? ⟨b, off + i * 8 + j, none⟩ = some y) (hx : Ext G0 w wr) (hk : k < l.length) :
    wr.cell? ⟨b, off + k * 8, none⟩ = some (.int .i64 l[k].k) ∧ wr.cell? ⟨b, off + k * 8 + 1, none⟩ = some (.slice l[k].A l[k].l.length l[k].c) ∧ wr.cell? ⟨b, off + k * 8 + 2, none⟩ = some (wordV (word l[k].a 0)) ∧ wr.cell? ⟨b, off + k * 8 + 3, none⟩ = some (wordV (word l[k].a 1)) ∧
    wr.cell? ⟨b, off + k * 8 + 4, none⟩ = some (wordV (word l[k].a 2)) ∧ wr.cell? ⟨b, off + k * 8 + 5, none⟩ = some (wordV (word l[k].a 3)) ∧ wr.cell? ⟨b, off + k * 8 + 6, none⟩ = some (.int .i64 l[k].n) ∧ wr.cell? ⟨b, off + k * 8 + 7, none⟩ = some (.bool l[k].pl) := by
  have h := h k l[k] (by simp [hk])
  exact ⟨cell_ext hx (h 0 _ rfl), cell_ext hx (h 1 _ rfl), cell_ext hx (h 2 _ rfl), cell_ext hx (h 3 _ rfl), cell_ext hx (h 4 _ rfl), cell_ext hx (h 5 _ rfl), cell_ext hx (h 6 _ rfl), cell_ext hx (h 7 _ rfl)⟩
/-- A call boxed. -/
theorem call_box {w : World} {g : Nat} {x : CallR} {t : TypeId} {f : Nat × Nat} (h : w.heap[g]? = some (.cells (callC x) t f)) : w.cell? ⟨g, 0, none⟩ = some (.int .i64 x.k) ∧ w.cell? ⟨g, 1, none⟩ = some (.slice x.A x.l.length x.c) ∧ w.cell? ⟨g, 2, none⟩ = some (wordV (word x.a 0)) ∧ w.cell? ⟨g, 3, none⟩ = some (wordV (word x.a 1)) ∧
    w.cell? ⟨g, 4, none⟩ = some (wordV (word x.a 2)) ∧ w.cell? ⟨g, 5, none⟩ = some (wordV (word x.a 3)) ∧ w.cell? ⟨g, 6, none⟩ = some (.int .i64 x.n) ∧ w.cell? ⟨g, 7, none⟩ = some (.bool x.pl) :=
  ⟨blk_cell h 0, blk_cell h 1, blk_cell h 2, blk_cell h 3, blk_cell h 4, blk_cell h 5, blk_cell h 6, blk_cell h 7⟩

/-- The text's front. -/
def front (s : ByteArray) (k : Nat) : ByteArray := s.extract 0 (min s.size k)
theorem front_size (s : ByteArray) (k : Nat) : (front s k).size ≤ k := by unfold front; rw [ByteArray.size_extract]; omega
theorem front_whole {s : ByteArray} {k : Nat} (h : s.size ≤ k) : front s k = s := by unfold front; rw [Nat.min_eq_left h, ByteArray.extract_zero_size]
theorem front_part {s : ByteArray} {k : Nat} (h : ¬ s.size ≤ k) : front s k = s.extract 0 k := by unfold front; rw [Nat.min_eq_right (by omega)]

end Go.Proofs.Ytejialnbelleeaa
