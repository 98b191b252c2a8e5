/-
  Small laws on worlds that are extended: what a cell holds later on.
-/
import Derived.Test.YtejialnbelleeaaPhi
import Derived.Test.YtejialnbelleeaaSetBase
namespace Go.Proofs.Ytejialnbelleeaa
open Go Go.RowKit

theorem ext_heap {G : Nat → Prop} {w w' : World} (h : Ext G w w') {k : Nat} {o : Obj} (hk : w.heap[k]? = some o) (hg : ¬ G k) : w'.heap[k]? = some o := by
  rw [h.block k (lt_of_block hk) hg]; exact hk
theorem ext_heapD {G : Nat → Prop} {w w' : World} (h : Ext G w.drew w') {k : Nat} {o : Obj} (hk : w.heap[k]? = some o) (hg : ¬ G k) : w'.heap[k]? = some o := ext_heap h hk hg
theorem ext_cell {G : Nat → Prop} {w w' : World} (h : Ext G w w') {p : Addr} (hk : p.block < w.heap.size) (hg : ¬ G p.block) : w'.cell? p = w.cell? p :=
  World.cell?_of_block (w := w) (h.block p.block hk hg)
theorem ext_frozen {G : Nat → Prop} {w w' : World} (h : Ext G w w') {p : Addr} (hk : p.block < w.heap.size) (hg : ¬ G p.block) : w'.frozen? p = w.frozen? p :=
  World.frozen?_of_block (w := w) (h.block p.block hk hg)
theorem Ext.drew {G : Nat → Prop} {a w : World} (h : Ext G a w) : Ext G a w.drew := ⟨h.os, h.tape, h.output, h.size, h.block⟩
theorem Ext.ofDrew {G : Nat → Prop} {a w : World} (h : Ext G a.drew w) : Ext G a w := ⟨h.os, h.tape, h.output, h.size, h.block⟩
theorem Ext.alloc {G : Nat → Prop} {a w : World} (h : Ext G a w) (o : Obj) : Ext G a (w.alloc o) := h.trans (Ext.of_below ((Below.refl _ _).alloc (Nat.le_refl _) o) G)
/-- A store into a block of G, or into one that is new. -/
theorem Ext.setCell {G : Nat → Prop} {a w : World} (h : Ext G a w) {p : Addr} (hp : G p.block ∨ a.heap.size ≤ p.block) (u : Value) : Ext G a (w.setCell p u) := by
  refine ⟨h.os, h.tape, h.output, ?_, fun k hk hg => ?_⟩
  · have := h.size; simpa [World.setCell] using this
  · rw [Below.heap_setCell _ _ _ _ (fun e => ?_)]
    · exact h.block k hk hg
    · subst e; rcases hp with hp | hp
      · exact hg hp
      · omega
/-- What was turned was new. -/
theorem Ext.shut {G : Nat → Prop} {a w : World} (h : Ext G a w) (hg : ∀ k, G k → a.heap.size ≤ k) : Ext G0 a w :=
  ⟨h.os, h.tape, h.output, h.size, fun k hk _ => h.block k hk (fun x => by have := hg k x; omega)⟩

/-- One block. -/
def G1 (g : Nat) : Nat → Prop := fun k => k = g
theorem G1.self (g : Nat) : G1 g g := rfl

/-- A block of our own was turned. -/
theorem Ext.own {a w w' : World} {g : Nat} (h : Ext G0 a w) (hx : Ext (G1 g) w w') (hg : a.heap.size ≤ g) : Ext G0 a w' :=
  ((h.up (G1 g)).trans hx).shut fun k e => by unfold G1 at e; omega
theorem Ext.set {a w : World} {p : Addr} (h : Ext G0 a w) (hp : a.heap.size ≤ p.block) (u : Value) : Ext G0 a (w.setCell p u) := h.setCell (.inr hp) u
theorem heap_new (w : World) (o : Obj) : (w.alloc o).heap[w.heap.size]? = some o := heap_alloc_new w o
theorem heap_at (w : World) (o : Obj) (n : Nat) (h : w.heap.size = n) : (w.alloc o).heap[n]? = some o := h ▸ heap_new w o
theorem heap_two (w : World) (o o' : Obj) : ((w.alloc o).alloc o').heap[w.heap.size + 1]? = some o' := by
  have := heap_alloc_new (w.alloc o) o'
  simpa using this
theorem heap_two' (w : World) (o o' : Obj) : ((w.alloc o).alloc o').heap[w.heap.size]? = some o := (Below.heap_alloc _ _ _ (by simp)).trans (heap_alloc_new w _)
theorem heap_past {w : World} {k : Nat} {o : Obj} (h : w.heap[k]? = some o) (o' : Obj) : (w.alloc o').heap[k]? = some o := (Below.heap_alloc _ _ _ (lt_of_block h)).trans h

theorem blk_cell {w : World} {g : Nat} {cs : Array Value} {t : TypeId} {f : Nat × Nat} (h : w.heap[g]? = some (.cells cs t f)) (i : Nat) : w.cell? ⟨g, i, none⟩ = cs[i]? := by
  simp [World.cell?, h]
theorem blk_free {w : World} {g : Nat} {cs : Array Value} {t : TypeId} (h : w.heap[g]? = some (.cells cs t (0, 0))) (i : Nat) : w.frozen? ⟨g, i, none⟩ = false := by
  simp [World.frozen?, h]
theorem blk_set {w : World} {g : Nat} {cs : Array Value} {t : TypeId} {f : Nat × Nat} (h : w.heap[g]? = some (.cells cs t f)) (i : Nat) (v : Value) : (w.setCell ⟨g, i, none⟩ v).heap[g]? = some (.cells (cs.setIfInBounds i v) t f) := by
  have hlt := lt_of_block h
  have h' : w.heap[g] = .cells cs t f := by simpa [Array.getElem?_eq_getElem hlt] using h
  show (w.heap.modify g _)[g]? = _
  rw [Array.getElem?_eq_getElem (by simpa using hlt), Array.getElem_modify_self, h']
  simp

theorem setC_get (s : Bs) (i : Nat) (h : i < 4) : (setC s)[i]? = some (wordV (word s i)) := by
  match i, h with
  | 0, _ => rfl
  | 1, _ => rfl
  | 2, _ => rfl
  | 3, _ => rfl

theorem cell0 {w : World} {g : Nat} {s : Bs} {t : TypeId} {f : Nat × Nat} (h : w.heap[g]? = some (.cells (setC s) t f)) : w.cell? ⟨g, 0, none⟩ = some (wordV (word s 0)) := blk_cell h 0
theorem cell1 {w : World} {g : Nat} {s : Bs} {t : TypeId} {f : Nat × Nat} (h : w.heap[g]? = some (.cells (setC s) t f)) : w.cell? ⟨g, 1, none⟩ = some (wordV (word s 1)) := blk_cell h 1
theorem cell2 {w : World} {g : Nat} {s : Bs} {t : TypeId} {f : Nat × Nat} (h : w.heap[g]? = some (.cells (setC s) t f)) : w.cell? ⟨g, 2, none⟩ = some (wordV (word s 2)) := blk_cell h 2
theorem cell3 {w : World} {g : Nat} {s : Bs} {t : TypeId} {f : Nat × Nat} (h : w.heap[g]? = some (.cells (setC s) t f)) : w.cell? ⟨g, 3, none⟩ = some (wordV (word s 3)) := blk_cell h 3
/-- All four cells. -/
theorem cells4 {w : World} {g : Nat} {s : Bs} {t : TypeId} {f : Nat × Nat} (h : w.heap[g]? = some (.cells (setC s) t f)) : w.cell? ⟨g, 0, none⟩ = some (wordV (word s 0)) ∧ w.cell? ⟨g, 1, none⟩ = some (wordV (word s 1)) ∧
    w.cell? ⟨g, 2, none⟩ = some (wordV (word s 2)) ∧ w.cell? ⟨g, 3, none⟩ = some (wordV (word s 3)) := ⟨blk_cell h 0, blk_cell h 1, blk_cell h 2, blk_cell h 3⟩
/-- A set stored over another one. -/
theorem blk_set4 {w : World} {g : Nat} {s u : Bs} {t : TypeId} {f : Nat × Nat} (h : w.heap[g]? = some (.cells (setC s) t f)) :
    ((((w.setCell ⟨g, 0, none⟩ (wordV (word u 0))).setCell ⟨g, 1, none⟩ (wordV (word u 1))).setCell ⟨g, 2, none⟩ (wordV (word u 2))).setCell ⟨g, 3, none⟩ (wordV (word u 3))).heap[g]? = some (.cells (setC u) t f) :=
  (blk_set (blk_set (blk_set (blk_set h 0 _) 1 _) 2 _) 3 _).trans rfl
theorem heap_set4 {w : World} {g k : Nat} {x0 x1 x2 x3 : Value} {i0 i1 i2 i3 : Nat} (h : k ≠ g) :
    ((((w.setCell ⟨g, i0, none⟩ x0).setCell ⟨g, i1, none⟩ x1).setCell ⟨g, i2, none⟩ x2).setCell ⟨g, i3, none⟩ x3).heap[k]? = w.heap[k]? := by
  rw [Below.heap_setCell _ _ _ _ h, Below.heap_setCell _ _ _ _ h, Below.heap_setCell _ _ _ _ h, Below.heap_setCell _ _ _ _ h]
theorem setC_zero : setC 0#256 = #[.int .u64 0, .int .u64 0, .int .u64 0, .int .u64 0] := rfl

theorem setC_set (s : Bs) (b : Nat) (hb : b < 256) : (setC s).setIfInBounds (b / 64) (wordV (word s (b / 64) ||| BitVec.twoPow 64 (b % 64))) = setC (s ||| one b) := by
  have h : ∀ i, word (s ||| one b) i = if i = b / 64 then word s i ||| BitVec.twoPow 64 (b % 64) else word s i := by
    intro i
    rw [word_or, word_one _ _ hb]
    split <;> simp
  have : b / 64 = 0 ∨ b / 64 = 1 ∨ b / 64 = 2 ∨ b / 64 = 3 := by omega
  simp only [setC, h]
  rcases this with e | e | e | e <;> simp [e]

end Go.Proofs.Ytejialnbelleeaa
