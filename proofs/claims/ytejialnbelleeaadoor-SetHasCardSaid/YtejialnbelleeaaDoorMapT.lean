/-
  A map literal whose entries are laid in any order: what it holds is told by a table.
-/
import Derived.Test.YtejialnbelleeaaDoorKit
import Derived.MapFrom
import Derived.WalkKit
import Derived.Maps.OwnIn
namespace Go.Proofs.YtejialnbelleeaaDoor
open Go Go.RowKit Go.MapKept

/-- Each entry is one of the table's. -/
def GoodM (tab : ByteArray → Option Bs) (es : Array MapEntry) : Prop := ∀ x ∈ es.toList, ∃ n s, x.key = .string n ∧ tab n = some s ∧ x.val = setV s
def HasM (es : Array MapEntry) (n : ByteArray) : Prop := ∃ x ∈ es.toList, x.key = .string n

/-- Nothing is turned but maps at n₀ or above, and these only gain entries of the table. -/
structure EM (tab : ByteArray → Option Bs) (n₀ : Nat) (w w' : World) : Prop where
  os : w'.os = w.os
  tape : w'.tape = w.tape
  output : w'.output = w.output
  size : w.heap.size ≤ w'.heap.size
  block : ∀ k o, w.heap[k]? = some o → w'.heap[k]? = some o ∨ (n₀ ≤ k ∧ ∃ es c es' c', o = .map es c ∧ w'.heap[k]? = some (.map es' c') ∧ (GoodM tab es → GoodM tab es') ∧ ∀ n, HasM es n → HasM es' n)

instance (tab : ByteArray → Option Bs) (n₀ : Nat) : Rel (EM tab n₀) where
  refl w := ⟨rfl, rfl, rfl, Nat.le_refl _, fun _ _ h => .inl h⟩
  trans {a b c} h k := ⟨k.os.trans h.os, k.tape.trans h.tape, k.output.trans h.output, Nat.le_trans h.size k.size, fun i o hi => by
    rcases h.block i o hi with h1 | ⟨hn, es, c1, es', c1', rfl, h1, h2, h3⟩
    · exact k.block i o h1
    · rcases k.block i _ h1 with k1 | ⟨_, es1, c2, es2, c2', he, k1, k2, k3⟩
      · exact .inr ⟨hn, es, c1, es', c1', rfl, k1, h2, h3⟩
      · cases he
        exact .inr ⟨hn, es, c1, es2, c2', rfl, k1, fun g => k2 (h2 g), fun n g => k3 n (h3 n g)⟩⟩
  of0 {a b} h := ⟨h.os, h.tape, h.output, h.size, fun k o hk => .inl ((h.block k (lt_of_block hk) (fun x => x)).trans hk)⟩

theorem EM.cells {tab : ByteArray → Option Bs} {n₀ : Nat} {w w' : World} (h : EM tab n₀ w w') {k : Nat} {cs : Array Value} {t : TypeId} {f : Nat × Nat} (hk : w.heap[k]? = some (.cells cs t f)) : w'.heap[k]? = some (.cells cs t f) := by
  rcases h.block k _ hk with h1 | ⟨_, es, c, es', c', h1, _⟩
  · exact h1
  · cases h1
theorem EM.cellsD {tab : ByteArray → Option Bs} {n₀ : Nat} {w w' : World} (h : EM tab n₀ w.drew w') {k : Nat} {cs : Array Value} {t : TypeId} {f : Nat × Nat} (hk : w.heap[k]? = some (.cells cs t f)) : w'.heap[k]? = some (.cells cs t f) := h.cells hk
theorem EM.cell {tab : ByteArray → Option Bs} {n₀ : Nat} {w w' : World} (h : EM tab n₀ w w') {p : Addr} {v : Value} (hp : w.cell? p = some v) : w'.cell? p = some v := by
  obtain ⟨o, ho, hc⟩ := cells_of_cell hp
  have : w'.heap[p.block]? = some o := by
    rcases h.block _ o ho with h1 | ⟨_, es, c, es', c', h1, _⟩
    · exact h1
    · rw [h1] at hc; cases hc
  rw [World.cell?_of_block (w := w) (this.trans ho.symm)]
  exact hp
theorem EM.below {tab : ByteArray → Option Bs} {n₀ : Nat} {w w' : World} (h : EM tab n₀ w w') (hn : n₀ ≤ w.heap.size) : Below n₀ w w' := ⟨h.os, h.tape, h.output, h.size, fun k hk => by
  have hlt : k < w.heap.size := by omega
  have e : w.heap[k]? = some w.heap[k] := by simp [hlt]
  rcases h.block k _ e with h1 | ⟨h1, _⟩
  · rw [h1, e]
  · omega⟩

def MapAt (tab : ByteArray → Option Bs) (n₀ : Nat) (v : Value) (w : World) : Prop := ∃ B es c, n₀ ≤ B ∧ v = .map (some B) ∧ w.heap[B]? = some (.map es c) ∧ GoodM tab es
def KeyAt (n : ByteArray) (v : Value) (w : World) : Prop := ∃ B es c, v = .map (some B) ∧ w.heap[B]? = some (.map es c) ∧ HasM es n

theorem MapAt.em {tab : ByteArray → Option Bs} {n₀ : Nat} (v : Value) (w w' : World) (h : MapAt tab n₀ v w) (hx : EM tab n₀ w w') : MapAt tab n₀ v w' := by
  obtain ⟨B, es, c, hB, rfl, h1, h2⟩ := h
  rcases hx.block B _ h1 with k1 | ⟨_, es1, c1, es2, c2, he, k1, k2, _⟩
  · exact ⟨B, es, c, hB, rfl, k1, h2⟩
  · cases he
    exact ⟨B, es2, c2, hB, rfl, k1, k2 h2⟩
theorem KeyAt.em {tab : ByteArray → Option Bs} {n₀ : Nat} {n : ByteArray} (v : Value) (w w' : World) (h : KeyAt n v w) (hx : EM tab n₀ w w') : KeyAt n v w' := by
  obtain ⟨B, es, c, rfl, h1, h2⟩ := h
  rcases hx.block B _ h1 with k1 | ⟨_, es1, c1, es2, c2, he, k1, _, k3⟩
  · exact ⟨B, es, c, rfl, k1, h2⟩
  · cases he
    exact ⟨B, es2, c2, rfl, k1, k3 n h2⟩

theorem insert_good {P : Program} {T K V : TypeId} {tab : ByteArray → Option Bs} {n₀ : Nat} {v : Value} {w : World} {n : ByteArray} {s : Bs} (hT : P.underlying T = some (.map K V)) (hK : P.underlying K = some .string)
    (h : MapAt tab n₀ v w) (ht : tab n = some s) : ∃ w', (Instr.mapUpdate T v (.string n) (setV s)).run P w = .ok () w' ∧ KeyAt n v w' ∧ EM tab n₀ w w' := by
  obtain ⟨B, es, c, hB, rfl, hb, hg⟩ := h
  have hk : IsKey .string (.string n) := trivial
  have hks : ∀ x ∈ es.toList, IsKey .string x.key := fun x hx => by
    obtain ⟨m, _, e, _⟩ := hg x hx
    rw [e]; trivial
  have hem : ∀ es' c', (GoodM tab es → GoodM tab es') → (∀ m, HasM es m → HasM es' m) → EM tab n₀ w { w with heap := w.heap.setIfInBounds B (.map es' c') } := fun es' c' h1 h2 =>
    ⟨rfl, rfl, rfl, by simp, fun k o hko => by
      by_cases e : k = B
      · subst e
        rw [hb] at hko
        cases hko
        exact .inr ⟨hB, es, c, es', c', rfl, (heap_set hb).1, h1, h2⟩
      · exact .inl (((heap_set hb).2 k e).trans hko)⟩
  rcases findNow_spec hk es.toList 0 hks with ⟨h1, _⟩ | ⟨j, e, h1, h2, h3⟩
  · refine ⟨_, by simp [Instr.mapUpdate, run_underlying hT, MapKept.run_getObj_map hb, run_checkKey hK hk, run_findKey hK h1, run_setObj_map _ hb, Result.andThen]; rfl, ⟨B, _, _, rfl, (heap_set hb).1, ?_⟩, hem _ _ ?_ ?_⟩
    · exact ⟨_, by simp; exact .inr rfl, rfl⟩
    · intro _ x hx
      simp at hx
      rcases hx with hx | rfl
      · exact hg x (by simpa using hx)
      · exact ⟨n, s, rfl, ht, rfl⟩
    · rintro m ⟨x, hx, hxk⟩
      exact ⟨x, by simp; exact .inl (by simpa using hx), hxk⟩
  · have hj : es[j]? = some e := by simpa using h2
    refine ⟨_, by simp [Instr.mapUpdate, run_underlying hT, MapKept.run_getObj_map hb, run_checkKey hK hk, run_findKey hK h1, hj, h3, run_keyThatStays hk, run_setObj_map _ hb, Result.andThen]; rfl, ⟨B, _, _, rfl, (heap_set hb).1, ?_⟩, hem _ _ ?_ ?_⟩
    · refine ⟨{ e with key := .string n, val := setV s }, ?_, rfl⟩
      rw [List.mem_iff_getElem?]
      exact ⟨j, by simp [hj]⟩
    · intro _ x hx
      rcases MapFrom.mem_modify hx with hx | ⟨e', _, rfl⟩
      · exact hg x hx
      · exact ⟨n, s, rfl, ht, rfl⟩
    · rintro m ⟨x, hx, hxk⟩
      obtain ⟨q, hq⟩ := List.mem_iff_getElem?.1 hx
      by_cases hqj : q = j
      · subst hqj
        have : x = e := by rw [h2] at hq; exact (Option.some.inj hq).symm
        subst this
        refine ⟨{ x with key := .string n, val := setV s }, ?_, by rw [← hxk, h3]⟩
        rw [List.mem_iff_getElem?]
        exact ⟨q, by simp [hj]⟩
      · refine ⟨x, ?_, hxk⟩
        rw [List.mem_iff_getElem?]
        refine ⟨q, ?_⟩
        have : es[q]? = some x := by simpa using hq
        simp [this, Ne.symm hqj]

theorem lookup_good {P : Program} {T K V : TypeId} {tab : ByteArray → Option Bs} {n₀ : Nat} {v : Value} {w : World} {z : Value} (name : ByteArray) (hT : P.underlying T = some (.map K V)) (hK : P.underlying K = some .string) (hz : (zeroValue V).run P w = .ok z w)
    (h : MapAt tab n₀ v w) (hall : ∀ s, tab name = some s → KeyAt name v w) :
    (Instr.lookup T v (.string name) true).run P w = .ok (.tuple #[match tab name with | some s => setV s | none => z, .bool (tab name).isSome]) w := by
  obtain ⟨B, es, c, hB, rfl, hb, hg⟩ := h
  have hk : IsKey .string (.string name) := trivial
  have hks : ∀ x ∈ es.toList, IsKey .string x.key := fun x hx => by
    obtain ⟨m, _, e, _⟩ := hg x hx
    rw [e]; trivial
  rcases findNow_spec hk es.toList 0 hks with ⟨h1, hno⟩ | ⟨j, e, h1, h2, h3⟩
  · have hn : tab name = none := by
      cases ht : tab name with
      | none => rfl
      | some s =>
        obtain ⟨B', es', c', e1, e2, x, hx, hxk⟩ := hall s ht
        cases e1
        rw [hb] at e2
        cases e2
        exact absurd hxk (hno x hx)
    rw [hn]
    simp [Instr.lookup, run_underlying hT, MapKept.run_getObj_map hb, run_checkKey hK hk, run_findKey hK h1, hz, Result.andThen]
  · obtain ⟨n, s, k1, k2, k3⟩ := hg e (List.mem_iff_getElem?.2 ⟨j, h2⟩)
    have : n = name := by rw [h3] at k1; exact (Value.string.inj k1).symm
    subst this
    rw [k2]
    simp [Instr.lookup, run_underlying hT, MapKept.run_getObj_map hb, run_checkKey hK hk, run_findKey hK h1, k3, Result.andThen]

end Go.Proofs.YtejialnbelleeaaDoor
