/-
  Package text: a reader's block; 'reads', which runs something and catches what it throws.
-/
import Derived.Test.YtejialnbelleeaaSetA
import Derived.Recover
import Derived.Defers
import Derived.Tactics2
import Derived.RegionTactic
import Derived.ChangeAlike
namespace Go.Proofs.Ytejialnbelleeaa
open Go Go.RowKit

/-- A reader in memory: its text, its place, its error. -/
def RdAt (w : World) (g : Nat) (s : ByteArray) (p : Nat) (e : Int) : Prop := w.heap[g]? = some (.cells #[.string s, .int .i64 (p : Int), .int .i64 e] 61 (0, 0))

abbrev failV (p : Nat) (e : Int) : Value := .iface 65 (.agg #[.int .i64 (p : Int), .int .i64 e])

/-- What something that reads comes to: a value, and the place behind; or a failure's place and error. -/
inductive Res (α : Type) where
  | ok (x : α) (p : Nat)
  | fail (p : Nat) (e : Int)

/-- What it does. -/
def Res.out {α : Type} (V : α → Value) (g : Nat) (s : ByteArray) (e : Ending) (w : World) : Res α → Prop
  | .ok x p => e = .returned (V x) ∧ RdAt w g s p 0
  | .fail p er => ∃ q, e = .panicked [{ v := failV p er, recovered := false }] ∧ RdAt w g s q 0
/-- What 'reads' makes of it. -/
def Res.fin {α : Type} (V : α → Value) (z : α) (g : Nat) (s : ByteArray) (e : Ending) (w : World) : Res α → Prop
  | .ok x p => e = .returned (V x) ∧ RdAt w g s p 0
  | .fail p er => e = .returned (V z) ∧ RdAt w g s p er

theorem RdAt.cells {w : World} {g : Nat} {s : ByteArray} {p : Nat} {e : Int} (h : RdAt w g s p e) : w.cell? ⟨g, 0, none⟩ = some (.string s) ∧ w.cell? ⟨g, 1, none⟩ = some (.int .i64 (p : Int)) ∧ w.cell? ⟨g, 2, none⟩ = some (.int .i64 e) := ⟨blk_cell h 0, blk_cell h 1, blk_cell h 2⟩
theorem RdAt.move {w : World} {g : Nat} {s : ByteArray} {p : Nat} {e : Int} (h : RdAt w g s p e) (q : Nat) : RdAt (w.setCell ⟨g, 1, none⟩ (.int .i64 (q : Int))) g s q e := blk_set h 1 _
theorem RdAt.err {w : World} {g : Nat} {s : ByteArray} {p : Nat} {e : Int} (h : RdAt w g s p e) (er : Int) : RdAt (w.setCell ⟨g, 2, none⟩ (.int .i64 er)) g s p er := blk_set h 2 _
theorem RdAt.store {w : World} {g : Nat} {s : ByteArray} {p : Nat} {e : Int} (h : RdAt w g s p e) {a : Addr} (hg : g ≠ a.block) (v : Value) : RdAt (w.setCell a v) g s p e := by
  unfold RdAt; rw [Below.heap_setCell _ _ _ _ hg]; exact h
theorem RdAt.ext {w w' : World} {G : Nat → Prop} {g : Nat} {s : ByteArray} {p : Nat} {e : Int} (h : RdAt w g s p e) (hx : Ext G w w') (hg : ¬ G g) : RdAt w' g s p e := ext_heap hx h hg
theorem RdAt.alloc {w : World} {g : Nat} {s : ByteArray} {p : Nat} {e : Int} (h : RdAt w g s p e) (o : Obj) : RdAt (w.alloc o) g s p e := heap_past h o
theorem RdAt.lt {w : World} {g : Nat} {s : ByteArray} {p : Nat} {e : Int} (h : RdAt w g s p e) : g < w.heap.size := lt_of_block h
def G2 (g b : Nat) : Nat → Prop := fun k => k = g ∨ k = b
/-- A block of our own besides. -/
theorem Ext.own2 {a w w' : World} {g b : Nat} (h : Ext (G1 g) a w) (hx : Ext (G2 g b) w w') (hb : a.heap.size ≤ b) : Ext (G1 g) a w' :=
  ⟨hx.os.trans h.os, hx.tape.trans h.tape, hx.output.trans h.output, Nat.le_trans h.size hx.size, fun k hk hg => (hx.block k (Nat.lt_of_lt_of_le hk h.size) (fun e => by rcases e with e | e; exact hg e; omega)).trans (h.block k hk hg)⟩

def ThrownPost (g b p : Nat) (er : Int) (s : ByteArray) (t : TypeId) (z : Array Value) (w : World) : Exit → Act → World → Prop
  | .normal, a, w' => a.defers = [] ∧ RdAt w' g s p er ∧ w'.heap[b]? = some (.cells z t (0, 0)) ∧ Ext (G2 g b) w w'
  | _, _, _ => False

/-- What a reader finds: a byte, and whether there is one. -/
abbrev foundV (x : Nat × Bool) : Value := .agg #[.int .u8 (x.1 : Int), .bool x.2]
abbrev foundC (x : Nat × Bool) : Array Value := #[.int .u8 (x.1 : Int), .bool x.2]
abbrev intV (n : Int) : Value := .int .i64 n
abbrev strV (s : ByteArray) : Value := .string s
abbrev boolV (b : Bool) : Value := .bool b

theorem thrown_end1 {g b p q : Nat} {x z : Value} {er e : Int} {s : ByteArray} {t : TypeId} {w : World} {o : Obj} (hr : RdAt w g s q e) (hb : w.heap[b]? = some (.cells #[x] t (0, 0))) (hgb : g ≠ b) :
    RdAt ((((w.setCell ⟨b, 0, none⟩ z).setCell ⟨g, 1, none⟩ (.int .i64 (p : Int))).setCell ⟨g, 2, none⟩ (.int .i64 er)).alloc o).drew g s p er ∧
    ((((w.setCell ⟨b, 0, none⟩ z).setCell ⟨g, 1, none⟩ (.int .i64 (p : Int))).setCell ⟨g, 2, none⟩ (.int .i64 er)).alloc o).drew.heap[b]? = some (.cells #[z] t (0, 0)) ∧
    Ext (G2 g b) w ((((w.setCell ⟨b, 0, none⟩ z).setCell ⟨g, 1, none⟩ (.int .i64 (p : Int))).setCell ⟨g, 2, none⟩ (.int .i64 er)).alloc o).drew := by
  refine ⟨?_, ?_, ?_⟩
  · exact heap_past (((hr.store (by simpa using hgb) _).move p).err er) _
  · refine heap_past (w := ((w.setCell ⟨b, 0, none⟩ _).setCell ⟨g, 1, none⟩ _).setCell ⟨g, 2, none⟩ _) ?_ _
    rw [Below.heap_setCell _ _ _ _ hgb.symm, Below.heap_setCell _ _ _ _ hgb.symm, blk_set hb]
    rfl
  · exact (((((Ext.refl _ _).setCell (.inl (.inr rfl)) _).setCell (.inl (.inl rfl)) _).setCell (.inl (.inl rfl)) _).alloc _).drew
theorem thrown_end2 {g b p q : Nat} {x y z u : Value} {er e : Int} {s : ByteArray} {t : TypeId} {w : World} {o o' : Obj} (hr : RdAt w g s q e) (hb : w.heap[b]? = some (.cells #[x, y] t (0, 0))) (hgb : g ≠ b) :
    RdAt ((((((w.setCell ⟨b, 0, none⟩ z).setCell ⟨b, 1, none⟩ u).setCell ⟨g, 1, none⟩ (.int .i64 (p : Int))).setCell ⟨g, 2, none⟩ (.int .i64 er)).alloc o).alloc o').drew g s p er ∧
    ((((((w.setCell ⟨b, 0, none⟩ z).setCell ⟨b, 1, none⟩ u).setCell ⟨g, 1, none⟩ (.int .i64 (p : Int))).setCell ⟨g, 2, none⟩ (.int .i64 er)).alloc o).alloc o').drew.heap[b]? = some (.cells #[z, u] t (0, 0)) ∧
    Ext (G2 g b) w ((((((w.setCell ⟨b, 0, none⟩ z).setCell ⟨b, 1, none⟩ u).setCell ⟨g, 1, none⟩ (.int .i64 (p : Int))).setCell ⟨g, 2, none⟩ (.int .i64 er)).alloc o).alloc o').drew := by
  refine ⟨?_, ?_, ?_⟩
  · exact heap_past (heap_past ((((hr.store (by simpa using hgb) _).store (by simpa using hgb) _).move p).err er) _) _
  · refine heap_past (heap_past (w := (((w.setCell ⟨b, 0, none⟩ _).setCell ⟨b, 1, none⟩ _).setCell ⟨g, 1, none⟩ _).setCell ⟨g, 2, none⟩ _) ?_ _) _
    rw [Below.heap_setCell _ _ _ _ hgb.symm, Below.heap_setCell _ _ _ _ hgb.symm, blk_set (blk_set hb 0 _) 1 _]
    rfl
  · exact (((((((Ext.refl _ _).setCell (.inl (.inr rfl)) _).setCell (.inl (.inr rfl)) _).setCell (.inl (.inl rfl)) _).setCell (.inl (.inl rfl)) _).alloc _).alloc _).drew

/-- The deferred function where nothing was thrown. -/
theorem idle_intV (g b : Nat) (w : World) :
    CallsD Try.prog 56 #[.pointer (some ⟨b, 0, none⟩), .pointer (some ⟨g, 0, none⟩)] .returning w fun e u' w' => e = .returned (.tuple #[]) ∧ u' = .returning ∧ w' = w := by
  refine callsD_of_wpS Try.func56 rfl fun c₀ cs hu => ?_
  apply wpS_seq
  apply wpS_region
  simp [wpOpsS, go_sem, recoverD, hu, Try.ntmps56, Exit.thenS]
  apply wpS_seq
  apply wpS_region
  simp [wpOpsS, go_sem, recoverD, hu, Exit.thenS]
  refine wpS_cond (t := false) (by simp [Act.eval, Array.replicate]) ?_
  simp only [Bool.false_eq_true, if_false]
  refine wpS_of_wp (wp_skip ?_)
  cases c₀
  simp_all [bodyPostS, results, Try.results56]

set_option maxHeartbeats 1000000 in
/-- The deferred function where a failure was thrown. -/
theorem thrown_intV (g b bx q p : Nat) (x : Int) (er : Int) (s : ByteArray) (t t' : TypeId) (older : List PanicEntry) (w : World) (hr : RdAt w g s q 0) (hb : w.heap[b]? = some (.cells (#[intV x]) t (0, 0)))
    (hx : w.heap[bx]? = some (.cells #[.pointer (some ⟨g, 0, none⟩)] t' (0, 0))) (hgb : g ≠ b) (hbx : b ≠ bx) :
    CallsD Try.prog 56 #[.pointer (some ⟨b, 0, none⟩), .pointer (some ⟨bx, 0, none⟩)] (.panicking ({ v := failV p er, recovered := false } :: older)) w fun e u' w' =>
      e = .returned (.tuple #[]) ∧ u' = .panicking ({ v := failV p er, recovered := true } :: older) ∧ RdAt w' g s p er ∧ w'.heap[b]? = some (.cells (#[intV 0]) t (0, 0)) ∧ Ext (G2 g b) w w' := by
  have hta : ∀ w, (Instr.typeAssert (failV p er) 20 65 true).run Try.prog w = .ok (.tuple #[.agg #[.int .i64 (p : Int), .int .i64 er], .bool true]) w := fun w => by kernel_rfl
  refine callsD_of_wpS Try.func56 rfl fun c₀ cs hu => ?_
  apply wpS_seq
  apply wpS_region
  simp [wpOpsS, go_sem, recoverD, hu, Try.ntmps56, Exit.thenS]
  refine wpS_of_wp ?_
  refine wp_mono (Q := ThrownPost g b p er s t (#[intV 0]) w) ?_ ?_
  · simp only [Array.replicate_succ, Array.replicate_zero, List.push_toArray, List.append_toArray, List.nil_append, List.cons_append, List.setIfInBounds_toArray, List.set_cons_succ, List.set_cons_zero]
    clear hu cs c₀
    obtain ⟨r0, r1, r2⟩ := hr.cells
    have b0 := blk_cell hb
    have x0 := blk_cell hx 0
    have rz := blk_free hr
    have bz := blk_free hb
    have hlg := lt_of_block hr
    have hlb := lt_of_block hb
    have hlx := lt_of_block hx
    go_wp2_with fail
    go_region
    exact ⟨rfl, thrown_end1 hr hb hgb⟩
  · intro e a w' h
    cases e <;> try exact h.elim
    obtain ⟨h1, h2, h3, h4⟩ := h
    simp [bodyPostS, results, Try.results56, h1]
    exact ⟨h2, h3, h4⟩

/-- The deferred function where nothing was thrown. -/
theorem idle_boolV (g b : Nat) (w : World) :
    CallsD Try.prog 55 #[.pointer (some ⟨b, 0, none⟩), .pointer (some ⟨g, 0, none⟩)] .returning w fun e u' w' => e = .returned (.tuple #[]) ∧ u' = .returning ∧ w' = w := by
  refine callsD_of_wpS Try.func55 rfl fun c₀ cs hu => ?_
  apply wpS_seq
  apply wpS_region
  simp [wpOpsS, go_sem, recoverD, hu, Try.ntmps55, Exit.thenS]
  apply wpS_seq
  apply wpS_region
  simp [wpOpsS, go_sem, recoverD, hu, Exit.thenS]
  refine wpS_cond (t := false) (by simp [Act.eval, Array.replicate]) ?_
  simp only [Bool.false_eq_true, if_false]
  refine wpS_of_wp (wp_skip ?_)
  cases c₀
  simp_all [bodyPostS, results, Try.results55]

set_option maxHeartbeats 1000000 in
/-- The deferred function where a failure was thrown. -/
theorem thrown_boolV (g b bx q p : Nat) (x : Bool) (er : Int) (s : ByteArray) (t t' : TypeId) (older : List PanicEntry) (w : World) (hr : RdAt w g s q 0) (hb : w.heap[b]? = some (.cells (#[boolV x]) t (0, 0)))
    (hx : w.heap[bx]? = some (.cells #[.pointer (some ⟨g, 0, none⟩)] t' (0, 0))) (hgb : g ≠ b) (hbx : b ≠ bx) :
    CallsD Try.prog 55 #[.pointer (some ⟨b, 0, none⟩), .pointer (some ⟨bx, 0, none⟩)] (.panicking ({ v := failV p er, recovered := false } :: older)) w fun e u' w' =>
      e = .returned (.tuple #[]) ∧ u' = .panicking ({ v := failV p er, recovered := true } :: older) ∧ RdAt w' g s p er ∧ w'.heap[b]? = some (.cells (#[boolV false]) t (0, 0)) ∧ Ext (G2 g b) w w' := by
  have hta : ∀ w, (Instr.typeAssert (failV p er) 20 65 true).run Try.prog w = .ok (.tuple #[.agg #[.int .i64 (p : Int), .int .i64 er], .bool true]) w := fun w => by kernel_rfl
  refine callsD_of_wpS Try.func55 rfl fun c₀ cs hu => ?_
  apply wpS_seq
  apply wpS_region
  simp [wpOpsS, go_sem, recoverD, hu, Try.ntmps55, Exit.thenS]
  refine wpS_of_wp ?_
  refine wp_mono (Q := ThrownPost g b p er s t (#[boolV false]) w) ?_ ?_
  · simp only [Array.replicate_succ, Array.replicate_zero, List.push_toArray, List.append_toArray, List.nil_append, List.cons_append, List.setIfInBounds_toArray, List.set_cons_succ, List.set_cons_zero]
    clear hu cs c₀
    obtain ⟨r0, r1, r2⟩ := hr.cells
    have b0 := blk_cell hb
    have x0 := blk_cell hx 0
    have rz := blk_free hr
    have bz := blk_free hb
    have hlg := lt_of_block hr
    have hlb := lt_of_block hb
    have hlx := lt_of_block hx
    go_wp2_with fail
    go_region
    exact ⟨rfl, thrown_end1 hr hb hgb⟩
  · intro e a w' h
    cases e <;> try exact h.elim
    obtain ⟨h1, h2, h3, h4⟩ := h
    simp [bodyPostS, results, Try.results55, h1]
    exact ⟨h2, h3, h4⟩

/-- The deferred function where nothing was thrown. -/
theorem idle_strV (g b : Nat) (w : World) :
    CallsD Try.prog 59 #[.pointer (some ⟨b, 0, none⟩), .pointer (some ⟨g, 0, none⟩)] .returning w fun e u' w' => e = .returned (.tuple #[]) ∧ u' = .returning ∧ w' = w := by
  refine callsD_of_wpS Try.func59 rfl fun c₀ cs hu => ?_
  apply wpS_seq
  apply wpS_region
  simp [wpOpsS, go_sem, recoverD, hu, Try.ntmps59, Exit.thenS]
  apply wpS_seq
  apply wpS_region
  simp [wpOpsS, go_sem, recoverD, hu, Exit.thenS]
  refine wpS_cond (t := false) (by simp [Act.eval, Array.replicate]) ?_
  simp only [Bool.false_eq_true, if_false]
  refine wpS_of_wp (wp_skip ?_)
  cases c₀
  simp_all [bodyPostS, results, Try.results59]

set_option maxHeartbeats 1000000 in
/-- The deferred function where a failure was thrown. -/
theorem thrown_strV (g b bx q p : Nat) (x : ByteArray) (er : Int) (s : ByteArray) (t t' : TypeId) (older : List PanicEntry) (w : World) (hr : RdAt w g s q 0) (hb : w.heap[b]? = some (.cells (#[strV x]) t (0, 0)))
    (hx : w.heap[bx]? = some (.cells #[.pointer (some ⟨g, 0, none⟩)] t' (0, 0))) (hgb : g ≠ b) (hbx : b ≠ bx) :
    CallsD Try.prog 59 #[.pointer (some ⟨b, 0, none⟩), .pointer (some ⟨bx, 0, none⟩)] (.panicking ({ v := failV p er, recovered := false } :: older)) w fun e u' w' =>
      e = .returned (.tuple #[]) ∧ u' = .panicking ({ v := failV p er, recovered := true } :: older) ∧ RdAt w' g s p er ∧ w'.heap[b]? = some (.cells (#[strV ⟨#[]⟩]) t (0, 0)) ∧ Ext (G2 g b) w w' := by
  have hta : ∀ w, (Instr.typeAssert (failV p er) 20 65 true).run Try.prog w = .ok (.tuple #[.agg #[.int .i64 (p : Int), .int .i64 er], .bool true]) w := fun w => by kernel_rfl
  refine callsD_of_wpS Try.func59 rfl fun c₀ cs hu => ?_
  apply wpS_seq
  apply wpS_region
  simp [wpOpsS, go_sem, recoverD, hu, Try.ntmps59, Exit.thenS]
  refine wpS_of_wp ?_
  refine wp_mono (Q := ThrownPost g b p er s t (#[strV ⟨#[]⟩]) w) ?_ ?_
  · simp only [Array.replicate_succ, Array.replicate_zero, List.push_toArray, List.append_toArray, List.nil_append, List.cons_append, List.setIfInBounds_toArray, List.set_cons_succ, List.set_cons_zero]
    clear hu cs c₀
    obtain ⟨r0, r1, r2⟩ := hr.cells
    have b0 := blk_cell hb
    have x0 := blk_cell hx 0
    have rz := blk_free hr
    have bz := blk_free hb
    have hlg := lt_of_block hr
    have hlb := lt_of_block hb
    have hlx := lt_of_block hx
    go_wp2_with fail
    go_region
    exact ⟨rfl, thrown_end1 hr hb hgb⟩
  · intro e a w' h
    cases e <;> try exact h.elim
    obtain ⟨h1, h2, h3, h4⟩ := h
    simp [bodyPostS, results, Try.results59, h1]
    exact ⟨h2, h3, h4⟩

/-- The deferred function where nothing was thrown. -/
theorem idle_foundV (g b : Nat) (w : World) :
    CallsD Try.prog 54 #[.pointer (some ⟨b, 0, none⟩), .pointer (some ⟨g, 0, none⟩)] .returning w fun e u' w' => e = .returned (.tuple #[]) ∧ u' = .returning ∧ w' = w := by
  refine callsD_of_wpS Try.func54 rfl fun c₀ cs hu => ?_
  apply wpS_seq
  apply wpS_region
  simp [wpOpsS, go_sem, recoverD, hu, Try.ntmps54, Exit.thenS]
  apply wpS_seq
  apply wpS_region
  simp [wpOpsS, go_sem, recoverD, hu, Exit.thenS]
  refine wpS_cond (t := false) (by simp [Act.eval, Array.replicate]) ?_
  simp only [Bool.false_eq_true, if_false]
  refine wpS_of_wp (wp_skip ?_)
  cases c₀
  simp_all [bodyPostS, results, Try.results54]

set_option maxHeartbeats 1000000 in
/-- The deferred function where a failure was thrown. -/
theorem thrown_foundV (g b bx q p : Nat) (x : (Nat × Bool)) (er : Int) (s : ByteArray) (t t' : TypeId) (older : List PanicEntry) (w : World) (hr : RdAt w g s q 0) (hb : w.heap[b]? = some (.cells (foundC x) t (0, 0)))
    (hx : w.heap[bx]? = some (.cells #[.pointer (some ⟨g, 0, none⟩)] t' (0, 0))) (hgb : g ≠ b) (hbx : b ≠ bx) :
    CallsD Try.prog 54 #[.pointer (some ⟨b, 0, none⟩), .pointer (some ⟨bx, 0, none⟩)] (.panicking ({ v := failV p er, recovered := false } :: older)) w fun e u' w' =>
      e = .returned (.tuple #[]) ∧ u' = .panicking ({ v := failV p er, recovered := true } :: older) ∧ RdAt w' g s p er ∧ w'.heap[b]? = some (.cells (foundC (0, false)) t (0, 0)) ∧ Ext (G2 g b) w w' := by
  have hta : ∀ w, (Instr.typeAssert (failV p er) 20 65 true).run Try.prog w = .ok (.tuple #[.agg #[.int .i64 (p : Int), .int .i64 er], .bool true]) w := fun w => by kernel_rfl
  refine callsD_of_wpS Try.func54 rfl fun c₀ cs hu => ?_
  apply wpS_seq
  apply wpS_region
  simp [wpOpsS, go_sem, recoverD, hu, Try.ntmps54, Exit.thenS]
  refine wpS_of_wp ?_
  refine wp_mono (Q := ThrownPost g b p er s t (foundC (0, false)) w) ?_ ?_
  · simp only [Array.replicate_succ, Array.replicate_zero, List.push_toArray, List.append_toArray, List.nil_append, List.cons_append, List.setIfInBounds_toArray, List.set_cons_succ, List.set_cons_zero]
    clear hu cs c₀
    obtain ⟨r0, r1, r2⟩ := hr.cells
    have b0 := blk_cell hb
    have x0 := blk_cell hx 0
    have rz := blk_free hr
    have bz := blk_free hb
    have hlg := lt_of_block hr
    have hlb := lt_of_block hb
    have hlx := lt_of_block hx
    go_wp2_with fail
    go_region
    exact ⟨rfl, thrown_end2 hr hb hgb⟩
  · intro e a w' h
    cases e <;> try exact h.elim
    obtain ⟨h1, h2, h3, h4⟩ := h
    simp [bodyPostS, results, Try.results54, h1]
    exact ⟨h2, h3, h4⟩

end Go.Proofs.Ytejialnbelleeaa
