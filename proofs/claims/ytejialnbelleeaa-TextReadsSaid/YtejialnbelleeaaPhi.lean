/-
  A region that draws its order of evaluation, by what each of its operations leaves: if every operation, in whatever world that the others may have made before it, leaves a value of which its own word holds, then behind the region all words hold, whatever the order.
-/
import Derived.Orders
import Derived.OrdersIn
import Derived.Below
import Derived.RangeFuncCalls
import Derived.WalkKit
namespace Go.Proofs.Ytejialnbelleeaa
open Go Go.RowKit
set_option linter.unusedVariables false
set_option linter.unusedSectionVars false

/-- From w to w' every block that was there is as it was, but those of G. -/
structure Ext (G : Nat → Prop) (w w' : World) : Prop where
  os : w'.os = w.os
  tape : w'.tape = w.tape
  output : w'.output = w.output
  size : w.heap.size ≤ w'.heap.size
  block : ∀ k, k < w.heap.size → ¬ G k → w'.heap[k]? = w.heap[k]?

def G0 : Nat → Prop := fun _ => False

theorem Ext.refl (G : Nat → Prop) (w : World) : Ext G w w := ⟨rfl, rfl, rfl, Nat.le_refl _, fun _ _ _ => rfl⟩
theorem Ext.trans {G : Nat → Prop} {a b c : World} (h : Ext G a b) (k : Ext G b c) : Ext G a c :=
  ⟨k.os.trans h.os, k.tape.trans h.tape, k.output.trans h.output, Nat.le_trans h.size k.size, fun i hi hg => (k.block i (Nat.lt_of_lt_of_le hi h.size) hg).trans (h.block i hi hg)⟩
theorem Ext.mono {G G' : Nat → Prop} {w w' : World} (h : Ext G w w') (hg : ∀ k, G k → G' k) : Ext G' w w' :=
  ⟨h.os, h.tape, h.output, h.size, fun k hk hn => h.block k hk (fun x => hn (hg k x))⟩
theorem Ext.of_below {w w' : World} (h : Below w.heap.size w w') (G : Nat → Prop) : Ext G w w' := ⟨h.os, h.tape, h.output, h.size, fun k hk _ => h.block k hk⟩
theorem Ext.below {w w' : World} (h : Ext G0 w w') : Below w.heap.size w w' := ⟨h.os, h.tape, h.output, h.size, fun k hk => h.block k hk (fun x => x)⟩
theorem Ext.up {w w' : World} (h : Ext G0 w w') (G : Nat → Prop) : Ext G w w' := h.mono (fun _ x => x.elim)

/-- What an operation comes to in a frame and a world. -/
def OpR (P : Program) (ops : Array Oper) (o : Oper) (a : Act) (w : World) (K : Value → World → Prop) : Prop :=
  if Region.wanted o (yielded ops a.tmps) = true then
    match (execOp a.eval o).run P w with
    | .ok (.value v) w' => K v w'
    | .ok .skip w' => K undef w'
    | .ok (.enter f args) w' => Calls P f args w' fun e w'' => ∃ v, e = .returned v ∧ K v w''
    | .ok (.row row args) w' => Rows P row args w' fun v w'' => K v w''
    | _ => False
  else K undef w

theorem OpR.mono {P : Program} {ops : Array Oper} {o : Oper} {a : Act} {w : World} {K K' : Value → World → Prop} (hk : ∀ v w, K v w → K' v w) (h : OpR P ops o a w K) : OpR P ops o a w K' := by
  unfold OpR at *
  split
  · rename_i hw
    rw [if_pos hw] at h
    split at h <;> first | exact hk _ _ h | exact h.elim | exact h.mono fun e w' ⟨v, he, hv⟩ => ⟨v, he, hk _ _ hv⟩ | exact h.mono fun _ _ hv => hk _ _ hv
  · rename_i hw
    rw [if_neg hw] at h
    exact hk _ _ h

theorem OpR.congr {P : Program} {ops : Array Oper} {o : Oper} {a a' : Act} {w : World} {K : Value → World → Prop} (he : execOp a'.eval o = execOp a.eval o)
    (hw : Region.wanted o (yielded ops a'.tmps) = Region.wanted o (yielded ops a.tmps)) (h : OpR P ops o a w K) : OpR P ops o a' w K := by
  unfold OpR at *
  rw [he, hw]
  exact h

theorem OpR.wpOp {P : Program} {ops : Array Oper} {Q : Exit → Act → World → Prop} {i : Nat} {o : Oper} {a : Act} {w : World} {K : Value → World → Prop} (hi : ops[i]? = some o) (h : OpR P ops o a w K) :
    Go.wpOp P ops Q i (fun a' w' => ∃ v, a' = a.put o.dst v ∧ K v w') a w := by
  unfold Go.wpOp
  simp only [hi]
  unfold OpR at h
  split
  · rename_i hw
    rw [if_pos hw] at h
    left
    unfold Oper.wp
    split at h <;> rename_i hr
    · rw [hr]; exact ⟨_, rfl, h⟩
    · rw [hr]; exact ⟨_, rfl, h⟩
    · rw [hr, Oper.upon_enter]
      exact h.mono fun e w' ⟨v, he, hv⟩ => by subst he; exact ⟨v, rfl, hv⟩
    · rw [hr, Oper.upon_row]
      exact h.mono fun v w' hv => ⟨v, rfl, hv⟩
    · exact h.elim
  · rename_i hw
    rw [if_neg hw] at h
    exact ⟨_, rfl, h⟩

theorem callsIn_round {n : Nat} {P : Program} {f : FuncId} {args : Array Value} {w : World} {R : Ending → World → Prop} (l : Option Nat) (h : Calls P f args w R) : CallsIn { Fence.wide with round := l } n P f args w R := by
  cases l with
  | none => exact callsIn_wide.2 h
  | some l => exact CallsIn.inRound l (callsIn_wide.2 h)

theorem rowsIn_round {n : Nat} {P : Program} {row : String} {args : Array Value} {w : World} {R : Value → World → Prop} (l : Option Nat) (h : Rows P row args w R) : RowsIn { Fence.wide with round := l } n P row args w R := by
  intro c cs _
  obtain ⟨v, w', r, s⟩ := h c cs
  exact ⟨v, w', r, (stepsIn_wide (P := P)).2 s⟩

theorem OpR.wpOpIn {P : Program} {ops : Array Oper} {Q : Exit → Act → World → Prop} {i : Nat} {o : Oper} {a : Act} {w : World} {K : Value → World → Prop} (l : Option Nat) (n : Nat) (hd : ∀ c, o.op ≠ .defer c) (hi : ops[i]? = some o) (h : OpR P ops o a w K) :
    Go.wpOpIn { Fence.wide with round := l } n P ops Q i (fun a' w' => ∃ v, a' = a.put o.dst v ∧ K v w') a w := by
  unfold Go.wpOpIn
  simp only [hi]
  unfold OpR at h
  split
  · rename_i hw
    rw [if_pos hw] at h
    unfold Oper.wpIn
    refine ⟨fun _ _ => trivial, ?_⟩
    rw [Oper.semAt_eq _ _ _ hd]
    split at h <;> rename_i hr
    · rw [hr]; exact ⟨_, rfl, h⟩
    · rw [hr]; exact ⟨_, rfl, h⟩
    · rw [hr, Oper.uponIn_enter]
      refine ⟨fun x => by simp [Fence.wide] at x, ?_⟩
      exact (callsIn_round l h).mono fun e w' ⟨v, he, hv⟩ => by subst he; exact ⟨v, rfl, hv⟩
    · rw [hr, Oper.uponIn_row]
      exact ⟨fun x => by simp [Fence.wide] at x, (rowsIn_round l h).mono fun v w' hv => ⟨v, rfl, hv⟩⟩
    · exact h.elim
  · rename_i hw
    rw [if_neg hw] at h
    exact ⟨fun _ _ => trivial, _, rfl, h⟩

/-! ### Which operations lie ahead of which -/

def bef (ops : Array Oper) (j : Nat) : Nat := (Region.before ops).getD j 0

/-- One operation's number of those ahead of it, given those of the earlier ones. -/
def maskOf (acc : Array Nat) (o : Oper) : Nat := o.after.foldl (fun s e => if Region.binds .any e then s ||| 2 ^ e.on ||| acc.getD e.on 0 else s) 0

theorem before_eq (ops : Array Oper) : Region.before ops = ops.toList.foldl (fun acc o => acc.push (maskOf acc o)) #[] := by
  unfold Region.before maskOf
  rw [← Array.foldl_toList]

theorem foldl_push_size (l : List Oper) : ∀ (acc : Array Nat), (l.foldl (fun acc o => acc.push (maskOf acc o)) acc).size = acc.size + l.length := by
  induction l with
  | nil => intro acc; rfl
  | cons o l ih => intro acc; simp only [List.foldl_cons, List.length_cons]; rw [ih]; simp; omega

theorem foldl_push_old (l : List Oper) : ∀ (acc : Array Nat) (k : Nat), k < acc.size → (l.foldl (fun acc o => acc.push (maskOf acc o)) acc).getD k 0 = acc.getD k 0 := by
  induction l with
  | nil => intro acc k _; rfl
  | cons o l ih =>
    intro acc k hk
    simp only [List.foldl_cons]
    rw [ih _ k (by simp; omega)]
    simp [Array.getD_eq_getD_getElem?, Array.getElem?_push, Nat.ne_of_lt hk]

theorem mask_bit (l : List Edge) (acc : Array Nat) (k : Nat) : ∀ s : Nat, (l.foldl (fun s e => if Region.binds .any e then s ||| 2 ^ e.on ||| acc.getD e.on 0 else s) s).testBit k = true →
    s.testBit k = true ∨ ∃ e ∈ l, Region.binds .any e = true ∧ (e.on = k ∨ (acc.getD e.on 0).testBit k = true) := by
  induction l with
  | nil => intro s h; exact .inl h
  | cons e l ih =>
    intro s h
    simp only [List.foldl_cons] at h
    rcases ih _ h with h1 | ⟨e', he', h1⟩
    · split at h1
      · rename_i hb
        simp only [Nat.testBit_or, Bool.or_eq_true, Nat.testBit_two_pow, decide_eq_true_eq] at h1
        rcases h1 with (h1 | h1) | h1
        · exact .inl h1
        · exact .inr ⟨e, List.mem_cons_self, hb, .inl h1⟩
        · exact .inr ⟨e, List.mem_cons_self, hb, .inr h1⟩
      · exact .inl h1
    · exact .inr ⟨e', List.mem_cons_of_mem _ he', h1⟩

theorem foldl_at (l : List Oper) : ∀ (acc : Array Nat) (j : Nat) (o : Oper), l[j]? = some o →
    ∃ acc' : Array Nat, acc'.size = acc.size + j ∧ (l.foldl (fun acc o => acc.push (maskOf acc o)) acc).getD (acc.size + j) 0 = maskOf acc' o ∧
      ∀ k, k < acc'.size → (l.foldl (fun acc o => acc.push (maskOf acc o)) acc).getD k 0 = acc'.getD k 0 := by
  induction l with
  | nil => intro acc j o h; simp at h
  | cons p l ih =>
    intro acc j o h
    cases j with
    | zero =>
      simp at h
      subst h
      refine ⟨acc, rfl, ?_, fun k hk => ?_⟩
      · simp only [List.foldl_cons, Nat.add_zero]
        rw [foldl_push_old _ _ _ (by simp)]
        simp [Array.getD_eq_getD_getElem?]
      · simp only [List.foldl_cons]
        rw [foldl_push_old _ _ _ (by simp; omega)]
        simp [Array.getD_eq_getD_getElem?, Array.getElem?_push, Nat.ne_of_lt hk]
    | succ j =>
      obtain ⟨acc', h1, h2, h3⟩ := ih (acc.push (maskOf acc p)) j o (by simpa using h)
      simp only [Array.size_push] at h1 h2
      refine ⟨acc', by omega, ?_, h3⟩
      simp only [List.foldl_cons]
      rw [show acc.size + (j + 1) = acc.size + 1 + j by omega]
      exact h2

/-- What lies ahead of j lies on one of j's own edges, or ahead of its end. -/
theorem bef_edge {ops : Array Oper} {j k : Nat} {o : Oper} (ho : ops[j]? = some o) (h : (bef ops j).testBit k = true) :
    ∃ e ∈ o.after, Region.binds .any e = true ∧ (e.on = k ∨ (bef ops e.on).testBit k = true) := by
  unfold bef at *
  rw [before_eq] at *
  obtain ⟨acc', h1, h2, h3⟩ := foldl_at ops.toList #[] j o (by simpa using ho)
  simp only [Nat.zero_add, List.size_toArray, List.length_nil] at h1 h2
  rw [h2] at h
  unfold maskOf at h
  rw [← Array.foldl_toList] at h
  rcases mask_bit _ _ _ _ h with h4 | ⟨e, he, hb, h4⟩
  · simp at h4
  · refine ⟨e, Array.mem_toList_iff.1 he, hb, ?_⟩
    rcases h4 with h4 | h4
    · exact .inl h4
    · right
      rcases Nat.lt_or_ge e.on acc'.size with h5 | h5
      · rw [h3 _ h5]; exact h4
      · simp [Array.getD_eq_getD_getElem?, Array.getElem?_eq_none h5] at h4

def lst (l : Array Bool) (i : Nat) : Bool := l.getD i false

def Closed (ops : Array Oper) (l : Array Bool) : Prop := ∀ j, lst l j = true → ∀ k, (bef ops j).testBit k = true → lst l k = true

theorem ready_spec {ops : Array Oper} {l : Array Bool} {j : Nat} (h : j ∈ Region.ready .any ops l) :
    j < ops.size ∧ l.getD j true = false ∧ ∃ o, ops[j]? = some o ∧ ∀ e ∈ o.after, Region.binds .any e = true → lst l e.on = true := by
  unfold Region.ready at h
  simp only [List.mem_filter, List.mem_range, Bool.and_eq_true, Bool.not_eq_true'] at h
  obtain ⟨h1, h2, h3⟩ := h
  refine ⟨h1, h2, ops[j], by simp [h1], ?_⟩
  simp only [Array.getElem?_eq_getElem h1, Option.map_some, Option.getD_some, Array.all_eq_true] at h3
  intro e he hb
  obtain ⟨i, hi, rfl⟩ := Array.mem_iff_getElem.1 he
  have := h3 i hi
  simpa [hb, lst] using this

theorem ready_bef {ops : Array Oper} {l : Array Bool} {j k : Nat} (hc : Closed ops l) (h : j ∈ Region.ready .any ops l) (hk : (bef ops j).testBit k = true) : lst l k = true := by
  obtain ⟨_, _, o, ho, he⟩ := ready_spec h
  obtain ⟨e, h1, h2, h3⟩ := bef_edge ho hk
  rcases h3 with h3 | h3
  · exact h3 ▸ he e h1 h2
  · exact hc _ (he e h1 h2) _ h3

theorem lst_set {l : Array Bool} {i j : Nat} (hi : i < l.size) : lst (l.setIfInBounds i true) j = (decide (i = j) || lst l j) := by
  unfold lst
  by_cases h : i = j
  · subst h; simp [Array.getD_eq_getD_getElem?, hi]
  · simp [Array.getD_eq_getD_getElem?, Array.getElem?_setIfInBounds_ne h, h]

theorem closed_set {ops : Array Oper} {l : Array Bool} {j : Nat} (hl : j < l.size) (hc : Closed ops l) (h : j ∈ Region.ready .any ops l) : Closed ops (l.setIfInBounds j true) := by
  intro i hi k hk
  rw [lst_set hl] at hi ⊢
  simp only [Bool.or_eq_true, decide_eq_true_eq] at hi ⊢
  right
  rcases hi with rfl | hi
  · exact ready_bef hc h hk
  · exact hc _ hi _ hk

/-! ### The rule -/

/-- What an operation leaves: a known value; or a value of which Φ holds ('g': Φ speaks of blocks of G; 'm': the operation may turn blocks of G). -/
inductive Leaf where
  | val (c : Value)
  | ref (g m : Bool) (Φ : Value → World → Prop)
  /-- An operation without a result, that may turn what E lets turn; Φ speaks of the value that lies in t. -/
  | lay (t : Tmp) (Φ : Value → World → Prop)

def Leaf.get : Leaf → Value → Value
  | .val c, _ => c
  | .ref .., v => v
  | .lay .., v => v
def Leaf.g : Leaf → Bool
  | .val _ => false
  | .ref g _ _ => g
  | .lay .. => false
def Leaf.m : Leaf → Bool
  | .val _ => false
  | .ref _ m _ => m
  | .lay .. => true
def Leaf.says : Leaf → Value → World → Prop
  | .val _, _, _ => True
  | .ref _ _ Φ, v, w => Φ v w
  | .lay _ Φ, v, w => Φ v w
/-- What a region's operations may turn: it holds of a world and itself, it is kept by what only adds, and two steps are one. -/
class Rel (E : World → World → Prop) : Prop where
  refl : ∀ w, E w w
  trans : ∀ {a b c}, E a b → E b c → E a c
  of0 : ∀ {w w'}, Ext G0 w w' → E w w'
instance : Rel (Ext G0) := ⟨Ext.refl _, Ext.trans, id⟩

/-- What it says lasts. -/
def Leaf.lasts (E : World → World → Prop) : Leaf → Prop
  | .val _ => True
  | .ref g _ Φ => ∀ v w w', Φ v w → (if g then Ext G0 else E) w w' → Φ v w'
  | .lay _ Φ => ∀ v w w', Φ v w → E w w' → Φ v w'
def Leaf.fits (ops : Array Oper) (o : Oper) : Leaf → Prop
  | .lay t _ => o.dst = none ∧ t ∈ o.looksAt ops
  | _ => True

def bit (b : Array Nat) (j i : Nat) : Bool := (b.getD j 0).testBit i
def dstOf (ops : Array Oper) (i : Nat) : Option Tmp := (ops[i]?).bind (·.dst)

/-- May j lean on what i left? (ms: the operations that may turn blocks of E.) -/
def avail (b : Array Nat) (ms : List Nat) (i : Nat) (g : Bool) (j : Nat) : Bool :=
  bit b j i && (!g || ms.all fun m => m == i || m == j || bit b i m || bit b m j)
def atEnd (b : Array Nat) (ms : List Nat) (i : Nat) (g : Bool) : Bool := !g || ms.all fun m => m == i || bit b i m

def phiOk (ops : Array Oper) (b : Array Nat) (size k : Nat) : Bool :=
  decide (k ≤ ops.size) && ((List.range ops.size).all fun j => match ops[j]? with
    | none => false
    | some o =>
      o.after.all (fun e => !Region.binds .any e || decide (e.on < j)) &&
      (match o.op with | .select .. => false | .defer _ => false | _ => true) &&
      o.dst.all (fun t => decide (t < size)) &&
      ((decide (j < k)) || (List.range j).all fun i => bit b j i) &&
      (o.dst.toList ++ o.looksAt ops).all fun t => (List.range ops.size).all fun i => dstOf ops i != some t || i == j || bit b (max i j) (min i j))

/-- What is owed, operation by operation, in the order of the text. -/
def Owed (P : Program) (ops : Array Oper) (b : Array Nat) (ms : List Nat) (E : World → World → Prop) (w1 : World) (R : Act → World → Prop) :
    List (Leaf × Oper) → Nat → Act → List (Nat × Bool × (World → Prop)) → Prop
  | [], _, a, facts => ∀ w, E w1 w → (∀ p ∈ facts, atEnd b ms p.1 p.2.1 = true → p.2.2 w) → R a w
  | (.val c, o) :: rest, j, a, facts =>
    (∀ w, E w1 w → (∀ p ∈ facts, avail b ms p.1 p.2.1 j = true → p.2.2 w) → OpR P ops o a w fun v w' => v = c ∧ Ext G0 w w') ∧
      Owed P ops b ms E w1 R rest (j + 1) (a.put o.dst c) facts
  | (.ref g m Φ, o) :: rest, j, a, facts =>
    (∀ v w w', Φ v w → (if g then Ext G0 else E) w w' → Φ v w') ∧
    (∀ w, E w1 w → (∀ p ∈ facts, avail b ms p.1 p.2.1 j = true → p.2.2 w) → OpR P ops o a w fun v w' => Φ v w' ∧ (if m then E else Ext G0) w w') ∧
      ∀ v, Owed P ops b ms E w1 R rest (j + 1) (a.put o.dst v) ((j, g, Φ v) :: facts)
  | (.lay t Φ, o) :: rest, j, a, facts =>
    (o.dst = none ∧ t ∈ o.looksAt ops) ∧ (∀ v w w', Φ v w → E w w' → Φ v w') ∧
    (∀ w, E w1 w → (∀ p ∈ facts, avail b ms p.1 p.2.1 j = true → p.2.2 w) → OpR P ops o a w fun _ w' => Φ (a.tmps.getD t undef) w' ∧ E w w') ∧
      Owed P ops b ms E w1 R rest (j + 1) a ((j, false, Φ (a.tmps.getD t undef)) :: facts)

/-- The frame when the first j operations have been done, in the order of the text. -/
def actTo (ls : List (Leaf × Oper)) (vs : Nat → Value) (a : Act) : Nat → Act
  | 0 => a
  | n + 1 => match ls[n]? with
    | none => actTo ls vs a n
    | some (x, o) => (actTo ls vs a n).put o.dst (x.get (vs n))

theorem actTo_congr (ls : List (Leaf × Oper)) (vs us : Nat → Value) (a : Act) : ∀ n, (∀ q, q < n → vs q = us q) → actTo ls vs a n = actTo ls us a n
  | 0, _ => rfl
  | n + 1, h => by
    simp only [actTo]
    rw [actTo_congr ls vs us a n (fun q hq => h q (by omega)), h n (Nat.lt_succ_self n)]

/-- Of which value a leaf speaks. -/
def Leaf.at (ls : List (Leaf × Oper)) (vs : Nat → Value) (a : Act) (i : Nat) : Leaf → Value
  | .lay t _ => (actTo ls vs a i).tmps.getD t undef
  | _ => vs i

def anyG (ops : Array Oper) (stp : Nat → (Act → World → Prop) → Act → World → Prop) (Qn : Act → World → Prop) : Nat → Array Bool → Act → World → Prop
  | 0, l, a, w => Region.ready .any ops l = [] ∧ Qn a w
  | n + 1, l, a, w => (Region.ready .any ops l = [] → Qn a w) ∧ ∀ i ∈ Region.ready .any ops l, stp i (anyG ops stp Qn n (l.setIfInBounds i true)) a w

def seqG (stp : Nat → (Act → World → Prop) → Act → World → Prop) (Qn : Act → World → Prop) : List Nat → Act → World → Prop
  | [], a, w => Qn a w
  | i :: r, a, w => stp i (seqG stp Qn r) a w

def msOf (ls : List (Leaf × Oper)) : List Nat := (List.range ls.length).filter fun i => (ls[i]?).any (·.1.m)

def stepOf (E : World → World → Prop) (x : Leaf) (u : Value) (w : World) (v : Value) (w' : World) : Prop :=
  match x with
  | .val c => v = c ∧ Ext G0 w w'
  | .ref _ m Φ => Φ v w' ∧ (if m then E else Ext G0) w w'
  | .lay _ Φ => Φ u w' ∧ E w w'

theorem stepOf.get {E : World → World → Prop} [hE : Rel E] {x : Leaf} {u : Value} {w w' : World} {v : Value} (h : stepOf E x u w v w') : x.get v = v := by
  cases x with
  | val c => exact h.1.symm
  | ref => rfl
  | lay => rfl

theorem owed_at {P : Program} {ops : Array Oper} {b : Array Nat} {ms : List Nat} {E : World → World → Prop} [hE : Rel E] {w1 : World} {R : Act → World → Prop} {full : List (Leaf × Oper)} {a0 : Act} (vs : Nat → Value) :
    ∀ (n j : Nat) (a : Act) (facts : List (Nat × Bool × (World → Prop))), n = full.length - j → j ≤ full.length → Owed P ops b ms E w1 R (full.drop j) j a facts → a = actTo full vs a0 j →
      (∀ p ∈ facts, ∃ x o, full[p.1]? = some (x, o) ∧ p.1 < j ∧ p.2.1 = x.g ∧ p.2.2 = x.says (x.at full vs a0 p.1)) →
      (∀ i x o, j ≤ i → full[i]? = some (x, o) → (x.lasts E ∧ x.fits ops o) ∧ ∀ w, E w1 w → (∀ q y o', q < i → full[q]? = some (y, o') → avail b ms q y.g i = true → y.says (y.at full vs a0 q) w) → OpR P ops o (actTo full vs a0 i) w (stepOf E x (x.at full vs a0 i) w)) ∧
      ∀ w, E w1 w → (∀ q y o', full[q]? = some (y, o') → atEnd b ms q y.g = true → y.says (y.at full vs a0 q) w) → R (actTo full vs a0 full.length) w := by
  intro n
  induction n with
  | zero =>
    intro j a facts hn hj h ha hf
    have hd : full.drop j = [] := List.drop_eq_nil_iff.2 (by omega)
    rw [hd] at h
    refine ⟨fun i x o hi hx => ?_, fun w hw hs => ?_⟩
    · have := (List.getElem?_eq_some_iff.1 hx).1; omega
    · have hjj : j = full.length := by omega
      subst hjj
      rw [← ha]
      refine h w hw fun p hp he => ?_
      obtain ⟨x, o, h1, _, h3, h4⟩ := hf p hp
      rw [h4]
      exact hs _ _ _ h1 (h3 ▸ he)
  | succ n ih =>
    intro j a facts hn hj h ha hf
    have hlt : j < full.length := by omega
    have hd : full.drop j = full[j] :: full.drop (j + 1) := List.drop_eq_getElem_cons hlt
    have hget : full[j]? = some full[j] := List.getElem?_eq_getElem hlt
    rw [hd] at h
    generalize hfj : full[j] = e at h hget
    obtain ⟨x, o⟩ := e
    have hto : ∀ i x' o', i < j + 1 → j ≤ i → full[i]? = some (x', o') → i = j ∧ x' = x ∧ o' = o := by
      intro i x' o' h1 h2 h3
      have : i = j := by omega
      subst this
      rw [hget] at h3
      cases h3
      exact ⟨rfl, rfl, rfl⟩
    cases x with
    | val c =>
      obtain ⟨h1, h2⟩ := h
      have ih' := ih (j + 1) (a.put o.dst c) facts (by omega) hlt h2 (by simp only [actTo, hget, Leaf.get, ← ha]) (fun p hp => by
        obtain ⟨x, o, q1, q2, q3, q4⟩ := hf p hp
        exact ⟨x, o, q1, by omega, q3, q4⟩)
      refine ⟨fun i x' o' hi hx => ?_, ih'.2⟩
      rcases Nat.lt_or_ge i (j + 1) with h3 | h3
      · obtain ⟨rfl, rfl, rfl⟩ := hto i x' o' h3 hi hx
        refine ⟨⟨trivial, trivial⟩, fun w hw hs => ?_⟩
        rw [← ha]
        refine (h1 w hw fun p hp he => ?_).mono fun v w' hk => hk
        obtain ⟨y, o'', q1, q2, q3, q4⟩ := hf p hp
        rw [q4]
        exact hs _ _ _ q2 q1 (q3 ▸ he)
      · exact ih'.1 i x' o' h3 hx
    | ref g m Φ =>
      obtain ⟨h0, h1, h2⟩ := h
      have ih' := ih (j + 1) (a.put o.dst (vs j)) ((j, g, Φ (vs j)) :: facts) (by omega) hlt (h2 (vs j)) (by simp only [actTo, hget, Leaf.get, ← ha]) (fun p hp => by
        rcases List.mem_cons.1 hp with rfl | hp
        · exact ⟨_, _, hget, Nat.lt_succ_self _, rfl, rfl⟩
        · obtain ⟨x, o, q1, q2, q3, q4⟩ := hf p hp
          exact ⟨x, o, q1, by omega, q3, q4⟩)
      refine ⟨fun i x' o' hi hx => ?_, ih'.2⟩
      rcases Nat.lt_or_ge i (j + 1) with h3 | h3
      · obtain ⟨rfl, rfl, rfl⟩ := hto i x' o' h3 hi hx
        refine ⟨⟨h0, trivial⟩, fun w hw hs => ?_⟩
        rw [← ha]
        refine (h1 w hw fun p hp he => ?_).mono fun v w' hk => hk
        obtain ⟨y, o'', q1, q2, q3, q4⟩ := hf p hp
        rw [q4]
        exact hs _ _ _ q2 q1 (q3 ▸ he)
      · exact ih'.1 i x' o' h3 hx
    | lay t Φ =>
      obtain ⟨hfit, h0, h1, h2⟩ := h
      have ih' := ih (j + 1) a ((j, false, Φ (a.tmps.getD t undef)) :: facts) (by omega) hlt h2 (by simp only [actTo, hget, Leaf.get, hfit.1]; rw [← ha]; rfl) (fun p hp => by
        rcases List.mem_cons.1 hp with rfl | hp
        · exact ⟨_, _, hget, Nat.lt_succ_self _, rfl, by simp only [Leaf.at, ← ha]; rfl⟩
        · obtain ⟨x, o, q1, q2, q3, q4⟩ := hf p hp
          exact ⟨x, o, q1, by omega, q3, q4⟩)
      refine ⟨fun i x' o' hi hx => ?_, ih'.2⟩
      rcases Nat.lt_or_ge i (j + 1) with h3 | h3
      · obtain ⟨rfl, rfl, rfl⟩ := hto i x' o' h3 hi hx
        refine ⟨⟨h0, hfit⟩, fun w hw hs => ?_⟩
        simp only [Leaf.at]
        rw [← ha]
        refine (h1 w hw fun p hp he => ?_).mono fun v w' hk => hk
        obtain ⟨y, o'', q1, q2, q3, q4⟩ := hf p hp
        rw [q4]
        exact hs _ _ _ q2 q1 (q3 ▸ he)
      · exact ih'.1 i x' o' h3 hx

/-- The value of the last of some. -/
def lastV (p : Nat → Bool) (V : Nat → Value) (d : Value) : Nat → Value
  | 0 => d
  | n + 1 => if p n = true then V n else lastV p V d n

theorem lastV_congr {p q : Nat → Bool} {V U : Nat → Value} {d : Value} : ∀ n, (∀ i, i < n → p i = q i) → (∀ i, i < n → p i = true → V i = U i) → lastV p V d n = lastV q U d n := by
  intro n
  induction n with
  | zero => intro _ _; rfl
  | succ n ih =>
    intro h1 h2
    simp only [lastV]
    rw [← h1 n (Nat.lt_succ_self n), ih (fun i hi => h1 i (by omega)) (fun i hi => h2 i (by omega))]
    split
    · rename_i h; exact h2 n (Nat.lt_succ_self n) h
    · rfl

theorem lastV_top {p : Nat → Bool} {V : Nat → Value} {d : Value} {j : Nat} : ∀ n, j < n → p j = true → (∀ i, j < i → i < n → p i = false) → lastV p V d n = V j := by
  intro n
  induction n with
  | zero => intro h; omega
  | succ n ih =>
    intro h1 h2 h3
    simp only [lastV]
    by_cases e : j = n
    · subst e; rw [if_pos h2]
    · rw [h3 n (by omega) (Nat.lt_succ_self n)]
      simp only [Bool.false_eq_true, if_false]
      exact ih (by omega) h2 (fun i hi hin => h3 i hi (by omega))

theorem lastV_past {p : Nat → Bool} {V : Nat → Value} {d : Value} {j : Nat} : ∀ n, j ≤ n → (∀ i, j ≤ i → i < n → p i = false) → lastV p V d n = lastV p V d j := by
  intro n
  induction n with
  | zero => intro h _; have : j = 0 := by omega
            subst this; rfl
  | succ n ih =>
    intro h1 h3
    by_cases e : j = n + 1
    · subst e; rfl
    · simp only [lastV]
      rw [h3 n (by omega) (Nat.lt_succ_self n)]
      simp only [Bool.false_eq_true, if_false]
      exact ih (by omega) (fun i hi hin => h3 i hi (by omega))

theorem put_size (a : Act) (d : Option Tmp) (v : Value) : (a.put d v).tmps.size = a.tmps.size := by cases d <;> simp [Act.put]
theorem put_defers (a : Act) (d : Option Tmp) (v : Value) : (a.put d v).defers = a.defers := by cases d <;> rfl
theorem put_getD (a : Act) (d : Option Tmp) (v : Value) (t : Nat) (hd : ∀ x, d = some x → x < a.tmps.size) : (a.put d v).tmps.getD t undef = if d = some t then v else a.tmps.getD t undef := by
  cases d with
  | none => simp [Act.put]
  | some x =>
    have hx := hd x rfl
    simp only [Act.put, Array.getD_eq_getD_getElem?, Option.some.injEq]
    by_cases h : x = t
    · subst h; simp [hx]
    · rw [if_neg h, Array.getElem?_setIfInBounds_ne h]

theorem ext_ite {E : World → World → Prop} [hE : Rel E] {m : Bool} {w w' : World} (h : (if m = true then E else Ext G0) w w') : E w w' := by
  cases m
  · exact hE.of0 (by simpa using h)
  · simpa using h

/-- All that phiOk says, one by one. -/
theorem phiOk_spec {ops : Array Oper} {b : Array Nat} {size k : Nat} (h : phiOk ops b size k = true) : k ≤ ops.size ∧ ∀ j o, ops[j]? = some o →
    (∀ e ∈ o.after, Region.binds .any e = true → e.on < j) ∧ (∀ cs bl, o.op ≠ .select cs bl) ∧ (∀ c, o.op ≠ .defer c) ∧ (∀ t, o.dst = some t → t < size) ∧ (k ≤ j → ∀ i, i < j → bit b j i = true) ∧
    ∀ t, (o.dst = some t ∨ t ∈ o.looksAt ops) → ∀ i, i < ops.size → dstOf ops i = some t → i ≠ j → bit b (max i j) (min i j) = true := by
  unfold phiOk at h
  simp only [Bool.and_eq_true, decide_eq_true_eq, List.all_eq_true, List.mem_range] at h
  refine ⟨h.1, fun j o ho => ?_⟩
  have hj : j < ops.size := (Array.getElem?_eq_some_iff.1 ho).1
  have h2 := h.2 j hj
  rw [ho] at h2
  simp only [Bool.and_eq_true, Bool.or_eq_true, decide_eq_true_eq, List.all_eq_true, Array.all_eq_true, List.mem_range] at h2
  obtain ⟨⟨⟨⟨h3, h4⟩, h5⟩, h6⟩, h7⟩ := h2
  refine ⟨fun e he hb => ?_, fun cs bl e => by rw [e] at h4; simp at h4, fun c e => by rw [e] at h4; simp at h4, fun t ht => ?_, fun hk i hi => ?_, fun t ht i hi hd hne => ?_⟩
  · obtain ⟨q, hq, rfl⟩ := Array.mem_iff_getElem.1 he
    have := h3 q hq
    simpa [hb] using this
  · rw [ht] at h5; simpa using h5
  · rcases h6 with h6 | h6
    · omega
    · exact h6 i hi
  · have hm : t ∈ o.dst.toList ++ o.looksAt ops := by
      rcases ht with ht | ht
      · rw [ht]; simp
      · exact List.mem_append.2 (.inr ht)
    have := h7 t hm i hi
    rcases this with (h8 | h8) | h8
    · rw [hd] at h8; simp at h8
    · exact absurd (by simpa using h8) hne
    · exact h8

section
variable {ops : Array Oper} {stp : Nat → (Act → World → Prop) → Act → World → Prop} {Qn : Act → World → Prop}

/-- What is left is forced: it comes in the order of the text. -/
theorem any_forced (hmono : ∀ i (K K' : Act → World → Prop) a w, (∀ a w, K a w → K' a w) → stp i K a w → stp i K' a w)
    (hedge : ∀ j o, ops[j]? = some o → ∀ e ∈ o.after, Region.binds .any e = true → e.on < j) {k : Nat} (hforce : ∀ j, k ≤ j → j < ops.size → ∀ i, i < j → (bef ops j).testBit i = true) :
    ∀ (n s : Nat) (l : Array Bool) (a : Act) (w : World), k ≤ s → ops.size - s ≤ n → s ≤ ops.size → l.size = ops.size → Closed ops l → (∀ i, i < ops.size → lst l i = decide (i < s)) →
      seqG stp Qn (List.range' s (ops.size - s)) a w → anyG ops stp Qn n l a w := by
  intro n
  induction n with
  | zero =>
    intro s l a w hk hn hs hl hc hlst h
    have : ops.size - s = 0 := by omega
    rw [this] at h
    refine ⟨?_, h⟩
    cases hr : Region.ready .any ops l with
    | nil => rfl
    | cons i r =>
      obtain ⟨h1, h2, _⟩ := ready_spec (l := l) (j := i) (by rw [hr]; exact List.mem_cons_self)
      have := hlst i h1
      rw [decide_eq_true (by omega)] at this
      unfold lst at this
      simp [Array.getD_eq_getD_getElem?, hl, h1] at this h2
      rw [this] at h2; cases h2
  | succ n ih =>
    intro s l a w hk hn hs hl hc hlst h
    have hready : ∀ i, i ∈ Region.ready .any ops l → i = s := by
      intro i hi
      obtain ⟨h1, h2, _⟩ := ready_spec hi
      have h3 := hlst i h1
      have h4 : lst l i = false := by
        unfold lst; simp [Array.getD_eq_getD_getElem?, hl, h1] at h2 ⊢; exact h2
      rw [h4] at h3
      have h5 : ¬ i < s := fun x => by rw [decide_eq_true x] at h3; cases h3
      rcases Nat.lt_or_ge s i with h6 | h6
      · have h7 := ready_bef hc hi (hforce i (by omega) h1 s h6)
        rw [hlst s (by omega)] at h7
        simp at h7
      · omega
    constructor
    · intro hnil
      by_cases hlt : s < ops.size
      · exfalso
        have : s ∈ Region.ready .any ops l := by
          unfold Region.ready
          simp only [List.mem_filter, List.mem_range, Bool.and_eq_true, Bool.not_eq_true']
          refine ⟨hlt, ?_, ?_⟩
          · have := hlst s hlt
            unfold lst at this
            simp [Array.getD_eq_getD_getElem?, hl, hlt] at this ⊢; exact this
          · simp only [Array.getElem?_eq_getElem hlt, Option.map_some, Option.getD_some, Array.all_eq_true]
            intro i hi
            by_cases hb : Region.binds .any (ops[s].after[i]) = true
            · have h1 := hedge s ops[s] (by simp [hlt]) _ (Array.getElem_mem hi) hb
              have h2 := hlst _ (Nat.lt_trans h1 hlt)
              rw [decide_eq_true h1] at h2
              unfold lst at h2
              simp [h2]
            · simp [hb]
        rw [hnil] at this
        cases this
      · have : ops.size - s = 0 := by omega
        rw [this] at h
        exact h
    · intro i hi
      have := hready i hi
      subst this
      obtain ⟨h1, _, _⟩ := ready_spec hi
      have e : ops.size - i = (ops.size - (i + 1)) + 1 := by omega
      rw [e, List.range'_succ] at h
      refine hmono _ _ _ _ _ (fun a w ha => ?_) h
      refine ih (i + 1) _ a w (by omega) (by omega) (by omega) (by simpa using hl) (closed_set (by omega) hc hi) (fun q hq => ?_) ha
      rw [lst_set (by omega), hlst q hq]
      by_cases e : i = q
      · simp [e]
      · simp only [e, decide_false, Bool.false_or]
        congr 1
        exact propext ⟨fun _ => by omega, fun _ => by omega⟩
end

/-- How many are still to come. -/
def cnt (l : Array Bool) : Nat → Nat
  | 0 => 0
  | n + 1 => cnt l n + (if lst l n = true then 0 else 1)

theorem cnt_set {l : Array Bool} {i : Nat} (hi : i < l.size) (hl : lst l i = false) : ∀ n, cnt (l.setIfInBounds i true) n + (if i < n then 1 else 0) = cnt l n := by
  intro n
  induction n with
  | zero => rfl
  | succ n ih =>
    simp only [cnt]
    rw [lst_set hi]
    by_cases e : i = n
    · subst e
      simp [hl] at ih ⊢
      omega
    · have h1 : (i < n + 1) = (i < n) := propext ⟨fun _ => by omega, fun _ => by omega⟩
      simp only [e, decide_false, Bool.false_or, h1]
      omega

theorem cnt_upto {l : Array Bool} {s : Nat} : ∀ n, s ≤ n → (∀ i, i < n → lst l i = decide (i < s)) → cnt l n = n - s := by
  intro n
  induction n with
  | zero => intro h _; simp [cnt]
  | succ n ih =>
    intro h1 h2
    simp only [cnt, h2 n (Nat.lt_succ_self n)]
    by_cases e : s = n + 1
    · subst e
      have h3 : ∀ m, m ≤ n → cnt l m = 0 := by
        intro m
        induction m with
        | zero => intro _; rfl
        | succ m ihm => intro hm; simp only [cnt, h2 m (by omega), ihm (by omega)]; simp; omega
      simp [h3 n (Nat.le_refl n)]
    · rw [ih (by omega) (fun i hi => h2 i (by omega))]
      simp [show ¬ n < s by omega]
      omega

theorem cnt_none : ∀ n m, cnt (Array.replicate m false) n = n := by
  intro n m
  induction n with
  | zero => rfl
  | succ n ih =>
    simp only [cnt, ih]
    have : lst (Array.replicate m false) n = false := by
      unfold lst; simp only [Array.getD_eq_getD_getElem?, Array.getElem?_replicate]; split <;> rfl
    simp [this]

def vOf (ls : List (Leaf × Oper)) (vs : Nat → Value) (i : Nat) : Value := match ls[i]? with
  | none => undef
  | some (x, _) => x.get (vs i)

theorem actTo_size (ls : List (Leaf × Oper)) (vs : Nat → Value) (a : Act) : ∀ n, (actTo ls vs a n).tmps.size = a.tmps.size := by
  intro n
  induction n with
  | zero => rfl
  | succ n ih => simp only [actTo]; split <;> simp [put_size, ih]
theorem actTo_defers (ls : List (Leaf × Oper)) (vs : Nat → Value) (a : Act) : ∀ n, (actTo ls vs a n).defers = a.defers := by
  intro n
  induction n with
  | zero => rfl
  | succ n ih => simp only [actTo]; split <;> simp [put_defers, ih]

theorem actTo_slot {ops : Array Oper} (ls : List (Leaf × Oper)) (vs : Nat → Value) (a : Act) (hls : ∀ (i : Nat) (x : Leaf) (o : Oper), ls[i]? = some (x, o) → ops[i]? = some o) (hd : ∀ i t, dstOf ops i = some t → t < a.tmps.size) (t : Nat) :
    ∀ n, n ≤ ls.length → (actTo ls vs a n).tmps.getD t undef = lastV (fun i => dstOf ops i == some t) (vOf ls vs) (a.tmps.getD t undef) n := by
  intro n
  induction n with
  | zero => intro _; rfl
  | succ n ih =>
    intro hn
    have hg : ls[n]? = some ls[n] := List.getElem?_eq_getElem (by omega)
    simp only [actTo, lastV, hg]
    have ho := hls n ls[n].1 ls[n].2 hg
    have hdn : dstOf ops n = ls[n].2.dst := by simp [dstOf, ho]
    rw [put_getD _ _ _ _ (fun x hx => by rw [actTo_size]; exact hd n x (hdn.trans hx)), ih (by omega)]
    by_cases e : ls[n].2.dst = some t
    · simp [hdn, e, vOf, hg]
    · simp [hdn, e]

theorem looks_dst {ops : Array Oper} {o : Oper} {g : Nat} {want : Bool} (h : o.guard = some (g, want)) {t : Tmp} (ht : dstOf ops g = some t) : t ∈ o.looksAt ops := by
  unfold Oper.looksAt
  rw [h]
  unfold dstOf at ht
  simp [ht]

theorem getD_getElem? {a a' : Act} {t : Nat} (hs : a'.tmps.size = a.tmps.size) (h : a'.tmps.getD t undef = a.tmps.getD t undef) : a'.tmps[t]? = a.tmps[t]? := by
  simp only [Array.getD_eq_getD_getElem?] at h
  by_cases hlt : t < a.tmps.size
  · have hlt' : t < a'.tmps.size := by omega
    simp only [Array.getElem?_eq_getElem hlt, Array.getElem?_eq_getElem hlt', Option.getD_some] at h ⊢
    rw [h]
  · rw [Array.getElem?_eq_none (by omega), Array.getElem?_eq_none (by omega)]

/-- Two frames that agree on what an operation looks at. -/
theorem OpR.agree {P : Program} {ops : Array Oper} {o : Oper} {a a' : Act} {w : World} {K : Value → World → Prop} (hsel : ∀ cs b, o.op ≠ .select cs b) (hs : a'.tmps.size = a.tmps.size)
    (hag : ∀ t ∈ o.looksAt ops, a'.tmps.getD t undef = a.tmps.getD t undef) (h : OpR P ops o a w K) : OpR P ops o a' w K := by
  refine h.congr (execOp_congr o hsel fun x hx => ?_) ?_
  · cases x with
    | tmp t =>
      refine hag t ?_
      unfold Oper.looksAt
      refine List.mem_append.2 (.inl (List.mem_filterMap.2 ⟨.tmp t, Array.mem_toList_iff.2 hx, rfl⟩))
    | const v => rfl
    | global g => rfl
    | func f => rfl
  · unfold Region.wanted
    cases hg : o.guard with
    | none => rfl
    | some p =>
      obtain ⟨g, want⟩ := p
      simp only []
      congr 1
      unfold yielded
      cases hd : (ops[g]?).bind (·.dst) with
      | none => rfl
      | some t =>
        simp only [Option.bind_some]
        rw [getD_getElem? hs (hag t (looks_dst hg hd))]

section
variable {P : Program} {ops : Array Oper} {stp : Nat → (Act → World → Prop) → Act → World → Prop} {Qn : Act → World → Prop}

theorem any_phi {b : Array Nat} {ms : List Nat} {E : World → World → Prop} [hE : Rel E] {w1 : World} {R : Act → World → Prop} {full : List (Leaf × Oper)} {a0 : Act}
    (hmono : ∀ i (K K' : Act → World → Prop) a w, (∀ a w, K a w → K' a w) → stp i K a w → stp i K' a w)
    (hstep : ∀ (j : Nat) (o : Oper) a w K, ops[j]? = some o → (∀ c, o.op ≠ .defer c) → OpR P ops o a w K → stp j (fun a' w' => ∃ v, a' = a.put o.dst v ∧ K v w') a w)
    (hb : Region.before ops = b) (hok : phiOk ops b a0.tmps.size full.length = true) (hls : ∀ (i : Nat) (x : Leaf) (o : Oper), full[i]? = some (x, o) → ops[i]? = some o)
    (hms : ∀ (m : Nat) (x : Leaf) (o : Oper), full[m]? = some (x, o) → x.m = true → m ∈ ms)
    (hR : ∀ a w, R a w → seqG stp Qn (List.range' full.length (ops.size - full.length)) a w)
    (h : Owed P ops b ms E w1 R full 0 a0 []) : anyG ops stp Qn ops.size (Array.replicate ops.size false) a0 w1 := by
  obtain ⟨hk, hspec⟩ := phiOk_spec hok
  have hbef : ∀ j i, (bef ops j).testBit i = bit b j i := fun j i => by unfold bef bit; rw [hb]
  have hob := fun vs => owed_at (R := R) (a0 := a0) vs full.length 0 a0 [] (by omega) (by omega) h rfl (fun p hp => by cases hp)
  have hd : ∀ i t, dstOf ops i = some t → t < a0.tmps.size := by
    intro i t ht
    unfold dstOf at ht
    cases ho : ops[i]? with
    | none => rw [ho] at ht; cases ht
    | some o => rw [ho] at ht; exact (hspec i o ho).2.2.2.1 t ht
  suffices H : ∀ (n : Nat) (l : Array Bool) (a : Act) (w : World), cnt l ops.size ≤ n → l.size = ops.size → Closed ops l → (∀ i, full.length ≤ i → i < ops.size → lst l i = false) → E w1 w → a.tmps.size = a0.tmps.size → a.defers = a0.defers →
      (∃ vs : Nat → Value, (∀ i x o, full[i]? = some (x, o) → lst l i = true → (x.g = true → ∀ m ∈ ms, m ≠ i → lst l m = true → bit b i m = true) → x.says (x.at full vs a0 i) w) ∧
        ∀ t, a.tmps.getD t undef = lastV (fun i => lst l i && dstOf ops i == some t) (vOf full vs) (a0.tmps.getD t undef) full.length) → anyG ops stp Qn n l a w by
    refine H ops.size _ a0 w1 (by rw [cnt_none]; exact Nat.le_refl _) (by simp) ?_ ?_ (hE.refl _) rfl rfl ⟨fun _ => undef, ?_, ?_⟩
    · intro j hj
      exfalso
      unfold lst at hj
      simp only [Array.getD_eq_getD_getElem?, Array.getElem?_replicate] at hj
      split at hj <;> cases hj
    · intro i _ _
      unfold lst
      simp only [Array.getD_eq_getD_getElem?, Array.getElem?_replicate]
      split <;> rfl
    · intro i x o _ hj
      exfalso
      unfold lst at hj
      simp only [Array.getD_eq_getD_getElem?, Array.getElem?_replicate] at hj
      split at hj <;> cases hj
    · intro t
      rw [lastV_past (j := 0) _ (Nat.zero_le _)]
      · rfl
      · intro i _ _
        have : lst (Array.replicate ops.size false) i = false := by
          unfold lst; simp only [Array.getD_eq_getD_getElem?, Array.getElem?_replicate]; split <;> rfl
        simp [this]
  have hunl : ∀ (l : Array Bool) (m n : Nat), m < n → lst l m = false → 1 ≤ cnt l n := by
    intro l m n
    induction n with
    | zero => intro h; omega
    | succ n ih =>
      intro hm hf
      simp only [cnt]
      by_cases e : m = n
      · subst e; simp [hf]
      · have := ih (by omega) hf; omega
  have done : ∀ (n : Nat) (l : Array Bool) (a : Act) (w : World), cnt l ops.size ≤ n → l.size = ops.size → Closed ops l → (∀ i, full.length ≤ i → i < ops.size → lst l i = false) → E w1 w → a.tmps.size = a0.tmps.size → a.defers = a0.defers →
      (∃ vs : Nat → Value, (∀ (i : Nat) (x : Leaf) (o : Oper), full[i]? = some (x, o) → lst l i = true → (x.g = true → ∀ m ∈ ms, m ≠ i → lst l m = true → bit b i m = true) → x.says (x.at full vs a0 i) w) ∧
        ∀ t, a.tmps.getD t undef = lastV (fun i => lst l i && dstOf ops i == some t) (vOf full vs) (a0.tmps.getD t undef) full.length) →
      (∀ i, i < full.length → lst l i = true) → anyG ops stp Qn n l a w := by
    intro n l a w hn hl hc hpre hw hs hdf ⟨vs, hf, hslot⟩ hall
    have hlst : ∀ i, i < ops.size → lst l i = decide (i < full.length) := by
      intro i hi
      by_cases e : i < full.length
      · simp [hall i e, e]
      · simp [hpre i (by omega) hi, e]
    have hcnt := cnt_upto ops.size hk hlst
    refine any_forced (k := full.length) hmono (fun j o ho => (hspec j o ho).1) (fun j hj hlt i hi => ?_) n full.length l a w (Nat.le_refl _) (by omega) hk hl hc hlst (hR a w ?_)
    · rw [hbef]
      exact (hspec j ops[j] (by simp [hlt])).2.2.2.2.1 hj i hi
    · have hr := (hob vs).2 w hw fun q y o' hq he => by
        have hlt := (List.getElem?_eq_some_iff.1 hq).1
        refine hf q y o' hq (hall q hlt) fun hg m hm hne _ => ?_
        unfold atEnd at he
        simp only [hg, Bool.not_true, Bool.false_or, List.all_eq_true, Bool.or_eq_true] at he
        rcases he m hm with h1 | h1
        · exact absurd (by simpa using h1) hne
        · exact h1
      have hact : a = actTo full vs a0 full.length := by
        have htm : a.tmps = (actTo full vs a0 full.length).tmps := by
          refine Array.ext (by rw [hs, actTo_size]) fun i h1 h2 => ?_
          have e1 := hslot i
          rw [lastV_congr (q := fun q => dstOf ops q == some i) (U := vOf full vs) full.length (fun q hq => by simp [hall q hq]) (fun _ _ _ => rfl), ← actTo_slot full vs a0 hls hd i full.length (Nat.le_refl _)] at e1
          simpa [Array.getD_eq_getD_getElem?, h1, h2] using e1
        have hdd : a.defers = (actTo full vs a0 full.length).defers := by rw [hdf, actTo_defers]
        cases a
        simp only at htm hdd
        rw [htm, hdd]
      rw [hact]
      exact hr
  intro n
  induction n with
  | zero =>
    intro l a w hn hl hc hpre hw hs hdf hvs
    refine done 0 l a w hn hl hc hpre hw hs hdf hvs fun i hi => ?_
    cases e : lst l i with
    | true => rfl
    | false => have := hunl l i ops.size (by omega) e; omega
  | succ n ih =>
    intro l a w hn hl hc hpre hw hs hdf hvs
    by_cases hall : ∀ i, i < full.length → lst l i = true
    · exact done (n + 1) l a w hn hl hc hpre hw hs hdf hvs hall
    obtain ⟨vs, hf, hslot⟩ := hvs
    constructor
    · intro hnil
      exfalso
      apply hall
      intro i hi
      induction i using Nat.strongRecOn with
      | _ i ihi =>
        cases e : lst l i with
        | true => rfl
        | false =>
          have hlt : i < ops.size := by omega
          have : i ∈ Region.ready .any ops l := by
            unfold Region.ready
            simp only [List.mem_filter, List.mem_range, Bool.and_eq_true, Bool.not_eq_true']
            refine ⟨hlt, ?_, ?_⟩
            · unfold lst at e
              simp [Array.getD_eq_getD_getElem?, hl, hlt] at e ⊢; exact e
            · simp only [Array.getElem?_eq_getElem hlt, Option.map_some, Option.getD_some, Array.all_eq_true]
              intro q hq
              by_cases hb2 : Region.binds .any (ops[i].after[q]) = true
              · have h1 := (hspec i ops[i] (by simp [hlt])).1 _ (Array.getElem_mem hq) hb2
                have h2 := ihi _ h1 (by omega)
                unfold lst at h2
                simp [h2]
              · simp [hb2]
          rw [hnil] at this
          cases this
    · intro j hj
      obtain ⟨hlt, hun, o, ho, hedges⟩ := ready_spec hj
      have hjl : lst l j = false := by
        unfold lst; simp [Array.getD_eq_getD_getElem?, hl, hlt] at hun ⊢; exact hun
      have hjk : j < full.length := by
        rcases Nat.lt_or_ge j full.length with h1 | h1
        · exact h1
        · exfalso
          apply hall
          intro i hi
          refine ready_bef hc hj ?_
          rw [hbef]
          exact (hspec j o ho).2.2.2.2.1 h1 i (by omega)
      have hg : full[j]? = some full[j] := List.getElem?_eq_getElem hjk
      generalize hfj : full[j] = e at hg
      obtain ⟨x, o'⟩ := e
      have := hls j x o' hg
      rw [ho] at this
      cases this
      -- what lies ahead of j has been done; nothing that has been done lies behind j
      have hahead : ∀ i, bit b j i = true → lst l i = true := fun i hi => ready_bef hc hj (by rw [hbef]; exact hi)
      have hbehind : ∀ i, lst l i = true → bit b i j = false := fun i hi => by
        cases e : bit b i j with
        | false => rfl
        | true => have := hc i hi j (by rw [hbef]; exact e); rw [hjl] at this; cases this
      have hown : ∀ t, (o.dst = some t ∨ t ∈ o.looksAt ops) → ∀ i, i < ops.size → dstOf ops i = some t → i ≠ j → (lst l i = decide (i < j)) := by
        intro t ht i hi hdi hne
        have h1 := (hspec j o ho).2.2.2.2.2 t ht i hi hdi hne
        rcases Nat.lt_or_gt_of_ne hne with h2 | h2
        · rw [Nat.max_eq_right (Nat.le_of_lt h2), Nat.min_eq_left (Nat.le_of_lt h2)] at h1
          simp [hahead i h1, h2]
        · rw [Nat.max_eq_left (Nat.le_of_lt h2), Nat.min_eq_right (Nat.le_of_lt h2)] at h1
          have h3 : lst l i = false := by
            cases e : lst l i with
            | false => rfl
            | true => have := hbehind i e; rw [h1] at this; cases this
          simp [h3, show ¬ i < j by omega]
      have hagree : ∀ t ∈ o.looksAt ops, a.tmps.getD t undef = (actTo full vs a0 j).tmps.getD t undef := by
        intro t ht
        rw [hslot t, actTo_slot full vs a0 hls hd t j (Nat.le_of_lt hjk)]
        rw [lastV_congr (q := fun i => decide (i < j) && dstOf ops i == some t) (U := vOf full vs) full.length ?_ (fun _ _ _ => rfl)]
        · rw [lastV_past (j := j) full.length (Nat.le_of_lt hjk) (fun i hi _ => by simp [show ¬ i < j by omega])]
          exact lastV_congr j (fun i hi => by simp [hi]) (fun _ _ _ => rfl)
        · intro i hi
          cases e : (dstOf ops i == some t) with
          | false => simp
          | true =>
            by_cases hij : i = j
            · subst hij; simp [hjl]
            · rw [hown t (.inr ht) i (by omega) (by simpa using e) hij]
      obtain ⟨hlasts, hobl⟩ := (hob vs).1 j x o (Nat.zero_le _) hg
      have hrun := hobl w hw fun q y o' hq hyo hav => by
        unfold avail at hav
        simp only [Bool.and_eq_true, Bool.or_eq_true, Bool.not_eq_true', List.all_eq_true] at hav
        refine hf q y o' hyo (hahead q hav.1) fun hgq m hm hne hlm => ?_
        rcases hav.2 with h1 | h1
        · rw [hgq] at h1; cases h1
        · rcases h1 m hm with ((h2 | h2) | h2) | h2
          · exact absurd (by simpa using h2) hne
          · have : m = j := by simpa using h2
            subst this; rw [hjl] at hlm; cases hlm
          · exact h2
          · have := hbehind m hlm; rw [h2] at this; cases this
      refine hmono _ _ _ _ _ ?_ (hstep j o a w _ ho (hspec j o ho).2.2.1 (hrun.agree (hspec j o ho).2.1 (by rw [hs, actTo_size]) hagree))
      rintro a' w' ⟨v, rfl, hst⟩
      have hjl' : j < l.size := by omega
      have hext : E w w' := by
        cases x with
        | val c => exact hE.of0 hst.2
        | ref g m Φ => exact ext_ite hst.2
        | lay t Φ => exact hst.2
      refine ih _ _ _ ?_ (by simpa using hl) (closed_set hjl' hc hj) ?_ (hE.trans hw hext) (by rw [put_size]; exact hs) (by rw [put_defers]; exact hdf) ⟨fun i => if i = j then v else vs i, ?_, ?_⟩
      · have := cnt_set hjl' hjl ops.size
        rw [if_pos hlt] at this
        omega
      · intro i h1 h2
        rw [lst_set hjl', hpre i h1 h2]
        simp; omega
      · intro i y oy hy hli hcond
        rw [lst_set hjl'] at hli
        by_cases hij : i = j
        · subst hij
          rw [hg] at hy
          cases hy
          cases x with
          | val c => exact trivial
          | ref g m Φ => simpa [Leaf.says, Leaf.at] using hst.1
          | lay t Φ =>
            have h1 := hst.1
            simp only [Leaf.at] at h1
            simp only [Leaf.says, Leaf.at]
            rw [actTo_congr full (fun q => if q = i then v else vs q) vs a0 i (fun q hq => by simp [show ¬ q = i by omega])]
            exact h1
        · have hli' : lst l i = true := by
            have : ¬ j = i := fun e => hij e.symm
            simpa [this] using hli
          -- may j have turned what i left?
          have hmut : x.m = true → y.g = false := by
            intro hm
            cases hg2 : y.g with
            | false => rfl
            | true =>
              have h1 := hcond hg2 j (hms j x o hg hm) (fun e => hij e.symm) (by rw [lst_set hjl']; simp)
              rw [hbehind i hli'] at h1
              cases h1
          have hold : y.says (y.at full vs a0 i) w := hf i y oy hy hli' fun hg2 m hm hne hlm => hcond hg2 m hm hne (by rw [lst_set hjl']; simp [hlm])
          have hl3 := ((hob vs).1 i y oy (Nat.zero_le _) hy).1
          have hl2 := hl3.1
          have hfit := hl3.2
          have hat : y.at full (fun q => if q = j then v else vs q) a0 i = y.at full vs a0 i := by
            cases y with
            | val c => simp only [Leaf.at, hij, if_false]
            | ref g m Φ => simp only [Leaf.at, hij, if_false]
            | lay t Φ =>
              simp only [Leaf.at]
              have hik : i < full.length := (List.getElem?_eq_some_iff.1 hy).1
              rw [actTo_slot full _ a0 hls hd t i (Nat.le_of_lt hik), actTo_slot full vs a0 hls hd t i (Nat.le_of_lt hik)]
              refine lastV_congr i (fun q hq => rfl) fun q hq hp => ?_
              have hqj : q ≠ j := by
                intro e
                subst e
                have h1 := (hspec i oy (hls i _ oy hy)).2.2.2.2.2 t (.inr hfit.2) q hlt (by simpa using hp) (by omega)
                rw [Nat.max_eq_right (Nat.le_of_lt hq), Nat.min_eq_left (Nat.le_of_lt hq)] at h1
                have := hc i hli' q (by rw [hbef]; exact h1)
                rw [hjl] at this; cases this
              unfold vOf
              cases full[q]? with
              | none => rfl
              | some p => simp [hqj]
          rw [hat]
          cases y with
          | val c => exact trivial
          | ref g m Φ =>
            refine hl2 _ _ _ hold ?_
            cases x with
            | val c => cases g <;> first | exact hE.of0 hst.2 | exact hst.2
            | ref g' m' Φ' =>
              cases m' with
              | false => have := hst.2; cases g <;> first | exact hE.of0 (by simpa using this) | simpa using this
              | true => have h3 := hmut rfl; simp only [Leaf.g] at h3; subst h3; have := hst.2; simpa using this
            | lay t' Φ' => have h3 := hmut rfl; simp only [Leaf.g] at h3; subst h3; have := hst.2; simpa using this
          | lay t Φ =>
            refine hl2 _ _ _ hold ?_
            cases x with
            | val c => exact hE.of0 hst.2
            | ref g' m' Φ' => exact ext_ite hst.2
            | lay t' Φ' => exact hst.2
      · intro t
        have hvof : ∀ i, i ≠ j → vOf full (fun i => if i = j then v else vs i) i = vOf full vs i := by
          intro i hi
          unfold vOf
          cases full[i]? with
          | none => rfl
          | some p => simp [hi]
        have hdj : dstOf ops j = o.dst := by simp [dstOf, ho]
        rw [put_getD _ _ _ _ (fun y hy => by rw [hs]; exact hd j y (hdj.trans hy))]
        by_cases hdt : o.dst = some t
        · rw [if_pos hdt]
          rw [lastV_top (j := j) full.length hjk (by simp [lst_set hjl', hdj, hdt]) ?_]
          · unfold vOf
            rw [hg]
            simp only [if_true]
            exact (stepOf.get hst).symm
          · intro i h1 h2
            cases e : (dstOf ops i == some t) with
            | false => simp
            | true =>
              have h3 := hown t (.inl hdt) i (by omega) (by simpa using e) (by omega)
              rw [lst_set hjl', h3]
              simp; omega
        · rw [if_neg hdt, hslot t]
          refine lastV_congr full.length (fun i hi => ?_) (fun i hi hp => ?_)
          · by_cases hij : i = j
            · have h5 : (dstOf ops i == some t) = false := by
                subst hij; rw [hdj]; exact beq_eq_false_iff_ne.2 hdt
              show (lst l i && (dstOf ops i == some t)) = (lst (l.setIfInBounds j true) i && (dstOf ops i == some t))
              rw [h5, Bool.and_false, Bool.and_false]
            · rw [lst_set hjl']; simp [show ¬ j = i from fun e => hij e.symm]
          · by_cases hij : i = j
            · subst hij; rw [hjl] at hp; simp at hp
            · exact (hvof i hij).symm
end

theorem wpAny_anyG {P : Program} {ops : Array Oper} {Q : Exit → Act → World → Prop} : ∀ n l a w, anyG ops (Go.wpOp P ops Q) (Q .normal) n l a w → wpAny P .any ops Q n l a w := by
  intro n
  induction n with
  | zero => intro l a w h; exact h
  | succ n ih => intro l a w h; exact ⟨h.1, fun i hi => wpOp_mono (fun a w h => ih _ a w h) (h.2 i hi)⟩
theorem wpAnyIn_anyG {F : Fence} {m : Nat} {P : Program} {ops : Array Oper} {Q : Exit → Act → World → Prop} : ∀ n l a w, anyG ops (Go.wpOpIn F m P ops Q) (Q .normal) n l a w → wpAnyIn F m P .any ops Q n l a w := by
  intro n
  induction n with
  | zero => intro l a w h; exact h
  | succ n ih => intro l a w h; exact ⟨h.1, fun i hi => wpOpIn_mono (fun a w h => ih _ a w h) (h.2 i hi)⟩
theorem seqG_ops {P : Program} {ops : Array Oper} {Q : Exit → Act → World → Prop} : ∀ l a w, wpOps P ops Q l a w → seqG (Go.wpOp P ops Q) (Q .normal) l a w := by
  intro l
  induction l with
  | nil => intro a w h; exact h
  | cons i l ih => intro a w h; rw [wpOps_cons] at h; exact wpOp_mono ih h
theorem seqG_opsIn {F : Fence} {m : Nat} {P : Program} {ops : Array Oper} {Q : Exit → Act → World → Prop} : ∀ l a w, wpOpsIn F m P ops Q l a w → seqG (Go.wpOpIn F m P ops Q) (Q .normal) l a w := by
  intro l
  induction l with
  | nil => intro a w h; exact h
  | cons i l ih => intro a w h; rw [wpOpsIn_cons] at h; exact wpOpIn_mono ih h

theorem zip_get {α β : Type} {xs : List α} {ys : List β} {i : Nat} {x : α} {y : β} (h : (xs.zip ys)[i]? = some (x, y)) : xs[i]? = some x ∧ ys[i]? = some y := by
  rw [List.getElem?_zip_eq_some] at h
  exact h

theorem ms_spec {full : List (Leaf × Oper)} {ms : List Nat} (h : msOf full = ms) (m : Nat) (x : Leaf) (o : Oper) (hx : full[m]? = some (x, o)) (hm : x.m = true) : m ∈ ms := by
  subst h
  unfold msOf
  refine List.mem_filter.2 ⟨List.mem_range.2 (List.getElem?_eq_some_iff.1 hx).1, ?_⟩
  rw [hx]
  simpa using hm

/-- What stands behind the first k operations. -/
def Tail (P : Program) (ops : Array Oper) (Q : Exit → Act → World → Prop) (k : Nat) (a : Act) (w : World) : Prop := wpList P ops Q (ops.toList.drop k) a w
def TailIn (l : Option Nat) (n : Nat) (P : Program) (ops : Array Oper) (Q : Exit → Act → World → Prop) (k : Nat) (a : Act) (w : World) : Prop := wpListIn { Fence.wide with round := l } n P ops Q (ops.toList.drop k) a w

/-- A region that draws its order: what its operations leave is told by 'leaves'; what stands behind those is forced, and walked as it stands. -/
theorem region_phi {P : Program} {id : Nat} {l : List Oper} {Q : Exit → Act → World → Prop} {a : Act} {w : World} (leaves : List Leaf) (k : Nat) (b : Array Nat) (ms : List Nat) (E : World → World → Prop) [hE : Rel E]
    (hm : P.follows .mixedOrders = true) (hb : Region.before l.toArray = b) (hlen : leaves.length = k) (hok : phiOk l.toArray b a.tmps.size k = true) (hms : msOf (leaves.zip l) = ms)
    (h : Owed P l.toArray b ms E w.drew (Tail P l.toArray Q k) (leaves.zip l) 0 a []) : (Code.region id l.toArray true).wp P Q a w := by
  subst hlen
  have hlen := (phiOk_spec hok).1
  have hl : (leaves.zip l).length = leaves.length := by simp at hlen; simp [hlen]
  refine wp_region_any hm (wpAny_anyG _ _ _ _ (any_phi (full := leaves.zip l) (fun i K K' a w hk hh => wpOp_mono hk hh) (fun j o a w K ho _ hr => hr.wpOp ho) hb (by rw [hl]; exact hok) (fun i x o hx => ?_) (ms_spec hms) (fun a w hr => ?_) h))
  · have := (zip_get hx).2
    simpa using this
  · rw [hl]
    refine seqG_ops _ _ _ ?_
    have e := wpOps_eq_wpList (P := P) (ops := l.toArray) (Q := Q) (l.drop leaves.length) leaves.length (fun j => by simp)
    rw [List.length_drop] at e
    have e2 : l.length = l.toArray.size := by simp
    rw [e2] at e
    rw [e]
    exact hr

theorem region_phiIn {P : Program} {id : Nat} {l : List Oper} {Q : Exit → Act → World → Prop} {a : Act} {w : World} {ro : Option Nat} {n : Nat} (leaves : List Leaf) (k : Nat) (b : Array Nat) (ms : List Nat) (E : World → World → Prop) [hE : Rel E]
    (hm : P.follows .mixedOrders = true) (hb : Region.before l.toArray = b) (hlen : leaves.length = k) (hok : phiOk l.toArray b a.tmps.size k = true) (hms : msOf (leaves.zip l) = ms)
    (h : Owed P l.toArray b ms E w.drew (TailIn ro n P l.toArray Q k) (leaves.zip l) 0 a []) : (Code.region id l.toArray true).wpIn { Fence.wide with round := ro } n P Q a w := by
  subst hlen
  have hlen := (phiOk_spec hok).1
  have hl : (leaves.zip l).length = leaves.length := by simp at hlen; simp [hlen]
  refine wpIn_region_any hm (wpAnyIn_anyG _ _ _ _ (any_phi (full := leaves.zip l) (fun i K K' a w hk hh => wpOpIn_mono hk hh) (fun j o a w K ho hd hr => hr.wpOpIn ro n hd ho) hb (by rw [hl]; exact hok) (fun i x o hx => ?_) (ms_spec hms) (fun a w hr => ?_) h))
  · have := (zip_get hx).2
    simpa using this
  · rw [hl]
    refine seqG_opsIn _ _ _ ?_
    have e := wpOpsIn_eq_wpListIn (F := { Fence.wide with round := ro }) (n := n) (P := P) (ops := l.toArray) (Q := Q) (l.drop leaves.length) leaves.length (fun j => by simp)
    rw [List.length_drop] at e
    have e2 : l.length = l.toArray.size := by simp
    rw [e2] at e
    rw [e]
    exact hr

section
variable {P : Program} {ops : Array Oper} {b : Array Nat} {ms : List Nat} {E : World → World → Prop} [hE : Rel E] {w1 : World} {R : Act → World → Prop} {o : Oper} {ls : List Leaf} {os : List Oper} {j : Nat} {a a' : Act} {facts : List (Nat × Bool × (World → Prop))}

/-- An operation that leaves a known value. -/
theorem owed_val {c : Value} (h1 : ∀ w, E w1 w → (∀ p ∈ facts, avail b ms p.1 p.2.1 j = true → p.2.2 w) → OpR P ops o a w fun v w' => v = c ∧ Ext G0 w w') (ha : a.put o.dst c = a')
    (h2 : Owed P ops b ms E w1 R (ls.zip os) (j + 1) a' facts) : Owed P ops b ms E w1 R ((Leaf.val c :: ls).zip (o :: os)) j a facts := ⟨h1, ha ▸ h2⟩
/-- An operation that leaves a value of which something holds. -/
theorem owed_ref {g m : Bool} {Φ : Value → World → Prop} (h0 : ∀ v w w', Φ v w → (if g then Ext G0 else E) w w' → Φ v w')
    (h1 : ∀ w, E w1 w → (∀ p ∈ facts, avail b ms p.1 p.2.1 j = true → p.2.2 w) → OpR P ops o a w fun v w' => Φ v w' ∧ (if m then E else Ext G0) w w')
    (h2 : ∀ v, Owed P ops b ms E w1 R (ls.zip os) (j + 1) (a.put o.dst v) ((j, g, Φ v) :: facts)) : Owed P ops b ms E w1 R ((Leaf.ref g m Φ :: ls).zip (o :: os)) j a facts := ⟨h0, h1, h2⟩
theorem owed_end (h : ∀ w, E w1 w → (∀ p ∈ facts, atEnd b ms p.1 p.2.1 = true → p.2.2 w) → R a w) : Owed P ops b ms E w1 R (([] : List Leaf).zip os) j a facts := by
  cases os <;> exact h
end

/-- An operation without a guard that runs to a value and turns nothing. -/
theorem opR_run {P : Program} {ops : Array Oper} {o : Oper} {a : Act} {w : World} {K : Value → World → Prop} {v : Value} {w' : World} (hg : o.guard = none) (hr : (execOp a.eval o).run P w = .ok (.value v) w') (hk : K v w') : OpR P ops o a w K := by
  unfold OpR
  rw [if_pos (by simp [Region.wanted, hg]), hr]
  exact hk
theorem opR_skip {P : Program} {ops : Array Oper} {o : Oper} {a : Act} {w : World} {K : Value → World → Prop} {w' : World} (hg : o.guard = none) (hr : (execOp a.eval o).run P w = .ok .skip w') (hk : K undef w') : OpR P ops o a w K := by
  unfold OpR
  rw [if_pos (by simp [Region.wanted, hg]), hr]
  exact hk
theorem opR_call {P : Program} {ops : Array Oper} {o : Oper} {a : Act} {w : World} {K : Value → World → Prop} {f : FuncId} {args : Array Value} {w' : World} (hg : o.guard = none) (hr : (execOp a.eval o).run P w = .ok (.enter f args) w')
    (hk : Calls P f args w' fun e w'' => ∃ v, e = .returned v ∧ K v w'') : OpR P ops o a w K := by
  unfold OpR
  rw [if_pos (by simp [Region.wanted, hg]), hr]
  exact hk

section
variable {P : Program} {ops : Array Oper} {b : Array Nat} {ms : List Nat} {E : World → World → Prop} [hE : Rel E] {w1 : World} {R : Act → World → Prop} {o : Oper} {ls : List Leaf} {os : List Oper} {j : Nat} {a a' : Act} {facts : List (Nat × Bool × (World → Prop))}
/-- An operation that runs to a value, whatever the others have made, and turns nothing. -/
theorem owed_det {c : Value} (hg : o.guard = none) (hr : ∀ w, E w1 w → (∀ p ∈ facts, avail b ms p.1 p.2.1 j = true → p.2.2 w) → (execOp a.eval o).run P w = .ok (.value c) w) (ha : a.put o.dst c = a')
    (h2 : Owed P ops b ms E w1 R (ls.zip os) (j + 1) a' facts) : Owed P ops b ms E w1 R ((Leaf.val c :: ls).zip (o :: os)) j a facts :=
  owed_val (fun w hw hf => opR_run hg (hr w hw hf) ⟨rfl, Ext.refl _ _⟩) ha h2
theorem opR_of_wanted {w : World} {K : Value → World → Prop} (hg : Region.wanted o (yielded ops a.tmps) = true) (h : ∀ r, (execOp a.eval o).run P w = r → match r with
    | .ok (.value v) w' => K v w'
    | .ok .skip w' => K undef w'
    | .ok (.enter f args) w' => Calls P f args w' fun e w'' => ∃ v, e = .returned v ∧ K v w''
    | .ok (.row row args) w' => Rows P row args w' fun v w'' => K v w''
    | _ => False) : OpR P ops o a w K := by
  unfold OpR
  rw [if_pos hg]
  have := h _ rfl
  exact this
/-- The same, behind a guard that holds. -/
theorem owed_det_g {c : Value} (hg : Region.wanted o (yielded ops a.tmps) = true) (hr : ∀ w, E w1 w → (∀ p ∈ facts, avail b ms p.1 p.2.1 j = true → p.2.2 w) → (execOp a.eval o).run P w = .ok (.value c) w) (ha : a.put o.dst c = a')
    (h2 : Owed P ops b ms E w1 R (ls.zip os) (j + 1) a' facts) : Owed P ops b ms E w1 R ((Leaf.val c :: ls).zip (o :: os)) j a facts :=
  owed_val (fun w hw hf => opR_of_wanted hg fun r h => by rw [← h, hr w hw hf]; exact ⟨rfl, Ext.refl _ _⟩) ha h2
/-- An operation behind a guard that doesn't hold. -/
theorem owed_skip (hg : Region.wanted o (yielded ops a.tmps) = false) (ha : a.put o.dst undef = a')
    (h2 : Owed P ops b ms E w1 R (ls.zip os) (j + 1) a' facts) : Owed P ops b ms E w1 R ((Leaf.val undef :: ls).zip (o :: os)) j a facts :=
  owed_val (fun w _ _ => by unfold OpR; rw [hg]; exact ⟨rfl, Ext.refl _ _⟩) ha h2
/-- A call that leaves a known value. -/
theorem owed_call {c : Value} {f : FuncId} {args : Array Value} (hg : Region.wanted o (yielded ops a.tmps) = true) (hr : ∀ w, E w1 w → (∀ p ∈ facts, avail b ms p.1 p.2.1 j = true → p.2.2 w) → (execOp a.eval o).run P w = .ok (.enter f args) w)
    (hc : ∀ w, E w1 w → (∀ p ∈ facts, avail b ms p.1 p.2.1 j = true → p.2.2 w) → Calls P f args w fun e w' => e = .returned c ∧ Ext G0 w w') (ha : a.put o.dst c = a')
    (h2 : Owed P ops b ms E w1 R (ls.zip os) (j + 1) a' facts) : Owed P ops b ms E w1 R ((Leaf.val c :: ls).zip (o :: os)) j a facts :=
  owed_val (fun w hw hf => opR_of_wanted hg fun r h => by rw [← h, hr w hw hf]; exact (hc w hw hf).mono fun e w' ⟨he, hx⟩ => ⟨c, he, rfl, hx⟩) ha h2
/-- A call that leaves something of which Φ holds. -/
theorem owed_call_ref {g m : Bool} {Φ : Value → World → Prop} {f : FuncId} {args : Array Value} (h0 : ∀ v w w', Φ v w → (if g then Ext G0 else E) w w' → Φ v w') (hg : Region.wanted o (yielded ops a.tmps) = true)
    (hr : ∀ w, E w1 w → (∀ p ∈ facts, avail b ms p.1 p.2.1 j = true → p.2.2 w) → (execOp a.eval o).run P w = .ok (.enter f args) w)
    (hc : ∀ w, E w1 w → (∀ p ∈ facts, avail b ms p.1 p.2.1 j = true → p.2.2 w) → Calls P f args w fun e w' => ∃ v, e = .returned v ∧ Φ v w' ∧ (if m then E else Ext G0) w w')
    (h2 : ∀ v, Owed P ops b ms E w1 R (ls.zip os) (j + 1) (a.put o.dst v) ((j, g, Φ v) :: facts)) : Owed P ops b ms E w1 R ((Leaf.ref g m Φ :: ls).zip (o :: os)) j a facts :=
  owed_ref h0 (fun w hw hf => opR_of_wanted hg fun r h => by rw [← h, hr w hw hf]; exact hc w hw hf) h2
/-- An operation that makes memory, and leaves something of which Φ holds. -/
theorem owed_new {g m : Bool} {Φ : Value → World → Prop} {val : World → Value} {wo : World → World} (h0 : ∀ v w w', Φ v w → (if g then Ext G0 else E) w w' → Φ v w') (hg : Region.wanted o (yielded ops a.tmps) = true)
    (hr : ∀ w, E w1 w → (∀ p ∈ facts, avail b ms p.1 p.2.1 j = true → p.2.2 w) → (execOp a.eval o).run P w = .ok (.value (val w)) (wo w))
    (hc : ∀ w, E w1 w → (∀ p ∈ facts, avail b ms p.1 p.2.1 j = true → p.2.2 w) → Φ (val w) (wo w) ∧ (if m then E else Ext G0) w (wo w))
    (h2 : ∀ v, Owed P ops b ms E w1 R (ls.zip os) (j + 1) (a.put o.dst v) ((j, g, Φ v) :: facts)) : Owed P ops b ms E w1 R ((Leaf.ref g m Φ :: ls).zip (o :: os)) j a facts :=
  owed_ref h0 (fun w hw hf => opR_of_wanted hg fun r h => by rw [← h, hr w hw hf]; exact hc w hw hf) h2
end

/-! ### The same, each operation walked by the walk's own words -/

def ValPost (d : Tmp) (c : Value) (a : Act) (w : World) : Exit → Act → World → Prop
  | .normal, a2, w2 => a2.tmps.getD d undef = c ∧ a2.defers = a.defers ∧ Ext G0 w w2
  | _, _, _ => False
def RefPost (a : Act) (d : Tmp) (m : Bool) (E : World → World → Prop) (Φ : Value → World → Prop) (w : World) : Exit → Act → World → Prop
  | .normal, a2, w2 => a2.defers = a.defers ∧ Φ (a2.tmps.getD d undef) w2 ∧ (if m then E else Ext G0) w w2
  | _, _, _ => False

theorem opR_of_list {P : Program} {ops : Array Oper} {o : Oper} {a : Act} {w : World} {Q : Exit → Act → World → Prop} {K : Value → World → Prop}
    (hQ : ∀ e a w, Q e a w → e = .normal) (hk : ∀ v w, Q .normal (a.put o.dst v) w → K v w) (hdf : ∀ a2 w2, Q .normal a2 w2 → a2.defers = a.defers) (h : wpList P ops Q [o] a w) : OpR P ops o a w K := by
  have hout : ¬ LetsOut Q := fun ⟨a, w, hx⟩ => by have := hQ _ _ _ hx; cases this
  unfold OpR
  simp only [wpList] at h
  split
  · rename_i hw
    rw [if_pos hw] at h
    rcases h with h | ⟨_, h⟩
    · unfold Oper.wp at h
      generalize (execOp a.eval o).run P w = r at h
      cases r with
      | ok x w' =>
        cases x with
        | value v => exact hk _ _ h
        | skip => exact hk _ _ h
        | enter f args =>
          rw [Oper.upon_enter] at h
          refine h.mono fun e w'' he => ?_
          cases e with
          | returned v => exact ⟨v, rfl, hk _ _ he⟩
          | panicked c => have := hQ _ _ _ he; cases this
          | outgrown => exact (hout he).elim
        | defer d =>
          have h1 := hdf _ _ h
          rw [put_defers] at h1
          exact absurd (congrArg List.length h1) (by simp)
        | row r args => rw [Oper.upon_row] at h; exact h.mono fun v w'' he => hk _ _ he
        | _ => exact h
      | halt x w' =>
        cases x with
        | panic v => have := hQ _ _ _ h; cases this
        | _ => exact h
    · exact (hout h).elim
  · rename_i hw
    rw [if_neg hw] at h
    exact hk _ _ h

section
variable {P : Program} {ops : Array Oper} {b : Array Nat} {ms : List Nat} {E : World → World → Prop} [hE : Rel E] {w1 : World} {R : Act → World → Prop} {o : Oper} {ls : List Leaf} {os : List Oper} {j : Nat} {a a' : Act} {facts : List (Nat × Bool × (World → Prop))} {d : Tmp}

theorem getD_put (a : Act) (d : Tmp) (v : Value) (h : d < a.tmps.size) : (a.put (some d) v).tmps.getD d undef = v := by
  rw [put_getD _ _ _ _ (fun x hx => by cases hx; exact h)]
  simp

/-- An operation that leaves a known value: walked. -/
theorem owed_walk {c : Value} (hd : o.dst = some d) (hr : ∀ w, E w1 w → (∀ p ∈ facts, avail b ms p.1 p.2.1 j = true → p.2.2 w) → wpList P ops (ValPost d c a w) [o] a w) (hsz : d < a.tmps.size) (ha : a.put (some d) c = a')
    (h2 : Owed P ops b ms E w1 R (ls.zip os) (j + 1) a' facts) : Owed P ops b ms E w1 R ((Leaf.val c :: ls).zip (o :: os)) j a facts := by
  refine owed_val (fun w hw hf => ?_) (by rw [hd]; exact ha) h2
  refine opR_of_list (fun e a w h => by cases e <;> first | rfl | exact h.elim) (fun v w2 h => ?_) (fun a2 w2 h => h.2.1) (hr w hw hf)
  have h1 := h.1
  rw [hd, getD_put _ _ _ hsz] at h1
  exact ⟨h1, h.2.2⟩

/-- An operation that leaves something of which Φ holds: walked. -/
theorem owed_walk_ref {g m : Bool} {Φ : Value → World → Prop} (hd : o.dst = some d) (h0 : ∀ v w w', Φ v w → (if g then Ext G0 else E) w w' → Φ v w')
    (hr : ∀ w, E w1 w → (∀ p ∈ facts, avail b ms p.1 p.2.1 j = true → p.2.2 w) → wpList P ops (RefPost a d m E Φ w) [o] a w) (hsz : d < a.tmps.size) {av : Value → Act} (ha : ∀ v, a.put (some d) v = av v)
    (h2 : ∀ v, Owed P ops b ms E w1 R (ls.zip os) (j + 1) (av v) ((j, g, Φ v) :: facts)) : Owed P ops b ms E w1 R ((Leaf.ref g m Φ :: ls).zip (o :: os)) j a facts := by
  refine owed_ref h0 (fun w hw hf => ?_) (by rw [hd]; exact fun v => by rw [ha v]; exact h2 v)
  refine opR_of_list (fun e a w h => by cases e <;> first | rfl | exact h.elim) (fun v w2 h => ?_) (fun a2 w2 h => ?_) (hr w hw hf)
  · rw [hd] at h
    have := h.2
    rw [getD_put _ _ _ hsz] at this
    exact this
  · exact h.1

/-- An operation without a result that turns what E lets turn (a map's entry is laid). -/
theorem owed_lay {t : Tmp} {Φ : Value → World → Prop} {c : Value} (hc : a.tmps.getD t undef = c) (hd : o.dst = none) (hg : o.guard = none) (hl : t ∈ o.looksAt ops) (h0 : ∀ v w w', Φ v w → E w w' → Φ v w')
    (hr : ∀ w, E w1 w → (∀ p ∈ facts, avail b ms p.1 p.2.1 j = true → p.2.2 w) → ∃ w', (execOp a.eval o).run P w = .ok .skip w' ∧ Φ c w' ∧ E w w')
    (h2 : Owed P ops b ms E w1 R (ls.zip os) (j + 1) a ((j, false, Φ c) :: facts)) : Owed P ops b ms E w1 R ((Leaf.lay t Φ :: ls).zip (o :: os)) j a facts := by
  subst hc
  refine ⟨⟨hd, hl⟩, h0, fun w hw hf => ?_, h2⟩
  obtain ⟨w', hrun, h1, h3⟩ := hr w hw hf
  unfold OpR
  rw [if_pos (by unfold Region.wanted; rw [hg]), hrun]
  exact ⟨h1, h3⟩

end

/-- Nothing stands behind them. -/
theorem Tail.nil {P : Program} {ops : Array Oper} {Q : Exit → Act → World → Prop} {k : Nat} {a : Act} {w : World} (h : ops.toList.drop k = []) (hq : Q .normal a w) : Tail P ops Q k a w := by
  unfold Tail; rw [h]; exact hq
theorem TailIn.nil {l : Option Nat} {n : Nat} {P : Program} {ops : Array Oper} {Q : Exit → Act → World → Prop} {k : Nat} {a : Act} {w : World} (h : ops.toList.drop k = []) (hq : Q .normal a w) : TailIn l n P ops Q k a w := by
  unfold TailIn; rw [h]; exact hq

end Go.Proofs.Ytejialnbelleeaa
