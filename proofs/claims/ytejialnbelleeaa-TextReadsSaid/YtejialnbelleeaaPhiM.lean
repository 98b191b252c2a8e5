/-
  The rule for regions that draw, where an operation turns what was there: ahead of all that turns something the world is as it was. Printed by wip/tools/mk_phim.py.
-/
import Derived.Test.YtejialnbelleeaaTxtB
namespace Go.Proofs.Ytejialnbelleeaa
open Go Go.RowKit
set_option linter.unusedVariables false
set_option linter.unusedSectionVars false

/-- Does whatever turns something stand behind j (or is it j)? -/
def soon (b : Array Nat) (ms : List Nat) (j : Nat) : Bool := ms.all fun m => m == j || bit b m j
def StPost (a : Act) (m : Bool) (E : World → World → Prop) (Φ : World → Prop) (w : World) : Exit → Act → World → Prop
  | .normal, a2, w2 => a2.defers = a.defers ∧ Φ w2 ∧ (if m then E else Ext G0) w w2
  | _, _, _ => False
theorem ext_heapG2 {g b : Nat} {w w' : World} (h : Ext (G2 g b) w.drew w') {k : Nat} {o : Obj} (hk : w.heap[k]? = some o) (hne : k ≠ g) (hne2 : k ≠ b) : w'.heap[k]? = some o := ext_heapD h hk (fun e => e.elim hne hne2)
theorem ext_heapG {g : Nat} {w w' : World} (h : Ext (G1 g) w.drew w') {k : Nat} {o : Obj} (hk : w.heap[k]? = some o) (hne : k ≠ g) : w'.heap[k]? = some o := ext_heapD h hk hne
/-- New blocks may be turned; what holds 'fin' goes on to hold it. -/
structure EF (n : Nat) (fin : Obj) (w w' : World) : Prop where
  ext : Ext (fun k => n ≤ k) w w'
  keep : ∀ q : Nat, w.heap[q]? = some fin → w'.heap[q]? = some fin
instance relEF (n : Nat) (fin : Obj) : Rel (EF n fin) := ⟨fun w => ⟨Ext.refl _ w, fun _ h => h⟩, fun h k => ⟨h.ext.trans k.ext, fun q x => k.keep q (h.keep q x)⟩, fun h => ⟨h.up _, fun q x => ext_heap h x (fun y => y)⟩⟩
theorem ext_heapF {n : Nat} {fin : Obj} {w w' : World} (h : EF n fin w.drew w') {k : Nat} {o : Obj} (hk : w.heap[k]? = some o) (hne : ¬ n ≤ k) : w'.heap[k]? = some o := ext_heapD h.ext hk hne
/-- A new block holds o. -/
def NewAt (n : Nat) (o : Obj) (v : Value) (w : World) : Prop := ∃ q, v = .pointer (some ⟨q, 0, none⟩) ∧ n ≤ q ∧ w.heap[q]? = some o
theorem NewAt.ext {n : Nat} {o : Obj} {v : Value} {w w' : World} (h : NewAt n o v w) (hx : Ext G0 w w') : NewAt n o v w' := by
  obtain ⟨q, h1, h2, h3⟩ := h
  exact ⟨q, h1, h2, ext_heap hx h3 (fun x => x)⟩
theorem NewAt.keep {n : Nat} {o : Obj} {v : Value} {w w' : World} (h : NewAt n o v w) (hx : EF n o w w') : NewAt n o v w' := by
  obtain ⟨q, h1, h2, h3⟩ := h
  exact ⟨q, h1, h2, hx.keep q h3⟩
theorem EF.set3 {n q : Nat} {w : World} {t : TypeId} {a b c x y z : Value} (hq : n ≤ q) (h : w.heap[q]? = some (.cells #[a, b, c] t (0, 0))) :
    EF n (.cells #[x, y, z] t (0, 0)) w (((w.setCell ⟨q, 0, none⟩ x).setCell ⟨q, 1, none⟩ y).setCell ⟨q, 2, none⟩ z) := by
  refine ⟨(((Ext.refl _ _).setCell (.inl hq) _).setCell (.inl hq) _).setCell (.inl hq) _, fun k hk => ?_⟩
  by_cases e : k = q
  · subst e; exact blk_set (blk_set (blk_set h 0 _) 1 _) 2 _
  · rw [Below.heap_setCell _ _ _ _ e, Below.heap_setCell _ _ _ _ e, Below.heap_setCell _ _ _ _ e]; exact hk
instance relOf (G : Nat → Prop) : Rel (Ext G) := ⟨Ext.refl _, Ext.trans, fun h => h.up G⟩

/-- What is owed, operation by operation, in the order of the text. -/
def OwedM (P : Program) (ops : Array Oper) (b : Array Nat) (ms : List Nat) (E : World → World → Prop) (w1 : World) (R : Act → World → Prop) :
    List (Leaf × Oper) → Nat → Act → List (Nat × Bool × (World → Prop)) → Prop
  | [], _, a, facts => ∀ w, E w1 w → (∀ p ∈ facts, atEnd b ms p.1 p.2.1 = true → p.2.2 w) → R a w
  | (.val c, o) :: rest, j, a, facts =>
    (∀ w, E w1 w → (soon b ms j = true → Ext G0 w1 w) → (∀ p ∈ facts, avail b ms p.1 p.2.1 j = true → p.2.2 w) → OpR P ops o a w fun v w' => v = c ∧ Ext G0 w w') ∧
      OwedM P ops b ms E w1 R rest (j + 1) (a.put o.dst c) facts
  | (.ref g m Φ, o) :: rest, j, a, facts =>
    (∀ v w w', Φ v w → (if g then Ext G0 else E) w w' → Φ v w') ∧
    (∀ w, E w1 w → (soon b ms j = true → Ext G0 w1 w) → (∀ p ∈ facts, avail b ms p.1 p.2.1 j = true → p.2.2 w) → OpR P ops o a w fun v w' => Φ v w' ∧ (if m then E else Ext G0) w w') ∧
      ∀ v, OwedM P ops b ms E w1 R rest (j + 1) (a.put o.dst v) ((j, g, Φ v) :: (j, false, fun _ => ∃ w, Φ v w) :: facts)
  | (.lay t Φ, o) :: rest, j, a, facts =>
    (o.dst = none ∧ t ∈ o.looksAt ops) ∧ (∀ v w w', Φ v w → E w w' → Φ v w') ∧
    (∀ w, E w1 w → (soon b ms j = true → Ext G0 w1 w) → (∀ p ∈ facts, avail b ms p.1 p.2.1 j = true → p.2.2 w) → OpR P ops o a w fun _ w' => Φ (a.tmps.getD t undef) w' ∧ E w w') ∧
      OwedM P ops b ms E w1 R rest (j + 1) a ((j, false, Φ (a.tmps.getD t undef)) :: facts)


theorem owedM_at {P : Program} {ops : Array Oper} {b : Array Nat} {ms : List Nat} {E : World → World → Prop} [hE : Rel E] {w1 : World} {R : Act → World → Prop} {full : List (Leaf × Oper)} {a0 : Act} (vs : Nat → Value) :
    ∀ (n j : Nat) (a : Act) (facts : List (Nat × Bool × (World → Prop))), n = full.length - j → j ≤ full.length → OwedM P ops b ms E w1 R (full.drop j) j a facts → a = actTo full vs a0 j →
      (∀ p ∈ facts, ∃ x o, full[p.1]? = some (x, o) ∧ p.1 < j ∧ ((p.2.1 = x.g ∧ p.2.2 = x.says (x.at full vs a0 p.1)) ∨ p.2.2 = fun _ => ∃ w, x.says (x.at full vs a0 p.1) w)) →
      (∀ i x o, j ≤ i → full[i]? = some (x, o) → (x.lasts E ∧ x.fits ops o) ∧ ∀ w, E w1 w → (soon b ms i = true → Ext G0 w1 w) → (∀ q y o', q < i → full[q]? = some (y, o') → avail b ms q y.g i = true → y.says (y.at full vs a0 q) w) → (∀ (q : Nat) (y : Leaf) (o' : Oper), q < i → full[q]? = some (y, o') → bit b i q = true → ∃ w, y.says (y.at full vs a0 q) w) → OpR P ops o (actTo full vs a0 i) w (stepOf E x (x.at full vs a0 i) w)) ∧
      ∀ w, E w1 w → (∀ q y o', full[q]? = some (y, o') → atEnd b ms q y.g = true → y.says (y.at full vs a0 q) w) → (∀ (q : Nat) (y : Leaf) (o' : Oper), full[q]? = some (y, o') → ∃ w, y.says (y.at full vs a0 q) w) → R (actTo full vs a0 full.length) w := by
  intro n
  induction n with
  | zero =>
    intro j a facts hn hj h ha hf
    have hd : full.drop j = [] := List.drop_eq_nil_iff.2 (by omega)
    rw [hd] at h
    refine ⟨fun i x o hi hx => ?_, fun w hw hs hs2 => ?_⟩
    · have := (List.getElem?_eq_some_iff.1 hx).1; omega
    · have hjj : j = full.length := by omega
      subst hjj
      rw [← ha]
      refine h w hw fun p hp he => ?_
      obtain ⟨x, o, h1, _, h34⟩ := hf p hp
      rcases h34 with ⟨h3, h4⟩ | h4
      · rw [h4]
        exact hs _ _ _ h1 (h3 ▸ he)
      · rw [h4]
        exact hs2 _ _ _ h1
  | succ n ih =>
    intro j a facts hn hj h ha hf
    have hlt : j < full.length := by omega
    have hd : full.drop j = full[j] :: full.drop (j + 1) := List.drop_eq_getElem_cons hlt
    have hget : full[j]? = some full[j] := List.getElem?_eq_getElem hlt
    rw [hd] at h
    generalize hfj : full[j] = e at h hget
    obtain ⟨x, o⟩ := e
    have hto : ∀ i x' o', i < j + 1 → j ≤ i → full[i]? = some (x', o') → i = j ∧ x' = x ∧ o' = o := by
      intro i x' o' h1 h2 h3
      have : i = j := by omega
      subst this
      rw [hget] at h3
      cases h3
      exact ⟨rfl, rfl, rfl⟩
    cases x with
    | val c =>
      obtain ⟨h1, h2⟩ := h
      have ih' := ih (j + 1) (a.put o.dst c) facts (by omega) hlt h2 (by simp only [actTo, hget, Leaf.get, ← ha]) (fun p hp => by
        obtain ⟨x, o, q1, q2, q34⟩ := hf p hp
        exact ⟨x, o, q1, by omega, q34⟩)
      refine ⟨fun i x' o' hi hx => ?_, ih'.2⟩
      rcases Nat.lt_or_ge i (j + 1) with h3 | h3
      · obtain ⟨rfl, rfl, rfl⟩ := hto i x' o' h3 hi hx
        refine ⟨⟨trivial, trivial⟩, fun w hw hz hs hs2 => ?_⟩
        rw [← ha]
        refine (h1 w hw hz fun p hp he => ?_).mono fun v w' hk => hk
        obtain ⟨y, o'', q1, q2, q34⟩ := hf p hp
        rcases q34 with ⟨q3, q4⟩ | q4
        · rw [q4]
          exact hs _ _ _ q2 q1 (q3 ▸ he)
        · rw [q4]
          unfold avail at he
          rw [Bool.and_eq_true] at he
          exact hs2 _ _ _ q2 q1 he.1
      · exact ih'.1 i x' o' h3 hx
    | ref g m Φ =>
      obtain ⟨h0, h1, h2⟩ := h
      have ih' := ih (j + 1) (a.put o.dst (vs j)) ((j, g, Φ (vs j)) :: (j, false, fun _ => ∃ w, Φ (vs j) w) :: facts) (by omega) hlt (h2 (vs j)) (by simp only [actTo, hget, Leaf.get, ← ha]) (fun p hp => by
        rcases List.mem_cons.1 hp with rfl | hp
        · exact ⟨_, _, hget, Nat.lt_succ_self _, .inl ⟨rfl, rfl⟩⟩
        rcases List.mem_cons.1 hp with rfl | hp
        · exact ⟨_, _, hget, Nat.lt_succ_self _, .inr rfl⟩
        · obtain ⟨x, o, q1, q2, q34⟩ := hf p hp
          exact ⟨x, o, q1, by omega, q34⟩)
      refine ⟨fun i x' o' hi hx => ?_, ih'.2⟩
      rcases Nat.lt_or_ge i (j + 1) with h3 | h3
      · obtain ⟨rfl, rfl, rfl⟩ := hto i x' o' h3 hi hx
        refine ⟨⟨h0, trivial⟩, fun w hw hz hs hs2 => ?_⟩
        rw [← ha]
        refine (h1 w hw hz fun p hp he => ?_).mono fun v w' hk => hk
        obtain ⟨y, o'', q1, q2, q34⟩ := hf p hp
        rcases q34 with ⟨q3, q4⟩ | q4
        · rw [q4]
          exact hs _ _ _ q2 q1 (q3 ▸ he)
        · rw [q4]
          unfold avail at he
          rw [Bool.and_eq_true] at he
          exact hs2 _ _ _ q2 q1 he.1
      · exact ih'.1 i x' o' h3 hx
    | lay t Φ =>
      obtain ⟨hfit, h0, h1, h2⟩ := h
      have ih' := ih (j + 1) a ((j, false, Φ (a.tmps.getD t undef)) :: facts) (by omega) hlt h2 (by simp only [actTo, hget, Leaf.get, hfit.1]; rw [← ha]; rfl) (fun p hp => by
        rcases List.mem_cons.1 hp with rfl | hp
        · exact ⟨_, _, hget, Nat.lt_succ_self _, .inl ⟨rfl, by simp only [Leaf.at, ← ha]; rfl⟩⟩
        · obtain ⟨x, o, q1, q2, q34⟩ := hf p hp
          exact ⟨x, o, q1, by omega, q34⟩)
      refine ⟨fun i x' o' hi hx => ?_, ih'.2⟩
      rcases Nat.lt_or_ge i (j + 1) with h3 | h3
      · obtain ⟨rfl, rfl, rfl⟩ := hto i x' o' h3 hi hx
        refine ⟨⟨h0, hfit⟩, fun w hw hz hs hs2 => ?_⟩
        simp only [Leaf.at]
        rw [← ha]
        refine (h1 w hw hz fun p hp he => ?_).mono fun v w' hk => hk
        obtain ⟨y, o'', q1, q2, q34⟩ := hf p hp
        rcases q34 with ⟨q3, q4⟩ | q4
        · rw [q4]
          exact hs _ _ _ q2 q1 (q3 ▸ he)
        · rw [q4]
          unfold avail at he
          rw [Bool.and_eq_true] at he
          exact hs2 _ _ _ q2 q1 he.1
      · exact ih'.1 i x' o' h3 hx


section
variable {P : Program} {ops : Array Oper} {stp : Nat → (Act → World → Prop) → Act → World → Prop} {Qn : Act → World → Prop}

theorem any_phiM {b : Array Nat} {ms : List Nat} {E : World → World → Prop} [hE : Rel E] {w1 : World} {R : Act → World → Prop} {full : List (Leaf × Oper)} {a0 : Act}
    (hmono : ∀ i (K K' : Act → World → Prop) a w, (∀ a w, K a w → K' a w) → stp i K a w → stp i K' a w)
    (hstep : ∀ (j : Nat) (o : Oper) a w K, ops[j]? = some o → (∀ c, o.op ≠ .defer c) → OpR P ops o a w K → stp j (fun a' w' => ∃ v, a' = a.put o.dst v ∧ K v w') a w)
    (hb : Region.before ops = b) (hok : phiOk ops b a0.tmps.size full.length = true) (hls : ∀ (i : Nat) (x : Leaf) (o : Oper), full[i]? = some (x, o) → ops[i]? = some o)
    (hms : ∀ (m : Nat) (x : Leaf) (o : Oper), full[m]? = some (x, o) → x.m = true → m ∈ ms)
    (hR : ∀ a w, R a w → seqG stp Qn (List.range' full.length (ops.size - full.length)) a w)
    (h : OwedM P ops b ms E w1 R full 0 a0 []) : anyG ops stp Qn ops.size (Array.replicate ops.size false) a0 w1 := by
  obtain ⟨hk, hspec⟩ := phiOk_spec hok
  have hbef : ∀ j i, (bef ops j).testBit i = bit b j i := fun j i => by unfold bef bit; rw [hb]
  have hob := fun vs => owedM_at (R := R) (a0 := a0) vs full.length 0 a0 [] (by omega) (by omega) h rfl (fun p hp => by cases hp)
  have hd : ∀ i t, dstOf ops i = some t → t < a0.tmps.size := by
    intro i t ht
    unfold dstOf at ht
    cases ho : ops[i]? with
    | none => rw [ho] at ht; cases ht
    | some o => rw [ho] at ht; exact (hspec i o ho).2.2.2.1 t ht
  suffices H : ∀ (n : Nat) (l : Array Bool) (a : Act) (w : World), cnt l ops.size ≤ n → l.size = ops.size → Closed ops l → (∀ i, full.length ≤ i → i < ops.size → lst l i = false) → E w1 w → ((∀ m ∈ ms, lst l m = false) → Ext G0 w1 w) → a.tmps.size = a0.tmps.size → a.defers = a0.defers →
      (∃ vs : Nat → Value, (∀ i x o, full[i]? = some (x, o) → lst l i = true → (x.g = true → ∀ m ∈ ms, m ≠ i → lst l m = true → bit b i m = true) → x.says (x.at full vs a0 i) w) ∧ (∀ (i : Nat) (x : Leaf) (o : Oper), full[i]? = some (x, o) → lst l i = true → ∃ w, x.says (x.at full vs a0 i) w) ∧
        ∀ t, a.tmps.getD t undef = lastV (fun i => lst l i && dstOf ops i == some t) (vOf full vs) (a0.tmps.getD t undef) full.length) → anyG ops stp Qn n l a w by
    refine H ops.size _ a0 w1 (by rw [cnt_none]; exact Nat.le_refl _) (by simp) ?_ ?_ (hE.refl _) (fun _ => Ext.refl _ _) rfl rfl ⟨fun _ => undef, ?_, (fun i x o _ hj => by
      exfalso
      unfold lst at hj
      simp only [Array.getD_eq_getD_getElem?, Array.getElem?_replicate] at hj
      split at hj <;> cases hj), ?_⟩
    · intro j hj
      exfalso
      unfold lst at hj
      simp only [Array.getD_eq_getD_getElem?, Array.getElem?_replicate] at hj
      split at hj <;> cases hj
    · intro i _ _
      unfold lst
      simp only [Array.getD_eq_getD_getElem?, Array.getElem?_replicate]
      split <;> rfl
    · intro i x o _ hj
      exfalso
      unfold lst at hj
      simp only [Array.getD_eq_getD_getElem?, Array.getElem?_replicate] at hj
      split at hj <;> cases hj
    · intro t
      rw [lastV_past (j := 0) _ (Nat.zero_le _)]
      · rfl
      · intro i _ _
        have : lst (Array.replicate ops.size false) i = false := by
          unfold lst; simp only [Array.getD_eq_getD_getElem?, Array.getElem?_replicate]; split <;> rfl
        simp [this]
  have hunl : ∀ (l : Array Bool) (m n : Nat), m < n → lst l m = false → 1 ≤ cnt l n := by
    intro l m n
    induction n with
    | zero => intro h; omega
    | succ n ih =>
      intro hm hf
      simp only [cnt]
      by_cases e : m = n
      · subst e; simp [hf]
      · have := ih (by omega) hf; omega
  have done : ∀ (n : Nat) (l : Array Bool) (a : Act) (w : World), cnt l ops.size ≤ n → l.size = ops.size → Closed ops l → (∀ i, full.length ≤ i → i < ops.size → lst l i = false) → E w1 w → ((∀ m ∈ ms, lst l m = false) → Ext G0 w1 w) → a.tmps.size = a0.tmps.size → a.defers = a0.defers →
      (∃ vs : Nat → Value, (∀ (i : Nat) (x : Leaf) (o : Oper), full[i]? = some (x, o) → lst l i = true → (x.g = true → ∀ m ∈ ms, m ≠ i → lst l m = true → bit b i m = true) → x.says (x.at full vs a0 i) w) ∧ (∀ (i : Nat) (x : Leaf) (o : Oper), full[i]? = some (x, o) → lst l i = true → ∃ w, x.says (x.at full vs a0 i) w) ∧
        ∀ t, a.tmps.getD t undef = lastV (fun i => lst l i && dstOf ops i == some t) (vOf full vs) (a0.tmps.getD t undef) full.length) →
      (∀ i, i < full.length → lst l i = true) → anyG ops stp Qn n l a w := by
    intro n l a w hn hl hc hpre hw hz hs hdf ⟨vs, hf, hf2, hslot⟩ hall
    have hlst : ∀ i, i < ops.size → lst l i = decide (i < full.length) := by
      intro i hi
      by_cases e : i < full.length
      · simp [hall i e, e]
      · simp [hpre i (by omega) hi, e]
    have hcnt := cnt_upto ops.size hk hlst
    refine any_forced (k := full.length) hmono (fun j o ho => (hspec j o ho).1) (fun j hj hlt i hi => ?_) n full.length l a w (Nat.le_refl _) (by omega) hk hl hc hlst (hR a w ?_)
    · rw [hbef]
      exact (hspec j ops[j] (by simp [hlt])).2.2.2.2.1 hj i hi
    · have hr := (hob vs).2 w hw (fun q y o' hq he => by
        have hlt := (List.getElem?_eq_some_iff.1 hq).1
        refine hf q y o' hq (hall q hlt) fun hg m hm hne _ => ?_
        unfold atEnd at he
        simp only [hg, Bool.not_true, Bool.false_or, List.all_eq_true, Bool.or_eq_true] at he
        rcases he m hm with h1 | h1
        · exact absurd (by simpa using h1) hne
        · exact h1) (fun q y o' hq => hf2 q y o' hq (hall q (List.getElem?_eq_some_iff.1 hq).1))
      have hact : a = actTo full vs a0 full.length := by
        have htm : a.tmps = (actTo full vs a0 full.length).tmps := by
          refine Array.ext (by rw [hs, actTo_size]) fun i h1 h2 => ?_
          have e1 := hslot i
          rw [lastV_congr (q := fun q => dstOf ops q == some i) (U := vOf full vs) full.length (fun q hq => by simp [hall q hq]) (fun _ _ _ => rfl), ← actTo_slot full vs a0 hls hd i full.length (Nat.le_refl _)] at e1
          simpa [Array.getD_eq_getD_getElem?, h1, h2] using e1
        have hdd : a.defers = (actTo full vs a0 full.length).defers := by rw [hdf, actTo_defers]
        cases a
        simp only at htm hdd
        rw [htm, hdd]
      rw [hact]
      exact hr
  intro n
  induction n with
  | zero =>
    intro l a w hn hl hc hpre hw hz hs hdf hvs
    refine done 0 l a w hn hl hc hpre hw hz hs hdf hvs fun i hi => ?_
    cases e : lst l i with
    | true => rfl
    | false => have := hunl l i ops.size (by omega) e; omega
  | succ n ih =>
    intro l a w hn hl hc hpre hw hz hs hdf hvs
    by_cases hall : ∀ i, i < full.length → lst l i = true
    · exact done (n + 1) l a w hn hl hc hpre hw hz hs hdf hvs hall
    obtain ⟨vs, hf, hf2, hslot⟩ := hvs
    constructor
    · intro hnil
      exfalso
      apply hall
      intro i hi
      induction i using Nat.strongRecOn with
      | _ i ihi =>
        cases e : lst l i with
        | true => rfl
        | false =>
          have hlt : i < ops.size := by omega
          have : i ∈ Region.ready .any ops l := by
            unfold Region.ready
            simp only [List.mem_filter, List.mem_range, Bool.and_eq_true, Bool.not_eq_true']
            refine ⟨hlt, ?_, ?_⟩
            · unfold lst at e
              simp [Array.getD_eq_getD_getElem?, hl, hlt] at e ⊢; exact e
            · simp only [Array.getElem?_eq_getElem hlt, Option.map_some, Option.getD_some, Array.all_eq_true]
              intro q hq
              by_cases hb2 : Region.binds .any (ops[i].after[q]) = true
              · have h1 := (hspec i ops[i] (by simp [hlt])).1 _ (Array.getElem_mem hq) hb2
                have h2 := ihi _ h1 (by omega)
                unfold lst at h2
                simp [h2]
              · simp [hb2]
          rw [hnil] at this
          cases this
    · intro j hj
      obtain ⟨hlt, hun, o, ho, hedges⟩ := ready_spec hj
      have hjl : lst l j = false := by
        unfold lst; simp [Array.getD_eq_getD_getElem?, hl, hlt] at hun ⊢; exact hun
      have hjk : j < full.length := by
        rcases Nat.lt_or_ge j full.length with h1 | h1
        · exact h1
        · exfalso
          apply hall
          intro i hi
          refine ready_bef hc hj ?_
          rw [hbef]
          exact (hspec j o ho).2.2.2.2.1 h1 i (by omega)
      have hg : full[j]? = some full[j] := List.getElem?_eq_getElem hjk
      generalize hfj : full[j] = e at hg
      obtain ⟨x, o'⟩ := e
      have := hls j x o' hg
      rw [ho] at this
      cases this
      -- what lies ahead of j has been done; nothing that has been done lies behind j
      have hahead : ∀ i, bit b j i = true → lst l i = true := fun i hi => ready_bef hc hj (by rw [hbef]; exact hi)
      have hbehind : ∀ i, lst l i = true → bit b i j = false := fun i hi => by
        cases e : bit b i j with
        | false => rfl
        | true => have := hc i hi j (by rw [hbef]; exact e); rw [hjl] at this; cases this
      have hown : ∀ t, (o.dst = some t ∨ t ∈ o.looksAt ops) → ∀ i, i < ops.size → dstOf ops i = some t → i ≠ j → (lst l i = decide (i < j)) := by
        intro t ht i hi hdi hne
        have h1 := (hspec j o ho).2.2.2.2.2 t ht i hi hdi hne
        rcases Nat.lt_or_gt_of_ne hne with h2 | h2
        · rw [Nat.max_eq_right (Nat.le_of_lt h2), Nat.min_eq_left (Nat.le_of_lt h2)] at h1
          simp [hahead i h1, h2]
        · rw [Nat.max_eq_left (Nat.le_of_lt h2), Nat.min_eq_right (Nat.le_of_lt h2)] at h1
          have h3 : lst l i = false := by
            cases e : lst l i with
            | false => rfl
            | true => have := hbehind i e; rw [h1] at this; cases this
          simp [h3, show ¬ i < j by omega]
      have hagree : ∀ t ∈ o.looksAt ops, a.tmps.getD t undef = (actTo full vs a0 j).tmps.getD t undef := by
        intro t ht
        rw [hslot t, actTo_slot full vs a0 hls hd t j (Nat.le_of_lt hjk)]
        rw [lastV_congr (q := fun i => decide (i < j) && dstOf ops i == some t) (U := vOf full vs) full.length ?_ (fun _ _ _ => rfl)]
        · rw [lastV_past (j := j) full.length (Nat.le_of_lt hjk) (fun i hi _ => by simp [show ¬ i < j by omega])]
          exact lastV_congr j (fun i hi => by simp [hi]) (fun _ _ _ => rfl)
        · intro i hi
          cases e : (dstOf ops i == some t) with
          | false => simp
          | true =>
            by_cases hij : i = j
            · subst hij; simp [hjl]
            · rw [hown t (.inr ht) i (by omega) (by simpa using e) hij]
      obtain ⟨hlasts, hobl⟩ := (hob vs).1 j x o (Nat.zero_le _) hg
      have hzj : soon b ms j = true → Ext G0 w1 w := fun h => hz fun m hm => by
        unfold soon at h
        have h := List.all_eq_true.1 h m hm
        rw [Bool.or_eq_true] at h
        rcases h with h | h
        · have : m = j := by simpa using h
          subst this; exact hjl
        · cases e : lst l m with
          | false => rfl
          | true => have := hbehind m e; rw [h] at this; cases this
      have hrun := hobl w hw hzj (fun q y o' hq hyo hav => by
        unfold avail at hav
        simp only [Bool.and_eq_true, Bool.or_eq_true, Bool.not_eq_true', List.all_eq_true] at hav
        refine hf q y o' hyo (hahead q hav.1) fun hgq m hm hne hlm => ?_
        rcases hav.2 with h1 | h1
        · rw [hgq] at h1; cases h1
        · rcases h1 m hm with ((h2 | h2) | h2) | h2
          · exact absurd (by simpa using h2) hne
          · have : m = j := by simpa using h2
            subst this; rw [hjl] at hlm; cases hlm
          · exact h2
          · have := hbehind m hlm; rw [h2] at this; cases this) (fun q y o' hq hyo hav => hf2 q y o' hyo (hahead q hav))
      refine hmono _ _ _ _ _ ?_ (hstep j o a w _ ho (hspec j o ho).2.2.1 (hrun.agree (hspec j o ho).2.1 (by rw [hs, actTo_size]) hagree))
      rintro a' w' ⟨v, rfl, hst⟩
      have hjl' : j < l.size := by omega
      have hext : E w w' := by
        cases x with
        | val c => exact hE.of0 hst.2
        | ref g m Φ => exact ext_ite hst.2
        | lay t Φ => exact hst.2
      refine ih _ _ _ ?_ (by simpa using hl) (closed_set hjl' hc hj) ?_ (hE.trans hw hext) (fun hmm => by
          have hnm : x.m = false := by
            cases hm : x.m with
            | false => rfl
            | true => have := hmm j (hms j x o hg hm); rw [lst_set hjl'] at this; simp at this
          have h0 := hz fun m hm => by
            have := hmm m hm
            rw [lst_set hjl'] at this
            cases e : lst l m with
            | false => rfl
            | true => rw [e] at this; simp at this
          refine h0.trans ?_
          cases x with
          | val c => exact hst.2
          | ref g m Φ => simp only [Leaf.m] at hnm; subst hnm; exact hst.2
          | lay t Φ => cases hnm) (by rw [put_size]; exact hs) (by rw [put_defers]; exact hdf) ⟨fun i => if i = j then v else vs i, ?_, ?_, ?_⟩
      · have := cnt_set hjl' hjl ops.size
        rw [if_pos hlt] at this
        omega
      · intro i h1 h2
        rw [lst_set hjl', hpre i h1 h2]
        simp; omega
      · intro i y oy hy hli hcond
        rw [lst_set hjl'] at hli
        by_cases hij : i = j
        · subst hij
          rw [hg] at hy
          cases hy
          cases x with
          | val c => exact trivial
          | ref g m Φ => simpa [Leaf.says, Leaf.at] using hst.1
          | lay t Φ =>
            have h1 := hst.1
            simp only [Leaf.at] at h1
            simp only [Leaf.says, Leaf.at]
            rw [actTo_congr full (fun q => if q = i then v else vs q) vs a0 i (fun q hq => by simp [show ¬ q = i by omega])]
            exact h1
        · have hli' : lst l i = true := by
            have : ¬ j = i := fun e => hij e.symm
            simpa [this] using hli
          -- may j have turned what i left?
          have hmut : x.m = true → y.g = false := by
            intro hm
            cases hg2 : y.g with
            | false => rfl
            | true =>
              have h1 := hcond hg2 j (hms j x o hg hm) (fun e => hij e.symm) (by rw [lst_set hjl']; simp)
              rw [hbehind i hli'] at h1
              cases h1
          have hold : y.says (y.at full vs a0 i) w := hf i y oy hy hli' fun hg2 m hm hne hlm => hcond hg2 m hm hne (by rw [lst_set hjl']; simp [hlm])
          have hl3 := ((hob vs).1 i y oy (Nat.zero_le _) hy).1
          have hl2 := hl3.1
          have hfit := hl3.2
          have hat : y.at full (fun q => if q = j then v else vs q) a0 i = y.at full vs a0 i := by
            cases y with
            | val c => simp only [Leaf.at, hij, if_false]
            | ref g m Φ => simp only [Leaf.at, hij, if_false]
            | lay t Φ =>
              simp only [Leaf.at]
              have hik : i < full.length := (List.getElem?_eq_some_iff.1 hy).1
              rw [actTo_slot full _ a0 hls hd t i (Nat.le_of_lt hik), actTo_slot full vs a0 hls hd t i (Nat.le_of_lt hik)]
              refine lastV_congr i (fun q hq => rfl) fun q hq hp => ?_
              have hqj : q ≠ j := by
                intro e
                subst e
                have h1 := (hspec i oy (hls i _ oy hy)).2.2.2.2.2 t (.inr hfit.2) q hlt (by simpa using hp) (by omega)
                rw [Nat.max_eq_right (Nat.le_of_lt hq), Nat.min_eq_left (Nat.le_of_lt hq)] at h1
                have := hc i hli' q (by rw [hbef]; exact h1)
                rw [hjl] at this; cases this
              unfold vOf
              cases full[q]? with
              | none => rfl
              | some p => simp [hqj]
          rw [hat]
          cases y with
          | val c => exact trivial
          | ref g m Φ =>
            refine hl2 _ _ _ hold ?_
            cases x with
            | val c => cases g <;> first | exact hE.of0 hst.2 | exact hst.2
            | ref g' m' Φ' =>
              cases m' with
              | false => have := hst.2; cases g <;> first | exact hE.of0 (by simpa using this) | simpa using this
              | true => have h3 := hmut rfl; simp only [Leaf.g] at h3; subst h3; have := hst.2; simpa using this
            | lay t' Φ' => have h3 := hmut rfl; simp only [Leaf.g] at h3; subst h3; have := hst.2; simpa using this
          | lay t Φ =>
            refine hl2 _ _ _ hold ?_
            cases x with
            | val c => exact hE.of0 hst.2
            | ref g' m' Φ' => exact ext_ite hst.2
            | lay t' Φ' => exact hst.2
      · intro i y oy hy hli
        rw [lst_set hjl'] at hli
        by_cases hij : i = j
        · subst hij
          rw [hg] at hy
          cases hy
          refine ⟨w', ?_⟩
          cases x with
          | val c => exact trivial
          | ref g m Φ => simpa [Leaf.says, Leaf.at] using hst.1
          | lay t Φ =>
            have h1 := hst.1
            simp only [Leaf.at] at h1
            simp only [Leaf.says, Leaf.at]
            rw [actTo_congr full (fun q => if q = i then v else vs q) vs a0 i (fun q hq => by simp [show ¬ q = i by omega])]
            exact h1
        · have hli' : lst l i = true := by
            have : ¬ j = i := fun e => hij e.symm
            simpa [this] using hli
          have hfit := ((hob vs).1 i y oy (Nat.zero_le _) hy).1.2
          have hat : y.at full (fun q => if q = j then v else vs q) a0 i = y.at full vs a0 i := by
            cases y with
            | val c => simp only [Leaf.at, hij, if_false]
            | ref g m Φ => simp only [Leaf.at, hij, if_false]
            | lay t Φ =>
              simp only [Leaf.at]
              have hik : i < full.length := (List.getElem?_eq_some_iff.1 hy).1
              rw [actTo_slot full _ a0 hls hd t i (Nat.le_of_lt hik), actTo_slot full vs a0 hls hd t i (Nat.le_of_lt hik)]
              refine lastV_congr i (fun q hq => rfl) fun q hq hp => ?_
              have hqj : q ≠ j := by
                intro e
                subst e
                have h1 := (hspec i oy (hls i _ oy hy)).2.2.2.2.2 t (.inr hfit.2) q hlt (by simpa using hp) (by omega)
                rw [Nat.max_eq_right (Nat.le_of_lt hq), Nat.min_eq_left (Nat.le_of_lt hq)] at h1
                have := hc i hli' q (by rw [hbef]; exact h1)
                rw [hjl] at this; cases this
              unfold vOf
              cases full[q]? with
              | none => rfl
              | some p => simp [hqj]
          rw [hat]
          exact hf2 i y oy hy hli'
      · intro t
        have hvof : ∀ i, i ≠ j → vOf full (fun i => if i = j then v else vs i) i = vOf full vs i := by
          intro i hi
          unfold vOf
          cases full[i]? with
          | none => rfl
          | some p => simp [hi]
        have hdj : dstOf ops j = o.dst := by simp [dstOf, ho]
        rw [put_getD _ _ _ _ (fun y hy => by rw [hs]; exact hd j y (hdj.trans hy))]
        by_cases hdt : o.dst = some t
        · rw [if_pos hdt]
          rw [lastV_top (j := j) full.length hjk (by simp [lst_set hjl', hdj, hdt]) ?_]
          · unfold vOf
            rw [hg]
            simp only [if_true]
            exact (stepOf.get hst).symm
          · intro i h1 h2
            cases e : (dstOf ops i == some t) with
            | false => simp
            | true =>
              have h3 := hown t (.inl hdt) i (by omega) (by simpa using e) (by omega)
              rw [lst_set hjl', h3]
              simp; omega
        · rw [if_neg hdt, hslot t]
          refine lastV_congr full.length (fun i hi => ?_) (fun i hi hp => ?_)
          · by_cases hij : i = j
            · have h5 : (dstOf ops i == some t) = false := by
                subst hij; rw [hdj]; exact beq_eq_false_iff_ne.2 hdt
              show (lst l i && (dstOf ops i == some t)) = (lst (l.setIfInBounds j true) i && (dstOf ops i == some t))
              rw [h5, Bool.and_false, Bool.and_false]
            · rw [lst_set hjl']; simp [show ¬ j = i from fun e => hij e.symm]
          · by_cases hij : i = j
            · subst hij; rw [hjl] at hp; simp at hp
            · exact (hvof i hij).symm
end


/-- A region that draws its order: what its operations leave is told by 'leaves'; what stands behind those is forced, and walked as it stands. -/
theorem region_phiM {P : Program} {id : Nat} {l : List Oper} {Q : Exit → Act → World → Prop} {a : Act} {w : World} (leaves : List Leaf) (k : Nat) (b : Array Nat) (ms : List Nat) (E : World → World → Prop) [hE : Rel E]
    (hm : P.follows .mixedOrders = true) (hb : Region.before l.toArray = b) (hlen : leaves.length = k) (hok : phiOk l.toArray b a.tmps.size k = true) (hms : msOf (leaves.zip l) = ms)
    (h : OwedM P l.toArray b ms E w.drew (Tail P l.toArray Q k) (leaves.zip l) 0 a []) : (Code.region id l.toArray true).wp P Q a w := by
  subst hlen
  have hlen := (phiOk_spec hok).1
  have hl : (leaves.zip l).length = leaves.length := by simp at hlen; simp [hlen]
  refine wp_region_any hm (wpAny_anyG _ _ _ _ (any_phiM (full := leaves.zip l) (fun i K K' a w hk hh => wpOp_mono hk hh) (fun j o a w K ho _ hr => hr.wpOp ho) hb (by rw [hl]; exact hok) (fun i x o hx => ?_) (ms_spec hms) (fun a w hr => ?_) h))
  · have := (zip_get hx).2
    simpa using this
  · rw [hl]
    refine seqG_ops _ _ _ ?_
    have e := wpOps_eq_wpList (P := P) (ops := l.toArray) (Q := Q) (l.drop leaves.length) leaves.length (fun j => by simp)
    rw [List.length_drop] at e
    have e2 : l.length = l.toArray.size := by simp
    rw [e2] at e
    rw [e]
    exact hr

theorem region_phiInM {P : Program} {id : Nat} {l : List Oper} {Q : Exit → Act → World → Prop} {a : Act} {w : World} {ro : Option Nat} {n : Nat} (leaves : List Leaf) (k : Nat) (b : Array Nat) (ms : List Nat) (E : World → World → Prop) [hE : Rel E]
    (hm : P.follows .mixedOrders = true) (hb : Region.before l.toArray = b) (hlen : leaves.length = k) (hok : phiOk l.toArray b a.tmps.size k = true) (hms : msOf (leaves.zip l) = ms)
    (h : OwedM P l.toArray b ms E w.drew (TailIn ro n P l.toArray Q k) (leaves.zip l) 0 a []) : (Code.region id l.toArray true).wpIn { Fence.wide with round := ro } n P Q a w := by
  subst hlen
  have hlen := (phiOk_spec hok).1
  have hl : (leaves.zip l).length = leaves.length := by simp at hlen; simp [hlen]
  refine wpIn_region_any hm (wpAnyIn_anyG _ _ _ _ (any_phiM (full := leaves.zip l) (fun i K K' a w hk hh => wpOpIn_mono hk hh) (fun j o a w K ho hd hr => hr.wpOpIn ro n hd ho) hb (by rw [hl]; exact hok) (fun i x o hx => ?_) (ms_spec hms) (fun a w hr => ?_) h))
  · have := (zip_get hx).2
    simpa using this
  · rw [hl]
    refine seqG_opsIn _ _ _ ?_
    have e := wpOpsIn_eq_wpListIn (F := { Fence.wide with round := ro }) (n := n) (P := P) (ops := l.toArray) (Q := Q) (l.drop leaves.length) leaves.length (fun j => by simp)
    rw [List.length_drop] at e
    have e2 : l.length = l.toArray.size := by simp
    rw [e2] at e
    rw [e]
    exact hr

section
variable {P : Program} {ops : Array Oper} {b : Array Nat} {ms : List Nat} {E : World → World → Prop} [hE : Rel E] {w1 : World} {R : Act → World → Prop} {o : Oper} {ls : List Leaf} {os : List Oper} {j : Nat} {a a' : Act} {facts : List (Nat × Bool × (World → Prop))}

/-- An operation that leaves a known value. -/
theorem owedM_val {c : Value} (h1 : ∀ w, E w1 w → (soon b ms j = true → Ext G0 w1 w) → (∀ p ∈ facts, avail b ms p.1 p.2.1 j = true → p.2.2 w) → OpR P ops o a w fun v w' => v = c ∧ Ext G0 w w') (ha : a.put o.dst c = a')
    (h2 : OwedM P ops b ms E w1 R (ls.zip os) (j + 1) a' facts) : OwedM P ops b ms E w1 R ((Leaf.val c :: ls).zip (o :: os)) j a facts := ⟨h1, ha ▸ h2⟩
/-- An operation that leaves a value of which something holds. -/
theorem owedM_ref {g m : Bool} {Φ : Value → World → Prop} (h0 : ∀ v w w', Φ v w → (if g then Ext G0 else E) w w' → Φ v w')
    (h1 : ∀ w, E w1 w → (soon b ms j = true → Ext G0 w1 w) → (∀ p ∈ facts, avail b ms p.1 p.2.1 j = true → p.2.2 w) → OpR P ops o a w fun v w' => Φ v w' ∧ (if m then E else Ext G0) w w')
    (h2 : ∀ v, OwedM P ops b ms E w1 R (ls.zip os) (j + 1) (a.put o.dst v) ((j, g, Φ v) :: (j, false, fun _ => ∃ w, Φ v w) :: facts)) : OwedM P ops b ms E w1 R ((Leaf.ref g m Φ :: ls).zip (o :: os)) j a facts := ⟨h0, h1, h2⟩
theorem owedM_end (h : ∀ w, E w1 w → (∀ p ∈ facts, atEnd b ms p.1 p.2.1 = true → p.2.2 w) → R a w) : OwedM P ops b ms E w1 R (([] : List Leaf).zip os) j a facts := by
  cases os <;> exact h
end

section
variable {P : Program} {ops : Array Oper} {b : Array Nat} {ms : List Nat} {E : World → World → Prop} [hE : Rel E] {w1 : World} {R : Act → World → Prop} {o : Oper} {ls : List Leaf} {os : List Oper} {j : Nat} {a a' : Act} {facts : List (Nat × Bool × (World → Prop))} {d : Tmp}

/-- An operation that leaves a known value: walked. -/
theorem owedM_walk {c : Value} (hd : o.dst = some d) (hr : ∀ w, E w1 w → (soon b ms j = true → Ext G0 w1 w) → (∀ p ∈ facts, avail b ms p.1 p.2.1 j = true → p.2.2 w) → wpList P ops (ValPost d c a w) [o] a w) (hsz : d < a.tmps.size) (ha : a.put (some d) c = a')
    (h2 : OwedM P ops b ms E w1 R (ls.zip os) (j + 1) a' facts) : OwedM P ops b ms E w1 R ((Leaf.val c :: ls).zip (o :: os)) j a facts := by
  refine owedM_val (fun w hw hz hf => ?_) (by rw [hd]; exact ha) h2
  refine opR_of_list (fun e a w h => by cases e <;> first | rfl | exact h.elim) (fun v w2 h => ?_) (fun a2 w2 h => h.2.1) (hr w hw hz hf)
  have h1 := h.1
  rw [hd, getD_put _ _ _ hsz] at h1
  exact ⟨h1, h.2.2⟩

/-- An operation that leaves something of which Φ holds: walked. -/
theorem owedM_walk_ref {g m : Bool} {Φ : Value → World → Prop} (hd : o.dst = some d) (h0 : ∀ v w w', Φ v w → (if g then Ext G0 else E) w w' → Φ v w')
    (hr : ∀ w, E w1 w → (soon b ms j = true → Ext G0 w1 w) → (∀ p ∈ facts, avail b ms p.1 p.2.1 j = true → p.2.2 w) → wpList P ops (RefPost a d m E Φ w) [o] a w) (hsz : d < a.tmps.size) {av : Value → Act} (ha : ∀ v, a.put (some d) v = av v)
    (h2 : ∀ v, OwedM P ops b ms E w1 R (ls.zip os) (j + 1) (av v) ((j, g, Φ v) :: (j, false, fun _ => ∃ w, Φ v w) :: facts)) : OwedM P ops b ms E w1 R ((Leaf.ref g m Φ :: ls).zip (o :: os)) j a facts := by
  refine owedM_ref h0 (fun w hw hz hf => ?_) (by rw [hd]; exact fun v => by rw [ha v]; exact h2 v)
  refine opR_of_list (fun e a w h => by cases e <;> first | rfl | exact h.elim) (fun v w2 h => ?_) (fun a2 w2 h => ?_) (hr w hw hz hf)
  · rw [hd] at h
    have := h.2
    rw [getD_put _ _ _ hsz] at this
    exact this
  · exact h.1

/-- An operation without a result: walked. -/
theorem owedM_walk_st {g m : Bool} {Φ : World → Prop} (hd : o.dst = none) (h0 : ∀ w w', Φ w → (if g then Ext G0 else E) w w' → Φ w')
    (hr : ∀ w, E w1 w → (soon b ms j = true → Ext G0 w1 w) → (∀ p ∈ facts, avail b ms p.1 p.2.1 j = true → p.2.2 w) → wpList P ops (StPost a m E Φ w) [o] a w)
    (h2 : OwedM P ops b ms E w1 R (ls.zip os) (j + 1) a ((j, g, Φ) :: (j, false, fun _ => ∃ w, Φ w) :: facts)) : OwedM P ops b ms E w1 R ((Leaf.ref g m (fun _ => Φ) :: ls).zip (o :: os)) j a facts := by
  refine owedM_ref (fun _ => h0) (fun w hw hz hf => ?_) (by rw [hd]; exact fun v => h2)
  exact opR_of_list (fun e a w h => by cases e <;> first | rfl | exact h.elim) (fun v w2 h => h.2) (fun a2 w2 h => h.1) (hr w hw hz hf)

/-- A store into what lies in t: walked. -/
theorem owedM_walk_lay {t : Tmp} {Φ : Value → World → Prop} {c : Value} (hc : a.tmps.getD t undef = c) (hd : o.dst = none) (hl : t ∈ o.looksAt ops) (h0 : ∀ v w w', Φ v w → E w w' → Φ v w')
    (hr : ∀ w, E w1 w → (soon b ms j = true → Ext G0 w1 w) → (∀ p ∈ facts, avail b ms p.1 p.2.1 j = true → p.2.2 w) → wpList P ops (StPost a true E (Φ c) w) [o] a w)
    (h2 : OwedM P ops b ms E w1 R (ls.zip os) (j + 1) a ((j, false, Φ c) :: facts)) : OwedM P ops b ms E w1 R ((Leaf.lay t Φ :: ls).zip (o :: os)) j a facts := by
  subst hc
  refine ⟨⟨hd, hl⟩, h0, fun w hw hz hf => ?_, h2⟩
  exact opR_of_list (fun e a w h => by cases e <;> first | rfl | exact h.elim) (fun v w2 h => h.2) (fun a2 w2 h => h.1) (hr w hw hz hf)

/-- An operation without a result that turns what E lets turn (a map's entry is laid). -/
theorem owedM_lay {t : Tmp} {Φ : Value → World → Prop} {c : Value} (hc : a.tmps.getD t undef = c) (hd : o.dst = none) (hg : o.guard = none) (hl : t ∈ o.looksAt ops) (h0 : ∀ v w w', Φ v w → E w w' → Φ v w')
    (hr : ∀ w, E w1 w → (soon b ms j = true → Ext G0 w1 w) → (∀ p ∈ facts, avail b ms p.1 p.2.1 j = true → p.2.2 w) → ∃ w', (execOp a.eval o).run P w = .ok .skip w' ∧ Φ c w' ∧ E w w')
    (h2 : OwedM P ops b ms E w1 R (ls.zip os) (j + 1) a ((j, false, Φ c) :: facts)) : OwedM P ops b ms E w1 R ((Leaf.lay t Φ :: ls).zip (o :: os)) j a facts := by
  subst hc
  refine ⟨⟨hd, hl⟩, h0, fun w hw hz hf => ?_, h2⟩
  obtain ⟨w', hrun, h1, h3⟩ := hr w hw hz hf
  unfold OpR
  rw [if_pos (by unfold Region.wanted; rw [hg]), hrun]
  exact ⟨h1, h3⟩

end

end Go.Proofs.Ytejialnbelleeaa
