/-
  Arguments that are slices, opened as rows: by an element's own opening.
-/
import Derived.Test.YtejialnbelleeaaSetB
import Derived.Deep.Slices
import Derived.SizedLaws
namespace Go.Proofs.Ytejialnbelleeaa
open Go Go.RowKit Go.WideShapes Go.ChangeShapes
variable {H : Type} {ec : TypeId × Value → H} {P : Program} {W : World} {base : Nat} {sp : Nat → Bool} {held : Bool}

theorem weights_of {ts : List TypeId} {ds : List (DataW H)} {j : Nat} {t : TypeId} {d : DataW H} (hsz : (DataW.weightsEach P ts ds).all (· ≤ reachBytes) = true) (ht : ts[j]? = some t) (hd : ds[j]? = some d) : ∀ n ∈ d.weights P t, n ≤ reachBytes := fun n hn => by
  have := List.all_eq_true.1 hsz _ (DataW.weights_mem_each ht hd n hn)
  simpa using this
theorem weightsAll_mem {e : TypeId} : ∀ {l : List (DataW H)} {d : DataW H} {n : Nat}, d ∈ l → n ∈ d.weights P e → n ∈ DataW.weightsAll P e l
  | a :: l, d, n, hd, hn => by
    unfold DataW.weightsAll
    rw [List.mem_append]
    rcases List.mem_cons.1 hd with rfl | h
    · exact .inl hn
    · exact .inr (weightsAll_mem h hn)

/-- What an element's cells are. -/
def Opens {α : Type} (ec : TypeId × Value → H) (P : Program) (W : World) (base : Nat) (sp : Nat → Bool) (held : Bool) (e : TypeId) (enc : α → List Value) (good : α → Prop) : Prop :=
  ∀ fuel cs d ps, DataW.trod ec P W base sp held fuel e cs = some (d, ps) → (∀ n ∈ d.weights P e, n ≤ reachBytes) → ∃ x : α, cs = enc x ∧ good x

theorem open_rows0 {α : Type} {sz B : Nat} {enc : α → List Value} {good : α → Prop} {t e : TypeId} (hu : P.underlying t = some (.slice e)) (hc : P.cellsOf e = sz) (hB : P.bytesOf e = B) (hpos : 0 < sz) (hposB : 0 < B)
    (hone : Opens ec P W base sp held e enc good) {fuel : Nat} {cs : List Value} {d : DataW H} {ps : List MemPlace} (hf : DataW.trod ec P W base sp held fuel t cs = some (d, ps)) (hwt : ∀ n ∈ d.weights P t, n ≤ reachBytes) :
    ∃ (l : List α) (A : Option Addr) (c : Nat), cs = [.slice A l.length c] ∧ SlAt sz enc W (.slice A l.length c) l ∧ ((l.length : Int) * B ≤ 140737488351232 ∧ ∀ x ∈ l, good x) := by
  rcases Deep.open_slice hu hf with ⟨hcs, _⟩ | ⟨a, len, cap, m, n, D, Pl, hcs, _, hl, _, hm, hx, hel⟩
  · exact ⟨[], none, 0, hcs, ⟨none, 0, rfl, ⟨Nat.le_refl _, by rw [List.length_nil]; omega⟩, .inl rfl⟩, by rw [List.length_nil]; omega, fun x hx => by cases hx⟩
  · have hlm : len ≤ m := by rw [hm]; split <;> omega
    have hx1 := (Prod.mk.inj hx).1
    have hb : (len : Int) * B ≤ 140737488351232 := by
      subst hx1
      have z := hwt _ (by unfold DataW.weights; rw [hu]; exact List.mem_cons_self)
      rw [hB] at z
      simp only [List.length_map, List.length_range] at z
      have : len * B ≤ (len + (m - len)) * B := Nat.mul_le_mul_right _ (by omega)
      have hr : reachBytes = 140737488351232 := by decide
      have h2 : len * B ≤ 140737488351232 := by omega
      rw [← Int.natCast_mul]; omega
    have hwt2 : ∀ i, i < len → ∀ n ∈ (D i).weights P e, n ≤ reachBytes := fun i hi n hn => by
      subst hx1
      refine hwt n ?_
      unfold DataW.weights
      rw [hu]
      refine List.mem_cons_of_mem _ (List.mem_append_left _ (weightsAll_mem (List.mem_map.2 ⟨i, List.mem_range.2 hi, rfl⟩) hn))
    have hb1 : (len : Int) ≤ 140737488351232 := by
      have h3 : (len : Int) * 1 ≤ (len : Int) * B := Int.mul_le_mul_of_nonneg_left (by omega) (by omega)
      omega
    have hxs : ∀ i, i < len → ∃ x : α, (∀ j y, (enc x)[j]? = some y → W.cell? (a.add (i * sz + j)) = some y) ∧ good x := fun i hi => by
      obtain ⟨cs', h1, h2⟩ := hel i (by omega)
      obtain ⟨x, rfl, hg⟩ := hone _ _ _ _ h2 (hwt2 i hi)
      refine ⟨x, fun j y hy => ?_, hg⟩
      unfold World.cells? at h1
      split at h1
      · have hlen := mapM_some_length h1
        rw [List.length_range, hc] at hlen
        have hj : j < sz := by rw [← hlen]; exact (List.getElem?_eq_some_iff.1 hy).1
        have := mapM_some_get h1 j j (by rw [hc]; simp [hj])
        rw [hy, Deep.add_add, hc] at this
        exact this
      · cases h1
    obtain ⟨l, hll, hl2⟩ : ∃ l : List α, l.length = len ∧ ∀ i x, l[i]? = some x → (∀ j y, (enc x)[j]? = some y → W.cell? (a.add (i * sz + j)) = some y) ∧ good x := by
      clear hel hx hx1 hf hb hb1 hlm hl hm hcs hwt hwt2
      induction len with
      | zero => exact ⟨[], rfl, fun i x h => by simp at h⟩
      | succ k ih =>
        obtain ⟨l, h1, h2⟩ := ih (fun i hi => hxs i (by omega))
        obtain ⟨x, hx⟩ := hxs k (by omega)
        refine ⟨l ++ [x], by simp [h1], fun i y hy => ?_⟩
        by_cases hi : i < l.length
        · rw [List.getElem?_append_left hi] at hy; exact h2 i y hy
        · have hlt := (List.getElem?_eq_some_iff.1 hy).1
          rw [List.length_append, List.length_singleton] at hlt
          obtain rfl : i = k := by omega
          rw [List.getElem?_append_right (by omega), h1] at hy
          simp at hy
          subst hy
          exact hx
    refine ⟨l, some a, cap, by rw [hll, hcs], ⟨some a, cap, rfl, ⟨by omega, by rw [hll]; exact hb1⟩, ?_⟩, by rw [hll]; exact hb, fun x hx => ?_⟩
    · cases l with
      | nil => exact .inl rfl
      | cons x l =>
        right
        by_cases hsp : a.spot = none
        · obtain ⟨b, off, s⟩ := a
          simp only at hsp
          subst hsp
          refine ⟨b, off, rfl, fun i x hi j y hj => ?_⟩
          have := (hl2 i x hi).1 j y hj
          rw [show (⟨b, off, none⟩ : Addr).add (i * sz + j) = ⟨b, off + i * sz + j, none⟩ by unfold Addr.add; split <;> simp_all <;> omega] at this
          exact this
        · exfalso
          obtain ⟨cs', h1, h2⟩ := hel 0 (by simp at hll; omega)
          unfold World.cells? at h1
          split at h1
          · have h5 := mapM_some_get h1 0 0 (by rw [hc]; simp [hpos])
            have hlen := mapM_some_length h1
            rw [List.length_range, hc] at hlen
            rw [Nat.zero_mul, List.getElem?_eq_getElem (by omega)] at h5
            have h6 := World.cell?_spot h5
            simp [Addr.add] at h6
            exact hsp h6
          · cases h1
    · obtain ⟨i, hi, rfl⟩ := List.mem_iff_getElem.1 hx
      exact (hl2 i _ (by simp [hi])).2

theorem open_rows {α : Type} {sz B : Nat} {enc : α → List Value} {good : α → Prop} {t e : TypeId} (hu : P.underlying t = some (.slice e)) (hc : P.cellsOf e = sz) (hB : P.bytesOf e = B) (hpos : 0 < sz) (hposB : 0 < B)
    (hone : Opens ec P W base sp held e enc good) {A : Option Addr} {len cap : Nat} {d : DataW H} {ps : List MemPlace} (h : DataW.Trod ec P W base sp held t (.slice A len cap) d ps)
    {ts : List TypeId} {ds : List (DataW H)} {j : Nat} (hsz : (DataW.weightsEach P ts ds).all (· ≤ reachBytes) = true) (ht : ts[j]? = some t) (hd : ds[j]? = some d) :
    ∃ l : List α, l.length = len ∧ SlAt sz enc W (.slice A len cap) l ∧ ((l.length : Int) * B ≤ 140737488351232 ∧ ∀ x ∈ l, good x) := by
  obtain ⟨fuel, hf⟩ := h
  obtain ⟨l, A', c, h1, h2, h3⟩ := open_rows0 hu hc hB hpos hposB hone hf (weights_of hsz ht hd)
  have h1 : [Value.slice A len cap] = [Value.slice A' l.length c] := h1
  injection h1 with h1 _
  injection h1 with e1 e2 e3
  subst e1 e2 e3
  exact ⟨l, rfl, h2, h3⟩

theorem Opens.int {k : IntKind} {e : TypeId} (he : P.underlying e = some (.int k)) : Opens ec P W base sp held e (fun n : Int => [.int k n]) (fun n => (Lit.int k n).wf = true) := fun fuel cs d ps h _ => by
  obtain ⟨n, rfl, _, hw⟩ := DataW.trod_int he h
  exact ⟨n, rfl, hw⟩
theorem u8_wf {n : Int} (h : (Lit.int .u8 n).wf = true) : ∃ b : Nat, n = (b : Int) ∧ b < 256 := by
  simp [Lit.wf, show IntKind.u8.min = 0 from rfl, show IntKind.u8.max = 255 from rfl] at h
  exact ⟨n.toNat, by omega, by omega⟩
theorem Opens.byte {e : TypeId} (he : P.underlying e = some (.int .u8)) : Opens ec P W base sp held e (fun b : Nat => [.int .u8 (b : Int)]) (fun b => b < 256) := fun fuel cs d ps h _ => by
  obtain ⟨n, rfl, _, hw⟩ := DataW.trod_int he h
  obtain ⟨b, rfl, hb⟩ := u8_wf hw
  exact ⟨b, rfl, hb⟩
theorem Opens.string {e : TypeId} (he : P.underlying e = some .string) : Opens ec P W base sp held e (fun s : ByteArray => [.string s]) (fun s => s.size ≤ 140737488351232) := fun fuel cs d ps h hw => by
  obtain ⟨s, rfl, hx, _⟩ := DataW.trod_string he h
  obtain ⟨hx, _⟩ := Prod.mk.inj hx
  subst hx
  refine ⟨s, rfl, ?_⟩
  have := hw _ (by unfold DataW.weights; exact List.mem_singleton.2 rfl)
  have hr : reachBytes = 140737488351232 := by decide
  rw [Array.length_toList] at this
  have h2 : s.data.size = s.size := rfl
  omega

end Go.Proofs.Ytejialnbelleeaa
