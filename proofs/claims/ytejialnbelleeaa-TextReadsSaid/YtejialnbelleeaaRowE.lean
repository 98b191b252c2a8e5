/-
  Elements of sets, opened.
-/
import Derived.Test.YtejialnbelleeaaRowA
import Derived.Test.YtejialnbelleeaaRowO
import Derived.OpenShut
namespace Go.Proofs.Ytejialnbelleeaa
open Go Go.RowKit Go.WideShapes Go.ChangeShapes
variable {H : Type} {ec : TypeId × Value → H} {W : World} {base : Nat} {sp : Nat → Bool} {held : Bool}

theorem Opens.set : Opens ec Try.prog W base sp held 25 setL (fun _ => True) := fun fuel cs d ps h _ => by
  have hs : Try.prog.cellsOf 25 = 4 := by kernel_rfl
  have hc1 : Try.prog.cellsOf 23 = 1 := by kernel_rfl
  obtain ⟨xs, m, _, _, hlen, hl, hel⟩ := DataW.trod_array Try.underlying25 h
  rw [hs] at hlen
  obtain ⟨x0, x1, x2, x3, rfl⟩ : ∃ x0 x1 x2 x3, cs = [x0, x1, x2, x3] := by
    match cs, hlen with
    | [x0, x1, x2, x3], _ => exact ⟨x0, x1, x2, x3, rfl⟩
  have key : ∀ n : Int, (Lit.int .u64 n).wf = true → ∃ x : W64, n = (x.toNat : Int) := fun n hn => by
    have hb : 0 ≤ n ∧ n < 18446744073709551616 := by
      simp [Lit.wf, show IntKind.u64.min = 0 from rfl, show IntKind.u64.max = 18446744073709551615 from rfl] at hn
      omega
    exact ⟨BitVec.ofNat 64 n.toNat, by rw [BitVec.toNat_ofNat]; omega⟩
  have one : ∀ i x, i < 4 → (([x0, x1, x2, x3].drop (i * 1)).take 1) = [x] → ∃ z : W64, x = wordV z := fun i x hi hx => by
    have hE := hel i hi
    rw [hc1, hx, List.getElem?_eq_getElem (by omega)] at hE
    obtain ⟨n, e, _, hw⟩ := DataW.trod_int Try.underlying23 hE
    injection e with e _
    obtain ⟨z, rfl⟩ := key n hw
    exact ⟨z, e⟩
  obtain ⟨z0, rfl⟩ := one 0 x0 (by decide) rfl
  obtain ⟨z1, rfl⟩ := one 1 x1 (by decide) rfl
  obtain ⟨z2, rfl⟩ := one 2 x2 (by decide) rfl
  obtain ⟨z3, rfl⟩ := one 3 x3 (by decide) rfl
  obtain ⟨a, rfl, rfl, rfl, rfl⟩ := set_of_words z0 z1 z2 z3
  exact ⟨a, rfl, trivial⟩

end Go.Proofs.Ytejialnbelleeaa
