/-
  An argument of type api.Set is a set (under way).
-/
import Derived.Test.YtejialnbelleeaaDoorRowA
import Derived.Test.YtejialnbelleeaaDoorSetA
namespace Go.Proofs.YtejialnbelleeaaDoor
open Go Go.RowKit Go.WideMaps Go.WideShapes Go.ChangeShapes
variable {H : Type} {enc : TypeId × Value → H}

theorem trod4 {W : World} {base : Nat} {sp : Nat → Bool} {held : Bool} {v : Value} {d : DataW H} {ps : List MemPlace} {r : Reach} {b0 : Nat} (hw : Value.okWide Tryd.prog W r b0 24 v) (hd : DataW.Trod enc Tryd.prog W base sp held 24 v d ps) :
    ∃ a : Bs, v = setV a ∧ ps = [] := by
  have A : ArrKey Tryd.prog 24 22 4 := ⟨Tryd.underlying24, by kernel_rfl, by kernel_rfl, by kernel_rfl⟩
  obtain ⟨xs, rfl, hn⟩ := okWide_arr A hw
  obtain ⟨x0, x1, x2, x3, rfl⟩ : ∃ x0 x1 x2 x3, xs = #[x0, x1, x2, x3] := by
    rcases xs with ⟨l⟩
    match l, hn with
    | [x0, x1, x2, x3], _ => exact ⟨x0, x1, x2, x3, rfl⟩
  obtain ⟨fuel, hf⟩ := hd
  cases fuel with
  | zero => simp [DataW.trod] at hf
  | succ m =>
    rw [DataW.trod_step] at hf
    unfold DataW.trodStep at hf
    simp only [A.hu, Value.cells] at hf
    rw [if_pos (by rw [A.size]; simp)] at hf
    simp only [Option.map_eq_some_iff] at hf
    obtain ⟨ys, hy, e1⟩ := hf
    rw [show List.range 4 = [0, 1, 2, 3] from rfl] at hy
    simp only [List.mapM_cons, List.mapM_nil, bind, Option.bind_eq_some_iff, pure, Option.some.injEq, A.one] at hy
    obtain ⟨y0, h0, _, ⟨y1, h1, _, ⟨y2, h2, _, ⟨y3, h3, _, rfl, rfl⟩, rfl⟩, rfl⟩, rfl⟩ := hy
    obtain ⟨n0, e0, rfl, w0⟩ := DataW.trod_int Tryd.underlying22 h0
    obtain ⟨n1, e1', rfl, w1⟩ := DataW.trod_int Tryd.underlying22 h1
    obtain ⟨n2, e2, rfl, w2⟩ := DataW.trod_int Tryd.underlying22 h2
    obtain ⟨n3, e3, rfl, w3⟩ := DataW.trod_int Tryd.underlying22 h3
    simp at e0 e1' e2 e3 e1
    subst e0 e1' e2 e3
    have key : ∀ n : Int, (Lit.int .u64 n).wf = true → ∃ x : W64, n = (x.toNat : Int) := fun n hn => by
      have hb : 0 ≤ n ∧ n < 18446744073709551616 := by
        simp [Lit.wf, show IntKind.u64.min = 0 from rfl, show IntKind.u64.max = 18446744073709551615 from rfl] at hn
        omega
      exact ⟨BitVec.ofNat 64 n.toNat, by rw [BitVec.toNat_ofNat]; omega⟩
    obtain ⟨z0, rfl⟩ := key n0 w0
    obtain ⟨z1, rfl⟩ := key n1 w1
    obtain ⟨z2, rfl⟩ := key n2 w2
    obtain ⟨z3, rfl⟩ := key n3 w3
    obtain ⟨a, rfl, rfl, rfl, rfl⟩ := set_of_words z0 z1 z2 z3
    exact ⟨a, rfl, e1.2⟩

end Go.Proofs.YtejialnbelleeaaDoor
