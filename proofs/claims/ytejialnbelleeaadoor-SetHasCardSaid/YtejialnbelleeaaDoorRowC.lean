/-
  For the rows of a seat whose laws reach sets: the start world's table; elements of sets and of runs.
-/
import Derived.Test.YtejialnbelleeaaDoorRowB
import Derived.Test.YtejialnbelleeaaDoorRowE
import Derived.Test.YtejialnbelleeaaDoorSetI
import Derived.Test.YtejialnbelleeaaDoorRows
import Derived.LaidLaws
import Derived.MakeChecks
import Derived.Lay
import Derived.OpenShut
namespace Go.Proofs.YtejialnbelleeaaDoor
open Go Go.RowKit Go.WideShapes Go.ChangeShapes Go.ChangeAt
variable {H : Type} {ec : TypeId × Value → H} {W : World} {base : Nat} {sp : Nat → Bool} {held : Bool}

theorem own : ownKnob Tryd.prog.godebug = none := by kernel_rfl
theorem laidOut : laidOutB Tryd.prog = true := by kernel_rfl

theorem tab_of_laid (h : laidMetH Tryd.prog [("math/bits.deBruijn64tab", Rows.laid_math_bits_deBruijn64tab)] W) : TabOk W := by
  rw [MakeChecks.laidMetH_plain _ _ _ (by kernel_rfl)] at h
  obtain ⟨ps, ⟨g, t, cs, fuel, p, q, hg, ht, hv, hd, _, hps⟩, _, hall⟩ := h
  obtain rfl := Option.some.inj ((show Tryd.prog.globalNamed "math/bits.deBruijn64tab" = some 0 by kernel_rfl).symm.trans hg)
  obtain rfl := Option.some.inj ((show (Tryd.prog.globals[0]?).map (·.type) = some 90 by kernel_rfl).symm.trans ht)
  obtain ⟨xs, m, _, ex, hlen, hl, hel⟩ := DataW.trod_array Tryd.underlying90 hd
  have c5 : Tryd.prog.cellsOf 5 = 1 := by kernel_rfl
  have c6 : Tryd.prog.cellsOf 90 = 64 := by kernel_rfl
  rw [c6] at hlen
  have ev : cs = (deB.map fun n : Nat => Value.int .u8 (n : Int)).toArray := by
    apply Array.ext'
    apply List.ext_getElem?
    intro r
    by_cases hr : r < 64
    · have hE := hel r hr
      rw [c5, Nat.mul_one, List.getElem?_eq_getElem (by omega)] at hE
      obtain ⟨z, e1, e2, _⟩ := DataW.trod_int Tryd.underlying5 hE
      have e3 : (xs.map (·.1)) = deB.map fun n : Nat => .lit (.int .u8 (n : Int)) := (DataW.agg.inj (Prod.mk.inj ex).1).symm
      have e4 : (xs.map (·.1))[r]? = (deB.map fun n : Nat => (DataW.lit (.int .u8 (n : Int)) : DataW Unit))[r]? := by rw [e3]
      have hlenD : deB.length = 64 := rfl
      rw [List.getElem?_map, List.getElem?_map, List.getElem?_eq_getElem (by omega : r < xs.length), List.getElem?_eq_getElem (by omega : r < deB.length), e2] at e4
      simp only [Option.map_some, Option.some.injEq, DataW.lit.injEq, Lit.int.injEq, true_and] at e4
      have h0 : ((cs.toList.drop r).take 1)[0]? = some (.int .u8 z) := by rw [e1]; rfl
      have h1 : cs.toList[r]? = some (.int .u8 z) := by simpa using h0
      rw [h1, List.getElem?_map, List.getElem?_eq_getElem (by omega : r < deB.length), e4]
      rfl
    · rw [List.getElem?_eq_none (by omega), List.getElem?_eq_none (by rw [List.length_map]; have hlenD : deB.length = 64 := rfl; omega)]
  obtain ⟨c, t', hb⟩ := (hall 0 0 (by rw [hps]; refine List.mem_append_left _ (List.mem_append_left _ ?_); unfold MemPlace.row; rw [← Array.length_toList, hlen]; simp)).1
  refine ⟨t', ?_⟩
  rw [hb]
  have hcell := hv
  unfold World.var? at hcell
  rw [hg] at hcell
  simp only [Option.bind_some] at hcell
  rw [hb] at hcell
  injection hcell with hcell
  rw [hcell, ev]

theorem Opens.run : Opens ec Tryd.prog W base sp held 32 runL (fun r => r.1 < 256 ∧ r.2 < 256) := fun fuel cs d ps h _ => by
  have hs : Tryd.prog.cellsOf 32 = 2 := by kernel_rfl
  have hc1 : Tryd.prog.cellsOf 5 = 1 := by kernel_rfl
  obtain ⟨xs, m, _, _, hlen, hl, hel⟩ := DataW.trod_struct Tryd.underlying32 h
  rw [hs] at hlen
  obtain ⟨x0, x1, rfl⟩ : ∃ x0 x1, cs = [x0, x1] := by
    match cs, hlen with
    | [x0, x1], _ => exact ⟨x0, x1, rfl⟩
  have h0 := hel 0 _ rfl
  have h1 := hel 1 _ rfl
  change DataW.trod _ _ _ _ _ _ _ 5 (([x0, x1].drop 0).take (Tryd.prog.cellsOf 5)) = _ at h0
  change DataW.trod _ _ _ _ _ _ _ 5 (([x0, x1].drop 1).take (Tryd.prog.cellsOf 5)) = _ at h1
  rw [hc1] at h0 h1
  rw [List.getElem?_eq_getElem (by rw [hl]; decide)] at h0 h1
  obtain ⟨n0, e0, _, w0⟩ := DataW.trod_int Tryd.underlying5 h0
  obtain ⟨n1, e1, _, w1⟩ := DataW.trod_int Tryd.underlying5 h1
  simp at e0 e1
  subst e0 e1
  obtain ⟨b0, rfl, g0⟩ := u8_wf w0
  obtain ⟨b1, rfl, g1⟩ := u8_wf w1
  exact ⟨(b0, b1), rfl, g0, g1⟩

end Go.Proofs.YtejialnbelleeaaDoor
