/-
  For the rows of the laws of the text: calls that came in.
-/
import Derived.Test.YtejialnbelleeaaRowE
import Derived.Test.YtejialnbelleeaaTxtM
import Derived.Test.YtejialnbelleeaaRows
import Derived.OpenShut
namespace Go.Proofs.Ytejialnbelleeaa
open Go Go.RowKit Go.WideShapes Go.ChangeShapes Go.ChangeAt
variable {H : Type} {ec : TypeId × Value → H} {W : World} {base : Nat} {sp : Nat → Bool} {held : Bool}

theorem own : ownKnob Try.prog.godebug = none := by kernel_rfl
theorem laidOut : laidOutB Try.prog = true := by kernel_rfl

theorem i64_wf {n : Int} (h : (Lit.int .i64 n).wf = true) : -9223372036854775808 ≤ n ∧ n ≤ 9223372036854775807 := by
  simp [Lit.wf, show IntKind.i64.min = -9223372036854775808 from rfl, show IntKind.i64.max = 9223372036854775807 from rfl] at h
  omega

theorem Opens.call : Opens ec Try.prog W base sp held 27 callL (fun x => x.good W) := fun fuel cs d ps h hw => by
  have hs : Try.prog.cellsOf 27 = 8 := by kernel_rfl
  have c1 : Try.prog.cellsOf 3 = 1 := by kernel_rfl
  have c2 : Try.prog.cellsOf 22 = 1 := by kernel_rfl
  have c3 : Try.prog.cellsOf 25 = 4 := by kernel_rfl
  have c4 : Try.prog.cellsOf 4 = 1 := by kernel_rfl
  obtain ⟨xs, m, _, hx, hlen, hl, hel⟩ := DataW.trod_struct Try.underlying27 h
  rw [hs] at hlen
  obtain ⟨x0, x1, x2, x3, x4, x5, x6, x7, rfl⟩ : ∃ x0 x1 x2 x3 x4 x5 x6 x7, cs = [x0, x1, x2, x3, x4, x5, x6, x7] := by
    match cs, hlen with
    | [x0, x1, x2, x3, x4, x5, x6, x7], _ => exact ⟨x0, x1, x2, x3, x4, x5, x6, x7, rfl⟩
  have hl5 : xs.length = 5 := hl
  have h0 := hel 0 _ rfl
  have h1 := hel 1 _ rfl
  have h2 := hel 2 _ rfl
  have h3 := hel 3 _ rfl
  have h4 := hel 4 _ rfl
  change DataW.trod _ _ _ _ _ _ _ 3 (([x0, x1, x2, x3, x4, x5, x6, x7].drop 0).take (Try.prog.cellsOf 3)) = _ at h0
  change DataW.trod _ _ _ _ _ _ _ 22 (([x0, x1, x2, x3, x4, x5, x6, x7].drop 1).take (Try.prog.cellsOf 22)) = _ at h1
  change DataW.trod _ _ _ _ _ _ _ 25 (([x0, x1, x2, x3, x4, x5, x6, x7].drop 2).take (Try.prog.cellsOf 25)) = _ at h2
  change DataW.trod _ _ _ _ _ _ _ 3 (([x0, x1, x2, x3, x4, x5, x6, x7].drop 6).take (Try.prog.cellsOf 3)) = _ at h3
  change DataW.trod _ _ _ _ _ _ _ 4 (([x0, x1, x2, x3, x4, x5, x6, x7].drop 7).take (Try.prog.cellsOf 4)) = _ at h4
  rw [c1] at h0 h3
  rw [c2] at h1
  rw [c3] at h2
  rw [c4] at h4
  rw [List.getElem?_eq_getElem (by omega)] at h0 h1 h2 h3 h4
  obtain ⟨k, e0, _, w0⟩ := DataW.trod_int Try.underlying3 h0
  obtain ⟨n, e3, _, w3⟩ := DataW.trod_int Try.underlying3 h3
  obtain ⟨pl, e4, _⟩ := DataW.trod_bool Try.underlying4 h4
  have hd := (Prod.mk.inj hx).1
  have hw1 : ∀ j (hj : j < xs.length) t, ([3, 22, 25, 3, 4] : List TypeId)[j]? = some t → ∀ q ∈ (xs[j]'hj).1.weights Try.prog t, q ≤ reachBytes := fun j hj t ht q hq => by
    refine hw q ?_
    rw [hd]
    unfold DataW.weights
    rw [Try.underlying27]
    exact DataW.weights_mem_each (ts := [3, 22, 25, 3, 4]) (j := j) ht (by rw [List.getElem?_map, List.getElem?_eq_getElem hj]; rfl) q hq
  obtain ⟨l, A, c, e1, hv, hb, hsz⟩ := open_rows0 (sz := 1) (B := 16) Try.underlying22 (by kernel_rfl) (by kernel_rfl) (by decide) (by decide) (Opens.string Try.underlying9) (show DataW.trod _ _ _ _ _ _ _ 22 _ = some ((xs[1]'(by omega)).1, (xs[1]'(by omega)).2) from h1) (hw1 1 (by omega) _ rfl)
  obtain ⟨a, e2, _⟩ := Opens.set (ec := ec) (W := W) (base := base) (sp := sp) (held := held) _ _ _ _ h2 (hw1 2 (by omega) _ rfl)
  simp only [List.drop_zero, List.take_succ_cons, List.take_zero, List.drop_succ_cons, List.cons.injEq, and_true] at e0 e1 e2 e3 e4
  obtain ⟨rfl, rfl, rfl, rfl⟩ := e2
  subst e0 e1 e3 e4
  have hk := i64_wf w0
  have hn := i64_wf w3
  exact ⟨⟨k, l, A, c, a, n, pl⟩, rfl, hv, hsz, hn.1, hn.2, hk.1, hk.2⟩

theorem trod_call {v : Value} {d : DataW H} {ps : List MemPlace} {r : Reach} {b0 : Nat} (hw : Value.okWide Try.prog W r b0 27 v) (hd : DataW.Trod ec Try.prog W base sp held 27 v d ps) (hwt : ∀ n ∈ d.weights Try.prog 27, n ≤ reachBytes) :
    ∃ x : CallR, v = callV x ∧ x.good W := by
  obtain ⟨fuel, hf⟩ := hd
  obtain ⟨x, hc, hg⟩ := Opens.call fuel _ _ _ hf hwt
  refine ⟨x, ?_, hg⟩
  simp only [Value.okWide, Try.underlying27] at hw
  obtain ⟨cs, rfl, _⟩ := hw
  have hc : cs.toList = callL x := hc
  have : cs = (callL x).toArray := by rw [← hc]
  rw [this]

end Go.Proofs.Ytejialnbelleeaa
