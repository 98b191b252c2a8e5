/-
  The law SetHas: whatever the input, the call returns true, and the arguments read as they did.
-/
import Derived.Test.YtejialnbelleeaaDoorRowC
import Derived.Test.YtejialnbelleeaaDoorHasK
import Derived.Test.YtejialnbelleeaaDoorCards
import Derived.Test.YtejialnbelleeaaDoorTie
import Derived.ChangeSame
import Derived.ChangeVars
import Derived.JoinedOf
import Derived.RowKit
import Derived.RowKitTokens
import Derived.LaidHandle
import Derived.Stop.Joined
import Derived.SevenTiedAt
import Derived.ChangeOld
import Derived.ProofKit
import Derived.ShutString
import Derived.SizedLaws
namespace Go.Proofs.YtejialnbelleeaaDoor
open Go Go.RowKit Go.WideShapes Go.ChangeShapes Go.ChangeAt
open Go.ChangeMaps (open_string shut_string)

theorem i64_range {n : Int} (h : (Lit.int .i64 n).wf = true) : -9223372036854775808 ≤ n ∧ n < 9223372036854775808 := by
  simp [Lit.wf, show IntKind.i64.min = -9223372036854775808 from rfl, show IntKind.i64.max = 9223372036854775807 from rfl] at h
  omega
set_option maxRecDepth 100000 in
theorem setHas_lifted (os : Os) (started : os.Started) (H : Type) (enc : TypeId × Value → H) :
    ReturnsInHanded {} Tryd.checked os 9 .any (fun w args => (Rows.setHasSpec.pre enc Tryd.prog Tryd.f9 Rows.setHasRow.domain false w args ∧ laidMetH Tryd.prog Rows.setHasRow.laid w) ∧ sizedMet enc Tryd.prog Tryd.f9 (OpenSpec.ofChange Rows.setHasSpec) false w args)
      (Rows.setHasSpec.post enc Tryd.prog Tryd.f9 false true false false) := by
  refine returnsInHanded_of_change_and (C := Tryd.checked) (X := fun w _ => laidMetH Tryd.prog Rows.setHasRow.laid w) (fun _ _ _ hh h => h.of_heap hh) own started (by kernel_rfl) Tryd.func9
    (ChangeSpec.witness_shaped (enc := enc) (C := Tryd.checked) (os := os) (X := fun w _ => laidMetH Tryd.prog Rows.setHasRow.laid w) false (World.laidAll Tryd.prog os Rows.setHasRow.laid) #[.slice none 0 0, .slice none 0 0, .slice none 0 0] 8 (World.laidAll_os _ _ _)
      (World.shaped_of_ZipB (by kernel_rfl) (by kernel_rfl)) (by kernel_rfl) (by kernel_rfl) (by kernel_rfl)
      (by rw [MakeChecks.laidMetH_plain _ _ _ (by kernel_rfl)]; exact laidMet_laidAll _ (by kernel_rfl) (by kernel_rfl))) ?_
  intro W base args ds gs before hval0 hW _ hsz0 hL _
  have hsz : (DataW.weightsEach Tryd.prog (Tryd.f9.params.toList ++ Rows.setHasSpec.plain.varTypes Tryd.prog) (ds ++ gs)).all (· ≤ reachBytes) = true := hsz0
  have hval : ∀ (j : Nat) t v, Tryd.f9.params[j]? = some t → args[j]? = some v → Value.okWide Tryd.prog W .any base t v := hval0
  have hW' := hW
  obtain ⟨p, q, hA0, hV, rfl, _, _⟩ := hW
  have hA : DataW.TrodAll enc Tryd.prog W 0 (fun _ => true) true Tryd.f9.params.toList args.toList ds p := hA0
  rw [Tryd.params9] at hA hval hsz
  obtain ⟨v0, vs0, d0, ds0, p0, q0, hargs, rfl, rfl, r0, e0⟩ := trodAll_cons hA
  obtain ⟨v1, vs1, d1, ds1, p1, q1, rfl, rfl, rfl, r1, e1⟩ := trodAll_cons e0
  obtain ⟨v2, vs2, d2, ds2, p2, q2, rfl, rfl, rfl, r2, e2⟩ := trodAll_cons e1
  obtain ⟨rfl, rfl, rfl⟩ := trodAll_nil e2
  obtain rfl : args = #[v0, v1, v2] := by cases args; simp_all
  obtain ⟨rfl, rfl⟩ := trodVars_none hV
  have lt0 : ∀ x ∈ p0, x.block < W.heap.size := by obtain ⟨m, hm⟩ := r0; exact DataW.trod_lt m _ _ _ hm
  have k0 := r0
  obtain ⟨a0, len0, cap0, rfl⟩ := okWide_slice Tryd.underlying34 (hval 0 34 v0 rfl rfl)
  obtain ⟨x0, n0, h0, y0, g0⟩ := open_rows (sz := 1) (B := 1) Tryd.underlying34 (by kernel_rfl) (by kernel_rfl) (by decide) (by decide) (Opens.byte Tryd.underlying5) r0 hsz (j := 0) rfl rfl
  have lt1 : ∀ x ∈ p1, x.block < W.heap.size := by obtain ⟨m, hm⟩ := r1; exact DataW.trod_lt m _ _ _ hm
  have k1 := r1
  obtain ⟨a1, len1, cap1, rfl⟩ := okWide_slice Tryd.underlying46 (hval 1 46 v1 rfl rfl)
  obtain ⟨x1, n1, h1, y1, g1⟩ := open_rows (sz := 4) (B := 32) Tryd.underlying46 (by kernel_rfl) (by kernel_rfl) (by decide) (by decide) Opens.set r1 hsz (j := 1) rfl rfl
  have lt2 : ∀ x ∈ p2, x.block < W.heap.size := by obtain ⟨m, hm⟩ := r2; exact DataW.trod_lt m _ _ _ hm
  have k2 := r2
  obtain ⟨a2, len2, cap2, rfl⟩ := okWide_slice Tryd.underlying58 (hval 2 58 v2 rfl rfl)
  obtain ⟨x2, n2, h2, y2, g2⟩ := open_rows (sz := 1) (B := 8) Tryd.underlying58 (by kernel_rfl) (by kernel_rfl) (by decide) (by decide) (Opens.int Tryd.underlying3) r2 hsz (j := 2) rfl rfl
  have htab := tab_of_laid hL
  clear hA0 hval0 hsz0 hsz hL
  refine (has_walk x0 x1 x2 _ _ _ _ _ _ _ _ _ W htab h0 h1 h2 g0 (fun n hn => i64_range (g2 n hn))).mono fun e W' ⟨he, bel⟩ => ?_
  subst he
  exact ⟨_, rfl, _, _, _, [], _, [], hW', trodAll_mk1 (shut_bool Tryd.underlying4 _), (trodAll_cons_mk (Below.trod laidOut (by kernel_rfl) (of_decide_eq_true (by kernel_rfl)) k0 bel lt0) (trodAll_cons_mk (Below.trod laidOut (by kernel_rfl) (of_decide_eq_true (by kernel_rfl)) k1 bel lt1) (trodAll_cons_mk (Below.trod laidOut (by kernel_rfl) (of_decide_eq_true (by kernel_rfl)) k2 bel lt2) trodAll_mk0))), rfl, bel.frame _, fun h => by cases h⟩

theorem setHas_row : Rows.SetHasSaid :=
  OpenClaim.holds_of_wide 9 Tryd.f9 rfl rfl rfl rfl rfl rfl rfl ⟨rfl, rfl, rfl, rfl, rfl⟩ rfl rfl rfl rfl rfl (by kernel_rfl) Tryd.func9 (by kernel_rfl)
    (of_decide_eq_true (by kernel_rfl)) (by unfold Func.isWrapper; first | (rw [if_pos (by decide +kernel)]; kernel_rfl) | (rw [if_neg (by decide +kernel)]; exact ⟨rfl, rfl⟩))
    (fun os started H enc _ => setHas_lifted os started H enc)

theorem setHas_holds : Rows.SetHasCardSaid :=
  Claim7.holds_tied_plain_at .later [] [.data] true Rows.setHasCard.stood.harness false setHas_row (fun _ h => by cases h) (by kernel_rfl) (fun _ h => by cases h) setHas_row_tie rfl ⟨rfl, rfl⟩ (by kernel_rfl) rfl
    (fun f fn hf hfn => by
      obtain rfl : f = 9 := Option.some.inj ((show Tryd.prog.funcNamed "cornice/cornicelaw01.SetHas" = some 9 by kernel_rfl).symm.trans hf) |>.symm
      obtain rfl : fn = Tryd.f9 := (Option.some.inj (Tryd.func9.symm.trans hfn)).symm
      exact ⟨by kernel_rfl, fun j t ht => by
        rw [Tryd.params9] at ht
        have hm : t ∈ [34, 46, 58] := by simpa using Array.mem_of_getElem? ht
        have hall : ([34, 46, 58].all fun u => !Tryd.prog.wantsStandIn u) = true := by kernel_rfl
        exact (show Tryd.prog.wantsStandIn t = false by simpa using List.all_eq_true.1 hall t hm)⟩)
    (by kernel_rfl)
#print axioms setHas_holds

end Go.Proofs.YtejialnbelleeaaDoor
