/-
  slices.Clone at rows of strings.
-/
import Derived.Test.YtejialnbelleeaaSlLib
import Derived.Test.YtejialnbelleeaaTxtJ
namespace Go.Proofs.Ytejialnbelleeaa
open Go Go.RowKit

theorem info_ofStr : (Try.prog.info? 9).map (fun i => (i.zero, i.size, i.bytes)) = some (some (.string ByteArray.empty), 1, 16) := by kernel_rfl
set_option maxRecDepth 100000 in
set_option maxHeartbeats 2000000 in
theorem cloneStr_any (l : List ByteArray) (v : Value) (w : World) (hv : SlAt 1 strL w v l) (hbig : l.length * 16 ≤ 140737488355328) :
    Calls Try.prog 46 #[v] w fun e w' => ∃ v', e = .returned v' ∧ w'.ownsRow w.heap.size 9 1 v' l.length (l.flatMap strL) ∧ Below w.heap.size w w' := by
  obtain ⟨i0, hi, hz0, hz1, hz2⟩ := info_parts info_ofStr
  have hq : ∀ (w : World) (a : Option Addr) (n c n' c' : Nat), (binOp .eql 22 (.slice a n c) (.slice none n' c')).run Try.prog w = .ok (.bool a.isNone) w := fun w a n c n' c' => Lib.run_eql_slice_nil w _ _ a n c n' c' Try.underlying22
  have hlen := flat_len 1 strL l (fun _ _ => rfl)
  have hone : ∀ u ∈ l.flatMap strL, u.oneCell' = true := by
    intro u hu
    obtain ⟨x, _, hx⟩ := List.mem_flatMap.1 hu
    simp only [List.mem_cons, List.not_mem_nil, or_false] at hx
    first | (subst hx; rfl) | (rcases hx with rfl | rfl <;> rfl) | (rcases hx with rfl | rfl | rfl | rfl <;> rfl)
  have hv0 := hv
  obtain ⟨A, c, rfl, ⟨hc, hm⟩, h0⟩ := hv0
  cases A with
  | none =>
    have hl : l = [] := by
      rcases h0 with h | ⟨b, off, h, _⟩
      · exact h
      · cases h
    subst hl
    clear h0 hv hm hc hbig hone hlen
    go_enter Try.func46, Try.ntmps46
    go_wp2
    go_ret
    exact ⟨_, rfl, World.ownsRow_nil _ _ _ _, Below.refl _ _⟩
  | some a =>
    have hsrc := Lib.hid (SlAt.src (sz := 1) (enc := strL) (fun _ _ => rfl) hv)
    have HO := Lib.hid hone
    have HL := Lib.hid hlen
    clear h0 hv hone hlen
    go_enter Try.func46, Try.ntmps46
    go_wp2_with (at_builtin; refine wpList_append_own _ rfl _ _ 22 rfl w.heap.size 9 i0 _ 1 16 Try.underlying22 hi hz0 hz1 hz2 rfl (by decide) _ _ _ rfl (World.ownsRow_made w #[] 0 (Nat.le_refl _) (Nat.zero_le _) rfl) a l.length c (l.flatMap strL) rfl HL.out (fun j u hj => cell_ext ((Ext.refl _ _).alloc _) (hsrc.out j u hj)) HO.out (by simp only [maxLen]; omega) (by omega) (by simp) ?_; intro v' w1 hown hgrow _)
    go_ret
    refine ⟨v', rfl, by simpa using hown, ?_⟩
    exact ((Below.refl _ w).alloc (Nat.le_refl _) _).grown hgrow (by simp) (fun k hk => Nat.le_of_eq (Option.some.inj (show some w.heap.size = some k from hk)))
end Go.Proofs.Ytejialnbelleeaa
