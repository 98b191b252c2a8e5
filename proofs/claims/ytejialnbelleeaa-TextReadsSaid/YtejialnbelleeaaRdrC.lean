/-
  The reference's reader: Fail.
-/
import Derived.Test.YtejialnbelleeaaRdrA
namespace Go.Proofs.Ytejialnbelleeaa
open Go Go.RowKit

set_option maxHeartbeats 2000000 in
theorem rFail_any (s : ByteArray) (p : Nat) (er at_ fe : Int) (w : World) :
    Calls Try.prog 52 #[rdV s p er, .int .i64 at_, .int .i64 fe] w fun e w' => e = .returned (rdV s (stepR p er (failR s p at_ fe)).pos (stepR p er (failR s p at_ fe)).err) ∧ Ext G0 w w' := by
  by_cases he : er = 0
  · subst he
    rw [show stepR p 0 (failR s p at_ fe) = failR s p at_ fe from if_pos rfl]
    by_cases hf : fe = 0
    · subst hf
      rw [show failR s p at_ 0 = .ok true p from if_pos rfl]
      go_enter Try.func52, Try.ntmps52
      go_wp2
      refine bodyPost_ret (v := rdV s p 0) (by simp [results, Try.results52, go_sem]) rfl ⟨rfl, ?_⟩
      exact ((Ext.refl _ _).alloc _).alloc _
    · have t2 : (fe == 0) = false := by simp [hf]
      rw [show failR s p at_ fe = .fail (min (max at_ 0) (s.size : Int)).toNat fe from if_neg hf]
      obtain ⟨v, hv⟩ : ∃ v : Int, v = min (max at_ 0) (s.size : Int) := ⟨_, rfl⟩
      have hvn : ((v.toNat : Nat) : Int) = v := by omega
      rw [← hv]
      have hcase : (at_ < 0 ∧ v = 0) ∨ (¬ at_ < 0 ∧ (s.size : Int) < at_ ∧ v = (s.size : Int)) ∨ (¬ at_ < 0 ∧ ¬ (s.size : Int) < at_ ∧ v = at_) := by omega
      replace hvn := Lib.hid hvn
      clear hv
      rcases hcase with ⟨h1, hv⟩ | ⟨h1, h2, hv⟩ | ⟨h1, h2, hv⟩
      all_goals
        have HV := Lib.hid hv
        clear hv
        go_enter Try.func52, Try.ntmps52
        go_wp2_with fail
        refine (rfail_any s p 0 _ fe _).mono ?_
        rintro e w1 ⟨rfl, x1⟩
        generalize hwz : World.alloc _ _ = wz at x1
        have y0 : Ext G0 w wz := by rw [← hwz]; exact ((Ext.refl _ _).alloc _).alloc _
        have gR : wz.heap[w.heap.size + 1]? = some (.cells #[.string ByteArray.empty, .int .i64 0, .int .i64 0] 52 (0, 0)) := by rw [← hwz]; exact heap_two w _ _
        replace gR := ext_heap x1 gR (fun x => x)
        have r0 := blk_cell gR 0
        have r1 := blk_cell gR 1
        have r2 := blk_cell gR 2
        have z := blk_free gR
        have hl := lt_of_block gR
        have hx := y0.trans x1
        go_wp2
        refine bodyPost_ret (v := .agg #[.string s, .int .i64 v, .int .i64 fe]) (by simp [results, Try.results52, go_sem, r0, r1, r2, HV.out]) rfl ⟨?_, ?_⟩
        · simp only [Res.pos, Res.err, rdV, rdC, hvn.out]
        · exact ((hx.set (by simp) _).set (by simp) _).set (by simp) _
  · have t1 : (er != 0) = true := by simp [he]
    rw [show stepR p er (failR s p at_ fe) = .fail p er from if_neg he]
    go_enter Try.func52, Try.ntmps52
    go_wp2
    refine bodyPost_ret (v := rdV s p er) (by simp [results, Try.results52, go_sem]) rfl ⟨rfl, ?_⟩
    exact ((Ext.refl _ _).alloc _).alloc _

end Go.Proofs.Ytejialnbelleeaa
