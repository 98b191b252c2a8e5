/-
  The reference's reader: End.
-/
import Derived.Test.YtejialnbelleeaaRdrA
namespace Go.Proofs.Ytejialnbelleeaa
open Go Go.RowKit

set_option maxHeartbeats 2000000 in
theorem rEnd_any (s : ByteArray) (p : Nat) (er : Int) (w : World) (hp : p ≤ s.size) :
    Calls Try.prog 53 #[rdV s p er] w fun e w' => e = .returned (.tuple #[rdV s (stepR p er (endR s p)).pos (stepR p er (endR s p)).err, .bool ((stepR p er (endR s p)).val false)]) ∧ Ext G0 w w' := by
  by_cases he : er = 0
  · subst he
    rw [show stepR p 0 (endR s p) = endR s p from if_pos rfl]
    by_cases hlt : p < s.size
    · have t1 : decide (p < s.size) = true := by simp [hlt]
      rw [show endR s p = .fail p 130 from if_pos hlt]
      go_enter Try.func53, Try.ntmps53
      go_wp2_with fail
      refine (rfail_any s p 0 p 130 _).mono ?_
      rintro e w1 ⟨rfl, x1⟩
      generalize hwz : World.alloc _ _ = wz at x1
      have y0 : Ext G0 w wz := by rw [← hwz]; exact ((Ext.refl _ _).alloc _).alloc _
      have gR : wz.heap[w.heap.size + 1]? = some (.cells #[.string ByteArray.empty, .int .i64 0, .int .i64 0] 52 (0, 0)) := by rw [← hwz]; exact heap_two w _ _
      replace gR := ext_heap x1 gR (fun x => x)
      have r0 := blk_cell gR 0
      have r1 := blk_cell gR 1
      have r2 := blk_cell gR 2
      have z := blk_free gR
      have hl := lt_of_block gR
      have hx := y0.trans x1
      go_wp2
      refine bodyPost_ret (v := .tuple #[rdV s p 130, .bool false]) (by simp [results, Try.results53, go_sem, r0, r1, r2]) rfl ⟨rfl, ?_⟩
      exact ((hx.set (by simp) _).set (by simp) _).set (by simp) _
    · have t1 : decide (p < s.size) = false := by simp; omega
      rw [show endR s p = .ok true p from if_neg hlt]
      go_enter Try.func53, Try.ntmps53
      go_wp2
      refine bodyPost_ret (v := .tuple #[rdV s p 0, .bool true]) (by simp [results, Try.results53, go_sem]) rfl ⟨rfl, ?_⟩
      exact ((Ext.refl _ _).alloc _).alloc _
  · have t1 : (er != 0) = true := by simp [he]
    rw [show stepR p er (endR s p) = .fail p er from if_neg he]
    go_enter Try.func53, Try.ntmps53
    go_wp2
    refine bodyPost_ret (v := .tuple #[rdV s p er, .bool false]) (by simp [results, Try.results53, go_sem]) rfl ⟨rfl, ?_⟩
    exact ((Ext.refl _ _).alloc _).alloc _

end Go.Proofs.Ytejialnbelleeaa
