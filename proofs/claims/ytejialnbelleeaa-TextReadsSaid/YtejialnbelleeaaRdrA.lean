/-
  The reference's reader: Left, fail.
-/
import Derived.Test.YtejialnbelleeaaTxtP
namespace Go.Proofs.Ytejialnbelleeaa
open Go Go.RowKit

/-- A reader as a value. -/
abbrev rdC (s : ByteArray) (p : Nat) (er : Int) : Array Value := #[.string s, .int .i64 (p : Int), .int .i64 er]
abbrev rdV (s : ByteArray) (p : Nat) (er : Int) : Value := .agg (rdC s p er)

theorem rLeft_any (s : ByteArray) (p : Nat) (er : Int) (w : World) (hp : p ≤ s.size) (hs : s.size ≤ 140737488351232) :
    Calls Try.prog 26 #[rdV s p er] w fun e w' => e = .returned (.int .i64 (leftN s p er)) ∧ Ext G0 w w' := by
  have h9 := IntWalk.i64_in ((s.size : Int) - (p : Int)) (by omega)
  by_cases he : er = 0
  · subst he
    rw [show leftN s p 0 = (s.size : Int) - (p : Int) from if_pos rfl]
    go_enter Try.func26, Try.ntmps26
    go_wp2
    go_ret
    exact ⟨rfl, (Ext.refl _ _).alloc _⟩
  · have t1 : (er != 0) = true := by simp [he]
    rw [show leftN s p er = 0 from if_neg he]
    go_enter Try.func26, Try.ntmps26
    go_wp2
    go_ret
    exact ⟨rfl, (Ext.refl _ _).alloc _⟩

theorem rfail_any (s : ByteArray) (p : Nat) (er at_ fe : Int) (w : World) :
    Calls Try.prog 62 #[rdV s p er, .int .i64 at_, .int .i64 fe] w fun e w' => e = .returned (.agg #[.string s, .int .i64 at_, .int .i64 fe]) ∧ Ext G0 w w' := by
  go_enter Try.func62, Try.ntmps62
  go_wp2
  refine bodyPost_ret (v := .agg #[.string s, .int .i64 at_, .int .i64 fe]) (by simp [results, Try.results62, go_sem]) rfl ⟨rfl, ?_⟩
  exact (((Ext.refl _ _).alloc _).alloc _)

end Go.Proofs.Ytejialnbelleeaa
