/-
  A set that came in as an argument is a set.
-/
import Derived.Test.YtejialnbelleeaaSetBase
import Derived.WideKeyArr2
namespace Go.Proofs.Ytejialnbelleeaa
open Go Go.RowKit

theorem set_of_words (x0 x1 x2 x3 : W64) : ∃ a : Bs, word a 0 = x0 ∧ word a 1 = x1 ∧ word a 2 = x2 ∧ word a 3 = x3 := by
  refine ⟨ofP fun i => if i < 64 then x0.getLsbD i else if i < 128 then x1.getLsbD (i - 64) else if i < 192 then x2.getLsbD (i - 128) else x3.getLsbD (i - 192), ?_, ?_, ?_, ?_⟩
  all_goals
    apply BitVec.eq_of_getLsbD_eq
    intro k hk
    rw [word_bit _ _ _ hk, ofP_bit]
  · rw [if_pos (by omega)]; simp; omega
  · rw [if_neg (by omega), if_pos (by omega), show 64 * 1 + k - 64 = k by omega]; simp; omega
  · rw [if_neg (by omega), if_neg (by omega), if_pos (by omega), show 64 * 2 + k - 128 = k by omega]; simp; omega
  · rw [if_neg (by omega), if_neg (by omega), if_neg (by omega), show 64 * 3 + k - 192 = k by omega]; simp; omega

end Go.Proofs.Ytejialnbelleeaa
