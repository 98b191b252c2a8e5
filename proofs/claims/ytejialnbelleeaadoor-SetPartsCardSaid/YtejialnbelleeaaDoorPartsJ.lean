/-
  SetParts is true: the walk and the plain law joined.
-/
import Derived.Test.YtejialnbelleeaaDoorSetQ
import Derived.Test.YtejialnbelleeaaDoorSetP
namespace Go.Proofs.YtejialnbelleeaaDoor
open Go Go.RowKit

theorem countS_le (s : Bs) : 0 ≤ (countS s : Int) ∧ (countS s : Int) ≤ 256 := ⟨by omega, by have := pcn_le s.getLsbD 256; unfold countS; omega⟩

theorem parts_any (a b : Bs) (n : Nat) (hn : n < 256) (w : World) (htab : TabOk w) :
    Calls Tryd.prog 5 #[setV a, setV b, .int .u8 (n : Int)] w fun e w' => e = .returned (.bool true) ∧ Below w.heap.size w w' := by
  have hl : ∀ x ∈ [n], x < 256 := fun x hx => by simp at hx; omega
  have p1 : ~~~(a ||| b) = ~~~a &&& ~~~b := BitVec.not_or
  have p2 : (a &&& ~~~b) ||| (a &&& b) = a := by
    apply bs_ext; intro i hi
    rw [BitVec.getLsbD_or, BitVec.getLsbD_and, BitVec.getLsbD_and, BitVec.getLsbD_not]
    simp only [hi, decide_true, Bool.true_and]
    cases a.getLsbD i <;> cases b.getLsbD i <;> rfl
  have b1 : (a ||| listS [n]).getLsbD n = true := by rw [BitVec.getLsbD_or, list_bit]; simp [hn]
  have b2 : (a &&& ~~~(listS [n])).getLsbD n = false := by rw [BitVec.getLsbD_and, BitVec.getLsbD_not, list_bit]; simp [hn]
  refine parts_walk a b (~~~a) (~~~b) (a ||| b) (~~~(a ||| b)) (a &&& b) (a &&& ~~~b) (listS [n]) (a ||| listS [n]) (a &&& ~~~(listS [n])) n (countS (a ||| b)) (countS (a &&& b)) (countS a) (countS b) (countS (~~~a)) (countS (a ||| listS [n])) (countS (a &&& ~~~(listS [n]))) w htab
    (by have := count_or_and a b; omega) (by have := count_not a; omega) (by have := count_with a n hn; omega) (countS_le _) (countS_le _) (not_any a) ?_ (fun v w hv => mor_any a [b] v w hv) (not_any _) (not_any b) ?_ (less_any a b) (fun v w hv => mand_any a [b] v w hv) ?_
    (count_any _) (count_any _) (count_any _) (count_any _) (count_any _) (count_any _) (count_any _) (fun v w hv => of_any [n] v w hv hl) (fun v w hv => mor_any a [listS [n]] v w hv) (less_any _ _) ?_ ?_
  · intro w
    have := not_any (~~~a) w
    rwa [BitVec.not_not] at this
  · intro v w hv
    have := mand_any (~~~a) [~~~b] v w hv
    rw [p1]
    exact this
  · intro v w hv
    have := mor_any (a &&& ~~~b) [a &&& b] v w hv
    simp only [List.foldl_cons, List.foldl_nil] at this
    rwa [p2] at this
  · intro w
    have := has_any (a ||| listS [n]) n w hn
    rwa [b1] at this
  · intro w
    have := has_any (a &&& ~~~(listS [n])) n w hn
    rwa [b2] at this

end Go.Proofs.YtejialnbelleeaaDoor
