/-
  SetOrders is true: the walk and the plain law joined.
-/
import Derived.Test.YtejialnbelleeaaDoorSetO
import Derived.Test.YtejialnbelleeaaDoorOrdP
namespace Go.Proofs.YtejialnbelleeaaDoor
open Go Go.RowKit

theorem orders_any (a b c : Bs) (w : World) (htab : TabOk w) :
    Calls Tryd.prog 4 #[setV a, setV b, setV c] w fun e w' => e = .returned (.bool true) ∧ Below w.heap.size w w' := by
  refine orders_walk a b c (cmpS a b) (cmpS b c) (cmpS a c) w htab (cmpS_lt a b).1 (cmpS_lt a b).2 (cmpS_zero a b) (cmpS_trans a b c) (fun w h => compare_any a b w h) ?_ (fun w h => compare_any b c w h) (fun w h => compare_any a c w h)
  intro w h
  rw [← cmpS_anti a b]
  exact compare_any b a w h

end Go.Proofs.YtejialnbelleeaaDoor
