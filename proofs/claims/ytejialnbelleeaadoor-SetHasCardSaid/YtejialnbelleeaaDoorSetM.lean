/-
  What the layer's 'wakes' reckons, in plain Lean.
-/
import Derived.Test.YtejialnbelleeaaDoorSetL
namespace Go.Proofs.YtejialnbelleeaaDoor
open Go Go.RowKit

theorem wk_runs : runsS (listS [65, 64, 65]) = [(64, 65)] := by decide +kernel
theorem wk_count : countS (listS [65, 64, 65]) = 2 := by decide +kernel
theorem wk_next : nextS (spanS 250 255) 252 = some 252 := by decide +kernel
theorem wk_next2 : nextS (spanS 250 255) 256 = none := by decide +kernel
theorem wk_from : (fromS [(1, 2), (4, 4)]).isSome = true := by decide +kernel
theorem wk_from2 : fromS [(1, 2), (3, 4)] = none := by decide +kernel
theorem wk_bytes : (fromS [(1, 2), (4, 4)]).map bytesS = some [1, 2, 4] := by decide +kernel
theorem wk_punct : (tabN ⟨#[112, 117, 110, 99, 116]⟩).map countS = some 32 := by decide +kernel
theorem wk_word : tabN ⟨#[119, 111, 114, 100]⟩ = none := by decide +kernel
theorem wk_cmp : cmpS (listS [1]) (listS [2]) = -1 := by decide +kernel
theorem wk_fold : foldS (listS [97, 0]) = listS [65, 97, 0] := by decide +kernel

end Go.Proofs.YtejialnbelleeaaDoor
