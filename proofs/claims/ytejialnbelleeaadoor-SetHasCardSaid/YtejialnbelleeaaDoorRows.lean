/-
  NARROWER THAN 'FOR EVERY INPUT', by the rows' own cells (each row's printed sentence says how): SetBack: laid · SetOrders: laid · SetParts: laid · SetRuns: laid · SetNames: laid · SetJoins: laid · SetHas: laid.
  DERIVED. THE GIVEN ROWS OF THIS SEAT. 7 by the template 'for every input the law returns true; each argument reads behind the call as it read before'; 0 by the template 'total and deterministic' (their statements: YtejialnbelleeaaDoorTotals.lean).
  GIVEN WITH THE SEED: the statements are not yours to turn. If you find one false, say at which input.
  Laid BY PROGRAM, IN A SANDBOX (cutbox-rows.mjs): the forced cells as the released guide's own fill.sh prints them over the translation ed39ff92fd5720e4… (all of the seat's roots in one cut). By AI agents, Wed Nov 11 2026. No macro, syntax, notation, axiom, sorry.
-/
import Derived.Test.YtejialnbelleeaaDoorChecked
import GoSem.Claim
import GoSem.ClaimJoined
import GoSem.ClaimMapViews
import Derived.JoinedTies
import Derived.KernelRfl
namespace Go.Proofs.YtejialnbelleeaaDoor
/- THE CELL 'sum', in the pinned program and in every row, IS THE sha256 OF THE DUMP (.gsa) THAT YtejialnbelleeaaDoorProg.lean LOADS. Nothing in Lean hashes anything: it is a label: what it is worth is what the hold of that sum in a sandbox is worth. -/
noncomputable def Tryd.pinned : Pinned := { name := "ytejialnbelleeaadoor", sum := "ed39ff92fd5720e474e49f3fab1ba5e094f58d5fe411f858086c3b65ea91b3cd", checked := Tryd.checked }
namespace Rows
def none {H : Type} : Left H := { results := [], args := [] }

/- WHAT THE LISTED PACKAGE-LEVEL VARIABLES READ AS WHEN THE CALL BEGINS. Each datum BY PROGRAM (the guide's laid-datum.mjs) off the statement by which the dump's own 'gosem.cut.vars' lays the variable. In a bare row this is a premise. The card (YtejialnbelleeaaDoorCards.lean) ties it to the program's text. -/
def laid_math_bits_deBruijn64tab {H : Type} : DataW H := .agg [.lit (.int .u8 0), .lit (.int .u8 1), .lit (.int .u8 56), .lit (.int .u8 2), .lit (.int .u8 57), .lit (.int .u8 49), .lit (.int .u8 28), .lit (.int .u8 3), .lit (.int .u8 61), .lit (.int .u8 58), .lit (.int .u8 42), .lit (.int .u8 50), .lit (.int .u8 38), .lit (.int .u8 29), .lit (.int .u8 17), .lit (.int .u8 4), .lit (.int .u8 62), .lit (.int .u8 47), .lit (.int .u8 59), .lit (.int .u8 36), .lit (.int .u8 45), .lit (.int .u8 43), .lit (.int .u8 51), .lit (.int .u8 22), .lit (.int .u8 53), .lit (.int .u8 39), .lit (.int .u8 33), .lit (.int .u8 30), .lit (.int .u8 24), .lit (.int .u8 18), .lit (.int .u8 12), .lit (.int .u8 5), .lit (.int .u8 63), .lit (.int .u8 55), .lit (.int .u8 48), .lit (.int .u8 27), .lit (.int .u8 60), .lit (.int .u8 41), .lit (.int .u8 37), .lit (.int .u8 16), .lit (.int .u8 46), .lit (.int .u8 35), .lit (.int .u8 44), .lit (.int .u8 21), .lit (.int .u8 52), .lit (.int .u8 32), .lit (.int .u8 23), .lit (.int .u8 11), .lit (.int .u8 54), .lit (.int .u8 26), .lit (.int .u8 40), .lit (.int .u8 15), .lit (.int .u8 34), .lit (.int .u8 20), .lit (.int .u8 31), .lit (.int .u8 10), .lit (.int .u8 25), .lit (.int .u8 14), .lit (.int .u8 19), .lit (.int .u8 9), .lit (.int .u8 13), .lit (.int .u8 8), .lit (.int .u8 7), .lit (.int .u8 6)]

/-- 'cornicelaw01.SetBack': WHATEVER THE INPUT: true; the input reads as it did. -/
def setBackSpec : ChangeSpec := { name := "setBack", fn := fun _ => fun
  | [d1, d2] => { results := [.lit (.bool true)], args := [d1, d2] }
  | _ => none }
def setBackRow : OpenClaim := { program := "ytejialnbelleeaadoor", sum := "ed39ff92fd5720e474e49f3fab1ba5e094f58d5fe411f858086c3b65ea91b3cd", func := "cornice/cornicelaw01.SetBack", spec := "setBack", unfollowed := true, recurses := true, named := ["math/bits.deBruijn64tab"], apart := false, laid := [("math/bits.deBruijn64tab", laid_math_bits_deBruijn64tab)] }
def SetBackSaid : Prop := setBackRow.holds Tryd.pinned (OpenSpec.ofChange setBackSpec)

/-- ITS FALSE NEIGHBOUR: 'it returns false'. Refute it at one input. -/
def setBackWrong : ChangeSpec := { name := "setBack", fn := fun _ => fun
  | [d1, d2] => { results := [.lit (.bool false)], args := [d1, d2] }
  | _ => none }
def SetBackWrongFalsely : Prop := setBackRow.holds Tryd.pinned (OpenSpec.ofChange setBackWrong)

/-- 'cornicelaw01.SetOrders': WHATEVER THE INPUT: true; the input reads as it did. -/
def setOrdersSpec : ChangeSpec := { name := "setOrders", fn := fun _ => fun
  | [d1, d2, d3] => { results := [.lit (.bool true)], args := [d1, d2, d3] }
  | _ => none }
def setOrdersRow : OpenClaim := { program := "ytejialnbelleeaadoor", sum := "ed39ff92fd5720e474e49f3fab1ba5e094f58d5fe411f858086c3b65ea91b3cd", func := "cornice/cornicelaw01.SetOrders", spec := "setOrders", unfollowed := true, recurses := true, named := ["math/bits.deBruijn64tab"], apart := false, laid := [("math/bits.deBruijn64tab", laid_math_bits_deBruijn64tab)] }
def SetOrdersSaid : Prop := setOrdersRow.holds Tryd.pinned (OpenSpec.ofChange setOrdersSpec)

/-- ITS FALSE NEIGHBOUR: 'it returns false'. Refute it at one input. -/
def setOrdersWrong : ChangeSpec := { name := "setOrders", fn := fun _ => fun
  | [d1, d2, d3] => { results := [.lit (.bool false)], args := [d1, d2, d3] }
  | _ => none }
def SetOrdersWrongFalsely : Prop := setOrdersRow.holds Tryd.pinned (OpenSpec.ofChange setOrdersWrong)

/-- 'cornicelaw01.SetParts': WHATEVER THE INPUT: true; the input reads as it did. -/
def setPartsSpec : ChangeSpec := { name := "setParts", fn := fun _ => fun
  | [d1, d2, d3] => { results := [.lit (.bool true)], args := [d1, d2, d3] }
  | _ => none }
def setPartsRow : OpenClaim := { program := "ytejialnbelleeaadoor", sum := "ed39ff92fd5720e474e49f3fab1ba5e094f58d5fe411f858086c3b65ea91b3cd", func := "cornice/cornicelaw01.SetParts", spec := "setParts", unfollowed := true, recurses := true, named := ["math/bits.deBruijn64tab"], apart := false, laid := [("math/bits.deBruijn64tab", laid_math_bits_deBruijn64tab)] }
def SetPartsSaid : Prop := setPartsRow.holds Tryd.pinned (OpenSpec.ofChange setPartsSpec)

/-- ITS FALSE NEIGHBOUR: 'it returns false'. Refute it at one input. -/
def setPartsWrong : ChangeSpec := { name := "setParts", fn := fun _ => fun
  | [d1, d2, d3] => { results := [.lit (.bool false)], args := [d1, d2, d3] }
  | _ => none }
def SetPartsWrongFalsely : Prop := setPartsRow.holds Tryd.pinned (OpenSpec.ofChange setPartsWrong)

/-- 'cornicelaw01.SetRuns': WHATEVER THE INPUT: true; the input reads as it did. -/
def setRunsSpec : ChangeSpec := { name := "setRuns", fn := fun _ => fun
  | [d1, d2] => { results := [.lit (.bool true)], args := [d1, d2] }
  | _ => none }
def setRunsRow : OpenClaim := { program := "ytejialnbelleeaadoor", sum := "ed39ff92fd5720e474e49f3fab1ba5e094f58d5fe411f858086c3b65ea91b3cd", func := "cornice/cornicelaw01.SetRuns", spec := "setRuns", unfollowed := true, recurses := true, named := ["math/bits.deBruijn64tab"], apart := false, laid := [("math/bits.deBruijn64tab", laid_math_bits_deBruijn64tab)] }
def SetRunsSaid : Prop := setRunsRow.holds Tryd.pinned (OpenSpec.ofChange setRunsSpec)

/-- ITS FALSE NEIGHBOUR: 'it returns false'. Refute it at one input. -/
def setRunsWrong : ChangeSpec := { name := "setRuns", fn := fun _ => fun
  | [d1, d2] => { results := [.lit (.bool false)], args := [d1, d2] }
  | _ => none }
def SetRunsWrongFalsely : Prop := setRunsRow.holds Tryd.pinned (OpenSpec.ofChange setRunsWrong)

/-- 'cornicelaw01.SetNames': WHATEVER THE INPUT: true; the input reads as it did. -/
def setNamesSpec : ChangeSpec := { name := "setNames", fn := fun _ => fun
  | [d] => { results := [.lit (.bool true)], args := [d] }
  | _ => none }
def setNamesRow : OpenClaim := { program := "ytejialnbelleeaadoor", sum := "ed39ff92fd5720e474e49f3fab1ba5e094f58d5fe411f858086c3b65ea91b3cd", func := "cornice/cornicelaw01.SetNames", spec := "setNames", unfollowed := true, recurses := true, named := ["math/bits.deBruijn64tab"], apart := false, laid := [("math/bits.deBruijn64tab", laid_math_bits_deBruijn64tab)] }
def SetNamesSaid : Prop := setNamesRow.holds Tryd.pinned (OpenSpec.ofChange setNamesSpec)

/-- ITS FALSE NEIGHBOUR: 'it returns false'. Refute it at one input. -/
def setNamesWrong : ChangeSpec := { name := "setNames", fn := fun _ => fun
  | [d] => { results := [.lit (.bool false)], args := [d] }
  | _ => none }
def SetNamesWrongFalsely : Prop := setNamesRow.holds Tryd.pinned (OpenSpec.ofChange setNamesWrong)

/-- 'cornicelaw01.SetJoins': WHATEVER THE INPUT: true; the input reads as it did. -/
def setJoinsSpec : ChangeSpec := { name := "setJoins", fn := fun _ => fun
  | [d1, d2] => { results := [.lit (.bool true)], args := [d1, d2] }
  | _ => none }
def setJoinsRow : OpenClaim := { program := "ytejialnbelleeaadoor", sum := "ed39ff92fd5720e474e49f3fab1ba5e094f58d5fe411f858086c3b65ea91b3cd", func := "cornice/cornicelaw01.SetJoins", spec := "setJoins", unfollowed := true, recurses := true, named := ["math/bits.deBruijn64tab"], apart := false, laid := [("math/bits.deBruijn64tab", laid_math_bits_deBruijn64tab)] }
def SetJoinsSaid : Prop := setJoinsRow.holds Tryd.pinned (OpenSpec.ofChange setJoinsSpec)

/-- ITS FALSE NEIGHBOUR: 'it returns false'. Refute it at one input. -/
def setJoinsWrong : ChangeSpec := { name := "setJoins", fn := fun _ => fun
  | [d1, d2] => { results := [.lit (.bool false)], args := [d1, d2] }
  | _ => none }
def SetJoinsWrongFalsely : Prop := setJoinsRow.holds Tryd.pinned (OpenSpec.ofChange setJoinsWrong)

/-- 'cornicelaw01.SetHas': WHATEVER THE INPUT: true; the input reads as it did. -/
def setHasSpec : ChangeSpec := { name := "setHas", fn := fun _ => fun
  | [d1, d2, d3] => { results := [.lit (.bool true)], args := [d1, d2, d3] }
  | _ => none }
def setHasRow : OpenClaim := { program := "ytejialnbelleeaadoor", sum := "ed39ff92fd5720e474e49f3fab1ba5e094f58d5fe411f858086c3b65ea91b3cd", func := "cornice/cornicelaw01.SetHas", spec := "setHas", unfollowed := true, recurses := true, named := ["math/bits.deBruijn64tab"], apart := false, laid := [("math/bits.deBruijn64tab", laid_math_bits_deBruijn64tab)] }
def SetHasSaid : Prop := setHasRow.holds Tryd.pinned (OpenSpec.ofChange setHasSpec)

/-- ITS FALSE NEIGHBOUR: 'it returns false'. Refute it at one input. -/
def setHasWrong : ChangeSpec := { name := "setHas", fn := fun _ => fun
  | [d1, d2, d3] => { results := [.lit (.bool false)], args := [d1, d2, d3] }
  | _ => none }
def SetHasWrongFalsely : Prop := setHasRow.holds Tryd.pinned (OpenSpec.ofChange setHasWrong)

/- THE SECOND FORM. 'bulk': how many values and letters a reading holds, each counted each time it is reached (what is shared counts as often as it is met; a slice's spare places count too). A statement '..UptoSaid' is the law's where the arguments, and the package variables that the reading takes, are together of bulk at most 1048576: NARROWER than '..Said'. Prove '..Said' where nothing that the law and all that it calls make is longer than what came in: it says more and counts as full. Else prove '..UptoSaid'. A law counts once. -/
mutual
def uptoBulk {H : Type} : DataW H → Nat
  | .lit (.string bytes) => bytes.length + 1
  | .lit _ => 1
  | .nil => 1
  | .ptr d => uptoBulk d + 1
  | .slice elems spare => uptoBulkAll elems + uptoBulkAll spare + 1
  | .agg parts => uptoBulkAll parts + 1
  | .iface _ d => uptoBulk d + 1
  | .map entries => uptoBulkEntries entries + 1
  | .held _ => 1
def uptoBulkAll {H : Type} : List (DataW H) → Nat
  | [] => 0
  | d :: r => uptoBulk d + uptoBulkAll r
def uptoBulkEntries {H : Type} : List (Lit × DataW H) → Nat
  | [] => 0
  | x :: r => uptoBulkEntry x + uptoBulkEntries r
def uptoBulkEntry {H : Type} : Lit × DataW H → Nat
  | (.string bytes, d) => bytes.length + uptoBulk d + 1
  | (_, d) => uptoBulk d + 1
 end
def uptoSmall : (H : Type) → List (DataW H) → Bool := fun _ ds => decide (uptoBulkAll ds ≤ 1048576)
def OpenSpec.upto (s : _root_.Go.ChangeSpec) : _root_.Go.OpenSpec := { _root_.Go.OpenSpec.ofChange s with cond := some uptoSmall }

/-- 'cornicelaw01.SetBack', WHERE WHAT IT READS IS OF BULK AT MOST 1048576: true; the input reads as it did. -/
def setBackUptoRow : OpenClaim := { program := "ytejialnbelleeaadoor", sum := "ed39ff92fd5720e474e49f3fab1ba5e094f58d5fe411f858086c3b65ea91b3cd", func := "cornice/cornicelaw01.SetBack", spec := "setBack", unfollowed := true, recurses := true, named := ["math/bits.deBruijn64tab"], apart := false, laid := [("math/bits.deBruijn64tab", laid_math_bits_deBruijn64tab)], narrowed := true }
def SetBackUptoSaid : Prop := setBackUptoRow.holds Tryd.pinned (OpenSpec.upto setBackSpec)

/-- 'cornicelaw01.SetOrders', WHERE WHAT IT READS IS OF BULK AT MOST 1048576: true; the input reads as it did. -/
def setOrdersUptoRow : OpenClaim := { program := "ytejialnbelleeaadoor", sum := "ed39ff92fd5720e474e49f3fab1ba5e094f58d5fe411f858086c3b65ea91b3cd", func := "cornice/cornicelaw01.SetOrders", spec := "setOrders", unfollowed := true, recurses := true, named := ["math/bits.deBruijn64tab"], apart := false, laid := [("math/bits.deBruijn64tab", laid_math_bits_deBruijn64tab)], narrowed := true }
def SetOrdersUptoSaid : Prop := setOrdersUptoRow.holds Tryd.pinned (OpenSpec.upto setOrdersSpec)

/-- 'cornicelaw01.SetParts', WHERE WHAT IT READS IS OF BULK AT MOST 1048576: true; the input reads as it did. -/
def setPartsUptoRow : OpenClaim := { program := "ytejialnbelleeaadoor", sum := "ed39ff92fd5720e474e49f3fab1ba5e094f58d5fe411f858086c3b65ea91b3cd", func := "cornice/cornicelaw01.SetParts", spec := "setParts", unfollowed := true, recurses := true, named := ["math/bits.deBruijn64tab"], apart := false, laid := [("math/bits.deBruijn64tab", laid_math_bits_deBruijn64tab)], narrowed := true }
def SetPartsUptoSaid : Prop := setPartsUptoRow.holds Tryd.pinned (OpenSpec.upto setPartsSpec)

/-- 'cornicelaw01.SetRuns', WHERE WHAT IT READS IS OF BULK AT MOST 1048576: true; the input reads as it did. -/
def setRunsUptoRow : OpenClaim := { program := "ytejialnbelleeaadoor", sum := "ed39ff92fd5720e474e49f3fab1ba5e094f58d5fe411f858086c3b65ea91b3cd", func := "cornice/cornicelaw01.SetRuns", spec := "setRuns", unfollowed := true, recurses := true, named := ["math/bits.deBruijn64tab"], apart := false, laid := [("math/bits.deBruijn64tab", laid_math_bits_deBruijn64tab)], narrowed := true }
def SetRunsUptoSaid : Prop := setRunsUptoRow.holds Tryd.pinned (OpenSpec.upto setRunsSpec)

/-- 'cornicelaw01.SetNames', WHERE WHAT IT READS IS OF BULK AT MOST 1048576: true; the input reads as it did. -/
def setNamesUptoRow : OpenClaim := { program := "ytejialnbelleeaadoor", sum := "ed39ff92fd5720e474e49f3fab1ba5e094f58d5fe411f858086c3b65ea91b3cd", func := "cornice/cornicelaw01.SetNames", spec := "setNames", unfollowed := true, recurses := true, named := ["math/bits.deBruijn64tab"], apart := false, laid := [("math/bits.deBruijn64tab", laid_math_bits_deBruijn64tab)], narrowed := true }
def SetNamesUptoSaid : Prop := setNamesUptoRow.holds Tryd.pinned (OpenSpec.upto setNamesSpec)

/-- 'cornicelaw01.SetJoins', WHERE WHAT IT READS IS OF BULK AT MOST 1048576: true; the input reads as it did. -/
def setJoinsUptoRow : OpenClaim := { program := "ytejialnbelleeaadoor", sum := "ed39ff92fd5720e474e49f3fab1ba5e094f58d5fe411f858086c3b65ea91b3cd", func := "cornice/cornicelaw01.SetJoins", spec := "setJoins", unfollowed := true, recurses := true, named := ["math/bits.deBruijn64tab"], apart := false, laid := [("math/bits.deBruijn64tab", laid_math_bits_deBruijn64tab)], narrowed := true }
def SetJoinsUptoSaid : Prop := setJoinsUptoRow.holds Tryd.pinned (OpenSpec.upto setJoinsSpec)

/-- 'cornicelaw01.SetHas', WHERE WHAT IT READS IS OF BULK AT MOST 1048576: true; the input reads as it did. -/
def setHasUptoRow : OpenClaim := { program := "ytejialnbelleeaadoor", sum := "ed39ff92fd5720e474e49f3fab1ba5e094f58d5fe411f858086c3b65ea91b3cd", func := "cornice/cornicelaw01.SetHas", spec := "setHas", unfollowed := true, recurses := true, named := ["math/bits.deBruijn64tab"], apart := false, laid := [("math/bits.deBruijn64tab", laid_math_bits_deBruijn64tab)], narrowed := true }
def SetHasUptoSaid : Prop := setHasUptoRow.holds Tryd.pinned (OpenSpec.upto setHasSpec)

end Rows
end Go.Proofs.YtejialnbelleeaaDoor
