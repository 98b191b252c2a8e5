/-
  DERIVED. GIVEN WITH THE SEED: THE CARDS: each row of YtejialnbelleeaaDoorRows.lean that lists a variable, with what it lists TIED to the program's text (the seventh form; the later family's looks); each row that meets fmt, with fmt's text TOLD by the authors' own Lean function (tested against real Go, not proved from fmt's source: count such statements apart). THE CARD IS WHAT COUNTS. Prove the row's statement (the work); the ties are given (YtejialnbelleeaaDoorTie.lean); close each card by the builder's one call (the guide's Derived/Test/ToyasCard.lean, 'card_holds'). Laid BY PROGRAM, IN A SANDBOX (cutbox-door.mjs). By AI agents, Wed Nov 11 2026. No macro, syntax, notation, axiom, sorry.
-/
import Derived.Test.YtejialnbelleeaaDoorRows
import GoSem.ClaimSeven
namespace Go.Proofs.YtejialnbelleeaaDoor
namespace Rows

/-- THE TIED CARD OF 'cornicelaw01.SetBack'. -/
def setBackCard : Claim7 := { stood := { row := setBackRow, standIns := [], harness := (true, "77a997e816385af3e31feee3e2fe692b1a5e99094f2c392e795c574f69b1850d"), looks := false }, kinds := [], alts := [], laidByText := true, laidKinds := [.data], laidTests := true, laidLooks := .later }
def SetBackCardSaid : Prop := Claim7.holds Tryd.pinned (.plain (OpenSpec.ofChange setBackSpec)) setBackCard

/-- THE TIED CARD OF 'cornicelaw01.SetOrders'. -/
def setOrdersCard : Claim7 := { stood := { row := setOrdersRow, standIns := [], harness := (true, "77a997e816385af3e31feee3e2fe692b1a5e99094f2c392e795c574f69b1850d"), looks := false }, kinds := [], alts := [], laidByText := true, laidKinds := [.data], laidTests := true, laidLooks := .later }
def SetOrdersCardSaid : Prop := Claim7.holds Tryd.pinned (.plain (OpenSpec.ofChange setOrdersSpec)) setOrdersCard

/-- THE TIED CARD OF 'cornicelaw01.SetParts'. -/
def setPartsCard : Claim7 := { stood := { row := setPartsRow, standIns := [], harness := (true, "77a997e816385af3e31feee3e2fe692b1a5e99094f2c392e795c574f69b1850d"), looks := false }, kinds := [], alts := [], laidByText := true, laidKinds := [.data], laidTests := true, laidLooks := .later }
def SetPartsCardSaid : Prop := Claim7.holds Tryd.pinned (.plain (OpenSpec.ofChange setPartsSpec)) setPartsCard

/-- THE TIED CARD OF 'cornicelaw01.SetRuns'. -/
def setRunsCard : Claim7 := { stood := { row := setRunsRow, standIns := [], harness := (true, "77a997e816385af3e31feee3e2fe692b1a5e99094f2c392e795c574f69b1850d"), looks := false }, kinds := [], alts := [], laidByText := true, laidKinds := [.data], laidTests := true, laidLooks := .later }
def SetRunsCardSaid : Prop := Claim7.holds Tryd.pinned (.plain (OpenSpec.ofChange setRunsSpec)) setRunsCard

/-- THE TIED CARD OF 'cornicelaw01.SetNames'. -/
def setNamesCard : Claim7 := { stood := { row := setNamesRow, standIns := [], harness := (true, "77a997e816385af3e31feee3e2fe692b1a5e99094f2c392e795c574f69b1850d"), looks := false }, kinds := [], alts := [], laidByText := true, laidKinds := [.data], laidTests := true, laidLooks := .later }
def SetNamesCardSaid : Prop := Claim7.holds Tryd.pinned (.plain (OpenSpec.ofChange setNamesSpec)) setNamesCard

/-- THE TIED CARD OF 'cornicelaw01.SetJoins'. -/
def setJoinsCard : Claim7 := { stood := { row := setJoinsRow, standIns := [], harness := (true, "77a997e816385af3e31feee3e2fe692b1a5e99094f2c392e795c574f69b1850d"), looks := false }, kinds := [], alts := [], laidByText := true, laidKinds := [.data], laidTests := true, laidLooks := .later }
def SetJoinsCardSaid : Prop := Claim7.holds Tryd.pinned (.plain (OpenSpec.ofChange setJoinsSpec)) setJoinsCard

/-- THE TIED CARD OF 'cornicelaw01.SetHas'. -/
def setHasCard : Claim7 := { stood := { row := setHasRow, standIns := [], harness := (true, "77a997e816385af3e31feee3e2fe692b1a5e99094f2c392e795c574f69b1850d"), looks := false }, kinds := [], alts := [], laidByText := true, laidKinds := [.data], laidTests := true, laidLooks := .later }
def SetHasCardSaid : Prop := Claim7.holds Tryd.pinned (.plain (OpenSpec.ofChange setHasSpec)) setHasCard

/-- THE SECOND FORM's CARD OF 'cornicelaw01.SetBack'. -/
def setBackUptoCard : Claim7 := { stood := { row := setBackUptoRow, standIns := [], harness := (true, "77a997e816385af3e31feee3e2fe692b1a5e99094f2c392e795c574f69b1850d"), looks := false }, kinds := [], alts := [], laidByText := true, laidKinds := [.data], laidTests := true, laidLooks := .later }
def SetBackUptoCardSaid : Prop := Claim7.holds Tryd.pinned (.plain (OpenSpec.upto setBackSpec)) setBackUptoCard

/-- THE SECOND FORM's CARD OF 'cornicelaw01.SetOrders'. -/
def setOrdersUptoCard : Claim7 := { stood := { row := setOrdersUptoRow, standIns := [], harness := (true, "77a997e816385af3e31feee3e2fe692b1a5e99094f2c392e795c574f69b1850d"), looks := false }, kinds := [], alts := [], laidByText := true, laidKinds := [.data], laidTests := true, laidLooks := .later }
def SetOrdersUptoCardSaid : Prop := Claim7.holds Tryd.pinned (.plain (OpenSpec.upto setOrdersSpec)) setOrdersUptoCard

/-- THE SECOND FORM's CARD OF 'cornicelaw01.SetParts'. -/
def setPartsUptoCard : Claim7 := { stood := { row := setPartsUptoRow, standIns := [], harness := (true, "77a997e816385af3e31feee3e2fe692b1a5e99094f2c392e795c574f69b1850d"), looks := false }, kinds := [], alts := [], laidByText := true, laidKinds := [.data], laidTests := true, laidLooks := .later }
def SetPartsUptoCardSaid : Prop := Claim7.holds Tryd.pinned (.plain (OpenSpec.upto setPartsSpec)) setPartsUptoCard

/-- THE SECOND FORM's CARD OF 'cornicelaw01.SetRuns'. -/
def setRunsUptoCard : Claim7 := { stood := { row := setRunsUptoRow, standIns := [], harness := (true, "77a997e816385af3e31feee3e2fe692b1a5e99094f2c392e795c574f69b1850d"), looks := false }, kinds := [], alts := [], laidByText := true, laidKinds := [.data], laidTests := true, laidLooks := .later }
def SetRunsUptoCardSaid : Prop := Claim7.holds Tryd.pinned (.plain (OpenSpec.upto setRunsSpec)) setRunsUptoCard

/-- THE SECOND FORM's CARD OF 'cornicelaw01.SetNames'. -/
def setNamesUptoCard : Claim7 := { stood := { row := setNamesUptoRow, standIns := [], harness := (true, "77a997e816385af3e31feee3e2fe692b1a5e99094f2c392e795c574f69b1850d"), looks := false }, kinds := [], alts := [], laidByText := true, laidKinds := [.data], laidTests := true, laidLooks := .later }
def SetNamesUptoCardSaid : Prop := Claim7.holds Tryd.pinned (.plain (OpenSpec.upto setNamesSpec)) setNamesUptoCard

/-- THE SECOND FORM's CARD OF 'cornicelaw01.SetJoins'. -/
def setJoinsUptoCard : Claim7 := { stood := { row := setJoinsUptoRow, standIns := [], harness := (true, "77a997e816385af3e31feee3e2fe692b1a5e99094f2c392e795c574f69b1850d"), looks := false }, kinds := [], alts := [], laidByText := true, laidKinds := [.data], laidTests := true, laidLooks := .later }
def SetJoinsUptoCardSaid : Prop := Claim7.holds Tryd.pinned (.plain (OpenSpec.upto setJoinsSpec)) setJoinsUptoCard

/-- THE SECOND FORM's CARD OF 'cornicelaw01.SetHas'. -/
def setHasUptoCard : Claim7 := { stood := { row := setHasUptoRow, standIns := [], harness := (true, "77a997e816385af3e31feee3e2fe692b1a5e99094f2c392e795c574f69b1850d"), looks := false }, kinds := [], alts := [], laidByText := true, laidKinds := [.data], laidTests := true, laidLooks := .later }
def SetHasUptoCardSaid : Prop := Claim7.holds Tryd.pinned (.plain (OpenSpec.upto setHasSpec)) setHasUptoCard
end Rows
end Go.Proofs.YtejialnbelleeaaDoor
