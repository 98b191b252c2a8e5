/-
  No cell of these rows narrows 'for every input' (looked for: loops, veiled, ifaces, maps, wideKeys, modest, calm, conditions, laid).
  DERIVED. THE GIVEN ROWS OF THIS SEAT. 4 by the template 'for every input the law returns true; each argument reads behind the call as it read before'; 0 by the template 'total and deterministic' (their statements: YtejialnbelleeaaTotals.lean).
  GIVEN WITH THE SEED: the statements are not yours to turn. If you find one false, say at which input.
  Laid BY PROGRAM, IN A SANDBOX (cutbox-rows.mjs): the forced cells as the released guide's own fill.sh prints them over the translation 5c33ede1abbd4b24… (all of the seat's roots in one cut). By AI agents, Wed Nov 11 2026. No macro, syntax, notation, axiom, sorry.
-/
import Derived.Test.YtejialnbelleeaaChecked
import GoSem.Claim
import GoSem.ClaimJoined
import GoSem.ClaimMapViews
import Derived.JoinedTies
import Derived.KernelRfl
namespace Go.Proofs.Ytejialnbelleeaa
/- THE CELL 'sum', in the pinned program and in every row, IS THE sha256 OF THE DUMP (.gsa) THAT YtejialnbelleeaaProg.lean LOADS. Nothing in Lean hashes anything: it is a label: what it is worth is what the hold of that sum in a sandbox is worth. -/
noncomputable def Try.pinned : Pinned := { name := "ytejialnbelleeaa", sum := "5c33ede1abbd4b24af75dca57a01d7079675a358db44c880140084625712d1e8", checked := Try.checked }
namespace Rows
def none {H : Type} : Left H := { results := [], args := [] }

/-- 'cornicelaw03.TextNone': WHATEVER THE INPUT: true; the input reads as it did. -/
def textNoneSpec : ChangeSpec := { name := "textNone", fn := fun _ => fun
  | [d] => { results := [.lit (.bool true)], args := [d] }
  | _ => none }
def textNoneRow : OpenClaim := { program := "ytejialnbelleeaa", sum := "5c33ede1abbd4b24af75dca57a01d7079675a358db44c880140084625712d1e8", func := "cornice/cornicelaw03.TextNone", spec := "textNone", unfollowed := true, recurses := true, apart := false }
def TextNoneSaid : Prop := textNoneRow.holds Try.pinned (OpenSpec.ofChange textNoneSpec)

/-- ITS FALSE NEIGHBOUR: 'it returns false'. Refute it at one input. -/
def textNoneWrong : ChangeSpec := { name := "textNone", fn := fun _ => fun
  | [d] => { results := [.lit (.bool false)], args := [d] }
  | _ => none }
def TextNoneWrongFalsely : Prop := textNoneRow.holds Try.pinned (OpenSpec.ofChange textNoneWrong)

/-- 'cornicelaw03.TextParts': WHATEVER THE INPUT: true; the input reads as it did. -/
def textPartsSpec : ChangeSpec := { name := "textParts", fn := fun _ => fun
  | [d1, d2] => { results := [.lit (.bool true)], args := [d1, d2] }
  | _ => none }
def textPartsRow : OpenClaim := { program := "ytejialnbelleeaa", sum := "5c33ede1abbd4b24af75dca57a01d7079675a358db44c880140084625712d1e8", func := "cornice/cornicelaw03.TextParts", spec := "textParts", unfollowed := true, recurses := true, apart := false }
def TextPartsSaid : Prop := textPartsRow.holds Try.pinned (OpenSpec.ofChange textPartsSpec)

/-- ITS FALSE NEIGHBOUR: 'it returns false'. Refute it at one input. -/
def textPartsWrong : ChangeSpec := { name := "textParts", fn := fun _ => fun
  | [d1, d2] => { results := [.lit (.bool false)], args := [d1, d2] }
  | _ => none }
def TextPartsWrongFalsely : Prop := textPartsRow.holds Try.pinned (OpenSpec.ofChange textPartsWrong)

/-- 'cornicelaw03.TextStays': WHATEVER THE INPUT: true; the input reads as it did. -/
def textStaysSpec : ChangeSpec := { name := "textStays", fn := fun _ => fun
  | [d1, d2, d3] => { results := [.lit (.bool true)], args := [d1, d2, d3] }
  | _ => none }
def textStaysRow : OpenClaim := { program := "ytejialnbelleeaa", sum := "5c33ede1abbd4b24af75dca57a01d7079675a358db44c880140084625712d1e8", func := "cornice/cornicelaw03.TextStays", spec := "textStays", unfollowed := true, recurses := true, apart := false }
def TextStaysSaid : Prop := textStaysRow.holds Try.pinned (OpenSpec.ofChange textStaysSpec)

/-- ITS FALSE NEIGHBOUR: 'it returns false'. Refute it at one input. -/
def textStaysWrong : ChangeSpec := { name := "textStays", fn := fun _ => fun
  | [d1, d2, d3] => { results := [.lit (.bool false)], args := [d1, d2, d3] }
  | _ => none }
def TextStaysWrongFalsely : Prop := textStaysRow.holds Try.pinned (OpenSpec.ofChange textStaysWrong)

/-- 'cornicelaw03.TextReads': WHATEVER THE INPUT: true; the input reads as it did. -/
def textReadsSpec : ChangeSpec := { name := "textReads", fn := fun _ => fun
  | [d1, d2] => { results := [.lit (.bool true)], args := [d1, d2] }
  | _ => none }
def textReadsRow : OpenClaim := { program := "ytejialnbelleeaa", sum := "5c33ede1abbd4b24af75dca57a01d7079675a358db44c880140084625712d1e8", func := "cornice/cornicelaw03.TextReads", spec := "textReads", unfollowed := true, recurses := true, apart := false }
def TextReadsSaid : Prop := textReadsRow.holds Try.pinned (OpenSpec.ofChange textReadsSpec)

/-- ITS FALSE NEIGHBOUR: 'it returns false'. Refute it at one input. -/
def textReadsWrong : ChangeSpec := { name := "textReads", fn := fun _ => fun
  | [d1, d2] => { results := [.lit (.bool false)], args := [d1, d2] }
  | _ => none }
def TextReadsWrongFalsely : Prop := textReadsRow.holds Try.pinned (OpenSpec.ofChange textReadsWrong)

/- THE SECOND FORM. 'bulk': how many values and letters a reading holds, each counted each time it is reached (what is shared counts as often as it is met; a slice's spare places count too). A statement '..UptoSaid' is the law's where the arguments, and the package variables that the reading takes, are together of bulk at most 1048576: NARROWER than '..Said'. Prove '..Said' where nothing that the law and all that it calls make is longer than what came in: it says more and counts as full. Else prove '..UptoSaid'. A law counts once. -/
mutual
def uptoBulk {H : Type} : DataW H → Nat
  | .lit (.string bytes) => bytes.length + 1
  | .lit _ => 1
  | .nil => 1
  | .ptr d => uptoBulk d + 1
  | .slice elems spare => uptoBulkAll elems + uptoBulkAll spare + 1
  | .agg parts => uptoBulkAll parts + 1
  | .iface _ d => uptoBulk d + 1
  | .map entries => uptoBulkEntries entries + 1
  | .held _ => 1
def uptoBulkAll {H : Type} : List (DataW H) → Nat
  | [] => 0
  | d :: r => uptoBulk d + uptoBulkAll r
def uptoBulkEntries {H : Type} : List (Lit × DataW H) → Nat
  | [] => 0
  | x :: r => uptoBulkEntry x + uptoBulkEntries r
def uptoBulkEntry {H : Type} : Lit × DataW H → Nat
  | (.string bytes, d) => bytes.length + uptoBulk d + 1
  | (_, d) => uptoBulk d + 1
 end
def uptoSmall : (H : Type) → List (DataW H) → Bool := fun _ ds => decide (uptoBulkAll ds ≤ 1048576)
def OpenSpec.upto (s : _root_.Go.ChangeSpec) : _root_.Go.OpenSpec := { _root_.Go.OpenSpec.ofChange s with cond := some uptoSmall }

/-- 'cornicelaw03.TextNone', WHERE WHAT IT READS IS OF BULK AT MOST 1048576: true; the input reads as it did. -/
def textNoneUptoRow : OpenClaim := { program := "ytejialnbelleeaa", sum := "5c33ede1abbd4b24af75dca57a01d7079675a358db44c880140084625712d1e8", func := "cornice/cornicelaw03.TextNone", spec := "textNone", unfollowed := true, recurses := true, apart := false, narrowed := true }
def TextNoneUptoSaid : Prop := textNoneUptoRow.holds Try.pinned (OpenSpec.upto textNoneSpec)

/-- 'cornicelaw03.TextParts', WHERE WHAT IT READS IS OF BULK AT MOST 1048576: true; the input reads as it did. -/
def textPartsUptoRow : OpenClaim := { program := "ytejialnbelleeaa", sum := "5c33ede1abbd4b24af75dca57a01d7079675a358db44c880140084625712d1e8", func := "cornice/cornicelaw03.TextParts", spec := "textParts", unfollowed := true, recurses := true, apart := false, narrowed := true }
def TextPartsUptoSaid : Prop := textPartsUptoRow.holds Try.pinned (OpenSpec.upto textPartsSpec)

/-- 'cornicelaw03.TextStays', WHERE WHAT IT READS IS OF BULK AT MOST 1048576: true; the input reads as it did. -/
def textStaysUptoRow : OpenClaim := { program := "ytejialnbelleeaa", sum := "5c33ede1abbd4b24af75dca57a01d7079675a358db44c880140084625712d1e8", func := "cornice/cornicelaw03.TextStays", spec := "textStays", unfollowed := true, recurses := true, apart := false, narrowed := true }
def TextStaysUptoSaid : Prop := textStaysUptoRow.holds Try.pinned (OpenSpec.upto textStaysSpec)

/-- 'cornicelaw03.TextReads', WHERE WHAT IT READS IS OF BULK AT MOST 1048576: true; the input reads as it did. -/
def textReadsUptoRow : OpenClaim := { program := "ytejialnbelleeaa", sum := "5c33ede1abbd4b24af75dca57a01d7079675a358db44c880140084625712d1e8", func := "cornice/cornicelaw03.TextReads", spec := "textReads", unfollowed := true, recurses := true, apart := false, narrowed := true }
def TextReadsUptoSaid : Prop := textReadsUptoRow.holds Try.pinned (OpenSpec.upto textReadsSpec)

end Rows
end Go.Proofs.Ytejialnbelleeaa
