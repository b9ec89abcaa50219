/-
  No cell of these rows narrows 'for every input' (looked for: loops, veiled, ifaces, maps, wideKeys, modest, calm, conditions, laid).
  DERIVED. THE GIVEN ROWS OF THIS SEAT. 4 by the template 'for every input the law returns true; each argument reads behind the call as it read before'; 0 by the template 'total and deterministic' (their statements: YtneibnoocfcndaaTotals.lean).
  GIVEN WITH THE SEED: the statements are not yours to turn. If you find one false, say at which input.
  Laid BY PROGRAM, IN A SANDBOX (cutbox-rows.mjs): the forced cells as the released guide's own fill.sh prints them over the translation d972850fa48eb17b… (all of the seat's roots in one cut). By AI agents, Wed Nov 11 2026. No macro, syntax, notation, axiom, sorry.
-/
import Derived.Test.YtneibnoocfcndaaChecked
import GoSem.Claim
import GoSem.ClaimJoined
import GoSem.ClaimMapViews
import Derived.JoinedTies
import Derived.KernelRfl
namespace Go.Proofs.Ytneibnoocfcndaa
/- THE CELL 'sum', in the pinned program and in every row, IS THE sha256 OF THE DUMP (.gsa) THAT YtneibnoocfcndaaProg.lean LOADS. Nothing in Lean hashes anything: it is a label: what it is worth is what the hold of that sum in a sandbox is worth. -/
noncomputable def Try.pinned : Pinned := { name := "ytneibnoocfcndaa", sum := "d972850fa48eb17bd712fcbd3e65fe922265b9736d05ed52a7ab3cb5ed309363", checked := Try.checked }
namespace Rows
def none {H : Type} : Left H := { results := [], args := [] }

/-- 'cofferdamlaw21.ReqBack': WHATEVER THE INPUT: true; the input reads as it did. -/
def reqBackSpec : ChangeSpec := { name := "reqBack", fn := fun _ => fun
  | [d1, d2, d3] => { results := [.lit (.bool true)], args := [d1, d2, d3] }
  | _ => none }
def reqBackRow : OpenClaim := { program := "ytneibnoocfcndaa", sum := "d972850fa48eb17bd712fcbd3e65fe922265b9736d05ed52a7ab3cb5ed309363", func := "cofferdam/cofferdamlaw21.ReqBack", spec := "reqBack", inPlace := ["internal/abi.NoEscape"], unfollowed := true, recurses := true, apart := false }
def ReqBackSaid : Prop := reqBackRow.holds Try.pinned (OpenSpec.ofChange reqBackSpec)

/-- ITS FALSE NEIGHBOUR: 'it returns false'. Refute it at one input. -/
def reqBackWrong : ChangeSpec := { name := "reqBack", fn := fun _ => fun
  | [d1, d2, d3] => { results := [.lit (.bool false)], args := [d1, d2, d3] }
  | _ => none }
def ReqBackWrongFalsely : Prop := reqBackRow.holds Try.pinned (OpenSpec.ofChange reqBackWrong)

/-- 'cofferdamlaw21.ReqShort': WHATEVER THE INPUT: true; the input reads as it did. -/
def reqShortSpec : ChangeSpec := { name := "reqShort", fn := fun _ => fun
  | [d1, d2] => { results := [.lit (.bool true)], args := [d1, d2] }
  | _ => none }
def reqShortRow : OpenClaim := { program := "ytneibnoocfcndaa", sum := "d972850fa48eb17bd712fcbd3e65fe922265b9736d05ed52a7ab3cb5ed309363", func := "cofferdam/cofferdamlaw21.ReqShort", spec := "reqShort", inPlace := ["internal/abi.NoEscape"], unfollowed := true, recurses := true, apart := false }
def ReqShortSaid : Prop := reqShortRow.holds Try.pinned (OpenSpec.ofChange reqShortSpec)

/-- ITS FALSE NEIGHBOUR: 'it returns false'. Refute it at one input. -/
def reqShortWrong : ChangeSpec := { name := "reqShort", fn := fun _ => fun
  | [d1, d2] => { results := [.lit (.bool false)], args := [d1, d2] }
  | _ => none }
def ReqShortWrongFalsely : Prop := reqShortRow.holds Try.pinned (OpenSpec.ofChange reqShortWrong)

/-- 'cofferdamlaw21.ReqPieces': WHATEVER THE INPUT: true; the input reads as it did. -/
def reqPiecesSpec : ChangeSpec := { name := "reqPieces", fn := fun _ => fun
  | [d1, d2] => { results := [.lit (.bool true)], args := [d1, d2] }
  | _ => none }
def reqPiecesRow : OpenClaim := { program := "ytneibnoocfcndaa", sum := "d972850fa48eb17bd712fcbd3e65fe922265b9736d05ed52a7ab3cb5ed309363", func := "cofferdam/cofferdamlaw21.ReqPieces", spec := "reqPieces", inPlace := ["internal/abi.NoEscape"], unfollowed := true, recurses := true, apart := false }
def ReqPiecesSaid : Prop := reqPiecesRow.holds Try.pinned (OpenSpec.ofChange reqPiecesSpec)

/-- ITS FALSE NEIGHBOUR: 'it returns false'. Refute it at one input. -/
def reqPiecesWrong : ChangeSpec := { name := "reqPieces", fn := fun _ => fun
  | [d1, d2] => { results := [.lit (.bool false)], args := [d1, d2] }
  | _ => none }
def ReqPiecesWrongFalsely : Prop := reqPiecesRow.holds Try.pinned (OpenSpec.ofChange reqPiecesWrong)

/-- 'cofferdamlaw21.ReqTwo': WHATEVER THE INPUT: true; the input reads as it did. -/
def reqTwoSpec : ChangeSpec := { name := "reqTwo", fn := fun _ => fun
  | [d1, d2] => { results := [.lit (.bool true)], args := [d1, d2] }
  | _ => none }
def reqTwoRow : OpenClaim := { program := "ytneibnoocfcndaa", sum := "d972850fa48eb17bd712fcbd3e65fe922265b9736d05ed52a7ab3cb5ed309363", func := "cofferdam/cofferdamlaw21.ReqTwo", spec := "reqTwo", inPlace := ["internal/abi.NoEscape"], unfollowed := true, recurses := true, apart := false }
def ReqTwoSaid : Prop := reqTwoRow.holds Try.pinned (OpenSpec.ofChange reqTwoSpec)

/-- ITS FALSE NEIGHBOUR: 'it returns false'. Refute it at one input. -/
def reqTwoWrong : ChangeSpec := { name := "reqTwo", fn := fun _ => fun
  | [d1, d2] => { results := [.lit (.bool false)], args := [d1, d2] }
  | _ => none }
def ReqTwoWrongFalsely : Prop := reqTwoRow.holds Try.pinned (OpenSpec.ofChange reqTwoWrong)

/- THE SECOND FORM. 'bulk': how many values and letters a reading holds, each counted each time it is reached (what is shared counts as often as it is met; a slice's spare places count too). A statement '..UptoSaid' is the law's where the arguments, and the package variables that the reading takes, are together of bulk at most 1048576: NARROWER than '..Said'. Prove '..Said' where nothing that the law and all that it calls make is longer than what came in: it says more and counts as full. Else prove '..UptoSaid'. A law counts once. -/
mutual
def uptoBulk {H : Type} : DataW H → Nat
  | .lit (.string bytes) => bytes.length + 1
  | .lit _ => 1
  | .nil => 1
  | .ptr d => uptoBulk d + 1
  | .slice elems spare => uptoBulkAll elems + uptoBulkAll spare + 1
  | .agg parts => uptoBulkAll parts + 1
  | .iface _ d => uptoBulk d + 1
  | .map entries => uptoBulkEntries entries + 1
  | .held _ => 1
def uptoBulkAll {H : Type} : List (DataW H) → Nat
  | [] => 0
  | d :: r => uptoBulk d + uptoBulkAll r
def uptoBulkEntries {H : Type} : List (Lit × DataW H) → Nat
  | [] => 0
  | x :: r => uptoBulkEntry x + uptoBulkEntries r
def uptoBulkEntry {H : Type} : Lit × DataW H → Nat
  | (.string bytes, d) => bytes.length + uptoBulk d + 1
  | (_, d) => uptoBulk d + 1
 end
def uptoSmall : (H : Type) → List (DataW H) → Bool := fun _ ds => decide (uptoBulkAll ds ≤ 1048576)
def OpenSpec.upto (s : _root_.Go.ChangeSpec) : _root_.Go.OpenSpec := { _root_.Go.OpenSpec.ofChange s with cond := some uptoSmall }

/-- 'cofferdamlaw21.ReqBack', WHERE WHAT IT READS IS OF BULK AT MOST 1048576: true; the input reads as it did. -/
def reqBackUptoRow : OpenClaim := { program := "ytneibnoocfcndaa", sum := "d972850fa48eb17bd712fcbd3e65fe922265b9736d05ed52a7ab3cb5ed309363", func := "cofferdam/cofferdamlaw21.ReqBack", spec := "reqBack", inPlace := ["internal/abi.NoEscape"], unfollowed := true, recurses := true, apart := false, narrowed := true }
def ReqBackUptoSaid : Prop := reqBackUptoRow.holds Try.pinned (OpenSpec.upto reqBackSpec)

/-- 'cofferdamlaw21.ReqShort', WHERE WHAT IT READS IS OF BULK AT MOST 1048576: true; the input reads as it did. -/
def reqShortUptoRow : OpenClaim := { program := "ytneibnoocfcndaa", sum := "d972850fa48eb17bd712fcbd3e65fe922265b9736d05ed52a7ab3cb5ed309363", func := "cofferdam/cofferdamlaw21.ReqShort", spec := "reqShort", inPlace := ["internal/abi.NoEscape"], unfollowed := true, recurses := true, apart := false, narrowed := true }
def ReqShortUptoSaid : Prop := reqShortUptoRow.holds Try.pinned (OpenSpec.upto reqShortSpec)

/-- 'cofferdamlaw21.ReqPieces', WHERE WHAT IT READS IS OF BULK AT MOST 1048576: true; the input reads as it did. -/
def reqPiecesUptoRow : OpenClaim := { program := "ytneibnoocfcndaa", sum := "d972850fa48eb17bd712fcbd3e65fe922265b9736d05ed52a7ab3cb5ed309363", func := "cofferdam/cofferdamlaw21.ReqPieces", spec := "reqPieces", inPlace := ["internal/abi.NoEscape"], unfollowed := true, recurses := true, apart := false, narrowed := true }
def ReqPiecesUptoSaid : Prop := reqPiecesUptoRow.holds Try.pinned (OpenSpec.upto reqPiecesSpec)

/-- 'cofferdamlaw21.ReqTwo', WHERE WHAT IT READS IS OF BULK AT MOST 1048576: true; the input reads as it did. -/
def reqTwoUptoRow : OpenClaim := { program := "ytneibnoocfcndaa", sum := "d972850fa48eb17bd712fcbd3e65fe922265b9736d05ed52a7ab3cb5ed309363", func := "cofferdam/cofferdamlaw21.ReqTwo", spec := "reqTwo", inPlace := ["internal/abi.NoEscape"], unfollowed := true, recurses := true, apart := false, narrowed := true }
def ReqTwoUptoSaid : Prop := reqTwoUptoRow.holds Try.pinned (OpenSpec.upto reqTwoSpec)

end Rows
end Go.Proofs.Ytneibnoocfcndaa
