/-
  No cell of these rows narrows 'for every input' (looked for: loops, veiled, ifaces, maps, wideKeys, modest, calm, conditions, laid).
  DERIVED. THE GIVEN ROWS OF THIS SEAT. 5 by the template 'for every input the law returns true; each argument reads behind the call as it read before'; 0 by the template 'total and deterministic' (their statements: YtckkjkdpcnedkaaTotals.lean).
  GIVEN WITH THE SEED: the statements are not yours to turn. If you find one false, say at which input.
  Laid BY PROGRAM, IN A SANDBOX (cutbox-rows.mjs): the forced cells as the released guide's own fill.sh prints them over the translation 7acf06d7cdb92a93… (all of the seat's roots in one cut). By AI agents, Wed Nov 11 2026. No macro, syntax, notation, axiom, sorry.
-/
import Derived.Test.YtckkjkdpcnedkaaChecked
import GoSem.Claim
import GoSem.ClaimJoined
import GoSem.ClaimMapViews
import Derived.JoinedTies
import Derived.KernelRfl
namespace Go.Proofs.Ytckkjkdpcnedkaa
/- THE CELL 'sum', in the pinned program and in every row, IS THE sha256 OF THE DUMP (.gsa) THAT YtckkjkdpcnedkaaProg.lean LOADS. Nothing in Lean hashes anything: it is a label: what it is worth is what the hold of that sum in a sandbox is worth. -/
noncomputable def Try.pinned : Pinned := { name := "ytckkjkdpcnedkaa", sum := "7acf06d7cdb92a93e1216578e0d120c14b44106ea67666c8fe7d79395a7e0227", checked := Try.checked }
namespace Rows
def none {H : Type} : Left H := { results := [], args := [] }

/-- 'cofferdamlaw20.OptBegins': WHATEVER THE INPUT: true; the input reads as it did. -/
def optBeginsSpec : ChangeSpec := { name := "optBegins", fn := fun _ => fun
  | [d1, d2] => { results := [.lit (.bool true)], args := [d1, d2] }
  | _ => none }
def optBeginsRow : OpenClaim := { program := "ytckkjkdpcnedkaa", sum := "7acf06d7cdb92a93e1216578e0d120c14b44106ea67666c8fe7d79395a7e0227", func := "cofferdam/cofferdamlaw20.OptBegins", spec := "optBegins", inPlace := ["internal/abi.NoEscape"], unfollowed := true, recurses := true, apart := false }
def OptBeginsSaid : Prop := optBeginsRow.holds Try.pinned (OpenSpec.ofChange optBeginsSpec)

/-- ITS FALSE NEIGHBOUR: 'it returns false'. Refute it at one input. -/
def optBeginsWrong : ChangeSpec := { name := "optBegins", fn := fun _ => fun
  | [d1, d2] => { results := [.lit (.bool false)], args := [d1, d2] }
  | _ => none }
def OptBeginsWrongFalsely : Prop := optBeginsRow.holds Try.pinned (OpenSpec.ofChange optBeginsWrong)

/-- 'cofferdamlaw20.OptReads': WHATEVER THE INPUT: true; the input reads as it did. -/
def optReadsSpec : ChangeSpec := { name := "optReads", fn := fun _ => fun
  | [d1, d2, d3] => { results := [.lit (.bool true)], args := [d1, d2, d3] }
  | _ => none }
def optReadsRow : OpenClaim := { program := "ytckkjkdpcnedkaa", sum := "7acf06d7cdb92a93e1216578e0d120c14b44106ea67666c8fe7d79395a7e0227", func := "cofferdam/cofferdamlaw20.OptReads", spec := "optReads", inPlace := ["internal/abi.NoEscape"], unfollowed := true, recurses := true, apart := false }
def OptReadsSaid : Prop := optReadsRow.holds Try.pinned (OpenSpec.ofChange optReadsSpec)

/-- ITS FALSE NEIGHBOUR: 'it returns false'. Refute it at one input. -/
def optReadsWrong : ChangeSpec := { name := "optReads", fn := fun _ => fun
  | [d1, d2, d3] => { results := [.lit (.bool false)], args := [d1, d2, d3] }
  | _ => none }
def OptReadsWrongFalsely : Prop := optReadsRow.holds Try.pinned (OpenSpec.ofChange optReadsWrong)

/-- 'cofferdamlaw20.OptBack': WHATEVER THE INPUT: true; the input reads as it did. -/
def optBackSpec : ChangeSpec := { name := "optBack", fn := fun _ => fun
  | [d1, d2, d3, d4] => { results := [.lit (.bool true)], args := [d1, d2, d3, d4] }
  | _ => none }
def optBackRow : OpenClaim := { program := "ytckkjkdpcnedkaa", sum := "7acf06d7cdb92a93e1216578e0d120c14b44106ea67666c8fe7d79395a7e0227", func := "cofferdam/cofferdamlaw20.OptBack", spec := "optBack", inPlace := ["internal/abi.NoEscape"], unfollowed := true, recurses := true, apart := false }
def OptBackSaid : Prop := optBackRow.holds Try.pinned (OpenSpec.ofChange optBackSpec)

/-- ITS FALSE NEIGHBOUR: 'it returns false'. Refute it at one input. -/
def optBackWrong : ChangeSpec := { name := "optBack", fn := fun _ => fun
  | [d1, d2, d3, d4] => { results := [.lit (.bool false)], args := [d1, d2, d3, d4] }
  | _ => none }
def OptBackWrongFalsely : Prop := optBackRow.holds Try.pinned (OpenSpec.ofChange optBackWrong)

/-- 'cofferdamlaw20.OptShort': WHATEVER THE INPUT: true; the input reads as it did. -/
def optShortSpec : ChangeSpec := { name := "optShort", fn := fun _ => fun
  | [d1, d2, d3] => { results := [.lit (.bool true)], args := [d1, d2, d3] }
  | _ => none }
def optShortRow : OpenClaim := { program := "ytckkjkdpcnedkaa", sum := "7acf06d7cdb92a93e1216578e0d120c14b44106ea67666c8fe7d79395a7e0227", func := "cofferdam/cofferdamlaw20.OptShort", spec := "optShort", inPlace := ["internal/abi.NoEscape"], unfollowed := true, recurses := true, apart := false }
def OptShortSaid : Prop := optShortRow.holds Try.pinned (OpenSpec.ofChange optShortSpec)

/-- ITS FALSE NEIGHBOUR: 'it returns false'. Refute it at one input. -/
def optShortWrong : ChangeSpec := { name := "optShort", fn := fun _ => fun
  | [d1, d2, d3] => { results := [.lit (.bool false)], args := [d1, d2, d3] }
  | _ => none }
def OptShortWrongFalsely : Prop := optShortRow.holds Try.pinned (OpenSpec.ofChange optShortWrong)

/-- 'cofferdamlaw20.OptUnlike': WHATEVER THE INPUT: true; the input reads as it did. -/
def optUnlikeSpec : ChangeSpec := { name := "optUnlike", fn := fun _ => fun
  | [d1, d2, d3] => { results := [.lit (.bool true)], args := [d1, d2, d3] }
  | _ => none }
def optUnlikeRow : OpenClaim := { program := "ytckkjkdpcnedkaa", sum := "7acf06d7cdb92a93e1216578e0d120c14b44106ea67666c8fe7d79395a7e0227", func := "cofferdam/cofferdamlaw20.OptUnlike", spec := "optUnlike", inPlace := ["internal/abi.NoEscape"], unfollowed := true, recurses := true, apart := false }
def OptUnlikeSaid : Prop := optUnlikeRow.holds Try.pinned (OpenSpec.ofChange optUnlikeSpec)

/-- ITS FALSE NEIGHBOUR: 'it returns false'. Refute it at one input. -/
def optUnlikeWrong : ChangeSpec := { name := "optUnlike", fn := fun _ => fun
  | [d1, d2, d3] => { results := [.lit (.bool false)], args := [d1, d2, d3] }
  | _ => none }
def OptUnlikeWrongFalsely : Prop := optUnlikeRow.holds Try.pinned (OpenSpec.ofChange optUnlikeWrong)

/- THE SECOND FORM. 'bulk': how many values and letters a reading holds, each counted each time it is reached (what is shared counts as often as it is met; a slice's spare places count too). A statement '..UptoSaid' is the law's where the arguments, and the package variables that the reading takes, are together of bulk at most 1048576: NARROWER than '..Said'. Prove '..Said' where nothing that the law and all that it calls make is longer than what came in: it says more and counts as full. Else prove '..UptoSaid'. A law counts once. -/
mutual
def uptoBulk {H : Type} : DataW H → Nat
  | .lit (.string bytes) => bytes.length + 1
  | .lit _ => 1
  | .nil => 1
  | .ptr d => uptoBulk d + 1
  | .slice elems spare => uptoBulkAll elems + uptoBulkAll spare + 1
  | .agg parts => uptoBulkAll parts + 1
  | .iface _ d => uptoBulk d + 1
  | .map entries => uptoBulkEntries entries + 1
  | .held _ => 1
def uptoBulkAll {H : Type} : List (DataW H) → Nat
  | [] => 0
  | d :: r => uptoBulk d + uptoBulkAll r
def uptoBulkEntries {H : Type} : List (Lit × DataW H) → Nat
  | [] => 0
  | x :: r => uptoBulkEntry x + uptoBulkEntries r
def uptoBulkEntry {H : Type} : Lit × DataW H → Nat
  | (.string bytes, d) => bytes.length + uptoBulk d + 1
  | (_, d) => uptoBulk d + 1
 end
def uptoSmall : (H : Type) → List (DataW H) → Bool := fun _ ds => decide (uptoBulkAll ds ≤ 1048576)
def OpenSpec.upto (s : _root_.Go.ChangeSpec) : _root_.Go.OpenSpec := { _root_.Go.OpenSpec.ofChange s with cond := some uptoSmall }

/-- 'cofferdamlaw20.OptBegins', WHERE WHAT IT READS IS OF BULK AT MOST 1048576: true; the input reads as it did. -/
def optBeginsUptoRow : OpenClaim := { program := "ytckkjkdpcnedkaa", sum := "7acf06d7cdb92a93e1216578e0d120c14b44106ea67666c8fe7d79395a7e0227", func := "cofferdam/cofferdamlaw20.OptBegins", spec := "optBegins", inPlace := ["internal/abi.NoEscape"], unfollowed := true, recurses := true, apart := false, narrowed := true }
def OptBeginsUptoSaid : Prop := optBeginsUptoRow.holds Try.pinned (OpenSpec.upto optBeginsSpec)

/-- 'cofferdamlaw20.OptReads', WHERE WHAT IT READS IS OF BULK AT MOST 1048576: true; the input reads as it did. -/
def optReadsUptoRow : OpenClaim := { program := "ytckkjkdpcnedkaa", sum := "7acf06d7cdb92a93e1216578e0d120c14b44106ea67666c8fe7d79395a7e0227", func := "cofferdam/cofferdamlaw20.OptReads", spec := "optReads", inPlace := ["internal/abi.NoEscape"], unfollowed := true, recurses := true, apart := false, narrowed := true }
def OptReadsUptoSaid : Prop := optReadsUptoRow.holds Try.pinned (OpenSpec.upto optReadsSpec)

/-- 'cofferdamlaw20.OptBack', WHERE WHAT IT READS IS OF BULK AT MOST 1048576: true; the input reads as it did. -/
def optBackUptoRow : OpenClaim := { program := "ytckkjkdpcnedkaa", sum := "7acf06d7cdb92a93e1216578e0d120c14b44106ea67666c8fe7d79395a7e0227", func := "cofferdam/cofferdamlaw20.OptBack", spec := "optBack", inPlace := ["internal/abi.NoEscape"], unfollowed := true, recurses := true, apart := false, narrowed := true }
def OptBackUptoSaid : Prop := optBackUptoRow.holds Try.pinned (OpenSpec.upto optBackSpec)

/-- 'cofferdamlaw20.OptShort', WHERE WHAT IT READS IS OF BULK AT MOST 1048576: true; the input reads as it did. -/
def optShortUptoRow : OpenClaim := { program := "ytckkjkdpcnedkaa", sum := "7acf06d7cdb92a93e1216578e0d120c14b44106ea67666c8fe7d79395a7e0227", func := "cofferdam/cofferdamlaw20.OptShort", spec := "optShort", inPlace := ["internal/abi.NoEscape"], unfollowed := true, recurses := true, apart := false, narrowed := true }
def OptShortUptoSaid : Prop := optShortUptoRow.holds Try.pinned (OpenSpec.upto optShortSpec)

/-- 'cofferdamlaw20.OptUnlike', WHERE WHAT IT READS IS OF BULK AT MOST 1048576: true; the input reads as it did. -/
def optUnlikeUptoRow : OpenClaim := { program := "ytckkjkdpcnedkaa", sum := "7acf06d7cdb92a93e1216578e0d120c14b44106ea67666c8fe7d79395a7e0227", func := "cofferdam/cofferdamlaw20.OptUnlike", spec := "optUnlike", inPlace := ["internal/abi.NoEscape"], unfollowed := true, recurses := true, apart := false, narrowed := true }
def OptUnlikeUptoSaid : Prop := optUnlikeUptoRow.holds Try.pinned (OpenSpec.upto optUnlikeSpec)

end Rows
end Go.Proofs.Ytckkjkdpcnedkaa
