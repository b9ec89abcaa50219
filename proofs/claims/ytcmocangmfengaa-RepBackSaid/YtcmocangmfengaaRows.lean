/-
  No cell of these rows narrows 'for every input' (looked for: loops, veiled, ifaces, maps, wideKeys, modest, calm, conditions, laid).
  DERIVED. THE GIVEN ROWS OF THIS SEAT. 3 by the template 'for every input the law returns true; each argument reads behind the call as it read before'; 0 by the template 'total and deterministic' (their statements: YtcmocangmfengaaTotals.lean).
  GIVEN WITH THE SEED: the statements are not yours to turn. If you find one false, say at which input.
  Laid BY PROGRAM, IN A SANDBOX (cutbox-rows.mjs): the forced cells as the released guide's own fill.sh prints them over the translation 8653bcf57df09844… (all of the seat's roots in one cut). By AI agents, Wed Nov 11 2026. No macro, syntax, notation, axiom, sorry.
-/
import Derived.Test.YtcmocangmfengaaChecked
import GoSem.Claim
import GoSem.ClaimJoined
import GoSem.ClaimMapViews
import Derived.JoinedTies
import Derived.KernelRfl
namespace Go.Proofs.Ytcmocangmfengaa
/- THE CELL 'sum', in the pinned program and in every row, IS THE sha256 OF THE DUMP (.gsa) THAT YtcmocangmfengaaProg.lean LOADS. Nothing in Lean hashes anything: it is a label: what it is worth is what the hold of that sum in a sandbox is worth. -/
noncomputable def Try.pinned : Pinned := { name := "ytcmocangmfengaa", sum := "8653bcf57df09844838c615d93c6e30a18ad086760a60cdbe21281dc0ed9d4c8", checked := Try.checked }
namespace Rows
def none {H : Type} : Left H := { results := [], args := [] }

/-- 'cofferdamlaw22.RepParts': WHATEVER THE INPUT: true; the input reads as it did. -/
def repPartsSpec : ChangeSpec := { name := "repParts", fn := fun _ => fun
  | [d1, d2, d3, d4] => { results := [.lit (.bool true)], args := [d1, d2, d3, d4] }
  | _ => none }
def repPartsRow : OpenClaim := { program := "ytcmocangmfengaa", sum := "8653bcf57df09844838c615d93c6e30a18ad086760a60cdbe21281dc0ed9d4c8", func := "cofferdam/cofferdamlaw22.RepParts", spec := "repParts", inPlace := ["internal/abi.NoEscape"], unfollowed := true, recurses := true, apart := false }
def RepPartsSaid : Prop := repPartsRow.holds Try.pinned (OpenSpec.ofChange repPartsSpec)

/-- ITS FALSE NEIGHBOUR: 'it returns false'. Refute it at one input. -/
def repPartsWrong : ChangeSpec := { name := "repParts", fn := fun _ => fun
  | [d1, d2, d3, d4] => { results := [.lit (.bool false)], args := [d1, d2, d3, d4] }
  | _ => none }
def RepPartsWrongFalsely : Prop := repPartsRow.holds Try.pinned (OpenSpec.ofChange repPartsWrong)

/-- 'cofferdamlaw22.RepReads': WHATEVER THE INPUT: true; the input reads as it did. -/
def repReadsSpec : ChangeSpec := { name := "repReads", fn := fun _ => fun
  | [d1, d2, d3, d4] => { results := [.lit (.bool true)], args := [d1, d2, d3, d4] }
  | _ => none }
def repReadsRow : OpenClaim := { program := "ytcmocangmfengaa", sum := "8653bcf57df09844838c615d93c6e30a18ad086760a60cdbe21281dc0ed9d4c8", func := "cofferdam/cofferdamlaw22.RepReads", spec := "repReads", inPlace := ["internal/abi.NoEscape"], unfollowed := true, recurses := true, apart := false }
def RepReadsSaid : Prop := repReadsRow.holds Try.pinned (OpenSpec.ofChange repReadsSpec)

/-- ITS FALSE NEIGHBOUR: 'it returns false'. Refute it at one input. -/
def repReadsWrong : ChangeSpec := { name := "repReads", fn := fun _ => fun
  | [d1, d2, d3, d4] => { results := [.lit (.bool false)], args := [d1, d2, d3, d4] }
  | _ => none }
def RepReadsWrongFalsely : Prop := repReadsRow.holds Try.pinned (OpenSpec.ofChange repReadsWrong)

/-- 'cofferdamlaw22.RepBack': WHATEVER THE INPUT: true; the input reads as it did. -/
def repBackSpec : ChangeSpec := { name := "repBack", fn := fun _ => fun
  | [d1, d2, d3, d4, d5, d6] => { results := [.lit (.bool true)], args := [d1, d2, d3, d4, d5, d6] }
  | _ => none }
def repBackRow : OpenClaim := { program := "ytcmocangmfengaa", sum := "8653bcf57df09844838c615d93c6e30a18ad086760a60cdbe21281dc0ed9d4c8", func := "cofferdam/cofferdamlaw22.RepBack", spec := "repBack", inPlace := ["internal/abi.NoEscape"], unfollowed := true, recurses := true, apart := false }
def RepBackSaid : Prop := repBackRow.holds Try.pinned (OpenSpec.ofChange repBackSpec)

/-- ITS FALSE NEIGHBOUR: 'it returns false'. Refute it at one input. -/
def repBackWrong : ChangeSpec := { name := "repBack", fn := fun _ => fun
  | [d1, d2, d3, d4, d5, d6] => { results := [.lit (.bool false)], args := [d1, d2, d3, d4, d5, d6] }
  | _ => none }
def RepBackWrongFalsely : Prop := repBackRow.holds Try.pinned (OpenSpec.ofChange repBackWrong)

/- THE SECOND FORM. 'bulk': how many values and letters a reading holds, each counted each time it is reached (what is shared counts as often as it is met; a slice's spare places count too). A statement '..UptoSaid' is the law's where the arguments, and the package variables that the reading takes, are together of bulk at most 1048576: NARROWER than '..Said'. Prove '..Said' where nothing that the law and all that it calls make is longer than what came in: it says more and counts as full. Else prove '..UptoSaid'. A law counts once. -/
mutual
def uptoBulk {H : Type} : DataW H → Nat
  | .lit (.string bytes) => bytes.length + 1
  | .lit _ => 1
  | .nil => 1
  | .ptr d => uptoBulk d + 1
  | .slice elems spare => uptoBulkAll elems + uptoBulkAll spare + 1
  | .agg parts => uptoBulkAll parts + 1
  | .iface _ d => uptoBulk d + 1
  | .map entries => uptoBulkEntries entries + 1
  | .held _ => 1
def uptoBulkAll {H : Type} : List (DataW H) → Nat
  | [] => 0
  | d :: r => uptoBulk d + uptoBulkAll r
def uptoBulkEntries {H : Type} : List (Lit × DataW H) → Nat
  | [] => 0
  | x :: r => uptoBulkEntry x + uptoBulkEntries r
def uptoBulkEntry {H : Type} : Lit × DataW H → Nat
  | (.string bytes, d) => bytes.length + uptoBulk d + 1
  | (_, d) => uptoBulk d + 1
 end
def uptoSmall : (H : Type) → List (DataW H) → Bool := fun _ ds => decide (uptoBulkAll ds ≤ 1048576)
def OpenSpec.upto (s : _root_.Go.ChangeSpec) : _root_.Go.OpenSpec := { _root_.Go.OpenSpec.ofChange s with cond := some uptoSmall }

/-- 'cofferdamlaw22.RepParts', WHERE WHAT IT READS IS OF BULK AT MOST 1048576: true; the input reads as it did. -/
def repPartsUptoRow : OpenClaim := { program := "ytcmocangmfengaa", sum := "8653bcf57df09844838c615d93c6e30a18ad086760a60cdbe21281dc0ed9d4c8", func := "cofferdam/cofferdamlaw22.RepParts", spec := "repParts", inPlace := ["internal/abi.NoEscape"], unfollowed := true, recurses := true, apart := false, narrowed := true }
def RepPartsUptoSaid : Prop := repPartsUptoRow.holds Try.pinned (OpenSpec.upto repPartsSpec)

/-- 'cofferdamlaw22.RepReads', WHERE WHAT IT READS IS OF BULK AT MOST 1048576: true; the input reads as it did. -/
def repReadsUptoRow : OpenClaim := { program := "ytcmocangmfengaa", sum := "8653bcf57df09844838c615d93c6e30a18ad086760a60cdbe21281dc0ed9d4c8", func := "cofferdam/cofferdamlaw22.RepReads", spec := "repReads", inPlace := ["internal/abi.NoEscape"], unfollowed := true, recurses := true, apart := false, narrowed := true }
def RepReadsUptoSaid : Prop := repReadsUptoRow.holds Try.pinned (OpenSpec.upto repReadsSpec)

/-- 'cofferdamlaw22.RepBack', WHERE WHAT IT READS IS OF BULK AT MOST 1048576: true; the input reads as it did. -/
def repBackUptoRow : OpenClaim := { program := "ytcmocangmfengaa", sum := "8653bcf57df09844838c615d93c6e30a18ad086760a60cdbe21281dc0ed9d4c8", func := "cofferdam/cofferdamlaw22.RepBack", spec := "repBack", inPlace := ["internal/abi.NoEscape"], unfollowed := true, recurses := true, apart := false, narrowed := true }
def RepBackUptoSaid : Prop := repBackUptoRow.holds Try.pinned (OpenSpec.upto repBackSpec)

end Rows
end Go.Proofs.Ytcmocangmfengaa
