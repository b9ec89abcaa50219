/-
  No cell of these rows narrows 'for every input' (looked for: loops, veiled, ifaces, maps, wideKeys, modest, calm, conditions, laid).
  DERIVED. THE GIVEN ROWS OF THIS SEAT. 3 by the template 'for every input the law returns true; each argument reads behind the call as it read before'; 0 by the template 'total and deterministic' (their statements: YteljplpiojdikaaTotals.lean).
  GIVEN WITH THE SEED: the statements are not yours to turn. If you find one false, say at which input.
  Laid BY PROGRAM, IN A SANDBOX (cutbox-rows.mjs): the forced cells as the released guide's own fill.sh prints them over the translation ff2059547870c3ca… (all of the seat's roots in one cut). By AI agents, Wed Nov 11 2026. No macro, syntax, notation, axiom, sorry.
-/
import Derived.Test.YteljplpiojdikaaChecked
import GoSem.Claim
import GoSem.ClaimJoined
import GoSem.ClaimMapViews
import Derived.JoinedTies
import Derived.KernelRfl
namespace Go.Proofs.Yteljplpiojdikaa
/- THE CELL 'sum', in the pinned program and in every row, IS THE sha256 OF THE DUMP (.gsa) THAT YteljplpiojdikaaProg.lean LOADS. Nothing in Lean hashes anything: it is a label: what it is worth is what the hold of that sum in a sandbox is worth. -/
noncomputable def Try.pinned : Pinned := { name := "yteljplpiojdikaa", sum := "ff2059547870c3ca66636a2e24ccdc735ed07aad37ee3bb73d5e0f1e54a0cf14", checked := Try.checked }
namespace Rows
def none {H : Type} : Left H := { results := [], args := [] }

/-- 'cofferdamlaw23.NegoPieces': WHATEVER THE INPUT: true; the input reads as it did. -/
def negoPiecesSpec : ChangeSpec := { name := "negoPieces", fn := fun _ => fun
  | [d1, d2, d3] => { results := [.lit (.bool true)], args := [d1, d2, d3] }
  | _ => none }
def negoPiecesRow : OpenClaim := { program := "yteljplpiojdikaa", sum := "ff2059547870c3ca66636a2e24ccdc735ed07aad37ee3bb73d5e0f1e54a0cf14", func := "cofferdam/cofferdamlaw23.NegoPieces", spec := "negoPieces", inPlace := ["internal/abi.NoEscape", "internal/bytealg.MakeNoZero", "internal/bytealg.IndexByteString"], unfollowed := true, recurses := true, apart := false }
def NegoPiecesSaid : Prop := negoPiecesRow.holds Try.pinned (OpenSpec.ofChange negoPiecesSpec)

/-- ITS FALSE NEIGHBOUR: 'it returns false'. Refute it at one input. -/
def negoPiecesWrong : ChangeSpec := { name := "negoPieces", fn := fun _ => fun
  | [d1, d2, d3] => { results := [.lit (.bool false)], args := [d1, d2, d3] }
  | _ => none }
def NegoPiecesWrongFalsely : Prop := negoPiecesRow.holds Try.pinned (OpenSpec.ofChange negoPiecesWrong)

/-- 'cofferdamlaw23.NegoTells': WHATEVER THE INPUT: true; the input reads as it did. -/
def negoTellsSpec : ChangeSpec := { name := "negoTells", fn := fun _ => fun
  | [d1, d2, d3, d4] => { results := [.lit (.bool true)], args := [d1, d2, d3, d4] }
  | _ => none }
def negoTellsRow : OpenClaim := { program := "yteljplpiojdikaa", sum := "ff2059547870c3ca66636a2e24ccdc735ed07aad37ee3bb73d5e0f1e54a0cf14", func := "cofferdam/cofferdamlaw23.NegoTells", spec := "negoTells", inPlace := ["internal/abi.NoEscape", "internal/bytealg.MakeNoZero", "internal/bytealg.IndexByteString"], unfollowed := true, recurses := true, apart := false }
def NegoTellsSaid : Prop := negoTellsRow.holds Try.pinned (OpenSpec.ofChange negoTellsSpec)

/-- ITS FALSE NEIGHBOUR: 'it returns false'. Refute it at one input. -/
def negoTellsWrong : ChangeSpec := { name := "negoTells", fn := fun _ => fun
  | [d1, d2, d3, d4] => { results := [.lit (.bool false)], args := [d1, d2, d3, d4] }
  | _ => none }
def NegoTellsWrongFalsely : Prop := negoTellsRow.holds Try.pinned (OpenSpec.ofChange negoTellsWrong)

/-- 'cofferdamlaw23.NegoBack': WHATEVER THE INPUT: true; the input reads as it did. -/
def negoBackSpec : ChangeSpec := { name := "negoBack", fn := fun _ => fun
  | [d1, d2, d3, d4] => { results := [.lit (.bool true)], args := [d1, d2, d3, d4] }
  | _ => none }
def negoBackRow : OpenClaim := { program := "yteljplpiojdikaa", sum := "ff2059547870c3ca66636a2e24ccdc735ed07aad37ee3bb73d5e0f1e54a0cf14", func := "cofferdam/cofferdamlaw23.NegoBack", spec := "negoBack", inPlace := ["internal/abi.NoEscape", "internal/bytealg.MakeNoZero", "internal/bytealg.IndexByteString"], unfollowed := true, recurses := true, apart := false }
def NegoBackSaid : Prop := negoBackRow.holds Try.pinned (OpenSpec.ofChange negoBackSpec)

/-- ITS FALSE NEIGHBOUR: 'it returns false'. Refute it at one input. -/
def negoBackWrong : ChangeSpec := { name := "negoBack", fn := fun _ => fun
  | [d1, d2, d3, d4] => { results := [.lit (.bool false)], args := [d1, d2, d3, d4] }
  | _ => none }
def NegoBackWrongFalsely : Prop := negoBackRow.holds Try.pinned (OpenSpec.ofChange negoBackWrong)

/- THE SECOND FORM. 'bulk': how many values and letters a reading holds, each counted each time it is reached (what is shared counts as often as it is met; a slice's spare places count too). A statement '..UptoSaid' is the law's where the arguments, and the package variables that the reading takes, are together of bulk at most 1048576: NARROWER than '..Said'. Prove '..Said' where nothing that the law and all that it calls make is longer than what came in: it says more and counts as full. Else prove '..UptoSaid'. A law counts once. -/
mutual
def uptoBulk {H : Type} : DataW H → Nat
  | .lit (.string bytes) => bytes.length + 1
  | .lit _ => 1
  | .nil => 1
  | .ptr d => uptoBulk d + 1
  | .slice elems spare => uptoBulkAll elems + uptoBulkAll spare + 1
  | .agg parts => uptoBulkAll parts + 1
  | .iface _ d => uptoBulk d + 1
  | .map entries => uptoBulkEntries entries + 1
  | .held _ => 1
def uptoBulkAll {H : Type} : List (DataW H) → Nat
  | [] => 0
  | d :: r => uptoBulk d + uptoBulkAll r
def uptoBulkEntries {H : Type} : List (Lit × DataW H) → Nat
  | [] => 0
  | x :: r => uptoBulkEntry x + uptoBulkEntries r
def uptoBulkEntry {H : Type} : Lit × DataW H → Nat
  | (.string bytes, d) => bytes.length + uptoBulk d + 1
  | (_, d) => uptoBulk d + 1
 end
def uptoSmall : (H : Type) → List (DataW H) → Bool := fun _ ds => decide (uptoBulkAll ds ≤ 1048576)
def OpenSpec.upto (s : _root_.Go.ChangeSpec) : _root_.Go.OpenSpec := { _root_.Go.OpenSpec.ofChange s with cond := some uptoSmall }

/-- 'cofferdamlaw23.NegoPieces', WHERE WHAT IT READS IS OF BULK AT MOST 1048576: true; the input reads as it did. -/
def negoPiecesUptoRow : OpenClaim := { program := "yteljplpiojdikaa", sum := "ff2059547870c3ca66636a2e24ccdc735ed07aad37ee3bb73d5e0f1e54a0cf14", func := "cofferdam/cofferdamlaw23.NegoPieces", spec := "negoPieces", inPlace := ["internal/abi.NoEscape", "internal/bytealg.MakeNoZero", "internal/bytealg.IndexByteString"], unfollowed := true, recurses := true, apart := false, narrowed := true }
def NegoPiecesUptoSaid : Prop := negoPiecesUptoRow.holds Try.pinned (OpenSpec.upto negoPiecesSpec)

/-- 'cofferdamlaw23.NegoTells', WHERE WHAT IT READS IS OF BULK AT MOST 1048576: true; the input reads as it did. -/
def negoTellsUptoRow : OpenClaim := { program := "yteljplpiojdikaa", sum := "ff2059547870c3ca66636a2e24ccdc735ed07aad37ee3bb73d5e0f1e54a0cf14", func := "cofferdam/cofferdamlaw23.NegoTells", spec := "negoTells", inPlace := ["internal/abi.NoEscape", "internal/bytealg.MakeNoZero", "internal/bytealg.IndexByteString"], unfollowed := true, recurses := true, apart := false, narrowed := true }
def NegoTellsUptoSaid : Prop := negoTellsUptoRow.holds Try.pinned (OpenSpec.upto negoTellsSpec)

/-- 'cofferdamlaw23.NegoBack', WHERE WHAT IT READS IS OF BULK AT MOST 1048576: true; the input reads as it did. -/
def negoBackUptoRow : OpenClaim := { program := "yteljplpiojdikaa", sum := "ff2059547870c3ca66636a2e24ccdc735ed07aad37ee3bb73d5e0f1e54a0cf14", func := "cofferdam/cofferdamlaw23.NegoBack", spec := "negoBack", inPlace := ["internal/abi.NoEscape", "internal/bytealg.MakeNoZero", "internal/bytealg.IndexByteString"], unfollowed := true, recurses := true, apart := false, narrowed := true }
def NegoBackUptoSaid : Prop := negoBackUptoRow.holds Try.pinned (OpenSpec.upto negoBackSpec)

end Rows
end Go.Proofs.Yteljplpiojdikaa
