/- Rows whose walk wants a bound on what came in: the form's own reach. -/
import Derived.Test.YtfcojhpnpfodeaaRowKit
import Derived.SizedLaws
import Derived.OpenShut
namespace Go.Proofs.Ytfcojhpnpfodeaa
open Go.Joins Go.ChangeShapes Go.WideShapes Go.ChangeAt Go.RowKit Go.Deep

theorem open_strd {P : Program} {t : TypeId} {H : Type} {enc : TypeId × Value → H} {w : World} {base : Nat} {spare : Nat → Bool} {held : Bool} {r : Reach} {b0 : Nat} {v : Value} {d : DataW H} {p : List MemPlace}
    (ht : P.underlying t = some .string) (hv : Value.okWide P w r b0 t v) (h : DataW.Trod enc P w base spare held t v d p) : ∃ l : List UInt8, v = .string ⟨l.toArray⟩ ∧ l.length ≤ maxLen ∧ d = .lit (.string l) := by
  obtain ⟨s, rfl, hd, _, hs⟩ := Go.ChangeMaps.open_string ht hv h
  exact ⟨s.data.toList, by simp, by have : s.data.toList.length = s.size := Array.length_toList
                                    omega, hd⟩

end Go.Proofs.Ytfcojhpnpfodeaa
