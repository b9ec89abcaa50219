/- A request that came in, opened. -/
import Derived.Test.YtneibnoocfcndaaReqSpec
import Derived.Test.YtneibnoocfcndaaRowKit
import Derived.OpenShut
namespace Go.Proofs.Ytneibnoocfcndaa
open Go.Joins Go.ChangeShapes Go.WideShapes Go.ChangeAt Go.RowKit Go.Deep

/-- A request that came in. -/
theorem open_req {H : Type} {enc : TypeId × Value → H} {w : World} {base : Nat} {spare : Nat → Bool} {held : Bool} {r : Reach} {b0 : Nat} {v : Value} {d : DataW H} {p : List MemPlace}
    (hv : Value.okWide Try.prog w r b0 25 v) (h : DataW.Trod enc Try.prog w base spare held 25 v d p) : ∃ q : Req, q.wf ∧ v = reqV q ∧ q.data.length ≤ maxLen := by
  obtain ⟨v0, v1, v2, v3, v4, v5, y0, y1, y2, y3, y4, y5, n, rfl, rfl, rfl, h0, h1, h2, h3, h4, h5⟩ := open_agg6 Try.underlying25 (by kernel_rfl) (by kernel_rfl) hv h
  obtain ⟨a0, e0, rfl, w0⟩ := DataW.trod_int Try.underlying3 h0
  obtain ⟨a1, e1, rfl, w1⟩ := DataW.trod_int Try.underlying3 h1
  obtain ⟨a2, e2, rfl, w2⟩ := DataW.trod_int Try.underlying22 h2
  obtain ⟨a3, e3, rfl, w3⟩ := DataW.trod_int Try.underlying22 h3
  obtain ⟨a4, e4, rfl, w4⟩ := DataW.trod_int Try.underlying23 h4
  obtain ⟨a5, e5, rfl, w5⟩ := DataW.trod_string Try.underlying9 h5
  simp only [List.cons.injEq, and_true] at e0 e1 e2 e3 e4 e5
  subst e0 e1 e2 e3 e4 e5
  have b2 := bounds_u64 w2
  have b3 := bounds_u64 w3
  have b4 := bounds_u32 w4
  refine ⟨⟨a0, a1, a2.toNat, a3.toNat, a4.toNat, a5.data.toList⟩, ⟨by dsimp only; omega, by dsimp only; omega, by dsimp only; omega⟩, ?_, ?_⟩
  · unfold reqV
    dsimp only
    rw [Int.toNat_of_nonneg b2.1, Int.toNat_of_nonneg b3.1, Int.toNat_of_nonneg b4.1]
  · have : a5.data.toList.length = a5.size := Array.length_toList
    dsimp only
    omega

end Go.Proofs.Ytneibnoocfcndaa
