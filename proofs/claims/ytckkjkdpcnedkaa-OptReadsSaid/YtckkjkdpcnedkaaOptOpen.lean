/- An option and an answer that came in, opened. -/
import Derived.Test.YtckkjkdpcnedkaaReadAns
import Derived.Test.YtckkjkdpcnedkaaRowKit
import Derived.OpenShut
namespace Go.Proofs.Ytckkjkdpcnedkaa
open Go.Joins Go.ChangeShapes Go.WideShapes Go.ChangeAt Go.RowKit Go.Deep

theorem open_opt {H : Type} {enc : TypeId × Value → H} {w : World} {base : Nat} {spare : Nat → Bool} {held : Bool} {r : Reach} {b0 : Nat} {v : Value} {d : DataW H} {p : List MemPlace}
    (hv : Value.okWide Try.prog w r b0 32 v) (h : DataW.Trod enc Try.prog w base spare held 32 v d p) : ∃ q : Nat × List UInt8, q.1 < 4294967296 ∧ v = optV q ∧ q.2.length ≤ maxLen := by
  obtain ⟨v0, v1, y0, y1, n, rfl, rfl, rfl, h0, h1⟩ := open_agg2 Try.underlying32 (by kernel_rfl) (by kernel_rfl) hv h
  obtain ⟨a0, e0, rfl, w0⟩ := DataW.trod_int Try.underlying30 h0
  obtain ⟨a1, e1, rfl, w1⟩ := DataW.trod_string Try.underlying9 h1
  simp only [List.cons.injEq, and_true] at e0 e1
  subst e0 e1
  have b0 := bounds_u32 w0
  refine ⟨(a0.toNat, a1.data.toList), by dsimp only; omega, ?_, ?_⟩
  · unfold optV
    dsimp only
    rw [Int.toNat_of_nonneg b0.1]
  · have : a1.data.toList.length = a1.size := Array.length_toList
    dsimp only
    omega

theorem open_ans {H : Type} {enc : TypeId × Value → H} {w : World} {base : Nat} {spare : Nat → Bool} {held : Bool} {r : Reach} {b0 : Nat} {v : Value} {d : DataW H} {p : List MemPlace}
    (hv : Value.okWide Try.prog w r b0 34 v) (h : DataW.Trod enc Try.prog w base spare held 34 v d p) : ∃ q : Nat × Nat × List UInt8, (q.1 < 4294967296 ∧ q.2.1 < 4294967296) ∧ v = ansV q ∧ q.2.2.length ≤ maxLen := by
  obtain ⟨v0, v1, v2, y0, y1, y2, n, rfl, rfl, rfl, h0, h1, h2⟩ := open_agg3 Try.underlying34 (by kernel_rfl) (by kernel_rfl) hv h
  obtain ⟨a0, e0, rfl, w0⟩ := DataW.trod_int Try.underlying30 h0
  obtain ⟨a1, e1, rfl, w1⟩ := DataW.trod_int Try.underlying30 h1
  obtain ⟨a2, e2, rfl, w2⟩ := DataW.trod_string Try.underlying9 h2
  simp only [List.cons.injEq, and_true] at e0 e1 e2
  subst e0 e1 e2
  have b0 := bounds_u32 w0
  have b1 := bounds_u32 w1
  refine ⟨(a0.toNat, a1.toNat, a2.data.toList), ⟨by dsimp only; omega, by dsimp only; omega⟩, ?_, ?_⟩
  · unfold ansV
    dsimp only
    rw [Int.toNat_of_nonneg b0.1, Int.toNat_of_nonneg b1.1]
  · have : a2.data.toList.length = a2.size := Array.length_toList
    dsimp only
    omega

end Go.Proofs.Ytckkjkdpcnedkaa
