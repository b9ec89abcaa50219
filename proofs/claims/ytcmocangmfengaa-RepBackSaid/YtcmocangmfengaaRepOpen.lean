/- A reply and a chunk that came in, opened. -/
import Derived.Test.YtcmocangmfengaaRepSimple
import Derived.Test.YtcmocangmfengaaRowKit
import Derived.OpenShut
namespace Go.Proofs.Ytcmocangmfengaa
open Go.Joins Go.ChangeShapes Go.WideShapes Go.ChangeAt Go.RowKit Go.Deep

theorem open_rep {H : Type} {enc : TypeId × Value → H} {w : World} {base : Nat} {spare : Nat → Bool} {held : Bool} {r : Reach} {b0 : Nat} {v : Value} {d : DataW H} {p : List MemPlace}
    (hv : Value.okWide Try.prog w r b0 41 v) (h : DataW.Trod enc Try.prog w base spare held 41 v d p) : ∃ q : Rep, q.wf ∧ v = repV q ∧ q.data.length ≤ maxLen := by
  obtain ⟨v0, v1, v2, y0, y1, y2, n, rfl, rfl, rfl, h0, h1, h2⟩ := open_agg3 Try.underlying41 (by kernel_rfl) (by kernel_rfl) hv h
  obtain ⟨a0, e0, rfl, w0⟩ := DataW.trod_int Try.underlying23 h0
  obtain ⟨a1, e1, rfl, w1⟩ := DataW.trod_int Try.underlying22 h1
  obtain ⟨a2, e2, rfl, w2⟩ := DataW.trod_string Try.underlying9 h2
  simp only [List.cons.injEq, and_true] at e0 e1 e2
  subst e0 e1 e2
  have b0 := bounds_u32 w0
  have b1 := bounds_u64 w1
  refine ⟨⟨a0.toNat, a1.toNat, a2.data.toList⟩, ⟨by dsimp only; omega, by dsimp only; omega⟩, ?_, ?_⟩
  · unfold repV
    dsimp only
    rw [Int.toNat_of_nonneg b0.1, Int.toNat_of_nonneg b1.1]
  · have : a2.data.toList.length = a2.size := Array.length_toList
    dsimp only
    omega

theorem open_chunk {H : Type} {enc : TypeId × Value → H} {w : World} {base : Nat} {spare : Nat → Bool} {held : Bool} {r : Reach} {b0 : Nat} {v : Value} {d : DataW H} {p : List MemPlace}
    (hv : Value.okWide Try.prog w r b0 43 v) (h : DataW.Trod enc Try.prog w base spare held 43 v d p) : ∃ q : Chunk, q.wf ∧ v = chunkV q ∧ q.data.length ≤ maxLen := by
  obtain ⟨v0, v1, v2, v3, y0, y1, y2, y3, n, rfl, rfl, rfl, h0, h1, h2, h3⟩ := open_agg4 Try.underlying43 (by kernel_rfl) (by kernel_rfl) hv h
  obtain ⟨a0, e0, rfl⟩ := DataW.trod_bool Try.underlying4 h0
  obtain ⟨a1, e1, rfl, w1⟩ := DataW.trod_int Try.underlying3 h1
  obtain ⟨a2, e2, rfl, w2⟩ := DataW.trod_int Try.underlying22 h2
  obtain ⟨a3, e3, rfl, w3⟩ := DataW.trod_string Try.underlying9 h3
  simp only [List.cons.injEq, and_true] at e0 e1 e2 e3
  subst e0 e1 e2 e3
  have b2 := bounds_u64 w2
  refine ⟨⟨a0, a1, a2.toNat, a3.data.toList⟩, by unfold Chunk.wf; dsimp only; omega, ?_, ?_⟩
  · unfold chunkV
    dsimp only
    rw [Int.toNat_of_nonneg b2.1]
  · have : a3.data.toList.length = a3.size := Array.length_toList
    dsimp only
    omega

end Go.Proofs.Ytcmocangmfengaa
