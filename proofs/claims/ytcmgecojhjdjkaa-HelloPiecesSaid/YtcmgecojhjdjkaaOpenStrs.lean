/- A slice of texts that came in, opened. -/
import Derived.Test.YtcmgecojhjdjkaaStrs
import Derived.Test.YtcmgecojhjdjkaaRowKit
import Derived.OpenShut
import Derived.Deep.Strs
namespace Go.Proofs.Ytcmgecojhjdjkaa
open Go.Joins Go.ChangeShapes Go.WideShapes Go.ChangeAt Go.RowKit Go.Deep

theorem open_strl {H : Type} {enc : TypeId × Value → H} {w : World} {base : Nat} {spare : Nat → Bool} {held : Bool} {v : Value} {d : DataW H} {p : List MemPlace} {r : Reach} {b0 : Nat} (hv : Value.okWide Try.prog w r b0 22 v)
    (h : DataW.Trod enc Try.prog w base spare held 22 v d p) : ∃ l : List (List UInt8), SlAt w v l.length (cellsS l) ∧ l.length ≤ maxLen ∧ ∀ x ∈ l, x.length ≤ maxLen := by
  obtain ⟨a', l', c', rfl⟩ := okWide_slice Try.underlying22 hv
  obtain ⟨n, h⟩ := h
  rcases open_strs Try.underlying22 Try.underlying9 (by kernel_rfl) h with ⟨hc, _⟩ | ⟨a, len, cap, m, Sx, hc, _, hl, hm, hmm, _, hall⟩
  · simp [Value.cells] at hc
    obtain ⟨rfl, rfl, rfl⟩ := hc
    exact ⟨[], .inl ⟨rfl, rfl, rfl⟩, by simp, by simp⟩
  · simp [Value.cells] at hc
    obtain ⟨rfl, rfl, rfl⟩ := hc
    have hlm : l' ≤ m := by rw [hmm]; split <;> omega
    rcases Nat.eq_zero_or_pos l' with h0 | h0
    · subst h0
      exact ⟨[], .inr ⟨a, c', rfl, .inl rfl, by simp [cellsS]⟩, by simp, by simp⟩
    · have hsp : a.spot = none := by
        have h := (hall 0 (by omega)).1
        have h2 := World.cell?_spot h
        simpa [Addr.add] using h2
      have hlist : ∀ s : ByteArray, (⟨s.data.toList.toArray⟩ : ByteArray) = s := fun s => by simp
      refine ⟨(List.range l').map fun i => (Sx i).data.toList, .inr ⟨a, c', by simp, .inr hsp, fun j u hu => ?_⟩, by simp; omega, fun x hx => ?_⟩
      · have hj : j < l' := by
          have := (List.getElem?_eq_some_iff.1 hu).1
          simpa [cellsS] using this
        have hu2 : u = .string (Sx j) := by
          simp only [cellsS, List.map_map] at hu
          rw [List.getElem?_map, List.getElem?_range hj] at hu
          simp only [Option.map_some, Option.some.injEq, Function.comp_apply] at hu
          rw [← hu, hlist]
        rw [hu2]
        exact (hall j (by omega)).1
      · obtain ⟨i, hi, rfl⟩ := List.mem_map.1 hx
        have := (hall i (by have := List.mem_range.1 hi; omega)).2
        rw [Array.length_toList]
        exact this

end Go.Proofs.Ytcmgecojhjdjkaa
