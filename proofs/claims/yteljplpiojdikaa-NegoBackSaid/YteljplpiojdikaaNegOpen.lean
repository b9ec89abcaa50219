/- A slice of texts, and an export, that came in, opened. -/
import Derived.Test.YteljplpiojdikaaNStrs
import Derived.Test.YteljplpiojdikaaNegFeed
import Derived.Test.YteljplpiojdikaaRowKit
import Derived.OpenShut
import Derived.Deep.Strs
import Derived.Deep.Fields
import Derived.Lib.SmallJoins
namespace Go.Proofs.Yteljplpiojdikaa
open Go.Joins Go.ChangeShapes Go.WideShapes Go.ChangeAt Go.RowKit Go.Deep

theorem strl_of {H : Type} {enc : TypeId × Value → H} {w : World} {base : Nat} {spare : Nat → Bool} {held : Bool} {v : Value} {n : Nat} {x : DataW H × List MemPlace}
    (h : DataW.trod enc Try.prog w base spare held n 23 [v] = some x) : ∃ l : List (List UInt8), SlAt w v l.length (cellsS l) ∧ l.length ≤ maxLen ∧ ∀ x ∈ l, x.length ≤ maxLen := by
  rcases open_strs Try.underlying23 Try.underlying9 (by kernel_rfl) h with ⟨hc, _⟩ | ⟨a, len, cap, m, Sx, hc, _, hl, hm, hmm, _, hall⟩
  · obtain rfl : v = _ := by simpa using hc
    exact ⟨[], .inl ⟨rfl, rfl, rfl⟩, by simp, by simp⟩
  · obtain rfl : v = _ := by simpa using hc
    have hlm : len ≤ m := by rw [hmm]; split <;> omega
    rcases Nat.eq_zero_or_pos len with h0 | h0
    · subst h0
      exact ⟨[], .inr ⟨a, cap, rfl, .inl rfl, by simp [cellsS]⟩, by simp, by simp⟩
    · have hsp : a.spot = none := by
        have h := (hall 0 (by omega)).1
        have h2 := World.cell?_spot h
        simpa [Addr.add] using h2
      have hlist : ∀ s : ByteArray, (⟨s.data.toList.toArray⟩ : ByteArray) = s := fun s => by simp
      refine ⟨(List.range len).map fun i => (Sx i).data.toList, .inr ⟨a, cap, by simp, .inr hsp, fun j u hu => ?_⟩, by simp; omega, fun x hx => ?_⟩
      · have hj : j < len := by
          have := (List.getElem?_eq_some_iff.1 hu).1
          simpa [cellsS] using this
        have hu2 : u = .string (Sx j) := by
          simp only [cellsS, List.map_map] at hu
          rw [List.getElem?_map, List.getElem?_range hj] at hu
          simp only [Option.map_some, Option.some.injEq, Function.comp_apply] at hu
          rw [← hu, hlist]
        rw [hu2]
        exact (hall j (by omega)).1
      · obtain ⟨i, hi, rfl⟩ := List.mem_map.1 hx
        have := (hall i (by have := List.mem_range.1 hi; omega)).2
        rw [Array.length_toList]
        exact this

set_option maxRecDepth 100000 in
theorem open_strl {H : Type} {enc : TypeId × Value → H} {w : World} {base : Nat} {spare : Nat → Bool} {held : Bool} {v : Value} {d : DataW H} {p : List MemPlace} {r : Reach} {b0 : Nat} (hv : Value.okWide Try.prog w r b0 23 v)
    (h : DataW.Trod enc Try.prog w base spare held 23 v d p) : ∃ l : List (List UInt8), SlAt w v l.length (cellsS l) ∧ l.length ≤ maxLen ∧ ∀ x ∈ l, x.length ≤ maxLen := by
  obtain ⟨a', l', c', rfl⟩ := okWide_slice Try.underlying23 hv
  obtain ⟨n, h⟩ := h
  exact strl_of (by simpa [Value.cells] using h)
set_option maxRecDepth 100000 in
theorem open_export {H : Type} {enc : TypeId × Value → H} {w : World} {base : Nat} {spare : Nat → Bool} {held : Bool} {v : Value} {d : DataW H} {p : List MemPlace} {r : Reach} {b0 : Nat} (hv : Value.okWide Try.prog w r b0 25 v)
    (h : DataW.Trod enc Try.prog w base spare held 25 v d p) : ∃ (sz : Nat) (u : Value) (l : List (List UInt8)), sz < 18446744073709551616 ∧ v = .agg (exC sz u) ∧ SlAt w u l.length (cellsS l) ∧ l.length ≤ maxLen ∧ ∀ x ∈ l, x.length ≤ maxLen := by
  obtain ⟨v0, v1, y0, y1, n, rfl, rfl, rfl, h0, h1⟩ := open_agg2 Try.underlying25 (by kernel_rfl) (by kernel_rfl) hv h
  obtain ⟨a0, e0, rfl, w0⟩ := DataW.trod_int Try.underlying22 h0
  simp only [List.cons.injEq, and_true] at e0
  subst e0
  have b0 := bounds_u64 w0
  obtain ⟨l, hl⟩ := strl_of h1
  refine ⟨a0.toNat, v1, l, by omega, ?_, hl⟩
  unfold exC
  rw [Int.toNat_of_nonneg b0.1]

end Go.Proofs.Yteljplpiojdikaa
