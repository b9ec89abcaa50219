/- Slices of numbers that came in, opened. -/
import Derived.Test.YteljplpiojdikaaNegSays
import Derived.Test.YteljplpiojdikaaNegOpen
namespace Go.Proofs.Yteljplpiojdikaa
open Go.Joins Go.ChangeShapes Go.WideShapes Go.ChangeAt Go.RowKit Go.Deep

set_option maxRecDepth 100000 in
theorem open_rowZ {H : Type} {enc : TypeId × Value → H} {w : World} {base : Nat} {spare : Nat → Bool} {held : Bool} {t e : TypeId} {k : IntKind} {v : Value} {d : DataW H} {p : List MemPlace} {r : Reach} {b0 : Nat} (ht : Try.prog.underlying t = some (.slice e)) (he : Try.prog.underlying e = some (.int k)) (hc : Try.prog.cellsOf e = 1)
    (hv : Value.okWide Try.prog w r b0 t v) (h : DataW.Trod enc Try.prog w base spare held t v d p) : ∃ l : List Int, SlAt w v l.length (l.map fun x => .int k x) ∧ l.length ≤ maxLen ∧ ∀ x ∈ l, (Lit.int k x).wf = true := by
  obtain ⟨a', l', c', rfl⟩ := okWide_slice ht hv
  obtain ⟨n, h⟩ := h
  rcases open_slice1 ht hc h with ⟨hc, _⟩ | ⟨a, len, cap, m, n, V, D, Pl, hc, _, hl, hm, hmm, _, hall⟩
  · simp [Value.cells] at hc
    obtain ⟨rfl, rfl, rfl⟩ := hc
    exact ⟨[], .inl ⟨rfl, rfl, rfl⟩, by simp, by simp⟩
  · simp [Value.cells] at hc
    obtain ⟨rfl, rfl, rfl⟩ := hc
    have hlm : l' ≤ m := by rw [hmm]; split <;> omega
    have each : ∀ i, i < m → ∃ s : Int, w.cell? (a.add i) = some (.int k s) ∧ (Lit.int k s).wf = true := fun i hi => by
      obtain ⟨s, h1, _, h3⟩ := DataW.trod_int he (hall i hi).2
      simp only [List.cons.injEq, and_true] at h1
      exact ⟨s, by rw [(hall i hi).1, h1], h3⟩
    obtain ⟨Sx, hS⟩ := choose_lt each
    rcases Nat.eq_zero_or_pos l' with h0 | h0
    · subst h0
      exact ⟨[], .inr ⟨a, c', rfl, .inl rfl, by simp⟩, by simp, by simp⟩
    · have hsp : a.spot = none := by
        have h := (hS 0 (by omega)).1
        have h2 := World.cell?_spot h
        simpa [Addr.add] using h2
      refine ⟨(List.range l').map Sx, .inr ⟨a, c', by simp, .inr hsp, fun j u hu => ?_⟩, by simp; omega, fun x hx => ?_⟩
      · have hj : j < l' := by
          have := (List.getElem?_eq_some_iff.1 hu).1
          simpa using this
        rw [List.map_map, List.getElem?_map, List.getElem?_range hj] at hu
        simp only [Option.map_some, Option.some.injEq, Function.comp_apply] at hu
        rw [← hu]
        exact (hS j (by omega)).1
      · obtain ⟨i, hi, rfl⟩ := List.mem_map.1 hx
        exact (hS i (by have := List.mem_range.1 hi; omega)).2
set_option maxRecDepth 100000 in
theorem open_ints' {H : Type} {enc : TypeId × Value → H} {w : World} {base : Nat} {spare : Nat → Bool} {held : Bool} {v : Value} {d : DataW H} {p : List MemPlace} {r : Reach} {b0 : Nat} (hv : Value.okWide Try.prog w r b0 37 v)
    (h : DataW.Trod enc Try.prog w base spare held 37 v d p) : ∃ l : List Int, SlAt w v l.length (cellsZ l) ∧ l.length ≤ maxLen := by
  obtain ⟨l, h1, h2, _⟩ := open_rowZ Try.underlying37 Try.underlying3 (by kernel_rfl) hv h
  exact ⟨l, h1, h2⟩
def cellsH (l : List Nat) : List Value := l.map fun x => .int .u16 (x : Nat)
theorem cellsH_at (l : List Nat) (k : Nat) (x : Nat) (h : l[k]? = some x) : (cellsH l)[k]? = some (.int .u16 (x : Nat)) := by simp [cellsH, h]
set_option maxRecDepth 100000 in
theorem open_u16s {H : Type} {enc : TypeId × Value → H} {w : World} {base : Nat} {spare : Nat → Bool} {held : Bool} {v : Value} {d : DataW H} {p : List MemPlace} {r : Reach} {b0 : Nat} (hv : Value.okWide Try.prog w r b0 52 v)
    (h : DataW.Trod enc Try.prog w base spare held 52 v d p) : ∃ l : List Nat, SlAt w v l.length (cellsH l) ∧ l.length ≤ maxLen ∧ ∀ x ∈ l, x < 65536 := by
  obtain ⟨l, h1, h2, h3⟩ := open_rowZ Try.underlying52 Try.underlying53 (by kernel_rfl) hv h
  have hb : ∀ x ∈ l, 0 ≤ x ∧ x < 65536 := fun x hx => by
    have := h3 x hx
    simp [Lit.wf, IntKind.min, IntKind.max, IntKind.signed, IntKind.bits] at this
    omega
  refine ⟨l.map Int.toNat, ?_, by simpa using h2, fun x hx => ?_⟩
  · have e : cellsH (l.map Int.toNat) = l.map fun x => .int .u16 x := by
      unfold cellsH
      rw [List.map_map]
      apply List.map_congr_left
      intro x hx
      simp only [Function.comp_apply]
      rw [Int.toNat_of_nonneg (hb x hx).1]
    rw [e, List.length_map]
    exact h1
  · obtain ⟨y, hy, rfl⟩ := List.mem_map.1 hx
    have := hb y hy
    omega

end Go.Proofs.Yteljplpiojdikaa
