/- Extents that came in, opened. -/
import Derived.Test.YtcmocangmfengaaRepExt
import Derived.Test.YtcmocangmfengaaRowKit
import Derived.OpenShut
import Derived.Deep.SlicePairs
namespace Go.Proofs.Ytcmocangmfengaa
open Go.Joins Go.ChangeShapes Go.WideShapes Go.ChangeAt Go.RowKit Go.Deep

instance : Inhabited Ext := ⟨⟨0, 0⟩⟩

theorem open_exts {H : Type} {enc : TypeId × Value → H} {w : World} {base : Nat} {spare : Nat → Bool} {held : Bool} {v : Value} {d : DataW H} {p : List MemPlace} {r : Reach} {b0 : Nat} (hv : Value.okWide Try.prog w r b0 24 v)
    (h : DataW.Trod enc Try.prog w base spare held 24 v d p) : ∃ l, ExtAt w v l := by
  obtain ⟨a', l', c', rfl⟩ := okWide_slice Try.underlying24 hv
  obtain ⟨n, h⟩ := h
  rcases open_slice_pairs Try.underlying24 Try.underlying60 (by kernel_rfl) rfl rfl (by kernel_rfl) (by kernel_rfl) h with ⟨hc, _⟩ | ⟨a, len, cap, m, k, V0, V1, D0, D1, P0, P1, hc, _, hl, hm, hmm, _, hall⟩
  · simp [Value.cells] at hc
    obtain ⟨rfl, rfl, rfl⟩ := hc
    exact ⟨[], none, 0, rfl, .inl rfl⟩
  · simp [Value.cells] at hc
    obtain ⟨rfl, rfl, rfl⟩ := hc
    have hlm : l' ≤ m := by rw [hmm]; split <;> omega
    have hx : ∀ i, i < l' → ∃ x : Ext, w.cell? (a.add (i * 2)) = some (.int .i64 x.len) ∧ w.cell? (a.add (i * 2 + 1)) = some (.int .i64 x.flags) := by
      intro i hi
      obtain ⟨h0, h1, h2, h3⟩ := hall i (by omega)
      obtain ⟨N0, e0, _, _⟩ := DataW.trod_int Try.underlying3 h2
      obtain ⟨N1, e1, _, _⟩ := DataW.trod_int Try.underlying3 h3
      simp only [List.cons.injEq, and_true] at e0 e1
      rw [e0] at h0
      rw [e1] at h1
      exact ⟨⟨N0, N1⟩, h0, h1⟩
    rcases Nat.eq_zero_or_pos l' with h0 | h0
    · subst h0
      exact ⟨[], some a, c', rfl, .inl rfl⟩
    · have hf : ∃ f : Nat → Ext, ∀ i, i < l' → w.cell? (a.add (i * 2)) = some (.int .i64 (f i).len) ∧ w.cell? (a.add (i * 2 + 1)) = some (.int .i64 (f i).flags) := choose_lt hx
      obtain ⟨f, hf⟩ := hf
      have hsp : a.spot = none := by
        have h := (hf 0 h0).1
        rw [Nat.zero_mul] at h
        have h2 := World.cell?_spot h
        simpa [Addr.add] using h2
      obtain ⟨b, o, sp⟩ := a
      dsimp only at hsp
      subst hsp
      refine ⟨(List.range l').map f, some ⟨b, o, none⟩, c', by simp, .inr ⟨b, o, rfl, fun j x hj => ?_⟩⟩
      have hj2 : j < l' := by
        have := (List.getElem?_eq_some_iff.1 hj).1
        simpa using this
      have hx2 : x = f j := by
        rw [List.getElem?_map, List.getElem?_range hj2] at hj
        simpa using hj.symm
      have g := hf j hj2
      rw [hx2]
      have ad : ∀ k : Nat, (⟨b, o, none⟩ : Addr).add k = ⟨b, o + k, none⟩ := by intro k; unfold Addr.add; split <;> simp_all
      rw [ad, ad] at g
      rw [show o + j * 2 + 1 = o + (j * 2 + 1) by omega]
      exact g

end Go.Proofs.Ytcmocangmfengaa
