/- Slices of requests and of bools that came in, opened. -/
import Derived.Test.YtfcojhpnpfodeaaMatAsks
import Derived.Test.YtfcojhpnpfodeaaRowKit
import Derived.OpenShut
import Derived.Deep.Slices
namespace Go.Proofs.Ytfcojhpnpfodeaa
open Go.Joins Go.ChangeShapes Go.WideShapes Go.ChangeAt Go.RowKit Go.Deep

theorem open_slice6 {H : Type} {enc : TypeId × Value → H} {P : Program} {w : World} {base : Nat} {spare : Nat → Bool} {held : Bool} {t e : TypeId} {f0 f1 f2 f3 f4 f5 : Field} {fuel : Nat} {cs : List Value} {x : DataW H × List MemPlace} (ht : P.underlying t = some (.slice e)) (he : P.underlying e = some (.struct #[f0, f1, f2, f3, f4, f5]))
    (ce : P.cellsOf e = 6) (hone : oneCellFields P #[f0, f1, f2, f3, f4, f5] = true)
    (h : DataW.trod enc P w base spare held fuel t cs = some x) :
    cs = [.slice none 0 0] ∨
    ∃ (a : Addr) (len cap m n : Nat) (V0 V1 V2 V3 V4 V5 : Nat → Value) (Y0 Y1 Y2 Y3 Y4 Y5 : Nat → DataW H × List MemPlace), cs = [.slice (some a) len cap] ∧ base ≤ a.block ∧ len ≤ cap ∧ cap ≤ maxLen ∧ m = (if spare a.block then cap else len) ∧
      ∀ i, i < m → (w.cell? (a.add (i * 6)) = some (V0 i) ∧ w.cell? (a.add (i * 6 + 1)) = some (V1 i) ∧ w.cell? (a.add (i * 6 + 2)) = some (V2 i) ∧ w.cell? (a.add (i * 6 + 3)) = some (V3 i) ∧ w.cell? (a.add (i * 6 + 4)) = some (V4 i) ∧ w.cell? (a.add (i * 6 + 5)) = some (V5 i)) ∧
        DataW.trod enc P w base spare held n f0.type [V0 i] = some (Y0 i) ∧ DataW.trod enc P w base spare held n f1.type [V1 i] = some (Y1 i) ∧ DataW.trod enc P w base spare held n f2.type [V2 i] = some (Y2 i) ∧ DataW.trod enc P w base spare held n f3.type [V3 i] = some (Y3 i) ∧ DataW.trod enc P w base spare held n f4.type [V4 i] = some (Y4 i) ∧ DataW.trod enc P w base spare held n f5.type [V5 i] = some (Y5 i) := by
  rcases open_slice ht h with ⟨h0, _⟩ | ⟨a, len, cap, m, n, D, Pl, rfl, hb, hl, hm, hmm, rfl, hx⟩
  · exact Or.inl h0
  right
  obtain ⟨o0, k0⟩ := hone_of hone 0 f0 rfl
  obtain ⟨o1, k1⟩ := hone_of hone 1 f1 rfl
  obtain ⟨o2, k2⟩ := hone_of hone 2 f2 rfl
  obtain ⟨o3, k3⟩ := hone_of hone 3 f3 rfl
  obtain ⟨o4, k4⟩ := hone_of hone 4 f4 rfl
  obtain ⟨o5, k5⟩ := hone_of hone 5 f5 rfl
  have each : ∀ i, i < m → ∃ q : (Value × Value × Value × Value × Value × Value) × ((DataW H × List MemPlace) × (DataW H × List MemPlace) × (DataW H × List MemPlace) × (DataW H × List MemPlace) × (DataW H × List MemPlace) × (DataW H × List MemPlace)),
      (w.cell? (a.add (i * 6)) = some q.1.1 ∧ w.cell? (a.add (i * 6 + 1)) = some q.1.2.1 ∧ w.cell? (a.add (i * 6 + 2)) = some q.1.2.2.1 ∧ w.cell? (a.add (i * 6 + 3)) = some q.1.2.2.2.1 ∧ w.cell? (a.add (i * 6 + 4)) = some q.1.2.2.2.2.1 ∧ w.cell? (a.add (i * 6 + 5)) = some q.1.2.2.2.2.2) ∧
        DataW.trod enc P w base spare held (n - 1) f0.type [q.1.1] = some q.2.1 ∧ DataW.trod enc P w base spare held (n - 1) f1.type [q.1.2.1] = some q.2.2.1 ∧ DataW.trod enc P w base spare held (n - 1) f2.type [q.1.2.2.1] = some q.2.2.2.1 ∧ DataW.trod enc P w base spare held (n - 1) f3.type [q.1.2.2.2.1] = some q.2.2.2.2.1 ∧ DataW.trod enc P w base spare held (n - 1) f4.type [q.1.2.2.2.2.1] = some q.2.2.2.2.2.1 ∧ DataW.trod enc P w base spare held (n - 1) f5.type [q.1.2.2.2.2.2] = some q.2.2.2.2.2.2 := by
    intro i hi
    obtain ⟨cs', h1, h2⟩ := hx i hi
    rw [ce] at h1
    obtain ⟨_, hlen, hcell⟩ := World.cells?_some h1
    obtain ⟨xs, k, hk, hxy, _, hxl, hf⟩ := DataW.trod_struct he h2
    have hk' : k = n - 1 := by omega
    subst hk'
    match xs, hxl, cs', hlen with
    | [y0, y1, y2, y3, y4, y5], _, [v0, v1, v2, v3, v4, v5], _ =>
      have e0 := hcell 0 (by omega)
      have e1 := hcell 1 (by omega)
      have e2 := hcell 2 (by omega)
      have e3 := hcell 3 (by omega)
      have e4 := hcell 4 (by omega)
      have e5 := hcell 5 (by omega)
      rw [add_add] at e0 e1 e2 e3 e4 e5
      exact ⟨((v0, v1, v2, v3, v4, v5), (y0, y1, y2, y3, y4, y5)), ⟨by simpa using e0, by simpa using e1, by simpa using e2, by simpa using e3, by simpa using e4, by simpa using e5⟩,
        by simpa [o0, k0] using hf 0 f0 rfl, by simpa [o1, k1] using hf 1 f1 rfl, by simpa [o2, k2] using hf 2 f2 rfl, by simpa [o3, k3] using hf 3 f3 rfl, by simpa [o4, k4] using hf 4 f4 rfl, by simpa [o5, k5] using hf 5 f5 rfl⟩
  obtain ⟨q, hq⟩ := choose_lt each
  exact ⟨a, len, cap, m, n - 1, fun i => (q i).1.1, fun i => (q i).1.2.1, fun i => (q i).1.2.2.1, fun i => (q i).1.2.2.2.1, fun i => (q i).1.2.2.2.2.1, fun i => (q i).1.2.2.2.2.2, fun i => (q i).2.1, fun i => (q i).2.2.1, fun i => (q i).2.2.2.1, fun i => (q i).2.2.2.2.1, fun i => (q i).2.2.2.2.2.1, fun i => (q i).2.2.2.2.2.2, rfl, hb, hl, hm, hmm, hq⟩

instance : Inhabited Req := ⟨.zero⟩

/-- What a request in memory is. -/
structure Req.inMem (q : Req) : Prop where
  wf : q.wf
  data : q.data.length ≤ maxLen
  flags : -9223372036854775808 ≤ q.flags ∧ q.flags ≤ 9223372036854775807
  kind : -9223372036854775808 ≤ q.kind ∧ q.kind ≤ 9223372036854775807

set_option maxRecDepth 100000 in
theorem open_reqs {H : Type} {enc : TypeId × Value → H} {w : World} {base : Nat} {spare : Nat → Bool} {held : Bool} {v : Value} {d : DataW H} {p : List MemPlace} {r : Reach} {b0 : Nat} (hv : Value.okWide Try.prog w r b0 22 v)
    (h : DataW.Trod enc Try.prog w base spare held 22 v d p) : ∃ l : List Req, SlAt w v l.length (l.flatMap reqC) ∧ l.length ≤ maxLen ∧ ∀ q ∈ l, q.inMem := by
  obtain ⟨a', l', c', rfl⟩ := okWide_slice Try.underlying22 hv
  obtain ⟨n, h⟩ := h
  rcases open_slice6 Try.underlying22 Try.underlying37 (by kernel_rfl) (by kernel_rfl) h with hc | ⟨a, len, cap, m, k, V0, V1, V2, V3, V4, V5, Y0, Y1, Y2, Y3, Y4, Y5, hc, _, hl, hm, hmm, hall⟩
  · simp [Value.cells] at hc
    obtain ⟨rfl, rfl, rfl⟩ := hc
    exact ⟨[], .inl ⟨rfl, rfl, rfl⟩, by simp, by simp⟩
  · simp [Value.cells] at hc
    obtain ⟨rfl, rfl, rfl⟩ := hc
    have hlm : l' ≤ m := by rw [hmm]; split <;> omega
    have hx : ∀ i, i < l' → ∃ q : Req, (w.cell? (a.add (i * 6)) = some (.int .i64 q.flags) ∧ w.cell? (a.add (i * 6 + 1)) = some (.int .i64 q.kind) ∧ w.cell? (a.add (i * 6 + 2)) = some (.int .u64 (q.cookie : Nat)) ∧ w.cell? (a.add (i * 6 + 3)) = some (.int .u64 (q.frm : Nat)) ∧ w.cell? (a.add (i * 6 + 4)) = some (.int .u32 (q.len : Nat)) ∧ w.cell? (a.add (i * 6 + 5)) = some (.string ⟨q.data.toArray⟩)) ∧ q.inMem := by
      intro i hi
      obtain ⟨⟨c0, c1, c2, c3, c4, c5⟩, h0, h1, h2, h3, h4, h5⟩ := hall i (by omega)
      obtain ⟨N0, e0, _, w0⟩ := DataW.trod_int Try.underlying3 h0
      obtain ⟨N1, e1, _, w1⟩ := DataW.trod_int Try.underlying3 h1
      obtain ⟨N2, e2, _, w2⟩ := DataW.trod_int Try.underlying34 h2
      obtain ⟨N3, e3, _, w3⟩ := DataW.trod_int Try.underlying34 h3
      obtain ⟨N4, e4, _, w4⟩ := DataW.trod_int Try.underlying35 h4
      obtain ⟨S5, e5, _, w5⟩ := DataW.trod_string Try.underlying9 h5
      simp only [List.cons.injEq, and_true] at e0 e1 e2 e3 e4 e5
      have b0 := bounds_i64 w0
      have b1 := bounds_i64 w1
      have b2 := bounds_u64 w2
      have b3 := bounds_u64 w3
      have b4 := bounds_u32 w4
      obtain ⟨m2, rfl⟩ := Int.eq_ofNat_of_zero_le b2.1
      obtain ⟨m3, rfl⟩ := Int.eq_ofNat_of_zero_le b3.1
      obtain ⟨m4, rfl⟩ := Int.eq_ofNat_of_zero_le b4.1
      refine ⟨⟨N0, N1, m2, m3, m4, S5.data.toList⟩, ⟨by rw [c0, e0], by rw [c1, e1], by rw [c2, e2], by rw [c3, e3], by rw [c4, e4], by rw [c5, e5]⟩, ⟨⟨?_, ?_, ?_⟩, ?_, b0, b1⟩⟩
      · show m4 < _; omega
      · show m2 < _; omega
      · show m3 < _; omega
      · show S5.data.toList.length ≤ maxLen
        rw [Array.length_toList]
        exact w5
    rcases Nat.eq_zero_or_pos l' with h0 | h0
    · subst h0
      exact ⟨[], .inr ⟨a, c', rfl, .inl rfl, by simp⟩, by simp, by simp⟩
    · have hf : ∃ f : Nat → Req, ∀ i, i < l' → (w.cell? (a.add (i * 6)) = some (.int .i64 (f i).flags) ∧ w.cell? (a.add (i * 6 + 1)) = some (.int .i64 (f i).kind) ∧ w.cell? (a.add (i * 6 + 2)) = some (.int .u64 ((f i).cookie : Nat)) ∧ w.cell? (a.add (i * 6 + 3)) = some (.int .u64 ((f i).frm : Nat)) ∧ w.cell? (a.add (i * 6 + 4)) = some (.int .u32 ((f i).len : Nat)) ∧ w.cell? (a.add (i * 6 + 5)) = some (.string ⟨(f i).data.toArray⟩)) ∧ (f i).inMem := choose_lt hx
      obtain ⟨f, hf⟩ := hf
      have hsp : a.spot = none := by
        have h := (hf 0 h0).1.1
        rw [Nat.zero_mul] at h
        have h2 := World.cell?_spot h
        simpa [Addr.add] using h2
      refine ⟨(List.range l').map f, .inr ⟨a, c', by simp, .inr hsp, fun j u hu => ?_⟩, by simp; omega, fun x hx => ?_⟩
      · have hj : j < l' * 6 := by
          have := (List.getElem?_eq_some_iff.1 hu).1
          rw [flat_len reqC 6 reqC_len] at this
          simpa using this
        have hj6 : j / 6 < l' := by omega
        have hj2 : j / 6 * 6 + j % 6 = j := by omega
        have e1 : ((List.range l').map f)[j / 6]? = some (f (j / 6)) := by rw [List.getElem?_map, List.getElem?_range hj6]; rfl
        rw [← hj2, flat_at reqC 6 reqC_len _ (j / 6) (f (j / 6)) (j % 6) e1 (by omega)] at hu
        obtain ⟨g0, g1, g2, g3, g4, g5⟩ := (hf (j / 6) hj6).1
        rw [← hj2]
        rcases (show j % 6 = 0 ∨ j % 6 = 1 ∨ j % 6 = 2 ∨ j % 6 = 3 ∨ j % 6 = 4 ∨ j % 6 = 5 by omega) with e | e | e | e | e | e
        all_goals
          rw [e] at hu ⊢
          simp only [reqC, List.getElem?_cons_zero, List.getElem?_cons_succ, Option.some.injEq] at hu
          subst hu
          assumption
      · obtain ⟨i, hi, rfl⟩ := List.mem_map.1 hx
        exact (hf i (List.mem_range.1 hi)).2

set_option maxRecDepth 100000 in
theorem open_boolsl {H : Type} {enc : TypeId × Value → H} {w : World} {base : Nat} {held : Bool} {v : Value} {d : DataW H} {p : List MemPlace} {r : Reach} {b0 : Nat} (hv : Value.okWide Try.prog w r b0 47 v)
    (h : DataW.Trod enc Try.prog w base (fun _ => true) held 47 v d p) : ∃ l : List Bool, SlAt w v l.length (l.map .bool) ∧ l.length ≤ maxLen := by
  obtain ⟨a', l', c', rfl⟩ := okWide_slice Try.underlying47 hv
  obtain ⟨n, h⟩ := h
  rcases open_slice1 Try.underlying47 (by kernel_rfl) h with ⟨hc, _⟩ | ⟨a, len, cap, m, n, V, D, Pl, hc, hb, hl, hm, hmm, _, hx⟩
  · simp [Value.cells] at hc
    obtain ⟨rfl, rfl, rfl⟩ := hc
    exact ⟨[], .inl ⟨rfl, rfl, rfl⟩, by simp⟩
  · simp [Value.cells] at hc
    obtain ⟨rfl, rfl, rfl⟩ := hc
    simp only [if_true] at hmm
    have hx2 : ∀ i, i < l' → ∃ b : Bool, w.cell? (a.add i) = some (.bool b) := fun i hi => by
      obtain ⟨h1, h2⟩ := hx i (by omega)
      obtain ⟨b, e, _⟩ := DataW.trod_bool Try.underlying4 h2
      simp only [List.cons.injEq, and_true] at e
      exact ⟨b, by rw [h1, e]⟩
    have hf : ∃ f : Nat → Bool, ∀ i, i < l' → w.cell? (a.add i) = some (.bool (f i)) := choose_lt hx2
    obtain ⟨f, hf⟩ := hf
    rcases Nat.eq_zero_or_pos l' with h0 | h0
    · subst h0
      exact ⟨[], .inr ⟨a, c', rfl, .inl rfl, by simp⟩, by simp⟩
    · have hsp : a.spot = none := by
        have h2 := World.cell?_spot (hf 0 h0)
        simpa [Addr.add] using h2
      refine ⟨(List.range l').map f, .inr ⟨a, c', by simp, .inr hsp, fun j u hu => ?_⟩, by simp; omega⟩
      have hj : j < l' := by
        have := (List.getElem?_eq_some_iff.1 hu).1
        simpa using this
      have hu2 : u = .bool (f j) := by
        rw [List.map_map, List.getElem?_map, List.getElem?_range hj] at hu
        simpa using hu.symm
      rw [hu2]
      exact hf j hj
end Go.Proofs.Ytfcojhpnpfodeaa
