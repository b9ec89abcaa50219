/- match's status. -/
import Derived.Test.YtfcojhpnpfodeaaMatKinds
import Derived.Test.YtfcojhpnpfodeaaMRepToSt
import Derived.Test.YtfcojhpnpfodeaaMatRFind
namespace Go.Proofs.Ytfcojhpnpfodeaa
open Go.RowKit

theorem exts_read {t : List UInt8} {l : List Ext} {T : Bool} (h : Exts t l T) : ∀ n, t.length = 8 * n → readExts n t = if T = true then some l else none := by
  induction h with
  | nil =>
    intro n hn
    obtain rfl : n = 0 := by simp at hn; omega
    rfl
  | zero h hz =>
    intro n hn
    obtain ⟨n, rfl⟩ : ∃ n', n = n' + 1 := ⟨n - 1, by omega⟩
    rw [readExts, if_pos hz]
    rfl
  | more h hz ha ih =>
    intro n hn
    obtain ⟨n, rfl⟩ : ∃ n', n = n' + 1 := ⟨n - 1, by omega⟩
    rw [readExts, if_neg hz, ih n (by rw [List.length_drop]; omega)]
    cases ‹Bool› <;> simp

theorem status_cases (d : List UInt8) (hd : d.length ≤ 100000) : ∃ (c : Nat) (L : List Ext) (E : Int), c < 4294967296 ∧ L.length ≤ 1000 ∧ (∀ W, Calls Try.prog 67 #[.string ⟨d.toArray⟩] W (TsGives W c L E)) ∧
    ((E = 0 ∧ readStatus d = some (c, L)) ∨ ((E == 0) = false ∧ readStatus d = none)) := by
  by_cases hb : d.length < 12 ∨ 4004 < d.length ∨ d.length % 8 ≠ 4
  · exact ⟨0, [], 14, by decide, by simp, fun W => tostatus_bad d hd (by omega) W, .inr ⟨rfl, by unfold readStatus; rw [if_pos hb]⟩⟩
  · obtain ⟨L, T, hL⟩ := exts_exists ((d.length - 4) / 8) (d.drop 4) (by rw [List.length_drop]; omega)
    have hlen := exts_len hL
    rw [List.length_drop] at hlen
    have hr := exts_read hL ((d.length - 4) / 8) (by rw [List.length_drop]; omega)
    cases T with
    | true => exact ⟨rnum d 0 4, L, 0, rnum_lt d 0 4, by omega, fun W => tostatus_good d (by omega) (by omega) (by omega) L true hL W _ (.inl ⟨rfl, fun _ _ h => h⟩), .inl ⟨rfl, by unfold readStatus; rw [if_neg hb, hr]; rfl⟩⟩
    | false => exact ⟨0, [], 25, by decide, by simp, fun W => tostatus_good d (by omega) (by omega) (by omega) L false hL W _ (.inr ⟨rfl, fun _ _ h => h⟩), .inr ⟨rfl, by unfold readStatus; rw [if_neg hb, hr]; rfl⟩⟩

theorem span_add {w6 : World} {B : Nat} {ps : List (Span × Value)} {l : List Span} {c : Nat} {L : List Ext} {ve : Value} {g c6 : Nat} (h1 : ps.map Prod.fst = l) (h3 : ∀ p ∈ ps, ExtT w6 p.2 p.1.list) (hE : ExtT w6 ve L) (ho : w6.ownsRow B 90 2 (.slice (some ⟨g, 0, none⟩) (l.length + 1) c6) (l.length + 1) (ps.flatMap spanC ++ [.int .u32 (c : Nat), ve])) : SpanAt w6 (.slice (some ⟨g, 0, none⟩) (l.length + 1) c6) (l ++ [⟨c, L⟩]) := by
  refine ⟨ps ++ [(⟨c, L⟩, ve)], by simp [h1], ?_, ?_, TyAt.of_row ho⟩
  · have e : (ps ++ [((⟨c, L⟩ : Span), ve)]).flatMap spanC = ps.flatMap spanC ++ [.int .u32 (c : Nat), ve] := by simp [spanC]
    rw [e, List.length_append]
    exact SlAt.of_row ho
  · intro p hp
    rcases List.mem_append.1 hp with hp | hp
    · exact h3 p hp
    · simp only [List.mem_cons, List.not_mem_nil, or_false] at hp
      subst hp
      exact hE

section
variable {W0 : FW} {b : Nat} {w : World} {m : Mat} {ns : List Answ} {k : Nat} {d : List UInt8} {q : Wait}
/-- The k-th's spans turned. -/
theorem MWk.spans_ (h : MWk W0 b w m ns k d) (hq : m.waits[k]? = some q) : ∃ gw cap va uv, Blk w b 66 (wkC m (.slice (some ⟨gw, 0, none⟩) m.waits.length cap) va (.pointer (some ⟨gw, k * 10, none⟩)) d) ∧ WaitCells w gw (k * 10) (q, uv) ∧ SpanAt w uv q.spans ∧ b < gw ∧ gw < w.heap.size ∧
    ∀ w6, Below w.heap.size w w6 → w6.cell? ⟨b, 5, none⟩ = some (.pointer (some ⟨gw, k * 10, none⟩)) ∧ w6.cell? ⟨gw, k * 10 + 8, none⟩ = some uv ∧ w6.frozen? ⟨gw, k * 10 + 8, none⟩ = false ∧
      ∀ v6 sp, SpanAt w6 v6 sp → MWk W0 b (w6.setCell ⟨gw, k * 10 + 8, none⟩ v6) { m with waits := m.waits.set k { q with spans := sp } } ns k d ∧ (w6.setCell ⟨gw, k * 10 + 8, none⟩ v6).cell? ⟨b, 5, none⟩ = some (.pointer (some ⟨gw, k * 10, none⟩)) ∧ (w6.setCell ⟨gw, k * 10 + 8, none⟩ v6).cell? ⟨gw, k * 10 + 1, none⟩ = some (.int .i64 q.req.kind) := by
  obtain ⟨gw, cap, va, h1, h2, h3⟩ := h
  obtain ⟨ps, p1, p2, p3⟩ := h2.wa
  obtain ⟨uv, hu⟩ := pairs_get p1 k q hq
  have hb := (own_cap p2).2.2.1
  have hlt : gw < w.heap.size := by
    obtain ⟨_, cs, hB⟩ := own_typed p2 gw (by simp [Value.ownBlock])
    exact hB.lt
  refine ⟨gw, cap, va, uv, h1, row_cells p2 hu, p3 _ (List.mem_of_getElem? hu), by omega, hlt, fun w6 hb6 => ?_⟩
  have h16 := h1.below hb6 h1.lt
  have h26 := h2.below hb6
  have p26 := own_below p2 hb6
  refine ⟨h16.cell 5, ?_, p26.frozenAt _, fun v6 sp hs => ?_⟩
  · obtain ⟨_, _, _, _, _, _, _, _, t8, _⟩ := row_cells p26 hu
    exact t8
  have hk : k < m.waits.length := h3
  have R := h26.put (q' := { q with spans := sp }) (uv' := v6) p1 p26 (fun p hp => (p3 p hp).below hb6) rfl hu 8 v6 (by decide) (by simp [waitC]) hs
  have K := h16.far (p := ⟨gw, k * 10 + 8, none⟩) (by dsimp only; omega) v6
  refine ⟨⟨gw, cap, va, ?_, ?_, by dsimp only; rw [List.length_set]; exact h3⟩, K.cell 5, ?_⟩
  · dsimp only
    rw [List.length_set]
    exact K
  · dsimp only
    rw [List.length_set]
    exact R
  · obtain ⟨ps', p1', p2', p3'⟩ := R.wa
    obtain ⟨uv', hu'⟩ := pairs_get p1' k { q with spans := sp } (by rw [List.getElem?_set_self hk])
    rw [List.length_set] at p2'
    obtain ⟨_, t1, _⟩ := row_cells p2' hu'
    exact t1

set_option maxRecDepth 100000 in
set_option maxHeartbeats 4000000 in
theorem wstatus_any (h : MWk W0 b w m ns k d) (hq : m.waits[k]? = some q) (hsp : q.spans.length ≤ 500000) (hdl : d.length ≤ 100000) : Calls Try.prog 56 #[.pointer (some ⟨b, 0, none⟩)] w (KEnds W0 b m ns k d (q.status d)) := by
  have mixed : Try.prog.follows .mixedOrders = true := by kernel_rfl
  obtain ⟨c, L, E, hc4, hL1, hT, hc⟩ := status_cases d hdl
  have HT := Lib.hid hT
  have HL := Lib.hid hL1
  have HSTAT : Hid (q.status d = if E = 0 ∧ q.req.kind = 7 then some { q with spans := q.spans ++ [⟨c, L⟩] } else none) := Lib.hid (by
    unfold Wait.status
    rcases hc with ⟨rfl, h2⟩ | ⟨h1, h2⟩
    · rw [h2]; by_cases h7 : q.req.kind = 7 <;> simp [h7]
    · rw [h2]; rw [if_neg (fun h => by simp [h.1] at h1)])
  have HE := Lib.hid hc
  have HM := Lib.hid h
  have HQ := Lib.hid hq
  obtain ⟨gw, cap, va, h1, h2, h3⟩ := h
  have x6 := h1.cell 6
  unfold wkC at x6
  simp only [List.getElem?_toArray, List.getElem?_cons_zero, List.getElem?_cons_succ] at x6
  clear h1 h2 hq hT hc hL1
  go_enter Try.func56, Try.ntmps56
  go_wp2_with fail
  refine (HT.out _).mono ?_
  rintro e w1 ⟨ve, rfl, ⟨hext, hty⟩, hb1⟩
  have hET : ExtT w1 ve L := ⟨hext, hty⟩
  obtain ⟨eg, ec, rfl⟩ := ext_form hext
  have M1 := HM.out.below hb1
  obtain ⟨gw1, cap1, va1, uv, B1, A, SP, hbg, hgl, hput⟩ := M1.spans_ HQ.out
  obtain ⟨sa, sc, rfl⟩ := SP.form
  obtain ⟨ps, s1, s2, s3, s4⟩ := SP
  have hps : (ps.flatMap spanC).length = q.spans.length * 2 := by rw [flat_len spanC 2 spanC_len, ← s1, List.length_map]
  have HCL := Lib.hid (fun W (hb : Below w1.heap.size w1 W) => clone_spans (.slice sa q.spans.length sc) q.spans.length (ps.flatMap spanC) W (s2.below hb) (by omega) hps (spansRow_one s3))
  have HS3 := Lib.hid s3
  have HS1 := Lib.hid s1
  obtain ⟨_, _, _, _, _, _, _, _, t8, _⟩ := A
  dsimp only at t8
  have x5 := B1.cell 5
  unfold wkC at x5
  simp only [List.getElem?_toArray, List.getElem?_cons_zero, List.getElem?_cons_succ] at x5
  have HP := Lib.hid hput
  have HET := Lib.hid hET
  obtain ⟨i0, hi, hz0, hz1, hz2⟩ := info_parts Try.infoSpans
  have hb : b < w1.heap.size := B1.lt
  clear x6 HT hext hty s1 s2 s3 s4 hput M1 hET B1
  generalize hn : q.spans.length = n at *
  generalize hcs : ps.flatMap spanC = cs at *
  have xo1 := fun o i => old_cell (w := w1.drew) (g := b) hb o i
  have xo2 := fun o i => old_cell (w := w1.drew) (g := gw1) hgl o i
  go_wp2_with fail
  go_region_law (first | (go_simp; go_at_call 68; go_loud (refine (HCL.out _ (by (repeat' (first | (with_reducible assumption) | (with_reducible exact Below.refl _ _) | (with_reducible refine below_drewN ?_ _) | (with_reducible refine Below.drew ?_) | (with_reducible refine Below.setCell ?_ ?_ _) | (with_reducible refine Below.alloc ?_ ?_ _) | (with_reducible refine below_putObj ?_ ?_ _) | (with_reducible exact Nat.le_refl _) | omega | (simp; done) | (simp; omega))))).mono ?_; rintro e w5 ⟨v5, rfl, ho5, hb5⟩; have hc5 : Below w1.heap.size w1 w5 := below_next (show Below w1.heap.size w1 _ by (repeat' (first | (with_reducible assumption) | (with_reducible exact Below.refl _ _) | (with_reducible refine below_drewN ?_ _) | (with_reducible refine Below.drew ?_) | (with_reducible refine Below.setCell ?_ ?_ _) | (with_reducible refine Below.alloc ?_ ?_ _) | (with_reducible refine below_putObj ?_ ?_ _) | (with_reducible exact Nat.le_refl _) | omega | (simp; done) | (simp; omega)))) hb5; have P5 := (HP.out w5 hc5).1; have hb55 : b < w5.heap.size := Nat.lt_of_lt_of_le hb hc5.size; have xo5 := fun o i => old_cell (w := w5) (g := b) hb55 o i; have O5 := own_base ho5 (show w1.heap.size ≤ _ by simp); (try (have nb5 : Blk w5 w1.heap.size 90 #[.int .u32 (c : Nat), .slice eg L.length ec] := (Blk.new w1.drew _ _).below hb5 (Blk.new w1.drew _ _).lt)))) | (refine step_append_lies _ (by rfl) _ _ _ (by rfl) w1.heap.size 90 i0 _ 2 32 Try.underlying38 hi hz0 hz1 hz2 rfl (by omega) v5 n cs (by rfl) (by first | exact O5 | exact O5.alloc _) _ 1 1 [.int .u32 (c : Nat), .slice eg L.length ec] (by rfl) (by rfl) (by first | exact World.news_of_block nb5 | exact World.news_of_block (heap_alloc_new w5 _)) (by intro u hu; simp only [List.mem_cons, List.not_mem_nil, or_false] at hu; rcases hu with rfl | rfl <;> rfl) (by omega) (by unfold maxLen; omega) (by omega) (by have := hc5.size; simp; omega) _ rfl ?_; intro g6 c6 w6 ho6 hg6 hat6 hlt6; (first | (have B6 := hc5.grown hg6 hc5.size (fun k hk => by have := (O5.lt k hk).1; omega)) | (have B6 := (hc5.alloc hc5.size (.cells #[.int .u32 (c : Nat), .slice eg L.length ec] 90)).grown hg6 (by have := hc5.size; simp; omega) (fun k hk => by have := ((O5.alloc (.cells #[.int .u32 (c : Nat), .slice eg L.length ec] 90)).lt k hk).1; omega))); obtain ⟨k5, k8, k8f, HV⟩ := HP.out w6 B6))
  all_goals have HSP := span_add (L := L) (c := c) HS1.out (fun p hp => (HS3.out p hp).below B6) (HET.out.below B6) (by rw [hn, hcs]; exact ho6)
  all_goals rw [hn] at HSP
  all_goals obtain ⟨M7, y5, y1⟩ := HV _ _ HSP
  all_goals clear HSP HV k5 k8 k8f hg6 hat6 hlt6 ho6 B6 O5 P5 hc5 hb5 ho5 xo1 xo2 xo5 x5 t8 HCL HP HM
  all_goals (try clear nb5)
  all_goals generalize (w6.setCell ⟨gw1, k * 10 + 8, none⟩ (.slice (some ⟨g6, 0, none⟩) (n + 1) c6)) = W7 at *
  all_goals have M7 := Lib.hid M7
  all_goals
    rcases HE.out with ⟨hE, _⟩ | ⟨hE, _⟩
    · by_cases h7 : q.req.kind = 7
      · have h8 : (q.req.kind == 7) = true := by simpa using h7
        have HR := Lib.hid (HSTAT.out.trans (if_pos ⟨hE, h7⟩))
        subst hE
        clear HSTAT HE h7
        go_wp2
        go_ret
        rw [HR.out]
        exact .inr ⟨_, rfl, rfl, M7.out⟩
      · have h8 : (q.req.kind == 7) = false := by simpa using h7
        have HR := Lib.hid (HSTAT.out.trans (if_neg (fun h => h7 h.2)))
        subst hE
        clear HSTAT HE h7
        go_wp2
        go_ret
        rw [HR.out]
        exact .inl ⟨rfl, rfl, _, M7.out⟩
    · have HR := Lib.hid (HSTAT.out.trans (if_neg (fun h => by rw [h.1] at hE; exact absurd hE (by decide))))
      clear HSTAT HE
      go_wp2
      go_ret
      rw [HR.out]
      exact .inl ⟨rfl, rfl, _, M7.out⟩
end
end Go.Proofs.Ytfcojhpnpfodeaa
