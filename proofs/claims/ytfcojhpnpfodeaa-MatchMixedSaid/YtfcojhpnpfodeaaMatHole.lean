/- match's hole. -/
import Derived.Test.YtfcojhpnpfodeaaMatKinds
namespace Go.Proofs.Ytfcojhpnpfodeaa
open Go.RowKit

theorem hole_no (q : Wait) (d : List UInt8) (h : d.length ≠ 12 ∨ q.req.kind ≠ 0 ∨ q.req.len < de (d.drop 8)) : q.hole d = none := by unfold Wait.hole; rw [if_pos h]
theorem hole_go (q : Wait) (d : List UInt8) (h : ¬ (d.length ≠ 12 ∨ q.req.kind ≠ 0 ∨ q.req.len < de (d.drop 8))) : q.hole d = q.come (de (d.take 8)) (List.replicate (de (d.drop 8)) 0) := by unfold Wait.hole; rw [if_neg h]

section
variable {W0 : FW} {b : Nat} {w : World} {m : Mat} {ns : List Answ} {k : Nat} {d : List UInt8} {q : Wait}
set_option maxRecDepth 100000 in
set_option maxHeartbeats 4000000 in
theorem whole_any (h : MWk W0 b w m ns k d) (hq : m.waits[k]? = some q) (hok : q.Ok) (hdl : d.length ≤ 100000) : Calls Try.prog 55 #[.pointer (some ⟨b, 0, none⟩)] w (KEnds W0 b m ns k d (q.hole d)) := by
  have mixed : Try.prog.follows .mixedOrders = true := by kernel_rfl
  obtain ⟨A, r, e1, hT1, hc1⟩ := take_cases d 8 (by decide) (by decide) (by omega)
  have hrl : r.length ≤ 100000 := by
    rcases hc1 with ⟨_, _, rfl, _⟩ | ⟨_, _, rfl, _⟩
    · rw [List.length_drop]; omega
    · simp
  obtain ⟨n, s2, e2, hT2, hc2⟩ := take_cases r 4 (by decide) (by decide) (by omega)
  have HT1 := Lib.hid hT1
  have HT2 := Lib.hid hT2
  have HC := Lib.hid (fun a s ha hs W (hm : MWk W0 b W m ns k d) => come_any hm hq hok a s ha hs)
  have HQ := Lib.hid hq
  have HM := Lib.hid h
  have HNO : Hid (∀ W, Below w.heap.size w W → q.hole d = none → KEnds W0 b m ns k d (q.hole d) (.returned (.bool false)) W) := Lib.hid (fun W hb hn => by rw [hn]; exact KEnds.no (h.below hb) hq)
  have hrd := hok.read
  obtain ⟨gw, cap, va, h1, h2, h3⟩ := h
  obtain ⟨ps, p1, p2, p3⟩ := h2.wa
  obtain ⟨uv, hu⟩ := pairs_get p1 k q hq
  have HRW := Lib.hid (fun W (hb : Below w.heap.size w W) => row_cells (own_below p2 hb) hu)
  have HB := Lib.hid h1
  have x6 := h1.cell 6
  unfold wkC at x6
  simp only [List.getElem?_toArray, List.getElem?_cons_zero, List.getElem?_cons_succ] at x6
  clear h1 h2 p1 p2 p3 hu hq hT1 hT2 hok
  by_cases c1 : e1 = 0 ∧ e2 = 0 ∧ s2 = []
  · obtain ⟨rfl, rfl, rfl⟩ := c1
    obtain ⟨h8, rfl, rfl⟩ : 8 ≤ d.length ∧ A = de (d.take 8) ∧ r = d.drop 8 := by
      rcases hc1 with ⟨g1, g2, g3, _⟩ | ⟨_, _, _, g4⟩
      · exact ⟨g1, g2, g3⟩
      · simp at g4
    obtain ⟨h4, rfl, hs2⟩ : 4 ≤ (d.drop 8).length ∧ n = de ((d.drop 8).take 4) ∧ [] = (d.drop 8).drop 4 := by
      rcases hc2 with ⟨g1, g2, g3, _⟩ | ⟨_, _, _, g4⟩
      · exact ⟨g1, g2, g3⟩
      · simp at g4
    have hlen : d.length = 12 := by
      have := congrArg List.length hs2
      rw [List.length_drop, List.length_drop] at this
      rw [List.length_drop] at h4
      simp at this
      omega
    have ht4 : (d.drop 8).take 4 = d.drop 8 := List.take_of_length_le (by rw [List.length_drop]; omega)
    rw [ht4] at HT2
    have hltA := de_lt (d.take 8)
    rw [show (d.take 8).length = 8 by rw [List.length_take]; omega] at hltA
    have hA : de (d.take 8) < 18446744073709551616 := by simpa using hltA
    have HG := Lib.hid (hole_go q d)
    have HN2 := Lib.hid (hole_no q d)
    generalize hAA : de (d.take 8) = A at *
    generalize hn : de (d.drop 8) = n at *
    clear hc1 hc2 h8 h4 hs2 ht4 hltA hAA hn
    by_cases ck : q.req.kind = 0
    · by_cases cl : q.req.len < n
      · have hn := Lib.hid (HN2.out (.inr (.inr cl)))
        have e1 : (q.req.kind == 0) = true := by simpa using ck
        have e2 : ¬ (n : Int) ≤ (q.req.len : Int) := by omega
        have e3 : decide ((n : Int) ≤ (q.req.len : Int)) = false := by simpa using cl
        have e4 : decide (n ≤ q.req.len) = false := by simpa using cl
        have e5 : ¬ n ≤ q.req.len := by omega
        have hln := (hrd ck).1
        have hwu : IntKind.u64.wrap (q.req.len : Int) = (q.req.len : Int) := by rw [IntKind.wrap_u64]; omega
        clear ck
        go_enter Try.func55, Try.ntmps55
        go_wp2_with fail
        refine (HT1.out _).mono ?_
        rintro e w1 ⟨rfl, hb1⟩
        go_wp2_with fail
        refine (HT2.out _).mono ?_
        rintro e w2 ⟨rfl, hb2⟩
        have b2 := below_next hb1 hb2
        have x5 := (HB.out.below b2 HB.out.lt).cell 5
        unfold wkC at x5
        simp only [List.getElem?_toArray, List.getElem?_cons_zero, List.getElem?_cons_succ] at x5
        obtain ⟨_, t1, _, _, t4, _, _, _, _, _⟩ := HRW.out w2 b2
        dsimp only at t1 t4
        clear hb1 hb2 x6
        go_wp2_with fail
        go_ret
        exact HNO.out _ b2 hn.out
      · have hgo := Lib.hid (HG.out (by rintro (h | h | h); exact h hlen; exact h ck; exact cl h))
        have hln := (hrd ck).1
        have e1 : (q.req.kind == 0) = true := by simpa using ck
        have e2 : (n : Int) ≤ (q.req.len : Int) := by omega
        have hwu : IntKind.u64.wrap (q.req.len : Int) = (q.req.len : Int) := by rw [IntKind.wrap_u64]; omega
        have hwn : IntKind.i64.wrap (n : Int) = (n : Int) := by rw [IntKind.wrap_i64]; omega
        have HR := Lib.hid (fun W => repeat_any 0 n (by omega) W)
        have HC2 := Lib.hid (HC.out A (List.replicate n 0) hA (by simp; omega))
        clear ck cl HC
        generalize q.come A (List.replicate n 0) = R at *
        go_enter Try.func55, Try.ntmps55
        go_wp2_with fail
        refine (HT1.out _).mono ?_
        rintro e w1 ⟨rfl, hb1⟩
        go_wp2_with fail
        refine (HT2.out _).mono ?_
        rintro e w2 ⟨rfl, hb2⟩
        have b2 := below_next hb1 hb2
        have x5 := (HB.out.below b2 HB.out.lt).cell 5
        unfold wkC at x5
        simp only [List.getElem?_toArray, List.getElem?_cons_zero, List.getElem?_cons_succ] at x5
        obtain ⟨_, t1, _, _, t4, _, _, _, _, _⟩ := HRW.out w2 b2
        dsimp only at t1 t4
        clear hb1 hb2 x6
        go_wp2_with fail
        refine (HR.out _).mono ?_
        rintro e w3 ⟨rfl, hb3⟩
        have M3 := Lib.hid (HM.out.below (below_next b2 hb3))
        go_wp2_with fail
        refine (HC2.out _ M3.out).mono ?_
        rintro e w4 hk
        rcases hk with ⟨rfl, rfl, q2, hm⟩ | ⟨q2, rfl, rfl, hm⟩
        · have HK := Lib.hid hm
          clear hm
          go_wp2_with fail
          go_ret
          rw [hgo.out]
          exact .inl ⟨rfl, rfl, q2, HK.out⟩
        · have HK := Lib.hid hm
          clear hm
          go_wp2_with fail
          go_ret
          rw [hgo.out]
          exact .inr ⟨q2, rfl, rfl, HK.out⟩
    · have hn := Lib.hid (HN2.out (.inr (.inl ck)))
      have e1 : (q.req.kind == 0) = false := by simpa using ck
      clear ck
      go_enter Try.func55, Try.ntmps55
      go_wp2_with fail
      refine (HT1.out _).mono ?_
      rintro e w1 ⟨rfl, hb1⟩
      go_wp2_with fail
      refine (HT2.out _).mono ?_
      rintro e w2 ⟨rfl, hb2⟩
      have b2 := below_next hb1 hb2
      have x5 := (HB.out.below b2 HB.out.lt).cell 5
      unfold wkC at x5
      simp only [List.getElem?_toArray, List.getElem?_cons_zero, List.getElem?_cons_succ] at x5
      obtain ⟨_, t1, _, _, t4, _, _, _, _, _⟩ := HRW.out w2 b2
      dsimp only at t1 t4
      clear hb1 hb2 x6
      go_wp2_with fail
      go_ret
      exact HNO.out _ b2 hn.out
  · have hne : d.length ≠ 12 := by
      intro h12
      apply c1
      rcases hc1 with ⟨g1, rfl, rfl, rfl⟩ | ⟨g1, rfl, rfl, rfl⟩
      · rcases hc2 with ⟨f1, rfl, rfl, rfl⟩ | ⟨f1, rfl, rfl, rfl⟩
        · refine ⟨rfl, rfl, List.eq_nil_of_length_eq_zero ?_⟩
          rw [List.length_drop, List.length_drop]; omega
        · rw [List.length_drop] at f1; omega
      · omega
    have hn := Lib.hid (hole_no q d (.inl hne))
    have he1 : e1 = 0 ∨ e1 = 22 := by rcases hc1 with ⟨_, _, _, g⟩ | ⟨_, _, _, g⟩ <;> simp [g]
    have he2 : e2 = 0 ∨ e2 = 22 := by rcases hc2 with ⟨_, _, _, g⟩ | ⟨_, _, _, g⟩ <;> simp [g]
    clear hc1 hc2 hne HC
    go_enter Try.func55, Try.ntmps55
    go_wp2_with fail
    refine (HT1.out _).mono ?_
    rintro e w1 ⟨rfl, hb1⟩
    go_wp2_with fail
    refine (HT2.out _).mono ?_
    rintro e w2 ⟨rfl, hb2⟩
    have b2 := below_next hb1 hb2
    clear hb1 hb2 x6
    rcases he1 with rfl | rfl
    · rcases he2 with rfl | rfl
      · have hs2 : s2 ≠ [] := fun h => c1 ⟨rfl, rfl, h⟩
        have hs3 : s2.isEmpty = false := by simpa using hs2
        clear hs2
        go_wp2_with fail
        go_ret
        exact HNO.out _ b2 hn.out
      · go_wp2_with fail
        go_ret
        exact HNO.out _ b2 hn.out
    · go_wp2_with fail
      go_ret
      exact HNO.out _ b2 hn.out
end
end Go.Proofs.Ytfcojhpnpfodeaa
