/- match's none, bytes, hole, fail: what is done of a chunk. -/
import Derived.Test.YtfcojhpnpfodeaaMatCome
import Derived.Test.YtfcojhpnpfodeaaMRepWrite
namespace Go.Proofs.Ytfcojhpnpfodeaa
open Go.RowKit

theorem take_cases (d : List UInt8) (k : Nat) (k1 : 1 ≤ k) (k8 : k ≤ 8) (hd : d.length ≤ 9223372036854775807) : ∃ (n : Nat) (nm : List UInt8) (e : Int), (∀ W, Calls Try.prog 65 #[.string ⟨d.toArray⟩, .int .i64 k] W (Gives (.tuple #[.int .u64 n, .string ⟨nm.toArray⟩, .int .i64 e]) W)) ∧
    ((k ≤ d.length ∧ n = de (d.take k) ∧ nm = d.drop k ∧ e = 0) ∨ (d.length < k ∧ n = 0 ∧ nm = [] ∧ e = 22)) := by
  by_cases h : k ≤ d.length
  · exact ⟨_, _, _, fun W => take_any d k k1 k8 h hd W, .inl ⟨h, rfl, rfl, rfl⟩⟩
  · exact ⟨0, [], 22, fun W => by
      refine (take_short d k k1 k8 (by omega) W).mono ?_
      rintro e w' ⟨rfl, rfl⟩
      exact ⟨rfl, Below.refl _ _⟩, .inr ⟨by omega, rfl, rfl, rfl⟩⟩

section
variable {W0 : FW} {b : Nat} {w : World} {m : Mat} {ns : List Answ} {k : Nat} {d : List UInt8} {q : Wait}
/-- Nothing turned. -/
theorem KEnds.no (h : MWk W0 b w m ns k d) (hq : m.waits[k]? = some q) : KEnds W0 b m ns k d none (.returned (.bool false)) w := .inl ⟨rfl, rfl, q, by rw [set_same m k q hq]; exact h⟩

set_option maxRecDepth 100000 in
set_option maxHeartbeats 1000000 in
theorem wnone_any (h : MWk W0 b w m ns k d) (hq : m.waits[k]? = some q) : Calls Try.prog 53 #[.pointer (some ⟨b, 0, none⟩)] w (KEnds W0 b m ns k d (q.apply 0 d)) := by
  have HM := Lib.hid h
  have HQ := Lib.hid hq
  obtain ⟨gw, cap, va, h1, h2, h3⟩ := h
  have x6 := h1.cell 6
  unfold wkC at x6
  simp only [List.getElem?_toArray, List.getElem?_cons_zero, List.getElem?_cons_succ] at x6
  clear h1 h2 hq
  have e : q.apply 0 d = if d = [] then some q else none := rfl
  rw [e]
  by_cases hd : d = []
  · rw [if_pos hd]
    have hd2 : d.isEmpty = true := by simpa using hd
    clear hd e
    go_enter Try.func53, Try.ntmps53
    go_wp2_with fail
    go_ret
    exact .inr ⟨q, rfl, rfl, by rw [set_same m k q HQ.out]; exact HM.out⟩
  · rw [if_neg hd]
    have hd2 : d.isEmpty = false := by simpa using hd
    clear hd e
    go_enter Try.func53, Try.ntmps53
    go_wp2_with fail
    go_ret
    exact KEnds.no HM.out HQ.out

set_option maxRecDepth 100000 in
set_option maxHeartbeats 1000000 in
theorem wbytes_any (h : MWk W0 b w m ns k d) (hq : m.waits[k]? = some q) (hok : q.Ok) (hdl : d.length ≤ 100000) : Calls Try.prog 54 #[.pointer (some ⟨b, 0, none⟩)] w (KEnds W0 b m ns k d (q.apply 1 d)) := by
  have mixed : Try.prog.follows .mixedOrders = true := by kernel_rfl
  have HM := Lib.hid h
  have HQ := Lib.hid hq
  have HC := Lib.hid (fun a s ha hs W (hm : MWk W0 b W m ns k d) => come_any hm hq hok a s ha hs)
  obtain ⟨gw, cap, va, h1, h2, h3⟩ := h
  have x6 := h1.cell 6
  unfold wkC at x6
  simp only [List.getElem?_toArray, List.getElem?_cons_zero, List.getElem?_cons_succ] at x6
  clear h1 h2 hq hok
  have e : q.apply 1 d = if d.length < 8 then none else q.come (de (d.take 8)) (d.drop 8) := rfl
  rw [e]
  clear e
  obtain ⟨n, r, er, hT, hc⟩ := take_cases d 8 (by decide) (by decide) (by omega)
  have HT := Lib.hid hT
  clear hT
  rcases hc with ⟨h8, rfl, rfl, rfl⟩ | ⟨h8, rfl, rfl, rfl⟩
  · rw [if_neg (by omega)]
    have hlt := de_lt (d.take 8)
    rw [show (d.take 8).length = 8 by rw [List.length_take]; omega] at hlt
    have HC2 := Lib.hid (HC.out (de (d.take 8)) (d.drop 8) (by simpa using hlt) (by rw [List.length_drop]; omega))
    generalize q.come (de (d.take 8)) (d.drop 8) = R at *
    generalize de (d.take 8) = A at *
    generalize d.drop 8 = S at *
    clear hlt h8 HC
    go_enter Try.func54, Try.ntmps54
    go_wp2_with fail
    refine (HT.out _).mono ?_
    rintro e w1 ⟨rfl, hb1⟩
    have HM1 := Lib.hid (HM.out.below hb1)
    clear hb1 x6 HT
    go_wp2_with fail
    refine (HC2.out _ HM1.out).mono ?_
    rintro e w2 hk
    rcases hk with ⟨rfl, rfl, q2, hm⟩ | ⟨q2, rfl, rfl, hm⟩
    · have HK := Lib.hid hm
      clear hm
      go_wp2_with fail
      go_ret
      exact .inl ⟨rfl, rfl, q2, HK.out⟩
    · have HK := Lib.hid hm
      clear hm
      go_wp2_with fail
      go_ret
      exact .inr ⟨q2, rfl, rfl, HK.out⟩
  · rw [if_pos h8]
    go_enter Try.func54, Try.ntmps54
    go_wp2_with fail
    refine (HT.out _).mono ?_
    rintro e w1 ⟨rfl, hb1⟩
    have HM1 := Lib.hid (HM.out.below hb1)
    clear hb1 x6 HT
    go_wp2_with fail
    go_ret
    exact KEnds.no HM1.out HQ.out

/-- The k-th's error turned. -/
theorem MWk.err_ (h : MWk W0 b w m ns k d) (hq : m.waits[k]? = some q) : ∃ gw cap va, Blk w b 66 (wkC m (.slice (some ⟨gw, 0, none⟩) m.waits.length cap) va (.pointer (some ⟨gw, k * 10, none⟩)) d) ∧ (∃ uv, WaitCells w gw (k * 10) (q, uv)) ∧ w.frozen? ⟨gw, k * 10 + 9, none⟩ = false ∧ b < gw ∧
    ∀ E : Nat, MWk W0 b (w.setCell ⟨gw, k * 10 + 9, none⟩ (.int .u32 (E : Nat))) { m with waits := m.waits.set k { q with err := E } } ns k d := by
  obtain ⟨gw, cap, va, h1, h2, h3⟩ := h
  obtain ⟨ps, p1, p2, p3⟩ := h2.wa
  obtain ⟨uv, hu⟩ := pairs_get p1 k q hq
  have hb := (own_cap p2).2.2.1
  refine ⟨gw, cap, va, h1, ⟨uv, row_cells p2 hu⟩, p2.frozenAt _, by omega, fun E => ?_⟩
  have R := h2.put (q' := { q with err := E }) (uv' := uv) p1 p2 p3 rfl hu 9 (.int .u32 (E : Nat)) (by decide) (by simp [waitC]) (p3 _ (List.mem_of_getElem? hu))
  refine ⟨gw, cap, va, ?_, ?_, by dsimp only; rw [List.length_set]; exact h3⟩
  · dsimp only
    rw [List.length_set]
    exact h1.far (p := ⟨gw, k * 10 + 9, none⟩) (by dsimp only; omega) _
  · dsimp only
    rw [List.length_set]
    exact R

theorem fail_no (q : Wait) (d : List UInt8) (h : d.length < 4 ∨ de (d.take 4) = 0 ∨ d ≠ failB (de (d.take 4))) : q.fail d = none := by unfold Wait.fail; rw [if_pos h]
theorem fail_ok (q : Wait) (d : List UInt8) (h : ¬ (d.length < 4 ∨ de (d.take 4) = 0 ∨ d ≠ failB (de (d.take 4)))) : q.fail d = some { q with err := if q.err = 0 then de (d.take 4) else q.err } := by unfold Wait.fail; rw [if_neg h]

set_option maxRecDepth 100000 in
set_option maxHeartbeats 2000000 in
/-- fail, where the error has been set or was there. -/
theorem wfail_any (h : MWk W0 b w m ns k d) (hq : m.waits[k]? = some q) (hdl : d.length ≤ 100000) : Calls Try.prog 57 #[.pointer (some ⟨b, 0, none⟩)] w (KEnds W0 b m ns k d (q.fail d)) := by
  have mixed : Try.prog.follows .mixedOrders = true := by kernel_rfl
  obtain ⟨n, r, er, hT, hc⟩ := take_cases d 4 (by decide) (by decide) (by omega)
  have HT := Lib.hid hT
  have hlt := de_lt (d.take 4)
  have hn4 : n < 4294967296 := by
    rcases hc with ⟨h4, rfl, rfl, rfl⟩ | ⟨h4, rfl, rfl, rfl⟩
    · rw [show (d.take 4).length = 4 by rw [List.length_take]; omega] at hlt
      simpa using hlt
    · decide
  have HFA := Lib.hid (fun W => fail_any n hn4 W)
  have hw32 : IntKind.u32.wrap (n : Int) = (n : Int) := by rw [IntKind.wrap_u32]; omega
  have HN : Hid (¬ (er = 0 ∧ n ≠ 0 ∧ d = failB n) → q.fail d = none) := Lib.hid (fun hno => fail_no q d (by
    rcases hc with ⟨h4, rfl, rfl, rfl⟩ | ⟨h4, rfl, rfl, rfl⟩
    · by_cases h0 : de (d.take 4) = 0
      · exact .inr (.inl h0)
      · exact .inr (.inr (fun he => hno ⟨rfl, h0, he⟩))
    · exact .inl h4))
  have HY : Hid (er = 0 → n ≠ 0 → d = failB n → q.fail d = some { q with err := if q.err = 0 then n else q.err }) := Lib.hid (fun h1 h2 h3 => by
    rcases hc with ⟨h4, rfl, rfl, rfl⟩ | ⟨h4, rfl, rfl, rfl⟩
    · exact fail_ok q d (by rintro (h | h | h); omega; exact h2 h; exact h h3)
    · simp at h1)
  have HK := Lib.hid (fun W (hm : MWk W0 b W m ns k d) => hm.err_ hq)
  have HQ := Lib.hid hq
  have HM := Lib.hid h
  obtain ⟨gw, cap, va, h1, h2, h3⟩ := h
  have x6 := h1.cell 6
  unfold wkC at x6
  simp only [List.getElem?_toArray, List.getElem?_cons_zero, List.getElem?_cons_succ] at x6
  clear h1 h2 hq hT hc hlt
  go_enter Try.func57, Try.ntmps57
  go_wp2_with fail
  refine (HT.out _).mono ?_
  rintro e w1 ⟨rfl, hb1⟩
  have M1 := HM.out.below hb1
  obtain ⟨gw1, cap1, va1, B1, ⟨uv, A⟩, f9, hbg, hput⟩ := HK.out _ M1
  obtain ⟨_, _, _, _, _, _, _, _, _, t9⟩ := A
  dsimp only at t9
  have x5 := B1.cell 5
  have y6 := B1.cell 6
  unfold wkC at x5 y6
  simp only [List.getElem?_toArray, List.getElem?_cons_zero, List.getElem?_cons_succ] at x5 y6
  have HM1 := Lib.hid M1
  have HB1 := Lib.hid B1
  have HP := Lib.hid hput
  have nbg : b ≠ gw1 := by omega
  have nbg' := nbg.symm
  clear x6 hb1 M1 B1 hput HT
  by_cases he0 : q.err = 0
  · have e9 : ((q.err : Int) == 0) = true := by rw [he0]; rfl
    have M2 := HP.out n
    have hEE : (if q.err = 0 then n else q.err) = n := if_pos he0
    go_wp2_with fail
    generalize (w1.setCell ⟨gw1, k * 10 + 9, none⟩ (.int .u32 (n : Nat))) = W2 at *
    obtain ⟨gw2, cap2, va2, B2, hz2⟩ := M2
    have z6 : W2.drew.cell? ⟨b, 6, none⟩ = some (.string ⟨d.toArray⟩) := B2.cell 6
    have M2 : MWk W0 b W2 { m with waits := m.waits.set k { q with err := n } } ns k d := ⟨gw2, cap2, va2, B2, hz2⟩
    have HM2 := Lib.hid M2
    have HEE := Lib.hid hEE
    clear M2 B2 hz2 x5 y6 t9 f9 hEE
    by_cases her : er = 0
    · have her2 : (er == 0) = true := by simpa using her
      by_cases hn0 : n = 0
      · have hn1 : ((n : Int) != 0) = false := by rw [hn0]; rfl
        have HNN := Lib.hid (HN.out (fun h => h.2.1 hn0))
        clear hn0
        go_quiet (fail)
        go_wp2
        go_ret
        rw [HNN.out]
        exact .inl ⟨rfl, rfl, { q with err := n }, HM2.out.below (below_drewN (Below.refl _ _) _)⟩
      · have hn1 : ((n : Int) != 0) = true := by simp; omega
        go_region_held3 (fun w' => w'.cell? ⟨b, 6, none⟩ = some (.string ⟨d.toArray⟩))
          (first | with_reducible exact z6 | with_reducible exact z66 | go_keep)
          (first | (go_at_call 69; refine (HFA.out _).mono ?_; rintro e w6 ⟨rfl, hb6⟩; have hb69 := below_next ((Below.refl _ W2).drew) hb6; have z66 := cell_keepS z6 hb6))
        all_goals go_wp2
        all_goals go_ret
        all_goals show KEnds W0 b m ns k d (q.fail d) (.returned (.bool (d == failB n))) w6
        all_goals by_cases hdf : d = failB n
        · rw [show (d == failB n) = true by simpa using hdf]
          exact .inr ⟨_, HY.out her hn0 hdf, rfl, by rw [HEE.out]; exact HM2.out.below hb69⟩
        · rw [show (d == failB n) = false by simpa using hdf, HN.out (fun h => hdf h.2.2)]
          exact .inl ⟨rfl, rfl, { q with err := n }, by exact HM2.out.below hb69⟩
    · have her2 : (er == 0) = false := by simpa using her
      have HNN := Lib.hid (HN.out (fun h => her h.1))
      go_quiet (fail)
      go_wp2
      go_ret
      rw [HNN.out]
      exact .inl ⟨rfl, rfl, { q with err := n }, HM2.out.below (below_drewN (Below.refl _ _) _)⟩
  · have e9 : ((q.err : Int) == 0) = false := by rw [beq_eq_false_iff_ne]; omega
    have M2 := HM1.out
    have hEE : (if q.err = 0 then n else q.err) = q.err := if_neg he0
    go_wp2_with fail
    obtain ⟨gw2, cap2, va2, B2, hz2⟩ := M2
    have z6 : w1.drew.cell? ⟨b, 6, none⟩ = some (.string ⟨d.toArray⟩) := B2.cell 6
    have M2 : MWk W0 b w1 m ns k d := ⟨gw2, cap2, va2, B2, hz2⟩
    have HM2 := Lib.hid M2
    have HEE := Lib.hid hEE
    clear M2 B2 hz2 x5 y6 t9 f9 hEE
    by_cases her : er = 0
    · have her2 : (er == 0) = true := by simpa using her
      by_cases hn0 : n = 0
      · have hn1 : ((n : Int) != 0) = false := by rw [hn0]; rfl
        have HNN := Lib.hid (HN.out (fun h => h.2.1 hn0))
        clear hn0
        go_quiet (fail)
        go_wp2
        go_ret
        rw [HNN.out]
        exact .inl ⟨rfl, rfl, q, by rw [set_same m k q HQ.out]; exact HM2.out.below (below_drewN (Below.refl _ _) _)⟩
      · have hn1 : ((n : Int) != 0) = true := by simp; omega
        go_region_held3 (fun w' => w'.cell? ⟨b, 6, none⟩ = some (.string ⟨d.toArray⟩))
          (first | with_reducible exact z6 | with_reducible exact z66 | go_keep)
          (first | (go_at_call 69; refine (HFA.out _).mono ?_; rintro e w6 ⟨rfl, hb6⟩; have hb69 := below_next ((Below.refl _ w1).drew) hb6; have z66 := cell_keepS z6 hb6))
        all_goals go_wp2
        all_goals go_ret
        all_goals show KEnds W0 b m ns k d (q.fail d) (.returned (.bool (d == failB n))) w6
        all_goals by_cases hdf : d = failB n
        · rw [show (d == failB n) = true by simpa using hdf]
          exact .inr ⟨_, HY.out her hn0 hdf, rfl, by rw [HEE.out]; rw [show ({ q with err := q.err } : Wait) = q from rfl, set_same m k q HQ.out]; exact HM2.out.below hb69⟩
        · rw [show (d == failB n) = false by simpa using hdf, HN.out (fun h => hdf h.2.2)]
          exact .inl ⟨rfl, rfl, q, by rw [show ({ q with err := q.err } : Wait) = q from rfl, set_same m k q HQ.out]; exact HM2.out.below hb69⟩
    · have her2 : (er == 0) = false := by simpa using her
      have HNN := Lib.hid (HN.out (fun h => her h.1))
      go_quiet (fail)
      go_wp2
      go_ret
      rw [HNN.out]
      exact .inl ⟨rfl, rfl, q, by rw [set_same m k q HQ.out]; exact HM2.out.below (below_drewN (Below.refl _ _) _)⟩
end
end Go.Proofs.Ytfcojhpnpfodeaa
