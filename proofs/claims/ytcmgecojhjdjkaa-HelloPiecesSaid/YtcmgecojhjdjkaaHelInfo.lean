/- What is done of an answer: info. -/
import Derived.Test.YtcmgecojhjdjkaaHelDo
namespace Go.Proofs.Ytcmgecojhjdjkaa
open Go.RowKit

theorem i64_small (n : Nat) (h : n < 65536) : IntKind.i64.wrap (n : Int) = (n : Int) := by simp [IntKind.wrap, IntKind.signed, IntKind.bits]; omega

section
variable (W0 : World) (b : Nat) (K : Held) (w : World) (h : Hel) (out : List UInt8) (ao ak : Nat) (ad : List UInt8)

set_option maxRecDepth 100000 in
set_option maxHeartbeats 2000000 in
theorem doInfo_any (hd : ad.length ≤ 9223372036854775807) (hw : Wrk W0 b K w h out ao ak ad) :
    Calls Try.prog 23 #[.pointer (some ⟨b, 0, none⟩)] w (MEnds W0 b K (h.doInfo ak ad).1 (out ++ (h.doInfo ak ad).2) ao ak ad) := by
  have HW := Lib.hid hw
  obtain ⟨ki, hki⟩ : ∃ ki : Int, (ak : Int) = ki := ⟨_, rfl⟩
  obtain ⟨a1, q1, a2, q2, p, a3, q3, h1, h2⟩ := hw.open_
  have d11 := wrk_cell11 b w ao ak ad h1 ki hki
  have d12 := h1.cell 12
  have d3 := h1.cell 3
  have d0 := h1.cell 0
  have f0 := h1.frozen 0
  unfold wrkC at d12 d3 d0
  simp only [List.getElem?_toArray, List.getElem?_cons_zero, List.getElem?_cons_succ] at d12 d3 d0
  by_cases hk3 : ak = 3
  · have e1 : (ki == 3) = true := by rw [← hki, beq_iff_eq]; omega
    have HI := Lib.hid (show h.doInfo ak ad = _ from by unfold Hel.doInfo; rw [if_pos hk3])
    have HKI := Lib.hid hki
    clear hki hk3 d3 d0 f0 h1 h2 hw
    by_cases h12 : ad.length = 12
    · have l12 : ((ad.length : Int) == 12) = true := by rw [beq_iff_eq]; omega
      have HP := Lib.hid (fun W => prefix_any ad [0, 0] W hd (by simp [h12]))
      obtain ⟨pb, hpb⟩ : ∃ pb : Bool, decide (ad.take ([0, 0] : List UInt8).length = [0, 0]) = pb := ⟨_, rfl⟩
      rw [hpb] at HP
      cases pb with
      | false =>
        have hX : h.doInfo ak ad = (h, []) := by
          rw [HI.out, if_neg]
          rintro ⟨_, h3⟩
          simp only [decide_eq_false_iff_not] at hpb
          exact hpb h3
        rw [hX]
        clear hX HI hpb h12
        go_enter Try.func23, Try.ntmps23
        go_wp2_with fail
        refine (HP.out _).mono ?_
        rintro e w1 ⟨rfl, hb1⟩
        have hw1 := HW.out.below hb1
        obtain ⟨a1, q1, a2, q2, p, a3, q3, h1, h2⟩ := hw1.open_
        have d11 := wrk_cell11 b w1 ao ak ad h1 ki HKI.out
        clear h1 h2 d12
        go_wp2_with fail
        go_end0
        exact ⟨rfl, by rw [List.append_nil]; exact hw1⟩
      | true =>
        have ht : ad.take 2 = [0, 0] := by simpa using hpb
        have hX : h.doInfo ak ad = ({ h with size := de ((ad.drop 2).take 8), told := true, flags := de ((ad.drop 10).take 2) }, []) := by rw [HI.out, if_pos ⟨h12, ht⟩]
        rw [hX]
        clear hX HI hpb ht
        have HA := Lib.hid (fun W => take_int (ad.drop 10) 2 (by decide) (by decide) (by rw [List.length_drop]; show 2 ≤ _; omega) (by rw [List.length_drop]; omega) W)
        have HB := Lib.hid (fun W => take_int (ad.drop 2) 8 (by decide) (by decide) (by rw [List.length_drop]; show 8 ≤ _; omega) (by rw [List.length_drop]; omega) W)
        have hfl := de_lt ((ad.drop 10).take 2)
        have hl2 : ((ad.drop 10).take 2).length = 2 := by rw [List.length_take, List.length_drop]; omega
        rw [hl2] at hfl
        simp only [show (2 : Int).toNat = 2 from rfl, show (8 : Int).toNat = 8 from rfl] at HA HB
        have hwr := i64_small _ (show de ((ad.drop 10).take 2) < 65536 by simpa using hfl)
        generalize de ((ad.drop 10).take 2) = fl at HA hwr ⊢
        generalize de ((ad.drop 2).take 8) = sz at HB ⊢
        have l10 : (10 : Int) ≤ (ad.length : Int) := by omega
        have l2 : (2 : Int) ≤ (ad.length : Int) := by omega
        clear h12 hfl hl2
        go_enter Try.func23, Try.ntmps23
        go_wp2_with fail
        refine (HP.out _).mono ?_
        rintro e w1 ⟨rfl, hb1⟩
        have hw1 := HW.out.below hb1
        clear hb1 d11 d12
        go_wp2_with fail
        refine (HA.out _).mono ?_
        rintro e w2 ⟨rfl, hb2⟩
        have hw2 := hw1.below hb2
        clear hb2 hw1
        go_wp2_with fail
        refine (HB.out _).mono ?_
        rintro e w3 ⟨rfl, hb3⟩
        have hw3 := hw2.below hb3
        clear hb3 hw2
        obtain ⟨a1, q1, a2, q2, p, a3, q3, h1, h2⟩ := hw3.open_
        have d3 := h1.cell 3
        have d4 := h1.cell 4
        have d5 := h1.cell 5
        have f3 := h1.frozen 3
        have f4 := h1.frozen 4
        have f5 := h1.frozen 5
        unfold wrkC at d3 d4 d5
        simp only [List.getElem?_toArray, List.getElem?_cons_zero, List.getElem?_cons_succ] at d3 d4 d5
        have HN : Hid (Wrk W0 b K (((w3.setCell ⟨b, 4, none⟩ (.int .u64 sz)).setCell ⟨b, 3, none⟩ (.bool true)).setCell ⟨b, 5, none⟩ (.int .i64 fl)) { h with size := sz, told := true, flags := fl } out ao ak ad) :=
          Lib.hid ⟨_, _, _, _, (((h1.set_ 4 _).set_ 3 _).set_ 5 _).as_ (by simp [wrkC]), ((h2.set_ 4 _).set_ 3 _).set_ 5 _⟩
        clear h1 h2 hw3
        go_wp2_with fail
        go_end0
        exact ⟨rfl, by rw [List.append_nil]; exact HN.out⟩
    · have l12 : ((ad.length : Int) == 12) = false := by rw [beq_eq_false_iff_ne]; omega
      have hX : h.doInfo ak ad = (h, []) := by rw [HI.out, if_neg]; rintro ⟨h3, _⟩; exact h12 h3
      rw [hX]
      clear hX HI h12
      go_enter Try.func23, Try.ntmps23
      go_wp2_with fail
      go_end0
      exact ⟨rfl, by rw [List.append_nil]; exact HW.out⟩
  · have e1 : (ki == 3) = false := by rw [← hki, beq_eq_false_iff_ne]; omega
    by_cases hk1 : ak = 1
    · have e2 : (ki == 1) = true := by rw [← hki, beq_iff_eq]; omega
      cases ht : h.told with
      | true =>
        have HN := Lib.hid (Wrk.stored (h' := { h with phase := 4 }) h1 h2 0 (.int .i64 4) (by simp [wrkC]) rfl rfl)
        have hX : h.doInfo ak ad = ({ h with phase := 4 }, []) := by unfold Hel.doInfo; rw [if_neg hk3, if_pos ⟨hk1, ht⟩]
        rw [hX]
        rw [ht] at d3
        clear hX hki hk3 hk1 h1 h2 hw
        go_enter Try.func23, Try.ntmps23
        go_wp2_with fail
        go_end0
        exact ⟨rfl, by rw [List.append_nil]; exact HN.out⟩
      | false =>
        have hX : h.doInfo ak ad = (h.die, []) := by unfold Hel.doInfo; rw [if_neg hk3, if_neg (by rw [ht]; simp)]
        rw [hX]
        rw [ht] at d3
        clear hX hki hk3 hk1 h1 h2 hw
        go_enter Try.func23, Try.ntmps23
        go_wp2_with fail
        refine (die_any W0 b K _ _ out ao ak ad HW.out).mono ?_
        rintro e w5 ⟨rfl, hw5⟩
        go_wp2
        go_end0
        exact ⟨rfl, by rw [List.append_nil]; exact hw5⟩
    · have e2 : (ki == 1) = false := by rw [← hki, beq_eq_false_iff_ne]; omega
      have hX : h.doInfo ak ad = (h.die, []) := by unfold Hel.doInfo; rw [if_neg hk3, if_neg (by rintro ⟨h3, _⟩; exact hk1 h3)]
      rw [hX]
      clear hX hki hk3 hk1 h1 h2 hw
      go_enter Try.func23, Try.ntmps23
      go_wp2_with fail
      refine (die_any W0 b K _ _ out ao ak ad HW.out).mono ?_
      rintro e w5 ⟨rfl, hw5⟩
      go_wp2
      go_end0
      exact ⟨rfl, by rw [List.append_nil]; exact hw5⟩
end
end Go.Proofs.Ytcmgecojhjdjkaa
