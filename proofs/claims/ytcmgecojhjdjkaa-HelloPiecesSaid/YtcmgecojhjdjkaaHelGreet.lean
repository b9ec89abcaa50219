/- greet. -/
import Derived.Test.YtcmgecojhjdjkaaHelWrk
import Derived.Deep.Cut
import Derived.Deep.CutRange
import Derived.BigQuiet
namespace Go.Proofs.Ytcmgecojhjdjkaa
open Go.RowKit

theorem cell_keepD {w w' : World} (hb : Below w.heap.size w w') {p : Addr} {v : Value} (h : w.cell? p = some v) : w'.cell? p = some v := cell_keepS h hb

set_option maxRecDepth 100000 in
set_option maxHeartbeats 400000 in
theorem greeting_same (w : World) : Calls Try.prog 15 #[] w fun e w' => e = .returned (.string ⟨greeting.toArray⟩) ∧ w' = w := by
  unfold greeting optHead
  go_enter Try.func15, Try.ntmps15
  go_wp2
  go_ret
  exact ⟨rfl, rfl⟩

theorem bits1 (x : UInt8) : bits .and .u8 (x.toNat : Int) 1 = ((x.toNat % 2 : Nat) : Int) := by
  have h : ∀ n : Fin 256, bits .and .u8 (n.val : Int) 1 = ((n.val % 2 : Nat) : Int) := by decide +kernel
  exact h ⟨x.toNat, x.toNat_lt⟩
theorem bits3 (x : UInt8) : bits .and .u8 (x.toNat : Int) 3 = ((x.toNat % 4 : Nat) : Int) := by
  have h : ∀ n : Fin 256, bits .and .u8 (n.val : Int) 3 = ((n.val % 4 : Nat) : Int) := by decide +kernel
  exact h ⟨x.toNat, x.toNat_lt⟩

def StepEnds (W0 : World) (b : Nat) (K : Held) (h : Hel) (out : List UInt8) (r : Option (Hel × List UInt8)) (e : Ending) (w' : World) : Prop :=
  ∃ ao ak ad, (r = none ∧ e = .returned (.bool false) ∧ Wrk W0 b K w' h out ao ak ad) ∨ ∃ h1 o, r = some (h1, o) ∧ e = .returned (.bool true) ∧ Wrk W0 b K w' h1 (out ++ o) ao ak ad

def WriteEnds (W0 : World) (b : Nat) (K : Held) (h : Hel) (out : List UInt8) (ao ak : Nat) (ad : List UInt8) (e : Ending) (w' : World) : Prop := (∃ n : Nat, e = .returned (.tuple #[.int .i64 n, .nilIface])) ∧ Wrk W0 b K w' h out ao ak ad

section
variable (W0 : World) (b : Nat) (K : Held) (w : World) (h : Hel) (out : List UInt8) (ao ak : Nat) (ad : List UInt8)

theorem wrk_write (m : List UInt8) (ho : out.length + m.length ≤ 140737488355328) (hw : Wrk W0 b K w h out ao ak ad) :
    Calls Try.prog 17 #[.pointer (some ⟨b, 8, none⟩), .string ⟨m.toArray⟩] w (WriteEnds W0 b K h (out ++ m) ao ak ad) := by
  obtain ⟨vw, vm, p, v, h1, h2⟩ := hw
  refine (writeString_any w W0.heap.size b 8 43 _ p v out m h1 (by simp [wrkC]) rfl rfl h2.bld (by kernel_rfl) (by decide) ho h2.grown.size).mono ?_
  rintro e w2 ⟨rfl, v2, g1, g2, g3⟩
  exact ⟨⟨_, rfl⟩, vw, vm, _, v2, g1.as_ (by simp [wrkC]), h2.turn g3 g2⟩

set_option maxRecDepth 100000 in
set_option maxHeartbeats 1000000 in
theorem greet_any (ho : out.length ≤ 10000000000) (hbuf : h.buf.length ≤ 9223372036854775807) (hw : Wrk W0 b K w h out ao ak ad) :
    Calls Try.prog 9 #[.pointer (some ⟨b, 0, none⟩)] w (StepEnds W0 b K h out h.greet) := by
  have mixed : Try.prog.follows .mixedOrders = true := by kernel_rfl
  obtain ⟨a1, q1, a2, q2, p, a3, q3, h1, h2⟩ := hw.open_
  have c1 := h1.cell 1
  have f1 := h1.frozen 1
  have HW := Lib.hid hw
  have H1 := Lib.hid h1
  have H2 := Lib.hid h2
  clear hw h1 h2
  unfold wrkC at c1
  simp only [List.getElem?_toArray, List.getElem?_cons_zero, List.getElem?_cons_succ] at c1
  by_cases hlen : h.buf.length < 18
  · have e : h.greet = none := by unfold Hel.greet; rw [if_pos hlen]
    have HE := Lib.hid e
    clear e
    have l1 : (h.buf.length : Int) < 18 := by omega
    go_enter Try.func9, Try.ntmps9
    go_wp2
    go_ret
    exact ⟨ao, ak, ad, .inl ⟨HE.out, rfl, HW.out⟩⟩
  · have l1 : ¬ (h.buf.length : Int) < 18 := by omega
    have l2 : (17 : Int) < (h.buf.length : Int) := by omega
    have l3 : (16 : Int) ≤ (h.buf.length : Int) := by omega
    have l4 : (18 : Int) ≤ (h.buf.length : Int) := by omega
    have HG := Lib.hid (fun W => greeting_same W)
    have hbl := H1.out.lt
    have hg : greeting.length = 18 := by decide
    obtain ⟨gr, hgr⟩ : ∃ gr, greeting = gr := ⟨_, rfl⟩
    rw [hgr] at HG hg
    have HGR := Lib.hid hgr
    clear hgr
    obtain ⟨fl, hfl⟩ : ∃ fl, h.buf[17]?.getD 0 = fl := ⟨_, rfl⟩
    have HFL := Lib.hid hfl
    have l5 : (16 : Int) ≤ (gr.length : Int) := by omega
    obtain ⟨bd, hbd⟩ : ∃ bd : Bool, bd = (decide (h.buf.take 16 ≠ gr.take 16) || decide (fl.toNat % 2 = 0)) := ⟨_, rfl⟩
    have HBD := Lib.hid hbd
    clear hbd
    go_enter Try.func9, Try.ntmps9
    go_upto_region 4 with fail
    go_cut [30] from 17 to 29 (fun x wx => x = .bool bd ∧ Below w.heap.size w wx)
    case first =>
      by_cases hA : h.buf.take 16 = gr.take 16
      · have g1 : (h.buf.take 16 == gr.take 16) = true := by simp [hA]
        have g2 : (h.buf.take 16 != gr.take 16) = false := by simp [hA]
        go_quiet (first | (go_at_call 15; refine Calls.quiet_of_same (HG.out _)))
        all_goals go_wp2_with fail
        all_goals go_meet
        refine ⟨?_, below_drewN (Below.refl _ _) _⟩
        rw [bits1, HBD.out]
        simp only [hA, ne_eq, not_true_eq_false, decide_false, Bool.false_or]
        congr 1
        rw [Bool.eq_iff_iff, beq_iff_eq, decide_eq_true_iff]
        omega
      · have g1 : (h.buf.take 16 == gr.take 16) = false := by simp [hA]
        have g2 : (h.buf.take 16 != gr.take 16) = true := by simp [hA]
        have hb1 : bd = true := by rw [HBD.out]; simp [hA]
        go_quiet (first | (go_at_call 15; refine Calls.quiet_of_same (HG.out _)))
        go_wp2_with fail
        go_meet
        exact ⟨by rw [hb1], below_drewN (Below.refl _ _) _⟩
    case rest =>
      obtain ⟨rfl, hB⟩ := hcut
      have hw1 := HW.out.below hB
      clear H1 H2 HW hB hbl f1 c1 hg l5 HG
      cases bd with
      | true =>
        have e : h.greet = some (h.die, []) := by
          have h0 := HBD.out
          unfold Hel.greet
          rw [if_neg hlen, if_pos]
          rw [HGR.out, HFL.out]
          simpa using h0.symm
        have HE := Lib.hid e
        have HD := Lib.hid (die_any W0 b K wc h out ao ak ad hw1)
        clear e hw1
        go_wp2_with fail
        refine HD.out.mono ?_
        rintro e w1 ⟨rfl, hw2⟩
        go_wp2
        go_ret
        exact ⟨ao, ak, ad, .inr ⟨_, _, HE.out, rfl, by rw [List.append_nil]; exact hw2⟩⟩
      | false =>
        have e : h.greet = some ((Hel.ask { h with buf := h.buf.drop 18 } 8 [] 1).1, be 4 (fl.toNat % 4) ++ askB 8 []) := by
          have h0 := HBD.out
          unfold Hel.greet
          rw [if_neg hlen, if_neg]
          · rw [HFL.out]; rfl
          · rw [HGR.out, HFL.out]
            simpa using h0.symm
        have HE := Lib.hid e
        obtain ⟨a1, q1, a2, q2, p, a3, q3, h1, h2⟩ := hw1.open_
        have c1 := h1.cell 1
        have f1 := h1.frozen 1
        have H1 := Lib.hid h1
        have H2 := Lib.hid h2
        clear h1 h2 e hw1
        unfold wrkC at c1
        simp only [List.getElem?_toArray, List.getElem?_cons_zero, List.getElem?_cons_succ] at c1
        go_upto_region 8 with fail
        have hw2 : Wrk W0 b K (wc.setCell ⟨b, 1, none⟩ (.string ⟨(h.buf.drop 18).toArray⟩)) { h with buf := h.buf.drop 18 } out ao ak ad :=
          ⟨_, _, _, _, (H1.out.set_ 1 _).as_ (by simp [wrkC]), H2.out.set_ 1 _⟩
        obtain ⟨m, hm⟩ : ∃ m, fl.toNat % 4 = m := ⟨_, rfl⟩
        have hb3 : bits .and .u8 (fl.toNat : Int) 3 = (m : Int) := by rw [bits3, hm]
        have hml : m < 4 := by omega
        have hwr : IntKind.u64.wrap (m : Int) = (m : Int) := by simp [IntKind.wrap, IntKind.signed, IntKind.bits]; omega
        rw [hm] at HE
        clear hm
        have HP := Lib.hid (fun W => put_int (m : Int) 4 (by omega) (by decide) (by decide) W)
        simp only [show (4 : Int).toNat = 4 from rfl, Int.toNat_natCast] at HP
        have hbe : (be 4 m).length = 4 := be_length _ _
        have HS : Hid (∀ W, Wrk W0 b K W { h with buf := h.buf.drop 18 } out ao ak ad → Calls Try.prog 17 #[.pointer (some ⟨b, 8, none⟩), .string ⟨(be 4 m).toArray⟩] W (WriteEnds W0 b K { h with buf := h.buf.drop 18 } (out ++ be 4 m) ao ak ad)) :=
          Lib.hid (fun W hW => wrk_write W0 b K W _ out ao ak ad (be 4 m) (by omega) hW)
        have HK : Hid (∀ W, Wrk W0 b K W { h with buf := h.buf.drop 18 } (out ++ be 4 m) ao ak ad → Calls Try.prog 19 #[.pointer (some ⟨b, 0, none⟩), .int .u32 8, .string ⟨#[]⟩, .int .i64 1] W (MEnds W0 b K (Hel.ask { h with buf := h.buf.drop 18 } 8 [] 1).1 ((out ++ be 4 m) ++ askB 8 []) ao ak ad)) :=
          Lib.hid (fun W hW => ask_any W0 b K W _ _ ao ak ad 8 8 rfl [] 1 1 rfl (by decide) (by rw [List.length_append]; omega) hW)
        generalize be 4 m = bm at HP HS HK HE hbe
        generalize askB 8 [] = aB at HE HK
        clear H1 H2 c1 f1
        generalize wc.setCell ⟨b, 1, none⟩ (.string ⟨(h.buf.drop 18).toArray⟩) = wz at hw2 ⊢
        go_cut [2] from 43 to 50 (fun x wx => x = .bool false ∧ Wrk W0 b K wx { h with buf := h.buf.drop 18 } (out ++ bm) ao ak ad)
        case first =>
          go_region_with (first | (go_at_call 18; refine (HP.out _).mono ?_; rintro e w5 ⟨rfl, hb5⟩) | (go_at_call 17; refine (HS.out _ (hw2.drew.below hb5)).mono ?_; rintro e w6 ⟨⟨n6, rfl⟩, hw6⟩))
          all_goals go_wp2_with fail
          all_goals go_meet
          all_goals exact ⟨rfl, hw6⟩
        case rest =>
          obtain ⟨rfl, hw7⟩ := hcut
          have HX := Lib.hid (HK.out wc hw7)
          clear hw7 hw2 HS HK HP
          go_wp2_with fail
          refine HX.out.mono ?_
          rintro e w1 ⟨rfl, hw8⟩
          go_wp2
          go_ret
          exact ⟨ao, ak, ad, .inr ⟨_, _, HE.out, rfl, by rw [← List.append_assoc]; exact hw8⟩⟩
end
end Go.Proofs.Ytcmgecojhjdjkaa
