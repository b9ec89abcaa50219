/- nego's info; flags. -/
import Derived.Test.YteljplpiojdikaaNegToAsks
import Derived.Test.YteljplpiojdikaaNegName
namespace Go.Proofs.Yteljplpiojdikaa
open Go.RowKit

section
variable (W0 : World) (b : Nat) (K : Held) (sz : Nat) (maps : List (List UInt8)) (w : World) (n : Neg) (out : List UInt8) (ok : Nat) (od : List UInt8)

set_option maxRecDepth 100000 in
set_option maxHeartbeats 2000000 in
theorem info_any (hok : ok = 6 ∨ ok = 7) (hod : od.length ≤ 1000000) (ho : out.length ≤ 1000000000) (hw : NWrk W0 b K sz maps w n out ok od) :
    Calls Try.prog 53 #[.pointer (some ⟨b, 0, none⟩)] w (MEnds W0 b K sz maps (n.doInfo sz ok od).1 (out ++ (n.doInfo sz ok od).2) ok od) := by
  have mixed : Try.prog.follows .mixedOrders = true := by kernel_rfl
  have hokl : ok < 4294967296 := by omega
  have HT := Lib.hid (fun W => toAsks_any od hod W)
  have HD := Lib.hid (show n.doInfo sz ok od = _ from by unfold Neg.doInfo; rfl)
  generalize n.doInfo sz ok od = D at HD ⊢
  have c8 : w.cell? ⟨b, 8, none⟩ = some (.string ⟨od.toArray⟩) := by obtain ⟨_, _, _, _, h1, _⟩ := hw; exact h1.cell 8
  have HW := Lib.hid hw
  clear hw
  go_enter Try.func53, Try.ntmps53
  go_wp2_with fail
  refine (HT.out _).mono ?_
  rintro e w1 ⟨nm, v, l, x, rfl, hown, hb1, hc⟩
  obtain ⟨va, vc, rfl⟩ := (SlAt.of_row hown).form
  have hw1 := HW.out.below hb1
  clear hown hb1 HW c8 HT
  rcases hc with ⟨hr, rfl, rfl, rfl⟩ | ⟨hr, rfl⟩
  · have HX : Hid (D = (n, sayB ok 2147483651 [])) := Lib.hid (by rw [HD.out, hr])
    clear hr hok HD
    go_wp2_with fail
    refine (say_any W0 b K sz maps _ n out ok od 2147483651 2147483651 rfl [] (by decide) hokl (by omega) hw1).mono ?_
    rintro e w2 ⟨rfl, hw2⟩
    go_wp2
    go_end0
    exact ⟨rfl, by rw [HX.out]; exact hw2⟩
  · have HO := Lib.hid (fun W => ours_any W ⟨b, 0, none⟩ nm)
    cases hou : ours nm with
    | false =>
      rw [hou] at HO
      have HX : Hid (D = (n, sayB ok 2147483654 [])) := Lib.hid (by rw [HD.out, hr]; dsimp only; rw [if_pos hou])
      clear hr hok HD hou
      go_wp2_with fail
      refine (HO.out _).mono ?_
      rintro e w1' ⟨rfl, rfl⟩
      go_wp2_with fail
      refine (say_any W0 b K sz maps _ n out ok od 2147483654 2147483654 rfl [] (by decide) hokl (by omega) hw1).mono ?_
      rintro e w2 ⟨rfl, hw2⟩
      go_wp2
      go_end0
      exact ⟨rfl, by rw [HX.out]; exact hw2⟩
    | true =>
      rw [hou] at HO
      have HX : Hid (D = ({ n with phase := if ok = 7 then 2 else n.phase }, sayB ok 3 ([0, 0] ++ sizeB sz) ++ sayB ok 1 [])) := Lib.hid (by rw [HD.out, hr]; dsimp only; rw [if_neg (by rw [hou]; simp)])
      have hsz : (sizeB sz).length = 10 := by simp [sizeB, be_length]
      have HZ : Hid (∀ W, NWrk W0 b K sz maps W n out ok od → Calls Try.prog 63 #[.pointer (some ⟨b, 0, none⟩)] W (Gives (.string ⟨(sizeB sz).toArray⟩) W)) := Lib.hid (fun W h => size_any W0 b K sz maps W n out ok od h)
      have hal := sayB_length ok 3 ([0, 0] ++ sizeB sz)
      have HS : Hid (∀ W, NWrk W0 b K sz maps W n out ok od → Calls Try.prog 38 #[.pointer (some ⟨b, 0, none⟩), .int .u32 3, .string ⟨(0 :: 0 :: sizeB sz).toArray⟩] W (MEnds W0 b K sz maps n (out ++ sayB ok 3 ([0, 0] ++ sizeB sz)) ok od)) :=
        Lib.hid (fun W hW => say_any W0 b K sz maps W n out ok od 3 3 rfl ([0, 0] ++ sizeB sz) (by decide) hokl (by omega) hW)
      have HS2 : Hid (∀ W, NWrk W0 b K sz maps W n (out ++ sayB ok 3 ([0, 0] ++ sizeB sz)) ok od → Calls Try.prog 38 #[.pointer (some ⟨b, 0, none⟩), .int .u32 1, .string ⟨#[]⟩] W (MEnds W0 b K sz maps n ((out ++ sayB ok 3 ([0, 0] ++ sizeB sz)) ++ sayB ok 1 []) ok od)) :=
        Lib.hid (fun W hW => say_any W0 b K sz maps W n _ ok od 1 1 rfl [] (by decide) hokl (by rw [List.length_append]; omega) hW)
      generalize sayB ok 3 ([0, 0] ++ sizeB sz) = sb at HX HS HS2 hal
      generalize sizeB sz = zb at HZ HS hsz
      clear hr HD hou
      go_wp2_with fail
      refine (HO.out _).mono ?_
      rintro e w1' ⟨rfl, rfl⟩
      go_wp2_with fail
      refine (HZ.out _ hw1).mono ?_
      rintro e w2 ⟨rfl, hb2⟩
      have hw2 := hw1.below hb2
      clear hw1 hb2 HZ
      go_wp2_with fail
      refine (HS.out _ hw2).mono ?_
      rintro e w3 ⟨rfl, hw3⟩
      clear hw2 HS
      go_wp2_with fail
      refine (HS2.out _ hw3).mono ?_
      rintro e w4 ⟨rfl, hw4⟩
      clear hw3 HS2
      obtain ⟨ki, hki⟩ : ∃ ki : Int, (ok : Int) = ki := ⟨_, rfl⟩
      have c7 : w4.cell? ⟨b, 7, none⟩ = some (.int .u32 ki) := by obtain ⟨_, _, _, _, h1, _⟩ := hw4; exact nwrk_cell7 h1 ki hki
      obtain ⟨vm, vx, p, v, h1, h2⟩ := id hw4
      have c0 := h1.cell 0
      have f0 := h1.frozen 0
      unfold nwC at c0
      simp only [List.getElem?_toArray, List.getElem?_cons_zero] at c0
      have HN := Lib.hid (NWrk.stored (n' := { n with phase := 2 }) h1 h2 0 (.int .i64 2) (by simp [nwC]) rfl)
      have HW4 := Lib.hid hw4
      clear h1 h2 hw4
      rcases hok with h6 | h7
      · have e1 : (ki == 7) = false := by rw [← hki, beq_eq_false_iff_ne]; omega
        have HE : Hid (¬ ok = 7) := Lib.hid (by omega)
        clear h6 hki
        go_wp2_with fail
        go_end0
        exact ⟨rfl, by rw [HX.out]; dsimp only; rw [if_neg HE.out, ← List.append_assoc]; exact HW4.out⟩
      · have e1 : (ki == 7) = true := by rw [← hki, beq_iff_eq]; omega
        have HE : Hid (ok = 7) := Lib.hid h7
        clear h7 hki
        go_wp2_with fail
        go_end0
        exact ⟨rfl, by rw [HX.out]; dsimp only; rw [if_pos HE.out, ← List.append_assoc]; exact HN.out⟩

def StepEnds (W0 : World) (b : Nat) (K : Held) (sz : Nat) (maps : List (List UInt8)) (n : Neg) (out : List UInt8) (r : Option (Neg × List UInt8)) (e : Ending) (w' : World) : Prop :=
  ∃ ok od, (r = none ∧ e = .returned (.bool false) ∧ NWrk W0 b K sz maps w' n out ok od) ∨ ∃ n1 o, r = some (n1, o) ∧ e = .returned (.bool true) ∧ NWrk W0 b K sz maps w' n1 (out ++ o) ok od

set_option maxRecDepth 100000 in
set_option maxHeartbeats 2000000 in
theorem flags_any (hbuf : n.buf.length ≤ 1000000) (hw : NWrk W0 b K sz maps w n out ok od) :
    Calls Try.prog 22 #[.pointer (some ⟨b, 0, none⟩)] w (StepEnds W0 b K sz maps n out n.doFlags) := by
  obtain ⟨f, r, x, hT, hc⟩ := take_cases n.buf 4 (by decide) (by decide) (by omega)
  have HT := Lib.hid hT
  have HW := Lib.hid hw
  have c1 : w.cell? ⟨b, 1, none⟩ = some (.string ⟨n.buf.toArray⟩) := by obtain ⟨_, _, _, _, h1, _⟩ := hw; exact h1.cell 1
  clear hT hw
  rcases hc with ⟨h4, hf, hr, rfl⟩ | ⟨h4, rfl⟩
  · have HX : Hid (n.doFlags = some (if f = 1 ∨ f = 3 then { n with phase := 1, buf := r, brief := decide (f = 3) } else Neg.die { n with phase := 1, buf := r, brief := decide (f = 3) }, [])) := Lib.hid (by
      unfold Neg.doFlags
      rw [if_neg (by omega), hf, hr])
    clear hf hr h4
    obtain ⟨fi, hfi⟩ : ∃ fi : Int, (f : Int) = fi := ⟨_, rfl⟩
    rw [hfi] at HT
    obtain ⟨b3, hb3⟩ : ∃ b3 : Bool, decide (f = 3) = b3 := ⟨_, rfl⟩
    rw [hb3] at HX
    have e3 : (fi == 3) = b3 := by rw [← hb3, ← hfi, Bool.eq_iff_iff, beq_iff_eq, decide_eq_true_iff]; omega
    go_enter Try.func22, Try.ntmps22
    go_wp2_with fail
    refine (HT.out _).mono ?_
    rintro e w1 ⟨rfl, hb1⟩
    have hw1 := HW.out.below hb1
    clear hb1 c1 HW
    obtain ⟨vm, vx, p, v, h1, h2⟩ := hw1
    have c0 := h1.cell 0
    have c1 := h1.cell 1
    have c2 := h1.cell 2
    have f0 := h1.frozen 0
    have f1 := h1.frozen 1
    have f2 := h1.frozen 2
    unfold nwC at c0 c1 c2
    simp only [List.getElem?_toArray, List.getElem?_cons_zero, List.getElem?_cons_succ] at c0 c1 c2
    have HN : Hid (NWrk W0 b K sz maps (((w1.setCell ⟨b, 1, none⟩ (.string ⟨r.toArray⟩)).setCell ⟨b, 0, none⟩ (.int .i64 1)).setCell ⟨b, 2, none⟩ (.bool b3)) { n with phase := 1, buf := r, brief := b3 } out ok od) :=
      Lib.hid ⟨vm, vx, p, v, (((h1.set_ 1 _).set_ 0 _).set_ 2 _).as_ (by simp [nwC]), ((h2.set_ 1 _).set_ 0 _).set_ 2 _⟩
    clear h1 h2
    by_cases h13 : f = 1 ∨ f = 3
    · have HX2 := HX.out
      rw [if_pos h13] at HX2
      have HX3 := Lib.hid HX2
      have e1 : (fi == 1) = true ∨ ((fi == 1) = false ∧ b3 = true) := by
        rcases h13 with h | h
        · left; rw [← hfi, beq_iff_eq]; omega
        · right; exact ⟨by rw [← hfi, beq_eq_false_iff_ne]; omega, by rw [← hb3]; simp [h]⟩
      clear HX HX2 h13 hfi hb3
      rcases e1 with e1 | ⟨e1, rfl⟩
      · have e1n : (fi != 1) = false := by rw [bne, e1]; rfl
        go_wp2_with fail
        all_goals go_ret
        all_goals exact ⟨ok, od, .inr ⟨_, _, HX3.out, rfl, by rw [List.append_nil]; exact HN.out⟩⟩
      · have e1n : (fi != 1) = true := by rw [bne, e1]; rfl
        have e3n : (fi != 3) = false := by rw [bne, e3]; rfl
        go_wp2_with fail
        all_goals go_ret
        all_goals exact ⟨ok, od, .inr ⟨_, _, HX3.out, rfl, by rw [List.append_nil]; exact HN.out⟩⟩
    · have HX2 := HX.out
      rw [if_neg h13] at HX2
      have HX3 := Lib.hid HX2
      have e1 : (fi != 1) = true := by rw [bne_iff_ne, ← hfi]; omega
      have e3n : (fi != 3) = true := by rw [bne_iff_ne, ← hfi]; omega
      clear HX HX2 h13 hfi hb3
      go_wp2_with fail
      refine (die_any W0 b K sz maps _ _ out ok od HN.out).mono ?_
      rintro e w5 ⟨rfl, hw5⟩
      go_wp2
      go_ret
      exact ⟨ok, od, .inr ⟨_, _, HX3.out, rfl, by rw [List.append_nil]; exact hw5⟩⟩
  · have HX : Hid (n.doFlags = none) := Lib.hid (by unfold Neg.doFlags; rw [if_pos h4])
    clear h4
    go_enter Try.func22, Try.ntmps22
    go_wp2_with fail
    refine (HT.out _).mono ?_
    rintro e w1 ⟨rfl, hb1⟩
    have hw1 := HW.out.below hb1
    go_wp2_with fail
    go_ret
    exact ⟨ok, od, .inl ⟨HX.out, rfl, hw1⟩⟩
end
end Go.Proofs.Yteljplpiojdikaa
