/- nego's option. -/
import Derived.Test.YteljplpiojdikaaNegOpt
import Derived.Test.YteljplpiojdikaaReadOpt2
import Derived.Maps.Views
namespace Go.Proofs.Yteljplpiojdikaa
open Go.RowKit

section
variable (W0 : World) (b : Nat) (bl : List (Nat × TypeId × Array Value)) (sz : Nat) (maps : List (List UInt8)) (w : World) (n : Neg) (out : List UInt8) (od : List UInt8)

/-- The method of a kind. -/
def methodOf (o : Nat) : Nat :=
  if o = 1 then 50 else if o = 2 then 51 else if o = 3 then 52 else if o = 6 ∨ o = 7 then 53
  else if o = 8 then 54 else 55
def known (o : Nat) : Bool := decide (o = 1) || decide (o = 2) || decide (o = 3) || decide (o = 6) || decide (o = 7) || decide (o = 8) || decide (o = 9) || decide (o = 10)

theorem does_any (o : Nat) (hk : known o = true) (hod : od.length ≤ 1000000) (hml : maps.length ≤ 1000) (hmq : ∀ q ∈ maps, q.length ≤ 1000) (ho : out.length ≤ 1000000000) (hw : NWrk W0 b ⟨0, bl⟩ sz maps w n out o od) :
    Calls Try.prog (methodOf o) #[.pointer (some ⟨b, 0, none⟩)] w (MEnds W0 b ⟨0, bl⟩ sz maps (n.doOpt sz maps o od).1 (out ++ (n.doOpt sz maps o od).2) o od) := by
  have hc : o = 1 ∨ o = 2 ∨ o = 3 ∨ o = 6 ∨ o = 7 ∨ o = 8 ∨ o = 9 ∨ o = 10 := by
    unfold known at hk
    simp only [Bool.or_eq_true, decide_eq_true_eq] at hk
    omega
  rcases hc with rfl | rfl | rfl | rfl | rfl | rfl | rfl | rfl
  · have h := name_any W0 b ⟨0, bl⟩ sz maps w n out 1 od (by omega) hw
    unfold Neg.doOpt
    by_cases hb : ours od = false
    · simp only [hb, if_true] at h ⊢; exact h
    · simp only [hb, if_false] at h ⊢; exact h
  · exact abort_any W0 b ⟨0, bl⟩ sz maps w n out 2 od (by decide) (by omega) hw
  · have h := list_any W0 b ⟨0, bl⟩ sz maps w n out 3 od (by decide) (by omega) hw
    exact h
  · exact info_any W0 b ⟨0, bl⟩ sz maps w n out 6 od (.inl rfl) hod ho hw
  · exact info_any W0 b ⟨0, bl⟩ sz maps w n out 7 od (.inr rfl) hod ho hw
  · have h := chunks_any W0 b ⟨0, bl⟩ sz maps w n out 8 od (by decide) (by omega) hw
    have e : n.doOpt sz maps 8 od = if od = [] then ({ n with chunks := true }, sayB 8 1 []) else (n, sayB 8 2147483651 []) := rfl
    rw [e]
    by_cases hd : od = []
    · rw [if_pos hd] at h ⊢; rw [if_pos hd] at h; exact h
    · rw [if_neg hd] at h ⊢; rw [if_neg hd] at h; exact h
  · exact metas_lists W0 b bl sz maps w n out od hod hml hmq ho hw
  · exact metas_sets W0 b bl sz maps w n out od hod hml hmq ho hw
end

theorem opt_known (o : Nat) (hk : known o = true) : Maps.has optD (.int .u32 (o : Nat)) = true ∧ optD.atKey (.int .u32 (o : Nat)) .nil = .lit (.int .i64 (methodOf o : Nat)) := by
  have hc : o = 1 ∨ o = 2 ∨ o = 3 ∨ o = 6 ∨ o = 7 ∨ o = 8 ∨ o = 9 ∨ o = 10 := by
    unfold known at hk
    simp only [Bool.or_eq_true, decide_eq_true_eq] at hk
    omega
  rcases hc with rfl | rfl | rfl | rfl | rfl | rfl | rfl | rfl
  all_goals exact ⟨by rfl, by rfl⟩
theorem opt_unknown (o : Nat) (hk : known o = false) : Maps.has optD (.int .u32 (o : Nat)) = false ∧ optD.atKey (.int .u32 (o : Nat)) .nil = .nil := by
  unfold known at hk
  simp only [Bool.or_eq_false_iff, decide_eq_false_iff_not] at hk
  have hn : ∀ m : Int, (o : Int) ≠ m → Lit.int .u32 (o : Nat) ≠ Lit.int .u32 m := fun m h e => h (by simpa only [Lit.int.injEq, true_and] using e)
  have h1 := hn 1 (by omega)
  have h2 := hn 2 (by omega)
  have h3 := hn 3 (by omega)
  have h6 := hn 6 (by omega)
  have h7 := hn 7 (by omega)
  have h8 := hn 8 (by omega)
  have h9 := hn 9 (by omega)
  have h10 := hn 10 (by omega)
  unfold optD
  refine ⟨?_, ?_⟩
  · rw [Maps.has_put_other h10, Maps.has_put_other h9, Maps.has_put_other h8, Maps.has_put_other h7, Maps.has_put_other h6, Maps.has_put_other h3, Maps.has_put_other h2, Maps.has_put_other h1]
    rfl
  · rw [Maps.atKey_put_other h10, Maps.atKey_put_other h9, Maps.atKey_put_other h8, Maps.atKey_put_other h7, Maps.atKey_put_other h6, Maps.atKey_put_other h3, Maps.atKey_put_other h2, Maps.atKey_put_other h1]
    rfl

section
variable (W0 : World) (b : Nat) (bl : List (Nat × TypeId × Array Value)) (sz : Nat) (maps : List (List UInt8)) (w : World) (n : Neg) (out : List UInt8) (ok : Nat) (od : List UInt8)

set_option maxRecDepth 100000 in
set_option maxHeartbeats 1000000 in
theorem unsup_any (bx : Nat) (hbx : Blk w bx 56 #[.pointer (some ⟨b, 0, none⟩)]) (hok : ok < 4294967296) (ho : out.length ≤ 1000000000) (hw : NWrk W0 b ⟨0, bl⟩ sz maps w n out ok od) :
    Calls Try.prog 37 #[.pointer (some ⟨bx, 0, none⟩)] w (MEnds W0 b ⟨0, bl⟩ sz maps n (out ++ sayB ok 2147483649 []) ok od) := by
  have HS := Lib.hid (say_any W0 b ⟨0, bl⟩ sz maps w n out ok od 2147483649 2147483649 rfl [] (by decide) hok (by omega) hw)
  have c0 := hbx.cell 0
  simp only [List.getElem?_toArray, List.getElem?_cons_zero] at c0
  clear hw hbx
  go_enter Try.func37, Try.ntmps37
  go_wp2_with fail
  refine HS.out.mono ?_
  rintro e w1 ⟨rfl, hw1⟩
  go_wp2
  go_end0
  exact ⟨rfl, hw1⟩

set_option maxRecDepth 100000 in
set_option maxHeartbeats 4000000 in
theorem option_any (hbuf : n.buf.length ≤ 1000000) (hml : maps.length ≤ 1000) (hmq : ∀ q ∈ maps, q.length ≤ 1000) (ho : out.length ≤ 1000000000) (hw : NWrk W0 b ⟨0, bl⟩ sz maps w n out ok od) :
    Calls Try.prog 23 #[.pointer (some ⟨b, 0, none⟩)] w (StepEnds W0 b ⟨0, bl⟩ sz maps n out (n.doOption sz maps)) := by
  have HR := Lib.hid (fun W => opt_read_any n.buf (by omega) W)
  have hlen := readOpt_len n.buf
  have hX : n.doOption sz maps = if (readOpt n.buf).2.2 = 22 then none else if (readOpt n.buf).2.2 ≠ 0 then some (n.die, []) else some (Neg.doOpt { n with buf := (readOpt n.buf).2.1 } sz maps (readOpt n.buf).1.1 (readOpt n.buf).1.2) := rfl
  obtain ⟨⟨⟨o, d⟩, r, x⟩, hr⟩ : ∃ y, readOpt n.buf = y := ⟨_, rfl⟩
  rw [hr] at HR hlen hX
  dsimp only at HR hlen hX
  unfold optV at HR
  dsimp only at HR
  have HX := Lib.hid hX
  generalize n.doOption sz maps = R at HX ⊢
  have HM := Lib.hid hmq
  clear hX hr hmq
  have hwb : NWrk W0 b ⟨0, bl⟩ sz maps (w.alloc (.cells #[.pointer (some ⟨b, 0, none⟩)] 56)) n out ok od := hw.alloc _
  have hbx := Blk.new w 56 #[.pointer (some ⟨b, 0, none⟩)]
  have hne : b ≠ w.heap.size := by obtain ⟨_, _, _, _, h1, _⟩ := hw; have := h1.lt; omega
  have c1 : w.cell? ⟨b, 1, none⟩ = some (.string ⟨n.buf.toArray⟩) := by obtain ⟨_, _, _, _, h1, _⟩ := hw; exact h1.cell 1
  have c1' : (w.alloc (.cells #[.pointer (some ⟨b, 0, none⟩)] 56)).cell? ⟨b, 1, none⟩ = some (.string ⟨n.buf.toArray⟩) := by obtain ⟨_, _, _, _, h1, _⟩ := hwb; exact h1.cell 1
  have HWB := Lib.hid hwb
  have HBX := Lib.hid hbx
  clear hw hwb hbx
  go_enter Try.func23, Try.ntmps23
  go_wp2_with fail
  refine (HR.out _).mono ?_
  rintro e w1 ⟨rfl, hb1⟩
  have hw1 := HWB.out.below hb1
  have hx1 := HBX.out.below hb1 HBX.out.lt
  have hw2 := hw1.alloc (.cells #[.int .u32 (o : Nat), .string ⟨d.toArray⟩] 58)
  have hx2 := hx1.alloc (.cells #[.int .u32 (o : Nat), .string ⟨d.toArray⟩] 58)
  have hG := Blk.new w1 58 #[.int .u32 (o : Nat), .string ⟨d.toArray⟩]
  have hneG : b ≠ w1.heap.size := by obtain ⟨_, _, _, _, h1, _⟩ := hw1; have := h1.lt; omega
  have hneX : w.heap.size ≠ w1.heap.size := by have := hx1.lt; omega
  clear hb1 hw1 hx1 c1 c1' HWB HBX HR
  by_cases hx22 : x = 22
  · have e1 : (x == 22) = true := by simp [hx22]
    have HX2 : Hid (R = none) := Lib.hid (by rw [HX.out, if_pos hx22])
    clear hx22 hlen HX
    go_wp2_with fail
    go_ret
    exact ⟨ok, od, .inl ⟨HX2.out, rfl, hw2⟩⟩
  · have e1 : (x == 22) = false := by simp [hx22]
    by_cases hx0 : x = 0
    · have e2 : (x == 0) = true := by simp [hx0]
      obtain ⟨hl1, hl2, hl3⟩ := hlen hx0
      have HX2 : Hid (R = some (Neg.doOpt { n with buf := r } sz maps o d)) := Lib.hid (by rw [HX.out, if_neg hx22, if_neg (by simpa using hx0)])
      clear hx22 hx0 HX
      go_upto_region 7 with fail
      generalize w1.heap.size = G at hG hneG hneX ⊢
      generalize w1.alloc (.cells #[.int .u32 (o : Nat), .string ⟨d.toArray⟩] 58) = w2 at hG hw2 hx2 ⊢
      generalize w.heap.size = bx at hne hneX hx2 ⊢
      go_cut [] from 25 to 33 (fun wx => NWrk W0 b ⟨0, bl⟩ sz maps wx { n with buf := r } out o d ∧ Blk wx bx 56 #[.pointer (some ⟨b, 0, none⟩)] ∧ Blk wx G 58 #[.int .u32 (o : Nat), .string ⟨d.toArray⟩])
      case first =>
        obtain ⟨vm, vx, p, v, k1, k2⟩ := hw2
        have x0 := hx2.cell 0
        have g0 := hG.cell 0
        have g1 := hG.cell 1
        have d1 := k1.cell 1
        have d7 := k1.cell 7
        have d8 := k1.cell 8
        have f1 := k1.frozen 1
        have f7 := k1.frozen 7
        have f8 := k1.frozen 8
        unfold nwC at d1 d7 d8
        simp only [List.getElem?_toArray, List.getElem?_cons_zero, List.getElem?_cons_succ] at x0 g0 g1 d1 d7 d8
        have HN : Hid (∀ W, W = (((w2.drew.setCell ⟨b, 7, none⟩ (.int .u32 (o : Nat))).setCell ⟨b, 8, none⟩ (.string ⟨d.toArray⟩)).setCell ⟨b, 1, none⟩ (.string ⟨r.toArray⟩)) → NWrk W0 b ⟨0, bl⟩ sz maps W { n with buf := r } out o d ∧ Blk W bx 56 #[.pointer (some ⟨b, 0, none⟩)] ∧ Blk W G 58 #[.int .u32 (o : Nat), .string ⟨d.toArray⟩]) := Lib.hid (by
          rintro W rfl
          exact ⟨⟨vm, vx, p, v, (((k1.drew.set_ 7 _).set_ 8 _).set_ 1 _).as_ (by simp [nwC]), (((k2.drew).set_ 7 _).set_ 8 _).set_ 1 _⟩, ((hx2.drew.far (p := ⟨b, 7, none⟩) (by dsimp only; omega) _).far (p := ⟨b, 8, none⟩) (by dsimp only; omega) _).far (p := ⟨b, 1, none⟩) (by dsimp only; omega) _, ((hG.drew.far (p := ⟨b, 7, none⟩) (by dsimp only; omega) _).far (p := ⟨b, 8, none⟩) (by dsimp only; omega) _).far (p := ⟨b, 1, none⟩) (by dsimp only; omega) _⟩)
        clear k1 k2 hx2 hG
        go_region
        all_goals go_wp2_with fail
        all_goals go_meet
        all_goals exact HN.out _ rfl
      case rest =>
        obtain ⟨hw3, hx3, hg3⟩ := hcut
        have HO := Lib.hid (fun W => options_any b W)
        have x0 := hx3.cell 0
        simp only [List.getElem?_toArray, List.getElem?_cons_zero] at x0
        have HW3 := Lib.hid (And.intro hw3 (And.intro hx3 hg3))
        clear hw2 hx2 hG hw3 hx3 hg3
        have g0 := HW3.out.2.2.cell 0
        simp only [List.getElem?_toArray, List.getElem?_cons_zero] at g0
        have HKY : Hid (keyOf Try.prog 35 (.int .u32 (o : Nat)) = some (.int .u32 (o : Nat))) := Lib.hid (Maps.keyOf_int_mk Try.underlying35 (by simp [Lit.wf, IntKind.min, IntKind.max, IntKind.signed, IntKind.bits]; omega))
        go_upto_region 8 with fail
        obtain ⟨w3, hw3⟩ : ∃ w3, w3 = wc := ⟨_, rfl⟩
        rw [← hw3] at HW3 x0 g0 ⊢
        clear hw3
        go_cut [6, 7] from 34 to 41 (fun v okv wx => NWrk W0 b ⟨0, bl⟩ sz maps wx { n with buf := r } out o d ∧ Blk wx bx 56 #[.pointer (some ⟨b, 0, none⟩)] ∧ okv = .bool (Maps.has optD (.int .u32 (o : Nat))) ∧ ∃ ps, fnElem b v = some (optD.atKey (.int .u32 (o : Nat)) .nil, ps))
        case first =>
          go_region_with (first | (go_at_call 36; go_loud (refine (HO.out _).mono ?_; rintro e w4 ⟨rfl, hM, hb4⟩; have hw4 := HW3.out.1.drew.below hb4; have hx4 := HW3.out.2.1.drew.below hb4 HW3.out.2.1.lt; have hg4 := HW3.out.2.2.drew.below hb4 HW3.out.2.2.lt; obtain ⟨v, ps, hlook, hv⟩ := hM.look_ok u32_keyed Try.underlying84 (z := .nilFunc) (by rfl) (zd := .nil) (zp := []) rfl HKY.out; have hlook' : (Instr.lookup 84 (.map (some w3.heap.size)) (.int .u32 (o : Nat)) true).run Try.prog w4 = .ok (.tuple #[v, .bool (Maps.has optD (.int .u32 (o : Nat)))]) w4 := hlook; have g4 := hg4.cell 0; simp only [List.getElem?_toArray, List.getElem?_cons_zero] at g4; have HV := Lib.hid hv; have HQ4 := Lib.hid (And.intro hw4 hx4); clear hM hb4 hlook hv hw4 hx4 hg4)))
          all_goals go_wp2_with fail
          all_goals go_meet
          all_goals exact ⟨HQ4.out.1, HQ4.out.2, rfl, _, HV.out⟩
        case rest =>
        obtain ⟨hw4, hx4, rfl, ps, hv⟩ := hcut
        obtain ⟨w4, hw5⟩ : ∃ w4, w4 = wc := ⟨_, rfl⟩
        rw [← hw5] at hw4 hx4 ⊢
        clear hw5
        have x4 := hx4.cell 0
        simp only [List.getElem?_toArray, List.getElem?_cons_zero] at x4
        have HX4 := Lib.hid hx4
        clear x0 g0 HKY HW3 HO hx4
        cases hkn : known o with
        | true =>
          obtain ⟨k1, k2⟩ := opt_known o hkn
          rw [k2] at hv
          simp only [k1]
          obtain ⟨f, hf, rfl⟩ := fnElem_inv hv
          have hf2 : methodOf o = f := by omega
          have HD := Lib.hid (does_any W0 b bl sz maps w4 { n with buf := r } out d o hkn (by omega) hml HM.out ho hw4)
          rw [hf2] at HD
          have hfs : f = 50 ∨ f = 51 ∨ f = 52 ∨ f = 53 ∨ f = 54 ∨ f = 55 := by
            rw [← hf2]
            unfold methodOf
            repeat' split
            all_goals simp
          clear hv hkn k1 k2 hf hf2 hw4
          generalize Neg.doOpt { n with buf := r } sz maps o d = D at HX2 HD
          rcases hfs with rfl | rfl | rfl | rfl | rfl | rfl
          all_goals
            go_wp2_with fail
            refine HD.out.mono ?_
            rintro e w5 ⟨rfl, hw5⟩
            go_wp2
            go_ret
            exact ⟨o, d, .inr ⟨_, _, HX2.out, rfl, hw5⟩⟩
        | false =>
          obtain ⟨k1, k2⟩ := opt_unknown o hkn
          rw [k2] at hv
          simp only [k1]
          obtain rfl := fnElem_nil hv
          have HD := Lib.hid (unsup_any W0 b bl sz maps w4 { n with buf := r } out o d bx HX4.out (by omega) ho hw4)
          have hX3 : Neg.doOpt { n with buf := r } sz maps o d = ({ n with buf := r }, sayB o 2147483649 []) := by
            have h := hkn
            unfold known at h
            simp only [Bool.or_eq_false_iff, decide_eq_false_iff_not] at h
            unfold Neg.doOpt
            rw [if_neg (by omega), if_neg (by omega), if_neg (by omega), if_neg (by omega), if_neg (by omega), if_neg (by omega)]
          have HX3 := Lib.hid hX3
          clear hv hkn k1 k2 hw4 hX3
          go_wp2_with fail
          refine HD.out.mono ?_
          rintro e w5 ⟨rfl, hw5⟩
          go_wp2
          go_ret
          exact ⟨o, d, .inr ⟨_, _, by rw [HX2.out, HX3.out], rfl, hw5⟩⟩
    · have e2 : (x == 0) = false := by simp [hx0]
      have HX2 : Hid (R = some (n.die, [])) := Lib.hid (by rw [HX.out, if_neg hx22, if_pos hx0])
      clear hx22 hx0 hlen HX
      have x0 := hx2.cell 0
      simp only [List.getElem?_toArray, List.getElem?_cons_zero] at x0
      go_wp2_with fail
      refine (die_any W0 b ⟨0, bl⟩ sz maps _ n out ok od hw2).mono ?_
      rintro e w5 ⟨rfl, hw5⟩
      go_wp2
      go_ret
      exact ⟨ok, od, .inr ⟨_, _, HX2.out, rfl, by rw [List.append_nil]; exact hw5⟩⟩
end
end Go.Proofs.Yteljplpiojdikaa
