/- name; the contexts' names; is a context wanted. -/
import Derived.Test.YteljplpiojdikaaNegWrk
import Derived.Test.YteljplpiojdikaaShelf
import Derived.Deep.AppendLies
namespace Go.Proofs.Yteljplpiojdikaa
open Go.RowKit

theorem repeat_zero (n : Nat) : Lib.repeatL [0] n = List.replicate n (0 : UInt8) := by
  induction n with
  | zero => rfl
  | succ n ih => rw [Lib.repeatL, ih]; rfl
theorem repeat_any (n : Nat) (hn : n ≤ 140737488355328) (w : World) : Calls Try.prog 64 #[.string ⟨#[0]⟩, .int .i64 n] w (Gives (.string ⟨(List.replicate n (0 : UInt8)).toArray⟩) w) := by
  refine (Try.strings_Repeat ⟨#[0]⟩ n w (by omega) (by show 1 * n ≤ _; omega)).mono ?_
  rintro e w' ⟨rfl, hb⟩
  exact ⟨by rw [show (⟨#[0]⟩ : ByteArray).data.toList = [0] from rfl, repeat_zero], hb⟩

section
variable (W0 : World) (b : Nat) (K : Held) (sz : Nat) (maps : List (List UInt8)) (w : World) (n : Neg) (out : List UInt8) (ok : Nat) (od : List UInt8)

set_option maxRecDepth 100000 in
set_option maxHeartbeats 1000000 in
theorem name_any (ho : out.length ≤ 10000000000) (hw : NWrk W0 b K sz maps w n out ok od) :
    Calls Try.prog 50 #[.pointer (some ⟨b, 0, none⟩)] w (MEnds W0 b K sz maps (if ours od = false then n.die else { n with phase := 2 }) (out ++ if ours od = false then [] else sizeB sz ++ if n.brief then [] else List.replicate 124 0) ok od) := by
  have mixed : Try.prog.follows .mixedOrders = true := by kernel_rfl
  have HO := Lib.hid (fun W => ours_any W ⟨b, 0, none⟩ od)
  have HR : Hid (∀ W, Calls Try.prog 64 #[.string ⟨#[0]⟩, .int .i64 124] W (Gives (.string ⟨(List.replicate 124 (0 : UInt8)).toArray⟩) W)) := Lib.hid (fun W => repeat_any 124 (by decide) W)
  have hsz : (sizeB sz).length = 10 := by simp [sizeB, be_length]
  have HZ : Hid (∀ W n' o', NWrk W0 b K sz maps W n' o' ok od → Calls Try.prog 63 #[.pointer (some ⟨b, 0, none⟩)] W (Gives (.string ⟨(sizeB sz).toArray⟩) W)) := Lib.hid (fun W n' o' h => size_any W0 b K sz maps W n' o' ok od h)
  have hrl : (List.replicate 124 (0 : UInt8)).length = 124 := by simp
  generalize List.replicate 124 (0 : UInt8) = zs at HR hrl ⊢
  generalize sizeB sz = zb at HZ hsz ⊢
  have c8 : w.cell? ⟨b, 8, none⟩ = some (.string ⟨od.toArray⟩) := by obtain ⟨_, _, _, _, h1, _⟩ := hw; exact h1.cell 8
  have HW := Lib.hid hw
  cases hb : ours od with
  | false =>
    rw [hb] at HO
    rw [if_pos rfl, if_pos rfl]
    clear hw hb
    go_enter Try.func50, Try.ntmps50
    go_wp2_with fail
    refine (HO.out _).mono ?_
    rintro e w1 ⟨rfl, rfl⟩
    go_wp2_with fail
    refine (die_any W0 b K sz maps _ n out ok od HW.out).mono ?_
    rintro e w2 ⟨rfl, hw2⟩
    go_wp2
    go_end0
    exact ⟨rfl, by rw [List.append_nil]; exact hw2⟩
  | true =>
    rw [hb] at HO
    rw [if_neg (by simp), if_neg (by simp)]
    clear hb
    obtain ⟨X, hX⟩ : ∃ X, (zb ++ if n.brief = true then [] else zs) = X := ⟨_, rfl⟩
    rw [hX]
    obtain ⟨br, hbr⟩ : ∃ br, n.brief = br := ⟨_, rfl⟩
    have HWr : Hid (∀ W (n' : Neg) o' (m : List UInt8), o'.length + m.length ≤ 140737488355328 → NWrk W0 b K sz maps W n' o' ok od → Calls Try.prog 57 #[.pointer (some ⟨b, 9, none⟩), .string ⟨m.toArray⟩] W fun e w' => (∃ n : Nat, e = .returned (.tuple #[.int .i64 n, .nilIface])) ∧ NWrk W0 b K sz maps w' n' (o' ++ m) ok od) :=
      Lib.hid (fun W n' o' m hl hW => nwrk_write W0 b K sz maps W n' o' ok od m hl hW)
    obtain ⟨vm, vx, p, v, h1, h2⟩ := hw
    have c0 := h1.cell 0
    have f0 := h1.frozen 0
    unfold nwC at c0
    simp only [List.getElem?_toArray, List.getElem?_cons_zero] at c0
    have HN := Lib.hid (NWrk.stored (n' := { n with phase := 2 }) h1 h2 0 (.int .i64 2) (by simp [nwC]) rfl)
    clear h1 h2 HW
    have HX := Lib.hid hX
    have HB := Lib.hid hbr
    clear hX
    cases br with
    | true =>
      clear hbr
      go_enter Try.func50, Try.ntmps50
      go_wp2_with fail
      refine (HO.out _).mono ?_
      rintro e w1 ⟨rfl, rfl⟩
      go_upto_region 3 with fail
      generalize w1.setCell ⟨b, 0, none⟩ (.int .i64 2) = wz at HN ⊢
      clear c8 c0 f0
      go_cut [] from 16 to 21 (fun wx => NWrk W0 b K sz maps wx { n with phase := 2 } (out ++ zb) ok od)
      case first =>
        go_region_with (first | (go_at_call 63; refine (HZ.out _ _ _ HN.out.drew).mono ?_; rintro e w5 ⟨rfl, hb5⟩) | (go_at_call 57; refine (HWr.out _ _ _ _ (by omega) (HN.out.drew.below hb5)).mono ?_; rintro e w6 ⟨⟨n6, rfl⟩, hw6⟩))
        all_goals go_wp2_with fail
        all_goals go_meet
        all_goals exact hw6
      case rest =>
        have hc2 : wc.cell? ⟨b, 2, none⟩ = some (.bool n.brief) := by obtain ⟨_, _, _, _, h1, _⟩ := hcut; exact h1.cell 2
        rw [HB.out] at hc2
        have HC := Lib.hid hcut
        clear hcut
        go_wp2_with fail
        go_end0
        exact ⟨rfl, by rw [← HX.out, if_pos HB.out, List.append_nil]; exact HC.out⟩
    | false =>
      clear hbr
      go_enter Try.func50, Try.ntmps50
      go_wp2_with fail
      refine (HO.out _).mono ?_
      rintro e w1 ⟨rfl, rfl⟩
      go_upto_region 3 with fail
      generalize w1.setCell ⟨b, 0, none⟩ (.int .i64 2) = wz at HN ⊢
      clear c8 c0 f0
      go_cut [] from 16 to 21 (fun wx => NWrk W0 b K sz maps wx { n with phase := 2 } (out ++ zb) ok od)
      case first =>
        go_region_with (first | (go_at_call 63; refine (HZ.out _ _ _ HN.out.drew).mono ?_; rintro e w5 ⟨rfl, hb5⟩) | (go_at_call 57; refine (HWr.out _ _ _ _ (by omega) (HN.out.drew.below hb5)).mono ?_; rintro e w6 ⟨⟨n6, rfl⟩, hw6⟩))
        all_goals go_wp2_with fail
        all_goals go_meet
        all_goals exact hw6
      case rest =>
        have hc2 : wc.cell? ⟨b, 2, none⟩ = some (.bool n.brief) := by obtain ⟨_, _, _, _, h1, _⟩ := hcut; exact h1.cell 2
        rw [HB.out] at hc2
        have HC := Lib.hid hcut
        clear hcut
        go_wp2_with fail
        go_region_with (first | (go_at_call 64; refine (HR.out _).mono ?_; rintro e w7 ⟨rfl, hb7⟩) | (go_at_call 57; refine (HWr.out _ _ _ _ (by rw [List.length_append]; omega) (HC.out.drew.below hb7)).mono ?_; rintro e w8 ⟨⟨m8, rfl⟩, hw8⟩))
        all_goals go_wp2
        all_goals go_end0
        all_goals exact ⟨rfl, by rw [← HX.out, if_neg (by rw [HB.out]; simp), ← List.append_assoc]; exact hw8⟩

set_option maxRecDepth 100000 in
set_option maxHeartbeats 1000000 in
/-- The contexts' names. -/
theorem contexts_any (vx : Value) (hx : SlAt w vx maps.length (cellsS maps)) (hl : maps.length ≤ 1000) (hq : ∀ q ∈ maps, q.length ≤ 1000) :
    Calls Try.prog 66 #[.agg #[.int .u64 sz, vx]] w fun e w' => ∃ v, e = .returned v ∧ w'.ownsRow w.heap.size 9 1 v (contextsL maps).length (cellsS (contextsL maps)) ∧ Below w.heap.size w w' := by
  obtain ⟨ad, cp, rfl⟩ := hx.form
  have H := Lib.hid hx
  have HL := Lib.hid (show ∀ k, k < maps.length → ∃ q, maps[k]? = some q ∧ q.length ≤ 1000 from fun k hk => ⟨_, List.getElem?_eq_getElem hk, hq _ (List.getElem_mem hk)⟩)
  clear hx hq
  obtain ⟨i0, hi, hz0, hz1, hz2⟩ := info_parts Try.infoStr
  obtain ⟨cn, hcn⟩ : ∃ cn : Nat → List Value, cn = fun k => cellsS (baseAlloc :: (maps.take k).map (dirtyPre ++ ·)) := ⟨_, rfl⟩
  have hc0 : [.string ⟨baseAlloc.toArray⟩] = cn 0 := by rw [hcn]; simp [cellsS]
  have hcs : ∀ k q, maps[k]? = some q → cn k ++ [.string ⟨(dirtyPre ++ q).toArray⟩] = cn (k + 1) := by
    intro k q h
    rw [hcn]
    dsimp only
    rw [List.take_add_one, h]
    simp [cellsS]
  have hce : cn maps.length = cellsS (contextsL maps) := by rw [hcn]; simp [contextsL, List.take_length]
  have hle : (contextsL maps).length = maps.length + 1 := by simp [contextsL]
  have HC0 := Lib.hid hc0
  have HCS := Lib.hid hcs
  have HCE := Lib.hid hce
  rw [hle]
  clear hc0 hcs hce hle hcn
  obtain ⟨m, hm⟩ : ∃ m, maps.length = m := ⟨_, rfl⟩
  rw [hm] at HCE HL hl H ⊢
  rw [← HCE.out]
  clear hm HCE
  simp only [dirtyPre, List.cons_append, List.nil_append] at HCS
  unfold baseAlloc at HC0
  go_enter Try.func66, Try.ntmps66
  go_wp2_with fail
  go_loopw [3, 10] (fun l i wr => ∃ k : Nat, k ≤ m ∧ i = .int .i64 k ∧ wr.ownsRow w.heap.size 9 1 l (k + 1) (cn k) ∧ Below w.heap.size w wr) (fun _ i _ => m - (intOf i).toNat)
  case atStart =>
    refine ⟨0, Nat.zero_le _, rfl, ?_, by (repeat' (first | (with_reducible assumption) | (with_reducible exact Below.refl _ _) | (with_reducible refine below_drewN ?_ _) | (with_reducible refine Below.drew ?_) | (with_reducible refine Below.setCell ?_ ?_ _) | (with_reducible refine Below.alloc ?_ ?_ _) | (with_reducible refine below_putObj ?_ ?_ _) | (with_reducible exact Nat.le_refl _) | omega | (simp; done) | (simp; omega)))⟩
    rw [← HC0.out]
    exact ⟨by simp, .inr ⟨w.heap.size + 1, 1, #[.string ⟨#[98, 97, 115, 101, 58, 97, 108, 108, 111, 99, 97, 116, 105, 111, 110]⟩], rfl, by omega, heap_newAt (by simp) _, Nat.le_refl _, by unfold maxLen; decide, by simp, by simp⟩⟩
  case round =>
    obtain ⟨k, hk, rfl, hown, hbw⟩ := hrel
    obtain ⟨ad', cp', rfl⟩ := (SlAt.of_row hown).form
    by_cases hlt : k < m
    · have k1 : (k : Int) < (m : Int) := by omega
      have k0 : (0 : Int) ≤ (k : Int) := by omega
      obtain ⟨q, hq, hql⟩ := HL.out k hlt
      obtain ⟨b', o', rfl, A⟩ := H.out.addr (cellsS_at maps k q hq)
      have a0 := cell_keepS (A k _ (cellsS_at maps k q hq)) hbw
      have HQ := Lib.hid (HCS.out k q hq)
      clear A hq
      have own2 := hown.alloc (.cells #[.string ⟨(113 :: 101 :: 109 :: 117 :: 58 :: 100 :: 105 :: 114 :: 116 :: 121 :: 45 :: 98 :: 105 :: 116 :: 109 :: 97 :: 112 :: 58 :: q).toArray⟩] 9)
      have s3 := hbw.size
      have HO := Lib.hid hown
      clear hown
      go_wp2_with (at_builtin; refine wpList_append_own _ rfl _ _ 23 rfl w.heap.size 9 i0 (.string ⟨#[]⟩) 1 16 Try.underlying23 hi hz0 hz1 hz2 rfl (by decide) _ _ _ rfl own2 ⟨wr.heap.size, 0, none⟩ 1 1 [.string ⟨(113 :: 101 :: 109 :: 117 :: 58 :: 100 :: 105 :: 114 :: 116 :: 121 :: 45 :: 98 :: 105 :: 116 :: 109 :: 97 :: 112 :: 58 :: q).toArray⟩] rfl rfl ?c1 ?c2 ?c3 ?c4 ?c5 ?_)
      case c1 => exact World.news_of_block (heap_alloc_new wr _)
      case c2 => intro u hu; simp at hu; subst hu; rfl
      case c3 => unfold maxLen; omega
      case c4 => omega
      case c5 => simp; omega
      intro v' w4 hown' hgrow _
      have b4 := (hbw.alloc s3 (.cells #[.string ⟨(113 :: 101 :: 109 :: 117 :: 58 :: 100 :: 105 :: 114 :: 116 :: 121 :: 45 :: 98 :: 105 :: 116 :: 109 :: 97 :: 112 :: 58 :: q).toArray⟩] 9)).grown hgrow (by simp; omega) (fun k hk => (own2.lt k hk).1)
      rw [HQ.out] at hown'
      have HO2 := Lib.hid hown'
      clear hown' hgrow own2 hbw HO
      go_wp2
      go_roundw
      case rel => exact ⟨k + 1, by omega, by go_num, HO2.out, b4⟩
      case measure => simp [intOf]; omega
    · obtain rfl : k = m := by omega
      have k1 : ¬ (k : Int) < (k : Int) := by omega
      have HO := Lib.hid hown
      clear hown
      go_wp2
      go_ret
      exact ⟨_, rfl, HO.out, hbw⟩
end
end Go.Proofs.Yteljplpiojdikaa
