/- NegoBack, the walk. -/
import Derived.Test.YteljplpiojdikaaNegBackLaw
import Derived.Test.YteljplpiojdikaaNegOpenI
namespace Go.Proofs.Yteljplpiojdikaa
open Go.RowKit

set_option maxRecDepth 100000 in
set_option maxHeartbeats 4000000 in
theorem negoBack_any (name : List UInt8) (vq : Value) (qs : List (List UInt8)) (vi : Value) (is : List Nat) (s : List UInt8) (w : World) (hq : SlAt w vq qs.length (cellsS qs)) (hi : SlAt w vi is.length (cellsH is))
    (hn : name.length ≤ 9223372036854775807) (hs : s.length ≤ 9223372036854775807) (hql : qs.length ≤ 9223372036854775807) (hqx : ∀ x ∈ qs, x.length ≤ 9223372036854775807) (hix : ∀ x ∈ is, x < 65536) :
    Calls Try.prog 5 #[.string ⟨name.toArray⟩, vq, vi, .string ⟨s.toArray⟩] w (Gives (.bool true) w) := by
  have mixed : Try.prog.follows .mixedOrders = true := by kernel_rfl
  have HA := Lib.hid awake_any
  have HS := Lib.hid (fun W v (hv : SlAt W v 2 (cellsS [name, s])) => short_any v [name, s] W hv (show (2 : Nat) ≤ _ by decide) (by simp; exact ⟨hn, hs⟩))
  have HSQ := Lib.hid (fun W (hb : Below w.heap.size w W) => short_any vq qs W (hq.below hb) hql hqx)
  have HQ := Lib.hid hq
  have HI := Lib.hid hi
  obtain ⟨ad, cp, rfl⟩ := hq.form
  obtain ⟨ai, ci, rfl⟩ := hi.form
  have HIX := Lib.hid hix
  clear hq hi hqx hix
  obtain ⟨n, hnq⟩ : ∃ n, qs.length = n := ⟨_, rfl⟩
  obtain ⟨m, hmi⟩ : ∃ m, is.length = m := ⟨_, rfl⟩
  have HNQ := Lib.hid hnq
  have HMI := Lib.hid hmi
  rw [hnq] at hql HQ HSQ ⊢
  rw [hmi] at HI ⊢
  clear hnq hmi
  go_enter Try.func5, Try.ntmps5
  go_wp2_with fail
  have hb1 : Below w.heap.size w (w.alloc (.cells #[.string ⟨name.toArray⟩, .string ⟨s.toArray⟩] 9)) := by (repeat' (first | (with_reducible assumption) | (with_reducible exact Below.refl _ _) | (with_reducible refine below_drewN ?_ _) | (with_reducible refine Below.drew ?_) | (with_reducible refine Below.setCell ?_ ?_ _) | (with_reducible refine Below.alloc ?_ ?_ _) | (with_reducible refine below_putObj ?_ ?_ _) | (with_reducible exact Nat.le_refl _) | omega | (simp; done) | (simp; omega)))
  refine (HS.out _ _ (.inr ⟨⟨w.heap.size, 0, none⟩, 2, rfl, .inr rfl, ?cs⟩)).mono ?_
  case cs =>
    intro j u hu
    have h2 := (Blk.new w 9 #[.string ⟨name.toArray⟩, .string ⟨s.toArray⟩]).cell j
    rw [Addr.add_lit, Nat.zero_add, h2]
    simpa [cellsS] using hu
  rintro e w1 ⟨r, rfl, hr, hb2⟩
  have HR := Lib.hid hr
  have b1 := below_next hb1 hb2
  clear hr hb1 hb2
  cases r with
  | false =>
    go_wp2_with fail
    refine (HA.out _).mono ?_
    rintro e w2 ⟨rfl, hb2⟩
    have b2 := below_next b1 hb2
    go_wp2
    go_ret
    exact ⟨rfl, b2⟩
  | true =>
    obtain ⟨hnl, hsl⟩ := sumL_two name s (HR.out (by trivial))
    clear HR HS hn hs
    go_wp2_with fail
    refine (HSQ.out _ b1).mono ?_
    rintro e w2 ⟨r, rfl, hr, hb2⟩
    have HR := Lib.hid hr
    have b2 := below_next b1 hb2
    clear hr hb2 b1
    cases r with
    | false =>
      go_wp2_with fail
      refine (HA.out _).mono ?_
      rintro e w3 ⟨rfl, hb3⟩
      have b3 := below_next b2 hb3
      go_wp2
      go_ret
      exact ⟨rfl, b3⟩
    | true =>
      have HSL := Lib.hid (HR.out (by trivial))
      have HQX := Lib.hid (sumL_each qs 20000 (by rw [HNQ.out]; exact HR.out (by trivial)))
      clear HR HSQ
      by_cases hqn : 1000 < n
      · have hqn2 : (1000 : Int) < (n : Int) := by omega
        go_wp2_with fail
        refine (HA.out _).mono ?_
        rintro e w3 ⟨rfl, hb3⟩
        have b3 := below_next b2 hb3
        go_wp2
        go_ret
        exact ⟨rfl, b3⟩
      · have hqn2 : ¬ (1000 : Int) < (n : Int) := by omega
        by_cases hin : 2000 < m
        · have hin2 : (2000 : Int) < (m : Int) := by omega
          go_wp2_with fail
          refine (HA.out _).mono ?_
          rintro e w3 ⟨rfl, hb3⟩
          have b3 := below_next b2 hb3
          go_wp2
          go_ret
          exact ⟨rfl, b3⟩
        · have hin2 : ¬ (2000 : Int) < (m : Int) := by omega
          have hsum : sumL qs n ≤ 20000 := HSL.out
          have HM1 := Lib.hid (fun W (hb : Below w.heap.size w W) => meta_any name (.slice ad n cp) qs W (by rw [HNQ.out]; exact HQ.out.below hb) (by rw [HNQ.out]; omega) hnl HQX.out)
          have HT1 := Lib.hid (fun W => toMeta_any (metaB name qs) (by rw [metaB_len, HNQ.out]; omega) W)
          rw [readMeta_back name qs hnl (by rw [HNQ.out]; omega) HQX.out] at HT1
          have HT2 := Lib.hid (fun W => toAsks_any (asksB name is) (by rw [asksB_len, HMI.out]; omega) W)
          rw [readAsks_back name is hnl (by rw [HMI.out]; omega) HIX.out] at HT2
          have HM2 := Lib.hid (fun W v (hv : SlAt W v is.length (cellsI is)) => asks_any name v (is.map Int.ofNat) W (by rw [List.length_map, ← cellsI_Z]; exact hv) (by rw [List.length_map, HMI.out]; omega) hnl)
          simp only [asksZ_nat name is HIX.out] at HM2
          have HX1 := Lib.hid (fun W va vb (ha : SlAt W va qs.length (cellsS qs)) (hb : SlAt W vb qs.length (cellsS qs)) => texts_any va vb qs W ha hb (by rw [HNQ.out]; omega))
          have HX2 := Lib.hid (fun W va vb (ha : SlAt W va is.length (cellsI is)) (hb : SlAt W vb is.length (cellsI is)) => ints_any va vb is W ha hb (by rw [HMI.out]; omega))
          have HT3 := Lib.hid (fun W => toMeta_any s (by omega) W)
          have HT4 := Lib.hid (fun W => toAsks_any s (by omega) W)
          have HB1 : Hid (∀ nm l, readMeta s = some (nm, l) → ∀ W v, SlAt W v l.length (cellsS l) → Calls Try.prog 15 #[.string ⟨nm.toArray⟩, v] W (Gives (.string ⟨s.toArray⟩) W)) := Lib.hid (fun nm l h W v hv => by
            obtain ⟨e1, e2, e3, e4⟩ := metaB_back s nm l h
            have := meta_any nm v l W hv (by omega) (by omega) (fun x hx => by have := e4 x hx; omega)
            rwa [e1] at this)
          have HB2 : Hid (∀ nm l, readAsks s = some (nm, l) → ∀ W v, SlAt W v l.length (cellsI l) → Calls Try.prog 17 #[.string ⟨nm.toArray⟩, v] W (Gives (.string ⟨s.toArray⟩) W)) := Lib.hid (fun nm l h W v hv => by
            obtain ⟨e1, e2, e3, e4⟩ := asksB_back s nm l h
            have := asks_any nm v (l.map Int.ofNat) W (by rw [List.length_map, ← cellsI_Z]; exact hv) (by rw [List.length_map]; omega) (by omega)
            rw [asksZ_nat nm l e4, e1] at this
            exact this)
          generalize metaB name qs = M1 at *
          generalize asksB name is = M2 at *
          generalize readMeta s = R1 at *
          generalize readAsks s = R2 at *
          clear hsum HSL HQX
          obtain ⟨i0, hi0, hz0, hz1, hz2⟩ := info_parts Try.infoInt
          go_wp2_with fail
          go_loopw [9, 47] (fun l i wr => ∃ k : Nat, k ≤ m ∧ i = .int .i64 k ∧ wr.ownsRow w.heap.size 3 1 l k (cellsI (is.take k)) ∧ Below w.heap.size w wr) (fun _ i _ => m - (intOf i).toNat)
          case atStart => exact ⟨0, Nat.zero_le _, rfl, World.ownsRow_nil _ _ _ _, b2⟩
          case round =>
            obtain ⟨k, hk, rfl, hown, hbw⟩ := hrel
            obtain ⟨al, cl, rfl⟩ := (SlAt.of_row hown).form
            clear b2
            by_cases hlt : k < m
            · have k1 : (k : Int) < (m : Int) := by omega
              have k0 : (0 : Int) ≤ (k : Int) := by omega
              obtain ⟨q, hq⟩ : ∃ q, is[k]? = some q := ⟨_, List.getElem?_eq_getElem (by rw [HMI.out]; exact hlt)⟩
              obtain ⟨b', o', rfl, A⟩ := HI.out.addr (cellsH_at is k q hq)
              have a0 := cell_keepS (A k _ (cellsH_at is k q hq)) hbw
              have hq6 := HIX.out q (List.mem_of_getElem? hq)
              have hwq : IntKind.i64.wrap (q : Int) = (q : Int) := by rw [IntKind.wrap_i64]; omega
              have HTK : Hid (is.take (k + 1) = is.take k ++ [q]) := Lib.hid (by rw [List.take_add_one, hq]; rfl)
              have htl : (is.take k).length = k := by rw [List.length_take, HMI.out]; omega
              have own2 := hown.alloc (.cells #[.int .i64 (q : Nat)] 3)
              have s3 := hbw.size
              clear hown A hq
              generalize is.take k = T at *
              go_wp2_with (at_builtin; refine wpList_append_own _ rfl _ _ 37 rfl w.heap.size 3 i0 (.int .i64 0) 1 8 Try.underlying37 hi0 hz0 hz1 hz2 rfl (by decide) _ _ _ rfl own2 ⟨wr.heap.size, 0, none⟩ 1 1 [.int .i64 (q : Nat)] rfl rfl ?c1 ?c2 ?c3 ?c4 ?c5 ?_)
              case c1 => exact World.news_of_block (heap_alloc_new wr _)
              case c2 => intro u hu; simp at hu; subst hu; rfl
              case c3 => unfold maxLen; omega
              case c4 => omega
              case c5 => simp; omega
              intro v' w4 hown' hgrow _
              have b4 := (hbw.alloc s3 (.cells #[.int .i64 (q : Nat)] 3)).grown hgrow (by simp; omega) (fun k hk => (own2.lt k hk).1)
              rw [show cellsI T ++ [.int .i64 (q : Nat)] = cellsI (T ++ [q]) by simp [cellsI], ← HTK.out] at hown'
              have HO := Lib.hid hown'
              clear hown' hgrow own2 hbw
              go_wp2
              go_roundw
              case rel => exact ⟨k + 1, by omega, by go_num, HO.out, b4⟩
              case measure => simp [intOf]; omega
            · obtain rfl : k = m := by omega
              have k1 : ¬ (k : Int) < (k : Int) := by omega
              rw [List.take_of_length_le (by rw [HMI.out]; exact Nat.le_refl _)] at hown
              have HL : Hid (SlAt wr (.slice al k cl) is.length (cellsI is)) := Lib.hid (by rw [HMI.out]; exact SlAt.of_row hown)
              have HQ2 : Hid (SlAt wr (.slice ad n cp) qs.length (cellsS qs)) := Lib.hid (by rw [HNQ.out]; exact HQ.out.below hbw)
              clear hown HI HQ hi0 hz0 hz1 hz2
              go_wp2_with fail
              refine (HM1.out _ hbw).mono ?_
              rintro e w3 ⟨rfl, hb3⟩
              have b3 := below_next hbw hb3
              go_wp2_with fail
              refine (HT1.out _).mono ?_
              rintro e w4 ⟨nm1, v1, l1, x1, rfl, o1, hb4, d1⟩
              obtain ⟨rfl, rfl, rfl⟩ : nm1 = name ∧ l1 = qs ∧ x1 = 0 := by rcases d1 with ⟨g1, _⟩ | ⟨g1, rfl⟩ <;> simp_all
              have hc := below_next hb3 hb4
              have b4 := below_next b3 hb4
              have HS1 := Lib.hid (SlAt.of_row o1)
              have HQ3 := Lib.hid (HQ2.out.below hc)
              have HL3 := Lib.hid (HL.out.below hc)
              clear HM1 HT1 d1 o1 hb3 hb4 b3 hbw hc HQ2 HL
              go_wp2_with fail
              refine (HM2.out _ _ HL3.out).mono ?_
              rintro e w5 ⟨rfl, hb5⟩
              have b5 := below_next b4 hb5
              go_wp2_with fail
              refine (HT2.out _).mono ?_
              rintro e w6 ⟨nm2, v2, l2, x2, rfl, o2, hb6, d2⟩
              obtain ⟨rfl, rfl, rfl⟩ : nm2 = nm1 ∧ l2 = is ∧ x2 = 0 := by rcases d2 with ⟨g1, _⟩ | ⟨g1, rfl⟩ <;> simp_all
              have hc := below_next hb5 hb6
              have b6 := below_next b5 hb6
              have HS2 := Lib.hid (SlAt.of_row o2)
              have HS3 := Lib.hid (HS1.out.below hc)
              have HQ4 := Lib.hid (HQ3.out.below hc)
              have HL4 := Lib.hid (HL3.out.below hc)
              clear HM2 HT2 d2 o2 hb5 hb6 b4 b5 hc HQ3 HL3 HS1
              go_wp2_with fail
              refine (HX1.out _ _ _ HS3.out HQ4.out).mono ?_
              rintro e w7 ⟨rfl, hb7⟩
              have b7 := below_next b6 hb7
              have HS4 := Lib.hid (HS2.out.below hb7)
              have HL5 := Lib.hid (HL4.out.below hb7)
              clear HX1 hb7 b6 HS2 HL4 HS3 HQ4
              go_wp2_with fail
              refine (HX2.out _ _ _ HS4.out HL5.out).mono ?_
              rintro e w8 ⟨rfl, hb8⟩
              have b8 := below_next b7 hb8
              clear HX2 hb8 b7 HS4 HL5
              go_wp2_with fail
              refine (HT3.out _).mono ?_
              rintro e w9 ⟨nm3, v3, l3, x3, rfl, o3, hb9, d3⟩
              have b9 := below_next b8 hb9
              have HS5 := Lib.hid (SlAt.of_row o3)
              clear hb9 b8 o3 HT3
              rcases d3 with ⟨_, rfl, rfl, rfl⟩ | ⟨g3, rfl⟩
              · go_wp2_with fail
                refine (HT4.out _).mono ?_
                rintro e w10 ⟨nm4, v4, l4, x4, rfl, o4, hb10, d4⟩
                have b10 := below_next b9 hb10
                have HS6 := Lib.hid (SlAt.of_row o4)
                clear hb10 b9 o4 HT4
                rcases d4 with ⟨_, rfl, rfl, rfl⟩ | ⟨g4, rfl⟩
                · go_wp2_with fail
                  refine (HA.out _).mono ?_
                  rintro e w11 ⟨rfl, hb11⟩
                  have b11 := below_next b10 hb11
                  clear b10 hb11
                  go_wp2
                  all_goals go_ret
                  all_goals exact ⟨by simp, b11⟩
                · have HG4 := Lib.hid g4
                  clear g4
                  go_wp2_with fail
                  refine (HB2.out _ _ HG4.out _ _ HS6.out).mono ?_
                  rintro e w11 ⟨rfl, hb11⟩
                  have b11 := below_next b10 hb11
                  clear b10 hb11
                  go_wp2_with fail
                  refine (HA.out _).mono ?_
                  rintro e w12 ⟨rfl, hb12⟩
                  have b12 := below_next b11 hb12
                  clear b11 hb12
                  go_wp2
                  all_goals go_ret
                  all_goals exact ⟨by simp, b12⟩
              · have HG := Lib.hid g3
                clear g3
                go_wp2_with fail
                refine (HB1.out _ _ HG.out _ _ HS5.out).mono ?_
                rintro e w9b ⟨rfl, hb9b⟩
                have b9b := below_next b9 hb9b
                clear b9 hb9b HG HS5 HB1
                go_wp2_with fail
                refine (HT4.out _).mono ?_
                rintro e w10 ⟨nm4, v4, l4, x4, rfl, o4, hb10, d4⟩
                have b10 := below_next b9b hb10
                have HS6 := Lib.hid (SlAt.of_row o4)
                clear hb10 b9b o4 HT4
                rcases d4 with ⟨_, rfl, rfl, rfl⟩ | ⟨g4, rfl⟩
                · go_wp2_with fail
                  refine (HA.out _).mono ?_
                  rintro e w11 ⟨rfl, hb11⟩
                  have b11 := below_next b10 hb11
                  clear b10 hb11
                  go_wp2
                  all_goals go_ret
                  all_goals exact ⟨by simp, b11⟩
                · have HG4 := Lib.hid g4
                  clear g4
                  go_wp2_with fail
                  refine (HB2.out _ _ HG4.out _ _ HS6.out).mono ?_
                  rintro e w11 ⟨rfl, hb11⟩
                  have b11 := below_next b10 hb11
                  clear b10 hb11
                  go_wp2_with fail
                  refine (HA.out _).mono ?_
                  rintro e w12 ⟨rfl, hb12⟩
                  have b12 := below_next b11 hb12
                  clear b11 hb12
                  go_wp2
                  all_goals go_ret
                  all_goals exact ⟨by simp, b12⟩
end Go.Proofs.Yteljplpiojdikaa
