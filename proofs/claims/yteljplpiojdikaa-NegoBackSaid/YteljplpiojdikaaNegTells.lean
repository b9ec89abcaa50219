/- NegoTells, the walk. -/
import Derived.Test.YteljplpiojdikaaNegTexts
import Derived.Test.YteljplpiojdikaaNegAwake
import Derived.Test.YteljplpiojdikaaRowSized
namespace Go.Proofs.Yteljplpiojdikaa
open Go.RowKit

theorem readBegs_len : ∀ (n : Nat) (s : List UInt8) (l : List (List UInt8)) (r : List UInt8), readBegs n s = some (l, r) → l.length = n := by
  intro n
  induction n with
  | zero =>
    intro s l r h
    simp only [readBegs, Option.some.injEq, Prod.mk.injEq] at h
    rw [← h.1]
    rfl
  | succ n ih =>
    intro s l r h
    rw [readBegs] at h
    cases h1 : readBegO s with
    | thrown e => rw [h1] at h; simp at h
    | ok q r1 =>
      rw [h1] at h
      dsimp only at h
      cases h2 : readBegs n r1 with
      | none => rw [h2] at h; simp at h
      | some x =>
        rw [h2] at h
        obtain ⟨l2, r2⟩ := x
        simp only [Option.some.injEq, Prod.mk.injEq] at h
        have := ih r1 l2 r2 h2
        rw [← h.1, List.length_cons, this]
theorem readMeta_some (s nm : List UInt8) (l : List (List UInt8)) (h : readMeta s = some (nm, l)) : ∃ r, readBegO s = .ok nm r ∧ 4 ≤ r.length ∧ de (r.take 4) ≤ 1000 ∧ readBegs (de (r.take 4)) (r.drop 4) = some (l, []) := by
  unfold readMeta at h
  cases h1 : readBegO s with
  | thrown e => rw [h1] at h; simp at h
  | ok q r =>
    rw [h1] at h
    dsimp only at h
    by_cases hc : r.length < 4 ∨ 1000 < de (r.take 4)
    · rw [if_pos hc] at h; simp at h
    · rw [if_neg hc] at h
      cases h2 : readBegs (de (r.take 4)) (r.drop 4) with
      | none => rw [h2] at h; simp at h
      | some x =>
        rw [h2] at h
        obtain ⟨l2, r2⟩ := x
        dsimp only at h
        by_cases hr : r2 = []
        · rw [if_pos hr] at h
          simp only [Option.some.injEq, Prod.mk.injEq] at h
          obtain ⟨rfl, rfl⟩ := h
          exact ⟨r, rfl, by omega, by omega, by rw [hr] at h2; exact h2⟩
        · rw [if_neg hr] at h; simp at h
theorem readMeta_len (s nm : List UInt8) (l : List (List UInt8)) (h : readMeta s = some (nm, l)) : l.length ≤ 1000 := by
  obtain ⟨r, _, _, h3, h4⟩ := readMeta_some s nm l h
  have := readBegs_len _ _ _ _ h4
  omega
theorem readAsks_some (s nm : List UInt8) (l : List Nat) (h : readAsks s = some (nm, l)) : ∃ r, readBegO s = .ok nm r ∧ 2 ≤ r.length ∧ (r.drop 2).length = 2 * de (r.take 2) ∧ l = pairs (r.drop 2) := by
  unfold readAsks at h
  cases h1 : readBegO s with
  | thrown e => rw [h1] at h; simp at h
  | ok q r =>
    rw [h1] at h
    dsimp only at h
    by_cases hc : r.length < 2 ∨ (r.drop 2).length ≠ 2 * de (r.take 2)
    · rw [if_pos hc] at h; simp at h
    · rw [if_neg hc] at h
      simp only [Option.some.injEq, Prod.mk.injEq] at h
      obtain ⟨rfl, rfl⟩ := h
      exact ⟨r, rfl, by omega, by omega, rfl⟩
theorem readAsks_len (s nm : List UInt8) (l : List Nat) (h : readAsks s = some (nm, l)) : l.length ≤ 65536 := by
  obtain ⟨r, _, h2, h3, rfl⟩ := readAsks_some s nm l h
  have hlt := de_lt (r.take 2)
  rw [show (r.take 2).length = 2 by rw [List.length_take]; omega] at hlt
  rw [(pairs_at _ _ h3).1]
  omega
theorem sumL_two (a b : List UInt8) (h : sumL [a, b] 2 ≤ 20000) : a.length ≤ 20000 ∧ b.length ≤ 20000 := by
  simp [sumL] at h
  omega
set_option maxRecDepth 100000 in
set_option maxHeartbeats 4000000 in
theorem negoTells_any (name : List UInt8) (vq : Value) (qs : List (List UInt8)) (vi : Value) (is : List Int) (s : List UInt8) (w : World) (hq : SlAt w vq qs.length (cellsS qs)) (hi : SlAt w vi is.length (cellsZ is))
    (hn : name.length ≤ 9223372036854775807) (hs : s.length ≤ 9223372036854775807) (hql : qs.length ≤ 9223372036854775807) (hqx : ∀ x ∈ qs, x.length ≤ 9223372036854775807) :
    Calls Try.prog 4 #[.string ⟨name.toArray⟩, vq, vi, .string ⟨s.toArray⟩] w (Gives (.bool true) w) := by
  have mixed : Try.prog.follows .mixedOrders = true := by kernel_rfl
  have HA := Lib.hid awake_any
  have HS := Lib.hid (fun W v (hv : SlAt W v 2 (cellsS [name, s])) => short_any v [name, s] W hv (show (2 : Nat) ≤ _ by decide) (by simp; exact ⟨hn, hs⟩))
  have HSQ := Lib.hid (fun W (hb : Below w.heap.size w W) => short_any vq qs W (hq.below hb) hql hqx)
  have HQ := Lib.hid hq
  have HI := Lib.hid hi
  obtain ⟨ad, cp, rfl⟩ := hq.form
  obtain ⟨ai, ci, rfl⟩ := hi.form
  clear hq hi hqx
  obtain ⟨n, hnq⟩ : ∃ n, qs.length = n := ⟨_, rfl⟩
  obtain ⟨m, hmi⟩ : ∃ m, is.length = m := ⟨_, rfl⟩
  have HNQ := Lib.hid hnq
  have HMI := Lib.hid hmi
  rw [hnq] at hql HQ HSQ ⊢
  rw [hmi] at HI ⊢
  clear hnq hmi
  go_enter Try.func4, Try.ntmps4
  go_wp2_with fail
  have hb1 : Below w.heap.size w (w.alloc (.cells #[.string ⟨name.toArray⟩, .string ⟨s.toArray⟩] 9)) := by (repeat' (first | (with_reducible assumption) | (with_reducible exact Below.refl _ _) | (with_reducible refine below_drewN ?_ _) | (with_reducible refine Below.drew ?_) | (with_reducible refine Below.setCell ?_ ?_ _) | (with_reducible refine Below.alloc ?_ ?_ _) | (with_reducible refine below_putObj ?_ ?_ _) | (with_reducible exact Nat.le_refl _) | omega | (simp; done) | (simp; omega)))
  refine (HS.out _ _ (.inr ⟨⟨w.heap.size, 0, none⟩, 2, rfl, .inr rfl, ?cs⟩)).mono ?_
  case cs =>
    intro j u hu
    have h2 := (Blk.new w 9 #[.string ⟨name.toArray⟩, .string ⟨s.toArray⟩]).cell j
    rw [Addr.add_lit, Nat.zero_add, h2]
    simpa [cellsS] using hu
  rintro e w1 ⟨r, rfl, hr, hb2⟩
  have HR := Lib.hid hr
  have b1 := below_next hb1 hb2
  clear hr hb1 hb2
  cases r with
  | false =>
    go_wp2_with fail
    refine (HA.out _).mono ?_
    rintro e w2 ⟨rfl, hb2⟩
    have b2 := below_next b1 hb2
    go_wp2
    go_ret
    exact ⟨rfl, b2⟩
  | true =>
    obtain ⟨hnl, hsl⟩ := sumL_two name s (HR.out (by trivial))
    clear HR HS hn hs
    go_wp2_with fail
    refine (HSQ.out _ b1).mono ?_
    rintro e w2 ⟨r, rfl, hr, hb2⟩
    have HR := Lib.hid hr
    have b2 := below_next b1 hb2
    clear hr hb2 b1
    cases r with
    | false =>
      go_wp2_with fail
      refine (HA.out _).mono ?_
      rintro e w3 ⟨rfl, hb3⟩
      have b3 := below_next b2 hb3
      go_wp2
      go_ret
      exact ⟨rfl, b3⟩
    | true =>
      have HQX := Lib.hid (sumL_each qs 20000 (by rw [HNQ.out]; exact HR.out (by trivial)))
      clear HR HSQ
      by_cases hqn : 2000 < n
      · have hqn2 : (2000 : Int) < (n : Int) := by omega
        go_wp2_with fail
        refine (HA.out _).mono ?_
        rintro e w3 ⟨rfl, hb3⟩
        have b3 := below_next b2 hb3
        go_wp2
        go_ret
        exact ⟨rfl, b3⟩
      · have hqn2 : ¬ (2000 : Int) < (n : Int) := by omega
        by_cases hin : 2000 < m
        · have hin2 : (2000 : Int) < (m : Int) := by omega
          go_wp2_with fail
          refine (HA.out _).mono ?_
          rintro e w3 ⟨rfl, hb3⟩
          have b3 := below_next b2 hb3
          go_wp2
          go_ret
          exact ⟨rfl, b3⟩
        · have hin2 : ¬ (2000 : Int) < (m : Int) := by omega
          have HM1 := Lib.hid (fun W (hb : Below w.heap.size w W) => meta_any name (.slice ad n cp) qs W (by rw [HNQ.out]; exact HQ.out.below hb) (by rw [HNQ.out]; omega) hnl HQX.out)
          have HM2 := Lib.hid (fun W (hb : Below w.heap.size w W) => rmeta_any name (.slice ad n cp) qs W (by rw [HNQ.out]; exact HQ.out.below hb) (by rw [HNQ.out]; omega) hnl HQX.out)
          have HM3 := Lib.hid (fun W (hb : Below w.heap.size w W) => asks_any name (.slice ai m ci) is W (by rw [HMI.out]; exact HI.out.below hb) (by rw [HMI.out]; omega) hnl)
          have HM4 := Lib.hid (fun W (hb : Below w.heap.size w W) => rasks_any name (.slice ai m ci) is W (by rw [HMI.out]; exact HI.out.below hb) (by rw [HMI.out]; omega) hnl)
          have HT1 := Lib.hid (fun W => toMeta_any s (by omega) W)
          have HT2 := Lib.hid (fun W => rtoMeta_any s (by omega) W)
          have HT3 := Lib.hid (fun W => toAsks_any s (by omega) W)
          have HT4 := Lib.hid (fun W => rtoAsks_any s (by omega) W)
          have HX1 := Lib.hid texts_any
          have HX2 := Lib.hid ints_any
          have HL1 := Lib.hid (readMeta_len s)
          have HL2 := Lib.hid (readAsks_len s)
          generalize metaB name qs = M1 at *
          generalize asksZ name is = M2 at *
          generalize readMeta s = R1 at *
          generalize readAsks s = R2 at *
          clear HQX HNQ HMI HQ HI
          go_wp2_with fail
          refine (HT1.out _).mono ?_
          rintro e w3 ⟨nm1, v1, l1, x1, rfl, o1, hb3, d1⟩
          have b3 := below_next b2 hb3
          have HO1 := Lib.hid o1
          clear b2 hb3 o1 HT1
          go_wp2_with fail
          refine (HT2.out _).mono ?_
          rintro e w4 ⟨nm2, v2, l2, x2, rfl, o2, hb4, d2⟩
          obtain ⟨rfl, rfl, rfl⟩ : nm2 = nm1 ∧ l2 = l1 ∧ x2 = x1 := by
            rcases d1 with ⟨g1, rfl, rfl, rfl⟩ | ⟨g1, rfl⟩ <;> rcases d2 with ⟨g2, rfl, rfl, rfl⟩ | ⟨g2, rfl⟩ <;> simp_all
          have b4 := below_next b3 hb4
          have HS1 := Lib.hid ((SlAt.of_row HO1.out).below hb4)
          have HS2 := Lib.hid (SlAt.of_row o2)
          clear b3 hb4 o2 HO1 d2 HT2
          go_wp2_with fail
          refine (HT3.out _).mono ?_
          rintro e w5 ⟨nm3, v3, l3, x3, rfl, o3, hb5, d3⟩
          have b5 := below_next b4 hb5
          have HO3 := Lib.hid o3
          have HS11 := Lib.hid (HS1.out.below hb5)
          have HS22 := Lib.hid (HS2.out.below hb5)
          clear b4 hb5 o3 HT3 HS1 HS2
          go_wp2_with fail
          refine (HT4.out _).mono ?_
          rintro e w6 ⟨nm4, v4, l4, x4, rfl, o4, hb6, d4⟩
          obtain ⟨rfl, rfl, rfl⟩ : nm4 = nm3 ∧ l4 = l3 ∧ x4 = x3 := by
            rcases d3 with ⟨g1, rfl, rfl, rfl⟩ | ⟨g1, rfl⟩ <;> rcases d4 with ⟨g2, rfl, rfl, rfl⟩ | ⟨g2, rfl⟩ <;> simp_all
          have hll2 : l2.length ≤ 1000000000 := by
            rcases d1 with ⟨_, _, rfl, _⟩ | ⟨g1, _⟩
            · simp
            · have := HL1.out _ _ g1; omega
          have hll4 : l4.length ≤ 1000000000 := by
            rcases d3 with ⟨_, _, rfl, _⟩ | ⟨g1, _⟩
            · simp
            · have := HL2.out _ _ g1; omega
          have b6 := below_next b5 hb6
          have HS3 := Lib.hid ((SlAt.of_row HO3.out).below hb6)
          have HS4 := Lib.hid (SlAt.of_row o4)
          have HS1 := Lib.hid (HS11.out.below hb6)
          have HS2 := Lib.hid (HS22.out.below hb6)
          clear b5 hb6 o4 HO3 d3 d4 HT4 d1 HS11 HS22
          go_wp2_with fail
          refine (HM1.out _ b6).mono ?_
          rintro e w7 ⟨rfl, hb7⟩
          have b7 := below_next b6 hb7
          have hc := hb7
          clear b6 hb7
          go_wp2_with fail
          refine (HM2.out _ b7).mono ?_
          rintro e w8 ⟨rfl, hb8⟩
          have b8 := below_next b7 hb8
          have hc := below_next hc hb8
          clear b7 hb8
          go_wp2_with fail
          refine (HM3.out _ b8).mono ?_
          rintro e w9 ⟨rfl, hb9⟩
          have b9 := below_next b8 hb9
          have hc := below_next hc hb9
          clear b8 hb9
          go_wp2_with fail
          refine (HM4.out _ b9).mono ?_
          rintro e w10 ⟨rfl, hb10⟩
          have b10 := below_next b9 hb10
          have hc := below_next hc hb10
          have T1 := HS1.out.below hc
          have T2 := HS2.out.below hc
          have T3 := Lib.hid (HS3.out.below hc)
          have T4 := Lib.hid (HS4.out.below hc)
          clear b9 hb10 hc HS1 HS2 HS3 HS4
          have T1 := Lib.hid T1
          have T2 := Lib.hid T2
          go_wp2_with fail
          refine (HX1.out _ _ _ _ T1.out T2.out hll2).mono ?_
          rintro e w11 ⟨rfl, hb11⟩
          have b11 := below_next b10 hb11
          have T5 := Lib.hid (T3.out.below hb11)
          have T6 := Lib.hid (T4.out.below hb11)
          clear b10 hb11 T1 T2 T3 T4
          go_wp2_with fail
          refine (HX2.out _ _ _ _ T5.out T6.out hll4).mono ?_
          rintro e w12 ⟨rfl, hb12⟩
          have b12 := below_next b11 hb12
          clear b11 hb12 T5 T6
          go_wp2_with fail
          refine (HA.out _).mono ?_
          rintro e w13 ⟨rfl, hb13⟩
          have b13 := below_next b12 hb13
          clear b12 hb13
          go_wp2
          all_goals go_ret
          all_goals exact ⟨by simp, b13⟩
end Go.Proofs.Yteljplpiojdikaa
