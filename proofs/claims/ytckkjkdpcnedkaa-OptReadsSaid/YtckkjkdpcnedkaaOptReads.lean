/- OptReads, the walk. -/
import Derived.Test.YtckkjkdpcnedkaaOptAwake
import Derived.Test.YtckkjkdpcnedkaaReadAns2
import Derived.Test.YtckkjkdpcnedkaaOptRefR
import Derived.Test.YtckkjkdpcnedkaaOptRefW
namespace Go.Proofs.Ytckkjkdpcnedkaa
open Go.RowKit

/-- A head is not there. -/
theorem headO_not (h s : List UInt8) (e : s.take (min h.length s.length) ≠ h.take (min h.length s.length)) : headO h s = .thrown 14 := by
  unfold headO
  rw [if_pos e]
theorem headO_less (h s : List UInt8) (e : s.take (min h.length s.length) = h.take (min h.length s.length)) (hl : s.length < h.length) : headO h s = .thrown 22 := by
  unfold headO takeO
  rw [if_neg (by simpa using e), if_pos hl]
theorem headO_is (h s : List UInt8) (e : s.take (min h.length s.length) = h.take (min h.length s.length)) (hl : ¬ s.length < h.length) : headO h s = .ok () (s.drop h.length) := by
  unfold headO takeO
  rw [if_neg (by simpa using e), if_neg hl]
theorem fourO_less (s : List UInt8) (h : s.length < 4) : fourO s = .thrown 22 := by unfold fourO; rw [if_pos h]
theorem fourO_is (s : List UInt8) (h : ¬ s.length < 4) : fourO s = .ok (de (s.take 4)) (s.drop 4) := by unfold fourO; rw [if_neg h]

theorem readOpt_not (s : List UInt8) (e : s.take (min optHead.length s.length) ≠ optHead.take (min optHead.length s.length)) : readOpt s = ((0, []), [], 14) := by
  unfold readOpt readOptO
  rw [headO_not _ _ e]
theorem readOpt_less (s : List UInt8) (e : s.take (min optHead.length s.length) = optHead.take (min optHead.length s.length)) (hl : s.length < 16) : readOpt s = ((0, []), [], 22) := by
  have h8 : optHead.length = 8 := rfl
  unfold readOpt readOptO
  by_cases h1 : s.length < optHead.length
  · rw [headO_less _ _ e h1]
  · rw [headO_is _ _ e h1, h8]
    dsimp only
    by_cases h2 : (s.drop 8).length < 4
    · rw [fourO_less _ h2]
    · rw [fourO_is _ h2]
      dsimp only
      unfold dataO
      rw [fourO_less _ (by simp only [List.length_drop] at h2 ⊢; omega)]
theorem readOpt_is (s : List UInt8) (sz k : Nat) (R : List UInt8) (e : s.take (min optHead.length s.length) = optHead.take (min optHead.length s.length)) (hl : 16 ≤ s.length)
    (hsz : sz = de (((s.drop 8).drop 4).take 4)) (hk : k = de ((s.drop 8).take 4)) (hR : R = (s.drop 8).drop 8) :
    readOpt s = if 4096 < sz then ((0, []), [], 11) else if R.length < sz then ((0, []), [], 22) else ((k, R.take sz), R.drop sz, 0) := by
  have h8 : optHead.length = 8 := rfl
  unfold readOpt readOptO
  rw [headO_is _ _ e (by omega), h8]
  dsimp only
  rw [fourO_is _ (by rw [List.length_drop]; omega)]
  dsimp only
  unfold dataO
  rw [fourO_is _ (by simp only [List.length_drop]; omega)]
  dsimp only
  rw [← hsz, ← hk, List.drop_drop, List.drop_drop, show 8 + 4 + 4 = 8 + 8 by rfl, ← List.drop_drop, ← hR]
  by_cases h1 : 4096 < sz
  · rw [if_pos h1, if_pos h1]
  · rw [if_neg h1, if_neg h1]
    unfold takeO
    by_cases h2 : R.length < sz
    · rw [if_pos h2, if_pos h2]
    · rw [if_neg h2, if_neg h2]

theorem readAns_not (s : List UInt8) (e : s.take (min ansHead.length s.length) ≠ ansHead.take (min ansHead.length s.length)) : readAns s = ((0, 0, []), [], 14) := by
  unfold readAns readAnsO
  rw [headO_not _ _ e]
theorem readAns_less (s : List UInt8) (e : s.take (min ansHead.length s.length) = ansHead.take (min ansHead.length s.length)) (hl : s.length < 20) : readAns s = ((0, 0, []), [], 22) := by
  have h8 : ansHead.length = 8 := rfl
  unfold readAns readAnsO
  by_cases h1 : s.length < ansHead.length
  · rw [headO_less _ _ e h1]
  · rw [headO_is _ _ e h1, h8]
    dsimp only
    by_cases h2 : (s.drop 8).length < 4
    · rw [fourO_less _ h2]
    · rw [fourO_is _ h2]
      dsimp only
      by_cases h3 : ((s.drop 8).drop 4).length < 4
      · rw [fourO_less _ h3]
      · rw [fourO_is _ h3]
        dsimp only
        unfold dataO
        rw [fourO_less _ (by simp only [List.length_drop] at h3 ⊢; omega)]
theorem readAns_is (s : List UInt8) (sz o k : Nat) (R : List UInt8) (e : s.take (min ansHead.length s.length) = ansHead.take (min ansHead.length s.length)) (hl : 20 ≤ s.length)
    (hsz : sz = de (((s.drop 8).drop 8).take 4)) (ho : o = de ((s.drop 8).take 4)) (hk : k = de (((s.drop 8).drop 4).take 4)) (hR : R = (s.drop 8).drop 12) :
    readAns s = if 4096 < sz then ((0, 0, []), [], 11) else if R.length < sz then ((0, 0, []), [], 22) else ((o, k, R.take sz), R.drop sz, 0) := by
  have h8 : ansHead.length = 8 := rfl
  unfold readAns readAnsO
  rw [headO_is _ _ e (by omega), h8]
  dsimp only
  rw [fourO_is _ (by rw [List.length_drop]; omega)]
  dsimp only
  rw [fourO_is _ (by simp only [List.length_drop]; omega)]
  dsimp only
  unfold dataO
  rw [fourO_is _ (by simp only [List.length_drop]; omega)]
  dsimp only
  rw [← ho, ← hk]
  simp only [List.drop_drop] at hsz hR ⊢
  rw [← hsz, ← hR]
  by_cases h1 : 4096 < sz
  · rw [if_pos h1, if_pos h1]
  · rw [if_neg h1, if_neg h1]
    unfold takeO
    by_cases h2 : R.length < sz
    · rw [if_pos h2, if_pos h2]
    · rw [if_neg h2, if_neg h2]

theorem de4_lt (l : List UInt8) : de (l.take 4) < 4294967296 := by
  have h := de_lt (l.take 4)
  have h2 : (l.take 4).length ≤ 4 := by rw [List.length_take]; omega
  have h3 : 256 ^ (l.take 4).length ≤ 256 ^ 4 := Nat.pow_le_pow_right (by decide) h2
  omega

theorem rread_any (s : List UInt8) (hs : s.length ≤ 20000) (w : World) :
    Calls Try.prog 18 #[.string ⟨s.toArray⟩] w (Gives (.tuple #[optV (readOpt s).1, .string ⟨(readOpt s).2.1.toArray⟩, .int .i64 (readOpt s).2.2]) w) := by
  by_cases e : s.take (min optHead.length s.length) = optHead.take (min optHead.length s.length)
  case neg =>
    rw [readOpt_not s e]
    exact rread_err s 14 (by decide) (fun W => taken_form s optHead 2 hs rfl e W) w
  by_cases hl : s.length < 16
  case pos =>
    rw [readOpt_less s e hl]
    exact rread_err s 22 (by decide) (fun W => taken_short s optHead 2 hs rfl (by omega) e (by omega) W) w
  rw [readOpt_is s _ _ _ e (by omega) rfl rfl rfl]
  have H := fun W Q => taken_rest s optHead 2 hs rfl (by omega) (by omega) e (by omega) _ _ rfl rfl W Q
  simp only [show 4 * (2 - 1) = 4 by rfl, show 4 * 2 = 8 by rfl] at H
  by_cases h1 : 4096 < de (((s.drop 8).drop 4).take 4)
  · rw [if_pos h1]
    exact rread_err s 11 (by decide) (fun W => H W _ (.inl ⟨h1, fun _ _ h => h⟩)) w
  · rw [if_neg h1]
    by_cases h2 : ((s.drop 8).drop 8).length < de (((s.drop 8).drop 4).take 4)
    · rw [if_pos h2]
      exact rread_err s 22 (by decide) (fun W => H W _ (.inr (.inl ⟨by omega, h2, fun _ _ h => h⟩))) w
    · rw [if_neg h2]
      exact rread_ok s (s.drop 8) _ _ _ (de4_lt _) rfl (fun W => H W _ (.inr (.inr ⟨by omega, by omega, fun _ _ h => h⟩))) w

theorem rtoans_any (s : List UInt8) (hs : s.length ≤ 20000) (w : World) :
    Calls Try.prog 20 #[.string ⟨s.toArray⟩] w (Gives (.tuple #[ansV (readAns s).1, .string ⟨(readAns s).2.1.toArray⟩, .int .i64 (readAns s).2.2]) w) := by
  by_cases e : s.take (min ansHead.length s.length) = ansHead.take (min ansHead.length s.length)
  case neg =>
    rw [readAns_not s e]
    exact rtoans_err s 14 (by decide) (fun W => taken_form s ansHead 3 hs rfl e W) w
  by_cases hl : s.length < 20
  case pos =>
    rw [readAns_less s e hl]
    exact rtoans_err s 22 (by decide) (fun W => taken_short s ansHead 3 hs rfl (by omega) e (by omega) W) w
  rw [readAns_is s _ _ _ _ e (by omega) rfl rfl rfl rfl]
  have H := fun W Q => taken_rest s ansHead 3 hs rfl (by omega) (by omega) e (by omega) _ _ rfl rfl W Q
  simp only [show 4 * (3 - 1) = 8 by rfl, show 4 * 3 = 12 by rfl] at H
  by_cases h1 : 4096 < de (((s.drop 8).drop 8).take 4)
  · rw [if_pos h1]
    exact rtoans_err s 11 (by decide) (fun W => H W _ (.inl ⟨h1, fun _ _ h => h⟩)) w
  · rw [if_neg h1]
    by_cases h2 : ((s.drop 8).drop 12).length < de (((s.drop 8).drop 8).take 4)
    · rw [if_pos h2]
      exact rtoans_err s 22 (by decide) (fun W => H W _ (.inr (.inl ⟨by omega, h2, fun _ _ h => h⟩))) w
    · rw [if_neg h2]
      exact rtoans_ok s (s.drop 8) _ _ _ _ (de4_lt _) (de4_lt _) rfl rfl (fun W => H W _ (.inr (.inr ⟨by omega, by omega, fun _ _ h => h⟩))) w

set_option maxRecDepth 100000 in
set_option maxHeartbeats 400000 in
theorem optReads_long (k : Nat) (d : List UInt8) (a1 a2 : Nat) (ad s : List UInt8) (hg : 10000 < d.length ∨ (d.length ≤ 10000 ∧ 10000 < ad.length) ∨ (d.length ≤ 10000 ∧ ad.length ≤ 10000 ∧ 20000 < s.length)) (w : World) :
    Calls Try.prog 4 #[.agg #[.int .u32 k, .string ⟨d.toArray⟩], .agg #[.int .u32 a1, .int .u32 a2, .string ⟨ad.toArray⟩], .string ⟨s.toArray⟩] w (Gives (.bool true) w) := by
  have HA := Lib.hid awake_any
  have b0 := ((Below.refl _ w).alloc (Nat.le_refl _) (.cells #[.int .u32 k, .string ⟨d.toArray⟩] 32)).alloc (by simp) (.cells #[.int .u32 a1, .int .u32 a2, .string ⟨ad.toArray⟩] 34)
  rcases hg with h1 | ⟨h1, h2⟩ | ⟨h1, h2, h3⟩
  all_goals
    go_enter Try.func4, Try.ntmps4
    go_wp2_with fail
    refine (HA.out _).mono ?_
    rintro e w1 ⟨rfl, hb1⟩
    have b1 := below_next b0 hb1
    go_wp2
    go_ret
    exact ⟨rfl, b1⟩

set_option maxRecDepth 100000 in
set_option maxHeartbeats 4000000 in
theorem optReads_walk (k : Nat) (d : List UInt8) (a1 a2 : Nat) (ad s : List UInt8) (hk : k < 4294967296) (ha1 : a1 < 4294967296) (ha2 : a2 < 4294967296) (hd : d.length ≤ 10000) (had : ad.length ≤ 10000) (hs : s.length ≤ 20000) (X Y A3 A4 O2 O3 : List UInt8) (x y g h : Int) (A1 A2 O1 : Nat)
    (hx : framed optHead [k] d = (X, x)) (hy : framed ansHead [a1, a2] ad = (Y, y)) (hra : readAns s = ((A1, A2, A3), A4, g)) (hro : readOpt s = ((O1, O2), O3, h)) (w : World) :
    Calls Try.prog 4 #[.agg #[.int .u32 k, .string ⟨d.toArray⟩], .agg #[.int .u32 a1, .int .u32 a2, .string ⟨ad.toArray⟩], .string ⟨s.toArray⟩] w (Gives (.bool true) w) := by
  have h1 := opt_write_any k d hk
  have h1r := rwrite_any k d hk
  have h2 := answer_any a1 a2 ad ha1 ha2
  have h2r := ranswer_any a1 a2 ad ha1 ha2
  rw [hx] at h1 h1r
  rw [hy] at h2 h2r
  dsimp only at h1 h2 h1r h2r
  have h3 := opt_answer_read_any s (by omega)
  have h3r := rtoans_any s hs
  rw [hra] at h3 h3r
  have h4 := opt_read_any s (by omega)
  have h4r := rread_any s hs
  rw [hro] at h4 h4r
  have h6 := greeting_any
  have h6r := rgreeting
  generalize greeting = G at h6 h6r
  unfold optV at h4 h4r
  unfold ansV at h3 h3r
  dsimp only at h3 h3r h4 h4r
  have H1 := Lib.hid h1
  have H1r := Lib.hid h1r
  have H2 := Lib.hid h2
  have H2r := Lib.hid h2r
  have H3 := Lib.hid h3
  have H3r := Lib.hid h3r
  have H4 := Lib.hid h4
  have H4r := Lib.hid h4r
  have H6 := Lib.hid h6
  have H6r := Lib.hid h6r
  have HA := Lib.hid awake_any
  clear h1 h2 h3 h4 h6 h1r h2r h3r h4r h6r hx hy hra hro
  have mixed : Try.prog.follows .mixedOrders = true := by kernel_rfl
  go_enter Try.func4, Try.ntmps4
  go_wp2_with fail
  refine at_world fun W0 hW0 => ?_
  have p0 : Blk W0 w.heap.size 32 #[.int .u32 k, .string ⟨d.toArray⟩] := by rw [hW0]; exact (Blk.new w _ _).alloc _
  have q0 : Blk W0 (w.heap.size + 1) 34 #[.int .u32 a1, .int .u32 a2, .string ⟨ad.toArray⟩] := by rw [hW0]; exact Blk.newAt (by simp)
  have b0 : Below w.heap.size w W0 := by rw [hW0]; (repeat' (first | (with_reducible assumption) | (with_reducible exact Below.refl _ _) | (with_reducible refine below_drewN ?_ _) | (with_reducible refine Below.drew ?_) | (with_reducible refine Below.setCell ?_ ?_ _) | (with_reducible refine Below.alloc ?_ ?_ _) | (with_reducible refine below_putObj ?_ ?_ _) | (with_reducible exact Nat.le_refl _) | omega | (simp; done) | (simp; omega)))
  clear hW0
  refine (H1.out _).mono ?_
  rintro e w1 ⟨rfl, hb1⟩
  have p1 := p0.below hb1 p0.lt
  have q1 := q0.below hb1 q0.lt
  have b1 := below_next b0 hb1
  clear hb1 H1 p0 q0 b0
  have c0 := p1.cell 0
  have c1 := p1.cell 1
  have c2 := q1.cell 0
  have c3 := q1.cell 1
  have c4 := q1.cell 2
  simp only [List.getElem?_toArray, List.getElem?_cons_zero, List.getElem?_cons_succ] at c0 c1 c2 c3 c4
  go_wp2_with fail
  refine (H1r.out _).mono ?_
  rintro e w2 ⟨rfl, hb2⟩
  have q2 := q1.below hb2 q1.lt
  have b2 := below_next b1 hb2
  clear hb2 H1r p1 q1 b1 c0 c1 c2 c3 c4
  have c2 := q2.cell 0
  have c3 := q2.cell 1
  have c4 := q2.cell 2
  simp only [List.getElem?_toArray, List.getElem?_cons_zero, List.getElem?_cons_succ] at c2 c3 c4
  go_wp2_with fail
  refine (H2.out _).mono ?_
  rintro e w3 ⟨rfl, hb3⟩
  have q3 := q2.below hb3 q2.lt
  have b3 := below_next b2 hb3
  clear hb3 H2 q2 b2 c2 c3 c4
  have c2 := q3.cell 0
  have c3 := q3.cell 1
  have c4 := q3.cell 2
  simp only [List.getElem?_toArray, List.getElem?_cons_zero, List.getElem?_cons_succ] at c2 c3 c4
  go_wp2_with fail
  refine (H2r.out _).mono ?_
  rintro e w4 ⟨rfl, hb4⟩
  have b4 := below_next b3 hb4
  clear hb4 H2r q3 b3 c2 c3 c4
  go_wp2_with fail
  refine (H4.out _).mono ?_
  rintro e w5 ⟨rfl, hb5⟩
  have b5 := below_next b4 hb5
  have s5 := b5.size
  clear hb5 H4 b4
  go_wp2_with fail
  refine at_world fun W6 hW6 => ?_
  have p6 : Blk W6 w5.heap.size 32 #[.int .u32 O1, .string ⟨O2.toArray⟩] := by
    rw [hW6]; exact Blk.new w5 _ _
  have b6 : Below w.heap.size w W6 := by rw [hW6]; (repeat' (first | (with_reducible assumption) | (with_reducible exact Below.refl _ _) | (with_reducible refine below_drewN ?_ _) | (with_reducible refine Below.drew ?_) | (with_reducible refine Below.setCell ?_ ?_ _) | (with_reducible refine Below.alloc ?_ ?_ _) | (with_reducible refine below_putObj ?_ ?_ _) | (with_reducible exact Nat.le_refl _) | omega | (simp; done) | (simp; omega)))
  clear hW6 b5 s5
  refine (H4r.out _).mono ?_
  rintro e w7 ⟨rfl, hb7⟩
  have p7 := p6.below hb7 p6.lt
  have b7 := below_next b6 hb7
  have s7 := b7.size
  clear hb7 H4r b6 p6
  go_wp2_with fail
  refine at_world fun W8 hW8 => ?_
  have p8 : Blk W8 w5.heap.size 32 #[.int .u32 O1, .string ⟨O2.toArray⟩] := by
    rw [hW8]; exact p7.alloc _
  have r8 : Blk W8 w7.heap.size 32 #[.int .u32 O1, .string ⟨O2.toArray⟩] := by
    rw [hW8]; exact Blk.new w7 _ _
  have b8 : Below w.heap.size w W8 := by rw [hW8]; (repeat' (first | (with_reducible assumption) | (with_reducible exact Below.refl _ _) | (with_reducible refine below_drewN ?_ _) | (with_reducible refine Below.drew ?_) | (with_reducible refine Below.setCell ?_ ?_ _) | (with_reducible refine Below.alloc ?_ ?_ _) | (with_reducible refine below_putObj ?_ ?_ _) | (with_reducible exact Nat.le_refl _) | omega | (simp; done) | (simp; omega)))
  clear hW8 b7 s7 p7
  refine (H3.out _).mono ?_
  rintro e w9 ⟨rfl, hb9⟩
  have p9 := p8.below hb9 p8.lt
  have r9 := r8.below hb9 r8.lt
  have b9 := below_next b8 hb9
  have s9 := b9.size
  clear hb9 H3 b8 p8 r8
  go_wp2_with fail
  refine at_world fun Wa hWa => ?_
  have pa : Blk Wa w5.heap.size 32 #[.int .u32 O1, .string ⟨O2.toArray⟩] := by
    rw [hWa]; exact p9.alloc _
  have ra : Blk Wa w7.heap.size 32 #[.int .u32 O1, .string ⟨O2.toArray⟩] := by
    rw [hWa]; exact r9.alloc _
  have ta : Blk Wa w9.heap.size 34 #[.int .u32 A1, .int .u32 A2, .string ⟨A3.toArray⟩] := by
    rw [hWa]; exact Blk.new w9 _ _
  have ba : Below w.heap.size w Wa := by rw [hWa]; (repeat' (first | (with_reducible assumption) | (with_reducible exact Below.refl _ _) | (with_reducible refine below_drewN ?_ _) | (with_reducible refine Below.drew ?_) | (with_reducible refine Below.setCell ?_ ?_ _) | (with_reducible refine Below.alloc ?_ ?_ _) | (with_reducible refine below_putObj ?_ ?_ _) | (with_reducible exact Nat.le_refl _) | omega | (simp; done) | (simp; omega)))
  clear hWa b9 s9 p9 r9
  refine (H3r.out _).mono ?_
  rintro e wb ⟨rfl, hbb⟩
  have pb := pa.below hbb pa.lt
  have rb := ra.below hbb ra.lt
  have tb := ta.below hbb ta.lt
  have bb := below_next ba hbb
  have sb := bb.size
  clear hbb H3r ba pa ra ta
  go_wp2_with fail
  refine at_world fun Wc hWc => ?_
  have pc : Blk Wc w5.heap.size 32 #[.int .u32 O1, .string ⟨O2.toArray⟩] := by
    rw [hWc]; exact pb.alloc _
  have rc : Blk Wc w7.heap.size 32 #[.int .u32 O1, .string ⟨O2.toArray⟩] := by
    rw [hWc]; exact rb.alloc _
  have tc : Blk Wc w9.heap.size 34 #[.int .u32 A1, .int .u32 A2, .string ⟨A3.toArray⟩] := by
    rw [hWc]; exact tb.alloc _
  have uc : Blk Wc wb.heap.size 34 #[.int .u32 A1, .int .u32 A2, .string ⟨A3.toArray⟩] := by
    rw [hWc]; exact Blk.new wb _ _
  have bc : Below w.heap.size w Wc := by rw [hWc]; (repeat' (first | (with_reducible assumption) | (with_reducible exact Below.refl _ _) | (with_reducible refine below_drewN ?_ _) | (with_reducible refine Below.drew ?_) | (with_reducible refine Below.setCell ?_ ?_ _) | (with_reducible refine Below.alloc ?_ ?_ _) | (with_reducible refine below_putObj ?_ ?_ _) | (with_reducible exact Nat.le_refl _) | omega | (simp; done) | (simp; omega)))
  clear hWc bb sb pb rb tb
  refine (H6.out _).mono ?_
  rintro e wd ⟨rfl, hbd⟩
  have pd := pc.below hbd pc.lt
  have rd := rc.below hbd rc.lt
  have td := tc.below hbd tc.lt
  have ud := uc.below hbd uc.lt
  have bd := below_next bc hbd
  clear hbd H6 bc pc rc tc uc
  go_wp2_with fail
  refine (H6r.out _).mono ?_
  rintro e we ⟨rfl, hbe⟩
  have pe := pd.below hbe pd.lt
  have re := rd.below hbe rd.lt
  have te := td.below hbe td.lt
  have ue := ud.below hbe ud.lt
  have be' := below_next bd hbe
  clear hbe H6r bd pd rd td ud
  have c0 := pe.cell 0
  have c1 := pe.cell 1
  have d0 := re.cell 0
  have d1 := re.cell 1
  have e0 := te.cell 0
  have e1 := te.cell 1
  have e2 := te.cell 2
  have f0 := ue.cell 0
  have f1 := ue.cell 1
  have f2 := ue.cell 2
  simp only [List.getElem?_toArray, List.getElem?_cons_zero, List.getElem?_cons_succ] at c0 c1 d0 d1 e0 e1 e2 f0 f1 f2
  clear pe re te ue
  go_wp2_with fail
  refine (HA.out _).mono ?_
  rintro e wf ⟨rfl, hbf⟩
  have bf := below_next be' hbf
  clear hbf HA be' c0 c1 d0 d1 e0 e1 e2 f0 f1 f2
  go_wp2
  go_ret
  exact ⟨rfl, bf⟩

theorem optReads_any (q : Nat × List UInt8) (hq : q.1 < 4294967296) (a : Nat × Nat × List UInt8) (ha1 : a.1 < 4294967296) (ha2 : a.2.1 < 4294967296) (s : List UInt8) (w : World) :
    Calls Try.prog 4 #[optV q, ansV a, .string ⟨s.toArray⟩] w (Gives (.bool true) w) := by
  obtain ⟨k, d⟩ := q
  obtain ⟨a1, a2, ad⟩ := a
  dsimp only at hq ha1 ha2
  by_cases hg : d.length ≤ 10000 ∧ ad.length ≤ 10000 ∧ s.length ≤ 20000
  case neg => exact optReads_long k d a1 a2 ad s (by omega) w
  exact optReads_walk k d a1 a2 ad s hq ha1 ha2 hg.1 hg.2.1 hg.2.2 _ _ _ _ _ _ _ _ _ _ _ _ _ rfl rfl rfl rfl w

end Go.Proofs.Ytckkjkdpcnedkaa
