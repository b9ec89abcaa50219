/- answered: an answer is taken off, and what is to be done of it is done. -/
import Derived.Test.YtcmgecojhjdjkaaHelGreet
import Derived.Test.YtcmgecojhjdjkaaHReadAns2
namespace Go.Proofs.Ytcmgecojhjdjkaa
open Go.RowKit

theorem takeO_rest (n : Nat) (s x r : List UInt8) (h : takeO n s = .ok x r) : r.length ≤ s.length := by
  unfold takeO at h
  split at h
  · cases h
  · cases h; simp
theorem fourO_rest (s : List UInt8) (x : Nat) (r : List UInt8) (h : fourO s = .ok x r) : r.length ≤ s.length := by
  unfold fourO at h
  split at h
  · cases h
  · cases h; simp
theorem dataO_rest (n : Nat) (s x r : List UInt8) (h : dataO n s = .ok x r) : r.length ≤ s.length := by
  unfold dataO at h
  cases h4 : fourO s with
  | thrown e => rw [h4] at h; cases h
  | ok m r1 =>
    rw [h4] at h
    dsimp only at h
    split at h
    · cases h
    · exact Nat.le_trans (takeO_rest _ _ _ _ h) (fourO_rest _ _ _ h4)
theorem headO_rest (hd s : List UInt8) (r : List UInt8) (h : headO hd s = .ok () r) : r.length ≤ s.length := by
  unfold headO at h
  split at h
  · cases h
  · cases h4 : takeO hd.length s with
    | thrown e => rw [h4] at h; cases h
    | ok m r1 => rw [h4] at h; cases h; exact takeO_rest _ _ _ _ h4
theorem readAns_rest (s : List UInt8) : (readAns s).2.1.length ≤ s.length := by
  unfold readAns
  cases h : readAnsO s with
  | thrown e => simp
  | ok x r =>
    dsimp only
    unfold readAnsO at h
    cases h1 : headO ansHead s with
    | thrown e => rw [h1] at h; cases h
    | ok u r1 =>
      rw [h1] at h
      dsimp only at h
      cases h2 : fourO r1 with
      | thrown e => rw [h2] at h; cases h
      | ok o r2 =>
        rw [h2] at h
        dsimp only at h
        cases h3 : fourO r2 with
        | thrown e => rw [h3] at h; cases h
        | ok k r3 =>
          rw [h3] at h
          dsimp only at h
          cases h4 : dataO 4096 r3 with
          | thrown e => rw [h4] at h; cases h
          | ok d r4 =>
            rw [h4] at h
            cases h
            have a1 := headO_rest _ _ _ h1
            have a2 := fourO_rest _ _ _ h2
            have a3 := fourO_rest _ _ _ h3
            have a4 := dataO_rest _ _ _ _ h4
            omega

section
variable (W0 : World) (b : Nat) (K : Held) (w : World) (h : Hel) (out : List UInt8) (ao ak : Nat) (ad : List UInt8)

set_option maxRecDepth 100000 in
set_option maxHeartbeats 2000000 in
theorem answered_any (f : Nat) (F : Hel → Nat → List UInt8 → Hel × List UInt8) (kind : Nat) (ki : Int) (hki : ki = kind) (hfs : f = 21 ∨ f = 22 ∨ f = 23) (hbuf : h.buf.length ≤ 9223372036854775807)
    (hf : ∀ W, Wrk W0 b K W { h with buf := (readAns h.buf).2.1 } out (readAns h.buf).1.1 (readAns h.buf).1.2.1 (readAns h.buf).1.2.2 →
      Calls Try.prog f #[.pointer (some ⟨b, 0, none⟩)] W (MEnds W0 b K (F { h with buf := (readAns h.buf).2.1 } (readAns h.buf).1.2.1 (readAns h.buf).1.2.2).1 (out ++ (F { h with buf := (readAns h.buf).2.1 } (readAns h.buf).1.2.1 (readAns h.buf).1.2.2).2) (readAns h.buf).1.1 (readAns h.buf).1.2.1 (readAns h.buf).1.2.2))
    (hw : Wrk W0 b K w h out ao ak ad) :
    Calls Try.prog 20 #[.pointer (some ⟨b, 0, none⟩), .int .u32 ki, .func (.func f) #[.pointer (some ⟨b, 0, none⟩)] #[]] w (StepEnds W0 b K h out (h.answered kind F)) := by
  subst hki
  have HA := Lib.hid (fun W => opt_answer_read_any h.buf hbuf W)
  have HR : Hid (h.answered kind F = if (readAns h.buf).2.2 = 22 then none else if (readAns h.buf).2.2 ≠ 0 ∨ (readAns h.buf).1.1 ≠ kind then some (h.die, []) else some (F { h with buf := (readAns h.buf).2.1 } (readAns h.buf).1.2.1 (readAns h.buf).1.2.2)) := Lib.hid rfl
  have HF := Lib.hid hf
  clear hf
  unfold ansV at HA
  obtain ⟨⟨⟨o, k, d⟩, r, x⟩, hx⟩ : ∃ x, readAns h.buf = x := ⟨_, rfl⟩
  rw [hx] at HA HR HF
  clear hx
  dsimp only at HA HR HF
  generalize F { h with buf := r } k d = Fr at HR HF
  generalize h.answered kind F = R at HR ⊢
  obtain ⟨a1, q1, a2, q2, p, a3, q3, h1, h2⟩ := hw.open_
  have c1 := h1.cell 1
  have hbl := h1.lt
  have HW := Lib.hid hw
  clear hw h1 h2
  unfold wrkC at c1
  simp only [List.getElem?_toArray, List.getElem?_cons_zero, List.getElem?_cons_succ] at c1
  go_enter Try.func20, Try.ntmps20
  go_wp2_with fail
  refine (HA.out _).mono ?_
  rintro e w1 ⟨rfl, hb1⟩
  have hw1 := HW.out.below hb1
  have hbl1 := Nat.lt_of_lt_of_le hbl hb1.size
  have hw2 := hw1.alloc (.cells #[.int .u32 o, .int .u32 k, .string ⟨d.toArray⟩] 41)
  have hG := Blk.new w1 41 #[.int .u32 o, .int .u32 k, .string ⟨d.toArray⟩]
  have hne : b ≠ w1.heap.size := Nat.ne_of_lt hbl1
  clear hb1 hw1 c1 HW hbl hbl1 HA
  go_upto_region 4 with fail
  generalize w1.heap.size = G at hG hne ⊢
  generalize w1.alloc (.cells #[.int .u32 o, .int .u32 k, .string ⟨d.toArray⟩] 41) = w2 at hG hw2 ⊢
  have HW2 := Lib.hid hw2
  have g0 := hG.cell 0
  have g1 := hG.cell 1
  have g2 := hG.cell 2
  simp only [List.getElem?_toArray, List.getElem?_cons_zero, List.getElem?_cons_succ] at g0 g1 g2
  clear hw2 hG
  by_cases hx1 : x = 22
  · have e1 : (x == 22) = true := by simp [hx1]
    have HX := Lib.hid (show R = none by rw [HR.out, if_pos hx1])
    clear HR HF hx1
    go_wp2
    go_ret
    exact ⟨ao, ak, ad, .inl ⟨HX.out, rfl, HW2.out⟩⟩
  · have e1 : (x == 22) = false := by simp [hx1]
    by_cases hx2 : x ≠ 0 ∨ o ≠ kind
    · have HX := Lib.hid (show R = some (h.die, []) by rw [HR.out, if_neg hx1, if_pos hx2])
      have HD := Lib.hid (die_any W0 b K w2 h out ao ak ad HW2.out)
      clear HR HF hx1 HW2
      have e2 : (x != 0) = true ∨ ((x != 0) = false ∧ (x == 0) = true ∧ ((o : Int) != (kind : Int)) = true ∧ ((o : Int) == (kind : Int)) = false) := by
        by_cases hx3 : x = 0
        · right
          have : o ≠ kind := hx2.resolve_left (by simp [hx3])
          have h3 : (o : Int) ≠ (kind : Int) := by omega
          simp [hx3, h3]
        · left; simp [hx3]
      rcases e2 with e2 | ⟨e2, e3, e4, e5⟩
      all_goals
        go_wp2_with fail
        refine HD.out.mono ?_
        rintro e w5 ⟨rfl, hw5⟩
        go_wp2
        go_ret
        exact ⟨ao, ak, ad, .inr ⟨_, _, HX.out, rfl, by rw [List.append_nil]; exact hw5⟩⟩
    · have HX := Lib.hid (show R = some Fr by rw [HR.out, if_neg hx1, if_neg hx2])
      simp only [not_or, ne_eq, Decidable.not_not] at hx2
      obtain ⟨rfl, rfl⟩ := hx2
      clear HR hx1 e1
      obtain ⟨a1, q1, a2, q2, p, a3, q3, h1, h2⟩ := HW2.out.open_
      have c1 := h1.cell 1
      have c10 := h1.cell 10
      have c11 := h1.cell 11
      have c12 := h1.cell 12
      have f1 := h1.frozen 1
      have f10 := h1.frozen 10
      have f11 := h1.frozen 11
      have f12 := h1.frozen 12
      have H1 := Lib.hid h1
      have H2 := Lib.hid h2
      clear h1 h2
      unfold wrkC at c1 c10 c11 c12
      simp only [List.getElem?_toArray, List.getElem?_cons_zero, List.getElem?_cons_succ] at c1 c10 c11 c12
      have HN : Hid (∀ W, W = ((((w2.setCell ⟨b, 10, none⟩ (.int .u32 o)).setCell ⟨b, 11, none⟩ (.int .u32 k)).setCell ⟨b, 12, none⟩ (.string ⟨d.toArray⟩)).setCell ⟨b, 1, none⟩ (.string ⟨r.toArray⟩)) → Wrk W0 b K W { h with buf := r } out o k d) := Lib.hid (by
        rintro W rfl
        exact ⟨_, _, _, _, ((((H1.out.set_ 10 _).set_ 11 _).set_ 12 _).set_ 1 _).as_ (by simp [wrkC]), (((H2.out.set_ 10 _).set_ 11 _).set_ 12 _).set_ 1 _⟩)
      clear H1 H2 HW2
      rcases hfs with rfl | rfl | rfl
      all_goals
        go_wp2_with fail
        refine (HF.out _ (HN.out _ rfl)).mono ?_
        rintro e w5 ⟨rfl, hw5⟩
        go_wp2
        go_ret
        exact ⟨o, k, d, .inr ⟨_, _, HX.out, rfl, hw5⟩⟩
end
end Go.Proofs.Ytcmgecojhjdjkaa
