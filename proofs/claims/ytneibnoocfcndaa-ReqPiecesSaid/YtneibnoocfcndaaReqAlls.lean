/- Requests one behind the other: what is read off, in plain words; no program. -/
import Derived.Test.YtneibnoocfcndaaReqLaw
namespace Go.Proofs.Ytneibnoocfcndaa

/-- What All reads off a text: the requests, what is left, the error at which it ended (0 where nothing is left). -/
inductive Alls : List UInt8 → List Req → List UInt8 → Int → Prop
  | nil : Alls [] [] [] 0
  | stop {s : List UInt8} {x : Req} {r : List UInt8} {e : Int} (h : s ≠ []) (hr : readReq s = (x, r, e)) (he : e ≠ 0) : Alls s [] s e
  | more {s : List UInt8} {q : Req} {r : List UInt8} {l : List Req} {t : List UInt8} {e : Int} (h : s ≠ []) (hr : readReq s = (q, r, 0)) (ha : Alls r l t e) : Alls s (q :: l) t e

theorem alls_cases {s : List UInt8} {l : List Req} {t : List UInt8} {e : Int} (h : Alls s l t e) :
    (s = [] ∧ l = [] ∧ t = [] ∧ e = 0) ∨ (∃ x r, s ≠ [] ∧ l = [] ∧ t = s ∧ readReq s = (x, r, e) ∧ e ≠ 0) ∨ (∃ q r l', s ≠ [] ∧ l = q :: l' ∧ readReq s = (q, r, 0) ∧ Alls r l' t e) := by
  cases h with
  | nil => exact .inl ⟨rfl, rfl, rfl, rfl⟩
  | stop h hr he => exact .inr (.inl ⟨_, _, h, rfl, rfl, hr, he⟩)
  | more h hr ha => exact .inr (.inr ⟨_, _, _, h, rfl, hr, ha⟩)

theorem alls_more {s : List UInt8} {q : Req} {r : List UInt8} {l : List Req} {t : List UInt8} {e : Int} (h : Alls s (q :: l) t e) (hr : readReq s = (q, r, 0)) : Alls r l t e := by
  cases h with
  | more h2 hr2 ha =>
    rw [hr] at hr2
    simp only [Prod.mk.injEq] at hr2
    rw [hr2.2.1]
    exact ha

theorem alls_any (n : Nat) : ∀ s : List UInt8, s.length ≤ n → ∃ l t e, Alls s l t e := by
  induction n with
  | zero =>
    intro s h
    obtain rfl : s = [] := List.length_eq_zero_iff.1 (by omega)
    exact ⟨_, _, _, Alls.nil⟩
  | succ n ih =>
    intro s h
    by_cases hs : s = []
    · subst hs
      exact ⟨_, _, _, Alls.nil⟩
    · cases hr : readReq s with
      | mk q re =>
        obtain ⟨r, e⟩ := re
        by_cases he : e = 0
        · subst he
          obtain ⟨_, _, _, hl⟩ := req_read s q r hr
          obtain ⟨l, t, e, ha⟩ := ih r (by omega)
          exact ⟨_, _, _, .more hs hr ha⟩
        · exact ⟨_, _, _, .stop hs hr he⟩

theorem alls_exists (s : List UInt8) : ∃ l t e, Alls s l t e := alls_any s.length s (Nat.le_refl _)

/-- What is read is fit, and short enough. -/
theorem alls_len {s : List UInt8} {l : List Req} {t : List UInt8} {e : Int} (h : Alls s l t e) : l.length * 28 + t.length ≤ s.length := by
  induction h with
  | nil => simp
  | stop => simp
  | more h hr ha ih =>
    obtain ⟨_, _, _, hl⟩ := req_read _ _ _ hr
    simp only [List.length_cons]
    omega

theorem readReq_more (s t : List UInt8) (q : Req) (r : List UInt8) (h : readReq s = (q, r, 0)) : readReq (s ++ t) = (q, r ++ t, 0) := by
  obtain ⟨h1, h2, h3, _⟩ := req_read s q r h
  have := req_back q h2 h1 (r ++ t)
  rwa [← List.append_assoc, h3] at this

theorem take_min (s t : List UInt8) (h : s.take (min s.length 4) ≠ reqHead.take (min s.length 4)) : (s ++ t).take (min (s ++ t).length 4) ≠ reqHead.take (min (s ++ t).length 4) := by
  intro e
  apply h
  have e2 := congrArg (fun l => l.take (min s.length 4)) e
  simp only [List.take_take] at e2
  have hm : min (min s.length 4) (min (s ++ t).length 4) = min s.length 4 := by rw [List.length_append]; omega
  rw [hm, List.take_append_of_le_length (by omega)] at e2
  exact e2

theorem readReq_err (s t : List UInt8) (q : Req) (r : List UInt8) (e : Int) (h : readReq s = (q, r, e)) (h0 : e ≠ 0) (h22 : e ≠ 22) : readReq (s ++ t) = (.zero, [], e) := by
  unfold readReq at h
  by_cases c1 : s.take (min s.length 4) ≠ reqHead.take (min s.length 4)
  · rw [if_pos c1] at h
    simp only [Prod.mk.injEq] at h
    unfold readReq
    rw [if_pos (take_min s t c1), ← h.2.2]
  · rw [if_neg c1] at h
    by_cases c2 : s.length < 28
    · rw [if_pos c2] at h
      simp only [Prod.mk.injEq] at h
      exact absurd h.2.2.symm h22
    · rw [if_neg c2] at h
      by_cases c3 : num s 6 2 ≠ 1
      · rw [if_pos c3] at h
        simp only [Prod.mk.injEq] at h
        exact absurd h.2.2.symm h0
      · rw [if_neg c3] at h
        by_cases c4 : 4096 < num s 24 4
        · rw [if_pos c4] at h
          simp only [Prod.mk.injEq] at h
          have c1' : s.take 4 = reqHead.take 4 := by
            have := Classical.not_not.1 c1
            rwa [show min s.length 4 = 4 by omega] at this
          unfold readReq
          rw [if_neg, if_neg (by rw [List.length_append]; omega), num_append _ _ _ _ (by omega), if_neg c3, num_append _ _ _ _ (by omega), if_pos c4, ← h.2.2]
          rw [show min (s ++ t).length 4 = 4 by rw [List.length_append]; omega, List.take_append_of_le_length (by omega), c1']
          simp
        · rw [if_neg c4] at h
          by_cases c5 : s.length - 28 < num s 24 4
          · rw [if_pos c5] at h
            simp only [Prod.mk.injEq] at h
            exact absurd h.2.2.symm h22
          · rw [if_neg c5] at h
            simp only [Prod.mk.injEq] at h
            exact absurd h.2.2.symm h0

theorem zero_ne {e : Int} (h : e ≠ 0) : (if e = 22 then 0 else e : Int) = 0 ↔ e = 22 := by
  by_cases h2 : e = 22
  · simp [h2]
  · simp [h2, h]

/-- PIECES: whole, and then more. -/
theorem alls_pieces {s : List UInt8} {l : List Req} {t : List UInt8} {e : Int} (h : Alls s l t e) (m : List UInt8) (he : e = 0 ∨ e = 22) {l2 : List Req} {t2 : List UInt8} {e2 : Int} (h2 : Alls (t ++ m) l2 t2 e2) :
    Alls (s ++ m) (l ++ l2) t2 e2 := by
  induction h with
  | nil => exact h2
  | stop => exact h2
  | more h hr ha ih => exact .more (by simp [h]) (readReq_more _ m _ _ hr) (ih he h2)

/-- PIECES: what is no request stays none. -/
theorem alls_bad {s : List UInt8} {l : List Req} {t : List UInt8} {e : Int} (h : Alls s l t e) (m : List UInt8) (h0 : e ≠ 0) (h22 : e ≠ 22) : Alls (s ++ m) l (t ++ m) e := by
  induction h with
  | nil => exact absurd rfl h0
  | stop h hr he => exact .stop (by simp [h]) (readReq_err _ m _ _ _ hr h0 h22) he
  | more h hr ha ih => exact .more (by simp [h]) (readReq_more _ m _ _ hr) (ih h0 h22)

/-- Two requests. -/
theorem alls_two (a b : Req) (ha : a.wf) (hb : b.wf) (fa : a.fit = true) (fb : b.fit = true) : Alls (reqBytes a ++ reqBytes b) [a, b] [] 0 := by
  have hla := reqBytes_length a
  have hlb := reqBytes_length b
  have e1 := req_back a ha fa (reqBytes b)
  have e2 := req_back b hb fb []
  rw [List.append_nil] at e2
  refine .more ?_ e1 (.more ?_ e2 .nil)
  · intro h
    have := congrArg List.length h
    simp only [List.length_append, List.length_nil] at this
    omega
  · intro h
    have := congrArg List.length h
    simp only [List.length_nil] at this
    omega

end Go.Proofs.Ytneibnoocfcndaa
