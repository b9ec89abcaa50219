/- What is read off a text is read off it with anything behind: plain laws, no program. -/
import Derived.Test.YteljplpiojdikaaOptSpec
namespace Go.Proofs.Yteljplpiojdikaa

/-- More behind it changes nothing but what is left. -/
def Mono {α : Type} (f : List UInt8 → Out α) : Prop :=
  ∀ s t : List UInt8, (∀ x r, f s = .ok x r → f (s ++ t) = .ok x (r ++ t)) ∧ (∀ e, f s = .thrown e → e ≠ 22 → f (s ++ t) = .thrown e)

theorem mono_take (n : Nat) : Mono (takeO n) := by
  intro s t
  unfold takeO
  by_cases h : s.length < n
  · rw [if_pos h]
    refine ⟨fun x r hx => (by cases hx), fun e he h2 => ?_⟩
    cases he
    exact absurd rfl h2
  · rw [if_neg h, if_neg (by rw [List.length_append]; omega)]
    refine ⟨fun x r hx => ?_, fun e he => (by cases he)⟩
    cases hx
    rw [List.take_append_of_le_length (by omega), List.drop_append_of_le_length (by omega)]
theorem mono_four : Mono fourO := by
  intro s t
  unfold fourO
  by_cases h : s.length < 4
  · rw [if_pos h]
    refine ⟨fun x r hx => (by cases hx), fun e he h2 => ?_⟩
    cases he
    exact absurd rfl h2
  · rw [if_neg h, if_neg (by rw [List.length_append]; omega)]
    refine ⟨fun x r hx => ?_, fun e he => (by cases he)⟩
    cases hx
    rw [List.take_append_of_le_length (by omega), List.drop_append_of_le_length (by omega)]
theorem mono_data (m : Nat) : Mono (dataO m) := by
  intro s t
  have h := mono_four s t
  unfold dataO
  cases hf : fourO s with
  | thrown e =>
    refine ⟨fun x r hx => (by cases hx), fun e' he h2 => ?_⟩
    cases he
    rw [h.2 e hf h2]
  | ok n r =>
    rw [h.1 n r hf]
    dsimp only
    by_cases hm : m < n
    · rw [if_pos hm, if_pos hm]
      exact ⟨fun x r hx => (by cases hx), fun e' he _ => he⟩
    · rw [if_neg hm, if_neg hm]
      exact mono_take n r t
theorem mono_head (h : List UInt8) : Mono (headO h) := by
  intro s t
  unfold headO
  by_cases hp : s.take (min h.length s.length) ≠ h.take (min h.length s.length)
  · rw [if_pos hp]
    refine ⟨fun x r hx => (by cases hx), fun e he _ => ?_⟩
    cases he
    rw [if_pos]
    intro e
    apply hp
    have e2 := congrArg (fun l => l.take (min h.length s.length)) e
    simp only [List.take_take] at e2
    rw [show min (min h.length s.length) (min h.length (s ++ t).length) = min h.length s.length by rw [List.length_append]; omega, List.take_append_of_le_length (by omega)] at e2
    exact e2
  · rw [if_neg hp]
    have h2 := mono_take h.length s t
    cases hf : takeO h.length s with
    | thrown e =>
      refine ⟨fun x r hx => (by cases hx), fun e' he h3 => ?_⟩
      cases he
      have h4 := h2.2 e hf h3
      unfold takeO at hf
      by_cases hl : s.length < h.length
      · rw [if_pos hl] at hf; cases hf; exact absurd rfl h3
      · rw [if_neg hl] at hf; cases hf
    | ok x r =>
      have h4 := h2.1 x r hf
      have hl : h.length ≤ s.length := by
        unfold takeO at hf
        by_cases hl : s.length < h.length
        · rw [if_pos hl] at hf; cases hf
        · omega
      have hp2 : ¬ ((s ++ t).take (min h.length (s ++ t).length) ≠ h.take (min h.length (s ++ t).length)) := by
        rw [show min h.length (s ++ t).length = min h.length s.length by rw [List.length_append]; omega, List.take_append_of_le_length (by omega)]
        exact hp
      rw [if_neg hp2, h4]
      refine ⟨fun y r' hx => ?_, fun e he => (by cases he)⟩
      cases hx
      rfl
theorem mono_ans : Mono readAnsO := by
  intro s t
  have h0 := mono_head ansHead s t
  unfold readAnsO
  cases hf0 : headO ansHead s with
  | thrown e =>
    refine ⟨fun x r hx => (by cases hx), fun e' he h2 => ?_⟩
    cases he
    rw [h0.2 e hf0 h2]
  | ok u r0 =>
    rw [h0.1 u r0 hf0]
    dsimp only
    have h1 := mono_four r0 t
    cases hf1 : fourO r0 with
    | thrown e =>
      refine ⟨fun x r hx => (by cases hx), fun e' he h2 => ?_⟩
      cases he
      rw [h1.2 e hf1 h2]
    | ok o r1 =>
      rw [h1.1 o r1 hf1]
      dsimp only
      have h2 := mono_four r1 t
      cases hf2 : fourO r1 with
      | thrown e =>
        refine ⟨fun x r hx => (by cases hx), fun e' he h3 => ?_⟩
        cases he
        rw [h2.2 e hf2 h3]
      | ok k r2 =>
        rw [h2.1 k r2 hf2]
        dsimp only
        have h3 := mono_data 4096 r2 t
        cases hf3 : dataO 4096 r2 with
        | thrown e =>
          refine ⟨fun x r hx => (by cases hx), fun e' he h4 => ?_⟩
          cases he
          rw [h3.2 e hf3 h4]
        | ok d r3 =>
          rw [h3.1 d r3 hf3]
          refine ⟨fun y r' hx => ?_, fun e he => (by cases he)⟩
          cases hx
          rfl

/-- What is thrown is an error. -/
def Throws {α : Type} (f : List UInt8 → Out α) : Prop := ∀ (s : List UInt8) (e : Int), f s = .thrown e → e ≠ 0
theorem throws_take (n : Nat) : Throws (takeO n) := by
  intro s e h
  unfold takeO at h
  split at h <;> cases h
  decide
theorem throws_four : Throws fourO := by
  intro s e h
  unfold fourO at h
  split at h <;> cases h
  decide
theorem throws_data (m : Nat) : Throws (dataO m) := by
  intro s e h
  unfold dataO at h
  cases hf : fourO s with
  | thrown e1 => rw [hf] at h; cases h; exact throws_four s _ hf
  | ok n r =>
    rw [hf] at h
    dsimp only at h
    by_cases hm : m < n
    · rw [if_pos hm] at h; cases h; decide
    · rw [if_neg hm] at h; exact throws_take n r e h
theorem throws_head (hd : List UInt8) : Throws (headO hd) := by
  intro s e h
  unfold headO at h
  by_cases hp : s.take (min hd.length s.length) ≠ hd.take (min hd.length s.length)
  · rw [if_pos hp] at h; cases h; decide
  · rw [if_neg hp] at h
    cases hf : takeO hd.length s with
    | thrown e1 => rw [hf] at h; cases h; exact throws_take _ s _ hf
    | ok x r => rw [hf] at h; cases h
theorem throws_ans : Throws readAnsO := by
  intro s e h
  unfold readAnsO at h
  cases hf0 : headO ansHead s with
  | thrown e1 => rw [hf0] at h; cases h; exact throws_head _ s _ hf0
  | ok u r0 =>
    rw [hf0] at h
    dsimp only at h
    cases hf1 : fourO r0 with
    | thrown e1 => rw [hf1] at h; cases h; exact throws_four r0 _ hf1
    | ok o r1 =>
      rw [hf1] at h
      dsimp only at h
      cases hf2 : fourO r1 with
      | thrown e1 => rw [hf2] at h; cases h; exact throws_four r1 _ hf2
      | ok k r2 =>
        rw [hf2] at h
        dsimp only at h
        cases hf3 : dataO 4096 r2 with
        | thrown e1 => rw [hf3] at h; cases h; exact throws_data _ r2 _ hf3
        | ok d r3 => rw [hf3] at h; cases h

theorem readAns_more (s t : List UInt8) (h : (readAns s).2.2 ≠ 22) : (readAns (s ++ t)).2.2 = (readAns s).2.2 ∧ ((readAns s).2.2 = 0 → readAns (s ++ t) = ((readAns s).1, (readAns s).2.1 ++ t, 0)) := by
  have m := mono_ans s t
  cases hf : readAnsO s with
  | thrown e =>
    have e1 : readAns s = ((0, 0, []), [], e) := by unfold readAns; rw [hf]
    rw [e1] at h ⊢
    have e2 : readAns (s ++ t) = ((0, 0, []), [], e) := by unfold readAns; rw [m.2 e hf h]
    rw [e2]
    refine ⟨rfl, fun h0 => ?_⟩
    exact absurd h0 (throws_ans s e hf)
  | ok x r =>
    have e1 : readAns s = (x, r, 0) := by unfold readAns; rw [hf]
    have e2 : readAns (s ++ t) = (x, r ++ t, 0) := by unfold readAns; rw [m.1 x r hf]
    rw [e1, e2]
    exact ⟨rfl, fun _ => rfl⟩

end Go.Proofs.Yteljplpiojdikaa
