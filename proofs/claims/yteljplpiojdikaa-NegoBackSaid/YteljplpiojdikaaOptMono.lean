/- What is read off as an option is read off it with anything behind; how much is taken off. -/
import Derived.Test.YteljplpiojdikaaAnsMono
namespace Go.Proofs.Yteljplpiojdikaa

theorem mono_opt : Mono readOptO := by
  intro s t
  unfold readOptO
  cases hf0 : headO optHead s with
  | thrown e =>
    refine ⟨fun x r hx => (by cases hx), fun e' he h2 => ?_⟩
    cases he
    rw [(mono_head optHead s t).2 e hf0 h2]
  | ok u r0 =>
    rw [(mono_head optHead s t).1 u r0 hf0]
    dsimp only
    cases hf1 : fourO r0 with
    | thrown e =>
      refine ⟨fun x r hx => (by cases hx), fun e' he h2 => ?_⟩
      cases he
      rw [(mono_four r0 t).2 e hf1 h2]
    | ok k r1 =>
      rw [(mono_four r0 t).1 k r1 hf1]
      dsimp only
      cases hf2 : dataO 4096 r1 with
      | thrown e =>
        refine ⟨fun x r hx => (by cases hx), fun e' he h2 => ?_⟩
        cases he
        rw [(mono_data 4096 r1 t).2 e hf2 h2]
      | ok d r2 =>
        rw [(mono_data 4096 r1 t).1 d r2 hf2]
        refine ⟨fun x r hx => ?_, fun e' he h2 => (by cases he)⟩
        cases hx
        rfl
theorem throws_opt : Throws readOptO := by
  intro s e h
  unfold readOptO at h
  cases hf0 : headO optHead s with
  | thrown e1 => rw [hf0] at h; cases h; exact throws_head _ s _ hf0
  | ok u r0 =>
    rw [hf0] at h
    dsimp only at h
    cases hf2 : fourO r0 with
    | thrown e1 => rw [hf2] at h; cases h; exact throws_four r0 _ hf2
    | ok k r2 =>
      rw [hf2] at h
      dsimp only at h
      cases hf3 : dataO 4096 r2 with
      | thrown e1 => rw [hf3] at h; cases h; exact throws_data _ r2 _ hf3
      | ok d r3 => rw [hf3] at h; cases h
theorem readOpt_more (s t : List UInt8) (h : (readOpt s).2.2 ≠ 22) : (readOpt (s ++ t)).2.2 = (readOpt s).2.2 ∧ ((readOpt s).2.2 = 0 → readOpt (s ++ t) = ((readOpt s).1, (readOpt s).2.1 ++ t, 0)) := by
  have m := mono_opt s t
  cases hf : readOptO s with
  | thrown e =>
    have e1 : readOpt s = ((0, []), [], e) := by unfold readOpt; rw [hf]
    rw [e1] at h ⊢
    have e2 : readOpt (s ++ t) = ((0, []), [], e) := by unfold readOpt; rw [m.2 e hf h]
    rw [e2]
    refine ⟨rfl, fun h0 => ?_⟩
    exact absurd h0 (throws_opt s e hf)
  | ok x r =>
    have e1 : readOpt s = (x, r, 0) := by unfold readOpt; rw [hf]
    have e2 : readOpt (s ++ t) = (x, r ++ t, 0) := by unfold readOpt; rw [m.1 x r hf]
    rw [e1, e2]
    exact ⟨rfl, fun _ => rfl⟩

theorem takeO_len (n : Nat) (s x r : List UInt8) (h : takeO n s = .ok x r) : x.length + r.length = s.length ∧ x.length = n := by
  unfold takeO at h
  split at h
  · cases h
  · cases h; simp; omega
theorem fourO_len (s : List UInt8) (x : Nat) (r : List UInt8) (h : fourO s = .ok x r) : 4 + r.length = s.length ∧ x < 4294967296 := by
  unfold fourO at h
  split at h
  · cases h
  · cases h
    have := de_lt (s.take 4)
    have hl : (s.take 4).length = 4 := by rw [List.length_take]; omega
    rw [hl] at this
    simp; omega
theorem dataO_len (n : Nat) (s x r : List UInt8) (h : dataO n s = .ok x r) : 4 + x.length + r.length = s.length ∧ x.length ≤ n := by
  unfold dataO at h
  cases h4 : fourO s with
  | thrown e => rw [h4] at h; cases h
  | ok m r1 =>
    rw [h4] at h
    dsimp only at h
    split at h
    · cases h
    · have h1 := takeO_len _ _ _ _ h
      have h2 := fourO_len _ _ _ h4
      omega
theorem headO_len (hd s : List UInt8) (r : List UInt8) (h : headO hd s = .ok () r) : hd.length + r.length = s.length := by
  unfold headO at h
  split at h
  · cases h
  · cases h4 : takeO hd.length s with
    | thrown e => rw [h4] at h; cases h
    | ok m r1 =>
      rw [h4] at h
      cases h
      have := takeO_len _ _ _ _ h4
      omega
/-- How much an option takes. -/
theorem readOpt_len (s : List UInt8) (hz : (readOpt s).2.2 = 0) : 16 + (readOpt s).1.2.length + (readOpt s).2.1.length = s.length ∧ (readOpt s).1.2.length ≤ 4096 ∧ (readOpt s).1.1 < 4294967296 := by
  unfold readOpt at hz ⊢
  cases h : readOptO s with
  | thrown e => rw [h] at hz; exact absurd hz (throws_opt s e h)
  | ok x r =>
    dsimp only
    unfold readOptO at h
    cases h1 : headO optHead s with
    | thrown e => rw [h1] at h; cases h
    | ok u r1 =>
      rw [h1] at h
      dsimp only at h
      cases h2 : fourO r1 with
      | thrown e => rw [h2] at h; cases h
      | ok k r2 =>
        rw [h2] at h
        dsimp only at h
        cases h4 : dataO 4096 r2 with
        | thrown e => rw [h4] at h; cases h
        | ok d r4 =>
          rw [h4] at h
          cases h
          have a1 := headO_len _ _ _ h1
          have a2 := fourO_len _ _ _ h2
          have a4 := dataO_len _ _ _ _ h4
          have a5 : optHead.length = 8 := rfl
          dsimp only
          omega

end Go.Proofs.Yteljplpiojdikaa
