/- A client's step takes bytes off, or ends: bounds. -/
import Derived.Test.YtcmgecojhjdjkaaHelAns
namespace Go.Proofs.Ytcmgecojhjdjkaa
theorem takeO_ne (n : Nat) (s : List UInt8) (e : Int) (h : takeO n s = .thrown e) : e ≠ 0 := by
  unfold takeO at h
  split at h <;> cases h
  decide
theorem fourO_ne (s : List UInt8) (e : Int) (h : fourO s = .thrown e) : e ≠ 0 := by
  unfold fourO at h
  split at h <;> cases h
  decide
theorem dataO_ne (n : Nat) (s : List UInt8) (e : Int) (h : dataO n s = .thrown e) : e ≠ 0 := by
  unfold dataO at h
  cases h4 : fourO s with
  | thrown x => rw [h4] at h; cases h; exact fourO_ne _ _ h4
  | ok m r =>
    rw [h4] at h
    dsimp only at h
    split at h
    · cases h; decide
    · exact takeO_ne _ _ _ h
theorem headO_ne (hd s : List UInt8) (e : Int) (h : headO hd s = .thrown e) : e ≠ 0 := by
  unfold headO at h
  split at h
  · cases h; decide
  · cases h4 : takeO hd.length s with
    | thrown x => rw [h4] at h; cases h; exact takeO_ne _ _ _ h4
    | ok m r => rw [h4] at h; cases h
theorem readAns_less (s : List UInt8) (hz : (readAns s).2.2 = 0) : (readAns s).2.1.length + 1 ≤ s.length := by
  have hr : ∀ r : List UInt8, headO ansHead s = .ok () r → r.length + 1 ≤ s.length := by
    intro r h
    unfold headO at h
    split at h
    · cases h
    · unfold takeO at h
      by_cases h8 : s.length < ansHead.length
      · rw [if_pos h8] at h; cases h
      · rw [if_neg h8] at h
        cases h
        have : ansHead.length = 8 := rfl
        simp; omega
  unfold readAns at hz ⊢
  cases h : readAnsO s with
  | thrown e =>
    rw [h] at hz
    exfalso
    refine absurd hz ?_
    dsimp only
    unfold readAnsO at h
    cases h1 : headO ansHead s with
    | thrown e => rw [h1] at h; cases h; exact headO_ne _ _ _ h1
    | ok u r1 =>
      rw [h1] at h
      dsimp only at h
      cases h2 : fourO r1 with
      | thrown e => rw [h2] at h; cases h; exact fourO_ne _ _ h2
      | ok o r2 =>
        rw [h2] at h
        dsimp only at h
        cases h3 : fourO r2 with
        | thrown e => rw [h3] at h; cases h; exact fourO_ne _ _ h3
        | ok k r3 =>
          rw [h3] at h
          dsimp only at h
          cases h4 : dataO 4096 r3 with
          | thrown e => rw [h4] at h; cases h; exact dataO_ne _ _ _ h4
          | ok d r4 => rw [h4] at h; cases h
  | ok x r =>
    dsimp only
    unfold readAnsO at h
    cases h1 : headO ansHead s with
    | thrown e => rw [h1] at h; cases h
    | ok u r1 =>
      rw [h1] at h
      dsimp only at h
      cases h2 : fourO r1 with
      | thrown e => rw [h2] at h; cases h
      | ok o r2 =>
        rw [h2] at h
        dsimp only at h
        cases h3 : fourO r2 with
        | thrown e => rw [h3] at h; cases h
        | ok k r3 =>
          rw [h3] at h
          dsimp only at h
          cases h4 : dataO 4096 r3 with
          | thrown e => rw [h4] at h; cases h
          | ok d r4 =>
            rw [h4] at h
            cases h
            have a1 := hr _ h1
            have a2 := fourO_rest _ _ _ h2
            have a3 := fourO_rest _ _ _ h3
            have a4 := dataO_rest _ _ _ _ h4
            omega

namespace Hel

/-- What a step keeps, with what is left of the buffer. -/
structure Less (h : Hel) (r : Hel × List UInt8) : Prop where
  want : r.1.want = h.want
  metas : r.1.metas.length + r.1.buf.length ≤ h.metas.length + h.buf.length
  out : r.2.length + 5000 * r.1.buf.length ≤ 5000 * h.buf.length
  phase : r.1.phase ≤ 5
  less : 4 ≤ r.1.phase ∨ r.1.buf.length < h.buf.length

theorem less_die (h : Hel) : Less h (h.die, []) := ⟨rfl, by simp [die], by simp [die], by simp [die], .inl (by simp [die])⟩
theorem less_ask (h h1 : Hel) (kind : Nat) (d : List UInt8) (ph : Nat) (hw : h1.want = h.want) (hm : h1.metas.length ≤ h.metas.length) (hb : h1.buf.length + 1 ≤ h.buf.length) (hp : ph ≤ 5) : Less h (ask h1 kind d ph) := by
  have := askB_length kind d
  refine ⟨hw, ?_, ?_, hp, .inr ?_⟩ <;> simp only [ask] <;> omega
theorem less_die2 (h h1 : Hel) (hw : h1.want = h.want) (hm : h1.metas.length ≤ h.metas.length) : Less h (h1.die, []) := ⟨hw, by simp [die]; omega, by simp [die], by simp [die], .inl (by simp [die])⟩

theorem less_chunks (h h1 : Hel) (k : Nat) (hw : h1.want = h.want) (hm : h1.metas.length ≤ h.metas.length) (hb : h1.buf.length + 1 ≤ h.buf.length) : Less h (h1.doChunks k) := by
  unfold doChunks askGo
  by_cases h1' : k = 1
  · rw [if_pos h1']
    by_cases h2 : h1.want = []
    · rw [if_pos h2]; exact less_ask _ _ _ _ _ hw hm hb (by omega)
    · rw [if_neg h2]; exact less_ask _ _ _ _ _ hw hm hb (by omega)
  · rw [if_neg h1']
    by_cases h2 : 2147483648 ≤ k
    · rw [if_pos h2]; exact less_ask _ _ _ _ _ hw hm hb (by omega)
    · rw [if_neg h2]; exact less_die2 _ _ hw hm
theorem less_meta (h h1 : Hel) (k : Nat) (d : List UInt8) (hw : h1.want = h.want) (hm : h1.metas.length ≤ h.metas.length) (hb : h1.buf.length + 1 ≤ h.buf.length) (hp : h1.phase ≤ 5) : Less h (h1.doMeta k d) := by
  unfold doMeta askGo
  by_cases c1 : k = 4 ∧ 4 ≤ d.length ∧ d.drop 4 ∈ h1.want
  · rw [if_pos c1]
    exact ⟨hw, by simp; omega, by simp; omega, hp, .inr (by simp; omega)⟩
  · rw [if_neg c1]
    by_cases c2 : k = 1
    · rw [if_pos c2]; exact less_ask _ _ _ _ _ hw hm hb (by omega)
    · rw [if_neg c2]
      by_cases c3 : 2147483648 ≤ k
      · rw [if_pos c3]; exact less_ask _ _ _ _ _ hw (by simp) hb (by omega)
      · rw [if_neg c3]; exact less_die2 _ _ hw hm
theorem less_info (h h1 : Hel) (k : Nat) (d : List UInt8) (hw : h1.want = h.want) (hm : h1.metas.length ≤ h.metas.length) (hb : h1.buf.length + 1 ≤ h.buf.length) (hp : h1.phase ≤ 5) : Less h (h1.doInfo k d) := by
  unfold doInfo
  by_cases c1 : k = 3
  · rw [if_pos c1]
    by_cases c2 : d.length = 12 ∧ d.take 2 = [0, 0]
    · rw [if_pos c2]; exact ⟨hw, by simp; omega, by simp; omega, hp, .inr (by simp; omega)⟩
    · rw [if_neg c2]; exact ⟨hw, by simp; omega, by simp; omega, hp, .inr (by simp; omega)⟩
  · rw [if_neg c1]
    by_cases c2 : k = 1 ∧ h1.told = true
    · rw [if_pos c2]; exact ⟨hw, by simp; omega, by simp; omega, by simp, .inl (by simp)⟩
    · rw [if_neg c2]; exact less_die2 _ _ hw hm

theorem less_answered (h : Hel) (kind : Nat) (f : Hel → Nat → List UInt8 → Hel × List UInt8) (hp : h.phase ≤ 5)
    (hf : ∀ (h1 : Hel) (k : Nat) (d : List UInt8), h1.want = h.want → h1.metas.length ≤ h.metas.length → h1.buf.length + 1 ≤ h.buf.length → h1.phase ≤ 5 → Less h (f h1 k d))
    (r : Hel × List UInt8) (hs : h.answered kind f = some r) : Less h r := by
  unfold answered at hs
  dsimp only at hs
  by_cases h22 : (readAns h.buf).2.2 = 22
  · rw [if_pos h22] at hs; cases hs
  · rw [if_neg h22] at hs
    by_cases hz : (readAns h.buf).2.2 ≠ 0 ∨ (readAns h.buf).1.1 ≠ kind
    · rw [if_pos hz] at hs; cases hs; exact less_die h
    · rw [if_neg hz] at hs
      cases hs
      simp only [not_or, ne_eq, Decidable.not_not] at hz
      exact hf _ _ _ rfl (Nat.le_refl _) (readAns_less _ hz.1) hp
theorem less_step (h : Hel) (hp : h.phase ≤ 5) (r : Hel × List UInt8) (hs : h.step = some r) : Less h r := by
  unfold step at hs
  by_cases p0 : h.phase = 0
  · rw [if_pos p0] at hs
    unfold greet at hs
    dsimp only at hs
    by_cases h18 : h.buf.length < 18
    · rw [if_pos h18] at hs; cases hs
    · rw [if_neg h18] at hs
      by_cases hb : h.buf.take 16 ≠ greeting.take 16 ∨ (h.buf[17]?.getD 0).toNat % 2 = 0
      · rw [if_pos hb] at hs; cases hs; exact less_die h
      · rw [if_neg hb] at hs
        cases hs
        have := askB_length 8 []
        refine ⟨rfl, ?_, ?_, by simp [ask], .inr ?_⟩
        · simp [ask]
        · simp [ask, be_length]; omega
        · simp [ask]; omega
  · rw [if_neg p0] at hs
    by_cases p1 : h.phase = 1
    · rw [if_pos p1] at hs
      exact less_answered h 8 _ hp (fun h1 k d a b c e => less_chunks h h1 k a b c) r hs
    · rw [if_neg p1] at hs
      by_cases p2 : h.phase = 2
      · rw [if_pos p2] at hs
        exact less_answered h 10 _ hp (fun h1 k d a b c e => less_meta h h1 k d a b c e) r hs
      · rw [if_neg p2] at hs
        exact less_answered h 7 _ hp (fun h1 k d a b c e => less_info h h1 k d a b c e) r hs
end Hel
end Go.Proofs.Ytcmgecojhjdjkaa
