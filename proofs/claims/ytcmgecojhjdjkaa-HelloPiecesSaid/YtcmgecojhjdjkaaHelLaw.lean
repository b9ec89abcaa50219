/- PIECES: a client's beginning is the same, in whatever pieces its bytes come: the plain law. -/
import Derived.Test.YtcmgecojhjdjkaaHelSpec
import Derived.Test.YtcmgecojhjdjkaaAnsMono
namespace Go.Proofs.Ytcmgecojhjdjkaa
namespace Hel

/-- More bytes behind. -/
def more (h : Hel) (t : List UInt8) : Hel := if h.phase = 5 then h else { h with buf := h.buf ++ t }

theorem doChunks_more (h : Hel) (k : Nat) (t : List UInt8) (_ : h.phase ≠ 5) : doChunks { h with buf := h.buf ++ t } k = ((doChunks h k).1.more t, (doChunks h k).2) := by
  unfold doChunks askGo ask die more
  by_cases h1 : k = 1
  · rw [if_pos h1, if_pos h1]
    by_cases h2 : h.want = []
    · rw [if_pos h2, if_pos h2]; simp
    · rw [if_neg h2, if_neg h2]; simp
  · rw [if_neg h1, if_neg h1]
    by_cases h2 : 2147483648 ≤ k
    · rw [if_pos h2, if_pos h2]; simp
    · rw [if_neg h2, if_neg h2]; simp
theorem doMeta_more (h : Hel) (k : Nat) (d t : List UInt8) (hp : h.phase ≠ 5) : doMeta { h with buf := h.buf ++ t } k d = ((doMeta h k d).1.more t, (doMeta h k d).2) := by
  unfold doMeta askGo ask die more
  by_cases h1 : k = 4 ∧ 4 ≤ d.length ∧ d.drop 4 ∈ h.want
  · rw [if_pos h1, if_pos h1]; simp [hp]
  · rw [if_neg h1, if_neg h1]
    by_cases h2 : k = 1
    · rw [if_pos h2, if_pos h2]; simp
    · rw [if_neg h2, if_neg h2]
      by_cases h3 : 2147483648 ≤ k
      · rw [if_pos h3, if_pos h3]; simp
      · rw [if_neg h3, if_neg h3]; simp
theorem doInfo_more (h : Hel) (k : Nat) (d t : List UInt8) (hp : h.phase ≠ 5) : doInfo { h with buf := h.buf ++ t } k d = ((doInfo h k d).1.more t, (doInfo h k d).2) := by
  unfold doInfo die more
  by_cases h1 : k = 3
  · rw [if_pos h1, if_pos h1]
    by_cases h2 : d.length = 12 ∧ d.take 2 = [0, 0]
    · rw [if_pos h2, if_pos h2]; simp [hp]
    · rw [if_neg h2, if_neg h2]; simp [hp]
  · rw [if_neg h1, if_neg h1]
    by_cases h2 : k = 1 ∧ h.told = true
    · rw [if_pos h2, if_pos h2]; simp
    · rw [if_neg h2, if_neg h2]; simp

theorem answered_more (h : Hel) (kind : Nat) (f : Hel → Nat → List UInt8 → Hel × List UInt8) (t : List UInt8) (hp : h.phase ≠ 5)
    (hf : ∀ (h : Hel) (k : Nat) (d : List UInt8), h.phase ≠ 5 → f { h with buf := h.buf ++ t } k d = ((f h k d).1.more t, (f h k d).2)) (h1 : Hel) (o : List UInt8) (hs : h.answered kind f = some (h1, o)) :
    answered { h with buf := h.buf ++ t } kind f = some (h1.more t, o) := by
  unfold answered at hs ⊢
  dsimp only at hs ⊢
  by_cases h22 : (readAns h.buf).2.2 = 22
  · rw [if_pos h22] at hs; cases hs
  · rw [if_neg h22] at hs
    obtain ⟨m1, m2⟩ := readAns_more h.buf t h22
    rw [if_neg (by rw [m1]; exact h22)]
    by_cases hz : (readAns h.buf).2.2 = 0
    · rw [m2 hz]
      dsimp only
      by_cases hk : (readAns h.buf).1.1 ≠ kind
      · rw [if_pos (.inr hk)] at hs
        cases hs
        rw [if_pos (.inr hk)]
        simp [more, die]
      · rw [if_neg (by simp only [not_or]; exact ⟨fun h => h hz, hk⟩)] at hs
        rw [if_neg (by simp only [not_or]; exact ⟨fun h => h rfl, hk⟩)]
        have := hf { h with buf := (readAns h.buf).2.1 } (readAns h.buf).1.2.1 (readAns h.buf).1.2.2 hp
        dsimp only at this
        rw [this]
        simp only [Option.some.injEq] at hs
        rw [hs]
    · rw [if_pos (.inl hz)] at hs
      cases hs
      rw [if_pos (.inl (by rw [m1]; exact hz))]
      simp [more, die]

theorem greet_more (h : Hel) (t : List UInt8) (h1 : Hel) (o : List UInt8) (hs : h.greet = some (h1, o)) : greet { h with buf := h.buf ++ t } = some (h1.more t, o) := by
  unfold greet at hs ⊢
  dsimp only at hs ⊢
  by_cases h18 : h.buf.length < 18
  · rw [if_pos h18] at hs; cases hs
  · rw [if_neg h18] at hs
    have e1 : (h.buf ++ t).take 16 = h.buf.take 16 := List.take_append_of_le_length (by omega)
    have e2 : (h.buf ++ t)[17]? = h.buf[17]? := List.getElem?_append_left (by omega)
    have e3 : (h.buf ++ t).drop 18 = h.buf.drop 18 ++ t := List.drop_append_of_le_length (by omega)
    rw [if_neg (by rw [List.length_append]; omega), e1, e2, e3]
    by_cases hb : h.buf.take 16 ≠ greeting.take 16 ∨ (h.buf[17]?.getD 0).toNat % 2 = 0
    · rw [if_pos hb] at hs ⊢
      cases hs
      simp [more, die]
    · rw [if_neg hb] at hs ⊢
      cases hs
      simp [more, ask]

theorem step_more (h : Hel) (t : List UInt8) (hp : h.phase < 4) (h1 : Hel) (o : List UInt8) (hs : h.step = some (h1, o)) : step { h with buf := h.buf ++ t } = some (h1.more t, o) := by
  unfold step at hs ⊢
  dsimp only at hs ⊢
  by_cases p0 : h.phase = 0
  · rw [if_pos p0] at hs ⊢
    exact greet_more h t h1 o hs
  · rw [if_neg p0] at hs ⊢
    by_cases p1 : h.phase = 1
    · rw [if_pos p1] at hs ⊢
      exact answered_more h 8 _ t (by omega) (fun h k d hp => doChunks_more h k t hp) h1 o hs
    · rw [if_neg p1] at hs ⊢
      by_cases p2 : h.phase = 2
      · rw [if_pos p2] at hs ⊢
        exact answered_more h 10 _ t (by omega) (fun h k d hp => doMeta_more h k d t hp) h1 o hs
      · rw [if_neg p2] at hs ⊢
        exact answered_more h 7 _ t (by omega) (fun h k d hp => doInfo_more h k d t hp) h1 o hs

/-- A run, and more bytes: what was done is done, then it goes on. -/
theorem runs_more {h h1 : Hel} {o1 : List UInt8} (hr : Runs h o1 h1) (t : List UInt8) (hp : h.phase ≠ 5) {h2 : Hel} {o2 : List UInt8} (hr2 : Feeds h1 t h2 o2) : Runs { h with buf := h.buf ++ t } (o1 ++ o2) h2 := by
  induction hr with
  | stop hs =>
    cases hr2 with
    | dead h5 => exact absurd h5 hp
    | live _ hr3 => exact hr3
  | go hp4 hs hr ih =>
    rename_i h ha hb oa ob
    have hs2 := step_more h t hp4 ha oa hs
    rw [List.append_assoc]
    refine Runs.go hp4 hs2 ?_
    by_cases h5 : ha.phase = 5
    · have e : ha.more t = ha := by unfold more; rw [if_pos h5]
      rw [e]
      cases hr with
      | stop _ =>
        cases hr2 with
        | dead _ => exact Runs.stop (.inl (by omega))
        | live h6 _ => exact absurd h5 h6
      | go h6 _ _ => omega
    · have e : ha.more t = { ha with buf := ha.buf ++ t } := by unfold more; rw [if_neg h5]
      rw [e]
      exact ih h5 hr2

/-- PIECES. -/
theorem feeds_pieces {h h1 h2 : Hel} {s t o1 o2 : List UInt8} (f1 : Feeds h s h1 o1) (f2 : Feeds h1 t h2 o2) : Feeds h (s ++ t) h2 (o1 ++ o2) := by
  cases f1 with
  | dead h5 =>
    cases f2 with
    | dead _ => exact Feeds.dead h5
    | live h6 _ => exact absurd h5 h6
  | live h5 hr =>
    have := runs_more hr t h5 f2
    dsimp only at this
    rw [List.append_assoc] at this
    exact Feeds.live h5 this

/-- There is one end. -/
theorem runs_one {h h1 h2 : Hel} {o1 o2 : List UInt8} (r1 : Runs h o1 h1) (r2 : Runs h o2 h2) : h1 = h2 ∧ o1 = o2 := by
  induction r1 generalizing o2 h2 with
  | stop hs =>
    cases r2 with
    | stop _ => exact ⟨rfl, rfl⟩
    | go hp hs2 _ =>
      rcases hs with hs | hs
      · omega
      · rw [hs] at hs2; cases hs2
  | go hp hs hr ih =>
    cases r2 with
    | stop hs2 =>
      rcases hs2 with hs2 | hs2
      · omega
      · rw [hs] at hs2; cases hs2
    | go hp2 hs2 hr2 =>
      rw [hs] at hs2
      cases hs2
      obtain ⟨e1, e2⟩ := ih hr2
      exact ⟨e1, by rw [e2]⟩
theorem feeds_one {h h1 h2 : Hel} {s o1 o2 : List UInt8} (f1 : Feeds h s h1 o1) (f2 : Feeds h s h2 o2) : h1 = h2 ∧ o1 = o2 := by
  cases f1 with
  | dead h5 =>
    cases f2 with
    | dead _ => exact ⟨rfl, rfl⟩
    | live h6 _ => exact absurd h5 h6
  | live h5 r1 =>
    cases f2 with
    | dead h6 => exact absurd h6 h5
    | live _ r2 => exact runs_one r1 r2

end Hel
end Go.Proofs.Ytcmgecojhjdjkaa
