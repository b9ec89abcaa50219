/- PIECES: a server's beginning is the same, in whatever pieces its bytes come: the plain law. -/
import Derived.Test.YteljplpiojdikaaNegSpec
import Derived.Test.YteljplpiojdikaaOptMono
namespace Go.Proofs.Yteljplpiojdikaa
namespace Neg

/-- More bytes behind. -/
def more (h : Neg) (t : List UInt8) : Neg := if h.phase = 3 then h else { h with buf := h.buf ++ t }

theorem doMetas_more (h : Neg) (maps : List (List UInt8)) (o : Nat) (d t : List UInt8) (hp : h.phase ≠ 3) : doMetas { h with buf := h.buf ++ t } maps o d = ((doMetas h maps o d).1.more t, (doMetas h maps o d).2) := by
  unfold doMetas more
  by_cases ho : o = 10
  all_goals
    simp only [ho, ↓reduceIte]
    cases readMeta d with
    | none => simp [hp]
    | some x =>
      dsimp only
      by_cases h1 : h.chunks = false
      · simp [h1, hp]
      · by_cases h2 : 8 < x.2.length
        · simp [h1, h2, hp]
        · by_cases h3 : ours x.1 = false
          · simp [h1, h2, h3, hp]
          · simp [h1, h2, h3, hp]
theorem doInfo_more (h : Neg) (sz o : Nat) (d t : List UInt8) (hp : h.phase ≠ 3) : doInfo { h with buf := h.buf ++ t } sz o d = ((doInfo h sz o d).1.more t, (doInfo h sz o d).2) := by
  unfold doInfo more
  cases readAsks d with
  | none => simp [hp]
  | some x =>
    dsimp only
    by_cases h3 : ours x.1 = false
    · simp [h3, hp]
    · by_cases ho : o = 7
      · simp [h3, ho]
      · simp [h3, ho, hp]
theorem doOpt_more (h : Neg) (sz : Nat) (maps : List (List UInt8)) (o : Nat) (d t : List UInt8) (hp : h.phase ≠ 3) : doOpt { h with buf := h.buf ++ t } sz maps o d = ((doOpt h sz maps o d).1.more t, (doOpt h sz maps o d).2) := by
  unfold doOpt
  by_cases h1 : o = 1
  · rw [if_pos h1, if_pos h1]
    by_cases h2 : ours d = false
    · rw [if_pos h2, if_pos h2]; simp [more, die]
    · rw [if_neg h2, if_neg h2]; simp [more]
  · rw [if_neg h1, if_neg h1]
    by_cases h2 : o = 2
    · rw [if_pos h2, if_pos h2]; simp [more, die]
    · rw [if_neg h2, if_neg h2]
      by_cases h3 : o = 3
      · rw [if_pos h3, if_pos h3]; simp [more, hp]
      · rw [if_neg h3, if_neg h3]
        by_cases h4 : o = 6 ∨ o = 7
        · rw [if_pos h4, if_pos h4]; exact doInfo_more h sz o d t hp
        · rw [if_neg h4, if_neg h4]
          by_cases h5 : o = 8
          · rw [if_pos h5, if_pos h5]
            by_cases hd : d = []
            · rw [if_pos hd, if_pos hd]; simp [more, hp]
            · rw [if_neg hd, if_neg hd]; simp [more, hp]
          · rw [if_neg h5, if_neg h5]
            by_cases h6 : o = 9 ∨ o = 10
            · rw [if_pos h6, if_pos h6]; exact doMetas_more h maps o d t hp
            · rw [if_neg h6, if_neg h6]; simp [more, hp]

theorem doFlags_more (h : Neg) (t : List UInt8) (h1 : Neg) (o : List UInt8) (hs : h.doFlags = some (h1, o)) : doFlags { h with buf := h.buf ++ t } = some (h1.more t, o) := by
  unfold doFlags at hs ⊢
  dsimp only at hs ⊢
  by_cases h4 : h.buf.length < 4
  · rw [if_pos h4] at hs; cases hs
  · rw [if_neg h4] at hs
    have e1 : (h.buf ++ t).take 4 = h.buf.take 4 := List.take_append_of_le_length (by omega)
    have e3 : (h.buf ++ t).drop 4 = h.buf.drop 4 ++ t := List.drop_append_of_le_length (by omega)
    rw [if_neg (by rw [List.length_append]; omega), e1, e3]
    by_cases hb : de (h.buf.take 4) = 1 ∨ de (h.buf.take 4) = 3
    · rw [if_pos hb] at hs ⊢
      cases hs
      simp [more]
    · rw [if_neg hb] at hs ⊢
      cases hs
      simp [more, die]
theorem doOption_more (h : Neg) (sz : Nat) (maps : List (List UInt8)) (t : List UInt8) (hp : h.phase ≠ 3) (h1 : Neg) (o : List UInt8) (hs : h.doOption sz maps = some (h1, o)) : doOption { h with buf := h.buf ++ t } sz maps = some (h1.more t, o) := by
  unfold doOption at hs ⊢
  dsimp only at hs ⊢
  by_cases h22 : (readOpt h.buf).2.2 = 22
  · rw [if_pos h22] at hs; cases hs
  · rw [if_neg h22] at hs
    obtain ⟨m1, m2⟩ := readOpt_more h.buf t h22
    rw [if_neg (by rw [m1]; exact h22)]
    by_cases hz : (readOpt h.buf).2.2 = 0
    · rw [m2 hz]
      dsimp only
      rw [if_neg (by simp)]
      rw [if_neg (by simp [hz])] at hs
      have := doOpt_more { h with buf := (readOpt h.buf).2.1 } sz maps (readOpt h.buf).1.1 (readOpt h.buf).1.2 t hp
      dsimp only at this
      rw [this]
      simp only [Option.some.injEq] at hs
      rw [hs]
    · rw [if_pos hz] at hs
      cases hs
      rw [if_pos (by rw [m1]; exact hz)]
      simp [more, die]

theorem step_more (h : Neg) (sz : Nat) (maps : List (List UInt8)) (t : List UInt8) (hp : h.phase < 2) (h1 : Neg) (o : List UInt8) (hs : h.step sz maps = some (h1, o)) : step { h with buf := h.buf ++ t } sz maps = some (h1.more t, o) := by
  unfold step at hs ⊢
  dsimp only at hs ⊢
  by_cases p0 : h.phase = 0
  · rw [if_pos p0] at hs ⊢
    exact doFlags_more h t h1 o hs
  · rw [if_neg p0] at hs ⊢
    exact doOption_more h sz maps t (by omega) h1 o hs

theorem runs_more {sz : Nat} {maps : List (List UInt8)} {h h1 : Neg} {o1 : List UInt8} (hr : Runs sz maps h o1 h1) (t : List UInt8) (hp : h.phase ≠ 3) {h2 : Neg} {o2 : List UInt8} (hr2 : Feeds sz maps h1 t h2 o2) : Runs sz maps { h with buf := h.buf ++ t } (o1 ++ o2) h2 := by
  induction hr with
  | stop hs =>
    cases hr2 with
    | dead h5 => exact absurd h5 hp
    | live _ hr3 => exact hr3
  | go hp4 hs hr ih =>
    rename_i h ha hb oa ob
    have hs2 := step_more h sz maps t hp4 ha oa hs
    rw [List.append_assoc]
    refine Runs.go hp4 hs2 ?_
    by_cases h5 : ha.phase = 3
    · have e : ha.more t = ha := by unfold more; rw [if_pos h5]
      rw [e]
      cases hr with
      | stop _ =>
        cases hr2 with
        | dead _ => exact Runs.stop (.inl (by omega))
        | live h6 _ => exact absurd h5 h6
      | go h6 _ _ => omega
    · have e : ha.more t = { ha with buf := ha.buf ++ t } := by unfold more; rw [if_neg h5]
      rw [e]
      exact ih h5 hr2
theorem feeds_pieces {sz : Nat} {maps : List (List UInt8)} {h h1 h2 : Neg} {s t o1 o2 : List UInt8} (f1 : Feeds sz maps h s h1 o1) (f2 : Feeds sz maps h1 t h2 o2) : Feeds sz maps h (s ++ t) h2 (o1 ++ o2) := by
  cases f1 with
  | dead h5 =>
    cases f2 with
    | dead _ => exact Feeds.dead h5
    | live h6 _ => exact absurd h5 h6
  | live h5 hr =>
    have := runs_more hr t h5 f2
    dsimp only at this
    rw [List.append_assoc] at this
    exact Feeds.live h5 this
theorem runs_one {sz : Nat} {maps : List (List UInt8)} {h h1 h2 : Neg} {o1 o2 : List UInt8} (r1 : Runs sz maps h o1 h1) (r2 : Runs sz maps h o2 h2) : h1 = h2 ∧ o1 = o2 := by
  induction r1 generalizing o2 h2 with
  | stop hs =>
    cases r2 with
    | stop _ => exact ⟨rfl, rfl⟩
    | go hp hs2 _ =>
      rcases hs with hs | hs
      · omega
      · rw [hs] at hs2; cases hs2
  | go hp hs hr ih =>
    cases r2 with
    | stop hs2 =>
      rcases hs2 with hs2 | hs2
      · omega
      · rw [hs] at hs2; cases hs2
    | go hp2 hs2 hr2 =>
      rw [hs] at hs2
      cases hs2
      obtain ⟨e1, e2⟩ := ih hr2
      exact ⟨e1, by rw [e2]⟩
theorem feeds_one {sz : Nat} {maps : List (List UInt8)} {h h1 h2 : Neg} {s o1 o2 : List UInt8} (f1 : Feeds sz maps h s h1 o1) (f2 : Feeds sz maps h s h2 o2) : h1 = h2 ∧ o1 = o2 := by
  cases f1 with
  | dead h5 =>
    cases f2 with
    | dead _ => exact ⟨rfl, rfl⟩
    | live h6 _ => exact absurd h5 h6
  | live h5 r1 =>
    cases f2 with
    | dead h6 => exact absurd h6 h5
    | live _ r2 => exact runs_one r1 r2

/-- What holds of the contexts that were set: in order, each one there, in chunks. -/
structure Inv (n : Nat) (h : Neg) : Prop where
  range : ∀ m ∈ h.metas, 1 ≤ m ∧ m ≤ n + 1
  order : h.metas.Pairwise (· < ·)
  chunks : h.metas ≠ [] → h.chunks = true

theorem doCtxs_range (o : Nat) (q : List (List UInt8)) (i : Nat) (l : List (List UInt8)) : (∀ m ∈ (doCtxs o q i l).1, i + 1 ≤ m ∧ m ≤ i + l.length) ∧ (doCtxs o q i l).1.Pairwise (· < ·) := by
  induction l generalizing i with
  | nil => simp [doCtxs]
  | cons c l ih =>
    obtain ⟨h1, h2⟩ := ih (i + 1)
    unfold doCtxs
    dsimp only
    by_cases hw : wantedC o c q = true
    · rw [if_pos hw]
      refine ⟨fun m hm => ?_, ?_⟩
      · rcases List.mem_cons.1 hm with rfl | hm
        · simp
        · have := h1 m hm; simp; omega
      · refine List.pairwise_cons.2 ⟨fun m hm => ?_, h2⟩
        have := h1 m hm; omega
    · rw [if_neg hw]
      refine ⟨fun m hm => ?_, h2⟩
      have := h1 m hm; simp; omega

theorem inv_doMetas {h : Neg} {maps : List (List UInt8)} (hi : Inv maps.length h) (o : Nat) (d : List UInt8) : Inv maps.length (doMetas h maps o d).1 := by
  have h0 : Inv maps.length ({ h with metas := [] } : Neg) := ⟨by simp, by simp, by simp⟩
  have hn : Inv maps.length (if o = 10 then { h with metas := [] } else h) := by
    by_cases ho : o = 10
    · rw [if_pos ho]; exact h0
    · rw [if_neg ho]; exact hi
  unfold doMetas
  dsimp only
  cases readMeta d with
  | none => exact hn
  | some x =>
    dsimp only
    by_cases h1 : h.chunks = false
    · rw [if_pos h1]; exact hn
    · rw [if_neg h1]
      by_cases h2 : 8 < x.2.length
      · rw [if_pos h2]; exact hn
      · rw [if_neg h2]
        by_cases h3 : ours x.1 = false
        · rw [if_pos h3]; exact hn
        · rw [if_neg h3]
          obtain ⟨r1, r2⟩ := doCtxs_range o x.2 0 (contextsL maps)
          have hl : (contextsL maps).length = maps.length + 1 := by simp [contextsL]
          rw [hl] at r1
          by_cases ho : o = 10
          · simp only [ho, ↓reduceIte] at r1 r2 ⊢
            exact ⟨fun m hm => by have := r1 m hm; omega, r2, fun _ => by simpa using h1⟩
          · simp only [ho, ↓reduceIte]
            exact ⟨hi.range, hi.order, hi.chunks⟩
theorem inv_phase {n : Nat} {h h1 : Neg} (hi : Inv n h) (hm : h1.metas = h.metas) (hc : h.chunks = true → h1.chunks = true) : Inv n h1 :=
  ⟨by rw [hm]; exact hi.range, by rw [hm]; exact hi.order, by rw [hm]; exact fun h => hc (hi.chunks h)⟩
theorem inv_doOpt {h : Neg} {maps : List (List UInt8)} (hi : Inv maps.length h) (sz o : Nat) (d : List UInt8) : Inv maps.length (doOpt h sz maps o d).1 := by
  unfold doOpt
  by_cases h1 : o = 1
  · rw [if_pos h1]
    by_cases h2 : ours d = false
    · rw [if_pos h2]; exact inv_phase hi rfl id
    · rw [if_neg h2]; exact inv_phase hi rfl id
  · rw [if_neg h1]
    by_cases h2 : o = 2
    · rw [if_pos h2]; exact inv_phase hi rfl id
    · rw [if_neg h2]
      by_cases h3 : o = 3
      · rw [if_pos h3]; exact hi
      · rw [if_neg h3]
        by_cases h4 : o = 6 ∨ o = 7
        · rw [if_pos h4]
          unfold doInfo
          cases readAsks d with
          | none => exact hi
          | some x =>
            dsimp only
            by_cases h3 : ours x.1 = false
            · rw [if_pos h3]; exact hi
            · rw [if_neg h3]; exact inv_phase hi rfl id
        · rw [if_neg h4]
          by_cases h5 : o = 8
          · rw [if_pos h5]
            by_cases hd : d = []
            · rw [if_pos hd]; exact inv_phase hi rfl (fun _ => rfl)
            · rw [if_neg hd]; exact hi
          · rw [if_neg h5]
            by_cases h6 : o = 9 ∨ o = 10
            · rw [if_pos h6]; exact inv_doMetas hi o d
            · rw [if_neg h6]; exact hi
theorem inv_step {h h1 : Neg} {sz : Nat} {maps : List (List UInt8)} {o : List UInt8} (hi : Inv maps.length h) (hs : h.step sz maps = some (h1, o)) : Inv maps.length h1 := by
  unfold step at hs
  by_cases p0 : h.phase = 0
  · rw [if_pos p0] at hs
    unfold doFlags at hs
    dsimp only at hs
    split at hs
    · cases hs
    · split at hs
      · cases hs; exact inv_phase hi rfl id
      · cases hs; exact inv_phase hi rfl id
  · rw [if_neg p0] at hs
    unfold doOption at hs
    dsimp only at hs
    split at hs
    · cases hs
    · split at hs
      · cases hs; exact inv_phase hi rfl id
      · have e := congrArg (fun x => x.map Prod.fst) hs
        simp only [Option.map_some, Option.some.injEq] at e
        rw [← e]
        exact inv_doOpt (h := { h with buf := (readOpt h.buf).2.1 }) (inv_phase hi rfl id) _ _ _
theorem inv_runs {h h1 : Neg} {sz : Nat} {maps : List (List UInt8)} {o : List UInt8} (hr : Runs sz maps h o h1) (hi : Inv maps.length h) : Inv maps.length h1 := by
  induction hr with
  | stop _ => exact hi
  | go _ hs _ ih => exact ih (inv_step hi hs)
theorem inv_feeds {h h1 : Neg} {sz : Nat} {maps : List (List UInt8)} {s o : List UInt8} (hf : Feeds sz maps h s h1 o) (hi : Inv maps.length h) : Inv maps.length h1 := by
  cases hf with
  | dead _ => exact hi
  | live _ hr => exact inv_runs hr (inv_phase hi rfl id)

end Neg
end Go.Proofs.Yteljplpiojdikaa
