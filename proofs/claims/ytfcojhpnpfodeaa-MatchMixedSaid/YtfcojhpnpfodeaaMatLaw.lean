/- PIECES: a client is the same, and answers the same, in whatever pieces its bytes come: the plain law. -/
import Derived.Test.YtfcojhpnpfodeaaMatSpec
namespace Go.Proofs.Ytfcojhpnpfodeaa

theorem rnum_more (s t : List UInt8) (a n : Nat) (h : a + n ≤ s.length) : rnum (s ++ t) a n = rnum s a n := by
  unfold rnum
  rw [List.drop_append_of_le_length (by omega), List.take_append_of_le_length (by rw [List.length_drop]; omega)]
theorem beginsE_more (s t h : List UInt8) (n : Nat) (hn : 4 ≤ n) (he : beginsE s h n ≠ 22) : beginsE (s ++ t) h n = beginsE s h n ∧ (beginsE s h n = 0 → n ≤ s.length) := by
  unfold beginsE at *
  by_cases h1 : s.take (min s.length 4) = h.take (min s.length 4)
  · rw [if_pos h1] at he ⊢
    by_cases h2 : s.length < n
    · rw [if_pos h2] at he; exact absurd rfl he
    · rw [if_neg h2]
      have e : min s.length 4 = 4 := by omega
      have e2 : min (s ++ t).length 4 = 4 := by rw [List.length_append]; omega
      rw [e] at h1
      rw [e2, List.take_append_of_le_length (by omega), if_pos h1, if_neg (by rw [List.length_append]; omega)]
      exact ⟨rfl, fun _ => by omega⟩
  · rw [if_neg h1]
    refine ⟨?_, fun h => by simp at h⟩
    rw [if_neg]
    intro h2
    apply h1
    have h3 := congrArg (fun l => l.take (min s.length 4)) h2
    simp only [List.take_take] at h3
    have e1 : min (min s.length 4) (min (s ++ t).length 4) = min s.length 4 := by rw [List.length_append]; omega
    rw [e1, List.take_append_of_le_length (by omega)] at h3
    exact h3
theorem readRep_more (s t : List UInt8) (n : Int) (he : (readRep s n).2.2 ≠ 22) : (readRep (s ++ t) n).1 = (readRep s n).1 ∧ (readRep (s ++ t) n).2.2 = (readRep s n).2.2 ∧ ((readRep s n).2.2 = 0 → (readRep (s ++ t) n).2.1 = (readRep s n).2.1 ++ t) := by
  unfold readRep at *
  by_cases h0 : n < 0 ∨ 4096 < n
  · rw [if_pos h0, if_pos h0]; exact ⟨rfl, rfl, fun h => by simp at h⟩
  · rw [if_neg h0] at he
    rw [if_neg h0, if_neg h0]
    by_cases hb : beginsE s oneHead 16 ≠ 0
    · rw [if_pos hb] at he
      obtain ⟨e1, _⟩ := beginsE_more s t oneHead 16 (by decide) he
      rw [e1, if_pos hb, if_pos hb]
      exact ⟨rfl, rfl, fun h => absurd h hb⟩
    · rw [if_neg hb] at he
      have hb0 : beginsE s oneHead 16 = 0 := by simpa using hb
      obtain ⟨e1, e2⟩ := beginsE_more s t oneHead 16 (by decide) (by rw [hb0]; decide)
      have hl := e2 hb0
      rw [e1, if_neg hb, if_neg hb, rnum_more s t 4 4 (by omega), rnum_more s t 8 8 (by omega)]
      by_cases h4 : rnum s 4 4 ≠ 0
      · rw [if_pos h4, if_pos h4]
        exact ⟨rfl, rfl, fun _ => List.drop_append_of_le_length (by omega)⟩
      · rw [if_neg h4] at he
        rw [if_neg h4, if_neg h4]
        by_cases h5 : s.length - 16 < n.toNat
        · rw [if_pos h5] at he; exact absurd rfl he
        · rw [if_neg h5, if_neg (by rw [List.length_append]; omega)]
          have e3 : (s ++ t).drop 16 = s.drop 16 ++ t := List.drop_append_of_le_length (by omega)
          have hd : (s.drop 16).length = s.length - 16 := List.length_drop
          dsimp only
          rw [e3, List.take_append_of_le_length (by omega), List.drop_append_of_le_length (by omega)]
          exact ⟨rfl, rfl, fun _ => rfl⟩
theorem readChunk_more (s t : List UInt8) (he : (readChunk s).2.2 ≠ 22) : (readChunk (s ++ t)).1 = (readChunk s).1 ∧ (readChunk (s ++ t)).2.2 = (readChunk s).2.2 ∧ ((readChunk s).2.2 = 0 → (readChunk (s ++ t)).2.1 = (readChunk s).2.1 ++ t) := by
  unfold readChunk at *
  by_cases hb : beginsE s pieceHead 20 ≠ 0
  · rw [if_pos hb] at he
    obtain ⟨e1, _⟩ := beginsE_more s t pieceHead 20 (by decide) he
    rw [e1, if_pos hb, if_pos hb]
    exact ⟨rfl, rfl, fun h => absurd h hb⟩
  · rw [if_neg hb] at he
    have hb0 : beginsE s pieceHead 20 = 0 := by simpa using hb
    obtain ⟨e1, e2⟩ := beginsE_more s t pieceHead 20 (by decide) (by rw [hb0]; decide)
    have hl := e2 hb0
    rw [e1, if_neg hb, if_neg hb, rnum_more s t 4 2 (by omega), rnum_more s t 16 4 (by omega), rnum_more s t 6 2 (by omega), rnum_more s t 8 8 (by omega)]
    by_cases h4 : 1 < rnum s 4 2
    · rw [if_pos h4, if_pos h4]; exact ⟨rfl, rfl, fun h => by simp at h⟩
    · rw [if_neg h4] at he
      rw [if_neg h4, if_neg h4]
      by_cases h5 : 4128 < rnum s 16 4
      · rw [if_pos h5, if_pos h5]; exact ⟨rfl, rfl, fun h => by simp at h⟩
      · rw [if_neg h5] at he
        rw [if_neg h5, if_neg h5]
        by_cases h6 : s.length - 20 < rnum s 16 4
        · rw [if_pos h6] at he; exact absurd rfl he
        · rw [if_neg h6, if_neg (by rw [List.length_append]; omega)]
          have e3 : (s ++ t).drop 20 = s.drop 20 ++ t := List.drop_append_of_le_length (by omega)
          have hd : (s.drop 20).length = s.length - 20 := List.length_drop
          dsimp only
          rw [e3, List.take_append_of_le_length (by omega), List.drop_append_of_le_length (by omega)]
          exact ⟨rfl, rfl, fun _ => rfl⟩

namespace Mat
/-- More bytes behind. -/
def more (h : Mat) (t : List UInt8) : Mat := if h.dead = true then h else { h with buf := h.buf ++ t }
theorem kill_more (h : Mat) (t : List UInt8) : h.kill.more t = h.kill := rfl
theorem applied_more (h : Mat) (t : List UInt8) (k : Nat) (d : Bool) (r : List UInt8) (o : Option Wait) (hd : h.dead = false) : applied { h with buf := h.buf ++ t } k d (r ++ t) o = ((applied h k d r o).1.more t, (applied h k d r o).2) := by
  unfold applied
  cases o with
  | none => rfl
  | some w2 =>
    dsimp only
    cases d with
    | false =>
      rw [if_neg (by simp), if_neg (by simp)]
      unfold more
      rw [if_neg (by simp [hd])]
    | true =>
      rw [if_pos rfl, if_pos rfl]
      by_cases h2 : w2.err = 0 ∧ (0 : UInt8) ∈ w2.have_
      · rw [if_pos h2, if_pos h2]; rfl
      · rw [if_neg h2, if_neg h2]
        unfold more
        rw [if_neg (by simp [hd])]
theorem chunk_more (h : Mat) (t : List UInt8) (hd : h.dead = false) (h1 : Mat) (o : List Answ) (hs : h.chunk = some (h1, o)) : chunk { h with buf := h.buf ++ t } = some (h1.more t, o) := by
  unfold chunk at hs ⊢
  dsimp only
  by_cases h22 : (readChunk h.buf).2.2 = 22
  · rw [if_pos h22] at hs; cases hs
  · rw [if_neg h22] at hs
    obtain ⟨m1, m2, m3⟩ := readChunk_more h.buf t h22
    rw [m1, m2, if_neg h22]
    by_cases hz : (readChunk h.buf).2.2 ≠ 0
    · rw [if_pos hz] at hs ⊢
      cases hs
      rfl
    · rw [if_neg hz] at hs ⊢
      rw [m3 (by simpa using hz)]
      cases hf : findW h.waits (readChunk h.buf).1.cookie with
      | none =>
        rw [hf] at hs
        cases hs
        rfl
      | some k =>
        rw [hf] at hs
        dsimp only at hs ⊢
        cases hw : h.waits[k]? with
        | none => rw [hw] at hs; cases hs
        | some w =>
          rw [hw] at hs
          dsimp only at hs ⊢
          rw [applied_more h t k _ _ _ hd]
          simp only [Option.some.injEq] at hs
          rw [hs]
theorem simple_more (h : Mat) (t : List UInt8) (hd : h.dead = false) (h1 : Mat) (o : List Answ) (hs : h.simple = some (h1, o)) : simple { h with buf := h.buf ++ t } = some (h1.more t, o) := by
  unfold simple at hs ⊢
  dsimp only
  by_cases h22 : (readRep h.buf 0).2.2 = 22
  · rw [if_pos h22] at hs; cases hs
  · rw [if_neg h22] at hs
    obtain ⟨m1, m2, m3⟩ := readRep_more h.buf t 0 h22
    rw [m1, m2, if_neg h22]
    by_cases hz : (readRep h.buf 0).2.2 ≠ 0
    · rw [if_pos hz] at hs ⊢
      cases hs
      rfl
    · rw [if_neg hz] at hs ⊢
      cases hf : findW h.waits (readRep h.buf 0).1.cookie with
      | none =>
        rw [hf] at hs
        cases hs
        rfl
      | some k =>
        rw [hf] at hs
        dsimp only at hs ⊢
        cases hw : h.waits[k]? with
        | none => rw [hw] at hs; cases hs
        | some w =>
          rw [hw] at hs
          dsimp only at hs ⊢
          by_cases h0 : (readRep h.buf (wants w.req)).2.2 ≠ 0
          · rw [if_pos h0] at hs; cases hs
          · rw [if_neg h0] at hs
            have h00 : (readRep h.buf (wants w.req)).2.2 = 0 := by simpa using h0
            obtain ⟨n1, n2, n3⟩ := readRep_more h.buf t (wants w.req) (by rw [h00]; decide)
            rw [n1, n2, if_neg h0, n3 h00]
            cases hs
            unfold more
            rw [if_neg (by simp [hd])]
theorem step_more (h : Mat) (t : List UInt8) (hd : h.dead = false) (h1 : Mat) (o : List Answ) (hs : h.step = some (h1, o)) : step { h with buf := h.buf ++ t } = some (h1.more t, o) := by
  unfold step at hs ⊢
  dsimp only
  by_cases p0 : h.chunks = true
  · rw [if_pos p0] at hs ⊢
    exact chunk_more h t hd h1 o hs
  · rw [if_neg p0] at hs ⊢
    exact simple_more h t hd h1 o hs
theorem runs_more {h h1 : Mat} {o1 : List Answ} (hr : Runs h o1 h1) (t : List UInt8) (hp : h.dead = false) {h2 : Mat} {o2 : List Answ} (hr2 : Feeds h1 t h2 o2) : Runs { h with buf := h.buf ++ t } (o1 ++ o2) h2 := by
  induction hr with
  | stop hs =>
    cases hr2 with
    | dead h5 => rw [hp] at h5; cases h5
    | live _ hr3 => exact hr3
  | go hp4 hs hr ih =>
    rename_i h ha hb oa ob
    have hs2 := step_more h t hp4 ha oa hs
    rw [List.append_assoc]
    refine Runs.go hp4 hs2 ?_
    by_cases h5 : ha.dead = true
    · have e : ha.more t = ha := by unfold more; rw [if_pos h5]
      rw [e]
      cases hr with
      | stop _ =>
        cases hr2 with
        | dead _ => exact Runs.stop (.inl h5)
        | live h6 _ => rw [h5] at h6; cases h6
      | go h6 _ _ => rw [h5] at h6; cases h6
    · have e : ha.more t = { ha with buf := ha.buf ++ t } := by unfold more; rw [if_neg h5]
      rw [e]
      exact ih (by simpa using h5) hr2
theorem feeds_pieces {h h1 h2 : Mat} {s t : List UInt8} {o1 o2 : List Answ} (f1 : Feeds h s h1 o1) (f2 : Feeds h1 t h2 o2) : Feeds h (s ++ t) h2 (o1 ++ o2) := by
  cases f1 with
  | dead h5 =>
    cases f2 with
    | dead _ => exact Feeds.dead h5
    | live h6 _ => rw [h5] at h6; cases h6
  | live h5 hr =>
    have := runs_more hr t h5 f2
    dsimp only at this
    rw [List.append_assoc] at this
    exact Feeds.live h5 this
theorem runs_one {h h1 h2 : Mat} {o1 o2 : List Answ} (r1 : Runs h o1 h1) (r2 : Runs h o2 h2) : h1 = h2 ∧ o1 = o2 := by
  induction r1 generalizing o2 h2 with
  | stop hs =>
    cases r2 with
    | stop _ => exact ⟨rfl, rfl⟩
    | go hp hs2 _ =>
      rcases hs with hs | hs
      · rw [hs] at hp; cases hp
      · rw [hs] at hs2; cases hs2
  | go hp hs hr ih =>
    cases r2 with
    | stop hs2 =>
      rcases hs2 with hs2 | hs2
      · rw [hs2] at hp; cases hp
      · rw [hs] at hs2; cases hs2
    | go hp2 hs2 hr2 =>
      rw [hs] at hs2
      cases hs2
      obtain ⟨e1, e2⟩ := ih hr2
      exact ⟨e1, by rw [e2]⟩
theorem feeds_one {h h1 h2 : Mat} {s : List UInt8} {o1 o2 : List Answ} (f1 : Feeds h s h1 o1) (f2 : Feeds h s h2 o2) : h1 = h2 ∧ o1 = o2 := by
  cases f1 with
  | dead h5 =>
    cases f2 with
    | dead _ => exact ⟨rfl, rfl⟩
    | live h6 _ => rw [h5] at h6; cases h6
  | live h5 r1 =>
    cases f2 with
    | dead h6 => rw [h6] at h5; cases h5
    | live _ r2 => exact runs_one r1 r2
end Mat
end Go.Proofs.Ytfcojhpnpfodeaa
