/- What stays sound of a client that is fed; EACH ONCE: plain, no program. -/
import Derived.Test.YtfcojhpnpfodeaaMatInv
namespace Go.Proofs.Ytfcojhpnpfodeaa

theorem come_ok3 {w w2 : Wait} {a : Nat} {s : List UInt8} (h : w.Ok) (hc : w.come a s = some w2) : w2.Ok ∧ w2.req = w.req ∧ w2.spans = w.spans ∧ w2.err = w.err := by
  unfold Wait.come at hc
  split at hc
  · cases hc
  · rename_i hn
    split at hc
    · cases hc
    · cases hc
      have hk : w.req.kind = 0 := Classical.byContradiction fun hk => hn (.inl hk)
      obtain ⟨h1, h2, h3⟩ := h.read hk
      refine ⟨⟨h.wf, h.fit, fun _ => ⟨h1, ?_, ?_⟩, fun hk2 => absurd hk hk2, h.err, h.ctx⟩, rfl, rfl, rfl⟩
      · dsimp only
        rw [List.length_append, List.length_append, List.length_take, List.length_drop]
        omega
      · dsimp only
        rw [List.length_append, List.length_append, List.length_take, List.length_drop, List.length_replicate]
        omega
theorem readExts_len (n : Nat) (t : List UInt8) (l : List Ext) (h : readExts n t = some l) : l.length = n := by
  induction n generalizing t l with
  | zero => unfold readExts at h; cases h; rfl
  | succ n ih =>
    unfold readExts at h
    split at h
    · cases h
    · split at h
      · cases h
      · rename_i l2 h2
        cases h
        rw [List.length_cons, ih _ _ h2]
theorem readStatus_facts {d : List UInt8} {c : Nat} {l : List Ext} (h : readStatus d = some (c, l)) : c < 4294967296 ∧ l.length ≤ 1000 := by
  unfold readStatus at h
  split at h
  · cases h
  · rename_i hn
    split at h
    · cases h
    · rename_i l2 h2
      cases h
      have := readExts_len _ _ _ h2
      exact ⟨rnum_lt d 0 4, by omega⟩
theorem apply_ok {w w2 : Wait} {k : Int} {d : List UInt8} (h : w.Ok) (hc : w.apply k d = some w2) : w2.Ok ∧ w2.req = w.req ∧ w2.spans.length ≤ w.spans.length + 1 := by
  unfold Wait.apply at hc
  split at hc
  · split at hc
    · cases hc; exact ⟨h, rfl, by omega⟩
    · cases hc
  split at hc
  · unfold Wait.bytes at hc
    split at hc
    · cases hc
    · obtain ⟨h1, h2, h3, _⟩ := come_ok3 h hc
      exact ⟨h1, h2, by rw [h3]; omega⟩
  split at hc
  · unfold Wait.hole at hc
    split at hc
    · cases hc
    · obtain ⟨h1, h2, h3, _⟩ := come_ok3 h hc
      exact ⟨h1, h2, by rw [h3]; omega⟩
  split at hc
  · unfold Wait.status at hc
    split at hc
    · cases hc
    · rename_i c l hs
      split at hc
      · cases hc
        obtain ⟨f1, f2⟩ := readStatus_facts hs
        refine ⟨⟨h.wf, h.fit, h.read, h.other, h.err, fun s hs => ?_⟩, rfl, by simp⟩
        rcases List.mem_append.1 hs with hs | hs
        · exact h.ctx s hs
        · simp only [List.mem_singleton] at hs
          subst hs
          exact ⟨f1, f2⟩
      · cases hc
  split at hc
  · unfold Wait.fail at hc
    split at hc
    · cases hc
    · rename_i hn
      cases hc
      refine ⟨⟨h.wf, h.fit, h.read, h.other, ?_, h.ctx⟩, rfl, by simp⟩
      dsimp only
      split
      · have := de_lt (d.take 4)
        have hl : (d.take 4).length ≤ 4 := by rw [List.length_take]; omega
        exact Nat.lt_of_lt_of_le this (Nat.pow_le_pow_right (by decide) hl)
      · exact h.err
  · cases hc

/-- An answer is sound. -/
structure Answ.Good (N : Nat) (a : Answ) : Prop where
  read : a.err = 0 → a.req.kind = 0 → a.data.length = a.req.len
  bad : a.err ≠ 0 → a.data = [] ∧ a.spans = []
  err : a.err < 4294967296
  ctx : ∀ s ∈ a.spans, s.context < 4294967296 ∧ s.list.length ≤ 1000
  few : a.spans.length ≤ N
/-- From one client to the next one: each is answered once. -/
structure Mat.Once (N : Nat) (m : Mat) (out : List Answ) (n : Mat) : Prop where
  ok : n.Ok N
  chunks : n.chunks = m.chunks
  came : ∀ a ∈ out, ∃ w ∈ m.waits, w.req = a.req
  left : ∀ w ∈ n.waits, ∃ v ∈ m.waits, v.req = w.req
  apart : (out.map (·.req.cookie) ++ n.waits.map (·.req.cookie)).Nodup
  good : ∀ a ∈ out, a.Good N
  count : n.dead = true ∨ n.waits.length + out.length = m.waits.length
  few : n.waits.length + out.length ≤ m.waits.length
  buf : n.buf.length ≤ m.buf.length
namespace Mat
theorem once_refl {N : Nat} {m : Mat} (h : m.Ok N) : m.Once N [] m :=
  ⟨h, rfl, by simp, fun w hw => ⟨w, hw, rfl⟩, by simpa using h.apart, by simp, .inr (by simp), by simp, Nat.le_refl _⟩
theorem once_kill {N : Nat} {m : Mat} (_h : m.Ok N) : m.Once N [] m.kill :=
  ⟨⟨by simp [kill], by simp [kill], by simp [kill], by simp [kill], by simp [kill]⟩, rfl, by simp, by simp [kill], by simp [kill], by simp, .inl rfl, by simp [kill], by simp [kill]⟩
theorem cookie_in {l : List Wait} {q : Req} (h : ∃ w ∈ l, w.req = q) : q.cookie ∈ l.map (·.req.cookie) := by
  obtain ⟨w, hw, e⟩ := h
  exact List.mem_map.2 ⟨w, hw, by rw [e]⟩
theorem once_next {N : Nat} {m m1 m2 : Mat} {o1 o2 : List Answ} (h1 : m.Once N o1 m1) (h2 : m1.Once N o2 m2) (hd : m1.dead = true → m2.dead = true) : m.Once N (o1 ++ o2) m2 := by
  refine ⟨h2.ok, h2.chunks.trans h1.chunks, fun a ha => ?_, fun w hw => ?_, ?_, fun a ha => ?_, ?_, ?_, Nat.le_trans h2.buf h1.buf⟩
  · rcases List.mem_append.1 ha with ha | ha
    · exact h1.came a ha
    · obtain ⟨w, hw, e⟩ := h2.came a ha
      obtain ⟨v, hv, e2⟩ := h1.left w hw
      exact ⟨v, hv, e2.trans e⟩
  · obtain ⟨v, hv, e⟩ := h2.left w hw
    obtain ⟨u, hu, e2⟩ := h1.left v hv
    exact ⟨u, hu, e2.trans e⟩
  · rw [List.map_append, List.append_assoc, List.nodup_append]
    obtain ⟨a1, a2, a3⟩ := List.nodup_append.1 h1.apart
    refine ⟨a1, h2.apart, fun x hx y hy => ?_⟩
    apply a3 x hx y
    rcases List.mem_append.1 hy with hy | hy
    · obtain ⟨a, ha, rfl⟩ := List.mem_map.1 hy
      exact cookie_in (h2.came a ha)
    · obtain ⟨w, hw, rfl⟩ := List.mem_map.1 hy
      exact cookie_in (h2.left w hw)
  · rcases List.mem_append.1 ha with ha | ha
    · exact h1.good a ha
    · exact h2.good a ha
  · rcases h1.count with h | h
    · exact .inl (hd h)
    · rcases h2.count with h' | h'
      · exact .inl h'
      · exact .inr (by rw [List.length_append]; omega)
  · have := h1.few
    have := h2.few
    rw [List.length_append]
    omega
theorem eraseIdx_cookies (l : List Wait) (k : Nat) (w : Wait) (h : l[k]? = some w) (hn : (l.map (·.req.cookie)).Nodup) : (w.req.cookie :: (l.eraseIdx k).map (·.req.cookie)).Nodup := by
  induction l generalizing k with
  | nil => simp at h
  | cons a l ih =>
    rw [List.map_cons, List.nodup_cons] at hn
    cases k with
    | zero =>
      simp only [List.getElem?_cons_zero, Option.some.injEq] at h
      subst h
      rw [List.eraseIdx_cons_zero, List.nodup_cons]
      exact hn
    | succ k =>
      rw [List.getElem?_cons_succ] at h
      have ih2 := ih k h hn.2
      rw [List.nodup_cons] at ih2
      rw [List.eraseIdx_cons_succ, List.map_cons, List.nodup_cons, List.nodup_cons]
      have hw : w.req.cookie ∈ l.map (·.req.cookie) := List.mem_map.2 ⟨w, List.mem_of_getElem? h, rfl⟩
      refine ⟨fun hm => ?_, fun hm => hn.1 ?_, ih2.2⟩
      · rcases List.mem_cons.1 hm with e | hm
        · exact hn.1 (e ▸ hw)
        · exact ih2.1 hm
      · obtain ⟨v, hv, e⟩ := List.mem_map.1 hm
        exact List.mem_map.2 ⟨v, List.mem_of_mem_eraseIdx hv, e⟩
theorem once_done {N : Nat} {m : Mat} (h : m.Ok N) (hd : m.dead = false) (k : Nat) (w : Wait) (hk : m.waits[k]? = some w) (rest : List UInt8) (hr : rest.length ≤ m.buf.length) (a : Answ) (ha : a.Good N) (hq : a.req = w.req) :
    m.Once N [a] { m with buf := rest, waits := m.waits.eraseIdx k } := by
  have hkl := (List.getElem?_eq_some_iff.1 hk).1
  have hl := List.length_eraseIdx_of_lt hkl
  have he := eraseIdx_cookies m.waits k w hk h.apart
  refine ⟨⟨fun v hv => ?_, ?_, ?_, fun hd2 => ?_, ?_⟩, rfl, fun b hb => ?_, fun v hv => ⟨v, List.mem_of_mem_eraseIdx hv, rfl⟩, ?_, fun b hb => ?_, .inr ?_, ?_, hr⟩
  · obtain ⟨h1, h2⟩ := h.waits v (List.mem_of_mem_eraseIdx hv)
    exact ⟨h1, by dsimp only; omega⟩
  · dsimp only; rw [hl]; have := h.few; omega
  · exact (List.nodup_cons.1 he).2
  · dsimp only at hd2; rw [hd] at hd2; cases hd2
  · have := h.buf; dsimp only; omega
  · simp only [List.mem_singleton] at hb
    subst hb
    exact ⟨w, List.mem_of_getElem? hk, hq.symm⟩
  · simpa [hq] using he
  · simp only [List.mem_singleton] at hb
    subst hb
    exact ha
  · dsimp only; rw [hl]; simp; omega
  · dsimp only; rw [hl]; simp; omega
theorem readRep_facts (s : List UInt8) (n : Int) (h : (readRep s n).2.2 = 0) : (readRep s n).2.1.length < s.length ∧ ((readRep s n).1.err = 0 → (readRep s n).1.data.length = n.toNat) ∧ ((readRep s n).1.err ≠ 0 → (readRep s n).1.data = []) ∧ (readRep s n).1.err < 4294967296 := by
  have hl := rnum_lt s 4 4
  unfold readRep at h ⊢
  by_cases h0 : n < 0 ∨ 4096 < n
  · rw [if_pos h0] at h; simp at h
  · rw [if_neg h0] at h ⊢
    by_cases hb : beginsE s oneHead 16 ≠ 0
    · rw [if_pos hb] at h; exact absurd h hb
    · rw [if_neg hb] at h ⊢
      have h16 : 16 ≤ s.length := by
        have hb2 : beginsE s oneHead 16 = 0 := by simpa using hb
        unfold beginsE at hb2
        split at hb2
        · split at hb2
          · simp at hb2
          · omega
        · simp at hb2
      by_cases h4 : rnum s 4 4 ≠ 0
      · rw [if_pos h4]
        exact ⟨by dsimp only; rw [List.length_drop]; omega, fun he => absurd he h4, fun _ => rfl, hl⟩
      · rw [if_neg h4] at h ⊢
        by_cases h5 : s.length - 16 < n.toNat
        · rw [if_pos h5] at h; simp at h
        · rw [if_neg h5]
          refine ⟨by dsimp only; rw [List.length_drop, List.length_drop]; omega, fun _ => by dsimp only; rw [List.length_take, List.length_drop]; omega, fun he => absurd (by simpa using h4) he, hl⟩
theorem readChunk_rest (s : List UInt8) (h : (readChunk s).2.2 = 0) : (readChunk s).2.1.length < s.length := by
  unfold readChunk at h ⊢
  by_cases hb : beginsE s pieceHead 20 ≠ 0
  · rw [if_pos hb] at h; exact absurd h hb
  · rw [if_neg hb] at h ⊢
    have h20 : 20 ≤ s.length := by
      have hb2 : beginsE s pieceHead 20 = 0 := by simpa using hb
      unfold beginsE at hb2
      split at hb2
      · split at hb2
        · simp at hb2
        · omega
      · simp at hb2
    split
    · dsimp only [List.length_nil]; omega
    · split
      · dsimp only [List.length_nil]; omega
      · split
        · dsimp only [List.length_nil]; omega
        · dsimp only; rw [List.length_drop, List.length_drop]; omega
theorem answ_good {N : Nat} {w : Wait} (h : w.Ok) (hs : w.spans.length ≤ N) : w.answ.Good N ∧ w.answ.req = w.req := by
  unfold Wait.answ
  by_cases he : w.err = 0
  · rw [if_pos he]
    exact ⟨⟨fun _ hk => (h.read hk).2.1, fun hn => absurd rfl hn, Nat.zero_lt_succ _, h.ctx, hs⟩, rfl⟩
  · rw [if_neg he]
    exact ⟨⟨fun h0 => absurd h0 he, fun _ => ⟨rfl, rfl⟩, h.err, by simp, by simp⟩, rfl⟩
/-- One step. -/
theorem chunk_once {N : Nat} {m m1 : Mat} {o : List Answ} (h : m.Ok N) (hd : m.dead = false) (hs : m.chunk = some (m1, o)) : m.Once N o m1 ∧ (m1.dead = true ∨ m1.buf.length < m.buf.length) := by
  unfold chunk at hs
  split at hs
  · cases hs
  split at hs
  · cases hs; exact ⟨once_kill h, .inl rfl⟩
  rename_i h22 h0
  have hr := readChunk_rest m.buf (by simpa using h0)
  split at hs
  · cases hs; exact ⟨once_kill h, .inl rfl⟩
  rename_i k hf
  split at hs
  · cases hs
  rename_i w hk
  generalize (readChunk m.buf).2.1 = rest at *
  generalize (readChunk m.buf).1 = c at *
  cases hs2 : w.apply c.kind c.data with
  | none =>
    rw [hs2] at hs
    have : m.applied k c.done rest none = (m.kill, []) := rfl
    rw [this] at hs
    cases hs
    exact ⟨once_kill h, .inl rfl⟩
  | some w2 =>
    rw [hs2] at hs
    obtain ⟨hw1, hw2⟩ := h.waits w (List.mem_of_getElem? hk)
    obtain ⟨a1, a2, a3⟩ := apply_ok hw1 hs2
    unfold applied at hs
    dsimp only at hs
    split at hs
    · split at hs
      · cases hs; exact ⟨once_kill h, .inl rfl⟩
      · cases hs
        obtain ⟨g1, g2⟩ := answ_good (N := N) a1 (by omega)
        exact ⟨once_done h hd k w hk rest (by omega) _ g1 (g2.trans a2), .inr hr⟩
    · cases hs
      refine ⟨⟨⟨fun v hv => ?_, ?_, ?_, fun hd2 => ?_, ?_⟩, rfl, by simp, fun v hv => ?_, ?_, by simp, .inr (by simp), by simp, by dsimp only; omega⟩, .inr hr⟩
      · rcases List.mem_or_eq_of_mem_set hv with hv | rfl
        · obtain ⟨h1, h2⟩ := h.waits v hv
          exact ⟨h1, by dsimp only; omega⟩
        · exact ⟨a1, by dsimp only; omega⟩
      · dsimp only; rw [List.length_set]; exact h.few
      · dsimp only
        rw [List.map_set, a2]
        have e : (m.waits.map (·.req.cookie)).set k w.req.cookie = m.waits.map (·.req.cookie) := by
          apply List.ext_getElem?
          intro j
          rw [List.getElem?_set]
          split
          · rename_i hj
            subst hj
            rw [List.getElem?_map, hk]
            have := (List.getElem?_eq_some_iff.1 hk).1
            simp [this]
          · rfl
        rw [e]
        exact h.apart
      · dsimp only at hd2; rw [hd] at hd2; cases hd2
      · have := h.buf; dsimp only; omega
      · rcases List.mem_or_eq_of_mem_set hv with hv | rfl
        · exact ⟨v, hv, rfl⟩
        · exact ⟨w, List.mem_of_getElem? hk, a2.symm⟩
      · dsimp only
        rw [List.map_nil, List.nil_append, List.map_set, a2]
        have e : (m.waits.map (·.req.cookie)).set k w.req.cookie = m.waits.map (·.req.cookie) := by
          apply List.ext_getElem?
          intro j
          rw [List.getElem?_set]
          split
          · rename_i hj
            subst hj
            rw [List.getElem?_map, hk]
            have := (List.getElem?_eq_some_iff.1 hk).1
            simp [this]
          · rfl
        rw [e]
        exact h.apart
theorem simple_once {N : Nat} {m m1 : Mat} {o : List Answ} (h : m.Ok N) (hd : m.dead = false) (hs : m.simple = some (m1, o)) : m.Once N o m1 ∧ (m1.dead = true ∨ m1.buf.length < m.buf.length) := by
  unfold simple at hs
  split at hs
  · cases hs
  split at hs
  · cases hs; exact ⟨once_kill h, .inl rfl⟩
  split at hs
  · cases hs; exact ⟨once_kill h, .inl rfl⟩
  rename_i k hf
  split at hs
  · cases hs
  rename_i w hk
  split at hs
  · cases hs
  rename_i h0
  cases hs
  obtain ⟨f1, f2, f3, f4⟩ := readRep_facts m.buf (wants w.req) (by simpa using h0)
  have hw := (h.waits w (List.mem_of_getElem? hk)).1
  refine ⟨once_done h hd k w hk _ (by omega) _ ⟨fun he hk0 => ?_, fun he => ⟨f3 he, rfl⟩, f4, by simp, by simp⟩ rfl, .inr f1⟩
  dsimp only at he hk0 ⊢
  rw [f2 he]
  unfold wants
  rw [if_pos hk0]
  simp
theorem step_once {N : Nat} {m m1 : Mat} {o : List Answ} (h : m.Ok N) (hd : m.dead = false) (hs : m.step = some (m1, o)) : m.Once N o m1 ∧ (m1.dead = true ∨ m1.buf.length < m.buf.length) := by
  unfold step at hs
  split at hs
  · exact chunk_once h hd hs
  · exact simple_once h hd hs
theorem runs_dead {m n : Mat} {out : List Answ} (hr : Runs m out n) (hd : m.dead = true) : n.dead = true := by
  cases hr with
  | stop _ => exact hd
  | go hp _ _ => rw [hd] at hp; cases hp
theorem runs_once {N : Nat} {m n : Mat} {out : List Answ} (hr : Runs m out n) (h : m.Ok N) : m.Once N out n := by
  induction hr with
  | stop _ => exact once_refl h
  | go hp hs hr ih =>
    have h1 := (step_once h hp hs).1
    exact once_next h1 (ih h1.ok) (runs_dead hr)
/-- Bytes at hand; what was sound is. -/
theorem fed_ok {N : Nat} {m : Mat} {s : List UInt8} (h : m.Ok N) : Ok (N + s.length) { m with buf := m.buf ++ s } := by
  refine ⟨fun w hw => ?_, h.few, h.apart, h.dead, ?_⟩
  · obtain ⟨h1, h2⟩ := h.waits w hw
    exact ⟨h1, by dsimp only; rw [List.length_append]; omega⟩
  · have := h.buf
    dsimp only
    rw [List.length_append]
    omega
theorem ok_mono {N M : Nat} {m : Mat} (h : m.Ok N) (hn : N ≤ M) : m.Ok M :=
  ⟨fun w hw => ⟨(h.waits w hw).1, Nat.le_trans (h.waits w hw).2 hn⟩, h.few, h.apart, h.dead, Nat.le_trans h.buf hn⟩
theorem feeds_once {N : Nat} {m n : Mat} {s : List UInt8} {out : List Answ} (hf : Feeds m s n out) (h : m.Ok N) : ∃ m' : Mat, m'.waits = m.waits ∧ m'.chunks = m.chunks ∧ m'.Once (N + s.length) out n ∧ (m.dead = true → n = m ∧ out = []) := by
  cases hf with
  | dead hp => exact ⟨m, rfl, rfl, once_refl (ok_mono h (by omega)), fun _ => ⟨rfl, rfl⟩⟩
  | live hp hr => exact ⟨{ m with buf := m.buf ++ s }, rfl, rfl, runs_once hr (fed_ok h), fun hd => by rw [hd] at hp; cases hp⟩
end Mat
end Go.Proofs.Ytfcojhpnpfodeaa
