/- What holds of a client behind asks: plain, no program. -/
import Derived.Test.YtfcojhpnpfodeaaMatFind
namespace Go.Proofs.Ytfcojhpnpfodeaa

/-- What waits is sound: a reading's texts are as long as it asks. -/
structure Wait.Ok (w : Wait) : Prop where
  wf : w.req.wf
  fit : w.req.fit = true
  read : w.req.kind = 0 → w.req.len ≤ 4096 ∧ w.data.length = w.req.len ∧ w.have_.length = w.req.len
  other : w.req.kind ≠ 0 → w.data = [] ∧ w.have_ = []
  err : w.err < 4294967296
  ctx : ∀ s ∈ w.spans, s.context < 4294967296 ∧ s.list.length ≤ 1000
/-- A client is sound; N bounds what may come. -/
structure Mat.Ok (N : Nat) (m : Mat) : Prop where
  waits : ∀ w ∈ m.waits, w.Ok ∧ w.spans.length + m.buf.length ≤ N
  few : m.waits.length ≤ 8
  apart : (m.waits.map (·.req.cookie)).Nodup
  dead : m.dead = true → m.waits = []
  buf : m.buf.length ≤ N

theorem fresh_ok (q : Req) (hq : q.wf) (hf : q.fit = true) (hk : ¬ (q.kind = 0 ∧ 4096 < q.len)) : (Wait.fresh q).Ok ∧ (Wait.fresh q).req = q ∧ (Wait.fresh q).spans = [] := by
  unfold Wait.fresh
  by_cases h : q.kind = 0
  · rw [if_pos h]
    have : ¬ 4096 < q.len := fun h2 => hk ⟨h, h2⟩
    exact ⟨⟨hq, hf, fun _ => ⟨by dsimp only; omega, by simp, by simp⟩, fun h2 => absurd h h2, by simp, by simp⟩, rfl, rfl⟩
  · rw [if_neg h]
    exact ⟨⟨hq, hf, fun h2 => absurd h2 h, fun _ => ⟨rfl, rfl⟩, by simp, by simp⟩, rfl, rfl⟩
/-- Behind asks. -/
structure Mat.Asked (m : Mat) : Prop where
  ok : m.Ok 0
  buf : m.buf = []
  dead : m.dead = false
  fresh : ∀ w ∈ m.waits, w = Wait.fresh w.req
theorem new_asked (c : Bool) : (Mat.new c).Asked := ⟨⟨by simp [Mat.new], by simp [Mat.new], by simp [Mat.new], by simp [Mat.new], by simp [Mat.new]⟩, rfl, rfl, by simp [Mat.new]⟩
theorem findW_no {l : List Wait} {c : Nat} (h : ¬ (findW l c).isSome = true) : ∀ w ∈ l, w.req.cookie ≠ c := by
  have h2 : findW l c = none := by simpa using h
  unfold findW at h2
  rw [List.findIdx?_eq_none_iff] at h2
  intro w hw
  have := h2 w hw
  simpa using this
theorem ask_asked {m : Mat} (h : m.Asked) (q : Req) (hq : q.wf) : (m.ask q).1.Asked ∧ (m.ask q).1.chunks = m.chunks := by
  unfold Mat.ask
  rw [if_neg (by simp [h.dead])]
  by_cases h1 : q.fit = false ∨ (q.kind = 0 ∧ 4096 < q.len)
  · rw [if_pos h1]; exact ⟨h, rfl⟩
  · rw [if_neg h1]
    by_cases h2 : (findW m.waits q.cookie).isSome = true
    · rw [if_pos h2]; exact ⟨h, rfl⟩
    · rw [if_neg h2]
      by_cases h3 : 8 ≤ m.waits.length
      · rw [if_pos h3]; exact ⟨h, rfl⟩
      · rw [if_neg h3]
        have hf : q.fit = true := by
          cases hx : q.fit with
          | true => rfl
          | false => exact absurd (.inl hx) h1
        obtain ⟨f1, f2, f3⟩ := fresh_ok q hq hf (fun h => h1 (.inr h))
        have hno := findW_no h2
        refine ⟨⟨⟨fun w hw => ?_, ?_, ?_, ?_, h.ok.buf⟩, h.buf, h.dead, fun w hw => ?_⟩, rfl⟩
        · rcases List.mem_append.1 hw with hw | hw
          · exact h.ok.waits w hw
          · simp only [List.mem_singleton] at hw
            subst hw
            exact ⟨f1, by rw [f3, h.buf]; simp⟩
        · dsimp only; rw [List.length_append, List.length_singleton]; omega
        · dsimp only
          rw [List.map_append, List.nodup_append]
          refine ⟨h.ok.apart, by simp, fun a ha b hb => ?_⟩
          simp only [List.map_cons, List.map_nil, List.mem_singleton] at hb
          obtain ⟨w, hw, rfl⟩ := List.mem_map.1 ha
          rw [hb, f2]
          exact hno w hw
        · intro hd; dsimp only at hd; rw [h.dead] at hd; cases hd
        · rcases List.mem_append.1 hw with hw | hw
          · exact h.fresh w hw
          · simp only [List.mem_singleton] at hw
            subst hw
            rw [f2]
def askedM (c : Bool) (l : List Req) : Mat := l.foldl (fun m q => (m.ask q).1) (Mat.new c)
theorem askedM_add (c : Bool) (l : List Req) (q : Req) : askedM c (l ++ [q]) = ((askedM c l).ask q).1 := by unfold askedM; rw [List.foldl_append]; rfl
theorem foldl_asked (l : List Req) : ∀ m : Mat, m.Asked → (∀ q ∈ l, q.wf) → (l.foldl (fun m q => (m.ask q).1) m).Asked ∧ (l.foldl (fun m q => (m.ask q).1) m).chunks = m.chunks := by
  induction l with
  | nil => intro m h _; exact ⟨h, rfl⟩
  | cons q l ih =>
    intro m h hl
    obtain ⟨h3, h4⟩ := ask_asked h q (hl q (by simp))
    obtain ⟨h1, h2⟩ := ih _ h3 (fun q hq => hl q (by simp [hq]))
    exact ⟨h1, h2.trans h4⟩
theorem askedM_asked (c : Bool) (l : List Req) (h : ∀ q ∈ l, q.wf) : (askedM c l).Asked ∧ (askedM c l).chunks = c := foldl_asked l _ (new_asked c) h

end Go.Proofs.Ytfcojhpnpfodeaa
