/- A server's step takes bytes off, or ends: bounds. -/
import Derived.Test.YteljplpiojdikaaNegOption
namespace Go.Proofs.Yteljplpiojdikaa
namespace Neg

theorem doCtxs_out (o : Nat) (q : List (List UInt8)) (i : Nat) (l : List (List UInt8)) : (doCtxs o q i l).2.length ≤ 4116 * l.length := by
  induction l generalizing i with
  | nil => simp [doCtxs]
  | cons c l ih =>
    have h1 := ih (i + 1)
    have h2 := sayB_length o 4 (be 4 (i + 1) ++ c)
    unfold doCtxs
    dsimp only
    by_cases hw : wantedC o c q = true
    · rw [if_pos hw]
      simp only [List.length_append, List.length_cons]
      omega
    · rw [if_neg hw]
      simp only [List.length_cons]
      omega

/-- What an option does, in size. -/
structure Tame (n : Neg) (r : Neg × List UInt8) : Prop where
  out : r.2.length ≤ 50000
  buf : r.1.buf.length ≤ n.buf.length
  phase : r.1.phase ≤ 3

theorem tame_say (n n1 : Neg) (o k : Nat) (d : List UInt8) (hb : n1.buf.length ≤ n.buf.length) (hp : n1.phase ≤ 3) : Tame n (n1, sayB o k d) := by
  have := sayB_length o k d
  exact ⟨by dsimp only; omega, hb, hp⟩
theorem tame_metas (n : Neg) (maps : List (List UInt8)) (o : Nat) (d : List UInt8) (hp : n.phase ≤ 3) (hm : maps.length ≤ 10) : Tame n (n.doMetas maps o d) := by
  have h0 : (if o = 10 then ({ n with metas := [] } : Neg) else n).buf.length ≤ n.buf.length ∧ (if o = 10 then ({ n with metas := [] } : Neg) else n).phase ≤ 3 := by
    by_cases ho : o = 10
    · rw [if_pos ho]; exact ⟨Nat.le_refl _, hp⟩
    · rw [if_neg ho]; exact ⟨Nat.le_refl _, hp⟩
  unfold doMetas
  dsimp only
  cases readMeta d with
  | none => exact tame_say _ _ _ _ _ h0.1 h0.2
  | some x =>
    dsimp only
    by_cases h1 : n.chunks = false
    · rw [if_pos h1]; exact tame_say _ _ _ _ _ h0.1 h0.2
    · rw [if_neg h1]
      by_cases h2 : 8 < x.2.length
      · rw [if_pos h2]; exact tame_say _ _ _ _ _ h0.1 h0.2
      · rw [if_neg h2]
        by_cases h3 : ours x.1 = false
        · rw [if_pos h3]; exact tame_say _ _ _ _ _ h0.1 h0.2
        · rw [if_neg h3]
          have r1 := doCtxs_out o x.2 0 (contextsL maps)
          have r2 := sayB_length o 1 []
          have hl : (contextsL maps).length = maps.length + 1 := by simp [contextsL]
          rw [hl] at r1
          exact ⟨by simp only [List.length_append]; omega, h0.1, h0.2⟩
theorem tame_info (n : Neg) (sz o : Nat) (d : List UInt8) (hp : n.phase ≤ 3) : Tame n (n.doInfo sz o d) := by
  unfold doInfo
  cases readAsks d with
  | none => exact tame_say _ _ _ _ _ (Nat.le_refl _) hp
  | some x =>
    dsimp only
    by_cases h3 : ours x.1 = false
    · rw [if_pos h3]; exact tame_say _ _ _ _ _ (Nat.le_refl _) hp
    · rw [if_neg h3]
      have r1 := sayB_length o 3 ([0, 0] ++ sizeB sz)
      have r2 := sayB_length o 1 []
      refine ⟨by simp only [List.length_append] at r1 ⊢; omega, Nat.le_refl _, ?_⟩
      dsimp only
      split
      · omega
      · exact hp
theorem tame_opt (n : Neg) (sz : Nat) (maps : List (List UInt8)) (o : Nat) (d : List UInt8) (hp : n.phase ≤ 3) (hm : maps.length ≤ 10) : Tame n (n.doOpt sz maps o d) := by
  unfold doOpt
  by_cases h1 : o = 1
  · rw [if_pos h1]
    by_cases h2 : ours d = false
    · rw [if_pos h2]; exact ⟨by simp, by simp [die], by simp [die]⟩
    · rw [if_neg h2]
      refine ⟨?_, Nat.le_refl _, by simp⟩
      have hbe : (be 8 sz).length = 8 := be_length _ _
      dsimp only
      by_cases hb : n.brief = true
      · simp [hb, sizeB, hbe]
      · simp [hb, sizeB, hbe]
  · rw [if_neg h1]
    by_cases h2 : o = 2
    · rw [if_pos h2]; exact tame_say _ _ _ _ _ (by simp [die]) (by simp [die])
    · rw [if_neg h2]
      by_cases h3 : o = 3
      · rw [if_pos h3]
        have r1 := sayB_length o 2 (beginB disk)
        have r2 := sayB_length o 1 []
        have r3 := sayB_length o 2147483651 []
        refine ⟨?_, Nat.le_refl _, hp⟩
        dsimp only
        split
        · rw [List.length_append]; omega
        · omega
      · rw [if_neg h3]
        by_cases h4 : o = 6 ∨ o = 7
        · rw [if_pos h4]; exact tame_info _ _ _ _ hp
        · rw [if_neg h4]
          by_cases h5 : o = 8
          · rw [if_pos h5]
            by_cases hd : d = []
            · rw [if_pos hd]; exact tame_say _ _ _ _ _ (Nat.le_refl _) hp
            · rw [if_neg hd]; exact tame_say _ _ _ _ _ (Nat.le_refl _) hp
          · rw [if_neg h5]
            by_cases h6 : o = 9 ∨ o = 10
            · rw [if_pos h6]; exact tame_metas _ _ _ _ hp hm
            · rw [if_neg h6]; exact tame_say _ _ _ _ _ (Nat.le_refl _) hp

/-- What a step keeps, with what is left of the buffer. -/
structure Less (n : Neg) (r : Neg × List UInt8) : Prop where
  out : r.2.length + 50000 * r.1.buf.length ≤ 50000 * n.buf.length
  phase : r.1.phase ≤ 3
  less : 2 ≤ r.1.phase ∨ r.1.buf.length < n.buf.length
theorem less_step (n : Neg) (sz : Nat) (maps : List (List UInt8)) (hp : n.phase ≤ 3) (hm : maps.length ≤ 10) (r : Neg × List UInt8) (hs : n.step sz maps = some r) : Less n r := by
  unfold step at hs
  by_cases p0 : n.phase = 0
  · rw [if_pos p0] at hs
    unfold doFlags at hs
    dsimp only at hs
    by_cases h4 : n.buf.length < 4
    · rw [if_pos h4] at hs; cases hs
    · rw [if_neg h4] at hs
      cases hs
      split
      · exact ⟨by simp; omega, by simp, .inr (by simp; omega)⟩
      · exact ⟨by simp [die], by simp [die], .inl (by simp [die])⟩
  · rw [if_neg p0] at hs
    unfold doOption at hs
    dsimp only at hs
    by_cases h22 : (readOpt n.buf).2.2 = 22
    · rw [if_pos h22] at hs; cases hs
    · rw [if_neg h22] at hs
      by_cases hz : (readOpt n.buf).2.2 ≠ 0
      · rw [if_pos hz] at hs; cases hs; exact ⟨by simp [die], by simp [die], .inl (by simp [die])⟩
      · rw [if_neg hz] at hs
        obtain ⟨l1, -, -⟩ := readOpt_len n.buf (by simpa using hz)
        have ht := tame_opt { n with buf := (readOpt n.buf).2.1 } sz maps (readOpt n.buf).1.1 (readOpt n.buf).1.2 hp hm
        have e := Option.some.inj hs
        rw [e] at ht
        have a1 := ht.out
        have a2 := ht.buf
        dsimp only at a2
        exact ⟨by omega, ht.phase, .inr (by omega)⟩
end Neg

/-- What bounds a server under way. -/
structure Mild (n : Neg) (out : List UInt8) : Prop where
  buf : n.buf.length ≤ 20000
  out : out.length + 50000 * n.buf.length ≤ 1000000000
  phase : n.phase ≤ 3
theorem Mild.less {n n1 : Neg} {out o : List UInt8} (m : Mild n out) (l : Neg.Less n (n1, o)) : Mild n1 (out ++ o) := by
  have l3 := l.out
  have m1 := m.buf
  have m2 := m.out
  dsimp only at l3
  exact ⟨by omega, by rw [List.length_append]; omega, l.phase⟩
end Go.Proofs.Yteljplpiojdikaa
