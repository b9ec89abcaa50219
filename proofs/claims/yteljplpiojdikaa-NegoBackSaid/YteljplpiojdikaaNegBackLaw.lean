/- There and back: what asks for contexts, and for an export: the plain laws. -/
import Derived.Test.YteljplpiojdikaaNegTells
namespace Go.Proofs.Yteljplpiojdikaa

theorem begO_begin (q t : List UInt8) (hq : q.length ≤ 20000) : readBegO (beginB q ++ t) = .ok q t := by
  have h4 : (be 4 q.length).length = 4 := be_length _ _
  have e : beginB q ++ t = be 4 q.length ++ (q ++ t) := by simp [beginB]
  have e1 : (be 4 q.length ++ (q ++ t)).take 4 = be 4 q.length := by rw [List.take_append_of_le_length (by omega), List.take_of_length_le (by omega)]
  have e2 : (be 4 q.length ++ (q ++ t)).drop 4 = q ++ t := by rw [List.drop_append_of_le_length (by omega), List.drop_of_length_le (by omega)]; rfl
  have e3 : de (be 4 q.length) = q.length := by rw [de_be]; exact Nat.mod_eq_of_lt (by omega)
  unfold readBegO dataO fourO takeO
  rw [e, if_neg (by rw [List.length_append]; omega), e1, e2, e3]
  dsimp only
  rw [if_neg (by omega), if_neg (by rw [List.length_append]; omega), List.take_left, List.drop_left]
theorem readBegs_flat : ∀ (l : List (List UInt8)) (t : List UInt8), (∀ x ∈ l, x.length ≤ 20000) → readBegs l.length (l.flatMap beginB ++ t) = some (l, t) := by
  intro l
  induction l with
  | nil => intro t _; rfl
  | cons a l ih =>
    intro t h
    rw [List.flatMap_cons, List.append_assoc, List.length_cons, readBegs, begO_begin _ _ (h a (by simp))]
    dsimp only
    rw [ih t (fun x hx => h x (by simp [hx]))]
theorem readMeta_back (name : List UInt8) (l : List (List UInt8)) (hn : name.length ≤ 20000) (hl : l.length ≤ 1000) (hx : ∀ x ∈ l, x.length ≤ 20000) : readMeta (metaB name l) = some (name, l) := by
  have h4 : (be 4 l.length).length = 4 := be_length _ _
  have e : metaB name l = beginB name ++ (be 4 l.length ++ (l.flatMap beginB ++ [])) := by simp [metaB]
  have e1 : (be 4 l.length ++ (l.flatMap beginB ++ [])).take 4 = be 4 l.length := by rw [List.take_append_of_le_length (by omega), List.take_of_length_le (by omega)]
  have e2 : (be 4 l.length ++ (l.flatMap beginB ++ [])).drop 4 = l.flatMap beginB ++ [] := by rw [List.drop_append_of_le_length (by omega), List.drop_of_length_le (by omega)]; rfl
  have e3 : de (be 4 l.length) = l.length := by rw [de_be]; exact Nat.mod_eq_of_lt (by omega)
  unfold readMeta
  rw [e, begO_begin _ _ hn]
  dsimp only
  rw [e1, e2, e3, if_neg (by rw [List.length_append]; omega), readBegs_flat _ _ hx]
  dsimp only
  rw [if_pos rfl]
theorem two_bytes (l : List UInt8) (h : l.length = 2) : ∃ a b, l = [a, b] := by
  match l, h with
  | [a, b], _ => exact ⟨a, b, rfl⟩
theorem pairs_flat : ∀ (l : List Nat), (∀ x ∈ l, x < 65536) → pairs (l.flatMap (be 2)) = l := by
  intro l
  induction l with
  | nil => intro _; rfl
  | cons a l ih =>
    intro h
    obtain ⟨x, y, hxy⟩ := two_bytes (be 2 a) (be_length _ _)
    have hd : de [x, y] = a := by
      rw [← hxy, de_be]
      exact Nat.mod_eq_of_lt (h a (by simp))
    rw [List.flatMap_cons, hxy]
    show de [x, y] :: pairs (l.flatMap (be 2)) = _
    rw [hd, ih (fun x hx => h x (by simp [hx]))]
theorem flat2_length (l : List Nat) : (l.flatMap (be 2)).length = 2 * l.length := by
  induction l with
  | nil => rfl
  | cons a l ih => rw [List.flatMap_cons, List.length_append, ih, be_length, List.length_cons]; omega
theorem readAsks_back (name : List UInt8) (l : List Nat) (hn : name.length ≤ 20000) (hl : l.length ≤ 2000) (hx : ∀ x ∈ l, x < 65536) : readAsks (asksB name l) = some (name, l) := by
  have h4 : (be 2 l.length).length = 2 := be_length _ _
  have e : asksB name l = beginB name ++ (be 2 l.length ++ l.flatMap (be 2)) := by simp [asksB]
  have e1 : (be 2 l.length ++ l.flatMap (be 2)).take 2 = be 2 l.length := by rw [List.take_append_of_le_length (by omega), List.take_of_length_le (by omega)]
  have e2 : (be 2 l.length ++ l.flatMap (be 2)).drop 2 = l.flatMap (be 2) := by rw [List.drop_append_of_le_length (by omega), List.drop_of_length_le (by omega)]; rfl
  have e3 : de (be 2 l.length) = l.length := by rw [de_be]; exact Nat.mod_eq_of_lt (by omega)
  unfold readAsks
  rw [e, begO_begin _ _ hn]
  dsimp only
  rw [e1, e2, e3, if_neg (by rw [List.length_append, flat2_length]; omega), pairs_flat l hx]

theorem begin_begO (s q r : List UInt8) (h : readBegO s = .ok q r) : s = beginB q ++ r ∧ q.length ≤ s.length := by
  unfold readBegO dataO fourO takeO at h
  by_cases h4 : s.length < 4
  · rw [if_pos h4] at h; simp at h
  · rw [if_neg h4] at h
    dsimp only at h
    by_cases h5 : 4294967296 < de (s.take 4)
    · rw [if_pos h5] at h; simp at h
    · rw [if_neg h5] at h
      by_cases h6 : (s.drop 4).length < de (s.take 4)
      · rw [if_pos h6] at h; simp at h
      · rw [if_neg h6] at h
        simp only [Out.ok.injEq] at h
        obtain ⟨rfl, rfl⟩ := h
        have hl : ((s.drop 4).take (de (s.take 4))).length = de (s.take 4) := by rw [List.length_take]; omega
        have hb : be 4 (de (s.take 4)) = s.take 4 := by
          have := be_of_de (s.take 4)
          rwa [show (s.take 4).length = 4 by rw [List.length_take]; omega] at this
        refine ⟨?_, ?_⟩
        · unfold beginB
          rw [hl, hb, List.append_assoc, List.take_append_drop, List.take_append_drop]
        · rw [hl]
          rw [List.length_drop] at h6
          omega
theorem flat_readBegs : ∀ (n : Nat) (s : List UInt8) (l : List (List UInt8)) (r : List UInt8), readBegs n s = some (l, r) → s = l.flatMap beginB ++ r ∧ ∀ x ∈ l, x.length ≤ s.length := by
  intro n
  induction n with
  | zero =>
    intro s l r h
    simp only [readBegs, Option.some.injEq, Prod.mk.injEq] at h
    obtain ⟨rfl, rfl⟩ := h
    exact ⟨rfl, by simp⟩
  | succ n ih =>
    intro s l r h
    rw [readBegs] at h
    cases h1 : readBegO s with
    | thrown e => rw [h1] at h; simp at h
    | ok q r1 =>
      rw [h1] at h
      dsimp only at h
      cases h2 : readBegs n r1 with
      | none => rw [h2] at h; simp at h
      | some x =>
        rw [h2] at h
        obtain ⟨l2, r2⟩ := x
        simp only [Option.some.injEq, Prod.mk.injEq] at h
        obtain ⟨rfl, rfl⟩ := h
        obtain ⟨e1, e2⟩ := ih r1 l2 r2 h2
        obtain ⟨e3, e4⟩ := begin_begO s q r1 h1
        refine ⟨?_, fun x hx => ?_⟩
        · rw [List.flatMap_cons, List.append_assoc, ← e1, e3]
        · rcases List.mem_cons.1 hx with rfl | hx
          · exact e4
          · have := e2 x hx
            have h5 : s.length = (beginB q ++ r1).length := congrArg _ e3
            rw [List.length_append] at h5
            omega
theorem metaB_back (s nm : List UInt8) (l : List (List UInt8)) (h : readMeta s = some (nm, l)) : metaB nm l = s ∧ l.length ≤ 1000 ∧ nm.length ≤ s.length ∧ ∀ x ∈ l, x.length ≤ s.length := by
  obtain ⟨r, h1, h2, h3, h4⟩ := readMeta_some s nm l h
  obtain ⟨e1, e2⟩ := flat_readBegs _ _ _ _ h4
  obtain ⟨e3, e4⟩ := begin_begO s nm r h1
  have hl := readBegs_len _ _ _ _ h4
  have hb : be 4 (de (r.take 4)) = r.take 4 := by
    have := be_of_de (r.take 4)
    rwa [show (r.take 4).length = 4 by rw [List.length_take]; omega] at this
  have hs : s.length = (beginB nm ++ r).length := congrArg _ e3
  rw [List.length_append] at hs
  refine ⟨?_, by omega, e4, fun x hx => ?_⟩
  · unfold metaB
    rw [hl, hb]
    have e5 : l.flatMap beginB = r.drop 4 := by rw [e1]; simp
    rw [e5, List.append_assoc, List.take_append_drop, ← e3]
  · have := e2 x hx
    rw [List.length_drop] at this
    omega
theorem pairs_back : ∀ (N : Nat) (d : List UInt8), d.length = 2 * N → (pairs d).flatMap (be 2) = d ∧ (pairs d).length = N ∧ ∀ x ∈ pairs d, x < 65536 := by
  intro N
  induction N with
  | zero =>
    intro d h
    have : d = [] := by simpa using h
    subst this
    exact ⟨rfl, rfl, by simp [pairs]⟩
  | succ N ih =>
    intro d h
    match d, h with
    | a :: b :: r, h =>
      obtain ⟨h1, h2, h3⟩ := ih r (by simp at h; omega)
      have hb := be_of_de [a, b]
      have hlt := de_lt [a, b]
      refine ⟨?_, by simp [pairs, h2], fun x hx => ?_⟩
      · show be 2 (de [a, b]) ++ (pairs r).flatMap (be 2) = _
        rw [h1]
        rw [show [a, b].length = 2 from rfl] at hb
        rw [hb]
        rfl
      · rcases List.mem_cons.1 (show x ∈ de [a, b] :: pairs r from hx) with rfl | hx
        · simpa using hlt
        · exact h3 x hx
theorem asksB_back (s nm : List UInt8) (l : List Nat) (h : readAsks s = some (nm, l)) : asksB nm l = s ∧ nm.length ≤ s.length ∧ 2 * l.length ≤ s.length ∧ ∀ x ∈ l, x < 65536 := by
  obtain ⟨r, h1, h2, h3, rfl⟩ := readAsks_some s nm l h
  obtain ⟨e1, e2, e3⟩ := pairs_back _ _ h3
  obtain ⟨e4, e5⟩ := begin_begO s nm r h1
  have hb : be 2 (de (r.take 2)) = r.take 2 := by
    have := be_of_de (r.take 2)
    rwa [show (r.take 2).length = 2 by rw [List.length_take]; omega] at this
  have hs : s.length = (beginB nm ++ r).length := congrArg _ e4
  rw [List.length_append] at hs
  rw [List.length_drop] at h3
  refine ⟨?_, e5, by omega, e3⟩
  unfold asksB
  rw [e1, e2, hb, List.append_assoc, List.take_append_drop, ← e4]
theorem asksZ_nat (name : List UInt8) (l : List Nat) (h : ∀ x ∈ l, x < 65536) : asksZ name (l.map Int.ofNat) = asksB name l := by
  unfold asksZ asksB
  rw [List.length_map]
  congr 1
  induction l with
  | nil => rfl
  | cons a l ih =>
    rw [List.map_cons, List.flatMap_cons, List.flatMap_cons, ih (fun x hx => h x (by simp [hx]))]
    congr 1
    have ha := h a (by simp)
    have : IntKind.u64.wrap (Int.ofNat a) = (a : Int) := by rw [IntKind.wrap_u64]; simp; omega
    rw [this]
    rfl
theorem metaB_len (name : List UInt8) (l : List (List UInt8)) : (metaB name l).length = 8 + name.length + 4 * l.length + sumL l l.length := by
  have : (l.flatMap beginB).length = 4 * l.length + sumL l l.length := by
    unfold sumL
    rw [List.take_length]
    induction l with
    | nil => rfl
    | cons a l ih => rw [List.flatMap_cons, List.length_append, ih, List.map_cons, List.sum_cons, List.length_cons]; simp only [beginB, List.length_append, be_length]; omega
  unfold metaB
  rw [List.length_append, List.length_append, this, be_length]
  simp only [beginB, List.length_append, be_length]
  omega
theorem asksB_len (name : List UInt8) (l : List Nat) : (asksB name l).length = 6 + name.length + 2 * l.length := by
  unfold asksB
  rw [List.length_append, List.length_append, flat2_length, be_length]
  simp only [beginB, List.length_append, be_length]
  omega
end Go.Proofs.Yteljplpiojdikaa
