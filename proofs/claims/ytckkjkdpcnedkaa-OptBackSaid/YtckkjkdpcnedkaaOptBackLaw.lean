/- What is read as an option or an answer stood there as it is written. -/
import Derived.Test.YtckkjkdpcnedkaaOptLaw
import Derived.Test.YtckkjkdpcnedkaaReadOpt
namespace Go.Proofs.Ytckkjkdpcnedkaa

theorem dataO_ok (m : Nat) (t d r : List UInt8) (h : dataO m t = .ok d r) : t = beginB d ++ r ∧ d.length ≤ m ∧ d.length < 4294967296 := by
  unfold dataO at h
  cases h4 : fourO t with
  | thrown e => rw [h4] at h; cases h
  | ok n r2 =>
    rw [h4] at h
    dsimp only at h
    obtain ⟨hl, rfl, rfl⟩ := fourO_ok _ _ _ h4
    by_cases hm : m < de (t.take 4)
    · rw [if_pos hm] at h; cases h
    · rw [if_neg hm] at h
      unfold takeO at h
      by_cases h2 : (t.drop 4).length < de (t.take 4)
      · rw [if_pos h2] at h; cases h
      · rw [if_neg h2] at h
        simp only [Out.ok.injEq] at h
        obtain ⟨rfl, rfl⟩ := h
        have e4 : (t.take 4).length = 4 := by rw [List.length_take]; omega
        have hb := be_of_de (t.take 4)
        rw [e4] at hb
        have hlt := de_lt (t.take 4)
        rw [e4] at hlt
        have hlen : ((t.drop 4).take (de (t.take 4))).length = de (t.take 4) := by rw [List.length_take]; omega
        refine ⟨?_, by omega, by omega⟩
        unfold beginB
        rw [hlen, hb, List.append_assoc, List.take_append_drop, List.take_append_drop]

theorem four_back (t : List UInt8) (h : 4 ≤ t.length) : be 4 (de (t.take 4)) ++ t.drop 4 = t ∧ de (t.take 4) < 4294967296 := by
  have e4 : (t.take 4).length = 4 := by rw [List.length_take]; omega
  have hb := be_of_de (t.take 4)
  have hlt := de_lt (t.take 4)
  rw [e4] at hb hlt
  exact ⟨by rw [hb, List.take_append_drop], by omega⟩

theorem headO_err (hd t : List UInt8) (n : Int) (h : headO hd t = .thrown n) : n ≠ 0 := by
  unfold headO takeO at h
  split at h
  · cases h; decide
  · split at h
    · rename_i _ _ heq
      split at heq
      · cases heq; cases h; decide
      · cases heq
    · cases h

theorem fourO_err (t : List UInt8) (n : Int) (h : fourO t = .thrown n) : n ≠ 0 := by rw [(fourO_thrown _ _ h).2]; decide
theorem dataO_err (m : Nat) (t : List UInt8) (n : Int) (h : dataO m t = .thrown n) : n ≠ 0 := by
  unfold dataO at h
  cases h4 : fourO t with
  | thrown e => rw [h4] at h; cases h; exact fourO_err _ _ h4
  | ok k r2 =>
    rw [h4] at h
    dsimp only at h
    unfold takeO at h
    split at h
    · cases h; decide
    · split at h
      · cases h; decide
      · cases h

theorem opt_read (s : List UInt8) (k : Nat) (d r : List UInt8) (h : readOpt s = ((k, d), r, 0)) : k < 4294967296 ∧ d.length ≤ 4096 ∧ s = framedB optHead [k] d ++ r := by
  unfold readOpt at h
  cases ho : readOptO s with
  | thrown n =>
    exfalso
    rw [ho] at h
    simp only [Prod.mk.injEq] at h
    unfold readOptO at ho
    cases h1 : headO optHead s with
    | thrown e => rw [h1] at ho; cases ho; exact headO_err _ _ _ h1 h.2.2
    | ok u r1 =>
      rw [h1] at ho
      dsimp only at ho
      cases h2 : fourO r1 with
      | thrown e => rw [h2] at ho; cases ho; exact fourO_err _ _ h2 h.2.2
      | ok a r2 =>
        rw [h2] at ho
        dsimp only at ho
        cases h3 : dataO 4096 r2 with
        | thrown e => rw [h3] at ho; cases ho; exact dataO_err _ _ _ h3 h.2.2
        | ok b r3 => rw [h3] at ho; cases ho
  | ok x r0 =>
    rw [ho] at h
    simp only [Prod.mk.injEq] at h
    obtain ⟨rfl, rfl, -⟩ := h
    unfold readOptO at ho
    cases h1 : headO optHead s with
    | thrown e => rw [h1] at ho; cases ho
    | ok u r1 =>
      rw [h1] at ho
      dsimp only at ho
      obtain ⟨h8, ht, rfl⟩ := headO_ok _ _ _ _ rfl h1
      cases h2 : fourO (s.drop 8) with
      | thrown e => rw [h2] at ho; cases ho
      | ok a r2 =>
        rw [h2] at ho
        dsimp only at ho
        obtain ⟨hl, rfl, rfl⟩ := fourO_ok _ _ _ h2
        obtain ⟨f1, f2⟩ := four_back (s.drop 8) hl
        cases h3 : dataO 4096 ((s.drop 8).drop 4) with
        | thrown e => rw [h3] at ho; cases ho
        | ok b r3 =>
          rw [h3] at ho
          simp only [Out.ok.injEq, Prod.mk.injEq] at ho
          obtain ⟨⟨rfl, rfl⟩, rfl⟩ := ho
          obtain ⟨g1, g2, g3⟩ := dataO_ok _ _ _ _ h3
          refine ⟨f2, g2, ?_⟩
          unfold framedB
          rw [List.flatMap_cons, List.flatMap_nil, List.append_nil, List.append_assoc, List.append_assoc, ← g1, f1, ← ht, List.take_append_drop]

theorem ans_read (s : List UInt8) (o k : Nat) (d r : List UInt8) (h : readAns s = ((o, k, d), r, 0)) : o < 4294967296 ∧ k < 4294967296 ∧ d.length ≤ 4096 ∧ s = framedB ansHead [o, k] d ++ r := by
  unfold readAns at h
  cases ho : readAnsO s with
  | thrown n =>
    exfalso
    rw [ho] at h
    simp only [Prod.mk.injEq] at h
    unfold readAnsO at ho
    cases h1 : headO ansHead s with
    | thrown e => rw [h1] at ho; cases ho; exact headO_err _ _ _ h1 h.2.2
    | ok u r1 =>
      rw [h1] at ho
      dsimp only at ho
      cases h2 : fourO r1 with
      | thrown e => rw [h2] at ho; cases ho; exact fourO_err _ _ h2 h.2.2
      | ok a r2 =>
        rw [h2] at ho
        dsimp only at ho
        cases h4 : fourO r2 with
        | thrown e => rw [h4] at ho; cases ho; exact fourO_err _ _ h4 h.2.2
        | ok a2 r4 =>
          rw [h4] at ho
          dsimp only at ho
          cases h3 : dataO 4096 r4 with
          | thrown e => rw [h3] at ho; cases ho; exact dataO_err _ _ _ h3 h.2.2
          | ok b r3 => rw [h3] at ho; cases ho
  | ok x r0 =>
    rw [ho] at h
    simp only [Prod.mk.injEq] at h
    obtain ⟨rfl, rfl, -⟩ := h
    unfold readAnsO at ho
    cases h1 : headO ansHead s with
    | thrown e => rw [h1] at ho; cases ho
    | ok u r1 =>
      rw [h1] at ho
      dsimp only at ho
      obtain ⟨h8, ht, rfl⟩ := headO_ok _ _ _ _ rfl h1
      cases h2 : fourO (s.drop 8) with
      | thrown e => rw [h2] at ho; cases ho
      | ok a r2 =>
        rw [h2] at ho
        dsimp only at ho
        obtain ⟨hl, rfl, rfl⟩ := fourO_ok _ _ _ h2
        obtain ⟨f1, f2⟩ := four_back (s.drop 8) hl
        cases h4 : fourO ((s.drop 8).drop 4) with
        | thrown e => rw [h4] at ho; cases ho
        | ok a2 r4 =>
          rw [h4] at ho
          dsimp only at ho
          obtain ⟨hl2, rfl, rfl⟩ := fourO_ok _ _ _ h4
          obtain ⟨f3, f4⟩ := four_back ((s.drop 8).drop 4) hl2
          cases h3 : dataO 4096 (((s.drop 8).drop 4).drop 4) with
          | thrown e => rw [h3] at ho; cases ho
          | ok b r3 =>
            rw [h3] at ho
            simp only [Out.ok.injEq, Prod.mk.injEq] at ho
            obtain ⟨⟨rfl, rfl, rfl⟩, rfl⟩ := ho
            obtain ⟨g1, g2, g3⟩ := dataO_ok _ _ _ _ h3
            refine ⟨f2, f4, g2, ?_⟩
            unfold framedB
            rw [List.flatMap_cons, List.flatMap_cons, List.flatMap_nil, List.append_nil, List.append_assoc, List.append_assoc, List.append_assoc, ← g1, f3, f1, ← ht, List.take_append_drop]

end Go.Proofs.Ytckkjkdpcnedkaa
