/- Options and answers: the plain laws, no program. -/
import Derived.Test.YtckkjkdpcnedkaaOptSpec
namespace Go.Proofs.Ytckkjkdpcnedkaa

/-- A head, taken off a beginning of what begins with it. -/
theorem headO_pre (h l : List UInt8) (c : Nat) : headO h ((h ++ l).take c) = if c < h.length then .thrown 22 else .ok () (l.take (c - h.length)) := by
  unfold headO takeO
  by_cases hc : c < h.length
  · rw [if_pos hc]
    have e : (h ++ l).take c = h.take c := by rw [List.take_append_of_le_length (by omega)]
    have e2 : (h.take c).length = c := by rw [List.length_take]; omega
    rw [e, e2, show min h.length c = c by omega, List.take_take, Nat.min_self, if_neg (by simp), if_pos hc]
  · rw [if_neg hc]
    have e : (h ++ l).take c = h ++ l.take (c - h.length) := by rw [List.take_append, List.take_of_length_le (by omega)]
    rw [e]
    have e2 : min h.length (h ++ l.take (c - h.length)).length = h.length := by simp
    rw [e2, if_neg (by simp), if_neg (by simp)]
    simp

theorem fourO_pre (n : Nat) (l : List UInt8) (c : Nat) (hn : n < 4294967296) : fourO ((be 4 n ++ l).take c) = if c < 4 then .thrown 22 else .ok n (l.take (c - 4)) := by
  unfold fourO
  have hl := be_length 4 n
  by_cases hc : c < 4
  · rw [if_pos hc, if_pos (by simp; omega)]
  · rw [if_neg hc]
    have e : (be 4 n ++ l).take c = be 4 n ++ l.take (c - 4) := by rw [List.take_append, List.take_of_length_le (by omega), hl]
    rw [e, if_neg (by simp; omega), List.take_left' hl, List.drop_left' hl, de_be, Nat.mod_eq_of_lt (by omega)]

theorem dataO_pre (most : Nat) (d l : List UInt8) (c : Nat) (hd : d.length < 4294967296) (hm : d.length ≤ most) :
    dataO most ((beginB d ++ l).take c) = if c < 4 + d.length then .thrown 22 else .ok d (l.take (c - 4 - d.length)) := by
  unfold dataO beginB
  rw [List.append_assoc, fourO_pre _ _ _ hd]
  by_cases hc : c < 4
  · rw [if_pos hc, if_pos (by omega)]
  · rw [if_neg hc]
    dsimp only
    rw [if_neg (by omega)]
    unfold takeO
    by_cases h2 : c < 4 + d.length
    · rw [if_pos h2, if_pos (by simp; omega)]
    · rw [if_neg h2]
      have e : (d ++ l).take (c - 4) = d ++ l.take (c - 4 - d.length) := by rw [List.take_append, List.take_of_length_le (by omega)]
      rw [e, if_neg (by simp)]
      simp

theorem framedB_length (head : List UInt8) (ns : List Nat) (d : List UInt8) : (framedB head ns d).length = head.length + (4 * ns.length + (4 + d.length)) := by
  unfold framedB beginB
  have h : ∀ l : List Nat, (l.flatMap (be 4)).length = 4 * l.length := by
    intro l
    induction l with
    | nil => rfl
    | cons a l ih => rw [List.flatMap_cons, List.length_append, ih, be_length, List.length_cons]; omega
  simp only [List.length_append, h, be_length]

theorem readOptO_pre (k : Nat) (d l : List UInt8) (c : Nat) (hk : k < 4294967296) (hd : d.length ≤ 4096) :
    readOptO ((framedB optHead [k] d ++ l).take c) = if c < 16 + d.length then .thrown 22 else .ok (k, d) (l.take (c - 16 - d.length)) := by
  unfold readOptO framedB
  rw [List.append_assoc, headO_pre]
  have h8 : optHead.length = 8 := rfl
  rw [h8]
  by_cases h1 : c < 8
  · rw [if_pos h1, if_pos (by omega)]
  · rw [if_neg h1]
    dsimp only
    rw [List.flatMap_cons, List.flatMap_nil, List.append_nil, List.append_assoc, fourO_pre _ _ _ hk]
    by_cases h2 : c - 8 < 4
    · rw [if_pos h2, if_pos (by omega)]
    · rw [if_neg h2]
      dsimp only
      rw [dataO_pre 4096 d l _ (by omega) hd]
      by_cases h3 : c < 16 + d.length
      · rw [if_pos h3, if_pos (by omega)]
      · rw [if_neg h3, if_neg (by omega), show c - 8 - 4 - 4 - d.length = c - 16 - d.length by omega]

theorem readAnsO_pre (o k : Nat) (d l : List UInt8) (c : Nat) (ho : o < 4294967296) (hk : k < 4294967296) (hd : d.length ≤ 4096) :
    readAnsO ((framedB ansHead [o, k] d ++ l).take c) = if c < 20 + d.length then .thrown 22 else .ok (o, k, d) (l.take (c - 20 - d.length)) := by
  unfold readAnsO framedB
  rw [List.append_assoc, headO_pre]
  have h8 : ansHead.length = 8 := rfl
  rw [h8]
  by_cases h1 : c < 8
  · rw [if_pos h1, if_pos (by omega)]
  · rw [if_neg h1]
    dsimp only
    rw [List.flatMap_cons, List.flatMap_cons, List.flatMap_nil, List.append_nil, List.append_assoc, List.append_assoc, fourO_pre _ _ _ ho]
    by_cases h2 : c - 8 < 4
    · rw [if_pos h2, if_pos (by omega)]
    · rw [if_neg h2]
      dsimp only
      rw [fourO_pre _ _ _ hk]
      by_cases h4 : c - 8 - 4 < 4
      · rw [if_pos h4, if_pos (by omega)]
      · rw [if_neg h4]
        dsimp only
        rw [dataO_pre 4096 d l _ (by omega) hd]
        by_cases h3 : c < 20 + d.length
        · rw [if_pos h3, if_pos (by omega)]
        · rw [if_neg h3, if_neg (by omega), show c - 8 - 4 - 4 - 4 - d.length = c - 20 - d.length by omega]

theorem opt_short (k : Nat) (d : List UInt8) (c : Nat) (hk : k < 4294967296) (hd : d.length ≤ 4096) (hc : c < (framedB optHead [k] d).length) : readOpt ((framedB optHead [k] d).take c) = ((0, []), [], 22) := by
  rw [framedB_length] at hc
  have h := readOptO_pre k d [] c hk hd
  rw [List.append_nil, if_pos (by simp [optHead] at hc; omega)] at h
  unfold readOpt
  rw [h]

theorem ans_short (o k : Nat) (d : List UInt8) (c : Nat) (ho : o < 4294967296) (hk : k < 4294967296) (hd : d.length ≤ 4096) (hc : c < (framedB ansHead [o, k] d).length) : readAns ((framedB ansHead [o, k] d).take c) = ((0, 0, []), [], 22) := by
  rw [framedB_length] at hc
  have h := readAnsO_pre o k d [] c ho hk hd
  rw [List.append_nil, if_pos (by simp [ansHead] at hc; omega)] at h
  unfold readAns
  rw [h]

theorem opt_back (k : Nat) (d l : List UInt8) (hk : k < 4294967296) (hd : d.length ≤ 4096) : readOpt (framedB optHead [k] d ++ l) = ((k, d), l, 0) := by
  have h := readOptO_pre k d l (framedB optHead [k] d ++ l).length hk hd
  have hl := framedB_length optHead [k] d
  simp only [optHead, List.length_cons, List.length_nil] at hl
  rw [List.take_length, if_neg (by rw [List.length_append]; simp only [optHead] at *; omega), List.take_of_length_le (by rw [List.length_append]; simp only [optHead] at *; omega)] at h
  unfold readOpt
  rw [h]

theorem ans_back (o k : Nat) (d l : List UInt8) (ho : o < 4294967296) (hk : k < 4294967296) (hd : d.length ≤ 4096) : readAns (framedB ansHead [o, k] d ++ l) = ((o, k, d), l, 0) := by
  have h := readAnsO_pre o k d l (framedB ansHead [o, k] d ++ l).length ho hk hd
  have hl := framedB_length ansHead [o, k] d
  simp only [ansHead, List.length_cons, List.length_nil] at hl
  rw [List.take_length, if_neg (by rw [List.length_append]; simp only [ansHead] at *; omega), List.take_of_length_le (by rw [List.length_append]; simp only [ansHead] at *; omega)] at h
  unfold readAns
  rw [h]

theorem opt_unlike (o k : Nat) (d l : List UInt8) : readOpt (framedB ansHead [o, k] d ++ l) = ((0, []), [], 14) := by
  have h : headO optHead (framedB ansHead [o, k] d ++ l) = .thrown 14 := by
    unfold headO
    rw [if_pos]
    intro e
    have := congrArg List.head? e
    simp [framedB, ansHead, optHead] at this
  unfold readOpt readOptO
  rw [h]

theorem ans_unlike (k : Nat) (d l : List UInt8) : readAns (framedB optHead [k] d ++ l) = ((0, 0, []), [], 14) := by
  have h : headO ansHead (framedB optHead [k] d ++ l) = .thrown 14 := by
    unfold headO
    rw [if_pos]
    intro e
    have := congrArg List.head? e
    simp [framedB, ansHead, optHead] at this
  unfold readAns readAnsO
  rw [h]

theorem greet_unlike (l : List UInt8) : readOpt (greeting ++ l) = ((0, []), [], 14) := by
  have h : headO optHead (greeting ++ l) = .thrown 14 := by
    unfold headO
    rw [if_pos]
    intro e
    have := congrArg List.head? e
    simp [greeting, optHead] at this
  unfold readOpt readOptO
  rw [h]

end Go.Proofs.Ytckkjkdpcnedkaa
