/- Requests as bytes: the plain laws. -/
import Derived.Test.YtfcojhpnpfodeaaReqSpec
namespace Go.Proofs.Ytfcojhpnpfodeaa

theorem num_append (l m : List UInt8) (a n : Nat) (h : a + n ≤ l.length) : num (l ++ m) a n = num l a n := by
  unfold num
  rw [List.drop_append_of_le_length (by omega), List.take_append_of_le_length (by simp; omega)]

theorem num_take (l : List UInt8) (k a n : Nat) (h : a + n ≤ k) : num (l.take k) a n = num l a n := by
  unfold num
  rw [List.drop_take, List.take_take, Nat.min_eq_left (by omega)]

theorem num_mid (pre x post : List UInt8) (a n : Nat) (ha : pre.length = a) (hn : x.length = n) : num (pre ++ (x ++ post)) a n = de x := by
  unfold num
  subst ha hn
  simp

theorem reqBytes_length (q : Req) : (reqBytes q).length = 28 + q.data.length := by
  simp [reqBytes, be_length, reqHead]; omega

theorem reqBytes_nums (q : Req) : num (reqBytes q) 4 2 = q.flags.toNat % 65536 ∧ num (reqBytes q) 6 2 = q.kind.toNat % 65536 ∧ num (reqBytes q) 8 8 = q.cookie % 18446744073709551616 ∧
    num (reqBytes q) 16 8 = q.frm % 18446744073709551616 ∧ num (reqBytes q) 24 4 = q.len % 4294967296 ∧ (reqBytes q).drop 28 = q.data ∧ (reqBytes q).take 4 = reqHead := by
  refine ⟨?_, ?_, ?_, ?_, ?_, ?_, ?_⟩
  · rw [reqBytes, num_mid reqHead _ _ 4 2 rfl (be_length _ _), de_be]
  · rw [reqBytes, ← List.append_assoc, num_mid _ _ _ _ _ (by simp [be_length, reqHead]) (be_length _ _), de_be]
  · rw [reqBytes, ← List.append_assoc, ← List.append_assoc, num_mid _ _ _ _ _ (by simp [be_length, reqHead]) (be_length _ _), de_be]
  · rw [reqBytes, ← List.append_assoc, ← List.append_assoc, ← List.append_assoc, num_mid _ _ _ _ _ (by simp [be_length, reqHead]) (be_length _ _), de_be]
  · rw [reqBytes, ← List.append_assoc, ← List.append_assoc, ← List.append_assoc, ← List.append_assoc, num_mid _ _ _ _ _ (by simp [be_length, reqHead]) (be_length _ _), de_be]
  · rw [reqBytes, ← List.append_assoc, ← List.append_assoc, ← List.append_assoc, ← List.append_assoc, ← List.append_assoc, List.drop_left' (by simp [be_length, reqHead])]
  · rw [reqBytes, List.take_left' (by rfl)]

theorem req_back (q : Req) (hq : q.wf) (hf : q.fit = true) (more : List UInt8) : readReq (reqBytes q ++ more) = (q, more, 0) := by
  obtain ⟨n1, n2, n3, n4, n5, n6, n7⟩ := reqBytes_nums q
  obtain ⟨h1, h2, h3, h4, h5, h6, h7⟩ := fit_bounds q hf
  have hl := reqBytes_length q
  have m1 := (num_append (reqBytes q) more 4 2 (by omega)).trans n1
  have m2 := (num_append (reqBytes q) more 6 2 (by omega)).trans n2
  have m3 := (num_append (reqBytes q) more 8 8 (by omega)).trans n3
  have m4 := (num_append (reqBytes q) more 16 8 (by omega)).trans n4
  have m5 := (num_append (reqBytes q) more 24 4 (by omega)).trans n5
  have w1 := hq.len
  have w2 := hq.cookie
  have w3 := hq.frm
  rw [Nat.mod_eq_of_lt (by omega)] at m1 m2 m3 m4 m5
  have e4 : (reqBytes q ++ more).take 4 = reqHead := by rw [List.take_append_of_le_length (by omega), n7]
  have e28 : (reqBytes q ++ more).drop 28 = q.data ++ more := by rw [List.drop_append_of_le_length (by omega), n6]
  have hlen : (reqBytes q ++ more).length = 28 + q.data.length + more.length := by rw [List.length_append, hl]
  rw [readReq_rest _ (by omega) (by rw [e4]; rfl) (by omega), m2, m5, e28]
  have er : reqOf (reqBytes q ++ more) = { q with data := [] } := by
    unfold reqOf
    rw [m1, m2, m3, m4, m5]
    obtain ⟨fl, kd, ck, fr, ln, d⟩ := q
    dsimp only at h1 h3 ⊢
    rw [Int.toNat_of_nonneg h1, Int.toNat_of_nonneg h3]
  rw [er]
  by_cases hk : q.kind = 1
  · have hd := h7 hk
    rw [if_neg (by omega), if_neg (by omega), if_neg (by omega)]
    have e3 : (reqBytes q ++ more).drop (28 + q.len) = more := by
      rw [← List.drop_drop, e28, ← hd, List.drop_left]
    rw [e3, ← hd, List.take_left]
    obtain ⟨fl, kd, ck, fr, ln, d⟩ := q
    dsimp only at hd
    subst hd
    rfl
  · have hd := h6 hk
    rw [if_pos (by omega), hd]
    obtain ⟨fl, kd, ck, fr, ln, d⟩ := q
    dsimp only at hd
    rw [hd]
    rfl

theorem req_short (q : Req) (hq : q.wf) (hf : q.fit = true) (k : Nat) (hk : k < (reqBytes q).length) : readReq ((reqBytes q).take k) = (.zero, [], 22) := by
  obtain ⟨n1, n2, n3, n4, n5, n6, n7⟩ := reqBytes_nums q
  obtain ⟨h1, h2, h3, h4, h5, h6, h7⟩ := fit_bounds q hf
  have hl := reqBytes_length q
  have w1 := hq.len
  have ht : ((reqBytes q).take k).length = k := by rw [List.length_take]; omega
  by_cases h28 : k < 28
  · have e : ((reqBytes q).take k).take (min k 4) = reqHead.take (min k 4) := by
      rw [List.take_take, ← n7, List.take_take]
      congr 1
      omega
    unfold readReq
    rw [ht, if_neg (by rw [e]; simp), if_pos h28]
  · have hkd : q.kind = 1 := by
      by_cases hk1 : q.kind = 1
      · exact hk1
      · have := h6 hk1
        rw [this] at hl
        simp at hl
        omega
    have m2 := (num_take (reqBytes q) k 6 2 (by omega)).trans n2
    have m5 := (num_take (reqBytes q) k 24 4 (by omega)).trans n5
    rw [Nat.mod_eq_of_lt (by omega)] at m2 m5
    have e4 : ((reqBytes q).take k).take 4 = reqHead := by rw [List.take_take, Nat.min_eq_left (by omega), n7]
    have hd := h7 hkd
    rw [readReq_rest _ (by omega) (by rw [e4]; rfl) (by omega), m2, m5, ht, if_neg (by omega), if_neg (by omega), if_pos (by omega)]

theorem be_num (s : List UInt8) (a n : Nat) (h : a + n ≤ s.length) : be n (num s a n) = (s.drop a).take n := by
  have e := be_of_de ((s.drop a).take n)
  rwa [List.length_take, List.length_drop, Nat.min_eq_left (by omega)] at e

theorem cut_in (s : List UInt8) (a n : Nat) : s.drop a = (s.drop a).take n ++ s.drop (a + n) := by
  rw [← List.drop_drop, List.take_append_drop]

theorem reqBytes_of (s : List UInt8) (h : 28 ≤ s.length) (h4 : s.take 4 = reqHead) (d : List UInt8) :
    reqBytes { reqOf s with data := d } = s.take 28 ++ d := by
  unfold reqBytes reqOf
  dsimp only
  simp only [Int.toNat_natCast]
  rw [be_num s 4 2 (by omega), be_num s 6 2 (by omega), be_num s 8 8 (by omega), be_num s 16 8 (by omega), be_num s 24 4 (by omega), ← h4]
  have e : s.take 28 = s.take 4 ++ ((s.drop 4).take 2 ++ ((s.drop 6).take 2 ++ ((s.drop 8).take 8 ++ ((s.drop 16).take 8 ++ (s.drop 24).take 4)))) := by
    rw [show (28 : Nat) = 4 + (2 + (2 + (8 + (8 + 4)))) from rfl, List.take_add, List.take_add, List.take_add, List.take_add, List.take_add]
    simp only [List.drop_drop, Nat.reduceAdd]
  rw [e]
  simp

theorem req_read (s : List UInt8) (q : Req) (rest : List UInt8) (h : readReq s = (q, rest, 0)) : q.fit = true ∧ q.wf ∧ reqBytes q ++ rest = s ∧ rest.length + 28 ≤ s.length := by
  by_cases h4 : s.length ≤ 4
  · rw [readReq_little s h4] at h
    simp only [Prod.mk.injEq] at h
    unfold littleErr at h
    split at h <;> simp at h
  · by_cases hh : (!List.take 4 s == [37, 96, 149, 19]) = true
    · rw [readReq_bad s (by omega) hh] at h
      simp at h
    · have hh' : (!List.take 4 s == [37, 96, 149, 19]) = false := by cases h : (!List.take 4 s == [37, 96, 149, 19]) <;> simp_all
      by_cases h28 : s.length < 28
      · rw [readReq_few s (by omega) hh' h28] at h
        simp at h
      · have e4 : s.take 4 = reqHead := by have h : s.take 4 = [37, 96, 149, 19] := by simpa using hh'
                                           exact h
        have n4 : num s 4 2 < 65536 := num_lt s 4 2 (by omega)
        have n6 : num s 6 2 < 65536 := num_lt s 6 2 (by omega)
        have n8 : num s 8 8 < 18446744073709551616 := num_lt s 8 8 (by omega)
        have n16 : num s 16 8 < 18446744073709551616 := num_lt s 16 8 (by omega)
        have n24 : num s 24 4 < 4294967296 := num_lt s 24 4 (by omega)
        rw [readReq_rest s (by omega) hh' (by omega)] at h
        by_cases hk : num s 6 2 ≠ 1
        · rw [if_pos hk] at h
          simp only [Prod.mk.injEq, and_true] at h
          obtain ⟨rfl, rfl⟩ := h
          refine ⟨?_, ⟨n24, n8, n16⟩, ?_, by simp; omega⟩
          · unfold Req.fit reqOf
            dsimp only
            rw [if_neg (by omega)]
            simp
            omega
          · have := reqBytes_of s (by omega) e4 []
            rw [show ({ reqOf s with data := [] } : Req) = reqOf s from rfl] at this
            rw [this]; simp
        · rw [if_neg hk] at h
          by_cases hs : 4096 < num s 24 4
          · rw [if_pos hs] at h; simp at h
          · rw [if_neg hs] at h
            by_cases ht : s.length - 28 < num s 24 4
            · rw [if_pos ht] at h; simp at h
            · rw [if_neg ht] at h
              simp only [Prod.mk.injEq, and_true] at h
              obtain ⟨rfl, rfl⟩ := h
              refine ⟨?_, ⟨n24, n8, n16⟩, ?_, by simp; omega⟩
              · unfold Req.fit reqOf
                dsimp only
                rw [if_pos (by omega)]
                simp
                omega
              · rw [reqBytes_of s (by omega) e4, List.append_assoc, ← List.drop_drop, List.take_append_drop, List.take_append_drop]

end Go.Proofs.Ytfcojhpnpfodeaa
