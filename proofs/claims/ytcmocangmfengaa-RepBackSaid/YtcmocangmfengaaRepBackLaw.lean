/- THERE AND BACK: the plain laws. -/
import Derived.Test.YtcmocangmfengaaRepReadD
import Derived.Test.YtcmocangmfengaaRepExts
namespace Go.Proofs.Ytcmocangmfengaa

theorem rnum_mid (pre x post : List UInt8) (a n : Nat) (ha : pre.length = a) (hn : x.length = n) : rnum (pre ++ (x ++ post)) a n = de x := by
  unfold rnum
  subst ha hn
  simp
theorem rbe_num (s : List UInt8) (a n : Nat) (h : a + n ≤ s.length) : be n (rnum s a n) = (s.drop a).take n := by
  have e := be_of_de ((s.drop a).take n)
  rwa [List.length_take, List.length_drop, Nat.min_eq_left (by omega)] at e
theorem cut_at (s : List UInt8) (a n : Nat) : (s.drop a).take n ++ s.drop (a + n) = s.drop a := by
  rw [← List.drop_drop, List.take_append_drop]
theorem begins_head (h l : List UInt8) (n : Nat) (hh : h.length = 4) (hn : n ≤ (h ++ l).length) : beginsE (h ++ l) h n = 0 := by
  unfold beginsE
  have e : min (h ++ l).length 4 = 4 := by rw [List.length_append]; omega
  rw [e, List.take_append_of_le_length (by omega), if_pos rfl, if_neg (by omega)]

theorem rep_back (e c : Nat) (d more : List UInt8) (he : e < 4294967296) (hc : c < 18446744073709551616) (hf : repFit ⟨e, c, d⟩ = true) : readRep (repBytes ⟨e, c, d⟩ ++ more) d.length = (⟨e, c, d⟩, more, 0) := by
  unfold repFit at hf
  dsimp only at hf
  simp only [Bool.and_eq_true, Bool.or_eq_true, decide_eq_true_eq] at hf
  obtain ⟨hd, hz⟩ := hf
  have eq : repBytes ⟨e, c, d⟩ ++ more = oneHead ++ (be 4 e ++ (be 8 c ++ (d ++ more))) := by simp [repBytes]
  have hl : (repBytes ⟨e, c, d⟩ ++ more).length = 16 + d.length + more.length := by rw [eq]; simp [oneHead, be_length]; omega
  have n4 : rnum (repBytes ⟨e, c, d⟩ ++ more) 4 4 = e := by
    rw [eq, rnum_mid oneHead _ _ 4 4 rfl (be_length _ _), de_be, Nat.mod_eq_of_lt (by omega)]
  have n8 : rnum (repBytes ⟨e, c, d⟩ ++ more) 8 8 = c := by
    rw [eq, ← List.append_assoc, rnum_mid _ _ _ 8 8 (by simp [oneHead, be_length]) (be_length _ _), de_be, Nat.mod_eq_of_lt (by omega)]
  have d16 : (repBytes ⟨e, c, d⟩ ++ more).drop 16 = d ++ more := by
    rw [eq, ← List.append_assoc, ← List.append_assoc, List.drop_left' (by simp [oneHead, be_length])]
  have hb : beginsE (repBytes ⟨e, c, d⟩ ++ more) oneHead 16 = 0 := by
    rw [eq]
    exact begins_head oneHead _ 16 rfl (by rw [← eq, hl]; omega)
  have hn : ¬ (((d.length : Nat) : Int) < 0 ∨ 4096 < ((d.length : Nat) : Int)) := by omega
  by_cases h0 : e = 0
  · rw [readRep_e _ _ hn hb (by rw [n4]; exact h0) (by rw [hl]; simp; omega), n8, d16]
    simp only [Int.toNat_natCast, List.take_left, List.drop_left]
    rw [h0]
  · have hd0 : d = [] := hz.resolve_right h0
    rw [readRep_c _ _ hn hb (by rw [n4]; exact h0), n4, n8, d16]
    subst hd0
    rfl

theorem chunk_nums (b : Bool) (k : Int) (c : Nat) (d more : List UInt8) : rnum (chunkBytes ⟨b, k, c, d⟩ ++ more) 4 2 = (flagN b) % 65536 ∧ rnum (chunkBytes ⟨b, k, c, d⟩ ++ more) 6 2 = k.toNat % 65536 ∧ rnum (chunkBytes ⟨b, k, c, d⟩ ++ more) 8 8 = c % 18446744073709551616 ∧ rnum (chunkBytes ⟨b, k, c, d⟩ ++ more) 16 4 = d.length % 4294967296 ∧
    (chunkBytes ⟨b, k, c, d⟩ ++ more).drop 20 = d ++ more ∧ (chunkBytes ⟨b, k, c, d⟩ ++ more).length = 20 + d.length + more.length ∧ beginsE (chunkBytes ⟨b, k, c, d⟩ ++ more) pieceHead 20 = 0 := by
  have eq : chunkBytes ⟨b, k, c, d⟩ ++ more = pieceHead ++ (be 2 (flagN b) ++ (be 2 k.toNat ++ (be 8 c ++ (be 4 d.length ++ (d ++ more))))) := by simp [chunkBytes, flagN]
  have hl : (chunkBytes ⟨b, k, c, d⟩ ++ more).length = 20 + d.length + more.length := by rw [eq]; simp [pieceHead, be_length]; omega
  refine ⟨?_, ?_, ?_, ?_, ?_, hl, ?_⟩
  · rw [eq, rnum_mid pieceHead _ _ 4 2 rfl (be_length _ _), de_be]
  · rw [eq, ← List.append_assoc, rnum_mid _ _ _ 6 2 (by simp [pieceHead, be_length]) (be_length _ _), de_be]
  · rw [eq, ← List.append_assoc, ← List.append_assoc, rnum_mid _ _ _ 8 8 (by simp [pieceHead, be_length]) (be_length _ _), de_be]
  · rw [eq, ← List.append_assoc, ← List.append_assoc, ← List.append_assoc, rnum_mid _ _ _ 16 4 (by simp [pieceHead, be_length]) (be_length _ _), de_be]
  · rw [eq, ← List.append_assoc, ← List.append_assoc, ← List.append_assoc, ← List.append_assoc, List.drop_left' (by simp [pieceHead, be_length])]
  · rw [eq]
    exact begins_head pieceHead _ 20 rfl (by rw [← eq, hl]; omega)

theorem chunk_back (b : Bool) (k : Int) (c : Nat) (d more : List UInt8) (hk0 : 0 ≤ k) (hk1 : k < 65536) (hc : c < 18446744073709551616) (hd : d.length ≤ 4128) : readChunk (chunkBytes ⟨b, k, c, d⟩ ++ more) = (⟨b, k, c, d⟩, more, 0) := by
  obtain ⟨n4, n6, n8, n16, d20, hl, hb⟩ := chunk_nums b k c d more
  have hf : flagN b ≤ 1 := by cases b <;> simp [flagN]
  rw [Nat.mod_eq_of_lt (by omega)] at n4 n6 n8 n16
  rw [readChunk_o _ hb (by omega) (by omega) (by omega), n4, n6, n8, n16, d20, List.take_left, List.drop_left, Int.toNat_of_nonneg hk0]
  cases b <;> rfl

theorem begins_take {s h : List UInt8} {n : Nat} (hh : h.length = 4) (hn : 4 ≤ n) (e : beginsE s h n = 0) : s.take 4 = h := by
  obtain ⟨hl, he⟩ := begins_len e
  rw [show min s.length 4 = 4 by omega, List.take_of_length_le (show h.length ≤ 4 by omega)] at he
  exact he

theorem chunk_there (s : List UInt8) (b : Bool) (k : Int) (c : Nat) (d rest : List UInt8) (h : readChunk s = (⟨b, k, c, d⟩, rest, 0)) : c < 18446744073709551616 ∧ ∃ w, writeChunk ⟨b, k, c, d⟩ = (w, 0) ∧ w ++ rest = s := by
  by_cases hb : beginsE s pieceHead 20 = 0
  case neg => rw [readChunk_b s hb] at h; simp only [Prod.mk.injEq] at h; exact absurd h.2.2 hb
  by_cases h1 : 1 < rnum s 4 2
  · rw [readChunk_f s hb h1] at h; simp at h
  by_cases h2 : 4128 < rnum s 16 4
  · rw [readChunk_m s hb h1 h2] at h; simp at h
  by_cases h3 : s.length - 20 < rnum s 16 4
  · rw [readChunk_l s hb h1 h2 h3] at h; simp at h
  rw [readChunk_o s hb h1 h2 h3] at h
  simp only [Prod.mk.injEq, Chunk.mk.injEq] at h
  obtain ⟨⟨rfl, rfl, rfl, rfl⟩, rfl, _⟩ := h
  obtain ⟨hl, _⟩ := begins_len hb
  have h4 := begins_take rfl (by decide) hb
  have l6 := rnum_lt s 6 2
  have l8 := rnum_lt s 8 8
  have hlen : ((s.drop 20).take (rnum s 16 4)).length = rnum s 16 4 := by rw [List.length_take, List.length_drop]; omega
  refine ⟨by omega, chunkBytes ⟨decide (rnum s 4 2 = 1), rnum s 6 2, rnum s 8 8, (s.drop 20).take (rnum s 16 4)⟩, ?_, ?_⟩
  · unfold writeChunk
    dsimp only
    rw [if_neg (by omega), if_neg (by omega)]
  · have hfl : (if decide (rnum s 4 2 = 1) = true then 1 else 0 : Nat) = rnum s 4 2 := by
      by_cases h5 : rnum s 4 2 = 1
      · simp [h5]
      · simp [h5]; omega
    unfold chunkBytes
    dsimp only
    rw [hfl, hlen, Int.toNat_natCast, rbe_num s 4 2 (by omega), rbe_num s 6 2 (by omega), rbe_num s 8 8 (by omega), rbe_num s 16 4 (by omega), ← h4]
    have e : s = s.take 4 ++ ((s.drop 4).take 2 ++ ((s.drop 6).take 2 ++ ((s.drop 8).take 8 ++ ((s.drop 16).take 4 ++ s.drop 20)))) := by
      have c1 := cut_at s 16 4
      have c2 := cut_at s 8 8
      have c3 := cut_at s 6 2
      have c4 := cut_at s 4 2
      simp only [Nat.reduceAdd] at c1 c2 c3 c4
      rw [c1, c2, c3, c4, List.take_append_drop]
    have f : (s.drop 20).take (rnum s 16 4) ++ (s.drop 20).drop (rnum s 16 4) = s.drop 20 := List.take_append_drop _ _
    simp only [List.append_assoc]
    rw [f]
    exact e.symm

theorem exts_of (l : List Ext) (h : l.all Ext.ok = true) : Exts (extsB l) l true := by
  induction l with
  | nil => exact Exts.nil
  | cons x l ih =>
    rw [List.all_cons, Bool.and_eq_true] at h
    obtain ⟨hx, hl⟩ := h
    rw [Ext.ok_iff] at hx
    have eq : extsB (x :: l) = be 4 x.len.toNat ++ (be 4 x.flags.toNat ++ extsB l) := by simp [extsB, extB]
    have n0 : rnum (extsB (x :: l)) 0 4 = x.len.toNat := by
      rw [eq]
      have := rnum_mid [] (be 4 x.len.toNat) (be 4 x.flags.toNat ++ extsB l) 0 4 rfl (be_length _ _)
      rw [List.nil_append] at this
      rw [this, de_be, Nat.mod_eq_of_lt (by omega)]
    have n4 : rnum (extsB (x :: l)) 4 4 = x.flags.toNat := by
      rw [eq, rnum_mid _ _ _ 4 4 (be_length _ _) (be_length _ _), de_be, Nat.mod_eq_of_lt (by omega)]
    have d8 : (extsB (x :: l)).drop 8 = extsB l := by
      rw [eq, ← List.append_assoc, List.drop_left' (by simp [be_length])]
    have he : ext1 (extsB (x :: l)) = x := by
      unfold ext1
      rw [n0, n4, Int.toNat_of_nonneg (by omega), Int.toNat_of_nonneg (by omega)]
    have hlen : 8 ≤ (extsB (x :: l)).length := by rw [extsB_length]; simp; omega
    have := Exts.more (l := l) (b := true) hlen (by rw [n0]; omega) (by rw [d8]; exact ih hl)
    rwa [he] at this

theorem exts_back {t : List UInt8} {l : List Ext} {b : Bool} (h : Exts t l b) (hb : b = true) : extsB l = t ∧ l.all Ext.ok = true := by
  induction h with
  | nil => exact ⟨rfl, rfl⟩
  | zero => cases hb
  | more h hz ha ih =>
    rename_i t l b
    obtain ⟨h1, h2⟩ := ih hb
    have l0 := rnum_lt t 0 4
    have l4 := rnum_lt t 4 4
    refine ⟨?_, ?_⟩
    · have e : extsB (ext1 t :: l) = be 4 (rnum t 0 4) ++ (be 4 (rnum t 4 4) ++ extsB l) := by simp [extsB, extB, ext1]
      rw [e, h1, rbe_num t 0 4 (by omega), rbe_num t 4 4 (by omega), List.drop_zero]
      have c1 := cut_at t 4 4
      simp only [Nat.reduceAdd] at c1
      rw [c1, List.take_append_drop]
    · rw [List.all_cons, h2, Bool.and_true, Ext.ok_iff]
      unfold ext1
      dsimp only
      omega

theorem status_facts (c : Nat) (l : List Ext) (hc : c < 4294967296) (hl : l ≠ []) (hn : l.length ≤ 500) (h : l.all Ext.ok = true) :
    12 ≤ (statusB c l).length ∧ (statusB c l).length ≤ 4004 ∧ (statusB c l).length % 8 = 4 ∧ Exts ((statusB c l).drop 4) l true ∧ rnum (statusB c l) 0 4 = c := by
  have hlen : (statusB c l).length = 4 + 8 * l.length := by unfold statusB; rw [List.length_append, be_length, extsB_length]
  have h1 : 0 < l.length := List.length_pos_iff.2 hl
  have hd : (statusB c l).drop 4 = extsB l := by unfold statusB; rw [List.drop_left' (be_length _ _)]
  refine ⟨by omega, by omega, by omega, by rw [hd]; exact exts_of l h, ?_⟩
  unfold statusB
  have := rnum_mid [] (be 4 c) (extsB l) 0 4 rfl (be_length _ _)
  rw [List.nil_append] at this
  rw [this, de_be, Nat.mod_eq_of_lt (by omega)]

theorem status_there (s : List UInt8) (l : List Ext) (h1 : 12 ≤ s.length) (h2 : s.length ≤ 4004) (h : Exts (s.drop 4) l true) : writeStatus (rnum s 0 4) l = (s, 0) := by
  obtain ⟨e1, e2⟩ := exts_back h rfl
  have hlen := extsB_length l
  rw [e1, List.length_drop] at hlen
  unfold writeStatus
  have hne : l ≠ [] := by intro e; rw [e] at hlen; simp at hlen; omega
  rw [if_neg (by intro h; rcases h with h | h; exact hne h; omega), if_pos e2]
  unfold statusB
  rw [e1, rbe_num s 0 4 (by omega), List.drop_zero, List.take_append_drop]

end Go.Proofs.Ytcmocangmfengaa
