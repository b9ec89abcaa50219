/- ORDERS: chunks of two readings, mixed: plain, no program. -/
import Derived.Test.YtfcojhpnpfodeaaMatOnce
import Derived.Test.YtfcojhpnpfodeaaMRepReadC
namespace Go.Proofs.Ytfcojhpnpfodeaa

theorem rnum_mid (pre x post : List UInt8) (a n : Nat) (ha : pre.length = a) (hn : x.length = n) : rnum (pre ++ (x ++ post)) a n = de x := by
  unfold rnum
  subst ha hn
  simp
theorem begins_head (h l : List UInt8) (n : Nat) (hh : h.length = 4) (hn : n ≤ (h ++ l).length) : beginsE (h ++ l) h n = 0 := by
  unfold beginsE
  have e : min (h ++ l).length 4 = 4 := by rw [List.length_append]; omega
  rw [e, List.take_append_of_le_length (by omega), if_pos rfl, if_neg (by omega)]
theorem chunk_nums (b : Bool) (k : Int) (c : Nat) (d more : List UInt8) : rnum (chunkBytes ⟨b, k, c, d⟩ ++ more) 4 2 = (flagN b) % 65536 ∧ rnum (chunkBytes ⟨b, k, c, d⟩ ++ more) 6 2 = k.toNat % 65536 ∧ rnum (chunkBytes ⟨b, k, c, d⟩ ++ more) 8 8 = c % 18446744073709551616 ∧ rnum (chunkBytes ⟨b, k, c, d⟩ ++ more) 16 4 = d.length % 4294967296 ∧
    (chunkBytes ⟨b, k, c, d⟩ ++ more).drop 20 = d ++ more ∧ (chunkBytes ⟨b, k, c, d⟩ ++ more).length = 20 + d.length + more.length ∧ beginsE (chunkBytes ⟨b, k, c, d⟩ ++ more) pieceHead 20 = 0 := by
  have eq : chunkBytes ⟨b, k, c, d⟩ ++ more = pieceHead ++ (be 2 (flagN b) ++ (be 2 k.toNat ++ (be 8 c ++ (be 4 d.length ++ (d ++ more))))) := by simp [chunkBytes, flagN]
  have hl : (chunkBytes ⟨b, k, c, d⟩ ++ more).length = 20 + d.length + more.length := by rw [eq]; simp [pieceHead, be_length]; omega
  refine ⟨?_, ?_, ?_, ?_, ?_, hl, ?_⟩
  · rw [eq, rnum_mid pieceHead _ _ 4 2 rfl (be_length _ _), de_be]
  · rw [eq, ← List.append_assoc, rnum_mid _ _ _ 6 2 (by simp [pieceHead, be_length]) (be_length _ _), de_be]
  · rw [eq, ← List.append_assoc, ← List.append_assoc, rnum_mid _ _ _ 8 8 (by simp [pieceHead, be_length]) (be_length _ _), de_be]
  · rw [eq, ← List.append_assoc, ← List.append_assoc, ← List.append_assoc, rnum_mid _ _ _ 16 4 (by simp [pieceHead, be_length]) (be_length _ _), de_be]
  · rw [eq, ← List.append_assoc, ← List.append_assoc, ← List.append_assoc, ← List.append_assoc, List.drop_left' (by simp [pieceHead, be_length])]
  · rw [eq]
    exact begins_head pieceHead _ 20 rfl (by rw [← eq, hl]; omega)
theorem chunk_back (b : Bool) (k : Int) (c : Nat) (d more : List UInt8) (hk0 : 0 ≤ k) (hk1 : k < 65536) (hc : c < 18446744073709551616) (hd : d.length ≤ 4128) : readChunk (chunkBytes ⟨b, k, c, d⟩ ++ more) = (⟨b, k, c, d⟩, more, 0) := by
  obtain ⟨n4, n6, n8, n16, d20, hl, hb⟩ := chunk_nums b k c d more
  have hf : flagN b ≤ 1 := by cases b <;> simp [flagN]
  rw [Nat.mod_eq_of_lt (by omega)] at n4 n6 n8 n16
  rw [readChunk_o _ hb (by omega) (by omega) (by omega), n4, n6, n8, n16, d20, List.take_left, List.drop_left, Int.toNat_of_nonneg hk0]
  cases b <;> rfl

/-- What the law's loop makes of the order. -/
def mix : List Bool → List (List UInt8) → List (List UInt8) → List UInt8
  | [], a, b => a.flatten ++ b.flatten
  | f :: o, a, b => if f = true then (a.headD [] ++ mix o a.tail b) else (b.headD [] ++ mix o a b.tail)

section
variable (frm at_ : Nat) (s more t : List UInt8)
def mxQ : Req := ⟨0, 0, 1, frm, s.length + more.length, []⟩
def mxP : Req := ⟨0, 0, 2, at_, t.length, []⟩
def mxOne : List UInt8 := chunkBytes ⟨false, 1, 1, dataB (frm + s.length) more⟩
def mxTwo : List UInt8 := chunkBytes ⟨true, 1, 1, dataB frm s⟩
def mxThree : List UInt8 := chunkBytes ⟨false, 1, 2, dataB at_ t⟩
def mxFour : List UInt8 := chunkBytes ⟨true, 0, 2, []⟩
def mxA1 : Wait := ⟨mxQ frm s more, List.replicate s.length 0 ++ more, List.replicate s.length 0 ++ List.replicate more.length 1, [], 0⟩
def mxA2 : Wait := ⟨mxQ frm s more, s ++ more, List.replicate s.length 1 ++ List.replicate more.length 1, [], 0⟩
def mxB1 : Wait := ⟨mxP at_ t, t, List.replicate t.length 1, [], 0⟩
def mxAA : Answ := ⟨mxQ frm s more, 0, s ++ more, []⟩
def mxAB : Answ := ⟨mxP at_ t, 0, t, []⟩

/-- The conditions. -/
structure MixOk : Prop where
  ns : s ≠ []
  nmore : more ≠ []
  nt : t ≠ []
  len : s.length + more.length ≤ 1000
  tlen : t.length ≤ 1000
  nfrm : frm ≤ 1152921504606846976
  nat : at_ ≤ 1152921504606846976
variable {frm at_ s more t}
theorem apply_data (w : Wait) (f : Nat) (d : List UInt8) (hf : f < 18446744073709551616) : w.apply 1 (dataB f d) = w.come f d := by
  have h8 : (be 8 f).length = 8 := be_length _ _
  have e1 : (dataB f d).take 8 = be 8 f := by unfold dataB; rw [List.take_append_of_le_length (by omega), List.take_of_length_le (by omega)]
  have e2 : (dataB f d).drop 8 = d := by unfold dataB; exact List.drop_left' h8
  show (if (dataB f d).length < 8 then none else w.come (de ((dataB f d).take 8)) ((dataB f d).drop 8)) = _
  rw [if_neg (by unfold dataB; rw [List.length_append]; omega), e1, e2, de_be, Nat.mod_eq_of_lt (by omega)]
theorem mx_a1 (h : MixOk frm at_ s more t) : (Wait.fresh (mxQ frm s more)).apply 1 (dataB (frm + s.length) more) = some (mxA1 frm s more) := by
  have h1 := h.len
  have h2 := h.nfrm
  have hm := h.nmore
  rw [apply_data _ _ _ (by omega)]
  unfold Wait.come Wait.fresh mxQ mxA1
  simp only [if_true]
  have e : frm + s.length - frm = s.length := by omega
  rw [e, if_neg (by
    rintro (h | h | h | h | h)
    · exact h rfl
    · exact hm h
    · omega
    · omega
    · omega), if_neg (by simp [List.mem_replicate])]
  simp only [Option.some.injEq, Wait.mk.injEq, and_true]
  simp [mxQ, Nat.min_eq_left]
theorem mx_a2 (h : MixOk frm at_ s more t) : (mxA1 frm s more).apply 1 (dataB frm s) = some (mxA2 frm s more) := by
  have h1 := h.len
  have h2 := h.nfrm
  have hm := h.ns
  rw [apply_data _ _ _ (by omega)]
  unfold Wait.come mxA1 mxA2 mxQ
  dsimp only
  have e : frm - frm = 0 := by omega
  rw [e, if_neg (by
    rintro (h | h | h | h | h)
    · exact h rfl
    · exact hm h
    · omega
    · omega
    · omega), if_neg (by
    rw [List.drop_zero, List.take_append_of_le_length (by simp), List.take_of_length_le (by simp)]
    simp [List.mem_replicate])]
  simp
theorem mx_b1 (h : MixOk frm at_ s more t) : (Wait.fresh (mxP at_ t)).apply 1 (dataB at_ t) = some (mxB1 at_ t) := by
  have h1 := h.tlen
  have h2 := h.nat
  have hm := h.nt
  rw [apply_data _ _ _ (by omega)]
  unfold Wait.come Wait.fresh mxP mxB1
  simp only [if_true]
  have e : at_ - at_ = 0 := by omega
  rw [e, if_neg (by
    rintro (h | h | h | h | h)
    · exact h rfl
    · exact hm h
    · omega
    · omega
    · omega), if_neg (by simp [List.mem_replicate])]
  simp [mxP]

/-- What waits, behind so many chunks of each. -/
def mxW (frm at_ : Nat) (s more t : List UInt8) (i j : Nat) : List Wait :=
  (if i = 0 then [Wait.fresh (mxQ frm s more)] else if i = 1 then [mxA1 frm s more] else []) ++ (if j = 0 then [Wait.fresh (mxP at_ t)] else if j = 1 then [mxB1 at_ t] else [])
def mxAns (frm at_ : Nat) (s more t : List UInt8) (i j : Nat) : List Answ :=
  (if i < 2 then [mxAA frm s more] else []) ++ (if j < 2 then [mxAB at_ t] else [])
theorem step_go (l : List Wait) (dn : Bool) (k : Int) (c : Nat) (d r : List UInt8) (i : Nat) (q : Wait) (hk0 : 0 ≤ k) (hk : k < 65536) (hc : c < 18446744073709551616) (hd : d.length ≤ 4128) (hf : findW l c = some i) (hq : l[i]? = some q) :
    Mat.step ⟨chunkBytes ⟨dn, k, c, d⟩ ++ r, true, l, false⟩ = some (Mat.applied ⟨chunkBytes ⟨dn, k, c, d⟩ ++ r, true, l, false⟩ i dn r (q.apply k d)) := by
  have e := chunk_back dn k c d r hk0 hk hc hd
  unfold Mat.step Mat.chunk
  dsimp only
  rw [if_pos rfl, e]
  dsimp only
  rw [if_neg (by decide), if_neg (by decide), hf]
  dsimp only
  rw [hq]
theorem data_len (f : Nat) (d : List UInt8) : (dataB f d).length = 8 + d.length := by unfold dataB; rw [List.length_append, be_length]
theorem fresh_req (q : Req) : (Wait.fresh q).req = q := by unfold Wait.fresh; split <;> rfl

theorem mx_step1 (h : MixOk frm at_ s more t) (j : Nat) (r : List UInt8) : Mat.step ⟨mxOne frm s more ++ r, true, mxW frm at_ s more t 0 j, false⟩ = some (⟨r, true, mxW frm at_ s more t 1 j, false⟩, []) := by
  have h1 := h.len
  unfold mxOne
  rw [step_go _ false 1 1 _ r 0 (Wait.fresh (mxQ frm s more)) (by decide) (by decide) (by decide) (by rw [data_len]; omega) (by
    unfold mxW findW
    rw [if_pos rfl, List.singleton_append, List.findIdx?_cons, fresh_req]
    rfl) (by unfold mxW; rw [if_pos rfl]; rfl)]
  rw [mx_a1 h]
  unfold Mat.applied mxW
  simp
theorem mx_step2 (h : MixOk frm at_ s more t) (j : Nat) (r : List UInt8) : Mat.step ⟨mxTwo frm s ++ r, true, mxW frm at_ s more t 1 j, false⟩ = some (⟨r, true, mxW frm at_ s more t 2 j, false⟩, [mxAA frm s more]) := by
  have h1 := h.len
  unfold mxTwo
  rw [step_go _ true 1 1 _ r 0 (mxA1 frm s more) (by decide) (by decide) (by decide) (by rw [data_len]; omega) (by
    unfold mxW findW
    rw [if_neg (by decide), if_pos rfl, List.singleton_append, List.findIdx?_cons]
    rfl) (by unfold mxW; rw [if_neg (by decide), if_pos rfl]; rfl)]
  rw [mx_a2 h]
  unfold Mat.applied mxW
  dsimp only
  rw [if_pos rfl, if_neg (by unfold mxA2; simp [List.mem_replicate])]
  unfold mxA2 Wait.answ mxAA
  simp
theorem find_second (l : List Wait) (q : Wait) (c : Nat) (hl : ∀ w ∈ l, w.req.cookie ≠ c) (hq : q.req.cookie = c) : findW (l ++ [q]) c = some l.length ∧ (l ++ [q])[l.length]? = some q := by
  refine ⟨findW_at _ c l.length q (fun j hj w hw => ?_) (by simp) hq, by simp⟩
  rw [List.getElem?_append_left hj] at hw
  exact hl w (List.mem_of_getElem? hw)
theorem mxW_first (frm : Nat) (s more : List UInt8) (i : Nat) : ∀ w ∈ (if i = 0 then [Wait.fresh (mxQ frm s more)] else if i = 1 then [mxA1 frm s more] else []), w.req.cookie ≠ 2 := by
  intro w hw
  split at hw
  · simp only [List.mem_singleton] at hw
    subst hw
    rw [fresh_req]
    simp [mxQ]
  · split at hw
    · simp only [List.mem_singleton] at hw
      subst hw
      simp [mxA1, mxQ]
    · simp at hw
theorem mx_step3 (h : MixOk frm at_ s more t) (i : Nat) (r : List UInt8) : Mat.step ⟨mxThree at_ t ++ r, true, mxW frm at_ s more t i 0, false⟩ = some (⟨r, true, mxW frm at_ s more t i 1, false⟩, []) := by
  have h1 := h.tlen
  have hne := mxW_first frm s more i
  unfold mxW mxThree
  generalize (if i = 0 then [Wait.fresh (mxQ frm s more)] else if i = 1 then [mxA1 frm s more] else []) = l at *
  rw [if_pos rfl, if_neg (by decide), if_pos rfl]
  obtain ⟨f1, f2⟩ := find_second l (Wait.fresh (mxP at_ t)) 2 hne (by rw [fresh_req]; rfl)
  rw [step_go _ false 1 2 _ r l.length (Wait.fresh (mxP at_ t)) (by decide) (by decide) (by decide) (by rw [data_len]; omega) f1 f2]
  rw [mx_b1 h]
  unfold Mat.applied
  simp
theorem mx_step4 (h : MixOk frm at_ s more t) (i : Nat) (r : List UInt8) : Mat.step ⟨mxFour ++ r, true, mxW frm at_ s more t i 1, false⟩ = some (⟨r, true, mxW frm at_ s more t i 2, false⟩, [mxAB at_ t]) := by
  have h1 := h.tlen
  have hne := mxW_first frm s more i
  unfold mxW mxFour
  generalize (if i = 0 then [Wait.fresh (mxQ frm s more)] else if i = 1 then [mxA1 frm s more] else []) = l at *
  rw [if_neg (by decide), if_pos rfl, if_neg (by decide), if_neg (by decide)]
  obtain ⟨f1, f2⟩ := find_second l (mxB1 at_ t) 2 hne rfl
  have ha : (mxB1 at_ t).apply 0 [] = some (mxB1 at_ t) := rfl
  rw [step_go _ true 0 2 _ r l.length (mxB1 at_ t) (by decide) (by decide) (by decide) (by decide) f1 f2, ha]
  unfold Mat.applied
  dsimp only
  rw [if_pos rfl, if_neg (by unfold mxB1; simp [List.mem_replicate])]
  unfold mxB1 Wait.answ mxAB
  simp [List.eraseIdx_append_of_length_le]

def mxN : Mat := ⟨[], true, [], false⟩
/-- All that comes is taken off. -/
def MxRuns (frm at_ : Nat) (s more t : List UInt8) (i j : Nat) (b : List UInt8) : Prop := ∃ out, Mat.Runs ⟨b, true, mxW frm at_ s more t i j, false⟩ out mxN ∧ out.Perm (mxAns frm at_ s more t i j)
theorem mx_end (_h : MixOk frm at_ s more t) : MxRuns frm at_ s more t 2 2 [] := by
  refine ⟨[], Mat.Runs.stop (.inr ?_), ?_⟩
  · unfold Mat.step Mat.chunk
    rw [if_pos rfl, if_pos]
    show (readChunk []).2.2 = 22
    decide
  · unfold mxAns; simp
theorem mx_goA (h : MixOk frm at_ s more t) (i j : Nat) (hi : i < 2) (r : List UInt8) (hr : MxRuns frm at_ s more t (i + 1) j r) : MxRuns frm at_ s more t i j ((if i = 0 then mxOne frm s more else mxTwo frm s) ++ r) := by
  obtain ⟨out, h1, h2⟩ := hr
  rcases (show i = 0 ∨ i = 1 by omega) with rfl | rfl
  · exact ⟨[] ++ out, Mat.Runs.go rfl (mx_step1 h j r) h1, h2⟩
  · exact ⟨[mxAA frm s more] ++ out, Mat.Runs.go rfl (mx_step2 h j r) h1, by
      unfold mxAns at h2 ⊢
      rw [if_neg (by decide), List.nil_append] at h2
      rw [if_pos (by decide)]
      exact h2.append_left _⟩
theorem mx_goB (h : MixOk frm at_ s more t) (i j : Nat) (hj : j < 2) (r : List UInt8) (hr : MxRuns frm at_ s more t i (j + 1) r) : MxRuns frm at_ s more t i j ((if j = 0 then mxThree at_ t else mxFour) ++ r) := by
  obtain ⟨out, h1, h2⟩ := hr
  rcases (show j = 0 ∨ j = 1 by omega) with rfl | rfl
  · exact ⟨[] ++ out, Mat.Runs.go rfl (mx_step3 h i r) h1, h2⟩
  · exact ⟨[mxAB at_ t] ++ out, Mat.Runs.go rfl (mx_step4 h i r) h1, by
      unfold mxAns at h2 ⊢
      rw [if_neg (by decide : ¬ (1 + 1 : Nat) < 2), List.append_nil] at h2
      rw [if_pos (by decide : (1 : Nat) < 2)]
      exact (h2.append_left _).trans List.perm_append_comm⟩
def mxLA (frm : Nat) (s more : List UInt8) : List (List UInt8) := [mxOne frm s more, mxTwo frm s]
def mxLB (at_ : Nat) (t : List UInt8) : List (List UInt8) := [mxThree at_ t, mxFour]
theorem mx_mix (h : MixOk frm at_ s more t) (o : List Bool) : ∀ i j, i ≤ 2 → j ≤ 2 → MxRuns frm at_ s more t i j (mix o ((mxLA frm s more).drop i) ((mxLB at_ t).drop j)) := by
  have hB : ∀ j, j ≤ 2 → MxRuns frm at_ s more t 2 j ((mxLB at_ t).drop j).flatten := by
    intro j hj
    rcases (show j = 0 ∨ j = 1 ∨ j = 2 by omega) with rfl | rfl | rfl
    · have := mx_goB h 2 0 (by decide) _ (mx_goB h 2 1 (by decide) _ (mx_end h))
      simpa [mxLB] using this
    · have := (mx_goB h 2 1 (by decide) _ (mx_end h))
      simpa [mxLB] using this
    · simpa [mxLB] using mx_end h
  induction o with
  | nil =>
    intro i j hi hj
    show MxRuns frm at_ s more t i j (((mxLA frm s more).drop i).flatten ++ ((mxLB at_ t).drop j).flatten)
    have hb := hB j hj
    generalize ((mxLB at_ t).drop j).flatten = r at hb ⊢
    rcases (show i = 0 ∨ i = 1 ∨ i = 2 by omega) with rfl | rfl | rfl
    · have := mx_goA h 0 j (by decide) _ (mx_goA h 1 j (by decide) _ hb)
      simpa [mxLA] using this
    · have := (mx_goA h 1 j (by decide) _ hb)
      simpa [mxLA] using this
    · simpa [mxLA] using hb
  | cons f o ih =>
    intro i j hi hj
    unfold mix
    cases f with
    | true =>
      rw [if_pos rfl, List.tail_drop]
      rcases (show i = 0 ∨ i = 1 ∨ i = 2 by omega) with rfl | rfl | rfl
      · have := mx_goA h 0 j (by decide) _ (ih 1 j (by decide) hj)
        simpa [mxLA] using this
      · have := mx_goA h 1 j (by decide) _ (ih 2 j (by decide) hj)
        simpa [mxLA] using this
      · have := ih 2 j (by decide) hj
        simpa [mxLA] using this
    | false =>
      rw [if_neg (by decide), List.tail_drop]
      rcases (show j = 0 ∨ j = 1 ∨ j = 2 by omega) with rfl | rfl | rfl
      · have := mx_goB h i 0 (by decide) _ (ih i 1 hi (by decide))
        simpa [mxLB] using this
      · have := mx_goB h i 1 (by decide) _ (ih i 2 hi (by decide))
        simpa [mxLB] using this
      · have := ih i 2 hi (by decide)
        simpa [mxLB] using this
theorem mx_asked (h : MixOk frm at_ s more t) : askedM true [mxQ frm s more, mxP at_ t] = ⟨[], true, mxW frm at_ s more t 0 0, false⟩ := by
  have h1 := h.len
  have h2 := h.tlen
  have f1 : (mxQ frm s more).fit = true := by unfold Req.fit mxQ; simp
  have f2 : (mxP at_ t).fit = true := by unfold Req.fit mxP; simp
  have e1 : ((Mat.new true).ask (mxQ frm s more)).1 = ⟨[], true, [Wait.fresh (mxQ frm s more)], false⟩ := by
    unfold Mat.ask Mat.new
    dsimp only
    rw [if_neg (by decide), if_neg (by rw [f1]; simp [mxQ]; omega), if_neg (by simp [findW]), if_neg (by decide)]
    rfl
  unfold askedM
  rw [List.foldl_cons, List.foldl_cons, List.foldl_nil, e1]
  unfold Mat.ask
  dsimp only
  rw [if_neg (by decide), if_neg (by rw [f2]; simp [mxP]; omega), if_neg (by
    unfold findW
    rw [List.findIdx?_cons, fresh_req, if_neg (by simp [mxQ, mxP])]
    simp), if_neg (by simp)]
  unfold mxW
  simp
theorem mx_feeds (h : MixOk frm at_ s more t) (o : List Bool) {n : Mat} {out : List Answ} (hf : Mat.Feeds (askedM true [mxQ frm s more, mxP at_ t]) (mix o (mxLA frm s more) (mxLB at_ t)) n out) : n = mxN ∧ (out = [mxAA frm s more, mxAB at_ t] ∨ out = [mxAB at_ t, mxAA frm s more]) := by
  rw [mx_asked h] at hf
  obtain ⟨o2, h1, h2⟩ := mx_mix h o 0 0 (by decide) (by decide)
  have hf2 : Mat.Feeds ⟨[], true, mxW frm at_ s more t 0 0, false⟩ (mix o (mxLA frm s more) (mxLB at_ t)) mxN o2 := Mat.Feeds.live rfl h1
  obtain ⟨rfl, rfl⟩ := Mat.feeds_one hf hf2
  refine ⟨rfl, ?_⟩
  have e : mxAns frm at_ s more t 0 0 = [mxAA frm s more, mxAB at_ t] := rfl
  rw [e] at h2
  have hl := h2.length_eq
  obtain ⟨x, y, rfl⟩ : ∃ x y, out = [x, y] := by
    match out, hl with
    | [x, y], _ => exact ⟨x, y, rfl⟩
  have hx : x ∈ [mxAA frm s more, mxAB at_ t] := h2.subset (by simp)
  simp only [List.mem_cons, List.not_mem_nil, or_false] at hx
  rcases hx with rfl | rfl
  · left
    have := (List.perm_cons _).1 h2
    rw [List.perm_singleton] at this
    rw [this]
  · right
    have h3 := h2.trans (List.Perm.swap _ _ _)
    have := (List.perm_cons _).1 h3
    rw [List.perm_singleton] at this
    rw [this]
end
end Go.Proofs.Ytfcojhpnpfodeaa
