/- hello.Feed and hello.New. -/
import Derived.Test.YtcmgecojhjdjkaaHelInfo
import Derived.Test.YtcmgecojhjdjkaaHelSame
import Derived.Test.YtcmgecojhjdjkaaHelBound
import Derived.Laws.EntriesVeiled
namespace Go.Proofs.Ytcmgecojhjdjkaa
open Go.RowKit

theorem takeO_data (n : Nat) (s x r : List UInt8) (h : takeO n s = .ok x r) : x.length ≤ s.length := by
  unfold takeO at h
  split at h
  · cases h
  · cases h; rw [List.length_take]; omega
theorem dataO_data (n : Nat) (s x r : List UInt8) (h : dataO n s = .ok x r) : x.length ≤ s.length := by
  unfold dataO at h
  cases h4 : fourO s with
  | thrown e => rw [h4] at h; cases h
  | ok m r1 =>
    rw [h4] at h
    dsimp only at h
    split at h
    · cases h
    · exact Nat.le_trans (takeO_data _ _ _ _ h) (fourO_rest _ _ _ h4)
theorem readAns_data (s : List UInt8) : (readAns s).1.2.2.length ≤ s.length := by
  unfold readAns
  cases h : readAnsO s with
  | thrown e => simp
  | ok x r =>
    dsimp only
    unfold readAnsO at h
    cases h1 : headO ansHead s with
    | thrown e => rw [h1] at h; cases h
    | ok u r1 =>
      rw [h1] at h
      dsimp only at h
      cases h2 : fourO r1 with
      | thrown e => rw [h2] at h; cases h
      | ok o r2 =>
        rw [h2] at h
        dsimp only at h
        cases h3 : fourO r2 with
        | thrown e => rw [h3] at h; cases h
        | ok k r3 =>
          rw [h3] at h
          dsimp only at h
          cases h4 : dataO 4096 r3 with
          | thrown e => rw [h4] at h; cases h
          | ok d r4 =>
            rw [h4] at h
            cases h
            have a1 := headO_rest _ _ _ h1
            have a2 := fourO_rest _ _ _ h2
            have a3 := fourO_rest _ _ _ h3
            have a4 := dataO_data _ _ _ _ h4
            dsimp only
            omega

/-- What bounds a client under way. -/
structure Mild (h : Hel) (out : List UInt8) : Prop where
  want : h.want.length ≤ 100
  each : ∀ x ∈ h.want, x.length ≤ 20000
  buf : h.metas.length + h.buf.length ≤ 20000
  out : out.length + 5000 * h.buf.length ≤ 100000000
  phase : h.phase ≤ 5

theorem Mild.less {h h1 : Hel} {out o : List UInt8} (m : Mild h out) (l : Hel.Less h (h1, o)) : Mild h1 (out ++ o) := by
  have l1 := l.want
  have l2 := l.metas
  have l3 := l.out
  have m1 := m.buf
  have m2 := m.out
  dsimp only at l1 l2 l3
  exact ⟨by rw [l1]; exact m.want, by rw [l1]; exact m.each, by omega, by rw [List.length_append]; omega, l.phase⟩

section
variable (W0 : World) (b : Nat) (K : Held) (w : World) (h : Hel) (out : List UInt8) (ao ak : Nat) (ad : List UInt8)

set_option maxRecDepth 100000 in
set_option maxHeartbeats 1000000 in
theorem hearChunks_any (m : Mild h out) (hw : Wrk W0 b K w h out ao ak ad) :
    Calls Try.prog 10 #[.pointer (some ⟨b, 0, none⟩)] w (StepEnds W0 b K h out (h.answered 8 fun h k _ => h.doChunks k)) := by
  have hbuf := m.buf
  have hout := m.out
  have H := Lib.hid (answered_any W0 b K w h out ao ak ad 21 (fun h k _ => h.doChunks k) 8 8 rfl (.inl rfl) (by omega)
    (fun W hW => chunks_any W0 b K W _ out _ _ _ m.want m.each (by omega) hW) hw)
  clear hw
  go_enter Try.func10, Try.ntmps10
  go_wp2_with fail
  refine H.out.mono ?_
  rintro e w5 ⟨x1, x2, x3, ⟨h1, rfl, h2⟩ | ⟨y1, y2, h1, rfl, h2⟩⟩
  · go_wp2
    go_ret
    exact ⟨x1, x2, x3, .inl ⟨h1, rfl, h2⟩⟩
  · go_wp2
    go_ret
    exact ⟨x1, x2, x3, .inr ⟨y1, y2, h1, rfl, h2⟩⟩

set_option maxRecDepth 100000 in
set_option maxHeartbeats 1000000 in
theorem hearMeta_any (m : Mild h out) (hw : Wrk W0 b K w h out ao ak ad) :
    Calls Try.prog 11 #[.pointer (some ⟨b, 0, none⟩)] w (StepEnds W0 b K h out (h.answered 10 Hel.doMeta)) := by
  have hbuf := m.buf
  have hout := m.out
  have hda := readAns_data h.buf
  have H := Lib.hid (answered_any W0 b K w h out ao ak ad 22 Hel.doMeta 10 10 rfl (.inr (.inl rfl)) (by omega)
    (fun W hW => doMeta_any W0 b K W _ out _ _ _ m.want (by show h.metas.length ≤ _; omega) (by omega) (by omega) hW) hw)
  clear hw
  go_enter Try.func11, Try.ntmps11
  go_wp2_with fail
  refine H.out.mono ?_
  rintro e w5 ⟨x1, x2, x3, ⟨h1, rfl, h2⟩ | ⟨y1, y2, h1, rfl, h2⟩⟩
  · go_wp2
    go_ret
    exact ⟨x1, x2, x3, .inl ⟨h1, rfl, h2⟩⟩
  · go_wp2
    go_ret
    exact ⟨x1, x2, x3, .inr ⟨y1, y2, h1, rfl, h2⟩⟩

set_option maxRecDepth 100000 in
set_option maxHeartbeats 1000000 in
theorem hearGo_any (m : Mild h out) (hw : Wrk W0 b K w h out ao ak ad) :
    Calls Try.prog 12 #[.pointer (some ⟨b, 0, none⟩)] w (StepEnds W0 b K h out (h.answered 7 Hel.doInfo)) := by
  have hbuf := m.buf
  have hda := readAns_data h.buf
  have H := Lib.hid (answered_any W0 b K w h out ao ak ad 23 Hel.doInfo 7 7 rfl (.inr (.inr rfl)) (by omega)
    (fun W hW => doInfo_any W0 b K W _ out _ _ _ (by omega) hW) hw)
  clear hw
  go_enter Try.func12, Try.ntmps12
  go_wp2_with fail
  refine H.out.mono ?_
  rintro e w5 ⟨x1, x2, x3, ⟨h1, rfl, h2⟩ | ⟨y1, y2, h1, rfl, h2⟩⟩
  · go_wp2
    go_ret
    exact ⟨x1, x2, x3, .inl ⟨h1, rfl, h2⟩⟩
  · go_wp2
    go_ret
    exact ⟨x1, x2, x3, .inr ⟨y1, y2, h1, rfl, h2⟩⟩
end

theorem wp_at {P : Program} {c : Code} {Q : Exit → Act → World → Prop} {a : Act} {w : World} (h : ∀ W, W = w → Code.wp P c Q a W) : Code.wp P c Q a w := h w rfl

/-- How much is left to be taken off. -/
def leftOf (w : World) (b : Nat) : Nat :=
  match w.cell? ⟨b, 0, none⟩, w.cell? ⟨b, 1, none⟩ with
  | some (.int _ p), some (.string s) => if p < 4 then s.size + 1 else 0
  | _, _ => 0
theorem Wrk.left {W0 : World} {b : Nat} {K : Held} {w : World} {h : Hel} {out : List UInt8} {ao ak : Nat} {ad : List UInt8} (hw : Wrk W0 b K w h out ao ak ad) : leftOf w b = if h.phase < 4 then h.buf.length + 1 else 0 := by
  obtain ⟨vw, vm, p, v, h1, h2⟩ := hw
  have c0 := h1.cell 0
  have c1 := h1.cell 1
  unfold wrkC at c0 c1
  simp only [List.getElem?_toArray, List.getElem?_cons_zero, List.getElem?_cons_succ] at c0 c1
  unfold leftOf
  rw [c0, c1]
  dsimp only
  rw [size_list]
  by_cases hp : h.phase < 4
  · rw [if_pos hp, if_pos (by omega)]
  · rw [if_neg hp, if_neg (by omega)]
theorem Wrk.held {W0 : World} {b : Nat} {K : Held} {w : World} {h : Hel} {out : List UInt8} {ao ak : Nat} {ad : List UInt8} (hw : Wrk W0 b K w h out ao ak ad) {g : Nat} {t : TypeId} {cs : Array Value} (hx : (g, t, cs) ∈ K) : Blk w g t cs := by
  obtain ⟨vw, vm, p, v, h1, h2⟩ := hw
  exact (h2.kept _ hx).1

/-- Behind the builder's String. -/
structure StrEnd (W0 : World) (b : Nat) (K : Held) (h : Hel) (vw vm p v : Value) (ao ak : Nat) (ad : List UInt8) (w : World) : Prop where
  blk : Blk w b 43 (wrkC h vw vm p v ao ak ad)
  held : ∀ x ∈ K, Blk w x.1 x.2.1 x.2.2
  metas : MetaIn w b vm h.metas
  want : SlAt W0 vw h.want.length (cellsS h.want)
  wt : ∀ g, vw.ownBlock = some g → ∃ cs, Blk W0 g 9 cs
  below : Below W0.heap.size W0 w
theorem turns_grown {w w' : World} {b : Nat} {row : Option Nat} (h : w.grownBy w' row) : Turns w w' b row := ⟨h.os, h.tape, h.output, h.size, fun k hk _ hr => h.block k hk (fun e => hr (by rw [e]))⟩
theorem wrk_string (W0 : World) (b : Nat) (K : Held) (w : World) (h : Hel) (out : List UInt8) (ao ak : Nat) (ad : List UInt8) (vw vm p v : Value)
    (h1 : Blk w b 43 (wrkC h vw vm p v ao ak ad)) (h2 : Rest W0 b K w h.want h.metas out vw vm p v) :
    Calls Try.prog 13 #[.pointer (some ⟨b, 8, none⟩)] w fun e w' => e = .returned (.string ⟨out.toArray⟩) ∧ StrEnd W0 b K h vw vm p v ao ak ad w' := by
  refine (string_any w W0.heap.size b 8 43 _ p v out h1 (by simp [wrkC]) h2.bld).mono ?_
  rintro e w' ⟨rfl, hg⟩
  have hT : Turns w w' b v.ownBlock := turns_grown hg
  have hb := h2.hb
  refine ⟨rfl, (hg.block b h1.lt (fun e => h2.bld.ne e.symm)).trans h1, fun x hx => ?_, ⟨h2.metas.1.moved fun g hg => ?_, fun g hg => ?_⟩, h2.want, h2.wt, hT.below h2.grown h2.grown.size hb h2.bld.row⟩
  · obtain ⟨k1, k2, k3⟩ := h2.kept x hx
    exact h2.bld.keeps k1 hT k2 k3
  · obtain ⟨h3, cs, h4⟩ := h2.metas.2 g hg
    exact (h2.bld.keeps h4 hT h3 (by decide)).trans h4.symm
  · obtain ⟨h3, cs, h4⟩ := h2.metas.2 g hg
    exact ⟨h3, cs, h2.bld.keeps h4 hT h3 (by decide)⟩
theorem MetaIn.far {b R : Nat} {w w' : World} {v : Value} {l : List (Nat × List UInt8)} {t : TypeId} {cs : Array Value} (h : MetaIn w b v l) (hR : Blk w R t cs) (ht : t ≠ 48)
    (hw : ∀ g, g ≠ R → w'.heap[g]? = w.heap[g]?) : SlAt w' v l.length (cellsM l) ∧ ∀ g, v.ownBlock = some g → ∃ cs, Blk w' g 48 cs := by
  have hne : ∀ g, v.ownBlock = some g → g ≠ R := by
    rintro g hg rfl
    obtain ⟨_, cs', h1⟩ := h.2 g hg
    have := (show w.heap[g]? = _ from hR).symm.trans h1
    simp at this
    exact ht this.2
  refine ⟨h.1.moved fun g hg => hw g (hne g hg), fun g hg => ?_⟩
  obtain ⟨_, cs', h1⟩ := h.2 g hg
  exact ⟨cs', (hw g (hne g hg)).trans h1⟩

/-- How Feed ends. -/
def FeedEnds (h : Hel) (s : List UInt8) (w : World) (e : Ending) (w' : World) : Prop :=
  ∃ h' out vw vm, e = .returned (.tuple #[.agg (helC h' vw vm), .string ⟨out.toArray⟩]) ∧ Hel.Feeds h s h' out ∧ Mild h' out ∧ h'.want = h.want ∧ SlAt w' vw h'.want.length (cellsS h'.want) ∧ SlAt w' vm h'.metas.length (cellsM h'.metas) ∧ (∀ g, vw.ownBlock = some g → ∃ cs, Blk w' g 9 cs) ∧ (∀ g, vm.ownBlock = some g → ∃ cs, Blk w' g 48 cs) ∧ Below w.heap.size w w'

theorem feed_end (h : Hel) (s : List UInt8) (w W : World) (h1 : Hel) (o1 : List UInt8) (vw vm : Value) (hM : SlAt W vm h1.metas.length (cellsM h1.metas) ∧ ∀ g, vm.ownBlock = some g → ∃ cs, Blk W g 48 cs) (hb : Below w.heap.size w W)
    (hF : Hel.Feeds h s h1 o1) (hm : Mild h1 o1) (hw : h1.want = h.want) (hS : SlAt w vw h1.want.length (cellsS h1.want)) (hT : ∀ g, vw.ownBlock = some g → ∃ cs, Blk w g 9 cs) : FeedEnds h s w (.returned (.tuple #[.agg (helC h1 vw vm), .string ⟨o1.toArray⟩])) W :=
  ⟨h1, o1, vw, vm, rfl, hF, hm, hw, hS.below hb, hM.1, fun g hg => (hT g hg).imp fun cs h => h.below hb h.lt, hM.2, hb⟩

set_option maxRecDepth 100000 in
set_option maxHeartbeats 2000000 in
theorem feed_any (h : Hel) (s : List UInt8) (vw vm : Value) (w : World) (m : Mild { h with buf := h.buf ++ s } []) (h1 : SlAt w vw h.want.length (cellsS h.want)) (h2 : SlAt w vm h.metas.length (cellsM h.metas)) (h3 : ∀ g, vm.ownBlock = some g → ∃ cs, Blk w g 48 cs) (h4 : ∀ g, vw.ownBlock = some g → ∃ cs, Blk w g 9 cs) :
    Calls Try.prog 6 #[.agg (helC h vw vm), .string ⟨s.toArray⟩] w (FeedEnds h s w) := by
  obtain ⟨ad1, c1, rfl⟩ := h1.form
  obtain ⟨ad2, c2, rfl⟩ := h2.form
  have H1 := Lib.hid h1
  have H2 := Lib.hid h2
  have H3 := Lib.hid h3
  have H4 := Lib.hid h4
  have hbuf := m.buf
  dsimp only at hbuf
  rw [List.length_append] at hbuf
  clear h1 h2 h3 h4
  by_cases hp : h.phase = 5
  · have HM : Hid (Mild h []) := Lib.hid ⟨m.want, m.each, by have := m.buf; simp at this; omega, by have := m.out; simp at this; simp; omega, m.phase⟩
    have e1 : ((h.phase : Int) == 5) = true := by rw [hp]; rfl
    have HF := Lib.hid (Hel.Feeds.dead (s := s) hp)
    clear hp m hbuf
    unfold helC
    go_enter Try.func6, Try.ntmps6
    go_wp2_with fail
    try simp only [Exit.inBlock, Exit.then]
    refine bodyPost_ret (v := .tuple #[.agg (helC h (.slice ad1 h.want.length c1) (.slice ad2 h.metas.length c2)), .string ⟨#[]⟩]) (by simp [results, Try.results6, go_sem, helC]) rfl ?_
    have hb : Below w.heap.size w ((w.alloc (.cells (helC h (.slice ad1 h.want.length c1) (.slice ad2 h.metas.length c2)) 28)).alloc (.cells (helC h (.slice ad1 h.want.length c1) (.slice ad2 h.metas.length c2)) 28)) := by (repeat' (first | (with_reducible assumption) | (with_reducible exact Below.refl _ _) | (with_reducible refine below_drewN ?_ _) | (with_reducible refine Below.drew ?_) | (with_reducible refine Below.setCell ?_ ?_ _) | (with_reducible refine Below.alloc ?_ ?_ _) | (with_reducible refine below_putObj ?_ ?_ _) | (with_reducible exact Nat.le_refl _) | omega | (simp; done) | (simp; omega)))
    exact ⟨h, [], _, _, rfl, HF.out, HM.out, rfl, H1.out.below hb, H2.out.below hb, fun g hg => (H4.out g hg).imp fun cs h => h.below hb h.lt, fun g hg => (H3.out g hg).imp fun cs h => h.below hb h.lt, hb⟩
  · have e1 : ((h.phase : Int) == 5) = false := by rw [beq_eq_false_iff_ne]; omega
    have HM := Lib.hid m
    clear m
    unfold helC
    go_enter Try.func6, Try.ntmps6
    go_upto_region 5 with fail
    refine wp_at fun W hW => ?_
    have hbB : Below w.heap.size w W := by rw [hW]; (repeat' (first | (with_reducible assumption) | (with_reducible exact Below.refl _ _) | (with_reducible refine below_drewN ?_ _) | (with_reducible refine Below.drew ?_) | (with_reducible refine Below.setCell ?_ ?_ _) | (with_reducible refine Below.alloc ?_ ?_ _) | (with_reducible refine below_putObj ?_ ?_ _) | (with_reducible exact Nat.le_refl _) | omega | (simp; done) | (simp; omega)))
    have hbW : Blk W (w.heap.size + 1 + 1) 43 (wrkC { h with buf := h.buf ++ s } (.slice ad1 h.want.length c1) (.slice ad2 h.metas.length c2) (.pointer none) (.slice none 0 0) 0 0 []) := by rw [hW]; exact Blk.newAt (by simp)
    have hbR : Blk W (w.heap.size + 1) 28 #[.int .i64 0, .string ⟨#[]⟩, .slice none 0 0, .bool false, .int .u64 0, .int .i64 0, .bool false, .slice none 0 0] := by rw [hW]; exact (Blk.newAt (by simp)).alloc _
    clear hW
    have hRest : Rest w (w.heap.size + 1 + 1) [(w.heap.size + 1, 28, #[.int .i64 0, .string ⟨#[]⟩, .slice none 0 0, .bool false, .int .u64 0, .int .i64 0, .bool false, .slice none 0 0])] W h.want h.metas [] (.slice ad1 h.want.length c1) (.slice ad2 h.metas.length c2) (.pointer none) (.slice none 0 0) :=
      ⟨Bld.fresh _ _ _ _, ⟨H2.out.below hbB, fun g hg => ⟨by obtain ⟨cs, h⟩ := H3.out g hg; have := h.lt; omega, (H3.out g hg).imp fun cs h => h.below hbB h.lt⟩⟩, H1.out, hbB, fun x hx => by simp only [List.mem_singleton] at hx; subst hx; exact ⟨hbR, by omega, show (28 : Nat) ≠ 5 by decide⟩, by omega, H4.out⟩
    have hRest2 : Rest w (w.heap.size + 1 + 1) [(w.heap.size + 1, 28, #[.int .i64 0, .string ⟨#[]⟩, .slice none 0 0, .bool false, .int .u64 0, .int .i64 0, .bool false, .slice none 0 0]), (W.heap.size, 44, #[.func (.func 9) #[.pointer (some ⟨w.heap.size + 1 + 1, 0, none⟩)] #[], .func (.func 10) #[.pointer (some ⟨w.heap.size + 1 + 1, 0, none⟩)] #[], .func (.func 11) #[.pointer (some ⟨w.heap.size + 1 + 1, 0, none⟩)] #[], .func (.func 12) #[.pointer (some ⟨w.heap.size + 1 + 1, 0, none⟩)] #[]])]
        (W.alloc (.cells #[.func (.func 9) #[.pointer (some ⟨w.heap.size + 1 + 1, 0, none⟩)] #[], .func (.func 10) #[.pointer (some ⟨w.heap.size + 1 + 1, 0, none⟩)] #[], .func (.func 11) #[.pointer (some ⟨w.heap.size + 1 + 1, 0, none⟩)] #[], .func (.func 12) #[.pointer (some ⟨w.heap.size + 1 + 1, 0, none⟩)] #[]] 44)) h.want h.metas [] (.slice ad1 h.want.length c1) (.slice ad2 h.metas.length c2) (.pointer none) (.slice none 0 0) := by
      have hR := hRest.alloc (.cells #[.func (.func 9) #[.pointer (some ⟨w.heap.size + 1 + 1, 0, none⟩)] #[], .func (.func 10) #[.pointer (some ⟨w.heap.size + 1 + 1, 0, none⟩)] #[], .func (.func 11) #[.pointer (some ⟨w.heap.size + 1 + 1, 0, none⟩)] #[], .func (.func 12) #[.pointer (some ⟨w.heap.size + 1 + 1, 0, none⟩)] #[]] 44)
      have hlt := hbW.lt
      refine ⟨hR.bld, hR.metas, hR.want, hR.grown, fun x hx => ?_, hR.hb, hR.wt⟩
      rcases List.mem_cons.1 hx with rfl | hx
      · exact hR.kept _ (by simp)
      · simp only [List.mem_singleton] at hx
        subst hx
        exact ⟨Blk.new _ _ _, by dsimp only; omega, show (44 : Nat) ≠ 5 by decide⟩
    have HW0 := Lib.hid (show Wrk _ _ _ _ { h with buf := h.buf ++ s } [] 0 0 [] from ⟨_, _, _, _, hbW.alloc _, hRest2⟩)
    clear hRest hRest2 hbR hbW
    go_wp2_with fail
    generalize W.heap.size = g at HW0 ⊢
    refine wp_at fun W1 hW1 => ?_
    rw [← hW1] at HW0
    clear hW1 hbB W
    obtain ⟨K, hK⟩ : ∃ K : Held, K = [(w.heap.size + 1, 28, #[.int .i64 0, .string ⟨#[]⟩, .slice none 0 0, .bool false, .int .u64 0, .int .i64 0, .bool false, .slice none 0 0]), (g, 44, #[.func (.func 9) #[.pointer (some ⟨w.heap.size + 1 + 1, 0, none⟩)] #[], .func (.func 10) #[.pointer (some ⟨w.heap.size + 1 + 1, 0, none⟩)] #[], .func (.func 11) #[.pointer (some ⟨w.heap.size + 1 + 1, 0, none⟩)] #[], .func (.func 12) #[.pointer (some ⟨w.heap.size + 1 + 1, 0, none⟩)] #[]])] := ⟨_, rfl⟩
    rw [← hK] at HW0
    have hKR : (w.heap.size + 1, 28, #[.int .i64 0, .string ⟨#[]⟩, .slice none 0 0, .bool false, .int .u64 0, .int .i64 0, .bool false, .slice none 0 0]) ∈ K := by rw [hK]; simp
    have hKA : (g, 44, #[.func (.func 9) #[.pointer (some ⟨w.heap.size + 1 + 1, 0, none⟩)] #[], .func (.func 10) #[.pointer (some ⟨w.heap.size + 1 + 1, 0, none⟩)] #[], .func (.func 11) #[.pointer (some ⟨w.heap.size + 1 + 1, 0, none⟩)] #[], .func (.func 12) #[.pointer (some ⟨w.heap.size + 1 + 1, 0, none⟩)] #[]]) ∈ K := by rw [hK]; simp
    have HKR := Lib.hid hKR
    have HKA := Lib.hid hKA
    clear hK hKR hKA
    generalize hbb : w.heap.size + 1 + 1 = b at HW0 HKA ⊢
    go_loopw [] (fun wr => ∃ h1 o1 ao ak ad, Wrk w b K wr h1 o1 ao ak ad ∧ Hid (Mild h1 o1 ∧ h1.want = h.want ∧ ∀ o2 h2, Hel.Runs h1 o2 h2 → Hel.Runs { h with buf := h.buf ++ s } (o1 ++ o2) h2)) (fun wr => leftOf wr b)
    case atStart => exact ⟨_, [], 0, 0, [], HW0.out, Lib.hid ⟨HM.out, rfl, fun o2 h2 hr => by simpa using hr⟩⟩
    case round =>
      obtain ⟨h1, o1, ao, ak, ad, hw, hI⟩ := hrel
      have hL := hw.left
      by_cases hp4 : h1.phase < 4
      · rw [if_pos hp4] at hL
        have hps : h1.phase = 0 ∨ h1.phase = 1 ∨ h1.phase = 2 ∨ h1.phase = 3 := by omega
        have hM1 := hI.out.1
        have m1 := hM1.out
        have m2 := hM1.buf
        have A := hw.held HKA.out
        have a0 := A.cell 0
        have a1 := A.cell 1
        have a2 := A.cell 2
        have a3 := A.cell 3
        obtain ⟨b1, v1, b2, v2, p, b3, v3, k1, k2⟩ := hw.open_
        have c0' := k1.cell 0
        unfold wrkC at c0'
        simp only [List.getElem?_toArray, List.getElem?_cons_zero, List.getElem?_cons_succ] at a0 a1 a2 a3 c0'
        have HL := Lib.hid hL
        have HP4 := Lib.hid hp4
        rcases hps with hp | hp | hp | hp
        · have c0 : wr.cell? ⟨b, 0, none⟩ = some (.int .i64 0) := by rw [c0', hp]; rfl
          have HS : Hid (Calls Try.prog 9 #[.pointer (some ⟨b, 0, none⟩)] wr (StepEnds w b K h1 o1 h1.step)) := Lib.hid (by
            have e : h1.step = h1.greet := by unfold Hel.step; rw [if_pos hp]
            rw [e]
            exact greet_any w b K wr h1 o1 ao ak ad (by omega) (by omega) hw)
          clear k1 k2 c0' hp hL hp4 m1 m2 A hw hM1
          go_wp2_with fail
          refine HS.out.mono ?_
          rintro e w5 ⟨ao, ak, ad, ⟨hn, rfl, hw5⟩ | ⟨y1, y2, hs, rfl, hw5⟩⟩
          · have HWX := Lib.hid hw5
            have HRU : Hid (Hel.Runs { h with buf := h.buf ++ s } o1 h1) := Lib.hid (by have := hI.out.2.2 [] h1 (Hel.Runs.stop (.inr hn)); rwa [List.append_nil] at this)
            have HMX := Lib.hid hI.out.1
            have HWT := Lib.hid hI.out.2.1
            clear a0 a1 a2 a3 c0 HS HL HP4 hI hw5 hn
            have hwE := HWX.out
            obtain ⟨x1, q1, x2, q2, p, x3, q3, k1, k2⟩ := hwE.open_
            have hR := hwE.held HKR.out
            have c0 := k1.cell 0
            have c1 := k1.cell 1
            have c2 := k1.cell 2
            have c3 := k1.cell 3
            have c4 := k1.cell 4
            have c5 := k1.cell 5
            have c6 := k1.cell 6
            have c7 := k1.cell 7
            unfold wrkC at c0 c1 c2 c3 c4 c5 c6 c7
            simp only [List.getElem?_toArray, List.getElem?_cons_zero, List.getElem?_cons_succ] at c0 c1 c2 c3 c4 c5 c6 c7
            have HS := Lib.hid (fun W => wrk_string w b K W h1 o1 ao ak ad (.slice x1 h1.want.length q1) (.slice x2 h1.metas.length q2) p (.slice x3 o1.length q3))
            have K1 := Lib.hid k1
            have K2 := Lib.hid k2
            clear k1 k2 hwE hR
            go_upto_region 7 with fail
            go_region_with (go_at_call 13; go_loud (refine (HS.out _ K1.out.drew K2.out.drew).mono ?_; rintro e w6 ⟨rfl, hE⟩; have d0 := hE.blk.cell 0; have d1 := hE.blk.cell 1; have d2 := hE.blk.cell 2; have d3 := hE.blk.cell 3; have d4 := hE.blk.cell 4; have d5 := hE.blk.cell 5; have d6 := hE.blk.cell 6; have d7 := hE.blk.cell 7; unfold wrkC at d0 d1 d2 d3 d4 d5 d6 d7; simp only [List.getElem?_toArray, List.getElem?_cons_zero, List.getElem?_cons_succ] at d0 d1 d2 d3 d4 d5 d6 d7; have hR := hE.held _ HKR.out; have r0 := hR.cell 0; have r1 := hR.cell 1; have r2 := hR.cell 2; have r3 := hR.cell 3; have r4 := hR.cell 4; have r5 := hR.cell 5; have r6 := hR.cell 6; have r7 := hR.cell 7; simp only [List.getElem?_toArray, List.getElem?_cons_zero, List.getElem?_cons_succ] at r0 r1 r2 r3 r4 r5 r6 r7; have s0 := hR.frozen 0; have s1 := hR.frozen 1; have s2 := hR.frozen 2; have s3 := hR.frozen 3; have s4 := hR.frozen 4; have s5 := hR.frozen 5; have s6 := hR.frozen 6; have s7 := hR.frozen 7; try dsimp only at r0 r1 r2 r3 r4 r5 r6 r7 s0 s1 s2 s3 s4 s5 s6 s7; have HE := Lib.hid hE; clear hE hR c0 c1 c2 c3 c4 c5 c6 c7))
            all_goals
              go_wp2
              try simp only [Exit.inBlock, Exit.then]
              refine bodyPost_ret (v := .tuple #[.agg (helC h1 (.slice x1 h1.want.length q1) (.slice x2 h1.metas.length q2)), .string ⟨o1.toArray⟩]) (by simp [results, Try.results6, go_sem, helC, *]) rfl ?_
              have hEb := HE.out.below
              refine feed_end h s w _ h1 o1 _ _ (MetaIn.far HE.out.metas (HE.out.held _ HKR.out) (show (28 : Nat) ≠ 48 by decide) (fun g hg => ?_)) ?_ (Hel.Feeds.live hp HRU.out) HMX.out HWT.out HE.out.want HE.out.wt
              · repeat rw [heap_set hg]
              · (repeat' (first | (with_reducible assumption) | (with_reducible exact Below.refl _ _) | (with_reducible refine below_drewN ?_ _) | (with_reducible refine Below.drew ?_) | (with_reducible refine Below.setCell ?_ ?_ _) | (with_reducible refine Below.alloc ?_ ?_ _) | (with_reducible refine below_putObj ?_ ?_ _) | (with_reducible exact Nat.le_refl _) | omega | (simp; done) | (simp; omega)))
          · have hI2 := hI.out
            have hle := Hel.less_step h1 hI2.1.phase _ hs
            have hMy := hI2.1.less hle
            have hWy : y1.want = h.want := hle.want.trans hI2.2.1
            have hLy := hw5.left
            have HY : Hid (Mild y1 (o1 ++ y2) ∧ y1.want = h.want ∧ ∀ o2 h2, Hel.Runs y1 o2 h2 → Hel.Runs { h with buf := h.buf ++ s } ((o1 ++ y2) ++ o2) h2) :=
              Lib.hid ⟨hMy, hWy, fun o2 h2 hr => by rw [List.append_assoc]; exact hI2.2.2 _ _ (Hel.Runs.go HP4.out hs hr)⟩
            have HM2 : Hid (leftOf w5 b < leftOf wr b) := Lib.hid (by
              rw [HL.out, hLy]
              have := hle.less
              dsimp only at this
              by_cases hy : y1.phase < 4
              · rw [if_pos hy]; omega
              · rw [if_neg hy]; omega)
            clear a0 a1 a2 a3 c0 HS HL HP4 hI hI2 hle hMy hWy hLy hs
            go_wp2
            go_roundw
            case rel => exact ⟨_, _, _, _, _, hw5, HY⟩
            case measure => exact HM2.out
        · have c0 : wr.cell? ⟨b, 0, none⟩ = some (.int .i64 1) := by rw [c0', hp]; rfl
          have HS : Hid (Calls Try.prog 10 #[.pointer (some ⟨b, 0, none⟩)] wr (StepEnds w b K h1 o1 h1.step)) := Lib.hid (by
            have e : h1.step = h1.answered 8 (fun h k _ => h.doChunks k) := by unfold Hel.step; rw [if_neg (by omega)]; rw [if_pos hp]
            rw [e]
            exact hearChunks_any w b K wr h1 o1 ao ak ad hM1 hw)
          clear k1 k2 c0' hp hL hp4 m1 m2 A hw hM1
          go_wp2_with fail
          refine HS.out.mono ?_
          rintro e w5 ⟨ao, ak, ad, ⟨hn, rfl, hw5⟩ | ⟨y1, y2, hs, rfl, hw5⟩⟩
          · have HWX := Lib.hid hw5
            have HRU : Hid (Hel.Runs { h with buf := h.buf ++ s } o1 h1) := Lib.hid (by have := hI.out.2.2 [] h1 (Hel.Runs.stop (.inr hn)); rwa [List.append_nil] at this)
            have HMX := Lib.hid hI.out.1
            have HWT := Lib.hid hI.out.2.1
            clear a0 a1 a2 a3 c0 HS HL HP4 hI hw5 hn
            have hwE := HWX.out
            obtain ⟨x1, q1, x2, q2, p, x3, q3, k1, k2⟩ := hwE.open_
            have hR := hwE.held HKR.out
            have c0 := k1.cell 0
            have c1 := k1.cell 1
            have c2 := k1.cell 2
            have c3 := k1.cell 3
            have c4 := k1.cell 4
            have c5 := k1.cell 5
            have c6 := k1.cell 6
            have c7 := k1.cell 7
            unfold wrkC at c0 c1 c2 c3 c4 c5 c6 c7
            simp only [List.getElem?_toArray, List.getElem?_cons_zero, List.getElem?_cons_succ] at c0 c1 c2 c3 c4 c5 c6 c7
            have HS := Lib.hid (fun W => wrk_string w b K W h1 o1 ao ak ad (.slice x1 h1.want.length q1) (.slice x2 h1.metas.length q2) p (.slice x3 o1.length q3))
            have K1 := Lib.hid k1
            have K2 := Lib.hid k2
            clear k1 k2 hwE hR
            go_upto_region 7 with fail
            go_region_with (go_at_call 13; go_loud (refine (HS.out _ K1.out.drew K2.out.drew).mono ?_; rintro e w6 ⟨rfl, hE⟩; have d0 := hE.blk.cell 0; have d1 := hE.blk.cell 1; have d2 := hE.blk.cell 2; have d3 := hE.blk.cell 3; have d4 := hE.blk.cell 4; have d5 := hE.blk.cell 5; have d6 := hE.blk.cell 6; have d7 := hE.blk.cell 7; unfold wrkC at d0 d1 d2 d3 d4 d5 d6 d7; simp only [List.getElem?_toArray, List.getElem?_cons_zero, List.getElem?_cons_succ] at d0 d1 d2 d3 d4 d5 d6 d7; have hR := hE.held _ HKR.out; have r0 := hR.cell 0; have r1 := hR.cell 1; have r2 := hR.cell 2; have r3 := hR.cell 3; have r4 := hR.cell 4; have r5 := hR.cell 5; have r6 := hR.cell 6; have r7 := hR.cell 7; simp only [List.getElem?_toArray, List.getElem?_cons_zero, List.getElem?_cons_succ] at r0 r1 r2 r3 r4 r5 r6 r7; have s0 := hR.frozen 0; have s1 := hR.frozen 1; have s2 := hR.frozen 2; have s3 := hR.frozen 3; have s4 := hR.frozen 4; have s5 := hR.frozen 5; have s6 := hR.frozen 6; have s7 := hR.frozen 7; try dsimp only at r0 r1 r2 r3 r4 r5 r6 r7 s0 s1 s2 s3 s4 s5 s6 s7; have HE := Lib.hid hE; clear hE hR c0 c1 c2 c3 c4 c5 c6 c7))
            all_goals
              go_wp2
              try simp only [Exit.inBlock, Exit.then]
              refine bodyPost_ret (v := .tuple #[.agg (helC h1 (.slice x1 h1.want.length q1) (.slice x2 h1.metas.length q2)), .string ⟨o1.toArray⟩]) (by simp [results, Try.results6, go_sem, helC, *]) rfl ?_
              have hEb := HE.out.below
              refine feed_end h s w _ h1 o1 _ _ (MetaIn.far HE.out.metas (HE.out.held _ HKR.out) (show (28 : Nat) ≠ 48 by decide) (fun g hg => ?_)) ?_ (Hel.Feeds.live hp HRU.out) HMX.out HWT.out HE.out.want HE.out.wt
              · repeat rw [heap_set hg]
              · (repeat' (first | (with_reducible assumption) | (with_reducible exact Below.refl _ _) | (with_reducible refine below_drewN ?_ _) | (with_reducible refine Below.drew ?_) | (with_reducible refine Below.setCell ?_ ?_ _) | (with_reducible refine Below.alloc ?_ ?_ _) | (with_reducible refine below_putObj ?_ ?_ _) | (with_reducible exact Nat.le_refl _) | omega | (simp; done) | (simp; omega)))
          · have hI2 := hI.out
            have hle := Hel.less_step h1 hI2.1.phase _ hs
            have hMy := hI2.1.less hle
            have hWy : y1.want = h.want := hle.want.trans hI2.2.1
            have hLy := hw5.left
            have HY : Hid (Mild y1 (o1 ++ y2) ∧ y1.want = h.want ∧ ∀ o2 h2, Hel.Runs y1 o2 h2 → Hel.Runs { h with buf := h.buf ++ s } ((o1 ++ y2) ++ o2) h2) :=
              Lib.hid ⟨hMy, hWy, fun o2 h2 hr => by rw [List.append_assoc]; exact hI2.2.2 _ _ (Hel.Runs.go HP4.out hs hr)⟩
            have HM2 : Hid (leftOf w5 b < leftOf wr b) := Lib.hid (by
              rw [HL.out, hLy]
              have := hle.less
              dsimp only at this
              by_cases hy : y1.phase < 4
              · rw [if_pos hy]; omega
              · rw [if_neg hy]; omega)
            clear a0 a1 a2 a3 c0 HS HL HP4 hI hI2 hle hMy hWy hLy hs
            go_wp2
            go_roundw
            case rel => exact ⟨_, _, _, _, _, hw5, HY⟩
            case measure => exact HM2.out
        · have c0 : wr.cell? ⟨b, 0, none⟩ = some (.int .i64 2) := by rw [c0', hp]; rfl
          have HS : Hid (Calls Try.prog 11 #[.pointer (some ⟨b, 0, none⟩)] wr (StepEnds w b K h1 o1 h1.step)) := Lib.hid (by
            have e : h1.step = h1.answered 10 Hel.doMeta := by unfold Hel.step; rw [if_neg (by omega)]; rw [if_neg (by omega)]; rw [if_pos hp]
            rw [e]
            exact hearMeta_any w b K wr h1 o1 ao ak ad hM1 hw)
          clear k1 k2 c0' hp hL hp4 m1 m2 A hw hM1
          go_wp2_with fail
          refine HS.out.mono ?_
          rintro e w5 ⟨ao, ak, ad, ⟨hn, rfl, hw5⟩ | ⟨y1, y2, hs, rfl, hw5⟩⟩
          · have HWX := Lib.hid hw5
            have HRU : Hid (Hel.Runs { h with buf := h.buf ++ s } o1 h1) := Lib.hid (by have := hI.out.2.2 [] h1 (Hel.Runs.stop (.inr hn)); rwa [List.append_nil] at this)
            have HMX := Lib.hid hI.out.1
            have HWT := Lib.hid hI.out.2.1
            clear a0 a1 a2 a3 c0 HS HL HP4 hI hw5 hn
            have hwE := HWX.out
            obtain ⟨x1, q1, x2, q2, p, x3, q3, k1, k2⟩ := hwE.open_
            have hR := hwE.held HKR.out
            have c0 := k1.cell 0
            have c1 := k1.cell 1
            have c2 := k1.cell 2
            have c3 := k1.cell 3
            have c4 := k1.cell 4
            have c5 := k1.cell 5
            have c6 := k1.cell 6
            have c7 := k1.cell 7
            unfold wrkC at c0 c1 c2 c3 c4 c5 c6 c7
            simp only [List.getElem?_toArray, List.getElem?_cons_zero, List.getElem?_cons_succ] at c0 c1 c2 c3 c4 c5 c6 c7
            have HS := Lib.hid (fun W => wrk_string w b K W h1 o1 ao ak ad (.slice x1 h1.want.length q1) (.slice x2 h1.metas.length q2) p (.slice x3 o1.length q3))
            have K1 := Lib.hid k1
            have K2 := Lib.hid k2
            clear k1 k2 hwE hR
            go_upto_region 7 with fail
            go_region_with (go_at_call 13; go_loud (refine (HS.out _ K1.out.drew K2.out.drew).mono ?_; rintro e w6 ⟨rfl, hE⟩; have d0 := hE.blk.cell 0; have d1 := hE.blk.cell 1; have d2 := hE.blk.cell 2; have d3 := hE.blk.cell 3; have d4 := hE.blk.cell 4; have d5 := hE.blk.cell 5; have d6 := hE.blk.cell 6; have d7 := hE.blk.cell 7; unfold wrkC at d0 d1 d2 d3 d4 d5 d6 d7; simp only [List.getElem?_toArray, List.getElem?_cons_zero, List.getElem?_cons_succ] at d0 d1 d2 d3 d4 d5 d6 d7; have hR := hE.held _ HKR.out; have r0 := hR.cell 0; have r1 := hR.cell 1; have r2 := hR.cell 2; have r3 := hR.cell 3; have r4 := hR.cell 4; have r5 := hR.cell 5; have r6 := hR.cell 6; have r7 := hR.cell 7; simp only [List.getElem?_toArray, List.getElem?_cons_zero, List.getElem?_cons_succ] at r0 r1 r2 r3 r4 r5 r6 r7; have s0 := hR.frozen 0; have s1 := hR.frozen 1; have s2 := hR.frozen 2; have s3 := hR.frozen 3; have s4 := hR.frozen 4; have s5 := hR.frozen 5; have s6 := hR.frozen 6; have s7 := hR.frozen 7; try dsimp only at r0 r1 r2 r3 r4 r5 r6 r7 s0 s1 s2 s3 s4 s5 s6 s7; have HE := Lib.hid hE; clear hE hR c0 c1 c2 c3 c4 c5 c6 c7))
            all_goals
              go_wp2
              try simp only [Exit.inBlock, Exit.then]
              refine bodyPost_ret (v := .tuple #[.agg (helC h1 (.slice x1 h1.want.length q1) (.slice x2 h1.metas.length q2)), .string ⟨o1.toArray⟩]) (by simp [results, Try.results6, go_sem, helC, *]) rfl ?_
              have hEb := HE.out.below
              refine feed_end h s w _ h1 o1 _ _ (MetaIn.far HE.out.metas (HE.out.held _ HKR.out) (show (28 : Nat) ≠ 48 by decide) (fun g hg => ?_)) ?_ (Hel.Feeds.live hp HRU.out) HMX.out HWT.out HE.out.want HE.out.wt
              · repeat rw [heap_set hg]
              · (repeat' (first | (with_reducible assumption) | (with_reducible exact Below.refl _ _) | (with_reducible refine below_drewN ?_ _) | (with_reducible refine Below.drew ?_) | (with_reducible refine Below.setCell ?_ ?_ _) | (with_reducible refine Below.alloc ?_ ?_ _) | (with_reducible refine below_putObj ?_ ?_ _) | (with_reducible exact Nat.le_refl _) | omega | (simp; done) | (simp; omega)))
          · have hI2 := hI.out
            have hle := Hel.less_step h1 hI2.1.phase _ hs
            have hMy := hI2.1.less hle
            have hWy : y1.want = h.want := hle.want.trans hI2.2.1
            have hLy := hw5.left
            have HY : Hid (Mild y1 (o1 ++ y2) ∧ y1.want = h.want ∧ ∀ o2 h2, Hel.Runs y1 o2 h2 → Hel.Runs { h with buf := h.buf ++ s } ((o1 ++ y2) ++ o2) h2) :=
              Lib.hid ⟨hMy, hWy, fun o2 h2 hr => by rw [List.append_assoc]; exact hI2.2.2 _ _ (Hel.Runs.go HP4.out hs hr)⟩
            have HM2 : Hid (leftOf w5 b < leftOf wr b) := Lib.hid (by
              rw [HL.out, hLy]
              have := hle.less
              dsimp only at this
              by_cases hy : y1.phase < 4
              · rw [if_pos hy]; omega
              · rw [if_neg hy]; omega)
            clear a0 a1 a2 a3 c0 HS HL HP4 hI hI2 hle hMy hWy hLy hs
            go_wp2
            go_roundw
            case rel => exact ⟨_, _, _, _, _, hw5, HY⟩
            case measure => exact HM2.out
        · have c0 : wr.cell? ⟨b, 0, none⟩ = some (.int .i64 3) := by rw [c0', hp]; rfl
          have HS : Hid (Calls Try.prog 12 #[.pointer (some ⟨b, 0, none⟩)] wr (StepEnds w b K h1 o1 h1.step)) := Lib.hid (by
            have e : h1.step = h1.answered 7 Hel.doInfo := by unfold Hel.step; rw [if_neg (by omega)]; rw [if_neg (by omega)]; rw [if_neg (by omega)]
            rw [e]
            exact hearGo_any w b K wr h1 o1 ao ak ad hM1 hw)
          clear k1 k2 c0' hp hL hp4 m1 m2 A hw hM1
          go_wp2_with fail
          refine HS.out.mono ?_
          rintro e w5 ⟨ao, ak, ad, ⟨hn, rfl, hw5⟩ | ⟨y1, y2, hs, rfl, hw5⟩⟩
          · have HWX := Lib.hid hw5
            have HRU : Hid (Hel.Runs { h with buf := h.buf ++ s } o1 h1) := Lib.hid (by have := hI.out.2.2 [] h1 (Hel.Runs.stop (.inr hn)); rwa [List.append_nil] at this)
            have HMX := Lib.hid hI.out.1
            have HWT := Lib.hid hI.out.2.1
            clear a0 a1 a2 a3 c0 HS HL HP4 hI hw5 hn
            have hwE := HWX.out
            obtain ⟨x1, q1, x2, q2, p, x3, q3, k1, k2⟩ := hwE.open_
            have hR := hwE.held HKR.out
            have c0 := k1.cell 0
            have c1 := k1.cell 1
            have c2 := k1.cell 2
            have c3 := k1.cell 3
            have c4 := k1.cell 4
            have c5 := k1.cell 5
            have c6 := k1.cell 6
            have c7 := k1.cell 7
            unfold wrkC at c0 c1 c2 c3 c4 c5 c6 c7
            simp only [List.getElem?_toArray, List.getElem?_cons_zero, List.getElem?_cons_succ] at c0 c1 c2 c3 c4 c5 c6 c7
            have HS := Lib.hid (fun W => wrk_string w b K W h1 o1 ao ak ad (.slice x1 h1.want.length q1) (.slice x2 h1.metas.length q2) p (.slice x3 o1.length q3))
            have K1 := Lib.hid k1
            have K2 := Lib.hid k2
            clear k1 k2 hwE hR
            go_upto_region 7 with fail
            go_region_with (go_at_call 13; go_loud (refine (HS.out _ K1.out.drew K2.out.drew).mono ?_; rintro e w6 ⟨rfl, hE⟩; have d0 := hE.blk.cell 0; have d1 := hE.blk.cell 1; have d2 := hE.blk.cell 2; have d3 := hE.blk.cell 3; have d4 := hE.blk.cell 4; have d5 := hE.blk.cell 5; have d6 := hE.blk.cell 6; have d7 := hE.blk.cell 7; unfold wrkC at d0 d1 d2 d3 d4 d5 d6 d7; simp only [List.getElem?_toArray, List.getElem?_cons_zero, List.getElem?_cons_succ] at d0 d1 d2 d3 d4 d5 d6 d7; have hR := hE.held _ HKR.out; have r0 := hR.cell 0; have r1 := hR.cell 1; have r2 := hR.cell 2; have r3 := hR.cell 3; have r4 := hR.cell 4; have r5 := hR.cell 5; have r6 := hR.cell 6; have r7 := hR.cell 7; simp only [List.getElem?_toArray, List.getElem?_cons_zero, List.getElem?_cons_succ] at r0 r1 r2 r3 r4 r5 r6 r7; have s0 := hR.frozen 0; have s1 := hR.frozen 1; have s2 := hR.frozen 2; have s3 := hR.frozen 3; have s4 := hR.frozen 4; have s5 := hR.frozen 5; have s6 := hR.frozen 6; have s7 := hR.frozen 7; try dsimp only at r0 r1 r2 r3 r4 r5 r6 r7 s0 s1 s2 s3 s4 s5 s6 s7; have HE := Lib.hid hE; clear hE hR c0 c1 c2 c3 c4 c5 c6 c7))
            all_goals
              go_wp2
              try simp only [Exit.inBlock, Exit.then]
              refine bodyPost_ret (v := .tuple #[.agg (helC h1 (.slice x1 h1.want.length q1) (.slice x2 h1.metas.length q2)), .string ⟨o1.toArray⟩]) (by simp [results, Try.results6, go_sem, helC, *]) rfl ?_
              have hEb := HE.out.below
              refine feed_end h s w _ h1 o1 _ _ (MetaIn.far HE.out.metas (HE.out.held _ HKR.out) (show (28 : Nat) ≠ 48 by decide) (fun g hg => ?_)) ?_ (Hel.Feeds.live hp HRU.out) HMX.out HWT.out HE.out.want HE.out.wt
              · repeat rw [heap_set hg]
              · (repeat' (first | (with_reducible assumption) | (with_reducible exact Below.refl _ _) | (with_reducible refine below_drewN ?_ _) | (with_reducible refine Below.drew ?_) | (with_reducible refine Below.setCell ?_ ?_ _) | (with_reducible refine Below.alloc ?_ ?_ _) | (with_reducible refine below_putObj ?_ ?_ _) | (with_reducible exact Nat.le_refl _) | omega | (simp; done) | (simp; omega)))
          · have hI2 := hI.out
            have hle := Hel.less_step h1 hI2.1.phase _ hs
            have hMy := hI2.1.less hle
            have hWy : y1.want = h.want := hle.want.trans hI2.2.1
            have hLy := hw5.left
            have HY : Hid (Mild y1 (o1 ++ y2) ∧ y1.want = h.want ∧ ∀ o2 h2, Hel.Runs y1 o2 h2 → Hel.Runs { h with buf := h.buf ++ s } ((o1 ++ y2) ++ o2) h2) :=
              Lib.hid ⟨hMy, hWy, fun o2 h2 hr => by rw [List.append_assoc]; exact hI2.2.2 _ _ (Hel.Runs.go HP4.out hs hr)⟩
            have HM2 : Hid (leftOf w5 b < leftOf wr b) := Lib.hid (by
              rw [HL.out, hLy]
              have := hle.less
              dsimp only at this
              by_cases hy : y1.phase < 4
              · rw [if_pos hy]; omega
              · rw [if_neg hy]; omega)
            clear a0 a1 a2 a3 c0 HS HL HP4 hI hI2 hle hMy hWy hLy hs
            go_wp2
            go_roundw
            case rel => exact ⟨_, _, _, _, _, hw5, HY⟩
            case measure => exact HM2.out
      · rw [if_neg hp4] at hL
        obtain ⟨b1, v1, b2, v2, p, b3, v3, k1, k2⟩ := hw.open_
        have cP := k1.cell 0
        unfold wrkC at cP
        simp only [List.getElem?_toArray, List.getElem?_cons_zero, List.getElem?_cons_succ] at cP
        have l4 : ¬ (h1.phase : Int) < 4 := by omega
        have HWX := Lib.hid hw
        have HRU : Hid (Hel.Runs { h with buf := h.buf ++ s } o1 h1) := Lib.hid (by have := hI.out.2.2 [] h1 (Hel.Runs.stop (.inl (by omega))); rwa [List.append_nil] at this)
        have HMX := Lib.hid hI.out.1
        have HWT := Lib.hid hI.out.2.1
        clear k1 k2 hL hp4 hw hI
        have hwE := HWX.out
        obtain ⟨x1, q1, x2, q2, p, x3, q3, k1, k2⟩ := hwE.open_
        have hR := hwE.held HKR.out
        have c0 := k1.cell 0
        have c1 := k1.cell 1
        have c2 := k1.cell 2
        have c3 := k1.cell 3
        have c4 := k1.cell 4
        have c5 := k1.cell 5
        have c6 := k1.cell 6
        have c7 := k1.cell 7
        unfold wrkC at c0 c1 c2 c3 c4 c5 c6 c7
        simp only [List.getElem?_toArray, List.getElem?_cons_zero, List.getElem?_cons_succ] at c0 c1 c2 c3 c4 c5 c6 c7
        have HS := Lib.hid (fun W => wrk_string w b K W h1 o1 ao ak ad (.slice x1 h1.want.length q1) (.slice x2 h1.metas.length q2) p (.slice x3 o1.length q3))
        have K1 := Lib.hid k1
        have K2 := Lib.hid k2
        clear k1 k2 hwE hR
        go_upto_region 7 with fail
        go_region_with (go_at_call 13; go_loud (refine (HS.out _ K1.out.drew K2.out.drew).mono ?_; rintro e w6 ⟨rfl, hE⟩; have d0 := hE.blk.cell 0; have d1 := hE.blk.cell 1; have d2 := hE.blk.cell 2; have d3 := hE.blk.cell 3; have d4 := hE.blk.cell 4; have d5 := hE.blk.cell 5; have d6 := hE.blk.cell 6; have d7 := hE.blk.cell 7; unfold wrkC at d0 d1 d2 d3 d4 d5 d6 d7; simp only [List.getElem?_toArray, List.getElem?_cons_zero, List.getElem?_cons_succ] at d0 d1 d2 d3 d4 d5 d6 d7; have hR := hE.held _ HKR.out; have r0 := hR.cell 0; have r1 := hR.cell 1; have r2 := hR.cell 2; have r3 := hR.cell 3; have r4 := hR.cell 4; have r5 := hR.cell 5; have r6 := hR.cell 6; have r7 := hR.cell 7; simp only [List.getElem?_toArray, List.getElem?_cons_zero, List.getElem?_cons_succ] at r0 r1 r2 r3 r4 r5 r6 r7; have s0 := hR.frozen 0; have s1 := hR.frozen 1; have s2 := hR.frozen 2; have s3 := hR.frozen 3; have s4 := hR.frozen 4; have s5 := hR.frozen 5; have s6 := hR.frozen 6; have s7 := hR.frozen 7; try dsimp only at r0 r1 r2 r3 r4 r5 r6 r7 s0 s1 s2 s3 s4 s5 s6 s7; have HE := Lib.hid hE; clear hE hR c0 c1 c2 c3 c4 c5 c6 c7))
        all_goals
          go_wp2
          try simp only [Exit.inBlock, Exit.then]
          refine bodyPost_ret (v := .tuple #[.agg (helC h1 (.slice x1 h1.want.length q1) (.slice x2 h1.metas.length q2)), .string ⟨o1.toArray⟩]) (by simp [results, Try.results6, go_sem, helC, *]) rfl ?_
          have hEb := HE.out.below
          refine feed_end h s w _ h1 o1 _ _ (MetaIn.far HE.out.metas (HE.out.held _ HKR.out) (show (28 : Nat) ≠ 48 by decide) (fun g hg => ?_)) ?_ (Hel.Feeds.live hp HRU.out) HMX.out HWT.out HE.out.want HE.out.wt
          · repeat rw [heap_set hg]
          · (repeat' (first | (with_reducible assumption) | (with_reducible exact Below.refl _ _) | (with_reducible refine below_drewN ?_ _) | (with_reducible refine Below.drew ?_) | (with_reducible refine Below.setCell ?_ ?_ _) | (with_reducible refine Below.alloc ?_ ?_ _) | (with_reducible refine below_putObj ?_ ?_ _) | (with_reducible exact Nat.le_refl _) | omega | (simp; done) | (simp; omega)))
end Go.Proofs.Ytcmgecojhjdjkaa
