/- nego.Feed. -/
import Derived.Test.YteljplpiojdikaaNegBound
import Derived.Laws.EntriesVeiled
namespace Go.Proofs.Yteljplpiojdikaa
open Go.RowKit

theorem wp_at {P : Program} {c : Code} {Q : Exit → Act → World → Prop} {a : Act} {w : World} (h : ∀ W, W = w → Code.wp P c Q a W) : Code.wp P c Q a w := h w rfl

/-- How much is left to be taken off. -/
def leftOf (w : World) (b : Nat) : Nat :=
  match w.cell? ⟨b, 0, none⟩, w.cell? ⟨b, 1, none⟩ with
  | some (.int _ p), some (.string s) => if p < 2 then s.size + 1 else 0
  | _, _ => 0
theorem NWrk.left {W0 : World} {b : Nat} {K : Held} {sz : Nat} {maps : List (List UInt8)} {w : World} {n : Neg} {out : List UInt8} {ok : Nat} {od : List UInt8} (hw : NWrk W0 b K sz maps w n out ok od) : leftOf w b = if n.phase < 2 then n.buf.length + 1 else 0 := by
  obtain ⟨vm, vx, p, v, h1, h2⟩ := hw
  have c0 := h1.cell 0
  have c1 := h1.cell 1
  unfold nwC at c0 c1
  simp only [List.getElem?_toArray, List.getElem?_cons_zero, List.getElem?_cons_succ] at c0 c1
  unfold leftOf
  rw [c0, c1]
  dsimp only
  rw [size_list]
  by_cases hp : n.phase < 2
  · rw [if_pos hp, if_pos (by omega)]
  · rw [if_neg hp, if_neg (by omega)]

/-- A server's cells, an export's. -/
def ngC (n : Neg) (vm : Value) : Array Value := #[.int .i64 n.phase, .string ⟨n.buf.toArray⟩, .bool n.brief, .bool n.chunks, vm]
def exC (sz : Nat) (vx : Value) : Array Value := #[.int .u64 sz, vx]

/-- Behind the builder's String. -/
structure StrEnd (W0 : World) (b : Nat) (K : Held) (sz : Nat) (maps : List (List UInt8)) (n : Neg) (vm vx p v : Value) (ok : Nat) (od : List UInt8) (w : World) : Prop where
  blk : Blk w b 64 (nwC n sz vm vx p v ok od)
  held : ∀ x ∈ K.blocks, Blk w x.1 x.2.1 x.2.2
  metas : MetaU K.base w b vm n.metas
  below : Below W0.heap.size W0 w
theorem turns_grown {w w' : World} {b : Nat} {row : Option Nat} (h : w.grownBy w' row) : Turns w w' b row := ⟨h.os, h.tape, h.output, h.size, fun k hk _ hr => h.block k hk (fun e => hr (by rw [e]))⟩
theorem nwrk_string (W0 : World) (b : Nat) (K : Held) (sz : Nat) (maps : List (List UInt8)) (w : World) (n : Neg) (out : List UInt8) (ok : Nat) (od : List UInt8) (vm vx p v : Value)
    (h1 : Blk w b 64 (nwC n sz vm vx p v ok od)) (h2 : Rest W0 b K w maps n.metas out vm vx p v) :
    Calls Try.prog 24 #[.pointer (some ⟨b, 9, none⟩)] w fun e w' => e = .returned (.string ⟨out.toArray⟩) ∧ StrEnd W0 b K sz maps n vm vx p v ok od w' := by
  refine (string_any w W0.heap.size b 9 64 _ p v out h1 (by simp [nwC]) h2.bld).mono ?_
  rintro e w' ⟨rfl, hg⟩
  have hT : Turns w w' b v.ownBlock := turns_grown hg
  have h3 := h2.turn hT (p' := p) (v' := v) (out' := out)
  refine ⟨rfl, (hg.block b h1.lt (fun e => h2.bld.ne e.symm)).trans h1, fun x hx => ?_, ⟨own_moved h2.metas.1 fun g hg => ?_, h2.metas.2⟩, hT.below h2.grown h2.grown.size h2.hb h2.bld.row⟩
  · obtain ⟨k1, k2, k3, _⟩ := h2.kept x hx
    exact h2.bld.keeps k1 hT k2 k3
  · obtain ⟨_, cs, h4⟩ := own_typed h2.metas.1 g hg
    exact (h2.bld.keeps h4 hT (h2.metas.2 g hg) (by decide)).trans h4.symm
theorem MetaU.far {B R b : Nat} {w w' : World} {v : Value} {l : List Nat} {t : TypeId} {cs : Array Value} (h : MetaU B w b v l) (hR : Blk w R t cs) (ht : t ≠ 35)
    (hw : ∀ g, g ≠ R → w'.heap[g]? = w.heap[g]?) : w'.ownsRow B 35 1 v l.length (cellsU l) := by
  refine own_moved h.1 fun g hg => hw g ?_
  rintro rfl
  obtain ⟨_, cs', h1⟩ := own_typed h.1 g hg
  have := (show w.heap[g]? = _ from hR).symm.trans h1
  simp at this
  exact absurd this.2 ht

/-- How Feed ends. -/
def FeedEnds (n : Neg) (sz : Nat) (maps : List (List UInt8)) (s : List UInt8) (w : World) (e : Ending) (w' : World) : Prop :=
  ∃ n' out vm, e = .returned (.tuple #[.agg (ngC n' vm), .string ⟨out.toArray⟩]) ∧ Neg.Feeds sz maps n s n' out ∧ Mild n' out ∧ w'.ownsRow 0 35 1 vm n'.metas.length (cellsU n'.metas) ∧ Below w.heap.size w w'

theorem feed_end (n : Neg) (sz : Nat) (maps : List (List UInt8)) (s : List UInt8) (w W : World) (n1 : Neg) (o1 : List UInt8) (vm : Value) (hM : W.ownsRow 0 35 1 vm n1.metas.length (cellsU n1.metas)) (hb : Below w.heap.size w W)
    (hF : Neg.Feeds sz maps n s n1 o1) (hm : Mild n1 o1) : FeedEnds n sz maps s w (.returned (.tuple #[.agg (ngC n1 vm), .string ⟨o1.toArray⟩])) W :=
  ⟨n1, o1, vm, rfl, hF, hm, hM, hb⟩

set_option maxRecDepth 100000 in
set_option maxHeartbeats 2000000 in
theorem feed_any (n : Neg) (sz : Nat) (maps : List (List UInt8)) (s : List UInt8) (vm vx : Value) (w : World) (m : Mild { n with buf := n.buf ++ s } []) (hml : maps.length ≤ 10) (hmq : ∀ q ∈ maps, q.length ≤ 1000)
    (h1 : SlAt w vx maps.length (cellsS maps)) (h2 : w.ownsRow 0 35 1 vm n.metas.length (cellsU n.metas)) :
    Calls Try.prog 9 #[.agg (ngC n vm), .agg (exC sz vx), .string ⟨s.toArray⟩] w (FeedEnds n sz maps s w) := by
  obtain ⟨ad1, c1, rfl⟩ := h1.form
  obtain ⟨ad2, c2, rfl⟩ := (SlAt.of_row h2).form
  have H1 := Lib.hid h1
  have H2 := Lib.hid h2
  have hbuf := m.buf
  dsimp only at hbuf
  rw [List.length_append] at hbuf
  clear h1 h2
  by_cases hp : n.phase = 3
  · have HM : Hid (Mild n []) := Lib.hid ⟨by have := m.buf; simp at this; omega, by have := m.out; simp at this; simp; omega, m.phase⟩
    have e1 : ((n.phase : Int) == 3) = true := by rw [hp]; rfl
    have HF := Lib.hid (Neg.Feeds.dead (sz := sz) (maps := maps) (s := s) hp)
    have HQ := Lib.hid hmq
    clear hp m hbuf hmq hml
    unfold ngC exC
    go_enter Try.func9, Try.ntmps9
    go_wp2_with fail
    try simp only [Exit.inBlock, Exit.then]
    refine bodyPost_ret (v := .tuple #[.agg (ngC n (.slice ad2 n.metas.length c2)), .string ⟨#[]⟩]) (by simp [results, Try.results9, go_sem, ngC]) rfl ?_
    have hb : Below w.heap.size w (((w.alloc (.cells #[.int .i64 n.phase, .string ⟨n.buf.toArray⟩, .bool n.brief, .bool n.chunks, .slice ad2 n.metas.length c2] 31)).alloc (.cells #[.int .u64 sz, .slice ad1 maps.length c1] 25)).alloc (.cells #[.int .i64 n.phase, .string ⟨n.buf.toArray⟩, .bool n.brief, .bool n.chunks, .slice ad2 n.metas.length c2] 31)) := by (repeat' (first | (with_reducible assumption) | (with_reducible exact Below.refl _ _) | (with_reducible refine below_drewN ?_ _) | (with_reducible refine Below.drew ?_) | (with_reducible refine Below.setCell ?_ ?_ _) | (with_reducible refine Below.alloc ?_ ?_ _) | (with_reducible refine below_putObj ?_ ?_ _) | (with_reducible exact Nat.le_refl _) | omega | (simp; done) | (simp; omega)))
    exact ⟨n, [], _, rfl, HF.out, HM.out, own_moved H2.out fun g hg => hb.block g (by obtain ⟨_, cs, h2⟩ := own_typed H2.out g hg; exact h2.lt), hb⟩
  · have e1 : ((n.phase : Int) == 3) = false := by rw [beq_eq_false_iff_ne]; omega
    have HM := Lib.hid m
    have HQ := Lib.hid hmq
    clear m hmq
    unfold ngC exC
    go_enter Try.func9, Try.ntmps9
    go_upto_region 5 with fail
    refine wp_at fun W hW => ?_
    have hbB : Below w.heap.size w W := by rw [hW]; (repeat' (first | (with_reducible assumption) | (with_reducible exact Below.refl _ _) | (with_reducible refine below_drewN ?_ _) | (with_reducible refine Below.drew ?_) | (with_reducible refine Below.setCell ?_ ?_ _) | (with_reducible refine Below.alloc ?_ ?_ _) | (with_reducible refine below_putObj ?_ ?_ _) | (with_reducible exact Nat.le_refl _) | omega | (simp; done) | (simp; omega)))
    have hbW : Blk W (w.heap.size + 1 + 1 + 1) 64 (nwC { n with buf := n.buf ++ s } sz (.slice ad2 n.metas.length c2) (.slice ad1 maps.length c1) (.pointer none) (.slice none 0 0) 0 []) := by rw [hW]; exact Blk.newAt (by simp)
    have hbR : Blk W (w.heap.size + 1 + 1) 31 #[.int .i64 0, .string ⟨#[]⟩, .bool false, .bool false, .slice none 0 0] := by rw [hW]; exact (Blk.newAt (by simp)).alloc _
    clear hW
    have hRest : Rest w (w.heap.size + 1 + 1 + 1) ⟨0, [(w.heap.size + 1 + 1, 31, #[.int .i64 0, .string ⟨#[]⟩, .bool false, .bool false, .slice none 0 0])]⟩ W maps n.metas [] (.slice ad2 n.metas.length c2) (.slice ad1 maps.length c1) (.pointer none) (.slice none 0 0) :=
      ⟨Bld.fresh _ _ _ _, ⟨own_moved H2.out fun g hg => hbB.block g (by obtain ⟨_, cs, h2⟩ := own_typed H2.out g hg; exact h2.lt), fun g hg => by obtain ⟨_, cs, h2⟩ := own_typed H2.out g hg; have := h2.lt; omega⟩, H1.out, hbB, fun x hx => by simp only [List.mem_singleton] at hx; subst hx; exact ⟨hbR, by omega, show (31 : Nat) ≠ 5 by decide, show (31 : Nat) ≠ 35 by decide⟩, by omega⟩
    have hRest2 : Rest w (w.heap.size + 1 + 1 + 1) ⟨0, [(w.heap.size + 1 + 1, 31, #[.int .i64 0, .string ⟨#[]⟩, .bool false, .bool false, .slice none 0 0]), (W.heap.size, 65, #[.func (.func 22) #[.pointer (some ⟨w.heap.size + 1 + 1 + 1, 0, none⟩)] #[], .func (.func 23) #[.pointer (some ⟨w.heap.size + 1 + 1 + 1, 0, none⟩)] #[]])]⟩
        (W.alloc (.cells #[.func (.func 22) #[.pointer (some ⟨w.heap.size + 1 + 1 + 1, 0, none⟩)] #[], .func (.func 23) #[.pointer (some ⟨w.heap.size + 1 + 1 + 1, 0, none⟩)] #[]] 65)) maps n.metas [] (.slice ad2 n.metas.length c2) (.slice ad1 maps.length c1) (.pointer none) (.slice none 0 0) := by
      have hR := hRest.alloc (.cells #[.func (.func 22) #[.pointer (some ⟨w.heap.size + 1 + 1 + 1, 0, none⟩)] #[], .func (.func 23) #[.pointer (some ⟨w.heap.size + 1 + 1 + 1, 0, none⟩)] #[]] 65)
      have hlt := hbW.lt
      refine ⟨hR.bld, hR.metas, hR.maps, hR.grown, fun x hx => ?_, hR.hb⟩
      rcases List.mem_cons.1 hx with rfl | hx
      · exact hR.kept _ (by simp)
      · simp only [List.mem_singleton] at hx
        subst hx
        exact ⟨Blk.new _ _ _, by dsimp only; omega, show (65 : Nat) ≠ 5 by decide, show (65 : Nat) ≠ 35 by decide⟩
    have HW0 := Lib.hid (show NWrk _ _ _ _ _ _ { n with buf := n.buf ++ s } [] 0 [] from ⟨_, _, _, _, hbW.alloc _, hRest2⟩)
    clear hRest hRest2 hbR hbW
    go_wp2_with fail
    generalize W.heap.size = g at HW0 ⊢
    refine wp_at fun W1 hW1 => ?_
    rw [← hW1] at HW0
    clear hW1 hbB W
    obtain ⟨K, hK⟩ : ∃ K : List (Nat × TypeId × Array Value), K = [(w.heap.size + 1 + 1, 31, #[.int .i64 0, .string ⟨#[]⟩, .bool false, .bool false, .slice none 0 0]), (g, 65, #[.func (.func 22) #[.pointer (some ⟨w.heap.size + 1 + 1 + 1, 0, none⟩)] #[], .func (.func 23) #[.pointer (some ⟨w.heap.size + 1 + 1 + 1, 0, none⟩)] #[]])] := ⟨_, rfl⟩
    rw [← hK] at HW0
    have hKR : (w.heap.size + 1 + 1, 31, #[.int .i64 0, .string ⟨#[]⟩, .bool false, .bool false, .slice none 0 0]) ∈ K := by rw [hK]; simp
    have hKA : (g, 65, #[.func (.func 22) #[.pointer (some ⟨w.heap.size + 1 + 1 + 1, 0, none⟩)] #[], .func (.func 23) #[.pointer (some ⟨w.heap.size + 1 + 1 + 1, 0, none⟩)] #[]]) ∈ K := by rw [hK]; simp
    have HKR := Lib.hid hKR
    have HKA := Lib.hid hKA
    clear hK hKR hKA
    generalize hbb : w.heap.size + 1 + 1 + 1 = b at HW0 HKA ⊢
    go_loopw [] (fun wr => ∃ h1 o1 ok od, NWrk w b ⟨0, K⟩ sz maps wr h1 o1 ok od ∧ Hid (Mild h1 o1 ∧ ∀ o2 h2, Neg.Runs sz maps h1 o2 h2 → Neg.Runs sz maps { n with buf := n.buf ++ s } (o1 ++ o2) h2)) (fun wr => leftOf wr b)
    case atStart => exact ⟨_, [], 0, [], HW0.out, Lib.hid ⟨HM.out, fun o2 h2 hr => by simpa using hr⟩⟩
    case round =>
      obtain ⟨h1, o1, ok, od, hw, hI⟩ := hrel
      have hL := hw.left
      by_cases hp4 : h1.phase < 2
      · rw [if_pos hp4] at hL
        have hps : h1.phase = 0 ∨ h1.phase = 1 := by omega
        have hM1 := hI.out.1
        have m1 := hM1.out
        have m2 := hM1.buf
        have A := hw.held HKA.out
        have a0 := A.cell 0
        have a1 := A.cell 1
        obtain ⟨b1, v1, b2, v2, p, b3, v3, k1, k2⟩ := hw.open_
        have c0' := k1.cell 0
        unfold nwC at c0'
        simp only [List.getElem?_toArray, List.getElem?_cons_zero, List.getElem?_cons_succ] at a0 a1 c0'
        have HL := Lib.hid hL
        have HP4 := Lib.hid hp4
        rcases hps with hp5 | hp5
        · have c0 : wr.cell? ⟨b, 0, none⟩ = some (.int .i64 0) := by rw [c0', hp5]; rfl
          have HS : Hid (Calls Try.prog 22 #[.pointer (some ⟨b, 0, none⟩)] wr (StepEnds w b ⟨0, K⟩ sz maps h1 o1 (h1.step sz maps))) := Lib.hid (by
            have e : h1.step sz maps = h1.doFlags := by unfold Neg.step; rw [if_pos hp5]
            rw [e]
            exact flags_any w b ⟨0, K⟩ sz maps wr h1 o1 ok od (by omega) hw)
          clear k1 k2 c0' hp5 hL hp4 m1 m2 A hw hM1
          go_wp2_with fail
          refine HS.out.mono ?_
          rintro e w5 ⟨ok, od, ⟨hn, rfl, hw5⟩ | ⟨y1, y2, hs, rfl, hw5⟩⟩
          · have HWX := Lib.hid hw5
            have HRU : Hid (Neg.Runs sz maps { n with buf := n.buf ++ s } o1 h1) := Lib.hid (by have := hI.out.2 [] h1 (Neg.Runs.stop (.inr hn)); rwa [List.append_nil] at this)
            have HMX := Lib.hid hI.out.1
            clear a0 a1 c0 HS HL HP4 hI hw5 hn
            have hwE := HWX.out
            obtain ⟨x1, q1, x2, q2, p, x3, q3, k1, k2⟩ := hwE.open_
            have hR := hwE.held HKR.out
            have c0 := k1.cell 0
            have c1 := k1.cell 1
            have c2 := k1.cell 2
            have c3 := k1.cell 3
            have c4 := k1.cell 4
            unfold nwC at c0 c1 c2 c3 c4
            simp only [List.getElem?_toArray, List.getElem?_cons_zero, List.getElem?_cons_succ] at c0 c1 c2 c3 c4
            have HS := Lib.hid (fun W => nwrk_string w b ⟨0, K⟩ sz maps W h1 o1 ok od (.slice x1 h1.metas.length q1) (.slice x2 maps.length q2) p (.slice x3 o1.length q3))
            have K1 := Lib.hid k1
            have K2 := Lib.hid k2
            clear k1 k2 hwE hR
            go_upto_region 7 with fail
            go_region_with (go_at_call 24; go_loud (refine (HS.out _ K1.out.drew K2.out.drew).mono ?_; rintro e w6 ⟨rfl, hE⟩; have d0 := hE.blk.cell 0; have d1 := hE.blk.cell 1; have d2 := hE.blk.cell 2; have d3 := hE.blk.cell 3; have d4 := hE.blk.cell 4; unfold nwC at d0 d1 d2 d3 d4; simp only [List.getElem?_toArray, List.getElem?_cons_zero, List.getElem?_cons_succ] at d0 d1 d2 d3 d4; have hR := hE.held _ HKR.out; have r0 := hR.cell 0; have r1 := hR.cell 1; have r2 := hR.cell 2; have r3 := hR.cell 3; have r4 := hR.cell 4; simp only [List.getElem?_toArray, List.getElem?_cons_zero, List.getElem?_cons_succ] at r0 r1 r2 r3 r4; have s0 := hR.frozen 0; have s1 := hR.frozen 1; have s2 := hR.frozen 2; have s3 := hR.frozen 3; have s4 := hR.frozen 4; try dsimp only at r0 r1 r2 r3 r4 s0 s1 s2 s3 s4; have HE := Lib.hid hE; clear hE hR c0 c1 c2 c3 c4))
            all_goals
              go_wp2
              try simp only [Exit.inBlock, Exit.then]
              refine bodyPost_ret (v := .tuple #[.agg (ngC h1 (.slice x1 h1.metas.length q1)), .string ⟨o1.toArray⟩]) (by simp [results, Try.results9, go_sem, ngC, *]) rfl ?_
              have hEb := HE.out.below
              refine feed_end n sz maps s w _ h1 o1 _ (MetaU.far HE.out.metas (HE.out.held _ HKR.out) (show (31 : Nat) ≠ 35 by decide) (fun g hg => ?_)) ?_ (Neg.Feeds.live hp HRU.out) HMX.out
              · repeat rw [heap_set hg]
              · (repeat' (first | (with_reducible assumption) | (with_reducible exact Below.refl _ _) | (with_reducible refine below_drewN ?_ _) | (with_reducible refine Below.drew ?_) | (with_reducible refine Below.setCell ?_ ?_ _) | (with_reducible refine Below.alloc ?_ ?_ _) | (with_reducible refine below_putObj ?_ ?_ _) | (with_reducible exact Nat.le_refl _) | omega | (simp; done) | (simp; omega)))
          · have hI2 := hI.out
            have hle := Neg.less_step h1 sz maps hI2.1.phase hml _ hs
            have hMy := hI2.1.less hle
            have hLy := hw5.left
            have HY : Hid (Mild y1 (o1 ++ y2) ∧ ∀ o2 h2, Neg.Runs sz maps y1 o2 h2 → Neg.Runs sz maps { n with buf := n.buf ++ s } ((o1 ++ y2) ++ o2) h2) :=
              Lib.hid ⟨hMy, fun o2 h2 hr => by rw [List.append_assoc]; exact hI2.2 _ _ (Neg.Runs.go HP4.out hs hr)⟩
            have HM2 : Hid (leftOf w5 b < leftOf wr b) := Lib.hid (by
              rw [HL.out, hLy]
              have := hle.less
              dsimp only at this
              by_cases hy : y1.phase < 2
              · rw [if_pos hy]; omega
              · rw [if_neg hy]; omega)
            clear a0 a1 c0 HS HL HP4 hI hI2 hle hMy hLy hs
            go_wp2
            go_roundw
            case rel => exact ⟨_, _, _, _, hw5, HY⟩
            case measure => exact HM2.out
        · have c0 : wr.cell? ⟨b, 0, none⟩ = some (.int .i64 1) := by rw [c0', hp5]; rfl
          have HS : Hid (Calls Try.prog 23 #[.pointer (some ⟨b, 0, none⟩)] wr (StepEnds w b ⟨0, K⟩ sz maps h1 o1 (h1.step sz maps))) := Lib.hid (by
            have e : h1.step sz maps = h1.doOption sz maps := by unfold Neg.step; rw [if_neg (by omega)]
            rw [e]
            exact option_any w b K sz maps wr h1 o1 ok od (by omega) (by omega) HQ.out (by omega) hw)
          clear k1 k2 c0' hp5 hL hp4 m1 m2 A hw hM1
          go_wp2_with fail
          refine HS.out.mono ?_
          rintro e w5 ⟨ok, od, ⟨hn, rfl, hw5⟩ | ⟨y1, y2, hs, rfl, hw5⟩⟩
          · have HWX := Lib.hid hw5
            have HRU : Hid (Neg.Runs sz maps { n with buf := n.buf ++ s } o1 h1) := Lib.hid (by have := hI.out.2 [] h1 (Neg.Runs.stop (.inr hn)); rwa [List.append_nil] at this)
            have HMX := Lib.hid hI.out.1
            clear a0 a1 c0 HS HL HP4 hI hw5 hn
            have hwE := HWX.out
            obtain ⟨x1, q1, x2, q2, p, x3, q3, k1, k2⟩ := hwE.open_
            have hR := hwE.held HKR.out
            have c0 := k1.cell 0
            have c1 := k1.cell 1
            have c2 := k1.cell 2
            have c3 := k1.cell 3
            have c4 := k1.cell 4
            unfold nwC at c0 c1 c2 c3 c4
            simp only [List.getElem?_toArray, List.getElem?_cons_zero, List.getElem?_cons_succ] at c0 c1 c2 c3 c4
            have HS := Lib.hid (fun W => nwrk_string w b ⟨0, K⟩ sz maps W h1 o1 ok od (.slice x1 h1.metas.length q1) (.slice x2 maps.length q2) p (.slice x3 o1.length q3))
            have K1 := Lib.hid k1
            have K2 := Lib.hid k2
            clear k1 k2 hwE hR
            go_upto_region 7 with fail
            go_region_with (go_at_call 24; go_loud (refine (HS.out _ K1.out.drew K2.out.drew).mono ?_; rintro e w6 ⟨rfl, hE⟩; have d0 := hE.blk.cell 0; have d1 := hE.blk.cell 1; have d2 := hE.blk.cell 2; have d3 := hE.blk.cell 3; have d4 := hE.blk.cell 4; unfold nwC at d0 d1 d2 d3 d4; simp only [List.getElem?_toArray, List.getElem?_cons_zero, List.getElem?_cons_succ] at d0 d1 d2 d3 d4; have hR := hE.held _ HKR.out; have r0 := hR.cell 0; have r1 := hR.cell 1; have r2 := hR.cell 2; have r3 := hR.cell 3; have r4 := hR.cell 4; simp only [List.getElem?_toArray, List.getElem?_cons_zero, List.getElem?_cons_succ] at r0 r1 r2 r3 r4; have s0 := hR.frozen 0; have s1 := hR.frozen 1; have s2 := hR.frozen 2; have s3 := hR.frozen 3; have s4 := hR.frozen 4; try dsimp only at r0 r1 r2 r3 r4 s0 s1 s2 s3 s4; have HE := Lib.hid hE; clear hE hR c0 c1 c2 c3 c4))
            all_goals
              go_wp2
              try simp only [Exit.inBlock, Exit.then]
              refine bodyPost_ret (v := .tuple #[.agg (ngC h1 (.slice x1 h1.metas.length q1)), .string ⟨o1.toArray⟩]) (by simp [results, Try.results9, go_sem, ngC, *]) rfl ?_
              have hEb := HE.out.below
              refine feed_end n sz maps s w _ h1 o1 _ (MetaU.far HE.out.metas (HE.out.held _ HKR.out) (show (31 : Nat) ≠ 35 by decide) (fun g hg => ?_)) ?_ (Neg.Feeds.live hp HRU.out) HMX.out
              · repeat rw [heap_set hg]
              · (repeat' (first | (with_reducible assumption) | (with_reducible exact Below.refl _ _) | (with_reducible refine below_drewN ?_ _) | (with_reducible refine Below.drew ?_) | (with_reducible refine Below.setCell ?_ ?_ _) | (with_reducible refine Below.alloc ?_ ?_ _) | (with_reducible refine below_putObj ?_ ?_ _) | (with_reducible exact Nat.le_refl _) | omega | (simp; done) | (simp; omega)))
          · have hI2 := hI.out
            have hle := Neg.less_step h1 sz maps hI2.1.phase hml _ hs
            have hMy := hI2.1.less hle
            have hLy := hw5.left
            have HY : Hid (Mild y1 (o1 ++ y2) ∧ ∀ o2 h2, Neg.Runs sz maps y1 o2 h2 → Neg.Runs sz maps { n with buf := n.buf ++ s } ((o1 ++ y2) ++ o2) h2) :=
              Lib.hid ⟨hMy, fun o2 h2 hr => by rw [List.append_assoc]; exact hI2.2 _ _ (Neg.Runs.go HP4.out hs hr)⟩
            have HM2 : Hid (leftOf w5 b < leftOf wr b) := Lib.hid (by
              rw [HL.out, hLy]
              have := hle.less
              dsimp only at this
              by_cases hy : y1.phase < 2
              · rw [if_pos hy]; omega
              · rw [if_neg hy]; omega)
            clear a0 a1 c0 HS HL HP4 hI hI2 hle hMy hLy hs
            go_wp2
            go_roundw
            case rel => exact ⟨_, _, _, _, hw5, HY⟩
            case measure => exact HM2.out
      · rw [if_neg hp4] at hL
        obtain ⟨b1, v1, b2, v2, p, b3, v3, k1, k2⟩ := hw.open_
        have cP := k1.cell 0
        unfold nwC at cP
        simp only [List.getElem?_toArray, List.getElem?_cons_zero, List.getElem?_cons_succ] at cP
        have l4 : ¬ (h1.phase : Int) < 2 := by omega
        have HWX := Lib.hid hw
        have HRU : Hid (Neg.Runs sz maps { n with buf := n.buf ++ s } o1 h1) := Lib.hid (by have := hI.out.2 [] h1 (Neg.Runs.stop (.inl (by omega))); rwa [List.append_nil] at this)
        have HMX := Lib.hid hI.out.1
        clear k1 k2 hL hp4 hw hI
        have hwE := HWX.out
        obtain ⟨x1, q1, x2, q2, p, x3, q3, k1, k2⟩ := hwE.open_
        have hR := hwE.held HKR.out
        have c0 := k1.cell 0
        have c1 := k1.cell 1
        have c2 := k1.cell 2
        have c3 := k1.cell 3
        have c4 := k1.cell 4
        unfold nwC at c0 c1 c2 c3 c4
        simp only [List.getElem?_toArray, List.getElem?_cons_zero, List.getElem?_cons_succ] at c0 c1 c2 c3 c4
        have HS := Lib.hid (fun W => nwrk_string w b ⟨0, K⟩ sz maps W h1 o1 ok od (.slice x1 h1.metas.length q1) (.slice x2 maps.length q2) p (.slice x3 o1.length q3))
        have K1 := Lib.hid k1
        have K2 := Lib.hid k2
        clear k1 k2 hwE hR
        go_upto_region 7 with fail
        go_region_with (go_at_call 24; go_loud (refine (HS.out _ K1.out.drew K2.out.drew).mono ?_; rintro e w6 ⟨rfl, hE⟩; have d0 := hE.blk.cell 0; have d1 := hE.blk.cell 1; have d2 := hE.blk.cell 2; have d3 := hE.blk.cell 3; have d4 := hE.blk.cell 4; unfold nwC at d0 d1 d2 d3 d4; simp only [List.getElem?_toArray, List.getElem?_cons_zero, List.getElem?_cons_succ] at d0 d1 d2 d3 d4; have hR := hE.held _ HKR.out; have r0 := hR.cell 0; have r1 := hR.cell 1; have r2 := hR.cell 2; have r3 := hR.cell 3; have r4 := hR.cell 4; simp only [List.getElem?_toArray, List.getElem?_cons_zero, List.getElem?_cons_succ] at r0 r1 r2 r3 r4; have s0 := hR.frozen 0; have s1 := hR.frozen 1; have s2 := hR.frozen 2; have s3 := hR.frozen 3; have s4 := hR.frozen 4; try dsimp only at r0 r1 r2 r3 r4 s0 s1 s2 s3 s4; have HE := Lib.hid hE; clear hE hR c0 c1 c2 c3 c4))
        all_goals
          go_wp2
          try simp only [Exit.inBlock, Exit.then]
          refine bodyPost_ret (v := .tuple #[.agg (ngC h1 (.slice x1 h1.metas.length q1)), .string ⟨o1.toArray⟩]) (by simp [results, Try.results9, go_sem, ngC, *]) rfl ?_
          have hEb := HE.out.below
          refine feed_end n sz maps s w _ h1 o1 _ (MetaU.far HE.out.metas (HE.out.held _ HKR.out) (show (31 : Nat) ≠ 35 by decide) (fun g hg => ?_)) ?_ (Neg.Feeds.live hp HRU.out) HMX.out
          · repeat rw [heap_set hg]
          · (repeat' (first | (with_reducible assumption) | (with_reducible exact Below.refl _ _) | (with_reducible refine below_drewN ?_ _) | (with_reducible refine Below.drew ?_) | (with_reducible refine Below.setCell ?_ ?_ _) | (with_reducible refine Below.alloc ?_ ?_ _) | (with_reducible refine below_putObj ?_ ?_ _) | (with_reducible exact Nat.le_refl _) | omega | (simp; done) | (simp; omega)))
end Go.Proofs.Yteljplpiojdikaa
