/- match.Feed. -/
import Derived.Test.YtfcojhpnpfodeaaMatChunk
import Derived.Test.YtfcojhpnpfodeaaMatOnce
namespace Go.Proofs.Ytfcojhpnpfodeaa
open Go.RowKit

/-- How much is left to be taken off. -/
def leftOf (w : World) (b : Nat) : Nat :=
  match w.cell? ⟨b, 0, none⟩, w.cell? ⟨b, 3, none⟩ with
  | some (.string s), some (.bool d) => if d = true then 0 else s.size + 1
  | _, _ => 0
theorem MW.left {W0 : FW} {b : Nat} {w : World} {m : Mat} {ns : List Answ} {p : Value} {d : List UInt8} (h : MW W0 b w m ns p d) : leftOf w b = if m.dead = true then 0 else m.buf.length + 1 := by
  obtain ⟨vw, va, h1, h2⟩ := h
  have c0 := h1.cell 0
  have c3 := h1.cell 3
  unfold wkC at c0 c3
  simp only [List.getElem?_toArray, List.getElem?_cons_zero, List.getElem?_cons_succ] at c0 c3
  unfold leftOf
  rw [c0, c3]
  dsimp only
  rw [size_list]
/-- How Feed ends. -/
def FeedEnds (m : Mat) (s : List UInt8) (w : World) (e : Ending) (w' : World) : Prop :=
  ∃ m' out va vb, e = .returned (.tuple #[.agg (matC m' va), vb]) ∧ Mat.Feeds m s m' out ∧ WaitsAt w' va m'.waits ∧ AnswsAt w' vb out ∧ Below w.heap.size w w'

/-- No longer than what it may hold. -/
def CapOk (v : Value) : Prop := ∀ ad n c, v = .slice ad n c → n ≤ c
def FeedEndsC (m : Mat) (s : List UInt8) (w : World) (e : Ending) (w' : World) : Prop :=
  ∃ m' out va vb, e = .returned (.tuple #[.agg (matC m' va), vb]) ∧ Mat.Feeds m s m' out ∧ WaitsAt w' va m'.waits ∧ AnswsAt w' vb out ∧ Below w.heap.size w w' ∧ CapOk vb
theorem WRows.cap_ {W0 : FW} {b : Nat} {w : World} {l : List Wait} {ns : List Answ} {vw va : Value} (h : WRows W0 b w l ns vw va) : CapOk va := by
  obtain ⟨qs, q1, q2, q3⟩ := h.an
  rintro ad n c rfl
  rcases q2.2 with ⟨hv, _⟩ | ⟨g, cap, cur, hv, _, _, hc, _⟩
  · simp only [Value.slice.injEq] at hv
    omega
  · simp only [Value.slice.injEq] at hv
    omega

theorem matchT : 28 ≠ 114 ∧ 28 ≠ 90 ∧ 28 ≠ 42 ∧ 28 ≠ 40 := by decide
/-- The result's cell filled. -/
theorem feed_end {w W : World} {R : Nat} {m : Mat} {s : List UInt8} {mE : Mat} {out : List Answ} {va vb : Value} {cs : Array Value} (hR : Blk W R 28 cs) (hw : WaitsAt W va mE.waits) (ha : AnswsAt W vb out) (hF : Mat.Feeds m s mE out) (hb : Below w.heap.size w W) (hr : w.heap.size ≤ R) (hcap : CapOk vb) (u0 u1 u2 u3 : Value) :
    FeedEndsC m s w (.returned (.tuple #[.agg (matC mE va), vb])) ((((W.setCell ⟨R, 0, none⟩ u0).setCell ⟨R, 1, none⟩ u1).setCell ⟨R, 2, none⟩ u2).setCell ⟨R, 3, none⟩ u3).drew := by
  have hP := apart_set (apart_set (apart_set (apart_set (apart_refl W) hR matchT 0 u0) hR matchT 1 u1) hR matchT 2 u2) hR matchT 3 u3
  exact ⟨mE, out, va, vb, rfl, hF, (hw.apart hP).below ((Below.refl _ _).drew), (ha.apart hP).below ((Below.refl _ _).drew), by (repeat' (first | (with_reducible assumption) | (with_reducible exact Below.refl _ _) | (with_reducible refine below_drewN ?_ _) | (with_reducible refine Below.drew ?_) | (with_reducible refine Below.setCell ?_ ?_ _) | (with_reducible refine Below.alloc ?_ ?_ _) | (with_reducible refine below_putObj ?_ ?_ _) | (with_reducible exact Nat.le_refl _) | omega | (simp; done) | (simp; omega))), hcap⟩

theorem step_any {W0 : FW} {b : Nat} {w : World} {m : Mat} {ns : List Answ} {p : Value} {d : List UInt8} {N : Nat} (hk0 : W0.kept = []) (h : MW W0 b w m ns p d) (ok : m.Ok N) (hN : N ≤ 100000) (ha : ns.length ≤ 1000) :
    Calls Try.prog (if m.chunks = true then 23 else 22) #[.pointer (some ⟨b, 0, none⟩)] w (SEnds W0 b m ns p d m.step) := by
  have hb := ok.buf
  unfold Mat.step
  by_cases hc : m.chunks = true
  · rw [if_pos hc, if_pos hc]
    exact chunk_any h (by omega) ok.few ha (fun q hq => ⟨(ok.waits q hq).1, by have := (ok.waits q hq).2; omega⟩)
  · rw [if_neg hc, if_neg hc]
    exact simple_any hk0 h (by omega) ok.few ha (fun q hq => (ok.waits q hq).1)

set_option maxRecDepth 100000 in
set_option maxHeartbeats 2000000 in
theorem feedC_any (N : Nat) (m : Mat) (s : List UInt8) (v : Value) (w : World) (h : WaitsAt w v m.waits) (ok : m.Ok N) (hN : N + s.length ≤ 100000) :
    Calls Try.prog 10 #[.agg (matC m v), .string ⟨s.toArray⟩] w (FeedEndsC m s w) := by
  have mixed : Try.prog.follows .mixedOrders = true := by kernel_rfl
  obtain ⟨ad, cap, rfl⟩ := h.form
  have H := Lib.hid h
  have OK := Lib.hid ok
  have hf := ok.few
  have hbl := ok.buf
  clear h ok
  obtain ⟨bf, ch, l, dd⟩ := m
  unfold matC
  dsimp only at *
  cases dd
  case true =>
    have HF := Lib.hid (Mat.Feeds.dead (h := ⟨bf, ch, l, true⟩) (s := s) rfl)
    go_enter Try.func10, Try.ntmps10
    go_wp2_with fail
    refine bodyPost_ret (v := .tuple #[.agg #[.string ⟨bf.toArray⟩, .bool ch, .slice ad l.length cap, .bool true], .slice none 0 0]) (by simp [results, Try.results10, go_sem]) rfl ?_
    exact ⟨_, [], _, _, rfl, HF.out, H.out.below (by (repeat' (first | (with_reducible assumption) | (with_reducible exact Below.refl _ _) | (with_reducible refine below_drewN ?_ _) | (with_reducible refine Below.drew ?_) | (with_reducible refine Below.setCell ?_ ?_ _) | (with_reducible refine Below.alloc ?_ ?_ _) | (with_reducible refine below_putObj ?_ ?_ _) | (with_reducible exact Nat.le_refl _) | omega | (simp; done) | (simp; omega)))), answs_nil _, by (repeat' (first | (with_reducible assumption) | (with_reducible exact Below.refl _ _) | (with_reducible refine below_drewN ?_ _) | (with_reducible refine Below.drew ?_) | (with_reducible refine Below.setCell ?_ ?_ _) | (with_reducible refine Below.alloc ?_ ?_ _) | (with_reducible refine below_putObj ?_ ?_ _) | (with_reducible exact Nat.le_refl _) | omega | (simp; done) | (simp; omega))), fun ad n c h => by simp only [Value.slice.injEq] at h; omega⟩
  case false =>
    obtain ⟨ps, p1, p2, p3, _⟩ := H.out
    have HCL := Lib.hid (fun W (hb : Below w.heap.size w W) => clone_waits (.slice ad l.length cap) l.length (ps.flatMap waitC) W (p2.below hb) (by omega) (by rw [flat_len waitC 10 waitC_len, ← p1, List.length_map]) (waitsRow_one p3))
    have HP1 := Lib.hid p1
    have HP3 := Lib.hid p3
    clear p1 p2 p3
    obtain ⟨W0, hW0⟩ : ∃ W0, W0 = ((w.alloc (.cells #[.string ⟨bf.toArray⟩, .bool ch, .slice ad l.length cap, .bool false] 28)).alloc (.cells #[.string ⟨#[]⟩, .bool false, .slice none 0 0, .bool false] 28)) := ⟨_, rfl⟩
    have hbW : Below w.heap.size w W0 := by rw [hW0]; (repeat' (first | (with_reducible assumption) | (with_reducible exact Below.refl _ _) | (with_reducible refine below_drewN ?_ _) | (with_reducible refine Below.drew ?_) | (with_reducible refine Below.setCell ?_ ?_ _) | (with_reducible refine Below.alloc ?_ ?_ _) | (with_reducible refine below_putObj ?_ ?_ _) | (with_reducible exact Nat.le_refl _) | omega | (simp; done) | (simp; omega)))
    have hsz : W0.heap.size = w.heap.size + 1 + 1 := by rw [hW0]; simp
    have HBR : Hid (Blk W0 (w.heap.size + 1) 28 #[.string ⟨#[]⟩, .bool false, .slice none 0 0, .bool false]) := Lib.hid (by rw [hW0]; exact Blk.newAt (by simp))
    have HOK : Hid (Mat.Ok (N + s.length) ⟨bf ++ s, ch, l, false⟩) := Lib.hid (Mat.fed_ok (s := s) OK.out)
    have HW0 := Lib.hid hW0
    have HBW := Lib.hid hbW
    clear hW0 hbW
    cases ch
    case false =>
      go_enter Try.func10, Try.ntmps10
      go_wp2_with fail
      rw [← HW0.out]
      have hwk : Below w.heap.size w (W0.alloc (.cells #[.string ⟨bf.toArray⟩, .bool false, .slice ad l.length cap, .bool false, .slice none 0 0, .pointer none, .string ⟨#[]⟩] 66)) := by have := HBW.out; have hs := this.size; (repeat' (first | (with_reducible assumption) | (with_reducible exact Below.refl _ _) | (with_reducible refine below_drewN ?_ _) | (with_reducible refine Below.drew ?_) | (with_reducible refine Below.setCell ?_ ?_ _) | (with_reducible refine Below.alloc ?_ ?_ _) | (with_reducible refine below_putObj ?_ ?_ _) | (with_reducible exact Nat.le_refl _) | omega | (simp; done) | (simp; omega)))
      refine (HCL.out _ hwk).mono ?_
      rintro e w1 ⟨v1, rfl, ho1, hb1⟩
      obtain ⟨a1, c1, rfl⟩ := (SlAt.of_row ho1).form
      have B1 : Blk (W0.alloc (.cells #[.string ⟨bf.toArray⟩, .bool false, .slice ad l.length cap, .bool false, .slice none 0 0, .pointer none, .string ⟨#[]⟩] 66)) W0.heap.size 66 #[.string ⟨bf.toArray⟩, .bool false, .slice ad l.length cap, .bool false, .slice none 0 0, .pointer none, .string ⟨#[]⟩] := Blk.new W0 _ _
      have B2 := B1.below hb1 B1.lt
      rw [hsz] at B2
      have x0 := B2.cell 0
      have x1 := B2.cell 1
      have x2 := B2.cell 2
      have f0 := B2.frozen 0
      have f2 := B2.frozen 2
      simp only [List.getElem?_toArray, List.getElem?_cons_zero, List.getElem?_cons_succ] at x0 x1 x2
      have hb01 : Below W0.heap.size W0 w1 := below_next (show Below W0.heap.size W0 (W0.alloc (.cells #[.string ⟨bf.toArray⟩, .bool false, .slice ad l.length cap, .bool false, .slice none 0 0, .pointer none, .string ⟨#[]⟩] 66)) by (repeat' (first | (with_reducible assumption) | (with_reducible exact Below.refl _ _) | (with_reducible refine below_drewN ?_ _) | (with_reducible refine Below.drew ?_) | (with_reducible refine Below.setCell ?_ ?_ _) | (with_reducible refine Below.alloc ?_ ?_ _) | (with_reducible refine below_putObj ?_ ?_ _) | (with_reducible exact Nat.le_refl _) | omega | (simp; done) | (simp; omega)))) hb1
      have ho2 : w1.ownsRow (W0.heap.size + 1) 42 10 (.slice a1 l.length c1) l.length (ps.flatMap waitC) := own_base ho1 (by simp)
      have R1 : WRows ⟨W0, []⟩ W0.heap.size w1 l [] (.slice a1 l.length c1) (.slice none 0 0) := ⟨⟨ps, HP1.out, ho2, fun p hp => (HP3.out p hp).below (below_next hwk hb1)⟩, ⟨[], rfl, World.ownsRow_nil _ _ _ _, by simp⟩, hb01, Nat.le_refl _, by simp⟩
      rw [hsz] at R1
      have hcp : bf.length + s.length ≤ 9223372036854775807 := by omega
      have HB2 := Lib.hid B2
      have HR1 := Lib.hid R1
      clear ho1 hb1 B1 B2 R1 hb01 ho2 hwk HCL HW0
      go_wp2_with fail
      generalize hb : w.heap.size + 1 + 1 = b at *
      have HM0 : Hid (MW ⟨W0, []⟩ b ((w1.setCell ⟨b, 2, none⟩ (.slice a1 l.length c1)).setCell ⟨b, 0, none⟩ (.string ⟨(bf ++ s).toArray⟩)) ⟨bf ++ s, false, l, false⟩ [] (.pointer none) []) := Lib.hid
        ⟨_, _, ((HB2.out.set_ 2 (.slice a1 l.length c1)).set_ 0 (.string ⟨(bf ++ s).toArray⟩)).as_ (by simp [wkC]), (HR1.out.set_ HB2.out 2 _).set_ (HB2.out.set_ 2 _) 0 _⟩
      go_loopw [] (fun wr => ∃ (m1 : Mat) (o1 : List Answ) (p : Value) (d : List UInt8), MW ⟨W0, []⟩ b wr m1 o1 p d ∧ Hid (Mat.Once (N + s.length) ⟨bf ++ s, false, l, false⟩ o1 m1 ∧ ∀ o2 m2, Mat.Runs m1 o2 m2 → Mat.Runs ⟨bf ++ s, false, l, false⟩ (o1 ++ o2) m2)) (fun wr => leftOf wr b)
      case atStart => exact ⟨_, [], _, _, HM0.out, Lib.hid ⟨Mat.once_refl HOK.out, fun o2 m2 hr => by simpa using hr⟩⟩
      case round =>
        obtain ⟨m1, o1, p, d, hw, hI⟩ := hrel
        have hL := hw.left
        obtain ⟨e1, g1, e2, g2, k1, k2⟩ := hw.open_
        have c3 := k1.cell 3
        unfold wkC at c3
        simp only [List.getElem?_toArray, List.getElem?_cons_zero, List.getElem?_cons_succ] at c3
        have HHW := Lib.hid hw
        have HL := Lib.hid hL
        clear k1 k2 hw hL
        cases hd1 : m1.dead with
        | false =>
          rw [hd1] at c3
          have HD1 := Lib.hid hd1
          have hst := step_any (N := N + s.length) rfl HHW.out hI.out.1.ok hN (by have := hI.out.1.few; have := hf; dsimp only at *; omega)
          rw [hI.out.1.chunks] at hst
          have HST : Hid (Calls Try.prog 22 #[.pointer (some ⟨b, 0, none⟩)] wr (SEnds ⟨W0, []⟩ b m1 o1 p d m1.step)) := Lib.hid hst
          clear hst hd1
          go_wp2_with fail
          refine HST.out.mono ?_
          rintro e w5 hs5
          rcases hs5 with ⟨hn, rfl, hw5⟩ | ⟨m2, o2, p2, d2, hs, rfl, hw5⟩
          · have HWE := Lib.hid hw5
            have HF : Hid (Mat.Feeds ⟨bf, false, l, false⟩ s m1 o1) := Lib.hid (Mat.Feeds.live rfl (by have := hI.out.2 [] m1 (Mat.Runs.stop (.inr hn)); rwa [List.append_nil] at this))
            clear HST HL HD1 c3 hn hw5 hI HHW
            obtain ⟨e1, f1, e2, f2, k1, k2⟩ := HWE.out.open_
            have c0 := k1.cell 0
            have c1 := k1.cell 1
            have c2 := k1.cell 2
            have c3 := k1.cell 3
            have c4 := k1.cell 4
            unfold wkC at c0 c1 c2 c3 c4
            simp only [List.getElem?_toArray, List.getElem?_cons_zero, List.getElem?_cons_succ] at c0 c1 c2 c3 c4
            have hR := HBR.out.below k2.bl (by have := HBR.out.lt; exact this)
            have r0 := hR.frozen 0
            have r1 := hR.frozen 1
            have r2 := hR.frozen 2
            have r3 := hR.frozen 3
            have s0 := hR.cell 0
            have s1 := hR.cell 1
            have s2 := hR.cell 2
            have s3 := hR.cell 3
            simp only [List.getElem?_toArray, List.getElem?_cons_zero, List.getElem?_cons_succ] at s0 s1 s2 s3
            have HK2 := Lib.hid k2
            have HR := Lib.hid hR
            clear k1 k2 hR
            go_upto_region 10 with fail
            go_region
            all_goals go_wp2_with fail
            all_goals refine bodyPost_ret (v := .tuple #[.agg #[.string ⟨m1.buf.toArray⟩, .bool m1.chunks, .slice e1 m1.waits.length f1, .bool m1.dead], .slice e2 o1.length f2]) (by simp [results, Try.results10, go_sem, s0, s1, s2, s3]) rfl ?_
            all_goals exact feed_end HR.out HK2.out.waits HK2.out.answs HF.out (HBW.out.trans (HK2.out.bl.mono (by have := HBW.out.size; exact this))) (by omega) HK2.out.cap_ _ _ _ _
          · have hI2 := hI.out
            obtain ⟨hon, hls⟩ := Mat.step_once hI2.1.ok HD1.out hs
            have HY : Hid (Mat.Once (N + s.length) ⟨bf ++ s, false, l, false⟩ (o1 ++ o2) m2 ∧ ∀ o3 m3, Mat.Runs m2 o3 m3 → Mat.Runs ⟨bf ++ s, false, l, false⟩ ((o1 ++ o2) ++ o3) m3) :=
              Lib.hid ⟨Mat.once_next hI2.1 hon (fun h => by rw [HD1.out] at h; cases h), fun o3 m3 hr => by rw [List.append_assoc]; exact hI2.2 _ _ (Mat.Runs.go HD1.out hs hr)⟩
            have HM2 : Hid (leftOf w5 b < leftOf wr b) := Lib.hid (by
              have e1 : leftOf wr b = m1.buf.length + 1 := by rw [HL.out, if_neg (by rw [HD1.out]; decide)]
              have e2 := hw5.left
              by_cases hy : m2.dead = true
              · rw [if_pos hy] at e2; omega
              · rw [if_neg hy] at e2
                have := hls.resolve_left hy
                omega)
            clear HST HL HD1 c3 hI hI2 hon hls hs
            go_wp2
            go_roundw
            case rel => exact ⟨_, _, _, _, hw5, HY⟩
            case measure => exact HM2.out
        | true =>
          rw [hd1] at c3
          have HWE := HHW
          have hd2 := hd1
          go_upto_region 10 with fail
          have HF : Hid (Mat.Feeds ⟨bf, false, l, false⟩ s m1 o1) := Lib.hid (Mat.Feeds.live rfl (by have := hI.out.2 [] m1 (Mat.Runs.stop (.inl hd2)); rwa [List.append_nil] at this))
          clear HL hI HHW hd1 hd2 c3
          obtain ⟨e1, f1, e2, f2, k1, k2⟩ := HWE.out.open_
          have c0 := k1.cell 0
          have c1 := k1.cell 1
          have c2 := k1.cell 2
          have c3 := k1.cell 3
          have c4 := k1.cell 4
          unfold wkC at c0 c1 c2 c3 c4
          simp only [List.getElem?_toArray, List.getElem?_cons_zero, List.getElem?_cons_succ] at c0 c1 c2 c3 c4
          have hR := HBR.out.below k2.bl (by have := HBR.out.lt; exact this)
          have r0 := hR.frozen 0
          have r1 := hR.frozen 1
          have r2 := hR.frozen 2
          have r3 := hR.frozen 3
          have s0 := hR.cell 0
          have s1 := hR.cell 1
          have s2 := hR.cell 2
          have s3 := hR.cell 3
          simp only [List.getElem?_toArray, List.getElem?_cons_zero, List.getElem?_cons_succ] at s0 s1 s2 s3
          have HK2 := Lib.hid k2
          have HR := Lib.hid hR
          clear k1 k2 hR
          go_region
          all_goals go_wp2_with fail
          all_goals refine bodyPost_ret (v := .tuple #[.agg #[.string ⟨m1.buf.toArray⟩, .bool m1.chunks, .slice e1 m1.waits.length f1, .bool m1.dead], .slice e2 o1.length f2]) (by simp [results, Try.results10, go_sem, s0, s1, s2, s3]) rfl ?_
          all_goals exact feed_end HR.out HK2.out.waits HK2.out.answs HF.out (HBW.out.trans (HK2.out.bl.mono (by have := HBW.out.size; exact this))) (by omega) HK2.out.cap_ _ _ _ _
    case true =>
      go_enter Try.func10, Try.ntmps10
      go_wp2_with fail
      rw [← HW0.out]
      have hwk : Below w.heap.size w (W0.alloc (.cells #[.string ⟨bf.toArray⟩, .bool true, .slice ad l.length cap, .bool false, .slice none 0 0, .pointer none, .string ⟨#[]⟩] 66)) := by have := HBW.out; have hs := this.size; (repeat' (first | (with_reducible assumption) | (with_reducible exact Below.refl _ _) | (with_reducible refine below_drewN ?_ _) | (with_reducible refine Below.drew ?_) | (with_reducible refine Below.setCell ?_ ?_ _) | (with_reducible refine Below.alloc ?_ ?_ _) | (with_reducible refine below_putObj ?_ ?_ _) | (with_reducible exact Nat.le_refl _) | omega | (simp; done) | (simp; omega)))
      refine (HCL.out _ hwk).mono ?_
      rintro e w1 ⟨v1, rfl, ho1, hb1⟩
      obtain ⟨a1, c1, rfl⟩ := (SlAt.of_row ho1).form
      have B1 : Blk (W0.alloc (.cells #[.string ⟨bf.toArray⟩, .bool true, .slice ad l.length cap, .bool false, .slice none 0 0, .pointer none, .string ⟨#[]⟩] 66)) W0.heap.size 66 #[.string ⟨bf.toArray⟩, .bool true, .slice ad l.length cap, .bool false, .slice none 0 0, .pointer none, .string ⟨#[]⟩] := Blk.new W0 _ _
      have B2 := B1.below hb1 B1.lt
      rw [hsz] at B2
      have x0 := B2.cell 0
      have x1 := B2.cell 1
      have x2 := B2.cell 2
      have f0 := B2.frozen 0
      have f2 := B2.frozen 2
      simp only [List.getElem?_toArray, List.getElem?_cons_zero, List.getElem?_cons_succ] at x0 x1 x2
      have hb01 : Below W0.heap.size W0 w1 := below_next (show Below W0.heap.size W0 (W0.alloc (.cells #[.string ⟨bf.toArray⟩, .bool true, .slice ad l.length cap, .bool false, .slice none 0 0, .pointer none, .string ⟨#[]⟩] 66)) by (repeat' (first | (with_reducible assumption) | (with_reducible exact Below.refl _ _) | (with_reducible refine below_drewN ?_ _) | (with_reducible refine Below.drew ?_) | (with_reducible refine Below.setCell ?_ ?_ _) | (with_reducible refine Below.alloc ?_ ?_ _) | (with_reducible refine below_putObj ?_ ?_ _) | (with_reducible exact Nat.le_refl _) | omega | (simp; done) | (simp; omega)))) hb1
      have ho2 : w1.ownsRow (W0.heap.size + 1) 42 10 (.slice a1 l.length c1) l.length (ps.flatMap waitC) := own_base ho1 (by simp)
      have R1 : WRows ⟨W0, []⟩ W0.heap.size w1 l [] (.slice a1 l.length c1) (.slice none 0 0) := ⟨⟨ps, HP1.out, ho2, fun p hp => (HP3.out p hp).below (below_next hwk hb1)⟩, ⟨[], rfl, World.ownsRow_nil _ _ _ _, by simp⟩, hb01, Nat.le_refl _, by simp⟩
      rw [hsz] at R1
      have hcp : bf.length + s.length ≤ 9223372036854775807 := by omega
      have HB2 := Lib.hid B2
      have HR1 := Lib.hid R1
      clear ho1 hb1 B1 B2 R1 hb01 ho2 hwk HCL HW0
      go_wp2_with fail
      generalize hb : w.heap.size + 1 + 1 = b at *
      have HM0 : Hid (MW ⟨W0, []⟩ b ((w1.setCell ⟨b, 2, none⟩ (.slice a1 l.length c1)).setCell ⟨b, 0, none⟩ (.string ⟨(bf ++ s).toArray⟩)) ⟨bf ++ s, true, l, false⟩ [] (.pointer none) []) := Lib.hid
        ⟨_, _, ((HB2.out.set_ 2 (.slice a1 l.length c1)).set_ 0 (.string ⟨(bf ++ s).toArray⟩)).as_ (by simp [wkC]), (HR1.out.set_ HB2.out 2 _).set_ (HB2.out.set_ 2 _) 0 _⟩
      go_loopw [] (fun wr => ∃ (m1 : Mat) (o1 : List Answ) (p : Value) (d : List UInt8), MW ⟨W0, []⟩ b wr m1 o1 p d ∧ Hid (Mat.Once (N + s.length) ⟨bf ++ s, true, l, false⟩ o1 m1 ∧ ∀ o2 m2, Mat.Runs m1 o2 m2 → Mat.Runs ⟨bf ++ s, true, l, false⟩ (o1 ++ o2) m2)) (fun wr => leftOf wr b)
      case atStart => exact ⟨_, [], _, _, HM0.out, Lib.hid ⟨Mat.once_refl HOK.out, fun o2 m2 hr => by simpa using hr⟩⟩
      case round =>
        obtain ⟨m1, o1, p, d, hw, hI⟩ := hrel
        have hL := hw.left
        obtain ⟨e1, g1, e2, g2, k1, k2⟩ := hw.open_
        have c3 := k1.cell 3
        unfold wkC at c3
        simp only [List.getElem?_toArray, List.getElem?_cons_zero, List.getElem?_cons_succ] at c3
        have HHW := Lib.hid hw
        have HL := Lib.hid hL
        clear k1 k2 hw hL
        cases hd1 : m1.dead with
        | false =>
          rw [hd1] at c3
          have HD1 := Lib.hid hd1
          have hst := step_any (N := N + s.length) rfl HHW.out hI.out.1.ok hN (by have := hI.out.1.few; have := hf; dsimp only at *; omega)
          rw [hI.out.1.chunks] at hst
          have HST : Hid (Calls Try.prog 23 #[.pointer (some ⟨b, 0, none⟩)] wr (SEnds ⟨W0, []⟩ b m1 o1 p d m1.step)) := Lib.hid hst
          clear hst hd1
          go_wp2_with fail
          refine HST.out.mono ?_
          rintro e w5 hs5
          rcases hs5 with ⟨hn, rfl, hw5⟩ | ⟨m2, o2, p2, d2, hs, rfl, hw5⟩
          · have HWE := Lib.hid hw5
            have HF : Hid (Mat.Feeds ⟨bf, true, l, false⟩ s m1 o1) := Lib.hid (Mat.Feeds.live rfl (by have := hI.out.2 [] m1 (Mat.Runs.stop (.inr hn)); rwa [List.append_nil] at this))
            clear HST HL HD1 c3 hn hw5 hI HHW
            obtain ⟨e1, f1, e2, f2, k1, k2⟩ := HWE.out.open_
            have c0 := k1.cell 0
            have c1 := k1.cell 1
            have c2 := k1.cell 2
            have c3 := k1.cell 3
            have c4 := k1.cell 4
            unfold wkC at c0 c1 c2 c3 c4
            simp only [List.getElem?_toArray, List.getElem?_cons_zero, List.getElem?_cons_succ] at c0 c1 c2 c3 c4
            have hR := HBR.out.below k2.bl (by have := HBR.out.lt; exact this)
            have r0 := hR.frozen 0
            have r1 := hR.frozen 1
            have r2 := hR.frozen 2
            have r3 := hR.frozen 3
            have s0 := hR.cell 0
            have s1 := hR.cell 1
            have s2 := hR.cell 2
            have s3 := hR.cell 3
            simp only [List.getElem?_toArray, List.getElem?_cons_zero, List.getElem?_cons_succ] at s0 s1 s2 s3
            have HK2 := Lib.hid k2
            have HR := Lib.hid hR
            clear k1 k2 hR
            go_upto_region 10 with fail
            go_region
            all_goals go_wp2_with fail
            all_goals refine bodyPost_ret (v := .tuple #[.agg #[.string ⟨m1.buf.toArray⟩, .bool m1.chunks, .slice e1 m1.waits.length f1, .bool m1.dead], .slice e2 o1.length f2]) (by simp [results, Try.results10, go_sem, s0, s1, s2, s3]) rfl ?_
            all_goals exact feed_end HR.out HK2.out.waits HK2.out.answs HF.out (HBW.out.trans (HK2.out.bl.mono (by have := HBW.out.size; exact this))) (by omega) HK2.out.cap_ _ _ _ _
          · have hI2 := hI.out
            obtain ⟨hon, hls⟩ := Mat.step_once hI2.1.ok HD1.out hs
            have HY : Hid (Mat.Once (N + s.length) ⟨bf ++ s, true, l, false⟩ (o1 ++ o2) m2 ∧ ∀ o3 m3, Mat.Runs m2 o3 m3 → Mat.Runs ⟨bf ++ s, true, l, false⟩ ((o1 ++ o2) ++ o3) m3) :=
              Lib.hid ⟨Mat.once_next hI2.1 hon (fun h => by rw [HD1.out] at h; cases h), fun o3 m3 hr => by rw [List.append_assoc]; exact hI2.2 _ _ (Mat.Runs.go HD1.out hs hr)⟩
            have HM2 : Hid (leftOf w5 b < leftOf wr b) := Lib.hid (by
              have e1 : leftOf wr b = m1.buf.length + 1 := by rw [HL.out, if_neg (by rw [HD1.out]; decide)]
              have e2 := hw5.left
              by_cases hy : m2.dead = true
              · rw [if_pos hy] at e2; omega
              · rw [if_neg hy] at e2
                have := hls.resolve_left hy
                omega)
            clear HST HL HD1 c3 hI hI2 hon hls hs
            go_wp2
            go_roundw
            case rel => exact ⟨_, _, _, _, hw5, HY⟩
            case measure => exact HM2.out
        | true =>
          rw [hd1] at c3
          have HWE := HHW
          have hd2 := hd1
          go_upto_region 10 with fail
          have HF : Hid (Mat.Feeds ⟨bf, true, l, false⟩ s m1 o1) := Lib.hid (Mat.Feeds.live rfl (by have := hI.out.2 [] m1 (Mat.Runs.stop (.inl hd2)); rwa [List.append_nil] at this))
          clear HL hI HHW hd1 hd2 c3
          obtain ⟨e1, f1, e2, f2, k1, k2⟩ := HWE.out.open_
          have c0 := k1.cell 0
          have c1 := k1.cell 1
          have c2 := k1.cell 2
          have c3 := k1.cell 3
          have c4 := k1.cell 4
          unfold wkC at c0 c1 c2 c3 c4
          simp only [List.getElem?_toArray, List.getElem?_cons_zero, List.getElem?_cons_succ] at c0 c1 c2 c3 c4
          have hR := HBR.out.below k2.bl (by have := HBR.out.lt; exact this)
          have r0 := hR.frozen 0
          have r1 := hR.frozen 1
          have r2 := hR.frozen 2
          have r3 := hR.frozen 3
          have s0 := hR.cell 0
          have s1 := hR.cell 1
          have s2 := hR.cell 2
          have s3 := hR.cell 3
          simp only [List.getElem?_toArray, List.getElem?_cons_zero, List.getElem?_cons_succ] at s0 s1 s2 s3
          have HK2 := Lib.hid k2
          have HR := Lib.hid hR
          clear k1 k2 hR
          go_region
          all_goals go_wp2_with fail
          all_goals refine bodyPost_ret (v := .tuple #[.agg #[.string ⟨m1.buf.toArray⟩, .bool m1.chunks, .slice e1 m1.waits.length f1, .bool m1.dead], .slice e2 o1.length f2]) (by simp [results, Try.results10, go_sem, s0, s1, s2, s3]) rfl ?_
          all_goals exact feed_end HR.out HK2.out.waits HK2.out.answs HF.out (HBW.out.trans (HK2.out.bl.mono (by have := HBW.out.size; exact this))) (by omega) HK2.out.cap_ _ _ _ _
theorem feed_any (N : Nat) (m : Mat) (s : List UInt8) (v : Value) (w : World) (h : WaitsAt w v m.waits) (ok : m.Ok N) (hN : N + s.length ≤ 100000) :
    Calls Try.prog 10 #[.agg (matC m v), .string ⟨s.toArray⟩] w (FeedEnds m s w) :=
  (feedC_any N m s v w h ok hN).mono fun _ _ ⟨m', out, va, vb, h1, h2, h3, h4, h5, _⟩ => ⟨m', out, va, vb, h1, h2, h3, h4, h5⟩
end Go.Proofs.Ytfcojhpnpfodeaa
