/- Chapter 29's example. -/
import Derived.Test.YtfcojhpnpfodeaaMatFeed
import Derived.Test.YtfcojhpnpfodeaaMatWays
import Derived.Test.YtfcojhpnpfodeaaMRepChunk
namespace Go.Proofs.Ytfcojhpnpfodeaa
open Go.RowKit

def exQ : Req := ⟨0, 0, 1, 8, 4, []⟩
def exH : List UInt8 := chunkBytes ⟨false, 2, 1, holeB 10 2⟩
def exD : List UInt8 := chunkBytes ⟨true, 1, 1, dataB 8 [97, 98]⟩
def exM : Mat := ⟨[], true, [⟨exQ, [0, 0, 0, 0], [0, 0, 0, 0], [], 0⟩], false⟩
def exM0 : Mat := ⟨exH ++ exD, true, [⟨exQ, [0, 0, 0, 0], [0, 0, 0, 0], [], 0⟩], false⟩
def exM1 : Mat := ⟨exD, true, [⟨exQ, [0, 0, 0, 0], [0, 0, 1, 1], [], 0⟩], false⟩
def exM2 : Mat := ⟨[], true, [], false⟩
def exA : Answ := ⟨exQ, 0, [97, 98, 0, 0], []⟩
theorem ex_ask : (Mat.new true).ask exQ = (exM, reqBytes exQ, 0) := by rfl
theorem ex_asked : exM.Asked := by
  have h := (ask_asked (new_asked true) exQ ⟨by decide, by decide, by decide⟩).1
  rw [ex_ask] at h
  exact h
theorem ex_step0 : exM0.step = some (exM1, []) := by rfl
theorem ex_step1 : exM1.step = some (exM2, [exA]) := by rfl
theorem ex_feeds : Mat.Feeds exM (exH ++ exD) exM2 [exA] := by
  refine Mat.Feeds.live rfl ?_
  have h := Mat.Runs.go (by rfl) ex_step0 (Mat.Runs.go (by rfl) ex_step1 (Mat.Runs.stop (h := exM2) (.inr (by rfl))))
  exact h

set_option maxRecDepth 100000 in
set_option maxHeartbeats 1000000 in
theorem awake_any (w : World) : Calls Try.prog 8 #[] w (Gives (.bool true) w) := by
  have mixed : Try.prog.follows .mixedOrders = true := by kernel_rfl
  have HN := Lib.hid (fun W => new_any true W)
  have HA := Lib.hid (fun W => ask_any (Mat.new true) (.slice none 0 0) exQ W (waits_nil W) (by decide) ⟨by decide, by decide, by decide⟩)
  unfold AskEnds at HA
  rw [ex_ask] at HA
  have HH := Lib.hid (fun W => rhole_any 10 2 (by decide) (by decide) W)
  have HD := Lib.hid (fun W => rdata_any 8 [97, 98] (by decide) (by decide) W)
  have HWH := Lib.hid (fun W => rwriteC_ok false 2 1 (holeB 10 2) (by decide) (by decide) (by decide) (by decide) W)
  have HWD := Lib.hid (fun W => rwriteC_ok true 1 1 (dataB 8 [97, 98]) (by decide) (by decide) (by decide) (by decide) W)
  have HF := Lib.hid (fun W v hv => feed_any 0 exM (exH ++ exD) v W hv ex_asked.ok (by decide))
  rw [show chunkBytes ⟨false, 2, 1, holeB 10 2⟩ = exH from rfl] at HWH
  rw [show chunkBytes ⟨true, 1, 1, dataB 8 [97, 98]⟩ = exD from rfl] at HWD
  have hl : (reqBytes exQ).length = 28 := by rfl
  have hlH : exH.length = 32 := by rfl
  have hlD : exD.length = 30 := by rfl
  generalize reqBytes exQ = rb at HA hl
  unfold exQ at HA
  unfold matC at HN HA HF
  generalize holeB 10 2 = hb at HH HWH
  generalize dataB 8 [97, 98] = db at HD HWD
  dsimp only [exM, Mat.new] at HN HA HF
  go_enter Try.func8, Try.ntmps8
  go_wp2_with fail
  refine (HN.out _).mono ?_
  rintro e w1 ⟨rfl, hb1⟩
  go_wp2_with fail
  refine (HA.out _).mono ?_
  rintro e w2 ⟨v2, rfl, hv2, hb2⟩
  have b2 := below_next hb1 hb2
  obtain ⟨a2, c2, rfl⟩ := hv2.form
  have HV2 := Lib.hid hv2
  clear hb1 hb2 hv2
  go_wp2_with fail
  refine (HH.out _).mono ?_
  rintro e w3 ⟨rfl, hb3⟩
  go_wp2_with fail
  refine (HWH.out _).mono ?_
  rintro e w4 ⟨rfl, hb4⟩
  go_wp2_with fail
  refine (HD.out _).mono ?_
  rintro e w5 ⟨rfl, hb5⟩
  go_wp2_with fail
  refine (HWD.out _).mono ?_
  rintro e w6 ⟨rfl, hb6⟩
  have hal : Below w2.heap.size w2 (w2.alloc (.cells #[.string ⟨#[]⟩, .bool true, .slice a2 1 c2, .bool false] 28)) := by (repeat' (first | (with_reducible assumption) | (with_reducible exact Below.refl _ _) | (with_reducible refine below_drewN ?_ _) | (with_reducible refine Below.drew ?_) | (with_reducible refine Below.setCell ?_ ?_ _) | (with_reducible refine Below.alloc ?_ ?_ _) | (with_reducible refine below_putObj ?_ ?_ _) | (with_reducible exact Nat.le_refl _) | omega | (simp; done) | (simp; omega)))
  have MB := Blk.new w2 28 #[.string ⟨#[]⟩, .bool true, .slice a2 1 c2, .bool false]
  have b36 := below_next (below_next (below_next hb3 hb4) hb5) hb6
  have MB6 := MB.below b36 MB.lt
  have b26 := below_next hal b36
  have b6 := below_next b2 b26
  have HV6 := Lib.hid (HV2.out.below b26)
  have m0 := MB6.cell 0
  have m1 := MB6.cell 1
  have m2 := MB6.cell 2
  have m3 := MB6.cell 3
  simp only [List.getElem?_toArray, List.getElem?_cons_zero, List.getElem?_cons_succ] at m0 m1 m2 m3
  have hcc : exH.length + exD.length ≤ 9223372036854775807 := by rw [hlH, hlD]; decide
  have hlt2 := MB6.lt
  have HMB := Lib.hid MB6
  have h2w : w.heap.size ≤ w2.heap.size := b2.size
  clear hb3 hb4 hb5 hb6 hal MB b36 MB6 b26 HV2 HH HWH HD HWD HN HA
  go_wp2_with fail
  refine (HF.out _ _ HV6.out).mono ?_
  rintro e w7 ⟨n, out, va, vb, rfl, hf, hwa, hwb, hb7⟩
  obtain ⟨rfl, rfl⟩ := Mat.feeds_one hf ex_feeds
  have hwb2 := hwb
  obtain ⟨ps, p1, p2, p3, p4⟩ := hwb2
  obtain ⟨v, hv⟩ := pairs_get p1 0 exA rfl
  obtain ⟨a8, c8, rfl⟩ := hwa.form
  obtain ⟨a9, c9, rfl⟩ := hwb.form
  obtain ⟨sa, sc, e9⟩ := (p3 _ (List.mem_of_getElem? hv)).form
  dsimp only at e9
  subst e9
  obtain ⟨g, o, rfl, A⟩ := answ_cells p2 hv
  obtain ⟨_, _, _, _, _, _, t6, t7, _⟩ := A
  have b7 := below_next b6 hb7
  have MB7 := HMB.out.below hb7 HMB.out.lt
  clear m0 m1 m2 m3
  have m0 := MB7.cell 0
  have m1 := MB7.cell 1
  have m2 := MB7.cell 2
  have m3 := MB7.cell 3
  have f0 := MB7.frozen 0
  have f1 := MB7.frozen 1
  have f2 := MB7.frozen 2
  have f3 := MB7.frozen 3
  simp only [List.getElem?_toArray, List.getElem?_cons_zero, List.getElem?_cons_succ] at m0 m1 m2 m3
  unfold exA at t6 t7
  dsimp only [exM2, exA, List.length_cons, List.length_nil] at t6 t7 ⊢
  have hgne : g ≠ w2.heap.size := p4.ne MB7 (by decide) g (by simp [Value.ownBlock])
  have hgne2 := hgne.symm
  clear hf hwa hwb hb7 p1 p2 p3 p4 hv HF MB7 HV6 HMB
  unfold matC
  dsimp only
  go_wp2
  go_ret
  exact ⟨rfl, by (repeat' (first | (with_reducible assumption) | (with_reducible exact Below.refl _ _) | (with_reducible refine below_drewN ?_ _) | (with_reducible refine Below.drew ?_) | (with_reducible refine Below.setCell ?_ ?_ _) | (with_reducible refine Below.alloc ?_ ?_ _) | (with_reducible refine below_putObj ?_ ?_ _) | (with_reducible exact Nat.le_refl _) | omega | (simp; done) | (simp; omega)))⟩
end Go.Proofs.Ytfcojhpnpfodeaa
