/- The chapter's example. -/
import Derived.Test.YtcmocangmfengaaRepChunk
namespace Go.Proofs.Ytcmocangmfengaa
open Go.RowKit

theorem awake_s : writeRep ⟨0, 1, [120]⟩ = ([103, 68, 102, 152, 0, 0, 0, 0, 0, 0, 0, 0, 0, 0, 0, 1, 120], 0) := by decide +kernel
theorem awake_c : writeChunk ⟨true, 0, 0, []⟩ = ([102, 142, 51, 239, 0, 1, 0, 0, 0, 0, 0, 0, 0, 0, 0, 0, 0, 0, 0, 0], 0) := by decide +kernel

set_option maxRecDepth 100000 in
set_option maxHeartbeats 400000 in
theorem awake_any (w : World) : Calls Try.prog 6 #[] w (Gives (.bool true) w) := by
  have hw := simple_any 0 1 [120] (by decide) (by decide)
  rw [awake_s] at hw
  have hr := writeC_any true 0 0 [] (by decide)
  rw [awake_c] at hr
  unfold repV at hw
  unfold chunkV at hr
  dsimp only at hw hr
  have H1 := Lib.hid hw
  have H2 := Lib.hid hr
  clear hw hr
  go_enter Try.func6, Try.ntmps6
  go_wp2_with fail
  refine (H1.out _).mono ?_
  rintro e w1 ⟨rfl, hb1⟩
  go_wp2_with fail
  refine (H2.out _).mono ?_
  rintro e w2 ⟨rfl, hb2⟩
  have b2 := below_next hb1 hb2
  go_wp2
  go_ret
  exact ⟨rfl, b2⟩

end Go.Proofs.Ytcmocangmfengaa
