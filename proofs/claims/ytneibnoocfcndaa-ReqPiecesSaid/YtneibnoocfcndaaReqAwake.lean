/- The chapter's example. -/
import Derived.Test.YtneibnoocfcndaaReqWrite
namespace Go.Proofs.Ytneibnoocfcndaa
open Go.RowKit

theorem awake_w : writeReq ⟨0, 3, 1, 0, 0, []⟩ = ([37, 96, 149, 19, 0, 0, 0, 3, 0, 0, 0, 0, 0, 0, 0, 1, 0, 0, 0, 0, 0, 0, 0, 0, 0, 0, 0, 0], 0) := by decide +kernel
theorem awake_r : readReq [37, 96, 149, 20] = (.zero, [], 14) := by
  rw [readReq_little _ (by decide), littleErr_no _ (by decide)]

set_option maxRecDepth 100000 in
set_option maxHeartbeats 400000 in
theorem awake_any (w : World) : Calls Try.prog 7 #[] w (Gives (.bool true) w) := by
  have hw := write_any ⟨0, 3, 1, 0, 0, []⟩ ⟨by decide, by decide, by decide⟩
  rw [awake_w] at hw
  have hr := read_any [37, 96, 149, 20] (by decide)
  rw [awake_r] at hr
  have H1 := Lib.hid hw
  have H2 := Lib.hid hr
  clear hw hr
  go_enter Try.func7, Try.ntmps7
  go_wp2_with fail
  refine (H1.out _).mono ?_
  rintro e w1 ⟨rfl, hb1⟩
  go_wp2_with fail
  refine (H2.out _).mono ?_
  rintro e w2 ⟨rfl, hb2⟩
  go_wp2
  go_ret
  refine ⟨rfl, ?_⟩
  have b2 := hb1.trans ((hb2.mono (by have := hb1.size; simp; omega)).trans (Below.refl _ _))
  have s2 := b2.size
  (repeat' (first | (with_reducible assumption) | (with_reducible exact Below.refl _ _) | (with_reducible refine below_drewN ?_ _) | (with_reducible refine Below.drew ?_) | (with_reducible refine Below.setCell ?_ ?_ _) | (with_reducible refine Below.alloc ?_ ?_ _) | (with_reducible refine below_putObj ?_ ?_ _) | (with_reducible exact Nat.le_refl _) | omega | (simp; done) | (simp; omega)))

end Go.Proofs.Ytneibnoocfcndaa
