/- Chapter 20's examples. -/
import Derived.Test.YtckkjkdpcnedkaaReadOpt2
import Derived.Test.YtckkjkdpcnedkaaOptWrite
namespace Go.Proofs.Ytckkjkdpcnedkaa
open Go.RowKit

theorem awake_w : framed optHead [7] [] = ([73, 72, 65, 86, 69, 79, 80, 84, 0, 0, 0, 7, 0, 0, 0, 0], 0) := by decide +kernel
theorem awake_r1 : readOpt [73, 72, 65, 88] = ((0, []), [], 14) := by decide +kernel
theorem awake_r2 : readOpt [73, 72, 65, 86] = ((0, []), [], 22) := by decide +kernel

set_option maxRecDepth 100000 in
set_option maxHeartbeats 400000 in
theorem awake_any (w : World) : Calls Try.prog 8 #[] w (Gives (.bool true) w) := by
  have hw := opt_write_any 7 [] (by decide)
  rw [awake_w] at hw
  have hr := opt_read_any [73, 72, 65, 88] (by decide)
  rw [awake_r1] at hr
  have hr2 := opt_read_any [73, 72, 65, 86] (by decide)
  rw [awake_r2] at hr2
  unfold optV at hr hr2
  have H1 := Lib.hid hw
  have H2 := Lib.hid hr
  have H3 := Lib.hid hr2
  have H4 := Lib.hid greeting_any
  unfold greeting optHead at H4
  clear hw hr hr2
  go_enter Try.func8, Try.ntmps8
  go_wp2_with fail
  refine (H1.out _).mono ?_
  rintro e w1 ⟨rfl, hb1⟩
  go_wp2_with fail
  refine (H2.out _).mono ?_
  rintro e w2 ⟨rfl, hb2⟩
  go_wp2_with fail
  refine (H3.out _).mono ?_
  rintro e w3 ⟨rfl, hb3⟩
  go_wp2_with fail
  refine (H4.out _).mono ?_
  rintro e w4 ⟨rfl, hb4⟩
  have b2 : Below w.heap.size w w2 := hb1.trans (hb2.mono hb1.size)
  have s2 := b2.size
  have b3 : Below w.heap.size w w3 := by
    refine below_next ?_ hb3
    (repeat' (first | (with_reducible assumption) | (with_reducible exact Below.refl _ _) | (with_reducible refine below_drewN ?_ _) | (with_reducible refine Below.drew ?_) | (with_reducible refine Below.setCell ?_ ?_ _) | (with_reducible refine Below.alloc ?_ ?_ _) | (with_reducible refine below_putObj ?_ ?_ _) | (with_reducible exact Nat.le_refl _) | omega | (simp; done) | (simp; omega)))
  have s3 := b3.size
  have b4 : Below w.heap.size w w4 := by
    refine below_next ?_ hb4
    (repeat' (first | (with_reducible assumption) | (with_reducible exact Below.refl _ _) | (with_reducible refine below_drewN ?_ _) | (with_reducible refine Below.drew ?_) | (with_reducible refine Below.setCell ?_ ?_ _) | (with_reducible refine Below.alloc ?_ ?_ _) | (with_reducible refine below_putObj ?_ ?_ _) | (with_reducible exact Nat.le_refl _) | omega | (simp; done) | (simp; omega)))
  clear hb1 hb2 hb3 hb4 H1 H2 H3 H4
  go_wp2
  go_ret
  exact ⟨rfl, b4⟩

end Go.Proofs.Ytckkjkdpcnedkaa
