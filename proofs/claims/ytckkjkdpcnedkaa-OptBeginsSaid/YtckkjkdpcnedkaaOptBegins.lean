/- OptBegins, the walk. -/
import Derived.Test.YtckkjkdpcnedkaaOptAwake
import Derived.Test.YtckkjkdpcnedkaaReadBeg
import Derived.Test.YtckkjkdpcnedkaaOptRef
import Derived.Test.YtckkjkdpcnedkaaOptLaw
namespace Go.Proofs.Ytckkjkdpcnedkaa
open Go.RowKit

theorem beg_back (s l : List UInt8) (hs : s.length ≤ 20000) : readBeg (beginB s ++ l) = (s, l, 0) := by
  have hl : (beginB s ++ l).length = 4 + s.length + l.length := by simp [beginB, be_length]; omega
  have h := dataO_pre 4294967296 s l (beginB s ++ l).length (by omega) (by omega)
  rw [List.take_length, if_neg (by omega), List.take_of_length_le (by omega)] at h
  unfold readBeg readBegO
  rw [h]

set_option maxRecDepth 100000 in
set_option maxHeartbeats 400000 in
theorem optBegins_long (s more : List UInt8) (hg : 20000 < s.length ∨ (s.length ≤ 20000 ∧ 20000 < more.length)) (w : World) :
    Calls Try.prog 3 #[.string ⟨s.toArray⟩, .string ⟨more.toArray⟩] w (Gives (.bool true) w) := by
  have HA := Lib.hid awake_any
  rcases hg with h1 | ⟨h1, h2⟩
  all_goals
    go_enter Try.func3, Try.ntmps3
    go_wp2_with fail
    refine (HA.out _).mono ?_
    rintro e w1 ⟨rfl, hb1⟩
    go_wp2
    go_ret
    exact ⟨rfl, hb1⟩

set_option maxRecDepth 100000 in
set_option maxHeartbeats 400000 in
theorem optBegins_any (s more : List UInt8) (w : World) :
    Calls Try.prog 3 #[.string ⟨s.toArray⟩, .string ⟨more.toArray⟩] w (Gives (.bool true) w) := by
  by_cases hg : s.length ≤ 20000 ∧ more.length ≤ 20000
  case neg => exact optBegins_long s more (by omega) w
  obtain ⟨h1, h2⟩ := hg
  have HA := Lib.hid awake_any
  have h3 := to_begin_any s (by omega)
  have h4 := rto_begin s h1
  have h5 := begin_any s (by omega)
  have h6 := to_begin_any (beginB s ++ more) (by simp [beginB, be_length]; omega)
  rw [beg_back s more h1] at h6
  have h7 := rbegin s h1
  have hl : (beginB s).length = 4 + s.length := by simp [beginB, be_length]
  generalize readBeg s = z at h3 h4
  generalize beginB s = B at h5 h6 h7 hl
  obtain ⟨x, r, n⟩ := z
  dsimp only at h3 h4 h6
  have H3 := Lib.hid h3
  have H4 := Lib.hid h4
  have H5 := Lib.hid h5
  have H6 := Lib.hid h6
  have H7 := Lib.hid h7
  clear h3 h4 h5 h6 h7
  go_enter Try.func3, Try.ntmps3
  go_wp2_with fail
  refine (H3.out _).mono ?_
  rintro e w1 ⟨rfl, hb1⟩
  go_wp2_with fail
  refine (H4.out _).mono ?_
  rintro e w2 ⟨rfl, hb2⟩
  have b2 := below_next hb1 hb2
  clear hb1 hb2
  go_wp2_with fail
  refine (H5.out _).mono ?_
  rintro e w3 ⟨rfl, hb3⟩
  have b3 := below_next b2 hb3
  clear b2 hb3
  go_wp2_with fail
  refine (H6.out _).mono ?_
  rintro e w4 ⟨rfl, hb4⟩
  have b4 := below_next b3 hb4
  clear b3 hb4
  go_wp2_with fail
  refine (H5.out _).mono ?_
  rintro e w5 ⟨rfl, hb5⟩
  have b5 := below_next b4 hb5
  clear b4 hb5
  go_wp2_with fail
  refine (H7.out _).mono ?_
  rintro e w6 ⟨rfl, hb6⟩
  have b6 := below_next b5 hb6
  clear b5 hb6
  go_wp2_with fail
  refine (HA.out _).mono ?_
  rintro e w7 ⟨rfl, hb7⟩
  have b7 := below_next b6 hb7
  clear b6 hb7
  go_wp2
  go_ret
  exact ⟨rfl, b7⟩

end Go.Proofs.Ytckkjkdpcnedkaa
