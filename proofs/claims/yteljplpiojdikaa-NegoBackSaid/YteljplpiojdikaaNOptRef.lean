/- The document's own: four, Begin, ToBegin, Greeting, Write, Answer. -/
import Derived.Test.YteljplpiojdikaaOptSpec
import Derived.Test.YteljplpiojdikaaRef3
namespace Go.Proofs.Yteljplpiojdikaa
open Go.RowKit

set_option maxRecDepth 100000 in
set_option maxHeartbeats 400000 in
theorem rfour (n : Nat) (hn : n < 4294967296) (w : World) :
    Calls Try.prog 45 #[.int .u32 n] w (Gives (.string ⟨(be 4 n).toArray⟩) w) := by
  have H := Lib.hid (fun W => rput_any n 4 (by omega) (by decide) (by decide) W)
  go_enter Try.func45, Try.ntmps45
  go_wp2_with fail
  refine (H.out _).mono ?_
  rintro e w1 ⟨rfl, hb1⟩
  go_wp2
  go_ret
  exact ⟨rfl, hb1⟩

set_option maxRecDepth 100000 in
set_option maxHeartbeats 400000 in
theorem rbegin (s : List UInt8) (hs : s.length ≤ 20000) (w : World) :
    Calls Try.prog 32 #[.string ⟨s.toArray⟩] w (Gives (.string ⟨(beginB s).toArray⟩) w) := by
  have H := Lib.hid (fun W => rfour s.length (by omega) W)
  have hm : ((s.length : Nat) : Int).tmod 4294967296 = (s.length : Nat) := Int.tmod_eq_of_lt (by omega) (by omega)
  unfold beginB
  have hbl : (be 4 s.length).length = 4 := be_length _ _
  go_enter Try.func32, Try.ntmps32
  go_wp2_with fail
  refine (H.out _).mono ?_
  rintro e w1 ⟨rfl, hb1⟩
  go_wp2
  go_ret
  exact ⟨rfl, hb1⟩

theorem readBeg_short (s : List UInt8) (h : s.length < 4) : readBeg s = ([], [], 22) := by
  unfold readBeg readBegO dataO fourO
  rw [if_pos h]
theorem readBeg_less (s : List UInt8) (h : ¬ s.length < 4) (h2 : (s.drop 4).length < de (s.take 4)) : readBeg s = ([], [], 22) := by
  have hlt := de_lt (s.take 4)
  rw [show (s.take 4).length = 4 by rw [List.length_take]; omega] at hlt
  unfold readBeg readBegO dataO fourO takeO
  rw [if_neg h]
  dsimp only
  rw [if_neg (by omega), if_pos h2]
theorem readBeg_whole (s : List UInt8) (h : ¬ s.length < 4) (h2 : ¬ (s.drop 4).length < de (s.take 4)) : readBeg s = ((s.drop 4).take (de (s.take 4)), (s.drop 4).drop (de (s.take 4)), 0) := by
  have hlt := de_lt (s.take 4)
  rw [show (s.take 4).length = 4 by rw [List.length_take]; omega] at hlt
  unfold readBeg readBegO dataO fourO takeO
  rw [if_neg h]
  dsimp only
  rw [if_neg (by omega), if_neg h2]

set_option maxRecDepth 100000 in
set_option maxHeartbeats 400000 in
theorem rto_begin (s : List UInt8) (hs : s.length ≤ 20000) (w : World) :
    Calls Try.prog 27 #[.string ⟨s.toArray⟩] w (Gives (.tuple #[.string ⟨(readBeg s).1.toArray⟩, .string ⟨(readBeg s).2.1.toArray⟩, .int .i64 (readBeg s).2.2]) w) := by
  by_cases h4 : s.length < 4
  · rw [readBeg_short s h4]
    have H := Lib.hid (fun W => rtake_short s 4 (by decide) (by decide) (by omega) W)
    go_enter Try.func27, Try.ntmps27
    go_wp2_with fail
    refine (H.out _).mono ?_
    rintro e w1 ⟨rfl, hb1⟩
    go_wp2
    go_ret3
    exact ⟨rfl, hb1⟩
  · have H := Lib.hid (fun W => rtake_any s 4 (by decide) (by decide) (by omega) (by omega) W)
    have hlt := de_lt (s.take 4)
    rw [show (s.take 4).length = 4 by rw [List.length_take]; omega] at hlt
    by_cases h2 : (s.drop 4).length < de (s.take 4)
    · rw [readBeg_less s h4 h2]
      have hl : (s.drop 4).length ≤ 20000 := by rw [List.length_drop]; omega
      generalize s.drop 4 = r at H h2 hl
      generalize de (s.take 4) = n at H h2 hlt
      clear h4
      go_enter Try.func27, Try.ntmps27
      go_wp2_with fail
      refine (H.out _).mono ?_
      rintro e w1 ⟨rfl, hb1⟩
      go_wp2
      go_ret3
      exact ⟨rfl, hb1⟩
    · rw [readBeg_whole s h4 h2]
      have hl : (s.drop 4).length ≤ 20000 := by rw [List.length_drop]; omega
      generalize s.drop 4 = r at H h2 hl ⊢
      generalize de (s.take 4) = n at H h2 hlt ⊢
      have h3 : n ≤ r.length := by omega
      clear h4 h2
      go_enter Try.func27, Try.ntmps27
      go_wp2_with fail
      refine (H.out _).mono ?_
      rintro e w1 ⟨rfl, hb1⟩
      go_wp2
      go_quiet (fail)
      go_wp2
      go_ret3
      exact ⟨rfl, below_drewN hb1 _⟩

end Go.Proofs.Yteljplpiojdikaa
