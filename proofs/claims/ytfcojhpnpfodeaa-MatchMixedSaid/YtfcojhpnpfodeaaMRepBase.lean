/- rep.at, rep.begins, and the document's headed. -/
import Derived.Test.YtfcojhpnpfodeaaRepSpec
import Derived.Test.YtfcojhpnpfodeaaTake
import Derived.Test.YtfcojhpnpfodeaaMRef3
namespace Go.Proofs.Ytfcojhpnpfodeaa
open Go.RowKit

set_option maxHeartbeats 400000 in
theorem at_any (l : List UInt8) (a s : Nat) (h1 : 1 ≤ s) (h8 : s ≤ 8) (hl : a + s ≤ l.length) (hm : l.length ≤ 1000000) (w : World) :
    Calls Try.prog 51 #[.string ⟨l.toArray⟩, .int .i64 a, .int .i64 s] w (Gives (.int .u64 (rnum l a s : Nat)) w) := by
  have H := Lib.hid (fun W => take_any (l.drop a) s h1 h8 (by rw [List.length_drop]; omega) (by rw [List.length_drop]; omega) W)
  have k1 : (0 : Int) ≤ (a : Int) := by omega
  have k2 : (a : Int) ≤ (l.length : Int) := by omega
  go_enter Try.func51, Try.ntmps51
  go_wp2_with fail
  refine (H.out _).mono ?_
  rintro e w1 ⟨rfl, hb1⟩
  go_wp2
  go_ret
  exact ⟨rfl, hb1⟩

theorem begins_no (s h : List UInt8) (n : Nat) (e : s.take (min s.length 4) ≠ h.take (min s.length 4)) : beginsE s h n = 14 := by unfold beginsE; rw [if_neg e]
theorem begins_less (s h : List UInt8) (n : Nat) (e : s.take (min s.length 4) = h.take (min s.length 4)) (hl : s.length < n) : beginsE s h n = 22 := by unfold beginsE; rw [if_pos e, if_pos hl]
theorem begins_is (s h : List UInt8) (n : Nat) (e : s.take (min s.length 4) = h.take (min s.length 4)) (hl : ¬ s.length < n) : beginsE s h n = 0 := by unfold beginsE; rw [if_pos e, if_neg hl]

set_option maxRecDepth 100000 in
set_option maxHeartbeats 1000000 in
theorem begins_any (s h : List UInt8) (n : Nat) (hh : h.length = 4) (hn : 4 < n) (hn2 : n ≤ 100) (hs : s.length ≤ 1000000) (w : World) :
    Calls Try.prog 50 #[.string ⟨s.toArray⟩, .string ⟨h.toArray⟩, .int .i64 n] w (Gives (.int .i64 (beginsE s h n)) w) := by
  have mixed : Try.prog.follows .mixedOrders = true := by kernel_rfl
  have h4 : List.take 4 h = h := List.take_of_length_le (by omega)
  by_cases hl : s.length ≤ 4
  · have htl : List.take s.length s = s := List.take_length
    by_cases e : s = h.take s.length
    · have er : beginsE s h n = 22 := begins_less s h n (by rw [show min s.length 4 = s.length by omega, htl]; exact e) (by omega)
      rw [er]
      have e2 : (!s == List.take s.length h) = false := by simpa using e
      clear er e
      go_enter Try.func50, Try.ntmps50
      go_wp2
      go_quiet (fail)
      go_wp2
      go_ret
      exact ⟨rfl, below_drewN (Below.refl _ _) _⟩
    · have er : beginsE s h n = 14 := begins_no s h n (by rw [show min s.length 4 = s.length by omega, htl]; exact e)
      rw [er]
      have e2 : (!s == List.take s.length h) = true := by simpa using e
      clear er e
      go_enter Try.func50, Try.ntmps50
      go_wp2
      go_quiet (fail)
      go_wp2
      go_ret
      exact ⟨rfl, below_drewN (Below.refl _ _) _⟩
  · by_cases e : s.take 4 = h
    · have e2 : (!List.take 4 s == h) = false := by simpa using e
      have e3 : s.take (min s.length 4) = h.take (min s.length 4) := by rw [show min s.length 4 = 4 by omega, h4]; exact e
      by_cases hl2 : s.length < n
      · rw [begins_less s h n e3 hl2]
        clear e3 e
        go_enter Try.func50, Try.ntmps50
        go_wp2
        go_quiet (fail)
        go_wp2
        go_ret
        exact ⟨rfl, below_drewN (Below.refl _ _) _⟩
      · rw [begins_is s h n e3 hl2]
        have hl3 : ¬ (s.length : Int) < (n : Int) := by omega
        clear e3 e hl2
        go_enter Try.func50, Try.ntmps50
        go_wp2
        go_quiet (fail)
        go_wp2
        go_ret
        exact ⟨rfl, below_drewN (Below.refl _ _) _⟩
    · rw [begins_no s h n (by rw [show min s.length 4 = 4 by omega, h4]; exact e)]
      have e2 : (!List.take 4 s == h) = true := by simpa using e
      clear e
      go_enter Try.func50, Try.ntmps50
      go_wp2
      go_quiet (fail)
      go_wp2
      go_ret
      exact ⟨rfl, below_drewN (Below.refl _ _) _⟩

end Go.Proofs.Ytfcojhpnpfodeaa
