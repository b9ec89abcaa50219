/- The document's headed. -/
import Derived.Test.YtcmocangmfengaaRepBase
namespace Go.Proofs.Ytcmocangmfengaa
open Go.RowKit

theorem byte_eq (s h : List UInt8) (k m : Nat) (hk : k < m) (e : s.take m = h.take m) : s[k]?.getD 0 = h[k]?.getD 0 := by
  have := congrArg (fun l => l[k]?.getD 0) e
  simpa [List.getElem?_take, hk] using this
theorem take_succ_eq (s h : List UInt8) (k : Nat) (hs : k < s.length) (hh : k < h.length) (e : s.take k = h.take k) (e2 : s[k]?.getD 0 = h[k]?.getD 0) : s.take (k + 1) = h.take (k + 1) := by
  rw [List.getElem?_eq_getElem hs, List.getElem?_eq_getElem hh] at e2
  simp only [Option.getD_some] at e2
  rw [List.take_add_one, List.take_add_one, e, List.getElem?_eq_getElem hs, List.getElem?_eq_getElem hh, e2]

set_option maxRecDepth 100000 in
set_option maxHeartbeats 1000000 in
theorem headed_yes (s h : List UInt8) (hs : s.length ≤ 1000000) (hh : h.length = 4) (heq : s.take (min s.length 4) = h.take (min s.length 4)) (w : World) :
    Calls Try.prog 32 #[.string ⟨s.toArray⟩, .string ⟨h.toArray⟩] w (Gives (.bool true) w) := by
  have HN := Lib.hid heq
  clear heq
  have mixed : Try.prog.follows .mixedOrders = true := by kernel_rfl
  go_enter Try.func32, Try.ntmps32
  go_wp2
  go_loopw [5] (fun i wr => ∃ k : Nat, k ≤ min s.length 4 ∧ i = .int .i64 k ∧ Below w.heap.size w wr) (fun i _ => 4 - (intOf i).toNat)
  case atStart => exact ⟨0, Nat.zero_le _, rfl, Below.refl _ _⟩
  case round =>
    obtain ⟨k, hk, rfl, hbw⟩ := hrel
    by_cases hlt : k < min s.length 4
    · have K1 : Hid (k < s.length) := Lib.hid (by omega)
      have K2 : Hid (k < h.length) := Lib.hid (by omega)
      have k3 : (0 : Int) ≤ (k : Int) := by omega
      have k4 : (k : Int) < (s.length : Int) := by omega
      have k5 : (k : Int) < 4 := by omega
      have e2 := byte_eq s h k _ hlt HN.out
      clear hlt hk
      have e3 : ((s[k]?.getD 0).toNat : Int) = ((h[k]?.getD 0).toNat : Int) := by rw [e2]
      clear e2
      go_wp2
      go_quiet (fail)
      go_wp2
      go_roundw
      case rel => exact ⟨k + 1, by have := K1.out; have := K2.out; omega, by go_num, below_drewN hbw _⟩
      case measure => simp [intOf]; omega
    · by_cases hsl : s.length ≤ 4
      · have k4 : ¬ (k : Int) < (s.length : Int) := by omega
        clear hlt hk
        go_wp2
        go_ret
        exact ⟨rfl, hbw⟩
      · have k4 : (k : Int) < (s.length : Int) := by omega
        have k5 : ¬ (k : Int) < 4 := by omega
        clear hlt hk
        go_wp2
        go_ret
        exact ⟨rfl, hbw⟩

set_option maxRecDepth 100000 in
set_option maxHeartbeats 1000000 in
theorem headed_no (s h : List UInt8) (hs : s.length ≤ 1000000) (hh : h.length = 4) (hne : s.take (min s.length 4) ≠ h.take (min s.length 4)) (w : World) :
    Calls Try.prog 32 #[.string ⟨s.toArray⟩, .string ⟨h.toArray⟩] w (Gives (.bool false) w) := by
  have HN := Lib.hid hne
  clear hne
  have mixed : Try.prog.follows .mixedOrders = true := by kernel_rfl
  go_enter Try.func32, Try.ntmps32
  go_wp2
  go_loopw [5] (fun i wr => ∃ k : Nat, k ≤ min s.length 4 ∧ i = .int .i64 k ∧ s.take k = h.take k ∧ Below w.heap.size w wr) (fun i _ => 4 - (intOf i).toNat)
  case atStart => exact ⟨0, Nat.zero_le _, rfl, by simp, Below.refl _ _⟩
  case round =>
    obtain ⟨k, hk, rfl, he, hbw⟩ := hrel
    have HE := Lib.hid he
    clear he
    by_cases hlt : k < min s.length 4
    · have K1 : Hid (k < s.length) := Lib.hid (by omega)
      have K2 : Hid (k < h.length) := Lib.hid (by omega)
      have k3 : (0 : Int) ≤ (k : Int) := by omega
      have k4 : (k : Int) < (s.length : Int) := by omega
      have k5 : (k : Int) < 4 := by omega
      clear hlt hk
      by_cases e2 : s[k]?.getD 0 = h[k]?.getD 0
      · have E2 := Lib.hid e2
        have e3 : ((s[k]?.getD 0).toNat : Int) = ((h[k]?.getD 0).toNat : Int) := by rw [e2]
        clear e2
        go_wp2
        go_quiet (fail)
        go_wp2
        go_roundw
        case rel => exact ⟨k + 1, by have := K1.out; have := K2.out; omega, by go_num, take_succ_eq s h k K1.out K2.out HE.out E2.out, below_drewN hbw _⟩
        case measure => simp [intOf]; omega
      · have e3 : ¬ ((s[k]?.getD 0).toNat : Int) = ((h[k]?.getD 0).toNat : Int) := by
          intro e
          apply e2
          exact UInt8.toNat_inj.1 (by omega)
        clear e2
        go_wp2
        go_quiet (fail)
        go_wp2
        go_ret
        exact ⟨rfl, below_drewN hbw _⟩
    · exact absurd (by rw [show k = min s.length 4 by omega] at HE; exact HE.out) HN.out

end Go.Proofs.Ytcmocangmfengaa
