/- pack.Take: a number at a text's beginning, and what stands behind. -/
import Derived.Test.YtfcojhpnpfodeaaNum
import Derived.Test.YtfcojhpnpfodeaaProg
import Derived.Deep.QuietTactic
import Derived.BigQuiet
namespace Go.Proofs.Ytfcojhpnpfodeaa
open Go.RowKit

set_option maxRecDepth 100000 in
set_option maxHeartbeats 1000000 in
theorem take_short (l : List UInt8) (size : Nat) (h1 : 1 ≤ size) (h8 : size ≤ 8) (hl : l.length < size) (w : World) :
    Calls Try.prog 65 #[.string ⟨l.toArray⟩, .int .i64 size] w fun e w' => e = .returned (.tuple #[.int .u64 0, .string ⟨#[]⟩, .int .i64 22]) ∧ w = w' := by
  go_enter Try.func65, Try.ntmps65
  go_wp2
  go_ret3
  exact ⟨rfl, rfl⟩

set_option maxRecDepth 100000 in
set_option maxHeartbeats 1000000 in
theorem take_any (l : List UInt8) (size : Nat) (h1 : 1 ≤ size) (h8 : size ≤ 8) (hl : size ≤ l.length) (hm : l.length ≤ 9223372036854775807) (w : World) :
    Calls Try.prog 65 #[.string ⟨l.toArray⟩, .int .i64 size] w (Gives (.tuple #[.int .u64 (de (l.take size) : Nat), .string ⟨(l.drop size).toArray⟩, .int .i64 0]) w) := by
  have hcv := fun (w : World) (s : ByteArray) => run_bytes_of_string (P := Try.prog) w 9 76 5 s Try.underlying9 Try.underlying76 Try.underlying5
  go_enter Try.func65, Try.ntmps65
  go_wp2
  obtain ⟨w1, hw1⟩ : ∃ w1, (w.alloc (Obj.cells (bytesRow { data := (l.take size).toArray } (grownCap w size 0 5)) 5 ((bytesRow { data := (l.take size).toArray } (grownCap w size 0 5)).size, (bytesRow { data := (l.take size).toArray } (grownCap w size 0 5)).size + 1))).drew = w1 := ⟨_, rfl⟩
  rw [hw1]
  have hcell : ∀ j, j < size → w1.cell? ⟨w.heap.size, j, none⟩ = some (.int .u8 ((l[j]?.getD 0).toNat : Int)) := by
    intro j hj
    rw [← hw1, World.cell?_drew, World.cell?_alloc_mark, bytesRow_at _ _ _ (by simp; omega)]
    simp [List.getElem_take, List.getElem?_eq_getElem (show j < l.length by omega)]
  have hB : Below w.heap.size w w1 := by rw [← hw1]; exact ((Below.refl _ w).alloc (Nat.le_refl _) _).drew
  clear hw1 hcv
  go_loop [7, 27] (fun n i => ∃ k : Nat, k ≤ size ∧ i = .int .i64 k ∧ n = .int .u64 (de (l.take k) : Nat)) (fun _ i => size - (intOf i).toNat)
  case atStart => exact ⟨0, Nat.zero_le _, rfl, rfl⟩
  case round =>
    obtain ⟨k, hk, rfl, rfl⟩ := hrel
    by_cases hlt : k < size
    · have hc := hcell k hlt
      have hd := de_lt (l.take k)
      clear hcell
      go_wp2
      go_round
      case rel => exact ⟨k + 1, by omega, by go_num, by rw [de_step l k (by omega) (by omega)]⟩
      case measure => simp [intOf]; omega
    · obtain rfl : k = size := by omega
      clear hcell
      go_wp2
      go_quiet (fail)
      go_wp2
      go_ret3
      exact ⟨rfl, below_drewN hB _⟩

theorem take_int (l : List UInt8) (s : Int) (h1 : 1 ≤ s) (h8 : s ≤ 8) (hl : s.toNat ≤ l.length) (hm : l.length ≤ 9223372036854775807) (w : World) :
    Calls Try.prog 65 #[.string ⟨l.toArray⟩, .int .i64 s] w (Gives (.tuple #[.int .u64 (de (l.take s.toNat) : Nat), .string ⟨(l.drop s.toNat).toArray⟩, .int .i64 0]) w) := by
  obtain ⟨k, rfl⟩ := Int.eq_ofNat_of_zero_le (show 0 ≤ s by omega)
  exact take_any l k (by omega) (by omega) hl hm w

theorem take_short_int (l : List UInt8) (s : Int) (h1 : 1 ≤ s) (h8 : s ≤ 8) (hl : l.length < s.toNat) (w : World) :
    Calls Try.prog 65 #[.string ⟨l.toArray⟩, .int .i64 s] w (Gives (.tuple #[.int .u64 0, .string ⟨#[]⟩, .int .i64 22]) w) := by
  obtain ⟨k, rfl⟩ := Int.eq_ofNat_of_zero_le (show 0 ≤ s by omega)
  refine (take_short l k (by omega) (by omega) hl w).mono ?_
  rintro e w' ⟨rfl, rfl⟩
  exact ⟨rfl, Below.refl _ _⟩

end Go.Proofs.Ytfcojhpnpfodeaa
