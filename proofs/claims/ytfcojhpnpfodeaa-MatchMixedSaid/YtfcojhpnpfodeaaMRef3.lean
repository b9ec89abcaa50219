/- The document's own Put and Take (cofferdamref03). -/
import Derived.Test.YtfcojhpnpfodeaaNum
import Derived.Test.YtfcojhpnpfodeaaPut
import Derived.Test.YtfcojhpnpfodeaaProg
namespace Go.Proofs.Ytfcojhpnpfodeaa
open Go.RowKit

theorem de_step_plain (l : List UInt8) (k : Nat) (hk : k < l.length) (h8 : k < 8) :
    IntKind.u64.wrap (IntKind.u64.wrap (((de (l.take k) : Nat) : Int) * 256) + IntKind.u64.wrap (((l[k]?.getD 0).toNat : Nat) : Int)) = ((de (l.take (k + 1)) : Nat) : Int) := by
  have hd := de_lt (l.take k)
  have h7 : 256 ^ (l.take k).length ≤ 256 ^ 7 := Nat.pow_le_pow_right (by omega) (by simp; omega)
  have h7' : (256 : Nat) ^ 7 = 72057594037927936 := by rfl
  have hc : (l[k]?.getD 0).toNat < 256 := UInt8.toNat_lt _
  have hs : l.take (k + 1) = l.take k ++ [l[k]?.getD 0] := by rw [List.take_succ_eq_append_getElem hk, List.getElem?_eq_getElem hk]; rfl
  rw [hs, de_snoc]
  generalize de (l.take k) = d at *
  generalize (l[k]?.getD 0).toNat = c at *
  simp only [IntKind.wrap_u64]
  omega

theorem shr_byte (n k : Nat) : (n : Int) / 2 ^ (8 * k) % 256 = ((UInt8.ofNat (n / 256 ^ k)).toNat : Int) := by
  have e : (2 : Int) ^ (8 * k) = 256 ^ k := by
    have h : (2 : Nat) ^ (8 * k) = 256 ^ k := by rw [Nat.pow_mul]
    have h2 : (((2 : Nat) ^ (8 * k) : Nat) : Int) = ((256 ^ k : Nat) : Int) := by rw [h]
    rw [Int.natCast_pow, Int.natCast_pow] at h2
    exact h2
  rw [e, byte8]

set_option maxRecDepth 100000 in
set_option maxHeartbeats 1000000 in
theorem rput_any (n size : Nat) (_ : n < 18446744073709551616) (h1 : 1 ≤ size) (h8 : size ≤ 8) (w : World) :
    Calls Try.prog 26 #[.int .u64 n, .int .i64 size] w (Gives (.string ⟨(be size n).toArray⟩) w) := by
  have hmk := fun W => run_make_row' (P := Try.prog) 76 5 (.int .u8 0) 1 Try.underlying76 Try.infoByte rfl .i64 .i64 size (by omega) (by omega) W
  go_enter Try.func26, Try.ntmps26
  go_wp2
  go_loopw [6] (fun i wr => ∃ k : Nat, k ≤ size ∧ i = .int .i64 k ∧ Blk wr w.heap.size 5 (putRow size n k) ∧ Below w.heap.size w wr) (fun i _ => size - (intOf i).toNat)
  case atStart => exact ⟨0, Nat.zero_le _, rfl, (Blk.new w _ _).as_ (by simp [madeCells, putRow, be, Array.ext_iff, Nat.mod_one]), (Below.refl _ _).alloc (Nat.le_refl _) _⟩
  case round =>
    obtain ⟨k, hk, rfl, r1, r2⟩ := hrel
    by_cases hlt : k < size
    · obtain ⟨v2, hv2⟩ := putRow_at size n k (size - 1 - k) (by omega)
      have e2 := (r1.cell (size - 1 - k)).trans hv2
      have e2f := r1.frozen (size - 1 - k)
      clear hv2
      go_wp2
      go_roundw
      case rel => exact ⟨k + 1, by omega, by go_num, (r1.set_ _ _).as_ (by rw [← putRow_set size n k hlt, shr_byte]), r2.setCell (by simp) _⟩
      case measure => simp [intOf]; omega
    · obtain rfl : k = size := by omega
      have hcv := run_convert_bytes_back (P := Try.prog) wr 76 9 5 ⟨w.heap.size, 0, none⟩ k (be k n) Try.underlying76 Try.underlying5 Try.underlying9 (fun j hj => by
        rw [Addr.add, show (if j = 0 then (⟨w.heap.size, 0, none⟩ : Addr) else { (⟨w.heap.size, 0, none⟩ : Addr) with off := 0 + j, spot := none }) = ⟨w.heap.size, j, none⟩ from by split <;> simp_all]
        rw [r1.cell]
        simp [putRow, hj])
      rw [be_length] at hcv
      go_wp2
      go_ret
      exact ⟨rfl, r2⟩

end Go.Proofs.Ytfcojhpnpfodeaa
