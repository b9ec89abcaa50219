/- rep.Data, Hole, Fail, Simple, Write, and the document's. -/
import Derived.Test.YtfcojhpnpfodeaaRepBytes
import Derived.Test.YtfcojhpnpfodeaaMRef3
namespace Go.Proofs.Ytfcojhpnpfodeaa
open Go.RowKit

def dataB (f : Nat) (s : List UInt8) : List UInt8 := be 8 f ++ s
def holeB (f n : Nat) : List UInt8 := be 8 f ++ be 4 n
def failB (n : Nat) : List UInt8 := be 4 n ++ [0, 0]

set_option maxRecDepth 100000 in
set_option maxHeartbeats 400000 in
theorem fail_any (n : Nat) (hn : n < 4294967296) (w : World) :
    Calls Try.prog 69 #[.int .u32 n] w (Gives (.string ⟨(failB n).toArray⟩) w) := by
  have HB := Lib.hid (fun g W => bytes_any [.u32 n, .u16 0] (by simp) (by simp [Item.ok, hn]) (by simp [bytesOf, Item.bytes, be_length]) g W)
  have hr : bytesOf [.u32 n, .u16 0] = failB n := by simp [bytesOf, Item.bytes, failB, be]
  rw [hr] at HB
  clear hr
  go_enter Try.func69, Try.ntmps69
  go_wp2_with fail
  refine (HB.out _ _ (Blk.new _ _ _)).mono ?_
  rintro e w1 ⟨rfl, hb1⟩
  have b1 := below_next ((Below.refl _ w).alloc (Nat.le_refl _) _) hb1
  go_wp2
  go_ret
  exact ⟨rfl, b1⟩

set_option maxRecDepth 100000 in
set_option maxHeartbeats 400000 in
theorem rdata_any (f : Nat) (s : List UInt8) (hf : f < 18446744073709551616) (hs : s.length ≤ 100000) (w : World) :
    Calls Try.prog 14 #[.int .u64 f, .string ⟨s.toArray⟩] w (Gives (.string ⟨(dataB f s).toArray⟩) w) := by
  have H := Lib.hid (fun W => rput_any f 8 hf (by decide) (by decide) W)
  have hl : (be 8 f).length = 8 := be_length _ _
  unfold dataB
  go_enter Try.func14, Try.ntmps14
  go_wp2_with fail
  refine (H.out _).mono ?_
  rintro e w1 ⟨rfl, hb1⟩
  go_wp2
  go_ret
  exact ⟨rfl, hb1⟩

set_option maxRecDepth 100000 in
set_option maxHeartbeats 400000 in
theorem rhole_any (f n : Nat) (hf : f < 18446744073709551616) (hn : n < 4294967296) (w : World) :
    Calls Try.prog 18 #[.int .u64 f, .int .u32 n] w (Gives (.string ⟨(holeB f n).toArray⟩) w) := by
  have H := Lib.hid (fun W => rput_any f 8 hf (by decide) (by decide) W)
  have H2 := Lib.hid (fun W => rput_any n 4 (by omega) (by decide) (by decide) W)
  have hl : (be 8 f).length = 8 := be_length _ _
  have hl2 : (be 4 n).length = 4 := be_length _ _
  unfold holeB
  go_enter Try.func18, Try.ntmps18
  go_wp2_with fail
  refine (H.out _).mono ?_
  rintro e w1 ⟨rfl, hb1⟩
  go_wp2_with fail
  refine (H2.out _).mono ?_
  rintro e w2 ⟨rfl, hb2⟩
  have b2 := below_next hb1 hb2
  go_wp2
  go_ret
  exact ⟨rfl, b2⟩

end Go.Proofs.Ytfcojhpnpfodeaa
