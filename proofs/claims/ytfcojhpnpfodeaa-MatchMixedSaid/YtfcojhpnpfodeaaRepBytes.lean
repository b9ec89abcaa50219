/- rep.bytes: numbers and texts as bytes. -/
import Derived.Test.YtfcojhpnpfodeaaRepSpec
import Derived.Test.YtfcojhpnpfodeaaPut
import Derived.Test.YtfcojhpnpfodeaaBuilder
namespace Go.Proofs.Ytfcojhpnpfodeaa
open Go.RowKit

@[go_sem] theorem as_uint16_uint16 (v : Value) (w : World) : (Instr.typeAssert (.iface 138 v) 20 138 true).run Try.prog w = .ok (.tuple #[v, .bool true]) w := by kernel_rfl
@[go_sem] theorem as_uint32_uint16 (v : Value) (w : World) : (Instr.typeAssert (.iface 35 v) 20 138 true).run Try.prog w = .ok (.tuple #[.int .u16 0, .bool false]) w := by kernel_rfl
@[go_sem] theorem as_uint32_uint32 (v : Value) (w : World) : (Instr.typeAssert (.iface 35 v) 20 35 true).run Try.prog w = .ok (.tuple #[v, .bool true]) w := by kernel_rfl
@[go_sem] theorem as_uint64_uint16 (v : Value) (w : World) : (Instr.typeAssert (.iface 34 v) 20 138 true).run Try.prog w = .ok (.tuple #[.int .u16 0, .bool false]) w := by kernel_rfl
@[go_sem] theorem as_uint64_uint32 (v : Value) (w : World) : (Instr.typeAssert (.iface 34 v) 20 35 true).run Try.prog w = .ok (.tuple #[.int .u32 0, .bool false]) w := by kernel_rfl
@[go_sem] theorem as_uint64_uint64 (v : Value) (w : World) : (Instr.typeAssert (.iface 34 v) 20 34 true).run Try.prog w = .ok (.tuple #[v, .bool true]) w := by kernel_rfl
@[go_sem] theorem as_string_uint16 (v : Value) (w : World) : (Instr.typeAssert (.iface 9 v) 20 138 true).run Try.prog w = .ok (.tuple #[.int .u16 0, .bool false]) w := by kernel_rfl
@[go_sem] theorem as_string_uint32 (v : Value) (w : World) : (Instr.typeAssert (.iface 9 v) 20 35 true).run Try.prog w = .ok (.tuple #[.int .u32 0, .bool false]) w := by kernel_rfl
@[go_sem] theorem as_string_uint64 (v : Value) (w : World) : (Instr.typeAssert (.iface 9 v) 20 34 true).run Try.prog w = .ok (.tuple #[.int .u64 0, .bool false]) w := by kernel_rfl
@[go_sem] theorem as_string_string (v : Value) (w : World) : (Instr.typeAssert (.iface 9 v) 20 9 true).run Try.prog w = .ok (.tuple #[v, .bool true]) w := by kernel_rfl

def Item.val : Item → Value
  | .u16 n => .iface 138 (.int .u16 (n : Nat))
  | .u32 n => .iface 35 (.int .u32 (n : Nat))
  | .u64 n => .iface 34 (.int .u64 (n : Nat))
  | .str l => .iface 9 (.string ⟨l.toArray⟩)

set_option maxRecDepth 100000 in
set_option maxHeartbeats 2000000 in
theorem bytes_any (l : List Item) (hl : l.length ≤ 10) (hok : ∀ x ∈ l, x.ok) (hsum : (bytesOf l).length ≤ 1000000) (g : Nat) (w : World) (h : Blk w g 20 (l.map Item.val).toArray) :
    Calls Try.prog 75 #[.slice (some ⟨g, 0, none⟩) l.length l.length] w (Gives (.string ⟨(bytesOf l).toArray⟩) w) := by
  have hgl := h.lt
  obtain ⟨n, hn⟩ : ∃ n, l.length = n := ⟨_, rfl⟩
  have HN := Lib.hid hn
  rw [hn] at hl ⊢
  clear hn
  have HK := Lib.hid hok
  have HH := Lib.hid h
  clear hok h
  go_enter Try.func75, Try.ntmps75
  go_wp2
  go_loopw [12] (fun i wr => ∃ (k : Nat) (p v : Value), k ≤ n ∧ i = .int .i64 k ∧ Blk wr w.heap.size 99 #[p, v] ∧ Bld wr w.heap.size w.heap.size 0 p v (bytesOf (l.take k)) ∧ Below w.heap.size w wr) (fun i _ => n - (intOf i).toNat)
  case atStart => exact ⟨0, _, _, Nat.zero_le _, rfl, Blk.new _ _ _, by rw [List.take_zero]; exact Bld.fresh _ _ _ _, (Below.refl _ _).alloc (Nat.le_refl _) _⟩
  case round =>
    obtain ⟨k, p, v, hk, rfl, hb, hA, hB⟩ := hrel
    have hs := bytesOf_le l k
    by_cases hlt : k < n
    · have k0 : (0 : Int) ≤ (k : Int) := by omega
      have k1 : (k : Int) < (n : Int) := by omega
      obtain ⟨x, hx⟩ : ∃ x, l[k]? = some x := ⟨l[k]'(by rw [HN.out]; exact hlt), List.getElem?_eq_getElem _⟩
      have hxo := HK.out x (List.mem_of_getElem? hx)
      have c0 : wr.cell? ⟨g, k, none⟩ = some x.val := by
        rw [(HH.out.below hB hgl).cell k]
        simp [hx]
      have hstep := bytesOf_take l k x hx
      have hs2 := bytesOf_le l (k + 1)
      rw [hstep, List.length_append] at hs2
      have HS := Lib.hid hstep
      clear hlt hx hstep
      cases x with
      | u16 m =>
        unfold Item.val at c0
        unfold Item.ok at hxo
        unfold Item.bytes at hs2 HS
        have hm : (m : Int) < 65536 := by omega
        go_wp2_with fail
        refine (put_any m 2 (by omega) (by omega) _).mono ?_
        rintro e w1 ⟨rfl, hb1⟩
        have hb' := hb.below hb1 hb.lt
        have hA' := hA.below hb1
        have hB' := below_next hB hb1
        clear hb1 hb hA hB c0
        go_wp2_with fail
        refine (writeString_any w1 w.heap.size w.heap.size 0 99 _ p v _ (be 2 m) hb' (by simp) rfl rfl hA' (by kernel_rfl) (by decide) (by omega) hB'.size).mono ?_
        rintro e w2 ⟨rfl, v2, g2, g3, hT⟩
        have g5 := hT.below hB' hB'.size (by omega) hA'.row
        rw [← HS.out] at g3
        clear hb' hA' hB' hT
        go_wp2
        go_roundw
        case rel => exact ⟨k + 1, _, v2, by omega, by go_num, g2, g3, g5⟩
        case measure => simp [intOf]; omega
      | u32 m =>
        unfold Item.val at c0
        unfold Item.ok at hxo
        unfold Item.bytes at hs2 HS
        have hm : (m : Int) < 4294967296 := by omega
        go_wp2_with fail
        refine (put_any m 4 (by omega) (by omega) _).mono ?_
        rintro e w1 ⟨rfl, hb1⟩
        have hb' := hb.below hb1 hb.lt
        have hA' := hA.below hb1
        have hB' := below_next hB hb1
        clear hb1 hb hA hB c0
        go_wp2_with fail
        refine (writeString_any w1 w.heap.size w.heap.size 0 99 _ p v _ (be 4 m) hb' (by simp) rfl rfl hA' (by kernel_rfl) (by decide) (by omega) hB'.size).mono ?_
        rintro e w2 ⟨rfl, v2, g2, g3, hT⟩
        have g5 := hT.below hB' hB'.size (by omega) hA'.row
        rw [← HS.out] at g3
        clear hb' hA' hB' hT
        go_wp2
        go_roundw
        case rel => exact ⟨k + 1, _, v2, by omega, by go_num, g2, g3, g5⟩
        case measure => simp [intOf]; omega
      | u64 m =>
        unfold Item.val at c0
        unfold Item.ok at hxo
        unfold Item.bytes at hs2 HS
        have hm : (m : Int) < 18446744073709551616 := by omega
        go_wp2_with fail
        refine (put_any m 8 (by omega) (by omega) _).mono ?_
        rintro e w1 ⟨rfl, hb1⟩
        have hb' := hb.below hb1 hb.lt
        have hA' := hA.below hb1
        have hB' := below_next hB hb1
        clear hb1 hb hA hB c0
        go_wp2_with fail
        refine (writeString_any w1 w.heap.size w.heap.size 0 99 _ p v _ (be 8 m) hb' (by simp) rfl rfl hA' (by kernel_rfl) (by decide) (by omega) hB'.size).mono ?_
        rintro e w2 ⟨rfl, v2, g2, g3, hT⟩
        have g5 := hT.below hB' hB'.size (by omega) hA'.row
        rw [← HS.out] at g3
        clear hb' hA' hB' hT
        go_wp2
        go_roundw
        case rel => exact ⟨k + 1, _, v2, by omega, by go_num, g2, g3, g5⟩
        case measure => simp [intOf]; omega
      | str m =>
        unfold Item.val at c0
        unfold Item.bytes at hs2 HS
        go_wp2_with fail
        refine (writeString_any wr w.heap.size w.heap.size 0 99 _ p v _ m hb (by simp) rfl rfl hA (by kernel_rfl) (by decide) (by omega) hB.size).mono ?_
        rintro e w2 ⟨rfl, v2, g2, g3, hT⟩
        have g5 := hT.below hB hB.size (by omega) hA.row
        rw [← HS.out] at g3
        clear hb hA hB hT c0
        go_wp2
        go_roundw
        case rel => exact ⟨k + 1, _, v2, by omega, by go_num, g2, g3, g5⟩
        case measure => simp [intOf]; omega
    · obtain rfl : k = n := by omega
      have hall : l.take k = l := List.take_of_length_le (by rw [HN.out]; omega)
      rw [hall] at hA
      have k1 : ¬ (k : Int) < (k : Int) := by omega
      clear hall hlt hs
      go_wp2_with fail
      refine (string_any wr w.heap.size w.heap.size 0 99 _ _ v _ hb rfl hA).mono ?_
      rintro e w5 ⟨rfl, hg5⟩
      have b5 := hB.grown hg5 hB.size hA.row
      go_wp2
      go_ret
      exact ⟨rfl, b5⟩

end Go.Proofs.Ytfcojhpnpfodeaa
