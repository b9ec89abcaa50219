/- The document's Write and Answer. -/
import Derived.Test.YtckkjkdpcnedkaaOptRef
import Derived.Deep.RegionHeld3
import Derived.Deep.DrawnRows
namespace Go.Proofs.Ytckkjkdpcnedkaa
open Go.RowKit
attribute [local go_sem ↓] Go.wp_at_zero Go.wp_at_succ

theorem cell_below {w w' : World} {B : Nat} {a : Addr} (hb : Below B w w') (h : a.block < B) : w'.cell? a = w.cell? a := by
  unfold World.cell?
  rw [hb.block a.block h]

/-- What the region's loads read, behind a call. -/
theorem held2 {a w w' : World} {B : Nat} {u v : Value} (h : w.cell? ⟨B, 0, none⟩ = some u ∧ w.cell? ⟨B, 1, none⟩ = some v ∧ B < w.heap.size ∧ Below B a w) (hb : Below w.heap.size w w') :
    w'.cell? ⟨B, 0, none⟩ = some u ∧ w'.cell? ⟨B, 1, none⟩ = some v ∧ B < w'.heap.size ∧ Below B a w' :=
  ⟨(cell_below hb h.2.2.1).trans h.1, (cell_below hb h.2.2.1).trans h.2.1, Nat.lt_of_lt_of_le h.2.2.1 hb.size, h.2.2.2.trans (hb.mono (Nat.le_of_lt h.2.2.1))⟩

set_option maxRecDepth 100000 in
set_option maxHeartbeats 1000000 in
theorem rwrite_ok (k : Nat) (d : List UInt8) (hk : k < 4294967296) (hd : d.length ≤ 4096) (w : World) :
    Calls Try.prog 14 #[.agg #[.int .u32 k, .string ⟨d.toArray⟩]] w (Gives (.tuple #[.string ⟨(framedB optHead [k] d).toArray⟩, .int .i64 0]) w) := by
  have HK := Lib.hid (fun W => rfour k hk W)
  have HL : Hid (∀ W, Calls Try.prog 28 #[.int .u32 (IntKind.u32.wrap (d.length : Nat))] W (Gives (.string ⟨(be 4 d.length).toArray⟩) W)) :=
    Lib.hid (fun W => by rw [show IntKind.u32.wrap ((d.length : Nat) : Int) = (d.length : Nat) by rw [IntKind.wrap_u32]; omega]; exact rfour d.length (by omega) W)
  have mixed : Try.prog.follows .mixedOrders = true := by kernel_rfl
  have hf : optHead ++ be 4 k ++ be 4 d.length ++ d = framedB optHead [k] d := by simp [framedB, beginB]
  have HF := Lib.hid hf
  clear hf
  have hl1 : (be 4 k).length = 4 := be_length _ _
  have hl2 : (be 4 d.length).length = 4 := be_length _ _
  have hsz : ¬ (9223372036854775807 < 16 + d.length) := by omega
  go_enter Try.func14, Try.ntmps14
  go_wp2_with fail
  have x0 := Blk.new w 32 #[.int .u32 k, .string ⟨d.toArray⟩]
  have c0 := x0.cell 0
  have c1 := x0.cell 1
  simp only [List.getElem?_toArray, List.getElem?_cons_zero, List.getElem?_cons_succ] at c0 c1
  have hlt := x0.lt
  have hB := (Below.refl w.heap.size w).alloc (Nat.le_refl _) (.cells #[.int .u32 k, .string ⟨d.toArray⟩] 32)
  clear x0
  go_region_held3 (fun w' => w'.cell? ⟨w.heap.size, 0, none⟩ = some (.int .u32 k) ∧ w'.cell? ⟨w.heap.size, 1, none⟩ = some (.string ⟨d.toArray⟩) ∧ w.heap.size < w'.heap.size ∧ Below w.heap.size w w')
    (first | assumption | exact ⟨c0, c1, hlt, hB.drew⟩ | exact held2 (by assumption) hb)
    (first | (go_at_call 28; refine (HK.out _).mono ?_; rintro e w' ⟨rfl, hb⟩) | (go_at_call 28; refine (HL.out _).mono ?_; rintro e w' ⟨rfl, hb⟩))
  all_goals go_wp2
  all_goals go_ret2
  all_goals exact ⟨by rw [← HF.out]; simp [optHead], ‹_ ∧ _ ∧ _ ∧ Below w.heap.size w _›.2.2.2⟩

set_option maxRecDepth 100000 in
set_option maxHeartbeats 400000 in
theorem rwrite_any (k : Nat) (d : List UInt8) (hk : k < 4294967296) (w : World) :
    Calls Try.prog 14 #[.agg #[.int .u32 k, .string ⟨d.toArray⟩]] w (Gives (.tuple #[.string ⟨(framed optHead [k] d).1.toArray⟩, .int .i64 (framed optHead [k] d).2]) w) := by
  by_cases hd : 4096 < d.length
  · have e : framed optHead [k] d = ([], 11) := by unfold framed; rw [if_pos hd]
    rw [e]
    clear e
    go_enter Try.func14, Try.ntmps14
    go_wp2
    go_ret2
    exact ⟨rfl, (Below.refl _ w).alloc (Nat.le_refl _) _⟩
  · have e : framed optHead [k] d = (framedB optHead [k] d, 0) := by unfold framed; rw [if_neg hd]
    rw [e]
    exact rwrite_ok k d hk (by omega) w

theorem held3c {a w w' : World} {B : Nat} {u v x : Value} (h : w.cell? ⟨B, 0, none⟩ = some u ∧ w.cell? ⟨B, 1, none⟩ = some v ∧ w.cell? ⟨B, 2, none⟩ = some x ∧ B < w.heap.size ∧ Below B a w) (hb : Below w.heap.size w w') :
    w'.cell? ⟨B, 0, none⟩ = some u ∧ w'.cell? ⟨B, 1, none⟩ = some v ∧ w'.cell? ⟨B, 2, none⟩ = some x ∧ B < w'.heap.size ∧ Below B a w' :=
  ⟨(cell_below hb h.2.2.2.1).trans h.1, (cell_below hb h.2.2.2.1).trans h.2.1, (cell_below hb h.2.2.2.1).trans h.2.2.1, Nat.lt_of_lt_of_le h.2.2.2.1 hb.size, h.2.2.2.2.trans (hb.mono (Nat.le_of_lt h.2.2.2.1))⟩

set_option maxRecDepth 100000 in
set_option maxHeartbeats 2000000 in
theorem ranswer_ok (o k : Nat) (d : List UInt8) (ho : o < 4294967296) (hk : k < 4294967296) (hd : d.length ≤ 4096) (w : World) :
    Calls Try.prog 16 #[.agg #[.int .u32 o, .int .u32 k, .string ⟨d.toArray⟩]] w (Gives (.tuple #[.string ⟨(framedB ansHead [o, k] d).toArray⟩, .int .i64 0]) w) := by
  have HO := Lib.hid (fun W => rfour o ho W)
  have HK := Lib.hid (fun W => rfour k hk W)
  have HL : Hid (∀ W, Calls Try.prog 28 #[.int .u32 (IntKind.u32.wrap (d.length : Nat))] W (Gives (.string ⟨(be 4 d.length).toArray⟩) W)) :=
    Lib.hid (fun W => by rw [show IntKind.u32.wrap ((d.length : Nat) : Int) = (d.length : Nat) by rw [IntKind.wrap_u32]; omega]; exact rfour d.length (by omega) W)
  have mixed : Try.prog.follows .mixedOrders = true := by kernel_rfl
  have hf : ansHead ++ be 4 o ++ be 4 k ++ be 4 d.length ++ d = framedB ansHead [o, k] d := by simp [framedB, beginB]
  have HF := Lib.hid hf
  clear hf
  have hl0 : (be 4 o).length = 4 := be_length _ _
  have hl1 : (be 4 k).length = 4 := be_length _ _
  have hl2 : (be 4 d.length).length = 4 := be_length _ _
  have hsz : ¬ (9223372036854775807 < 20 + d.length) := by omega
  go_enter Try.func16, Try.ntmps16
  go_wp2_with fail
  have x0 := Blk.new w 34 #[.int .u32 o, .int .u32 k, .string ⟨d.toArray⟩]
  have c0 := x0.cell 0
  have c1 := x0.cell 1
  have c2 := x0.cell 2
  simp only [List.getElem?_toArray, List.getElem?_cons_zero, List.getElem?_cons_succ] at c0 c1 c2
  have hlt := x0.lt
  have hB := (Below.refl w.heap.size w).alloc (Nat.le_refl _) (.cells #[.int .u32 o, .int .u32 k, .string ⟨d.toArray⟩] 34)
  clear x0
  go_region_held3 (fun w' => w'.cell? ⟨w.heap.size, 0, none⟩ = some (.int .u32 o) ∧ w'.cell? ⟨w.heap.size, 1, none⟩ = some (.int .u32 k) ∧ w'.cell? ⟨w.heap.size, 2, none⟩ = some (.string ⟨d.toArray⟩) ∧ w.heap.size < w'.heap.size ∧ Below w.heap.size w w')
    (first | assumption | exact ⟨c0, c1, c2, hlt, hB.drew⟩ | exact held3c (by assumption) hb)
    (first | (go_at_call 28; refine (HO.out _).mono ?_; rintro e w' ⟨rfl, hb⟩) | (go_at_call 28; refine (HK.out _).mono ?_; rintro e w' ⟨rfl, hb⟩) | (go_at_call 28; refine (HL.out _).mono ?_; rintro e w' ⟨rfl, hb⟩))
  all_goals go_wp2
  all_goals go_ret2
  all_goals exact ⟨by rw [← HF.out]; simp [ansHead], ‹_ ∧ _ ∧ _ ∧ _ ∧ Below w.heap.size w _›.2.2.2.2⟩

set_option maxRecDepth 100000 in
set_option maxHeartbeats 400000 in
theorem ranswer_any (o k : Nat) (d : List UInt8) (ho : o < 4294967296) (hk : k < 4294967296) (w : World) :
    Calls Try.prog 16 #[.agg #[.int .u32 o, .int .u32 k, .string ⟨d.toArray⟩]] w (Gives (.tuple #[.string ⟨(framed ansHead [o, k] d).1.toArray⟩, .int .i64 (framed ansHead [o, k] d).2]) w) := by
  by_cases hd : 4096 < d.length
  · have e : framed ansHead [o, k] d = ([], 11) := by unfold framed; rw [if_pos hd]
    rw [e]
    clear e
    go_enter Try.func16, Try.ntmps16
    go_wp2
    go_ret2
    exact ⟨rfl, (Below.refl _ w).alloc (Nat.le_refl _) _⟩
  · have e : framed ansHead [o, k] d = (framedB ansHead [o, k] d, 0) := by unfold framed; rw [if_neg hd]
    rw [e]
    exact ranswer_ok o k d ho hk (by omega) w

end Go.Proofs.Ytckkjkdpcnedkaa
