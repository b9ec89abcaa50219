/- The document's Read and ToAnswer. -/
import Derived.Test.YtckkjkdpcnedkaaOptTaken
import Derived.Test.YtckkjkdpcnedkaaReadAns
namespace Go.Proofs.Ytckkjkdpcnedkaa
open Go.RowKit

set_option maxRecDepth 100000 in
set_option maxHeartbeats 400000 in
theorem rread_err (s : List UInt8) (n : Int) (hn : n ≠ 0) (H : ∀ W, Calls Try.prog 34 #[.string ⟨s.toArray⟩, .string ⟨optHead.toArray⟩, .int .i64 2] W (TakenErr W n)) (w : World) :
    Calls Try.prog 18 #[.string ⟨s.toArray⟩] w (Gives (.tuple #[optV (0, []), .string ⟨#[]⟩, .int .i64 n]) w) := by
  unfold optHead at H
  have HT := Lib.hid H
  clear H
  go_enter Try.func18, Try.ntmps18
  go_wp2_with fail
  refine at_world fun W0 hW0 => ?_
  have x0 : Blk W0 w.heap.size 32 #[.int .u32 0, .string ⟨#[]⟩] := by rw [hW0]; exact Blk.new w _ _
  have b0 : Below w.heap.size w W0 := by rw [hW0]; (repeat' (first | (with_reducible assumption) | (with_reducible exact Below.refl _ _) | (with_reducible refine below_drewN ?_ _) | (with_reducible refine Below.drew ?_) | (with_reducible refine Below.setCell ?_ ?_ _) | (with_reducible refine Below.alloc ?_ ?_ _) | (with_reducible refine below_putObj ?_ ?_ _) | (with_reducible exact Nat.le_refl _) | omega | (simp; done) | (simp; omega)))
  clear hW0
  refine (HT.out _).mono ?_
  rintro e w1 ⟨rfl, hb⟩
  have x1 := x0.below hb x0.lt
  have b1 : Below w.heap.size w w1 := b0.trans (hb.mono (Nat.le_of_lt x0.lt))
  clear x0 b0 hb
  have c0 := x1.cell 0
  have c1 := x1.cell 1
  have f0 := x1.frozen 0
  have f1 := x1.frozen 1
  simp only [List.getElem?_toArray, List.getElem?_cons_zero, List.getElem?_cons_succ] at c0 c1
  go_wp2
  refine bodyPost_ret (v := .tuple #[optV (0, []), .string ⟨#[]⟩, .int .i64 n]) (by simp [results, Try.results18, go_sem, optV, c0, c1]) rfl ⟨rfl, ?_⟩
  (repeat' (first | (with_reducible assumption) | (with_reducible exact Below.refl _ _) | (with_reducible refine below_drewN ?_ _) | (with_reducible refine Below.drew ?_) | (with_reducible refine Below.setCell ?_ ?_ _) | (with_reducible refine Below.alloc ?_ ?_ _) | (with_reducible refine below_putObj ?_ ?_ _) | (with_reducible exact Nat.le_refl _) | omega | (simp; done) | (simp; omega)))

theorem wrap_small {k : Nat} (h : k < 4294967296) : IntKind.u32.wrap (k : Int) = (k : Int) := by rw [IntKind.wrap_u32]; omega

set_option maxRecDepth 100000 in
set_option maxHeartbeats 400000 in
theorem rread_ok (s t d r : List UInt8) (k : Nat) (hk : k < 4294967296) (hk2 : k = de ((t.drop (4 * 0)).take 4)) (H : ∀ W, Calls Try.prog 34 #[.string ⟨s.toArray⟩, .string ⟨optHead.toArray⟩, .int .i64 2] W (TakenOk W 2 (numsT t 2) d r)) (w : World) :
    Calls Try.prog 18 #[.string ⟨s.toArray⟩] w (Gives (.tuple #[optV (k, d), .string ⟨r.toArray⟩, .int .i64 0]) w) := by
  unfold optHead at H
  have HT := Lib.hid H
  have HK := Lib.hid hk2
  have hwr := wrap_small hk
  clear H hk2
  go_enter Try.func18, Try.ntmps18
  go_wp2_with fail
  refine at_world fun W0 hW0 => ?_
  have x0 : Blk W0 w.heap.size 32 #[.int .u32 0, .string ⟨#[]⟩] := by rw [hW0]; exact Blk.new w _ _
  have b0 : Below w.heap.size w W0 := by rw [hW0]; (repeat' (first | (with_reducible assumption) | (with_reducible exact Below.refl _ _) | (with_reducible refine below_drewN ?_ _) | (with_reducible refine Below.drew ?_) | (with_reducible refine Below.setCell ?_ ?_ _) | (with_reducible refine Below.alloc ?_ ?_ _) | (with_reducible refine below_putObj ?_ ?_ _) | (with_reducible exact Nat.le_refl _) | omega | (simp; done) | (simp; omega)))
  clear hW0
  refine (HT.out _).mono ?_
  rintro e w1 ⟨v, rfl, hown, hb⟩
  obtain ⟨g, cap, rfl, hg⟩ := row_form hown (by omega)
  have hc0 := hown.cellAt 0 (by omega)
  rw [numsT_at t 2 0 (by omega), ← HK.out] at hc0
  have hgg := (hown.lt g rfl).1
  clear hown
  have hne : g ≠ w.heap.size := by have := x0.lt; omega
  have x1 := x0.below hb x0.lt
  have b1 : Below w.heap.size w w1 := b0.trans (hb.mono (Nat.le_of_lt x0.lt))
  clear x0 b0 hb hgg
  have c0 := x1.cell 0
  have c1 := x1.cell 1
  have f0 := x1.frozen 0
  have f1 := x1.frozen 1
  simp only [List.getElem?_toArray, List.getElem?_cons_zero, List.getElem?_cons_succ] at c0 c1
  go_wp2
  refine bodyPost_ret (v := .tuple #[optV (k, d), .string ⟨r.toArray⟩, .int .i64 0]) (by simp [results, Try.results18, go_sem, optV, c0, c1]) rfl ⟨rfl, ?_⟩
  (repeat' (first | (with_reducible assumption) | (with_reducible exact Below.refl _ _) | (with_reducible refine below_drewN ?_ _) | (with_reducible refine Below.drew ?_) | (with_reducible refine Below.setCell ?_ ?_ _) | (with_reducible refine Below.alloc ?_ ?_ _) | (with_reducible refine below_putObj ?_ ?_ _) | (with_reducible exact Nat.le_refl _) | omega | (simp; done) | (simp; omega)))

set_option maxRecDepth 100000 in
set_option maxHeartbeats 400000 in
theorem rtoans_err (s : List UInt8) (n : Int) (hn : n ≠ 0) (H : ∀ W, Calls Try.prog 34 #[.string ⟨s.toArray⟩, .string ⟨ansHead.toArray⟩, .int .i64 3] W (TakenErr W n)) (w : World) :
    Calls Try.prog 20 #[.string ⟨s.toArray⟩] w (Gives (.tuple #[ansV (0, 0, []), .string ⟨#[]⟩, .int .i64 n]) w) := by
  unfold ansHead at H
  have HT := Lib.hid H
  clear H
  go_enter Try.func20, Try.ntmps20
  go_wp2_with fail
  refine at_world fun W0 hW0 => ?_
  have x0 : Blk W0 w.heap.size 34 #[.int .u32 0, .int .u32 0, .string ⟨#[]⟩] := by rw [hW0]; exact Blk.new w _ _
  have b0 : Below w.heap.size w W0 := by rw [hW0]; (repeat' (first | (with_reducible assumption) | (with_reducible exact Below.refl _ _) | (with_reducible refine below_drewN ?_ _) | (with_reducible refine Below.drew ?_) | (with_reducible refine Below.setCell ?_ ?_ _) | (with_reducible refine Below.alloc ?_ ?_ _) | (with_reducible refine below_putObj ?_ ?_ _) | (with_reducible exact Nat.le_refl _) | omega | (simp; done) | (simp; omega)))
  clear hW0
  refine (HT.out _).mono ?_
  rintro e w1 ⟨rfl, hb⟩
  have x1 := x0.below hb x0.lt
  have b1 : Below w.heap.size w w1 := b0.trans (hb.mono (Nat.le_of_lt x0.lt))
  clear x0 b0 hb
  have c0 := x1.cell 0
  have c1 := x1.cell 1
  have c2 := x1.cell 2
  have f0 := x1.frozen 0
  have f1 := x1.frozen 1
  have f2 := x1.frozen 2
  simp only [List.getElem?_toArray, List.getElem?_cons_zero, List.getElem?_cons_succ] at c0 c1 c2
  go_wp2
  refine bodyPost_ret (v := .tuple #[ansV (0, 0, []), .string ⟨#[]⟩, .int .i64 n]) (by simp [results, Try.results20, go_sem, ansV, c0, c1, c2]) rfl ⟨rfl, ?_⟩
  (repeat' (first | (with_reducible assumption) | (with_reducible exact Below.refl _ _) | (with_reducible refine below_drewN ?_ _) | (with_reducible refine Below.drew ?_) | (with_reducible refine Below.setCell ?_ ?_ _) | (with_reducible refine Below.alloc ?_ ?_ _) | (with_reducible refine below_putObj ?_ ?_ _) | (with_reducible exact Nat.le_refl _) | omega | (simp; done) | (simp; omega)))

set_option maxRecDepth 100000 in
set_option maxHeartbeats 1000000 in
theorem rtoans_ok (s t d r : List UInt8) (o k : Nat) (ho : o < 4294967296) (hk : k < 4294967296) (ho2 : o = de ((t.drop (4 * 0)).take 4)) (hk2 : k = de ((t.drop (4 * 1)).take 4)) (H : ∀ W, Calls Try.prog 34 #[.string ⟨s.toArray⟩, .string ⟨ansHead.toArray⟩, .int .i64 3] W (TakenOk W 3 (numsT t 3) d r)) (w : World) :
    Calls Try.prog 20 #[.string ⟨s.toArray⟩] w (Gives (.tuple #[ansV (o, k, d), .string ⟨r.toArray⟩, .int .i64 0]) w) := by
  unfold ansHead at H
  have HT := Lib.hid H
  have HK := Lib.hid hk2
  have HO := Lib.hid ho2
  have hwr := wrap_small hk
  have hwo := wrap_small ho
  clear H hk2 ho2
  have mixed : Try.prog.follows .mixedOrders = true := by kernel_rfl
  go_enter Try.func20, Try.ntmps20
  go_wp2_with fail
  refine at_world fun W0 hW0 => ?_
  have x0 : Blk W0 w.heap.size 34 #[.int .u32 0, .int .u32 0, .string ⟨#[]⟩] := by rw [hW0]; exact Blk.new w _ _
  have b0 : Below w.heap.size w W0 := by rw [hW0]; (repeat' (first | (with_reducible assumption) | (with_reducible exact Below.refl _ _) | (with_reducible refine below_drewN ?_ _) | (with_reducible refine Below.drew ?_) | (with_reducible refine Below.setCell ?_ ?_ _) | (with_reducible refine Below.alloc ?_ ?_ _) | (with_reducible refine below_putObj ?_ ?_ _) | (with_reducible exact Nat.le_refl _) | omega | (simp; done) | (simp; omega)))
  clear hW0
  refine (HT.out _).mono ?_
  rintro e w1 ⟨v, rfl, hown, hb⟩
  obtain ⟨g, cap, rfl, hg⟩ := row_form hown (by omega)
  have hc0 := hown.cellAt 0 (by omega)
  rw [numsT_at t 3 0 (by omega), ← HO.out] at hc0
  have hc1 := hown.cellAt 1 (by omega)
  rw [numsT_at t 3 1 (by omega), ← HK.out] at hc1
  have hgg := (hown.lt g rfl).1
  clear hown
  have hne : g ≠ w.heap.size := by have := x0.lt; omega
  have x1 := x0.below hb x0.lt
  have b1 : Below w.heap.size w w1 := b0.trans (hb.mono (Nat.le_of_lt x0.lt))
  clear x0 b0 hb hgg
  have c0 := x1.cell 0
  have c1 := x1.cell 1
  have c2 := x1.cell 2
  have f0 := x1.frozen 0
  have f1 := x1.frozen 1
  have f2 := x1.frozen 2
  simp only [List.getElem?_toArray, List.getElem?_cons_zero, List.getElem?_cons_succ] at c0 c1 c2
  go_wp2
  go_region
  go_wp2
  refine bodyPost_ret (v := .tuple #[ansV (o, k, d), .string ⟨r.toArray⟩, .int .i64 0]) (by simp [results, Try.results20, go_sem, ansV, c0, c1, c2]) rfl ⟨rfl, ?_⟩
  (repeat' (first | (with_reducible assumption) | (with_reducible exact Below.refl _ _) | (with_reducible refine below_drewN ?_ _) | (with_reducible refine Below.drew ?_) | (with_reducible refine Below.setCell ?_ ?_ _) | (with_reducible refine Below.alloc ?_ ?_ _) | (with_reducible refine below_putObj ?_ ?_ _) | (with_reducible exact Nat.le_refl _) | omega | (simp; done) | (simp; omega)))

end Go.Proofs.Ytckkjkdpcnedkaa
