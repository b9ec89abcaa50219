/- RepReads, the walk. -/
import Derived.Test.YtcmocangmfengaaRepAwake
import Derived.Test.YtcmocangmfengaaRepReadD
namespace Go.Proofs.Ytcmocangmfengaa
open Go.RowKit

set_option maxRecDepth 100000 in
set_option maxHeartbeats 400000 in
theorem repReads_long (r0 r1 : Nat) (r2 : List UInt8) (k0 : Bool) (k1 : Int) (k2 : Nat) (k3 s : List UInt8) (n : Int) (hg : 10000 < r2.length ∨ (r2.length ≤ 10000 ∧ 10000 < k3.length) ∨ (r2.length ≤ 10000 ∧ k3.length ≤ 10000 ∧ 20000 < s.length)) (w : World) :
    Calls Try.prog 4 #[.agg #[.int .u32 (r0 : Nat), .int .u64 (r1 : Nat), .string ⟨r2.toArray⟩], .agg #[.bool k0, .int .i64 k1, .int .u64 (k2 : Nat), .string ⟨k3.toArray⟩], .string ⟨s.toArray⟩, .int .i64 n] w (Gives (.bool true) w) := by
  have HA := Lib.hid awake_any
  have b0 := ((Below.refl _ w).alloc (Nat.le_refl _) (.cells #[.int .u32 (r0 : Nat), .int .u64 (r1 : Nat), .string ⟨r2.toArray⟩] 41)).alloc (by simp) (.cells #[.bool k0, .int .i64 k1, .int .u64 (k2 : Nat), .string ⟨k3.toArray⟩] 43)
  rcases hg with h1 | ⟨h1, h2⟩ | ⟨h1, h2, h3⟩
  all_goals
    go_enter Try.func4, Try.ntmps4
    go_wp2_with fail
    refine (HA.out _).mono ?_
    rintro e w1 ⟨rfl, hb1⟩
    have b1 := below_next b0 hb1
    go_wp2
    go_ret
    exact ⟨rfl, b1⟩

set_option maxRecDepth 100000 in
set_option maxHeartbeats 4000000 in
theorem repReads_walk (r0 r1 : Nat) (r2 : List UInt8) (k0 : Bool) (k1 : Int) (k2 : Nat) (k3 s : List UInt8) (n : Int) (hr0 : r0 < 4294967296) (hr1 : r1 < 18446744073709551616) (hk2 : k2 < 18446744073709551616) (hg1 : r2.length ≤ 10000) (hg2 : k3.length ≤ 10000) (hg3 : s.length ≤ 20000)
    (A U L O x2 m3 : List UInt8) (e g i p : Int) (x0 x1 : Nat) (m0 : Bool) (m1 : Int) (m2 : Nat)
    (hA : writeRep ⟨r0, r1, r2⟩ = (A, e)) (hU : readRep s n = (⟨x0, x1, x2⟩, U, g)) (hL : writeChunk ⟨k0, k1, k2, k3⟩ = (L, i)) (hO : readChunk s = (⟨m0, m1, m2, m3⟩, O, p)) (w : World) :
    Calls Try.prog 4 #[.agg #[.int .u32 (r0 : Nat), .int .u64 (r1 : Nat), .string ⟨r2.toArray⟩], .agg #[.bool k0, .int .i64 k1, .int .u64 (k2 : Nat), .string ⟨k3.toArray⟩], .string ⟨s.toArray⟩, .int .i64 n] w (Gives (.bool true) w) := by
  have h1 := simple_any r0 r1 r2 hr0 hr1
  have h2 := rsimple_any r0 r1 r2 hr0 hr1
  have h3 := tosimple_any s n (by omega)
  have h4 := rtosimple_any s n (by omega)
  have h5 := writeC_any k0 k1 k2 k3 hk2
  have h6 := rwriteC_any k0 k1 k2 k3 hk2
  have h7 : ∀ W, Calls Try.prog 24 #[.string ⟨s.toArray⟩] W (Gives (.tuple #[chunkV (readChunk s).1, .string ⟨(readChunk s).2.1.toArray⟩, .int .i64 (readChunk s).2.2]) W) := fun W => by
    by_cases hb : beginsE s pieceHead 20 = 0
    · exact readC_good s (by omega) hb W
    · exact readC_bad s (by omega) hb W
  have h8 := rreadC_any s (by omega)
  rw [hA] at h1 h2
  rw [hU] at h3 h4
  rw [hL] at h5 h6
  rw [hO] at h7 h8
  unfold repV at h1 h2 h3 h4
  unfold chunkV at h5 h6 h7 h8
  dsimp only at h1 h2 h3 h4 h5 h6 h7 h8
  have H1 := Lib.hid h1
  have H2 := Lib.hid h2
  have H3 := Lib.hid h3
  have H4 := Lib.hid h4
  have H5 := Lib.hid h5
  have H6 := Lib.hid h6
  have H7 := Lib.hid h7
  have H8 := Lib.hid h8
  have HA := Lib.hid awake_any
  clear h1 h2 h3 h4 h5 h6 h7 h8 hA hU hL hO hr0 hr1 hk2
  go_enter Try.func4, Try.ntmps4
  go_wp2_with fail
  refine at_world fun W0 hW0 => ?_
  have rW0 : Blk W0 w.heap.size 41 #[.int .u32 (r0 : Nat), .int .u64 (r1 : Nat), .string ⟨r2.toArray⟩] := by rw [hW0]; exact (Blk.new w _ _).alloc _
  have cW0 : Blk W0 (w.heap.size + 1) 43 #[.bool k0, .int .i64 k1, .int .u64 (k2 : Nat), .string ⟨k3.toArray⟩] := by rw [hW0]; exact Blk.newAt (by simp)
  have bW0 : Below w.heap.size w W0 := by rw [hW0]; (repeat' (first | (with_reducible assumption) | (with_reducible exact Below.refl _ _) | (with_reducible refine below_drewN ?_ _) | (with_reducible refine Below.drew ?_) | (with_reducible refine Below.setCell ?_ ?_ _) | (with_reducible refine Below.alloc ?_ ?_ _) | (with_reducible refine below_putObj ?_ ?_ _) | (with_reducible exact Nat.le_refl _) | omega | (simp; done) | (simp; omega)))
  clear hW0
  refine (H1.out _).mono ?_
  rintro e w1 ⟨rfl, hw1⟩
  have rw1 := rW0.below hw1 rW0.lt
  have cw1 := cW0.below hw1 cW0.lt
  have bw1 := below_next bW0 hw1
  clear hw1 bW0 rW0 cW0 
  have rc0 := rw1.cell 0
  have rc1 := rw1.cell 1
  have rc2 := rw1.cell 2
  have cc0 := cw1.cell 0
  have cc1 := cw1.cell 1
  have cc2 := cw1.cell 2
  have cc3 := cw1.cell 3
  simp only [List.getElem?_toArray, List.getElem?_cons_zero, List.getElem?_cons_succ] at rc0 rc1 rc2 cc0 cc1 cc2 cc3
  go_wp2_with fail
  refine (H2.out _).mono ?_
  rintro e w2 ⟨rfl, hw2⟩
  have rw2 := rw1.below hw2 rw1.lt
  have cw2 := cw1.below hw2 cw1.lt
  have bw2 := below_next bw1 hw2
  clear hw2 bw1 rw1 cw1 rc0 rc1 rc2 cc0 cc1 cc2 cc3
  have rc0 := rw2.cell 0
  have rc1 := rw2.cell 1
  have rc2 := rw2.cell 2
  have cc0 := cw2.cell 0
  have cc1 := cw2.cell 1
  have cc2 := cw2.cell 2
  have cc3 := cw2.cell 3
  simp only [List.getElem?_toArray, List.getElem?_cons_zero, List.getElem?_cons_succ] at rc0 rc1 rc2 cc0 cc1 cc2 cc3
  go_wp2_with fail
  refine (H3.out _).mono ?_
  rintro e w3 ⟨rfl, hw3⟩
  have rw3 := rw2.below hw3 rw2.lt
  have cw3 := cw2.below hw3 cw2.lt
  have bw3 := below_next bw2 hw3
  clear hw3 bw2 rw2 cw2 rc0 rc1 rc2 cc0 cc1 cc2 cc3
  have rc0 := rw3.cell 0
  have rc1 := rw3.cell 1
  have rc2 := rw3.cell 2
  have cc0 := cw3.cell 0
  have cc1 := cw3.cell 1
  have cc2 := cw3.cell 2
  have cc3 := cw3.cell 3
  simp only [List.getElem?_toArray, List.getElem?_cons_zero, List.getElem?_cons_succ] at rc0 rc1 rc2 cc0 cc1 cc2 cc3
  have ro := fun o i => old_cell (w := w3) (g := w.heap.size) rw3.lt o i
  have co := fun o i => old_cell (w := w3) (g := (w.heap.size + 1)) cw3.lt o i
  go_wp2_with fail
  refine at_world fun W3 hW3 => ?_
  have rW3 : Blk W3 w.heap.size 41 #[.int .u32 (r0 : Nat), .int .u64 (r1 : Nat), .string ⟨r2.toArray⟩] := by rw [hW3]; exact rw3.alloc _
  have cW3 : Blk W3 (w.heap.size + 1) 43 #[.bool k0, .int .i64 k1, .int .u64 (k2 : Nat), .string ⟨k3.toArray⟩] := by rw [hW3]; exact cw3.alloc _
  have xW3 : Blk W3 w3.heap.size 41 #[.int .u32 (x0 : Nat), .int .u64 (x1 : Nat), .string ⟨x2.toArray⟩] := by rw [hW3]; exact Blk.new w3 _ _
  have sw3 := bw3.size
  have bW3 : Below w.heap.size w W3 := by rw [hW3]; (repeat' (first | (with_reducible assumption) | (with_reducible exact Below.refl _ _) | (with_reducible refine below_drewN ?_ _) | (with_reducible refine Below.drew ?_) | (with_reducible refine Below.setCell ?_ ?_ _) | (with_reducible refine Below.alloc ?_ ?_ _) | (with_reducible refine below_putObj ?_ ?_ _) | (with_reducible exact Nat.le_refl _) | omega | (simp; done) | (simp; omega)))
  clear hW3 bw3 sw3 rw3 cw3 rc0 rc1 rc2 cc0 cc1 cc2 cc3 ro co
  refine (H4.out _).mono ?_
  rintro e w4 ⟨rfl, hw4⟩
  have rw4 := rW3.below hw4 rW3.lt
  have cw4 := cW3.below hw4 cW3.lt
  have xw4 := xW3.below hw4 xW3.lt
  have bw4 := below_next bW3 hw4
  clear hw4 bW3 rW3 cW3 xW3 
  have rc0 := rw4.cell 0
  have rc1 := rw4.cell 1
  have rc2 := rw4.cell 2
  have cc0 := cw4.cell 0
  have cc1 := cw4.cell 1
  have cc2 := cw4.cell 2
  have cc3 := cw4.cell 3
  have xc0 := xw4.cell 0
  have xc1 := xw4.cell 1
  have xc2 := xw4.cell 2
  simp only [List.getElem?_toArray, List.getElem?_cons_zero, List.getElem?_cons_succ] at rc0 rc1 rc2 cc0 cc1 cc2 cc3 xc0 xc1 xc2
  have ro := fun o i => old_cell (w := w4) (g := w.heap.size) rw4.lt o i
  have co := fun o i => old_cell (w := w4) (g := (w.heap.size + 1)) cw4.lt o i
  have xo := fun o i => old_cell (w := w4) (g := w3.heap.size) xw4.lt o i
  go_wp2_with fail
  refine at_world fun W4 hW4 => ?_
  have rW4 : Blk W4 w.heap.size 41 #[.int .u32 (r0 : Nat), .int .u64 (r1 : Nat), .string ⟨r2.toArray⟩] := by rw [hW4]; exact rw4.alloc _
  have cW4 : Blk W4 (w.heap.size + 1) 43 #[.bool k0, .int .i64 k1, .int .u64 (k2 : Nat), .string ⟨k3.toArray⟩] := by rw [hW4]; exact cw4.alloc _
  have xW4 : Blk W4 w3.heap.size 41 #[.int .u32 (x0 : Nat), .int .u64 (x1 : Nat), .string ⟨x2.toArray⟩] := by rw [hW4]; exact xw4.alloc _
  have uW4 : Blk W4 w4.heap.size 41 #[.int .u32 (x0 : Nat), .int .u64 (x1 : Nat), .string ⟨x2.toArray⟩] := by rw [hW4]; exact Blk.new w4 _ _
  have sw4 := bw4.size
  have bW4 : Below w.heap.size w W4 := by rw [hW4]; (repeat' (first | (with_reducible assumption) | (with_reducible exact Below.refl _ _) | (with_reducible refine below_drewN ?_ _) | (with_reducible refine Below.drew ?_) | (with_reducible refine Below.setCell ?_ ?_ _) | (with_reducible refine Below.alloc ?_ ?_ _) | (with_reducible refine below_putObj ?_ ?_ _) | (with_reducible exact Nat.le_refl _) | omega | (simp; done) | (simp; omega)))
  clear hW4 bw4 sw4 rw4 cw4 xw4 rc0 rc1 rc2 cc0 cc1 cc2 cc3 xc0 xc1 xc2 ro co xo
  refine (H5.out _).mono ?_
  rintro e w5 ⟨rfl, hw5⟩
  have rw5 := rW4.below hw5 rW4.lt
  have cw5 := cW4.below hw5 cW4.lt
  have xw5 := xW4.below hw5 xW4.lt
  have uw5 := uW4.below hw5 uW4.lt
  have bw5 := below_next bW4 hw5
  clear hw5 bW4 rW4 cW4 xW4 uW4 
  have rc0 := rw5.cell 0
  have rc1 := rw5.cell 1
  have rc2 := rw5.cell 2
  have cc0 := cw5.cell 0
  have cc1 := cw5.cell 1
  have cc2 := cw5.cell 2
  have cc3 := cw5.cell 3
  have xc0 := xw5.cell 0
  have xc1 := xw5.cell 1
  have xc2 := xw5.cell 2
  have uc0 := uw5.cell 0
  have uc1 := uw5.cell 1
  have uc2 := uw5.cell 2
  simp only [List.getElem?_toArray, List.getElem?_cons_zero, List.getElem?_cons_succ] at rc0 rc1 rc2 cc0 cc1 cc2 cc3 xc0 xc1 xc2 uc0 uc1 uc2
  go_wp2_with fail
  refine (H6.out _).mono ?_
  rintro e w6 ⟨rfl, hw6⟩
  have rw6 := rw5.below hw6 rw5.lt
  have cw6 := cw5.below hw6 cw5.lt
  have xw6 := xw5.below hw6 xw5.lt
  have uw6 := uw5.below hw6 uw5.lt
  have bw6 := below_next bw5 hw6
  clear hw6 bw5 rw5 cw5 xw5 uw5 rc0 rc1 rc2 cc0 cc1 cc2 cc3 xc0 xc1 xc2 uc0 uc1 uc2
  have rc0 := rw6.cell 0
  have rc1 := rw6.cell 1
  have rc2 := rw6.cell 2
  have cc0 := cw6.cell 0
  have cc1 := cw6.cell 1
  have cc2 := cw6.cell 2
  have cc3 := cw6.cell 3
  have xc0 := xw6.cell 0
  have xc1 := xw6.cell 1
  have xc2 := xw6.cell 2
  have uc0 := uw6.cell 0
  have uc1 := uw6.cell 1
  have uc2 := uw6.cell 2
  simp only [List.getElem?_toArray, List.getElem?_cons_zero, List.getElem?_cons_succ] at rc0 rc1 rc2 cc0 cc1 cc2 cc3 xc0 xc1 xc2 uc0 uc1 uc2
  go_wp2_with fail
  refine (H7.out _).mono ?_
  rintro e w7 ⟨rfl, hw7⟩
  have rw7 := rw6.below hw7 rw6.lt
  have cw7 := cw6.below hw7 cw6.lt
  have xw7 := xw6.below hw7 xw6.lt
  have uw7 := uw6.below hw7 uw6.lt
  have bw7 := below_next bw6 hw7
  clear hw7 bw6 rw6 cw6 xw6 uw6 rc0 rc1 rc2 cc0 cc1 cc2 cc3 xc0 xc1 xc2 uc0 uc1 uc2
  have rc0 := rw7.cell 0
  have rc1 := rw7.cell 1
  have rc2 := rw7.cell 2
  have cc0 := cw7.cell 0
  have cc1 := cw7.cell 1
  have cc2 := cw7.cell 2
  have cc3 := cw7.cell 3
  have xc0 := xw7.cell 0
  have xc1 := xw7.cell 1
  have xc2 := xw7.cell 2
  have uc0 := uw7.cell 0
  have uc1 := uw7.cell 1
  have uc2 := uw7.cell 2
  simp only [List.getElem?_toArray, List.getElem?_cons_zero, List.getElem?_cons_succ] at rc0 rc1 rc2 cc0 cc1 cc2 cc3 xc0 xc1 xc2 uc0 uc1 uc2
  have ro := fun o i => old_cell (w := w7) (g := w.heap.size) rw7.lt o i
  have co := fun o i => old_cell (w := w7) (g := (w.heap.size + 1)) cw7.lt o i
  have xo := fun o i => old_cell (w := w7) (g := w3.heap.size) xw7.lt o i
  have uo := fun o i => old_cell (w := w7) (g := w4.heap.size) uw7.lt o i
  go_wp2_with fail
  refine at_world fun W7 hW7 => ?_
  have rW7 : Blk W7 w.heap.size 41 #[.int .u32 (r0 : Nat), .int .u64 (r1 : Nat), .string ⟨r2.toArray⟩] := by rw [hW7]; exact rw7.alloc _
  have cW7 : Blk W7 (w.heap.size + 1) 43 #[.bool k0, .int .i64 k1, .int .u64 (k2 : Nat), .string ⟨k3.toArray⟩] := by rw [hW7]; exact cw7.alloc _
  have xW7 : Blk W7 w3.heap.size 41 #[.int .u32 (x0 : Nat), .int .u64 (x1 : Nat), .string ⟨x2.toArray⟩] := by rw [hW7]; exact xw7.alloc _
  have uW7 : Blk W7 w4.heap.size 41 #[.int .u32 (x0 : Nat), .int .u64 (x1 : Nat), .string ⟨x2.toArray⟩] := by rw [hW7]; exact uw7.alloc _
  have mW7 : Blk W7 w7.heap.size 43 #[.bool m0, .int .i64 m1, .int .u64 (m2 : Nat), .string ⟨m3.toArray⟩] := by rw [hW7]; exact Blk.new w7 _ _
  have sw7 := bw7.size
  have bW7 : Below w.heap.size w W7 := by rw [hW7]; (repeat' (first | (with_reducible assumption) | (with_reducible exact Below.refl _ _) | (with_reducible refine below_drewN ?_ _) | (with_reducible refine Below.drew ?_) | (with_reducible refine Below.setCell ?_ ?_ _) | (with_reducible refine Below.alloc ?_ ?_ _) | (with_reducible refine below_putObj ?_ ?_ _) | (with_reducible exact Nat.le_refl _) | omega | (simp; done) | (simp; omega)))
  clear hW7 bw7 sw7 rw7 cw7 xw7 uw7 rc0 rc1 rc2 cc0 cc1 cc2 cc3 xc0 xc1 xc2 uc0 uc1 uc2 ro co xo uo
  refine (H8.out _).mono ?_
  rintro e w8 ⟨rfl, hw8⟩
  have rw8 := rW7.below hw8 rW7.lt
  have cw8 := cW7.below hw8 cW7.lt
  have xw8 := xW7.below hw8 xW7.lt
  have uw8 := uW7.below hw8 uW7.lt
  have mw8 := mW7.below hw8 mW7.lt
  have bw8 := below_next bW7 hw8
  clear hw8 bW7 rW7 cW7 xW7 uW7 mW7 
  have rc0 := rw8.cell 0
  have rc1 := rw8.cell 1
  have rc2 := rw8.cell 2
  have cc0 := cw8.cell 0
  have cc1 := cw8.cell 1
  have cc2 := cw8.cell 2
  have cc3 := cw8.cell 3
  have xc0 := xw8.cell 0
  have xc1 := xw8.cell 1
  have xc2 := xw8.cell 2
  have uc0 := uw8.cell 0
  have uc1 := uw8.cell 1
  have uc2 := uw8.cell 2
  have mc0 := mw8.cell 0
  have mc1 := mw8.cell 1
  have mc2 := mw8.cell 2
  have mc3 := mw8.cell 3
  simp only [List.getElem?_toArray, List.getElem?_cons_zero, List.getElem?_cons_succ] at rc0 rc1 rc2 cc0 cc1 cc2 cc3 xc0 xc1 xc2 uc0 uc1 uc2 mc0 mc1 mc2 mc3
  have ro := fun o i => old_cell (w := w8) (g := w.heap.size) rw8.lt o i
  have co := fun o i => old_cell (w := w8) (g := (w.heap.size + 1)) cw8.lt o i
  have xo := fun o i => old_cell (w := w8) (g := w3.heap.size) xw8.lt o i
  have uo := fun o i => old_cell (w := w8) (g := w4.heap.size) uw8.lt o i
  have mo := fun o i => old_cell (w := w8) (g := w7.heap.size) mw8.lt o i
  go_wp2_with fail
  refine at_world fun W8 hW8 => ?_
  have rW8 : Blk W8 w.heap.size 41 #[.int .u32 (r0 : Nat), .int .u64 (r1 : Nat), .string ⟨r2.toArray⟩] := by rw [hW8]; exact rw8.alloc _
  have cW8 : Blk W8 (w.heap.size + 1) 43 #[.bool k0, .int .i64 k1, .int .u64 (k2 : Nat), .string ⟨k3.toArray⟩] := by rw [hW8]; exact cw8.alloc _
  have xW8 : Blk W8 w3.heap.size 41 #[.int .u32 (x0 : Nat), .int .u64 (x1 : Nat), .string ⟨x2.toArray⟩] := by rw [hW8]; exact xw8.alloc _
  have uW8 : Blk W8 w4.heap.size 41 #[.int .u32 (x0 : Nat), .int .u64 (x1 : Nat), .string ⟨x2.toArray⟩] := by rw [hW8]; exact uw8.alloc _
  have mW8 : Blk W8 w7.heap.size 43 #[.bool m0, .int .i64 m1, .int .u64 (m2 : Nat), .string ⟨m3.toArray⟩] := by rw [hW8]; exact mw8.alloc _
  have qW8 : Blk W8 w8.heap.size 43 #[.bool m0, .int .i64 m1, .int .u64 (m2 : Nat), .string ⟨m3.toArray⟩] := by rw [hW8]; exact Blk.new w8 _ _
  have sw8 := bw8.size
  have bW8 : Below w.heap.size w W8 := by rw [hW8]; (repeat' (first | (with_reducible assumption) | (with_reducible exact Below.refl _ _) | (with_reducible refine below_drewN ?_ _) | (with_reducible refine Below.drew ?_) | (with_reducible refine Below.setCell ?_ ?_ _) | (with_reducible refine Below.alloc ?_ ?_ _) | (with_reducible refine below_putObj ?_ ?_ _) | (with_reducible exact Nat.le_refl _) | omega | (simp; done) | (simp; omega)))
  clear hW8 bw8 sw8 rw8 cw8 xw8 uw8 mw8 rc0 rc1 rc2 cc0 cc1 cc2 cc3 xc0 xc1 xc2 uc0 uc1 uc2 mc0 mc1 mc2 mc3 ro co xo uo mo
  refine (HA.out _).mono ?_
  rintro e w9 ⟨rfl, hw9⟩
  have rw9 := rW8.below hw9 rW8.lt
  have cw9 := cW8.below hw9 cW8.lt
  have xw9 := xW8.below hw9 xW8.lt
  have uw9 := uW8.below hw9 uW8.lt
  have mw9 := mW8.below hw9 mW8.lt
  have qw9 := qW8.below hw9 qW8.lt
  have bw9 := below_next bW8 hw9
  clear hw9 bW8 rW8 cW8 xW8 uW8 mW8 qW8 
  have rc0 := rw9.cell 0
  have rc1 := rw9.cell 1
  have rc2 := rw9.cell 2
  have cc0 := cw9.cell 0
  have cc1 := cw9.cell 1
  have cc2 := cw9.cell 2
  have cc3 := cw9.cell 3
  have xc0 := xw9.cell 0
  have xc1 := xw9.cell 1
  have xc2 := xw9.cell 2
  have uc0 := uw9.cell 0
  have uc1 := uw9.cell 1
  have uc2 := uw9.cell 2
  have mc0 := mw9.cell 0
  have mc1 := mw9.cell 1
  have mc2 := mw9.cell 2
  have mc3 := mw9.cell 3
  have qc0 := qw9.cell 0
  have qc1 := qw9.cell 1
  have qc2 := qw9.cell 2
  have qc3 := qw9.cell 3
  simp only [List.getElem?_toArray, List.getElem?_cons_zero, List.getElem?_cons_succ] at rc0 rc1 rc2 cc0 cc1 cc2 cc3 xc0 xc1 xc2 uc0 uc1 uc2 mc0 mc1 mc2 mc3 qc0 qc1 qc2 qc3
  go_wp2
  go_ret
  exact ⟨rfl, bw9⟩

theorem repReads_any (r : Rep) (hr : r.wf) (c : Chunk) (hc : c.wf) (s : List UInt8) (n : Int) (w : World) :
    Calls Try.prog 4 #[repV r, chunkV c, .string ⟨s.toArray⟩, .int .i64 n] w (Gives (.bool true) w) := by
  obtain ⟨r0, r1, r2⟩ := r
  obtain ⟨k0, k1, k2, k3⟩ := c
  by_cases hg : r2.length ≤ 10000 ∧ k3.length ≤ 10000 ∧ s.length ≤ 20000
  case neg => exact repReads_long r0 r1 r2 k0 k1 k2 k3 s n (by omega) w
  exact repReads_walk r0 r1 r2 k0 k1 k2 k3 s n hr.err hr.cookie hc hg.1 hg.2.1 hg.2.2 _ _ _ _ _ _ _ _ _ _ _ _ _ _ _ rfl rfl rfl rfl w

end Go.Proofs.Ytcmocangmfengaa
