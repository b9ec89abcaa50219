/- The document's Ask: the walks. -/
import Derived.Test.YtfcojhpnpfodeaaMatAsk
namespace Go.Proofs.Ytfcojhpnpfodeaa
open Go.RowKit

theorem make_zeros (ln : Nat) (z : List UInt8) (hz : z = List.replicate ln 0) (X : World) : (convert 76 9 (.slice (some ⟨X.heap.size, 0, none⟩) ln ln)).run Try.prog (X.alloc (.cells (madeCells #[.int .u8 0] ln) 5)) = .ok (.string ⟨z.toArray⟩) (X.alloc (.cells (madeCells #[.int .u8 0] ln) 5)) := by
  have hl : z.length = ln := by rw [hz]; simp
  have h := run_convert_bytes_back (P := Try.prog) (X.alloc (.cells (madeCells #[.int .u8 0] ln) 5)) 76 9 5 ⟨X.heap.size, 0, none⟩ ln z Try.underlying76 Try.underlying5 Try.underlying9 (fun j hj => by
    rw [Addr.add, show (if j = 0 then (⟨X.heap.size, 0, none⟩ : Addr) else { (⟨X.heap.size, 0, none⟩ : Addr) with off := 0 + j, spot := none }) = ⟨X.heap.size, j, none⟩ from by split <;> simp_all]
    rw [(Blk.new X 5 (madeCells #[.int .u8 0] ln)).cell]
    subst hz
    simp at hj
    simp [madeCells, hj, Nat.mod_one])
  rw [hl] at h
  exact h
set_option maxRecDepth 100000 in
set_option maxHeartbeats 2000000 in
theorem raskr_dead (bf : List UInt8) (ch : Bool) (ad : Option Addr) (n cap : Nat) (fl kd : Int) (ck fr ln : Nat) (d : List UInt8) (F : Int) (w : World) (Q : Ending → World → Prop)
    (HE : Hid (∀ w', Below w.heap.size w w' → Q (.returned (.tuple #[.agg #[.string ⟨bf.toArray⟩, .bool ch, .slice ad n cap, .bool true], .string ⟨#[]⟩, .int .i64 24])) w'))
    : Calls Try.prog 20 #[.agg #[.string ⟨bf.toArray⟩, .bool ch, .slice ad n cap, .bool true], .agg #[.int .i64 fl, .int .i64 kd, .int .u64 (ck : Nat), .int .u64 (fr : Nat), .int .u32 (ln : Nat), .string ⟨d.toArray⟩]] w Q := by
  have mixed : Try.prog.follows .mixedOrders = true := by kernel_rfl
  go_enter Try.func20, Try.ntmps20
  go_wp2_with fail
  refine bodyPost_ret (v := .tuple #[.agg #[.string ⟨bf.toArray⟩, .bool ch, .slice ad n cap, .bool true], .string ⟨#[]⟩, .int .i64 24]) (by simp [results, Try.results20, go_sem]) rfl ?_
  exact HE.out _ (by (repeat' (first | (with_reducible assumption) | (with_reducible exact Below.refl _ _) | (with_reducible refine below_drewN ?_ _) | (with_reducible refine Below.drew ?_) | (with_reducible refine Below.setCell ?_ ?_ _) | (with_reducible refine Below.alloc ?_ ?_ _) | (with_reducible refine below_putObj ?_ ?_ _) | (with_reducible exact Nat.le_refl _) | omega | (simp; done) | (simp; omega))))

set_option maxRecDepth 100000 in
set_option maxHeartbeats 2000000 in
theorem raskr_unfit (bf : List UInt8) (ch : Bool) (ad : Option Addr) (n cap : Nat) (fl kd : Int) (ck fr ln : Nat) (d : List UInt8) (F : Int) (w : World) (Q : Ending → World → Prop)
    (HE : Hid (∀ w', Below w.heap.size w w' → Q (.returned (.tuple #[.agg #[.string ⟨bf.toArray⟩, .bool ch, .slice ad n cap, .bool false], .string ⟨#[]⟩, .int .i64 25])) w'))
    (HFT : Hid (∀ W, Calls Try.prog 31 #[.agg #[.int .i64 fl, .int .i64 kd, .int .u64 (ck : Nat), .int .u64 (fr : Nat), .int .u32 (ln : Nat), .string ⟨d.toArray⟩]] W (Gives (.bool false) W)))
    : Calls Try.prog 20 #[.agg #[.string ⟨bf.toArray⟩, .bool ch, .slice ad n cap, .bool false], .agg #[.int .i64 fl, .int .i64 kd, .int .u64 (ck : Nat), .int .u64 (fr : Nat), .int .u32 (ln : Nat), .string ⟨d.toArray⟩]] w Q := by
  have mixed : Try.prog.follows .mixedOrders = true := by kernel_rfl
  go_enter Try.func20, Try.ntmps20
  go_wp2_with fail
  have hg : Below w.heap.size w (((w.alloc (.cells #[.string ⟨bf.toArray⟩, .bool ch, .slice ad n cap, .bool false] 28)).alloc (.cells #[.int .i64 fl, .int .i64 kd, .int .u64 (ck : Nat), .int .u64 (fr : Nat), .int .u32 (ln : Nat), .string ⟨d.toArray⟩] 37)).alloc (.cells #[.string ⟨#[]⟩, .bool false, .slice none 0 0, .bool false] 28)) := by (repeat' (first | (with_reducible assumption) | (with_reducible exact Below.refl _ _) | (with_reducible refine below_drewN ?_ _) | (with_reducible refine Below.drew ?_) | (with_reducible refine Below.setCell ?_ ?_ _) | (with_reducible refine Below.alloc ?_ ?_ _) | (with_reducible refine below_putObj ?_ ?_ _) | (with_reducible exact Nat.le_refl _) | omega | (simp; done) | (simp; omega)))
  have M1 := ((Blk.new w 28 #[.string ⟨bf.toArray⟩, .bool ch, .slice ad n cap, .bool false]).alloc (.cells #[.int .i64 fl, .int .i64 kd, .int .u64 (ck : Nat), .int .u64 (fr : Nat), .int .u32 (ln : Nat), .string ⟨d.toArray⟩] 37)).alloc (.cells #[.string ⟨#[]⟩, .bool false, .slice none 0 0, .bool false] 28)
  have M2 : Blk (((w.alloc (.cells #[.string ⟨bf.toArray⟩, .bool ch, .slice ad n cap, .bool false] 28)).alloc (.cells #[.int .i64 fl, .int .i64 kd, .int .u64 (ck : Nat), .int .u64 (fr : Nat), .int .u32 (ln : Nat), .string ⟨d.toArray⟩] 37)).alloc (.cells #[.string ⟨#[]⟩, .bool false, .slice none 0 0, .bool false] 28)) (w.heap.size + 1) 37 #[.int .i64 fl, .int .i64 kd, .int .u64 (ck : Nat), .int .u64 (fr : Nat), .int .u32 (ln : Nat), .string ⟨d.toArray⟩] := (Blk.newAt (by simp)).alloc _
  have M3 : Blk (((w.alloc (.cells #[.string ⟨bf.toArray⟩, .bool ch, .slice ad n cap, .bool false] 28)).alloc (.cells #[.int .i64 fl, .int .i64 kd, .int .u64 (ck : Nat), .int .u64 (fr : Nat), .int .u32 (ln : Nat), .string ⟨d.toArray⟩] 37)).alloc (.cells #[.string ⟨#[]⟩, .bool false, .slice none 0 0, .bool false] 28)) (w.heap.size + 1 + 1) 28 #[.string ⟨#[]⟩, .bool false, .slice none 0 0, .bool false] := Blk.newAt (by simp)
  refine (HFT.out _).mono ?_
  rintro e w1 ⟨rfl, hb1⟩
  have N1 := M1.below hb1 M1.lt
  have N2 := M2.below hb1 M2.lt
  have N3 := M3.below hb1 M3.lt
  have b1 := below_next hg hb1
  clear hg hb1 M1 M2 M3 HFT
  have x0 := N1.cell 0
  have x1 := N1.cell 1
  have x2 := N1.cell 2
  have x3 := N1.cell 3
  have y0 := N2.cell 0
  have y1 := N2.cell 1
  have y2 := N2.cell 2
  have y3 := N2.cell 3
  have y4 := N2.cell 4
  have y5 := N2.cell 5
  have z0 := N3.frozen 0
  have u0 := N3.cell 0
  have z1 := N3.frozen 1
  have u1 := N3.cell 1
  have z2 := N3.frozen 2
  have u2 := N3.cell 2
  have z3 := N3.frozen 3
  have u3 := N3.cell 3
  simp only [List.getElem?_toArray, List.getElem?_cons_zero, List.getElem?_cons_succ] at x0 x1 x2 x3 y0 y1 y2 y3 y4 y5 u0 u1 u2 u3
  go_wp2_with fail
  refine bodyPost_ret (v := .tuple #[.agg #[.string ⟨bf.toArray⟩, .bool ch, .slice ad n cap, .bool false], .string ⟨#[]⟩, .int .i64 25]) (by simp [results, Try.results20, go_sem, u0, u1, u2, u3]) rfl ?_
  exact HE.out _ (by have s1 := b1.size; (repeat' (first | (with_reducible assumption) | (with_reducible exact Below.refl _ _) | (with_reducible refine below_drewN ?_ _) | (with_reducible refine Below.drew ?_) | (with_reducible refine Below.setCell ?_ ?_ _) | (with_reducible refine Below.alloc ?_ ?_ _) | (with_reducible refine below_putObj ?_ ?_ _) | (with_reducible exact Nat.le_refl _) | omega | (simp; done) | (simp; omega))))

set_option maxRecDepth 100000 in
set_option maxHeartbeats 2000000 in
theorem raskr_long (bf : List UInt8) (ch : Bool) (ad : Option Addr) (n cap : Nat) (fl kd : Int) (ck fr ln : Nat) (d : List UInt8) (F : Int) (w : World) (Q : Ending → World → Prop)
    (HE : Hid (∀ w', Below w.heap.size w w' → Q (.returned (.tuple #[.agg #[.string ⟨bf.toArray⟩, .bool ch, .slice ad n cap, .bool false], .string ⟨#[]⟩, .int .i64 25])) w'))
    (HFT : Hid (∀ W, Calls Try.prog 31 #[.agg #[.int .i64 fl, .int .i64 kd, .int .u64 (ck : Nat), .int .u64 (fr : Nat), .int .u32 (ln : Nat), .string ⟨d.toArray⟩]] W (Gives (.bool true) W)))
    (hk : (kd == 0) = true) (h5 : (4096 : Int) < (ln : Int)) : Calls Try.prog 20 #[.agg #[.string ⟨bf.toArray⟩, .bool ch, .slice ad n cap, .bool false], .agg #[.int .i64 fl, .int .i64 kd, .int .u64 (ck : Nat), .int .u64 (fr : Nat), .int .u32 (ln : Nat), .string ⟨d.toArray⟩]] w Q := by
  have mixed : Try.prog.follows .mixedOrders = true := by kernel_rfl
  go_enter Try.func20, Try.ntmps20
  go_wp2_with fail
  have hg : Below w.heap.size w (((w.alloc (.cells #[.string ⟨bf.toArray⟩, .bool ch, .slice ad n cap, .bool false] 28)).alloc (.cells #[.int .i64 fl, .int .i64 kd, .int .u64 (ck : Nat), .int .u64 (fr : Nat), .int .u32 (ln : Nat), .string ⟨d.toArray⟩] 37)).alloc (.cells #[.string ⟨#[]⟩, .bool false, .slice none 0 0, .bool false] 28)) := by (repeat' (first | (with_reducible assumption) | (with_reducible exact Below.refl _ _) | (with_reducible refine below_drewN ?_ _) | (with_reducible refine Below.drew ?_) | (with_reducible refine Below.setCell ?_ ?_ _) | (with_reducible refine Below.alloc ?_ ?_ _) | (with_reducible refine below_putObj ?_ ?_ _) | (with_reducible exact Nat.le_refl _) | omega | (simp; done) | (simp; omega)))
  have M1 := ((Blk.new w 28 #[.string ⟨bf.toArray⟩, .bool ch, .slice ad n cap, .bool false]).alloc (.cells #[.int .i64 fl, .int .i64 kd, .int .u64 (ck : Nat), .int .u64 (fr : Nat), .int .u32 (ln : Nat), .string ⟨d.toArray⟩] 37)).alloc (.cells #[.string ⟨#[]⟩, .bool false, .slice none 0 0, .bool false] 28)
  have M2 : Blk (((w.alloc (.cells #[.string ⟨bf.toArray⟩, .bool ch, .slice ad n cap, .bool false] 28)).alloc (.cells #[.int .i64 fl, .int .i64 kd, .int .u64 (ck : Nat), .int .u64 (fr : Nat), .int .u32 (ln : Nat), .string ⟨d.toArray⟩] 37)).alloc (.cells #[.string ⟨#[]⟩, .bool false, .slice none 0 0, .bool false] 28)) (w.heap.size + 1) 37 #[.int .i64 fl, .int .i64 kd, .int .u64 (ck : Nat), .int .u64 (fr : Nat), .int .u32 (ln : Nat), .string ⟨d.toArray⟩] := (Blk.newAt (by simp)).alloc _
  have M3 : Blk (((w.alloc (.cells #[.string ⟨bf.toArray⟩, .bool ch, .slice ad n cap, .bool false] 28)).alloc (.cells #[.int .i64 fl, .int .i64 kd, .int .u64 (ck : Nat), .int .u64 (fr : Nat), .int .u32 (ln : Nat), .string ⟨d.toArray⟩] 37)).alloc (.cells #[.string ⟨#[]⟩, .bool false, .slice none 0 0, .bool false] 28)) (w.heap.size + 1 + 1) 28 #[.string ⟨#[]⟩, .bool false, .slice none 0 0, .bool false] := Blk.newAt (by simp)
  refine (HFT.out _).mono ?_
  rintro e w1 ⟨rfl, hb1⟩
  have N1 := M1.below hb1 M1.lt
  have N2 := M2.below hb1 M2.lt
  have N3 := M3.below hb1 M3.lt
  have b1 := below_next hg hb1
  clear hg hb1 M1 M2 M3 HFT
  have x0 := N1.cell 0
  have x1 := N1.cell 1
  have x2 := N1.cell 2
  have x3 := N1.cell 3
  have y0 := N2.cell 0
  have y1 := N2.cell 1
  have y2 := N2.cell 2
  have y3 := N2.cell 3
  have y4 := N2.cell 4
  have y5 := N2.cell 5
  have z0 := N3.frozen 0
  have u0 := N3.cell 0
  have z1 := N3.frozen 1
  have u1 := N3.cell 1
  have z2 := N3.frozen 2
  have u2 := N3.cell 2
  have z3 := N3.frozen 3
  have u3 := N3.cell 3
  simp only [List.getElem?_toArray, List.getElem?_cons_zero, List.getElem?_cons_succ] at x0 x1 x2 x3 y0 y1 y2 y3 y4 y5 u0 u1 u2 u3
  go_wp2_with fail
  refine bodyPost_ret (v := .tuple #[.agg #[.string ⟨bf.toArray⟩, .bool ch, .slice ad n cap, .bool false], .string ⟨#[]⟩, .int .i64 25]) (by simp [results, Try.results20, go_sem, u0, u1, u2, u3]) rfl ?_
  exact HE.out _ (by have s1 := b1.size; (repeat' (first | (with_reducible assumption) | (with_reducible exact Below.refl _ _) | (with_reducible refine below_drewN ?_ _) | (with_reducible refine Below.drew ?_) | (with_reducible refine Below.setCell ?_ ?_ _) | (with_reducible refine Below.alloc ?_ ?_ _) | (with_reducible refine below_putObj ?_ ?_ _) | (with_reducible exact Nat.le_refl _) | omega | (simp; done) | (simp; omega))))

set_option maxRecDepth 100000 in
set_option maxHeartbeats 2000000 in
theorem raskr_twice_read (bf : List UInt8) (ch : Bool) (ad : Option Addr) (n cap : Nat) (fl kd : Int) (ck fr ln : Nat) (d : List UInt8) (F : Int) (w : World) (Q : Ending → World → Prop)
    (HE : Hid (∀ w', Below w.heap.size w w' → Q (.returned (.tuple #[.agg #[.string ⟨bf.toArray⟩, .bool ch, .slice ad n cap, .bool false], .string ⟨#[]⟩, .int .i64 20])) w'))
    (HFT : Hid (∀ W, Calls Try.prog 31 #[.agg #[.int .i64 fl, .int .i64 kd, .int .u64 (ck : Nat), .int .u64 (fr : Nat), .int .u32 (ln : Nat), .string ⟨d.toArray⟩]] W (Gives (.bool true) W)))
    (HFD : Hid (∀ W, Below w.heap.size w W → Calls Try.prog 32 #[.agg #[.string ⟨bf.toArray⟩, .bool ch, .slice ad n cap, .bool false], .int .u64 (ck : Nat)] W (Gives (.int .i64 F) W)))
    (h4 : 0 ≤ F) (hk : (kd == 0) = true) (h7 : ¬ (4096 : Int) < (ln : Int)) : Calls Try.prog 20 #[.agg #[.string ⟨bf.toArray⟩, .bool ch, .slice ad n cap, .bool false], .agg #[.int .i64 fl, .int .i64 kd, .int .u64 (ck : Nat), .int .u64 (fr : Nat), .int .u32 (ln : Nat), .string ⟨d.toArray⟩]] w Q := by
  have mixed : Try.prog.follows .mixedOrders = true := by kernel_rfl
  go_enter Try.func20, Try.ntmps20
  go_wp2_with fail
  have hg : Below w.heap.size w (((w.alloc (.cells #[.string ⟨bf.toArray⟩, .bool ch, .slice ad n cap, .bool false] 28)).alloc (.cells #[.int .i64 fl, .int .i64 kd, .int .u64 (ck : Nat), .int .u64 (fr : Nat), .int .u32 (ln : Nat), .string ⟨d.toArray⟩] 37)).alloc (.cells #[.string ⟨#[]⟩, .bool false, .slice none 0 0, .bool false] 28)) := by (repeat' (first | (with_reducible assumption) | (with_reducible exact Below.refl _ _) | (with_reducible refine below_drewN ?_ _) | (with_reducible refine Below.drew ?_) | (with_reducible refine Below.setCell ?_ ?_ _) | (with_reducible refine Below.alloc ?_ ?_ _) | (with_reducible refine below_putObj ?_ ?_ _) | (with_reducible exact Nat.le_refl _) | omega | (simp; done) | (simp; omega)))
  have M1 := ((Blk.new w 28 #[.string ⟨bf.toArray⟩, .bool ch, .slice ad n cap, .bool false]).alloc (.cells #[.int .i64 fl, .int .i64 kd, .int .u64 (ck : Nat), .int .u64 (fr : Nat), .int .u32 (ln : Nat), .string ⟨d.toArray⟩] 37)).alloc (.cells #[.string ⟨#[]⟩, .bool false, .slice none 0 0, .bool false] 28)
  have M2 : Blk (((w.alloc (.cells #[.string ⟨bf.toArray⟩, .bool ch, .slice ad n cap, .bool false] 28)).alloc (.cells #[.int .i64 fl, .int .i64 kd, .int .u64 (ck : Nat), .int .u64 (fr : Nat), .int .u32 (ln : Nat), .string ⟨d.toArray⟩] 37)).alloc (.cells #[.string ⟨#[]⟩, .bool false, .slice none 0 0, .bool false] 28)) (w.heap.size + 1) 37 #[.int .i64 fl, .int .i64 kd, .int .u64 (ck : Nat), .int .u64 (fr : Nat), .int .u32 (ln : Nat), .string ⟨d.toArray⟩] := (Blk.newAt (by simp)).alloc _
  have M3 : Blk (((w.alloc (.cells #[.string ⟨bf.toArray⟩, .bool ch, .slice ad n cap, .bool false] 28)).alloc (.cells #[.int .i64 fl, .int .i64 kd, .int .u64 (ck : Nat), .int .u64 (fr : Nat), .int .u32 (ln : Nat), .string ⟨d.toArray⟩] 37)).alloc (.cells #[.string ⟨#[]⟩, .bool false, .slice none 0 0, .bool false] 28)) (w.heap.size + 1 + 1) 28 #[.string ⟨#[]⟩, .bool false, .slice none 0 0, .bool false] := Blk.newAt (by simp)
  refine (HFT.out _).mono ?_
  rintro e w1 ⟨rfl, hb1⟩
  have N1 := M1.below hb1 M1.lt
  have N2 := M2.below hb1 M2.lt
  have N3 := M3.below hb1 M3.lt
  have b1 := below_next hg hb1
  clear hg hb1 M1 M2 M3 HFT
  have x0 := N1.cell 0
  have x1 := N1.cell 1
  have x2 := N1.cell 2
  have x3 := N1.cell 3
  have y0 := N2.cell 0
  have y1 := N2.cell 1
  have y2 := N2.cell 2
  have y3 := N2.cell 3
  have y4 := N2.cell 4
  have y5 := N2.cell 5
  have z0 := N3.frozen 0
  have u0 := N3.cell 0
  have z1 := N3.frozen 1
  have u1 := N3.cell 1
  have z2 := N3.frozen 2
  have u2 := N3.cell 2
  have z3 := N3.frozen 3
  have u3 := N3.cell 3
  simp only [List.getElem?_toArray, List.getElem?_cons_zero, List.getElem?_cons_succ] at x0 x1 x2 x3 y0 y1 y2 y3 y4 y5 u0 u1 u2 u3
  go_wp2_with fail
  refine (HFD.out _ b1).mono ?_
  rintro e w2 ⟨rfl, hb2⟩
  clear x0 x1 x2 x3 y0 y1 y2 y3 y4 y5 u0 u1 u2 u3 z0 z1 z2 z3
  replace N1 := N1.below hb2 N1.lt
  replace N2 := N2.below hb2 N2.lt
  replace N3 := N3.below hb2 N3.lt
  have b2 := below_next b1 hb2
  clear b1 hb2 HFD
  have x0 := N1.cell 0
  have x1 := N1.cell 1
  have x2 := N1.cell 2
  have x3 := N1.cell 3
  have y0 := N2.cell 0
  have y1 := N2.cell 1
  have y2 := N2.cell 2
  have y3 := N2.cell 3
  have y4 := N2.cell 4
  have y5 := N2.cell 5
  have z0 := N3.frozen 0
  have u0 := N3.cell 0
  have z1 := N3.frozen 1
  have u1 := N3.cell 1
  have z2 := N3.frozen 2
  have u2 := N3.cell 2
  have z3 := N3.frozen 3
  have u3 := N3.cell 3
  simp only [List.getElem?_toArray, List.getElem?_cons_zero, List.getElem?_cons_succ] at x0 x1 x2 x3 y0 y1 y2 y3 y4 y5 u0 u1 u2 u3
  go_wp2_with fail
  refine bodyPost_ret (v := .tuple #[.agg #[.string ⟨bf.toArray⟩, .bool ch, .slice ad n cap, .bool false], .string ⟨#[]⟩, .int .i64 20]) (by simp [results, Try.results20, go_sem, u0, u1, u2, u3]) rfl ?_
  exact HE.out _ (by have s1 := b2.size; (repeat' (first | (with_reducible assumption) | (with_reducible exact Below.refl _ _) | (with_reducible refine below_drewN ?_ _) | (with_reducible refine Below.drew ?_) | (with_reducible refine Below.setCell ?_ ?_ _) | (with_reducible refine Below.alloc ?_ ?_ _) | (with_reducible refine below_putObj ?_ ?_ _) | (with_reducible exact Nat.le_refl _) | omega | (simp; done) | (simp; omega))))

set_option maxRecDepth 100000 in
set_option maxHeartbeats 2000000 in
theorem raskr_twice (bf : List UInt8) (ch : Bool) (ad : Option Addr) (n cap : Nat) (fl kd : Int) (ck fr ln : Nat) (d : List UInt8) (F : Int) (w : World) (Q : Ending → World → Prop)
    (HE : Hid (∀ w', Below w.heap.size w w' → Q (.returned (.tuple #[.agg #[.string ⟨bf.toArray⟩, .bool ch, .slice ad n cap, .bool false], .string ⟨#[]⟩, .int .i64 20])) w'))
    (HFT : Hid (∀ W, Calls Try.prog 31 #[.agg #[.int .i64 fl, .int .i64 kd, .int .u64 (ck : Nat), .int .u64 (fr : Nat), .int .u32 (ln : Nat), .string ⟨d.toArray⟩]] W (Gives (.bool true) W)))
    (HFD : Hid (∀ W, Below w.heap.size w W → Calls Try.prog 32 #[.agg #[.string ⟨bf.toArray⟩, .bool ch, .slice ad n cap, .bool false], .int .u64 (ck : Nat)] W (Gives (.int .i64 F) W)))
    (h4 : 0 ≤ F) (hk : (kd == 0) = false) : Calls Try.prog 20 #[.agg #[.string ⟨bf.toArray⟩, .bool ch, .slice ad n cap, .bool false], .agg #[.int .i64 fl, .int .i64 kd, .int .u64 (ck : Nat), .int .u64 (fr : Nat), .int .u32 (ln : Nat), .string ⟨d.toArray⟩]] w Q := by
  have mixed : Try.prog.follows .mixedOrders = true := by kernel_rfl
  go_enter Try.func20, Try.ntmps20
  go_wp2_with fail
  have hg : Below w.heap.size w (((w.alloc (.cells #[.string ⟨bf.toArray⟩, .bool ch, .slice ad n cap, .bool false] 28)).alloc (.cells #[.int .i64 fl, .int .i64 kd, .int .u64 (ck : Nat), .int .u64 (fr : Nat), .int .u32 (ln : Nat), .string ⟨d.toArray⟩] 37)).alloc (.cells #[.string ⟨#[]⟩, .bool false, .slice none 0 0, .bool false] 28)) := by (repeat' (first | (with_reducible assumption) | (with_reducible exact Below.refl _ _) | (with_reducible refine below_drewN ?_ _) | (with_reducible refine Below.drew ?_) | (with_reducible refine Below.setCell ?_ ?_ _) | (with_reducible refine Below.alloc ?_ ?_ _) | (with_reducible refine below_putObj ?_ ?_ _) | (with_reducible exact Nat.le_refl _) | omega | (simp; done) | (simp; omega)))
  have M1 := ((Blk.new w 28 #[.string ⟨bf.toArray⟩, .bool ch, .slice ad n cap, .bool false]).alloc (.cells #[.int .i64 fl, .int .i64 kd, .int .u64 (ck : Nat), .int .u64 (fr : Nat), .int .u32 (ln : Nat), .string ⟨d.toArray⟩] 37)).alloc (.cells #[.string ⟨#[]⟩, .bool false, .slice none 0 0, .bool false] 28)
  have M2 : Blk (((w.alloc (.cells #[.string ⟨bf.toArray⟩, .bool ch, .slice ad n cap, .bool false] 28)).alloc (.cells #[.int .i64 fl, .int .i64 kd, .int .u64 (ck : Nat), .int .u64 (fr : Nat), .int .u32 (ln : Nat), .string ⟨d.toArray⟩] 37)).alloc (.cells #[.string ⟨#[]⟩, .bool false, .slice none 0 0, .bool false] 28)) (w.heap.size + 1) 37 #[.int .i64 fl, .int .i64 kd, .int .u64 (ck : Nat), .int .u64 (fr : Nat), .int .u32 (ln : Nat), .string ⟨d.toArray⟩] := (Blk.newAt (by simp)).alloc _
  have M3 : Blk (((w.alloc (.cells #[.string ⟨bf.toArray⟩, .bool ch, .slice ad n cap, .bool false] 28)).alloc (.cells #[.int .i64 fl, .int .i64 kd, .int .u64 (ck : Nat), .int .u64 (fr : Nat), .int .u32 (ln : Nat), .string ⟨d.toArray⟩] 37)).alloc (.cells #[.string ⟨#[]⟩, .bool false, .slice none 0 0, .bool false] 28)) (w.heap.size + 1 + 1) 28 #[.string ⟨#[]⟩, .bool false, .slice none 0 0, .bool false] := Blk.newAt (by simp)
  refine (HFT.out _).mono ?_
  rintro e w1 ⟨rfl, hb1⟩
  have N1 := M1.below hb1 M1.lt
  have N2 := M2.below hb1 M2.lt
  have N3 := M3.below hb1 M3.lt
  have b1 := below_next hg hb1
  clear hg hb1 M1 M2 M3 HFT
  have x0 := N1.cell 0
  have x1 := N1.cell 1
  have x2 := N1.cell 2
  have x3 := N1.cell 3
  have y0 := N2.cell 0
  have y1 := N2.cell 1
  have y2 := N2.cell 2
  have y3 := N2.cell 3
  have y4 := N2.cell 4
  have y5 := N2.cell 5
  have z0 := N3.frozen 0
  have u0 := N3.cell 0
  have z1 := N3.frozen 1
  have u1 := N3.cell 1
  have z2 := N3.frozen 2
  have u2 := N3.cell 2
  have z3 := N3.frozen 3
  have u3 := N3.cell 3
  simp only [List.getElem?_toArray, List.getElem?_cons_zero, List.getElem?_cons_succ] at x0 x1 x2 x3 y0 y1 y2 y3 y4 y5 u0 u1 u2 u3
  go_wp2_with fail
  refine (HFD.out _ b1).mono ?_
  rintro e w2 ⟨rfl, hb2⟩
  clear x0 x1 x2 x3 y0 y1 y2 y3 y4 y5 u0 u1 u2 u3 z0 z1 z2 z3
  replace N1 := N1.below hb2 N1.lt
  replace N2 := N2.below hb2 N2.lt
  replace N3 := N3.below hb2 N3.lt
  have b2 := below_next b1 hb2
  clear b1 hb2 HFD
  have x0 := N1.cell 0
  have x1 := N1.cell 1
  have x2 := N1.cell 2
  have x3 := N1.cell 3
  have y0 := N2.cell 0
  have y1 := N2.cell 1
  have y2 := N2.cell 2
  have y3 := N2.cell 3
  have y4 := N2.cell 4
  have y5 := N2.cell 5
  have z0 := N3.frozen 0
  have u0 := N3.cell 0
  have z1 := N3.frozen 1
  have u1 := N3.cell 1
  have z2 := N3.frozen 2
  have u2 := N3.cell 2
  have z3 := N3.frozen 3
  have u3 := N3.cell 3
  simp only [List.getElem?_toArray, List.getElem?_cons_zero, List.getElem?_cons_succ] at x0 x1 x2 x3 y0 y1 y2 y3 y4 y5 u0 u1 u2 u3
  go_wp2_with fail
  refine bodyPost_ret (v := .tuple #[.agg #[.string ⟨bf.toArray⟩, .bool ch, .slice ad n cap, .bool false], .string ⟨#[]⟩, .int .i64 20]) (by simp [results, Try.results20, go_sem, u0, u1, u2, u3]) rfl ?_
  exact HE.out _ (by have s1 := b2.size; (repeat' (first | (with_reducible assumption) | (with_reducible exact Below.refl _ _) | (with_reducible refine below_drewN ?_ _) | (with_reducible refine Below.drew ?_) | (with_reducible refine Below.setCell ?_ ?_ _) | (with_reducible refine Below.alloc ?_ ?_ _) | (with_reducible refine below_putObj ?_ ?_ _) | (with_reducible exact Nat.le_refl _) | omega | (simp; done) | (simp; omega))))

set_option maxRecDepth 100000 in
set_option maxHeartbeats 2000000 in
theorem raskr_many_read (bf : List UInt8) (ch : Bool) (ad : Option Addr) (n cap : Nat) (fl kd : Int) (ck fr ln : Nat) (d : List UInt8) (F : Int) (w : World) (Q : Ending → World → Prop)
    (HE : Hid (∀ w', Below w.heap.size w w' → Q (.returned (.tuple #[.agg #[.string ⟨bf.toArray⟩, .bool ch, .slice ad n cap, .bool false], .string ⟨#[]⟩, .int .i64 16])) w'))
    (HFT : Hid (∀ W, Calls Try.prog 31 #[.agg #[.int .i64 fl, .int .i64 kd, .int .u64 (ck : Nat), .int .u64 (fr : Nat), .int .u32 (ln : Nat), .string ⟨d.toArray⟩]] W (Gives (.bool true) W)))
    (HFD : Hid (∀ W, Below w.heap.size w W → Calls Try.prog 32 #[.agg #[.string ⟨bf.toArray⟩, .bool ch, .slice ad n cap, .bool false], .int .u64 (ck : Nat)] W (Gives (.int .i64 F) W)))
    (h4 : F = -1) (h5 : 8 ≤ n) (hk : (kd == 0) = true) (h7 : ¬ (4096 : Int) < (ln : Int)) : Calls Try.prog 20 #[.agg #[.string ⟨bf.toArray⟩, .bool ch, .slice ad n cap, .bool false], .agg #[.int .i64 fl, .int .i64 kd, .int .u64 (ck : Nat), .int .u64 (fr : Nat), .int .u32 (ln : Nat), .string ⟨d.toArray⟩]] w Q := by
  have mixed : Try.prog.follows .mixedOrders = true := by kernel_rfl
  subst h4
  have h6 : (8 : Int) ≤ (n : Int) := by omega
  go_enter Try.func20, Try.ntmps20
  go_wp2_with fail
  have hg : Below w.heap.size w (((w.alloc (.cells #[.string ⟨bf.toArray⟩, .bool ch, .slice ad n cap, .bool false] 28)).alloc (.cells #[.int .i64 fl, .int .i64 kd, .int .u64 (ck : Nat), .int .u64 (fr : Nat), .int .u32 (ln : Nat), .string ⟨d.toArray⟩] 37)).alloc (.cells #[.string ⟨#[]⟩, .bool false, .slice none 0 0, .bool false] 28)) := by (repeat' (first | (with_reducible assumption) | (with_reducible exact Below.refl _ _) | (with_reducible refine below_drewN ?_ _) | (with_reducible refine Below.drew ?_) | (with_reducible refine Below.setCell ?_ ?_ _) | (with_reducible refine Below.alloc ?_ ?_ _) | (with_reducible refine below_putObj ?_ ?_ _) | (with_reducible exact Nat.le_refl _) | omega | (simp; done) | (simp; omega)))
  have M1 := ((Blk.new w 28 #[.string ⟨bf.toArray⟩, .bool ch, .slice ad n cap, .bool false]).alloc (.cells #[.int .i64 fl, .int .i64 kd, .int .u64 (ck : Nat), .int .u64 (fr : Nat), .int .u32 (ln : Nat), .string ⟨d.toArray⟩] 37)).alloc (.cells #[.string ⟨#[]⟩, .bool false, .slice none 0 0, .bool false] 28)
  have M2 : Blk (((w.alloc (.cells #[.string ⟨bf.toArray⟩, .bool ch, .slice ad n cap, .bool false] 28)).alloc (.cells #[.int .i64 fl, .int .i64 kd, .int .u64 (ck : Nat), .int .u64 (fr : Nat), .int .u32 (ln : Nat), .string ⟨d.toArray⟩] 37)).alloc (.cells #[.string ⟨#[]⟩, .bool false, .slice none 0 0, .bool false] 28)) (w.heap.size + 1) 37 #[.int .i64 fl, .int .i64 kd, .int .u64 (ck : Nat), .int .u64 (fr : Nat), .int .u32 (ln : Nat), .string ⟨d.toArray⟩] := (Blk.newAt (by simp)).alloc _
  have M3 : Blk (((w.alloc (.cells #[.string ⟨bf.toArray⟩, .bool ch, .slice ad n cap, .bool false] 28)).alloc (.cells #[.int .i64 fl, .int .i64 kd, .int .u64 (ck : Nat), .int .u64 (fr : Nat), .int .u32 (ln : Nat), .string ⟨d.toArray⟩] 37)).alloc (.cells #[.string ⟨#[]⟩, .bool false, .slice none 0 0, .bool false] 28)) (w.heap.size + 1 + 1) 28 #[.string ⟨#[]⟩, .bool false, .slice none 0 0, .bool false] := Blk.newAt (by simp)
  refine (HFT.out _).mono ?_
  rintro e w1 ⟨rfl, hb1⟩
  have N1 := M1.below hb1 M1.lt
  have N2 := M2.below hb1 M2.lt
  have N3 := M3.below hb1 M3.lt
  have b1 := below_next hg hb1
  clear hg hb1 M1 M2 M3 HFT
  have x0 := N1.cell 0
  have x1 := N1.cell 1
  have x2 := N1.cell 2
  have x3 := N1.cell 3
  have y0 := N2.cell 0
  have y1 := N2.cell 1
  have y2 := N2.cell 2
  have y3 := N2.cell 3
  have y4 := N2.cell 4
  have y5 := N2.cell 5
  have z0 := N3.frozen 0
  have u0 := N3.cell 0
  have z1 := N3.frozen 1
  have u1 := N3.cell 1
  have z2 := N3.frozen 2
  have u2 := N3.cell 2
  have z3 := N3.frozen 3
  have u3 := N3.cell 3
  simp only [List.getElem?_toArray, List.getElem?_cons_zero, List.getElem?_cons_succ] at x0 x1 x2 x3 y0 y1 y2 y3 y4 y5 u0 u1 u2 u3
  go_wp2_with fail
  refine (HFD.out _ b1).mono ?_
  rintro e w2 ⟨rfl, hb2⟩
  clear x0 x1 x2 x3 y0 y1 y2 y3 y4 y5 u0 u1 u2 u3 z0 z1 z2 z3
  replace N1 := N1.below hb2 N1.lt
  replace N2 := N2.below hb2 N2.lt
  replace N3 := N3.below hb2 N3.lt
  have b2 := below_next b1 hb2
  clear b1 hb2 HFD
  have x0 := N1.cell 0
  have x1 := N1.cell 1
  have x2 := N1.cell 2
  have x3 := N1.cell 3
  have y0 := N2.cell 0
  have y1 := N2.cell 1
  have y2 := N2.cell 2
  have y3 := N2.cell 3
  have y4 := N2.cell 4
  have y5 := N2.cell 5
  have z0 := N3.frozen 0
  have u0 := N3.cell 0
  have z1 := N3.frozen 1
  have u1 := N3.cell 1
  have z2 := N3.frozen 2
  have u2 := N3.cell 2
  have z3 := N3.frozen 3
  have u3 := N3.cell 3
  simp only [List.getElem?_toArray, List.getElem?_cons_zero, List.getElem?_cons_succ] at x0 x1 x2 x3 y0 y1 y2 y3 y4 y5 u0 u1 u2 u3
  go_wp2_with fail
  refine bodyPost_ret (v := .tuple #[.agg #[.string ⟨bf.toArray⟩, .bool ch, .slice ad n cap, .bool false], .string ⟨#[]⟩, .int .i64 16]) (by simp [results, Try.results20, go_sem, u0, u1, u2, u3]) rfl ?_
  exact HE.out _ (by have s1 := b2.size; (repeat' (first | (with_reducible assumption) | (with_reducible exact Below.refl _ _) | (with_reducible refine below_drewN ?_ _) | (with_reducible refine Below.drew ?_) | (with_reducible refine Below.setCell ?_ ?_ _) | (with_reducible refine Below.alloc ?_ ?_ _) | (with_reducible refine below_putObj ?_ ?_ _) | (with_reducible exact Nat.le_refl _) | omega | (simp; done) | (simp; omega))))

set_option maxRecDepth 100000 in
set_option maxHeartbeats 2000000 in
theorem raskr_many (bf : List UInt8) (ch : Bool) (ad : Option Addr) (n cap : Nat) (fl kd : Int) (ck fr ln : Nat) (d : List UInt8) (F : Int) (w : World) (Q : Ending → World → Prop)
    (HE : Hid (∀ w', Below w.heap.size w w' → Q (.returned (.tuple #[.agg #[.string ⟨bf.toArray⟩, .bool ch, .slice ad n cap, .bool false], .string ⟨#[]⟩, .int .i64 16])) w'))
    (HFT : Hid (∀ W, Calls Try.prog 31 #[.agg #[.int .i64 fl, .int .i64 kd, .int .u64 (ck : Nat), .int .u64 (fr : Nat), .int .u32 (ln : Nat), .string ⟨d.toArray⟩]] W (Gives (.bool true) W)))
    (HFD : Hid (∀ W, Below w.heap.size w W → Calls Try.prog 32 #[.agg #[.string ⟨bf.toArray⟩, .bool ch, .slice ad n cap, .bool false], .int .u64 (ck : Nat)] W (Gives (.int .i64 F) W)))
    (h4 : F = -1) (h5 : 8 ≤ n) (hk : (kd == 0) = false) : Calls Try.prog 20 #[.agg #[.string ⟨bf.toArray⟩, .bool ch, .slice ad n cap, .bool false], .agg #[.int .i64 fl, .int .i64 kd, .int .u64 (ck : Nat), .int .u64 (fr : Nat), .int .u32 (ln : Nat), .string ⟨d.toArray⟩]] w Q := by
  have mixed : Try.prog.follows .mixedOrders = true := by kernel_rfl
  subst h4
  have h6 : (8 : Int) ≤ (n : Int) := by omega
  go_enter Try.func20, Try.ntmps20
  go_wp2_with fail
  have hg : Below w.heap.size w (((w.alloc (.cells #[.string ⟨bf.toArray⟩, .bool ch, .slice ad n cap, .bool false] 28)).alloc (.cells #[.int .i64 fl, .int .i64 kd, .int .u64 (ck : Nat), .int .u64 (fr : Nat), .int .u32 (ln : Nat), .string ⟨d.toArray⟩] 37)).alloc (.cells #[.string ⟨#[]⟩, .bool false, .slice none 0 0, .bool false] 28)) := by (repeat' (first | (with_reducible assumption) | (with_reducible exact Below.refl _ _) | (with_reducible refine below_drewN ?_ _) | (with_reducible refine Below.drew ?_) | (with_reducible refine Below.setCell ?_ ?_ _) | (with_reducible refine Below.alloc ?_ ?_ _) | (with_reducible refine below_putObj ?_ ?_ _) | (with_reducible exact Nat.le_refl _) | omega | (simp; done) | (simp; omega)))
  have M1 := ((Blk.new w 28 #[.string ⟨bf.toArray⟩, .bool ch, .slice ad n cap, .bool false]).alloc (.cells #[.int .i64 fl, .int .i64 kd, .int .u64 (ck : Nat), .int .u64 (fr : Nat), .int .u32 (ln : Nat), .string ⟨d.toArray⟩] 37)).alloc (.cells #[.string ⟨#[]⟩, .bool false, .slice none 0 0, .bool false] 28)
  have M2 : Blk (((w.alloc (.cells #[.string ⟨bf.toArray⟩, .bool ch, .slice ad n cap, .bool false] 28)).alloc (.cells #[.int .i64 fl, .int .i64 kd, .int .u64 (ck : Nat), .int .u64 (fr : Nat), .int .u32 (ln : Nat), .string ⟨d.toArray⟩] 37)).alloc (.cells #[.string ⟨#[]⟩, .bool false, .slice none 0 0, .bool false] 28)) (w.heap.size + 1) 37 #[.int .i64 fl, .int .i64 kd, .int .u64 (ck : Nat), .int .u64 (fr : Nat), .int .u32 (ln : Nat), .string ⟨d.toArray⟩] := (Blk.newAt (by simp)).alloc _
  have M3 : Blk (((w.alloc (.cells #[.string ⟨bf.toArray⟩, .bool ch, .slice ad n cap, .bool false] 28)).alloc (.cells #[.int .i64 fl, .int .i64 kd, .int .u64 (ck : Nat), .int .u64 (fr : Nat), .int .u32 (ln : Nat), .string ⟨d.toArray⟩] 37)).alloc (.cells #[.string ⟨#[]⟩, .bool false, .slice none 0 0, .bool false] 28)) (w.heap.size + 1 + 1) 28 #[.string ⟨#[]⟩, .bool false, .slice none 0 0, .bool false] := Blk.newAt (by simp)
  refine (HFT.out _).mono ?_
  rintro e w1 ⟨rfl, hb1⟩
  have N1 := M1.below hb1 M1.lt
  have N2 := M2.below hb1 M2.lt
  have N3 := M3.below hb1 M3.lt
  have b1 := below_next hg hb1
  clear hg hb1 M1 M2 M3 HFT
  have x0 := N1.cell 0
  have x1 := N1.cell 1
  have x2 := N1.cell 2
  have x3 := N1.cell 3
  have y0 := N2.cell 0
  have y1 := N2.cell 1
  have y2 := N2.cell 2
  have y3 := N2.cell 3
  have y4 := N2.cell 4
  have y5 := N2.cell 5
  have z0 := N3.frozen 0
  have u0 := N3.cell 0
  have z1 := N3.frozen 1
  have u1 := N3.cell 1
  have z2 := N3.frozen 2
  have u2 := N3.cell 2
  have z3 := N3.frozen 3
  have u3 := N3.cell 3
  simp only [List.getElem?_toArray, List.getElem?_cons_zero, List.getElem?_cons_succ] at x0 x1 x2 x3 y0 y1 y2 y3 y4 y5 u0 u1 u2 u3
  go_wp2_with fail
  refine (HFD.out _ b1).mono ?_
  rintro e w2 ⟨rfl, hb2⟩
  clear x0 x1 x2 x3 y0 y1 y2 y3 y4 y5 u0 u1 u2 u3 z0 z1 z2 z3
  replace N1 := N1.below hb2 N1.lt
  replace N2 := N2.below hb2 N2.lt
  replace N3 := N3.below hb2 N3.lt
  have b2 := below_next b1 hb2
  clear b1 hb2 HFD
  have x0 := N1.cell 0
  have x1 := N1.cell 1
  have x2 := N1.cell 2
  have x3 := N1.cell 3
  have y0 := N2.cell 0
  have y1 := N2.cell 1
  have y2 := N2.cell 2
  have y3 := N2.cell 3
  have y4 := N2.cell 4
  have y5 := N2.cell 5
  have z0 := N3.frozen 0
  have u0 := N3.cell 0
  have z1 := N3.frozen 1
  have u1 := N3.cell 1
  have z2 := N3.frozen 2
  have u2 := N3.cell 2
  have z3 := N3.frozen 3
  have u3 := N3.cell 3
  simp only [List.getElem?_toArray, List.getElem?_cons_zero, List.getElem?_cons_succ] at x0 x1 x2 x3 y0 y1 y2 y3 y4 y5 u0 u1 u2 u3
  go_wp2_with fail
  refine bodyPost_ret (v := .tuple #[.agg #[.string ⟨bf.toArray⟩, .bool ch, .slice ad n cap, .bool false], .string ⟨#[]⟩, .int .i64 16]) (by simp [results, Try.results20, go_sem, u0, u1, u2, u3]) rfl ?_
  exact HE.out _ (by have s1 := b2.size; (repeat' (first | (with_reducible assumption) | (with_reducible exact Below.refl _ _) | (with_reducible refine below_drewN ?_ _) | (with_reducible refine Below.drew ?_) | (with_reducible refine Below.setCell ?_ ?_ _) | (with_reducible refine Below.alloc ?_ ?_ _) | (with_reducible refine below_putObj ?_ ?_ _) | (with_reducible exact Nat.le_refl _) | omega | (simp; done) | (simp; omega))))

set_option maxRecDepth 100000 in
set_option maxHeartbeats 4000000 in
theorem raskg (bf : List UInt8) (ch : Bool) (a0 : Addr) (n cap : Nat) (fl kd : Int) (ck fr ln : Nat) (d out : List UInt8) (cs : List Value) (w : World) (Q : Ending → World → Prop)
    (HE : Hid (∀ w' v, w'.ownsRow w.heap.size 42 10 v (n + 1) (cs ++ [.int .i64 fl, .int .i64 kd, .int .u64 (ck : Nat), .int .u64 (fr : Nat), .int .u32 (ln : Nat), .string ⟨d.toArray⟩, .string ⟨#[]⟩, .string ⟨#[]⟩, .slice none 0 0, .int .u32 0]) → Below w.heap.size w w' → Q (.returned (.tuple #[.agg #[.string ⟨bf.toArray⟩, .bool ch, v, .bool false], .string ⟨out.toArray⟩, .int .i64 0])) w'))
    (HFT : Hid (∀ W, Calls Try.prog 31 #[.agg #[.int .i64 fl, .int .i64 kd, .int .u64 (ck : Nat), .int .u64 (fr : Nat), .int .u32 (ln : Nat), .string ⟨d.toArray⟩]] W (Gives (.bool true) W)))
    (HFD : Hid (∀ W, Below w.heap.size w W → Calls Try.prog 32 #[.agg #[.string ⟨bf.toArray⟩, .bool ch, .slice (some a0) n cap, .bool false], .int .u64 (ck : Nat)] W (Gives (.int .i64 (-1)) W)))
    (HWR : Hid (∀ W, Calls Try.prog 33 #[.agg #[.int .i64 fl, .int .i64 kd, .int .u64 (ck : Nat), .int .u64 (fr : Nat), .int .u32 (ln : Nat), .string ⟨d.toArray⟩]] W (Gives (.tuple #[.string ⟨out.toArray⟩, .int .i64 0]) W)))
    (hk : (kd == 0) = false) (hn : n < 8) (hcs : cs.length = n * 10) (h1 : ∀ u ∈ cs, u.oneCell' = true) (HA : Hid (∀ W, Below w.heap.size w W → ∀ j u, cs[j]? = some u → W.cell? (a0.add j) = some u)) : Calls Try.prog 20 #[.agg #[.string ⟨bf.toArray⟩, .bool ch, .slice (some a0) n cap, .bool false], .agg #[.int .i64 fl, .int .i64 kd, .int .u64 (ck : Nat), .int .u64 (fr : Nat), .int .u32 (ln : Nat), .string ⟨d.toArray⟩]] w Q := by
  have mixed : Try.prog.follows .mixedOrders = true := by kernel_rfl
  have h8 : ¬ (8 : Int) ≤ (n : Int) := by omega
  obtain ⟨i0, hi, hz0, hz1, hz2⟩ := info_parts Try.infoWait
  go_enter Try.func20, Try.ntmps20
  go_wp2_with fail
  have hg : Below w.heap.size w (((w.alloc (.cells #[.string ⟨bf.toArray⟩, .bool ch, .slice (some a0) n cap, .bool false] 28)).alloc (.cells #[.int .i64 fl, .int .i64 kd, .int .u64 (ck : Nat), .int .u64 (fr : Nat), .int .u32 (ln : Nat), .string ⟨d.toArray⟩] 37)).alloc (.cells #[.string ⟨#[]⟩, .bool false, .slice none 0 0, .bool false] 28)) := by (repeat' (first | (with_reducible assumption) | (with_reducible exact Below.refl _ _) | (with_reducible refine below_drewN ?_ _) | (with_reducible refine Below.drew ?_) | (with_reducible refine Below.setCell ?_ ?_ _) | (with_reducible refine Below.alloc ?_ ?_ _) | (with_reducible refine below_putObj ?_ ?_ _) | (with_reducible exact Nat.le_refl _) | omega | (simp; done) | (simp; omega)))
  have M1 := ((Blk.new w 28 #[.string ⟨bf.toArray⟩, .bool ch, .slice (some a0) n cap, .bool false]).alloc (.cells #[.int .i64 fl, .int .i64 kd, .int .u64 (ck : Nat), .int .u64 (fr : Nat), .int .u32 (ln : Nat), .string ⟨d.toArray⟩] 37)).alloc (.cells #[.string ⟨#[]⟩, .bool false, .slice none 0 0, .bool false] 28)
  have M2 : Blk (((w.alloc (.cells #[.string ⟨bf.toArray⟩, .bool ch, .slice (some a0) n cap, .bool false] 28)).alloc (.cells #[.int .i64 fl, .int .i64 kd, .int .u64 (ck : Nat), .int .u64 (fr : Nat), .int .u32 (ln : Nat), .string ⟨d.toArray⟩] 37)).alloc (.cells #[.string ⟨#[]⟩, .bool false, .slice none 0 0, .bool false] 28)) (w.heap.size + 1) 37 #[.int .i64 fl, .int .i64 kd, .int .u64 (ck : Nat), .int .u64 (fr : Nat), .int .u32 (ln : Nat), .string ⟨d.toArray⟩] := (Blk.newAt (by simp)).alloc _
  have M3 : Blk (((w.alloc (.cells #[.string ⟨bf.toArray⟩, .bool ch, .slice (some a0) n cap, .bool false] 28)).alloc (.cells #[.int .i64 fl, .int .i64 kd, .int .u64 (ck : Nat), .int .u64 (fr : Nat), .int .u32 (ln : Nat), .string ⟨d.toArray⟩] 37)).alloc (.cells #[.string ⟨#[]⟩, .bool false, .slice none 0 0, .bool false] 28)) (w.heap.size + 1 + 1) 28 #[.string ⟨#[]⟩, .bool false, .slice none 0 0, .bool false] := Blk.newAt (by simp)
  refine (HFT.out _).mono ?_
  rintro e w1 ⟨rfl, hb1⟩
  have N1 := M1.below hb1 M1.lt
  have N2 := M2.below hb1 M2.lt
  have N3 := M3.below hb1 M3.lt
  have b1 := below_next hg hb1
  clear hg hb1 M1 M2 M3 HFT
  have x0 := N1.cell 0
  have x1 := N1.cell 1
  have x2 := N1.cell 2
  have x3 := N1.cell 3
  have y0 := N2.cell 0
  have y1 := N2.cell 1
  have y2 := N2.cell 2
  have y3 := N2.cell 3
  have y4 := N2.cell 4
  have y5 := N2.cell 5
  have z0 := N3.frozen 0
  have u0 := N3.cell 0
  have z1 := N3.frozen 1
  have u1 := N3.cell 1
  have z2 := N3.frozen 2
  have u2 := N3.cell 2
  have z3 := N3.frozen 3
  have u3 := N3.cell 3
  simp only [List.getElem?_toArray, List.getElem?_cons_zero, List.getElem?_cons_succ] at x0 x1 x2 x3 y0 y1 y2 y3 y4 y5 u0 u1 u2 u3
  go_wp2_with fail
  refine (HFD.out _ b1).mono ?_
  rintro e w2 ⟨rfl, hb2⟩
  clear x0 x1 x2 x3 y0 y1 y2 y3 y4 y5 u0 u1 u2 u3 z0 z1 z2 z3
  replace N1 := N1.below hb2 N1.lt
  replace N2 := N2.below hb2 N2.lt
  replace N3 := N3.below hb2 N3.lt
  have b2 := below_next b1 hb2
  clear b1 hb2 HFD
  have x0 := N1.cell 0
  have x1 := N1.cell 1
  have x2 := N1.cell 2
  have x3 := N1.cell 3
  have y0 := N2.cell 0
  have y1 := N2.cell 1
  have y2 := N2.cell 2
  have y3 := N2.cell 3
  have y4 := N2.cell 4
  have y5 := N2.cell 5
  have z0 := N3.frozen 0
  have u0 := N3.cell 0
  have z1 := N3.frozen 1
  have u1 := N3.cell 1
  have z2 := N3.frozen 2
  have u2 := N3.cell 2
  have z3 := N3.frozen 3
  have u3 := N3.cell 3
  simp only [List.getElem?_toArray, List.getElem?_cons_zero, List.getElem?_cons_succ] at x0 x1 x2 x3 y0 y1 y2 y3 y4 y5 u0 u1 u2 u3
  have zo := fun o i => old_cell (w := w2) (g := w.heap.size + 1) N2.lt o i
  have xo := fun o i => old_cell (w := w2) (g := w.heap.size) N1.lt o i
  have nz1 : w.heap.size + 1 ≠ w2.heap.size := by have := N2.lt; omega
  have nz2 : w2.heap.size ≠ w.heap.size + 1 := by have := N2.lt; omega
  have nx1 : w.heap.size ≠ w2.heap.size := by have := N1.lt; omega
  have nx2 : w2.heap.size ≠ w.heap.size := by have := N1.lt; omega
  have HS2 : w.heap.size ≤ w2.heap.size := b2.size
  have HN3 := N3.lt
  have NW := Blk.new w2 42 #[.int .i64 fl, .int .i64 kd, .int .u64 (ck : Nat), .int .u64 (fr : Nat), .int .u32 (ln : Nat), .string ⟨d.toArray⟩, .string ⟨#[]⟩, .string ⟨#[]⟩, .slice none 0 0, .int .u32 0]
  have hP : Below w2.heap.size w2 (w2.alloc (.cells #[.int .i64 fl, .int .i64 kd, .int .u64 (ck : Nat), .int .u64 (fr : Nat), .int .u32 (ln : Nat), .string ⟨d.toArray⟩, .string ⟨#[]⟩, .string ⟨#[]⟩, .slice none 0 0, .int .u32 0] 42)) := by (repeat' (first | (with_reducible assumption) | (with_reducible exact Below.refl _ _) | (with_reducible refine below_drewN ?_ _) | (with_reducible refine Below.drew ?_) | (with_reducible refine Below.setCell ?_ ?_ _) | (with_reducible refine Below.alloc ?_ ?_ _) | (with_reducible refine below_putObj ?_ ?_ _) | (with_reducible exact Nat.le_refl _) | omega | (simp; done) | (simp; omega)))
  go_wp2_with (at_builtin; refine wpList_append_own _ rfl _ _ 26 rfl (w2.heap.size + 1) 42 i0 (.agg #[.int .i64 0, .int .i64 0, .int .u64 0, .int .u64 0, .int .u32 0, .string ⟨#[]⟩, .string ⟨#[]⟩, .string ⟨#[]⟩, .slice none 0 0, .int .u32 0]) 10 120 Try.underlying26 hi hz0 hz1 hz2 rfl (by decide) _ _ _ rfl (World.ownsRow_nil _ _ _ _) a0 n cap cs rfl hcs ?q2 h1 ?q4 ?q5 ?q6 ?_)
  case q2 => exact HA.out _ (by have s2 := b2.size; (repeat' (first | (with_reducible assumption) | (with_reducible exact Below.refl _ _) | (with_reducible refine below_drewN ?_ _) | (with_reducible refine Below.drew ?_) | (with_reducible refine Below.setCell ?_ ?_ _) | (with_reducible refine Below.alloc ?_ ?_ _) | (with_reducible refine below_putObj ?_ ?_ _) | (with_reducible exact Nat.le_refl _) | omega | (simp; done) | (simp; omega))))
  case q4 => unfold maxLen; omega
  case q5 => omega
  case q6 => simp
  intro v5 w5 ho5 hg5 _
  have O0 := World.ownsRow_nil (w2.alloc (.cells #[.int .i64 fl, .int .i64 kd, .int .u64 (ck : Nat), .int .u64 (fr : Nat), .int .u32 (ln : Nat), .string ⟨d.toArray⟩, .string ⟨#[]⟩, .string ⟨#[]⟩, .slice none 0 0, .int .u32 0] 42)) (w2.heap.size + 1) 42 10
  have M1 := own_cell O0 hg5 (N1.alloc (.cells #[.int .i64 fl, .int .i64 kd, .int .u64 (ck : Nat), .int .u64 (fr : Nat), .int .u32 (ln : Nat), .string ⟨d.toArray⟩, .string ⟨#[]⟩, .string ⟨#[]⟩, .slice none 0 0, .int .u32 0] 42)) (by have := N1.lt; omega)
  have M2 := own_cell O0 hg5 (N2.alloc (.cells #[.int .i64 fl, .int .i64 kd, .int .u64 (ck : Nat), .int .u64 (fr : Nat), .int .u32 (ln : Nat), .string ⟨d.toArray⟩, .string ⟨#[]⟩, .string ⟨#[]⟩, .slice none 0 0, .int .u32 0] 42)) (by have := N2.lt; omega)
  have M3 := own_cell O0 hg5 (N3.alloc (.cells #[.int .i64 fl, .int .i64 kd, .int .u64 (ck : Nat), .int .u64 (fr : Nat), .int .u32 (ln : Nat), .string ⟨d.toArray⟩, .string ⟨#[]⟩, .string ⟨#[]⟩, .slice none 0 0, .int .u32 0] 42)) (by have := N3.lt; omega)
  have MW := own_cell O0 hg5 NW (by omega)
  have B5 := (below_next b2 hP).grown hg5 (by have := b2.size; simp; omega) (fun k hk => by cases hk)
  have hs5 : w2.heap.size + 1 ≤ w5.heap.size := by have := hg5.size; simp at this; omega
  replace ho5 : w5.ownsRow (w2.heap.size + 1) 42 10 v5 n cs := by simpa using ho5
  clear x0 x1 x2 x3 y0 y1 y2 y3 y4 y5 u0 u1 u2 u3 z0 z1 z2 z3
  clear N1 N2 N3 NW hg5 O0 hP b2 zo xo nz1 nz2 nx1 nx2
  have n0 := MW.cell 0
  have n1 := MW.cell 1
  have n2 := MW.cell 2
  have n3 := MW.cell 3
  have n4 := MW.cell 4
  have n5 := MW.cell 5
  have n6 := MW.cell 6
  have n7 := MW.cell 7
  have n8 := MW.cell 8
  have n9 := MW.cell 9
  simp only [List.getElem?_toArray, List.getElem?_cons_zero, List.getElem?_cons_succ] at n0 n1 n2 n3 n4 n5 n6 n7 n8 n9
  go_wp2_with (at_builtin; refine wpList_append_own _ rfl _ _ 26 rfl (w2.heap.size + 1) 42 i0 (.agg #[.int .i64 0, .int .i64 0, .int .u64 0, .int .u64 0, .int .u32 0, .string ⟨#[]⟩, .string ⟨#[]⟩, .string ⟨#[]⟩, .slice none 0 0, .int .u32 0]) 10 120 Try.underlying26 hi hz0 hz1 hz2 rfl (by decide) _ _ _ rfl (ho5.alloc _) ⟨w5.heap.size, 0, none⟩ 1 1 [.int .i64 fl, .int .i64 kd, .int .u64 (ck : Nat), .int .u64 (fr : Nat), .int .u32 (ln : Nat), .string ⟨d.toArray⟩, .string ⟨#[]⟩, .string ⟨#[]⟩, .slice none 0 0, .int .u32 0] rfl rfl ?q2 ?q3 ?q4 ?q5 ?q6 ?_)
  case q2 => exact World.news_of_block (heap_alloc_new w5 _)
  case q3 => intro u hu; simp only [List.mem_cons, List.not_mem_nil, or_false] at hu; rcases hu with rfl | rfl | rfl | rfl | rfl | rfl | rfl | rfl | rfl | rfl <;> rfl
  case q4 => unfold maxLen; omega
  case q5 => omega
  case q6 => simp; omega
  intro v6 w6 ho6 hg6 _
  have K1 := own_cell (ho5.alloc _) hg6 (M1.alloc _) (by omega)
  have K2 := own_cell (ho5.alloc _) hg6 (M2.alloc _) (by omega)
  have K3 := own_cell (ho5.alloc _) hg6 (M3.alloc _) (by omega)
  have B6 := (B5.alloc B5.size _).grown hg6 (by have := B5.size; simp; omega) (fun k hk => by have := ((ho5.alloc (.cells #[.int .i64 fl, .int .i64 kd, .int .u64 (ck : Nat), .int .u64 (fr : Nat), .int .u32 (ln : Nat), .string ⟨d.toArray⟩, .string ⟨#[]⟩, .string ⟨#[]⟩, .slice none 0 0, .int .u32 0] 42)).lt k hk).1; have := HS2; omega)
  obtain ⟨g6, c6, rfl⟩ := (SlAt.of_row ho6).form
  clear n0 n1 n2 n3 n4 n5 n6 n7 n8 n9 M1 M2 M3 MW ho5 hg6 B5
  have k0 := K1.cell 0
  have k1 := K1.cell 1
  have k2 := K1.cell 2
  have k3 := K1.cell 3
  have k2f := K1.frozen 2
  have y0 := K2.cell 0
  have y1 := K2.cell 1
  have y2 := K2.cell 2
  have y3 := K2.cell 3
  have y4 := K2.cell 4
  have y5 := K2.cell 5
  simp only [List.getElem?_toArray, List.getElem?_cons_zero, List.getElem?_cons_succ] at k0 k1 k2 k3 y0 y1 y2 y3 y4 y5
  go_wp2_with fail
  refine (HWR.out _).mono ?_
  rintro e w7 ⟨rfl, hb7⟩
  have L1 : Blk (w6.setCell ⟨w.heap.size, 2, none⟩ (.slice g6 (n + 1) c6)) w.heap.size 28 #[.string ⟨bf.toArray⟩, .bool ch, .slice g6 (n + 1) c6, .bool false] := (K1.set_ 2 _).as_ (by simp)
  have L3 := K3.far (p := ⟨w.heap.size, 2, none⟩) (by dsimp only; omega) (.slice g6 (n + 1) c6)
  have R1 := L1.below hb7 L1.lt
  have R3 := L3.below hb7 L3.lt
  have O7 := own_below (ownsRow_setCell_below ho6 (a := ⟨w.heap.size, 2, none⟩) (by dsimp only; omega) (.slice g6 (n + 1) c6)) hb7
  have B7 := below_next (B6.setCell (p := ⟨w.heap.size, 2, none⟩) (by dsimp only; omega) (.slice g6 (n + 1) c6)) hb7
  clear k0 k1 k2 k3 k2f y0 y1 y2 y3 y4 y5 L1 L3 K1 K2 K3 hb7 ho6 B6 HWR
  have x0 := R1.cell 0
  have x1 := R1.cell 1
  have x2 := R1.cell 2
  have x3 := R1.cell 3
  have u0 := R3.cell 0
  have u1 := R3.cell 1
  have u2 := R3.cell 2
  have u3 := R3.cell 3
  have z0 := R3.frozen 0
  have z1 := R3.frozen 1
  have z2 := R3.frozen 2
  have z3 := R3.frozen 3
  simp only [List.getElem?_toArray, List.getElem?_cons_zero, List.getElem?_cons_succ] at x0 u0 x1 u1 x2 u2 x3 u3
  go_wp2_with fail
  refine bodyPost_ret (v := .tuple #[.agg #[.string ⟨bf.toArray⟩, .bool ch, .slice g6 (n + 1) c6, .bool false], .string ⟨out.toArray⟩, .int .i64 0]) (by simp [results, Try.results20, go_sem, u0, u1, u2, u3]) rfl ?_
  exact HE.out _ _ (own_base (ownsRow_setCell_below (ownsRow_setCell_below (ownsRow_setCell_below (ownsRow_setCell_below O7 (by dsimp only; omega) _) (by dsimp only; omega) _) (by dsimp only; omega) _) (by dsimp only; omega) _) (by omega)) (by have s7 := B7.size; (repeat' (first | (with_reducible assumption) | (with_reducible exact Below.refl _ _) | (with_reducible refine below_drewN ?_ _) | (with_reducible refine Below.drew ?_) | (with_reducible refine Below.setCell ?_ ?_ _) | (with_reducible refine Below.alloc ?_ ?_ _) | (with_reducible refine below_putObj ?_ ?_ _) | (with_reducible exact Nat.le_refl _) | omega | (simp; done) | (simp; omega))))

set_option maxRecDepth 100000 in
set_option maxHeartbeats 4000000 in
theorem raskg_none (bf : List UInt8) (ch : Bool) (fl kd : Int) (ck fr ln : Nat) (d out : List UInt8) (w : World) (Q : Ending → World → Prop)
    (HE : Hid (∀ w' v, w'.ownsRow w.heap.size 42 10 v (0 + 1) (([] : List Value) ++ [.int .i64 fl, .int .i64 kd, .int .u64 (ck : Nat), .int .u64 (fr : Nat), .int .u32 (ln : Nat), .string ⟨d.toArray⟩, .string ⟨#[]⟩, .string ⟨#[]⟩, .slice none 0 0, .int .u32 0]) → Below w.heap.size w w' → Q (.returned (.tuple #[.agg #[.string ⟨bf.toArray⟩, .bool ch, v, .bool false], .string ⟨out.toArray⟩, .int .i64 0])) w'))
    (HFT : Hid (∀ W, Calls Try.prog 31 #[.agg #[.int .i64 fl, .int .i64 kd, .int .u64 (ck : Nat), .int .u64 (fr : Nat), .int .u32 (ln : Nat), .string ⟨d.toArray⟩]] W (Gives (.bool true) W)))
    (HFD : Hid (∀ W, Below w.heap.size w W → Calls Try.prog 32 #[.agg #[.string ⟨bf.toArray⟩, .bool ch, .slice none 0 0, .bool false], .int .u64 (ck : Nat)] W (Gives (.int .i64 (-1)) W)))
    (HWR : Hid (∀ W, Calls Try.prog 33 #[.agg #[.int .i64 fl, .int .i64 kd, .int .u64 (ck : Nat), .int .u64 (fr : Nat), .int .u32 (ln : Nat), .string ⟨d.toArray⟩]] W (Gives (.tuple #[.string ⟨out.toArray⟩, .int .i64 0]) W)))
    (hk : (kd == 0) = false) : Calls Try.prog 20 #[.agg #[.string ⟨bf.toArray⟩, .bool ch, .slice none 0 0, .bool false], .agg #[.int .i64 fl, .int .i64 kd, .int .u64 (ck : Nat), .int .u64 (fr : Nat), .int .u32 (ln : Nat), .string ⟨d.toArray⟩]] w Q := by
  have mixed : Try.prog.follows .mixedOrders = true := by kernel_rfl
  obtain ⟨i0, hi, hz0, hz1, hz2⟩ := info_parts Try.infoWait
  go_enter Try.func20, Try.ntmps20
  go_wp2_with fail
  have hg : Below w.heap.size w (((w.alloc (.cells #[.string ⟨bf.toArray⟩, .bool ch, .slice none 0 0, .bool false] 28)).alloc (.cells #[.int .i64 fl, .int .i64 kd, .int .u64 (ck : Nat), .int .u64 (fr : Nat), .int .u32 (ln : Nat), .string ⟨d.toArray⟩] 37)).alloc (.cells #[.string ⟨#[]⟩, .bool false, .slice none 0 0, .bool false] 28)) := by (repeat' (first | (with_reducible assumption) | (with_reducible exact Below.refl _ _) | (with_reducible refine below_drewN ?_ _) | (with_reducible refine Below.drew ?_) | (with_reducible refine Below.setCell ?_ ?_ _) | (with_reducible refine Below.alloc ?_ ?_ _) | (with_reducible refine below_putObj ?_ ?_ _) | (with_reducible exact Nat.le_refl _) | omega | (simp; done) | (simp; omega)))
  have M1 := ((Blk.new w 28 #[.string ⟨bf.toArray⟩, .bool ch, .slice none 0 0, .bool false]).alloc (.cells #[.int .i64 fl, .int .i64 kd, .int .u64 (ck : Nat), .int .u64 (fr : Nat), .int .u32 (ln : Nat), .string ⟨d.toArray⟩] 37)).alloc (.cells #[.string ⟨#[]⟩, .bool false, .slice none 0 0, .bool false] 28)
  have M2 : Blk (((w.alloc (.cells #[.string ⟨bf.toArray⟩, .bool ch, .slice none 0 0, .bool false] 28)).alloc (.cells #[.int .i64 fl, .int .i64 kd, .int .u64 (ck : Nat), .int .u64 (fr : Nat), .int .u32 (ln : Nat), .string ⟨d.toArray⟩] 37)).alloc (.cells #[.string ⟨#[]⟩, .bool false, .slice none 0 0, .bool false] 28)) (w.heap.size + 1) 37 #[.int .i64 fl, .int .i64 kd, .int .u64 (ck : Nat), .int .u64 (fr : Nat), .int .u32 (ln : Nat), .string ⟨d.toArray⟩] := (Blk.newAt (by simp)).alloc _
  have M3 : Blk (((w.alloc (.cells #[.string ⟨bf.toArray⟩, .bool ch, .slice none 0 0, .bool false] 28)).alloc (.cells #[.int .i64 fl, .int .i64 kd, .int .u64 (ck : Nat), .int .u64 (fr : Nat), .int .u32 (ln : Nat), .string ⟨d.toArray⟩] 37)).alloc (.cells #[.string ⟨#[]⟩, .bool false, .slice none 0 0, .bool false] 28)) (w.heap.size + 1 + 1) 28 #[.string ⟨#[]⟩, .bool false, .slice none 0 0, .bool false] := Blk.newAt (by simp)
  refine (HFT.out _).mono ?_
  rintro e w1 ⟨rfl, hb1⟩
  have N1 := M1.below hb1 M1.lt
  have N2 := M2.below hb1 M2.lt
  have N3 := M3.below hb1 M3.lt
  have b1 := below_next hg hb1
  clear hg hb1 M1 M2 M3 HFT
  have x0 := N1.cell 0
  have x1 := N1.cell 1
  have x2 := N1.cell 2
  have x3 := N1.cell 3
  have y0 := N2.cell 0
  have y1 := N2.cell 1
  have y2 := N2.cell 2
  have y3 := N2.cell 3
  have y4 := N2.cell 4
  have y5 := N2.cell 5
  have z0 := N3.frozen 0
  have u0 := N3.cell 0
  have z1 := N3.frozen 1
  have u1 := N3.cell 1
  have z2 := N3.frozen 2
  have u2 := N3.cell 2
  have z3 := N3.frozen 3
  have u3 := N3.cell 3
  simp only [List.getElem?_toArray, List.getElem?_cons_zero, List.getElem?_cons_succ] at x0 x1 x2 x3 y0 y1 y2 y3 y4 y5 u0 u1 u2 u3
  go_wp2_with fail
  refine (HFD.out _ b1).mono ?_
  rintro e w2 ⟨rfl, hb2⟩
  clear x0 x1 x2 x3 y0 y1 y2 y3 y4 y5 u0 u1 u2 u3 z0 z1 z2 z3
  replace N1 := N1.below hb2 N1.lt
  replace N2 := N2.below hb2 N2.lt
  replace N3 := N3.below hb2 N3.lt
  have b2 := below_next b1 hb2
  clear b1 hb2 HFD
  have x0 := N1.cell 0
  have x1 := N1.cell 1
  have x2 := N1.cell 2
  have x3 := N1.cell 3
  have y0 := N2.cell 0
  have y1 := N2.cell 1
  have y2 := N2.cell 2
  have y3 := N2.cell 3
  have y4 := N2.cell 4
  have y5 := N2.cell 5
  have z0 := N3.frozen 0
  have u0 := N3.cell 0
  have z1 := N3.frozen 1
  have u1 := N3.cell 1
  have z2 := N3.frozen 2
  have u2 := N3.cell 2
  have z3 := N3.frozen 3
  have u3 := N3.cell 3
  simp only [List.getElem?_toArray, List.getElem?_cons_zero, List.getElem?_cons_succ] at x0 x1 x2 x3 y0 y1 y2 y3 y4 y5 u0 u1 u2 u3
  have zo := fun o i => old_cell (w := w2) (g := w.heap.size + 1) N2.lt o i
  have xo := fun o i => old_cell (w := w2) (g := w.heap.size) N1.lt o i
  have nz1 : w.heap.size + 1 ≠ w2.heap.size := by have := N2.lt; omega
  have nz2 : w2.heap.size ≠ w.heap.size + 1 := by have := N2.lt; omega
  have nx1 : w.heap.size ≠ w2.heap.size := by have := N1.lt; omega
  have nx2 : w2.heap.size ≠ w.heap.size := by have := N1.lt; omega
  have HS2 : w.heap.size ≤ w2.heap.size := b2.size
  have HN3 := N3.lt
  have NW := Blk.new w2 42 #[.int .i64 fl, .int .i64 kd, .int .u64 (ck : Nat), .int .u64 (fr : Nat), .int .u32 (ln : Nat), .string ⟨d.toArray⟩, .string ⟨#[]⟩, .string ⟨#[]⟩, .slice none 0 0, .int .u32 0]
  have hP : Below w2.heap.size w2 (w2.alloc (.cells #[.int .i64 fl, .int .i64 kd, .int .u64 (ck : Nat), .int .u64 (fr : Nat), .int .u32 (ln : Nat), .string ⟨d.toArray⟩, .string ⟨#[]⟩, .string ⟨#[]⟩, .slice none 0 0, .int .u32 0] 42)) := by (repeat' (first | (with_reducible assumption) | (with_reducible exact Below.refl _ _) | (with_reducible refine below_drewN ?_ _) | (with_reducible refine Below.drew ?_) | (with_reducible refine Below.setCell ?_ ?_ _) | (with_reducible refine Below.alloc ?_ ?_ _) | (with_reducible refine below_putObj ?_ ?_ _) | (with_reducible exact Nat.le_refl _) | omega | (simp; done) | (simp; omega)))
  have M1 := (N1.alloc (.cells #[.int .i64 fl, .int .i64 kd, .int .u64 (ck : Nat), .int .u64 (fr : Nat), .int .u32 (ln : Nat), .string ⟨d.toArray⟩, .string ⟨#[]⟩, .string ⟨#[]⟩, .slice none 0 0, .int .u32 0] 42))
  have M2 := (N2.alloc (.cells #[.int .i64 fl, .int .i64 kd, .int .u64 (ck : Nat), .int .u64 (fr : Nat), .int .u32 (ln : Nat), .string ⟨d.toArray⟩, .string ⟨#[]⟩, .string ⟨#[]⟩, .slice none 0 0, .int .u32 0] 42))
  have M3 := (N3.alloc (.cells #[.int .i64 fl, .int .i64 kd, .int .u64 (ck : Nat), .int .u64 (fr : Nat), .int .u32 (ln : Nat), .string ⟨d.toArray⟩, .string ⟨#[]⟩, .string ⟨#[]⟩, .slice none 0 0, .int .u32 0] 42))
  have MW := NW
  have B5 := below_next b2 hP
  have hs5 : w2.heap.size + 1 ≤ (w2.alloc (.cells #[.int .i64 fl, .int .i64 kd, .int .u64 (ck : Nat), .int .u64 (fr : Nat), .int .u32 (ln : Nat), .string ⟨d.toArray⟩, .string ⟨#[]⟩, .string ⟨#[]⟩, .slice none 0 0, .int .u32 0] 42)).heap.size := by simp
  have ho5 := World.ownsRow_nil (w2.alloc (.cells #[.int .i64 fl, .int .i64 kd, .int .u64 (ck : Nat), .int .u64 (fr : Nat), .int .u32 (ln : Nat), .string ⟨d.toArray⟩, .string ⟨#[]⟩, .string ⟨#[]⟩, .slice none 0 0, .int .u32 0] 42)) (w2.heap.size + 1) 42 10
  have n0 := MW.cell 0
  have n1 := MW.cell 1
  have n2 := MW.cell 2
  have n3 := MW.cell 3
  have n4 := MW.cell 4
  have n5 := MW.cell 5
  have n6 := MW.cell 6
  have n7 := MW.cell 7
  have n8 := MW.cell 8
  have n9 := MW.cell 9
  simp only [List.getElem?_toArray, List.getElem?_cons_zero, List.getElem?_cons_succ] at n0 n1 n2 n3 n4 n5 n6 n7 n8 n9
  go_wp2_with (at_builtin; refine wpList_append_own _ rfl _ _ 26 rfl (w2.heap.size + 1) 42 i0 (.agg #[.int .i64 0, .int .i64 0, .int .u64 0, .int .u64 0, .int .u32 0, .string ⟨#[]⟩, .string ⟨#[]⟩, .string ⟨#[]⟩, .slice none 0 0, .int .u32 0]) 10 120 Try.underlying26 hi hz0 hz1 hz2 rfl (by decide) _ _ _ rfl (ho5.alloc _) ⟨w2.heap.size + 1, 0, none⟩ 1 1 [.int .i64 fl, .int .i64 kd, .int .u64 (ck : Nat), .int .u64 (fr : Nat), .int .u32 (ln : Nat), .string ⟨d.toArray⟩, .string ⟨#[]⟩, .string ⟨#[]⟩, .slice none 0 0, .int .u32 0] rfl rfl ?q2 ?q3 ?q4 ?q5 ?q6 ?_)
  case q2 => exact World.news_of_block (Blk.newAt (by simp))
  case q3 => intro u hu; simp only [List.mem_cons, List.not_mem_nil, or_false] at hu; rcases hu with rfl | rfl | rfl | rfl | rfl | rfl | rfl | rfl | rfl | rfl <;> rfl
  case q4 => unfold maxLen; omega
  case q5 => omega
  case q6 => simp
  intro v6 w6 ho6 hg6 _
  clear x0 x1 x2 x3 y0 y1 y2 y3 y4 y5 u0 u1 u2 u3 z0 z1 z2 z3
  clear N1 N2 N3 NW hP b2 zo xo nz1 nz2 nx1 nx2
  have K1 := own_cell (ho5.alloc _) hg6 (M1.alloc _) (by omega)
  have K2 := own_cell (ho5.alloc _) hg6 (M2.alloc _) (by omega)
  have K3 := own_cell (ho5.alloc _) hg6 (M3.alloc _) (by omega)
  have B6 := (B5.alloc B5.size _).grown hg6 (by have := B5.size; simp; omega) (fun k hk => by have := ((ho5.alloc (.cells #[.int .i64 fl, .int .i64 kd, .int .u64 (ck : Nat), .int .u64 (fr : Nat), .int .u32 (ln : Nat), .string ⟨d.toArray⟩, .string ⟨#[]⟩, .string ⟨#[]⟩, .slice none 0 0, .int .u32 0] 42)).lt k hk).1; have := HS2; omega)
  obtain ⟨g6, c6, rfl⟩ := (SlAt.of_row ho6).form
  clear n0 n1 n2 n3 n4 n5 n6 n7 n8 n9 M1 M2 M3 MW ho5 hg6 B5
  have k0 := K1.cell 0
  have k1 := K1.cell 1
  have k2 := K1.cell 2
  have k3 := K1.cell 3
  have k2f := K1.frozen 2
  have y0 := K2.cell 0
  have y1 := K2.cell 1
  have y2 := K2.cell 2
  have y3 := K2.cell 3
  have y4 := K2.cell 4
  have y5 := K2.cell 5
  simp only [List.getElem?_toArray, List.getElem?_cons_zero, List.getElem?_cons_succ] at k0 k1 k2 k3 y0 y1 y2 y3 y4 y5
  go_wp2_with fail
  refine (HWR.out _).mono ?_
  rintro e w7 ⟨rfl, hb7⟩
  have L1 : Blk (w6.setCell ⟨w.heap.size, 2, none⟩ (.slice g6 (0 + 1) c6)) w.heap.size 28 #[.string ⟨bf.toArray⟩, .bool ch, .slice g6 (0 + 1) c6, .bool false] := (K1.set_ 2 _).as_ (by simp)
  have L3 := K3.far (p := ⟨w.heap.size, 2, none⟩) (by dsimp only; omega) (.slice g6 (0 + 1) c6)
  have R1 := L1.below hb7 L1.lt
  have R3 := L3.below hb7 L3.lt
  have O7 := own_below (ownsRow_setCell_below ho6 (a := ⟨w.heap.size, 2, none⟩) (by dsimp only; omega) (.slice g6 (0 + 1) c6)) hb7
  have B7 := below_next (B6.setCell (p := ⟨w.heap.size, 2, none⟩) (by dsimp only; omega) (.slice g6 (0 + 1) c6)) hb7
  clear k0 k1 k2 k3 k2f y0 y1 y2 y3 y4 y5 L1 L3 K1 K2 K3 hb7 ho6 B6 HWR
  have x0 := R1.cell 0
  have x1 := R1.cell 1
  have x2 := R1.cell 2
  have x3 := R1.cell 3
  have u0 := R3.cell 0
  have u1 := R3.cell 1
  have u2 := R3.cell 2
  have u3 := R3.cell 3
  have z0 := R3.frozen 0
  have z1 := R3.frozen 1
  have z2 := R3.frozen 2
  have z3 := R3.frozen 3
  simp only [List.getElem?_toArray, List.getElem?_cons_zero, List.getElem?_cons_succ] at x0 u0 x1 u1 x2 u2 x3 u3
  go_wp2_with fail
  refine bodyPost_ret (v := .tuple #[.agg #[.string ⟨bf.toArray⟩, .bool ch, .slice g6 (0 + 1) c6, .bool false], .string ⟨out.toArray⟩, .int .i64 0]) (by simp [results, Try.results20, go_sem, u0, u1, u2, u3]) rfl ?_
  exact HE.out _ _ (own_base (ownsRow_setCell_below (ownsRow_setCell_below (ownsRow_setCell_below (ownsRow_setCell_below O7 (by dsimp only; omega) _) (by dsimp only; omega) _) (by dsimp only; omega) _) (by dsimp only; omega) _) (by omega)) (by have s7 := B7.size; (repeat' (first | (with_reducible assumption) | (with_reducible exact Below.refl _ _) | (with_reducible refine below_drewN ?_ _) | (with_reducible refine Below.drew ?_) | (with_reducible refine Below.setCell ?_ ?_ _) | (with_reducible refine Below.alloc ?_ ?_ _) | (with_reducible refine below_putObj ?_ ?_ _) | (with_reducible exact Nat.le_refl _) | omega | (simp; done) | (simp; omega))))

set_option maxRecDepth 100000 in
set_option maxHeartbeats 4000000 in
theorem raskg_read (bf : List UInt8) (ch : Bool) (a0 : Addr) (n cap : Nat) (fl kd : Int) (ck fr ln : Nat) (d out z : List UInt8) (cs : List Value) (w : World) (Q : Ending → World → Prop)
    (HE : Hid (∀ w' v, w'.ownsRow w.heap.size 42 10 v (n + 1) (cs ++ [.int .i64 fl, .int .i64 kd, .int .u64 (ck : Nat), .int .u64 (fr : Nat), .int .u32 (ln : Nat), .string ⟨d.toArray⟩, .string ⟨z.toArray⟩, .string ⟨z.toArray⟩, .slice none 0 0, .int .u32 0]) → Below w.heap.size w w' → Q (.returned (.tuple #[.agg #[.string ⟨bf.toArray⟩, .bool ch, v, .bool false], .string ⟨out.toArray⟩, .int .i64 0])) w'))
    (HFT : Hid (∀ W, Calls Try.prog 31 #[.agg #[.int .i64 fl, .int .i64 kd, .int .u64 (ck : Nat), .int .u64 (fr : Nat), .int .u32 (ln : Nat), .string ⟨d.toArray⟩]] W (Gives (.bool true) W)))
    (HFD : Hid (∀ W, Below w.heap.size w W → Calls Try.prog 32 #[.agg #[.string ⟨bf.toArray⟩, .bool ch, .slice (some a0) n cap, .bool false], .int .u64 (ck : Nat)] W (Gives (.int .i64 (-1)) W)))
    (HWR : Hid (∀ W, Calls Try.prog 33 #[.agg #[.int .i64 fl, .int .i64 kd, .int .u64 (ck : Nat), .int .u64 (fr : Nat), .int .u32 (ln : Nat), .string ⟨d.toArray⟩]] W (Gives (.tuple #[.string ⟨out.toArray⟩, .int .i64 0]) W)))
    (hk : (kd == 0) = true) (h7 : ¬ (4096 : Int) < (ln : Int)) (HZ : Hid (z = List.replicate ln 0)) (hn : n < 8) (hcs : cs.length = n * 10) (h1 : ∀ u ∈ cs, u.oneCell' = true) (HA : Hid (∀ W, Below w.heap.size w W → ∀ j u, cs[j]? = some u → W.cell? (a0.add j) = some u)) : Calls Try.prog 20 #[.agg #[.string ⟨bf.toArray⟩, .bool ch, .slice (some a0) n cap, .bool false], .agg #[.int .i64 fl, .int .i64 kd, .int .u64 (ck : Nat), .int .u64 (fr : Nat), .int .u32 (ln : Nat), .string ⟨d.toArray⟩]] w Q := by
  have hmk := fun W => run_make_row' (P := Try.prog) 76 5 (.int .u8 0) 1 Try.underlying76 Try.infoByte rfl .u32 .u32 ln (by omega) (by omega) W
  have hwl : (0 : Int) ≤ (ln : Int) := by omega
  have mixed : Try.prog.follows .mixedOrders = true := by kernel_rfl
  have h8 : ¬ (8 : Int) ≤ (n : Int) := by omega
  obtain ⟨i0, hi, hz0, hz1, hz2⟩ := info_parts Try.infoWait
  go_enter Try.func20, Try.ntmps20
  go_wp2_with fail
  have hg : Below w.heap.size w (((w.alloc (.cells #[.string ⟨bf.toArray⟩, .bool ch, .slice (some a0) n cap, .bool false] 28)).alloc (.cells #[.int .i64 fl, .int .i64 kd, .int .u64 (ck : Nat), .int .u64 (fr : Nat), .int .u32 (ln : Nat), .string ⟨d.toArray⟩] 37)).alloc (.cells #[.string ⟨#[]⟩, .bool false, .slice none 0 0, .bool false] 28)) := by (repeat' (first | (with_reducible assumption) | (with_reducible exact Below.refl _ _) | (with_reducible refine below_drewN ?_ _) | (with_reducible refine Below.drew ?_) | (with_reducible refine Below.setCell ?_ ?_ _) | (with_reducible refine Below.alloc ?_ ?_ _) | (with_reducible refine below_putObj ?_ ?_ _) | (with_reducible exact Nat.le_refl _) | omega | (simp; done) | (simp; omega)))
  have M1 := ((Blk.new w 28 #[.string ⟨bf.toArray⟩, .bool ch, .slice (some a0) n cap, .bool false]).alloc (.cells #[.int .i64 fl, .int .i64 kd, .int .u64 (ck : Nat), .int .u64 (fr : Nat), .int .u32 (ln : Nat), .string ⟨d.toArray⟩] 37)).alloc (.cells #[.string ⟨#[]⟩, .bool false, .slice none 0 0, .bool false] 28)
  have M2 : Blk (((w.alloc (.cells #[.string ⟨bf.toArray⟩, .bool ch, .slice (some a0) n cap, .bool false] 28)).alloc (.cells #[.int .i64 fl, .int .i64 kd, .int .u64 (ck : Nat), .int .u64 (fr : Nat), .int .u32 (ln : Nat), .string ⟨d.toArray⟩] 37)).alloc (.cells #[.string ⟨#[]⟩, .bool false, .slice none 0 0, .bool false] 28)) (w.heap.size + 1) 37 #[.int .i64 fl, .int .i64 kd, .int .u64 (ck : Nat), .int .u64 (fr : Nat), .int .u32 (ln : Nat), .string ⟨d.toArray⟩] := (Blk.newAt (by simp)).alloc _
  have M3 : Blk (((w.alloc (.cells #[.string ⟨bf.toArray⟩, .bool ch, .slice (some a0) n cap, .bool false] 28)).alloc (.cells #[.int .i64 fl, .int .i64 kd, .int .u64 (ck : Nat), .int .u64 (fr : Nat), .int .u32 (ln : Nat), .string ⟨d.toArray⟩] 37)).alloc (.cells #[.string ⟨#[]⟩, .bool false, .slice none 0 0, .bool false] 28)) (w.heap.size + 1 + 1) 28 #[.string ⟨#[]⟩, .bool false, .slice none 0 0, .bool false] := Blk.newAt (by simp)
  refine (HFT.out _).mono ?_
  rintro e w1 ⟨rfl, hb1⟩
  have N1 := M1.below hb1 M1.lt
  have N2 := M2.below hb1 M2.lt
  have N3 := M3.below hb1 M3.lt
  have b1 := below_next hg hb1
  clear hg hb1 M1 M2 M3 HFT
  have x0 := N1.cell 0
  have x1 := N1.cell 1
  have x2 := N1.cell 2
  have x3 := N1.cell 3
  have y0 := N2.cell 0
  have y1 := N2.cell 1
  have y2 := N2.cell 2
  have y3 := N2.cell 3
  have y4 := N2.cell 4
  have y5 := N2.cell 5
  have z0 := N3.frozen 0
  have u0 := N3.cell 0
  have z1 := N3.frozen 1
  have u1 := N3.cell 1
  have z2 := N3.frozen 2
  have u2 := N3.cell 2
  have z3 := N3.frozen 3
  have u3 := N3.cell 3
  simp only [List.getElem?_toArray, List.getElem?_cons_zero, List.getElem?_cons_succ] at x0 x1 x2 x3 y0 y1 y2 y3 y4 y5 u0 u1 u2 u3
  go_wp2_with fail
  refine (HFD.out _ b1).mono ?_
  rintro e w2 ⟨rfl, hb2⟩
  clear x0 x1 x2 x3 y0 y1 y2 y3 y4 y5 u0 u1 u2 u3 z0 z1 z2 z3
  replace N1 := N1.below hb2 N1.lt
  replace N2 := N2.below hb2 N2.lt
  replace N3 := N3.below hb2 N3.lt
  have b2 := below_next b1 hb2
  clear b1 hb2 HFD
  have x0 := N1.cell 0
  have x1 := N1.cell 1
  have x2 := N1.cell 2
  have x3 := N1.cell 3
  have y0 := N2.cell 0
  have y1 := N2.cell 1
  have y2 := N2.cell 2
  have y3 := N2.cell 3
  have y4 := N2.cell 4
  have y5 := N2.cell 5
  have z0 := N3.frozen 0
  have u0 := N3.cell 0
  have z1 := N3.frozen 1
  have u1 := N3.cell 1
  have z2 := N3.frozen 2
  have u2 := N3.cell 2
  have z3 := N3.frozen 3
  have u3 := N3.cell 3
  simp only [List.getElem?_toArray, List.getElem?_cons_zero, List.getElem?_cons_succ] at x0 x1 x2 x3 y0 y1 y2 y3 y4 y5 u0 u1 u2 u3
  have zo := fun o i => old_cell (w := w2) (g := w.heap.size + 1) N2.lt o i
  have xo := fun o i => old_cell (w := w2) (g := w.heap.size) N1.lt o i
  have nz1 : w.heap.size + 1 ≠ w2.heap.size := by have := N2.lt; omega
  have nz2 : w2.heap.size ≠ w.heap.size + 1 := by have := N2.lt; omega
  have nx1 : w.heap.size ≠ w2.heap.size := by have := N1.lt; omega
  have nx2 : w2.heap.size ≠ w.heap.size := by have := N1.lt; omega
  have hcv := make_zeros ln z HZ.out (w2.alloc (.cells #[.int .i64 fl, .int .i64 kd, .int .u64 (ck : Nat), .int .u64 (fr : Nat), .int .u32 (ln : Nat), .string ⟨d.toArray⟩, .string ⟨#[]⟩, .string ⟨#[]⟩, .slice none 0 0, .int .u32 0] 42))
  simp only [World.size_alloc] at hcv
  have xo2 := fun o o' i => (old_cell (w := w2.alloc o) (g := w.heap.size) (by have := N1.lt; simp; omega) o' i).trans (xo o i)
  have zo2 := fun o o' i => (old_cell (w := w2.alloc o) (g := w.heap.size + 1) (by have := N2.lt; simp; omega) o' i).trans (zo o i)
  have wo2 : ∀ o o' i, ((w2.alloc o).alloc o').cell? ⟨w2.heap.size, i, none⟩ = (w2.alloc o).cell? ⟨w2.heap.size, i, none⟩ := fun o o' i => old_cell (by simp) o' i
  have HS2 : w.heap.size ≤ w2.heap.size := b2.size
  have HN3 := N3.lt
  have NW := (Blk.new w2 42 #[.int .i64 fl, .int .i64 kd, .int .u64 (ck : Nat), .int .u64 (fr : Nat), .int .u32 (ln : Nat), .string ⟨d.toArray⟩, .string ⟨z.toArray⟩, .string ⟨z.toArray⟩, .slice none 0 0, .int .u32 0]).alloc (.cells (madeCells #[.int .u8 0] ln) 5)
  have hP : Below w2.heap.size w2 ((w2.alloc (.cells #[.int .i64 fl, .int .i64 kd, .int .u64 (ck : Nat), .int .u64 (fr : Nat), .int .u32 (ln : Nat), .string ⟨d.toArray⟩, .string ⟨z.toArray⟩, .string ⟨z.toArray⟩, .slice none 0 0, .int .u32 0] 42)).alloc (.cells (madeCells #[.int .u8 0] ln) 5)) := by (repeat' (first | (with_reducible assumption) | (with_reducible exact Below.refl _ _) | (with_reducible refine below_drewN ?_ _) | (with_reducible refine Below.drew ?_) | (with_reducible refine Below.setCell ?_ ?_ _) | (with_reducible refine Below.alloc ?_ ?_ _) | (with_reducible refine below_putObj ?_ ?_ _) | (with_reducible exact Nat.le_refl _) | omega | (simp; done) | (simp; omega)))
  go_wp2_with (at_builtin; refine wpList_append_own _ rfl _ _ 26 rfl (w2.heap.size + 2) 42 i0 (.agg #[.int .i64 0, .int .i64 0, .int .u64 0, .int .u64 0, .int .u32 0, .string ⟨#[]⟩, .string ⟨#[]⟩, .string ⟨#[]⟩, .slice none 0 0, .int .u32 0]) 10 120 Try.underlying26 hi hz0 hz1 hz2 rfl (by decide) _ _ _ rfl (World.ownsRow_nil _ _ _ _) a0 n cap cs rfl hcs ?q2 h1 ?q4 ?q5 ?q6 ?_)
  case q2 => exact HA.out _ (by have s2 := b2.size; (repeat' (first | (with_reducible assumption) | (with_reducible exact Below.refl _ _) | (with_reducible refine below_drewN ?_ _) | (with_reducible refine Below.drew ?_) | (with_reducible refine Below.setCell ?_ ?_ _) | (with_reducible refine Below.alloc ?_ ?_ _) | (with_reducible refine below_putObj ?_ ?_ _) | (with_reducible exact Nat.le_refl _) | omega | (simp; done) | (simp; omega))))
  case q4 => unfold maxLen; omega
  case q5 => omega
  case q6 => simp
  intro v5 w5 ho5 hg5 _
  have O0 := World.ownsRow_nil ((w2.alloc (.cells #[.int .i64 fl, .int .i64 kd, .int .u64 (ck : Nat), .int .u64 (fr : Nat), .int .u32 (ln : Nat), .string ⟨d.toArray⟩, .string ⟨z.toArray⟩, .string ⟨z.toArray⟩, .slice none 0 0, .int .u32 0] 42)).alloc (.cells (madeCells #[.int .u8 0] ln) 5)) (w2.heap.size + 2) 42 10
  have M1 := own_cell O0 hg5 ((N1.alloc (.cells #[.int .i64 fl, .int .i64 kd, .int .u64 (ck : Nat), .int .u64 (fr : Nat), .int .u32 (ln : Nat), .string ⟨d.toArray⟩, .string ⟨z.toArray⟩, .string ⟨z.toArray⟩, .slice none 0 0, .int .u32 0] 42)).alloc (.cells (madeCells #[.int .u8 0] ln) 5)) (by have := N1.lt; omega)
  have M2 := own_cell O0 hg5 ((N2.alloc (.cells #[.int .i64 fl, .int .i64 kd, .int .u64 (ck : Nat), .int .u64 (fr : Nat), .int .u32 (ln : Nat), .string ⟨d.toArray⟩, .string ⟨z.toArray⟩, .string ⟨z.toArray⟩, .slice none 0 0, .int .u32 0] 42)).alloc (.cells (madeCells #[.int .u8 0] ln) 5)) (by have := N2.lt; omega)
  have M3 := own_cell O0 hg5 ((N3.alloc (.cells #[.int .i64 fl, .int .i64 kd, .int .u64 (ck : Nat), .int .u64 (fr : Nat), .int .u32 (ln : Nat), .string ⟨d.toArray⟩, .string ⟨z.toArray⟩, .string ⟨z.toArray⟩, .slice none 0 0, .int .u32 0] 42)).alloc (.cells (madeCells #[.int .u8 0] ln) 5)) (by have := N3.lt; omega)
  have MW := own_cell O0 hg5 NW (by omega)
  have B5 := (below_next b2 hP).grown hg5 (by have := b2.size; simp; omega) (fun k hk => by cases hk)
  have hs5 : w2.heap.size + 2 ≤ w5.heap.size := by have := hg5.size; simp at this; omega
  replace ho5 : w5.ownsRow (w2.heap.size + 2) 42 10 v5 n cs := by simpa using ho5
  clear x0 x1 x2 x3 y0 y1 y2 y3 y4 y5 u0 u1 u2 u3 z0 z1 z2 z3
  clear N1 N2 N3 NW hg5 O0 hP b2 zo xo nz1 nz2 nx1 nx2 zo2 xo2 wo2 hcv hmk
  have n0 := MW.cell 0
  have n1 := MW.cell 1
  have n2 := MW.cell 2
  have n3 := MW.cell 3
  have n4 := MW.cell 4
  have n5 := MW.cell 5
  have n6 := MW.cell 6
  have n7 := MW.cell 7
  have n8 := MW.cell 8
  have n9 := MW.cell 9
  simp only [List.getElem?_toArray, List.getElem?_cons_zero, List.getElem?_cons_succ] at n0 n1 n2 n3 n4 n5 n6 n7 n8 n9
  go_wp2_with (at_builtin; refine wpList_append_own _ rfl _ _ 26 rfl (w2.heap.size + 2) 42 i0 (.agg #[.int .i64 0, .int .i64 0, .int .u64 0, .int .u64 0, .int .u32 0, .string ⟨#[]⟩, .string ⟨#[]⟩, .string ⟨#[]⟩, .slice none 0 0, .int .u32 0]) 10 120 Try.underlying26 hi hz0 hz1 hz2 rfl (by decide) _ _ _ rfl (ho5.alloc _) ⟨w5.heap.size, 0, none⟩ 1 1 [.int .i64 fl, .int .i64 kd, .int .u64 (ck : Nat), .int .u64 (fr : Nat), .int .u32 (ln : Nat), .string ⟨d.toArray⟩, .string ⟨z.toArray⟩, .string ⟨z.toArray⟩, .slice none 0 0, .int .u32 0] rfl rfl ?q2 ?q3 ?q4 ?q5 ?q6 ?_)
  case q2 => exact World.news_of_block (heap_alloc_new w5 _)
  case q3 => intro u hu; simp only [List.mem_cons, List.not_mem_nil, or_false] at hu; rcases hu with rfl | rfl | rfl | rfl | rfl | rfl | rfl | rfl | rfl | rfl <;> rfl
  case q4 => unfold maxLen; omega
  case q5 => omega
  case q6 => simp; omega
  intro v6 w6 ho6 hg6 _
  have K1 := own_cell (ho5.alloc _) hg6 (M1.alloc _) (by omega)
  have K2 := own_cell (ho5.alloc _) hg6 (M2.alloc _) (by omega)
  have K3 := own_cell (ho5.alloc _) hg6 (M3.alloc _) (by omega)
  have B6 := (B5.alloc B5.size _).grown hg6 (by have := B5.size; simp; omega) (fun k hk => by have := ((ho5.alloc (.cells #[.int .i64 fl, .int .i64 kd, .int .u64 (ck : Nat), .int .u64 (fr : Nat), .int .u32 (ln : Nat), .string ⟨d.toArray⟩, .string ⟨z.toArray⟩, .string ⟨z.toArray⟩, .slice none 0 0, .int .u32 0] 42)).lt k hk).1; have := HS2; omega)
  obtain ⟨g6, c6, rfl⟩ := (SlAt.of_row ho6).form
  clear n0 n1 n2 n3 n4 n5 n6 n7 n8 n9 M1 M2 M3 MW ho5 hg6 B5
  have k0 := K1.cell 0
  have k1 := K1.cell 1
  have k2 := K1.cell 2
  have k3 := K1.cell 3
  have k2f := K1.frozen 2
  have y0 := K2.cell 0
  have y1 := K2.cell 1
  have y2 := K2.cell 2
  have y3 := K2.cell 3
  have y4 := K2.cell 4
  have y5 := K2.cell 5
  simp only [List.getElem?_toArray, List.getElem?_cons_zero, List.getElem?_cons_succ] at k0 k1 k2 k3 y0 y1 y2 y3 y4 y5
  go_wp2_with fail
  refine (HWR.out _).mono ?_
  rintro e w7 ⟨rfl, hb7⟩
  have L1 : Blk (w6.setCell ⟨w.heap.size, 2, none⟩ (.slice g6 (n + 1) c6)) w.heap.size 28 #[.string ⟨bf.toArray⟩, .bool ch, .slice g6 (n + 1) c6, .bool false] := (K1.set_ 2 _).as_ (by simp)
  have L3 := K3.far (p := ⟨w.heap.size, 2, none⟩) (by dsimp only; omega) (.slice g6 (n + 1) c6)
  have R1 := L1.below hb7 L1.lt
  have R3 := L3.below hb7 L3.lt
  have O7 := own_below (ownsRow_setCell_below ho6 (a := ⟨w.heap.size, 2, none⟩) (by dsimp only; omega) (.slice g6 (n + 1) c6)) hb7
  have B7 := below_next (B6.setCell (p := ⟨w.heap.size, 2, none⟩) (by dsimp only; omega) (.slice g6 (n + 1) c6)) hb7
  clear k0 k1 k2 k3 k2f y0 y1 y2 y3 y4 y5 L1 L3 K1 K2 K3 hb7 ho6 B6 HWR
  have x0 := R1.cell 0
  have x1 := R1.cell 1
  have x2 := R1.cell 2
  have x3 := R1.cell 3
  have u0 := R3.cell 0
  have u1 := R3.cell 1
  have u2 := R3.cell 2
  have u3 := R3.cell 3
  have z0 := R3.frozen 0
  have z1 := R3.frozen 1
  have z2 := R3.frozen 2
  have z3 := R3.frozen 3
  simp only [List.getElem?_toArray, List.getElem?_cons_zero, List.getElem?_cons_succ] at x0 u0 x1 u1 x2 u2 x3 u3
  go_wp2_with fail
  refine bodyPost_ret (v := .tuple #[.agg #[.string ⟨bf.toArray⟩, .bool ch, .slice g6 (n + 1) c6, .bool false], .string ⟨out.toArray⟩, .int .i64 0]) (by simp [results, Try.results20, go_sem, u0, u1, u2, u3]) rfl ?_
  exact HE.out _ _ (own_base (ownsRow_setCell_below (ownsRow_setCell_below (ownsRow_setCell_below (ownsRow_setCell_below O7 (by dsimp only; omega) _) (by dsimp only; omega) _) (by dsimp only; omega) _) (by dsimp only; omega) _) (by omega)) (by have s7 := B7.size; (repeat' (first | (with_reducible assumption) | (with_reducible exact Below.refl _ _) | (with_reducible refine below_drewN ?_ _) | (with_reducible refine Below.drew ?_) | (with_reducible refine Below.setCell ?_ ?_ _) | (with_reducible refine Below.alloc ?_ ?_ _) | (with_reducible refine below_putObj ?_ ?_ _) | (with_reducible exact Nat.le_refl _) | omega | (simp; done) | (simp; omega))))

set_option maxRecDepth 100000 in
set_option maxHeartbeats 4000000 in
theorem raskg_read_none (bf : List UInt8) (ch : Bool) (fl kd : Int) (ck fr ln : Nat) (d out z : List UInt8) (w : World) (Q : Ending → World → Prop)
    (HE : Hid (∀ w' v, w'.ownsRow w.heap.size 42 10 v (0 + 1) (([] : List Value) ++ [.int .i64 fl, .int .i64 kd, .int .u64 (ck : Nat), .int .u64 (fr : Nat), .int .u32 (ln : Nat), .string ⟨d.toArray⟩, .string ⟨z.toArray⟩, .string ⟨z.toArray⟩, .slice none 0 0, .int .u32 0]) → Below w.heap.size w w' → Q (.returned (.tuple #[.agg #[.string ⟨bf.toArray⟩, .bool ch, v, .bool false], .string ⟨out.toArray⟩, .int .i64 0])) w'))
    (HFT : Hid (∀ W, Calls Try.prog 31 #[.agg #[.int .i64 fl, .int .i64 kd, .int .u64 (ck : Nat), .int .u64 (fr : Nat), .int .u32 (ln : Nat), .string ⟨d.toArray⟩]] W (Gives (.bool true) W)))
    (HFD : Hid (∀ W, Below w.heap.size w W → Calls Try.prog 32 #[.agg #[.string ⟨bf.toArray⟩, .bool ch, .slice none 0 0, .bool false], .int .u64 (ck : Nat)] W (Gives (.int .i64 (-1)) W)))
    (HWR : Hid (∀ W, Calls Try.prog 33 #[.agg #[.int .i64 fl, .int .i64 kd, .int .u64 (ck : Nat), .int .u64 (fr : Nat), .int .u32 (ln : Nat), .string ⟨d.toArray⟩]] W (Gives (.tuple #[.string ⟨out.toArray⟩, .int .i64 0]) W)))
    (hk : (kd == 0) = true) (h7 : ¬ (4096 : Int) < (ln : Int)) (HZ : Hid (z = List.replicate ln 0)) : Calls Try.prog 20 #[.agg #[.string ⟨bf.toArray⟩, .bool ch, .slice none 0 0, .bool false], .agg #[.int .i64 fl, .int .i64 kd, .int .u64 (ck : Nat), .int .u64 (fr : Nat), .int .u32 (ln : Nat), .string ⟨d.toArray⟩]] w Q := by
  have hmk := fun W => run_make_row' (P := Try.prog) 76 5 (.int .u8 0) 1 Try.underlying76 Try.infoByte rfl .u32 .u32 ln (by omega) (by omega) W
  have hwl : (0 : Int) ≤ (ln : Int) := by omega
  have mixed : Try.prog.follows .mixedOrders = true := by kernel_rfl
  obtain ⟨i0, hi, hz0, hz1, hz2⟩ := info_parts Try.infoWait
  go_enter Try.func20, Try.ntmps20
  go_wp2_with fail
  have hg : Below w.heap.size w (((w.alloc (.cells #[.string ⟨bf.toArray⟩, .bool ch, .slice none 0 0, .bool false] 28)).alloc (.cells #[.int .i64 fl, .int .i64 kd, .int .u64 (ck : Nat), .int .u64 (fr : Nat), .int .u32 (ln : Nat), .string ⟨d.toArray⟩] 37)).alloc (.cells #[.string ⟨#[]⟩, .bool false, .slice none 0 0, .bool false] 28)) := by (repeat' (first | (with_reducible assumption) | (with_reducible exact Below.refl _ _) | (with_reducible refine below_drewN ?_ _) | (with_reducible refine Below.drew ?_) | (with_reducible refine Below.setCell ?_ ?_ _) | (with_reducible refine Below.alloc ?_ ?_ _) | (with_reducible refine below_putObj ?_ ?_ _) | (with_reducible exact Nat.le_refl _) | omega | (simp; done) | (simp; omega)))
  have M1 := ((Blk.new w 28 #[.string ⟨bf.toArray⟩, .bool ch, .slice none 0 0, .bool false]).alloc (.cells #[.int .i64 fl, .int .i64 kd, .int .u64 (ck : Nat), .int .u64 (fr : Nat), .int .u32 (ln : Nat), .string ⟨d.toArray⟩] 37)).alloc (.cells #[.string ⟨#[]⟩, .bool false, .slice none 0 0, .bool false] 28)
  have M2 : Blk (((w.alloc (.cells #[.string ⟨bf.toArray⟩, .bool ch, .slice none 0 0, .bool false] 28)).alloc (.cells #[.int .i64 fl, .int .i64 kd, .int .u64 (ck : Nat), .int .u64 (fr : Nat), .int .u32 (ln : Nat), .string ⟨d.toArray⟩] 37)).alloc (.cells #[.string ⟨#[]⟩, .bool false, .slice none 0 0, .bool false] 28)) (w.heap.size + 1) 37 #[.int .i64 fl, .int .i64 kd, .int .u64 (ck : Nat), .int .u64 (fr : Nat), .int .u32 (ln : Nat), .string ⟨d.toArray⟩] := (Blk.newAt (by simp)).alloc _
  have M3 : Blk (((w.alloc (.cells #[.string ⟨bf.toArray⟩, .bool ch, .slice none 0 0, .bool false] 28)).alloc (.cells #[.int .i64 fl, .int .i64 kd, .int .u64 (ck : Nat), .int .u64 (fr : Nat), .int .u32 (ln : Nat), .string ⟨d.toArray⟩] 37)).alloc (.cells #[.string ⟨#[]⟩, .bool false, .slice none 0 0, .bool false] 28)) (w.heap.size + 1 + 1) 28 #[.string ⟨#[]⟩, .bool false, .slice none 0 0, .bool false] := Blk.newAt (by simp)
  refine (HFT.out _).mono ?_
  rintro e w1 ⟨rfl, hb1⟩
  have N1 := M1.below hb1 M1.lt
  have N2 := M2.below hb1 M2.lt
  have N3 := M3.below hb1 M3.lt
  have b1 := below_next hg hb1
  clear hg hb1 M1 M2 M3 HFT
  have x0 := N1.cell 0
  have x1 := N1.cell 1
  have x2 := N1.cell 2
  have x3 := N1.cell 3
  have y0 := N2.cell 0
  have y1 := N2.cell 1
  have y2 := N2.cell 2
  have y3 := N2.cell 3
  have y4 := N2.cell 4
  have y5 := N2.cell 5
  have z0 := N3.frozen 0
  have u0 := N3.cell 0
  have z1 := N3.frozen 1
  have u1 := N3.cell 1
  have z2 := N3.frozen 2
  have u2 := N3.cell 2
  have z3 := N3.frozen 3
  have u3 := N3.cell 3
  simp only [List.getElem?_toArray, List.getElem?_cons_zero, List.getElem?_cons_succ] at x0 x1 x2 x3 y0 y1 y2 y3 y4 y5 u0 u1 u2 u3
  go_wp2_with fail
  refine (HFD.out _ b1).mono ?_
  rintro e w2 ⟨rfl, hb2⟩
  clear x0 x1 x2 x3 y0 y1 y2 y3 y4 y5 u0 u1 u2 u3 z0 z1 z2 z3
  replace N1 := N1.below hb2 N1.lt
  replace N2 := N2.below hb2 N2.lt
  replace N3 := N3.below hb2 N3.lt
  have b2 := below_next b1 hb2
  clear b1 hb2 HFD
  have x0 := N1.cell 0
  have x1 := N1.cell 1
  have x2 := N1.cell 2
  have x3 := N1.cell 3
  have y0 := N2.cell 0
  have y1 := N2.cell 1
  have y2 := N2.cell 2
  have y3 := N2.cell 3
  have y4 := N2.cell 4
  have y5 := N2.cell 5
  have z0 := N3.frozen 0
  have u0 := N3.cell 0
  have z1 := N3.frozen 1
  have u1 := N3.cell 1
  have z2 := N3.frozen 2
  have u2 := N3.cell 2
  have z3 := N3.frozen 3
  have u3 := N3.cell 3
  simp only [List.getElem?_toArray, List.getElem?_cons_zero, List.getElem?_cons_succ] at x0 x1 x2 x3 y0 y1 y2 y3 y4 y5 u0 u1 u2 u3
  have zo := fun o i => old_cell (w := w2) (g := w.heap.size + 1) N2.lt o i
  have xo := fun o i => old_cell (w := w2) (g := w.heap.size) N1.lt o i
  have nz1 : w.heap.size + 1 ≠ w2.heap.size := by have := N2.lt; omega
  have nz2 : w2.heap.size ≠ w.heap.size + 1 := by have := N2.lt; omega
  have nx1 : w.heap.size ≠ w2.heap.size := by have := N1.lt; omega
  have nx2 : w2.heap.size ≠ w.heap.size := by have := N1.lt; omega
  have hcv := make_zeros ln z HZ.out (w2.alloc (.cells #[.int .i64 fl, .int .i64 kd, .int .u64 (ck : Nat), .int .u64 (fr : Nat), .int .u32 (ln : Nat), .string ⟨d.toArray⟩, .string ⟨#[]⟩, .string ⟨#[]⟩, .slice none 0 0, .int .u32 0] 42))
  simp only [World.size_alloc] at hcv
  have xo2 := fun o o' i => (old_cell (w := w2.alloc o) (g := w.heap.size) (by have := N1.lt; simp; omega) o' i).trans (xo o i)
  have zo2 := fun o o' i => (old_cell (w := w2.alloc o) (g := w.heap.size + 1) (by have := N2.lt; simp; omega) o' i).trans (zo o i)
  have wo2 : ∀ o o' i, ((w2.alloc o).alloc o').cell? ⟨w2.heap.size, i, none⟩ = (w2.alloc o).cell? ⟨w2.heap.size, i, none⟩ := fun o o' i => old_cell (by simp) o' i
  have HS2 : w.heap.size ≤ w2.heap.size := b2.size
  have HN3 := N3.lt
  have NW := (Blk.new w2 42 #[.int .i64 fl, .int .i64 kd, .int .u64 (ck : Nat), .int .u64 (fr : Nat), .int .u32 (ln : Nat), .string ⟨d.toArray⟩, .string ⟨z.toArray⟩, .string ⟨z.toArray⟩, .slice none 0 0, .int .u32 0]).alloc (.cells (madeCells #[.int .u8 0] ln) 5)
  have hP : Below w2.heap.size w2 ((w2.alloc (.cells #[.int .i64 fl, .int .i64 kd, .int .u64 (ck : Nat), .int .u64 (fr : Nat), .int .u32 (ln : Nat), .string ⟨d.toArray⟩, .string ⟨z.toArray⟩, .string ⟨z.toArray⟩, .slice none 0 0, .int .u32 0] 42)).alloc (.cells (madeCells #[.int .u8 0] ln) 5)) := by (repeat' (first | (with_reducible assumption) | (with_reducible exact Below.refl _ _) | (with_reducible refine below_drewN ?_ _) | (with_reducible refine Below.drew ?_) | (with_reducible refine Below.setCell ?_ ?_ _) | (with_reducible refine Below.alloc ?_ ?_ _) | (with_reducible refine below_putObj ?_ ?_ _) | (with_reducible exact Nat.le_refl _) | omega | (simp; done) | (simp; omega)))
  have M1 := ((N1.alloc (.cells #[.int .i64 fl, .int .i64 kd, .int .u64 (ck : Nat), .int .u64 (fr : Nat), .int .u32 (ln : Nat), .string ⟨d.toArray⟩, .string ⟨z.toArray⟩, .string ⟨z.toArray⟩, .slice none 0 0, .int .u32 0] 42)).alloc (.cells (madeCells #[.int .u8 0] ln) 5))
  have M2 := ((N2.alloc (.cells #[.int .i64 fl, .int .i64 kd, .int .u64 (ck : Nat), .int .u64 (fr : Nat), .int .u32 (ln : Nat), .string ⟨d.toArray⟩, .string ⟨z.toArray⟩, .string ⟨z.toArray⟩, .slice none 0 0, .int .u32 0] 42)).alloc (.cells (madeCells #[.int .u8 0] ln) 5))
  have M3 := ((N3.alloc (.cells #[.int .i64 fl, .int .i64 kd, .int .u64 (ck : Nat), .int .u64 (fr : Nat), .int .u32 (ln : Nat), .string ⟨d.toArray⟩, .string ⟨z.toArray⟩, .string ⟨z.toArray⟩, .slice none 0 0, .int .u32 0] 42)).alloc (.cells (madeCells #[.int .u8 0] ln) 5))
  have MW := NW
  have B5 := below_next b2 hP
  have hs5 : w2.heap.size + 2 ≤ ((w2.alloc (.cells #[.int .i64 fl, .int .i64 kd, .int .u64 (ck : Nat), .int .u64 (fr : Nat), .int .u32 (ln : Nat), .string ⟨d.toArray⟩, .string ⟨z.toArray⟩, .string ⟨z.toArray⟩, .slice none 0 0, .int .u32 0] 42)).alloc (.cells (madeCells #[.int .u8 0] ln) 5)).heap.size := by simp
  have ho5 := World.ownsRow_nil ((w2.alloc (.cells #[.int .i64 fl, .int .i64 kd, .int .u64 (ck : Nat), .int .u64 (fr : Nat), .int .u32 (ln : Nat), .string ⟨d.toArray⟩, .string ⟨z.toArray⟩, .string ⟨z.toArray⟩, .slice none 0 0, .int .u32 0] 42)).alloc (.cells (madeCells #[.int .u8 0] ln) 5)) (w2.heap.size + 2) 42 10
  have n0 := MW.cell 0
  have n1 := MW.cell 1
  have n2 := MW.cell 2
  have n3 := MW.cell 3
  have n4 := MW.cell 4
  have n5 := MW.cell 5
  have n6 := MW.cell 6
  have n7 := MW.cell 7
  have n8 := MW.cell 8
  have n9 := MW.cell 9
  simp only [List.getElem?_toArray, List.getElem?_cons_zero, List.getElem?_cons_succ] at n0 n1 n2 n3 n4 n5 n6 n7 n8 n9
  go_wp2_with (at_builtin; refine wpList_append_own _ rfl _ _ 26 rfl (w2.heap.size + 2) 42 i0 (.agg #[.int .i64 0, .int .i64 0, .int .u64 0, .int .u64 0, .int .u32 0, .string ⟨#[]⟩, .string ⟨#[]⟩, .string ⟨#[]⟩, .slice none 0 0, .int .u32 0]) 10 120 Try.underlying26 hi hz0 hz1 hz2 rfl (by decide) _ _ _ rfl (ho5.alloc _) ⟨w2.heap.size + 2, 0, none⟩ 1 1 [.int .i64 fl, .int .i64 kd, .int .u64 (ck : Nat), .int .u64 (fr : Nat), .int .u32 (ln : Nat), .string ⟨d.toArray⟩, .string ⟨z.toArray⟩, .string ⟨z.toArray⟩, .slice none 0 0, .int .u32 0] rfl rfl ?q2 ?q3 ?q4 ?q5 ?q6 ?_)
  case q2 => exact World.news_of_block (Blk.newAt (by simp))
  case q3 => intro u hu; simp only [List.mem_cons, List.not_mem_nil, or_false] at hu; rcases hu with rfl | rfl | rfl | rfl | rfl | rfl | rfl | rfl | rfl | rfl <;> rfl
  case q4 => unfold maxLen; omega
  case q5 => omega
  case q6 => simp
  intro v6 w6 ho6 hg6 _
  clear x0 x1 x2 x3 y0 y1 y2 y3 y4 y5 u0 u1 u2 u3 z0 z1 z2 z3
  clear N1 N2 N3 NW hP b2 zo xo nz1 nz2 nx1 nx2 zo2 xo2 wo2 hcv hmk
  have K1 := own_cell (ho5.alloc _) hg6 (M1.alloc _) (by omega)
  have K2 := own_cell (ho5.alloc _) hg6 (M2.alloc _) (by omega)
  have K3 := own_cell (ho5.alloc _) hg6 (M3.alloc _) (by omega)
  have B6 := (B5.alloc B5.size _).grown hg6 (by have := B5.size; simp; omega) (fun k hk => by have := ((ho5.alloc (.cells #[.int .i64 fl, .int .i64 kd, .int .u64 (ck : Nat), .int .u64 (fr : Nat), .int .u32 (ln : Nat), .string ⟨d.toArray⟩, .string ⟨z.toArray⟩, .string ⟨z.toArray⟩, .slice none 0 0, .int .u32 0] 42)).lt k hk).1; have := HS2; omega)
  obtain ⟨g6, c6, rfl⟩ := (SlAt.of_row ho6).form
  clear n0 n1 n2 n3 n4 n5 n6 n7 n8 n9 M1 M2 M3 MW ho5 hg6 B5
  have k0 := K1.cell 0
  have k1 := K1.cell 1
  have k2 := K1.cell 2
  have k3 := K1.cell 3
  have k2f := K1.frozen 2
  have y0 := K2.cell 0
  have y1 := K2.cell 1
  have y2 := K2.cell 2
  have y3 := K2.cell 3
  have y4 := K2.cell 4
  have y5 := K2.cell 5
  simp only [List.getElem?_toArray, List.getElem?_cons_zero, List.getElem?_cons_succ] at k0 k1 k2 k3 y0 y1 y2 y3 y4 y5
  go_wp2_with fail
  refine (HWR.out _).mono ?_
  rintro e w7 ⟨rfl, hb7⟩
  have L1 : Blk (w6.setCell ⟨w.heap.size, 2, none⟩ (.slice g6 (0 + 1) c6)) w.heap.size 28 #[.string ⟨bf.toArray⟩, .bool ch, .slice g6 (0 + 1) c6, .bool false] := (K1.set_ 2 _).as_ (by simp)
  have L3 := K3.far (p := ⟨w.heap.size, 2, none⟩) (by dsimp only; omega) (.slice g6 (0 + 1) c6)
  have R1 := L1.below hb7 L1.lt
  have R3 := L3.below hb7 L3.lt
  have O7 := own_below (ownsRow_setCell_below ho6 (a := ⟨w.heap.size, 2, none⟩) (by dsimp only; omega) (.slice g6 (0 + 1) c6)) hb7
  have B7 := below_next (B6.setCell (p := ⟨w.heap.size, 2, none⟩) (by dsimp only; omega) (.slice g6 (0 + 1) c6)) hb7
  clear k0 k1 k2 k3 k2f y0 y1 y2 y3 y4 y5 L1 L3 K1 K2 K3 hb7 ho6 B6 HWR
  have x0 := R1.cell 0
  have x1 := R1.cell 1
  have x2 := R1.cell 2
  have x3 := R1.cell 3
  have u0 := R3.cell 0
  have u1 := R3.cell 1
  have u2 := R3.cell 2
  have u3 := R3.cell 3
  have z0 := R3.frozen 0
  have z1 := R3.frozen 1
  have z2 := R3.frozen 2
  have z3 := R3.frozen 3
  simp only [List.getElem?_toArray, List.getElem?_cons_zero, List.getElem?_cons_succ] at x0 u0 x1 u1 x2 u2 x3 u3
  go_wp2_with fail
  refine bodyPost_ret (v := .tuple #[.agg #[.string ⟨bf.toArray⟩, .bool ch, .slice g6 (0 + 1) c6, .bool false], .string ⟨out.toArray⟩, .int .i64 0]) (by simp [results, Try.results20, go_sem, u0, u1, u2, u3]) rfl ?_
  exact HE.out _ _ (own_base (ownsRow_setCell_below (ownsRow_setCell_below (ownsRow_setCell_below (ownsRow_setCell_below O7 (by dsimp only; omega) _) (by dsimp only; omega) _) (by dsimp only; omega) _) (by dsimp only; omega) _) (by omega)) (by have s7 := B7.size; (repeat' (first | (with_reducible assumption) | (with_reducible exact Below.refl _ _) | (with_reducible refine below_drewN ?_ _) | (with_reducible refine Below.drew ?_) | (with_reducible refine Below.setCell ?_ ?_ _) | (with_reducible refine Below.alloc ?_ ?_ _) | (with_reducible refine below_putObj ?_ ?_ _) | (with_reducible exact Nat.le_refl _) | omega | (simp; done) | (simp; omega))))

end Go.Proofs.Ytfcojhpnpfodeaa
