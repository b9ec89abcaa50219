/- match.Ask. -/
import Derived.Test.YtfcojhpnpfodeaaMatReq
import Derived.Test.YtfcojhpnpfodeaaShelf
namespace Go.Proofs.Ytfcojhpnpfodeaa
open Go.RowKit

/-- How Ask ends. -/
def AskEnds (m : Mat) (q : Req) (w : World) (e : Ending) (w' : World) : Prop :=
  ∃ v, e = .returned (.tuple #[.agg (matC (m.ask q).1 v), .string ⟨(m.ask q).2.1.toArray⟩, .int .i64 (m.ask q).2.2]) ∧ WaitsAt w' v (m.ask q).1.waits ∧ Below w.heap.size w w'
theorem ask_same {m : Mat} {q : Req} {w w' : World} {v : Value} {x : Int} (h : m.ask q = (m, [], x)) (hv : WaitsAt w v m.waits) (hb : Below w.heap.size w w') : AskEnds m q w (.returned (.tuple #[.agg (matC m v), .string ⟨#[]⟩, .int .i64 x])) w' := by
  unfold AskEnds
  rw [h]
  exact ⟨v, rfl, hv.below hb, hb⟩
theorem ask_dead (m : Mat) (q : Req) (h : m.dead = true) : m.ask q = (m, [], 24) := by unfold Mat.ask; rw [if_pos h]
theorem ask_bad (m : Mat) (q : Req) (h : m.dead = false) (h2 : q.fit = false ∨ (q.kind = 0 ∧ 4096 < q.len)) : m.ask q = (m, [], 25) := by unfold Mat.ask; rw [if_neg (by simp [h]), if_pos h2]
theorem ask_twice (m : Mat) (q : Req) (h : m.dead = false) (h2 : ¬ (q.fit = false ∨ (q.kind = 0 ∧ 4096 < q.len))) (h3 : (findW m.waits q.cookie).isSome = true) : m.ask q = (m, [], 20) := by unfold Mat.ask; rw [if_neg (by simp [h]), if_neg h2, if_pos h3]
theorem ask_many (m : Mat) (q : Req) (h : m.dead = false) (h2 : ¬ (q.fit = false ∨ (q.kind = 0 ∧ 4096 < q.len))) (h3 : ¬ (findW m.waits q.cookie).isSome = true) (h4 : 8 ≤ m.waits.length) : m.ask q = (m, [], 16) := by
  unfold Mat.ask; rw [if_neg (by simp [h]), if_neg h2, if_neg h3, if_pos h4]
theorem ask_ok (m : Mat) (q : Req) (h : m.dead = false) (h2 : ¬ (q.fit = false ∨ (q.kind = 0 ∧ 4096 < q.len))) (h3 : ¬ (findW m.waits q.cookie).isSome = true) (h4 : ¬ 8 ≤ m.waits.length) : m.ask q = ({ m with waits := m.waits ++ [Wait.fresh q] }, reqBytes q, 0) := by
  unfold Mat.ask; rw [if_neg (by simp [h]), if_neg h2, if_neg h3, if_neg h4]
theorem findI_some (l : List Wait) (c : Nat) (h : (findW l c).isSome = true) : 0 ≤ findI l c := by
  unfold findI
  cases hf : findW l c with
  | none => rw [hf] at h; simp at h
  | some k => simp
theorem findI_not (l : List Wait) (c : Nat) (h : ¬ (findW l c).isSome = true) : findI l c = -1 := by
  unfold findI
  cases hf : findW l c with
  | none => rfl
  | some k => rw [hf] at h; simp at h
theorem repeat_byte (c : UInt8) (n : Nat) : Lib.repeatL [c] n = List.replicate n c := by
  induction n with
  | zero => rfl
  | succ n ih => rw [Lib.repeatL, ih]; rfl

-- WALKS
set_option maxRecDepth 100000 in
set_option maxHeartbeats 2000000 in
theorem askr_dead (bf : List UInt8) (ch : Bool) (ad : Option Addr) (n cap : Nat) (fl kd : Int) (ck fr ln : Nat) (d : List UInt8) (F : Int) (w : World) (Q : Ending → World → Prop)
    (HE : Hid (∀ w', Below w.heap.size w w' → Q (.returned (.tuple #[.agg #[.string ⟨bf.toArray⟩, .bool ch, .slice ad n cap, .bool true], .string ⟨#[]⟩, .int .i64 24])) w'))
    : Calls Try.prog 16 #[.agg #[.string ⟨bf.toArray⟩, .bool ch, .slice ad n cap, .bool true], .agg #[.int .i64 fl, .int .i64 kd, .int .u64 (ck : Nat), .int .u64 (fr : Nat), .int .u32 (ln : Nat), .string ⟨d.toArray⟩]] w Q := by
  have mixed : Try.prog.follows .mixedOrders = true := by kernel_rfl
  go_enter Try.func16, Try.ntmps16
  go_wp2_with fail
  refine bodyPost_ret (v := .tuple #[.agg #[.string ⟨bf.toArray⟩, .bool ch, .slice ad n cap, .bool true], .string ⟨#[]⟩, .int .i64 24]) (by simp [results, Try.results16, go_sem]) rfl ?_
  exact HE.out _ (by (repeat' (first | (with_reducible assumption) | (with_reducible exact Below.refl _ _) | (with_reducible refine below_drewN ?_ _) | (with_reducible refine Below.drew ?_) | (with_reducible refine Below.setCell ?_ ?_ _) | (with_reducible refine Below.alloc ?_ ?_ _) | (with_reducible refine below_putObj ?_ ?_ _) | (with_reducible exact Nat.le_refl _) | omega | (simp; done) | (simp; omega))))

set_option maxRecDepth 100000 in
set_option maxHeartbeats 2000000 in
theorem askr_unfit (bf : List UInt8) (ch : Bool) (ad : Option Addr) (n cap : Nat) (fl kd : Int) (ck fr ln : Nat) (d : List UInt8) (F : Int) (w : World) (Q : Ending → World → Prop)
    (HE : Hid (∀ w', Below w.heap.size w w' → Q (.returned (.tuple #[.agg #[.string ⟨bf.toArray⟩, .bool ch, .slice ad n cap, .bool false], .string ⟨#[]⟩, .int .i64 25])) w'))
    (HFT : Hid (∀ W, Calls Try.prog 27 #[.agg #[.int .i64 fl, .int .i64 kd, .int .u64 (ck : Nat), .int .u64 (fr : Nat), .int .u32 (ln : Nat), .string ⟨d.toArray⟩]] W (Gives (.bool false) W)))
    : Calls Try.prog 16 #[.agg #[.string ⟨bf.toArray⟩, .bool ch, .slice ad n cap, .bool false], .agg #[.int .i64 fl, .int .i64 kd, .int .u64 (ck : Nat), .int .u64 (fr : Nat), .int .u32 (ln : Nat), .string ⟨d.toArray⟩]] w Q := by
  have mixed : Try.prog.follows .mixedOrders = true := by kernel_rfl
  go_enter Try.func16, Try.ntmps16
  go_wp2_with fail
  have hg : Below w.heap.size w (((w.alloc (.cells #[.string ⟨bf.toArray⟩, .bool ch, .slice ad n cap, .bool false] 28)).alloc (.cells #[.int .i64 fl, .int .i64 kd, .int .u64 (ck : Nat), .int .u64 (fr : Nat), .int .u32 (ln : Nat), .string ⟨d.toArray⟩] 37)).alloc (.cells #[.string ⟨#[]⟩, .bool false, .slice none 0 0, .bool false] 28)) := by (repeat' (first | (with_reducible assumption) | (with_reducible exact Below.refl _ _) | (with_reducible refine below_drewN ?_ _) | (with_reducible refine Below.drew ?_) | (with_reducible refine Below.setCell ?_ ?_ _) | (with_reducible refine Below.alloc ?_ ?_ _) | (with_reducible refine below_putObj ?_ ?_ _) | (with_reducible exact Nat.le_refl _) | omega | (simp; done) | (simp; omega)))
  have M1 := ((Blk.new w 28 #[.string ⟨bf.toArray⟩, .bool ch, .slice ad n cap, .bool false]).alloc (.cells #[.int .i64 fl, .int .i64 kd, .int .u64 (ck : Nat), .int .u64 (fr : Nat), .int .u32 (ln : Nat), .string ⟨d.toArray⟩] 37)).alloc (.cells #[.string ⟨#[]⟩, .bool false, .slice none 0 0, .bool false] 28)
  have M2 : Blk (((w.alloc (.cells #[.string ⟨bf.toArray⟩, .bool ch, .slice ad n cap, .bool false] 28)).alloc (.cells #[.int .i64 fl, .int .i64 kd, .int .u64 (ck : Nat), .int .u64 (fr : Nat), .int .u32 (ln : Nat), .string ⟨d.toArray⟩] 37)).alloc (.cells #[.string ⟨#[]⟩, .bool false, .slice none 0 0, .bool false] 28)) (w.heap.size + 1) 37 #[.int .i64 fl, .int .i64 kd, .int .u64 (ck : Nat), .int .u64 (fr : Nat), .int .u32 (ln : Nat), .string ⟨d.toArray⟩] := (Blk.newAt (by simp)).alloc _
  have M3 : Blk (((w.alloc (.cells #[.string ⟨bf.toArray⟩, .bool ch, .slice ad n cap, .bool false] 28)).alloc (.cells #[.int .i64 fl, .int .i64 kd, .int .u64 (ck : Nat), .int .u64 (fr : Nat), .int .u32 (ln : Nat), .string ⟨d.toArray⟩] 37)).alloc (.cells #[.string ⟨#[]⟩, .bool false, .slice none 0 0, .bool false] 28)) (w.heap.size + 1 + 1) 28 #[.string ⟨#[]⟩, .bool false, .slice none 0 0, .bool false] := Blk.newAt (by simp)
  refine (HFT.out _).mono ?_
  rintro e w1 ⟨rfl, hb1⟩
  have N1 := M1.below hb1 M1.lt
  have N2 := M2.below hb1 M2.lt
  have N3 := M3.below hb1 M3.lt
  have b1 := below_next hg hb1
  clear hg hb1 M1 M2 M3 HFT
  have x0 := N1.cell 0
  have x1 := N1.cell 1
  have x2 := N1.cell 2
  have x3 := N1.cell 3
  have y0 := N2.cell 0
  have y1 := N2.cell 1
  have y2 := N2.cell 2
  have y3 := N2.cell 3
  have y4 := N2.cell 4
  have y5 := N2.cell 5
  have z0 := N3.frozen 0
  have u0 := N3.cell 0
  have z1 := N3.frozen 1
  have u1 := N3.cell 1
  have z2 := N3.frozen 2
  have u2 := N3.cell 2
  have z3 := N3.frozen 3
  have u3 := N3.cell 3
  simp only [List.getElem?_toArray, List.getElem?_cons_zero, List.getElem?_cons_succ] at x0 x1 x2 x3 y0 y1 y2 y3 y4 y5 u0 u1 u2 u3
  go_wp2_with fail
  refine bodyPost_ret (v := .tuple #[.agg #[.string ⟨bf.toArray⟩, .bool ch, .slice ad n cap, .bool false], .string ⟨#[]⟩, .int .i64 25]) (by simp [results, Try.results16, go_sem, u0, u1, u2, u3]) rfl ?_
  exact HE.out _ (by have s1 := b1.size; (repeat' (first | (with_reducible assumption) | (with_reducible exact Below.refl _ _) | (with_reducible refine below_drewN ?_ _) | (with_reducible refine Below.drew ?_) | (with_reducible refine Below.setCell ?_ ?_ _) | (with_reducible refine Below.alloc ?_ ?_ _) | (with_reducible refine below_putObj ?_ ?_ _) | (with_reducible exact Nat.le_refl _) | omega | (simp; done) | (simp; omega))))

set_option maxRecDepth 100000 in
set_option maxHeartbeats 2000000 in
theorem askr_long (bf : List UInt8) (ch : Bool) (ad : Option Addr) (n cap : Nat) (fl kd : Int) (ck fr ln : Nat) (d : List UInt8) (F : Int) (w : World) (Q : Ending → World → Prop)
    (HE : Hid (∀ w', Below w.heap.size w w' → Q (.returned (.tuple #[.agg #[.string ⟨bf.toArray⟩, .bool ch, .slice ad n cap, .bool false], .string ⟨#[]⟩, .int .i64 25])) w'))
    (HFT : Hid (∀ W, Calls Try.prog 27 #[.agg #[.int .i64 fl, .int .i64 kd, .int .u64 (ck : Nat), .int .u64 (fr : Nat), .int .u32 (ln : Nat), .string ⟨d.toArray⟩]] W (Gives (.bool true) W)))
    (hk : (kd == 0) = true) (h5 : (4096 : Int) < (ln : Int)) : Calls Try.prog 16 #[.agg #[.string ⟨bf.toArray⟩, .bool ch, .slice ad n cap, .bool false], .agg #[.int .i64 fl, .int .i64 kd, .int .u64 (ck : Nat), .int .u64 (fr : Nat), .int .u32 (ln : Nat), .string ⟨d.toArray⟩]] w Q := by
  have mixed : Try.prog.follows .mixedOrders = true := by kernel_rfl
  go_enter Try.func16, Try.ntmps16
  go_wp2_with fail
  have hg : Below w.heap.size w (((w.alloc (.cells #[.string ⟨bf.toArray⟩, .bool ch, .slice ad n cap, .bool false] 28)).alloc (.cells #[.int .i64 fl, .int .i64 kd, .int .u64 (ck : Nat), .int .u64 (fr : Nat), .int .u32 (ln : Nat), .string ⟨d.toArray⟩] 37)).alloc (.cells #[.string ⟨#[]⟩, .bool false, .slice none 0 0, .bool false] 28)) := by (repeat' (first | (with_reducible assumption) | (with_reducible exact Below.refl _ _) | (with_reducible refine below_drewN ?_ _) | (with_reducible refine Below.drew ?_) | (with_reducible refine Below.setCell ?_ ?_ _) | (with_reducible refine Below.alloc ?_ ?_ _) | (with_reducible refine below_putObj ?_ ?_ _) | (with_reducible exact Nat.le_refl _) | omega | (simp; done) | (simp; omega)))
  have M1 := ((Blk.new w 28 #[.string ⟨bf.toArray⟩, .bool ch, .slice ad n cap, .bool false]).alloc (.cells #[.int .i64 fl, .int .i64 kd, .int .u64 (ck : Nat), .int .u64 (fr : Nat), .int .u32 (ln : Nat), .string ⟨d.toArray⟩] 37)).alloc (.cells #[.string ⟨#[]⟩, .bool false, .slice none 0 0, .bool false] 28)
  have M2 : Blk (((w.alloc (.cells #[.string ⟨bf.toArray⟩, .bool ch, .slice ad n cap, .bool false] 28)).alloc (.cells #[.int .i64 fl, .int .i64 kd, .int .u64 (ck : Nat), .int .u64 (fr : Nat), .int .u32 (ln : Nat), .string ⟨d.toArray⟩] 37)).alloc (.cells #[.string ⟨#[]⟩, .bool false, .slice none 0 0, .bool false] 28)) (w.heap.size + 1) 37 #[.int .i64 fl, .int .i64 kd, .int .u64 (ck : Nat), .int .u64 (fr : Nat), .int .u32 (ln : Nat), .string ⟨d.toArray⟩] := (Blk.newAt (by simp)).alloc _
  have M3 : Blk (((w.alloc (.cells #[.string ⟨bf.toArray⟩, .bool ch, .slice ad n cap, .bool false] 28)).alloc (.cells #[.int .i64 fl, .int .i64 kd, .int .u64 (ck : Nat), .int .u64 (fr : Nat), .int .u32 (ln : Nat), .string ⟨d.toArray⟩] 37)).alloc (.cells #[.string ⟨#[]⟩, .bool false, .slice none 0 0, .bool false] 28)) (w.heap.size + 1 + 1) 28 #[.string ⟨#[]⟩, .bool false, .slice none 0 0, .bool false] := Blk.newAt (by simp)
  refine (HFT.out _).mono ?_
  rintro e w1 ⟨rfl, hb1⟩
  have N1 := M1.below hb1 M1.lt
  have N2 := M2.below hb1 M2.lt
  have N3 := M3.below hb1 M3.lt
  have b1 := below_next hg hb1
  clear hg hb1 M1 M2 M3 HFT
  have x0 := N1.cell 0
  have x1 := N1.cell 1
  have x2 := N1.cell 2
  have x3 := N1.cell 3
  have y0 := N2.cell 0
  have y1 := N2.cell 1
  have y2 := N2.cell 2
  have y3 := N2.cell 3
  have y4 := N2.cell 4
  have y5 := N2.cell 5
  have z0 := N3.frozen 0
  have u0 := N3.cell 0
  have z1 := N3.frozen 1
  have u1 := N3.cell 1
  have z2 := N3.frozen 2
  have u2 := N3.cell 2
  have z3 := N3.frozen 3
  have u3 := N3.cell 3
  simp only [List.getElem?_toArray, List.getElem?_cons_zero, List.getElem?_cons_succ] at x0 x1 x2 x3 y0 y1 y2 y3 y4 y5 u0 u1 u2 u3
  go_wp2_with fail
  refine bodyPost_ret (v := .tuple #[.agg #[.string ⟨bf.toArray⟩, .bool ch, .slice ad n cap, .bool false], .string ⟨#[]⟩, .int .i64 25]) (by simp [results, Try.results16, go_sem, u0, u1, u2, u3]) rfl ?_
  exact HE.out _ (by have s1 := b1.size; (repeat' (first | (with_reducible assumption) | (with_reducible exact Below.refl _ _) | (with_reducible refine below_drewN ?_ _) | (with_reducible refine Below.drew ?_) | (with_reducible refine Below.setCell ?_ ?_ _) | (with_reducible refine Below.alloc ?_ ?_ _) | (with_reducible refine below_putObj ?_ ?_ _) | (with_reducible exact Nat.le_refl _) | omega | (simp; done) | (simp; omega))))

set_option maxRecDepth 100000 in
set_option maxHeartbeats 2000000 in
theorem askr_twice_read (bf : List UInt8) (ch : Bool) (ad : Option Addr) (n cap : Nat) (fl kd : Int) (ck fr ln : Nat) (d : List UInt8) (F : Int) (w : World) (Q : Ending → World → Prop)
    (HE : Hid (∀ w', Below w.heap.size w w' → Q (.returned (.tuple #[.agg #[.string ⟨bf.toArray⟩, .bool ch, .slice ad n cap, .bool false], .string ⟨#[]⟩, .int .i64 20])) w'))
    (HFT : Hid (∀ W, Calls Try.prog 27 #[.agg #[.int .i64 fl, .int .i64 kd, .int .u64 (ck : Nat), .int .u64 (fr : Nat), .int .u32 (ln : Nat), .string ⟨d.toArray⟩]] W (Gives (.bool true) W)))
    (HFD : Hid (∀ W, Below w.heap.size w W → Calls Try.prog 28 #[.agg #[.string ⟨bf.toArray⟩, .bool ch, .slice ad n cap, .bool false], .int .u64 (ck : Nat)] W (Gives (.int .i64 F) W)))
    (h4 : 0 ≤ F) (hk : (kd == 0) = true) (h7 : ¬ (4096 : Int) < (ln : Int)) : Calls Try.prog 16 #[.agg #[.string ⟨bf.toArray⟩, .bool ch, .slice ad n cap, .bool false], .agg #[.int .i64 fl, .int .i64 kd, .int .u64 (ck : Nat), .int .u64 (fr : Nat), .int .u32 (ln : Nat), .string ⟨d.toArray⟩]] w Q := by
  have mixed : Try.prog.follows .mixedOrders = true := by kernel_rfl
  go_enter Try.func16, Try.ntmps16
  go_wp2_with fail
  have hg : Below w.heap.size w (((w.alloc (.cells #[.string ⟨bf.toArray⟩, .bool ch, .slice ad n cap, .bool false] 28)).alloc (.cells #[.int .i64 fl, .int .i64 kd, .int .u64 (ck : Nat), .int .u64 (fr : Nat), .int .u32 (ln : Nat), .string ⟨d.toArray⟩] 37)).alloc (.cells #[.string ⟨#[]⟩, .bool false, .slice none 0 0, .bool false] 28)) := by (repeat' (first | (with_reducible assumption) | (with_reducible exact Below.refl _ _) | (with_reducible refine below_drewN ?_ _) | (with_reducible refine Below.drew ?_) | (with_reducible refine Below.setCell ?_ ?_ _) | (with_reducible refine Below.alloc ?_ ?_ _) | (with_reducible refine below_putObj ?_ ?_ _) | (with_reducible exact Nat.le_refl _) | omega | (simp; done) | (simp; omega)))
  have M1 := ((Blk.new w 28 #[.string ⟨bf.toArray⟩, .bool ch, .slice ad n cap, .bool false]).alloc (.cells #[.int .i64 fl, .int .i64 kd, .int .u64 (ck : Nat), .int .u64 (fr : Nat), .int .u32 (ln : Nat), .string ⟨d.toArray⟩] 37)).alloc (.cells #[.string ⟨#[]⟩, .bool false, .slice none 0 0, .bool false] 28)
  have M2 : Blk (((w.alloc (.cells #[.string ⟨bf.toArray⟩, .bool ch, .slice ad n cap, .bool false] 28)).alloc (.cells #[.int .i64 fl, .int .i64 kd, .int .u64 (ck : Nat), .int .u64 (fr : Nat), .int .u32 (ln : Nat), .string ⟨d.toArray⟩] 37)).alloc (.cells #[.string ⟨#[]⟩, .bool false, .slice none 0 0, .bool false] 28)) (w.heap.size + 1) 37 #[.int .i64 fl, .int .i64 kd, .int .u64 (ck : Nat), .int .u64 (fr : Nat), .int .u32 (ln : Nat), .string ⟨d.toArray⟩] := (Blk.newAt (by simp)).alloc _
  have M3 : Blk (((w.alloc (.cells #[.string ⟨bf.toArray⟩, .bool ch, .slice ad n cap, .bool false] 28)).alloc (.cells #[.int .i64 fl, .int .i64 kd, .int .u64 (ck : Nat), .int .u64 (fr : Nat), .int .u32 (ln : Nat), .string ⟨d.toArray⟩] 37)).alloc (.cells #[.string ⟨#[]⟩, .bool false, .slice none 0 0, .bool false] 28)) (w.heap.size + 1 + 1) 28 #[.string ⟨#[]⟩, .bool false, .slice none 0 0, .bool false] := Blk.newAt (by simp)
  refine (HFT.out _).mono ?_
  rintro e w1 ⟨rfl, hb1⟩
  have N1 := M1.below hb1 M1.lt
  have N2 := M2.below hb1 M2.lt
  have N3 := M3.below hb1 M3.lt
  have b1 := below_next hg hb1
  clear hg hb1 M1 M2 M3 HFT
  have x0 := N1.cell 0
  have x1 := N1.cell 1
  have x2 := N1.cell 2
  have x3 := N1.cell 3
  have y0 := N2.cell 0
  have y1 := N2.cell 1
  have y2 := N2.cell 2
  have y3 := N2.cell 3
  have y4 := N2.cell 4
  have y5 := N2.cell 5
  have z0 := N3.frozen 0
  have u0 := N3.cell 0
  have z1 := N3.frozen 1
  have u1 := N3.cell 1
  have z2 := N3.frozen 2
  have u2 := N3.cell 2
  have z3 := N3.frozen 3
  have u3 := N3.cell 3
  simp only [List.getElem?_toArray, List.getElem?_cons_zero, List.getElem?_cons_succ] at x0 x1 x2 x3 y0 y1 y2 y3 y4 y5 u0 u1 u2 u3
  go_wp2_with fail
  refine (HFD.out _ b1).mono ?_
  rintro e w2 ⟨rfl, hb2⟩
  clear x0 x1 x2 x3 y0 y1 y2 y3 y4 y5 u0 u1 u2 u3 z0 z1 z2 z3
  replace N1 := N1.below hb2 N1.lt
  replace N2 := N2.below hb2 N2.lt
  replace N3 := N3.below hb2 N3.lt
  have b2 := below_next b1 hb2
  clear b1 hb2 HFD
  have x0 := N1.cell 0
  have x1 := N1.cell 1
  have x2 := N1.cell 2
  have x3 := N1.cell 3
  have y0 := N2.cell 0
  have y1 := N2.cell 1
  have y2 := N2.cell 2
  have y3 := N2.cell 3
  have y4 := N2.cell 4
  have y5 := N2.cell 5
  have z0 := N3.frozen 0
  have u0 := N3.cell 0
  have z1 := N3.frozen 1
  have u1 := N3.cell 1
  have z2 := N3.frozen 2
  have u2 := N3.cell 2
  have z3 := N3.frozen 3
  have u3 := N3.cell 3
  simp only [List.getElem?_toArray, List.getElem?_cons_zero, List.getElem?_cons_succ] at x0 x1 x2 x3 y0 y1 y2 y3 y4 y5 u0 u1 u2 u3
  go_wp2_with fail
  refine bodyPost_ret (v := .tuple #[.agg #[.string ⟨bf.toArray⟩, .bool ch, .slice ad n cap, .bool false], .string ⟨#[]⟩, .int .i64 20]) (by simp [results, Try.results16, go_sem, u0, u1, u2, u3]) rfl ?_
  exact HE.out _ (by have s1 := b2.size; (repeat' (first | (with_reducible assumption) | (with_reducible exact Below.refl _ _) | (with_reducible refine below_drewN ?_ _) | (with_reducible refine Below.drew ?_) | (with_reducible refine Below.setCell ?_ ?_ _) | (with_reducible refine Below.alloc ?_ ?_ _) | (with_reducible refine below_putObj ?_ ?_ _) | (with_reducible exact Nat.le_refl _) | omega | (simp; done) | (simp; omega))))

set_option maxRecDepth 100000 in
set_option maxHeartbeats 2000000 in
theorem askr_twice (bf : List UInt8) (ch : Bool) (ad : Option Addr) (n cap : Nat) (fl kd : Int) (ck fr ln : Nat) (d : List UInt8) (F : Int) (w : World) (Q : Ending → World → Prop)
    (HE : Hid (∀ w', Below w.heap.size w w' → Q (.returned (.tuple #[.agg #[.string ⟨bf.toArray⟩, .bool ch, .slice ad n cap, .bool false], .string ⟨#[]⟩, .int .i64 20])) w'))
    (HFT : Hid (∀ W, Calls Try.prog 27 #[.agg #[.int .i64 fl, .int .i64 kd, .int .u64 (ck : Nat), .int .u64 (fr : Nat), .int .u32 (ln : Nat), .string ⟨d.toArray⟩]] W (Gives (.bool true) W)))
    (HFD : Hid (∀ W, Below w.heap.size w W → Calls Try.prog 28 #[.agg #[.string ⟨bf.toArray⟩, .bool ch, .slice ad n cap, .bool false], .int .u64 (ck : Nat)] W (Gives (.int .i64 F) W)))
    (h4 : 0 ≤ F) (hk : (kd == 0) = false) : Calls Try.prog 16 #[.agg #[.string ⟨bf.toArray⟩, .bool ch, .slice ad n cap, .bool false], .agg #[.int .i64 fl, .int .i64 kd, .int .u64 (ck : Nat), .int .u64 (fr : Nat), .int .u32 (ln : Nat), .string ⟨d.toArray⟩]] w Q := by
  have mixed : Try.prog.follows .mixedOrders = true := by kernel_rfl
  go_enter Try.func16, Try.ntmps16
  go_wp2_with fail
  have hg : Below w.heap.size w (((w.alloc (.cells #[.string ⟨bf.toArray⟩, .bool ch, .slice ad n cap, .bool false] 28)).alloc (.cells #[.int .i64 fl, .int .i64 kd, .int .u64 (ck : Nat), .int .u64 (fr : Nat), .int .u32 (ln : Nat), .string ⟨d.toArray⟩] 37)).alloc (.cells #[.string ⟨#[]⟩, .bool false, .slice none 0 0, .bool false] 28)) := by (repeat' (first | (with_reducible assumption) | (with_reducible exact Below.refl _ _) | (with_reducible refine below_drewN ?_ _) | (with_reducible refine Below.drew ?_) | (with_reducible refine Below.setCell ?_ ?_ _) | (with_reducible refine Below.alloc ?_ ?_ _) | (with_reducible refine below_putObj ?_ ?_ _) | (with_reducible exact Nat.le_refl _) | omega | (simp; done) | (simp; omega)))
  have M1 := ((Blk.new w 28 #[.string ⟨bf.toArray⟩, .bool ch, .slice ad n cap, .bool false]).alloc (.cells #[.int .i64 fl, .int .i64 kd, .int .u64 (ck : Nat), .int .u64 (fr : Nat), .int .u32 (ln : Nat), .string ⟨d.toArray⟩] 37)).alloc (.cells #[.string ⟨#[]⟩, .bool false, .slice none 0 0, .bool false] 28)
  have M2 : Blk (((w.alloc (.cells #[.string ⟨bf.toArray⟩, .bool ch, .slice ad n cap, .bool false] 28)).alloc (.cells #[.int .i64 fl, .int .i64 kd, .int .u64 (ck : Nat), .int .u64 (fr : Nat), .int .u32 (ln : Nat), .string ⟨d.toArray⟩] 37)).alloc (.cells #[.string ⟨#[]⟩, .bool false, .slice none 0 0, .bool false] 28)) (w.heap.size + 1) 37 #[.int .i64 fl, .int .i64 kd, .int .u64 (ck : Nat), .int .u64 (fr : Nat), .int .u32 (ln : Nat), .string ⟨d.toArray⟩] := (Blk.newAt (by simp)).alloc _
  have M3 : Blk (((w.alloc (.cells #[.string ⟨bf.toArray⟩, .bool ch, .slice ad n cap, .bool false] 28)).alloc (.cells #[.int .i64 fl, .int .i64 kd, .int .u64 (ck : Nat), .int .u64 (fr : Nat), .int .u32 (ln : Nat), .string ⟨d.toArray⟩] 37)).alloc (.cells #[.string ⟨#[]⟩, .bool false, .slice none 0 0, .bool false] 28)) (w.heap.size + 1 + 1) 28 #[.string ⟨#[]⟩, .bool false, .slice none 0 0, .bool false] := Blk.newAt (by simp)
  refine (HFT.out _).mono ?_
  rintro e w1 ⟨rfl, hb1⟩
  have N1 := M1.below hb1 M1.lt
  have N2 := M2.below hb1 M2.lt
  have N3 := M3.below hb1 M3.lt
  have b1 := below_next hg hb1
  clear hg hb1 M1 M2 M3 HFT
  have x0 := N1.cell 0
  have x1 := N1.cell 1
  have x2 := N1.cell 2
  have x3 := N1.cell 3
  have y0 := N2.cell 0
  have y1 := N2.cell 1
  have y2 := N2.cell 2
  have y3 := N2.cell 3
  have y4 := N2.cell 4
  have y5 := N2.cell 5
  have z0 := N3.frozen 0
  have u0 := N3.cell 0
  have z1 := N3.frozen 1
  have u1 := N3.cell 1
  have z2 := N3.frozen 2
  have u2 := N3.cell 2
  have z3 := N3.frozen 3
  have u3 := N3.cell 3
  simp only [List.getElem?_toArray, List.getElem?_cons_zero, List.getElem?_cons_succ] at x0 x1 x2 x3 y0 y1 y2 y3 y4 y5 u0 u1 u2 u3
  go_wp2_with fail
  refine (HFD.out _ b1).mono ?_
  rintro e w2 ⟨rfl, hb2⟩
  clear x0 x1 x2 x3 y0 y1 y2 y3 y4 y5 u0 u1 u2 u3 z0 z1 z2 z3
  replace N1 := N1.below hb2 N1.lt
  replace N2 := N2.below hb2 N2.lt
  replace N3 := N3.below hb2 N3.lt
  have b2 := below_next b1 hb2
  clear b1 hb2 HFD
  have x0 := N1.cell 0
  have x1 := N1.cell 1
  have x2 := N1.cell 2
  have x3 := N1.cell 3
  have y0 := N2.cell 0
  have y1 := N2.cell 1
  have y2 := N2.cell 2
  have y3 := N2.cell 3
  have y4 := N2.cell 4
  have y5 := N2.cell 5
  have z0 := N3.frozen 0
  have u0 := N3.cell 0
  have z1 := N3.frozen 1
  have u1 := N3.cell 1
  have z2 := N3.frozen 2
  have u2 := N3.cell 2
  have z3 := N3.frozen 3
  have u3 := N3.cell 3
  simp only [List.getElem?_toArray, List.getElem?_cons_zero, List.getElem?_cons_succ] at x0 x1 x2 x3 y0 y1 y2 y3 y4 y5 u0 u1 u2 u3
  go_wp2_with fail
  refine bodyPost_ret (v := .tuple #[.agg #[.string ⟨bf.toArray⟩, .bool ch, .slice ad n cap, .bool false], .string ⟨#[]⟩, .int .i64 20]) (by simp [results, Try.results16, go_sem, u0, u1, u2, u3]) rfl ?_
  exact HE.out _ (by have s1 := b2.size; (repeat' (first | (with_reducible assumption) | (with_reducible exact Below.refl _ _) | (with_reducible refine below_drewN ?_ _) | (with_reducible refine Below.drew ?_) | (with_reducible refine Below.setCell ?_ ?_ _) | (with_reducible refine Below.alloc ?_ ?_ _) | (with_reducible refine below_putObj ?_ ?_ _) | (with_reducible exact Nat.le_refl _) | omega | (simp; done) | (simp; omega))))

set_option maxRecDepth 100000 in
set_option maxHeartbeats 2000000 in
theorem askr_many_read (bf : List UInt8) (ch : Bool) (ad : Option Addr) (n cap : Nat) (fl kd : Int) (ck fr ln : Nat) (d : List UInt8) (F : Int) (w : World) (Q : Ending → World → Prop)
    (HE : Hid (∀ w', Below w.heap.size w w' → Q (.returned (.tuple #[.agg #[.string ⟨bf.toArray⟩, .bool ch, .slice ad n cap, .bool false], .string ⟨#[]⟩, .int .i64 16])) w'))
    (HFT : Hid (∀ W, Calls Try.prog 27 #[.agg #[.int .i64 fl, .int .i64 kd, .int .u64 (ck : Nat), .int .u64 (fr : Nat), .int .u32 (ln : Nat), .string ⟨d.toArray⟩]] W (Gives (.bool true) W)))
    (HFD : Hid (∀ W, Below w.heap.size w W → Calls Try.prog 28 #[.agg #[.string ⟨bf.toArray⟩, .bool ch, .slice ad n cap, .bool false], .int .u64 (ck : Nat)] W (Gives (.int .i64 F) W)))
    (h4 : F = -1) (h5 : 8 ≤ n) (hk : (kd == 0) = true) (h7 : ¬ (4096 : Int) < (ln : Int)) : Calls Try.prog 16 #[.agg #[.string ⟨bf.toArray⟩, .bool ch, .slice ad n cap, .bool false], .agg #[.int .i64 fl, .int .i64 kd, .int .u64 (ck : Nat), .int .u64 (fr : Nat), .int .u32 (ln : Nat), .string ⟨d.toArray⟩]] w Q := by
  have mixed : Try.prog.follows .mixedOrders = true := by kernel_rfl
  subst h4
  have h6 : (8 : Int) ≤ (n : Int) := by omega
  go_enter Try.func16, Try.ntmps16
  go_wp2_with fail
  have hg : Below w.heap.size w (((w.alloc (.cells #[.string ⟨bf.toArray⟩, .bool ch, .slice ad n cap, .bool false] 28)).alloc (.cells #[.int .i64 fl, .int .i64 kd, .int .u64 (ck : Nat), .int .u64 (fr : Nat), .int .u32 (ln : Nat), .string ⟨d.toArray⟩] 37)).alloc (.cells #[.string ⟨#[]⟩, .bool false, .slice none 0 0, .bool false] 28)) := by (repeat' (first | (with_reducible assumption) | (with_reducible exact Below.refl _ _) | (with_reducible refine below_drewN ?_ _) | (with_reducible refine Below.drew ?_) | (with_reducible refine Below.setCell ?_ ?_ _) | (with_reducible refine Below.alloc ?_ ?_ _) | (with_reducible refine below_putObj ?_ ?_ _) | (with_reducible exact Nat.le_refl _) | omega | (simp; done) | (simp; omega)))
  have M1 := ((Blk.new w 28 #[.string ⟨bf.toArray⟩, .bool ch, .slice ad n cap, .bool false]).alloc (.cells #[.int .i64 fl, .int .i64 kd, .int .u64 (ck : Nat), .int .u64 (fr : Nat), .int .u32 (ln : Nat), .string ⟨d.toArray⟩] 37)).alloc (.cells #[.string ⟨#[]⟩, .bool false, .slice none 0 0, .bool false] 28)
  have M2 : Blk (((w.alloc (.cells #[.string ⟨bf.toArray⟩, .bool ch, .slice ad n cap, .bool false] 28)).alloc (.cells #[.int .i64 fl, .int .i64 kd, .int .u64 (ck : Nat), .int .u64 (fr : Nat), .int .u32 (ln : Nat), .string ⟨d.toArray⟩] 37)).alloc (.cells #[.string ⟨#[]⟩, .bool false, .slice none 0 0, .bool false] 28)) (w.heap.size + 1) 37 #[.int .i64 fl, .int .i64 kd, .int .u64 (ck : Nat), .int .u64 (fr : Nat), .int .u32 (ln : Nat), .string ⟨d.toArray⟩] := (Blk.newAt (by simp)).alloc _
  have M3 : Blk (((w.alloc (.cells #[.string ⟨bf.toArray⟩, .bool ch, .slice ad n cap, .bool false] 28)).alloc (.cells #[.int .i64 fl, .int .i64 kd, .int .u64 (ck : Nat), .int .u64 (fr : Nat), .int .u32 (ln : Nat), .string ⟨d.toArray⟩] 37)).alloc (.cells #[.string ⟨#[]⟩, .bool false, .slice none 0 0, .bool false] 28)) (w.heap.size + 1 + 1) 28 #[.string ⟨#[]⟩, .bool false, .slice none 0 0, .bool false] := Blk.newAt (by simp)
  refine (HFT.out _).mono ?_
  rintro e w1 ⟨rfl, hb1⟩
  have N1 := M1.below hb1 M1.lt
  have N2 := M2.below hb1 M2.lt
  have N3 := M3.below hb1 M3.lt
  have b1 := below_next hg hb1
  clear hg hb1 M1 M2 M3 HFT
  have x0 := N1.cell 0
  have x1 := N1.cell 1
  have x2 := N1.cell 2
  have x3 := N1.cell 3
  have y0 := N2.cell 0
  have y1 := N2.cell 1
  have y2 := N2.cell 2
  have y3 := N2.cell 3
  have y4 := N2.cell 4
  have y5 := N2.cell 5
  have z0 := N3.frozen 0
  have u0 := N3.cell 0
  have z1 := N3.frozen 1
  have u1 := N3.cell 1
  have z2 := N3.frozen 2
  have u2 := N3.cell 2
  have z3 := N3.frozen 3
  have u3 := N3.cell 3
  simp only [List.getElem?_toArray, List.getElem?_cons_zero, List.getElem?_cons_succ] at x0 x1 x2 x3 y0 y1 y2 y3 y4 y5 u0 u1 u2 u3
  go_wp2_with fail
  refine (HFD.out _ b1).mono ?_
  rintro e w2 ⟨rfl, hb2⟩
  clear x0 x1 x2 x3 y0 y1 y2 y3 y4 y5 u0 u1 u2 u3 z0 z1 z2 z3
  replace N1 := N1.below hb2 N1.lt
  replace N2 := N2.below hb2 N2.lt
  replace N3 := N3.below hb2 N3.lt
  have b2 := below_next b1 hb2
  clear b1 hb2 HFD
  have x0 := N1.cell 0
  have x1 := N1.cell 1
  have x2 := N1.cell 2
  have x3 := N1.cell 3
  have y0 := N2.cell 0
  have y1 := N2.cell 1
  have y2 := N2.cell 2
  have y3 := N2.cell 3
  have y4 := N2.cell 4
  have y5 := N2.cell 5
  have z0 := N3.frozen 0
  have u0 := N3.cell 0
  have z1 := N3.frozen 1
  have u1 := N3.cell 1
  have z2 := N3.frozen 2
  have u2 := N3.cell 2
  have z3 := N3.frozen 3
  have u3 := N3.cell 3
  simp only [List.getElem?_toArray, List.getElem?_cons_zero, List.getElem?_cons_succ] at x0 x1 x2 x3 y0 y1 y2 y3 y4 y5 u0 u1 u2 u3
  go_wp2_with fail
  refine bodyPost_ret (v := .tuple #[.agg #[.string ⟨bf.toArray⟩, .bool ch, .slice ad n cap, .bool false], .string ⟨#[]⟩, .int .i64 16]) (by simp [results, Try.results16, go_sem, u0, u1, u2, u3]) rfl ?_
  exact HE.out _ (by have s1 := b2.size; (repeat' (first | (with_reducible assumption) | (with_reducible exact Below.refl _ _) | (with_reducible refine below_drewN ?_ _) | (with_reducible refine Below.drew ?_) | (with_reducible refine Below.setCell ?_ ?_ _) | (with_reducible refine Below.alloc ?_ ?_ _) | (with_reducible refine below_putObj ?_ ?_ _) | (with_reducible exact Nat.le_refl _) | omega | (simp; done) | (simp; omega))))

set_option maxRecDepth 100000 in
set_option maxHeartbeats 2000000 in
theorem askr_many (bf : List UInt8) (ch : Bool) (ad : Option Addr) (n cap : Nat) (fl kd : Int) (ck fr ln : Nat) (d : List UInt8) (F : Int) (w : World) (Q : Ending → World → Prop)
    (HE : Hid (∀ w', Below w.heap.size w w' → Q (.returned (.tuple #[.agg #[.string ⟨bf.toArray⟩, .bool ch, .slice ad n cap, .bool false], .string ⟨#[]⟩, .int .i64 16])) w'))
    (HFT : Hid (∀ W, Calls Try.prog 27 #[.agg #[.int .i64 fl, .int .i64 kd, .int .u64 (ck : Nat), .int .u64 (fr : Nat), .int .u32 (ln : Nat), .string ⟨d.toArray⟩]] W (Gives (.bool true) W)))
    (HFD : Hid (∀ W, Below w.heap.size w W → Calls Try.prog 28 #[.agg #[.string ⟨bf.toArray⟩, .bool ch, .slice ad n cap, .bool false], .int .u64 (ck : Nat)] W (Gives (.int .i64 F) W)))
    (h4 : F = -1) (h5 : 8 ≤ n) (hk : (kd == 0) = false) : Calls Try.prog 16 #[.agg #[.string ⟨bf.toArray⟩, .bool ch, .slice ad n cap, .bool false], .agg #[.int .i64 fl, .int .i64 kd, .int .u64 (ck : Nat), .int .u64 (fr : Nat), .int .u32 (ln : Nat), .string ⟨d.toArray⟩]] w Q := by
  have mixed : Try.prog.follows .mixedOrders = true := by kernel_rfl
  subst h4
  have h6 : (8 : Int) ≤ (n : Int) := by omega
  go_enter Try.func16, Try.ntmps16
  go_wp2_with fail
  have hg : Below w.heap.size w (((w.alloc (.cells #[.string ⟨bf.toArray⟩, .bool ch, .slice ad n cap, .bool false] 28)).alloc (.cells #[.int .i64 fl, .int .i64 kd, .int .u64 (ck : Nat), .int .u64 (fr : Nat), .int .u32 (ln : Nat), .string ⟨d.toArray⟩] 37)).alloc (.cells #[.string ⟨#[]⟩, .bool false, .slice none 0 0, .bool false] 28)) := by (repeat' (first | (with_reducible assumption) | (with_reducible exact Below.refl _ _) | (with_reducible refine below_drewN ?_ _) | (with_reducible refine Below.drew ?_) | (with_reducible refine Below.setCell ?_ ?_ _) | (with_reducible refine Below.alloc ?_ ?_ _) | (with_reducible refine below_putObj ?_ ?_ _) | (with_reducible exact Nat.le_refl _) | omega | (simp; done) | (simp; omega)))
  have M1 := ((Blk.new w 28 #[.string ⟨bf.toArray⟩, .bool ch, .slice ad n cap, .bool false]).alloc (.cells #[.int .i64 fl, .int .i64 kd, .int .u64 (ck : Nat), .int .u64 (fr : Nat), .int .u32 (ln : Nat), .string ⟨d.toArray⟩] 37)).alloc (.cells #[.string ⟨#[]⟩, .bool false, .slice none 0 0, .bool false] 28)
  have M2 : Blk (((w.alloc (.cells #[.string ⟨bf.toArray⟩, .bool ch, .slice ad n cap, .bool false] 28)).alloc (.cells #[.int .i64 fl, .int .i64 kd, .int .u64 (ck : Nat), .int .u64 (fr : Nat), .int .u32 (ln : Nat), .string ⟨d.toArray⟩] 37)).alloc (.cells #[.string ⟨#[]⟩, .bool false, .slice none 0 0, .bool false] 28)) (w.heap.size + 1) 37 #[.int .i64 fl, .int .i64 kd, .int .u64 (ck : Nat), .int .u64 (fr : Nat), .int .u32 (ln : Nat), .string ⟨d.toArray⟩] := (Blk.newAt (by simp)).alloc _
  have M3 : Blk (((w.alloc (.cells #[.string ⟨bf.toArray⟩, .bool ch, .slice ad n cap, .bool false] 28)).alloc (.cells #[.int .i64 fl, .int .i64 kd, .int .u64 (ck : Nat), .int .u64 (fr : Nat), .int .u32 (ln : Nat), .string ⟨d.toArray⟩] 37)).alloc (.cells #[.string ⟨#[]⟩, .bool false, .slice none 0 0, .bool false] 28)) (w.heap.size + 1 + 1) 28 #[.string ⟨#[]⟩, .bool false, .slice none 0 0, .bool false] := Blk.newAt (by simp)
  refine (HFT.out _).mono ?_
  rintro e w1 ⟨rfl, hb1⟩
  have N1 := M1.below hb1 M1.lt
  have N2 := M2.below hb1 M2.lt
  have N3 := M3.below hb1 M3.lt
  have b1 := below_next hg hb1
  clear hg hb1 M1 M2 M3 HFT
  have x0 := N1.cell 0
  have x1 := N1.cell 1
  have x2 := N1.cell 2
  have x3 := N1.cell 3
  have y0 := N2.cell 0
  have y1 := N2.cell 1
  have y2 := N2.cell 2
  have y3 := N2.cell 3
  have y4 := N2.cell 4
  have y5 := N2.cell 5
  have z0 := N3.frozen 0
  have u0 := N3.cell 0
  have z1 := N3.frozen 1
  have u1 := N3.cell 1
  have z2 := N3.frozen 2
  have u2 := N3.cell 2
  have z3 := N3.frozen 3
  have u3 := N3.cell 3
  simp only [List.getElem?_toArray, List.getElem?_cons_zero, List.getElem?_cons_succ] at x0 x1 x2 x3 y0 y1 y2 y3 y4 y5 u0 u1 u2 u3
  go_wp2_with fail
  refine (HFD.out _ b1).mono ?_
  rintro e w2 ⟨rfl, hb2⟩
  clear x0 x1 x2 x3 y0 y1 y2 y3 y4 y5 u0 u1 u2 u3 z0 z1 z2 z3
  replace N1 := N1.below hb2 N1.lt
  replace N2 := N2.below hb2 N2.lt
  replace N3 := N3.below hb2 N3.lt
  have b2 := below_next b1 hb2
  clear b1 hb2 HFD
  have x0 := N1.cell 0
  have x1 := N1.cell 1
  have x2 := N1.cell 2
  have x3 := N1.cell 3
  have y0 := N2.cell 0
  have y1 := N2.cell 1
  have y2 := N2.cell 2
  have y3 := N2.cell 3
  have y4 := N2.cell 4
  have y5 := N2.cell 5
  have z0 := N3.frozen 0
  have u0 := N3.cell 0
  have z1 := N3.frozen 1
  have u1 := N3.cell 1
  have z2 := N3.frozen 2
  have u2 := N3.cell 2
  have z3 := N3.frozen 3
  have u3 := N3.cell 3
  simp only [List.getElem?_toArray, List.getElem?_cons_zero, List.getElem?_cons_succ] at x0 x1 x2 x3 y0 y1 y2 y3 y4 y5 u0 u1 u2 u3
  go_wp2_with fail
  refine bodyPost_ret (v := .tuple #[.agg #[.string ⟨bf.toArray⟩, .bool ch, .slice ad n cap, .bool false], .string ⟨#[]⟩, .int .i64 16]) (by simp [results, Try.results16, go_sem, u0, u1, u2, u3]) rfl ?_
  exact HE.out _ (by have s1 := b2.size; (repeat' (first | (with_reducible assumption) | (with_reducible exact Below.refl _ _) | (with_reducible refine below_drewN ?_ _) | (with_reducible refine Below.drew ?_) | (with_reducible refine Below.setCell ?_ ?_ _) | (with_reducible refine Below.alloc ?_ ?_ _) | (with_reducible refine below_putObj ?_ ?_ _) | (with_reducible exact Nat.le_refl _) | omega | (simp; done) | (simp; omega))))

set_option maxRecDepth 100000 in
set_option maxHeartbeats 4000000 in
theorem askg_read (bf : List UInt8) (ch : Bool) (ad : Option Addr) (n cap : Nat) (fl kd : Int) (ck fr ln : Nat) (d out z : List UInt8) (cs : List Value) (w : World) (Q : Ending → World → Prop)
    (HE : Hid (∀ w' v, w'.ownsRow w.heap.size 42 10 v (n + 1) (cs ++ [.int .i64 fl, .int .i64 kd, .int .u64 (ck : Nat), .int .u64 (fr : Nat), .int .u32 (ln : Nat), .string ⟨d.toArray⟩, .string ⟨z.toArray⟩, .string ⟨z.toArray⟩, .slice none 0 0, .int .u32 0]) → Below w.heap.size w w' → Q (.returned (.tuple #[.agg #[.string ⟨bf.toArray⟩, .bool ch, v, .bool false], .string ⟨out.toArray⟩, .int .i64 0])) w'))
    (HFT : Hid (∀ W, Calls Try.prog 27 #[.agg #[.int .i64 fl, .int .i64 kd, .int .u64 (ck : Nat), .int .u64 (fr : Nat), .int .u32 (ln : Nat), .string ⟨d.toArray⟩]] W (Gives (.bool true) W)))
    (HFD : Hid (∀ W, Below w.heap.size w W → Calls Try.prog 28 #[.agg #[.string ⟨bf.toArray⟩, .bool ch, .slice ad n cap, .bool false], .int .u64 (ck : Nat)] W (Gives (.int .i64 (-1)) W)))
    (HCL : Hid (∀ W, Below w.heap.size w W → Calls Try.prog 21 #[.slice ad n cap] W (fun e w' => ∃ v', e = .returned v' ∧ w'.ownsRow W.heap.size 42 10 v' n cs ∧ Below W.heap.size W w')))
    (HWR : Hid (∀ W, Calls Try.prog 30 #[.agg #[.int .i64 fl, .int .i64 kd, .int .u64 (ck : Nat), .int .u64 (fr : Nat), .int .u32 (ln : Nat), .string ⟨d.toArray⟩]] W (Gives (.tuple #[.string ⟨out.toArray⟩, .int .i64 0]) W)))
    (HRP : Hid (∀ W, Calls Try.prog 29 #[.string ⟨#[0]⟩, .int .i64 (ln : Nat)] W (Gives (.string ⟨z.toArray⟩) W)))
    (hk : (kd == 0) = true) (h7 : ¬ (4096 : Int) < (ln : Int)) (hn : n < 8) : Calls Try.prog 16 #[.agg #[.string ⟨bf.toArray⟩, .bool ch, .slice ad n cap, .bool false], .agg #[.int .i64 fl, .int .i64 kd, .int .u64 (ck : Nat), .int .u64 (fr : Nat), .int .u32 (ln : Nat), .string ⟨d.toArray⟩]] w Q := by
  have mixed : Try.prog.follows .mixedOrders = true := by kernel_rfl
  have h8 : ¬ (8 : Int) ≤ (n : Int) := by omega
  obtain ⟨i0, hi, hz0, hz1, hz2⟩ := info_parts Try.infoWait
  have hwl : IntKind.i64.wrap (ln : Int) = (ln : Int) := by rw [IntKind.wrap_i64]; omega
  go_enter Try.func16, Try.ntmps16
  go_wp2_with fail
  have hg : Below w.heap.size w (((w.alloc (.cells #[.string ⟨bf.toArray⟩, .bool ch, .slice ad n cap, .bool false] 28)).alloc (.cells #[.int .i64 fl, .int .i64 kd, .int .u64 (ck : Nat), .int .u64 (fr : Nat), .int .u32 (ln : Nat), .string ⟨d.toArray⟩] 37)).alloc (.cells #[.string ⟨#[]⟩, .bool false, .slice none 0 0, .bool false] 28)) := by (repeat' (first | (with_reducible assumption) | (with_reducible exact Below.refl _ _) | (with_reducible refine below_drewN ?_ _) | (with_reducible refine Below.drew ?_) | (with_reducible refine Below.setCell ?_ ?_ _) | (with_reducible refine Below.alloc ?_ ?_ _) | (with_reducible refine below_putObj ?_ ?_ _) | (with_reducible exact Nat.le_refl _) | omega | (simp; done) | (simp; omega)))
  have M1 := ((Blk.new w 28 #[.string ⟨bf.toArray⟩, .bool ch, .slice ad n cap, .bool false]).alloc (.cells #[.int .i64 fl, .int .i64 kd, .int .u64 (ck : Nat), .int .u64 (fr : Nat), .int .u32 (ln : Nat), .string ⟨d.toArray⟩] 37)).alloc (.cells #[.string ⟨#[]⟩, .bool false, .slice none 0 0, .bool false] 28)
  have M2 : Blk (((w.alloc (.cells #[.string ⟨bf.toArray⟩, .bool ch, .slice ad n cap, .bool false] 28)).alloc (.cells #[.int .i64 fl, .int .i64 kd, .int .u64 (ck : Nat), .int .u64 (fr : Nat), .int .u32 (ln : Nat), .string ⟨d.toArray⟩] 37)).alloc (.cells #[.string ⟨#[]⟩, .bool false, .slice none 0 0, .bool false] 28)) (w.heap.size + 1) 37 #[.int .i64 fl, .int .i64 kd, .int .u64 (ck : Nat), .int .u64 (fr : Nat), .int .u32 (ln : Nat), .string ⟨d.toArray⟩] := (Blk.newAt (by simp)).alloc _
  have M3 : Blk (((w.alloc (.cells #[.string ⟨bf.toArray⟩, .bool ch, .slice ad n cap, .bool false] 28)).alloc (.cells #[.int .i64 fl, .int .i64 kd, .int .u64 (ck : Nat), .int .u64 (fr : Nat), .int .u32 (ln : Nat), .string ⟨d.toArray⟩] 37)).alloc (.cells #[.string ⟨#[]⟩, .bool false, .slice none 0 0, .bool false] 28)) (w.heap.size + 1 + 1) 28 #[.string ⟨#[]⟩, .bool false, .slice none 0 0, .bool false] := Blk.newAt (by simp)
  refine (HFT.out _).mono ?_
  rintro e w1 ⟨rfl, hb1⟩
  have N1 := M1.below hb1 M1.lt
  have N2 := M2.below hb1 M2.lt
  have N3 := M3.below hb1 M3.lt
  have b1 := below_next hg hb1
  clear hg hb1 M1 M2 M3 HFT
  have x0 := N1.cell 0
  have x1 := N1.cell 1
  have x2 := N1.cell 2
  have x3 := N1.cell 3
  have y0 := N2.cell 0
  have y1 := N2.cell 1
  have y2 := N2.cell 2
  have y3 := N2.cell 3
  have y4 := N2.cell 4
  have y5 := N2.cell 5
  have z0 := N3.frozen 0
  have u0 := N3.cell 0
  have z1 := N3.frozen 1
  have u1 := N3.cell 1
  have z2 := N3.frozen 2
  have u2 := N3.cell 2
  have z3 := N3.frozen 3
  have u3 := N3.cell 3
  simp only [List.getElem?_toArray, List.getElem?_cons_zero, List.getElem?_cons_succ] at x0 x1 x2 x3 y0 y1 y2 y3 y4 y5 u0 u1 u2 u3
  go_wp2_with fail
  refine (HFD.out _ b1).mono ?_
  rintro e w2 ⟨rfl, hb2⟩
  clear x0 x1 x2 x3 y0 y1 y2 y3 y4 y5 u0 u1 u2 u3 z0 z1 z2 z3
  replace N1 := N1.below hb2 N1.lt
  replace N2 := N2.below hb2 N2.lt
  replace N3 := N3.below hb2 N3.lt
  have b2 := below_next b1 hb2
  clear b1 hb2 HFD
  have x0 := N1.cell 0
  have x1 := N1.cell 1
  have x2 := N1.cell 2
  have x3 := N1.cell 3
  have y0 := N2.cell 0
  have y1 := N2.cell 1
  have y2 := N2.cell 2
  have y3 := N2.cell 3
  have y4 := N2.cell 4
  have y5 := N2.cell 5
  have z0 := N3.frozen 0
  have u0 := N3.cell 0
  have z1 := N3.frozen 1
  have u1 := N3.cell 1
  have z2 := N3.frozen 2
  have u2 := N3.cell 2
  have z3 := N3.frozen 3
  have u3 := N3.cell 3
  simp only [List.getElem?_toArray, List.getElem?_cons_zero, List.getElem?_cons_succ] at x0 x1 x2 x3 y0 y1 y2 y3 y4 y5 u0 u1 u2 u3
  have zo := fun o i => old_cell (w := w2) (g := w.heap.size + 1) N2.lt o i
  have xo := fun o i => old_cell (w := w2) (g := w.heap.size) N1.lt o i
  have nz1 : w.heap.size + 1 ≠ w2.heap.size := by have := N2.lt; omega
  have nz2 : w2.heap.size ≠ w.heap.size + 1 := by have := N2.lt; omega
  have nx1 : w.heap.size ≠ w2.heap.size := by have := N1.lt; omega
  have nx2 : w2.heap.size ≠ w.heap.size := by have := N1.lt; omega
  go_wp2_with fail
  refine (HRP.out _).mono ?_
  have H3L := N3.lt
  rintro e w3 ⟨rfl, hb3⟩
  have NW0 : Blk w3 w2.heap.size 42 #[.int .i64 fl, .int .i64 kd, .int .u64 (ck : Nat), .int .u64 (fr : Nat), .int .u32 (ln : Nat), .string ⟨d.toArray⟩, .string ⟨#[]⟩, .string ⟨#[]⟩, .slice none 0 0, .int .u32 0] := (Blk.new w2 _ _).below hb3 (Blk.new w2 _ _).lt
  replace N1 := (N1.alloc (.cells #[.int .i64 fl, .int .i64 kd, .int .u64 (ck : Nat), .int .u64 (fr : Nat), .int .u32 (ln : Nat), .string ⟨d.toArray⟩, .string ⟨#[]⟩, .string ⟨#[]⟩, .slice none 0 0, .int .u32 0] 42)).below hb3 (N1.alloc (.cells #[.int .i64 fl, .int .i64 kd, .int .u64 (ck : Nat), .int .u64 (fr : Nat), .int .u32 (ln : Nat), .string ⟨d.toArray⟩, .string ⟨#[]⟩, .string ⟨#[]⟩, .slice none 0 0, .int .u32 0] 42)).lt
  replace N2 := (N2.alloc (.cells #[.int .i64 fl, .int .i64 kd, .int .u64 (ck : Nat), .int .u64 (fr : Nat), .int .u32 (ln : Nat), .string ⟨d.toArray⟩, .string ⟨#[]⟩, .string ⟨#[]⟩, .slice none 0 0, .int .u32 0] 42)).below hb3 (N2.alloc (.cells #[.int .i64 fl, .int .i64 kd, .int .u64 (ck : Nat), .int .u64 (fr : Nat), .int .u32 (ln : Nat), .string ⟨d.toArray⟩, .string ⟨#[]⟩, .string ⟨#[]⟩, .slice none 0 0, .int .u32 0] 42)).lt
  replace N3 := (N3.alloc (.cells #[.int .i64 fl, .int .i64 kd, .int .u64 (ck : Nat), .int .u64 (fr : Nat), .int .u32 (ln : Nat), .string ⟨d.toArray⟩, .string ⟨#[]⟩, .string ⟨#[]⟩, .slice none 0 0, .int .u32 0] 42)).below hb3 (N3.alloc (.cells #[.int .i64 fl, .int .i64 kd, .int .u64 (ck : Nat), .int .u64 (fr : Nat), .int .u32 (ln : Nat), .string ⟨d.toArray⟩, .string ⟨#[]⟩, .string ⟨#[]⟩, .slice none 0 0, .int .u32 0] 42)).lt
  have b3' := below_next (show Below w.heap.size w (w2.alloc (.cells #[.int .i64 fl, .int .i64 kd, .int .u64 (ck : Nat), .int .u64 (fr : Nat), .int .u32 (ln : Nat), .string ⟨d.toArray⟩, .string ⟨#[]⟩, .string ⟨#[]⟩, .slice none 0 0, .int .u32 0] 42)) by have s2 := b2.size; (repeat' (first | (with_reducible assumption) | (with_reducible exact Below.refl _ _) | (with_reducible refine below_drewN ?_ _) | (with_reducible refine Below.drew ?_) | (with_reducible refine Below.setCell ?_ ?_ _) | (with_reducible refine Below.alloc ?_ ?_ _) | (with_reducible refine below_putObj ?_ ?_ _) | (with_reducible exact Nat.le_refl _) | omega | (simp; done) | (simp; omega)))) hb3
  have g6 := NW0.cell 6
  have g7 := NW0.cell 7
  have h6 := NW0.frozen 6
  have h7' := NW0.frozen 7
  simp only [List.getElem?_toArray, List.getElem?_cons_zero, List.getElem?_cons_succ] at g6 g7
  have hgw : w.heap.size + 1 + 1 < w2.heap.size := H3L
  clear x0 x1 x2 x3 y0 y1 y2 y3 y4 y5 u0 u1 u2 u3 z0 z1 z2 z3
  clear zo xo b2 hb3
  generalize w2.heap.size = gw at *
  have b3 := b3'
  clear b3'
  go_wp2_with fail
  have NW : Blk ((w3.setCell ⟨gw, 6, none⟩ (.string ⟨z.toArray⟩)).setCell ⟨gw, 7, none⟩ (.string ⟨z.toArray⟩)) gw 42 #[.int .i64 fl, .int .i64 kd, .int .u64 (ck : Nat), .int .u64 (fr : Nat), .int .u32 (ln : Nat), .string ⟨d.toArray⟩, .string ⟨z.toArray⟩, .string ⟨z.toArray⟩, .slice none 0 0, .int .u32 0] := ((NW0.set_ 6 _).set_ 7 _).as_ (by simp)
  replace N1 := (N1.far (p := ⟨gw, 6, none⟩) (by dsimp only; omega) (.string ⟨z.toArray⟩)).far (p := ⟨gw, 7, none⟩) (by dsimp only; omega) (.string ⟨z.toArray⟩)
  replace N2 := (N2.far (p := ⟨gw, 6, none⟩) (by dsimp only; omega) (.string ⟨z.toArray⟩)).far (p := ⟨gw, 7, none⟩) (by dsimp only; omega) (.string ⟨z.toArray⟩)
  replace N3 := (N3.far (p := ⟨gw, 6, none⟩) (by dsimp only; omega) (.string ⟨z.toArray⟩)).far (p := ⟨gw, 7, none⟩) (by dsimp only; omega) (.string ⟨z.toArray⟩)
  replace b3 := (b3.setCell (p := ⟨gw, 6, none⟩) (by dsimp only; omega) (.string ⟨z.toArray⟩)).setCell (p := ⟨gw, 7, none⟩) (by dsimp only; omega) (.string ⟨z.toArray⟩)
  clear NW0 g6 g7 h6 h7'
  generalize ((w3.setCell ⟨gw, 6, none⟩ (.string ⟨z.toArray⟩)).setCell ⟨gw, 7, none⟩ (.string ⟨z.toArray⟩)) = W0 at *
  have l1 : w.heap.size < W0.heap.size := N1.lt
  have l2 := N2.lt
  have l3 := N3.lt
  have n0 := NW.cell 0
  have n1 := NW.cell 1
  have n2 := NW.cell 2
  have n3 := NW.cell 3
  have n4 := NW.cell 4
  have n5 := NW.cell 5
  have n6 := NW.cell 6
  have n7 := NW.cell 7
  have n8 := NW.cell 8
  have n9 := NW.cell 9
  have x2 := N1.cell 2
  simp only [List.getElem?_toArray, List.getElem?_cons_zero, List.getElem?_cons_succ] at x2 n0 n1 n2 n3 n4 n5 n6 n7 n8 n9
  go_region_law (first | (go_simp; go_at_call 21; go_loud (refine (HCL.out _ (by have s3 := b3.size; (repeat' (first | (with_reducible assumption) | (with_reducible exact Below.refl _ _) | (with_reducible refine below_drewN ?_ _) | (with_reducible refine Below.drew ?_) | (with_reducible refine Below.setCell ?_ ?_ _) | (with_reducible refine Below.alloc ?_ ?_ _) | (with_reducible refine below_putObj ?_ ?_ _) | (with_reducible exact Nat.le_refl _) | omega | (simp; done) | (simp; omega))))).mono ?_; rintro e w5 ⟨v5, rfl, ho5, hb5⟩; have hc5 : Below W0.heap.size W0 w5 := below_next (show Below W0.heap.size W0 _ by (repeat' (first | (with_reducible assumption) | (with_reducible exact Below.refl _ _) | (with_reducible refine below_drewN ?_ _) | (with_reducible refine Below.drew ?_) | (with_reducible refine Below.setCell ?_ ?_ _) | (with_reducible refine Below.alloc ?_ ?_ _) | (with_reducible refine below_putObj ?_ ?_ _) | (with_reducible exact Nat.le_refl _) | omega | (simp; done) | (simp; omega)))) hb5; have M1 := N1.below hc5 N1.lt; have M2 := N2.below hc5 N2.lt; have M3 := N3.below hc5 N3.lt; have MW := NW.below hc5 NW.lt; have q0 := MW.cell 0; have q1 := MW.cell 1; have q2 := MW.cell 2; have q3 := MW.cell 3; have q4 := MW.cell 4; have q5 := MW.cell 5; have q6 := MW.cell 6; have q7 := MW.cell 7; have q8 := MW.cell 8; have q9 := MW.cell 9; simp only [List.getElem?_toArray, List.getElem?_cons_zero, List.getElem?_cons_succ] at q0 q1 q2 q3 q4 q5 q6 q7 q8 q9; have O5 := own_base ho5 (show W0.heap.size ≤ _ by simp); (try (have nb5 : Blk w5 W0.heap.size 42 #[.int .i64 fl, .int .i64 kd, .int .u64 (ck : Nat), .int .u64 (fr : Nat), .int .u32 (ln : Nat), .string ⟨d.toArray⟩, .string ⟨z.toArray⟩, .string ⟨z.toArray⟩, .slice none 0 0, .int .u32 0] := (Blk.new W0.drew _ _).below hb5 (Blk.new W0.drew _ _).lt)); have B5 := below_next b3 hc5)) | (refine step_append_lies _ (by rfl) _ _ _ (by rfl) W0.heap.size 42 i0 _ 10 120 Try.underlying26 hi hz0 hz1 hz2 rfl (by omega) v5 n cs (by rfl) (by first | exact O5 | exact O5.alloc _) _ 1 1 [.int .i64 fl, .int .i64 kd, .int .u64 (ck : Nat), .int .u64 (fr : Nat), .int .u32 (ln : Nat), .string ⟨d.toArray⟩, .string ⟨z.toArray⟩, .string ⟨z.toArray⟩, .slice none 0 0, .int .u32 0] (by rfl) (by rfl) (by first | exact World.news_of_block nb5 | exact World.news_of_block (heap_alloc_new w5 _)) (by intro u hu; simp only [List.mem_cons, List.not_mem_nil, or_false] at hu; rcases hu with rfl | rfl | rfl | rfl | rfl | rfl | rfl | rfl | rfl | rfl <;> rfl) (by omega) (by unfold maxLen; omega) (by omega) (by have := hc5.size; simp; omega) _ rfl ?_; intro g6 c6 w6 ho6 hg6 hat6 hlt6; (first | (have K1 := own_cell O5 hg6 M1 l1; have K2 := own_cell O5 hg6 M2 l2; have K3 := own_cell O5 hg6 M3 l3; have B6 := B5.grown hg6 B5.size (fun k hk => by have := (O5.lt k hk).1; omega)) | (have K1 := own_cell (O5.alloc _) hg6 (M1.alloc _) l1; have K2 := own_cell (O5.alloc _) hg6 (M2.alloc _) l2; have K3 := own_cell (O5.alloc _) hg6 (M3.alloc _) l3; have B6 := (B5.alloc B5.size _).grown hg6 (by have := B5.size; simp; omega) (fun k hk => by have := ((O5.alloc (.cells #[.int .i64 fl, .int .i64 kd, .int .u64 (ck : Nat), .int .u64 (fr : Nat), .int .u32 (ln : Nat), .string ⟨d.toArray⟩, .string ⟨z.toArray⟩, .string ⟨z.toArray⟩, .slice none 0 0, .int .u32 0] 42)).lt k hk).1; omega))); have k2 := K1.cell 2; have k2f := K1.frozen 2; simp only [List.getElem?_toArray, List.getElem?_cons_zero, List.getElem?_cons_succ] at k2))
  all_goals clear q0 q1 q2 q3 q4 q5 q6 q7 q8 q9 n0 n1 n2 n3 n4 n5 n6 n7 n8 n9 M1 M2 M3 MW O5 hc5 hb5 ho5 B5 hg6 hat6 x2 N1 N2 N3 NW HCL b3
  all_goals (try clear nb5)
  all_goals have k0 := K1.cell 0
  all_goals have k1 := K1.cell 1
  all_goals have k3 := K1.cell 3
  all_goals have y0 := K2.cell 0
  all_goals have y1 := K2.cell 1
  all_goals have y2 := K2.cell 2
  all_goals have y3 := K2.cell 3
  all_goals have y4 := K2.cell 4
  all_goals have y5 := K2.cell 5
  all_goals simp only [List.getElem?_toArray, List.getElem?_cons_zero, List.getElem?_cons_succ] at k0 k1 k3 y0 y1 y2 y3 y4 y5
  all_goals go_wp2_with fail
  all_goals refine (HWR.out _).mono ?_
  all_goals rintro e w7 ⟨rfl, hb7⟩
  all_goals have L1 : Blk (w6.setCell ⟨w.heap.size, 2, none⟩ (.slice (some ⟨g6, 0, none⟩) (n + 1) c6)) w.heap.size 28 #[.string ⟨bf.toArray⟩, .bool ch, .slice (some ⟨g6, 0, none⟩) (n + 1) c6, .bool false] := (K1.set_ 2 _).as_ (by simp)
  all_goals have L3 := K3.far (p := ⟨w.heap.size, 2, none⟩) (by dsimp only; omega) (.slice (some ⟨g6, 0, none⟩) (n + 1) c6)
  all_goals have R1 := L1.below hb7 L1.lt
  all_goals have R3 := L3.below hb7 L3.lt
  all_goals have O7 := own_below (ownsRow_setCell_below ho6 (a := ⟨w.heap.size, 2, none⟩) (by dsimp only; omega) (.slice (some ⟨g6, 0, none⟩) (n + 1) c6)) hb7
  all_goals have B7 := below_next (B6.setCell (p := ⟨w.heap.size, 2, none⟩) (by dsimp only; omega) (.slice (some ⟨g6, 0, none⟩) (n + 1) c6)) hb7
  all_goals clear k0 k1 k2 k3 k2f y0 y1 y2 y3 y4 y5 L1 L3 K1 K2 K3 hb7 ho6 B6 HWR
  all_goals have x0 := R1.cell 0
  all_goals have x1 := R1.cell 1
  all_goals have x2 := R1.cell 2
  all_goals have x3 := R1.cell 3
  all_goals have u0 := R3.cell 0
  all_goals have u1 := R3.cell 1
  all_goals have u2 := R3.cell 2
  all_goals have u3 := R3.cell 3
  all_goals have z0 := R3.frozen 0
  all_goals have z1 := R3.frozen 1
  all_goals have z2 := R3.frozen 2
  all_goals have z3 := R3.frozen 3
  all_goals simp only [List.getElem?_toArray, List.getElem?_cons_zero, List.getElem?_cons_succ] at x0 u0 x1 u1 x2 u2 x3 u3
  all_goals go_wp2_with fail
  all_goals refine bodyPost_ret (v := .tuple #[.agg #[.string ⟨bf.toArray⟩, .bool ch, .slice (some ⟨g6, 0, none⟩) (n + 1) c6, .bool false], .string ⟨out.toArray⟩, .int .i64 0]) (by simp [results, Try.results16, go_sem, u0, u1, u2, u3]) rfl ?_
  all_goals exact HE.out _ _ (own_base (ownsRow_setCell_below (ownsRow_setCell_below (ownsRow_setCell_below (ownsRow_setCell_below O7 (by dsimp only; omega) _) (by dsimp only; omega) _) (by dsimp only; omega) _) (by dsimp only; omega) _) (by omega)) (by have s7 := B7.size; (repeat' (first | (with_reducible assumption) | (with_reducible exact Below.refl _ _) | (with_reducible refine below_drewN ?_ _) | (with_reducible refine Below.drew ?_) | (with_reducible refine Below.setCell ?_ ?_ _) | (with_reducible refine Below.alloc ?_ ?_ _) | (with_reducible refine below_putObj ?_ ?_ _) | (with_reducible exact Nat.le_refl _) | omega | (simp; done) | (simp; omega))))

set_option maxRecDepth 100000 in
set_option maxHeartbeats 4000000 in
theorem askg (bf : List UInt8) (ch : Bool) (ad : Option Addr) (n cap : Nat) (fl kd : Int) (ck fr ln : Nat) (d out : List UInt8) (cs : List Value) (w : World) (Q : Ending → World → Prop)
    (HE : Hid (∀ w' v, w'.ownsRow w.heap.size 42 10 v (n + 1) (cs ++ [.int .i64 fl, .int .i64 kd, .int .u64 (ck : Nat), .int .u64 (fr : Nat), .int .u32 (ln : Nat), .string ⟨d.toArray⟩, .string ⟨#[]⟩, .string ⟨#[]⟩, .slice none 0 0, .int .u32 0]) → Below w.heap.size w w' → Q (.returned (.tuple #[.agg #[.string ⟨bf.toArray⟩, .bool ch, v, .bool false], .string ⟨out.toArray⟩, .int .i64 0])) w'))
    (HFT : Hid (∀ W, Calls Try.prog 27 #[.agg #[.int .i64 fl, .int .i64 kd, .int .u64 (ck : Nat), .int .u64 (fr : Nat), .int .u32 (ln : Nat), .string ⟨d.toArray⟩]] W (Gives (.bool true) W)))
    (HFD : Hid (∀ W, Below w.heap.size w W → Calls Try.prog 28 #[.agg #[.string ⟨bf.toArray⟩, .bool ch, .slice ad n cap, .bool false], .int .u64 (ck : Nat)] W (Gives (.int .i64 (-1)) W)))
    (HCL : Hid (∀ W, Below w.heap.size w W → Calls Try.prog 21 #[.slice ad n cap] W (fun e w' => ∃ v', e = .returned v' ∧ w'.ownsRow W.heap.size 42 10 v' n cs ∧ Below W.heap.size W w')))
    (HWR : Hid (∀ W, Calls Try.prog 30 #[.agg #[.int .i64 fl, .int .i64 kd, .int .u64 (ck : Nat), .int .u64 (fr : Nat), .int .u32 (ln : Nat), .string ⟨d.toArray⟩]] W (Gives (.tuple #[.string ⟨out.toArray⟩, .int .i64 0]) W)))
    (hk : (kd == 0) = false) (hn : n < 8) : Calls Try.prog 16 #[.agg #[.string ⟨bf.toArray⟩, .bool ch, .slice ad n cap, .bool false], .agg #[.int .i64 fl, .int .i64 kd, .int .u64 (ck : Nat), .int .u64 (fr : Nat), .int .u32 (ln : Nat), .string ⟨d.toArray⟩]] w Q := by
  have mixed : Try.prog.follows .mixedOrders = true := by kernel_rfl
  have h8 : ¬ (8 : Int) ≤ (n : Int) := by omega
  obtain ⟨i0, hi, hz0, hz1, hz2⟩ := info_parts Try.infoWait
  go_enter Try.func16, Try.ntmps16
  go_wp2_with fail
  have hg : Below w.heap.size w (((w.alloc (.cells #[.string ⟨bf.toArray⟩, .bool ch, .slice ad n cap, .bool false] 28)).alloc (.cells #[.int .i64 fl, .int .i64 kd, .int .u64 (ck : Nat), .int .u64 (fr : Nat), .int .u32 (ln : Nat), .string ⟨d.toArray⟩] 37)).alloc (.cells #[.string ⟨#[]⟩, .bool false, .slice none 0 0, .bool false] 28)) := by (repeat' (first | (with_reducible assumption) | (with_reducible exact Below.refl _ _) | (with_reducible refine below_drewN ?_ _) | (with_reducible refine Below.drew ?_) | (with_reducible refine Below.setCell ?_ ?_ _) | (with_reducible refine Below.alloc ?_ ?_ _) | (with_reducible refine below_putObj ?_ ?_ _) | (with_reducible exact Nat.le_refl _) | omega | (simp; done) | (simp; omega)))
  have M1 := ((Blk.new w 28 #[.string ⟨bf.toArray⟩, .bool ch, .slice ad n cap, .bool false]).alloc (.cells #[.int .i64 fl, .int .i64 kd, .int .u64 (ck : Nat), .int .u64 (fr : Nat), .int .u32 (ln : Nat), .string ⟨d.toArray⟩] 37)).alloc (.cells #[.string ⟨#[]⟩, .bool false, .slice none 0 0, .bool false] 28)
  have M2 : Blk (((w.alloc (.cells #[.string ⟨bf.toArray⟩, .bool ch, .slice ad n cap, .bool false] 28)).alloc (.cells #[.int .i64 fl, .int .i64 kd, .int .u64 (ck : Nat), .int .u64 (fr : Nat), .int .u32 (ln : Nat), .string ⟨d.toArray⟩] 37)).alloc (.cells #[.string ⟨#[]⟩, .bool false, .slice none 0 0, .bool false] 28)) (w.heap.size + 1) 37 #[.int .i64 fl, .int .i64 kd, .int .u64 (ck : Nat), .int .u64 (fr : Nat), .int .u32 (ln : Nat), .string ⟨d.toArray⟩] := (Blk.newAt (by simp)).alloc _
  have M3 : Blk (((w.alloc (.cells #[.string ⟨bf.toArray⟩, .bool ch, .slice ad n cap, .bool false] 28)).alloc (.cells #[.int .i64 fl, .int .i64 kd, .int .u64 (ck : Nat), .int .u64 (fr : Nat), .int .u32 (ln : Nat), .string ⟨d.toArray⟩] 37)).alloc (.cells #[.string ⟨#[]⟩, .bool false, .slice none 0 0, .bool false] 28)) (w.heap.size + 1 + 1) 28 #[.string ⟨#[]⟩, .bool false, .slice none 0 0, .bool false] := Blk.newAt (by simp)
  refine (HFT.out _).mono ?_
  rintro e w1 ⟨rfl, hb1⟩
  have N1 := M1.below hb1 M1.lt
  have N2 := M2.below hb1 M2.lt
  have N3 := M3.below hb1 M3.lt
  have b1 := below_next hg hb1
  clear hg hb1 M1 M2 M3 HFT
  have x0 := N1.cell 0
  have x1 := N1.cell 1
  have x2 := N1.cell 2
  have x3 := N1.cell 3
  have y0 := N2.cell 0
  have y1 := N2.cell 1
  have y2 := N2.cell 2
  have y3 := N2.cell 3
  have y4 := N2.cell 4
  have y5 := N2.cell 5
  have z0 := N3.frozen 0
  have u0 := N3.cell 0
  have z1 := N3.frozen 1
  have u1 := N3.cell 1
  have z2 := N3.frozen 2
  have u2 := N3.cell 2
  have z3 := N3.frozen 3
  have u3 := N3.cell 3
  simp only [List.getElem?_toArray, List.getElem?_cons_zero, List.getElem?_cons_succ] at x0 x1 x2 x3 y0 y1 y2 y3 y4 y5 u0 u1 u2 u3
  go_wp2_with fail
  refine (HFD.out _ b1).mono ?_
  rintro e w2 ⟨rfl, hb2⟩
  clear x0 x1 x2 x3 y0 y1 y2 y3 y4 y5 u0 u1 u2 u3 z0 z1 z2 z3
  replace N1 := N1.below hb2 N1.lt
  replace N2 := N2.below hb2 N2.lt
  replace N3 := N3.below hb2 N3.lt
  have b2 := below_next b1 hb2
  clear b1 hb2 HFD
  have x0 := N1.cell 0
  have x1 := N1.cell 1
  have x2 := N1.cell 2
  have x3 := N1.cell 3
  have y0 := N2.cell 0
  have y1 := N2.cell 1
  have y2 := N2.cell 2
  have y3 := N2.cell 3
  have y4 := N2.cell 4
  have y5 := N2.cell 5
  have z0 := N3.frozen 0
  have u0 := N3.cell 0
  have z1 := N3.frozen 1
  have u1 := N3.cell 1
  have z2 := N3.frozen 2
  have u2 := N3.cell 2
  have z3 := N3.frozen 3
  have u3 := N3.cell 3
  simp only [List.getElem?_toArray, List.getElem?_cons_zero, List.getElem?_cons_succ] at x0 x1 x2 x3 y0 y1 y2 y3 y4 y5 u0 u1 u2 u3
  go_wp2_with fail
  have NW := Blk.new w2 42 #[.int .i64 fl, .int .i64 kd, .int .u64 (ck : Nat), .int .u64 (fr : Nat), .int .u32 (ln : Nat), .string ⟨d.toArray⟩, .string ⟨#[]⟩, .string ⟨#[]⟩, .slice none 0 0, .int .u32 0]
  have hgw : w.heap.size + 1 + 1 < w2.heap.size := N3.lt
  replace N1 := N1.alloc (.cells #[.int .i64 fl, .int .i64 kd, .int .u64 (ck : Nat), .int .u64 (fr : Nat), .int .u32 (ln : Nat), .string ⟨d.toArray⟩, .string ⟨#[]⟩, .string ⟨#[]⟩, .slice none 0 0, .int .u32 0] 42)
  replace N2 := N2.alloc (.cells #[.int .i64 fl, .int .i64 kd, .int .u64 (ck : Nat), .int .u64 (fr : Nat), .int .u32 (ln : Nat), .string ⟨d.toArray⟩, .string ⟨#[]⟩, .string ⟨#[]⟩, .slice none 0 0, .int .u32 0] 42)
  replace N3 := N3.alloc (.cells #[.int .i64 fl, .int .i64 kd, .int .u64 (ck : Nat), .int .u64 (fr : Nat), .int .u32 (ln : Nat), .string ⟨d.toArray⟩, .string ⟨#[]⟩, .string ⟨#[]⟩, .slice none 0 0, .int .u32 0] 42)
  have b3 : Below w.heap.size w (w2.alloc (.cells #[.int .i64 fl, .int .i64 kd, .int .u64 (ck : Nat), .int .u64 (fr : Nat), .int .u32 (ln : Nat), .string ⟨d.toArray⟩, .string ⟨#[]⟩, .string ⟨#[]⟩, .slice none 0 0, .int .u32 0] 42)) := by have s2 := b2.size; (repeat' (first | (with_reducible assumption) | (with_reducible exact Below.refl _ _) | (with_reducible refine below_drewN ?_ _) | (with_reducible refine Below.drew ?_) | (with_reducible refine Below.setCell ?_ ?_ _) | (with_reducible refine Below.alloc ?_ ?_ _) | (with_reducible refine below_putObj ?_ ?_ _) | (with_reducible exact Nat.le_refl _) | omega | (simp; done) | (simp; omega)))
  clear x0 x1 x2 x3 y0 y1 y2 y3 y4 y5 u0 u1 u2 u3 z0 z1 z2 z3
  clear b2
  generalize (w2.alloc (.cells #[.int .i64 fl, .int .i64 kd, .int .u64 (ck : Nat), .int .u64 (fr : Nat), .int .u32 (ln : Nat), .string ⟨d.toArray⟩, .string ⟨#[]⟩, .string ⟨#[]⟩, .slice none 0 0, .int .u32 0] 42)) = W0 at *
  generalize w2.heap.size = gw at *
  have l1 : w.heap.size < W0.heap.size := N1.lt
  have l2 := N2.lt
  have l3 := N3.lt
  have n0 := NW.cell 0
  have n1 := NW.cell 1
  have n2 := NW.cell 2
  have n3 := NW.cell 3
  have n4 := NW.cell 4
  have n5 := NW.cell 5
  have n6 := NW.cell 6
  have n7 := NW.cell 7
  have n8 := NW.cell 8
  have n9 := NW.cell 9
  have x2 := N1.cell 2
  simp only [List.getElem?_toArray, List.getElem?_cons_zero, List.getElem?_cons_succ] at x2 n0 n1 n2 n3 n4 n5 n6 n7 n8 n9
  go_region_law (first | (go_simp; go_at_call 21; go_loud (refine (HCL.out _ (by have s3 := b3.size; (repeat' (first | (with_reducible assumption) | (with_reducible exact Below.refl _ _) | (with_reducible refine below_drewN ?_ _) | (with_reducible refine Below.drew ?_) | (with_reducible refine Below.setCell ?_ ?_ _) | (with_reducible refine Below.alloc ?_ ?_ _) | (with_reducible refine below_putObj ?_ ?_ _) | (with_reducible exact Nat.le_refl _) | omega | (simp; done) | (simp; omega))))).mono ?_; rintro e w5 ⟨v5, rfl, ho5, hb5⟩; have hc5 : Below W0.heap.size W0 w5 := below_next (show Below W0.heap.size W0 _ by (repeat' (first | (with_reducible assumption) | (with_reducible exact Below.refl _ _) | (with_reducible refine below_drewN ?_ _) | (with_reducible refine Below.drew ?_) | (with_reducible refine Below.setCell ?_ ?_ _) | (with_reducible refine Below.alloc ?_ ?_ _) | (with_reducible refine below_putObj ?_ ?_ _) | (with_reducible exact Nat.le_refl _) | omega | (simp; done) | (simp; omega)))) hb5; have M1 := N1.below hc5 N1.lt; have M2 := N2.below hc5 N2.lt; have M3 := N3.below hc5 N3.lt; have MW := NW.below hc5 NW.lt; have q0 := MW.cell 0; have q1 := MW.cell 1; have q2 := MW.cell 2; have q3 := MW.cell 3; have q4 := MW.cell 4; have q5 := MW.cell 5; have q6 := MW.cell 6; have q7 := MW.cell 7; have q8 := MW.cell 8; have q9 := MW.cell 9; simp only [List.getElem?_toArray, List.getElem?_cons_zero, List.getElem?_cons_succ] at q0 q1 q2 q3 q4 q5 q6 q7 q8 q9; have O5 := own_base ho5 (show W0.heap.size ≤ _ by simp); (try (have nb5 : Blk w5 W0.heap.size 42 #[.int .i64 fl, .int .i64 kd, .int .u64 (ck : Nat), .int .u64 (fr : Nat), .int .u32 (ln : Nat), .string ⟨d.toArray⟩, .string ⟨#[]⟩, .string ⟨#[]⟩, .slice none 0 0, .int .u32 0] := (Blk.new W0.drew _ _).below hb5 (Blk.new W0.drew _ _).lt)); have B5 := below_next b3 hc5)) | (refine step_append_lies _ (by rfl) _ _ _ (by rfl) W0.heap.size 42 i0 _ 10 120 Try.underlying26 hi hz0 hz1 hz2 rfl (by omega) v5 n cs (by rfl) (by first | exact O5 | exact O5.alloc _) _ 1 1 [.int .i64 fl, .int .i64 kd, .int .u64 (ck : Nat), .int .u64 (fr : Nat), .int .u32 (ln : Nat), .string ⟨d.toArray⟩, .string ⟨#[]⟩, .string ⟨#[]⟩, .slice none 0 0, .int .u32 0] (by rfl) (by rfl) (by first | exact World.news_of_block nb5 | exact World.news_of_block (heap_alloc_new w5 _)) (by intro u hu; simp only [List.mem_cons, List.not_mem_nil, or_false] at hu; rcases hu with rfl | rfl | rfl | rfl | rfl | rfl | rfl | rfl | rfl | rfl <;> rfl) (by omega) (by unfold maxLen; omega) (by omega) (by have := hc5.size; simp; omega) _ rfl ?_; intro g6 c6 w6 ho6 hg6 hat6 hlt6; (first | (have K1 := own_cell O5 hg6 M1 l1; have K2 := own_cell O5 hg6 M2 l2; have K3 := own_cell O5 hg6 M3 l3; have B6 := B5.grown hg6 B5.size (fun k hk => by have := (O5.lt k hk).1; omega)) | (have K1 := own_cell (O5.alloc _) hg6 (M1.alloc _) l1; have K2 := own_cell (O5.alloc _) hg6 (M2.alloc _) l2; have K3 := own_cell (O5.alloc _) hg6 (M3.alloc _) l3; have B6 := (B5.alloc B5.size _).grown hg6 (by have := B5.size; simp; omega) (fun k hk => by have := ((O5.alloc (.cells #[.int .i64 fl, .int .i64 kd, .int .u64 (ck : Nat), .int .u64 (fr : Nat), .int .u32 (ln : Nat), .string ⟨d.toArray⟩, .string ⟨#[]⟩, .string ⟨#[]⟩, .slice none 0 0, .int .u32 0] 42)).lt k hk).1; omega))); have k2 := K1.cell 2; have k2f := K1.frozen 2; simp only [List.getElem?_toArray, List.getElem?_cons_zero, List.getElem?_cons_succ] at k2))
  all_goals clear q0 q1 q2 q3 q4 q5 q6 q7 q8 q9 n0 n1 n2 n3 n4 n5 n6 n7 n8 n9 M1 M2 M3 MW O5 hc5 hb5 ho5 B5 hg6 hat6 x2 N1 N2 N3 NW HCL b3
  all_goals (try clear nb5)
  all_goals have k0 := K1.cell 0
  all_goals have k1 := K1.cell 1
  all_goals have k3 := K1.cell 3
  all_goals have y0 := K2.cell 0
  all_goals have y1 := K2.cell 1
  all_goals have y2 := K2.cell 2
  all_goals have y3 := K2.cell 3
  all_goals have y4 := K2.cell 4
  all_goals have y5 := K2.cell 5
  all_goals simp only [List.getElem?_toArray, List.getElem?_cons_zero, List.getElem?_cons_succ] at k0 k1 k3 y0 y1 y2 y3 y4 y5
  all_goals go_wp2_with fail
  all_goals refine (HWR.out _).mono ?_
  all_goals rintro e w7 ⟨rfl, hb7⟩
  all_goals have L1 : Blk (w6.setCell ⟨w.heap.size, 2, none⟩ (.slice (some ⟨g6, 0, none⟩) (n + 1) c6)) w.heap.size 28 #[.string ⟨bf.toArray⟩, .bool ch, .slice (some ⟨g6, 0, none⟩) (n + 1) c6, .bool false] := (K1.set_ 2 _).as_ (by simp)
  all_goals have L3 := K3.far (p := ⟨w.heap.size, 2, none⟩) (by dsimp only; omega) (.slice (some ⟨g6, 0, none⟩) (n + 1) c6)
  all_goals have R1 := L1.below hb7 L1.lt
  all_goals have R3 := L3.below hb7 L3.lt
  all_goals have O7 := own_below (ownsRow_setCell_below ho6 (a := ⟨w.heap.size, 2, none⟩) (by dsimp only; omega) (.slice (some ⟨g6, 0, none⟩) (n + 1) c6)) hb7
  all_goals have B7 := below_next (B6.setCell (p := ⟨w.heap.size, 2, none⟩) (by dsimp only; omega) (.slice (some ⟨g6, 0, none⟩) (n + 1) c6)) hb7
  all_goals clear k0 k1 k2 k3 k2f y0 y1 y2 y3 y4 y5 L1 L3 K1 K2 K3 hb7 ho6 B6 HWR
  all_goals have x0 := R1.cell 0
  all_goals have x1 := R1.cell 1
  all_goals have x2 := R1.cell 2
  all_goals have x3 := R1.cell 3
  all_goals have u0 := R3.cell 0
  all_goals have u1 := R3.cell 1
  all_goals have u2 := R3.cell 2
  all_goals have u3 := R3.cell 3
  all_goals have z0 := R3.frozen 0
  all_goals have z1 := R3.frozen 1
  all_goals have z2 := R3.frozen 2
  all_goals have z3 := R3.frozen 3
  all_goals simp only [List.getElem?_toArray, List.getElem?_cons_zero, List.getElem?_cons_succ] at x0 u0 x1 u1 x2 u2 x3 u3
  all_goals go_wp2_with fail
  all_goals refine bodyPost_ret (v := .tuple #[.agg #[.string ⟨bf.toArray⟩, .bool ch, .slice (some ⟨g6, 0, none⟩) (n + 1) c6, .bool false], .string ⟨out.toArray⟩, .int .i64 0]) (by simp [results, Try.results16, go_sem, u0, u1, u2, u3]) rfl ?_
  all_goals exact HE.out _ _ (own_base (ownsRow_setCell_below (ownsRow_setCell_below (ownsRow_setCell_below (ownsRow_setCell_below O7 (by dsimp only; omega) _) (by dsimp only; omega) _) (by dsimp only; omega) _) (by dsimp only; omega) _) (by omega)) (by have s7 := B7.size; (repeat' (first | (with_reducible assumption) | (with_reducible exact Below.refl _ _) | (with_reducible refine below_drewN ?_ _) | (with_reducible refine Below.drew ?_) | (with_reducible refine Below.setCell ?_ ?_ _) | (with_reducible refine Below.alloc ?_ ?_ _) | (with_reducible refine below_putObj ?_ ?_ _) | (with_reducible exact Nat.le_refl _) | omega | (simp; done) | (simp; omega))))

end Go.Proofs.Ytfcojhpnpfodeaa
