/- ReqTwo, the walk. -/
import Derived.Test.YtneibnoocfcndaaReqAllWalk
import Derived.Test.YtneibnoocfcndaaReqAwake
import Derived.Test.YtneibnoocfcndaaReqWrite
import Derived.Deep.RegionHeld3
import Derived.Deep.DrawnRows
namespace Go.Proofs.Ytneibnoocfcndaa
open Go.RowKit
attribute [local go_sem ↓] Go.wp_at_zero Go.wp_at_succ

theorem cell_keep {w w' : World} {a : Addr} {v : Value} (h : w.cell? a = some v) (hb : Below w.heap.size w w') : w'.cell? a = some v := by
  have hl := World.block_lt_of_cell? w a h
  unfold World.cell? at h ⊢
  rw [hb.block _ hl]
  exact h

theorem two_keep {a w w' : World} {B : Nat} {a0 a1 a2 a3 a4 a5 a6 a7 a8 a9 a10 a11 a12 a13 a14 a15 a16 a17 a18 a19 a20 a21 a22 a23 : Addr} {v0 v1 v2 v3 v4 v5 v6 v7 v8 v9 v10 v11 v12 v13 v14 v15 v16 v17 v18 v19 v20 v21 v22 v23 : Value}
    (h : w.cell? a0 = some v0 ∧ w.cell? a1 = some v1 ∧ w.cell? a2 = some v2 ∧ w.cell? a3 = some v3 ∧ w.cell? a4 = some v4 ∧ w.cell? a5 = some v5 ∧ w.cell? a6 = some v6 ∧ w.cell? a7 = some v7 ∧ w.cell? a8 = some v8 ∧ w.cell? a9 = some v9 ∧ w.cell? a10 = some v10 ∧ w.cell? a11 = some v11 ∧ w.cell? a12 = some v12 ∧ w.cell? a13 = some v13 ∧ w.cell? a14 = some v14 ∧ w.cell? a15 = some v15 ∧ w.cell? a16 = some v16 ∧ w.cell? a17 = some v17 ∧ w.cell? a18 = some v18 ∧ w.cell? a19 = some v19 ∧ w.cell? a20 = some v20 ∧ w.cell? a21 = some v21 ∧ w.cell? a22 = some v22 ∧ w.cell? a23 = some v23 ∧ B < w.heap.size ∧ Below B a w) (hb : Below w.heap.size w w') :
    w'.cell? a0 = some v0 ∧ w'.cell? a1 = some v1 ∧ w'.cell? a2 = some v2 ∧ w'.cell? a3 = some v3 ∧ w'.cell? a4 = some v4 ∧ w'.cell? a5 = some v5 ∧ w'.cell? a6 = some v6 ∧ w'.cell? a7 = some v7 ∧ w'.cell? a8 = some v8 ∧ w'.cell? a9 = some v9 ∧ w'.cell? a10 = some v10 ∧ w'.cell? a11 = some v11 ∧ w'.cell? a12 = some v12 ∧ w'.cell? a13 = some v13 ∧ w'.cell? a14 = some v14 ∧ w'.cell? a15 = some v15 ∧ w'.cell? a16 = some v16 ∧ w'.cell? a17 = some v17 ∧ w'.cell? a18 = some v18 ∧ w'.cell? a19 = some v19 ∧ w'.cell? a20 = some v20 ∧ w'.cell? a21 = some v21 ∧ w'.cell? a22 = some v22 ∧ w'.cell? a23 = some v23 ∧ B < w'.heap.size ∧ Below B a w' :=
  ⟨cell_keep h.1 hb, cell_keep h.2.1 hb, cell_keep h.2.2.1 hb, cell_keep h.2.2.2.1 hb, cell_keep h.2.2.2.2.1 hb, cell_keep h.2.2.2.2.2.1 hb, cell_keep h.2.2.2.2.2.2.1 hb, cell_keep h.2.2.2.2.2.2.2.1 hb, cell_keep h.2.2.2.2.2.2.2.2.1 hb, cell_keep h.2.2.2.2.2.2.2.2.2.1 hb, cell_keep h.2.2.2.2.2.2.2.2.2.2.1 hb, cell_keep h.2.2.2.2.2.2.2.2.2.2.2.1 hb, cell_keep h.2.2.2.2.2.2.2.2.2.2.2.2.1 hb, cell_keep h.2.2.2.2.2.2.2.2.2.2.2.2.2.1 hb, cell_keep h.2.2.2.2.2.2.2.2.2.2.2.2.2.2.1 hb, cell_keep h.2.2.2.2.2.2.2.2.2.2.2.2.2.2.2.1 hb, cell_keep h.2.2.2.2.2.2.2.2.2.2.2.2.2.2.2.2.1 hb, cell_keep h.2.2.2.2.2.2.2.2.2.2.2.2.2.2.2.2.2.1 hb, cell_keep h.2.2.2.2.2.2.2.2.2.2.2.2.2.2.2.2.2.2.1 hb, cell_keep h.2.2.2.2.2.2.2.2.2.2.2.2.2.2.2.2.2.2.2.1 hb, cell_keep h.2.2.2.2.2.2.2.2.2.2.2.2.2.2.2.2.2.2.2.2.1 hb, cell_keep h.2.2.2.2.2.2.2.2.2.2.2.2.2.2.2.2.2.2.2.2.2.1 hb, cell_keep h.2.2.2.2.2.2.2.2.2.2.2.2.2.2.2.2.2.2.2.2.2.2.1 hb, cell_keep h.2.2.2.2.2.2.2.2.2.2.2.2.2.2.2.2.2.2.2.2.2.2.2.1 hb, Nat.lt_of_lt_of_le h.2.2.2.2.2.2.2.2.2.2.2.2.2.2.2.2.2.2.2.2.2.2.2.2.1 hb.size, h.2.2.2.2.2.2.2.2.2.2.2.2.2.2.2.2.2.2.2.2.2.2.2.2.2.trans (hb.mono (Nat.le_of_lt h.2.2.2.2.2.2.2.2.2.2.2.2.2.2.2.2.2.2.2.2.2.2.2.2.1))⟩

theorem row2 (a b : Req) : reqCells [a, b] = [.int .i64 a.flags, .int .i64 a.kind, .int .u64 (a.cookie : Nat), .int .u64 (a.frm : Nat), .int .u32 (a.len : Nat), .string ⟨a.data.toArray⟩, .int .i64 b.flags, .int .i64 b.kind, .int .u64 (b.cookie : Nat), .int .u64 (b.frm : Nat), .int .u32 (b.len : Nat), .string ⟨b.data.toArray⟩] := rfl

set_option maxRecDepth 100000 in
set_option maxHeartbeats 400000 in
theorem reqTwo_no (a b : Req) (x y : List UInt8) (e f : Int) (ha : ∀ W, Calls Try.prog 9 #[reqV a] W (Gives (.tuple #[.string ⟨x.toArray⟩, .int .i64 e]) W)) (hb : ∀ W, Calls Try.prog 9 #[reqV b] W (Gives (.tuple #[.string ⟨y.toArray⟩, .int .i64 f]) W))
    (hef : (e = 0 ∧ f = 25) ∨ e = 25) (w : World) :
    Calls Try.prog 6 #[reqV a, reqV b] w (Gives (.bool true) w) := by
  have HA := Lib.hid awake_any
  have H1 := Lib.hid ha
  have H2 := Lib.hid hb
  clear ha hb
  obtain ⟨fla, kda, cka, fra, lna, da⟩ := a
  obtain ⟨flb, kdb, ckb, frb, lnb, db⟩ := b
  unfold reqV at H1 H2 ⊢
  dsimp only at H1 H2 ⊢
  rcases hef with ⟨rfl, rfl⟩ | rfl
  all_goals
    go_enter Try.func6, Try.ntmps6
    go_wp2_with fail
    refine at_world fun W0 hW0 => ?_
    have q0 : Blk W0 (w.heap.size + 1) 25 #[.int .i64 flb, .int .i64 kdb, .int .u64 (ckb : Nat), .int .u64 (frb : Nat), .int .u32 (lnb : Nat), .string ⟨db.toArray⟩] := by rw [hW0]; exact Blk.newAt (by simp)
    have b0 : Below w.heap.size w W0 := by rw [hW0]; (repeat' (first | (with_reducible assumption) | (with_reducible exact Below.refl _ _) | (with_reducible refine below_drewN ?_ _) | (with_reducible refine Below.drew ?_) | (with_reducible refine Below.setCell ?_ ?_ _) | (with_reducible refine Below.alloc ?_ ?_ _) | (with_reducible refine below_putObj ?_ ?_ _) | (with_reducible exact Nat.le_refl _) | omega | (simp; done) | (simp; omega)))
    clear hW0
    refine (H1.out _).mono ?_
    rintro e' w1 ⟨rfl, hb1⟩
    have q1 := q0.below hb1 q0.lt
    have b1 := below_next b0 hb1
    clear hb1 q0 b0
    have c := q1.cells6
    obtain ⟨c0, c1, c2, c3, c4, c5⟩ := c
    go_wp2_with fail
    refine (H2.out _).mono ?_
    rintro e' w2 ⟨rfl, hb2⟩
    have b2 := below_next b1 hb2
    clear hb2 q1 b1 c0 c1 c2 c3 c4 c5
    go_wp2_with fail
    refine (HA.out _).mono ?_
    rintro e' w3 ⟨rfl, hb3⟩
    have b3 := below_next b2 hb3
    clear hb3 b2
    go_wp2
    go_ret
    exact ⟨rfl, b3⟩

set_option maxRecDepth 100000 in
set_option maxHeartbeats 4000000 in
theorem reqTwo_yes (a b : Req) (x y : List UInt8) (ha : ∀ W, Calls Try.prog 9 #[reqV a] W (Gives (.tuple #[.string ⟨x.toArray⟩, .int .i64 0]) W)) (hb : ∀ W, Calls Try.prog 9 #[reqV b] W (Gives (.tuple #[.string ⟨y.toArray⟩, .int .i64 0]) W))
    (hx : x.length ≤ 10000) (hy : y.length ≤ 10000) (hl : ∀ W, Calls Try.prog 11 #[.string ⟨(x ++ y).toArray⟩] W (AllGives W [a, b] [] 0)) (w : World) :
    Calls Try.prog 6 #[reqV a, reqV b] w (Gives (.bool true) w) := by
  have HA := Lib.hid awake_any
  have H1 := Lib.hid ha
  have H2 := Lib.hid hb
  have H3 := Lib.hid hl
  clear ha hb hl
  have mixed : Try.prog.follows .mixedOrders = true := by kernel_rfl
  obtain ⟨fla, kda, cka, fra, lna, da⟩ := a
  obtain ⟨flb, kdb, ckb, frb, lnb, db⟩ := b
  unfold reqV at H1 H2 ⊢
  dsimp only at H1 H2 ⊢
  go_enter Try.func6, Try.ntmps6
  go_wp2_with fail
  refine at_world fun W0 hW0 => ?_
  have p0 : Blk W0 w.heap.size 25 #[.int .i64 fla, .int .i64 kda, .int .u64 (cka : Nat), .int .u64 (fra : Nat), .int .u32 (lna : Nat), .string ⟨da.toArray⟩] := by rw [hW0]; exact (Blk.new w _ _).alloc _
  have q0 : Blk W0 (w.heap.size + 1) 25 #[.int .i64 flb, .int .i64 kdb, .int .u64 (ckb : Nat), .int .u64 (frb : Nat), .int .u32 (lnb : Nat), .string ⟨db.toArray⟩] := by rw [hW0]; exact Blk.newAt (by simp)
  have b0 : Below w.heap.size w W0 := by rw [hW0]; (repeat' (first | (with_reducible assumption) | (with_reducible exact Below.refl _ _) | (with_reducible refine below_drewN ?_ _) | (with_reducible refine Below.drew ?_) | (with_reducible refine Below.setCell ?_ ?_ _) | (with_reducible refine Below.alloc ?_ ?_ _) | (with_reducible refine below_putObj ?_ ?_ _) | (with_reducible exact Nat.le_refl _) | omega | (simp; done) | (simp; omega)))
  clear hW0
  refine (H1.out _).mono ?_
  rintro e' w1 ⟨rfl, hb1⟩
  have p1 := p0.below hb1 p0.lt
  have q1 := q0.below hb1 q0.lt
  have b1 := below_next b0 hb1
  clear hb1 q0 b0 p0
  obtain ⟨c0, c1, c2, c3, c4, c5⟩ := q1.cells6
  go_wp2_with fail
  refine (H2.out _).mono ?_
  rintro e' w2 ⟨rfl, hb2⟩
  have p2 := p1.below hb2 p1.lt
  have q2 := q1.below hb2 q1.lt
  have b2 := below_next b1 hb2
  clear hb2 q1 b1 p1 c0 c1 c2 c3 c4 c5
  go_wp2_with fail
  refine (H3.out _).mono ?_
  rintro e' w3 ⟨v, rfl, hown, hb3⟩
  have p3 := p2.below hb3 p2.lt
  have q3 := q2.below hb3 q2.lt
  have b3 := below_next b2 hb3
  clear hb3 p2 q2 b2
  obtain ⟨g, cap, rfl, _, hg⟩ := hown.form (by simp)
  rw [row2] at hown
  have r0 := hown.cellAt 0 (by simp)
  have r1 := hown.cellAt 1 (by simp)
  have r2 := hown.cellAt 2 (by simp)
  have r3 := hown.cellAt 3 (by simp)
  have r4 := hown.cellAt 4 (by simp)
  have r5 := hown.cellAt 5 (by simp)
  have r6 := hown.cellAt 6 (by simp)
  have r7 := hown.cellAt 7 (by simp)
  have r8 := hown.cellAt 8 (by simp)
  have r9 := hown.cellAt 9 (by simp)
  have r10 := hown.cellAt 10 (by simp)
  have r11 := hown.cellAt 11 (by simp)
  obtain ⟨c0, c1, c2, c3, c4, c5⟩ := p3.cells6
  obtain ⟨d0, d1, d2, d3, d4, d5⟩ := q3.cells6
  have hlt := p3.lt
  clear hown
  simp only [List.getElem?_cons_zero, List.getElem?_cons_succ] at r0 r1 r2 r3 r4 r5 r6 r7 r8 r9 r10 r11
  go_wp2_with fail
  go_region_held3 (fun w' => w'.cell? ⟨w.heap.size, 0, none⟩ = some (.int .i64 fla) ∧ w'.cell? ⟨w.heap.size, 1, none⟩ = some (.int .i64 kda) ∧ w'.cell? ⟨w.heap.size, 2, none⟩ = some (.int .u64 (cka : Nat)) ∧ w'.cell? ⟨w.heap.size, 3, none⟩ = some (.int .u64 (fra : Nat)) ∧ w'.cell? ⟨w.heap.size, 4, none⟩ = some (.int .u32 (lna : Nat)) ∧ w'.cell? ⟨w.heap.size, 5, none⟩ = some (.string ⟨da.toArray⟩) ∧ w'.cell? ⟨(w.heap.size + 1), 0, none⟩ = some (.int .i64 flb) ∧ w'.cell? ⟨(w.heap.size + 1), 1, none⟩ = some (.int .i64 kdb) ∧ w'.cell? ⟨(w.heap.size + 1), 2, none⟩ = some (.int .u64 (ckb : Nat)) ∧ w'.cell? ⟨(w.heap.size + 1), 3, none⟩ = some (.int .u64 (frb : Nat)) ∧ w'.cell? ⟨(w.heap.size + 1), 4, none⟩ = some (.int .u32 (lnb : Nat)) ∧ w'.cell? ⟨(w.heap.size + 1), 5, none⟩ = some (.string ⟨db.toArray⟩) ∧ w'.cell? ⟨g, 0, none⟩ = some (.int .i64 fla) ∧ w'.cell? ⟨g, 1, none⟩ = some (.int .i64 kda) ∧ w'.cell? ⟨g, 2, none⟩ = some (.int .u64 (cka : Nat)) ∧ w'.cell? ⟨g, 3, none⟩ = some (.int .u64 (fra : Nat)) ∧ w'.cell? ⟨g, 4, none⟩ = some (.int .u32 (lna : Nat)) ∧ w'.cell? ⟨g, 5, none⟩ = some (.string ⟨da.toArray⟩) ∧ w'.cell? ⟨g, 6, none⟩ = some (.int .i64 flb) ∧ w'.cell? ⟨g, 7, none⟩ = some (.int .i64 kdb) ∧ w'.cell? ⟨g, 8, none⟩ = some (.int .u64 (ckb : Nat)) ∧ w'.cell? ⟨g, 9, none⟩ = some (.int .u64 (frb : Nat)) ∧ w'.cell? ⟨g, 10, none⟩ = some (.int .u32 (lnb : Nat)) ∧ w'.cell? ⟨g, 11, none⟩ = some (.string ⟨db.toArray⟩) ∧ w.heap.size < w'.heap.size ∧ Below w.heap.size w w')
    (first | assumption | exact ⟨c0, c1, c2, c3, c4, c5, d0, d1, d2, d3, d4, d5, r0, r1, r2, r3, r4, r5, r6, r7, r8, r9, r10, r11, hlt, b3.drew⟩ | exact two_keep (by assumption) hb4)
    (first | (go_at_call 7; refine (HA.out _).mono ?_; rintro e' w4 ⟨rfl, hb4⟩))
  all_goals go_wp2
  all_goals go_ret
  all_goals exact ⟨rfl, ‹_ ∧ _ ∧ _ ∧ _ ∧ _ ∧ _ ∧ _ ∧ _ ∧ _ ∧ _ ∧ _ ∧ _ ∧ _ ∧ _ ∧ _ ∧ _ ∧ _ ∧ _ ∧ _ ∧ _ ∧ _ ∧ _ ∧ _ ∧ _ ∧ _ ∧ Below w.heap.size w _›.2.2.2.2.2.2.2.2.2.2.2.2.2.2.2.2.2.2.2.2.2.2.2.2.2⟩

theorem write_cases (q : Req) (hq : q.wf) : ∃ x e, (∀ W, Calls Try.prog 9 #[reqV q] W (Gives (.tuple #[.string ⟨x.toArray⟩, .int .i64 e]) W)) ∧ ((q.fit = true ∧ x = reqBytes q ∧ e = 0) ∨ e = 25) := by
  refine ⟨_, _, write_any q hq, ?_⟩
  unfold writeReq
  by_cases h : q.fit = true
  · rw [if_pos h]; exact .inl ⟨h, rfl, rfl⟩
  · rw [if_neg h]; exact .inr rfl

theorem reqTwo_any (a b : Req) (ha : a.wf) (hb : b.wf) (w : World) :
    Calls Try.prog 6 #[reqV a, reqV b] w (Gives (.bool true) w) := by
  obtain ⟨x, e, h1, h2⟩ := write_cases a ha
  obtain ⟨y, f, h3, h4⟩ := write_cases b hb
  rcases h2 with ⟨fa, rfl, rfl⟩ | rfl
  · rcases h4 with ⟨fb, rfl, rfl⟩ | rfl
    · have la := reqBytes_length a
      have lb := reqBytes_length b
      have da := (fit_bounds a fa).2.2.2.2.1
      have db := (fit_bounds b fb).2.2.2.2.1
      exact reqTwo_yes a b _ _ h1 h3 (by omega) (by omega) (fun W => all_any _ (by rw [List.length_append]; omega) _ _ _ (alls_two a b ha hb fa fb) 0 (by simp) W) w
    · exact reqTwo_no a b _ _ 0 25 h1 h3 (.inl ⟨rfl, rfl⟩) w
  · exact reqTwo_no a b _ _ 25 f h1 h3 (.inr rfl) w

end Go.Proofs.Ytneibnoocfcndaa
