/- rep.Read: a chunk is read. -/
import Derived.Test.YtfcojhpnpfodeaaMRepRead
import Derived.Deep.Cut
import Derived.Deep.CutRange
namespace Go.Proofs.Ytfcojhpnpfodeaa
open Go.RowKit
attribute [local go_sem ↓] Go.wp_at_zero Go.wp_at_succ

theorem rnum_two (s : List UInt8) (h : 6 ≤ s.length) : rnum s 4 2 = (s[4]?.getD 0).toNat * 256 + (s[5]?.getD 0).toNat := by
  have h4 : 4 < s.length := by omega
  have h5 : 5 < s.length := by omega
  unfold rnum
  have e : (s.drop 4).take 2 = [s[4], s[5]] := by
    rw [List.drop_eq_getElem_cons h4, List.drop_eq_getElem_cons h5]
    rfl
  rw [e, List.getElem?_eq_getElem h4, List.getElem?_eq_getElem h5]
  simp [de]

theorem readChunk_b (s : List UInt8) (h2 : beginsE s pieceHead 20 ≠ 0) : readChunk s = (.zero, [], beginsE s pieceHead 20) := by unfold readChunk; rw [if_pos h2]
theorem readChunk_f (s : List UInt8) (h2 : beginsE s pieceHead 20 = 0) (h3 : 1 < rnum s 4 2) : readChunk s = (.zero, [], 14) := by unfold readChunk; rw [if_neg (by simpa using h2), if_pos h3]
theorem readChunk_m (s : List UInt8) (h2 : beginsE s pieceHead 20 = 0) (h3 : ¬ 1 < rnum s 4 2) (h4 : 4128 < rnum s 16 4) : readChunk s = (.zero, [], 11) := by unfold readChunk; rw [if_neg (by simpa using h2), if_neg h3, if_pos h4]
theorem readChunk_l (s : List UInt8) (h2 : beginsE s pieceHead 20 = 0) (h3 : ¬ 1 < rnum s 4 2) (h4 : ¬ 4128 < rnum s 16 4) (h5 : s.length - 20 < rnum s 16 4) : readChunk s = (.zero, [], 22) := by
  unfold readChunk; rw [if_neg (by simpa using h2), if_neg h3, if_neg h4, if_pos h5]
theorem readChunk_o (s : List UInt8) (h2 : beginsE s pieceHead 20 = 0) (h3 : ¬ 1 < rnum s 4 2) (h4 : ¬ 4128 < rnum s 16 4) (h5 : ¬ s.length - 20 < rnum s 16 4) :
    readChunk s = (⟨decide (rnum s 4 2 = 1), rnum s 6 2, rnum s 8 8, (s.drop 20).take (rnum s 16 4)⟩, (s.drop 20).drop (rnum s 16 4), 0) := by
  unfold readChunk; rw [if_neg (by simpa using h2), if_neg h3, if_neg h4, if_neg h5]

set_option maxRecDepth 100000 in
set_option maxHeartbeats 1000000 in
theorem readC_bad (s : List UInt8) (hs : s.length ≤ 100000) (hb : beginsE s pieceHead 20 ≠ 0) (w : World) :
    Calls Try.prog 37 #[.string ⟨s.toArray⟩] w (Gives (.tuple #[chunkV (readChunk s).1, .string ⟨(readChunk s).2.1.toArray⟩, .int .i64 (readChunk s).2.2]) w) := by
  have HB := Lib.hid (fun W => begins_any s pieceHead 20 rfl (by decide) (by decide) (by omega) W)
  rw [readChunk_b s hb]
  unfold chunkV Chunk.zero
  dsimp only
  obtain ⟨e, he⟩ : ∃ e, beginsE s pieceHead 20 = e := ⟨_, rfl⟩
  rw [he] at HB hb ⊢
  unfold pieceHead at HB
  have he3 : (e != 0) = true := by simpa using hb
  clear he hb
  go_enter Try.func37, Try.ntmps37
  go_wp2_with fail
  refine (HB.out _).mono ?_
  rintro e' w1 ⟨rfl, hb1⟩
  have x1 := (Blk.new w 52 #[.bool false, .int .i64 0, .int .u64 0, .string ⟨#[]⟩]).below hb1 (by simp)
  have b1 := below_next ((Below.refl _ w).alloc (Nat.le_refl _) (.cells #[.bool false, .int .i64 0, .int .u64 0, .string ⟨#[]⟩] 52)) hb1
  clear hb1
  have c0 := x1.cell 0
  have c1 := x1.cell 1
  have c2 := x1.cell 2
  have c3 := x1.cell 3
  have f0 := x1.frozen 0
  have f1 := x1.frozen 1
  have f2 := x1.frozen 2
  have f3 := x1.frozen 3
  simp only [List.getElem?_toArray, List.getElem?_cons_zero, List.getElem?_cons_succ] at c0 c1 c2 c3
  go_wp2
  refine bodyPost_ret (v := .tuple #[.agg #[.bool false, .int .i64 0, .int .u64 0, .string ⟨#[]⟩], .string ⟨#[]⟩, .int .i64 e]) (by simp [results, Try.results37, go_sem, c0, c1, c2, c3]) rfl ⟨rfl, ?_⟩
  (repeat' (first | (with_reducible assumption) | (with_reducible exact Below.refl _ _) | (with_reducible refine below_drewN ?_ _) | (with_reducible refine Below.drew ?_) | (with_reducible refine Below.setCell ?_ ?_ _) | (with_reducible refine Below.alloc ?_ ?_ _) | (with_reducible refine below_putObj ?_ ?_ _) | (with_reducible exact Nat.le_refl _) | omega | (simp; done) | (simp; omega)))

set_option maxRecDepth 100000 in
set_option maxHeartbeats 2000000 in
theorem readC_good (s : List UInt8) (hs : s.length ≤ 100000) (hb : beginsE s pieceHead 20 = 0) (w : World) :
    Calls Try.prog 37 #[.string ⟨s.toArray⟩] w (Gives (.tuple #[chunkV (readChunk s).1, .string ⟨(readChunk s).2.1.toArray⟩, .int .i64 (readChunk s).2.2]) w) := by
  have HB := Lib.hid (fun W => begins_any s pieceHead 20 rfl (by decide) (by decide) (by omega) W)
  obtain ⟨hl, _⟩ := begins_len hb
  rw [hb] at HB
  unfold pieceHead at HB
  have H6 := Lib.hid (fun W => at_any s 6 2 (by decide) (by decide) (by omega) (by omega) W)
  have H8 := Lib.hid (fun W => at_any s 8 8 (by decide) (by decide) (by omega) (by omega) W)
  have H16 := Lib.hid (fun W => at_any s 16 4 (by decide) (by decide) (by omega) (by omega) W)
  have mixed : Try.prog.follows .mixedOrders = true := by kernel_rfl
  have hl2 : (20 : Int) ≤ (s.length : Int) := by omega
  have hl3 : (5 : Int) < (s.length : Int) := by omega
  have hl4 : (4 : Int) < (s.length : Int) := by omega
  have l6 := rnum_lt s 6 2
  obtain ⟨k, hk⟩ : ∃ k, rnum s 6 2 = k := ⟨_, rfl⟩
  obtain ⟨c, hc⟩ : ∃ c, rnum s 8 8 = c := ⟨_, rfl⟩
  obtain ⟨z, hz⟩ : ∃ z, readChunk s = z := ⟨_, rfl⟩
  have HZ := Lib.hid hz
  rw [hz]
  clear hz
  rw [hk] at H6 l6
  rw [hc] at H8
  obtain ⟨n, hn⟩ : ∃ n, rnum s 16 4 = n := ⟨_, rfl⟩
  have ln := rnum_lt s 16 4
  have l42 := rnum_two s (by omega)
  rw [hn] at H16 ln
  have hwn : IntKind.i64.wrap (n : Int) = (n : Int) := by rw [IntKind.wrap_i64]; omega
  have hwk : IntKind.i64.wrap (k : Int) = (k : Int) := by rw [IntKind.wrap_i64]; omega
  go_enter Try.func37, Try.ntmps37
  go_wp2_with fail
  refine (HB.out _).mono ?_
  rintro e' w1 ⟨rfl, hb1⟩
  have x1 := (Blk.new w 52 #[.bool false, .int .i64 0, .int .u64 0, .string ⟨#[]⟩]).below hb1 (by simp)
  have b1 := below_next ((Below.refl _ w).alloc (Nat.le_refl _) (.cells #[.bool false, .int .i64 0, .int .u64 0, .string ⟨#[]⟩] 52)) hb1
  clear hb1
  go_upto_region 4 with fail
  go_cut [6] from 15 to 23 (fun c6 wx => ∃ g, c6 = .pointer (some ⟨g, 0, none⟩) ∧ Blk wx g 52 #[.bool (((s[5]?.getD 0).toNat : Int) == 1), .int .i64 (k : Nat), .int .u64 (c : Nat), .string ⟨#[]⟩] ∧ Blk wx w.heap.size 52 #[.bool false, .int .i64 0, .int .u64 0, .string ⟨#[]⟩] ∧ w.heap.size < g ∧ Below w.heap.size w wx)
  case first =>
    go_region_with (first | (go_at_call_of 51 (Value.int .i64 6); refine (H6.out _).mono ?_; rintro e w6 ⟨rfl, hb6⟩; have hbc := bcell hb6; have hks := fun (b : Nat) h => Nat.lt_of_lt_of_le (n := b) h hb6.size) | (go_at_call_of 51 (Value.int .i64 8); refine (H8.out _).mono ?_; rintro e w8 ⟨rfl, hb8⟩; have hbc8 := bcell hb8; have hks8 := fun (b : Nat) h => Nat.lt_of_lt_of_le (n := b) h hb8.size))
    all_goals go_wp2_with fail
    all_goals go_meet
    all_goals first
      | (have y6 := (x1.drew).below hb6 x1.lt
         have y8 := y6.below hb8 y6.lt
         have b8 := below_next (below_next b1.drew hb6) hb8
         exact ⟨_, rfl, Blk.new _ _ _, y8.alloc _, by have := y8.lt; omega, b8.alloc b8.size _⟩)
      | (have y6 := (x1.drew).below hb6 x1.lt
         have y8 := (y6.alloc (.cells #[.bool false, .int .i64 0, .int .u64 0, .string ⟨#[]⟩] 52)).below hb8 (by have := y6.lt; simp; omega)
         have z8 := (Blk.new w6 52 #[.bool false, .int .i64 0, .int .u64 0, .string ⟨#[]⟩]).below hb8 (by simp)
         have b6 := below_next b1.drew hb6
         have b8 := below_next (b6.alloc b6.size (.cells #[.bool false, .int .i64 0, .int .u64 0, .string ⟨#[]⟩] 52)) hb8
         have hlt := y6.lt
         have hs := b6.size
         exact ⟨w6.heap.size, rfl, (((z8.set_ 0 _).set_ 1 _).set_ 2 _).set_ 3 _, (((y8.far (p := ⟨w6.heap.size, 0, none⟩) (by dsimp only; omega) _).far (p := ⟨w6.heap.size, 1, none⟩) (by dsimp only; omega) _).far (p := ⟨w6.heap.size, 2, none⟩) (by dsimp only; omega) _).far (p := ⟨w6.heap.size, 3, none⟩) (by dsimp only; omega) _, by omega, by (repeat' (first | (with_reducible assumption) | (with_reducible exact Below.refl _ _) | (with_reducible refine below_drewN ?_ _) | (with_reducible refine Below.drew ?_) | (with_reducible refine Below.setCell ?_ ?_ _) | (with_reducible refine Below.alloc ?_ ?_ _) | (with_reducible refine below_putObj ?_ ?_ _) | (with_reducible exact Nat.le_refl _) | omega | (simp; done) | (simp; omega)))⟩)
      | (have y6 := ((x1.alloc (.cells #[.bool false, .int .i64 0, .int .u64 0, .string ⟨#[]⟩] 52)).drew).below hb6 (by have := x1.lt; simp; omega)
         have z6 := ((Blk.new w1 52 #[.bool false, .int .i64 0, .int .u64 0, .string ⟨#[]⟩]).drew).below hb6 (by simp)
         have y8 := y6.below hb8 y6.lt
         have z8 := z6.below hb8 z6.lt
         have b8 := below_next (below_next ((b1.alloc b1.size (.cells #[.bool false, .int .i64 0, .int .u64 0, .string ⟨#[]⟩] 52)).drew) hb6) hb8
         have hlt := x1.lt
         have hs := b1.size
         exact ⟨w1.heap.size, rfl, (((z8.set_ 0 _).set_ 1 _).set_ 2 _).set_ 3 _, (((y8.far (p := ⟨w1.heap.size, 0, none⟩) (by dsimp only; omega) _).far (p := ⟨w1.heap.size, 1, none⟩) (by dsimp only; omega) _).far (p := ⟨w1.heap.size, 2, none⟩) (by dsimp only; omega) _).far (p := ⟨w1.heap.size, 3, none⟩) (by dsimp only; omega) _, by omega, by (repeat' (first | (with_reducible assumption) | (with_reducible exact Below.refl _ _) | (with_reducible refine below_drewN ?_ _) | (with_reducible refine Below.drew ?_) | (with_reducible refine Below.setCell ?_ ?_ _) | (with_reducible refine Below.alloc ?_ ?_ _) | (with_reducible refine below_putObj ?_ ?_ _) | (with_reducible exact Nat.le_refl _) | omega | (simp; done) | (simp; omega)))⟩)
  case rest =>
    obtain ⟨g, rfl, hx, hr, hgt, hB⟩ := hcut
    have hne : g ≠ w.heap.size := by omega
    have c0 := hr.cell 0
    have c1 := hr.cell 1
    have c2 := hr.cell 2
    have c3 := hr.cell 3
    have d0 := hx.cell 0
    have d1 := hx.cell 1
    have d2 := hx.cell 2
    have d3 := hx.cell 3
    simp only [List.getElem?_toArray, List.getElem?_cons_zero, List.getElem?_cons_succ] at c0 c1 c2 c3 d0 d1 d2 d3
    have hlt := hr.lt
    have hne2 : w.heap.size ≠ g := fun e => hne e.symm
    go_upto_region 5 with fail
    go_cut [7, 8] from 24 to 28 (fun c7 c8 wx => c7 = .int .i64 n ∧ c8 = .string ⟨(s.drop 20).toArray⟩ ∧ Blk wx g 52 #[.bool (((s[5]?.getD 0).toNat : Int) == 1), .int .i64 (k : Nat), .int .u64 (c : Nat), .string ⟨#[]⟩] ∧ Blk wx w.heap.size 52 #[.bool false, .int .i64 0, .int .u64 0, .string ⟨#[]⟩] ∧ Below w.heap.size w wx)
    case first =>
      clear c0 c1 c2 c3 d0 d1 d2 d3
      go_region_with (go_at_call 51; refine (H16.out _).mono ?_; rintro e w9 ⟨rfl, hb9⟩)
      all_goals go_wp2_with fail
      all_goals go_meet
      all_goals exact ⟨rfl, rfl, (hx.drew).below hb9 hx.lt, (hr.drew).below hb9 hr.lt, below_next hB.drew hb9⟩
    case rest =>
      clear hx hr hB c0 c1 c2 c3 d0 d1 d2 d3 hlt
      obtain ⟨rfl, rfl, hx, hr, hB⟩ := hcut
      have c0 := hr.cell 0
      have c1 := hr.cell 1
      have c2 := hr.cell 2
      have c3 := hr.cell 3
      have d0 := hx.cell 0
      have d1 := hx.cell 1
      have d2 := hx.cell 2
      have d3 := hx.cell 3
      have f0 := hr.frozen 0
      have f1 := hr.frozen 1
      have f2 := hr.frozen 2
      have f3 := hr.frozen 3
      have e0 := hx.frozen 0
      have e1 := hx.frozen 1
      have e2 := hx.frozen 2
      have e3 := hx.frozen 3
      simp only [List.getElem?_toArray, List.getElem?_cons_zero, List.getElem?_cons_succ] at c0 c1 c2 c3 d0 d1 d2 d3
      clear hx hr
      obtain ⟨t, ht⟩ : ∃ t, s.drop 20 = t := ⟨_, rfl⟩
      have htl : t.length = s.length - 20 := by rw [← ht, List.length_drop]
      by_cases h3 : 1 < rnum s 4 2
      · have HE := Lib.hid (readChunk_f s hb h3)
        rw [ht]
        rw [l42] at h3
        by_cases h4 : (s[4]?.getD 0).toNat = 0
        · have k4 : (((s[4]?.getD 0).toNat : Int) != 0) = false := by simp [h4]
          have k5 : (1 : Int) < ((s[5]?.getD 0).toNat : Int) := by omega
          clear h3 h4 l42 hb hk hc hn ht htl
          go_wp2
          refine bodyPost_ret (v := .tuple #[.agg #[.bool false, .int .i64 0, .int .u64 0, .string ⟨#[]⟩], .string ⟨#[]⟩, .int .i64 14]) (by simp [results, Try.results37, go_sem, c0, c1, c2, c3]) rfl ⟨by rw [← HZ.out, HE.out]; rfl, ?_⟩
          (repeat' (first | (with_reducible assumption) | (with_reducible exact Below.refl _ _) | (with_reducible refine below_drewN ?_ _) | (with_reducible refine Below.drew ?_) | (with_reducible refine Below.setCell ?_ ?_ _) | (with_reducible refine Below.alloc ?_ ?_ _) | (with_reducible refine below_putObj ?_ ?_ _) | (with_reducible exact Nat.le_refl _) | omega | (simp; done) | (simp; omega)))
        · have k4 : (((s[4]?.getD 0).toNat : Int) != 0) = true := by simp; omega
          clear h3 h4 l42 hb hk hc hn ht htl
          go_wp2
          refine bodyPost_ret (v := .tuple #[.agg #[.bool false, .int .i64 0, .int .u64 0, .string ⟨#[]⟩], .string ⟨#[]⟩, .int .i64 14]) (by simp [results, Try.results37, go_sem, c0, c1, c2, c3]) rfl ⟨by rw [← HZ.out, HE.out]; rfl, ?_⟩
          (repeat' (first | (with_reducible assumption) | (with_reducible exact Below.refl _ _) | (with_reducible refine below_drewN ?_ _) | (with_reducible refine Below.drew ?_) | (with_reducible refine Below.setCell ?_ ?_ _) | (with_reducible refine Below.alloc ?_ ?_ _) | (with_reducible refine below_putObj ?_ ?_ _) | (with_reducible exact Nat.le_refl _) | omega | (simp; done) | (simp; omega)))
      have k4 : (((s[4]?.getD 0).toNat : Int) != 0) = false := by simp; omega
      have k5 : ¬ (1 : Int) < ((s[5]?.getD 0).toNat : Int) := by omega
      by_cases h5 : 4128 < n
      · have HE := Lib.hid (readChunk_m s hb h3 (by rw [hn]; exact h5))
        rw [ht]
        clear h3 l42 hb hk hc hn ht htl
        go_wp2
        refine bodyPost_ret (v := .tuple #[.agg #[.bool false, .int .i64 0, .int .u64 0, .string ⟨#[]⟩], .string ⟨#[]⟩, .int .i64 11]) (by simp [results, Try.results37, go_sem, c0, c1, c2, c3]) rfl ⟨by rw [← HZ.out, HE.out]; rfl, ?_⟩
        (repeat' (first | (with_reducible assumption) | (with_reducible exact Below.refl _ _) | (with_reducible refine below_drewN ?_ _) | (with_reducible refine Below.drew ?_) | (with_reducible refine Below.setCell ?_ ?_ _) | (with_reducible refine Below.alloc ?_ ?_ _) | (with_reducible refine below_putObj ?_ ?_ _) | (with_reducible exact Nat.le_refl _) | omega | (simp; done) | (simp; omega)))
      by_cases h6 : s.length - 20 < n
      · have HE := Lib.hid (readChunk_l s hb h3 (by rw [hn]; exact h5) (by rw [hn]; exact h6))
        have k6 : (t.length : Int) < (n : Int) := by omega
        have k7 : ¬ (4128 : Int) < (n : Int) := by omega
        rw [ht]
        clear h3 l42 hb hk hc hn ht htl
        go_wp2
        refine bodyPost_ret (v := .tuple #[.agg #[.bool false, .int .i64 0, .int .u64 0, .string ⟨#[]⟩], .string ⟨#[]⟩, .int .i64 22]) (by simp [results, Try.results37, go_sem, c0, c1, c2, c3]) rfl ⟨by rw [← HZ.out, HE.out]; rfl, ?_⟩
        (repeat' (first | (with_reducible assumption) | (with_reducible exact Below.refl _ _) | (with_reducible refine below_drewN ?_ _) | (with_reducible refine Below.drew ?_) | (with_reducible refine Below.setCell ?_ ?_ _) | (with_reducible refine Below.alloc ?_ ?_ _) | (with_reducible refine below_putObj ?_ ?_ _) | (with_reducible exact Nat.le_refl _) | omega | (simp; done) | (simp; omega)))
      · have HE := Lib.hid (readChunk_o s hb h3 (by rw [hn]; exact h5) (by rw [hn]; exact h6))
        rw [hk, hc, hn, ht] at HE
        have h7 : decide (rnum s 4 2 = 1) = (((s[5]?.getD 0).toNat : Int) == 1) := by
          rw [Bool.eq_iff_iff, decide_eq_true_iff, l42]
          simp
          omega
        rw [h7] at HE
        have k6 : ¬ (t.length : Int) < (n : Int) := by omega
        have k7 : ¬ (4128 : Int) < (n : Int) := by omega
        have k8 : (n : Int) ≤ (t.length : Int) := by omega
        rw [ht]
        clear h3 l42 hb hk hc hn ht htl h7
        go_wp2
        go_region
        go_wp2
        refine bodyPost_ret (v := .tuple #[.agg #[.bool (((s[5]?.getD 0).toNat : Int) == 1), .int .i64 (k : Nat), .int .u64 (c : Nat), .string ⟨(t.take n).toArray⟩], .string ⟨(t.drop n).toArray⟩, .int .i64 0]) (by simp [results, Try.results37, go_sem, c0, c1, c2, c3]) rfl ⟨by rw [← HZ.out, HE.out], ?_⟩
        (repeat' (first | (with_reducible assumption) | (with_reducible exact Below.refl _ _) | (with_reducible refine below_drewN ?_ _) | (with_reducible refine Below.drew ?_) | (with_reducible refine Below.setCell ?_ ?_ _) | (with_reducible refine Below.alloc ?_ ?_ _) | (with_reducible refine below_putObj ?_ ?_ _) | (with_reducible exact Nat.le_refl _) | omega | (simp; done) | (simp; omega)))

end Go.Proofs.Ytfcojhpnpfodeaa
