/- req: the walks. -/
import Derived.Test.YtneibnoocfcndaaReqSpec
import Derived.Test.YtneibnoocfcndaaPut
import Derived.Test.YtneibnoocfcndaaTake
namespace Go.Proofs.Ytneibnoocfcndaa
open Go.RowKit

set_option maxHeartbeats 400000 in
theorem fit_any (q : Req) (hq : q.len < 4294967296) (w : World) : Calls Try.prog 10 #[reqV q] w (Gives (.bool q.fit) w) := by
  obtain ⟨fl, kd, ck, fr, ln, d⟩ := q
  unfold reqV
  dsimp only at hq ⊢
  go_enter Try.func10, Try.ntmps10
  go_wp2
  all_goals go_ret
  all_goals (refine gives_bool ?_ ((Below.refl _ _).alloc (Nat.le_refl _) _); simp_all [Req.fit]; try (first | omega | (intro _; omega) | (rw [Bool.eq_iff_iff]; simp; omega)))

theorem number_any (l : List UInt8) (a s : Int) (h0 : 0 ≤ a) (h1 : 1 ≤ s) (h8 : s ≤ 8) (hl : a + s ≤ l.length) (hm : l.length ≤ 9223372036854775807) (w : World) :
    Calls Try.prog 13 #[.string ⟨l.toArray⟩, .int .i64 a, .int .i64 s] w (Gives (.int .u64 (num l a.toNat s.toNat : Nat)) w) := by
  obtain ⟨b, rfl⟩ := Int.eq_ofNat_of_zero_le h0
  go_enter Try.func13, Try.ntmps13
  go_wp2_with (go_at_call 18; refine (take_int (l.drop b) s h1 h8 (by simp; omega) (by simp; omega) _).mono ?_; rintro e w' ⟨rfl, hb⟩)
  go_ret
  exact ⟨rfl, hb⟩

abbrev reqZero : Array Value := #[.int .i64 0, .int .i64 0, .int .u64 0, .int .u64 0, .int .u32 0, .string ⟨#[]⟩]

set_option maxRecDepth 100000 in
set_option maxHeartbeats 1000000 in
theorem read_little (l : List UInt8) (h4 : l.length ≤ 4) (w : World) :
    Calls Try.prog 8 #[.string ⟨l.toArray⟩] w (Gives (.tuple #[.agg reqZero, .string ⟨#[]⟩, .int .i64 (littleErr l)]) w) := by
  go_enter Try.func8, Try.ntmps8
  go_wp2
  go_quiet (fail)
  go_wp2
  · have e := littleErr_no l ‹_›
    refine bodyPost_ret (v := .tuple #[.agg reqZero, .string ⟨#[]⟩, .int .i64 14]) (by clear e; simp [results, Try.results8, go_sem]) rfl ⟨by rw [e], ?_⟩
    clear e
    (repeat' (first | (with_reducible assumption) | (with_reducible exact Below.refl _ _) | (with_reducible refine below_drewN ?_ _) | (with_reducible refine Below.drew ?_) | (with_reducible refine Below.setCell ?_ ?_ _) | (with_reducible refine Below.alloc ?_ ?_ _) | (with_reducible refine below_putObj ?_ ?_ _) | (with_reducible exact Nat.le_refl _) | omega | (simp; done) | (simp; omega)))
  · have e := littleErr_yes l ‹_›
    refine bodyPost_ret (v := .tuple #[.agg reqZero, .string ⟨#[]⟩, .int .i64 22]) (by clear e; simp [results, Try.results8, go_sem]) rfl ⟨by rw [e], ?_⟩
    clear e
    (repeat' (first | (with_reducible assumption) | (with_reducible exact Below.refl _ _) | (with_reducible refine below_drewN ?_ _) | (with_reducible refine Below.drew ?_) | (with_reducible refine Below.setCell ?_ ?_ _) | (with_reducible refine Below.alloc ?_ ?_ _) | (with_reducible refine below_putObj ?_ ?_ _) | (with_reducible exact Nat.le_refl _) | omega | (simp; done) | (simp; omega)))

set_option maxRecDepth 100000 in
set_option maxHeartbeats 1000000 in
theorem read_bad (l : List UInt8) (h4 : 4 < l.length) (hh : (!List.take 4 l == [37, 96, 149, 19]) = true) (w : World) :
    Calls Try.prog 8 #[.string ⟨l.toArray⟩] w (Gives (.tuple #[.agg reqZero, .string ⟨#[]⟩, .int .i64 14]) w) := by
  go_enter Try.func8, Try.ntmps8
  go_wp2
  go_quiet (fail)
  go_wp2
  refine bodyPost_ret (v := .tuple #[.agg reqZero, .string ⟨#[]⟩, .int .i64 14]) (by simp [results, Try.results8, go_sem]) rfl ⟨rfl, ?_⟩
  (repeat' (first | (with_reducible assumption) | (with_reducible exact Below.refl _ _) | (with_reducible refine below_drewN ?_ _) | (with_reducible refine Below.drew ?_) | (with_reducible refine Below.setCell ?_ ?_ _) | (with_reducible refine Below.alloc ?_ ?_ _) | (with_reducible refine below_putObj ?_ ?_ _) | (with_reducible exact Nat.le_refl _) | omega | (simp; done) | (simp; omega)))

set_option maxRecDepth 100000 in
set_option maxHeartbeats 1000000 in
theorem read_few (l : List UInt8) (h4 : 4 < l.length) (hh : (!List.take 4 l == [37, 96, 149, 19]) = false) (h28 : l.length < 28) (w : World) :
    Calls Try.prog 8 #[.string ⟨l.toArray⟩] w (Gives (.tuple #[.agg reqZero, .string ⟨#[]⟩, .int .i64 22]) w) := by
  go_enter Try.func8, Try.ntmps8
  go_wp2
  go_quiet (fail)
  go_wp2
  refine bodyPost_ret (v := .tuple #[.agg reqZero, .string ⟨#[]⟩, .int .i64 22]) (by simp [results, Try.results8, go_sem]) rfl ⟨rfl, ?_⟩
  (repeat' (first | (with_reducible assumption) | (with_reducible exact Below.refl _ _) | (with_reducible refine below_drewN ?_ _) | (with_reducible refine Below.drew ?_) | (with_reducible refine Below.setCell ?_ ?_ _) | (with_reducible refine Below.alloc ?_ ?_ _) | (with_reducible refine below_putObj ?_ ?_ _) | (with_reducible exact Nat.le_refl _) | omega | (simp; done) | (simp; omega)))

set_option maxRecDepth 100000 in
set_option maxHeartbeats 1000000 in
theorem read_body (l : List UInt8) (h4 : 4 < l.length) (hh : (!List.take 4 l == [37, 96, 149, 19]) = false) (h28 : 28 ≤ l.length) (hm : l.length ≤ 9223372036854775807) (w : World) :
    Calls Try.prog 8 #[.string ⟨l.toArray⟩] w (Gives (.tuple #[reqV (readReq l).1, .string ⟨(readReq l).2.1.toArray⟩, .int .i64 (readReq l).2.2]) w) := by
  have n4 : num l 4 2 < 65536 := num_lt l 4 2 (by omega)
  have n6 : num l 6 2 < 65536 := num_lt l 6 2 (by omega)
  have n24 : num l 24 4 < 4294967296 := num_lt l 24 4 (by omega)
  go_enter Try.func8, Try.ntmps8
  go_wp2
  go_quiet (fail)
  go_wp2_with fail
  refine at_world fun W0 hW0 => ?_
  have r0 : Blk W0 w.heap.size 25 reqZero := by rw [hW0]; exact Blk.new w _ _
  have b0 : Below w.heap.size w W0 := by rw [hW0]; (repeat' (first | (with_reducible assumption) | (with_reducible exact Below.refl _ _) | (with_reducible refine below_drewN ?_ _) | (with_reducible refine Below.drew ?_) | (with_reducible refine Below.setCell ?_ ?_ _) | (with_reducible refine Below.alloc ?_ ?_ _) | (with_reducible refine below_putObj ?_ ?_ _) | (with_reducible exact Nat.le_refl _) | omega | (simp; done) | (simp; omega)))
  clear hW0
  refine (number_any l _ _ (by omega) (by omega) (by omega) (by omega) hm _).mono ?_
  rintro e W1 ⟨rfl, k1⟩
  have r1 := r0.below k1 r0.lt
  have b1 := b0.trans (k1.mono b0.size)
  clear r0 b0 k1
  go_wp2_with fail
  refine (number_any l _ _ (by omega) (by omega) (by omega) (by omega) hm _).mono ?_
  rintro e W2 ⟨rfl, k2⟩
  have r2 := r1.below k2 r1.lt
  have b2 := b1.trans (k2.mono b1.size)
  clear r1 b1 k2
  go_wp2_with fail
  refine (number_any l _ _ (by omega) (by omega) (by omega) (by omega) hm _).mono ?_
  rintro e W3 ⟨rfl, k3⟩
  have r3 := r2.below k3 r2.lt
  have b3 := b2.trans (k3.mono b2.size)
  clear r2 b2 k3
  go_wp2_with fail
  refine (number_any l _ _ (by omega) (by omega) (by omega) (by omega) hm _).mono ?_
  rintro e W4 ⟨rfl, k4⟩
  have r4 := r3.below k4 r3.lt
  have b4 := b3.trans (k4.mono b3.size)
  clear r3 b3 k4
  go_wp2_with fail
  refine (number_any l _ _ (by omega) (by omega) (by omega) (by omega) hm _).mono ?_
  rintro e W5 ⟨rfl, k5⟩
  have r5 := r4.below k5 r4.lt
  have b5 := b4.trans (k5.mono b4.size)
  clear r4 b4 k5
  have hlt := r5.lt
  have c0 := r5.cell 0
  have c1 := r5.cell 1
  have c2 := r5.cell 2
  have c3 := r5.cell 3
  have c4 := r5.cell 4
  have c5 := r5.cell 5
  have f0 := r5.frozen 0
  have f1 := r5.frozen 1
  have f2 := r5.frozen 2
  have f3 := r5.frozen 3
  have f4 := r5.frozen 4
  have f5 := r5.frozen 5
  simp only [reqZero, List.getElem?_toArray, List.getElem?_cons_zero, List.getElem?_cons_succ] at c0 c1 c2 c3 c4 c5
  go_wp2
  · have hk : ¬ num l 6 2 = 1 := by rename_i h; intro h'; rw [h'] at h; cases h
    have e := (readReq_rest l h4 hh h28).trans (if_pos hk)
    refine bodyPost_ret (v := .tuple #[reqV (reqOf l), .string ⟨(l.drop 28).toArray⟩, .int .i64 0]) (by clear e; simp [results, Try.results8, go_sem, reqOf, c0, c1, c2, c3, c4, c5, hlt]) rfl ⟨by rw [e], ?_⟩
    clear e
    (repeat' (first | (with_reducible assumption) | (with_reducible exact Below.refl _ _) | (with_reducible refine below_drewN ?_ _) | (with_reducible refine Below.drew ?_) | (with_reducible refine Below.setCell ?_ ?_ _) | (with_reducible refine Below.alloc ?_ ?_ _) | (with_reducible refine below_putObj ?_ ?_ _) | (with_reducible exact Nat.le_refl _) | omega | (simp; done) | (simp; omega)))
  · have hk : num l 6 2 = 1 := by have h : (((num l 6 2 : Nat) : Int) != 1) = false := by assumption
                                  simp at h; omega
    have hs : 4096 < num l 24 4 := by omega
    have e := ((readReq_rest l h4 hh h28).trans (if_neg (by omega))).trans (if_pos hs)
    refine bodyPost_ret (v := .tuple #[.agg reqZero, .string ⟨#[]⟩, .int .i64 11]) (by clear e; simp [results, Try.results8, go_sem, c0, c1, c2, c3, c4, c5, hlt]) rfl ⟨by rw [e]; rfl, ?_⟩
    clear e
    (repeat' (first | (with_reducible assumption) | (with_reducible exact Below.refl _ _) | (with_reducible refine below_drewN ?_ _) | (with_reducible refine Below.drew ?_) | (with_reducible refine Below.setCell ?_ ?_ _) | (with_reducible refine Below.alloc ?_ ?_ _) | (with_reducible refine below_putObj ?_ ?_ _) | (with_reducible exact Nat.le_refl _) | omega | (simp; done) | (simp; omega)))
  · have hk : num l 6 2 = 1 := by have h : (((num l 6 2 : Nat) : Int) != 1) = false := by assumption
                                  simp at h; omega
    have hs : l.length - 28 < num l 24 4 := by omega
    have e := (((readReq_rest l h4 hh h28).trans (if_neg (by omega))).trans (if_neg (by omega))).trans (if_pos hs)
    refine bodyPost_ret (v := .tuple #[.agg reqZero, .string ⟨#[]⟩, .int .i64 22]) (by clear e; simp [results, Try.results8, go_sem, c0, c1, c2, c3, c4, c5, hlt]) rfl ⟨by rw [e]; rfl, ?_⟩
    clear e
    (repeat' (first | (with_reducible assumption) | (with_reducible exact Below.refl _ _) | (with_reducible refine below_drewN ?_ _) | (with_reducible refine Below.drew ?_) | (with_reducible refine Below.setCell ?_ ?_ _) | (with_reducible refine Below.alloc ?_ ?_ _) | (with_reducible refine below_putObj ?_ ?_ _) | (with_reducible exact Nat.le_refl _) | omega | (simp; done) | (simp; omega)))
  · have hk : num l 6 2 = 1 := by have h : (((num l 6 2 : Nat) : Int) != 1) = false := by assumption
                                  simp at h; omega
    have hs : num l 24 4 ≤ l.length - 28 := by omega
    have e := (((readReq_rest l h4 hh h28).trans (if_neg (by omega))).trans (if_neg (by omega))).trans (if_neg (by omega))
    have E := Lib.hid e
    clear e
    go_region
    go_wp2
    refine bodyPost_ret (v := .tuple #[reqV { reqOf l with data := (l.drop 28).take (num l 24 4) }, .string ⟨(l.drop (28 + num l 24 4)).toArray⟩, .int .i64 0]) (by clear E; simp [results, Try.results8, go_sem, reqOf, c0, c1, c2, c3, c4, c5, hlt, hk]) rfl ⟨by rw [E.out], ?_⟩
    clear E
    (repeat' (first | (with_reducible assumption) | (with_reducible exact Below.refl _ _) | (with_reducible refine below_drewN ?_ _) | (with_reducible refine Below.drew ?_) | (with_reducible refine Below.setCell ?_ ?_ _) | (with_reducible refine Below.alloc ?_ ?_ _) | (with_reducible refine below_putObj ?_ ?_ _) | (with_reducible exact Nat.le_refl _) | omega | (simp; done) | (simp; omega)))

theorem read_any (l : List UInt8) (hm : l.length ≤ 9223372036854775807) (w : World) :
    Calls Try.prog 8 #[.string ⟨l.toArray⟩] w (Gives (.tuple #[reqV (readReq l).1, .string ⟨(readReq l).2.1.toArray⟩, .int .i64 (readReq l).2.2]) w) := by
  by_cases h4 : l.length ≤ 4
  · rw [readReq_little l h4]
    exact read_little l h4 w
  · by_cases hh : (!List.take 4 l == [37, 96, 149, 19]) = true
    · rw [readReq_bad l (by omega) hh]
      exact read_bad l (by omega) hh w
    · have hh' : (!List.take 4 l == [37, 96, 149, 19]) = false := by cases h : (!List.take 4 l == [37, 96, 149, 19]) <;> simp_all
      by_cases h28 : l.length < 28
      · rw [readReq_few l (by omega) hh' h28]
        exact read_few l (by omega) hh' h28 w
      · exact read_body l (by omega) hh' (by omega) hm w

end Go.Proofs.Ytneibnoocfcndaa
