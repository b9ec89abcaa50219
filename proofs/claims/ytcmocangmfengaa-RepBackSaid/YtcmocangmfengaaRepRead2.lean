/- The document's ToSimple. -/
import Derived.Test.YtcmocangmfengaaRepRead
namespace Go.Proofs.Ytcmocangmfengaa
open Go.RowKit

theorem begins_ways (s h : List UInt8) (n : Nat) : (s.take (min s.length 4) ≠ h.take (min s.length 4) ∧ beginsE s h n = 14) ∨ (s.take (min s.length 4) = h.take (min s.length 4) ∧ s.length < n ∧ beginsE s h n = 22) ∨ (s.take (min s.length 4) = h.take (min s.length 4) ∧ n ≤ s.length ∧ beginsE s h n = 0) := by
  by_cases h1 : s.take (min s.length 4) = h.take (min s.length 4)
  · by_cases h2 : s.length < n
    · exact .inr (.inl ⟨h1, h2, begins_less s h n h1 h2⟩)
    · exact .inr (.inr ⟨h1, by omega, begins_is s h n h1 h2⟩)
  · exact .inl ⟨h1, begins_no s h n h1⟩

set_option maxRecDepth 100000 in
set_option maxHeartbeats 2000000 in
theorem rtosimple_any (s : List UInt8) (n : Int) (hs : s.length ≤ 100000) (w : World) :
    Calls Try.prog 21 #[.string ⟨s.toArray⟩, .int .i64 n] w (Gives (.tuple #[repV (readRep s n).1, .string ⟨(readRep s n).2.1.toArray⟩, .int .i64 (readRep s n).2.2]) w) := by
  by_cases hn : n < 0 ∨ 4096 < n
  · rw [readRep_n s n hn]
    unfold repV Rep.zero
    dsimp only
    rcases hn with hn | hn
    all_goals
      go_enter Try.func21, Try.ntmps21
      go_wp2
      refine bodyPost_ret (v := .tuple #[.agg #[.int .u32 0, .int .u64 0, .string ⟨#[]⟩], .string ⟨#[]⟩, .int .i64 25]) (by simp [results, Try.results21, go_sem]) rfl ⟨rfl, ?_⟩
      (repeat' (first | (with_reducible assumption) | (with_reducible exact Below.refl _ _) | (with_reducible refine below_drewN ?_ _) | (with_reducible refine Below.drew ?_) | (with_reducible refine Below.setCell ?_ ?_ _) | (with_reducible refine Below.alloc ?_ ?_ _) | (with_reducible refine below_putObj ?_ ?_ _) | (with_reducible exact Nat.le_refl _) | omega | (simp; done) | (simp; omega)))
  have n1 : 0 ≤ n := by omega
  have n2 : n ≤ 4096 := by omega
  obtain ⟨m, rfl⟩ := Int.eq_ofNat_of_zero_le n1
  rcases begins_ways s oneHead 16 with ⟨h1, hb⟩ | ⟨h1, hl, hb⟩ | ⟨h1, hl, hb⟩
  · rw [readRep_b s m hn (by rw [hb]; decide), hb]
    have HB := Lib.hid (fun W => headed_no s oneHead (by omega) rfl h1 W)
    unfold oneHead at HB
    unfold repV Rep.zero
    dsimp only
    clear h1 hb hn
    go_enter Try.func21, Try.ntmps21
    go_wp2_with fail
    refine (HB.out _).mono ?_
    rintro e' w1 ⟨rfl, hb1⟩
    have x1 := (Blk.new w 41 #[.int .u32 0, .int .u64 0, .string ⟨#[]⟩]).below hb1 (by simp)
    have b1 := below_next ((Below.refl _ w).alloc (Nat.le_refl _) (.cells #[.int .u32 0, .int .u64 0, .string ⟨#[]⟩] 41)) hb1
    clear hb1
    have c0 := x1.cell 0
    have c1 := x1.cell 1
    have c2 := x1.cell 2
    have f0 := x1.frozen 0
    have f1 := x1.frozen 1
    have f2 := x1.frozen 2
    simp only [List.getElem?_toArray, List.getElem?_cons_zero, List.getElem?_cons_succ] at c0 c1 c2
    clear x1
    go_wp2
    refine bodyPost_ret (v := .tuple #[.agg #[.int .u32 0, .int .u64 0, .string ⟨#[]⟩], .string ⟨#[]⟩, .int .i64 14]) (by simp [results, Try.results21, go_sem, c0, c1, c2]) rfl ⟨rfl, ?_⟩
    (repeat' (first | (with_reducible assumption) | (with_reducible exact Below.refl _ _) | (with_reducible refine below_drewN ?_ _) | (with_reducible refine Below.drew ?_) | (with_reducible refine Below.setCell ?_ ?_ _) | (with_reducible refine Below.alloc ?_ ?_ _) | (with_reducible refine below_putObj ?_ ?_ _) | (with_reducible exact Nat.le_refl _) | omega | (simp; done) | (simp; omega)))
  · rw [readRep_b s m hn (by rw [hb]; decide), hb]
    have HB := Lib.hid (fun W => headed_yes s oneHead (by omega) rfl h1 W)
    unfold oneHead at HB
    unfold repV Rep.zero
    dsimp only
    clear h1 hb hn
    go_enter Try.func21, Try.ntmps21
    go_wp2_with fail
    refine (HB.out _).mono ?_
    rintro e' w1 ⟨rfl, hb1⟩
    have x1 := (Blk.new w 41 #[.int .u32 0, .int .u64 0, .string ⟨#[]⟩]).below hb1 (by simp)
    have b1 := below_next ((Below.refl _ w).alloc (Nat.le_refl _) (.cells #[.int .u32 0, .int .u64 0, .string ⟨#[]⟩] 41)) hb1
    clear hb1
    have c0 := x1.cell 0
    have c1 := x1.cell 1
    have c2 := x1.cell 2
    have f0 := x1.frozen 0
    have f1 := x1.frozen 1
    have f2 := x1.frozen 2
    simp only [List.getElem?_toArray, List.getElem?_cons_zero, List.getElem?_cons_succ] at c0 c1 c2
    clear x1
    go_wp2
    refine bodyPost_ret (v := .tuple #[.agg #[.int .u32 0, .int .u64 0, .string ⟨#[]⟩], .string ⟨#[]⟩, .int .i64 22]) (by simp [results, Try.results21, go_sem, c0, c1, c2]) rfl ⟨rfl, ?_⟩
    (repeat' (first | (with_reducible assumption) | (with_reducible exact Below.refl _ _) | (with_reducible refine below_drewN ?_ _) | (with_reducible refine Below.drew ?_) | (with_reducible refine Below.setCell ?_ ?_ _) | (with_reducible refine Below.alloc ?_ ?_ _) | (with_reducible refine below_putObj ?_ ?_ _) | (with_reducible exact Nat.le_refl _) | omega | (simp; done) | (simp; omega)))
  have HB := Lib.hid (fun W => headed_yes s oneHead (by omega) rfl h1 W)
  unfold oneHead at HB
  have H4 : Hid (∀ W, Calls Try.prog 30 #[.string ⟨(s.drop 4).toArray⟩, .int .i64 4] W (Gives (.tuple #[.int .u64 (rnum s 4 4 : Nat), .string ⟨(s.drop 8).toArray⟩, .int .i64 0]) W)) :=
    Lib.hid (fun W => by have h := rtake_any (s.drop 4) 4 (by decide) (by decide) (by rw [List.length_drop]; omega) (by rw [List.length_drop]; omega) W; rwa [List.drop_drop] at h)
  have H8 : Hid (∀ W, Calls Try.prog 30 #[.string ⟨(s.drop 8).toArray⟩, .int .i64 8] W (Gives (.tuple #[.int .u64 (rnum s 8 8 : Nat), .string ⟨(s.drop 16).toArray⟩, .int .i64 0]) W)) :=
    Lib.hid (fun W => by have h := rtake_any (s.drop 8) 8 (by decide) (by decide) (by rw [List.length_drop]; omega) (by rw [List.length_drop]; omega) W; rwa [List.drop_drop] at h)
  have l4 := rnum_lt s 4 4
  have mixed : Try.prog.follows .mixedOrders = true := by kernel_rfl
  have hl2 : (16 : Int) ≤ (s.length : Int) := by omega
  obtain ⟨t, ht⟩ : ∃ t, s.drop 16 = t := ⟨_, rfl⟩
  have htl : t.length = s.length - 16 := by rw [← ht, List.length_drop]
  by_cases h4 : rnum s 4 4 = 0
  case neg =>
    rw [readRep_c s m hn hb h4]
    obtain ⟨e, he⟩ : ∃ e, rnum s 4 4 = e := ⟨_, rfl⟩
    obtain ⟨c, hc⟩ : ∃ c, rnum s 8 8 = c := ⟨_, rfl⟩
    rw [he] at H4 l4 h4 ⊢
    rw [hc, ht] at H8
    rw [hc, ht]
    have hw1 : IntKind.u32.wrap (e : Int) = (e : Int) := wrap32u (by omega)
    have h5 : ((e : Int) != 0) = true := by simp; omega
    clear he hc hb hn h1 ht htl
    go_enter Try.func21, Try.ntmps21
    go_wp2_with fail
    refine (HB.out _).mono ?_
    rintro e' w1 ⟨rfl, hb1⟩
    have x1 := (Blk.new w 41 #[.int .u32 0, .int .u64 0, .string ⟨#[]⟩]).below hb1 (by simp)
    have b1 := below_next ((Below.refl _ w).alloc (Nat.le_refl _) (.cells #[.int .u32 0, .int .u64 0, .string ⟨#[]⟩] 41)) hb1
    clear hb1
    go_wp2_with fail
    refine (H4.out _).mono ?_
    rintro e' w2 ⟨rfl, hb2⟩
    have x2 := x1.below hb2 x1.lt
    have b2 := below_next b1 hb2
    clear hb2 x1 b1
    go_wp2_with fail
    refine (H8.out _).mono ?_
    rintro e' w3 ⟨rfl, hb3⟩
    have x3 := x2.below hb3 x2.lt
    have b3 := below_next b2 hb3
    have s3 := b3.size
    have g0 := fun o i => old_cell (w := w3) (g := w.heap.size) x3.lt o i
    have g1 := fun o i => old_frozen (w := w3) (g := w.heap.size) x3.lt o i
    clear hb3 x2 b2
    have c0 := x3.cell 0
    have c1 := x3.cell 1
    have c2 := x3.cell 2
    have f0 := x3.frozen 0
    have f1 := x3.frozen 1
    have f2 := x3.frozen 2
    simp only [List.getElem?_toArray, List.getElem?_cons_zero, List.getElem?_cons_succ] at c0 c1 c2
    clear x3
    go_wp2
    refine bodyPost_ret (v := .tuple #[.agg #[.int .u32 e, .int .u64 c, .string ⟨#[]⟩], .string ⟨t.toArray⟩, .int .i64 0]) (by simp [results, Try.results21, go_sem, c0, c1, c2, g0]) rfl ⟨rfl, ?_⟩
    (repeat' (first | (with_reducible assumption) | (with_reducible exact Below.refl _ _) | (with_reducible refine below_drewN ?_ _) | (with_reducible refine Below.drew ?_) | (with_reducible refine Below.setCell ?_ ?_ _) | (with_reducible refine Below.alloc ?_ ?_ _) | (with_reducible refine below_putObj ?_ ?_ _) | (with_reducible exact Nat.le_refl _) | omega | (simp; done) | (simp; omega)))
  by_cases h6 : s.length - 16 < m
  · rw [readRep_d s m hn hb h4 (by simpa using h6)]
    obtain ⟨c, hc⟩ : ∃ c, rnum s 8 8 = c := ⟨_, rfl⟩
    rw [h4] at H4
    rw [hc, ht] at H8
    have h7 : (t.length : Int) < (m : Int) := by omega
    clear hc hb hn h4 l4 h1 ht htl
    go_enter Try.func21, Try.ntmps21
    go_wp2_with fail
    refine (HB.out _).mono ?_
    rintro e' w1 ⟨rfl, hb1⟩
    have x1 := (Blk.new w 41 #[.int .u32 0, .int .u64 0, .string ⟨#[]⟩]).below hb1 (by simp)
    have b1 := below_next ((Below.refl _ w).alloc (Nat.le_refl _) (.cells #[.int .u32 0, .int .u64 0, .string ⟨#[]⟩] 41)) hb1
    clear hb1
    go_wp2_with fail
    refine (H4.out _).mono ?_
    rintro e' w2 ⟨rfl, hb2⟩
    have x2 := x1.below hb2 x1.lt
    have b2 := below_next b1 hb2
    clear hb2 x1 b1
    go_wp2_with fail
    refine (H8.out _).mono ?_
    rintro e' w3 ⟨rfl, hb3⟩
    have x3 := x2.below hb3 x2.lt
    have b3 := below_next b2 hb3
    have s3 := b3.size
    have g0 := fun o i => old_cell (w := w3) (g := w.heap.size) x3.lt o i
    have g1 := fun o i => old_frozen (w := w3) (g := w.heap.size) x3.lt o i
    clear hb3 x2 b2
    have c0 := x3.cell 0
    have c1 := x3.cell 1
    have c2 := x3.cell 2
    have f0 := x3.frozen 0
    have f1 := x3.frozen 1
    have f2 := x3.frozen 2
    simp only [List.getElem?_toArray, List.getElem?_cons_zero, List.getElem?_cons_succ] at c0 c1 c2
    clear x3
    go_wp2
    refine bodyPost_ret (v := .tuple #[.agg #[.int .u32 0, .int .u64 0, .string ⟨#[]⟩], .string ⟨#[]⟩, .int .i64 22]) (by simp [results, Try.results21, go_sem, c0, c1, c2, g0]) rfl ⟨rfl, ?_⟩
    (repeat' (first | (with_reducible assumption) | (with_reducible exact Below.refl _ _) | (with_reducible refine below_drewN ?_ _) | (with_reducible refine Below.drew ?_) | (with_reducible refine Below.setCell ?_ ?_ _) | (with_reducible refine Below.alloc ?_ ?_ _) | (with_reducible refine below_putObj ?_ ?_ _) | (with_reducible exact Nat.le_refl _) | omega | (simp; done) | (simp; omega)))
  · rw [readRep_e s m hn hb h4 (by simpa using h6)]
    simp only [Int.toNat_natCast]
    obtain ⟨c, hc⟩ : ∃ c, rnum s 8 8 = c := ⟨_, rfl⟩
    rw [h4] at H4
    rw [hc, ht] at H8
    rw [hc, ht]
    have h7 : ¬ (t.length : Int) < (m : Int) := by omega
    have h8 : (m : Int) ≤ (t.length : Int) := by omega
    clear hc hb hn h4 l4 h1 ht htl
    go_enter Try.func21, Try.ntmps21
    go_wp2_with fail
    refine (HB.out _).mono ?_
    rintro e' w1 ⟨rfl, hb1⟩
    have x1 := (Blk.new w 41 #[.int .u32 0, .int .u64 0, .string ⟨#[]⟩]).below hb1 (by simp)
    have b1 := below_next ((Below.refl _ w).alloc (Nat.le_refl _) (.cells #[.int .u32 0, .int .u64 0, .string ⟨#[]⟩] 41)) hb1
    clear hb1
    go_wp2_with fail
    refine (H4.out _).mono ?_
    rintro e' w2 ⟨rfl, hb2⟩
    have x2 := x1.below hb2 x1.lt
    have b2 := below_next b1 hb2
    clear hb2 x1 b1
    go_wp2_with fail
    refine (H8.out _).mono ?_
    rintro e' w3 ⟨rfl, hb3⟩
    have x3 := x2.below hb3 x2.lt
    have b3 := below_next b2 hb3
    have s3 := b3.size
    have g0 := fun o i => old_cell (w := w3) (g := w.heap.size) x3.lt o i
    have g1 := fun o i => old_frozen (w := w3) (g := w.heap.size) x3.lt o i
    clear hb3 x2 b2
    have c0 := x3.cell 0
    have c1 := x3.cell 1
    have c2 := x3.cell 2
    have f0 := x3.frozen 0
    have f1 := x3.frozen 1
    have f2 := x3.frozen 2
    simp only [List.getElem?_toArray, List.getElem?_cons_zero, List.getElem?_cons_succ] at c0 c1 c2
    clear x3
    go_wp2
    go_region
    go_wp2
    refine bodyPost_ret (v := .tuple #[.agg #[.int .u32 0, .int .u64 c, .string ⟨(t.take m).toArray⟩], .string ⟨(t.drop m).toArray⟩, .int .i64 0]) (by simp [results, Try.results21, go_sem, c0, c1, c2, g0]) rfl ⟨rfl, ?_⟩
    (repeat' (first | (with_reducible assumption) | (with_reducible exact Below.refl _ _) | (with_reducible refine below_drewN ?_ _) | (with_reducible refine Below.drew ?_) | (with_reducible refine Below.setCell ?_ ?_ _) | (with_reducible refine Below.alloc ?_ ?_ _) | (with_reducible refine below_putObj ?_ ?_ _) | (with_reducible exact Nat.le_refl _) | omega | (simp; done) | (simp; omega)))

end Go.Proofs.Ytcmocangmfengaa
