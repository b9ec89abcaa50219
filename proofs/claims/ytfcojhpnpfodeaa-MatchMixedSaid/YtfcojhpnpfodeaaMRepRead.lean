/- rep.ToSimple, and the document's. -/
import Derived.Test.YtfcojhpnpfodeaaMRepChunk
import Derived.Test.YtfcojhpnpfodeaaMRepBase
namespace Go.Proofs.Ytfcojhpnpfodeaa
open Go.RowKit

theorem old_cell {w : World} {g : Nat} (h : g < w.heap.size) (o : Obj) (i : Nat) : (w.alloc o).cell? ⟨g, i, none⟩ = w.cell? ⟨g, i, none⟩ := World.cell?_of_block (Below.heap_alloc w o g h)
theorem old_frozen {w : World} {g : Nat} (h : g < w.heap.size) (o : Obj) (i : Nat) : (w.alloc o).frozen? ⟨g, i, none⟩ = w.frozen? ⟨g, i, none⟩ := World.frozen?_of_block (Below.heap_alloc w o g h)

theorem begins_len {s h : List UInt8} {n : Nat} (e : beginsE s h n = 0) : n ≤ s.length ∧ s.take (min s.length 4) = h.take (min s.length 4) := by
  unfold beginsE at e
  by_cases h1 : s.take (min s.length 4) = h.take (min s.length 4)
  · rw [if_pos h1] at e
    by_cases h2 : s.length < n
    · rw [if_pos h2] at e; cases e
    · exact ⟨by omega, h1⟩
  · rw [if_neg h1] at e; cases e

theorem readRep_n (s : List UInt8) (n : Int) (h : n < 0 ∨ 4096 < n) : readRep s n = (.zero, [], 25) := by unfold readRep; rw [if_pos h]
theorem readRep_b (s : List UInt8) (n : Int) (h : ¬ (n < 0 ∨ 4096 < n)) (h2 : beginsE s oneHead 16 ≠ 0) : readRep s n = (.zero, [], beginsE s oneHead 16) := by unfold readRep; rw [if_neg h, if_pos h2]
theorem readRep_c (s : List UInt8) (n : Int) (h : ¬ (n < 0 ∨ 4096 < n)) (h2 : beginsE s oneHead 16 = 0) (h3 : rnum s 4 4 ≠ 0) : readRep s n = (⟨rnum s 4 4, rnum s 8 8, []⟩, s.drop 16, 0) := by
  unfold readRep; rw [if_neg h, if_neg (by simpa using h2), if_pos h3]
theorem readRep_d (s : List UInt8) (n : Int) (h : ¬ (n < 0 ∨ 4096 < n)) (h2 : beginsE s oneHead 16 = 0) (h3 : rnum s 4 4 = 0) (h4 : s.length - 16 < n.toNat) : readRep s n = (.zero, [], 22) := by
  unfold readRep; rw [if_neg h, if_neg (by simpa using h2), if_neg (by simpa using h3), if_pos h4]
theorem readRep_e (s : List UInt8) (n : Int) (h : ¬ (n < 0 ∨ 4096 < n)) (h2 : beginsE s oneHead 16 = 0) (h3 : rnum s 4 4 = 0) (h4 : ¬ s.length - 16 < n.toNat) : readRep s n = (⟨0, rnum s 8 8, (s.drop 16).take n.toNat⟩, (s.drop 16).drop n.toNat, 0) := by
  unfold readRep; rw [if_neg h, if_neg (by simpa using h2), if_neg (by simpa using h3), if_neg h4, h3]

set_option maxRecDepth 100000 in
set_option maxHeartbeats 1000000 in
theorem tosimple_any (s : List UInt8) (n : Int) (hs : s.length ≤ 100000) (w : World) :
    Calls Try.prog 34 #[.string ⟨s.toArray⟩, .int .i64 n] w (Gives (.tuple #[repV (readRep s n).1, .string ⟨(readRep s n).2.1.toArray⟩, .int .i64 (readRep s n).2.2]) w) := by
  by_cases hn : n < 0 ∨ 4096 < n
  · rw [readRep_n s n hn]
    unfold repV Rep.zero
    dsimp only
    rcases hn with hn | hn
    all_goals
      go_enter Try.func34, Try.ntmps34
      go_wp2
      refine bodyPost_ret (v := .tuple #[.agg #[.int .u32 0, .int .u64 0, .string ⟨#[]⟩], .string ⟨#[]⟩, .int .i64 25]) (by simp [results, Try.results34, go_sem]) rfl ⟨rfl, ?_⟩
      (repeat' (first | (with_reducible assumption) | (with_reducible exact Below.refl _ _) | (with_reducible refine below_drewN ?_ _) | (with_reducible refine Below.drew ?_) | (with_reducible refine Below.setCell ?_ ?_ _) | (with_reducible refine Below.alloc ?_ ?_ _) | (with_reducible refine below_putObj ?_ ?_ _) | (with_reducible exact Nat.le_refl _) | omega | (simp; done) | (simp; omega)))
  have HB := Lib.hid (fun W => begins_any s oneHead 16 rfl (by decide) (by decide) (by omega) W)
  unfold oneHead at HB
  by_cases hb : beginsE s oneHead 16 = 0
  case neg =>
    rw [readRep_b s n hn hb]
    unfold repV Rep.zero
    dsimp only
    obtain ⟨e, he⟩ : ∃ e, beginsE s oneHead 16 = e := ⟨_, rfl⟩
    have he2 : beginsE s [103, 68, 102, 152] 16 = e := he
    rw [he2] at HB
    rw [he] at hb ⊢
    have he3 : (e != 0) = true := by simpa using hb
    have n1 : 0 ≤ n := by omega
    have n2 : n ≤ 4096 := by omega
    clear he he2 hb hn
    go_enter Try.func34, Try.ntmps34
    go_wp2_with fail
    refine (HB.out _).mono ?_
    rintro e' w1 ⟨rfl, hb1⟩
    have x1 := (Blk.new w 79 #[.int .u32 0, .int .u64 0, .string ⟨#[]⟩]).below hb1 (by simp)
    have b1 := below_next ((Below.refl _ w).alloc (Nat.le_refl _) (.cells #[.int .u32 0, .int .u64 0, .string ⟨#[]⟩] 79)) hb1
    clear hb1
    have c0 := x1.cell 0
    have c1 := x1.cell 1
    have c2 := x1.cell 2
    have f0 := x1.frozen 0
    have f1 := x1.frozen 1
    have f2 := x1.frozen 2
    simp only [List.getElem?_toArray, List.getElem?_cons_zero, List.getElem?_cons_succ] at c0 c1 c2
    go_wp2
    refine bodyPost_ret (v := .tuple #[.agg #[.int .u32 0, .int .u64 0, .string ⟨#[]⟩], .string ⟨#[]⟩, .int .i64 e]) (by simp [results, Try.results34, go_sem, c0, c1, c2]) rfl ⟨rfl, ?_⟩
    (repeat' (first | (with_reducible assumption) | (with_reducible exact Below.refl _ _) | (with_reducible refine below_drewN ?_ _) | (with_reducible refine Below.drew ?_) | (with_reducible refine Below.setCell ?_ ?_ _) | (with_reducible refine Below.alloc ?_ ?_ _) | (with_reducible refine below_putObj ?_ ?_ _) | (with_reducible exact Nat.le_refl _) | omega | (simp; done) | (simp; omega)))
  obtain ⟨hl, _⟩ := begins_len hb
  have hb' : beginsE s [103, 68, 102, 152] 16 = 0 := hb
  rw [hb'] at HB
  have H4 := Lib.hid (fun W => at_any s 4 4 (by decide) (by decide) (by omega) (by omega) W)
  have H8 := Lib.hid (fun W => at_any s 8 8 (by decide) (by decide) (by omega) (by omega) W)
  have l4 := rnum_lt s 4 4
  have mixed : Try.prog.follows .mixedOrders = true := by kernel_rfl
  have n1 : 0 ≤ n := by omega
  have n2 : n ≤ 4096 := by omega
  obtain ⟨m, rfl⟩ := Int.eq_ofNat_of_zero_le n1
  have hl2 : (16 : Int) ≤ (s.length : Int) := by omega
  by_cases h4 : rnum s 4 4 = 0
  case neg =>
    rw [readRep_c s m hn hb h4]
    obtain ⟨e, he⟩ : ∃ e, rnum s 4 4 = e := ⟨_, rfl⟩
    obtain ⟨c, hc⟩ : ∃ c, rnum s 8 8 = c := ⟨_, rfl⟩
    rw [he] at H4 l4 h4 ⊢
    rw [hc] at H8 ⊢
    have hw1 : IntKind.u32.wrap (e : Int) = (e : Int) := wrap32u (by omega)
    have h5 : ((e : Int) != 0) = true := by simp; omega
    clear he hc hb hb' hn
    go_enter Try.func34, Try.ntmps34
    go_wp2_with fail
    refine (HB.out _).mono ?_
    rintro e' w1 ⟨rfl, hb1⟩
    have x1 := (Blk.new w 79 #[.int .u32 0, .int .u64 0, .string ⟨#[]⟩]).below hb1 (by simp)
    have b1 := below_next ((Below.refl _ w).alloc (Nat.le_refl _) (.cells #[.int .u32 0, .int .u64 0, .string ⟨#[]⟩] 79)) hb1
    clear hb1
    go_wp2_with fail
    refine (H4.out _).mono ?_
    rintro e' w2 ⟨rfl, hb2⟩
    have x2 := x1.below hb2 x1.lt
    have b2 := below_next b1 hb2
    clear hb2 x1 b1
    go_wp2_with fail
    refine (H8.out _).mono ?_
    rintro e' w3 ⟨rfl, hb3⟩
    have x3 := x2.below hb3 x2.lt
    have b3 := below_next b2 hb3
    have s3 := b3.size
    have g0 := fun o i => old_cell (w := w3) (g := w.heap.size) x3.lt o i
    have g1 := fun o i => old_frozen (w := w3) (g := w.heap.size) x3.lt o i
    clear hb3 x2 b2
    have c0 := x3.cell 0
    have c1 := x3.cell 1
    have c2 := x3.cell 2
    have f0 := x3.frozen 0
    have f1 := x3.frozen 1
    have f2 := x3.frozen 2
    simp only [List.getElem?_toArray, List.getElem?_cons_zero, List.getElem?_cons_succ] at c0 c1 c2
    clear x3
    go_wp2
    go_region
    go_wp2
    refine bodyPost_ret (v := .tuple #[.agg #[.int .u32 e, .int .u64 c, .string ⟨#[]⟩], .string ⟨(s.drop 16).toArray⟩, .int .i64 0]) (by simp [results, Try.results34, go_sem, c0, c1, c2, g0]; rfl) rfl ⟨rfl, ?_⟩
    (repeat' (first | (with_reducible assumption) | (with_reducible exact Below.refl _ _) | (with_reducible refine below_drewN ?_ _) | (with_reducible refine Below.drew ?_) | (with_reducible refine Below.setCell ?_ ?_ _) | (with_reducible refine Below.alloc ?_ ?_ _) | (with_reducible refine below_putObj ?_ ?_ _) | (with_reducible exact Nat.le_refl _) | omega | (simp; done) | (simp; omega)))
  by_cases h6 : s.length - 16 < m
  · rw [readRep_d s m hn hb h4 (by simpa using h6)]
    obtain ⟨c, hc⟩ : ∃ c, rnum s 8 8 = c := ⟨_, rfl⟩
    rw [h4] at H4
    rw [hc] at H8
    have h7 : ((s.length - 16 : Nat) : Int) < (m : Int) := by omega
    clear hc hb hb' hn h4 l4
    go_enter Try.func34, Try.ntmps34
    go_wp2_with fail
    refine (HB.out _).mono ?_
    rintro e' w1 ⟨rfl, hb1⟩
    have x1 := (Blk.new w 79 #[.int .u32 0, .int .u64 0, .string ⟨#[]⟩]).below hb1 (by simp)
    have b1 := below_next ((Below.refl _ w).alloc (Nat.le_refl _) (.cells #[.int .u32 0, .int .u64 0, .string ⟨#[]⟩] 79)) hb1
    clear hb1
    go_wp2_with fail
    refine (H4.out _).mono ?_
    rintro e' w2 ⟨rfl, hb2⟩
    have x2 := x1.below hb2 x1.lt
    have b2 := below_next b1 hb2
    clear hb2 x1 b1
    go_wp2_with fail
    refine (H8.out _).mono ?_
    rintro e' w3 ⟨rfl, hb3⟩
    have x3 := x2.below hb3 x2.lt
    have b3 := below_next b2 hb3
    have s3 := b3.size
    have g0 := fun o i => old_cell (w := w3) (g := w.heap.size) x3.lt o i
    have g1 := fun o i => old_frozen (w := w3) (g := w.heap.size) x3.lt o i
    clear hb3 x2 b2
    have c0 := x3.cell 0
    have c1 := x3.cell 1
    have c2 := x3.cell 2
    have f0 := x3.frozen 0
    have f1 := x3.frozen 1
    have f2 := x3.frozen 2
    simp only [List.getElem?_toArray, List.getElem?_cons_zero, List.getElem?_cons_succ] at c0 c1 c2
    clear x3
    go_wp2
    refine bodyPost_ret (v := .tuple #[.agg #[.int .u32 0, .int .u64 0, .string ⟨#[]⟩], .string ⟨#[]⟩, .int .i64 22]) (by simp [results, Try.results34, go_sem, c0, c1, c2, g0]) rfl ⟨rfl, ?_⟩
    (repeat' (first | (with_reducible assumption) | (with_reducible exact Below.refl _ _) | (with_reducible refine below_drewN ?_ _) | (with_reducible refine Below.drew ?_) | (with_reducible refine Below.setCell ?_ ?_ _) | (with_reducible refine Below.alloc ?_ ?_ _) | (with_reducible refine below_putObj ?_ ?_ _) | (with_reducible exact Nat.le_refl _) | omega | (simp; done) | (simp; omega)))
  · rw [readRep_e s m hn hb h4 (by simpa using h6)]
    simp only [Int.toNat_natCast]
    obtain ⟨c, hc⟩ : ∃ c, rnum s 8 8 = c := ⟨_, rfl⟩
    rw [h4] at H4
    rw [hc] at H8 ⊢
    have h7 : ¬ ((s.length - 16 : Nat) : Int) < (m : Int) := by omega
    have h8 : (m : Int) ≤ ((s.length - 16 : Nat) : Int) := by omega
    clear hc hb hb' hn h4 l4
    go_enter Try.func34, Try.ntmps34
    go_wp2_with fail
    refine (HB.out _).mono ?_
    rintro e' w1 ⟨rfl, hb1⟩
    have x1 := (Blk.new w 79 #[.int .u32 0, .int .u64 0, .string ⟨#[]⟩]).below hb1 (by simp)
    have b1 := below_next ((Below.refl _ w).alloc (Nat.le_refl _) (.cells #[.int .u32 0, .int .u64 0, .string ⟨#[]⟩] 79)) hb1
    clear hb1
    go_wp2_with fail
    refine (H4.out _).mono ?_
    rintro e' w2 ⟨rfl, hb2⟩
    have x2 := x1.below hb2 x1.lt
    have b2 := below_next b1 hb2
    clear hb2 x1 b1
    go_wp2_with fail
    refine (H8.out _).mono ?_
    rintro e' w3 ⟨rfl, hb3⟩
    have x3 := x2.below hb3 x2.lt
    have b3 := below_next b2 hb3
    have s3 := b3.size
    have g0 := fun o i => old_cell (w := w3) (g := w.heap.size) x3.lt o i
    have g1 := fun o i => old_frozen (w := w3) (g := w.heap.size) x3.lt o i
    clear hb3 x2 b2
    have c0 := x3.cell 0
    have c1 := x3.cell 1
    have c2 := x3.cell 2
    have f0 := x3.frozen 0
    have f1 := x3.frozen 1
    have f2 := x3.frozen 2
    simp only [List.getElem?_toArray, List.getElem?_cons_zero, List.getElem?_cons_succ] at c0 c1 c2
    clear x3
    go_wp2
    go_region
    go_wp2
    refine bodyPost_ret (v := .tuple #[.agg #[.int .u32 0, .int .u64 c, .string ⟨((s.drop 16).take m).toArray⟩], .string ⟨((s.drop 16).drop m).toArray⟩, .int .i64 0]) (by simp [results, Try.results34, go_sem, c0, c1, c2, g0]) rfl ⟨rfl, ?_⟩
    (repeat' (first | (with_reducible assumption) | (with_reducible exact Below.refl _ _) | (with_reducible refine below_drewN ?_ _) | (with_reducible refine Below.drew ?_) | (with_reducible refine Below.setCell ?_ ?_ _) | (with_reducible refine Below.alloc ?_ ?_ _) | (with_reducible refine below_putObj ?_ ?_ _) | (with_reducible exact Nat.le_refl _) | omega | (simp; done) | (simp; omega)))

end Go.Proofs.Ytfcojhpnpfodeaa
