/- The document's Read: a chunk is read. -/
import Derived.Test.YtcmocangmfengaaRepReadC
namespace Go.Proofs.Ytcmocangmfengaa
open Go.RowKit

set_option maxRecDepth 100000 in
set_option maxHeartbeats 2000000 in
theorem rreadC_any (s : List UInt8) (hs : s.length ≤ 100000) (w : World) :
    Calls Try.prog 25 #[.string ⟨s.toArray⟩] w (Gives (.tuple #[chunkV (readChunk s).1, .string ⟨(readChunk s).2.1.toArray⟩, .int .i64 (readChunk s).2.2]) w) := by
  rcases begins_ways s pieceHead 20 with ⟨h1, hb⟩ | ⟨h1, hl, hb⟩ | ⟨h1, hl, hb⟩
  · rw [readChunk_b s (by rw [hb]; decide), hb]
    have HB := Lib.hid (fun W => headed_no s pieceHead (by omega) rfl h1 W)
    unfold pieceHead at HB
    unfold chunkV Chunk.zero
    dsimp only
    clear h1 hb
    go_enter Try.func25, Try.ntmps25
    go_wp2_with fail
    refine (HB.out _).mono ?_
    rintro e' w1 ⟨rfl, hb1⟩
    have x1 := (Blk.new w 43 #[.bool false, .int .i64 0, .int .u64 0, .string ⟨#[]⟩]).below hb1 (by simp)
    have b1 := below_next ((Below.refl _ w).alloc (Nat.le_refl _) (.cells #[.bool false, .int .i64 0, .int .u64 0, .string ⟨#[]⟩] 43)) hb1
    clear hb1
    have c0 := x1.cell 0
    have c1 := x1.cell 1
    have c2 := x1.cell 2
    have c3 := x1.cell 3
    have f0 := x1.frozen 0
    have f1 := x1.frozen 1
    have f2 := x1.frozen 2
    have f3 := x1.frozen 3
    simp only [List.getElem?_toArray, List.getElem?_cons_zero, List.getElem?_cons_succ] at c0 c1 c2 c3
    clear x1
    go_wp2
    refine bodyPost_ret (v := .tuple #[.agg #[.bool false, .int .i64 0, .int .u64 0, .string ⟨#[]⟩], .string ⟨#[]⟩, .int .i64 14]) (by simp [results, Try.results25, go_sem, c0, c1, c2, c3]) rfl ⟨rfl, ?_⟩
    (repeat' (first | (with_reducible assumption) | (with_reducible exact Below.refl _ _) | (with_reducible refine below_drewN ?_ _) | (with_reducible refine Below.drew ?_) | (with_reducible refine Below.setCell ?_ ?_ _) | (with_reducible refine Below.alloc ?_ ?_ _) | (with_reducible refine below_putObj ?_ ?_ _) | (with_reducible exact Nat.le_refl _) | omega | (simp; done) | (simp; omega)))
  · rw [readChunk_b s (by rw [hb]; decide), hb]
    have HB := Lib.hid (fun W => headed_yes s pieceHead (by omega) rfl h1 W)
    unfold pieceHead at HB
    unfold chunkV Chunk.zero
    dsimp only
    clear h1 hb
    go_enter Try.func25, Try.ntmps25
    go_wp2_with fail
    refine (HB.out _).mono ?_
    rintro e' w1 ⟨rfl, hb1⟩
    have x1 := (Blk.new w 43 #[.bool false, .int .i64 0, .int .u64 0, .string ⟨#[]⟩]).below hb1 (by simp)
    have b1 := below_next ((Below.refl _ w).alloc (Nat.le_refl _) (.cells #[.bool false, .int .i64 0, .int .u64 0, .string ⟨#[]⟩] 43)) hb1
    clear hb1
    have c0 := x1.cell 0
    have c1 := x1.cell 1
    have c2 := x1.cell 2
    have c3 := x1.cell 3
    have f0 := x1.frozen 0
    have f1 := x1.frozen 1
    have f2 := x1.frozen 2
    have f3 := x1.frozen 3
    simp only [List.getElem?_toArray, List.getElem?_cons_zero, List.getElem?_cons_succ] at c0 c1 c2 c3
    clear x1
    go_wp2
    refine bodyPost_ret (v := .tuple #[.agg #[.bool false, .int .i64 0, .int .u64 0, .string ⟨#[]⟩], .string ⟨#[]⟩, .int .i64 22]) (by simp [results, Try.results25, go_sem, c0, c1, c2, c3]) rfl ⟨rfl, ?_⟩
    (repeat' (first | (with_reducible assumption) | (with_reducible exact Below.refl _ _) | (with_reducible refine below_drewN ?_ _) | (with_reducible refine Below.drew ?_) | (with_reducible refine Below.setCell ?_ ?_ _) | (with_reducible refine Below.alloc ?_ ?_ _) | (with_reducible refine below_putObj ?_ ?_ _) | (with_reducible exact Nat.le_refl _) | omega | (simp; done) | (simp; omega)))
  have HB := Lib.hid (fun W => headed_yes s pieceHead (by omega) rfl h1 W)
  unfold pieceHead at HB
  have HF : Hid (∀ W, Calls Try.prog 30 #[.string ⟨(s.drop 4).toArray⟩, .int .i64 2] W (Gives (.tuple #[.int .u64 (rnum s 4 2 : Nat), .string ⟨(s.drop 6).toArray⟩, .int .i64 0]) W)) :=
    Lib.hid (fun W => by have h := rtake_any (s.drop 4) 2 (by decide) (by decide) (by rw [List.length_drop]; omega) (by rw [List.length_drop]; omega) W; rwa [List.drop_drop] at h)
  have HK : Hid (∀ W, Calls Try.prog 30 #[.string ⟨(s.drop 6).toArray⟩, .int .i64 2] W (Gives (.tuple #[.int .u64 (rnum s 6 2 : Nat), .string ⟨(s.drop 8).toArray⟩, .int .i64 0]) W)) :=
    Lib.hid (fun W => by have h := rtake_any (s.drop 6) 2 (by decide) (by decide) (by rw [List.length_drop]; omega) (by rw [List.length_drop]; omega) W; rwa [List.drop_drop] at h)
  have HC : Hid (∀ W, Calls Try.prog 30 #[.string ⟨(s.drop 8).toArray⟩, .int .i64 8] W (Gives (.tuple #[.int .u64 (rnum s 8 8 : Nat), .string ⟨(s.drop 16).toArray⟩, .int .i64 0]) W)) :=
    Lib.hid (fun W => by have h := rtake_any (s.drop 8) 8 (by decide) (by decide) (by rw [List.length_drop]; omega) (by rw [List.length_drop]; omega) W; rwa [List.drop_drop] at h)
  have HN : Hid (∀ W, Calls Try.prog 30 #[.string ⟨(s.drop 16).toArray⟩, .int .i64 4] W (Gives (.tuple #[.int .u64 (rnum s 16 4 : Nat), .string ⟨(s.drop 20).toArray⟩, .int .i64 0]) W)) :=
    Lib.hid (fun W => by have h := rtake_any (s.drop 16) 4 (by decide) (by decide) (by rw [List.length_drop]; omega) (by rw [List.length_drop]; omega) W; rwa [List.drop_drop] at h)
  have lk := rnum_lt s 6 2
  have ln := rnum_lt s 16 4
  have mixed : Try.prog.follows .mixedOrders = true := by kernel_rfl
  have hl2 : (20 : Int) ≤ (s.length : Int) := by omega
  obtain ⟨t, ht⟩ : ∃ t, s.drop 20 = t := ⟨_, rfl⟩
  have htl : t.length = s.length - 20 := by rw [← ht, List.length_drop]
  have hf := readChunk_f s hb
  have hm := readChunk_m s hb
  have hle := readChunk_l s hb
  have ho := readChunk_o s hb
  obtain ⟨f, hf'⟩ : ∃ f, rnum s 4 2 = f := ⟨_, rfl⟩
  obtain ⟨k, hk'⟩ : ∃ k, rnum s 6 2 = k := ⟨_, rfl⟩
  obtain ⟨c, hc'⟩ : ∃ c, rnum s 8 8 = c := ⟨_, rfl⟩
  obtain ⟨n, hn'⟩ : ∃ n, rnum s 16 4 = n := ⟨_, rfl⟩
  rw [hf'] at HF hf hm hle ho
  rw [hk'] at HK lk ho
  rw [hc'] at HC ho
  rw [hn', ht] at HN
  rw [hn'] at ln hm hle ho
  rw [ht] at ho
  have hwk : IntKind.i64.wrap (k : Int) = (k : Int) := by rw [IntKind.wrap_i64]; omega
  have hwt : IntKind.u64.wrap (t.length : Int) = (t.length : Int) := by rw [IntKind.wrap_u64]; omega
  by_cases h3 : 1 < f
  · rw [hf h3]
    unfold chunkV Chunk.zero
    dsimp only
    have k3 : (1 : Int) < (f : Int) := by omega
    clear hb hf hm hle ho hf' hk' hc' hn' ht htl h1
    go_enter Try.func25, Try.ntmps25
    go_wp2_with fail
    refine (HB.out _).mono ?_
    rintro e' w1 ⟨rfl, hb1⟩
    have x1 := (Blk.new w 43 #[.bool false, .int .i64 0, .int .u64 0, .string ⟨#[]⟩]).below hb1 (by simp)
    have b1 := below_next ((Below.refl _ w).alloc (Nat.le_refl _) (.cells #[.bool false, .int .i64 0, .int .u64 0, .string ⟨#[]⟩] 43)) hb1
    clear hb1
    go_wp2_with fail
    refine (HF.out _).mono ?_
    rintro e' w2 ⟨rfl, hb2⟩
    have x2 := x1.below hb2 x1.lt
    have b2 := below_next b1 hb2
    clear hb2 x1 b1
    go_wp2_with fail
    refine (HK.out _).mono ?_
    rintro e' w3 ⟨rfl, hb3⟩
    have x3 := x2.below hb3 x2.lt
    have b3 := below_next b2 hb3
    clear hb3 x2 b2
    go_wp2_with fail
    refine (HC.out _).mono ?_
    rintro e' w4 ⟨rfl, hb4⟩
    have x4 := x3.below hb4 x3.lt
    have b4 := below_next b3 hb4
    clear hb4 x3 b3
    go_wp2_with fail
    refine (HN.out _).mono ?_
    rintro e' w5 ⟨rfl, hb5⟩
    have x5 := x4.below hb5 x4.lt
    have b5 := below_next b4 hb5
    clear hb5 x4 b4
    have c0 := x5.cell 0
    have c1 := x5.cell 1
    have c2 := x5.cell 2
    have c3 := x5.cell 3
    have f0 := x5.frozen 0
    have f1 := x5.frozen 1
    have f2 := x5.frozen 2
    have f3 := x5.frozen 3
    simp only [List.getElem?_toArray, List.getElem?_cons_zero, List.getElem?_cons_succ] at c0 c1 c2 c3
    clear x5
    go_wp2
    refine bodyPost_ret (v := .tuple #[.agg #[.bool false, .int .i64 0, .int .u64 0, .string ⟨#[]⟩], .string ⟨#[]⟩, .int .i64 14]) (by simp [results, Try.results25, go_sem, c0, c1, c2, c3]) rfl ⟨rfl, ?_⟩
    (repeat' (first | (with_reducible assumption) | (with_reducible exact Below.refl _ _) | (with_reducible refine below_drewN ?_ _) | (with_reducible refine Below.drew ?_) | (with_reducible refine Below.setCell ?_ ?_ _) | (with_reducible refine Below.alloc ?_ ?_ _) | (with_reducible refine below_putObj ?_ ?_ _) | (with_reducible exact Nat.le_refl _) | omega | (simp; done) | (simp; omega)))
  have k3 : ¬ (1 : Int) < (f : Int) := by omega
  by_cases h4 : 4128 < n
  · rw [hm h3 h4]
    unfold chunkV Chunk.zero
    dsimp only
    have k4 : (4128 : Int) < (n : Int) := by omega
    clear hb hf hm hle ho hf' hk' hc' hn' ht htl h1
    go_enter Try.func25, Try.ntmps25
    go_wp2_with fail
    refine (HB.out _).mono ?_
    rintro e' w1 ⟨rfl, hb1⟩
    have x1 := (Blk.new w 43 #[.bool false, .int .i64 0, .int .u64 0, .string ⟨#[]⟩]).below hb1 (by simp)
    have b1 := below_next ((Below.refl _ w).alloc (Nat.le_refl _) (.cells #[.bool false, .int .i64 0, .int .u64 0, .string ⟨#[]⟩] 43)) hb1
    clear hb1
    go_wp2_with fail
    refine (HF.out _).mono ?_
    rintro e' w2 ⟨rfl, hb2⟩
    have x2 := x1.below hb2 x1.lt
    have b2 := below_next b1 hb2
    clear hb2 x1 b1
    go_wp2_with fail
    refine (HK.out _).mono ?_
    rintro e' w3 ⟨rfl, hb3⟩
    have x3 := x2.below hb3 x2.lt
    have b3 := below_next b2 hb3
    clear hb3 x2 b2
    go_wp2_with fail
    refine (HC.out _).mono ?_
    rintro e' w4 ⟨rfl, hb4⟩
    have x4 := x3.below hb4 x3.lt
    have b4 := below_next b3 hb4
    clear hb4 x3 b3
    go_wp2_with fail
    refine (HN.out _).mono ?_
    rintro e' w5 ⟨rfl, hb5⟩
    have x5 := x4.below hb5 x4.lt
    have b5 := below_next b4 hb5
    clear hb5 x4 b4
    have c0 := x5.cell 0
    have c1 := x5.cell 1
    have c2 := x5.cell 2
    have c3 := x5.cell 3
    have f0 := x5.frozen 0
    have f1 := x5.frozen 1
    have f2 := x5.frozen 2
    have f3 := x5.frozen 3
    simp only [List.getElem?_toArray, List.getElem?_cons_zero, List.getElem?_cons_succ] at c0 c1 c2 c3
    clear x5
    go_wp2
    refine bodyPost_ret (v := .tuple #[.agg #[.bool false, .int .i64 0, .int .u64 0, .string ⟨#[]⟩], .string ⟨#[]⟩, .int .i64 11]) (by simp [results, Try.results25, go_sem, c0, c1, c2, c3]) rfl ⟨rfl, ?_⟩
    (repeat' (first | (with_reducible assumption) | (with_reducible exact Below.refl _ _) | (with_reducible refine below_drewN ?_ _) | (with_reducible refine Below.drew ?_) | (with_reducible refine Below.setCell ?_ ?_ _) | (with_reducible refine Below.alloc ?_ ?_ _) | (with_reducible refine below_putObj ?_ ?_ _) | (with_reducible exact Nat.le_refl _) | omega | (simp; done) | (simp; omega)))
  have k4 : ¬ (4128 : Int) < (n : Int) := by omega
  by_cases h5 : s.length - 20 < n
  · rw [hle h3 h4 h5]
    unfold chunkV Chunk.zero
    dsimp only
    have k5 : (t.length : Int) < (n : Int) := by omega
    clear hb hf hm hle ho hf' hk' hc' hn' ht htl h1
    go_enter Try.func25, Try.ntmps25
    go_wp2_with fail
    refine (HB.out _).mono ?_
    rintro e' w1 ⟨rfl, hb1⟩
    have x1 := (Blk.new w 43 #[.bool false, .int .i64 0, .int .u64 0, .string ⟨#[]⟩]).below hb1 (by simp)
    have b1 := below_next ((Below.refl _ w).alloc (Nat.le_refl _) (.cells #[.bool false, .int .i64 0, .int .u64 0, .string ⟨#[]⟩] 43)) hb1
    clear hb1
    go_wp2_with fail
    refine (HF.out _).mono ?_
    rintro e' w2 ⟨rfl, hb2⟩
    have x2 := x1.below hb2 x1.lt
    have b2 := below_next b1 hb2
    clear hb2 x1 b1
    go_wp2_with fail
    refine (HK.out _).mono ?_
    rintro e' w3 ⟨rfl, hb3⟩
    have x3 := x2.below hb3 x2.lt
    have b3 := below_next b2 hb3
    clear hb3 x2 b2
    go_wp2_with fail
    refine (HC.out _).mono ?_
    rintro e' w4 ⟨rfl, hb4⟩
    have x4 := x3.below hb4 x3.lt
    have b4 := below_next b3 hb4
    clear hb4 x3 b3
    go_wp2_with fail
    refine (HN.out _).mono ?_
    rintro e' w5 ⟨rfl, hb5⟩
    have x5 := x4.below hb5 x4.lt
    have b5 := below_next b4 hb5
    clear hb5 x4 b4
    have c0 := x5.cell 0
    have c1 := x5.cell 1
    have c2 := x5.cell 2
    have c3 := x5.cell 3
    have f0 := x5.frozen 0
    have f1 := x5.frozen 1
    have f2 := x5.frozen 2
    have f3 := x5.frozen 3
    simp only [List.getElem?_toArray, List.getElem?_cons_zero, List.getElem?_cons_succ] at c0 c1 c2 c3
    clear x5
    go_wp2
    refine bodyPost_ret (v := .tuple #[.agg #[.bool false, .int .i64 0, .int .u64 0, .string ⟨#[]⟩], .string ⟨#[]⟩, .int .i64 22]) (by simp [results, Try.results25, go_sem, c0, c1, c2, c3]) rfl ⟨rfl, ?_⟩
    (repeat' (first | (with_reducible assumption) | (with_reducible exact Below.refl _ _) | (with_reducible refine below_drewN ?_ _) | (with_reducible refine Below.drew ?_) | (with_reducible refine Below.setCell ?_ ?_ _) | (with_reducible refine Below.alloc ?_ ?_ _) | (with_reducible refine below_putObj ?_ ?_ _) | (with_reducible exact Nat.le_refl _) | omega | (simp; done) | (simp; omega)))
  · rw [ho h3 h4 h5]
    unfold chunkV
    dsimp only
    have k5 : ¬ (t.length : Int) < (n : Int) := by omega
    have k6 : (n : Int) ≤ (t.length : Int) := by omega
    have k7 : (0 : Int) ≤ (n : Int) := by omega
    have hd : decide (f = 1) = ((f : Int) == 1) := by rw [Bool.eq_iff_iff, decide_eq_true_iff]; simp; omega
    rw [hd]
    clear hd
    clear hb hf hm hle ho hf' hk' hc' hn' ht htl h1
    go_enter Try.func25, Try.ntmps25
    go_wp2_with fail
    refine (HB.out _).mono ?_
    rintro e' w1 ⟨rfl, hb1⟩
    have x1 := (Blk.new w 43 #[.bool false, .int .i64 0, .int .u64 0, .string ⟨#[]⟩]).below hb1 (by simp)
    have b1 := below_next ((Below.refl _ w).alloc (Nat.le_refl _) (.cells #[.bool false, .int .i64 0, .int .u64 0, .string ⟨#[]⟩] 43)) hb1
    clear hb1
    go_wp2_with fail
    refine (HF.out _).mono ?_
    rintro e' w2 ⟨rfl, hb2⟩
    have x2 := x1.below hb2 x1.lt
    have b2 := below_next b1 hb2
    clear hb2 x1 b1
    go_wp2_with fail
    refine (HK.out _).mono ?_
    rintro e' w3 ⟨rfl, hb3⟩
    have x3 := x2.below hb3 x2.lt
    have b3 := below_next b2 hb3
    clear hb3 x2 b2
    go_wp2_with fail
    refine (HC.out _).mono ?_
    rintro e' w4 ⟨rfl, hb4⟩
    have x4 := x3.below hb4 x3.lt
    have b4 := below_next b3 hb4
    clear hb4 x3 b3
    go_wp2_with fail
    refine (HN.out _).mono ?_
    rintro e' w5 ⟨rfl, hb5⟩
    have x5 := x4.below hb5 x4.lt
    have b5 := below_next b4 hb5
    clear hb5 x4 b4
    have c0 := x5.cell 0
    have c1 := x5.cell 1
    have c2 := x5.cell 2
    have c3 := x5.cell 3
    have f0 := x5.frozen 0
    have f1 := x5.frozen 1
    have f2 := x5.frozen 2
    have f3 := x5.frozen 3
    simp only [List.getElem?_toArray, List.getElem?_cons_zero, List.getElem?_cons_succ] at c0 c1 c2 c3
    clear x5
    go_wp2
    go_region
    go_wp2
    refine bodyPost_ret (v := .tuple #[.agg #[.bool ((f : Int) == 1), .int .i64 (k : Nat), .int .u64 (c : Nat), .string ⟨(t.take n).toArray⟩], .string ⟨(t.drop n).toArray⟩, .int .i64 0]) (by simp [results, Try.results25, go_sem, c0, c1, c2, c3]) rfl ⟨rfl, ?_⟩
    (repeat' (first | (with_reducible assumption) | (with_reducible exact Below.refl _ _) | (with_reducible refine below_drewN ?_ _) | (with_reducible refine Below.drew ?_) | (with_reducible refine Below.setCell ?_ ?_ _) | (with_reducible refine Below.alloc ?_ ?_ _) | (with_reducible refine below_putObj ?_ ?_ _) | (with_reducible exact Nat.le_refl _) | omega | (simp; done) | (simp; omega)))

end Go.Proofs.Ytcmocangmfengaa
