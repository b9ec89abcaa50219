/- req: the walks. · req.Write. -/
import Derived.Test.YtfcojhpnpfodeaaReqSpec
import Derived.Test.YtfcojhpnpfodeaaPut
import Derived.Test.YtfcojhpnpfodeaaTake
import Derived.Test.YtfcojhpnpfodeaaBuilder
namespace Go.Proofs.Ytfcojhpnpfodeaa
open Go.RowKit

set_option maxHeartbeats 400000 in
theorem fit_any (q : Req) (hq : q.len < 4294967296) (w : World) : Calls Try.prog 27 #[reqV q] w (Gives (.bool q.fit) w) := by
  obtain ⟨fl, kd, ck, fr, ln, d⟩ := q
  unfold reqV
  dsimp only at hq ⊢
  go_enter Try.func27, Try.ntmps27
  go_wp2
  all_goals go_ret
  all_goals (refine gives_bool ?_ ((Below.refl _ _).alloc (Nat.le_refl _) _); simp_all [Req.fit]; try (first | omega | (intro _; omega) | (rw [Bool.eq_iff_iff]; simp; omega)))

abbrev reqZero : Array Value := #[.int .i64 0, .int .i64 0, .int .u64 0, .int .u64 0, .int .u32 0, .string ⟨#[]⟩]

end Go.Proofs.Ytfcojhpnpfodeaa

namespace Go.Proofs.Ytfcojhpnpfodeaa
open Go.RowKit

set_option maxRecDepth 100000 in
set_option maxHeartbeats 400000 in
theorem write_unfit (q : Req) (hq : q.len < 4294967296) (hf : q.fit = false) (w : World) :
    Calls Try.prog 30 #[reqV q] w (Gives (.tuple #[.string ⟨#[]⟩, .int .i64 25]) w) := by
  have hfit := fit_any q hq
  rw [hf] at hfit
  have H := Lib.hid hfit
  clear hfit hf
  obtain ⟨fl, kd, ck, fr, ln, d⟩ := q
  unfold reqV at H ⊢
  dsimp only at hq H ⊢
  go_enter Try.func30, Try.ntmps30
  go_wp2_with fail
  refine (H.out _).mono ?_
  rintro e w1 ⟨rfl, hb1⟩
  go_wp2
  go_ret2
  exact ⟨rfl, ((Below.refl _ w).alloc (Nat.le_refl _) _).trans (hb1.mono (by simp))⟩

/-- The numbers of a request, and how many bytes each has. -/
def numsOf (fl kd ck fr ln : Nat) (k : Nat) : Nat × Nat := [(fl, 2), (kd, 2), (ck, 8), (fr, 8), (ln, 4)].getD k (0, 1)
def upTo (fl kd ck fr ln : Nat) (k : Nat) : List UInt8 := reqHead ++ (List.range k).flatMap fun j => be (numsOf fl kd ck fr ln j).2 (numsOf fl kd ck fr ln j).1
theorem upTo_succ (fl kd ck fr ln k : Nat) : upTo fl kd ck fr ln (k + 1) = upTo fl kd ck fr ln k ++ be (numsOf fl kd ck fr ln k).2 (numsOf fl kd ck fr ln k).1 := by
  simp [upTo, List.range_succ]
def numRow (fl kd ck fr ln : Nat) : Array Value := #[.int .u64 fl, .int .i64 2, .int .u64 kd, .int .i64 2, .int .u64 ck, .int .i64 8, .int .u64 fr, .int .i64 8, .int .u64 ln, .int .i64 4]
theorem numRow_at (fl kd ck fr ln k : Nat) (hk : k < 5) : (numRow fl kd ck fr ln)[k * 2]? = some (.int .u64 (numsOf fl kd ck fr ln k).1) ∧ (numRow fl kd ck fr ln)[k * 2 + 1]? = some (.int .i64 (numsOf fl kd ck fr ln k).2) := by
  match k, hk with
  | 0, _ => exact ⟨rfl, rfl⟩
  | 1, _ => exact ⟨rfl, rfl⟩
  | 2, _ => exact ⟨rfl, rfl⟩
  | 3, _ => exact ⟨rfl, rfl⟩
  | 4, _ => exact ⟨rfl, rfl⟩
theorem nums_size (fl kd ck fr ln k : Nat) (hk : k < 5) : 1 ≤ (numsOf fl kd ck fr ln k).2 ∧ (numsOf fl kd ck fr ln k).2 ≤ 8 := by
  match k, hk with
  | 0, _ => simp [numsOf]
  | 1, _ => simp [numsOf]
  | 2, _ => simp [numsOf]
  | 3, _ => simp [numsOf]
  | 4, _ => simp [numsOf]
theorem upTo_length (fl kd ck fr ln k : Nat) (hk : k ≤ 5) : (upTo fl kd ck fr ln k).length ≤ 28 := by
  match k, hk with
  | 0, _ => simp [upTo, reqHead]
  | 1, _ => simp [upTo, reqHead, be_length, numsOf, List.range_succ]
  | 2, _ => simp [upTo, reqHead, be_length, numsOf, List.range_succ]
  | 3, _ => simp [upTo, reqHead, be_length, numsOf, List.range_succ]
  | 4, _ => simp [upTo, reqHead, be_length, numsOf, List.range_succ]
  | 5, _ => simp [upTo, reqHead, be_length, numsOf, List.range_succ]

set_option maxRecDepth 100000 in
set_option maxHeartbeats 1000000 in
theorem write_fit (fl kd ck fr ln : Nat) (d : List UInt8) (hln : ln < 4294967296) (hfl : fl < 65536) (hkd : kd < 65536) (hd : d.length ≤ 4096) (hf : (Req.mk fl kd ck fr ln d).fit = true) (w : World) :
    Calls Try.prog 30 #[reqV ⟨fl, kd, ck, fr, ln, d⟩] w (Gives (.tuple #[.string ⟨(upTo fl kd ck fr ln 5 ++ d).toArray⟩, .int .i64 0]) w) := by
  have hfit := fit_any ⟨fl, kd, ck, fr, ln, d⟩ hln
  rw [hf] at hfit
  have H := Lib.hid hfit
  clear hfit hf
  unfold reqV at H ⊢
  dsimp only at H ⊢
  go_enter Try.func30, Try.ntmps30
  go_wp2_with fail
  refine (H.out _).mono ?_
  rintro e w1 ⟨rfl, hb1⟩
  have q1 := (Blk.new w 37 #[.int .i64 fl, .int .i64 kd, .int .u64 ck, .int .u64 fr, .int .u32 ln, .string ⟨d.toArray⟩]).below hb1 (by simp)
  have b1 := ((Below.refl _ w).alloc (Nat.le_refl _) (.cells #[.int .i64 fl, .int .i64 kd, .int .u64 ck, .int .u64 fr, .int .u32 ln, .string ⟨d.toArray⟩] 37)).trans (hb1.mono (by simp))
  clear hb1 H
  go_wp2_with fail
  refine (writeString_any _ w.heap.size w1.heap.size 0 99 #[.pointer none, .slice none 0 0] (.pointer none) (.slice none 0 0) [] [37, 96, 149, 19] (Blk.new _ _ _) (by simp) rfl rfl (Bld.fresh _ _ _ _) (by kernel_rfl) (by decide) (by simp) (by have := b1.size; simp; omega)).mono ?_
  rintro e w2 ⟨rfl, v2, h2, hA2, hT2⟩
  have q2 := (Bld.fresh _ w.heap.size w1.heap.size 0).keeps (q1.alloc _) hT2 (by have := q1.lt; omega) (by decide)
  have b2 := hT2.below (b1.alloc b1.size _) (by have := b1.size; simp; omega) b1.size (by simp [Value.ownBlock])
  have hs2 := h2.lt
  have z0 := (q2.cell 0)
  have z1 := (q2.cell 1)
  have z2 := (q2.cell 2)
  have z3 := (q2.cell 3)
  have z4 := (q2.cell 4)
  simp only [List.getElem?_toArray, List.getElem?_cons_zero, List.getElem?_cons_succ] at z0 z1 z2 z3 z4
  go_wp2
  have hH : w.heap.size < w1.heap.size := q1.lt
  have hB2 := b2.size
  have hlt2 : w1.heap.size < w2.heap.size := hs2
  clear z0 z1 z2 z3 z4
  go_loopw [31] (fun i wr => ∃ (k : Nat) (v : Value), k ≤ 5 ∧ i = .int .i64 k ∧ Blk wr w.heap.size 37 #[.int .i64 fl, .int .i64 kd, .int .u64 ck, .int .u64 fr, .int .u32 ln, .string ⟨d.toArray⟩] ∧
      Blk wr w1.heap.size 99 #[.pointer (some ⟨w1.heap.size, 0, none⟩), v] ∧ Bld wr w.heap.size w1.heap.size 0 (.pointer (some ⟨w1.heap.size, 0, none⟩)) v (upTo fl kd ck fr ln k) ∧
      Blk wr w2.heap.size 107 (numRow fl kd ck fr ln) ∧ Below w.heap.size w wr) (fun i _ => 5 - (intOf i).toNat)
  case atStart =>
    exact ⟨0, v2, by omega, rfl, q2.alloc _, h2.alloc _, by simpa [upTo, reqHead] using hA2.alloc _, Blk.new _ _ _, b2.alloc (by omega) _⟩
  case round =>
    obtain ⟨k, v, hk, rfl, r1, r2, r3, r4, r5⟩ := hrel
    clear q1 b1 h2 hA2 hT2 q2 b2
    by_cases hlt : k < 5
    · have c0 := (r4.cell (k * 2)).trans (numRow_at fl kd ck fr ln k hlt).1
      have c1 := (r4.cell (k * 2 + 1)).trans (numRow_at fl kd ck fr ln k hlt).2
      have hz := nums_size fl kd ck fr ln k hlt
      have hg := r4.lt
      go_wp2_with fail
      refine (put_any _ _ hz.1 hz.2 _).mono ?_
      rintro e w3 ⟨rfl, hb3⟩
      clear c0 c1
      go_wp2_with fail
      have h1 := (r1.alloc (.cells #[.int .u64 ((numsOf fl kd ck fr ln k).1 : Nat), .int .i64 ((numsOf fl kd ck fr ln k).2 : Nat)] 107)).below hb3 (by have := r1.lt; simp; omega)
      have h2 := (r2.alloc (.cells #[.int .u64 ((numsOf fl kd ck fr ln k).1 : Nat), .int .i64 ((numsOf fl kd ck fr ln k).2 : Nat)] 107)).below hb3 (by have := r2.lt; simp; omega)
      have h4 := (r4.alloc (.cells #[.int .u64 ((numsOf fl kd ck fr ln k).1 : Nat), .int .i64 ((numsOf fl kd ck fr ln k).2 : Nat)] 107)).below hb3 (by have := r4.lt; simp; omega)
      have h3 := (r3.alloc (.cells #[.int .u64 ((numsOf fl kd ck fr ln k).1 : Nat), .int .i64 ((numsOf fl kd ck fr ln k).2 : Nat)] 107)).below hb3
      have h5 := (r5.alloc (by have := r5.size; omega) (.cells #[.int .u64 ((numsOf fl kd ck fr ln k).1 : Nat), .int .i64 ((numsOf fl kd ck fr ln k).2 : Nat)] 107)).trans (hb3.mono (by have := r5.size; simp; omega))
      have hul := upTo_length fl kd ck fr ln k hk
      clear r1 r2 r3 r4 r5 hb3
      refine (writeString_any w3 w.heap.size w1.heap.size 0 99 _ _ v _ (be (numsOf fl kd ck fr ln k).2 (numsOf fl kd ck fr ln k).1) h2 (by simp) rfl rfl h3 (by kernel_rfl) (by decide) (by rw [be_length]; omega) h5.size).mono ?_
      rintro e w4 ⟨rfl, v4, g2, g3, hT⟩
      have g1 := h3.keeps h1 hT (by omega) (by decide)
      have g4 := h3.keeps h4 hT (by omega) (by decide)
      have g5 := hT.below h5 h5.size (by omega) h3.row
      clear h1 h2 h3 h4 h5 hT
      rw [← upTo_succ] at g3
      go_wp2
      go_roundw
      case rel => exact ⟨k + 1, v4, by omega, by go_num, g1, g2, g3, g4, g5⟩
      case measure => simp [intOf]; omega
    · obtain rfl : k = 5 := by omega
      have z5 := r1.cell 5
      simp only [List.getElem?_toArray, List.getElem?_cons_zero, List.getElem?_cons_succ] at z5
      have hul := upTo_length fl kd ck fr ln 5 hk
      have mixed : Try.prog.follows .mixedOrders = true := by kernel_rfl
      clear r4
      go_wp2
      go_region_with (go_at_call 48; refine (string_any wr.drew w.heap.size w1.heap.size 0 99 _ _ v _ r2.drew rfl r3.drew).mono ?_; rintro e w5 ⟨rfl, hg5⟩; have y5 := ((r3.drew.keeps_row r1.drew hg5 (by decide)).cell 5); simp only [List.getElem?_toArray, List.getElem?_cons_zero, List.getElem?_cons_succ] at y5)
      all_goals (go_wp2; go_ret2; exact ⟨rfl, r5.drew.grown hg5 r5.size r3.row⟩)

theorem upTo_all (fl kd ck fr ln : Nat) (d : List UInt8) : upTo fl kd ck fr ln 5 ++ d = reqBytes ⟨fl, kd, ck, fr, ln, d⟩ := by
  simp [upTo, reqBytes, numsOf, List.range_succ]

theorem write_any (q : Req) (hq : q.wf) (w : World) :
    Calls Try.prog 30 #[reqV q] w (Gives (.tuple #[.string ⟨(writeReq q).1.toArray⟩, .int .i64 (writeReq q).2]) w) := by
  cases hf : q.fit with
  | false =>
    have e : writeReq q = ([], 25) := by unfold writeReq; rw [hf]; rfl
    rw [e]
    exact write_unfit q hq.len hf w
  | true =>
    have e : writeReq q = (reqBytes q, 0) := by unfold writeReq; rw [hf]; rfl
    rw [e]
    obtain ⟨h1, h2, h3, h4, h5, _⟩ := fit_bounds q hf
    obtain ⟨fl, kd, ck, fr, ln, d⟩ := q
    dsimp only at h1 h2 h3 h4 h5
    obtain ⟨a, rfl⟩ := Int.eq_ofNat_of_zero_le h1
    obtain ⟨b, rfl⟩ := Int.eq_ofNat_of_zero_le h3
    have h := write_fit a b ck fr ln d hq.len (by omega) (by omega) h5 hf w
    rw [upTo_all] at h
    exact h

end Go.Proofs.Ytfcojhpnpfodeaa
