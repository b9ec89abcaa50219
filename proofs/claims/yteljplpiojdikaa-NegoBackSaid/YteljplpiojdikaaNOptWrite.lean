/- opt's writers: four, Begin, framed, Write, Answer, Greeting. -/
import Derived.Test.YteljplpiojdikaaOptSpec
import Derived.Test.YteljplpiojdikaaPut
import Derived.Test.YteljplpiojdikaaBuilder
namespace Go.Proofs.Yteljplpiojdikaa
open Go.RowKit

set_option maxRecDepth 100000 in
set_option maxHeartbeats 400000 in
theorem four_int (n : Int) (h0 : 0 ≤ n) (hn : n < 4294967296) (w : World) :
    Calls Try.prog 43 #[.int .i64 n] w (Gives (.string ⟨(be 4 n.toNat).toArray⟩) w) := by
  have H := Lib.hid (fun W => put_int n 4 h0 (by decide) (by decide) W)
  simp only [show (4 : Int).toNat = 4 from rfl] at H
  go_enter Try.func43, Try.ntmps43
  go_wp2_with fail
  refine (H.out _).mono ?_
  rintro e w1 ⟨rfl, hb1⟩
  go_wp2
  go_ret
  exact ⟨rfl, hb1⟩

set_option maxRecDepth 100000 in
set_option maxHeartbeats 400000 in
theorem four_u32 (n : Int) (h0 : 0 ≤ n) (hn : n < 4294967296) (w : World) :
    Calls Try.prog 76 #[.int .u32 n] w (Gives (.string ⟨(be 4 n.toNat).toArray⟩) w) := by
  have H := Lib.hid (fun W => put_int n 4 h0 (by decide) (by decide) W)
  simp only [show (4 : Int).toNat = 4 from rfl] at H
  go_enter Try.func76, Try.ntmps76
  go_wp2_with fail
  refine (H.out _).mono ?_
  rintro e w1 ⟨rfl, hb1⟩
  go_wp2
  go_ret
  exact ⟨rfl, hb1⟩

set_option maxRecDepth 100000 in
set_option maxHeartbeats 400000 in
theorem begin_any (s : List UInt8) (hs : s.length < 4294967296) (w : World) :
    Calls Try.prog 30 #[.string ⟨s.toArray⟩] w (Gives (.string ⟨(beginB s).toArray⟩) w) := by
  have H := Lib.hid (fun W => four_int (s.length : Int) (by omega) (by omega) W)
  simp only [Int.toNat_natCast] at H
  unfold beginB
  have hbl : (be 4 s.length).length = 4 := be_length _ _
  go_enter Try.func30, Try.ntmps30
  go_wp2_with fail
  refine (H.out _).mono ?_
  rintro e w1 ⟨rfl, hb1⟩
  go_wp2
  go_ret
  exact ⟨rfl, hb1⟩

/-- The cells of a row of numbers. -/
def u32Row (ns : List Nat) : Array Value := (ns.map fun n => Value.int .u32 (n : Nat)).toArray
theorem u32Row_at (ns : List Nat) (k : Nat) (hk : k < ns.length) : (u32Row ns)[k]? = some (.int .u32 (ns.getD k 0 : Nat)) := by
  simp [u32Row, hk]
def upFrame (head : List UInt8) (ns : List Nat) (k : Nat) : List UInt8 := head ++ (ns.take k).flatMap (be 4)
theorem upFrame_succ (head : List UInt8) (ns : List Nat) (k : Nat) (hk : k < ns.length) : upFrame head ns k ++ be 4 (ns.getD k 0) = upFrame head ns (k + 1) := by
  unfold upFrame
  rw [List.take_add_one, List.flatMap_append, List.getElem?_eq_getElem hk]
  simp [List.getD, hk]
theorem upFrame_length (head : List UInt8) (ns : List Nat) (k : Nat) : (upFrame head ns k).length ≤ head.length + 4 * ns.length := by
  unfold upFrame
  rw [List.length_append, List.length_flatMap]
  have h : ∀ l : List Nat, (l.map fun a => (be 4 a).length).sum = 4 * l.length := by
    intro l
    induction l with
    | nil => rfl
    | cons a l ih => rw [List.map_cons, List.sum_cons, ih, be_length, List.length_cons]; omega
  rw [h, List.length_take]
  omega

set_option maxRecDepth 100000 in
set_option maxHeartbeats 400000 in
theorem framed_big (head d : List UInt8) (v : Value) (hd : 4096 < d.length) (w : World) :
    Calls Try.prog 68 #[.string ⟨head.toArray⟩, .string ⟨d.toArray⟩, v] w (Gives (.tuple #[.string ⟨#[]⟩, .int .i64 11]) w) := by
  go_enter Try.func68, Try.ntmps68
  go_wp2
  go_ret2
  exact ⟨rfl, Below.refl _ _⟩

set_option maxRecDepth 100000 in
set_option maxHeartbeats 1000000 in
theorem framed_ok (head d : List UInt8) (ns : List Nat) (lb : Nat) (w : World) (hh : head.length ≤ 8) (hd : d.length ≤ 4096) (hn : ns.length ≤ 2) (hns : ∀ k, k < ns.length → ns.getD k 0 < 4294967296)
    (hl : Blk w lb 35 (u32Row ns)) :
    Calls Try.prog 68 #[.string ⟨head.toArray⟩, .string ⟨d.toArray⟩, .slice (some ⟨lb, 0, none⟩) ns.length ns.length] w (Gives (.tuple #[.string ⟨(framedB head ns d).toArray⟩, .int .i64 0]) w) := by
  have hlb := hl.lt
  have HB := Lib.hid (begin_any d (by omega))
  have b0 := (Below.refl w.heap.size w)
  go_enter Try.func68, Try.ntmps68
  go_wp2_with fail
  refine (writeString_any _ w.heap.size w.heap.size 0 62 #[.pointer none, .slice none 0 0] (.pointer none) (.slice none 0 0) [] head (Blk.new _ _ _) (by simp) rfl rfl (Bld.fresh _ _ _ _) (by kernel_rfl) (by decide) (by simp; omega) (by simp)).mono ?_
  rintro e w2 ⟨rfl, v2, h2, hA2, hT2⟩
  have b2 := hT2.below (b0.alloc (Nat.le_refl _) _) (by simp) (Nat.le_refl _) (by simp [Value.ownBlock])
  clear b0 hT2
  go_wp2
  go_loopw [18] (fun i wr => ∃ (k : Nat) (v : Value), k ≤ ns.length ∧ i = .int .i64 k ∧
      Blk wr w.heap.size 62 #[.pointer (some ⟨w.heap.size, 0, none⟩), v] ∧ Bld wr w.heap.size w.heap.size 0 (.pointer (some ⟨w.heap.size, 0, none⟩)) v (upFrame head ns k) ∧
      Below w.heap.size w wr) (fun i _ => ns.length - (intOf i).toNat)
  case atStart =>
    exact ⟨0, v2, by omega, rfl, h2, by simpa [upFrame] using hA2, b2⟩
  case round =>
    obtain ⟨k, v, hk, rfl, r2, r3, r5⟩ := hrel
    clear b2 h2 hA2
    have r4 := hl.below r5 hlb
    by_cases hlt : k < ns.length
    · have c0 := (r4.cell k).trans (u32Row_at ns k hlt)
      have hx := hns k hlt
      have hs := upFrame_succ head ns k hlt
      have hul := upFrame_length head ns k
      have hg := r4.lt
      generalize ns.getD k 0 = x at c0 hx hs
      have HF := Lib.hid (fun W => four_u32 (x : Int) (by omega) (by omega) W)
      simp only [Int.toNat_natCast] at HF
      go_wp2_with fail
      refine (HF.out _).mono ?_
      rintro e w3 ⟨rfl, hb3⟩
      clear c0
      have h2 := r2.below hb3 r2.lt
      have h3 := r3.below hb3
      have h5 := r5.trans (hb3.mono r5.size)
      clear r2 r3 r4 r5 hb3
      go_wp2_with fail
      refine (writeString_any w3 w.heap.size w.heap.size 0 62 _ _ v _ (be 4 x) h2 (by simp) rfl rfl h3 (by kernel_rfl) (by decide) (by rw [be_length]; omega) h5.size).mono ?_
      rintro e w4 ⟨rfl, v4, g2, g3, hT⟩
      have g5 := hT.below h5 h5.size (Nat.le_refl _) h3.row
      clear h2 h3 h5 hT
      rw [hs] at g3
      go_wp2
      go_roundw
      case rel => exact ⟨k + 1, v4, by omega, by go_num, g2, g3, g5⟩
      case measure => simp [intOf]; omega
    · obtain rfl : k = ns.length := by omega
      have hf : upFrame head ns ns.length ++ beginB d = framedB head ns d := by simp [upFrame, framedB]
      have hul := upFrame_length head ns ns.length
      have hbl : (beginB d).length = 4 + d.length := by simp [beginB, be_length]
      clear r4
      have HFb := Lib.hid hf
      clear hf
      go_wp2_with fail
      refine (string_any wr w.heap.size w.heap.size 0 62 _ _ v _ r2 rfl r3).mono ?_
      rintro e w5 ⟨rfl, hg5⟩
      have g5 := r5.grown hg5 r5.size r3.row
      clear r2 r3 r5 hg5
      go_wp2_with fail
      refine (HB.out _).mono ?_
      rintro e w6 ⟨rfl, hb6⟩
      go_wp2
      go_ret2
      exact ⟨by rw [← HFb.out]; rfl, g5.trans (hb6.mono g5.size)⟩


set_option maxRecDepth 100000 in
set_option maxHeartbeats 400000 in
theorem answer_any (o k : Nat) (d : List UInt8) (ho : o < 4294967296) (hk : k < 4294967296) (w : World) :
    Calls Try.prog 56 #[.agg #[.int .u32 o, .int .u32 k, .string ⟨d.toArray⟩]] w (Gives (.tuple #[.string ⟨(framed ansHead [o, k] d).1.toArray⟩, .int .i64 (framed ansHead [o, k] d).2]) w) := by
  by_cases hd : 4096 < d.length
  · have e : framed ansHead [o, k] d = ([], 11) := by unfold framed; rw [if_pos hd]
    rw [e]
    have H := Lib.hid (fun v W => framed_big ansHead d v hd W)
    simp only [ansHead] at H
    clear e hd
    go_enter Try.func56, Try.ntmps56
    go_wp2_with fail
    refine (H.out _ _).mono ?_
    rintro e w1 ⟨rfl, hb1⟩
    have b1 := below_next (((Below.refl _ w).alloc (Nat.le_refl _) (.cells #[.int .u32 o, .int .u32 k, .string ⟨d.toArray⟩] 104)).alloc (by simp) (.cells #[.int .u32 (o : Nat), .int .u32 (k : Nat)] 35)) hb1
    go_wp2
    go_ret2
    exact ⟨rfl, b1⟩
  · have e : framed ansHead [o, k] d = (framedB ansHead [o, k] d, 0) := by unfold framed; rw [if_neg hd]
    rw [e]
    have H : Hid (∀ W lb, Blk W lb 35 #[.int .u32 (o : Nat), .int .u32 (k : Nat)] → Calls Try.prog 68 #[.string ⟨ansHead.toArray⟩, .string ⟨d.toArray⟩, .slice (some ⟨lb, 0, none⟩) 2 2] W (Gives (.tuple #[.string ⟨(framedB ansHead [o, k] d).toArray⟩, .int .i64 0]) W)) :=
      Lib.hid (fun W lb hl => framed_ok ansHead d [o, k] lb W (by decide) (by omega) (by simp) (by intro j hj; match j, hj with
      | 0, _ => exact ho
      | 1, _ => exact hk) hl)
    generalize framedB ansHead [o, k] d = out at H
    simp only [ansHead] at H
    clear e hd
    go_enter Try.func56, Try.ntmps56
    go_wp2_with fail
    refine (H.out ((w.alloc (.cells #[.int .u32 o, .int .u32 k, .string ⟨d.toArray⟩] 104)).alloc (.cells #[.int .u32 (o : Nat), .int .u32 (k : Nat)] 35)) (w.heap.size + 1) (Blk.newAt (by simp))).mono ?_
    rintro e w1 ⟨rfl, hb1⟩
    have b1 := below_next (((Below.refl _ w).alloc (Nat.le_refl _) (.cells #[.int .u32 o, .int .u32 k, .string ⟨d.toArray⟩] 104)).alloc (by simp) (.cells #[.int .u32 (o : Nat), .int .u32 (k : Nat)] 35)) hb1
    go_wp2
    go_ret2
    exact ⟨rfl, b1⟩

end Go.Proofs.Yteljplpiojdikaa
