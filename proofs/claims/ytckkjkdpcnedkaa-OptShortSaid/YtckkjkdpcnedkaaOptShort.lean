/- OptShort, the walk. -/
import Derived.Test.YtckkjkdpcnedkaaOptAwake
import Derived.Test.YtckkjkdpcnedkaaReadAns2
import Derived.Test.YtckkjkdpcnedkaaOptLaw
namespace Go.Proofs.Ytckkjkdpcnedkaa
open Go.RowKit

theorem framed_err (h : List UInt8) (ns : List Nat) (d : List UInt8) : (framed h ns d).2 = if 4096 < d.length then 11 else 0 := by
  unfold framed
  by_cases hd : 4096 < d.length
  · rw [if_pos hd, if_pos hd]
  · rw [if_neg hd, if_neg hd]

set_option maxRecDepth 100000 in
set_option maxHeartbeats 1000000 in
theorem optShort_long (k : Nat) (d : List UInt8) (a1 a2 : Nat) (ad : List UInt8) (cut : Int) (hk : k < 4294967296) (ha1 : a1 < 4294967296) (ha2 : a2 < 4294967296) (x y : Int) (xs ys : List UInt8)
    (hx : framed optHead [k] d = (xs, x)) (hy : framed ansHead [a1, a2] ad = (ys, y))
    (hlong : (4096 < d.length ∧ x = 11 ∧ ((4096 < ad.length ∧ y = 11) ∨ (¬ 4096 < ad.length ∧ y = 0))) ∨ (¬ 4096 < d.length ∧ x = 0 ∧ 4096 < ad.length ∧ y = 11)) (w : World) :
    Calls Try.prog 6 #[.agg #[.int .u32 k, .string ⟨d.toArray⟩], .agg #[.int .u32 a1, .int .u32 a2, .string ⟨ad.toArray⟩], .int .i64 cut] w (Gives (.bool true) w) := by
  have h1 := opt_write_any k d hk
  have h2 := answer_any a1 a2 ad ha1 ha2
  rw [hx] at h1
  rw [hy] at h2
  dsimp only at h1 h2
  have H1 := Lib.hid h1
  have H2 := Lib.hid h2
  have HA := Lib.hid awake_any
  clear h1 h2 hx hy
  rcases hlong with ⟨hd, rfl, ⟨had, rfl⟩ | ⟨had, rfl⟩⟩ | ⟨hd, rfl, had, rfl⟩
  all_goals
    try (replace hd := Nat.le_of_not_lt hd)
    try (replace had := Nat.le_of_not_lt had)
    go_enter Try.func6, Try.ntmps6
    go_wp2_with fail
    refine (H1.out _).mono ?_
    rintro e w1 ⟨rfl, hb1⟩
    have o1 := ((Blk.new w 32 #[.int .u32 k, .string ⟨d.toArray⟩]).alloc (.cells #[.int .u32 a1, .int .u32 a2, .string ⟨ad.toArray⟩] 34)).below hb1 (by simp; omega)
    have q1 := (Blk.newAt (w := w.alloc (.cells #[.int .u32 k, .string ⟨d.toArray⟩] 32)) (g := w.heap.size + 1) (t := 34) (cs := #[.int .u32 a1, .int .u32 a2, .string ⟨ad.toArray⟩]) (by simp)).below hb1 (by simp)
    have b1 := below_next (((Below.refl _ w).alloc (Nat.le_refl _) (.cells #[.int .u32 k, .string ⟨d.toArray⟩] 32)).alloc (by simp) (.cells #[.int .u32 a1, .int .u32 a2, .string ⟨ad.toArray⟩] 34)) hb1
    clear hb1 H1
    have c0 := q1.cell 0
    have c1 := q1.cell 1
    have c2 := q1.cell 2
    simp only [List.getElem?_toArray, List.getElem?_cons_zero, List.getElem?_cons_succ] at c0 c1 c2
    have l1 := q1.lt
    go_wp2_with fail
    refine (H2.out _).mono ?_
    rintro e w2 ⟨rfl, hb2⟩
    have o2 := o1.below hb2 o1.lt
    have q2 := q1.below hb2 q1.lt
    have b2 := below_next b1 hb2
    clear hb2 H2 o1 q1 b1 c0 c1 c2 l1
    have c1 := o2.cell 1
    have c2 := q2.cell 2
    simp only [List.getElem?_toArray, List.getElem?_cons_zero, List.getElem?_cons_succ] at c1 c2
    have l1 := q2.lt
    have l2 := o2.lt
    go_wp2_with fail
    refine (HA.out _).mono ?_
    rintro e w3 ⟨rfl, hb3⟩
    have b3 := below_next b2 hb3
    clear hb3 HA
    go_wp2
    go_ret
    first
      | exact ⟨rfl, b3⟩
      | (refine ⟨?_, b3⟩; simp; omega)

set_option maxRecDepth 100000 in
set_option maxHeartbeats 1000000 in
theorem optShort_little (k : Nat) (d : List UInt8) (a1 a2 : Nat) (ad : List UInt8) (cut : Int) (hk : k < 4294967296) (ha1 : a1 < 4294967296) (ha2 : a2 < 4294967296) (hd : d.length ≤ 4096) (had : ad.length ≤ 4096) (w : World) :
    Calls Try.prog 6 #[.agg #[.int .u32 k, .string ⟨d.toArray⟩], .agg #[.int .u32 a1, .int .u32 a2, .string ⟨ad.toArray⟩], .int .i64 cut] w (Gives (.bool true) w) := by
  have h1 := opt_write_any k d hk
  have h2 := answer_any a1 a2 ad ha1 ha2
  rw [show framed optHead [k] d = (framedB optHead [k] d, 0) by unfold framed; rw [if_neg (by omega)]] at h1
  rw [show framed ansHead [a1, a2] ad = (framedB ansHead [a1, a2] ad, 0) by unfold framed; rw [if_neg (by omega)]] at h2
  have hs1 := fun c => opt_short k d c hk hd
  have hs2 := fun c => ans_short a1 a2 ad c ha1 ha2 had
  have hl1 := framedB_length optHead [k] d
  have hl2 := framedB_length ansHead [a1, a2] ad
  generalize framedB optHead [k] d = X at h1 hs1 hl1
  generalize framedB ansHead [a1, a2] ad = Y at h2 hs2 hl2
  dsimp only at h1 h2
  have X1 : 16 ≤ X.length := by simp [optHead] at hl1; omega
  have X2 : X.length ≤ 20000 := by simp [optHead] at hl1; omega
  have Y1 : 16 ≤ Y.length := by simp [ansHead] at hl2; omega
  have Y2 : Y.length ≤ 20000 := by simp [ansHead] at hl2; omega
  have hneX : X.isEmpty = false := by cases X; simp at X1; rfl
  have hneY : Y.isEmpty = false := by cases Y; simp at Y1; rfl
  clear hl1 hl2
  obtain ⟨cx, hcx, hmx⟩ := cut_mod cut X.length (by omega)
  obtain ⟨cy, hcy, hmy⟩ := cut_mod cut Y.length (by omega)
  have hr1 := opt_read_any (X.take cx) (by simp; omega)
  rw [hs1 cx hcx] at hr1
  have hr2 := opt_answer_read_any (Y.take cy) (by simp; omega)
  rw [hs2 cy hcy] at hr2
  unfold optV at hr1
  unfold ansV at hr2
  dsimp only at hr1 hr2
  have H1 := Lib.hid h1
  have H2 := Lib.hid h2
  have R1 := Lib.hid hr1
  have R2 := Lib.hid hr2
  have HA := Lib.hid awake_any
  clear h1 h2 hs1 hs2 hr1 hr2
  go_enter Try.func6, Try.ntmps6
  go_wp2_with fail
  refine (H1.out _).mono ?_
  rintro e w1 ⟨rfl, hb1⟩
  have q1 := (Blk.newAt (w := w.alloc (.cells #[.int .u32 k, .string ⟨d.toArray⟩] 32)) (g := w.heap.size + 1) (t := 34) (cs := #[.int .u32 a1, .int .u32 a2, .string ⟨ad.toArray⟩]) (by simp)).below hb1 (by simp)
  have b1 := below_next (((Below.refl _ w).alloc (Nat.le_refl _) (.cells #[.int .u32 k, .string ⟨d.toArray⟩] 32)).alloc (by simp) (.cells #[.int .u32 a1, .int .u32 a2, .string ⟨ad.toArray⟩] 34)) hb1
  clear hb1 H1
  have c0 := q1.cell 0
  have c1 := q1.cell 1
  have c2 := q1.cell 2
  simp only [List.getElem?_toArray, List.getElem?_cons_zero, List.getElem?_cons_succ] at c0 c1 c2
  have l1 := q1.lt
  go_wp2_with fail
  refine (H2.out _).mono ?_
  rintro e w2 ⟨rfl, hb2⟩
  have b2 := below_next b1 hb2
  have s2 := b2.size
  clear hb2 H2 q1 b1 c0 c1 c2 l1
  go_wp2_with fail
  refine (R1.out _).mono ?_
  rintro e w3 ⟨rfl, hb3⟩
  have b3 := below_next b2 hb3
  have s3 := b3.size
  clear hb3 R1 b2 s2
  go_wp2_with fail
  refine (R2.out _).mono ?_
  rintro e w4 ⟨rfl, hb4⟩
  have b4 : Below w.heap.size w w4 := by
    refine below_next ?_ hb4
    (repeat' (first | (with_reducible assumption) | (with_reducible exact Below.refl _ _) | (with_reducible refine below_drewN ?_ _) | (with_reducible refine Below.drew ?_) | (with_reducible refine Below.setCell ?_ ?_ _) | (with_reducible refine Below.alloc ?_ ?_ _) | (with_reducible refine below_putObj ?_ ?_ _) | (with_reducible exact Nat.le_refl _) | omega | (simp; done) | (simp; omega)))
  have s4 := b4.size
  clear hb4 R2 b3 s3
  go_wp2_with fail
  refine (HA.out _).mono ?_
  rintro e w5 ⟨rfl, hb5⟩
  have b5 : Below w.heap.size w w5 := by
    refine below_next ?_ hb5
    (repeat' (first | (with_reducible assumption) | (with_reducible exact Below.refl _ _) | (with_reducible refine below_drewN ?_ _) | (with_reducible refine Below.drew ?_) | (with_reducible refine Below.setCell ?_ ?_ _) | (with_reducible refine Below.alloc ?_ ?_ _) | (with_reducible refine below_putObj ?_ ?_ _) | (with_reducible exact Nat.le_refl _) | omega | (simp; done) | (simp; omega)))
  clear hb5 HA b4
  go_wp2
  go_ret
  exact ⟨rfl, b5⟩

theorem optShort_any (q : Nat × List UInt8) (hq : q.1 < 4294967296) (a : Nat × Nat × List UInt8) (ha1 : a.1 < 4294967296) (ha2 : a.2.1 < 4294967296) (cut : Int) (w : World) :
    Calls Try.prog 6 #[optV q, ansV a, .int .i64 cut] w (Gives (.bool true) w) := by
  obtain ⟨k, d⟩ := q
  obtain ⟨a1, a2, ad⟩ := a
  dsimp only at hq ha1 ha2
  by_cases hl : d.length ≤ 4096 ∧ ad.length ≤ 4096
  · exact optShort_little k d a1 a2 ad cut hq ha1 ha2 hl.1 hl.2 w
  · refine optShort_long k d a1 a2 ad cut hq ha1 ha2 (framed optHead [k] d).2 (framed ansHead [a1, a2] ad).2 (framed optHead [k] d).1 (framed ansHead [a1, a2] ad).1 rfl rfl ?_ w
    rw [framed_err, framed_err]
    by_cases h1 : 4096 < d.length
    · refine .inl ⟨h1, if_pos h1, ?_⟩
      by_cases h2 : 4096 < ad.length
      · exact .inl ⟨h2, if_pos h2⟩
      · exact .inr ⟨h2, if_neg h2⟩
    · exact .inr ⟨h1, if_neg h1, by omega, if_pos (by omega)⟩

end Go.Proofs.Ytckkjkdpcnedkaa
