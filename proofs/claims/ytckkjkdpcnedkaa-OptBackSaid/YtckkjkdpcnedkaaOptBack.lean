/- OptBack, the walk. Printed by wip/optback.py. -/
import Derived.Test.YtckkjkdpcnedkaaOptAwake
import Derived.Test.YtckkjkdpcnedkaaReadAns2
import Derived.Test.YtckkjkdpcnedkaaOptLaw
namespace Go.Proofs.Ytckkjkdpcnedkaa
open Go.RowKit

theorem list_beq_self (l : List UInt8) : (l == l) = true := by simp

set_option maxRecDepth 100000 in
set_option maxHeartbeats 2000000 in
theorem optBack_0000 (k a1 a2 x1 y1 y2 : Nat) (d ad x2 y3 more s X Y xr yr : List UInt8) (er : Int) (et : Int) (HW : Hid (∀ W, Calls Try.prog 13 #[.agg #[.int .u32 k, .string ⟨d.toArray⟩]] W (Gives (.tuple #[.string ⟨(X).toArray⟩, .int .i64 11]) W))) (HN : Hid (∀ W, Calls Try.prog 15 #[.agg #[.int .u32 a1, .int .u32 a2, .string ⟨ad.toArray⟩]] W (Gives (.tuple #[.string ⟨(Y).toArray⟩, .int .i64 11]) W))) (HR : Hid (∀ W, Calls Try.prog 17 #[.string ⟨(s).toArray⟩] W (Gives (.tuple #[.agg #[.int .u32 x1, .string ⟨x2.toArray⟩], .string ⟨(xr).toArray⟩, .int .i64 er]) W))) (HT : Hid (∀ W, Calls Try.prog 19 #[.string ⟨(s).toArray⟩] W (Gives (.tuple #[.agg #[.int .u32 y1, .int .u32 y2, .string ⟨y3.toArray⟩], .string ⟨(yr).toArray⟩, .int .i64 et]) W))) (hr0 : (er == 0) = false) (ht0 : (et == 0) = false)
    (h1 : d.length ≤ 10000) (h2 : ad.length ≤ 10000) (h3 : s.length ≤ 20000) (h4 : more.length ≤ 20000) (w : World) :
    Calls Try.prog 5 #[.agg #[.int .u32 k, .string ⟨d.toArray⟩], .agg #[.int .u32 a1, .int .u32 a2, .string ⟨ad.toArray⟩], .string ⟨more.toArray⟩, .string ⟨s.toArray⟩] w (Gives (.bool true) w) := by
  have HA := Lib.hid awake_any
  go_enter Try.func5, Try.ntmps5
  have o0 : Blk ((w.alloc (.cells #[.int .u32 k, .string ⟨d.toArray⟩] 32)).alloc (.cells #[.int .u32 a1, .int .u32 a2, .string ⟨ad.toArray⟩] 34)) w.heap.size 32 #[.int .u32 k, .string ⟨d.toArray⟩] := (Blk.new w 32 #[.int .u32 k, .string ⟨d.toArray⟩]).alloc _
  have q0 : Blk ((w.alloc (.cells #[.int .u32 k, .string ⟨d.toArray⟩] 32)).alloc (.cells #[.int .u32 a1, .int .u32 a2, .string ⟨ad.toArray⟩] 34)) (w.heap.size + 1) 34 #[.int .u32 a1, .int .u32 a2, .string ⟨ad.toArray⟩] := Blk.newAt (by simp)
  have b0 : Below w.heap.size w ((w.alloc (.cells #[.int .u32 k, .string ⟨d.toArray⟩] 32)).alloc (.cells #[.int .u32 a1, .int .u32 a2, .string ⟨ad.toArray⟩] 34)) := ((Below.refl _ w).alloc (Nat.le_refl _) _).alloc (by simp) _
  go_wp2_with fail
  refine (HW.out _).mono ?_
  rintro e w1 ⟨rfl, hb1⟩
  have o1' := o0.below hb1 o0.lt
  have q1' := q0.below hb1 q0.lt
  have b1' := below_next b0 hb1
  clear hb1 o0 q0 b0
  have o1 := o1'
  have q1 := q1'
  have b1 := b1'
  have c0 := o1'.cell 0
  have c1 := o1'.cell 1
  have c2 := q1'.cell 0
  have c3 := q1'.cell 1
  have c4 := q1'.cell 2
  simp only [List.getElem?_toArray, List.getElem?_cons_zero, List.getElem?_cons_succ] at c0 c1 c2 c3 c4
  have l0 := o1'.lt
  have l1 := q1'.lt
  clear o1' q1'
  go_wp2_with fail
  refine (HN.out _).mono ?_
  rintro e w2 ⟨rfl, hb2⟩
  have o2' := o1.below hb2 o1.lt
  have q2' := q1.below hb2 q1.lt
  have b2' := below_next b1 hb2
  clear hb2 o1 q1 b1 c0 c1 c2 c3 c4 l0 l1
  have o2 := o2'
  have q2 := q2'
  have b2 := b2'
  have c0 := o2'.cell 0
  have c1 := o2'.cell 1
  have c2 := q2'.cell 0
  have c3 := q2'.cell 1
  have c4 := q2'.cell 2
  simp only [List.getElem?_toArray, List.getElem?_cons_zero, List.getElem?_cons_succ] at c0 c1 c2 c3 c4
  have l0 := o2'.lt
  have l1 := q2'.lt
  clear o2' q2'
  go_wp2_with fail
  refine (HR.out _).mono ?_
  rintro e w3 ⟨rfl, hb3⟩
  have o3' := o2.below hb3 o2.lt
  have q3' := q2.below hb3 q2.lt
  have b3' := below_next b2 hb3
  clear hb3 o2 q2 b2 c0 c1 c2 c3 c4 l0 l1
  have o3 := o3'.alloc (.cells #[.int .u32 x1, .string ⟨x2.toArray⟩] 32)
  have q3 := q3'.alloc (.cells #[.int .u32 x1, .string ⟨x2.toArray⟩] 32)
  have b3 := b3'.alloc b3'.size (.cells #[.int .u32 x1, .string ⟨x2.toArray⟩] 32)
  clear b3'
  have c0 := o3'.cell 0
  have c1 := o3'.cell 1
  have c2 := q3'.cell 0
  have c3 := q3'.cell 1
  have c4 := q3'.cell 2
  simp only [List.getElem?_toArray, List.getElem?_cons_zero, List.getElem?_cons_succ] at c0 c1 c2 c3 c4
  have l0 := o3'.lt
  have l1 := q3'.lt
  clear o3' q3'
  go_wp2_with fail
  refine (HT.out _).mono ?_
  rintro e w4 ⟨rfl, hb4⟩
  have o4' := o3.below hb4 o3.lt
  have q4' := q3.below hb4 q3.lt
  have b4' := below_next b3 hb4
  clear hb4 o3 q3 b3 c0 c1 c2 c3 c4 l0 l1
  have o4 := o4'.alloc (.cells #[.int .u32 y1, .int .u32 y2, .string ⟨y3.toArray⟩] 34)
  have q4 := q4'.alloc (.cells #[.int .u32 y1, .int .u32 y2, .string ⟨y3.toArray⟩] 34)
  have b4 := b4'.alloc b4'.size (.cells #[.int .u32 y1, .int .u32 y2, .string ⟨y3.toArray⟩] 34)
  clear b4'
  have c0 := o4'.cell 0
  have c1 := o4'.cell 1
  have c2 := q4'.cell 0
  have c3 := q4'.cell 1
  have c4 := q4'.cell 2
  simp only [List.getElem?_toArray, List.getElem?_cons_zero, List.getElem?_cons_succ] at c0 c1 c2 c3 c4
  have l0 := o4'.lt
  have l1 := q4'.lt
  clear o4' q4'
  go_wp2_with fail
  refine (HA.out _).mono ?_
  rintro e w5 ⟨rfl, hb5⟩
  go_wp2
  go_ret
  exact ⟨rfl, below_next b4 hb5⟩

set_option maxRecDepth 100000 in
set_option maxHeartbeats 2000000 in
theorem optBack_0001 (k a1 a2 x1 y1 y2 : Nat) (d ad x2 y3 more s X Y xr yr Q : List UInt8) (er : Int) (HW : Hid (∀ W, Calls Try.prog 13 #[.agg #[.int .u32 k, .string ⟨d.toArray⟩]] W (Gives (.tuple #[.string ⟨(X).toArray⟩, .int .i64 11]) W))) (HN : Hid (∀ W, Calls Try.prog 15 #[.agg #[.int .u32 a1, .int .u32 a2, .string ⟨ad.toArray⟩]] W (Gives (.tuple #[.string ⟨(Y).toArray⟩, .int .i64 11]) W))) (HR : Hid (∀ W, Calls Try.prog 17 #[.string ⟨(s).toArray⟩] W (Gives (.tuple #[.agg #[.int .u32 x1, .string ⟨x2.toArray⟩], .string ⟨(xr).toArray⟩, .int .i64 er]) W))) (HT : Hid (∀ W, Calls Try.prog 19 #[.string ⟨(s).toArray⟩] W (Gives (.tuple #[.agg #[.int .u32 y1, .int .u32 y2, .string ⟨y3.toArray⟩], .string ⟨(yr).toArray⟩, .int .i64 0]) W))) (HTW : Hid (∀ W, Calls Try.prog 15 #[.agg #[.int .u32 y1, .int .u32 y2, .string ⟨y3.toArray⟩]] W (Gives (.tuple #[.string ⟨(Q).toArray⟩, .int .i64 0]) W))) (hr0 : (er == 0) = false) (hQ : s = Q ++ yr)
    (h1 : d.length ≤ 10000) (h2 : ad.length ≤ 10000) (h3 : s.length ≤ 20000) (h4 : more.length ≤ 20000) (h8 : Q.length + yr.length ≤ 40000) (w : World) :
    Calls Try.prog 5 #[.agg #[.int .u32 k, .string ⟨d.toArray⟩], .agg #[.int .u32 a1, .int .u32 a2, .string ⟨ad.toArray⟩], .string ⟨more.toArray⟩, .string ⟨s.toArray⟩] w (Gives (.bool true) w) := by
  have HA := Lib.hid awake_any
  have hs : (Q ++ yr == s) = true := by rw [hQ]; simp
  clear hQ
  go_enter Try.func5, Try.ntmps5
  have o0 : Blk ((w.alloc (.cells #[.int .u32 k, .string ⟨d.toArray⟩] 32)).alloc (.cells #[.int .u32 a1, .int .u32 a2, .string ⟨ad.toArray⟩] 34)) w.heap.size 32 #[.int .u32 k, .string ⟨d.toArray⟩] := (Blk.new w 32 #[.int .u32 k, .string ⟨d.toArray⟩]).alloc _
  have q0 : Blk ((w.alloc (.cells #[.int .u32 k, .string ⟨d.toArray⟩] 32)).alloc (.cells #[.int .u32 a1, .int .u32 a2, .string ⟨ad.toArray⟩] 34)) (w.heap.size + 1) 34 #[.int .u32 a1, .int .u32 a2, .string ⟨ad.toArray⟩] := Blk.newAt (by simp)
  have b0 : Below w.heap.size w ((w.alloc (.cells #[.int .u32 k, .string ⟨d.toArray⟩] 32)).alloc (.cells #[.int .u32 a1, .int .u32 a2, .string ⟨ad.toArray⟩] 34)) := ((Below.refl _ w).alloc (Nat.le_refl _) _).alloc (by simp) _
  go_wp2_with fail
  refine (HW.out _).mono ?_
  rintro e w1 ⟨rfl, hb1⟩
  have o1' := o0.below hb1 o0.lt
  have q1' := q0.below hb1 q0.lt
  have b1' := below_next b0 hb1
  clear hb1 o0 q0 b0
  have o1 := o1'
  have q1 := q1'
  have b1 := b1'
  have c0 := o1'.cell 0
  have c1 := o1'.cell 1
  have c2 := q1'.cell 0
  have c3 := q1'.cell 1
  have c4 := q1'.cell 2
  simp only [List.getElem?_toArray, List.getElem?_cons_zero, List.getElem?_cons_succ] at c0 c1 c2 c3 c4
  have l0 := o1'.lt
  have l1 := q1'.lt
  clear o1' q1'
  go_wp2_with fail
  refine (HN.out _).mono ?_
  rintro e w2 ⟨rfl, hb2⟩
  have o2' := o1.below hb2 o1.lt
  have q2' := q1.below hb2 q1.lt
  have b2' := below_next b1 hb2
  clear hb2 o1 q1 b1 c0 c1 c2 c3 c4 l0 l1
  have o2 := o2'
  have q2 := q2'
  have b2 := b2'
  have c0 := o2'.cell 0
  have c1 := o2'.cell 1
  have c2 := q2'.cell 0
  have c3 := q2'.cell 1
  have c4 := q2'.cell 2
  simp only [List.getElem?_toArray, List.getElem?_cons_zero, List.getElem?_cons_succ] at c0 c1 c2 c3 c4
  have l0 := o2'.lt
  have l1 := q2'.lt
  clear o2' q2'
  go_wp2_with fail
  refine (HR.out _).mono ?_
  rintro e w3 ⟨rfl, hb3⟩
  have o3' := o2.below hb3 o2.lt
  have q3' := q2.below hb3 q2.lt
  have b3' := below_next b2 hb3
  clear hb3 o2 q2 b2 c0 c1 c2 c3 c4 l0 l1
  have o3 := o3'.alloc (.cells #[.int .u32 x1, .string ⟨x2.toArray⟩] 32)
  have q3 := q3'.alloc (.cells #[.int .u32 x1, .string ⟨x2.toArray⟩] 32)
  have b3 := b3'.alloc b3'.size (.cells #[.int .u32 x1, .string ⟨x2.toArray⟩] 32)
  clear b3'
  have c0 := o3'.cell 0
  have c1 := o3'.cell 1
  have c2 := q3'.cell 0
  have c3 := q3'.cell 1
  have c4 := q3'.cell 2
  simp only [List.getElem?_toArray, List.getElem?_cons_zero, List.getElem?_cons_succ] at c0 c1 c2 c3 c4
  have l0 := o3'.lt
  have l1 := q3'.lt
  clear o3' q3'
  go_wp2_with fail
  refine (HT.out _).mono ?_
  rintro e w4 ⟨rfl, hb4⟩
  have o4' := o3.below hb4 o3.lt
  have q4' := q3.below hb4 q3.lt
  have b4' := below_next b3 hb4
  clear hb4 o3 q3 b3 c0 c1 c2 c3 c4 l0 l1
  have o4 := o4'.alloc (.cells #[.int .u32 y1, .int .u32 y2, .string ⟨y3.toArray⟩] 34)
  have q4 := q4'.alloc (.cells #[.int .u32 y1, .int .u32 y2, .string ⟨y3.toArray⟩] 34)
  have b4 := b4'.alloc b4'.size (.cells #[.int .u32 y1, .int .u32 y2, .string ⟨y3.toArray⟩] 34)
  clear b4'
  have c0 := o4'.cell 0
  have c1 := o4'.cell 1
  have c2 := q4'.cell 0
  have c3 := q4'.cell 1
  have c4 := q4'.cell 2
  simp only [List.getElem?_toArray, List.getElem?_cons_zero, List.getElem?_cons_succ] at c0 c1 c2 c3 c4
  have l0 := o4'.lt
  have l1 := q4'.lt
  clear o4' q4'
  go_wp2_with fail
  refine (HTW.out _).mono ?_
  rintro e w5 ⟨rfl, hb5⟩
  have o5' := o4.below hb5 o4.lt
  have q5' := q4.below hb5 q4.lt
  have b5' := below_next b4 hb5
  clear hb5 o4 q4 b4 c0 c1 c2 c3 c4 l0 l1
  have o5 := o5'
  have q5 := q5'
  have b5 := b5'
  have c0 := o5'.cell 0
  have c1 := o5'.cell 1
  have c2 := q5'.cell 0
  have c3 := q5'.cell 1
  have c4 := q5'.cell 2
  simp only [List.getElem?_toArray, List.getElem?_cons_zero, List.getElem?_cons_succ] at c0 c1 c2 c3 c4
  have l0 := o5'.lt
  have l1 := q5'.lt
  clear o5' q5'
  go_wp2_with fail
  refine (HA.out _).mono ?_
  rintro e w6 ⟨rfl, hb6⟩
  go_wp2
  go_ret
  exact ⟨rfl, below_next b5 hb6⟩

set_option maxRecDepth 100000 in
set_option maxHeartbeats 2000000 in
theorem optBack_0010 (k a1 a2 x1 y1 y2 : Nat) (d ad x2 y3 more s X Y xr yr P : List UInt8) (et : Int) (HW : Hid (∀ W, Calls Try.prog 13 #[.agg #[.int .u32 k, .string ⟨d.toArray⟩]] W (Gives (.tuple #[.string ⟨(X).toArray⟩, .int .i64 11]) W))) (HN : Hid (∀ W, Calls Try.prog 15 #[.agg #[.int .u32 a1, .int .u32 a2, .string ⟨ad.toArray⟩]] W (Gives (.tuple #[.string ⟨(Y).toArray⟩, .int .i64 11]) W))) (HR : Hid (∀ W, Calls Try.prog 17 #[.string ⟨(s).toArray⟩] W (Gives (.tuple #[.agg #[.int .u32 x1, .string ⟨x2.toArray⟩], .string ⟨(xr).toArray⟩, .int .i64 0]) W))) (HRW : Hid (∀ W, Calls Try.prog 13 #[.agg #[.int .u32 x1, .string ⟨x2.toArray⟩]] W (Gives (.tuple #[.string ⟨(P).toArray⟩, .int .i64 0]) W))) (HT : Hid (∀ W, Calls Try.prog 19 #[.string ⟨(s).toArray⟩] W (Gives (.tuple #[.agg #[.int .u32 y1, .int .u32 y2, .string ⟨y3.toArray⟩], .string ⟨(yr).toArray⟩, .int .i64 et]) W))) (hP : s = P ++ xr) (ht0 : (et == 0) = false)
    (h1 : d.length ≤ 10000) (h2 : ad.length ≤ 10000) (h3 : s.length ≤ 20000) (h4 : more.length ≤ 20000) (h7 : P.length + xr.length ≤ 40000) (w : World) :
    Calls Try.prog 5 #[.agg #[.int .u32 k, .string ⟨d.toArray⟩], .agg #[.int .u32 a1, .int .u32 a2, .string ⟨ad.toArray⟩], .string ⟨more.toArray⟩, .string ⟨s.toArray⟩] w (Gives (.bool true) w) := by
  have HA := Lib.hid awake_any
  have hs : (P ++ xr == s) = true := by rw [hP]; simp
  clear hP
  go_enter Try.func5, Try.ntmps5
  have o0 : Blk ((w.alloc (.cells #[.int .u32 k, .string ⟨d.toArray⟩] 32)).alloc (.cells #[.int .u32 a1, .int .u32 a2, .string ⟨ad.toArray⟩] 34)) w.heap.size 32 #[.int .u32 k, .string ⟨d.toArray⟩] := (Blk.new w 32 #[.int .u32 k, .string ⟨d.toArray⟩]).alloc _
  have q0 : Blk ((w.alloc (.cells #[.int .u32 k, .string ⟨d.toArray⟩] 32)).alloc (.cells #[.int .u32 a1, .int .u32 a2, .string ⟨ad.toArray⟩] 34)) (w.heap.size + 1) 34 #[.int .u32 a1, .int .u32 a2, .string ⟨ad.toArray⟩] := Blk.newAt (by simp)
  have b0 : Below w.heap.size w ((w.alloc (.cells #[.int .u32 k, .string ⟨d.toArray⟩] 32)).alloc (.cells #[.int .u32 a1, .int .u32 a2, .string ⟨ad.toArray⟩] 34)) := ((Below.refl _ w).alloc (Nat.le_refl _) _).alloc (by simp) _
  go_wp2_with fail
  refine (HW.out _).mono ?_
  rintro e w1 ⟨rfl, hb1⟩
  have o1' := o0.below hb1 o0.lt
  have q1' := q0.below hb1 q0.lt
  have b1' := below_next b0 hb1
  clear hb1 o0 q0 b0
  have o1 := o1'
  have q1 := q1'
  have b1 := b1'
  have c0 := o1'.cell 0
  have c1 := o1'.cell 1
  have c2 := q1'.cell 0
  have c3 := q1'.cell 1
  have c4 := q1'.cell 2
  simp only [List.getElem?_toArray, List.getElem?_cons_zero, List.getElem?_cons_succ] at c0 c1 c2 c3 c4
  have l0 := o1'.lt
  have l1 := q1'.lt
  clear o1' q1'
  go_wp2_with fail
  refine (HN.out _).mono ?_
  rintro e w2 ⟨rfl, hb2⟩
  have o2' := o1.below hb2 o1.lt
  have q2' := q1.below hb2 q1.lt
  have b2' := below_next b1 hb2
  clear hb2 o1 q1 b1 c0 c1 c2 c3 c4 l0 l1
  have o2 := o2'
  have q2 := q2'
  have b2 := b2'
  have c0 := o2'.cell 0
  have c1 := o2'.cell 1
  have c2 := q2'.cell 0
  have c3 := q2'.cell 1
  have c4 := q2'.cell 2
  simp only [List.getElem?_toArray, List.getElem?_cons_zero, List.getElem?_cons_succ] at c0 c1 c2 c3 c4
  have l0 := o2'.lt
  have l1 := q2'.lt
  clear o2' q2'
  go_wp2_with fail
  refine (HR.out _).mono ?_
  rintro e w3 ⟨rfl, hb3⟩
  have o3' := o2.below hb3 o2.lt
  have q3' := q2.below hb3 q2.lt
  have b3' := below_next b2 hb3
  clear hb3 o2 q2 b2 c0 c1 c2 c3 c4 l0 l1
  have o3 := o3'.alloc (.cells #[.int .u32 x1, .string ⟨x2.toArray⟩] 32)
  have q3 := q3'.alloc (.cells #[.int .u32 x1, .string ⟨x2.toArray⟩] 32)
  have b3 := b3'.alloc b3'.size (.cells #[.int .u32 x1, .string ⟨x2.toArray⟩] 32)
  clear b3'
  have c0 := o3'.cell 0
  have c1 := o3'.cell 1
  have c2 := q3'.cell 0
  have c3 := q3'.cell 1
  have c4 := q3'.cell 2
  simp only [List.getElem?_toArray, List.getElem?_cons_zero, List.getElem?_cons_succ] at c0 c1 c2 c3 c4
  have l0 := o3'.lt
  have l1 := q3'.lt
  clear o3' q3'
  go_wp2_with fail
  refine (HRW.out _).mono ?_
  rintro e w4 ⟨rfl, hb4⟩
  have o4' := o3.below hb4 o3.lt
  have q4' := q3.below hb4 q3.lt
  have b4' := below_next b3 hb4
  clear hb4 o3 q3 b3 c0 c1 c2 c3 c4 l0 l1
  have o4 := o4'
  have q4 := q4'
  have b4 := b4'
  have c0 := o4'.cell 0
  have c1 := o4'.cell 1
  have c2 := q4'.cell 0
  have c3 := q4'.cell 1
  have c4 := q4'.cell 2
  simp only [List.getElem?_toArray, List.getElem?_cons_zero, List.getElem?_cons_succ] at c0 c1 c2 c3 c4
  have l0 := o4'.lt
  have l1 := q4'.lt
  clear o4' q4'
  go_wp2_with fail
  refine (HT.out _).mono ?_
  rintro e w5 ⟨rfl, hb5⟩
  have o5' := o4.below hb5 o4.lt
  have q5' := q4.below hb5 q4.lt
  have b5' := below_next b4 hb5
  clear hb5 o4 q4 b4 c0 c1 c2 c3 c4 l0 l1
  have o5 := o5'.alloc (.cells #[.int .u32 y1, .int .u32 y2, .string ⟨y3.toArray⟩] 34)
  have q5 := q5'.alloc (.cells #[.int .u32 y1, .int .u32 y2, .string ⟨y3.toArray⟩] 34)
  have b5 := b5'.alloc b5'.size (.cells #[.int .u32 y1, .int .u32 y2, .string ⟨y3.toArray⟩] 34)
  clear b5'
  have c0 := o5'.cell 0
  have c1 := o5'.cell 1
  have c2 := q5'.cell 0
  have c3 := q5'.cell 1
  have c4 := q5'.cell 2
  simp only [List.getElem?_toArray, List.getElem?_cons_zero, List.getElem?_cons_succ] at c0 c1 c2 c3 c4
  have l0 := o5'.lt
  have l1 := q5'.lt
  clear o5' q5'
  go_wp2_with fail
  refine (HA.out _).mono ?_
  rintro e w6 ⟨rfl, hb6⟩
  go_wp2
  go_ret
  exact ⟨rfl, below_next b5 hb6⟩

set_option maxRecDepth 100000 in
set_option maxHeartbeats 2000000 in
theorem optBack_0100 (k a1 a2 x1 y1 y2 : Nat) (d ad x2 y3 more s X Y xr yr : List UInt8) (er : Int) (et : Int) (HW : Hid (∀ W, Calls Try.prog 13 #[.agg #[.int .u32 k, .string ⟨d.toArray⟩]] W (Gives (.tuple #[.string ⟨(X).toArray⟩, .int .i64 11]) W))) (HN : Hid (∀ W, Calls Try.prog 15 #[.agg #[.int .u32 a1, .int .u32 a2, .string ⟨ad.toArray⟩]] W (Gives (.tuple #[.string ⟨(Y).toArray⟩, .int .i64 0]) W))) (HNB : Hid (∀ W, Calls Try.prog 19 #[.string ⟨(Y ++ more).toArray⟩] W (Gives (.tuple #[.agg #[.int .u32 a1, .int .u32 a2, .string ⟨ad.toArray⟩], .string ⟨(more).toArray⟩, .int .i64 0]) W))) (HR : Hid (∀ W, Calls Try.prog 17 #[.string ⟨(s).toArray⟩] W (Gives (.tuple #[.agg #[.int .u32 x1, .string ⟨x2.toArray⟩], .string ⟨(xr).toArray⟩, .int .i64 er]) W))) (HT : Hid (∀ W, Calls Try.prog 19 #[.string ⟨(s).toArray⟩] W (Gives (.tuple #[.agg #[.int .u32 y1, .int .u32 y2, .string ⟨y3.toArray⟩], .string ⟨(yr).toArray⟩, .int .i64 et]) W))) (hr0 : (er == 0) = false) (ht0 : (et == 0) = false)
    (h1 : d.length ≤ 10000) (h2 : ad.length ≤ 10000) (h3 : s.length ≤ 20000) (h4 : more.length ≤ 20000) (h6 : Y.length ≤ 20000) (w : World) :
    Calls Try.prog 5 #[.agg #[.int .u32 k, .string ⟨d.toArray⟩], .agg #[.int .u32 a1, .int .u32 a2, .string ⟨ad.toArray⟩], .string ⟨more.toArray⟩, .string ⟨s.toArray⟩] w (Gives (.bool true) w) := by
  have HA := Lib.hid awake_any
  go_enter Try.func5, Try.ntmps5
  have o0 : Blk ((w.alloc (.cells #[.int .u32 k, .string ⟨d.toArray⟩] 32)).alloc (.cells #[.int .u32 a1, .int .u32 a2, .string ⟨ad.toArray⟩] 34)) w.heap.size 32 #[.int .u32 k, .string ⟨d.toArray⟩] := (Blk.new w 32 #[.int .u32 k, .string ⟨d.toArray⟩]).alloc _
  have q0 : Blk ((w.alloc (.cells #[.int .u32 k, .string ⟨d.toArray⟩] 32)).alloc (.cells #[.int .u32 a1, .int .u32 a2, .string ⟨ad.toArray⟩] 34)) (w.heap.size + 1) 34 #[.int .u32 a1, .int .u32 a2, .string ⟨ad.toArray⟩] := Blk.newAt (by simp)
  have b0 : Below w.heap.size w ((w.alloc (.cells #[.int .u32 k, .string ⟨d.toArray⟩] 32)).alloc (.cells #[.int .u32 a1, .int .u32 a2, .string ⟨ad.toArray⟩] 34)) := ((Below.refl _ w).alloc (Nat.le_refl _) _).alloc (by simp) _
  go_wp2_with fail
  refine (HW.out _).mono ?_
  rintro e w1 ⟨rfl, hb1⟩
  have o1' := o0.below hb1 o0.lt
  have q1' := q0.below hb1 q0.lt
  have b1' := below_next b0 hb1
  clear hb1 o0 q0 b0
  have o1 := o1'
  have q1 := q1'
  have b1 := b1'
  have c0 := o1'.cell 0
  have c1 := o1'.cell 1
  have c2 := q1'.cell 0
  have c3 := q1'.cell 1
  have c4 := q1'.cell 2
  simp only [List.getElem?_toArray, List.getElem?_cons_zero, List.getElem?_cons_succ] at c0 c1 c2 c3 c4
  have l0 := o1'.lt
  have l1 := q1'.lt
  clear o1' q1'
  go_wp2_with fail
  refine (HN.out _).mono ?_
  rintro e w2 ⟨rfl, hb2⟩
  have o2' := o1.below hb2 o1.lt
  have q2' := q1.below hb2 q1.lt
  have b2' := below_next b1 hb2
  clear hb2 o1 q1 b1 c0 c1 c2 c3 c4 l0 l1
  have o2 := o2'
  have q2 := q2'
  have b2 := b2'
  have c0 := o2'.cell 0
  have c1 := o2'.cell 1
  have c2 := q2'.cell 0
  have c3 := q2'.cell 1
  have c4 := q2'.cell 2
  simp only [List.getElem?_toArray, List.getElem?_cons_zero, List.getElem?_cons_succ] at c0 c1 c2 c3 c4
  have l0 := o2'.lt
  have l1 := q2'.lt
  clear o2' q2'
  go_wp2_with fail
  refine (HNB.out _).mono ?_
  rintro e w3 ⟨rfl, hb3⟩
  have o3' := o2.below hb3 o2.lt
  have q3' := q2.below hb3 q2.lt
  have b3' := below_next b2 hb3
  clear hb3 o2 q2 b2 c0 c1 c2 c3 c4 l0 l1
  have o3 := o3'.alloc (.cells #[.int .u32 a1, .int .u32 a2, .string ⟨ad.toArray⟩] 34)
  have q3 := q3'.alloc (.cells #[.int .u32 a1, .int .u32 a2, .string ⟨ad.toArray⟩] 34)
  have b3 := b3'.alloc b3'.size (.cells #[.int .u32 a1, .int .u32 a2, .string ⟨ad.toArray⟩] 34)
  clear b3'
  have c0 := o3'.cell 0
  have c1 := o3'.cell 1
  have c2 := q3'.cell 0
  have c3 := q3'.cell 1
  have c4 := q3'.cell 2
  simp only [List.getElem?_toArray, List.getElem?_cons_zero, List.getElem?_cons_succ] at c0 c1 c2 c3 c4
  have l0 := o3'.lt
  have l1 := q3'.lt
  clear o3' q3'
  go_wp2_with fail
  refine (HR.out _).mono ?_
  rintro e w4 ⟨rfl, hb4⟩
  have o4' := o3.below hb4 o3.lt
  have q4' := q3.below hb4 q3.lt
  have b4' := below_next b3 hb4
  clear hb4 o3 q3 b3 c0 c1 c2 c3 c4 l0 l1
  have o4 := o4'.alloc (.cells #[.int .u32 x1, .string ⟨x2.toArray⟩] 32)
  have q4 := q4'.alloc (.cells #[.int .u32 x1, .string ⟨x2.toArray⟩] 32)
  have b4 := b4'.alloc b4'.size (.cells #[.int .u32 x1, .string ⟨x2.toArray⟩] 32)
  clear b4'
  have c0 := o4'.cell 0
  have c1 := o4'.cell 1
  have c2 := q4'.cell 0
  have c3 := q4'.cell 1
  have c4 := q4'.cell 2
  simp only [List.getElem?_toArray, List.getElem?_cons_zero, List.getElem?_cons_succ] at c0 c1 c2 c3 c4
  have l0 := o4'.lt
  have l1 := q4'.lt
  clear o4' q4'
  go_wp2_with fail
  refine (HT.out _).mono ?_
  rintro e w5 ⟨rfl, hb5⟩
  have o5' := o4.below hb5 o4.lt
  have q5' := q4.below hb5 q4.lt
  have b5' := below_next b4 hb5
  clear hb5 o4 q4 b4 c0 c1 c2 c3 c4 l0 l1
  have o5 := o5'.alloc (.cells #[.int .u32 y1, .int .u32 y2, .string ⟨y3.toArray⟩] 34)
  have q5 := q5'.alloc (.cells #[.int .u32 y1, .int .u32 y2, .string ⟨y3.toArray⟩] 34)
  have b5 := b5'.alloc b5'.size (.cells #[.int .u32 y1, .int .u32 y2, .string ⟨y3.toArray⟩] 34)
  clear b5'
  have c0 := o5'.cell 0
  have c1 := o5'.cell 1
  have c2 := q5'.cell 0
  have c3 := q5'.cell 1
  have c4 := q5'.cell 2
  simp only [List.getElem?_toArray, List.getElem?_cons_zero, List.getElem?_cons_succ] at c0 c1 c2 c3 c4
  have l0 := o5'.lt
  have l1 := q5'.lt
  clear o5' q5'
  go_wp2_with fail
  refine (HA.out _).mono ?_
  rintro e w6 ⟨rfl, hb6⟩
  go_wp2
  go_ret
  exact ⟨rfl, below_next b5 hb6⟩

set_option maxRecDepth 100000 in
set_option maxHeartbeats 2000000 in
theorem optBack_0101 (k a1 a2 x1 y1 y2 : Nat) (d ad x2 y3 more s X Y xr yr Q : List UInt8) (er : Int) (HW : Hid (∀ W, Calls Try.prog 13 #[.agg #[.int .u32 k, .string ⟨d.toArray⟩]] W (Gives (.tuple #[.string ⟨(X).toArray⟩, .int .i64 11]) W))) (HN : Hid (∀ W, Calls Try.prog 15 #[.agg #[.int .u32 a1, .int .u32 a2, .string ⟨ad.toArray⟩]] W (Gives (.tuple #[.string ⟨(Y).toArray⟩, .int .i64 0]) W))) (HNB : Hid (∀ W, Calls Try.prog 19 #[.string ⟨(Y ++ more).toArray⟩] W (Gives (.tuple #[.agg #[.int .u32 a1, .int .u32 a2, .string ⟨ad.toArray⟩], .string ⟨(more).toArray⟩, .int .i64 0]) W))) (HR : Hid (∀ W, Calls Try.prog 17 #[.string ⟨(s).toArray⟩] W (Gives (.tuple #[.agg #[.int .u32 x1, .string ⟨x2.toArray⟩], .string ⟨(xr).toArray⟩, .int .i64 er]) W))) (HT : Hid (∀ W, Calls Try.prog 19 #[.string ⟨(s).toArray⟩] W (Gives (.tuple #[.agg #[.int .u32 y1, .int .u32 y2, .string ⟨y3.toArray⟩], .string ⟨(yr).toArray⟩, .int .i64 0]) W))) (HTW : Hid (∀ W, Calls Try.prog 15 #[.agg #[.int .u32 y1, .int .u32 y2, .string ⟨y3.toArray⟩]] W (Gives (.tuple #[.string ⟨(Q).toArray⟩, .int .i64 0]) W))) (hr0 : (er == 0) = false) (hQ : s = Q ++ yr)
    (h1 : d.length ≤ 10000) (h2 : ad.length ≤ 10000) (h3 : s.length ≤ 20000) (h4 : more.length ≤ 20000) (h6 : Y.length ≤ 20000) (h8 : Q.length + yr.length ≤ 40000) (w : World) :
    Calls Try.prog 5 #[.agg #[.int .u32 k, .string ⟨d.toArray⟩], .agg #[.int .u32 a1, .int .u32 a2, .string ⟨ad.toArray⟩], .string ⟨more.toArray⟩, .string ⟨s.toArray⟩] w (Gives (.bool true) w) := by
  have HA := Lib.hid awake_any
  have hs : (Q ++ yr == s) = true := by rw [hQ]; simp
  clear hQ
  go_enter Try.func5, Try.ntmps5
  have o0 : Blk ((w.alloc (.cells #[.int .u32 k, .string ⟨d.toArray⟩] 32)).alloc (.cells #[.int .u32 a1, .int .u32 a2, .string ⟨ad.toArray⟩] 34)) w.heap.size 32 #[.int .u32 k, .string ⟨d.toArray⟩] := (Blk.new w 32 #[.int .u32 k, .string ⟨d.toArray⟩]).alloc _
  have q0 : Blk ((w.alloc (.cells #[.int .u32 k, .string ⟨d.toArray⟩] 32)).alloc (.cells #[.int .u32 a1, .int .u32 a2, .string ⟨ad.toArray⟩] 34)) (w.heap.size + 1) 34 #[.int .u32 a1, .int .u32 a2, .string ⟨ad.toArray⟩] := Blk.newAt (by simp)
  have b0 : Below w.heap.size w ((w.alloc (.cells #[.int .u32 k, .string ⟨d.toArray⟩] 32)).alloc (.cells #[.int .u32 a1, .int .u32 a2, .string ⟨ad.toArray⟩] 34)) := ((Below.refl _ w).alloc (Nat.le_refl _) _).alloc (by simp) _
  go_wp2_with fail
  refine (HW.out _).mono ?_
  rintro e w1 ⟨rfl, hb1⟩
  have o1' := o0.below hb1 o0.lt
  have q1' := q0.below hb1 q0.lt
  have b1' := below_next b0 hb1
  clear hb1 o0 q0 b0
  have o1 := o1'
  have q1 := q1'
  have b1 := b1'
  have c0 := o1'.cell 0
  have c1 := o1'.cell 1
  have c2 := q1'.cell 0
  have c3 := q1'.cell 1
  have c4 := q1'.cell 2
  simp only [List.getElem?_toArray, List.getElem?_cons_zero, List.getElem?_cons_succ] at c0 c1 c2 c3 c4
  have l0 := o1'.lt
  have l1 := q1'.lt
  clear o1' q1'
  go_wp2_with fail
  refine (HN.out _).mono ?_
  rintro e w2 ⟨rfl, hb2⟩
  have o2' := o1.below hb2 o1.lt
  have q2' := q1.below hb2 q1.lt
  have b2' := below_next b1 hb2
  clear hb2 o1 q1 b1 c0 c1 c2 c3 c4 l0 l1
  have o2 := o2'
  have q2 := q2'
  have b2 := b2'
  have c0 := o2'.cell 0
  have c1 := o2'.cell 1
  have c2 := q2'.cell 0
  have c3 := q2'.cell 1
  have c4 := q2'.cell 2
  simp only [List.getElem?_toArray, List.getElem?_cons_zero, List.getElem?_cons_succ] at c0 c1 c2 c3 c4
  have l0 := o2'.lt
  have l1 := q2'.lt
  clear o2' q2'
  go_wp2_with fail
  refine (HNB.out _).mono ?_
  rintro e w3 ⟨rfl, hb3⟩
  have o3' := o2.below hb3 o2.lt
  have q3' := q2.below hb3 q2.lt
  have b3' := below_next b2 hb3
  clear hb3 o2 q2 b2 c0 c1 c2 c3 c4 l0 l1
  have o3 := o3'.alloc (.cells #[.int .u32 a1, .int .u32 a2, .string ⟨ad.toArray⟩] 34)
  have q3 := q3'.alloc (.cells #[.int .u32 a1, .int .u32 a2, .string ⟨ad.toArray⟩] 34)
  have b3 := b3'.alloc b3'.size (.cells #[.int .u32 a1, .int .u32 a2, .string ⟨ad.toArray⟩] 34)
  clear b3'
  have c0 := o3'.cell 0
  have c1 := o3'.cell 1
  have c2 := q3'.cell 0
  have c3 := q3'.cell 1
  have c4 := q3'.cell 2
  simp only [List.getElem?_toArray, List.getElem?_cons_zero, List.getElem?_cons_succ] at c0 c1 c2 c3 c4
  have l0 := o3'.lt
  have l1 := q3'.lt
  clear o3' q3'
  go_wp2_with fail
  refine (HR.out _).mono ?_
  rintro e w4 ⟨rfl, hb4⟩
  have o4' := o3.below hb4 o3.lt
  have q4' := q3.below hb4 q3.lt
  have b4' := below_next b3 hb4
  clear hb4 o3 q3 b3 c0 c1 c2 c3 c4 l0 l1
  have o4 := o4'.alloc (.cells #[.int .u32 x1, .string ⟨x2.toArray⟩] 32)
  have q4 := q4'.alloc (.cells #[.int .u32 x1, .string ⟨x2.toArray⟩] 32)
  have b4 := b4'.alloc b4'.size (.cells #[.int .u32 x1, .string ⟨x2.toArray⟩] 32)
  clear b4'
  have c0 := o4'.cell 0
  have c1 := o4'.cell 1
  have c2 := q4'.cell 0
  have c3 := q4'.cell 1
  have c4 := q4'.cell 2
  simp only [List.getElem?_toArray, List.getElem?_cons_zero, List.getElem?_cons_succ] at c0 c1 c2 c3 c4
  have l0 := o4'.lt
  have l1 := q4'.lt
  clear o4' q4'
  go_wp2_with fail
  refine (HT.out _).mono ?_
  rintro e w5 ⟨rfl, hb5⟩
  have o5' := o4.below hb5 o4.lt
  have q5' := q4.below hb5 q4.lt
  have b5' := below_next b4 hb5
  clear hb5 o4 q4 b4 c0 c1 c2 c3 c4 l0 l1
  have o5 := o5'.alloc (.cells #[.int .u32 y1, .int .u32 y2, .string ⟨y3.toArray⟩] 34)
  have q5 := q5'.alloc (.cells #[.int .u32 y1, .int .u32 y2, .string ⟨y3.toArray⟩] 34)
  have b5 := b5'.alloc b5'.size (.cells #[.int .u32 y1, .int .u32 y2, .string ⟨y3.toArray⟩] 34)
  clear b5'
  have c0 := o5'.cell 0
  have c1 := o5'.cell 1
  have c2 := q5'.cell 0
  have c3 := q5'.cell 1
  have c4 := q5'.cell 2
  simp only [List.getElem?_toArray, List.getElem?_cons_zero, List.getElem?_cons_succ] at c0 c1 c2 c3 c4
  have l0 := o5'.lt
  have l1 := q5'.lt
  clear o5' q5'
  go_wp2_with fail
  refine (HTW.out _).mono ?_
  rintro e w6 ⟨rfl, hb6⟩
  have o6' := o5.below hb6 o5.lt
  have q6' := q5.below hb6 q5.lt
  have b6' := below_next b5 hb6
  clear hb6 o5 q5 b5 c0 c1 c2 c3 c4 l0 l1
  have o6 := o6'
  have q6 := q6'
  have b6 := b6'
  have c0 := o6'.cell 0
  have c1 := o6'.cell 1
  have c2 := q6'.cell 0
  have c3 := q6'.cell 1
  have c4 := q6'.cell 2
  simp only [List.getElem?_toArray, List.getElem?_cons_zero, List.getElem?_cons_succ] at c0 c1 c2 c3 c4
  have l0 := o6'.lt
  have l1 := q6'.lt
  clear o6' q6'
  go_wp2_with fail
  refine (HA.out _).mono ?_
  rintro e w7 ⟨rfl, hb7⟩
  go_wp2
  go_ret
  exact ⟨rfl, below_next b6 hb7⟩

set_option maxRecDepth 100000 in
set_option maxHeartbeats 2000000 in
theorem optBack_0110 (k a1 a2 x1 y1 y2 : Nat) (d ad x2 y3 more s X Y xr yr P : List UInt8) (et : Int) (HW : Hid (∀ W, Calls Try.prog 13 #[.agg #[.int .u32 k, .string ⟨d.toArray⟩]] W (Gives (.tuple #[.string ⟨(X).toArray⟩, .int .i64 11]) W))) (HN : Hid (∀ W, Calls Try.prog 15 #[.agg #[.int .u32 a1, .int .u32 a2, .string ⟨ad.toArray⟩]] W (Gives (.tuple #[.string ⟨(Y).toArray⟩, .int .i64 0]) W))) (HNB : Hid (∀ W, Calls Try.prog 19 #[.string ⟨(Y ++ more).toArray⟩] W (Gives (.tuple #[.agg #[.int .u32 a1, .int .u32 a2, .string ⟨ad.toArray⟩], .string ⟨(more).toArray⟩, .int .i64 0]) W))) (HR : Hid (∀ W, Calls Try.prog 17 #[.string ⟨(s).toArray⟩] W (Gives (.tuple #[.agg #[.int .u32 x1, .string ⟨x2.toArray⟩], .string ⟨(xr).toArray⟩, .int .i64 0]) W))) (HRW : Hid (∀ W, Calls Try.prog 13 #[.agg #[.int .u32 x1, .string ⟨x2.toArray⟩]] W (Gives (.tuple #[.string ⟨(P).toArray⟩, .int .i64 0]) W))) (HT : Hid (∀ W, Calls Try.prog 19 #[.string ⟨(s).toArray⟩] W (Gives (.tuple #[.agg #[.int .u32 y1, .int .u32 y2, .string ⟨y3.toArray⟩], .string ⟨(yr).toArray⟩, .int .i64 et]) W))) (hP : s = P ++ xr) (ht0 : (et == 0) = false)
    (h1 : d.length ≤ 10000) (h2 : ad.length ≤ 10000) (h3 : s.length ≤ 20000) (h4 : more.length ≤ 20000) (h6 : Y.length ≤ 20000) (h7 : P.length + xr.length ≤ 40000) (w : World) :
    Calls Try.prog 5 #[.agg #[.int .u32 k, .string ⟨d.toArray⟩], .agg #[.int .u32 a1, .int .u32 a2, .string ⟨ad.toArray⟩], .string ⟨more.toArray⟩, .string ⟨s.toArray⟩] w (Gives (.bool true) w) := by
  have HA := Lib.hid awake_any
  have hs : (P ++ xr == s) = true := by rw [hP]; simp
  clear hP
  go_enter Try.func5, Try.ntmps5
  have o0 : Blk ((w.alloc (.cells #[.int .u32 k, .string ⟨d.toArray⟩] 32)).alloc (.cells #[.int .u32 a1, .int .u32 a2, .string ⟨ad.toArray⟩] 34)) w.heap.size 32 #[.int .u32 k, .string ⟨d.toArray⟩] := (Blk.new w 32 #[.int .u32 k, .string ⟨d.toArray⟩]).alloc _
  have q0 : Blk ((w.alloc (.cells #[.int .u32 k, .string ⟨d.toArray⟩] 32)).alloc (.cells #[.int .u32 a1, .int .u32 a2, .string ⟨ad.toArray⟩] 34)) (w.heap.size + 1) 34 #[.int .u32 a1, .int .u32 a2, .string ⟨ad.toArray⟩] := Blk.newAt (by simp)
  have b0 : Below w.heap.size w ((w.alloc (.cells #[.int .u32 k, .string ⟨d.toArray⟩] 32)).alloc (.cells #[.int .u32 a1, .int .u32 a2, .string ⟨ad.toArray⟩] 34)) := ((Below.refl _ w).alloc (Nat.le_refl _) _).alloc (by simp) _
  go_wp2_with fail
  refine (HW.out _).mono ?_
  rintro e w1 ⟨rfl, hb1⟩
  have o1' := o0.below hb1 o0.lt
  have q1' := q0.below hb1 q0.lt
  have b1' := below_next b0 hb1
  clear hb1 o0 q0 b0
  have o1 := o1'
  have q1 := q1'
  have b1 := b1'
  have c0 := o1'.cell 0
  have c1 := o1'.cell 1
  have c2 := q1'.cell 0
  have c3 := q1'.cell 1
  have c4 := q1'.cell 2
  simp only [List.getElem?_toArray, List.getElem?_cons_zero, List.getElem?_cons_succ] at c0 c1 c2 c3 c4
  have l0 := o1'.lt
  have l1 := q1'.lt
  clear o1' q1'
  go_wp2_with fail
  refine (HN.out _).mono ?_
  rintro e w2 ⟨rfl, hb2⟩
  have o2' := o1.below hb2 o1.lt
  have q2' := q1.below hb2 q1.lt
  have b2' := below_next b1 hb2
  clear hb2 o1 q1 b1 c0 c1 c2 c3 c4 l0 l1
  have o2 := o2'
  have q2 := q2'
  have b2 := b2'
  have c0 := o2'.cell 0
  have c1 := o2'.cell 1
  have c2 := q2'.cell 0
  have c3 := q2'.cell 1
  have c4 := q2'.cell 2
  simp only [List.getElem?_toArray, List.getElem?_cons_zero, List.getElem?_cons_succ] at c0 c1 c2 c3 c4
  have l0 := o2'.lt
  have l1 := q2'.lt
  clear o2' q2'
  go_wp2_with fail
  refine (HNB.out _).mono ?_
  rintro e w3 ⟨rfl, hb3⟩
  have o3' := o2.below hb3 o2.lt
  have q3' := q2.below hb3 q2.lt
  have b3' := below_next b2 hb3
  clear hb3 o2 q2 b2 c0 c1 c2 c3 c4 l0 l1
  have o3 := o3'.alloc (.cells #[.int .u32 a1, .int .u32 a2, .string ⟨ad.toArray⟩] 34)
  have q3 := q3'.alloc (.cells #[.int .u32 a1, .int .u32 a2, .string ⟨ad.toArray⟩] 34)
  have b3 := b3'.alloc b3'.size (.cells #[.int .u32 a1, .int .u32 a2, .string ⟨ad.toArray⟩] 34)
  clear b3'
  have c0 := o3'.cell 0
  have c1 := o3'.cell 1
  have c2 := q3'.cell 0
  have c3 := q3'.cell 1
  have c4 := q3'.cell 2
  simp only [List.getElem?_toArray, List.getElem?_cons_zero, List.getElem?_cons_succ] at c0 c1 c2 c3 c4
  have l0 := o3'.lt
  have l1 := q3'.lt
  clear o3' q3'
  go_wp2_with fail
  refine (HR.out _).mono ?_
  rintro e w4 ⟨rfl, hb4⟩
  have o4' := o3.below hb4 o3.lt
  have q4' := q3.below hb4 q3.lt
  have b4' := below_next b3 hb4
  clear hb4 o3 q3 b3 c0 c1 c2 c3 c4 l0 l1
  have o4 := o4'.alloc (.cells #[.int .u32 x1, .string ⟨x2.toArray⟩] 32)
  have q4 := q4'.alloc (.cells #[.int .u32 x1, .string ⟨x2.toArray⟩] 32)
  have b4 := b4'.alloc b4'.size (.cells #[.int .u32 x1, .string ⟨x2.toArray⟩] 32)
  clear b4'
  have c0 := o4'.cell 0
  have c1 := o4'.cell 1
  have c2 := q4'.cell 0
  have c3 := q4'.cell 1
  have c4 := q4'.cell 2
  simp only [List.getElem?_toArray, List.getElem?_cons_zero, List.getElem?_cons_succ] at c0 c1 c2 c3 c4
  have l0 := o4'.lt
  have l1 := q4'.lt
  clear o4' q4'
  go_wp2_with fail
  refine (HRW.out _).mono ?_
  rintro e w5 ⟨rfl, hb5⟩
  have o5' := o4.below hb5 o4.lt
  have q5' := q4.below hb5 q4.lt
  have b5' := below_next b4 hb5
  clear hb5 o4 q4 b4 c0 c1 c2 c3 c4 l0 l1
  have o5 := o5'
  have q5 := q5'
  have b5 := b5'
  have c0 := o5'.cell 0
  have c1 := o5'.cell 1
  have c2 := q5'.cell 0
  have c3 := q5'.cell 1
  have c4 := q5'.cell 2
  simp only [List.getElem?_toArray, List.getElem?_cons_zero, List.getElem?_cons_succ] at c0 c1 c2 c3 c4
  have l0 := o5'.lt
  have l1 := q5'.lt
  clear o5' q5'
  go_wp2_with fail
  refine (HT.out _).mono ?_
  rintro e w6 ⟨rfl, hb6⟩
  have o6' := o5.below hb6 o5.lt
  have q6' := q5.below hb6 q5.lt
  have b6' := below_next b5 hb6
  clear hb6 o5 q5 b5 c0 c1 c2 c3 c4 l0 l1
  have o6 := o6'.alloc (.cells #[.int .u32 y1, .int .u32 y2, .string ⟨y3.toArray⟩] 34)
  have q6 := q6'.alloc (.cells #[.int .u32 y1, .int .u32 y2, .string ⟨y3.toArray⟩] 34)
  have b6 := b6'.alloc b6'.size (.cells #[.int .u32 y1, .int .u32 y2, .string ⟨y3.toArray⟩] 34)
  clear b6'
  have c0 := o6'.cell 0
  have c1 := o6'.cell 1
  have c2 := q6'.cell 0
  have c3 := q6'.cell 1
  have c4 := q6'.cell 2
  simp only [List.getElem?_toArray, List.getElem?_cons_zero, List.getElem?_cons_succ] at c0 c1 c2 c3 c4
  have l0 := o6'.lt
  have l1 := q6'.lt
  clear o6' q6'
  go_wp2_with fail
  refine (HA.out _).mono ?_
  rintro e w7 ⟨rfl, hb7⟩
  go_wp2
  go_ret
  exact ⟨rfl, below_next b6 hb7⟩

set_option maxRecDepth 100000 in
set_option maxHeartbeats 2000000 in
theorem optBack_1000 (k a1 a2 x1 y1 y2 : Nat) (d ad x2 y3 more s X Y xr yr : List UInt8) (er : Int) (et : Int) (HW : Hid (∀ W, Calls Try.prog 13 #[.agg #[.int .u32 k, .string ⟨d.toArray⟩]] W (Gives (.tuple #[.string ⟨(X).toArray⟩, .int .i64 0]) W))) (HWB : Hid (∀ W, Calls Try.prog 17 #[.string ⟨(X ++ more).toArray⟩] W (Gives (.tuple #[.agg #[.int .u32 k, .string ⟨d.toArray⟩], .string ⟨(more).toArray⟩, .int .i64 0]) W))) (HN : Hid (∀ W, Calls Try.prog 15 #[.agg #[.int .u32 a1, .int .u32 a2, .string ⟨ad.toArray⟩]] W (Gives (.tuple #[.string ⟨(Y).toArray⟩, .int .i64 11]) W))) (HR : Hid (∀ W, Calls Try.prog 17 #[.string ⟨(s).toArray⟩] W (Gives (.tuple #[.agg #[.int .u32 x1, .string ⟨x2.toArray⟩], .string ⟨(xr).toArray⟩, .int .i64 er]) W))) (HT : Hid (∀ W, Calls Try.prog 19 #[.string ⟨(s).toArray⟩] W (Gives (.tuple #[.agg #[.int .u32 y1, .int .u32 y2, .string ⟨y3.toArray⟩], .string ⟨(yr).toArray⟩, .int .i64 et]) W))) (hr0 : (er == 0) = false) (ht0 : (et == 0) = false)
    (h1 : d.length ≤ 10000) (h2 : ad.length ≤ 10000) (h3 : s.length ≤ 20000) (h4 : more.length ≤ 20000) (h5 : X.length ≤ 20000) (w : World) :
    Calls Try.prog 5 #[.agg #[.int .u32 k, .string ⟨d.toArray⟩], .agg #[.int .u32 a1, .int .u32 a2, .string ⟨ad.toArray⟩], .string ⟨more.toArray⟩, .string ⟨s.toArray⟩] w (Gives (.bool true) w) := by
  have HA := Lib.hid awake_any
  go_enter Try.func5, Try.ntmps5
  have o0 : Blk ((w.alloc (.cells #[.int .u32 k, .string ⟨d.toArray⟩] 32)).alloc (.cells #[.int .u32 a1, .int .u32 a2, .string ⟨ad.toArray⟩] 34)) w.heap.size 32 #[.int .u32 k, .string ⟨d.toArray⟩] := (Blk.new w 32 #[.int .u32 k, .string ⟨d.toArray⟩]).alloc _
  have q0 : Blk ((w.alloc (.cells #[.int .u32 k, .string ⟨d.toArray⟩] 32)).alloc (.cells #[.int .u32 a1, .int .u32 a2, .string ⟨ad.toArray⟩] 34)) (w.heap.size + 1) 34 #[.int .u32 a1, .int .u32 a2, .string ⟨ad.toArray⟩] := Blk.newAt (by simp)
  have b0 : Below w.heap.size w ((w.alloc (.cells #[.int .u32 k, .string ⟨d.toArray⟩] 32)).alloc (.cells #[.int .u32 a1, .int .u32 a2, .string ⟨ad.toArray⟩] 34)) := ((Below.refl _ w).alloc (Nat.le_refl _) _).alloc (by simp) _
  go_wp2_with fail
  refine (HW.out _).mono ?_
  rintro e w1 ⟨rfl, hb1⟩
  have o1' := o0.below hb1 o0.lt
  have q1' := q0.below hb1 q0.lt
  have b1' := below_next b0 hb1
  clear hb1 o0 q0 b0
  have o1 := o1'
  have q1 := q1'
  have b1 := b1'
  have c0 := o1'.cell 0
  have c1 := o1'.cell 1
  have c2 := q1'.cell 0
  have c3 := q1'.cell 1
  have c4 := q1'.cell 2
  simp only [List.getElem?_toArray, List.getElem?_cons_zero, List.getElem?_cons_succ] at c0 c1 c2 c3 c4
  have l0 := o1'.lt
  have l1 := q1'.lt
  clear o1' q1'
  go_wp2_with fail
  refine (HWB.out _).mono ?_
  rintro e w2 ⟨rfl, hb2⟩
  have o2' := o1.below hb2 o1.lt
  have q2' := q1.below hb2 q1.lt
  have b2' := below_next b1 hb2
  clear hb2 o1 q1 b1 c0 c1 c2 c3 c4 l0 l1
  have o2 := o2'.alloc (.cells #[.int .u32 k, .string ⟨d.toArray⟩] 32)
  have q2 := q2'.alloc (.cells #[.int .u32 k, .string ⟨d.toArray⟩] 32)
  have b2 := b2'.alloc b2'.size (.cells #[.int .u32 k, .string ⟨d.toArray⟩] 32)
  clear b2'
  have c0 := o2'.cell 0
  have c1 := o2'.cell 1
  have c2 := q2'.cell 0
  have c3 := q2'.cell 1
  have c4 := q2'.cell 2
  simp only [List.getElem?_toArray, List.getElem?_cons_zero, List.getElem?_cons_succ] at c0 c1 c2 c3 c4
  have l0 := o2'.lt
  have l1 := q2'.lt
  clear o2' q2'
  go_wp2_with fail
  refine (HN.out _).mono ?_
  rintro e w3 ⟨rfl, hb3⟩
  have o3' := o2.below hb3 o2.lt
  have q3' := q2.below hb3 q2.lt
  have b3' := below_next b2 hb3
  clear hb3 o2 q2 b2 c0 c1 c2 c3 c4 l0 l1
  have o3 := o3'
  have q3 := q3'
  have b3 := b3'
  have c0 := o3'.cell 0
  have c1 := o3'.cell 1
  have c2 := q3'.cell 0
  have c3 := q3'.cell 1
  have c4 := q3'.cell 2
  simp only [List.getElem?_toArray, List.getElem?_cons_zero, List.getElem?_cons_succ] at c0 c1 c2 c3 c4
  have l0 := o3'.lt
  have l1 := q3'.lt
  clear o3' q3'
  go_wp2_with fail
  refine (HR.out _).mono ?_
  rintro e w4 ⟨rfl, hb4⟩
  have o4' := o3.below hb4 o3.lt
  have q4' := q3.below hb4 q3.lt
  have b4' := below_next b3 hb4
  clear hb4 o3 q3 b3 c0 c1 c2 c3 c4 l0 l1
  have o4 := o4'.alloc (.cells #[.int .u32 x1, .string ⟨x2.toArray⟩] 32)
  have q4 := q4'.alloc (.cells #[.int .u32 x1, .string ⟨x2.toArray⟩] 32)
  have b4 := b4'.alloc b4'.size (.cells #[.int .u32 x1, .string ⟨x2.toArray⟩] 32)
  clear b4'
  have c0 := o4'.cell 0
  have c1 := o4'.cell 1
  have c2 := q4'.cell 0
  have c3 := q4'.cell 1
  have c4 := q4'.cell 2
  simp only [List.getElem?_toArray, List.getElem?_cons_zero, List.getElem?_cons_succ] at c0 c1 c2 c3 c4
  have l0 := o4'.lt
  have l1 := q4'.lt
  clear o4' q4'
  go_wp2_with fail
  refine (HT.out _).mono ?_
  rintro e w5 ⟨rfl, hb5⟩
  have o5' := o4.below hb5 o4.lt
  have q5' := q4.below hb5 q4.lt
  have b5' := below_next b4 hb5
  clear hb5 o4 q4 b4 c0 c1 c2 c3 c4 l0 l1
  have o5 := o5'.alloc (.cells #[.int .u32 y1, .int .u32 y2, .string ⟨y3.toArray⟩] 34)
  have q5 := q5'.alloc (.cells #[.int .u32 y1, .int .u32 y2, .string ⟨y3.toArray⟩] 34)
  have b5 := b5'.alloc b5'.size (.cells #[.int .u32 y1, .int .u32 y2, .string ⟨y3.toArray⟩] 34)
  clear b5'
  have c0 := o5'.cell 0
  have c1 := o5'.cell 1
  have c2 := q5'.cell 0
  have c3 := q5'.cell 1
  have c4 := q5'.cell 2
  simp only [List.getElem?_toArray, List.getElem?_cons_zero, List.getElem?_cons_succ] at c0 c1 c2 c3 c4
  have l0 := o5'.lt
  have l1 := q5'.lt
  clear o5' q5'
  go_wp2_with fail
  refine (HA.out _).mono ?_
  rintro e w6 ⟨rfl, hb6⟩
  go_wp2
  go_ret
  exact ⟨rfl, below_next b5 hb6⟩

set_option maxRecDepth 100000 in
set_option maxHeartbeats 2000000 in
theorem optBack_1001 (k a1 a2 x1 y1 y2 : Nat) (d ad x2 y3 more s X Y xr yr Q : List UInt8) (er : Int) (HW : Hid (∀ W, Calls Try.prog 13 #[.agg #[.int .u32 k, .string ⟨d.toArray⟩]] W (Gives (.tuple #[.string ⟨(X).toArray⟩, .int .i64 0]) W))) (HWB : Hid (∀ W, Calls Try.prog 17 #[.string ⟨(X ++ more).toArray⟩] W (Gives (.tuple #[.agg #[.int .u32 k, .string ⟨d.toArray⟩], .string ⟨(more).toArray⟩, .int .i64 0]) W))) (HN : Hid (∀ W, Calls Try.prog 15 #[.agg #[.int .u32 a1, .int .u32 a2, .string ⟨ad.toArray⟩]] W (Gives (.tuple #[.string ⟨(Y).toArray⟩, .int .i64 11]) W))) (HR : Hid (∀ W, Calls Try.prog 17 #[.string ⟨(s).toArray⟩] W (Gives (.tuple #[.agg #[.int .u32 x1, .string ⟨x2.toArray⟩], .string ⟨(xr).toArray⟩, .int .i64 er]) W))) (HT : Hid (∀ W, Calls Try.prog 19 #[.string ⟨(s).toArray⟩] W (Gives (.tuple #[.agg #[.int .u32 y1, .int .u32 y2, .string ⟨y3.toArray⟩], .string ⟨(yr).toArray⟩, .int .i64 0]) W))) (HTW : Hid (∀ W, Calls Try.prog 15 #[.agg #[.int .u32 y1, .int .u32 y2, .string ⟨y3.toArray⟩]] W (Gives (.tuple #[.string ⟨(Q).toArray⟩, .int .i64 0]) W))) (hr0 : (er == 0) = false) (hQ : s = Q ++ yr)
    (h1 : d.length ≤ 10000) (h2 : ad.length ≤ 10000) (h3 : s.length ≤ 20000) (h4 : more.length ≤ 20000) (h5 : X.length ≤ 20000) (h8 : Q.length + yr.length ≤ 40000) (w : World) :
    Calls Try.prog 5 #[.agg #[.int .u32 k, .string ⟨d.toArray⟩], .agg #[.int .u32 a1, .int .u32 a2, .string ⟨ad.toArray⟩], .string ⟨more.toArray⟩, .string ⟨s.toArray⟩] w (Gives (.bool true) w) := by
  have HA := Lib.hid awake_any
  have hs : (Q ++ yr == s) = true := by rw [hQ]; simp
  clear hQ
  go_enter Try.func5, Try.ntmps5
  have o0 : Blk ((w.alloc (.cells #[.int .u32 k, .string ⟨d.toArray⟩] 32)).alloc (.cells #[.int .u32 a1, .int .u32 a2, .string ⟨ad.toArray⟩] 34)) w.heap.size 32 #[.int .u32 k, .string ⟨d.toArray⟩] := (Blk.new w 32 #[.int .u32 k, .string ⟨d.toArray⟩]).alloc _
  have q0 : Blk ((w.alloc (.cells #[.int .u32 k, .string ⟨d.toArray⟩] 32)).alloc (.cells #[.int .u32 a1, .int .u32 a2, .string ⟨ad.toArray⟩] 34)) (w.heap.size + 1) 34 #[.int .u32 a1, .int .u32 a2, .string ⟨ad.toArray⟩] := Blk.newAt (by simp)
  have b0 : Below w.heap.size w ((w.alloc (.cells #[.int .u32 k, .string ⟨d.toArray⟩] 32)).alloc (.cells #[.int .u32 a1, .int .u32 a2, .string ⟨ad.toArray⟩] 34)) := ((Below.refl _ w).alloc (Nat.le_refl _) _).alloc (by simp) _
  go_wp2_with fail
  refine (HW.out _).mono ?_
  rintro e w1 ⟨rfl, hb1⟩
  have o1' := o0.below hb1 o0.lt
  have q1' := q0.below hb1 q0.lt
  have b1' := below_next b0 hb1
  clear hb1 o0 q0 b0
  have o1 := o1'
  have q1 := q1'
  have b1 := b1'
  have c0 := o1'.cell 0
  have c1 := o1'.cell 1
  have c2 := q1'.cell 0
  have c3 := q1'.cell 1
  have c4 := q1'.cell 2
  simp only [List.getElem?_toArray, List.getElem?_cons_zero, List.getElem?_cons_succ] at c0 c1 c2 c3 c4
  have l0 := o1'.lt
  have l1 := q1'.lt
  clear o1' q1'
  go_wp2_with fail
  refine (HWB.out _).mono ?_
  rintro e w2 ⟨rfl, hb2⟩
  have o2' := o1.below hb2 o1.lt
  have q2' := q1.below hb2 q1.lt
  have b2' := below_next b1 hb2
  clear hb2 o1 q1 b1 c0 c1 c2 c3 c4 l0 l1
  have o2 := o2'.alloc (.cells #[.int .u32 k, .string ⟨d.toArray⟩] 32)
  have q2 := q2'.alloc (.cells #[.int .u32 k, .string ⟨d.toArray⟩] 32)
  have b2 := b2'.alloc b2'.size (.cells #[.int .u32 k, .string ⟨d.toArray⟩] 32)
  clear b2'
  have c0 := o2'.cell 0
  have c1 := o2'.cell 1
  have c2 := q2'.cell 0
  have c3 := q2'.cell 1
  have c4 := q2'.cell 2
  simp only [List.getElem?_toArray, List.getElem?_cons_zero, List.getElem?_cons_succ] at c0 c1 c2 c3 c4
  have l0 := o2'.lt
  have l1 := q2'.lt
  clear o2' q2'
  go_wp2_with fail
  refine (HN.out _).mono ?_
  rintro e w3 ⟨rfl, hb3⟩
  have o3' := o2.below hb3 o2.lt
  have q3' := q2.below hb3 q2.lt
  have b3' := below_next b2 hb3
  clear hb3 o2 q2 b2 c0 c1 c2 c3 c4 l0 l1
  have o3 := o3'
  have q3 := q3'
  have b3 := b3'
  have c0 := o3'.cell 0
  have c1 := o3'.cell 1
  have c2 := q3'.cell 0
  have c3 := q3'.cell 1
  have c4 := q3'.cell 2
  simp only [List.getElem?_toArray, List.getElem?_cons_zero, List.getElem?_cons_succ] at c0 c1 c2 c3 c4
  have l0 := o3'.lt
  have l1 := q3'.lt
  clear o3' q3'
  go_wp2_with fail
  refine (HR.out _).mono ?_
  rintro e w4 ⟨rfl, hb4⟩
  have o4' := o3.below hb4 o3.lt
  have q4' := q3.below hb4 q3.lt
  have b4' := below_next b3 hb4
  clear hb4 o3 q3 b3 c0 c1 c2 c3 c4 l0 l1
  have o4 := o4'.alloc (.cells #[.int .u32 x1, .string ⟨x2.toArray⟩] 32)
  have q4 := q4'.alloc (.cells #[.int .u32 x1, .string ⟨x2.toArray⟩] 32)
  have b4 := b4'.alloc b4'.size (.cells #[.int .u32 x1, .string ⟨x2.toArray⟩] 32)
  clear b4'
  have c0 := o4'.cell 0
  have c1 := o4'.cell 1
  have c2 := q4'.cell 0
  have c3 := q4'.cell 1
  have c4 := q4'.cell 2
  simp only [List.getElem?_toArray, List.getElem?_cons_zero, List.getElem?_cons_succ] at c0 c1 c2 c3 c4
  have l0 := o4'.lt
  have l1 := q4'.lt
  clear o4' q4'
  go_wp2_with fail
  refine (HT.out _).mono ?_
  rintro e w5 ⟨rfl, hb5⟩
  have o5' := o4.below hb5 o4.lt
  have q5' := q4.below hb5 q4.lt
  have b5' := below_next b4 hb5
  clear hb5 o4 q4 b4 c0 c1 c2 c3 c4 l0 l1
  have o5 := o5'.alloc (.cells #[.int .u32 y1, .int .u32 y2, .string ⟨y3.toArray⟩] 34)
  have q5 := q5'.alloc (.cells #[.int .u32 y1, .int .u32 y2, .string ⟨y3.toArray⟩] 34)
  have b5 := b5'.alloc b5'.size (.cells #[.int .u32 y1, .int .u32 y2, .string ⟨y3.toArray⟩] 34)
  clear b5'
  have c0 := o5'.cell 0
  have c1 := o5'.cell 1
  have c2 := q5'.cell 0
  have c3 := q5'.cell 1
  have c4 := q5'.cell 2
  simp only [List.getElem?_toArray, List.getElem?_cons_zero, List.getElem?_cons_succ] at c0 c1 c2 c3 c4
  have l0 := o5'.lt
  have l1 := q5'.lt
  clear o5' q5'
  go_wp2_with fail
  refine (HTW.out _).mono ?_
  rintro e w6 ⟨rfl, hb6⟩
  have o6' := o5.below hb6 o5.lt
  have q6' := q5.below hb6 q5.lt
  have b6' := below_next b5 hb6
  clear hb6 o5 q5 b5 c0 c1 c2 c3 c4 l0 l1
  have o6 := o6'
  have q6 := q6'
  have b6 := b6'
  have c0 := o6'.cell 0
  have c1 := o6'.cell 1
  have c2 := q6'.cell 0
  have c3 := q6'.cell 1
  have c4 := q6'.cell 2
  simp only [List.getElem?_toArray, List.getElem?_cons_zero, List.getElem?_cons_succ] at c0 c1 c2 c3 c4
  have l0 := o6'.lt
  have l1 := q6'.lt
  clear o6' q6'
  go_wp2_with fail
  refine (HA.out _).mono ?_
  rintro e w7 ⟨rfl, hb7⟩
  go_wp2
  go_ret
  exact ⟨rfl, below_next b6 hb7⟩

set_option maxRecDepth 100000 in
set_option maxHeartbeats 2000000 in
theorem optBack_1010 (k a1 a2 x1 y1 y2 : Nat) (d ad x2 y3 more s X Y xr yr P : List UInt8) (et : Int) (HW : Hid (∀ W, Calls Try.prog 13 #[.agg #[.int .u32 k, .string ⟨d.toArray⟩]] W (Gives (.tuple #[.string ⟨(X).toArray⟩, .int .i64 0]) W))) (HWB : Hid (∀ W, Calls Try.prog 17 #[.string ⟨(X ++ more).toArray⟩] W (Gives (.tuple #[.agg #[.int .u32 k, .string ⟨d.toArray⟩], .string ⟨(more).toArray⟩, .int .i64 0]) W))) (HN : Hid (∀ W, Calls Try.prog 15 #[.agg #[.int .u32 a1, .int .u32 a2, .string ⟨ad.toArray⟩]] W (Gives (.tuple #[.string ⟨(Y).toArray⟩, .int .i64 11]) W))) (HR : Hid (∀ W, Calls Try.prog 17 #[.string ⟨(s).toArray⟩] W (Gives (.tuple #[.agg #[.int .u32 x1, .string ⟨x2.toArray⟩], .string ⟨(xr).toArray⟩, .int .i64 0]) W))) (HRW : Hid (∀ W, Calls Try.prog 13 #[.agg #[.int .u32 x1, .string ⟨x2.toArray⟩]] W (Gives (.tuple #[.string ⟨(P).toArray⟩, .int .i64 0]) W))) (HT : Hid (∀ W, Calls Try.prog 19 #[.string ⟨(s).toArray⟩] W (Gives (.tuple #[.agg #[.int .u32 y1, .int .u32 y2, .string ⟨y3.toArray⟩], .string ⟨(yr).toArray⟩, .int .i64 et]) W))) (hP : s = P ++ xr) (ht0 : (et == 0) = false)
    (h1 : d.length ≤ 10000) (h2 : ad.length ≤ 10000) (h3 : s.length ≤ 20000) (h4 : more.length ≤ 20000) (h5 : X.length ≤ 20000) (h7 : P.length + xr.length ≤ 40000) (w : World) :
    Calls Try.prog 5 #[.agg #[.int .u32 k, .string ⟨d.toArray⟩], .agg #[.int .u32 a1, .int .u32 a2, .string ⟨ad.toArray⟩], .string ⟨more.toArray⟩, .string ⟨s.toArray⟩] w (Gives (.bool true) w) := by
  have HA := Lib.hid awake_any
  have hs : (P ++ xr == s) = true := by rw [hP]; simp
  clear hP
  go_enter Try.func5, Try.ntmps5
  have o0 : Blk ((w.alloc (.cells #[.int .u32 k, .string ⟨d.toArray⟩] 32)).alloc (.cells #[.int .u32 a1, .int .u32 a2, .string ⟨ad.toArray⟩] 34)) w.heap.size 32 #[.int .u32 k, .string ⟨d.toArray⟩] := (Blk.new w 32 #[.int .u32 k, .string ⟨d.toArray⟩]).alloc _
  have q0 : Blk ((w.alloc (.cells #[.int .u32 k, .string ⟨d.toArray⟩] 32)).alloc (.cells #[.int .u32 a1, .int .u32 a2, .string ⟨ad.toArray⟩] 34)) (w.heap.size + 1) 34 #[.int .u32 a1, .int .u32 a2, .string ⟨ad.toArray⟩] := Blk.newAt (by simp)
  have b0 : Below w.heap.size w ((w.alloc (.cells #[.int .u32 k, .string ⟨d.toArray⟩] 32)).alloc (.cells #[.int .u32 a1, .int .u32 a2, .string ⟨ad.toArray⟩] 34)) := ((Below.refl _ w).alloc (Nat.le_refl _) _).alloc (by simp) _
  go_wp2_with fail
  refine (HW.out _).mono ?_
  rintro e w1 ⟨rfl, hb1⟩
  have o1' := o0.below hb1 o0.lt
  have q1' := q0.below hb1 q0.lt
  have b1' := below_next b0 hb1
  clear hb1 o0 q0 b0
  have o1 := o1'
  have q1 := q1'
  have b1 := b1'
  have c0 := o1'.cell 0
  have c1 := o1'.cell 1
  have c2 := q1'.cell 0
  have c3 := q1'.cell 1
  have c4 := q1'.cell 2
  simp only [List.getElem?_toArray, List.getElem?_cons_zero, List.getElem?_cons_succ] at c0 c1 c2 c3 c4
  have l0 := o1'.lt
  have l1 := q1'.lt
  clear o1' q1'
  go_wp2_with fail
  refine (HWB.out _).mono ?_
  rintro e w2 ⟨rfl, hb2⟩
  have o2' := o1.below hb2 o1.lt
  have q2' := q1.below hb2 q1.lt
  have b2' := below_next b1 hb2
  clear hb2 o1 q1 b1 c0 c1 c2 c3 c4 l0 l1
  have o2 := o2'.alloc (.cells #[.int .u32 k, .string ⟨d.toArray⟩] 32)
  have q2 := q2'.alloc (.cells #[.int .u32 k, .string ⟨d.toArray⟩] 32)
  have b2 := b2'.alloc b2'.size (.cells #[.int .u32 k, .string ⟨d.toArray⟩] 32)
  clear b2'
  have c0 := o2'.cell 0
  have c1 := o2'.cell 1
  have c2 := q2'.cell 0
  have c3 := q2'.cell 1
  have c4 := q2'.cell 2
  simp only [List.getElem?_toArray, List.getElem?_cons_zero, List.getElem?_cons_succ] at c0 c1 c2 c3 c4
  have l0 := o2'.lt
  have l1 := q2'.lt
  clear o2' q2'
  go_wp2_with fail
  refine (HN.out _).mono ?_
  rintro e w3 ⟨rfl, hb3⟩
  have o3' := o2.below hb3 o2.lt
  have q3' := q2.below hb3 q2.lt
  have b3' := below_next b2 hb3
  clear hb3 o2 q2 b2 c0 c1 c2 c3 c4 l0 l1
  have o3 := o3'
  have q3 := q3'
  have b3 := b3'
  have c0 := o3'.cell 0
  have c1 := o3'.cell 1
  have c2 := q3'.cell 0
  have c3 := q3'.cell 1
  have c4 := q3'.cell 2
  simp only [List.getElem?_toArray, List.getElem?_cons_zero, List.getElem?_cons_succ] at c0 c1 c2 c3 c4
  have l0 := o3'.lt
  have l1 := q3'.lt
  clear o3' q3'
  go_wp2_with fail
  refine (HR.out _).mono ?_
  rintro e w4 ⟨rfl, hb4⟩
  have o4' := o3.below hb4 o3.lt
  have q4' := q3.below hb4 q3.lt
  have b4' := below_next b3 hb4
  clear hb4 o3 q3 b3 c0 c1 c2 c3 c4 l0 l1
  have o4 := o4'.alloc (.cells #[.int .u32 x1, .string ⟨x2.toArray⟩] 32)
  have q4 := q4'.alloc (.cells #[.int .u32 x1, .string ⟨x2.toArray⟩] 32)
  have b4 := b4'.alloc b4'.size (.cells #[.int .u32 x1, .string ⟨x2.toArray⟩] 32)
  clear b4'
  have c0 := o4'.cell 0
  have c1 := o4'.cell 1
  have c2 := q4'.cell 0
  have c3 := q4'.cell 1
  have c4 := q4'.cell 2
  simp only [List.getElem?_toArray, List.getElem?_cons_zero, List.getElem?_cons_succ] at c0 c1 c2 c3 c4
  have l0 := o4'.lt
  have l1 := q4'.lt
  clear o4' q4'
  go_wp2_with fail
  refine (HRW.out _).mono ?_
  rintro e w5 ⟨rfl, hb5⟩
  have o5' := o4.below hb5 o4.lt
  have q5' := q4.below hb5 q4.lt
  have b5' := below_next b4 hb5
  clear hb5 o4 q4 b4 c0 c1 c2 c3 c4 l0 l1
  have o5 := o5'
  have q5 := q5'
  have b5 := b5'
  have c0 := o5'.cell 0
  have c1 := o5'.cell 1
  have c2 := q5'.cell 0
  have c3 := q5'.cell 1
  have c4 := q5'.cell 2
  simp only [List.getElem?_toArray, List.getElem?_cons_zero, List.getElem?_cons_succ] at c0 c1 c2 c3 c4
  have l0 := o5'.lt
  have l1 := q5'.lt
  clear o5' q5'
  go_wp2_with fail
  refine (HT.out _).mono ?_
  rintro e w6 ⟨rfl, hb6⟩
  have o6' := o5.below hb6 o5.lt
  have q6' := q5.below hb6 q5.lt
  have b6' := below_next b5 hb6
  clear hb6 o5 q5 b5 c0 c1 c2 c3 c4 l0 l1
  have o6 := o6'.alloc (.cells #[.int .u32 y1, .int .u32 y2, .string ⟨y3.toArray⟩] 34)
  have q6 := q6'.alloc (.cells #[.int .u32 y1, .int .u32 y2, .string ⟨y3.toArray⟩] 34)
  have b6 := b6'.alloc b6'.size (.cells #[.int .u32 y1, .int .u32 y2, .string ⟨y3.toArray⟩] 34)
  clear b6'
  have c0 := o6'.cell 0
  have c1 := o6'.cell 1
  have c2 := q6'.cell 0
  have c3 := q6'.cell 1
  have c4 := q6'.cell 2
  simp only [List.getElem?_toArray, List.getElem?_cons_zero, List.getElem?_cons_succ] at c0 c1 c2 c3 c4
  have l0 := o6'.lt
  have l1 := q6'.lt
  clear o6' q6'
  go_wp2_with fail
  refine (HA.out _).mono ?_
  rintro e w7 ⟨rfl, hb7⟩
  go_wp2
  go_ret
  exact ⟨rfl, below_next b6 hb7⟩

set_option maxRecDepth 100000 in
set_option maxHeartbeats 2000000 in
theorem optBack_1100 (k a1 a2 x1 y1 y2 : Nat) (d ad x2 y3 more s X Y xr yr : List UInt8) (er : Int) (et : Int) (HW : Hid (∀ W, Calls Try.prog 13 #[.agg #[.int .u32 k, .string ⟨d.toArray⟩]] W (Gives (.tuple #[.string ⟨(X).toArray⟩, .int .i64 0]) W))) (HWB : Hid (∀ W, Calls Try.prog 17 #[.string ⟨(X ++ more).toArray⟩] W (Gives (.tuple #[.agg #[.int .u32 k, .string ⟨d.toArray⟩], .string ⟨(more).toArray⟩, .int .i64 0]) W))) (HN : Hid (∀ W, Calls Try.prog 15 #[.agg #[.int .u32 a1, .int .u32 a2, .string ⟨ad.toArray⟩]] W (Gives (.tuple #[.string ⟨(Y).toArray⟩, .int .i64 0]) W))) (HNB : Hid (∀ W, Calls Try.prog 19 #[.string ⟨(Y ++ more).toArray⟩] W (Gives (.tuple #[.agg #[.int .u32 a1, .int .u32 a2, .string ⟨ad.toArray⟩], .string ⟨(more).toArray⟩, .int .i64 0]) W))) (HR : Hid (∀ W, Calls Try.prog 17 #[.string ⟨(s).toArray⟩] W (Gives (.tuple #[.agg #[.int .u32 x1, .string ⟨x2.toArray⟩], .string ⟨(xr).toArray⟩, .int .i64 er]) W))) (HT : Hid (∀ W, Calls Try.prog 19 #[.string ⟨(s).toArray⟩] W (Gives (.tuple #[.agg #[.int .u32 y1, .int .u32 y2, .string ⟨y3.toArray⟩], .string ⟨(yr).toArray⟩, .int .i64 et]) W))) (hr0 : (er == 0) = false) (ht0 : (et == 0) = false)
    (h1 : d.length ≤ 10000) (h2 : ad.length ≤ 10000) (h3 : s.length ≤ 20000) (h4 : more.length ≤ 20000) (h5 : X.length ≤ 20000) (h6 : Y.length ≤ 20000) (w : World) :
    Calls Try.prog 5 #[.agg #[.int .u32 k, .string ⟨d.toArray⟩], .agg #[.int .u32 a1, .int .u32 a2, .string ⟨ad.toArray⟩], .string ⟨more.toArray⟩, .string ⟨s.toArray⟩] w (Gives (.bool true) w) := by
  have HA := Lib.hid awake_any
  go_enter Try.func5, Try.ntmps5
  have o0 : Blk ((w.alloc (.cells #[.int .u32 k, .string ⟨d.toArray⟩] 32)).alloc (.cells #[.int .u32 a1, .int .u32 a2, .string ⟨ad.toArray⟩] 34)) w.heap.size 32 #[.int .u32 k, .string ⟨d.toArray⟩] := (Blk.new w 32 #[.int .u32 k, .string ⟨d.toArray⟩]).alloc _
  have q0 : Blk ((w.alloc (.cells #[.int .u32 k, .string ⟨d.toArray⟩] 32)).alloc (.cells #[.int .u32 a1, .int .u32 a2, .string ⟨ad.toArray⟩] 34)) (w.heap.size + 1) 34 #[.int .u32 a1, .int .u32 a2, .string ⟨ad.toArray⟩] := Blk.newAt (by simp)
  have b0 : Below w.heap.size w ((w.alloc (.cells #[.int .u32 k, .string ⟨d.toArray⟩] 32)).alloc (.cells #[.int .u32 a1, .int .u32 a2, .string ⟨ad.toArray⟩] 34)) := ((Below.refl _ w).alloc (Nat.le_refl _) _).alloc (by simp) _
  go_wp2_with fail
  refine (HW.out _).mono ?_
  rintro e w1 ⟨rfl, hb1⟩
  have o1' := o0.below hb1 o0.lt
  have q1' := q0.below hb1 q0.lt
  have b1' := below_next b0 hb1
  clear hb1 o0 q0 b0
  have o1 := o1'
  have q1 := q1'
  have b1 := b1'
  have c0 := o1'.cell 0
  have c1 := o1'.cell 1
  have c2 := q1'.cell 0
  have c3 := q1'.cell 1
  have c4 := q1'.cell 2
  simp only [List.getElem?_toArray, List.getElem?_cons_zero, List.getElem?_cons_succ] at c0 c1 c2 c3 c4
  have l0 := o1'.lt
  have l1 := q1'.lt
  clear o1' q1'
  go_wp2_with fail
  refine (HWB.out _).mono ?_
  rintro e w2 ⟨rfl, hb2⟩
  have o2' := o1.below hb2 o1.lt
  have q2' := q1.below hb2 q1.lt
  have b2' := below_next b1 hb2
  clear hb2 o1 q1 b1 c0 c1 c2 c3 c4 l0 l1
  have o2 := o2'.alloc (.cells #[.int .u32 k, .string ⟨d.toArray⟩] 32)
  have q2 := q2'.alloc (.cells #[.int .u32 k, .string ⟨d.toArray⟩] 32)
  have b2 := b2'.alloc b2'.size (.cells #[.int .u32 k, .string ⟨d.toArray⟩] 32)
  clear b2'
  have c0 := o2'.cell 0
  have c1 := o2'.cell 1
  have c2 := q2'.cell 0
  have c3 := q2'.cell 1
  have c4 := q2'.cell 2
  simp only [List.getElem?_toArray, List.getElem?_cons_zero, List.getElem?_cons_succ] at c0 c1 c2 c3 c4
  have l0 := o2'.lt
  have l1 := q2'.lt
  clear o2' q2'
  go_wp2_with fail
  refine (HN.out _).mono ?_
  rintro e w3 ⟨rfl, hb3⟩
  have o3' := o2.below hb3 o2.lt
  have q3' := q2.below hb3 q2.lt
  have b3' := below_next b2 hb3
  clear hb3 o2 q2 b2 c0 c1 c2 c3 c4 l0 l1
  have o3 := o3'
  have q3 := q3'
  have b3 := b3'
  have c0 := o3'.cell 0
  have c1 := o3'.cell 1
  have c2 := q3'.cell 0
  have c3 := q3'.cell 1
  have c4 := q3'.cell 2
  simp only [List.getElem?_toArray, List.getElem?_cons_zero, List.getElem?_cons_succ] at c0 c1 c2 c3 c4
  have l0 := o3'.lt
  have l1 := q3'.lt
  clear o3' q3'
  go_wp2_with fail
  refine (HNB.out _).mono ?_
  rintro e w4 ⟨rfl, hb4⟩
  have o4' := o3.below hb4 o3.lt
  have q4' := q3.below hb4 q3.lt
  have b4' := below_next b3 hb4
  clear hb4 o3 q3 b3 c0 c1 c2 c3 c4 l0 l1
  have o4 := o4'.alloc (.cells #[.int .u32 a1, .int .u32 a2, .string ⟨ad.toArray⟩] 34)
  have q4 := q4'.alloc (.cells #[.int .u32 a1, .int .u32 a2, .string ⟨ad.toArray⟩] 34)
  have b4 := b4'.alloc b4'.size (.cells #[.int .u32 a1, .int .u32 a2, .string ⟨ad.toArray⟩] 34)
  clear b4'
  have c0 := o4'.cell 0
  have c1 := o4'.cell 1
  have c2 := q4'.cell 0
  have c3 := q4'.cell 1
  have c4 := q4'.cell 2
  simp only [List.getElem?_toArray, List.getElem?_cons_zero, List.getElem?_cons_succ] at c0 c1 c2 c3 c4
  have l0 := o4'.lt
  have l1 := q4'.lt
  clear o4' q4'
  go_wp2_with fail
  refine (HR.out _).mono ?_
  rintro e w5 ⟨rfl, hb5⟩
  have o5' := o4.below hb5 o4.lt
  have q5' := q4.below hb5 q4.lt
  have b5' := below_next b4 hb5
  clear hb5 o4 q4 b4 c0 c1 c2 c3 c4 l0 l1
  have o5 := o5'.alloc (.cells #[.int .u32 x1, .string ⟨x2.toArray⟩] 32)
  have q5 := q5'.alloc (.cells #[.int .u32 x1, .string ⟨x2.toArray⟩] 32)
  have b5 := b5'.alloc b5'.size (.cells #[.int .u32 x1, .string ⟨x2.toArray⟩] 32)
  clear b5'
  have c0 := o5'.cell 0
  have c1 := o5'.cell 1
  have c2 := q5'.cell 0
  have c3 := q5'.cell 1
  have c4 := q5'.cell 2
  simp only [List.getElem?_toArray, List.getElem?_cons_zero, List.getElem?_cons_succ] at c0 c1 c2 c3 c4
  have l0 := o5'.lt
  have l1 := q5'.lt
  clear o5' q5'
  go_wp2_with fail
  refine (HT.out _).mono ?_
  rintro e w6 ⟨rfl, hb6⟩
  have o6' := o5.below hb6 o5.lt
  have q6' := q5.below hb6 q5.lt
  have b6' := below_next b5 hb6
  clear hb6 o5 q5 b5 c0 c1 c2 c3 c4 l0 l1
  have o6 := o6'.alloc (.cells #[.int .u32 y1, .int .u32 y2, .string ⟨y3.toArray⟩] 34)
  have q6 := q6'.alloc (.cells #[.int .u32 y1, .int .u32 y2, .string ⟨y3.toArray⟩] 34)
  have b6 := b6'.alloc b6'.size (.cells #[.int .u32 y1, .int .u32 y2, .string ⟨y3.toArray⟩] 34)
  clear b6'
  have c0 := o6'.cell 0
  have c1 := o6'.cell 1
  have c2 := q6'.cell 0
  have c3 := q6'.cell 1
  have c4 := q6'.cell 2
  simp only [List.getElem?_toArray, List.getElem?_cons_zero, List.getElem?_cons_succ] at c0 c1 c2 c3 c4
  have l0 := o6'.lt
  have l1 := q6'.lt
  clear o6' q6'
  go_wp2_with fail
  refine (HA.out _).mono ?_
  rintro e w7 ⟨rfl, hb7⟩
  go_wp2
  go_ret
  exact ⟨rfl, below_next b6 hb7⟩

set_option maxRecDepth 100000 in
set_option maxHeartbeats 2000000 in
theorem optBack_1101 (k a1 a2 x1 y1 y2 : Nat) (d ad x2 y3 more s X Y xr yr Q : List UInt8) (er : Int) (HW : Hid (∀ W, Calls Try.prog 13 #[.agg #[.int .u32 k, .string ⟨d.toArray⟩]] W (Gives (.tuple #[.string ⟨(X).toArray⟩, .int .i64 0]) W))) (HWB : Hid (∀ W, Calls Try.prog 17 #[.string ⟨(X ++ more).toArray⟩] W (Gives (.tuple #[.agg #[.int .u32 k, .string ⟨d.toArray⟩], .string ⟨(more).toArray⟩, .int .i64 0]) W))) (HN : Hid (∀ W, Calls Try.prog 15 #[.agg #[.int .u32 a1, .int .u32 a2, .string ⟨ad.toArray⟩]] W (Gives (.tuple #[.string ⟨(Y).toArray⟩, .int .i64 0]) W))) (HNB : Hid (∀ W, Calls Try.prog 19 #[.string ⟨(Y ++ more).toArray⟩] W (Gives (.tuple #[.agg #[.int .u32 a1, .int .u32 a2, .string ⟨ad.toArray⟩], .string ⟨(more).toArray⟩, .int .i64 0]) W))) (HR : Hid (∀ W, Calls Try.prog 17 #[.string ⟨(s).toArray⟩] W (Gives (.tuple #[.agg #[.int .u32 x1, .string ⟨x2.toArray⟩], .string ⟨(xr).toArray⟩, .int .i64 er]) W))) (HT : Hid (∀ W, Calls Try.prog 19 #[.string ⟨(s).toArray⟩] W (Gives (.tuple #[.agg #[.int .u32 y1, .int .u32 y2, .string ⟨y3.toArray⟩], .string ⟨(yr).toArray⟩, .int .i64 0]) W))) (HTW : Hid (∀ W, Calls Try.prog 15 #[.agg #[.int .u32 y1, .int .u32 y2, .string ⟨y3.toArray⟩]] W (Gives (.tuple #[.string ⟨(Q).toArray⟩, .int .i64 0]) W))) (hr0 : (er == 0) = false) (hQ : s = Q ++ yr)
    (h1 : d.length ≤ 10000) (h2 : ad.length ≤ 10000) (h3 : s.length ≤ 20000) (h4 : more.length ≤ 20000) (h5 : X.length ≤ 20000) (h6 : Y.length ≤ 20000) (h8 : Q.length + yr.length ≤ 40000) (w : World) :
    Calls Try.prog 5 #[.agg #[.int .u32 k, .string ⟨d.toArray⟩], .agg #[.int .u32 a1, .int .u32 a2, .string ⟨ad.toArray⟩], .string ⟨more.toArray⟩, .string ⟨s.toArray⟩] w (Gives (.bool true) w) := by
  have HA := Lib.hid awake_any
  have hs : (Q ++ yr == s) = true := by rw [hQ]; simp
  clear hQ
  go_enter Try.func5, Try.ntmps5
  have o0 : Blk ((w.alloc (.cells #[.int .u32 k, .string ⟨d.toArray⟩] 32)).alloc (.cells #[.int .u32 a1, .int .u32 a2, .string ⟨ad.toArray⟩] 34)) w.heap.size 32 #[.int .u32 k, .string ⟨d.toArray⟩] := (Blk.new w 32 #[.int .u32 k, .string ⟨d.toArray⟩]).alloc _
  have q0 : Blk ((w.alloc (.cells #[.int .u32 k, .string ⟨d.toArray⟩] 32)).alloc (.cells #[.int .u32 a1, .int .u32 a2, .string ⟨ad.toArray⟩] 34)) (w.heap.size + 1) 34 #[.int .u32 a1, .int .u32 a2, .string ⟨ad.toArray⟩] := Blk.newAt (by simp)
  have b0 : Below w.heap.size w ((w.alloc (.cells #[.int .u32 k, .string ⟨d.toArray⟩] 32)).alloc (.cells #[.int .u32 a1, .int .u32 a2, .string ⟨ad.toArray⟩] 34)) := ((Below.refl _ w).alloc (Nat.le_refl _) _).alloc (by simp) _
  go_wp2_with fail
  refine (HW.out _).mono ?_
  rintro e w1 ⟨rfl, hb1⟩
  have o1' := o0.below hb1 o0.lt
  have q1' := q0.below hb1 q0.lt
  have b1' := below_next b0 hb1
  clear hb1 o0 q0 b0
  have o1 := o1'
  have q1 := q1'
  have b1 := b1'
  have c0 := o1'.cell 0
  have c1 := o1'.cell 1
  have c2 := q1'.cell 0
  have c3 := q1'.cell 1
  have c4 := q1'.cell 2
  simp only [List.getElem?_toArray, List.getElem?_cons_zero, List.getElem?_cons_succ] at c0 c1 c2 c3 c4
  have l0 := o1'.lt
  have l1 := q1'.lt
  clear o1' q1'
  go_wp2_with fail
  refine (HWB.out _).mono ?_
  rintro e w2 ⟨rfl, hb2⟩
  have o2' := o1.below hb2 o1.lt
  have q2' := q1.below hb2 q1.lt
  have b2' := below_next b1 hb2
  clear hb2 o1 q1 b1 c0 c1 c2 c3 c4 l0 l1
  have o2 := o2'.alloc (.cells #[.int .u32 k, .string ⟨d.toArray⟩] 32)
  have q2 := q2'.alloc (.cells #[.int .u32 k, .string ⟨d.toArray⟩] 32)
  have b2 := b2'.alloc b2'.size (.cells #[.int .u32 k, .string ⟨d.toArray⟩] 32)
  clear b2'
  have c0 := o2'.cell 0
  have c1 := o2'.cell 1
  have c2 := q2'.cell 0
  have c3 := q2'.cell 1
  have c4 := q2'.cell 2
  simp only [List.getElem?_toArray, List.getElem?_cons_zero, List.getElem?_cons_succ] at c0 c1 c2 c3 c4
  have l0 := o2'.lt
  have l1 := q2'.lt
  clear o2' q2'
  go_wp2_with fail
  refine (HN.out _).mono ?_
  rintro e w3 ⟨rfl, hb3⟩
  have o3' := o2.below hb3 o2.lt
  have q3' := q2.below hb3 q2.lt
  have b3' := below_next b2 hb3
  clear hb3 o2 q2 b2 c0 c1 c2 c3 c4 l0 l1
  have o3 := o3'
  have q3 := q3'
  have b3 := b3'
  have c0 := o3'.cell 0
  have c1 := o3'.cell 1
  have c2 := q3'.cell 0
  have c3 := q3'.cell 1
  have c4 := q3'.cell 2
  simp only [List.getElem?_toArray, List.getElem?_cons_zero, List.getElem?_cons_succ] at c0 c1 c2 c3 c4
  have l0 := o3'.lt
  have l1 := q3'.lt
  clear o3' q3'
  go_wp2_with fail
  refine (HNB.out _).mono ?_
  rintro e w4 ⟨rfl, hb4⟩
  have o4' := o3.below hb4 o3.lt
  have q4' := q3.below hb4 q3.lt
  have b4' := below_next b3 hb4
  clear hb4 o3 q3 b3 c0 c1 c2 c3 c4 l0 l1
  have o4 := o4'.alloc (.cells #[.int .u32 a1, .int .u32 a2, .string ⟨ad.toArray⟩] 34)
  have q4 := q4'.alloc (.cells #[.int .u32 a1, .int .u32 a2, .string ⟨ad.toArray⟩] 34)
  have b4 := b4'.alloc b4'.size (.cells #[.int .u32 a1, .int .u32 a2, .string ⟨ad.toArray⟩] 34)
  clear b4'
  have c0 := o4'.cell 0
  have c1 := o4'.cell 1
  have c2 := q4'.cell 0
  have c3 := q4'.cell 1
  have c4 := q4'.cell 2
  simp only [List.getElem?_toArray, List.getElem?_cons_zero, List.getElem?_cons_succ] at c0 c1 c2 c3 c4
  have l0 := o4'.lt
  have l1 := q4'.lt
  clear o4' q4'
  go_wp2_with fail
  refine (HR.out _).mono ?_
  rintro e w5 ⟨rfl, hb5⟩
  have o5' := o4.below hb5 o4.lt
  have q5' := q4.below hb5 q4.lt
  have b5' := below_next b4 hb5
  clear hb5 o4 q4 b4 c0 c1 c2 c3 c4 l0 l1
  have o5 := o5'.alloc (.cells #[.int .u32 x1, .string ⟨x2.toArray⟩] 32)
  have q5 := q5'.alloc (.cells #[.int .u32 x1, .string ⟨x2.toArray⟩] 32)
  have b5 := b5'.alloc b5'.size (.cells #[.int .u32 x1, .string ⟨x2.toArray⟩] 32)
  clear b5'
  have c0 := o5'.cell 0
  have c1 := o5'.cell 1
  have c2 := q5'.cell 0
  have c3 := q5'.cell 1
  have c4 := q5'.cell 2
  simp only [List.getElem?_toArray, List.getElem?_cons_zero, List.getElem?_cons_succ] at c0 c1 c2 c3 c4
  have l0 := o5'.lt
  have l1 := q5'.lt
  clear o5' q5'
  go_wp2_with fail
  refine (HT.out _).mono ?_
  rintro e w6 ⟨rfl, hb6⟩
  have o6' := o5.below hb6 o5.lt
  have q6' := q5.below hb6 q5.lt
  have b6' := below_next b5 hb6
  clear hb6 o5 q5 b5 c0 c1 c2 c3 c4 l0 l1
  have o6 := o6'.alloc (.cells #[.int .u32 y1, .int .u32 y2, .string ⟨y3.toArray⟩] 34)
  have q6 := q6'.alloc (.cells #[.int .u32 y1, .int .u32 y2, .string ⟨y3.toArray⟩] 34)
  have b6 := b6'.alloc b6'.size (.cells #[.int .u32 y1, .int .u32 y2, .string ⟨y3.toArray⟩] 34)
  clear b6'
  have c0 := o6'.cell 0
  have c1 := o6'.cell 1
  have c2 := q6'.cell 0
  have c3 := q6'.cell 1
  have c4 := q6'.cell 2
  simp only [List.getElem?_toArray, List.getElem?_cons_zero, List.getElem?_cons_succ] at c0 c1 c2 c3 c4
  have l0 := o6'.lt
  have l1 := q6'.lt
  clear o6' q6'
  go_wp2_with fail
  refine (HTW.out _).mono ?_
  rintro e w7 ⟨rfl, hb7⟩
  have o7' := o6.below hb7 o6.lt
  have q7' := q6.below hb7 q6.lt
  have b7' := below_next b6 hb7
  clear hb7 o6 q6 b6 c0 c1 c2 c3 c4 l0 l1
  have o7 := o7'
  have q7 := q7'
  have b7 := b7'
  have c0 := o7'.cell 0
  have c1 := o7'.cell 1
  have c2 := q7'.cell 0
  have c3 := q7'.cell 1
  have c4 := q7'.cell 2
  simp only [List.getElem?_toArray, List.getElem?_cons_zero, List.getElem?_cons_succ] at c0 c1 c2 c3 c4
  have l0 := o7'.lt
  have l1 := q7'.lt
  clear o7' q7'
  go_wp2_with fail
  refine (HA.out _).mono ?_
  rintro e w8 ⟨rfl, hb8⟩
  go_wp2
  go_ret
  exact ⟨rfl, below_next b7 hb8⟩

set_option maxRecDepth 100000 in
set_option maxHeartbeats 2000000 in
theorem optBack_1110 (k a1 a2 x1 y1 y2 : Nat) (d ad x2 y3 more s X Y xr yr P : List UInt8) (et : Int) (HW : Hid (∀ W, Calls Try.prog 13 #[.agg #[.int .u32 k, .string ⟨d.toArray⟩]] W (Gives (.tuple #[.string ⟨(X).toArray⟩, .int .i64 0]) W))) (HWB : Hid (∀ W, Calls Try.prog 17 #[.string ⟨(X ++ more).toArray⟩] W (Gives (.tuple #[.agg #[.int .u32 k, .string ⟨d.toArray⟩], .string ⟨(more).toArray⟩, .int .i64 0]) W))) (HN : Hid (∀ W, Calls Try.prog 15 #[.agg #[.int .u32 a1, .int .u32 a2, .string ⟨ad.toArray⟩]] W (Gives (.tuple #[.string ⟨(Y).toArray⟩, .int .i64 0]) W))) (HNB : Hid (∀ W, Calls Try.prog 19 #[.string ⟨(Y ++ more).toArray⟩] W (Gives (.tuple #[.agg #[.int .u32 a1, .int .u32 a2, .string ⟨ad.toArray⟩], .string ⟨(more).toArray⟩, .int .i64 0]) W))) (HR : Hid (∀ W, Calls Try.prog 17 #[.string ⟨(s).toArray⟩] W (Gives (.tuple #[.agg #[.int .u32 x1, .string ⟨x2.toArray⟩], .string ⟨(xr).toArray⟩, .int .i64 0]) W))) (HRW : Hid (∀ W, Calls Try.prog 13 #[.agg #[.int .u32 x1, .string ⟨x2.toArray⟩]] W (Gives (.tuple #[.string ⟨(P).toArray⟩, .int .i64 0]) W))) (HT : Hid (∀ W, Calls Try.prog 19 #[.string ⟨(s).toArray⟩] W (Gives (.tuple #[.agg #[.int .u32 y1, .int .u32 y2, .string ⟨y3.toArray⟩], .string ⟨(yr).toArray⟩, .int .i64 et]) W))) (hP : s = P ++ xr) (ht0 : (et == 0) = false)
    (h1 : d.length ≤ 10000) (h2 : ad.length ≤ 10000) (h3 : s.length ≤ 20000) (h4 : more.length ≤ 20000) (h5 : X.length ≤ 20000) (h6 : Y.length ≤ 20000) (h7 : P.length + xr.length ≤ 40000) (w : World) :
    Calls Try.prog 5 #[.agg #[.int .u32 k, .string ⟨d.toArray⟩], .agg #[.int .u32 a1, .int .u32 a2, .string ⟨ad.toArray⟩], .string ⟨more.toArray⟩, .string ⟨s.toArray⟩] w (Gives (.bool true) w) := by
  have HA := Lib.hid awake_any
  have hs : (P ++ xr == s) = true := by rw [hP]; simp
  clear hP
  go_enter Try.func5, Try.ntmps5
  have o0 : Blk ((w.alloc (.cells #[.int .u32 k, .string ⟨d.toArray⟩] 32)).alloc (.cells #[.int .u32 a1, .int .u32 a2, .string ⟨ad.toArray⟩] 34)) w.heap.size 32 #[.int .u32 k, .string ⟨d.toArray⟩] := (Blk.new w 32 #[.int .u32 k, .string ⟨d.toArray⟩]).alloc _
  have q0 : Blk ((w.alloc (.cells #[.int .u32 k, .string ⟨d.toArray⟩] 32)).alloc (.cells #[.int .u32 a1, .int .u32 a2, .string ⟨ad.toArray⟩] 34)) (w.heap.size + 1) 34 #[.int .u32 a1, .int .u32 a2, .string ⟨ad.toArray⟩] := Blk.newAt (by simp)
  have b0 : Below w.heap.size w ((w.alloc (.cells #[.int .u32 k, .string ⟨d.toArray⟩] 32)).alloc (.cells #[.int .u32 a1, .int .u32 a2, .string ⟨ad.toArray⟩] 34)) := ((Below.refl _ w).alloc (Nat.le_refl _) _).alloc (by simp) _
  go_wp2_with fail
  refine (HW.out _).mono ?_
  rintro e w1 ⟨rfl, hb1⟩
  have o1' := o0.below hb1 o0.lt
  have q1' := q0.below hb1 q0.lt
  have b1' := below_next b0 hb1
  clear hb1 o0 q0 b0
  have o1 := o1'
  have q1 := q1'
  have b1 := b1'
  have c0 := o1'.cell 0
  have c1 := o1'.cell 1
  have c2 := q1'.cell 0
  have c3 := q1'.cell 1
  have c4 := q1'.cell 2
  simp only [List.getElem?_toArray, List.getElem?_cons_zero, List.getElem?_cons_succ] at c0 c1 c2 c3 c4
  have l0 := o1'.lt
  have l1 := q1'.lt
  clear o1' q1'
  go_wp2_with fail
  refine (HWB.out _).mono ?_
  rintro e w2 ⟨rfl, hb2⟩
  have o2' := o1.below hb2 o1.lt
  have q2' := q1.below hb2 q1.lt
  have b2' := below_next b1 hb2
  clear hb2 o1 q1 b1 c0 c1 c2 c3 c4 l0 l1
  have o2 := o2'.alloc (.cells #[.int .u32 k, .string ⟨d.toArray⟩] 32)
  have q2 := q2'.alloc (.cells #[.int .u32 k, .string ⟨d.toArray⟩] 32)
  have b2 := b2'.alloc b2'.size (.cells #[.int .u32 k, .string ⟨d.toArray⟩] 32)
  clear b2'
  have c0 := o2'.cell 0
  have c1 := o2'.cell 1
  have c2 := q2'.cell 0
  have c3 := q2'.cell 1
  have c4 := q2'.cell 2
  simp only [List.getElem?_toArray, List.getElem?_cons_zero, List.getElem?_cons_succ] at c0 c1 c2 c3 c4
  have l0 := o2'.lt
  have l1 := q2'.lt
  clear o2' q2'
  go_wp2_with fail
  refine (HN.out _).mono ?_
  rintro e w3 ⟨rfl, hb3⟩
  have o3' := o2.below hb3 o2.lt
  have q3' := q2.below hb3 q2.lt
  have b3' := below_next b2 hb3
  clear hb3 o2 q2 b2 c0 c1 c2 c3 c4 l0 l1
  have o3 := o3'
  have q3 := q3'
  have b3 := b3'
  have c0 := o3'.cell 0
  have c1 := o3'.cell 1
  have c2 := q3'.cell 0
  have c3 := q3'.cell 1
  have c4 := q3'.cell 2
  simp only [List.getElem?_toArray, List.getElem?_cons_zero, List.getElem?_cons_succ] at c0 c1 c2 c3 c4
  have l0 := o3'.lt
  have l1 := q3'.lt
  clear o3' q3'
  go_wp2_with fail
  refine (HNB.out _).mono ?_
  rintro e w4 ⟨rfl, hb4⟩
  have o4' := o3.below hb4 o3.lt
  have q4' := q3.below hb4 q3.lt
  have b4' := below_next b3 hb4
  clear hb4 o3 q3 b3 c0 c1 c2 c3 c4 l0 l1
  have o4 := o4'.alloc (.cells #[.int .u32 a1, .int .u32 a2, .string ⟨ad.toArray⟩] 34)
  have q4 := q4'.alloc (.cells #[.int .u32 a1, .int .u32 a2, .string ⟨ad.toArray⟩] 34)
  have b4 := b4'.alloc b4'.size (.cells #[.int .u32 a1, .int .u32 a2, .string ⟨ad.toArray⟩] 34)
  clear b4'
  have c0 := o4'.cell 0
  have c1 := o4'.cell 1
  have c2 := q4'.cell 0
  have c3 := q4'.cell 1
  have c4 := q4'.cell 2
  simp only [List.getElem?_toArray, List.getElem?_cons_zero, List.getElem?_cons_succ] at c0 c1 c2 c3 c4
  have l0 := o4'.lt
  have l1 := q4'.lt
  clear o4' q4'
  go_wp2_with fail
  refine (HR.out _).mono ?_
  rintro e w5 ⟨rfl, hb5⟩
  have o5' := o4.below hb5 o4.lt
  have q5' := q4.below hb5 q4.lt
  have b5' := below_next b4 hb5
  clear hb5 o4 q4 b4 c0 c1 c2 c3 c4 l0 l1
  have o5 := o5'.alloc (.cells #[.int .u32 x1, .string ⟨x2.toArray⟩] 32)
  have q5 := q5'.alloc (.cells #[.int .u32 x1, .string ⟨x2.toArray⟩] 32)
  have b5 := b5'.alloc b5'.size (.cells #[.int .u32 x1, .string ⟨x2.toArray⟩] 32)
  clear b5'
  have c0 := o5'.cell 0
  have c1 := o5'.cell 1
  have c2 := q5'.cell 0
  have c3 := q5'.cell 1
  have c4 := q5'.cell 2
  simp only [List.getElem?_toArray, List.getElem?_cons_zero, List.getElem?_cons_succ] at c0 c1 c2 c3 c4
  have l0 := o5'.lt
  have l1 := q5'.lt
  clear o5' q5'
  go_wp2_with fail
  refine (HRW.out _).mono ?_
  rintro e w6 ⟨rfl, hb6⟩
  have o6' := o5.below hb6 o5.lt
  have q6' := q5.below hb6 q5.lt
  have b6' := below_next b5 hb6
  clear hb6 o5 q5 b5 c0 c1 c2 c3 c4 l0 l1
  have o6 := o6'
  have q6 := q6'
  have b6 := b6'
  have c0 := o6'.cell 0
  have c1 := o6'.cell 1
  have c2 := q6'.cell 0
  have c3 := q6'.cell 1
  have c4 := q6'.cell 2
  simp only [List.getElem?_toArray, List.getElem?_cons_zero, List.getElem?_cons_succ] at c0 c1 c2 c3 c4
  have l0 := o6'.lt
  have l1 := q6'.lt
  clear o6' q6'
  go_wp2_with fail
  refine (HT.out _).mono ?_
  rintro e w7 ⟨rfl, hb7⟩
  have o7' := o6.below hb7 o6.lt
  have q7' := q6.below hb7 q6.lt
  have b7' := below_next b6 hb7
  clear hb7 o6 q6 b6 c0 c1 c2 c3 c4 l0 l1
  have o7 := o7'.alloc (.cells #[.int .u32 y1, .int .u32 y2, .string ⟨y3.toArray⟩] 34)
  have q7 := q7'.alloc (.cells #[.int .u32 y1, .int .u32 y2, .string ⟨y3.toArray⟩] 34)
  have b7 := b7'.alloc b7'.size (.cells #[.int .u32 y1, .int .u32 y2, .string ⟨y3.toArray⟩] 34)
  clear b7'
  have c0 := o7'.cell 0
  have c1 := o7'.cell 1
  have c2 := q7'.cell 0
  have c3 := q7'.cell 1
  have c4 := q7'.cell 2
  simp only [List.getElem?_toArray, List.getElem?_cons_zero, List.getElem?_cons_succ] at c0 c1 c2 c3 c4
  have l0 := o7'.lt
  have l1 := q7'.lt
  clear o7' q7'
  go_wp2_with fail
  refine (HA.out _).mono ?_
  rintro e w8 ⟨rfl, hb8⟩
  go_wp2
  go_ret
  exact ⟨rfl, below_next b7 hb8⟩

end Go.Proofs.Ytckkjkdpcnedkaa
