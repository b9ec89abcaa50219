/- opt.read at answers. -/
import Derived.Test.YtcmgecojhjdjkaaHReadAns
import Derived.Defers
import Derived.Recover
namespace Go.Proofs.Ytcmgecojhjdjkaa
open Go.RowKit

theorem set_os (w : World) (p : Addr) (v : Value) : (w.setCell p v).os = w.os := rfl
theorem set_tape (w : World) (p : Addr) (v : Value) : (w.setCell p v).tape = w.tape := rfl
theorem set_output (w : World) (p : Addr) (v : Value) : (w.setCell p v).output = w.output := rfl
theorem new_os (w : World) (o : Obj) : (w.alloc o).os = w.os := rfl
theorem new_tape (w : World) (o : Obj) : (w.alloc o).tape = w.tape := rfl
theorem new_output (w : World) (o : Obj) : (w.alloc o).output = w.output := rfl

set_option maxRecDepth 100000 in
set_option maxHeartbeats 2000000 in
theorem catch_ans_panic (x r e : Nat) (n : Int) (w : World) (hx : Blk w x 41 #[.int .u32 0, .int .u32 0, .string ⟨#[]⟩]) (hr : Blk w r 9 #[.string ⟨#[]⟩]) (he : Blk w e 61 #[.int .i64 0]) (hxr : x ≠ r) (hxe : x ≠ e) (hre : r ≠ e) :
    CallsD Try.prog 47 #[.pointer (some ⟨x, 0, none⟩), .pointer (some ⟨r, 0, none⟩), .pointer (some ⟨e, 0, none⟩)] (.panicking (thrown n)) w (CaughtEnds w x r e 41 #[.int .u32 0, .int .u32 0, .string ⟨#[]⟩] n) := by
  have cx0 := hx.cell 0
  have cx1 := hx.cell 1
  have cx2 := hx.cell 2
  have cr := hr.cell 0
  have ce := he.cell 0
  have fx0 := hx.frozen 0
  have fx1 := hx.frozen 1
  have fx2 := hx.frozen 2
  have fr := hr.frozen 0
  have fe := he.frozen 0
  have lx := hx.lt
  have lr := hr.lt
  have le := he.lt
  simp only [List.getElem?_toArray, List.getElem?_cons_zero, List.getElem?_cons_succ] at cx0 cx1 cx2 cr ce
  have hta : ∀ W, (Instr.typeAssert (.iface 89 (.int .i64 n)) 20 89 true).run Try.prog W = .ok (.tuple #[.int .i64 n, .bool true]) W := fun _ => by kernel_rfl
  refine callsD_of_wpS Try.func47 rfl fun c₀ cs hu => ?_
  simp only [Try.ntmps47, List.size_toArray, List.length_cons, List.length_nil, Nat.reduceAdd, Nat.reduceSub, Array.replicate_succ, Array.replicate_zero, List.push_toArray, List.append_toArray, List.nil_append, List.cons_append]
  apply wpS_seq
  apply wpS_region
  simp [wpOpsS, go_sem, recoverD, hu, Exit.thenS]
  refine wpS_of_wp ?_
  go_wp2
  refine ⟨rfl, _, rfl, .tuple #[], by simp [results, Try.results47], rfl, rfl, ?_⟩
  have bx := (((((hx.set_ 0 (.int .u32 0)).set_ 1 (.int .u32 0)).set_ 2 (.string ⟨#[]⟩)).far (p := ⟨r, 0, none⟩) hxr (.string ⟨#[]⟩)).far (p := ⟨e, 0, none⟩) hxe (.int .i64 n)).alloc (.cells #[.int .u32 0, .int .u32 0, .string ⟨#[]⟩] 41)
  have br := (((((hr.far (p := ⟨x, 0, none⟩) hxr.symm (.int .u32 0)).far (p := ⟨x, 1, none⟩) hxr.symm (.int .u32 0)).far (p := ⟨x, 2, none⟩) hxr.symm (.string ⟨#[]⟩)).set_ 0 (.string ⟨#[]⟩)).far (p := ⟨e, 0, none⟩) hre (.int .i64 n)).alloc (.cells #[.int .u32 0, .int .u32 0, .string ⟨#[]⟩] 41)
  have be := (((((he.far (p := ⟨x, 0, none⟩) hxe.symm (.int .u32 0)).far (p := ⟨x, 1, none⟩) hxe.symm (.int .u32 0)).far (p := ⟨x, 2, none⟩) hxe.symm (.string ⟨#[]⟩)).far (p := ⟨r, 0, none⟩) hre.symm (.string ⟨#[]⟩)).set_ 0 (.int .i64 n)).alloc (.cells #[.int .u32 0, .int .u32 0, .string ⟨#[]⟩] 41)
  simp only [List.setIfInBounds_toArray, List.set_cons_zero, List.set_cons_succ] at bx br be
  refine ⟨bx, br, be, fun k hk h1 h2 h3 => ?_, by simp, by simp only [set_os, new_os], by simp only [set_tape, new_tape], by simp only [set_output, new_output]⟩
  rw [Below.heap_alloc _ _ _ (by simpa using hk), heap_set (p := ⟨e, 0, none⟩) h3, heap_set (p := ⟨r, 0, none⟩) h2, heap_set (p := ⟨x, 2, none⟩) h1, heap_set (p := ⟨x, 1, none⟩) h1, heap_set (p := ⟨x, 0, none⟩) h1]

set_option maxRecDepth 100000 in
set_option maxHeartbeats 400000 in
/-- Where nothing was thrown the closure does nothing. -/
theorem catch_ans_idle (x r e : Nat) (w : World) :
    CallsD Try.prog 47 #[.pointer (some ⟨x, 0, none⟩), .pointer (some ⟨r, 0, none⟩), .pointer (some ⟨e, 0, none⟩)] .returning w fun en u' w' => en = .returned (.tuple #[]) ∧ u' = .returning ∧ w' = w := by
  refine callsD_of_wpS Try.func47 rfl fun c₀ cs hu => ?_
  simp only [Try.ntmps47, List.size_toArray, List.length_cons, List.length_nil, Nat.reduceAdd, Nat.reduceSub, Array.replicate_succ, Array.replicate_zero, List.push_toArray, List.append_toArray, List.nil_append, List.cons_append]
  apply wpS_seq
  apply wpS_region
  simp [wpOpsS, go_sem, recoverD, hu, Exit.thenS]
  refine wpS_of_wp ?_
  go_wp2
  cases c₀
  simp_all [bodyPostS, results, Try.results47]

set_option maxRecDepth 100000 in
set_option maxHeartbeats 400000 in
theorem read_ans_throw (s : List UInt8) (n : Int) (hm : s.length ≤ 9223372036854775807) (hn : readAnsO s = .thrown n) (w : World) :
    Calls Try.prog 37 #[.string ⟨s.toArray⟩, .func (.func 38) #[] #[]] w (Gives (.tuple #[.agg #[.int .u32 0, .int .u32 0, .string ⟨#[]⟩], .string ⟨#[]⟩, .int .i64 n]) w) := by
  have hmf : ∀ (fn : Fn) (first cap : Array Value) (w : World), (Instr.makeFunc fn first cap).run Try.prog w = .ok (.func fn first cap) w := fun _ _ _ _ => rfl
  go_enter_defers Try.func37, Try.ntmps37
  go_wp2_with fail
  have b0 : Below w.heap.size w ((((w.alloc (.cells #[.int .u32 0, .int .u32 0, .string ⟨#[]⟩] 41)).alloc (.cells #[.string ⟨#[]⟩] 9)).alloc (.cells #[.int .i64 0] 61)).alloc (.cells #[.string ⟨s.toArray⟩] 92)) := by (repeat' (first | (with_reducible assumption) | (with_reducible exact Below.refl _ _) | (with_reducible refine below_drewN ?_ _) | (with_reducible refine Below.drew ?_) | (with_reducible refine Below.setCell ?_ ?_ _) | (with_reducible refine Below.alloc ?_ ?_ _) | (with_reducible refine below_putObj ?_ ?_ _) | (with_reducible exact Nat.le_refl _) | omega | (simp; done) | (simp; omega)))
  have hx : Blk ((((w.alloc (.cells #[.int .u32 0, .int .u32 0, .string ⟨#[]⟩] 41)).alloc (.cells #[.string ⟨#[]⟩] 9)).alloc (.cells #[.int .i64 0] 61)).alloc (.cells #[.string ⟨s.toArray⟩] 92)) w.heap.size 41 #[.int .u32 0, .int .u32 0, .string ⟨#[]⟩] := ((((Blk.new w _ _).alloc _).alloc _).alloc _)
  have hr : Blk ((((w.alloc (.cells #[.int .u32 0, .int .u32 0, .string ⟨#[]⟩] 41)).alloc (.cells #[.string ⟨#[]⟩] 9)).alloc (.cells #[.int .i64 0] 61)).alloc (.cells #[.string ⟨s.toArray⟩] 92)) (w.heap.size + 1) 9 #[.string ⟨#[]⟩] := (((Blk.newAt (by simp)).alloc _).alloc _)
  have he : Blk ((((w.alloc (.cells #[.int .u32 0, .int .u32 0, .string ⟨#[]⟩] 41)).alloc (.cells #[.string ⟨#[]⟩] 9)).alloc (.cells #[.int .i64 0] 61)).alloc (.cells #[.string ⟨s.toArray⟩] 92)) (w.heap.size + 1 + 1) 61 #[.int .i64 0] := ((Blk.newAt (by simp)).alloc _)
  have hb : Blk ((((w.alloc (.cells #[.int .u32 0, .int .u32 0, .string ⟨#[]⟩] 41)).alloc (.cells #[.string ⟨#[]⟩] 9)).alloc (.cells #[.int .i64 0] 61)).alloc (.cells #[.string ⟨s.toArray⟩] 92)) (w.heap.size + 1 + 1 + 1) 92 #[.string ⟨s.toArray⟩] := Blk.newAt (by simp)
  have hs : w.heap.size + 1 + 1 + 1 < ((((w.alloc (.cells #[.int .u32 0, .int .u32 0, .string ⟨#[]⟩] 41)).alloc (.cells #[.string ⟨#[]⟩] 9)).alloc (.cells #[.int .i64 0] 61)).alloc (.cells #[.string ⟨s.toArray⟩] 92)).heap.size := hb.lt
  refine at_world fun W0 hW0 => ?_
  rw [← hW0] at b0 hx hr he hb hs
  clear hW0
  refine (by_ans_throw W0 _ s hb n hm hn).mono ?_
  rintro en W1 ⟨rfl, hg⟩
  have x1 : Blk W1 w.heap.size 41 #[.int .u32 0, .int .u32 0, .string ⟨#[]⟩] := (hg.block _ hx.lt (by simp; omega)).trans hx
  have r1 : Blk W1 (w.heap.size + 1) 9 #[.string ⟨#[]⟩] := (hg.block _ hr.lt (by simp)).trans hr
  have e1 : Blk W1 (w.heap.size + 1 + 1) 61 #[.int .i64 0] := (hg.block _ he.lt (by simp)).trans he
  have b1 : Below w.heap.size w W1 := b0.grown hg (by omega) (fun k hk => by simp at hk; omega)
  clear hg b0 hx hr he hb hs
  go_wp2_with fail
  refine leaves_cons (f := 47) (args := #[.pointer (some ⟨w.heap.size, 0, none⟩), .pointer (some ⟨w.heap.size + 1, 0, none⟩), .pointer (some ⟨w.heap.size + 1 + 1, 0, none⟩)]) (by simp) (by simp [go_sem]) ?_
  refine (catch_ans_panic _ _ _ n W1 x1 r1 e1 (by omega) (by omega) (by omega)).mono ?_
  rintro en u' W2 ⟨rfl, rfl, k⟩
  have b2 := door_below b1 (Nat.le_refl _) (by omega) (by omega) k.rest k.size k.os k.tape k.output
  have c0 := k.bx.cell 0
  have c1 := k.bx.cell 1
  have c9 := k.bx.cell 2
  have c2 := k.br.cell 0
  have c3 := k.be.cell 0
  simp only [List.getElem?_toArray, List.getElem?_cons_zero, List.getElem?_cons_succ] at c0 c1 c2 c3 c9
  clear k x1 r1 e1 b1
  simp [Leaves, settle, results, Try.results37, go_sem, c0, c1, c2, c3, c9]
  exact ⟨rfl, b2⟩

set_option maxRecDepth 100000 in
set_option maxHeartbeats 400000 in
theorem read_ans_ok (s : List UInt8) (x : Nat × Nat × List UInt8) (r : List UInt8) (hm : s.length ≤ 9223372036854775807) (hn : readAnsO s = .ok x r) (w : World) :
    Calls Try.prog 37 #[.string ⟨s.toArray⟩, .func (.func 38) #[] #[]] w (Gives (.tuple #[ansV x, .string ⟨r.toArray⟩, .int .i64 0]) w) := by
  have hmf : ∀ (fn : Fn) (first cap : Array Value) (w : World), (Instr.makeFunc fn first cap).run Try.prog w = .ok (.func fn first cap) w := fun _ _ _ _ => rfl
  have mixed : Try.prog.follows .mixedOrders = true := by kernel_rfl
  go_enter_defers Try.func37, Try.ntmps37
  go_wp2_with fail
  have b0 : Below w.heap.size w ((((w.alloc (.cells #[.int .u32 0, .int .u32 0, .string ⟨#[]⟩] 41)).alloc (.cells #[.string ⟨#[]⟩] 9)).alloc (.cells #[.int .i64 0] 61)).alloc (.cells #[.string ⟨s.toArray⟩] 92)) := by (repeat' (first | (with_reducible assumption) | (with_reducible exact Below.refl _ _) | (with_reducible refine below_drewN ?_ _) | (with_reducible refine Below.drew ?_) | (with_reducible refine Below.setCell ?_ ?_ _) | (with_reducible refine Below.alloc ?_ ?_ _) | (with_reducible refine below_putObj ?_ ?_ _) | (with_reducible exact Nat.le_refl _) | omega | (simp; done) | (simp; omega)))
  have hx : Blk ((((w.alloc (.cells #[.int .u32 0, .int .u32 0, .string ⟨#[]⟩] 41)).alloc (.cells #[.string ⟨#[]⟩] 9)).alloc (.cells #[.int .i64 0] 61)).alloc (.cells #[.string ⟨s.toArray⟩] 92)) w.heap.size 41 #[.int .u32 0, .int .u32 0, .string ⟨#[]⟩] := ((((Blk.new w _ _).alloc _).alloc _).alloc _)
  have hr : Blk ((((w.alloc (.cells #[.int .u32 0, .int .u32 0, .string ⟨#[]⟩] 41)).alloc (.cells #[.string ⟨#[]⟩] 9)).alloc (.cells #[.int .i64 0] 61)).alloc (.cells #[.string ⟨s.toArray⟩] 92)) (w.heap.size + 1) 9 #[.string ⟨#[]⟩] := (((Blk.newAt (by simp)).alloc _).alloc _)
  have he : Blk ((((w.alloc (.cells #[.int .u32 0, .int .u32 0, .string ⟨#[]⟩] 41)).alloc (.cells #[.string ⟨#[]⟩] 9)).alloc (.cells #[.int .i64 0] 61)).alloc (.cells #[.string ⟨s.toArray⟩] 92)) (w.heap.size + 1 + 1) 61 #[.int .i64 0] := ((Blk.newAt (by simp)).alloc _)
  have hb : Blk ((((w.alloc (.cells #[.int .u32 0, .int .u32 0, .string ⟨#[]⟩] 41)).alloc (.cells #[.string ⟨#[]⟩] 9)).alloc (.cells #[.int .i64 0] 61)).alloc (.cells #[.string ⟨s.toArray⟩] 92)) (w.heap.size + 1 + 1 + 1) 92 #[.string ⟨s.toArray⟩] := Blk.newAt (by simp)
  have hs : w.heap.size + 1 + 1 + 1 < ((((w.alloc (.cells #[.int .u32 0, .int .u32 0, .string ⟨#[]⟩] 41)).alloc (.cells #[.string ⟨#[]⟩] 9)).alloc (.cells #[.int .i64 0] 61)).alloc (.cells #[.string ⟨s.toArray⟩] 92)).heap.size := hb.lt
  refine at_world fun W0 hW0 => ?_
  rw [← hW0] at b0 hx hr he hb hs
  clear hW0
  refine (by_ans_ok W0 _ s hb x r hm hn).mono ?_
  rintro en W1 ⟨rfl, rb, hg⟩
  have x1 : Blk W1 w.heap.size 41 #[.int .u32 0, .int .u32 0, .string ⟨#[]⟩] := (hg.block _ hx.lt (by simp; omega)).trans hx
  have r1 : Blk W1 (w.heap.size + 1) 9 #[.string ⟨#[]⟩] := (hg.block _ hr.lt (by simp)).trans hr
  have e1 : Blk W1 (w.heap.size + 1 + 1) 61 #[.int .i64 0] := (hg.block _ he.lt (by simp)).trans he
  have b1 : Below w.heap.size w W1 := b0.grown hg (by omega) (fun k hk => by simp at hk; omega)
  clear hg b0 hx hr he hb hs
  obtain ⟨o, k, d⟩ := x
  unfold ansV
  dsimp only
  have c0 := x1.cell 0
  have c1 := x1.cell 1
  have c9 := x1.cell 2
  have c2 := r1.cell 0
  have c3 := e1.cell 0
  have c4 := rb.cell 0
  have f0 := x1.frozen 0
  have f1 := x1.frozen 1
  have f9 := x1.frozen 2
  have f2 := r1.frozen 0
  have f3 := e1.frozen 0
  simp only [List.getElem?_toArray, List.getElem?_cons_zero, List.getElem?_cons_succ] at c0 c1 c2 c3 c4 c9
  go_wp2
  go_region
  go_wp2
  refine at_door fun W3 hW3 => ?_
  have s1 := b1.size
  have x3 : Blk W3 w.heap.size 41 #[.int .u32 (o : Nat), .int .u32 (k : Nat), .string ⟨d.toArray⟩] := by
    rw [hW3]; exact ((((((((x1.set_ 0 _).set_ 1 _).set_ 2 _).set_ 0 _).set_ 1 _).set_ 2 _).far (p := ⟨w.heap.size + 1, 0, none⟩) (by dsimp only; omega) _).far (p := ⟨w.heap.size + 1 + 1, 0, none⟩) (by dsimp only; omega) _).drew
  have r3 : Blk W3 (w.heap.size + 1) 9 #[.string ⟨r.toArray⟩] := by
    rw [hW3]; exact ((((((((r1.far (p := ⟨w.heap.size, 0, none⟩) (by dsimp only; omega) _).far (p := ⟨w.heap.size, 1, none⟩) (by dsimp only; omega) _).far (p := ⟨w.heap.size, 2, none⟩) (by dsimp only; omega) _).far (p := ⟨w.heap.size, 0, none⟩) (by dsimp only; omega) _).far (p := ⟨w.heap.size, 1, none⟩) (by dsimp only; omega) _).far (p := ⟨w.heap.size, 2, none⟩) (by dsimp only; omega) _).set_ 0 _).far (p := ⟨w.heap.size + 1 + 1, 0, none⟩) (by dsimp only; omega) _).drew
  have e3 : Blk W3 (w.heap.size + 1 + 1) 61 #[.int .i64 0] := by
    rw [hW3]; exact ((((((((e1.far (p := ⟨w.heap.size, 0, none⟩) (by dsimp only; omega) _).far (p := ⟨w.heap.size, 1, none⟩) (by dsimp only; omega) _).far (p := ⟨w.heap.size, 2, none⟩) (by dsimp only; omega) _).far (p := ⟨w.heap.size, 0, none⟩) (by dsimp only; omega) _).far (p := ⟨w.heap.size, 1, none⟩) (by dsimp only; omega) _).far (p := ⟨w.heap.size, 2, none⟩) (by dsimp only; omega) _).far (p := ⟨w.heap.size + 1, 0, none⟩) (by dsimp only; omega) _).set_ 0 _).drew
  have b3 : Below w.heap.size w W3 := by rw [hW3]; (repeat' (first | (with_reducible assumption) | (with_reducible exact Below.refl _ _) | (with_reducible refine below_drewN ?_ _) | (with_reducible refine Below.drew ?_) | (with_reducible refine Below.setCell ?_ ?_ _) | (with_reducible refine Below.alloc ?_ ?_ _) | (with_reducible refine below_putObj ?_ ?_ _) | (with_reducible exact Nat.le_refl _) | omega | (simp; done) | (simp; omega)))
  clear hW3 c0 c1 c2 c3 c4 c9 f0 f1 f2 f3 f9 x1 r1 e1 rb b1 s1
  have c0 := x3.cell 0
  have c1 := x3.cell 1
  have c9 := x3.cell 2
  have c2 := r3.cell 0
  have c3 := e3.cell 0
  simp only [List.getElem?_toArray, List.getElem?_cons_zero, List.getElem?_cons_succ] at c0 c1 c2 c3 c9
  clear x3 r3 e3
  refine leaves_cons (f := 47) (args := #[.pointer (some ⟨w.heap.size, 0, none⟩), .pointer (some ⟨w.heap.size + 1, 0, none⟩), .pointer (some ⟨w.heap.size + 1 + 1, 0, none⟩)]) (by simp) (by simp [go_sem]) ?_
  refine (catch_ans_idle _ _ _ _).mono ?_
  rintro en u' W2 ⟨rfl, rfl, rfl⟩
  simp [Leaves, settle, results, Try.results37, go_sem, c0, c1, c2, c3, c9]
  exact ⟨rfl, b3⟩

/-- What a reading hands back. -/
theorem opt_answer_read_any (s : List UInt8) (hm : s.length ≤ 9223372036854775807) (w : World) :
    Calls Try.prog 27 #[.string ⟨s.toArray⟩] w (Gives (.tuple #[ansV (readAns s).1, .string ⟨(readAns s).2.1.toArray⟩, .int .i64 (readAns s).2.2]) w) := by
  cases hn : readAnsO s with
  | thrown n =>
    have e : readAns s = ((0, 0, []), [], n) := by unfold readAns; rw [hn]
    rw [e]
    have H := Lib.hid (read_ans_throw s n hm hn)
    clear hn e
    unfold ansV
    dsimp only
    go_enter Try.func27, Try.ntmps27
    go_wp2_with fail
    refine (H.out _).mono ?_
    rintro e w1 ⟨rfl, hb1⟩
    have x1 := (Blk.new w 41 #[.int .u32 0, .int .u32 0, .string ⟨#[]⟩]).below hb1 (by simp)
    have b1 := below_next ((Below.refl _ w).alloc (Nat.le_refl _) _) hb1
    have c0 := x1.cell 0
    have c1 := x1.cell 1
    have c2 := x1.cell 2
    have f0 := x1.frozen 0
    have f1 := x1.frozen 1
    have f2 := x1.frozen 2
    simp only [List.getElem?_toArray, List.getElem?_cons_zero, List.getElem?_cons_succ] at c0 c1 c2
    clear hb1 x1
    go_wp2
    refine bodyPost_ret (v := .tuple #[.agg #[.int .u32 0, .int .u32 0, .string ⟨#[]⟩], .string ⟨#[]⟩, .int .i64 n]) (by simp [results, Try.results27, go_sem, c0, c1, c2]) rfl ⟨rfl, ?_⟩
    (repeat' (first | (with_reducible assumption) | (with_reducible exact Below.refl _ _) | (with_reducible refine below_drewN ?_ _) | (with_reducible refine Below.drew ?_) | (with_reducible refine Below.setCell ?_ ?_ _) | (with_reducible refine Below.alloc ?_ ?_ _) | (with_reducible refine below_putObj ?_ ?_ _) | (with_reducible exact Nat.le_refl _) | omega | (simp; done) | (simp; omega)))
  | ok x r =>
    have e : readAns s = (x, r, 0) := by unfold readAns; rw [hn]
    rw [e]
    have H := Lib.hid (read_ans_ok s x r hm hn)
    clear hn e
    obtain ⟨o, k, d⟩ := x
    unfold ansV at H ⊢
    dsimp only at H ⊢
    go_enter Try.func27, Try.ntmps27
    go_wp2_with fail
    refine (H.out _).mono ?_
    rintro e w1 ⟨rfl, hb1⟩
    have x1 := (Blk.new w 41 #[.int .u32 0, .int .u32 0, .string ⟨#[]⟩]).below hb1 (by simp)
    have b1 := below_next ((Below.refl _ w).alloc (Nat.le_refl _) _) hb1
    have c0 := x1.cell 0
    have c1 := x1.cell 1
    have c2 := x1.cell 2
    have f0 := x1.frozen 0
    have f1 := x1.frozen 1
    have f2 := x1.frozen 2
    simp only [List.getElem?_toArray, List.getElem?_cons_zero, List.getElem?_cons_succ] at c0 c1 c2
    clear hb1 x1
    go_wp2
    refine bodyPost_ret (v := .tuple #[.agg #[.int .u32 (o : Nat), .int .u32 (k : Nat), .string ⟨d.toArray⟩], .string ⟨r.toArray⟩, .int .i64 0]) (by simp [results, Try.results27, go_sem, c0, c1, c2]) rfl ⟨rfl, ?_⟩
    (repeat' (first | (with_reducible assumption) | (with_reducible exact Below.refl _ _) | (with_reducible refine below_drewN ?_ _) | (with_reducible refine Below.drew ?_) | (with_reducible refine Below.setCell ?_ ?_ _) | (with_reducible refine Below.alloc ?_ ?_ _) | (with_reducible refine below_putObj ?_ ?_ _) | (with_reducible exact Nat.le_refl _) | omega | (simp; done) | (simp; omega)))

end Go.Proofs.Ytcmgecojhjdjkaa
