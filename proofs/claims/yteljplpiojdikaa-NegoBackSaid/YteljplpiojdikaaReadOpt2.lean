/- opt.read at options: the deferred closure, the reader's call, what is handed back. -/
import Derived.Test.YteljplpiojdikaaReadOpt
import Derived.Defers
import Derived.Recover
namespace Go.Proofs.Yteljplpiojdikaa
open Go.RowKit

/-- What the deferred closure leaves behind a throw: the results are none, and the error. -/
structure Caught (w : World) (x r e : Nat) (T : TypeId) (cs : Array Value) (n : Int) (w' : World) : Prop where
  bx : Blk w' x T cs
  br : Blk w' r 9 #[.string ⟨#[]⟩]
  be : Blk w' e 38 #[.int .i64 n]
  rest : ∀ k, k < w.heap.size → k ≠ x → k ≠ r → k ≠ e → w'.heap[k]? = w.heap[k]?
  size : w.heap.size ≤ w'.heap.size
  os : w'.os = w.os
  tape : w'.tape = w.tape
  output : w'.output = w.output
def CaughtEnds (w : World) (x r e : Nat) (T : TypeId) (cs : Array Value) (n : Int) (en : Ending) (u' : FrameMode) (w' : World) : Prop :=
  en = .returned (.tuple #[]) ∧ u' = .panicking [{ v := .iface 109 (.int .i64 n), recovered := true }] ∧ Caught w x r e T cs n w'

set_option maxRecDepth 100000 in
set_option maxHeartbeats 400000 in
theorem catch_opt_panic (x r e : Nat) (n : Int) (w : World) (hx : Blk w x 58 #[.int .u32 0, .string ⟨#[]⟩]) (hr : Blk w r 9 #[.string ⟨#[]⟩]) (he : Blk w e 38 #[.int .i64 0]) (hxr : x ≠ r) (hxe : x ≠ e) (hre : r ≠ e) :
    CallsD Try.prog 61 #[.pointer (some ⟨x, 0, none⟩), .pointer (some ⟨r, 0, none⟩), .pointer (some ⟨e, 0, none⟩)] (.panicking (thrown n)) w (CaughtEnds w x r e 58 #[.int .u32 0, .string ⟨#[]⟩] n) := by
  have cx0 := hx.cell 0
  have cx1 := hx.cell 1
  have cr := hr.cell 0
  have ce := he.cell 0
  have fx0 := hx.frozen 0
  have fx1 := hx.frozen 1
  have fr := hr.frozen 0
  have fe := he.frozen 0
  have lx := hx.lt
  have lr := hr.lt
  have le := he.lt
  simp only [List.getElem?_toArray, List.getElem?_cons_zero, List.getElem?_cons_succ] at cx0 cx1 cr ce
  have hta : ∀ W, (Instr.typeAssert (.iface 109 (.int .i64 n)) 20 109 true).run Try.prog W = .ok (.tuple #[.int .i64 n, .bool true]) W := fun _ => by kernel_rfl
  refine callsD_of_wpS Try.func61 rfl fun c₀ cs hu => ?_
  simp only [Try.ntmps61, List.size_toArray, List.length_cons, List.length_nil, Nat.reduceAdd, Nat.reduceSub, Array.replicate_succ, Array.replicate_zero, List.push_toArray, List.append_toArray, List.nil_append, List.cons_append]
  apply wpS_seq
  apply wpS_region
  simp [wpOpsS, go_sem, recoverD, hu, Exit.thenS]
  refine wpS_of_wp ?_
  go_wp2
  refine ⟨rfl, _, rfl, .tuple #[], by simp [results, Try.results61], rfl, rfl, ?_⟩
  exact {
    bx := ((((hx.set_ 0 _).set_ 1 _).far (p := ⟨r, 0, none⟩) hxr _).far (p := ⟨e, 0, none⟩) hxe _).alloc _
    br := ((((hr.far (p := ⟨x, 0, none⟩) hxr.symm _).far (p := ⟨x, 1, none⟩) hxr.symm _).set_ 0 _).far (p := ⟨e, 0, none⟩) hre _).alloc _
    be := ((((he.far (p := ⟨x, 0, none⟩) hxe.symm _).far (p := ⟨x, 1, none⟩) hxe.symm _).far (p := ⟨r, 0, none⟩) hre.symm _).set_ 0 _).alloc _
    rest := fun k hk h1 h2 h3 => (Below.heap_alloc _ _ _ (by simpa using hk)).trans ((heap_set (p := ⟨e, 0, none⟩) h3 _).trans ((heap_set (p := ⟨r, 0, none⟩) h2 _).trans ((heap_set (p := ⟨x, 1, none⟩) h1 _).trans (heap_set (p := ⟨x, 0, none⟩) h1 _))))
    size := by simp
    os := rfl
    tape := rfl
    output := rfl }

set_option maxRecDepth 100000 in
set_option maxHeartbeats 400000 in
/-- Where nothing was thrown the closure does nothing. -/
theorem catch_opt_idle (x r e : Nat) (w : World) :
    CallsD Try.prog 61 #[.pointer (some ⟨x, 0, none⟩), .pointer (some ⟨r, 0, none⟩), .pointer (some ⟨e, 0, none⟩)] .returning w fun en u' w' => en = .returned (.tuple #[]) ∧ u' = .returning ∧ w' = w := by
  refine callsD_of_wpS Try.func61 rfl fun c₀ cs hu => ?_
  simp only [Try.ntmps61, List.size_toArray, List.length_cons, List.length_nil, Nat.reduceAdd, Nat.reduceSub, Array.replicate_succ, Array.replicate_zero, List.push_toArray, List.append_toArray, List.nil_append, List.cons_append]
  apply wpS_seq
  apply wpS_region
  simp [wpOpsS, go_sem, recoverD, hu, Exit.thenS]
  refine wpS_of_wp ?_
  go_wp2
  cases c₀
  simp_all [bodyPostS, results, Try.results61]

/-- What read leaves. -/
theorem door_below {w w1 w2 : World} {x r e : Nat} (h : Below w.heap.size w w1) (hx : w.heap.size ≤ x) (hr : w.heap.size ≤ r) (he : w.heap.size ≤ e)
    (hrest : ∀ k, k < w1.heap.size → k ≠ x → k ≠ r → k ≠ e → w2.heap[k]? = w1.heap[k]?) (hs : w1.heap.size ≤ w2.heap.size) (ho : w2.os = w1.os) (ht : w2.tape = w1.tape) (hp : w2.output = w1.output) : Below w.heap.size w w2 :=
  h.trans ⟨ho, ht, hp, hs, fun k hk => hrest k (by have := h.size; omega) (by omega) (by omega) (by omega)⟩

set_option maxRecDepth 100000 in
set_option maxHeartbeats 400000 in
theorem read_opt_throw (s : List UInt8) (n : Int) (hm : s.length ≤ 9223372036854775807) (hn : readOptO s = .thrown n) (w : World) :
    Calls Try.prog 46 #[.string ⟨s.toArray⟩, .func (.func 47) #[] #[]] w (Gives (.tuple #[.agg #[.int .u32 0, .string ⟨#[]⟩], .string ⟨#[]⟩, .int .i64 n]) w) := by
  have hmf : ∀ (fn : Fn) (first cap : Array Value) (w : World), (Instr.makeFunc fn first cap).run Try.prog w = .ok (.func fn first cap) w := fun _ _ _ _ => rfl
  go_enter_defers Try.func46, Try.ntmps46
  go_wp2_with fail
  have b0 : Below w.heap.size w ((((w.alloc (.cells #[.int .u32 0, .string ⟨#[]⟩] 58)).alloc (.cells #[.string ⟨#[]⟩] 9)).alloc (.cells #[.int .i64 0] 38)).alloc (.cells #[.string ⟨s.toArray⟩] 112)) := by (repeat' (first | (with_reducible assumption) | (with_reducible exact Below.refl _ _) | (with_reducible refine below_drewN ?_ _) | (with_reducible refine Below.drew ?_) | (with_reducible refine Below.setCell ?_ ?_ _) | (with_reducible refine Below.alloc ?_ ?_ _) | (with_reducible refine below_putObj ?_ ?_ _) | (with_reducible exact Nat.le_refl _) | omega | (simp; done) | (simp; omega)))
  have hx : Blk ((((w.alloc (.cells #[.int .u32 0, .string ⟨#[]⟩] 58)).alloc (.cells #[.string ⟨#[]⟩] 9)).alloc (.cells #[.int .i64 0] 38)).alloc (.cells #[.string ⟨s.toArray⟩] 112)) w.heap.size 58 #[.int .u32 0, .string ⟨#[]⟩] := ((((Blk.new w _ _).alloc _).alloc _).alloc _)
  have hr : Blk ((((w.alloc (.cells #[.int .u32 0, .string ⟨#[]⟩] 58)).alloc (.cells #[.string ⟨#[]⟩] 9)).alloc (.cells #[.int .i64 0] 38)).alloc (.cells #[.string ⟨s.toArray⟩] 112)) (w.heap.size + 1) 9 #[.string ⟨#[]⟩] := (((Blk.newAt (by simp)).alloc _).alloc _)
  have he : Blk ((((w.alloc (.cells #[.int .u32 0, .string ⟨#[]⟩] 58)).alloc (.cells #[.string ⟨#[]⟩] 9)).alloc (.cells #[.int .i64 0] 38)).alloc (.cells #[.string ⟨s.toArray⟩] 112)) (w.heap.size + 1 + 1) 38 #[.int .i64 0] := ((Blk.newAt (by simp)).alloc _)
  have hb : Blk ((((w.alloc (.cells #[.int .u32 0, .string ⟨#[]⟩] 58)).alloc (.cells #[.string ⟨#[]⟩] 9)).alloc (.cells #[.int .i64 0] 38)).alloc (.cells #[.string ⟨s.toArray⟩] 112)) (w.heap.size + 1 + 1 + 1) 112 #[.string ⟨s.toArray⟩] := Blk.newAt (by simp)
  have hs : w.heap.size + 1 + 1 + 1 < ((((w.alloc (.cells #[.int .u32 0, .string ⟨#[]⟩] 58)).alloc (.cells #[.string ⟨#[]⟩] 9)).alloc (.cells #[.int .i64 0] 38)).alloc (.cells #[.string ⟨s.toArray⟩] 112)).heap.size := hb.lt
  refine at_world fun W0 hW0 => ?_
  rw [← hW0] at b0 hx hr he hb hs
  clear hW0
  refine (by_opt_throw W0 _ s hb n hm hn).mono ?_
  rintro en W1 ⟨rfl, hg⟩
  have x1 : Blk W1 w.heap.size 58 #[.int .u32 0, .string ⟨#[]⟩] := (hg.block _ hx.lt (by simp; omega)).trans hx
  have r1 : Blk W1 (w.heap.size + 1) 9 #[.string ⟨#[]⟩] := (hg.block _ hr.lt (by simp)).trans hr
  have e1 : Blk W1 (w.heap.size + 1 + 1) 38 #[.int .i64 0] := (hg.block _ he.lt (by simp)).trans he
  have b1 : Below w.heap.size w W1 := b0.grown hg (by omega) (fun k hk => by simp at hk; omega)
  clear hg b0 hx hr he hb hs
  go_wp2_with fail
  refine leaves_cons (f := 61) (args := #[.pointer (some ⟨w.heap.size, 0, none⟩), .pointer (some ⟨w.heap.size + 1, 0, none⟩), .pointer (some ⟨w.heap.size + 1 + 1, 0, none⟩)]) (by simp) (by simp [go_sem]) ?_
  refine (catch_opt_panic _ _ _ n W1 x1 r1 e1 (by omega) (by omega) (by omega)).mono ?_
  rintro en u' W2 ⟨rfl, rfl, k⟩
  have b2 := door_below b1 (Nat.le_refl _) (by omega) (by omega) k.rest k.size k.os k.tape k.output
  have c0 := k.bx.cell 0
  have c1 := k.bx.cell 1
  have c2 := k.br.cell 0
  have c3 := k.be.cell 0
  simp only [List.getElem?_toArray, List.getElem?_cons_zero, List.getElem?_cons_succ] at c0 c1 c2 c3
  clear k x1 r1 e1 b1
  simp [Leaves, settle, results, Try.results46, go_sem, c0, c1, c2, c3]
  exact ⟨rfl, b2⟩

set_option maxRecDepth 100000 in
set_option maxHeartbeats 400000 in
theorem read_opt_ok (s : List UInt8) (x : Nat × List UInt8) (r : List UInt8) (hm : s.length ≤ 9223372036854775807) (hn : readOptO s = .ok x r) (w : World) :
    Calls Try.prog 46 #[.string ⟨s.toArray⟩, .func (.func 47) #[] #[]] w (Gives (.tuple #[optV x, .string ⟨r.toArray⟩, .int .i64 0]) w) := by
  have hmf : ∀ (fn : Fn) (first cap : Array Value) (w : World), (Instr.makeFunc fn first cap).run Try.prog w = .ok (.func fn first cap) w := fun _ _ _ _ => rfl
  have mixed : Try.prog.follows .mixedOrders = true := by kernel_rfl
  go_enter_defers Try.func46, Try.ntmps46
  go_wp2_with fail
  have b0 : Below w.heap.size w ((((w.alloc (.cells #[.int .u32 0, .string ⟨#[]⟩] 58)).alloc (.cells #[.string ⟨#[]⟩] 9)).alloc (.cells #[.int .i64 0] 38)).alloc (.cells #[.string ⟨s.toArray⟩] 112)) := by (repeat' (first | (with_reducible assumption) | (with_reducible exact Below.refl _ _) | (with_reducible refine below_drewN ?_ _) | (with_reducible refine Below.drew ?_) | (with_reducible refine Below.setCell ?_ ?_ _) | (with_reducible refine Below.alloc ?_ ?_ _) | (with_reducible refine below_putObj ?_ ?_ _) | (with_reducible exact Nat.le_refl _) | omega | (simp; done) | (simp; omega)))
  have hx : Blk ((((w.alloc (.cells #[.int .u32 0, .string ⟨#[]⟩] 58)).alloc (.cells #[.string ⟨#[]⟩] 9)).alloc (.cells #[.int .i64 0] 38)).alloc (.cells #[.string ⟨s.toArray⟩] 112)) w.heap.size 58 #[.int .u32 0, .string ⟨#[]⟩] := ((((Blk.new w _ _).alloc _).alloc _).alloc _)
  have hr : Blk ((((w.alloc (.cells #[.int .u32 0, .string ⟨#[]⟩] 58)).alloc (.cells #[.string ⟨#[]⟩] 9)).alloc (.cells #[.int .i64 0] 38)).alloc (.cells #[.string ⟨s.toArray⟩] 112)) (w.heap.size + 1) 9 #[.string ⟨#[]⟩] := (((Blk.newAt (by simp)).alloc _).alloc _)
  have he : Blk ((((w.alloc (.cells #[.int .u32 0, .string ⟨#[]⟩] 58)).alloc (.cells #[.string ⟨#[]⟩] 9)).alloc (.cells #[.int .i64 0] 38)).alloc (.cells #[.string ⟨s.toArray⟩] 112)) (w.heap.size + 1 + 1) 38 #[.int .i64 0] := ((Blk.newAt (by simp)).alloc _)
  have hb : Blk ((((w.alloc (.cells #[.int .u32 0, .string ⟨#[]⟩] 58)).alloc (.cells #[.string ⟨#[]⟩] 9)).alloc (.cells #[.int .i64 0] 38)).alloc (.cells #[.string ⟨s.toArray⟩] 112)) (w.heap.size + 1 + 1 + 1) 112 #[.string ⟨s.toArray⟩] := Blk.newAt (by simp)
  have hs : w.heap.size + 1 + 1 + 1 < ((((w.alloc (.cells #[.int .u32 0, .string ⟨#[]⟩] 58)).alloc (.cells #[.string ⟨#[]⟩] 9)).alloc (.cells #[.int .i64 0] 38)).alloc (.cells #[.string ⟨s.toArray⟩] 112)).heap.size := hb.lt
  refine at_world fun W0 hW0 => ?_
  rw [← hW0] at b0 hx hr he hb hs
  clear hW0
  refine (by_opt_ok W0 _ s hb x r hm hn).mono ?_
  rintro en W1 ⟨rfl, rb, hg⟩
  have x1 : Blk W1 w.heap.size 58 #[.int .u32 0, .string ⟨#[]⟩] := (hg.block _ hx.lt (by simp; omega)).trans hx
  have r1 : Blk W1 (w.heap.size + 1) 9 #[.string ⟨#[]⟩] := (hg.block _ hr.lt (by simp)).trans hr
  have e1 : Blk W1 (w.heap.size + 1 + 1) 38 #[.int .i64 0] := (hg.block _ he.lt (by simp)).trans he
  have b1 : Below w.heap.size w W1 := b0.grown hg (by omega) (fun k hk => by simp at hk; omega)
  clear hg b0 hx hr he hb hs
  obtain ⟨k, d⟩ := x
  unfold optV
  dsimp only
  have c0 := x1.cell 0
  have c1 := x1.cell 1
  have c2 := r1.cell 0
  have c3 := e1.cell 0
  have c4 := rb.cell 0
  have f0 := x1.frozen 0
  have f1 := x1.frozen 1
  have f2 := r1.frozen 0
  have f3 := e1.frozen 0
  simp only [List.getElem?_toArray, List.getElem?_cons_zero, List.getElem?_cons_succ] at c0 c1 c2 c3 c4
  go_wp2
  go_region
  go_wp2
  refine at_door fun W3 hW3 => ?_
  have s1 := b1.size
  have x3 : Blk W3 w.heap.size 58 #[.int .u32 (k : Nat), .string ⟨d.toArray⟩] := by
    rw [hW3]; exact ((((((x1.set_ 0 _).set_ 1 _).set_ 0 _).set_ 1 _).far (p := ⟨w.heap.size + 1, 0, none⟩) (by dsimp only; omega) _).far (p := ⟨w.heap.size + 1 + 1, 0, none⟩) (by dsimp only; omega) _).drew
  have r3 : Blk W3 (w.heap.size + 1) 9 #[.string ⟨r.toArray⟩] := by
    rw [hW3]; exact ((((((r1.far (p := ⟨w.heap.size, 0, none⟩) (by dsimp only; omega) _).far (p := ⟨w.heap.size, 1, none⟩) (by dsimp only; omega) _).far (p := ⟨w.heap.size, 0, none⟩) (by dsimp only; omega) _).far (p := ⟨w.heap.size, 1, none⟩) (by dsimp only; omega) _).set_ 0 _).far (p := ⟨w.heap.size + 1 + 1, 0, none⟩) (by dsimp only; omega) _).drew
  have e3 : Blk W3 (w.heap.size + 1 + 1) 38 #[.int .i64 0] := by
    rw [hW3]; exact ((((((e1.far (p := ⟨w.heap.size, 0, none⟩) (by dsimp only; omega) _).far (p := ⟨w.heap.size, 1, none⟩) (by dsimp only; omega) _).far (p := ⟨w.heap.size, 0, none⟩) (by dsimp only; omega) _).far (p := ⟨w.heap.size, 1, none⟩) (by dsimp only; omega) _).far (p := ⟨w.heap.size + 1, 0, none⟩) (by dsimp only; omega) _).set_ 0 _).drew
  have b3 : Below w.heap.size w W3 := by rw [hW3]; (repeat' (first | (with_reducible assumption) | (with_reducible exact Below.refl _ _) | (with_reducible refine below_drewN ?_ _) | (with_reducible refine Below.drew ?_) | (with_reducible refine Below.setCell ?_ ?_ _) | (with_reducible refine Below.alloc ?_ ?_ _) | (with_reducible refine below_putObj ?_ ?_ _) | (with_reducible exact Nat.le_refl _) | omega | (simp; done) | (simp; omega)))
  clear hW3 c0 c1 c2 c3 c4 f0 f1 f2 f3 x1 r1 e1 rb b1 s1
  have c0 := x3.cell 0
  have c1 := x3.cell 1
  have c2 := r3.cell 0
  have c3 := e3.cell 0
  simp only [List.getElem?_toArray, List.getElem?_cons_zero, List.getElem?_cons_succ] at c0 c1 c2 c3
  clear x3 r3 e3
  refine leaves_cons (f := 61) (args := #[.pointer (some ⟨w.heap.size, 0, none⟩), .pointer (some ⟨w.heap.size + 1, 0, none⟩), .pointer (some ⟨w.heap.size + 1 + 1, 0, none⟩)]) (by simp) (by simp [go_sem]) ?_
  refine (catch_opt_idle _ _ _ _).mono ?_
  rintro en u' W2 ⟨rfl, rfl, rfl⟩
  simp [Leaves, settle, results, Try.results46, go_sem, c0, c1, c2, c3]
  exact ⟨rfl, b3⟩

/-- What a reading hands back. -/
theorem opt_read_any (s : List UInt8) (hm : s.length ≤ 9223372036854775807) (w : World) :
    Calls Try.prog 35 #[.string ⟨s.toArray⟩] w (Gives (.tuple #[optV (readOpt s).1, .string ⟨(readOpt s).2.1.toArray⟩, .int .i64 (readOpt s).2.2]) w) := by
  cases hn : readOptO s with
  | thrown n =>
    have e : readOpt s = ((0, []), [], n) := by unfold readOpt; rw [hn]
    rw [e]
    have H := Lib.hid (read_opt_throw s n hm hn)
    clear hn e
    unfold optV
    dsimp only
    go_enter Try.func35, Try.ntmps35
    go_wp2_with fail
    refine (H.out _).mono ?_
    rintro e w1 ⟨rfl, hb1⟩
    have x1 := (Blk.new w 58 #[.int .u32 0, .string ⟨#[]⟩]).below hb1 (by simp)
    have b1 := below_next ((Below.refl _ w).alloc (Nat.le_refl _) _) hb1
    have c0 := x1.cell 0
    have c1 := x1.cell 1
    have f0 := x1.frozen 0
    have f1 := x1.frozen 1
    simp only [List.getElem?_toArray, List.getElem?_cons_zero, List.getElem?_cons_succ] at c0 c1
    clear hb1 x1
    go_wp2
    refine bodyPost_ret (v := .tuple #[.agg #[.int .u32 0, .string ⟨#[]⟩], .string ⟨#[]⟩, .int .i64 n]) (by simp [results, Try.results35, go_sem, c0, c1]) rfl ⟨rfl, ?_⟩
    (repeat' (first | (with_reducible assumption) | (with_reducible exact Below.refl _ _) | (with_reducible refine below_drewN ?_ _) | (with_reducible refine Below.drew ?_) | (with_reducible refine Below.setCell ?_ ?_ _) | (with_reducible refine Below.alloc ?_ ?_ _) | (with_reducible refine below_putObj ?_ ?_ _) | (with_reducible exact Nat.le_refl _) | omega | (simp; done) | (simp; omega)))
  | ok x r =>
    have e : readOpt s = (x, r, 0) := by unfold readOpt; rw [hn]
    rw [e]
    have H := Lib.hid (read_opt_ok s x r hm hn)
    clear hn e
    obtain ⟨k, d⟩ := x
    unfold optV at H ⊢
    dsimp only at H ⊢
    go_enter Try.func35, Try.ntmps35
    go_wp2_with fail
    refine (H.out _).mono ?_
    rintro e w1 ⟨rfl, hb1⟩
    have x1 := (Blk.new w 58 #[.int .u32 0, .string ⟨#[]⟩]).below hb1 (by simp)
    have b1 := below_next ((Below.refl _ w).alloc (Nat.le_refl _) _) hb1
    have c0 := x1.cell 0
    have c1 := x1.cell 1
    have f0 := x1.frozen 0
    have f1 := x1.frozen 1
    simp only [List.getElem?_toArray, List.getElem?_cons_zero, List.getElem?_cons_succ] at c0 c1
    clear hb1 x1
    go_wp2
    refine bodyPost_ret (v := .tuple #[.agg #[.int .u32 (k : Nat), .string ⟨d.toArray⟩], .string ⟨r.toArray⟩, .int .i64 0]) (by simp [results, Try.results35, go_sem, c0, c1]) rfl ⟨rfl, ?_⟩
    (repeat' (first | (with_reducible assumption) | (with_reducible exact Below.refl _ _) | (with_reducible refine below_drewN ?_ _) | (with_reducible refine Below.drew ?_) | (with_reducible refine Below.setCell ?_ ?_ _) | (with_reducible refine Below.alloc ?_ ?_ _) | (with_reducible refine below_putObj ?_ ?_ _) | (with_reducible exact Nat.le_refl _) | omega | (simp; done) | (simp; omega)))

end Go.Proofs.Yteljplpiojdikaa
