/- opt.read at strings, opt.ToBegin. -/
import Derived.Test.YteljplpiojdikaaReadOpt2
namespace Go.Proofs.Yteljplpiojdikaa
open Go.RowKit

theorem set_os (w : World) (p : Addr) (v : Value) : (w.setCell p v).os = w.os := rfl
theorem set_tape (w : World) (p : Addr) (v : Value) : (w.setCell p v).tape = w.tape := rfl
theorem set_output (w : World) (p : Addr) (v : Value) : (w.setCell p v).output = w.output := rfl
theorem new_os (w : World) (o : Obj) : (w.alloc o).os = w.os := rfl
theorem new_tape (w : World) (o : Obj) : (w.alloc o).tape = w.tape := rfl
theorem new_output (w : World) (o : Obj) : (w.alloc o).output = w.output := rfl


section
variable (w : World) (b : Nat) (s : List UInt8) (hb : Blk w b 112 #[.string ⟨s.toArray⟩])
include hb
set_option maxRecDepth 100000 in
set_option maxHeartbeats 400000 in
theorem by_str_throw (n : Int) (hm : s.length ≤ 9223372036854775807) (hn : readBegO s = .thrown n) : Calls Try.prog 40 #[.pointer (some ⟨b, 0, none⟩)] w (RdThrow w b n) := by
  have H := Lib.hid (rd_data_throw w b s hb 4294967296 n (by omega) hm hn)
  go_enter Try.func40, Try.ntmps40
  go_wp2_with fail
  refine H.out.mono ?_
  rintro e w1 ⟨rfl, hg⟩
  go_wp2
  exact ⟨rfl, rfl, hg⟩

set_option maxRecDepth 100000 in
set_option maxHeartbeats 400000 in
theorem by_str_ok (x r : List UInt8) (hm : s.length ≤ 9223372036854775807) (hn : readBegO s = .ok x r) : Calls Try.prog 40 #[.pointer (some ⟨b, 0, none⟩)] w (RdOk w b (.string ⟨x.toArray⟩) r) := by
  have H := Lib.hid (rd_data_ok w b s hb 4294967296 x r (by omega) hm hn)
  go_enter Try.func40, Try.ntmps40
  go_wp2_with fail
  refine H.out.mono ?_
  rintro e w1 ⟨rfl, hb1, hg⟩
  go_wp2
  go_ret
  exact ⟨rfl, hb1, hg⟩
end

set_option maxRecDepth 100000 in
set_option maxHeartbeats 400000 in
theorem catch_str_panic (x r e : Nat) (n : Int) (w : World) (hx : Blk w x 9 #[.string ⟨#[]⟩]) (hr : Blk w r 9 #[.string ⟨#[]⟩]) (he : Blk w e 38 #[.int .i64 0]) (hxr : x ≠ r) (hxe : x ≠ e) (hre : r ≠ e) :
    CallsD Try.prog 58 #[.pointer (some ⟨x, 0, none⟩), .pointer (some ⟨r, 0, none⟩), .pointer (some ⟨e, 0, none⟩)] (.panicking (thrown n)) w (CaughtEnds w x r e 9 #[.string ⟨#[]⟩] n) := by
  have cx0 := hx.cell 0
  have cr := hr.cell 0
  have ce := he.cell 0
  have fx0 := hx.frozen 0
  have fr := hr.frozen 0
  have fe := he.frozen 0
  have lx := hx.lt
  have lr := hr.lt
  have le := he.lt
  simp only [List.getElem?_toArray, List.getElem?_cons_zero, List.getElem?_cons_succ] at cx0 cr ce
  have hta : ∀ W, (Instr.typeAssert (.iface 109 (.int .i64 n)) 20 109 true).run Try.prog W = .ok (.tuple #[.int .i64 n, .bool true]) W := fun _ => by kernel_rfl
  refine callsD_of_wpS Try.func58 rfl fun c₀ cs hu => ?_
  simp only [Try.ntmps58, List.size_toArray, List.length_cons, List.length_nil, Nat.reduceAdd, Nat.reduceSub, Array.replicate_succ, Array.replicate_zero, List.push_toArray, List.append_toArray, List.nil_append, List.cons_append]
  apply wpS_seq
  apply wpS_region
  simp [wpOpsS, go_sem, recoverD, hu, Exit.thenS]
  refine wpS_of_wp ?_
  go_wp2
  refine ⟨rfl, _, rfl, .tuple #[], by simp [results, Try.results58], rfl, rfl, ?_⟩
  have bx := ((hx.set_ 0 (.string ⟨#[]⟩)).far (p := ⟨r, 0, none⟩) hxr (.string ⟨#[]⟩)).far (p := ⟨e, 0, none⟩) hxe (.int .i64 n)
  have br := ((hr.far (p := ⟨x, 0, none⟩) hxr.symm (.string ⟨#[]⟩)).set_ 0 (.string ⟨#[]⟩)).far (p := ⟨e, 0, none⟩) hre (.int .i64 n)
  have be := ((he.far (p := ⟨x, 0, none⟩) hxe.symm (.string ⟨#[]⟩)).far (p := ⟨r, 0, none⟩) hre.symm (.string ⟨#[]⟩)).set_ 0 (.int .i64 n)
  simp only [List.setIfInBounds_toArray, List.set_cons_zero, List.set_cons_succ] at bx br be
  refine ⟨bx, br, be, fun k hk h1 h2 h3 => ?_, by simp, by simp only [set_os, new_os], by simp only [set_tape, new_tape], by simp only [set_output, new_output]⟩
  rw [heap_set (p := ⟨e, 0, none⟩) h3, heap_set (p := ⟨r, 0, none⟩) h2, heap_set (p := ⟨x, 0, none⟩) h1]

set_option maxRecDepth 100000 in
set_option maxHeartbeats 400000 in
theorem catch_str_idle (x r e : Nat) (w : World) :
    CallsD Try.prog 58 #[.pointer (some ⟨x, 0, none⟩), .pointer (some ⟨r, 0, none⟩), .pointer (some ⟨e, 0, none⟩)] .returning w fun en u' w' => en = .returned (.tuple #[]) ∧ u' = .returning ∧ w' = w := by
  refine callsD_of_wpS Try.func58 rfl fun c₀ cs hu => ?_
  simp only [Try.ntmps58, List.size_toArray, List.length_cons, List.length_nil, Nat.reduceAdd, Nat.reduceSub, Array.replicate_succ, Array.replicate_zero, List.push_toArray, List.append_toArray, List.nil_append, List.cons_append]
  apply wpS_seq
  apply wpS_region
  simp [wpOpsS, go_sem, recoverD, hu, Exit.thenS]
  refine wpS_of_wp ?_
  go_wp2
  cases c₀
  simp_all [bodyPostS, results, Try.results58]

set_option maxRecDepth 100000 in
set_option maxHeartbeats 400000 in
theorem read_str_throw (s : List UInt8) (n : Int) (hm : s.length ≤ 9223372036854775807) (hn : readBegO s = .thrown n) (w : World) :
    Calls Try.prog 39 #[.string ⟨s.toArray⟩, .func (.func 40) #[] #[]] w (Gives (.tuple #[.string ⟨#[]⟩, .string ⟨#[]⟩, .int .i64 n]) w) := by
  have hmf : ∀ (fn : Fn) (first cap : Array Value) (w : World), (Instr.makeFunc fn first cap).run Try.prog w = .ok (.func fn first cap) w := fun _ _ _ _ => rfl
  have mixed : Try.prog.follows .mixedOrders = true := by kernel_rfl
  go_enter_defers Try.func39, Try.ntmps39
  go_wp2_with fail
  have b0 : Below w.heap.size w ((((w.alloc (.cells #[.string ⟨#[]⟩] 9)).alloc (.cells #[.string ⟨#[]⟩] 9)).alloc (.cells #[.int .i64 0] 38)).alloc (.cells #[.string ⟨s.toArray⟩] 112)) := by (repeat' (first | (with_reducible assumption) | (with_reducible exact Below.refl _ _) | (with_reducible refine below_drewN ?_ _) | (with_reducible refine Below.drew ?_) | (with_reducible refine Below.setCell ?_ ?_ _) | (with_reducible refine Below.alloc ?_ ?_ _) | (with_reducible refine below_putObj ?_ ?_ _) | (with_reducible exact Nat.le_refl _) | omega | (simp; done) | (simp; omega)))
  have hx : Blk ((((w.alloc (.cells #[.string ⟨#[]⟩] 9)).alloc (.cells #[.string ⟨#[]⟩] 9)).alloc (.cells #[.int .i64 0] 38)).alloc (.cells #[.string ⟨s.toArray⟩] 112)) w.heap.size 9 #[.string ⟨#[]⟩] := ((((Blk.new w _ _).alloc _).alloc _).alloc _)
  have hr : Blk ((((w.alloc (.cells #[.string ⟨#[]⟩] 9)).alloc (.cells #[.string ⟨#[]⟩] 9)).alloc (.cells #[.int .i64 0] 38)).alloc (.cells #[.string ⟨s.toArray⟩] 112)) (w.heap.size + 1) 9 #[.string ⟨#[]⟩] := (((Blk.newAt (by simp)).alloc _).alloc _)
  have he : Blk ((((w.alloc (.cells #[.string ⟨#[]⟩] 9)).alloc (.cells #[.string ⟨#[]⟩] 9)).alloc (.cells #[.int .i64 0] 38)).alloc (.cells #[.string ⟨s.toArray⟩] 112)) (w.heap.size + 1 + 1) 38 #[.int .i64 0] := ((Blk.newAt (by simp)).alloc _)
  have hb : Blk ((((w.alloc (.cells #[.string ⟨#[]⟩] 9)).alloc (.cells #[.string ⟨#[]⟩] 9)).alloc (.cells #[.int .i64 0] 38)).alloc (.cells #[.string ⟨s.toArray⟩] 112)) (w.heap.size + 1 + 1 + 1) 112 #[.string ⟨s.toArray⟩] := Blk.newAt (by simp)
  have hs : w.heap.size + 1 + 1 + 1 < ((((w.alloc (.cells #[.string ⟨#[]⟩] 9)).alloc (.cells #[.string ⟨#[]⟩] 9)).alloc (.cells #[.int .i64 0] 38)).alloc (.cells #[.string ⟨s.toArray⟩] 112)).heap.size := hb.lt
  refine at_world fun W0 hW0 => ?_
  rw [← hW0] at b0 hx hr he hb hs
  clear hW0
  refine (by_str_throw W0 _ s hb n hm hn).mono ?_
  rintro en W1 ⟨rfl, hg⟩
  have x1 : Blk W1 w.heap.size 9 #[.string ⟨#[]⟩] := (hg.block _ hx.lt (by simp; omega)).trans hx
  have r1 : Blk W1 (w.heap.size + 1) 9 #[.string ⟨#[]⟩] := (hg.block _ hr.lt (by simp)).trans hr
  have e1 : Blk W1 (w.heap.size + 1 + 1) 38 #[.int .i64 0] := (hg.block _ he.lt (by simp)).trans he
  have b1 : Below w.heap.size w W1 := b0.grown hg (by omega) (fun k hk => by simp at hk; omega)
  clear hg b0 hx hr he hb hs
  go_wp2_with fail
  refine leaves_cons (f := 58) (args := #[.pointer (some ⟨w.heap.size, 0, none⟩), .pointer (some ⟨w.heap.size + 1, 0, none⟩), .pointer (some ⟨w.heap.size + 1 + 1, 0, none⟩)]) (by simp) (by simp [go_sem]) ?_
  refine (catch_str_panic _ _ _ n W1 x1 r1 e1 (by omega) (by omega) (by omega)).mono ?_
  rintro en u' W2 ⟨rfl, rfl, k⟩
  have b2 := door_below b1 (Nat.le_refl _) (by omega) (by omega) k.rest k.size k.os k.tape k.output
  have c0 := k.bx.cell 0
  have c2 := k.br.cell 0
  have c3 := k.be.cell 0
  simp only [List.getElem?_toArray, List.getElem?_cons_zero, List.getElem?_cons_succ] at c0 c2 c3
  clear k x1 r1 e1 b1
  simp [Leaves, settle, results, Try.results39, go_sem, c0, c2, c3]
  exact ⟨rfl, b2⟩

set_option maxRecDepth 100000 in
set_option maxHeartbeats 400000 in
theorem read_str_ok (s d r : List UInt8) (hm : s.length ≤ 9223372036854775807) (hn : readBegO s = .ok d r) (w : World) :
    Calls Try.prog 39 #[.string ⟨s.toArray⟩, .func (.func 40) #[] #[]] w (Gives (.tuple #[.string ⟨d.toArray⟩, .string ⟨r.toArray⟩, .int .i64 0]) w) := by
  have hmf : ∀ (fn : Fn) (first cap : Array Value) (w : World), (Instr.makeFunc fn first cap).run Try.prog w = .ok (.func fn first cap) w := fun _ _ _ _ => rfl
  have mixed : Try.prog.follows .mixedOrders = true := by kernel_rfl
  go_enter_defers Try.func39, Try.ntmps39
  go_wp2_with fail
  have b0 : Below w.heap.size w ((((w.alloc (.cells #[.string ⟨#[]⟩] 9)).alloc (.cells #[.string ⟨#[]⟩] 9)).alloc (.cells #[.int .i64 0] 38)).alloc (.cells #[.string ⟨s.toArray⟩] 112)) := by (repeat' (first | (with_reducible assumption) | (with_reducible exact Below.refl _ _) | (with_reducible refine below_drewN ?_ _) | (with_reducible refine Below.drew ?_) | (with_reducible refine Below.setCell ?_ ?_ _) | (with_reducible refine Below.alloc ?_ ?_ _) | (with_reducible refine below_putObj ?_ ?_ _) | (with_reducible exact Nat.le_refl _) | omega | (simp; done) | (simp; omega)))
  have hx : Blk ((((w.alloc (.cells #[.string ⟨#[]⟩] 9)).alloc (.cells #[.string ⟨#[]⟩] 9)).alloc (.cells #[.int .i64 0] 38)).alloc (.cells #[.string ⟨s.toArray⟩] 112)) w.heap.size 9 #[.string ⟨#[]⟩] := ((((Blk.new w _ _).alloc _).alloc _).alloc _)
  have hr : Blk ((((w.alloc (.cells #[.string ⟨#[]⟩] 9)).alloc (.cells #[.string ⟨#[]⟩] 9)).alloc (.cells #[.int .i64 0] 38)).alloc (.cells #[.string ⟨s.toArray⟩] 112)) (w.heap.size + 1) 9 #[.string ⟨#[]⟩] := (((Blk.newAt (by simp)).alloc _).alloc _)
  have he : Blk ((((w.alloc (.cells #[.string ⟨#[]⟩] 9)).alloc (.cells #[.string ⟨#[]⟩] 9)).alloc (.cells #[.int .i64 0] 38)).alloc (.cells #[.string ⟨s.toArray⟩] 112)) (w.heap.size + 1 + 1) 38 #[.int .i64 0] := ((Blk.newAt (by simp)).alloc _)
  have hb : Blk ((((w.alloc (.cells #[.string ⟨#[]⟩] 9)).alloc (.cells #[.string ⟨#[]⟩] 9)).alloc (.cells #[.int .i64 0] 38)).alloc (.cells #[.string ⟨s.toArray⟩] 112)) (w.heap.size + 1 + 1 + 1) 112 #[.string ⟨s.toArray⟩] := Blk.newAt (by simp)
  have hs : w.heap.size + 1 + 1 + 1 < ((((w.alloc (.cells #[.string ⟨#[]⟩] 9)).alloc (.cells #[.string ⟨#[]⟩] 9)).alloc (.cells #[.int .i64 0] 38)).alloc (.cells #[.string ⟨s.toArray⟩] 112)).heap.size := hb.lt
  refine at_world fun W0 hW0 => ?_
  rw [← hW0] at b0 hx hr he hb hs
  clear hW0
  refine (by_str_ok W0 _ s hb d r hm hn).mono ?_
  rintro en W1 ⟨rfl, rb, hg⟩
  have x1 : Blk W1 w.heap.size 9 #[.string ⟨#[]⟩] := (hg.block _ hx.lt (by simp; omega)).trans hx
  have r1 : Blk W1 (w.heap.size + 1) 9 #[.string ⟨#[]⟩] := (hg.block _ hr.lt (by simp)).trans hr
  have e1 : Blk W1 (w.heap.size + 1 + 1) 38 #[.int .i64 0] := (hg.block _ he.lt (by simp)).trans he
  have b1 : Below w.heap.size w W1 := b0.grown hg (by omega) (fun k hk => by simp at hk; omega)
  clear hg b0 hx hr he hb hs
  have c0 := x1.cell 0
  have c2 := r1.cell 0
  have c3 := e1.cell 0
  have c4 := rb.cell 0
  have f0 := x1.frozen 0
  have f2 := r1.frozen 0
  have f3 := e1.frozen 0
  simp only [List.getElem?_toArray, List.getElem?_cons_zero, List.getElem?_cons_succ] at c0 c2 c3 c4
  go_wp2
  go_region
  go_wp2
  refine at_door fun W3 hW3 => ?_
  have s1 := b1.size
  have x3 : Blk W3 w.heap.size 9 #[.string ⟨d.toArray⟩] := by
    rw [hW3]; exact ((((x1.set_ 0 _).set_ 0 _).far (p := ⟨w.heap.size + 1, 0, none⟩) (by dsimp only; omega) _).far (p := ⟨w.heap.size + 1 + 1, 0, none⟩) (by dsimp only; omega) _).drew
  have r3 : Blk W3 (w.heap.size + 1) 9 #[.string ⟨r.toArray⟩] := by
    rw [hW3]; exact ((((r1.far (p := ⟨w.heap.size, 0, none⟩) (by dsimp only; omega) _).far (p := ⟨w.heap.size, 0, none⟩) (by dsimp only; omega) _).set_ 0 _).far (p := ⟨w.heap.size + 1 + 1, 0, none⟩) (by dsimp only; omega) _).drew
  have e3 : Blk W3 (w.heap.size + 1 + 1) 38 #[.int .i64 0] := by
    rw [hW3]; exact ((((e1.far (p := ⟨w.heap.size, 0, none⟩) (by dsimp only; omega) _).far (p := ⟨w.heap.size, 0, none⟩) (by dsimp only; omega) _).far (p := ⟨w.heap.size + 1, 0, none⟩) (by dsimp only; omega) _).set_ 0 _).drew
  have b3 : Below w.heap.size w W3 := by rw [hW3]; (repeat' (first | (with_reducible assumption) | (with_reducible exact Below.refl _ _) | (with_reducible refine below_drewN ?_ _) | (with_reducible refine Below.drew ?_) | (with_reducible refine Below.setCell ?_ ?_ _) | (with_reducible refine Below.alloc ?_ ?_ _) | (with_reducible refine below_putObj ?_ ?_ _) | (with_reducible exact Nat.le_refl _) | omega | (simp; done) | (simp; omega)))
  clear hW3 c0 c2 c3 c4 f0 f2 f3 x1 r1 e1 rb b1 s1
  have c0 := x3.cell 0
  have c2 := r3.cell 0
  have c3 := e3.cell 0
  simp only [List.getElem?_toArray, List.getElem?_cons_zero, List.getElem?_cons_succ] at c0 c2 c3
  clear x3 r3 e3
  refine leaves_cons (f := 58) (args := #[.pointer (some ⟨w.heap.size, 0, none⟩), .pointer (some ⟨w.heap.size + 1, 0, none⟩), .pointer (some ⟨w.heap.size + 1 + 1, 0, none⟩)]) (by simp) (by simp [go_sem]) ?_
  refine (catch_str_idle _ _ _ _).mono ?_
  rintro en u' W2 ⟨rfl, rfl, rfl⟩
  simp [Leaves, settle, results, Try.results39, go_sem, c0, c2, c3]
  exact ⟨rfl, b3⟩

set_option maxRecDepth 100000 in
set_option maxHeartbeats 400000 in
theorem to_begin_any (s : List UInt8) (hm : s.length ≤ 9223372036854775807) (w : World) :
    Calls Try.prog 25 #[.string ⟨s.toArray⟩] w (Gives (.tuple #[.string ⟨(readBeg s).1.toArray⟩, .string ⟨(readBeg s).2.1.toArray⟩, .int .i64 (readBeg s).2.2]) w) := by
  have H : Hid (∀ W, Calls Try.prog 39 #[.string ⟨s.toArray⟩, .func (.func 40) #[] #[]] W (Gives (.tuple #[.string ⟨(readBeg s).1.toArray⟩, .string ⟨(readBeg s).2.1.toArray⟩, .int .i64 (readBeg s).2.2]) W)) := by
    cases hn : readBegO s with
    | thrown n =>
      have e : readBeg s = ([], [], n) := by unfold readBeg; rw [hn]
      rw [e]
      exact Lib.hid (read_str_throw s n hm hn)
    | ok x r =>
      have e : readBeg s = (x, r, 0) := by unfold readBeg; rw [hn]
      rw [e]
      exact Lib.hid (read_str_ok s x r hm hn)
  generalize readBeg s = z at H
  obtain ⟨x, r, n⟩ := z
  dsimp only at H ⊢
  go_enter Try.func25, Try.ntmps25
  go_wp2_with fail
  refine (H.out _).mono ?_
  rintro e w1 ⟨rfl, hb1⟩
  go_wp2
  refine bodyPost_ret (v := .tuple #[.string ⟨x.toArray⟩, .string ⟨r.toArray⟩, .int .i64 n]) (by simp [results, Try.results25, go_sem]) rfl ⟨rfl, hb1⟩

end Go.Proofs.Yteljplpiojdikaa
