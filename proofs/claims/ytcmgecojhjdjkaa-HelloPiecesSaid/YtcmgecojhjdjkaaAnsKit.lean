/- What the readers of options and of answers share. -/
import Derived.Test.YtcmgecojhjdjkaaReader
import Derived.Defers
import Derived.Recover
namespace Go.Proofs.Ytcmgecojhjdjkaa
open Go.RowKit

theorem headO_ok (hd t r : List UInt8) (u : Unit) (hl : hd.length = 8) (hn : headO hd t = .ok u r) : 8 ≤ t.length ∧ t.take 8 = hd ∧ r = t.drop 8 := by
  unfold headO takeO at hn
  rw [hl] at hn
  by_cases h1 : t.take (min 8 t.length) ≠ hd.take (min 8 t.length)
  · rw [if_pos h1] at hn; cases hn
  · rw [if_neg h1] at hn
    by_cases h2 : t.length < 8
    · rw [if_pos h2] at hn; cases hn
    · rw [if_neg h2] at hn
      simp only [Out.ok.injEq] at hn
      rw [Nat.min_eq_left (by omega)] at h1
      refine ⟨by omega, ?_, hn.2.symm⟩
      rw [Classical.not_not.1 h1, List.take_of_length_le (by omega)]

theorem fourO_ok (t r : List UInt8) (k : Nat) (hn : fourO t = .ok k r) : 4 ≤ t.length ∧ k = de (t.take 4) ∧ r = t.drop 4 := by
  unfold fourO at hn
  by_cases h : t.length < 4
  · rw [if_pos h] at hn; cases hn
  · rw [if_neg h] at hn
    simp only [Out.ok.injEq] at hn
    exact ⟨by omega, hn.1.symm, hn.2.symm⟩

theorem fourO_thrown (t : List UInt8) (n : Int) (hn : fourO t = .thrown n) : t.length < 4 ∧ n = 22 := by
  unfold fourO at hn
  by_cases h : t.length < 4
  · rw [if_pos h] at hn
    simp only [Out.thrown.injEq] at hn
    exact ⟨h, hn.symm⟩
  · rw [if_neg h] at hn; cases hn

theorem only_of_below {w w1 : World} {row : Option Nat} (h : Below w.heap.size w w1) : w.grownBy w1 row := ⟨h.os, h.tape, h.output, h.size, fun k hk _ => h.block k hk⟩

/-- What the deferred closure leaves behind a throw: the results are none, and the error. -/
structure Caught (w : World) (x r e : Nat) (T : TypeId) (cs : Array Value) (n : Int) (w' : World) : Prop where
  bx : Blk w' x T cs
  br : Blk w' r 9 #[.string ⟨#[]⟩]
  be : Blk w' e 61 #[.int .i64 n]
  rest : ∀ k, k < w.heap.size → k ≠ x → k ≠ r → k ≠ e → w'.heap[k]? = w.heap[k]?
  size : w.heap.size ≤ w'.heap.size
  os : w'.os = w.os
  tape : w'.tape = w.tape
  output : w'.output = w.output
def CaughtEnds (w : World) (x r e : Nat) (T : TypeId) (cs : Array Value) (n : Int) (en : Ending) (u' : FrameMode) (w' : World) : Prop :=
  en = .returned (.tuple #[]) ∧ u' = .panicking [{ v := .iface 89 (.int .i64 n), recovered := true }] ∧ Caught w x r e T cs n w'

/-- What read leaves. -/
theorem door_below {w w1 w2 : World} {x r e : Nat} (h : Below w.heap.size w w1) (hx : w.heap.size ≤ x) (hr : w.heap.size ≤ r) (he : w.heap.size ≤ e)
    (hrest : ∀ k, k < w1.heap.size → k ≠ x → k ≠ r → k ≠ e → w2.heap[k]? = w1.heap[k]?) (hs : w1.heap.size ≤ w2.heap.size) (ho : w2.os = w1.os) (ht : w2.tape = w1.tape) (hp : w2.output = w1.output) : Below w.heap.size w w2 :=
  h.trans ⟨ho, ht, hp, hs, fun k hk => hrest k (by have := h.size; omega) (by omega) (by omega) (by omega)⟩


end Go.Proofs.Ytcmgecojhjdjkaa
