/- slices.Chunk at bytes, two by two: its iterator. -/
import Derived.Test.YteljplpiojdikaaNum
import Derived.Test.YteljplpiojdikaaProg
import Derived.Deep.OwnRows
import Derived.Stop.RegionWithIn
namespace Go.Proofs.Yteljplpiojdikaa
open Go.RowKit Go.Shelf

attribute [local go_sem] Oper.semAt_some

set_option maxRecDepth 100000 in
set_option maxHeartbeats 1000000 in
theorem chunk1 (l bs bn N len cap : Nat) (a : Option Addr) (g : Nat) (hlen : len = 2 * N) (ha : 0 < N → a = some ⟨g, 0, none⟩) (hc : len ≤ cap) (hcm : cap ≤ 9223372036854775807) (hN : N ≤ 1000000) (J : Nat → World → Prop)
    (hJ : ∀ k W, J k W → W.cell? ⟨bs, 0, none⟩ = some (.slice a len cap) ∧ W.cell? ⟨bn, 0, none⟩ = some (.int .i64 2))
    (hB : ∀ k W W', J k W → Below W.heap.size W W' → J k W')
    (hY : ∀ k W, k < N → J k W → ∀ i, i = 2 * k → YieldAt Fence.wide 0 Try.prog l #[.slice (some ⟨g, i, none⟩) 2 2] W fun e W' => e = .returned (.bool true) ∧ J (k + 1) W')
    (W : World) (h0 : J 0 W) :
    CallsIn Fence.wide 0 Try.prog 42 #[.func (.yield l) #[] #[], .pointer (some ⟨bs, 0, none⟩), .pointer (some ⟨bn, 0, none⟩)] W fun e W' => e = .returned (.tuple #[]) ∧ J N W' := by
  refine callsIn_of Try.func42 rfl ?_
  simp only [Try.ntmps42, List.size_toArray, List.length_cons, List.length_nil, Nat.reduceAdd, Nat.reduceSub, Array.replicate_succ, Array.replicate_zero, List.push_toArray, List.append_toArray, List.nil_append, List.cons_append]
  gi_wp2
  gi_loopw [4] (fun i wr => ∃ k j : Nat, k ≤ N ∧ j = 2 * k ∧ i = .int .i64 j ∧ J k wr) (fun i _ => len - (intOf i).toNat)
  case atStart => exact ⟨0, 0, Nat.zero_le _, rfl, rfl, h0⟩
  case round =>
    obtain ⟨k, i, hk, hi, rfl, hJs⟩ := hrel
    obtain ⟨hb, hn⟩ := hJ k wr hJs
    by_cases hlt : k < N
    · have hav := ha (by omega)
      subst hav
      have HYW := Lib.hid (fun W' hb => hY k W' hlt (hB k wr W' hJs hb) i hi)
      have l1 : (i : Int) < (len : Int) := by omega
      have l2 : (i : Int) ≤ (len : Int) := by omega
      have l3 : (0 : Int) ≤ (i : Int) := by omega
      have l4 : (i : Int) + 2 ≤ (len : Int) := by omega
      have l5 : ¬ (len : Int) - (i : Int) < 2 := by omega
      have HI := Lib.hid hi
      have hJ2 := hJ
      have HLn := Lib.hid hlen
      clear h0 hY hJ ha hi hlen hJs hB
      have l6 : (if (len : Int) - (i : Int) < 2 then (len : Int) - (i : Int) else 2) = 2 := if_neg l5
      gi_wp2
      gi_region
      obtain ⟨fn, tmps, assign, body, hy, hR⟩ := HYW.out wr.drew ((Below.refl _ _).drew)
      have hb' : wr.drew.cell? ⟨bs, 0, none⟩ = some (.slice (some ⟨g, 0, none⟩) len cap) := hb
      have hn' : wr.drew.cell? ⟨bn, 0, none⟩ = some (.int .i64 2) := hn
      have HJ3 := Lib.hid (fun W3 (h : J (k + 1) W3) => hJ2 (k + 1) W3 h)
      clear HYW hJ2
      gi_wp2
      refine hR.mono ?_
      rintro e W3 ⟨rfl, hJ3⟩
      obtain ⟨_, n3⟩ := HJ3.out W3 hJ3
      clear hb hn hb' hn'
      gi_wp2
      go_roundw
      case rel => exact ⟨k + 1, i + 2, by omega, by have := HI.out; omega, by go_num, hJ3⟩
      case measure => have := HLn.out; have := HI.out; simp [intOf]; omega
    · obtain rfl : k = N := by omega
      have l1 : ¬ (i : Int) < (len : Int) := by omega
      clear hY hJ h0 ha hlen hi hB
      gi_wp2
      go_end0
      exact ⟨rfl, hJs⟩

/-- slices.Chunk(s, n). -/
theorem chunk_any (a : Option Addr) (len cap : Nat) (w : World) :
    Calls Try.prog 29 #[.slice a len cap, .int .i64 2] w fun e w' => e = .returned (.func (.func 42) #[] #[.pointer (some ⟨w.heap.size, 0, none⟩), .pointer (some ⟨w.heap.size + 1, 0, none⟩)]) ∧ (w.alloc (.cells #[.slice a len cap] 60)).alloc (.cells #[.int .i64 2] 3) = w' := by
  go_enter Try.func29, Try.ntmps29
  go_wp2
  go_ret
  exact ⟨rfl, rfl⟩
end Go.Proofs.Yteljplpiojdikaa
