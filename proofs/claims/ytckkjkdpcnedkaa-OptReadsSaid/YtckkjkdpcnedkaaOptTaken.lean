/- The document's taken: a head, some numbers, a text with its length ahead. -/
import Derived.Test.YtckkjkdpcnedkaaOptRef
import Derived.Test.YtckkjkdpcnedkaaBuilder
import Derived.Maps.AppendAt
namespace Go.Proofs.Ytckkjkdpcnedkaa
open Go.RowKit

theorem Try.infoU64 : (Try.prog.info? 52).map (fun i => (i.zero, i.size, i.bytes)) = some (some (.int .u64 0), 1, 8) := by kernel_rfl

/-- The numbers that a text begins with, as cells. -/
def numsT (t : List UInt8) (k : Nat) : List Value := (List.range k).map fun j => Value.int .u64 (de ((t.drop (4 * j)).take 4) : Nat)
theorem numsT_succ (t : List UInt8) (k : Nat) : numsT t k ++ [Value.int .u64 (de ((t.drop (4 * k)).take 4) : Nat)] = numsT t (k + 1) := by
  unfold numsT
  rw [List.range_succ, List.map_append]
  rfl
theorem numsT_at (t : List UInt8) (k j : Nat) (h : j < k) : (numsT t k)[j]? = some (Value.int .u64 (de ((t.drop (4 * j)).take 4) : Nat)) := by
  simp [numsT, h]

/-- Nothing is taken: the error. -/
def TakenErr (w : World) (n : Int) (e : Ending) (w' : World) : Prop := e = .returned (.tuple #[.slice none 0 0, .string ⟨#[]⟩, .string ⟨#[]⟩, .int .i64 n]) ∧ Below w.heap.size w w'
/-- What is taken: n numbers in a row of the call's own, a text, what is left. -/
def TakenOk (w : World) (n : Nat) (xs : List Value) (d r : List UInt8) (e : Ending) (w' : World) : Prop :=
  ∃ v, e = .returned (.tuple #[v, .string ⟨d.toArray⟩, .string ⟨r.toArray⟩, .int .i64 0]) ∧ w'.ownsRow w.heap.size 52 1 v n xs ∧ Below w.heap.size w w'

theorem take_succ_eq (s h : List UInt8) (k : Nat) (hs : k < s.length) (hh : k < h.length) (e : s.take k = h.take k) (e2 : s[k]?.getD 0 = h[k]?.getD 0) : s.take (k + 1) = h.take (k + 1) := by
  rw [List.getElem?_eq_getElem hs, List.getElem?_eq_getElem hh] at e2
  simp only [Option.getD_some] at e2
  rw [List.take_add_one, List.take_add_one, e, List.getElem?_eq_getElem hs, List.getElem?_eq_getElem hh, e2]
theorem take_succ_ne (s h : List UInt8) (k m : Nat) (hk : k < m) (e2 : s[k]?.getD 0 ≠ h[k]?.getD 0) : s.take m ≠ h.take m := by
  intro e
  apply e2
  have := congrArg (fun l => l[k]?.getD 0) e
  simpa [List.getElem?_take, hk] using this

set_option maxRecDepth 100000 in
set_option maxHeartbeats 1000000 in
theorem taken_form (s h : List UInt8) (n : Nat) (hs : s.length ≤ 20000) (hh : h.length = 8) (hne : s.take (min h.length s.length) ≠ h.take (min h.length s.length)) (w : World) :
    Calls Try.prog 34 #[.string ⟨s.toArray⟩, .string ⟨h.toArray⟩, .int .i64 n] w (TakenErr w 14) := by
  have HN := Lib.hid hne
  clear hne
  have mixed : Try.prog.follows .mixedOrders = true := by kernel_rfl
  go_enter Try.func34, Try.ntmps34
  go_wp2
  go_loopw [10] (fun i wr => ∃ k : Nat, k ≤ min h.length s.length ∧ i = .int .i64 k ∧ s.take k = h.take k ∧ Below w.heap.size w wr) (fun i _ => 8 - (intOf i).toNat)
  case atStart => exact ⟨0, Nat.zero_le _, rfl, by simp, Below.refl _ _⟩
  case round =>
    obtain ⟨k, hk, rfl, he, hbw⟩ := hrel
    have hk8 : k ≤ 8 := by omega
    have HE := Lib.hid he
    clear he
    by_cases hlt : k < min h.length s.length
    · have K1 : Hid (k < s.length) := Lib.hid (by omega)
      have K2 : Hid (k < h.length) := Lib.hid (by omega)
      have k3 : (0 : Int) ≤ (k : Int) := by omega
      have k4 : (k : Int) < (s.length : Int) := by omega
      have k5 : (k : Int) < 8 := by omega
      clear hlt hk
      by_cases e2 : s[k]?.getD 0 = h[k]?.getD 0
      · have E2 := Lib.hid e2
        have e3 : ((s[k]?.getD 0).toNat : Int) = ((h[k]?.getD 0).toNat : Int) := by rw [e2]
        clear e2
        go_wp2
        go_quiet (fail)
        go_wp2
        go_roundw
        case rel => exact ⟨k + 1, by have := K1.out; have := K2.out; omega, by go_num, take_succ_eq s h k K1.out K2.out HE.out E2.out, below_drewN hbw _⟩
        case measure => simp [intOf]; omega
      · have e3 : ¬ ((s[k]?.getD 0).toNat : Int) = ((h[k]?.getD 0).toNat : Int) := by
          intro e
          apply e2
          exact UInt8.toNat_inj.1 (by omega)
        clear e2
        go_wp2
        go_quiet (fail)
        go_wp2
        refine bodyPost_ret (v := .tuple #[.slice none 0 0, .string ⟨#[]⟩, .string ⟨#[]⟩, .int .i64 14]) (by simp [results, Try.results34, go_sem]) rfl ⟨rfl, ?_⟩
        (repeat' (first | (with_reducible assumption) | (with_reducible exact Below.refl _ _) | (with_reducible refine below_drewN ?_ _) | (with_reducible refine Below.drew ?_) | (with_reducible refine Below.setCell ?_ ?_ _) | (with_reducible refine Below.alloc ?_ ?_ _) | (with_reducible refine below_putObj ?_ ?_ _) | (with_reducible exact Nat.le_refl _) | omega | (simp; done) | (simp; omega)))
    · exact absurd (by rw [show k = min h.length s.length by omega] at HE; exact HE.out) HN.out

theorem byte_eq (s h : List UInt8) (k m : Nat) (hk : k < m) (e : s.take m = h.take m) : s[k]?.getD 0 = h[k]?.getD 0 := by
  have := congrArg (fun l => l[k]?.getD 0) e
  simpa [List.getElem?_take, hk] using this

set_option maxRecDepth 100000 in
set_option maxHeartbeats 1000000 in
theorem taken_short (s h : List UInt8) (n : Nat) (hs : s.length ≤ 20000) (hh : h.length = 8) (hn : n ≤ 3) (heq : s.take (min h.length s.length) = h.take (min h.length s.length)) (hl : s.length < 8 + 4 * n) (w : World) :
    Calls Try.prog 34 #[.string ⟨s.toArray⟩, .string ⟨h.toArray⟩, .int .i64 n] w (TakenErr w 22) := by
  have HN := Lib.hid heq
  clear heq
  have mixed : Try.prog.follows .mixedOrders = true := by kernel_rfl
  go_enter Try.func34, Try.ntmps34
  go_wp2
  go_loopw [10] (fun i wr => ∃ k : Nat, k ≤ min h.length s.length ∧ i = .int .i64 k ∧ Below w.heap.size w wr) (fun i _ => 8 - (intOf i).toNat)
  case atStart => exact ⟨0, Nat.zero_le _, rfl, Below.refl _ _⟩
  case round =>
    obtain ⟨k, hk, rfl, hbw⟩ := hrel
    have hk8 : k ≤ 8 := by omega
    by_cases hlt : k < min h.length s.length
    · have K1 : Hid (k < s.length) := Lib.hid (by omega)
      have K2 : Hid (k < h.length) := Lib.hid (by omega)
      have k3 : (0 : Int) ≤ (k : Int) := by omega
      have k4 : (k : Int) < (s.length : Int) := by omega
      have k5 : (k : Int) < 8 := by omega
      have e2 := byte_eq s h k _ hlt HN.out
      clear hlt hk
      have e3 : ((s[k]?.getD 0).toNat : Int) = ((h[k]?.getD 0).toNat : Int) := by rw [e2]
      clear e2
      go_wp2
      go_quiet (fail)
      go_wp2
      go_roundw
      case rel => exact ⟨k + 1, by have := K1.out; have := K2.out; omega, by go_num, below_drewN hbw _⟩
      case measure => simp [intOf]; omega
    · by_cases hsl : s.length ≤ 8
      · have k4 : ¬ (k : Int) < (s.length : Int) := by omega
        have hl2 : (s.length : Int) < 8 + 4 * (n : Int) := by omega
        clear hlt hk hl
        go_wp2
        refine bodyPost_ret (v := .tuple #[.slice none 0 0, .string ⟨#[]⟩, .string ⟨#[]⟩, .int .i64 22]) (by simp [results, Try.results34, go_sem]) rfl ⟨rfl, ?_⟩
        exact hbw
      · have k4 : (k : Int) < (s.length : Int) := by omega
        have k5 : ¬ (k : Int) < 8 := by omega
        have hl2 : (s.length : Int) < 8 + 4 * (n : Int) := by omega
        clear hlt hk hl
        go_wp2
        refine bodyPost_ret (v := .tuple #[.slice none 0 0, .string ⟨#[]⟩, .string ⟨#[]⟩, .int .i64 22]) (by simp [results, Try.results34, go_sem]) rfl ⟨rfl, ?_⟩
        exact hbw

theorem ownsRow_b {B : Nat} {e : TypeId} {k : Nat} {v : Value} {n : Nat} {xs : List Value} {w w' : World} (h : w.ownsRow B e k v n xs) (hb : Below w.heap.size w w') : w'.ownsRow B e k v n xs :=
  h.kept (row := none) ⟨hb.os, hb.tape, hb.output, hb.size, fun j hj _ => hb.block j hj⟩ (by cases hv : v.ownBlock <;> simp)
/-- An append to the call's own row leaves the old blocks. -/
theorem below_row {B : Nat} {e : TypeId} {k : Nat} {v : Value} {n : Nat} {xs : List Value} {w w1 w2 : World} {o : Obj} (hb : Below B w w1) (hB : B ≤ w1.heap.size) (h : w1.ownsRow B e k v n xs) (hg : (w1.alloc o).grownBy w2 v.ownBlock) : Below B w w2 :=
  (hb.alloc hB o).grown hg (by simp; omega) (fun k hk => (h.lt k hk).1)
/-- A row of n > 0 elements as a value. -/
theorem row_form {B : Nat} {e : TypeId} {v : Value} {n : Nat} {xs : List Value} {w : World} (h : w.ownsRow B e 1 v n xs) (hn : 0 < n) : ∃ g cap, v = .slice (some ⟨g, 0, none⟩) n cap ∧ g < w.heap.size := by
  rcases h.2 with ⟨rfl, h0⟩ | ⟨g, cap, cur, rfl, hb, hg, hnc, hcm, hcs, htake⟩
  · have := h.1; rw [h0] at this; simp at this; omega
  · exact ⟨g, cap, rfl, (Array.getElem?_eq_some_iff.1 hg).1⟩

set_option maxRecDepth 100000 in
set_option maxHeartbeats 2000000 in
theorem taken_rest (s h : List UInt8) (n : Nat) (hs : s.length ≤ 20000) (hh : h.length = 8) (hn1 : 1 ≤ n) (hn : n ≤ 3) (heq : s.take (min h.length s.length) = h.take (min h.length s.length)) (hl : 8 + 4 * n ≤ s.length)
    (sz : Nat) (R : List UInt8) (hsz : sz = de (((s.drop 8).drop (4 * (n - 1))).take 4)) (hR : R = (s.drop 8).drop (4 * n)) (w : World) (Q : Ending → World → Prop)
    (hQ : (4096 < sz ∧ ∀ e w', TakenErr w 11 e w' → Q e w') ∨ (sz ≤ 4096 ∧ R.length < sz ∧ ∀ e w', TakenErr w 22 e w' → Q e w') ∨ (sz ≤ 4096 ∧ sz ≤ R.length ∧ ∀ e w', TakenOk w n (numsT (s.drop 8) n) (R.take sz) (R.drop sz) e w' → Q e w')) :
    Calls Try.prog 34 #[.string ⟨s.toArray⟩, .string ⟨h.toArray⟩, .int .i64 n] w Q := by
  obtain ⟨i0, hi, hz0, hz1, hz2⟩ := info_parts Try.infoU64
  have HN := Lib.hid heq
  have HQ := Lib.hid hQ
  have HS := Lib.hid hsz
  have HR := Lib.hid hR
  clear heq hQ hsz hR
  have mixed : Try.prog.follows .mixedOrders = true := by kernel_rfl
  obtain ⟨t, ht⟩ : ∃ t, t = s.drop 8 := ⟨_, rfl⟩
  have HT := Lib.hid ht
  have htl : t.length + 8 = s.length := by rw [ht, List.length_drop]; omega
  clear ht
  go_enter Try.func34, Try.ntmps34
  go_wp2
  go_loopw [10] (fun i wr => ∃ k : Nat, k ≤ min h.length s.length ∧ i = .int .i64 k ∧ Below w.heap.size w wr) (fun i _ => 8 - (intOf i).toNat)
  case atStart => exact ⟨0, Nat.zero_le _, rfl, Below.refl _ _⟩
  case round =>
    obtain ⟨k, hk, rfl, hbw⟩ := hrel
    have hk8 : k ≤ 8 := by omega
    by_cases hlt : k < min h.length s.length
    · have K1 : Hid (k < s.length) := Lib.hid (by omega)
      have K2 : Hid (k < h.length) := Lib.hid (by omega)
      have k3 : (0 : Int) ≤ (k : Int) := by omega
      have k4 : (k : Int) < (s.length : Int) := by omega
      have k5 : (k : Int) < 8 := by omega
      have e2 := byte_eq s h k _ hlt HN.out
      clear hlt hk
      have e3 : ((s[k]?.getD 0).toNat : Int) = ((h[k]?.getD 0).toNat : Int) := by rw [e2]
      clear e2
      go_wp2
      go_quiet (fail)
      go_wp2
      go_roundw
      case rel => exact ⟨k + 1, by have := K1.out; have := K2.out; omega, by go_num, below_drewN hbw _⟩
      case measure => simp [intOf]; omega
    · have k4 : (k : Int) < (s.length : Int) := by omega
      have k5 : ¬ (k : Int) < 8 := by omega
      have hl2 : ¬ (s.length : Int) < 8 + 4 * (n : Int) := by omega
      have hl3 : (8 : Int) ≤ (s.length : Int) := by omega
      clear hlt hk
      go_wp2
      go_loopw [0, 11, 12] (fun c v i wr => ∃ j : Nat, j ≤ n ∧ c = .string ⟨(t.drop (4 * j)).toArray⟩ ∧ i = .int .i64 j ∧ wr.ownsRow w.heap.size 52 1 v j (numsT t j) ∧ Below w.heap.size w wr) (fun _ _ i _ => n - (intOf i).toNat)
      case atStart => exact ⟨0, Nat.zero_le _, by rw [HT.out]; rfl, rfl, World.ownsRow_nil _ _ _ _, hbw⟩
      case round =>
        obtain ⟨j, hj, rfl, rfl, hown, hbr⟩ := hrel
        clear hbw k4 k5 hl2 hl3
        by_cases hjn : j < n
        · have HTk := Lib.hid (fun W => rtake_any (t.drop (4 * j)) 4 (by decide) (by decide) (by rw [List.length_drop]; omega) (by rw [List.length_drop]; omega) W)
          have HX := Lib.hid (numsT_succ t j)
          have hd4 : List.drop 4 (List.drop (4 * j) t) = List.drop (4 * (j + 1)) t := by rw [List.drop_drop]; congr 1
          rw [hd4] at HTk
          clear hd4
          obtain ⟨t2, ht2⟩ : ∃ t2, t2 = List.drop (4 * (j + 1)) t := ⟨_, rfl⟩
          have HT2 := Lib.hid ht2
          rw [← ht2] at HTk
          clear ht2
          generalize de ((t.drop (4 * j)).take 4) = x at HTk HX
          generalize hnx : numsT t j = xs at hown HX
          clear hnx
          have hjn2 : (j : Int) < (n : Int) := by omega
          have hj3 : j ≤ 3 := by omega
          go_wp2_with fail
          refine (HTk.out _).mono ?_
          rintro e w1 ⟨rfl, hb1⟩
          have hown1 := ownsRow_b hown hb1
          have hbr1 : Below w.heap.size w w1 := hbr.trans (hb1.mono hbr.size)
          clear hown hb1 hbr
          go_wp2_with (at_builtin; refine wpList_append_own _ rfl _ _ 66 rfl w.heap.size 52 i0 (.int .u64 0) 1 8 Try.underlying66 hi hz0 hz1 hz2 rfl (by decide) _ _ _ rfl (hown1.alloc _) ⟨w1.heap.size, 0, none⟩ 1 1 [.int .u64 (x : Nat)] rfl rfl ?c1 ?c2 ?c3 ?c4 ?c5 ?_)
          case c1 => exact cell_one_new _ _ _
          case c2 => intro u hu; simp at hu; subst hu; rfl
          case c3 => unfold maxLen; omega
          case c4 => omega
          case c5 => have := hbr1.size; simp; omega
          intro v' w2 hown' hgrow _
          have hbr2 : Below w.heap.size w w2 := below_row hbr1 hbr1.size hown1 hgrow
          clear hown1 hgrow hbr1
          go_wp2
          go_roundw
          case rel => exact ⟨j + 1, by omega, by rw [HT2.out], by go_num, by rw [← HX.out]; exact hown', hbr2⟩
          case measure => simp [intOf]; omega
        · obtain rfl : j = n := by omega
          clear hjn hj
          obtain ⟨g, cap, rfl, hg⟩ := row_form hown hn1
          have hcell := hown.cellAt (j - 1) (by omega)
          rw [numsT_at t j (j - 1) (by omega)] at hcell
          have hsz : sz = de ((t.drop (4 * (j - 1))).take 4) := by rw [HS.out, HT.out]
          rw [← hsz] at hcell
          have hR : t.drop (4 * j) = R := by rw [HR.out, HT.out]
          rw [hR]
          have hRl : R.length ≤ 20000 := by rw [← hR, List.length_drop]; omega
          clear hsz hR HS HR
          have hj1 : ((j : Nat) : Int) - 1 = ((j - 1 : Nat) : Int) := by omega
          have HJ := Lib.hid hown
          clear hown
          have HQ' := HQ.out
          clear HQ
          rcases HQ' with ⟨h1, hQ⟩ | ⟨h1, h2, hQ⟩ | ⟨h1, h2, hQ⟩
          · have HQ := Lib.hid hQ
            clear hQ
            go_wp2
            refine bodyPost_ret (v := .tuple #[.slice none 0 0, .string ⟨#[]⟩, .string ⟨#[]⟩, .int .i64 11]) (by simp [results, Try.results34, go_sem]) rfl (HQ.out _ _ ⟨rfl, hbr⟩)
          · have HQ := Lib.hid hQ
            clear hQ
            go_wp2
            refine bodyPost_ret (v := .tuple #[.slice none 0 0, .string ⟨#[]⟩, .string ⟨#[]⟩, .int .i64 22]) (by simp [results, Try.results34, go_sem]) rfl (HQ.out _ _ ⟨rfl, hbr⟩)
          · have HQ := Lib.hid hQ
            clear hQ
            go_wp2
            go_quiet (fail)
            go_wp2
            refine bodyPost_ret (v := .tuple #[.slice (some ⟨g, 0, none⟩) j cap, .string ⟨(R.take sz).toArray⟩, .string ⟨(R.drop sz).toArray⟩, .int .i64 0]) (by simp [results, Try.results34, go_sem]) rfl (HQ.out _ _ ⟨_, rfl, ?_, below_drewN hbr _⟩)
            rw [HT.out] at HJ
            exact ownsRow_b HJ.out (below_drewN (Below.refl _ _) _)

end Go.Proofs.Ytckkjkdpcnedkaa
