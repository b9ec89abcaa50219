/- The document's Same: of one server's beginning, wherever its slices lie: true. The law's short. -/
import Derived.Test.YteljplpiojdikaaNegFeed
namespace Go.Proofs.Yteljplpiojdikaa
open Go.RowKit

set_option maxRecDepth 100000 in
set_option maxHeartbeats 4000000 in
theorem same_true (h : Neg) (va vb : Value) (w : World) (h1 : SlAt w va h.metas.length (cellsU h.metas)) (h2 : SlAt w vb h.metas.length (cellsU h.metas)) (hm : h.metas.length ≤ 1000000000) :
    Calls Try.prog 10 #[.agg (ngC h va), .agg (ngC h vb)] w (Gives (.bool true) w) := by
  have mixed : Try.prog.follows .mixedOrders = true := by kernel_rfl
  obtain ⟨ad1, c1, rfl⟩ := h1.form
  obtain ⟨ad2, c2, rfl⟩ := h2.form
  unfold ngC
  obtain ⟨ph, buf, brief, chunks, metas⟩ := h
  dsimp only at *
  have H1 := Lib.hid h1
  have H2 := Lib.hid h2
  clear h1 h2
  have HM := Lib.hid (show ∀ k, k < metas.length → ∃ q, metas[k]? = some q from fun k hk => ⟨_, List.getElem?_eq_getElem hk⟩)
  obtain ⟨m, hmm⟩ : ∃ m, metas.length = m := ⟨_, rfl⟩
  rw [hmm] at hm H1 H2 HM
  rw [hmm]
  clear hmm
  obtain ⟨C1, hC1⟩ : ∃ C : Array Value, C = #[.int .i64 ph, .string ⟨buf.toArray⟩, .bool brief, .bool chunks, .slice ad1 m c1] := ⟨_, rfl⟩
  obtain ⟨C2, hC2⟩ : ∃ C : Array Value, C = #[.int .i64 ph, .string ⟨buf.toArray⟩, .bool brief, .bool chunks, .slice ad2 m c2] := ⟨_, rfl⟩
  have HC1 := Lib.hid hC1
  have HC2 := Lib.hid hC2
  clear hC1 hC2
  have hb0 : Below w.heap.size w ((w.alloc (.cells C1 31)).alloc (.cells C2 31)) := by (repeat' (first | (with_reducible assumption) | (with_reducible exact Below.refl _ _) | (with_reducible refine below_drewN ?_ _) | (with_reducible refine Below.drew ?_) | (with_reducible refine Below.setCell ?_ ?_ _) | (with_reducible refine Below.alloc ?_ ?_ _) | (with_reducible refine below_putObj ?_ ?_ _) | (with_reducible exact Nat.le_refl _) | omega | (simp; done) | (simp; omega)))
  have B1 : Blk ((w.alloc (.cells C1 31)).alloc (.cells C2 31)) w.heap.size 31 C1 := (Blk.new w _ _).alloc _
  have B2 : Blk ((w.alloc (.cells C1 31)).alloc (.cells C2 31)) (w.heap.size + 1) 31 C2 := Blk.newAt (by simp)
  have hsz : ((w.alloc (.cells C1 31)).alloc (.cells C2 31)).heap.size = w.heap.size + 2 := by simp
  have hbt : Below (w.heap.size + 2) ((w.alloc (.cells C1 31)).alloc (.cells C2 31)) ((w.alloc (.cells C1 31)).alloc (.cells C2 31)) := Below.refl _ _
  obtain ⟨W, hW⟩ : ∃ W, (w.alloc (.cells C1 31)).alloc (.cells C2 31) = W := ⟨_, rfl⟩
  rw [hW] at hb0 B1 B2 hsz hbt
  have HWW := Lib.hid hW
  have e1 := HC1.out
  have e2 := HC2.out
  subst e1 e2
  clear HC1 HC2 hW
  have HB1 := Lib.hid B1
  have HB2 := Lib.hid B2
  have Hb0 := Lib.hid hb0
  clear B1 B2 hb0
  go_enter Try.func10, Try.ntmps10
  go_wp2_with fail
  go_loopw [5] (fun i wr => ∃ k : Nat, k ≤ m ∧ i = .int .i64 k ∧ Below (w.heap.size + 2) W wr) (fun i _ => m - (intOf i).toNat)
  case atStart => exact ⟨0, Nat.zero_le _, rfl, by rw [HWW.out]; exact hbt⟩
  case round =>
    obtain ⟨j, hj, rfl, hbw⟩ := hrel
    have b1 := HB1.out.below hbw (by omega)
    have b2 := HB2.out.below hbw (by omega)
    have q1 := b1.cell 4
    have q2 := b2.cell 4
    clear b1 b2
    by_cases hlt : j < m
    · have k1 : (j : Int) < (m : Int) := by omega
      have k0 : (0 : Int) ≤ (j : Int) := by omega
      obtain ⟨q, hq⟩ := HM.out j hlt
      obtain ⟨x1, o1, rfl, A⟩ := H1.out.addr (cellsU_at metas j q hq)
      obtain ⟨x2, o2, rfl, D⟩ := H2.out.addr (cellsU_at metas j q hq)
      have a0 := cell_keepS (cell_keepS (A j _ (cellsU_at metas j q hq)) Hb0.out) (hsz ▸ hbw)
      have d0 := cell_keepS (cell_keepS (D j _ (cellsU_at metas j q hq)) Hb0.out) (hsz ▸ hbw)
      clear A D hq
      go_wp2
      go_quiet (fail)
      go_wp2
      go_roundw
      case rel => exact ⟨j + 1, by omega, by go_num, below_drewN hbw _⟩
      case measure => simp [intOf]; omega
    · obtain rfl : j = m := by omega
      have k1 : ¬ (j : Int) < (j : Int) := by omega
      go_wp2
      go_ret
      exact ⟨rfl, Hb0.out.trans (hbw.mono (by omega))⟩

/- The law's short. -/
def sumL (l : List (List UInt8)) (k : Nat) : Nat := ((l.take k).map List.length).sum
theorem sumL_succ (l : List (List UInt8)) (k : Nat) (q : List UInt8) (h : l[k]? = some q) : sumL l (k + 1) = sumL l k + q.length := by
  unfold sumL
  rw [List.take_add_one, h]
  simp
theorem le_sumL (l : List Nat) (x : Nat) (h : x ∈ l) : x ≤ l.sum := by
  induction l with
  | nil => simp at h
  | cons a l ih =>
    rw [List.sum_cons]
    rcases List.mem_cons.1 h with rfl | h
    · omega
    · have := ih h; omega
theorem sumL_each (l : List (List UInt8)) (n : Nat) (h : sumL l l.length ≤ n) : ∀ x ∈ l, x.length ≤ n := by
  intro x hx
  unfold sumL at h
  rw [List.take_length] at h
  have : x.length ≤ (l.map List.length).sum := le_sumL _ _ (List.mem_map_of_mem hx)
  omega

def ShortEnds (M : Prop) (w : World) (e : Ending) (w' : World) : Prop := ∃ r : Bool, e = .returned (.bool r) ∧ (r = true → M) ∧ Below w.heap.size w w'

theorem wrap_sum (a b : Nat) (ha : a ≤ 20000) (hb : b ≤ 9223372036854775807) (s : Int) (hs : IntKind.i64.wrap ((a : Int) + (b : Int)) = s) (h0 : 0 ≤ s) : s = (a + b : Nat) := by
  subst hs
  simp only [IntKind.wrap, IntKind.signed, IntKind.bits] at h0 ⊢
  simp at h0 ⊢
  omega

set_option maxRecDepth 100000 in
set_option maxHeartbeats 1000000 in
theorem short_any (v : Value) (l : List (List UInt8)) (w : World) (h : SlAt w v l.length (cellsS l)) (hl : l.length ≤ 9223372036854775807) (hx : ∀ x ∈ l, x.length ≤ 9223372036854775807) :
    Calls Try.prog 7 #[v] w (ShortEnds (sumL l l.length ≤ 20000) w) := by
  obtain ⟨ad, cap, rfl⟩ := h.form
  have H := Lib.hid h
  clear h
  have HL := Lib.hid (show ∀ k, k < l.length → ∃ q, l[k]? = some q ∧ q.length ≤ 9223372036854775807 from fun k hk => ⟨_, List.getElem?_eq_getElem hk, hx _ (List.getElem_mem hk)⟩)
  clear hx
  obtain ⟨n, hnl⟩ : ∃ n, l.length = n := ⟨_, rfl⟩
  have HN := Lib.hid hnl
  rw [hnl] at hl ⊢
  clear hnl
  obtain ⟨M, hM⟩ : ∃ M : Prop, M = (sumL l n ≤ 20000) := ⟨_, rfl⟩
  have HMM := Lib.hid hM
  rw [← hM]
  clear hM
  go_enter Try.func7, Try.ntmps7
  go_wp2
  go_loopw [8, 3] (fun i s wr => ∃ k a : Nat, k ≤ n ∧ i = .int .i64 k ∧ s = .int .i64 a ∧ a ≤ 20000 ∧ Hid (a = sumL l k) ∧ Below w.heap.size w wr) (fun i _ _ => n - (intOf i).toNat)
  case atStart => exact ⟨0, 0, Nat.zero_le _, rfl, rfl, Nat.zero_le _, Lib.hid (by simp [sumL]), Below.refl _ _⟩
  case round =>
    obtain ⟨k, a, hk, rfl, rfl, ha, hsum, hbw⟩ := hrel
    by_cases hlt : k < n
    · have k1 : (k : Int) < (n : Int) := by omega
      have k0 : (0 : Int) ≤ (k : Int) := by omega
      obtain ⟨q, hq, hql⟩ := HL.out k (by rw [HN.out]; exact hlt)
      obtain ⟨b, o, rfl, A⟩ := (HN.out ▸ H.out).addr (cellsS_at l k q hq)
      have a0 := cell_keepS (A k _ (cellsS_at l k q hq)) hbw
      have HQ := Lib.hid (sumL_succ l k q hq)
      obtain ⟨s, hs⟩ : ∃ s, IntKind.i64.wrap ((a : Int) + (q.length : Int)) = s := ⟨_, rfl⟩
      have HW := Lib.hid (wrap_sum a q.length ha hql s hs)
      clear A hq
      by_cases hs2 : 20000 < s
      · have hs3 : (20000 : Int) < s := hs2
        go_wp2
        go_ret
        exact ⟨false, rfl, by simp, hbw⟩
      · by_cases hs3 : s < 0
        · go_wp2
          go_ret
          exact ⟨false, rfl, by simp, hbw⟩
        · go_wp2
          go_roundw
          case rel =>
            have e := HW.out (by omega)
            exact ⟨k + 1, a + q.length, by omega, by go_num, by rw [e], by omega, Lib.hid (by rw [HQ.out, hsum.out]), hbw⟩
          case measure => simp [intOf]; omega
    · obtain rfl : k = n := by omega
      have k1 : ¬ (k : Int) < (k : Int) := by omega
      go_wp2
      go_ret
      exact ⟨_, rfl, fun _ => by rw [HMM.out, ← hsum.out]; exact ha, hbw⟩
end Go.Proofs.Yteljplpiojdikaa
