/- The document's Named, the law's good: what they let through. -/
import Derived.Test.YteljplpiojdikaaNegSame
namespace Go.Proofs.Yteljplpiojdikaa
open Go.RowKit

set_option maxRecDepth 100000 in
set_option maxHeartbeats 1000000 in
theorem named_any (s : List UInt8) (w : World) (hs : s.length ≤ 9223372036854775807) :
    Calls Try.prog 21 #[.string ⟨s.toArray⟩] w (ShortEnds (s.length ≤ 8) w) := by
  have HB := Lib.hid (show ∀ k, k < s.length → ∃ q, s[k]? = some q from fun k hk => ⟨_, List.getElem?_eq_getElem hk⟩)
  obtain ⟨M, hM⟩ : ∃ M : Prop, M = (s.length ≤ 8) := ⟨_, rfl⟩
  have HMM := Lib.hid hM
  rw [← hM]
  clear hM
  go_enter Try.func21, Try.ntmps21
  go_wp2
  go_loopw [3] (fun i wr => ∃ k : Nat, k ≤ s.length ∧ i = .int .i64 k ∧ Below w.heap.size w wr) (fun i _ => s.length - (intOf i).toNat)
  case atStart => exact ⟨0, Nat.zero_le _, rfl, Below.refl _ _⟩
  case round =>
    obtain ⟨k, hk, rfl, hbw⟩ := hrel
    by_cases hlt : k < s.length
    · have k1 : (k : Int) < (s.length : Int) := by omega
      have k0 : (0 : Int) ≤ (k : Int) := by omega
      obtain ⟨q, hq⟩ := HB.out k hlt
      clear hq q
      by_cases h33 : ((s[k]'hlt).toNat : Int) < 33
      · go_wp2
        go_ret
        exact ⟨false, rfl, by simp, hbw⟩
      · have g33 : (33 : Int) ≤ ((s[k]'hlt).toNat : Int) := by omega
        by_cases h126 : (126 : Int) < ((s[k]'hlt).toNat : Int)
        · go_wp2
          go_ret
          exact ⟨false, rfl, by simp, hbw⟩
        · go_wp2
          refine ⟨⟨k + 1, by omega, by go_num, hbw⟩, ?_⟩
          simp [intOf]; omega
    · obtain rfl : k = s.length := by omega
      have k1 : ¬ (s.length : Int) < (s.length : Int) := by omega
      clear hlt HB
      go_wp2
      all_goals go_ret
      all_goals exact ⟨_, rfl, fun h => by rw [HMM.out]; (simp at h); (try omega), hbw⟩

set_option maxRecDepth 100000 in
set_option maxHeartbeats 1000000 in
theorem good_any (sz : Nat) (vx : Value) (maps : List (List UInt8)) (w : World) (h : SlAt w vx maps.length (cellsS maps)) (hl : maps.length ≤ 9223372036854775807) (hx : ∀ x ∈ maps, x.length ≤ 9223372036854775807) :
    Calls Try.prog 6 #[.agg (exC sz vx)] w (ShortEnds (maps.length ≤ 2 ∧ ∀ q ∈ maps, q.length ≤ 8) w) := by
  obtain ⟨ad, cap, rfl⟩ := h.form
  have H := Lib.hid h
  have HL := Lib.hid (show ∀ k, k < maps.length → ∃ q, maps[k]? = some q ∧ q.length ≤ 9223372036854775807 from fun k hk => ⟨_, List.getElem?_eq_getElem hk, hx _ (List.getElem_mem hk)⟩)
  have HE : Hid (∀ n, n = maps.length → (∀ j, j < n → ∀ q, maps[j]? = some q → q.length ≤ 8) → ∀ q ∈ maps, q.length ≤ 8) := Lib.hid (by
    intro n hn h q hq
    obtain ⟨j, hj, rfl⟩ := List.getElem_of_mem hq
    exact h j (by omega) _ (List.getElem?_eq_getElem hj))
  clear hx h
  obtain ⟨n, hnl⟩ : ∃ n, maps.length = n := ⟨_, rfl⟩
  have HN := Lib.hid hnl
  rw [hnl] at hl ⊢
  clear hnl
  obtain ⟨M, hM⟩ : ∃ M : Prop, M = (n ≤ 2 ∧ ∀ q ∈ maps, q.length ≤ 8) := ⟨_, rfl⟩
  have HMM := Lib.hid hM
  rw [← hM]
  clear hM
  unfold exC
  go_enter Try.func6, Try.ntmps6
  go_wp2_with fail
  have hbx : Below w.heap.size w (w.alloc (.cells #[.int .u64 sz, .slice ad n cap] 25)) := by (repeat' (first | (with_reducible assumption) | (with_reducible exact Below.refl _ _) | (with_reducible refine below_drewN ?_ _) | (with_reducible refine Below.drew ?_) | (with_reducible refine Below.setCell ?_ ?_ _) | (with_reducible refine Below.alloc ?_ ?_ _) | (with_reducible refine below_putObj ?_ ?_ _) | (with_reducible exact Nat.le_refl _) | omega | (simp; done) | (simp; omega)))
  have bx : Blk (w.alloc (.cells #[.int .u64 sz, .slice ad n cap] 25)) w.heap.size 25 #[.int .u64 sz, .slice ad n cap] := Blk.new w _ _
  have x1 := bx.cell 1
  simp only [List.getElem?_toArray, List.getElem?_cons_zero, List.getElem?_cons_succ] at x1
  have BX := Lib.hid (And.intro bx hbx)
  clear bx hbx
  go_loopw [8] (fun i wr => ∃ k : Nat, k ≤ n ∧ i = .int .i64 k ∧ Hid (∀ j, j < k → ∀ q, maps[j]? = some q → q.length ≤ 8) ∧ Below w.heap.size w wr ∧ Hid (Blk wr w.heap.size 25 #[.int .u64 sz, .slice ad n cap])) (fun i _ => n - (intOf i).toNat)
  case atStart => exact ⟨0, Nat.zero_le _, rfl, Lib.hid (fun j hj => absurd hj (by omega)), BX.out.2, Lib.hid BX.out.1⟩
  case round =>
    obtain ⟨k, hk, rfl, hall, hbw, hbk⟩ := hrel
    have q1 := hbk.out.cell 1
    simp only [List.getElem?_toArray, List.getElem?_cons_zero, List.getElem?_cons_succ] at q1
    by_cases hlt : k < n
    · have k1 : (k : Int) < (n : Int) := by omega
      have k0 : (0 : Int) ≤ (k : Int) := by omega
      obtain ⟨q, hq, hql⟩ := HL.out k (by rw [HN.out]; exact hlt)
      obtain ⟨b, o, rfl, A⟩ := (HN.out ▸ H.out).addr (cellsS_at maps k q hq)
      have a0 := cell_keepS (A k _ (cellsS_at maps k q hq)) hbw
      have HQ := Lib.hid hq
      have HD := Lib.hid (fun W => named_any q W hql)
      clear A hq
      go_wp2_with fail
      refine (HD.out _).mono ?_
      rintro e w5 ⟨r, rfl, hr, hb5⟩
      have hbk5 := Lib.hid (hbk.out.below hb5 hbk.out.lt)
      have hbw5 := below_next hbw hb5
      have HR := Lib.hid hr
      clear hr hbk hbw q1 a0 hb5
      cases r with
      | false =>
        go_wp2_with fail
        go_ret
        exact ⟨false, rfl, by simp, hbw5⟩
      | true =>
        go_wp2_with fail
        go_roundw
        case rel =>
          refine ⟨k + 1, by omega, by go_num, Lib.hid fun j hj q' hq' => ?_, hbw5, hbk5⟩
          by_cases hjk : j < k
          · exact hall.out j hjk q' hq'
          · obtain rfl : j = k := by omega
            obtain rfl : q = q' := by have := HQ.out.symm.trans hq'; simpa using this
            exact HR.out (by trivial)
        case measure => simp [intOf]; omega
    · obtain rfl : k = n := by omega
      have k1 : ¬ (k : Int) < (k : Int) := by omega
      go_wp2
      go_ret
      exact ⟨_, rfl, fun h => by rw [HMM.out]; exact ⟨by simp at h; omega, HE.out _ HN.out.symm hall.out⟩, hbw⟩
end Go.Proofs.Yteljplpiojdikaa
