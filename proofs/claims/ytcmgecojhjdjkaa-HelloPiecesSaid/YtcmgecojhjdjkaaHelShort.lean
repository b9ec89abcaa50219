/- The law's short: what it lets through is short. -/
import Derived.Test.YtcmgecojhjdjkaaStrs
namespace Go.Proofs.Ytcmgecojhjdjkaa
open Go.RowKit

def sumL (l : List (List UInt8)) (k : Nat) : Nat := ((l.take k).map List.length).sum
theorem sumL_succ (l : List (List UInt8)) (k : Nat) (q : List UInt8) (h : l[k]? = some q) : sumL l (k + 1) = sumL l k + q.length := by
  unfold sumL
  rw [List.take_add_one, h]
  simp
theorem le_sumL (l : List Nat) (x : Nat) (h : x ∈ l) : x ≤ l.sum := by
  induction l with
  | nil => simp at h
  | cons a l ih =>
    rw [List.sum_cons]
    rcases List.mem_cons.1 h with rfl | h
    · omega
    · have := ih h; omega
theorem sumL_each (l : List (List UInt8)) (n : Nat) (h : sumL l l.length ≤ n) : ∀ x ∈ l, x.length ≤ n := by
  intro x hx
  unfold sumL at h
  rw [List.take_length] at h
  have : x.length ≤ (l.map List.length).sum := le_sumL _ _ (List.mem_map_of_mem hx)
  omega

def ShortEnds (M : Prop) (n : Nat) (w : World) (e : Ending) (w' : World) : Prop := ∃ r : Bool, e = .returned (.bool r) ∧ (r = true → M ∧ n ≤ 100) ∧ Below w.heap.size w w'

theorem wrap_sum (a b : Nat) (ha : a ≤ 20000) (hb : b ≤ 9223372036854775807) (s : Int) (hs : IntKind.i64.wrap ((a : Int) + (b : Int)) = s) (h0 : 0 ≤ s) : s = (a + b : Nat) := by
  subst hs
  simp only [IntKind.wrap, IntKind.signed, IntKind.bits] at h0 ⊢
  simp at h0 ⊢
  omega

set_option maxRecDepth 100000 in
set_option maxHeartbeats 1000000 in
theorem short_any (v : Value) (l : List (List UInt8)) (w : World) (h : SlAt w v l.length (cellsS l)) (hl : l.length ≤ 9223372036854775807) (hx : ∀ x ∈ l, x.length ≤ 9223372036854775807) :
    Calls Try.prog 4 #[v] w (ShortEnds (∀ x ∈ l, x.length ≤ 20000) l.length w) := by
  obtain ⟨ad, cap, rfl⟩ := h.form
  have H := Lib.hid h
  clear h
  have HL := Lib.hid (show ∀ k, k < l.length → ∃ q, l[k]? = some q ∧ q.length ≤ 9223372036854775807 from fun k hk => ⟨_, List.getElem?_eq_getElem hk, hx _ (List.getElem_mem hk)⟩)
  have HE := Lib.hid (sumL_each l 20000)
  clear hx
  obtain ⟨n, hnl⟩ : ∃ n, l.length = n := ⟨_, rfl⟩
  have HN := Lib.hid hnl
  rw [hnl] at hl HE ⊢
  clear hnl
  obtain ⟨M, hM⟩ : ∃ M : Prop, M = ∀ x ∈ l, x.length ≤ 20000 := ⟨_, rfl⟩
  rw [← hM] at HE ⊢
  clear hM
  go_enter Try.func4, Try.ntmps4
  go_wp2
  go_loopw [8, 3] (fun i s wr => ∃ k a : Nat, k ≤ n ∧ i = .int .i64 k ∧ s = .int .i64 a ∧ a ≤ 20000 ∧ Hid (a = sumL l k) ∧ Below w.heap.size w wr) (fun i _ _ => n - (intOf i).toNat)
  case atStart => exact ⟨0, 0, Nat.zero_le _, rfl, rfl, Nat.zero_le _, Lib.hid (by simp [sumL]), Below.refl _ _⟩
  case round =>
    obtain ⟨k, a, hk, rfl, rfl, ha, hsum, hbw⟩ := hrel
    by_cases hlt : k < n
    · have k1 : (k : Int) < (n : Int) := by omega
      have k0 : (0 : Int) ≤ (k : Int) := by omega
      obtain ⟨q, hq, hql⟩ := HL.out k (by rw [HN.out]; exact hlt)
      obtain ⟨b, o, rfl, A⟩ := (HN.out ▸ H.out).addr (cellsS_at l k q hq)
      have a0 := cell_keepS (A k _ (cellsS_at l k q hq)) hbw
      have HQ := Lib.hid (sumL_succ l k q hq)
      obtain ⟨s, hs⟩ : ∃ s, IntKind.i64.wrap ((a : Int) + (q.length : Int)) = s := ⟨_, rfl⟩
      have HW := Lib.hid (wrap_sum a q.length ha hql s hs)
      clear A hq
      by_cases hs2 : 20000 < s
      · have hs3 : (20000 : Int) < s := hs2
        go_wp2
        go_ret
        exact ⟨false, rfl, by simp, hbw⟩
      · by_cases hs3 : s < 0
        · go_wp2
          go_ret
          exact ⟨false, rfl, by simp, hbw⟩
        · go_wp2
          go_roundw
          case rel =>
            have e := HW.out (by omega)
            exact ⟨k + 1, a + q.length, by omega, by go_num, by rw [e], by omega, Lib.hid (by rw [HQ.out, hsum.out]), hbw⟩
          case measure => simp [intOf]; omega
    · obtain rfl : k = n := by omega
      have k1 : ¬ (k : Int) < (k : Int) := by omega
      go_wp2
      go_ret
      exact ⟨_, rfl, fun h => ⟨HE.out (by rw [← hsum.out]; exact ha), by simp at h; omega⟩, hbw⟩

end Go.Proofs.Ytcmgecojhjdjkaa
