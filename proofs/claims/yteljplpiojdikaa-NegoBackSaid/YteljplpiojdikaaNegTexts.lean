/- The law's texts and ints: of the same rows: true. -/
import Derived.Test.YteljplpiojdikaaNegReads
import Derived.Test.YteljplpiojdikaaNegSays
namespace Go.Proofs.Yteljplpiojdikaa
open Go.RowKit

set_option maxRecDepth 100000 in
set_option maxHeartbeats 1000000 in
theorem texts_any (va vb : Value) (l : List (List UInt8)) (w : World) (h1 : SlAt w va l.length (cellsS l)) (h2 : SlAt w vb l.length (cellsS l)) (hl : l.length ≤ 1000000000) :
    Calls Try.prog 19 #[va, vb] w (Gives (.bool true) w) := by
  have mixed : Try.prog.follows .mixedOrders = true := by kernel_rfl
  obtain ⟨ad1, c1, rfl⟩ := h1.form
  obtain ⟨ad2, c2, rfl⟩ := h2.form
  have H1 := Lib.hid h1
  have H2 := Lib.hid h2
  clear h1 h2
  have HM := Lib.hid (show ∀ k, k < l.length → ∃ q, l[k]? = some q from fun k hk => ⟨_, List.getElem?_eq_getElem hk⟩)
  obtain ⟨m, hmm⟩ : ∃ m, l.length = m := ⟨_, rfl⟩
  rw [hmm] at hl H1 H2 HM
  rw [hmm]
  clear hmm
  go_enter Try.func19, Try.ntmps19
  go_wp2_with fail
  go_loopw [13] (fun i wr => ∃ k : Nat, k ≤ m ∧ i = .int .i64 k ∧ Below w.heap.size w wr) (fun i _ => m - (intOf i).toNat)
  case atStart => exact ⟨0, Nat.zero_le _, rfl, Below.refl _ _⟩
  case round =>
    obtain ⟨j, hj, rfl, hbw⟩ := hrel
    by_cases hlt : j < m
    · have k1 : (j : Int) < (m : Int) := by omega
      have k0 : (0 : Int) ≤ (j : Int) := by omega
      obtain ⟨q, hq⟩ := HM.out j hlt
      obtain ⟨x1, o1, rfl, A⟩ := H1.out.addr (cellsS_at l j q hq)
      obtain ⟨x2, o2, rfl, D⟩ := H2.out.addr (cellsS_at l j q hq)
      have a0 := cell_keepS (A j _ (cellsS_at l j q hq)) hbw
      have d0 := cell_keepS (D j _ (cellsS_at l j q hq)) hbw
      clear A D hq
      go_wp2
      go_quiet (fail)
      go_wp2
      go_roundw
      case rel => exact ⟨j + 1, by omega, by go_num, below_drewN hbw _⟩
      case measure => simp [intOf]; omega
    · obtain rfl : j = m := by omega
      have k1 : ¬ (j : Int) < (j : Int) := by omega
      go_wp2
      go_ret
      exact ⟨rfl, hbw⟩

set_option maxRecDepth 100000 in
set_option maxHeartbeats 1000000 in
theorem ints_any (va vb : Value) (l : List Nat) (w : World) (h1 : SlAt w va l.length (cellsI l)) (h2 : SlAt w vb l.length (cellsI l)) (hl : l.length ≤ 1000000000) :
    Calls Try.prog 20 #[va, vb] w (Gives (.bool true) w) := by
  have mixed : Try.prog.follows .mixedOrders = true := by kernel_rfl
  obtain ⟨ad1, c1, rfl⟩ := h1.form
  obtain ⟨ad2, c2, rfl⟩ := h2.form
  have H1 := Lib.hid h1
  have H2 := Lib.hid h2
  clear h1 h2
  have HM := Lib.hid (show ∀ k, k < l.length → ∃ q, l[k]? = some q from fun k hk => ⟨_, List.getElem?_eq_getElem hk⟩)
  obtain ⟨m, hmm⟩ : ∃ m, l.length = m := ⟨_, rfl⟩
  rw [hmm] at hl H1 H2 HM
  rw [hmm]
  clear hmm
  go_enter Try.func20, Try.ntmps20
  go_wp2_with fail
  go_loopw [13] (fun i wr => ∃ k : Nat, k ≤ m ∧ i = .int .i64 k ∧ Below w.heap.size w wr) (fun i _ => m - (intOf i).toNat)
  case atStart => exact ⟨0, Nat.zero_le _, rfl, Below.refl _ _⟩
  case round =>
    obtain ⟨j, hj, rfl, hbw⟩ := hrel
    by_cases hlt : j < m
    · have k1 : (j : Int) < (m : Int) := by omega
      have k0 : (0 : Int) ≤ (j : Int) := by omega
      obtain ⟨q, hq⟩ := HM.out j hlt
      obtain ⟨x1, o1, rfl, A⟩ := H1.out.addr (cellsI_at l j q hq)
      obtain ⟨x2, o2, rfl, D⟩ := H2.out.addr (cellsI_at l j q hq)
      have a0 := cell_keepS (A j _ (cellsI_at l j q hq)) hbw
      have d0 := cell_keepS (D j _ (cellsI_at l j q hq)) hbw
      clear A D hq
      go_wp2
      go_quiet (fail)
      go_wp2
      go_roundw
      case rel => exact ⟨j + 1, by omega, by go_num, below_drewN hbw _⟩
      case measure => simp [intOf]; omega
    · obtain rfl : j = m := by omega
      have k1 : ¬ (j : Int) < (j : Int) := by omega
      go_wp2
      go_ret
      exact ⟨rfl, hbw⟩

end Go.Proofs.Yteljplpiojdikaa
