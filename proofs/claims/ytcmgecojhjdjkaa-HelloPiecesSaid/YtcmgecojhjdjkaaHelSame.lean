/- The document's Same: of one client, wherever its slices lie: true. The law's short. -/
import Derived.Test.YtcmgecojhjdjkaaHelSub
namespace Go.Proofs.Ytcmgecojhjdjkaa
open Go.RowKit

/-- The cells of a client. -/
def helC (h : Hel) (vw vm : Value) : Array Value :=
  #[.int .i64 h.phase, .string ⟨h.buf.toArray⟩, vw, .bool h.told, .int .u64 h.size, .int .i64 h.flags, .bool h.chunks, vm]

set_option maxRecDepth 100000 in
set_option maxHeartbeats 4000000 in
theorem same_true (h : Hel) (va ma vb mb : Value) (w : World) (h1 : SlAt w va h.want.length (cellsS h.want)) (h2 : SlAt w ma h.metas.length (cellsM h.metas))
    (h3 : SlAt w vb h.want.length (cellsS h.want)) (h4 : SlAt w mb h.metas.length (cellsM h.metas)) (hl : h.want.length ≤ 1000000) (hm : h.metas.length ≤ 1000000000) :
    Calls Try.prog 8 #[.agg (helC h va ma), .agg (helC h vb mb)] w (Gives (.bool true) w) := by
  have mixed : Try.prog.follows .mixedOrders = true := by kernel_rfl
  obtain ⟨ad1, c1, rfl⟩ := h1.form
  obtain ⟨ad2, c2, rfl⟩ := h2.form
  obtain ⟨ad3, c3, rfl⟩ := h3.form
  obtain ⟨ad4, c4, rfl⟩ := h4.form
  unfold helC
  obtain ⟨ph, buf, want, told, size, flags, chunks, metas⟩ := h
  dsimp only at *
  have H1 := Lib.hid h1
  have H2 := Lib.hid h2
  have H3 := Lib.hid h3
  have H4 := Lib.hid h4
  clear h1 h2 h3 h4
  have HW := Lib.hid (show ∀ k, k < want.length → ∃ q, want[k]? = some q from fun k hk => ⟨_, List.getElem?_eq_getElem hk⟩)
  have HM := Lib.hid (show ∀ k, k < metas.length → ∃ q, metas[k]? = some q from fun k hk => ⟨_, List.getElem?_eq_getElem hk⟩)
  obtain ⟨n, hn⟩ : ∃ n, want.length = n := ⟨_, rfl⟩
  obtain ⟨m, hmm⟩ : ∃ m, metas.length = m := ⟨_, rfl⟩
  rw [hn] at hl H1 H3 HW
  rw [hmm] at hm H2 H4 HM
  rw [hn, hmm]
  clear hn hmm
  obtain ⟨C1, hC1⟩ : ∃ C : Array Value, C = #[.int .i64 ph, .string ⟨buf.toArray⟩, .slice ad1 n c1, .bool told, .int .u64 size, .int .i64 flags, .bool chunks, .slice ad2 m c2] := ⟨_, rfl⟩
  obtain ⟨C2, hC2⟩ : ∃ C : Array Value, C = #[.int .i64 ph, .string ⟨buf.toArray⟩, .slice ad3 n c3, .bool told, .int .u64 size, .int .i64 flags, .bool chunks, .slice ad4 m c4] := ⟨_, rfl⟩
  have HC1 := Lib.hid hC1
  have HC2 := Lib.hid hC2
  clear hC1 hC2
  have hb0 : Below w.heap.size w ((w.alloc (.cells C1 28)).alloc (.cells C2 28)) := by (repeat' (first | (with_reducible assumption) | (with_reducible exact Below.refl _ _) | (with_reducible refine below_drewN ?_ _) | (with_reducible refine Below.drew ?_) | (with_reducible refine Below.setCell ?_ ?_ _) | (with_reducible refine Below.alloc ?_ ?_ _) | (with_reducible refine below_putObj ?_ ?_ _) | (with_reducible exact Nat.le_refl _) | omega | (simp; done) | (simp; omega)))
  have B1 : Blk ((w.alloc (.cells C1 28)).alloc (.cells C2 28)) w.heap.size 28 C1 := (Blk.new w _ _).alloc _
  have B2 : Blk ((w.alloc (.cells C1 28)).alloc (.cells C2 28)) (w.heap.size + 1) 28 C2 := Blk.newAt (by simp)
  have hsz : ((w.alloc (.cells C1 28)).alloc (.cells C2 28)).heap.size = w.heap.size + 2 := by simp
  have hbt : Below (w.heap.size + 2) ((w.alloc (.cells C1 28)).alloc (.cells C2 28)) ((w.alloc (.cells C1 28)).alloc (.cells C2 28)) := Below.refl _ _
  obtain ⟨W, hW⟩ : ∃ W, (w.alloc (.cells C1 28)).alloc (.cells C2 28) = W := ⟨_, rfl⟩
  rw [hW] at hb0 B1 B2 hsz hbt
  have HWW := Lib.hid hW
  have e1 := HC1.out
  have e2 := HC2.out
  subst e1 e2
  clear HC1 HC2 hW
  have HB1 := Lib.hid B1
  have HB2 := Lib.hid B2
  have Hb0 := Lib.hid hb0
  clear B1 B2 hb0
  go_enter Try.func8, Try.ntmps8
  go_wp2_with fail
  go_loopw [5] (fun i wr => ∃ k : Nat, k ≤ n ∧ i = .int .i64 k ∧ Below (w.heap.size + 2) W wr) (fun i _ => n - (intOf i).toNat)
  case atStart => exact ⟨0, Nat.zero_le _, rfl, by rw [HWW.out]; exact hbt⟩
  case round =>
    obtain ⟨k, hk, rfl, hbw⟩ := hrel
    have b1 := HB1.out.below hbw (by omega)
    have b2 := HB2.out.below hbw (by omega)
    have q1 := b1.cell 2
    have q2 := b2.cell 2
    clear b1 b2
    by_cases hlt : k < n
    · have k1 : (k : Int) < (n : Int) := by omega
      have k0 : (0 : Int) ≤ (k : Int) := by omega
      obtain ⟨q, hq⟩ := HW.out k hlt
      obtain ⟨x1, o1, rfl, A⟩ := H1.out.addr (cellsS_at want k q hq)
      obtain ⟨x2, o2, rfl, D⟩ := H3.out.addr (cellsS_at want k q hq)
      have a0 := cell_keepS (cell_keepS (A k _ (cellsS_at want k q hq)) Hb0.out) (hsz ▸ hbw)
      have d0 := cell_keepS (cell_keepS (D k _ (cellsS_at want k q hq)) Hb0.out) (hsz ▸ hbw)
      clear A D hq
      go_wp2
      go_quiet (fail)
      go_wp2
      go_roundw
      case rel => exact ⟨k + 1, by omega, by go_num, below_drewN hbw _⟩
      case measure => simp [intOf]; omega
    · obtain rfl : k = n := by omega
      have k1 : ¬ (k : Int) < (k : Int) := by omega
      go_wp2
      clear q1 q2
      have hbw' := hbw
      clear hbw
      obtain ⟨w5, rfl⟩ : ∃ w5 : World, w5 = wr := ⟨_, rfl⟩
      go_loopw [6] (fun i wr => ∃ j : Nat, j ≤ m ∧ i = .int .i64 j ∧ Below (w.heap.size + 2) W wr) (fun i _ => m - (intOf i).toNat)
      case atStart => exact ⟨0, Nat.zero_le _, rfl, hbw'⟩
      case round =>
        obtain ⟨j, hj, rfl, hbw⟩ := hrel
        have b1 := HB1.out.below hbw (by omega)
        have b2 := HB2.out.below hbw (by omega)
        have q1 := b1.cell 7
        have q2 := b2.cell 7
        clear b1 b2
        by_cases hlt : j < m
        · have k1 : (j : Int) < (m : Int) := by omega
          have k0 : (0 : Int) ≤ (j : Int) := by omega
          obtain ⟨q, hq⟩ := HM.out j hlt
          obtain ⟨x1, o1, rfl, A⟩ := H2.out.addr (cellsM_at metas j q hq).1
          obtain ⟨x2, o2, rfl, D⟩ := H4.out.addr (cellsM_at metas j q hq).1
          have a0 := cell_keepS (cell_keepS (A _ _ (cellsM_at metas j q hq).1) Hb0.out) (hsz ▸ hbw)
          have a1 := cell_keepS (cell_keepS (A _ _ (cellsM_at metas j q hq).2) Hb0.out) (hsz ▸ hbw)
          have d0 := cell_keepS (cell_keepS (D _ _ (cellsM_at metas j q hq).1) Hb0.out) (hsz ▸ hbw)
          have d1 := cell_keepS (cell_keepS (D _ _ (cellsM_at metas j q hq).2) Hb0.out) (hsz ▸ hbw)
          rw [← Nat.add_assoc] at a1 d1
          clear A D hq
          go_wp2
          go_quiet (fail)
          go_wp2
          go_roundw
          case rel => exact ⟨j + 1, by omega, by go_num, below_drewN hbw _⟩
          case measure => simp [intOf]; omega
        · obtain rfl : j = m := by omega
          have k1 : ¬ (j : Int) < (j : Int) := by omega
          go_wp2
          go_ret
          exact ⟨rfl, Hb0.out.trans (hbw.mono (by omega))⟩

end Go.Proofs.Ytcmgecojhjdjkaa
