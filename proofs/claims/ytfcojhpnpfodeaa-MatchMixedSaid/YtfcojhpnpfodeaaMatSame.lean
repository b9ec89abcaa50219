/- The document's Same: of one client, wherever its slices lie: true. -/
import Derived.Test.YtfcojhpnpfodeaaMatRFind
import Derived.Test.YtfcojhpnpfodeaaMRepRead
namespace Go.Proofs.Ytfcojhpnpfodeaa
open Go.RowKit

/-- Lists no longer than any that can be. -/
def Small (l : List Span) : Prop := l.length ≤ 1000000 ∧ ∀ s ∈ l, s.list.length ≤ 1000000

set_option maxRecDepth 100000 in
set_option maxHeartbeats 4000000 in
theorem same_true (m : Mat) (va vb : Value) (w : World) (h1 : WaitsAt w va m.waits) (h2 : WaitsAt w vb m.waits) (hm : m.waits.length ≤ 1000000) (hx : ∀ x ∈ m.waits, Small x.spans) :
    Calls Try.prog 11 #[.agg (matC m va), .agg (matC m vb)] w (Gives (.bool true) w) := by
  have mixed : Try.prog.follows .mixedOrders = true := by kernel_rfl
  obtain ⟨pa, hpa, hsa, hea, _⟩ := h1
  obtain ⟨pb, hpb, hsb, heb, _⟩ := h2
  obtain ⟨ad1, c1, rfl⟩ := hsa.form
  obtain ⟨ad2, c2, rfl⟩ := hsb.form
  obtain ⟨bf, ch, l, dd⟩ := m
  unfold matC
  dsimp only at *
  obtain ⟨n, hnl⟩ : ∃ n, l.length = n := ⟨_, rfl⟩
  have HN := Lib.hid hnl
  rw [hnl] at hm hsa hsb ⊢
  clear hnl
  have HA := Lib.hid hsa
  have HB := Lib.hid hsb
  have HPA := Lib.hid (And.intro hpa hea)
  have HPB := Lib.hid (And.intro hpb heb)
  have HX := Lib.hid hx
  clear hsa hsb hpa hpb hea heb hx
  obtain ⟨C1, hC1⟩ : ∃ C : Array Value, C = #[.string ⟨bf.toArray⟩, .bool ch, .slice ad1 n c1, .bool dd] := ⟨_, rfl⟩
  obtain ⟨C2, hC2⟩ : ∃ C : Array Value, C = #[.string ⟨bf.toArray⟩, .bool ch, .slice ad2 n c2, .bool dd] := ⟨_, rfl⟩
  have HC1 := Lib.hid hC1
  have HC2 := Lib.hid hC2
  clear hC1 hC2
  have hb0 : Below w.heap.size w ((w.alloc (.cells C1 28)).alloc (.cells C2 28)) := by (repeat' (first | (with_reducible assumption) | (with_reducible exact Below.refl _ _) | (with_reducible refine below_drewN ?_ _) | (with_reducible refine Below.drew ?_) | (with_reducible refine Below.setCell ?_ ?_ _) | (with_reducible refine Below.alloc ?_ ?_ _) | (with_reducible refine below_putObj ?_ ?_ _) | (with_reducible exact Nat.le_refl _) | omega | (simp; done) | (simp; omega)))
  have B1 : Blk ((w.alloc (.cells C1 28)).alloc (.cells C2 28)) w.heap.size 28 C1 := (Blk.new w _ _).alloc _
  have B2 : Blk ((w.alloc (.cells C1 28)).alloc (.cells C2 28)) (w.heap.size + 1) 28 C2 := Blk.newAt (by simp)
  have hsz : ((w.alloc (.cells C1 28)).alloc (.cells C2 28)).heap.size = w.heap.size + 2 := by simp
  obtain ⟨W, hW⟩ : ∃ W, (w.alloc (.cells C1 28)).alloc (.cells C2 28) = W := ⟨_, rfl⟩
  rw [hW] at hb0 B1 B2 hsz
  have HWW := Lib.hid hW
  have e1 := HC1.out
  have e2 := HC2.out
  subst e1 e2
  clear HC1 HC2 hW
  have HB1 := Lib.hid B1
  have HB2 := Lib.hid B2
  have Hb0 := Lib.hid hb0
  clear B1 B2 hb0
  go_enter Try.func11, Try.ntmps11
  go_wp2_with fail
  have HA2 := Lib.hid (HA.out.below Hb0.out)
  have HB2' := Lib.hid (HB.out.below Hb0.out)
  rw [HWW.out]
  have HS : Hid (∀ W2, Below W.heap.size W W2 → ∀ k q u v, l[k]? = some q → pa[k]? = some (q, u) → pb[k]? = some (q, v) → Calls Try.prog 24 #[u, v] W2 (Gives (.bool true) W2)) := Lib.hid (fun W2 hb2 k q u v hq hu hv =>
    rspans_same q.spans u v (HX.out q (List.mem_of_getElem? hq)).1 (HX.out q (List.mem_of_getElem? hq)).2 W2 (((HPA.out.2 _ (List.mem_of_getElem? hu)).below Hb0.out).below hb2) (((HPB.out.2 _ (List.mem_of_getElem? hv)).below Hb0.out).below hb2))
  have hsz1 : w.heap.size < W.heap.size := by omega
  have hsz2 : w.heap.size + 1 < W.heap.size := by omega
  clear HA HB HX hsz HWW
  go_loopw [5] (fun i wr => ∃ k : Nat, k ≤ n ∧ i = .int .i64 k ∧ Below W.heap.size W wr) (fun i _ => n - (intOf i).toNat)
  case atStart => exact ⟨0, Nat.zero_le _, rfl, Below.refl _ _⟩
  case round =>
    obtain ⟨k, hk, rfl, hbw⟩ := hrel
    have b1 := HB1.out.below hbw hsz1
    have b2 := HB2.out.below hbw hsz2
    have q1 := b1.cell 2
    have q2 := b2.cell 2
    have f1 := b1.lt
    have f2 := b2.lt
    simp only [List.getElem?_toArray, List.getElem?_cons_zero, List.getElem?_cons_succ] at q1 q2
    by_cases hlt : k < n
    · have k1 : (k : Int) < (n : Int) := by omega
      have k0 : (0 : Int) ≤ (k : Int) := by omega
      obtain ⟨q, hq⟩ : ∃ q, l[k]? = some q := ⟨_, List.getElem?_eq_getElem (by rw [HN.out]; exact hlt)⟩
      obtain ⟨u, hu⟩ := pairs_get HPA.out.1 k q hq
      obtain ⟨v, hv⟩ := pairs_get HPB.out.1 k q hq
      obtain ⟨au, cu, eu⟩ := (HPA.out.2 _ (List.mem_of_getElem? hu)).form
      obtain ⟨av, cv, ev⟩ := (HPB.out.2 _ (List.mem_of_getElem? hv)).form
      dsimp only at eu ev
      subst eu ev
      obtain ⟨x1, o1, rfl, A⟩ := wait_cells HA2.out hu
      obtain ⟨x2, o2, rfl, D⟩ := wait_cells HB2'.out hv
      have A' := A.below hbw
      have D' := D.below hbw
      have l2 := World.block_lt_of_cell? _ _ D'.1
      dsimp only at l2
      obtain ⟨a0, a1, a2, a3, a4, a5, a6, a7, a8, a9⟩ := A'
      obtain ⟨d0, d1, d2, d3, d4, d5, d6, d7, d8, d9⟩ := D'
      have HSS := Lib.hid (fun W2 hb2 => HS.out W2 hb2 k q _ _ hq hu hv)
      have zo := fun o i => old_cell (w := wr) (g := w.heap.size + 1) f2 o i
      have xo := fun o i => old_cell (w := wr) (g := x2) l2 o i
      have s1 := hbw.size
      have nz1 : w.heap.size + 1 ≠ wr.heap.size := by omega
      have nx1 : x2 ≠ wr.heap.size := by omega
      clear A D hq hu hv b1 b2
      dsimp only at a0 a1 a2 a3 a4 a5 a6 a7 a8 a9 d0 d1 d2 d3 d4 d5 d6 d7 d8 d9
      go_wp2_with fail
      have hgb : Below W.heap.size W ((wr.alloc (.cells (waitC (q, .slice au q.spans.length cu)).toArray 42)).alloc (.cells (waitC (q, .slice av q.spans.length cv)).toArray 42)) := by (repeat' (first | (with_reducible assumption) | (with_reducible exact Below.refl _ _) | (with_reducible refine below_drewN ?_ _) | (with_reducible refine Below.drew ?_) | (with_reducible refine Below.setCell ?_ ?_ _) | (with_reducible refine Below.alloc ?_ ?_ _) | (with_reducible refine below_putObj ?_ ?_ _) | (with_reducible exact Nat.le_refl _) | omega | (simp; done) | (simp; omega)))
      refine (HSS.out _ hgb).mono ?_
      rintro e w3 ⟨rfl, hb3⟩
      have b3 := below_next hgb hb3
      clear hgb hb3 HSS zo xo a0 a1 a2 a3 a4 a5 a6 a7 a8 a9 d0 d1 d2 d3 d4 d5 d6 d7 d8 d9
      go_wp2_with fail
      go_roundw
      case rel => exact ⟨k + 1, by omega, by go_num, b3⟩
      case measure => simp [intOf]; omega
    · obtain rfl : k = n := by omega
      have k1 : ¬ (k : Int) < (k : Int) := by omega
      go_wp2
      go_ret
      exact ⟨rfl, Hb0.out.trans (hbw.mono (by omega))⟩
end Go.Proofs.Ytfcojhpnpfodeaa
