/- match.find, and the document's. -/
import Derived.Test.YtfcojhpnpfodeaaMatMem
namespace Go.Proofs.Ytfcojhpnpfodeaa
open Go.RowKit

def findI (l : List Wait) (c : Nat) : Int := match findW l c with | none => -1 | some k => (k : Nat)
theorem findW_at (l : List Wait) (c k : Nat) (w : Wait) (h : ∀ j, j < k → ∀ w, l[j]? = some w → w.req.cookie ≠ c) (hk : l[k]? = some w) (hc : w.req.cookie = c) : findW l c = some k := by
  unfold findW
  rw [List.findIdx?_eq_some_iff_getElem]
  obtain ⟨hl, he⟩ := List.getElem?_eq_some_iff.1 hk
  refine ⟨hl, by rw [he]; simpa using hc, fun j hj => ?_⟩
  have := h j hj (l[j]'(by omega)) (List.getElem?_eq_getElem _)
  simpa using this
theorem findW_none (l : List Wait) (c : Nat) (h : ∀ j, j < l.length → ∀ w, l[j]? = some w → w.req.cookie ≠ c) : findW l c = none := by
  unfold findW
  rw [List.findIdx?_eq_none_iff]
  intro x hx
  obtain ⟨j, hj, rfl⟩ := List.mem_iff_getElem.1 hx
  have := h j hj (l[j]) (List.getElem?_eq_getElem _)
  simpa using this
theorem findW_some {l : List Wait} {c k : Nat} (h : findW l c = some k) : ∃ w, l[k]? = some w ∧ w.req.cookie = c := by
  unfold findW at h
  rw [List.findIdx?_eq_some_iff_getElem] at h
  obtain ⟨hl, he, _⟩ := h
  exact ⟨l[k], List.getElem?_eq_getElem hl, by simpa using he⟩
theorem findI_at (l : List Wait) (c k : Nat) (w : Wait) (h : ∀ j, j < k → ∀ w, l[j]? = some w → w.req.cookie ≠ c) (hk : l[k]? = some w) (hc : w.req.cookie = c) : findI l c = (k : Nat) := by
  unfold findI; rw [findW_at l c k w h hk hc]
theorem findI_none (l : List Wait) (c : Nat) (h : ∀ j, j < l.length → ∀ w, l[j]? = some w → w.req.cookie ≠ c) : findI l c = -1 := by
  unfold findI; rw [findW_none l c h]

set_option maxRecDepth 100000 in
set_option maxHeartbeats 1000000 in
theorem find1_any (p : Wait × Value) (c B : Nat) (W : World) (hB : W.cell? ⟨B, 0, none⟩ = some (.int .u64 (c : Nat))) :
    Calls Try.prog 42 #[.agg (waitC p).toArray, .pointer (some ⟨B, 0, none⟩)] W (Gives (.bool (p.1.req.cookie == c)) W) := by
  have mixed : Try.prog.follows .mixedOrders = true := by kernel_rfl
  obtain ⟨⟨⟨fl, kd, ck, fr, ln, d⟩, dt, hv, sp, er⟩, v⟩ := p
  unfold waitC
  dsimp only
  have hlt := World.block_lt_of_cell? W _ hB
  dsimp only at hlt
  have zo : ∀ o i, (W.alloc o).cell? ⟨B, i, none⟩ = W.cell? ⟨B, i, none⟩ := fun o i => World.cell?_of_block (Below.heap_alloc W o B hlt)
  have n1 : B ≠ W.heap.size := by omega
  have n2 : W.heap.size ≠ B := by omega
  go_enter Try.func42, Try.ntmps42
  go_wp2_with fail
  go_ret
  have e : ((ck : Int) == (c : Int)) = (ck == c) := by rw [Bool.eq_iff_iff]; simp [Int.ofNat_inj]
  exact ⟨by rw [← e]; rfl, by (repeat' (first | (with_reducible assumption) | (with_reducible exact Below.refl _ _) | (with_reducible refine below_drewN ?_ _) | (with_reducible refine Below.drew ?_) | (with_reducible refine Below.setCell ?_ ?_ _) | (with_reducible refine Below.alloc ?_ ?_ _) | (with_reducible refine below_putObj ?_ ?_ _) | (with_reducible exact Nat.le_refl _) | omega | (simp; done) | (simp; omega)))⟩

set_option maxRecDepth 100000 in
set_option maxHeartbeats 1000000 in
theorem indexFunc_any (v : Value) (l : List Wait) (c B : Nat) (w : World) (h : WaitsAt w v l) (hl : l.length ≤ 1000000) (hB : w.cell? ⟨B, 0, none⟩ = some (.int .u64 (c : Nat))) :
    Calls Try.prog 41 #[v, .func (.func 42) #[] #[.pointer (some ⟨B, 0, none⟩)]] w (Gives (.int .i64 (findI l c)) w) := by
  have mixed : Try.prog.follows .mixedOrders = true := by kernel_rfl
  obtain ⟨ps, hps, hsl, hsp⟩ := h
  obtain ⟨ad, cap, rfl⟩ := hsl.form
  have H := Lib.hid hsl
  have HP := Lib.hid hps
  clear hsl hsp hps
  have HB := Lib.hid hB
  clear hB
  obtain ⟨n, hnl⟩ : ∃ n, l.length = n := ⟨_, rfl⟩
  have HN := Lib.hid hnl
  obtain ⟨R, hR⟩ : ∃ R, R = findI l c := ⟨_, rfl⟩
  have HR := Lib.hid hR
  rw [← hR]
  rw [hnl] at hl H ⊢
  clear hnl hR
  go_enter Try.func41, Try.ntmps41
  go_wp2_with fail
  go_loopw [8] (fun i wr => ∃ k : Nat, k ≤ n ∧ i = .int .i64 k ∧ Hid (∀ j, j < k → ∀ w, l[j]? = some w → w.req.cookie ≠ c) ∧ Below w.heap.size w wr) (fun i _ => n - (intOf i).toNat)
  case atStart => exact ⟨0, Nat.zero_le _, rfl, Lib.hid (fun j hj => absurd hj (Nat.not_lt_zero _)), Below.refl _ _⟩
  case round =>
    obtain ⟨k, hk, rfl, hno, hbw⟩ := hrel
    by_cases hlt : k < n
    · have k1 : (k : Int) < (n : Int) := by omega
      have k0 : (0 : Int) ≤ (k : Int) := by omega
      obtain ⟨q, hq⟩ : ∃ q, l[k]? = some q := ⟨_, List.getElem?_eq_getElem (by rw [HN.out]; exact hlt)⟩
      obtain ⟨u, hu⟩ := pairs_get HP.out k q hq
      obtain ⟨b, o, rfl, A⟩ := wait_cells H.out hu
      obtain ⟨a0, a1, a2, a3, a4, a5, a6, a7, a8, a9⟩ := A.below hbw
      have HF := Lib.hid (fun W (hW : W.cell? ⟨B, 0, none⟩ = some (.int .u64 (c : Nat))) => find1_any (q, u) c B W hW)
      unfold waitC at HF
      have HB2 := Lib.hid (cell_keepS HB.out hbw)
      have HQ := Lib.hid hq
      clear A hq hu
      dsimp only at a0 a1 a2 a3 a4 a5 a6 a7 a8 a9 HF
      go_wp2_with fail
      refine (HF.out _ HB2.out).mono ?_
      rintro e w3 ⟨rfl, hb3⟩
      have b3 := below_next hbw hb3
      clear hb3 hbw HF HB2 a0 a1 a2 a3 a4 a5 a6 a7 a8 a9
      by_cases hc : q.req.cookie = c
      · have HE : Hid (R = (k : Int)) := Lib.hid (by rw [HR.out]; exact findI_at l c k q hno.out HQ.out hc)
        have ec : (q.req.cookie == c) = true := by simpa using hc
        clear hc
        go_wp2_with fail
        go_ret
        exact ⟨by rw [HE.out]; rfl, b3⟩
      · have ec : (q.req.cookie == c) = false := by simpa using hc
        have HNO : Hid (∀ j, j < k + 1 → ∀ w, l[j]? = some w → w.req.cookie ≠ c) := Lib.hid (fun j hj w hw => by
          rcases Nat.lt_succ_iff_lt_or_eq.1 hj with h | rfl
          · exact hno.out j h w hw
          · rw [HQ.out] at hw
            cases hw
            exact hc)
        clear hc
        go_wp2_with fail
        go_roundw
        case rel => exact ⟨k + 1, by omega, by go_num, HNO, b3⟩
        case measure => simp [intOf]; omega
    · obtain rfl : k = n := by omega
      have k1 : ¬ (k : Int) < (k : Int) := by omega
      have HE : Hid (R = -1) := Lib.hid (by rw [HR.out]; exact findI_none l c (fun j hj => hno.out j (by rw [HN.out] at hj; exact hj)))
      go_wp2_with fail
      go_ret
      exact ⟨by rw [HE.out]; rfl, hbw⟩

set_option maxRecDepth 100000 in
set_option maxHeartbeats 1000000 in
theorem find_any (m : Mat) (v : Value) (c : Nat) (w : World) (h : WaitsAt w v m.waits) (hl : m.waits.length ≤ 1000000) :
    Calls Try.prog 28 #[.agg (matC m v), .int .u64 (c : Nat)] w (Gives (.int .i64 (findI m.waits c)) w) := by
  have mixed : Try.prog.follows .mixedOrders = true := by kernel_rfl
  obtain ⟨ad, cap, rfl⟩ := h.form
  have H := Lib.hid h
  clear h
  unfold matC
  go_enter Try.func28, Try.ntmps28
  go_wp2_with fail
  have hg : Below w.heap.size w ((w.alloc (.cells #[.string ⟨m.buf.toArray⟩, .bool m.chunks, .slice ad m.waits.length cap, .bool m.dead] 28)).alloc (.cells #[.int .u64 (c : Nat)] 34)) := by (repeat' (first | (with_reducible assumption) | (with_reducible exact Below.refl _ _) | (with_reducible refine below_drewN ?_ _) | (with_reducible refine Below.drew ?_) | (with_reducible refine Below.setCell ?_ ?_ _) | (with_reducible refine Below.alloc ?_ ?_ _) | (with_reducible refine below_putObj ?_ ?_ _) | (with_reducible exact Nat.le_refl _) | omega | (simp; done) | (simp; omega)))
  refine (indexFunc_any _ m.waits c _ _ (H.out.below hg) hl (Blk.cell (Blk.newAt (by simp)) 0)).mono ?_
  rintro e w1 ⟨rfl, hb1⟩
  have b1 := below_next hg hb1
  go_wp2_with fail
  go_ret
  exact ⟨rfl, b1⟩
end Go.Proofs.Ytfcojhpnpfodeaa
