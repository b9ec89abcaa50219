/- slices.Clone of what waits, and of spans. · The document's find, Same. -/
import Derived.Test.YtfcojhpnpfodeaaMatFind
import Derived.Deep.RegionHeld3
namespace Go.Proofs.Ytfcojhpnpfodeaa
open Go.RowKit

theorem Try.infoWait : (Try.prog.info? 42).map (fun i => (i.zero, i.size, i.bytes)) = some (some (.agg #[.int .i64 0, .int .i64 0, .int .u64 0, .int .u64 0, .int .u32 0, .string ⟨#[]⟩, .string ⟨#[]⟩, .string ⟨#[]⟩, .slice none 0 0, .int .u32 0]), 10, 120) := by kernel_rfl
theorem Try.infoSpans : (Try.prog.info? 90).map (fun i => (i.zero, i.size, i.bytes)) = some (some (.agg #[.int .u32 0, .slice none 0 0]), 2, 32) := by kernel_rfl
theorem Try.infoAnsw : (Try.prog.info? 40).map (fun i => (i.zero, i.size, i.bytes)) = some (some (.agg #[.int .i64 0, .int .i64 0, .int .u64 0, .int .u64 0, .int .u32 0, .string ⟨#[]⟩, .int .u32 0, .string ⟨#[]⟩, .slice none 0 0]), 9, 104) := by kernel_rfl

set_option maxRecDepth 100000 in
set_option maxHeartbeats 1000000 in
theorem clone_waits (v : Value) (n : Nat) (cs : List Value) (w : World) (h : SlAt w v n cs) (hl : n ≤ 1000000) (hcs : cs.length = n * 10) (h1 : ∀ u ∈ cs, u.oneCell' = true) :
    Calls Try.prog 21 #[v] w fun e w' => ∃ v', e = .returned v' ∧ w'.ownsRow w.heap.size 42 10 v' n cs ∧ Below w.heap.size w w' := by
  obtain ⟨i0, hi, hz0, hz1, hz2⟩ := info_parts Try.infoWait
  have q22 : ∀ (w : World) (a : Option Addr) (n c n' c' : Nat), (binOp .eql 26 (.slice a n c) (.slice none n' c')).run Try.prog w = .ok (.bool a.isNone) w := fun w a n c n' c' => Lib.run_eql_slice_nil w _ _ a n c n' c' Try.underlying26
  rcases h with ⟨rfl, rfl, rfl⟩ | ⟨a, cap, rfl, hs, hc⟩
  · go_enter Try.func21, Try.ntmps21
    go_wp2
    go_ret
    exact ⟨_, rfl, World.ownsRow_nil _ _ _ _, Below.refl _ _⟩
  · have A := Lib.hid hc
    clear hc hs
    go_enter Try.func21, Try.ntmps21
    go_wp2_with (at_builtin; refine wpList_append_own _ rfl _ _ 26 rfl w.heap.size 42 i0 (.agg #[.int .i64 0, .int .i64 0, .int .u64 0, .int .u64 0, .int .u32 0, .string ⟨#[]⟩, .string ⟨#[]⟩, .string ⟨#[]⟩, .slice none 0 0, .int .u32 0]) 10 120 Try.underlying26 hi hz0 hz1 hz2 rfl (by decide) _ _ _ rfl (World.ownsRow_made w #[] 0 (Nat.le_refl _) (Nat.zero_le _) rfl) a n cap cs rfl hcs ?qc2 h1 ?qc4 ?qc5 ?qc6 ?_)
    case qc2 =>
      intro j u hj
      exact Lib.cell?_alloc_some _ (A.out j u hj)
    case qc4 => unfold maxLen; omega
    case qc5 => omega
    case qc6 => simp
    intro v' w1 hown hgrow hnil
    go_wp2
    go_ret
    exact ⟨v', rfl, by simpa using hown, ((Below.refl _ w).alloc (Nat.le_refl _) _).grown hgrow (by simp) (by intro k hk; simp [Value.ownBlock] at hk; omega)⟩

set_option maxRecDepth 100000 in
set_option maxHeartbeats 1000000 in
theorem clone_spans (v : Value) (n : Nat) (cs : List Value) (w : World) (h : SlAt w v n cs) (hl : n ≤ 1000000) (hcs : cs.length = n * 2) (h1 : ∀ u ∈ cs, u.oneCell' = true) :
    Calls Try.prog 68 #[v] w fun e w' => ∃ v', e = .returned v' ∧ w'.ownsRow w.heap.size 90 2 v' n cs ∧ Below w.heap.size w w' := by
  obtain ⟨i0, hi, hz0, hz1, hz2⟩ := info_parts Try.infoSpans
  have q22 : ∀ (w : World) (a : Option Addr) (n c n' c' : Nat), (binOp .eql 38 (.slice a n c) (.slice none n' c')).run Try.prog w = .ok (.bool a.isNone) w := fun w a n c n' c' => Lib.run_eql_slice_nil w _ _ a n c n' c' Try.underlying38
  rcases h with ⟨rfl, rfl, rfl⟩ | ⟨a, cap, rfl, hs, hc⟩
  · go_enter Try.func68, Try.ntmps68
    go_wp2
    go_ret
    exact ⟨_, rfl, World.ownsRow_nil _ _ _ _, Below.refl _ _⟩
  · have A := Lib.hid hc
    clear hc hs
    go_enter Try.func68, Try.ntmps68
    go_wp2_with (at_builtin; refine wpList_append_own _ rfl _ _ 38 rfl w.heap.size 90 i0 (.agg #[.int .u32 0, .slice none 0 0]) 2 32 Try.underlying38 hi hz0 hz1 hz2 rfl (by decide) _ _ _ rfl (World.ownsRow_made w #[] 0 (Nat.le_refl _) (Nat.zero_le _) rfl) a n cap cs rfl hcs ?qc2 h1 ?qc4 ?qc5 ?qc6 ?_)
    case qc2 =>
      intro j u hj
      exact Lib.cell?_alloc_some _ (A.out j u hj)
    case qc4 => unfold maxLen; omega
    case qc5 => omega
    case qc6 => simp
    intro v' w1 hown hgrow hnil
    go_wp2
    go_ret
    exact ⟨v', rfl, by simpa using hown, ((Below.refl _ w).alloc (Nat.le_refl _) _).grown hgrow (by simp) (by intro k hk; simp [Value.ownBlock] at hk; omega)⟩

end Go.Proofs.Ytfcojhpnpfodeaa

namespace Go.Proofs.Ytfcojhpnpfodeaa
open Go.RowKit

set_option maxRecDepth 100000 in
set_option maxHeartbeats 1000000 in
theorem rfind_any (m : Mat) (v : Value) (c : Nat) (w : World) (h : WaitsAt w v m.waits) (hl : m.waits.length ≤ 1000000) :
    Calls Try.prog 32 #[.agg (matC m v), .int .u64 (c : Nat)] w (Gives (.int .i64 (findI m.waits c)) w) := by
  have mixed : Try.prog.follows .mixedOrders = true := by kernel_rfl
  obtain ⟨ps, hps, hsl, hsp⟩ := h
  obtain ⟨ad, cap, rfl⟩ := hsl.form
  have H := Lib.hid hsl
  have HP := Lib.hid hps
  clear hsl hsp hps
  obtain ⟨bf, ch, l, dd⟩ := m
  dsimp only at *
  obtain ⟨n, hnl⟩ : ∃ n, l.length = n := ⟨_, rfl⟩
  have HN := Lib.hid hnl
  obtain ⟨R, hR⟩ : ∃ R, R = findI l c := ⟨_, rfl⟩
  have HR := Lib.hid hR
  rw [← hR]
  rw [hnl] at hl H ⊢
  clear hnl hR
  unfold matC
  dsimp only
  go_enter Try.func32, Try.ntmps32
  go_wp2_with fail
  have hg : Below w.heap.size w (w.alloc (.cells #[.string ⟨bf.toArray⟩, .bool ch, .slice ad n cap, .bool dd] 28)) := by (repeat' (first | (with_reducible assumption) | (with_reducible exact Below.refl _ _) | (with_reducible refine below_drewN ?_ _) | (with_reducible refine Below.drew ?_) | (with_reducible refine Below.setCell ?_ ?_ _) | (with_reducible refine Below.alloc ?_ ?_ _) | (with_reducible refine below_putObj ?_ ?_ _) | (with_reducible exact Nat.le_refl _) | omega | (simp; done) | (simp; omega)))
  have BM : Blk (w.alloc (.cells #[.string ⟨bf.toArray⟩, .bool ch, .slice ad n cap, .bool dd] 28)) w.heap.size 28 #[.string ⟨bf.toArray⟩, .bool ch, .slice ad n cap, .bool dd] := Blk.new w _ _
  have H2 := Lib.hid (H.out.below hg)
  have HG := Lib.hid hg
  clear hg
  generalize w.alloc (.cells #[.string ⟨bf.toArray⟩, .bool ch, .slice ad n cap, .bool dd] 28) = W0 at *
  have HM := Lib.hid BM
  have hbm := BM.lt
  clear BM H
  go_loopw [5] (fun i wr => ∃ k : Nat, k ≤ n ∧ i = .int .i64 k ∧ Hid (∀ j, j < k → ∀ w, l[j]? = some w → w.req.cookie ≠ c) ∧ Below W0.heap.size W0 wr) (fun i _ => n - (intOf i).toNat)
  case atStart => exact ⟨0, Nat.zero_le _, rfl, Lib.hid (fun j hj => absurd hj (Nat.not_lt_zero _)), Below.refl _ _⟩
  case round =>
    obtain ⟨k, hk, rfl, hno, hbw⟩ := hrel
    have z2 := (HM.out.below hbw hbm).cell 2
    simp only [List.getElem?_toArray, List.getElem?_cons_zero, List.getElem?_cons_succ] at z2
    by_cases hlt : k < n
    · have k1 : (k : Int) < (n : Int) := by omega
      have k0 : (0 : Int) ≤ (k : Int) := by omega
      obtain ⟨q, hq⟩ : ∃ q, l[k]? = some q := ⟨_, List.getElem?_eq_getElem (by rw [HN.out]; exact hlt)⟩
      obtain ⟨u, hu⟩ := pairs_get HP.out k q hq
      obtain ⟨b, o, rfl, A⟩ := wait_cells H2.out hu
      obtain ⟨a0, a1, a2, a3, a4, a5, a6, a7, a8, a9⟩ := A.below hbw
      have HQ := Lib.hid hq
      clear A hq hu a0 a1 a3 a4 a5 a6 a7 a8 a9
      dsimp only at a2
      by_cases hc : q.req.cookie = c
      · have HE : Hid (R = (k : Int)) := Lib.hid (by rw [HR.out]; exact findI_at l c k q hno.out HQ.out hc)
        have ec : ((q.req.cookie : Int) == (c : Int)) = true := by rw [hc]; simp
        clear hc
        go_wp2_with fail
        go_ret
        exact ⟨by rw [HE.out]; rfl, below_next HG.out hbw⟩
      · have ec : ((q.req.cookie : Int) == (c : Int)) = false := by rw [beq_eq_false_iff_ne]; omega
        have HNO : Hid (∀ j, j < k + 1 → ∀ w, l[j]? = some w → w.req.cookie ≠ c) := Lib.hid (fun j hj w hw => by
          rcases Nat.lt_succ_iff_lt_or_eq.1 hj with h | rfl
          · exact hno.out j h w hw
          · rw [HQ.out] at hw
            cases hw
            exact hc)
        clear hc
        go_wp2_with fail
        go_roundw
        case rel => exact ⟨k + 1, by omega, by go_num, HNO, hbw⟩
        case measure => simp [intOf]; omega
    · obtain rfl : k = n := by omega
      have k1 : ¬ (k : Int) < (k : Int) := by omega
      have HE : Hid (R = -1) := Lib.hid (by rw [HR.out]; exact findI_none l c (fun j hj => hno.out j (by rw [HN.out] at hj; exact hj)))
      go_wp2_with fail
      go_ret
      exact ⟨by rw [HE.out]; rfl, below_next HG.out hbw⟩

set_option maxRecDepth 100000 in
set_option maxHeartbeats 1000000 in
theorem rrow_same (l : List Ext) (va vb : Value) (hl : l.length ≤ 1000000) (w : World) (ha : ExtAt w va l) (hb : ExtAt w vb l) :
    Calls Try.prog 40 #[va, vb] w (Gives (.bool true) w) := by
  have mixed : Try.prog.follows .mixedOrders = true := by kernel_rfl
  obtain ⟨ada, ca, rfl, ha⟩ := ha
  obtain ⟨adb, cb, rfl, hb⟩ := hb
  have HCA := Lib.hid ha
  have HCB := Lib.hid hb
  clear ha hb
  obtain ⟨n, hnl⟩ : ∃ n, l.length = n := ⟨_, rfl⟩
  have HN := Lib.hid hnl
  rw [hnl] at hl ⊢
  clear hnl
  go_enter Try.func40, Try.ntmps40
  go_wp2
  go_loopw [5] (fun i wr => ∃ k : Nat, k ≤ n ∧ i = .int .i64 k ∧ Below w.heap.size w wr) (fun i _ => n - (intOf i).toNat)
  case atStart => exact ⟨0, Nat.zero_le _, rfl, Below.refl _ _⟩
  case round =>
    obtain ⟨k, hk, rfl, hbw⟩ := hrel
    by_cases hlt : k < n
    · have k1 : (k : Int) < (n : Int) := by omega
      have k0 : (0 : Int) ≤ (k : Int) := by omega
      obtain ⟨q, hq⟩ : ∃ q, l[k]? = some q := ⟨l[k]'(by rw [HN.out]; exact hlt), List.getElem?_eq_getElem _⟩
      have hne : l ≠ [] := by intro e; rw [e] at hq; simp at hq
      obtain ⟨b1, o1, rfl, A⟩ := HCA.out.resolve_left hne
      obtain ⟨b2, o2, rfl, B⟩ := HCB.out.resolve_left hne
      have a0 := cell_keep (A k q hq).1 hbw
      have a1 := cell_keep (A k q hq).2 hbw
      have d0 := cell_keep (B k q hq).1 hbw
      have d1 := cell_keep (B k q hq).2 hbw
      clear A B hlt hk hq hne
      go_wp2
      go_quiet (fail)
      go_wp2
      go_roundw
      case rel => exact ⟨k + 1, by omega, by go_num, below_drewN hbw _⟩
      case measure => simp [intOf]; omega
    · have k1 : ¬ (k : Int) < (n : Int) := by omega
      go_wp2
      go_ret
      exact ⟨rfl, hbw⟩

set_option maxRecDepth 100000 in
set_option maxHeartbeats 1000000 in
theorem rspans_same (l : List Span) (va vb : Value) (hl : l.length ≤ 1000000) (hx : ∀ s ∈ l, s.list.length ≤ 1000000) (w : World) (ha : SpanAt w va l) (hb : SpanAt w vb l) :
    Calls Try.prog 24 #[va, vb] w (Gives (.bool true) w) := by
  have mixed : Try.prog.follows .mixedOrders = true := by kernel_rfl
  obtain ⟨pa, hpa, hsa, hea, _⟩ := ha
  obtain ⟨pb, hpb, hsb, heb, _⟩ := hb
  obtain ⟨ada, ca, rfl⟩ := hsa.form
  obtain ⟨adb, cb, rfl⟩ := hsb.form
  obtain ⟨n, hnl⟩ : ∃ n, l.length = n := ⟨_, rfl⟩
  have HN := Lib.hid hnl
  rw [hnl] at hl hsa hsb ⊢
  clear hnl
  have HA := Lib.hid hsa
  have HB := Lib.hid hsb
  have HPA := Lib.hid (And.intro hpa hea)
  have HPB := Lib.hid (And.intro hpb heb)
  have HX := Lib.hid hx
  clear hsa hsb hpa hpb hea heb hx
  go_enter Try.func24, Try.ntmps24
  go_wp2_with fail
  go_loopw [5] (fun i wr => ∃ k : Nat, k ≤ n ∧ i = .int .i64 k ∧ Below w.heap.size w wr) (fun i _ => n - (intOf i).toNat)
  case atStart => exact ⟨0, Nat.zero_le _, rfl, Below.refl _ _⟩
  case round =>
    obtain ⟨k, hk, rfl, hbw⟩ := hrel
    by_cases hlt : k < n
    · have k1 : (k : Int) < (n : Int) := by omega
      have k0 : (0 : Int) ≤ (k : Int) := by omega
      obtain ⟨q, hq⟩ : ∃ q, l[k]? = some q := ⟨l[k]'(by rw [HN.out]; exact hlt), List.getElem?_eq_getElem _⟩
      obtain ⟨u, hu⟩ := pairs_get HPA.out.1 k q hq
      obtain ⟨v, hv⟩ := pairs_get HPB.out.1 k q hq
      obtain ⟨b1, o1, rfl, A0, A1⟩ := span_cells HA.out hu
      obtain ⟨b2, o2, rfl, B0, B1⟩ := span_cells HB.out hv
      have a0 := cell_keep A0 hbw
      have a1 := cell_keep A1 hbw
      have d0 := cell_keep B0 hbw
      have d1 := cell_keep B1 hbw
      have e1 := HPA.out.2 _ (List.mem_of_getElem? hu)
      have e2 := HPB.out.2 _ (List.mem_of_getElem? hv)
      have HRW := Lib.hid (fun W (hb : Below w.heap.size w W) => rrow_same q.list u v (HX.out q (List.mem_of_getElem? hq)) W (e1.1.below hb) (e2.1.below hb))
      clear A0 A1 B0 B1 e1 e2 hu hv hq
      dsimp only at a0 a1 d0 d1
      go_wp2
      go_region_held3 (fun w' => w'.cell? ⟨b1, o1 + k * 2, none⟩ = some (.int .u32 (q.context : Nat)) ∧ w'.cell? ⟨b1, o1 + k * 2 + 1, none⟩ = some u ∧ w'.cell? ⟨b2, o2 + k * 2, none⟩ = some (.int .u32 (q.context : Nat)) ∧ w'.cell? ⟨b2, o2 + k * 2 + 1, none⟩ = some v ∧ Below w.heap.size w w')
        (first | assumption | exact ⟨a0, a1, d0, d1, hbw.drew⟩ | exact held4e (by assumption) hb)
        (first | (go_at_call 40; refine (HRW.out _ (‹_ ∧ _ ∧ _ ∧ _ ∧ Below w.heap.size w _›.2.2.2.2)).mono ?_; rintro e w' ⟨rfl, hb⟩))
      all_goals go_wp2
      all_goals go_roundw
      case rel => exact ⟨k + 1, by omega, by go_num, ‹_ ∧ _ ∧ _ ∧ _ ∧ Below w.heap.size w _›.2.2.2.2⟩
      case measure => simp [intOf]; omega
    · have k1 : ¬ (k : Int) < (n : Int) := by omega
      go_wp2
      go_ret
      exact ⟨rfl, hbw⟩
end Go.Proofs.Ytfcojhpnpfodeaa
