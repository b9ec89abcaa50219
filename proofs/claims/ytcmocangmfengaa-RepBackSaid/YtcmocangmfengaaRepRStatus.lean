/- The document's Status. -/
import Derived.Test.YtcmocangmfengaaRepStatus
namespace Go.Proofs.Ytcmocangmfengaa
open Go.RowKit
attribute [local go_sem ↓] Go.wp_at_zero Go.wp_at_succ

theorem held2e {a w w' : World} {p q : Addr} {u v : Value} (h : w.cell? p = some u ∧ w.cell? q = some v ∧ Below a.heap.size a w) (hb : Below w.heap.size w w') : w'.cell? p = some u ∧ w'.cell? q = some v ∧ Below a.heap.size a w' :=
  ⟨cell_keep h.1 hb, cell_keep h.2.1 hb, below_next h.2.2 hb⟩
theorem rput_int4 (n : Int) (h0 : 0 ≤ n) (h1 : n < 18446744073709551616) (w : World) :
    Calls Try.prog 27 #[.int .u64 n, .int .i64 4] w (Gives (.string ⟨(be 4 n.toNat).toArray⟩) w) := by
  have h := rput_any n.toNat 4 (by omega) (by decide) (by decide) w
  rwa [Int.toNat_of_nonneg h0] at h

set_option maxRecDepth 100000 in
set_option maxHeartbeats 4000000 in
theorem rstatus_any (c : Nat) (l : List Ext) (v : Value) (hc : c < 4294967296) (hl : l.length ≤ 100000) (w : World) (hv : ExtAt w v l) :
    Calls Try.prog 8 #[.int .u32 (c : Nat), v] w (Gives (.tuple #[.string ⟨(writeStatus c l).1.toArray⟩, .int .i64 (writeStatus c l).2]) w) := by
  have mixed : Try.prog.follows .mixedOrders = true := by kernel_rfl
  obtain ⟨ad, cap, rfl, hv⟩ := hv
  have HV := Lib.hid hv
  clear hv
  obtain ⟨n, hnl⟩ : ∃ n, l.length = n := ⟨_, rfl⟩
  have HN := Lib.hid hnl
  obtain ⟨Z, hZ⟩ : ∃ Z, writeStatus c l = Z := ⟨_, rfl⟩
  rw [hZ]
  rw [hnl] at hl ⊢
  by_cases h0 : n = 0
  · have e : Z = ([], 16) := by rw [← hZ]; unfold writeStatus; rw [if_pos (.inl (List.length_eq_zero_iff.1 (by omega)))]
    rw [e]
    subst h0
    clear e hZ hnl
    go_enter Try.func8, Try.ntmps8
    go_wp2
    go_ret2
    exact ⟨rfl, Below.refl _ _⟩
  by_cases h500 : 500 < n
  · have e : Z = ([], 16) := by rw [← hZ]; unfold writeStatus; rw [if_pos (.inr (by omega))]
    rw [e]
    have k0 : ((n : Int) == 0) = false := by simp; omega
    clear e hZ hnl
    go_enter Try.func8, Try.ntmps8
    go_wp2
    go_ret2
    exact ⟨rfl, Below.refl _ _⟩
  have hne : l ≠ [] := by intro e; rw [e] at hnl; simp at hnl; omega
  have hZ2 : Z = if l.all Ext.ok = true then (statusB c l, 0) else ([], 25) := by rw [← hZ]; unfold writeStatus; rw [if_neg (by intro h; rcases h with h | h; exact hne h; omega)]
  have HZ := Lib.hid hZ2
  obtain ⟨b, o, rfl, hcell⟩ := HV.out.resolve_left hne
  have HC := Lib.hid hcell
  have HB1 := Lib.hid (fun W => rput_any c 4 (by omega) (by decide) (by decide) W)
  have k0 : ((n : Int) == 0) = false := by simp; omega
  have hwc : IntKind.u64.wrap (c : Int) = (c : Int) := wrap64u (by omega)
  clear hZ hZ2 hnl hne hcell HV
  go_enter Try.func8, Try.ntmps8
  go_wp2_with fail
  refine (HB1.out _).mono ?_
  rintro e w1 ⟨rfl, b1⟩
  go_wp2
  go_loopw [6, 7] (fun a i wr => ∃ k : Nat, k ≤ n ∧ i = .int .i64 k ∧ a = .string ⟨(be 4 c ++ extsB (l.take k)).toArray⟩ ∧ (l.take k).all Ext.ok = true ∧ Below w.heap.size w wr) (fun _ i _ => n - (intOf i).toNat)
  case atStart => exact ⟨0, Nat.zero_le _, rfl, by simp [extsB], by simp, b1⟩
  case round =>
    obtain ⟨k, hk, rfl, rfl, hall, hbw⟩ := hrel
    clear b1
    by_cases hlt : k < n
    · have k1 : (k : Int) < (n : Int) := by omega
      have k2 : (0 : Int) ≤ (k : Int) := by omega
      obtain ⟨x, hx⟩ : ∃ x, l[k]? = some x := ⟨l[k]'(by rw [HN.out]; exact hlt), List.getElem?_eq_getElem _⟩
      have a0 := cell_keep (HC.out k x hx).1 hbw
      have a1 := cell_keep (HC.out k x hx).2 hbw
      have hsk := extsB_take l k x hx
      have hlen : (be 4 c ++ extsB (l.take k)).length ≤ 10000 := by rw [List.length_append, be_length, extsB_length, List.length_take]; omega
      cases hxo : x.ok with
      | false =>
        have HX := Lib.hid (all_not l k x hx hxo)
        have hbad : x.len < 1 ∨ (1 ≤ x.len ∧ 4294967295 < x.len) ∨ (1 ≤ x.len ∧ x.len ≤ 4294967295 ∧ x.flags < 0) ∨ (1 ≤ x.len ∧ x.len ≤ 4294967295 ∧ 0 ≤ x.flags ∧ 4294967295 < x.flags) := by
          have h3 : ¬ x.ok = true := by rw [hxo]; simp
          rw [Ext.ok_iff] at h3
          omega
        obtain ⟨xl, xf⟩ := x
        dsimp only at a0 a1 hbad
        have s1 := hbw.size
        clear hx hxo hsk hall hk hlt
        generalize be 4 c ++ extsB (l.take k) = acc at hlen ⊢
        rcases hbad with h1 | ⟨h1, h2⟩ | ⟨h1, h2, h3⟩ | ⟨h1, h2, h3, h4⟩
        all_goals
          go_wp2
          go_ret2
          refine ⟨by rw [HZ.out, if_neg HX.out]; rfl, ?_⟩
          (repeat' (first | (with_reducible assumption) | (with_reducible exact Below.refl _ _) | (with_reducible refine below_drewN ?_ _) | (with_reducible refine Below.drew ?_) | (with_reducible refine Below.setCell ?_ ?_ _) | (with_reducible refine Below.alloc ?_ ?_ _) | (with_reducible refine below_putObj ?_ ?_ _) | (with_reducible exact Nat.le_refl _) | omega | (simp; done) | (simp; omega)))
      | true =>
        rw [Ext.ok_iff] at hxo
        have HALL := Lib.hid (all_step l k x hx hall ((Ext.ok_iff x).2 hxo))
        have HS := Lib.hid hsk
        obtain ⟨xl, xf⟩ := x
        dsimp only at a0 a1 hxo
        obtain ⟨h1, h2, h3, h4⟩ := hxo
        have HP1 := Lib.hid (fun W => rput_int4 xl (by omega) (by omega) W)
        have HP2 := Lib.hid (fun W => rput_int4 xf (by omega) (by omega) W)
        have hw1 : IntKind.u64.wrap xl = xl := by rw [IntKind.wrap_u64]; omega
        have hw2 : IntKind.u64.wrap xf = xf := by rw [IntKind.wrap_u64]; omega
        have he1 : (be 4 xl.toNat).length = 4 := be_length _ _
        have he2 : (be 4 xf.toNat).length = 4 := be_length _ _
        have HEB : Hid (extB ⟨xl, xf⟩ = be 4 xl.toNat ++ be 4 xf.toNat) := Lib.hid rfl
        clear hx hsk hall hlt
        obtain ⟨acc, hacc⟩ : ∃ acc, be 4 c ++ extsB (l.take k) = acc := ⟨_, rfl⟩
        have HACC := Lib.hid hacc
        rw [hacc] at hlen ⊢
        clear hacc
        have hsz1 : ¬ (9223372036854775807 < acc.length + 4) := by omega
        have hsz2 : ¬ (9223372036854775807 < acc.length + 4 + 4) := by omega
        go_wp2_with fail
        go_region_held3 (fun w' => w'.cell? ⟨b, o + k * 2, none⟩ = some (.int .i64 xl) ∧ w'.cell? ⟨b, o + k * 2 + 1, none⟩ = some (.int .i64 xf) ∧ Below w.heap.size w w')
          (first | assumption | exact ⟨a0, a1, hbw.drew⟩ | exact held2e (by assumption) hb)
          (first | (go_at_call_of 27 (Value.int .u64 xl); refine (HP1.out _).mono ?_; rintro e w' ⟨rfl, hb⟩) | (go_at_call_of 27 (Value.int .u64 xf); refine (HP2.out _).mono ?_; rintro e w' ⟨rfl, hb⟩))
        all_goals go_wp2
        all_goals go_roundw
        case rel => exact ⟨k + 1, by omega, by go_num, by rw [HS.out, HEB.out, ← HACC.out]; simp, HALL.out, ‹_ ∧ _ ∧ Below w.heap.size w _›.2.2⟩
        case measure => simp [intOf]; omega
    · have k1 : ¬ (k : Int) < (n : Int) := by omega
      have hall2 : l.all Ext.ok = true := by
        rw [List.take_of_length_le (by rw [HN.out]; omega)] at hall
        exact hall
      rw [List.take_of_length_le (by rw [HN.out]; omega)]
      clear hall hlt hk
      go_wp2
      go_ret2
      exact ⟨by rw [HZ.out, if_pos hall2]; rfl, hbw⟩

end Go.Proofs.Ytcmocangmfengaa
