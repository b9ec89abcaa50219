/- rep.Status, and the document's. -/
import Derived.Test.YtcmocangmfengaaRepExt
namespace Go.Proofs.Ytcmocangmfengaa
open Go.RowKit
attribute [local go_sem ↓] Go.wp_at_zero Go.wp_at_succ

theorem all_step (l : List Ext) (k : Nat) (x : Ext) (h : l[k]? = some x) (h1 : (l.take k).all Ext.ok = true) (h2 : x.ok = true) : (l.take (k + 1)).all Ext.ok = true := by
  rw [List.take_add_one, h, List.all_append, h1]
  simp [h2]
theorem all_not (l : List Ext) (k : Nat) (x : Ext) (h : l[k]? = some x) (h2 : x.ok = false) : ¬ l.all Ext.ok = true := by
  intro h3
  rw [List.all_eq_true] at h3
  rw [h3 x (List.mem_of_getElem? h)] at h2
  cases h2

set_option maxRecDepth 100000 in
set_option maxHeartbeats 2000000 in
theorem status_any (c : Nat) (l : List Ext) (v : Value) (hc : c < 4294967296) (hl : l.length ≤ 100000) (w : World) (hv : ExtAt w v l) :
    Calls Try.prog 7 #[.int .u32 (c : Nat), v] w (Gives (.tuple #[.string ⟨(writeStatus c l).1.toArray⟩, .int .i64 (writeStatus c l).2]) w) := by
  obtain ⟨ad, cap, rfl, hv⟩ := hv
  have HV := Lib.hid hv
  clear hv
  obtain ⟨n, hnl⟩ : ∃ n, l.length = n := ⟨_, rfl⟩
  have HN := Lib.hid hnl
  obtain ⟨Z, hZ⟩ : ∃ Z, writeStatus c l = Z := ⟨_, rfl⟩
  rw [hZ]
  rw [hnl] at hl ⊢
  by_cases h0 : n = 0
  · have e : Z = ([], 16) := by rw [← hZ]; unfold writeStatus; rw [if_pos (.inl (List.length_eq_zero_iff.1 (by omega)))]
    rw [e]
    subst h0
    clear e hZ hnl
    go_enter Try.func7, Try.ntmps7
    go_wp2
    go_ret2
    exact ⟨rfl, Below.refl _ _⟩
  by_cases h500 : 500 < n
  · have e : Z = ([], 16) := by rw [← hZ]; unfold writeStatus; rw [if_pos (.inr (by omega))]
    rw [e]
    have k0 : ((n : Int) == 0) = false := by simp; omega
    clear e hZ hnl
    go_enter Try.func7, Try.ntmps7
    go_wp2
    go_ret2
    exact ⟨rfl, Below.refl _ _⟩
  have hne : l ≠ [] := by intro e; rw [e] at hnl; simp at hnl; omega
  have hZ2 : Z = if l.all Ext.ok = true then (statusB c l, 0) else ([], 25) := by rw [← hZ]; unfold writeStatus; rw [if_neg (by intro h; rcases h with h | h; exact hne h; omega)]
  have HZ := Lib.hid hZ2
  obtain ⟨b, o, rfl, hcell⟩ := HV.out.resolve_left hne
  have HC := Lib.hid hcell
  have HB1 := Lib.hid (fun g W => bytes_any [.u32 c] (by simp) (by simp [Item.ok, hc]) (by simp [bytesOf, Item.bytes, be_length]) g W)
  have hr1 : bytesOf [.u32 c] = be 4 c := by simp [bytesOf, Item.bytes]
  rw [hr1] at HB1
  have k0 : ((n : Int) == 0) = false := by simp; omega
  clear hZ hZ2 hnl hne hcell hr1 HV
  go_enter Try.func7, Try.ntmps7
  go_wp2_with fail
  refine (HB1.out _ _ (Blk.new _ _ _)).mono ?_
  rintro e w1 ⟨rfl, hb1⟩
  have b1 := below_next ((Below.refl _ w).alloc (Nat.le_refl _) _) hb1
  clear hb1
  go_wp2
  go_loopw [6, 23] (fun a i wr => ∃ k : Nat, k ≤ n ∧ i = .int .i64 k ∧ a = .string ⟨(be 4 c ++ extsB (l.take k)).toArray⟩ ∧ (l.take k).all Ext.ok = true ∧ Below w.heap.size w wr) (fun _ i _ => n - (intOf i).toNat)
  case atStart => exact ⟨0, Nat.zero_le _, rfl, by simp [extsB], by simp, b1⟩
  case round =>
    obtain ⟨k, hk, rfl, rfl, hall, hbw⟩ := hrel
    clear b1
    by_cases hlt : k < n
    · have k1 : (k : Int) < (n : Int) := by omega
      have k2 : (0 : Int) ≤ (k : Int) := by omega
      obtain ⟨x, hx⟩ : ∃ x, l[k]? = some x := ⟨l[k]'(by rw [HN.out]; exact hlt), List.getElem?_eq_getElem _⟩
      have a0 := cell_keep (HC.out k x hx).1 hbw
      have a1 := cell_keep (HC.out k x hx).2 hbw
      have hsk := extsB_take l k x hx
      have hlen : (be 4 c ++ extsB (l.take k)).length ≤ 10000 := by rw [List.length_append, be_length, extsB_length, List.length_take]; omega
      cases hxo : x.ok with
      | false =>
        have HX := Lib.hid (all_not l k x hx hxo)
        have hbad : x.len < 1 ∨ (1 ≤ x.len ∧ 4294967295 < x.len) ∨ (1 ≤ x.len ∧ x.len ≤ 4294967295 ∧ x.flags < 0) ∨ (1 ≤ x.len ∧ x.len ≤ 4294967295 ∧ 0 ≤ x.flags ∧ 4294967295 < x.flags) := by
          have h3 : ¬ x.ok = true := by rw [hxo]; simp
          rw [Ext.ok_iff] at h3
          omega
        obtain ⟨xl, xf⟩ := x
        dsimp only at a0 a1 hbad
        have s1 := hbw.size
        clear hx hxo hsk hall hk hlt
        generalize be 4 c ++ extsB (l.take k) = acc at hlen ⊢
        rcases hbad with h1 | ⟨h1, h2⟩ | ⟨h1, h2, h3⟩ | ⟨h1, h2, h3, h4⟩
        all_goals
          go_wp2
          go_ret2
          refine ⟨by rw [HZ.out, if_neg HX.out]; rfl, ?_⟩
          (repeat' (first | (with_reducible assumption) | (with_reducible exact Below.refl _ _) | (with_reducible refine below_drewN ?_ _) | (with_reducible refine Below.drew ?_) | (with_reducible refine Below.setCell ?_ ?_ _) | (with_reducible refine Below.alloc ?_ ?_ _) | (with_reducible refine below_putObj ?_ ?_ _) | (with_reducible exact Nat.le_refl _) | omega | (simp; done) | (simp; omega)))
      | true =>
        rw [Ext.ok_iff] at hxo
        have HALL := Lib.hid (all_step l k x hx hall ((Ext.ok_iff x).2 hxo))
        have HS := Lib.hid hsk
        obtain ⟨xl, xf⟩ := x
        dsimp only at a0 a1 hxo
        obtain ⟨h1, h2, h3, h4⟩ := hxo
        have HB := fun g W => bytes_any [.u32 xl.toNat, .u32 xf.toNat] (by simp) (by simp [Item.ok]; omega) (by simp [bytesOf, Item.bytes, be_length]) g W
        have hr : bytesOf [.u32 xl.toNat, .u32 xf.toNat] = extB ⟨xl, xf⟩ := by simp [bytesOf, Item.bytes, extB]
        rw [hr] at HB
        simp only [List.map, Item.val, Int.toNat_of_nonneg h3, Int.toNat_of_nonneg (show 0 ≤ xl by omega)] at HB
        have HBB := Lib.hid HB
        have hel : (extB ⟨xl, xf⟩).length = 8 := by simp [extB, be_length]
        have s1 := hbw.size
        clear hx hsk hall HB hr
        obtain ⟨acc, hacc⟩ : ∃ acc, be 4 c ++ extsB (l.take k) = acc := ⟨_, rfl⟩
        have HACC := Lib.hid hacc
        rw [hacc] at hlen ⊢
        clear hacc
        go_wp2_with fail
        refine (HBB.out _ _ (Blk.newAt (by simp))).mono ?_
        rintro e w2 ⟨rfl, hb2⟩
        have b2 : Below w.heap.size w w2 := by
          refine below_next ?_ hb2
          (repeat' (first | (with_reducible assumption) | (with_reducible exact Below.refl _ _) | (with_reducible refine below_drewN ?_ _) | (with_reducible refine Below.drew ?_) | (with_reducible refine Below.setCell ?_ ?_ _) | (with_reducible refine Below.alloc ?_ ?_ _) | (with_reducible refine below_putObj ?_ ?_ _) | (with_reducible exact Nat.le_refl _) | omega | (simp; done) | (simp; omega)))
        clear hb2 a0 a1
        go_wp2
        go_roundw
        case rel => exact ⟨k + 1, by omega, by go_num, by rw [HS.out, ← List.append_assoc, HACC.out], HALL.out, b2⟩
        case measure => simp [intOf]; omega
    · have k1 : ¬ (k : Int) < (n : Int) := by omega
      have hall2 : l.all Ext.ok = true := by
        rw [List.take_of_length_le (by rw [HN.out]; omega)] at hall
        exact hall
      rw [List.take_of_length_le (by rw [HN.out]; omega)]
      clear hall hlt hk
      go_wp2
      go_ret2
      exact ⟨by rw [HZ.out, if_pos hall2]; rfl, hbw⟩

end Go.Proofs.Ytcmocangmfengaa
