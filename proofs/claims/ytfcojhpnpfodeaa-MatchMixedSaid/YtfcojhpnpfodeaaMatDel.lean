/- slices.Delete of one that waits. -/
import Derived.Test.YtfcojhpnpfodeaaMatAsks
import Derived.Deep.RegionLaw
import Derived.Deep.Upon
namespace Go.Proofs.Ytfcojhpnpfodeaa
open Go.RowKit

theorem own_sets {B : Nat} {e : TypeId} {size g n cap : Nat} : ∀ (vs xs : List Value) (o : Nat) (w : World), w.ownsRow B e size (.slice (some ⟨g, 0, none⟩) n cap) n xs → o + vs.length ≤ n * size →
    (w.setCells g o vs).ownsRow B e size (.slice (some ⟨g, 0, none⟩) n cap) n (xs.take o ++ vs ++ xs.drop (o + vs.length)) ∧ w.grownBy (w.setCells g o vs) (some g) := by
  intro vs
  induction vs with
  | nil =>
    intro xs o w h _
    have e : xs.take o ++ [] ++ xs.drop (o + ([] : List Value).length) = xs := by simp
    rw [e]
    exact ⟨h, ⟨rfl, rfl, rfl, Nat.le_refl _, fun _ _ _ => rfl⟩⟩
  | cons v r ih =>
    intro xs o w h ho
    simp only [List.length_cons] at ho
    obtain ⟨h1, h2⟩ := h.stored o v
    obtain ⟨h3, h4⟩ := ih (xs.set o v) (o + 1) _ h1 (by omega)
    have hl : o < xs.length := by rw [h.1]; omega
    have e1 : (xs.set o v).take (o + 1) = xs.take o ++ [v] := by
      rw [List.take_add_one, List.take_set_of_le (Nat.le_refl _)]
      simp [hl]
    have e2 : (xs.set o v).drop (o + 1 + r.length) = xs.drop (o + 1 + r.length) := List.drop_set_of_lt (by omega)
    rw [e1, e2] at h3
    refine ⟨?_, ⟨h4.os.trans h2.os, h4.tape.trans h2.tape, h4.output.trans h2.output, Nat.le_trans h2.size h4.size, fun k hk hne => (h4.block k (Nat.lt_of_lt_of_le hk h2.size) hne).trans (h2.block k hk hne)⟩⟩
    have e3 : xs.take o ++ (v :: r) ++ xs.drop (o + (v :: r).length) = xs.take o ++ [v] ++ r ++ xs.drop (o + 1 + r.length) := by
      rw [List.length_cons, show o + (r.length + 1) = o + 1 + r.length by omega]
      simp
    rw [e3]
    exact h3
theorem own_cut {B : Nat} {e : TypeId} {size g n m cap : Nat} {xs : List Value} {w : World} (h : w.ownsRow B e size (.slice (some ⟨g, 0, none⟩) n cap) n xs) (hm : m ≤ n) : w.ownsRow B e size (.slice (some ⟨g, 0, none⟩) m cap) m (xs.take (m * size)) := by
  have hms : m * size ≤ n * size := Nat.mul_le_mul_right _ hm
  refine ⟨by rw [List.length_take, h.1]; omega, ?_⟩
  rcases h.2 with ⟨hv, _⟩ | ⟨g', cap', cur, hv, hb, hg, hc, hcm, hs, ht⟩
  · simp at hv
  · simp only [Value.slice.injEq, Option.some.injEq, Addr.mk.injEq, and_true, true_and] at hv
    obtain ⟨rfl, rfl⟩ := hv
    refine .inr ⟨g, cap, cur, rfl, hb, hg, by omega, hcm, hs, ?_⟩
    rw [← ht, List.take_take, Nat.min_eq_left hms]
theorem own_cap {B : Nat} {e : TypeId} {size g n cap : Nat} {xs : List Value} {w : World} (h : w.ownsRow B e size (.slice (some ⟨g, 0, none⟩) n cap) n xs) : n ≤ cap ∧ cap ≤ 9223372036854775807 ∧ B ≤ g ∧ g < w.heap.size := by
  rcases h.2 with ⟨hv, _⟩ | ⟨g', cap', cur, hv, hb, hg, hc, hcm, hs, ht⟩
  · simp at hv
  · simp only [Value.slice.injEq, Option.some.injEq, Addr.mk.injEq, and_true, true_and] at hv
    obtain ⟨rfl, rfl⟩ := hv
    exact ⟨hc, hcm, hb, (Array.getElem?_eq_some_iff.1 hg).1⟩
def zeroW : List Value := [.int .i64 0, .int .i64 0, .int .u64 0, .int .u64 0, .int .u32 0, .string ⟨#[]⟩, .string ⟨#[]⟩, .string ⟨#[]⟩, .slice none 0 0, .int .u32 0]
theorem clear_one (w : World) (ty : TypeId) (b o c : Nat) (hc : ∀ j, j < 10 → (w.cell? ⟨b, o + j, none⟩).isSome = true) (hf : ∀ j, j < 10 → w.frozen? ⟨b, o + j, none⟩ = false) :
    (Builtin.clear_ #[26] ty #[.slice (some ⟨b, o, none⟩) 1 c]).run Try.prog w = .ok (.tuple #[]) (w.setCells b o zeroW) := by
  obtain ⟨i0, hi, hz0, hz1, hz2⟩ := info_parts Try.infoWait
  have hzc : (Builtin.zeroCells (Value.agg zeroW.toArray).cells 1).toList = zeroW := by
    simp [Builtin.zeroCells, Value.cells, zeroW]
    rfl
  have hst := run_storeCells_cells (P := Try.prog) b o zeroW 0 w (by simpa [zeroW] using hc) (by simpa [zeroW] using hf) (by intro v hv; simp only [zeroW, List.mem_cons, List.not_mem_nil, or_false] at hv; rcases hv with rfl | rfl | rfl | rfl | rfl | rfl | rfl | rfl | rfl | rfl <;> rfl)
  simp only [Nat.add_zero] at hst
  have hv : ∀ w, (zeroValue 42).run Try.prog w = .ok (Value.agg zeroW.toArray) w := fun w => by
    simp only [zeroValue, typeInfo]
    simp [hi, hz0]
    rfl
  simp [Builtin.clear_, run_underlying Try.underlying26, hv, hzc, hst]

set_option maxRecDepth 100000 in
set_option maxHeartbeats 2000000 in
theorem delete_any (B g cap n k : Nat) (xs : List Value) (w : World) (h : w.ownsRow B 42 10 (.slice (some ⟨g, 0, none⟩) n cap) n xs) (hk : k < n) (hn : n ≤ 8) (hone : ∀ u ∈ xs, u.oneCell' = true) :
    Calls Try.prog 52 #[.slice (some ⟨g, 0, none⟩) n cap,   .int .i64 (k : Nat), .int .i64 ((k : Int) + 1)] w fun e w' => e = .returned (.slice (some ⟨g, 0, none⟩) (n - 1) cap) ∧ w'.ownsRow B 42 10 (.slice (some ⟨g, 0, none⟩) (n - 1) cap) (n - 1) (xs.take (k * 10) ++ xs.drop (k * 10 + 10)) ∧ w.grownBy w' (some g) := by
  have mixed : Try.prog.follows .mixedOrders = true := by kernel_rfl
  obtain ⟨i0, hi, hz0, hz1, hz2⟩ := info_parts Try.infoWait
  obtain ⟨hcap, hcm, hBg, hglt⟩ := own_cap h
  have hxl : xs.length = n * 10 := h.1
  obtain ⟨news, hnews⟩ : ∃ news, news = xs.drop (k * 10 + 10) := ⟨_, rfl⟩
  have hlen : news.length = (n - (k + 1)) * 10 := by rw [hnews, List.length_drop, hxl]; omega
  have hcell := fun j hj => h.cellAt j hj
  have hfz := fun j => h.frozenAt j
  obtain ⟨A, hA, hsrc⟩ : ∃ A : Addr, (if cap = k + 1 then some (⟨g, 0, none⟩ : Addr) else some ⟨g, (k + 1) * 10, none⟩) = some A ∧ Hid (∀ t u, news[t]? = some u → w.drew.cell? (A.add t) = some u) := by
    by_cases hc : cap = k + 1
    · refine ⟨⟨g, 0, none⟩, by simp [hc], Lib.hid fun t u hu => ?_⟩
      have h0 : news.length = 0 := by rw [hlen]; omega
      rw [List.length_eq_zero_iff.1 h0] at hu
      simp at hu
    · refine ⟨⟨g, (k + 1) * 10, none⟩, by simp [hc], Lib.hid fun t u hu => ?_⟩
      have ht : t < news.length := (List.getElem?_eq_some_iff.1 hu).1
      rw [Addr.add_lit]
      show w.cell? _ = _
      rw [hcell _ (by omega), ← hu, hnews, List.getElem?_drop]
      congr 1
      omega
  have s1 := Lib.hid hlen
  have s2 : Hid (∀ u ∈ news, u.oneCell' = true) := Lib.hid fun u hu => hone u (by rw [hnews] at hu; exact List.mem_of_mem_drop hu)
  have s3 : Hid (∀ t, t < news.length → (w.drew.cell? ⟨g, 0 + k * 10 + t, none⟩).isSome = true ∧ w.drew.frozen? ⟨g, 0 + k * 10 + t, none⟩ = false) := Lib.hid fun t ht => by
    refine ⟨?_, hfz _⟩
    show (w.cell? _).isSome = true
    rw [hcell _ (by omega), List.getElem?_eq_getElem (by omega)]
    rfl
  obtain ⟨W1, hW1⟩ : ∃ W1, W1 = w.drew.setCells g (0 + k * 10) news := ⟨_, rfl⟩
  obtain ⟨o1, g1⟩ := own_sets news xs (0 + k * 10) w.drew h.drew (by omega)
  rw [← hW1, Nat.zero_add] at o1
  rw [← hW1] at g1
  obtain ⟨xs1, hxs1⟩ : ∃ xs1, xs1 = xs.take (k * 10) ++ news ++ xs.drop (k * 10 + news.length) := ⟨_, rfl⟩
  rw [← hxs1] at o1
  have hx1l : xs1.length = n * 10 := o1.1
  have hcl : ∀ ty, (Builtin.clear_ #[26] ty #[.slice (some ⟨g, (n - 1) * 10, none⟩) 1 (cap - (n - 1))]).run Try.prog W1 = .ok (.tuple #[]) (W1.setCells g ((n - 1) * 10) zeroW) := fun ty =>
    clear_one W1 ty g ((n - 1) * 10) _ (fun j hj => by rw [o1.cellAt _ (by omega), List.getElem?_eq_getElem (by omega)]; rfl) (fun j _ => o1.frozenAt _)
  obtain ⟨o2, g2⟩ := own_sets zeroW xs1 ((n - 1) * 10) W1 o1 (by simp [zeroW]; omega)
  have o3 := own_cut o2 (m := n - 1) (by omega)
  have e3 : (xs1.take ((n - 1) * 10) ++ zeroW ++ xs1.drop ((n - 1) * 10 + zeroW.length)).take ((n - 1) * 10) = xs.take (k * 10) ++ xs.drop (k * 10 + 10) := by
    rw [List.append_assoc, List.take_append_of_le_length (by rw [List.length_take]; omega), List.take_take, Nat.min_self, hxs1, List.take_append_of_le_length (by rw [List.length_append, List.length_take]; omega), hnews, List.take_of_length_le (by rw [List.length_append, List.length_take, List.length_drop]; omega)]
  rw [e3] at o3
  have HO := Lib.hid o3
  have HG : Hid (w.grownBy (W1.setCells g ((n - 1) * 10) zeroW) (some g)) := Lib.hid ⟨g2.os.trans g1.os, g2.tape.trans g1.tape, g2.output.trans g1.output, Nat.le_trans g1.size g2.size, fun j hj hne => (g2.block j (Nat.lt_of_lt_of_le hj g1.size) hne).trans (g1.block j hj hne)⟩
  have hW : Hid (W1 = w.drew.setCells g (0 + k * 10) news) := Lib.hid hW1
  have k1 : (0 : Int) ≤ (k : Int) := by omega
  have k2 : (k : Int) ≤ (n : Int) := by omega
  have k3 : (k : Int) + 1 ≤ (n : Int) := by omega
  have k4 : (k : Int) ≤ (k : Int) + 1 := by omega
  have k5 : (n : Int) ≤ (cap : Int) := by omega
  have k6 : k ≤ cap := by omega
  have k7 : k + 1 ≤ cap := by omega
  have k8 : n - 1 + 1 = n := by omega
  have k9 : k + (n - (k + 1)) = n - 1 := by omega
  have k10 : n - (n - 1) = 1 := by omega
  have k12 : ((n - 1 : Nat) : Int) ≤ (n : Int) := by omega
  have k13 : (0 : Int) ≤ ((n - 1 : Nat) : Int) := by omega
  have k14 : ¬ cap = n - 1 := by omega
  have k11 : (0 : Int) ≤ (k : Int) + 1 := by omega
  clear hW1 o1 g1 hxs1 hx1l o2 g2 o3 e3 hcell hfz hlen hnews h hxl
  go_enter Try.func52, Try.ntmps52
  go_wp2_with fail
  go_region_law (refine step_append_room rfl (.tmp 22) (.tmp 25) 26 rfl 42 i0 10 Try.underlying26 hi hz1 g 0 k cap (by simp [Act.eval, Act.put]) A (n - (k + 1)) (cap - (k + 1)) news (by simp [Act.eval, Act.put]) s1.out hsrc.out s2.out (by omega) s3.out ?_; rw [← hW.out])
  go_wp2_with fail
  go_ret
  exact ⟨rfl, HO.out, HG.out⟩
end Go.Proofs.Ytfcojhpnpfodeaa
