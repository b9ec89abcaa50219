/- The document's Row: two rows of requests, the same one by one. -/
import Derived.Test.YtneibnoocfcndaaReqAllWalk
namespace Go.Proofs.Ytneibnoocfcndaa
open Go.RowKit

theorem cell_keep {w w' : World} {a : Addr} {v : Value} (h : w.cell? a = some v) (hb : Below w.heap.size w w') : w'.cell? a = some v := by
  have hl := World.block_lt_of_cell? w a h
  unfold World.cell? at h ⊢
  rw [hb.block _ hl]
  exact h

/-- v is a slice that holds the requests l. -/
def RowAt (w : World) (v : Value) (l : List Req) : Prop :=
  (l = [] ∧ ∃ ad cap, v = .slice ad 0 cap) ∨ ∃ g o cap, v = .slice (some ⟨g, o, none⟩) l.length cap ∧ ∀ (j : Nat) (q : Req), l[j]? = some q → ∀ i : Nat, i < 6 → w.cell? ⟨g, o + j * 6 + i, none⟩ = (reqCells1 q)[i]?

theorem RowAt.below {w w' : World} {v : Value} {l : List Req} (h : RowAt w v l) (hb : Below w.heap.size w w') : RowAt w' v l := by
  rcases h with h | ⟨g, o, cap, rfl, hc⟩
  · exact .inl h
  · refine .inr ⟨g, o, cap, rfl, fun j q hq i hi => ?_⟩
    have h1 := hc j q hq i hi
    obtain ⟨u, hu⟩ : ∃ u, (reqCells1 q)[i]? = some u := ⟨(reqCells1 q)[i]'(by simp [reqCells1]; omega), List.getElem?_eq_getElem _⟩
    rw [hu] at h1 ⊢
    have hl := World.block_lt_of_cell? w _ h1
    unfold World.cell? at h1 ⊢
    rw [hb.block _ hl]
    exact h1

set_option maxRecDepth 100000 in
set_option maxHeartbeats 1000000 in
theorem row_same (l : List Req) (va vb : Value) (hl : l.length ≤ 1000000) (w : World) (ha : RowAt w va l) (hb : RowAt w vb l) :
    Calls Try.prog 12 #[va, vb] w (Gives (.bool true) w) := by
  have mixed : Try.prog.follows .mixedOrders = true := by kernel_rfl
  by_cases hn : l = []
  · subst hn
    have e1 : ∃ ad cap, va = .slice ad 0 cap := by
      rcases ha with ⟨_, h⟩ | ⟨g, o, cap, h, _⟩
      · exact h
      · exact ⟨_, _, h⟩
    have e2 : ∃ ad cap, vb = .slice ad 0 cap := by
      rcases hb with ⟨_, h⟩ | ⟨g, o, cap, h, _⟩
      · exact h
      · exact ⟨_, _, h⟩
    obtain ⟨a1, c1, rfl⟩ := e1
    obtain ⟨a2, c2, rfl⟩ := e2
    clear ha hb
    go_enter Try.func12, Try.ntmps12
    go_wp2
    go_loopw [5] (fun i wr => i = .int .i64 0 ∧ wr = w) (fun _ _ => 0)
    case atStart => exact ⟨rfl, rfl⟩
    case round =>
      obtain ⟨rfl, rfl⟩ := hrel
      go_wp2
      go_ret
      exact ⟨rfl, Below.refl _ _⟩
  · rcases ha with ⟨h, _⟩ | ⟨g, o, cap, rfl, hca⟩
    · exact absurd h hn
    rcases hb with ⟨h, _⟩ | ⟨g2, o2, cap2, rfl, hcb⟩
    · exact absurd h hn
    have HCA := Lib.hid hca
    have HCB := Lib.hid hcb
    clear hca hcb
    obtain ⟨n, hnl⟩ : ∃ n, n = l.length := ⟨_, rfl⟩
    have HN := Lib.hid hnl
    rw [← hnl] at hl ⊢
    clear hnl
    go_enter Try.func12, Try.ntmps12
    go_wp2
    go_loopw [5] (fun i wr => ∃ k : Nat, k ≤ n ∧ i = .int .i64 k ∧ Below w.heap.size w wr) (fun i _ => n - (intOf i).toNat)
    case atStart => exact ⟨0, Nat.zero_le _, rfl, Below.refl _ _⟩
    case round =>
      obtain ⟨k, hk, rfl, hbw⟩ := hrel
      by_cases hlt : k < n
      · have k1 : (k : Int) < (n : Int) := by omega
        have k0 : (0 : Int) ≤ (k : Int) := by omega
        obtain ⟨q, hq⟩ : ∃ q, l[k]? = some q := ⟨l[k]'(by rw [← HN.out]; exact hlt), List.getElem?_eq_getElem _⟩
        have A := fun i hi => HCA.out k q hq i hi
        have B := fun i hi => HCB.out k q hq i hi
        obtain ⟨fl, kd, ck, fr, ln, d⟩ := q
        have a0 := A 0 (by omega)
        have a1 := A 1 (by omega)
        have a2 := A 2 (by omega)
        have a3 := A 3 (by omega)
        have a4 := A 4 (by omega)
        have a5 := A 5 (by omega)
        have b0 := B 0 (by omega)
        have b1 := B 1 (by omega)
        have b2 := B 2 (by omega)
        have b3 := B 3 (by omega)
        have b4 := B 4 (by omega)
        have b5 := B 5 (by omega)
        clear A B
        simp only [reqCells1, List.getElem?_cons_zero, List.getElem?_cons_succ, Nat.add_zero] at a0 a1 a2 a3 a4 a5 b0 b1 b2 b3 b4 b5
        replace a0 := cell_keep a0 hbw
        replace a1 := cell_keep a1 hbw
        replace a2 := cell_keep a2 hbw
        replace a3 := cell_keep a3 hbw
        replace a4 := cell_keep a4 hbw
        replace a5 := cell_keep a5 hbw
        replace b0 := cell_keep b0 hbw
        replace b1 := cell_keep b1 hbw
        replace b2 := cell_keep b2 hbw
        replace b3 := cell_keep b3 hbw
        replace b4 := cell_keep b4 hbw
        replace b5 := cell_keep b5 hbw
        clear hlt hk hq
        go_wp2
        go_quiet (fail)
        go_wp2
        go_roundw
        case rel => exact ⟨k + 1, by omega, by go_num, below_drewN hbw _⟩
        case measure => simp [intOf]; omega
      · have k1 : ¬ (k : Int) < (n : Int) := by omega
        go_wp2
        go_ret
        exact ⟨rfl, hbw⟩

theorem reqCells_at (l : List Req) : ∀ (j : Nat) (q : Req) (i : Nat), l[j]? = some q → i < 6 → (reqCells l)[j * 6 + i]? = (reqCells1 q)[i]? := by
  induction l with
  | nil => intro j q i h; simp at h
  | cons a l ih =>
    intro j q i h hi
    have e : reqCells (a :: l) = reqCells1 a ++ reqCells l := by simp [reqCells]
    have hl : (reqCells1 a).length = 6 := rfl
    rw [e]
    cases j with
    | zero =>
      simp only [List.getElem?_cons_zero, Option.some.injEq] at h
      subst h
      rw [List.getElem?_append_left (by omega), Nat.zero_mul, Nat.zero_add]
    | succ j =>
      rw [List.getElem?_cons_succ] at h
      rw [List.getElem?_append_right (by omega), hl, show (j + 1) * 6 + i - 6 = j * 6 + i by omega]
      exact ih j q i h hi

/-- A row of the call's own, and its parts. -/
theorem own_part {w : World} {B g cap n o : Nat} {l l1 l2 l3 : List Req} (h : w.ownsRow B 25 6 (.slice (some ⟨g, 0, none⟩) n cap) n (reqCells l)) (hn : n = l.length) (he : l = l1 ++ (l2 ++ l3)) (ho : o = l1.length * 6) (c : Nat) :
    RowAt w (.slice (some ⟨g, o, none⟩) l2.length c) l2 := by
  refine .inr ⟨g, o, c, rfl, fun j q hq i hi => ?_⟩
  have hj : j < l2.length := (List.getElem?_eq_some_iff.1 hq).1
  have hlen : l.length = l1.length + (l2.length + l3.length) := by rw [he]; simp
  have h1 := h.cellAt ((l1.length + j) * 6 + i) (by omega)
  rw [show o + j * 6 + i = (l1.length + j) * 6 + i by omega, h1]
  refine reqCells_at l (l1.length + j) q i ?_ hi
  rw [he, List.getElem?_append_right (by omega), show l1.length + j - l1.length = j by omega, List.getElem?_append_left hj]
  exact hq

theorem own_row {w : World} {B : Nat} {v : Value} {l : List Req} (h : w.ownsRow B 25 6 v l.length (reqCells l)) : RowAt w v l := by
  rcases h.2 with ⟨rfl, hx⟩ | ⟨g, cap, cur, rfl, hb, hg, hnc, hcm, hcs, htake⟩
  · exact .inl ⟨List.length_eq_zero_iff.1 hx, none, 0, rfl⟩
  · exact own_part (l1 := []) (l3 := []) h rfl (by simp) (by simp) cap

/-- The value of a row. -/
theorem own_value {w : World} {B : Nat} {v : Value} {n : Nat} {xs : List Value} (h : w.ownsRow B 25 6 v n xs) : (v = .slice none 0 0 ∧ n = 0) ∨ ∃ g cap, v = .slice (some ⟨g, 0, none⟩) n cap ∧ n ≤ cap := by
  rcases h.2 with h | ⟨g, cap, cur, rfl, hb, hg, hnc, hcm, hcs, htake⟩
  · exact .inl h
  · exact .inr ⟨g, cap, rfl, hnc⟩

end Go.Proofs.Ytneibnoocfcndaa
