/- Slices of texts, and what is asked of them: slices.Clone, slices.Index, slices.Contains, strings.HasPrefix. -/
import Derived.Test.YteljplpiojdikaaBuilder
namespace Go.Proofs.Yteljplpiojdikaa
open Go.RowKit

/-- v is a slice of n elements whose cells are cs. -/
def SlAt (w : World) (v : Value) (n : Nat) (cs : List Value) : Prop :=
  (v = .slice none 0 0 ∧ n = 0 ∧ cs = []) ∨ ∃ a cap, v = .slice (some a) n cap ∧ (cs = [] ∨ a.spot = none) ∧ ∀ j u, cs[j]? = some u → w.cell? (a.add j) = some u
def cellsS (l : List (List UInt8)) : List Value := l.map fun x => .string ⟨x.toArray⟩
theorem cellsS_length (l : List (List UInt8)) : (cellsS l).length = l.length * 1 := by simp [cellsS]
theorem cellsS_one (l : List (List UInt8)) : ∀ u ∈ cellsS l, u.oneCell' = true := by
  intro u hu
  obtain ⟨x, _, rfl⟩ := List.mem_map.1 hu
  rfl
theorem cellsS_at (l : List (List UInt8)) (k : Nat) (x : List UInt8) (h : l[k]? = some x) : (cellsS l)[k]? = some (.string ⟨x.toArray⟩) := by simp [cellsS, h]
def cellsM (l : List (Nat × List UInt8)) : List Value := l.flatMap fun x => [.int .u32 x.1, .string ⟨x.2.toArray⟩]
theorem cellsM_length (l : List (Nat × List UInt8)) : (cellsM l).length = l.length * 2 := by
  unfold cellsM
  induction l with
  | nil => rfl
  | cons a l ih => rw [List.flatMap_cons, List.length_append, ih, List.length_cons]; simp; omega
theorem cellsM_one (l : List (Nat × List UInt8)) : ∀ u ∈ cellsM l, u.oneCell' = true := by
  intro u hu
  obtain ⟨x, _, hx⟩ := List.mem_flatMap.1 hu
  simp at hx
  rcases hx with rfl | rfl <;> rfl
theorem cellsM_at (l : List (Nat × List UInt8)) (k : Nat) (x : Nat × List UInt8) (h : l[k]? = some x) : (cellsM l)[k * 2]? = some (.int .u32 x.1) ∧ (cellsM l)[k * 2 + 1]? = some (.string ⟨x.2.toArray⟩) := by
  induction l generalizing k with
  | nil => simp at h
  | cons a l ih =>
    cases k with
    | zero => simp at h; subst h; simp [cellsM]
    | succ k =>
      have h2 : l[k]? = some x := by simpa using h
      have := ih k h2
      unfold cellsM at this ⊢
      rw [List.flatMap_cons, show (k + 1) * 2 = k * 2 + 2 by omega, show k * 2 + 2 + 1 = (k * 2 + 1) + 2 by omega, List.getElem?_append_right (by simp), List.getElem?_append_right (by simp)]
      simpa using this

theorem cell_keepS {w w' : World} {p : Addr} {v : Value} (h : w.cell? p = some v) (hb : Below w.heap.size w w') : w'.cell? p = some v := (hb.cell (World.block_lt_of_cell? w p h)).trans h
theorem SlAt.below {w w' : World} {v : Value} {n : Nat} {cs : List Value} (h : SlAt w v n cs) (hb : Below w.heap.size w w') : SlAt w' v n cs := by
  rcases h with h | ⟨a, cap, rfl, hs, hc⟩
  · exact .inl h
  · exact .inr ⟨a, cap, rfl, hs, fun j u hu => cell_keepS (hc j u hu) hb⟩
theorem SlAt.of_row {w : World} {v : Value} {n B sz : Nat} {e : TypeId} {cs : List Value} (h : w.ownsRow B e sz v n cs) : SlAt w v n cs := by
  rcases h.2 with ⟨hv, h0⟩ | ⟨g, cap, cur, hv, _⟩
  · have hl := h.1
    rw [h0, Nat.zero_mul, List.length_eq_zero_iff] at hl
    exact .inl ⟨hv, h0, hl⟩
  · refine .inr ⟨⟨g, 0, none⟩, cap, hv, .inr rfl, fun j u hu => h.cells (by rw [hv]; rfl) j u hu⟩
theorem SlAt.form {w : World} {v : Value} {n : Nat} {cs : List Value} (h : SlAt w v n cs) : ∃ ad cap, v = .slice ad n cap := by
  rcases h with ⟨rfl, rfl, _⟩ | ⟨a, cap, rfl, _⟩
  · exact ⟨none, 0, rfl⟩
  · exact ⟨some a, cap, rfl⟩
/-- The address of what is not empty. -/
theorem SlAt.addr {w : World} {ad : Option Addr} {cap n k : Nat} {cs : List Value} {u : Value} (h : SlAt w (.slice ad n cap) n cs) (hk : cs[k]? = some u) :
    ∃ b o, ad = some ⟨b, o, none⟩ ∧ ∀ j u, cs[j]? = some u → w.cell? ⟨b, o + j, none⟩ = some u := by
  rcases h with ⟨_, _, rfl⟩ | ⟨⟨b, o, sp⟩, cap', hv, hs, hc⟩
  · simp at hk
  · simp only [Value.slice.injEq] at hv
    obtain ⟨rfl, _, _⟩ := hv
    rcases hs with rfl | hs
    · simp at hk
    · dsimp only at hs
      subst hs
      refine ⟨b, o, rfl, fun j u hu => ?_⟩
      have := hc j u hu
      rwa [Addr.add_lit] at this

theorem Try.infoStr : (Try.prog.info? 9).map (fun i => (i.zero, i.size, i.bytes)) = some (some (.string ⟨#[]⟩), 1, 16) := by kernel_rfl

theorem mk_inj {x y : List UInt8} : ((⟨x.toArray⟩ : ByteArray) = ⟨y.toArray⟩) ↔ x = y := by
  constructor
  · intro h
    injection h with h
    simpa using congrArg Array.toList h
  · rintro rfl; rfl

set_option maxRecDepth 100000 in
set_option maxHeartbeats 1000000 in
theorem index_strs (v : Value) (l : List (List UInt8)) (x : List UInt8) (w : World) (h : SlAt w v l.length (cellsS l)) (hl : l.length ≤ 1000000) :
    Calls Try.prog 82 #[v, .string ⟨x.toArray⟩] w fun e w' => ∃ r : Int, e = .returned (.int .i64 r) ∧ (0 ≤ r ↔ x ∈ l) ∧ Below w.heap.size w w' := by
  obtain ⟨ad, cap, rfl⟩ := h.form
  have H := Lib.hid h
  clear h
  have HL := Lib.hid (show ∀ k, k < l.length → ∃ q, l[k]? = some q from fun k hk => ⟨_, List.getElem?_eq_getElem hk⟩)
  obtain ⟨n, hnl⟩ : ∃ n, l.length = n := ⟨_, rfl⟩
  have HN := Lib.hid hnl
  rw [hnl] at hl ⊢
  clear hnl
  have HM : Hid (∀ r : Prop, r ↔ r) := Lib.hid (fun _ => Iff.rfl)
  obtain ⟨M, hM⟩ : ∃ M : Prop, M = (x ∈ l) := ⟨_, rfl⟩
  rw [← hM]
  have HMM := Lib.hid hM
  clear hM HM
  go_enter Try.func82, Try.ntmps82
  go_wp2
  go_loopw [8] (fun i wr => ∃ k : Nat, k ≤ n ∧ i = .int .i64 k ∧ Hid (∀ j, j < k → l[j]? ≠ some x) ∧ Below w.heap.size w wr) (fun i _ => n - (intOf i).toNat)
  case atStart => exact ⟨0, Nat.zero_le _, rfl, Lib.hid (fun j hj => by omega), Below.refl _ _⟩
  case round =>
    obtain ⟨k, hk, rfl, hno, hbw⟩ := hrel
    by_cases hlt : k < n
    · have k1 : (k : Int) < (n : Int) := by omega
      have k0 : (0 : Int) ≤ (k : Int) := by omega
      obtain ⟨q, hq⟩ := HL.out k (by rw [HN.out]; exact hlt)
      obtain ⟨b, o, rfl, A⟩ := (HN.out ▸ H.out).addr (cellsS_at l k q hq)
      have a0 := cell_keepS (A k _ (cellsS_at l k q hq)) hbw
      have HQ := Lib.hid hq
      clear A hq
      by_cases hxq : x = q
      · have e1 : (x == q) = true := by rw [hxq]; simp
        have HX := Lib.hid hxq
        clear hxq
        go_wp2
        all_goals first
          | (go_ret; exact ⟨k, rfl, ⟨fun _ => HMM.out ▸ (HX.out ▸ List.mem_of_getElem? HQ.out), fun _ => by omega⟩, hbw⟩)
          | skip
      · have e1 : (x == q) = false := by simpa using hxq
        have HX := Lib.hid hxq
        clear hxq
        go_wp2
        go_roundw
        case rel =>
          refine ⟨k + 1, by omega, by go_num, Lib.hid ?_, hbw⟩
          intro j hj e
          by_cases hjk : j < k
          · exact hno.out j hjk e
          · obtain rfl : j = k := by omega
            rw [HQ.out] at e
            exact HX.out (by injection e with e; exact e.symm)
        case measure => simp [intOf]; omega
    · have k1 : ¬ (k : Int) < (n : Int) := by omega
      obtain rfl : k = n := by omega
      go_wp2
      go_ret
      refine ⟨-1, rfl, ⟨fun h => by omega, fun h => ?_⟩, hbw⟩
      rw [HMM.out] at h
      obtain ⟨j, hj, e⟩ := List.getElem_of_mem h
      exact absurd (by rw [List.getElem?_eq_getElem hj, e]) (hno.out j (by rw [← HN.out]; exact hj))

set_option maxRecDepth 100000 in
set_option maxHeartbeats 1000000 in
theorem contains_strs (v : Value) (l : List (List UInt8)) (x : List UInt8) (w : World) (h : SlAt w v l.length (cellsS l)) (hl : l.length ≤ 1000000) :
    Calls Try.prog 74 #[v, .string ⟨x.toArray⟩] w fun e w' => ∃ r : Bool, e = .returned (.bool r) ∧ (r = true ↔ x ∈ l) ∧ Below w.heap.size w w' := by
  have H := Lib.hid (index_strs v l x w h hl)
  clear h
  obtain ⟨M, hM⟩ : ∃ M : Prop, M = (x ∈ l) := ⟨_, rfl⟩
  rw [← hM] at H ⊢
  clear hM
  go_enter Try.func74, Try.ntmps74
  go_wp2_with fail
  refine H.out.mono ?_
  rintro e w1 ⟨r, rfl, hr, hb⟩
  have HR := Lib.hid hr
  clear hr
  go_wp2
  go_ret
  exact ⟨_, rfl, by rw [decide_eq_true_iff]; exact HR.out, hb⟩

set_option maxRecDepth 100000 in
set_option maxHeartbeats 1000000 in
theorem prefix_in (x y : List UInt8) (w : World) (hx : x.length ≤ 9223372036854775807) (hy : y.length ≤ x.length) :
    Calls Try.prog 80 #[.string ⟨x.toArray⟩, .string ⟨y.toArray⟩] w (Gives (.bool (decide (x.take y.length = y))) w) := by
  have HD := Lib.hid (show decide ((⟨(x.take y.length).toArray⟩ : ByteArray) = ⟨y.toArray⟩) = decide (x.take y.length = y) from decide_eq_decide.2 mk_inj)
  generalize decide (x.take y.length = y) = r at HD ⊢
  have h1 : (y.length : Int) ≤ (x.length : Int) := by omega
  have h2 : (0 : Int) ≤ (y.length : Int) := by omega
  go_enter Try.func80, Try.ntmps80
  go_wp2
  go_ret
  exact ⟨by rw [← HD.out]; first | rfl | (simp; done) | (simp; rw [Bool.eq_iff_iff, decide_eq_true_iff, beq_iff_eq]), Below.refl _ _⟩

set_option maxRecDepth 100000 in
set_option maxHeartbeats 1000000 in
theorem prefix_any (x y : List UInt8) (w : World) (hx : x.length ≤ 9223372036854775807) (hy : y.length ≤ x.length) :
    Calls Try.prog 71 #[.string ⟨x.toArray⟩, .string ⟨y.toArray⟩] w (Gives (.bool (decide (x.take y.length = y))) w) := by
  have H := Lib.hid (fun W => prefix_in x y W hx hy)
  generalize decide (x.take y.length = y) = r at H ⊢
  go_enter Try.func71, Try.ntmps71
  go_wp2_with fail
  refine (H.out _).mono ?_
  rintro e w1 ⟨rfl, hb1⟩
  go_wp2
  go_ret
  exact ⟨rfl, hb1⟩

end Go.Proofs.Yteljplpiojdikaa
