/- The document's Simple. -/
import Derived.Test.YtcmocangmfengaaRepSimple
namespace Go.Proofs.Ytcmocangmfengaa
open Go.RowKit
attribute [local go_sem ↓] Go.wp_at_zero Go.wp_at_succ

theorem wrap64u {k : Nat} (h : k < 18446744073709551616) : IntKind.u64.wrap (k : Int) = (k : Int) := by rw [IntKind.wrap_u64]; omega

set_option maxRecDepth 100000 in
set_option maxHeartbeats 2000000 in
theorem rsimple_ok (e c : Nat) (d : List UInt8) (he : e < 4294967296) (hc : c < 18446744073709551616) (hd : d.length ≤ 4096) (hde : (d.isEmpty = false ∧ ((e : Int) != 0) = false) ∨ (d.isEmpty = true ∧ ((e : Int) != 0) = false) ∨ (d.isEmpty = true ∧ ((e : Int) != 0) = true)) (w : World) :
    Calls Try.prog 19 #[.agg #[.int .u32 (e : Nat), .int .u64 (c : Nat), .string ⟨d.toArray⟩]] w (Gives (.tuple #[.string ⟨(repBytes ⟨e, c, d⟩).toArray⟩, .int .i64 0]) w) := by
  have HO := Lib.hid (fun W => rput_any e 4 (by omega) (by decide) (by decide) W)
  have hwr : IntKind.u64.wrap (e : Int) = (e : Int) := wrap64u (by omega)
  have HK := Lib.hid (fun W => rput_any c 8 hc (by decide) (by decide) W)
  have mixed : Try.prog.follows .mixedOrders = true := by kernel_rfl
  have HF := Lib.hid (show oneHead ++ be 4 e ++ be 8 c ++ d = repBytes ⟨e, c, d⟩ by simp [repBytes])
  have hl0 : (be 4 e).length = 4 := be_length _ _
  have hl1 : (be 8 c).length = 8 := be_length _ _
  have hsz : ¬ (9223372036854775807 < 16 + d.length) := by omega
  have x0 := Blk.new w 41 #[.int .u32 (e : Nat), .int .u64 (c : Nat), .string ⟨d.toArray⟩]
  have c0 := x0.cell 0
  have c1 := x0.cell 1
  have c2 := x0.cell 2
  simp only [List.getElem?_toArray, List.getElem?_cons_zero, List.getElem?_cons_succ] at c0 c1 c2
  have hlt := x0.lt
  have hB := (Below.refl w.heap.size w).alloc (Nat.le_refl _) (.cells #[.int .u32 (e : Nat), .int .u64 (c : Nat), .string ⟨d.toArray⟩] 41)
  clear x0
  rcases hde with ⟨d1, d2⟩ | ⟨d1, d2⟩ | ⟨d1, d2⟩
  all_goals
    go_enter Try.func19, Try.ntmps19
    go_wp2_with fail
    go_region_held3 (fun w' => w'.cell? ⟨w.heap.size, 0, none⟩ = some (.int .u32 (e : Nat)) ∧ w'.cell? ⟨w.heap.size, 1, none⟩ = some (.int .u64 (c : Nat)) ∧ w'.cell? ⟨w.heap.size, 2, none⟩ = some (.string ⟨d.toArray⟩) ∧ w.heap.size < w'.heap.size ∧ Below w.heap.size w w')
      (first | assumption | exact ⟨c0, c1, c2, hlt, hB.drew⟩ | exact held3c (by assumption) hb)
      (first | (go_at_call_of 27 (Value.int .u64 ((e : Nat) : Int)); refine (HO.out _).mono ?_; rintro e w' ⟨rfl, hb⟩) | (go_at_call_of 27 (Value.int .u64 ((c : Nat) : Int)); refine (HK.out _).mono ?_; rintro e w' ⟨rfl, hb⟩))
    all_goals go_wp2
    all_goals go_ret2
    all_goals exact ⟨by rw [← HF.out]; simp [oneHead], ‹_ ∧ _ ∧ _ ∧ _ ∧ Below w.heap.size w _›.2.2.2.2⟩

set_option maxRecDepth 100000 in
set_option maxHeartbeats 400000 in
theorem rsimple_any (e c : Nat) (d : List UInt8) (he : e < 4294967296) (hc : c < 18446744073709551616) (w : World) :
    Calls Try.prog 19 #[repV ⟨e, c, d⟩] w (Gives (.tuple #[.string ⟨(writeRep ⟨e, c, d⟩).1.toArray⟩, .int .i64 (writeRep ⟨e, c, d⟩).2]) w) := by
  unfold repV
  dsimp only
  rcases fit_cases e c d with ⟨h1, hw⟩ | ⟨h1, h2, h3, hw⟩ | ⟨h1, h2, rfl, hw⟩ | ⟨rfl, rfl, hw⟩ | ⟨rfl, h3, hw⟩
  · rw [hw]
    clear hw
    go_enter Try.func19, Try.ntmps19
    go_wp2
    go_ret2
    exact ⟨rfl, (Below.refl _ w).alloc (Nat.le_refl _) _⟩
  · rw [hw]
    have h4 : ((e : Int) != 0) = true := by simp; omega
    clear hw
    go_enter Try.func19, Try.ntmps19
    go_wp2
    go_ret2
    exact ⟨rfl, (Below.refl _ w).alloc (Nat.le_refl _) _⟩
  · rw [hw]; exact rsimple_ok 0 c d he hc h1 (.inl ⟨h2, rfl⟩) w
  · rw [hw]; exact rsimple_ok 0 c [] he hc (by simp) (.inr (.inl ⟨rfl, rfl⟩)) w
  · rw [hw]; exact rsimple_ok e c [] he hc (by simp) (.inr (.inr ⟨rfl, by simp; omega⟩)) w

end Go.Proofs.Ytcmocangmfengaa
