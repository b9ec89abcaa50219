/- rep.Write (a chunk), and the document's. -/
import Derived.Test.YtfcojhpnpfodeaaMRepSimple
namespace Go.Proofs.Ytfcojhpnpfodeaa
open Go.RowKit
attribute [local go_sem ↓] Go.wp_at_zero Go.wp_at_succ

def flagN (b : Bool) : Nat := if b then 1 else 0
theorem wrap32u {k : Nat} (h : k < 4294967296) : IntKind.u32.wrap (k : Int) = (k : Int) := by rw [IntKind.wrap_u32]; omega
theorem wrap16u {k : Nat} (h : k < 65536) : IntKind.u16.wrap (k : Int) = (k : Int) := by rw [IntKind.wrap_u16]; omega

theorem chunk_cases (b : Bool) (k : Int) (c : Nat) (d : List UInt8) : (k < 0 ∧ writeChunk ⟨b, k, c, d⟩ = ([], 25)) ∨ (65536 ≤ k ∧ writeChunk ⟨b, k, c, d⟩ = ([], 25)) ∨ (0 ≤ k ∧ k < 65536 ∧ 4128 < d.length ∧ writeChunk ⟨b, k, c, d⟩ = ([], 11)) ∨
    (0 ≤ k ∧ k < 65536 ∧ d.length ≤ 4128 ∧ writeChunk ⟨b, k, c, d⟩ = (chunkBytes ⟨b, k, c, d⟩, 0)) := by
  unfold writeChunk
  dsimp only
  by_cases h1 : k < 0
  · exact .inl ⟨h1, by rw [if_pos (.inl h1)]⟩
  · by_cases h2 : 65536 ≤ k
    · exact .inr (.inl ⟨h2, by rw [if_pos (.inr h2)]⟩)
    · by_cases h3 : 4128 < d.length
      · exact .inr (.inr (.inl ⟨by omega, by omega, h3, by rw [if_neg (by omega), if_pos h3]⟩))
      · exact .inr (.inr (.inr ⟨by omega, by omega, by omega, by rw [if_neg (by omega), if_neg h3]⟩))

set_option maxRecDepth 100000 in
set_option maxHeartbeats 4000000 in
theorem rwriteC_ok (b : Bool) (k : Int) (c : Nat) (d : List UInt8) (hk0 : 0 ≤ k) (hk1 : k < 65536) (hc : c < 18446744073709551616) (hd : d.length ≤ 4128) (w : World) :
    Calls Try.prog 13 #[.agg #[.bool b, .int .i64 k, .int .u64 (c : Nat), .string ⟨d.toArray⟩]] w (Gives (.tuple #[.string ⟨(chunkBytes ⟨b, k, c, d⟩).toArray⟩, .int .i64 0]) w) := by
  have HFl := Lib.hid (fun W => rput_any (flagN b) 2 (by cases b <;> simp [flagN]) (by decide) (by decide) W)
  have HKd : Hid (∀ W, Calls Try.prog 26 #[.int .u64 k, .int .i64 2] W (Gives (.string ⟨(be 2 k.toNat).toArray⟩) W)) :=
    Lib.hid (fun W => by have h := rput_any k.toNat 2 (by omega) (by decide) (by decide) W; rwa [Int.toNat_of_nonneg hk0] at h)
  have HCk := Lib.hid (fun W => rput_any c 8 hc (by decide) (by decide) W)
  have HLn := Lib.hid (fun W => rput_any d.length 4 (by omega) (by decide) (by decide) W)
  have mixed : Try.prog.follows .mixedOrders = true := by kernel_rfl
  have HF := Lib.hid (show pieceHead ++ be 2 (flagN b) ++ be 2 k.toNat ++ be 8 c ++ be 4 d.length ++ d = chunkBytes ⟨b, k, c, d⟩ by simp [chunkBytes, flagN])
  have hl0 : (be 2 (flagN b)).length = 2 := be_length _ _
  have hl1 : (be 2 k.toNat).length = 2 := be_length _ _
  have hl2 : (be 8 c).length = 8 := be_length _ _
  have hl3 : (be 4 d.length).length = 4 := be_length _ _
  have hw1 : IntKind.u64.wrap k = k := by rw [IntKind.wrap_u64]; omega
  have hw2 := wrap64u (k := d.length) (by omega)
  have hsz : ¬ (9223372036854775807 < 20 + d.length) := by omega
  have x0 := Blk.new w 52 #[.bool b, .int .i64 k, .int .u64 (c : Nat), .string ⟨d.toArray⟩]
  have c0 := x0.cell 0
  have c1 := x0.cell 1
  have c2 := x0.cell 2
  have c3 := x0.cell 3
  simp only [List.getElem?_toArray, List.getElem?_cons_zero, List.getElem?_cons_succ] at c0 c1 c2 c3
  have hlt := x0.lt
  have hB := (Below.refl w.heap.size w).alloc (Nat.le_refl _) (.cells #[.bool b, .int .i64 k, .int .u64 (c : Nat), .string ⟨d.toArray⟩] 52)
  clear x0
  generalize chunkBytes ⟨b, k, c, d⟩ = out at HF ⊢
  obtain ⟨fl, hfl⟩ : ∃ fl, be 2 (flagN b) = fl := ⟨_, rfl⟩
  rw [hfl] at HFl HF hl0
  clear hfl
  cases b
  · unfold flagN at HFl
    go_enter Try.func13, Try.ntmps13
    go_wp2_with fail
    go_region_held3 (fun w' => w'.cell? ⟨w.heap.size, 0, none⟩ = some (.bool false) ∧ w'.cell? ⟨w.heap.size, 1, none⟩ = some (.int .i64 k) ∧ w'.cell? ⟨w.heap.size, 2, none⟩ = some (.int .u64 (c : Nat)) ∧ w'.cell? ⟨w.heap.size, 3, none⟩ = some (.string ⟨d.toArray⟩) ∧ w.heap.size < w'.heap.size ∧ Below w.heap.size w w')
      (first | assumption | exact ⟨c0, c1, c2, c3, hlt, hB.drew⟩ | exact held4c (by assumption) hb)
      (first | (go_at_call_of 26 (Value.int .u64 k); refine (HKd.out _).mono ?_; rintro e w' ⟨rfl, hb⟩) | (go_at_call_of 26 (Value.int .u64 ((c : Nat) : Int)); refine (HCk.out _).mono ?_; rintro e w' ⟨rfl, hb⟩) | (go_at_call_of 26 (Value.int .u64 ((d.length : Nat) : Int)); refine (HLn.out _).mono ?_; rintro e w' ⟨rfl, hb⟩) | (go_at_call 26; refine (HFl.out _).mono ?_; rintro e w' ⟨rfl, hb⟩))
    all_goals go_wp2
    all_goals go_ret2
    all_goals exact ⟨by rw [← HF.out]; simp [pieceHead], ‹_ ∧ _ ∧ _ ∧ _ ∧ _ ∧ Below w.heap.size w _›.2.2.2.2.2⟩
  · unfold flagN at HFl
    go_enter Try.func13, Try.ntmps13
    go_wp2_with fail
    go_region_held3 (fun w' => w'.cell? ⟨w.heap.size, 0, none⟩ = some (.bool true) ∧ w'.cell? ⟨w.heap.size, 1, none⟩ = some (.int .i64 k) ∧ w'.cell? ⟨w.heap.size, 2, none⟩ = some (.int .u64 (c : Nat)) ∧ w'.cell? ⟨w.heap.size, 3, none⟩ = some (.string ⟨d.toArray⟩) ∧ w.heap.size < w'.heap.size ∧ Below w.heap.size w w')
      (first | assumption | exact ⟨c0, c1, c2, c3, hlt, hB.drew⟩ | exact held4c (by assumption) hb)
      (first | (go_at_call_of 26 (Value.int .u64 k); refine (HKd.out _).mono ?_; rintro e w' ⟨rfl, hb⟩) | (go_at_call_of 26 (Value.int .u64 ((c : Nat) : Int)); refine (HCk.out _).mono ?_; rintro e w' ⟨rfl, hb⟩) | (go_at_call_of 26 (Value.int .u64 ((d.length : Nat) : Int)); refine (HLn.out _).mono ?_; rintro e w' ⟨rfl, hb⟩) | (go_at_call 26; refine (HFl.out _).mono ?_; rintro e w' ⟨rfl, hb⟩))
    all_goals go_wp2
    all_goals go_ret2
    all_goals exact ⟨by rw [← HF.out]; simp [pieceHead], ‹_ ∧ _ ∧ _ ∧ _ ∧ _ ∧ Below w.heap.size w _›.2.2.2.2.2⟩

set_option maxRecDepth 100000 in
set_option maxHeartbeats 1000000 in
theorem rwriteC_any (b : Bool) (k : Int) (c : Nat) (d : List UInt8) (hc : c < 18446744073709551616) (w : World) :
    Calls Try.prog 13 #[chunkV ⟨b, k, c, d⟩] w (Gives (.tuple #[.string ⟨(writeChunk ⟨b, k, c, d⟩).1.toArray⟩, .int .i64 (writeChunk ⟨b, k, c, d⟩).2]) w) := by
  unfold chunkV
  dsimp only
  rcases chunk_cases b k c d with ⟨h1, hw⟩ | ⟨h1, hw⟩ | ⟨h1, h2, h3, hw⟩ | ⟨h1, h2, h3, hw⟩
  case inr.inr.inr =>
    rw [hw]
    exact rwriteC_ok b k c d h1 h2 hc h3 w
  all_goals
    rw [hw]
    clear hw
    go_enter Try.func13, Try.ntmps13
    go_wp2
    go_ret2
    exact ⟨rfl, (Below.refl _ w).alloc (Nat.le_refl _) _⟩

end Go.Proofs.Ytfcojhpnpfodeaa
