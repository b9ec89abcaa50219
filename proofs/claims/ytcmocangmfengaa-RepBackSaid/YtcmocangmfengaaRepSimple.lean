/- rep.Simple and rep.Write, and the document's. -/
import Derived.Test.YtcmocangmfengaaRepWrite
import Derived.Deep.RegionHeld3
import Derived.Deep.DrawnRows
namespace Go.Proofs.Ytcmocangmfengaa
open Go.RowKit
attribute [local go_sem ↓] Go.wp_at_zero Go.wp_at_succ

abbrev repV (r : Rep) : Value := .agg #[.int .u32 (r.err : Nat), .int .u64 (r.cookie : Nat), .string ⟨r.data.toArray⟩]
abbrev chunkV (c : Chunk) : Value := .agg #[.bool c.done, .int .i64 c.kind, .int .u64 (c.cookie : Nat), .string ⟨c.data.toArray⟩]

theorem cell_keep {w w' : World} {a : Addr} {v : Value} (h : w.cell? a = some v) (hb : Below w.heap.size w w') : w'.cell? a = some v := by
  have hl := World.block_lt_of_cell? w a h
  unfold World.cell? at h ⊢
  rw [hb.block _ hl]
  exact h
theorem held3c {a w w' : World} {B : Nat} {u v x : Value} (h : w.cell? ⟨B, 0, none⟩ = some u ∧ w.cell? ⟨B, 1, none⟩ = some v ∧ w.cell? ⟨B, 2, none⟩ = some x ∧ B < w.heap.size ∧ Below B a w) (hb : Below w.heap.size w w') :
    w'.cell? ⟨B, 0, none⟩ = some u ∧ w'.cell? ⟨B, 1, none⟩ = some v ∧ w'.cell? ⟨B, 2, none⟩ = some x ∧ B < w'.heap.size ∧ Below B a w' :=
  ⟨cell_keep h.1 hb, cell_keep h.2.1 hb, cell_keep h.2.2.1 hb, Nat.lt_of_lt_of_le h.2.2.2.1 hb.size, h.2.2.2.2.trans (hb.mono (Nat.le_of_lt h.2.2.2.1))⟩
theorem held4c {a w w' : World} {B : Nat} {u v x y : Value} (h : w.cell? ⟨B, 0, none⟩ = some u ∧ w.cell? ⟨B, 1, none⟩ = some v ∧ w.cell? ⟨B, 2, none⟩ = some x ∧ w.cell? ⟨B, 3, none⟩ = some y ∧ B < w.heap.size ∧ Below B a w) (hb : Below w.heap.size w w') :
    w'.cell? ⟨B, 0, none⟩ = some u ∧ w'.cell? ⟨B, 1, none⟩ = some v ∧ w'.cell? ⟨B, 2, none⟩ = some x ∧ w'.cell? ⟨B, 3, none⟩ = some y ∧ B < w'.heap.size ∧ Below B a w' :=
  ⟨cell_keep h.1 hb, cell_keep h.2.1 hb, cell_keep h.2.2.1 hb, cell_keep h.2.2.2.1 hb, Nat.lt_of_lt_of_le h.2.2.2.2.1 hb.size, h.2.2.2.2.2.trans (hb.mono (Nat.le_of_lt h.2.2.2.2.1))⟩

theorem fit_cases (e c : Nat) (d : List UInt8) : (4096 < d.length ∧ writeRep ⟨e, c, d⟩ = ([], 11)) ∨ (d.length ≤ 4096 ∧ d.isEmpty = false ∧ e ≠ 0 ∧ writeRep ⟨e, c, d⟩ = ([], 11)) ∨
    (d.length ≤ 4096 ∧ d.isEmpty = false ∧ e = 0 ∧ writeRep ⟨e, c, d⟩ = (repBytes ⟨e, c, d⟩, 0)) ∨ (d = [] ∧ e = 0 ∧ writeRep ⟨e, c, d⟩ = (repBytes ⟨e, c, d⟩, 0)) ∨ (d = [] ∧ e ≠ 0 ∧ writeRep ⟨e, c, d⟩ = (repBytes ⟨e, c, d⟩, 0)) := by
  unfold writeRep repFit
  dsimp only
  by_cases h1 : 4096 < d.length
  · exact .inl ⟨h1, by rw [if_neg (by simp; omega)]⟩
  · by_cases h2 : d = []
    · by_cases h3 : e = 0
      · exact .inr (.inr (.inr (.inl ⟨h2, h3, by rw [if_pos (by simp [h2])]⟩)))
      · exact .inr (.inr (.inr (.inr ⟨h2, h3, by rw [if_pos (by simp [h2])]⟩)))
    · by_cases h3 : e = 0
      · exact .inr (.inr (.inl ⟨by omega, by simpa using h2, h3, by rw [if_pos (by simp [h3]; omega)]⟩))
      · exact .inr (.inl ⟨by omega, by simpa using h2, h3, by rw [if_neg (by simp [h2, h3])]⟩)

set_option maxRecDepth 100000 in
set_option maxHeartbeats 1000000 in
theorem simple_any (e c : Nat) (d : List UInt8) (he : e < 4294967296) (hc : c < 18446744073709551616) (w : World) :
    Calls Try.prog 18 #[repV ⟨e, c, d⟩] w (Gives (.tuple #[.string ⟨(writeRep ⟨e, c, d⟩).1.toArray⟩, .int .i64 (writeRep ⟨e, c, d⟩).2]) w) := by
  unfold repV
  dsimp only
  have HB := fun (hd : d.length ≤ 4096) g W => bytes_any [.str [103, 68, 102, 152], .u32 e, .u64 c, .str d] (by simp) (by simp [Item.ok, he, hc]) (by simp [bytesOf, Item.bytes, be_length]; omega) g W
  have hr : bytesOf [.str [103, 68, 102, 152], .u32 e, .u64 c, .str d] = repBytes ⟨e, c, d⟩ := by simp [bytesOf, Item.bytes, repBytes, oneHead]
  rw [hr] at HB
  clear hr
  rcases fit_cases e c d with ⟨h1, hw⟩ | ⟨h1, h2, h3, hw⟩ | ⟨h1, h2, rfl, hw⟩ | ⟨rfl, rfl, hw⟩ | ⟨rfl, h3, hw⟩
  · rw [hw]
    clear hw HB
    go_enter Try.func18, Try.ntmps18
    go_wp2
    go_ret2
    exact ⟨rfl, (Below.refl _ w).alloc (Nat.le_refl _) _⟩
  · rw [hw]
    have h4 : ((e : Int) != 0) = true := by simp; omega
    clear hw HB
    go_enter Try.func18, Try.ntmps18
    go_wp2
    go_ret2
    exact ⟨rfl, (Below.refl _ w).alloc (Nat.le_refl _) _⟩
  all_goals
    rw [hw]
    have HC := Lib.hid (HB (by first | exact h1 | simp))
    clear hw HB
    go_enter Try.func18, Try.ntmps18
    go_wp2_with fail
    refine (HC.out _ _ (Blk.newAt (by simp))).mono ?_
    rintro e' w1 ⟨rfl, hb1⟩
    have b1 := below_next (((Below.refl _ w).alloc (Nat.le_refl _) _).alloc (by simp) _) hb1
    go_wp2
    go_ret2
    exact ⟨rfl, b1⟩

end Go.Proofs.Ytcmocangmfengaa
