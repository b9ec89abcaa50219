/- rep.Simple and rep.Write, and the document's. · The document's Simple. -/
import Derived.Test.YtfcojhpnpfodeaaMRepWrite
import Derived.Deep.RegionHeld3
import Derived.Deep.DrawnRows
namespace Go.Proofs.Ytfcojhpnpfodeaa
open Go.RowKit
attribute [local go_sem ↓] Go.wp_at_zero Go.wp_at_succ

abbrev repV (r : Rep) : Value := .agg #[.int .u32 (r.err : Nat), .int .u64 (r.cookie : Nat), .string ⟨r.data.toArray⟩]
abbrev chunkV (c : Chunk) : Value := .agg #[.bool c.done, .int .i64 c.kind, .int .u64 (c.cookie : Nat), .string ⟨c.data.toArray⟩]

theorem cell_keep {w w' : World} {a : Addr} {v : Value} (h : w.cell? a = some v) (hb : Below w.heap.size w w') : w'.cell? a = some v := by
  have hl := World.block_lt_of_cell? w a h
  unfold World.cell? at h ⊢
  rw [hb.block _ hl]
  exact h
theorem held3c {a w w' : World} {B : Nat} {u v x : Value} (h : w.cell? ⟨B, 0, none⟩ = some u ∧ w.cell? ⟨B, 1, none⟩ = some v ∧ w.cell? ⟨B, 2, none⟩ = some x ∧ B < w.heap.size ∧ Below B a w) (hb : Below w.heap.size w w') :
    w'.cell? ⟨B, 0, none⟩ = some u ∧ w'.cell? ⟨B, 1, none⟩ = some v ∧ w'.cell? ⟨B, 2, none⟩ = some x ∧ B < w'.heap.size ∧ Below B a w' :=
  ⟨cell_keep h.1 hb, cell_keep h.2.1 hb, cell_keep h.2.2.1 hb, Nat.lt_of_lt_of_le h.2.2.2.1 hb.size, h.2.2.2.2.trans (hb.mono (Nat.le_of_lt h.2.2.2.1))⟩
theorem held4c {a w w' : World} {B : Nat} {u v x y : Value} (h : w.cell? ⟨B, 0, none⟩ = some u ∧ w.cell? ⟨B, 1, none⟩ = some v ∧ w.cell? ⟨B, 2, none⟩ = some x ∧ w.cell? ⟨B, 3, none⟩ = some y ∧ B < w.heap.size ∧ Below B a w) (hb : Below w.heap.size w w') :
    w'.cell? ⟨B, 0, none⟩ = some u ∧ w'.cell? ⟨B, 1, none⟩ = some v ∧ w'.cell? ⟨B, 2, none⟩ = some x ∧ w'.cell? ⟨B, 3, none⟩ = some y ∧ B < w'.heap.size ∧ Below B a w' :=
  ⟨cell_keep h.1 hb, cell_keep h.2.1 hb, cell_keep h.2.2.1 hb, cell_keep h.2.2.2.1 hb, Nat.lt_of_lt_of_le h.2.2.2.2.1 hb.size, h.2.2.2.2.2.trans (hb.mono (Nat.le_of_lt h.2.2.2.2.1))⟩

theorem fit_cases (e c : Nat) (d : List UInt8) : (4096 < d.length ∧ writeRep ⟨e, c, d⟩ = ([], 11)) ∨ (d.length ≤ 4096 ∧ d.isEmpty = false ∧ e ≠ 0 ∧ writeRep ⟨e, c, d⟩ = ([], 11)) ∨
    (d.length ≤ 4096 ∧ d.isEmpty = false ∧ e = 0 ∧ writeRep ⟨e, c, d⟩ = (repBytes ⟨e, c, d⟩, 0)) ∨ (d = [] ∧ e = 0 ∧ writeRep ⟨e, c, d⟩ = (repBytes ⟨e, c, d⟩, 0)) ∨ (d = [] ∧ e ≠ 0 ∧ writeRep ⟨e, c, d⟩ = (repBytes ⟨e, c, d⟩, 0)) := by
  unfold writeRep repFit
  dsimp only
  by_cases h1 : 4096 < d.length
  · exact .inl ⟨h1, by rw [if_neg (by simp; omega)]⟩
  · by_cases h2 : d = []
    · by_cases h3 : e = 0
      · exact .inr (.inr (.inr (.inl ⟨h2, h3, by rw [if_pos (by simp [h2])]⟩)))
      · exact .inr (.inr (.inr (.inr ⟨h2, h3, by rw [if_pos (by simp [h2])]⟩)))
    · by_cases h3 : e = 0
      · exact .inr (.inr (.inl ⟨by omega, by simpa using h2, h3, by rw [if_pos (by simp [h3]; omega)]⟩))
      · exact .inr (.inl ⟨by omega, by simpa using h2, h3, by rw [if_neg (by simp [h2, h3])]⟩)

end Go.Proofs.Ytfcojhpnpfodeaa

namespace Go.Proofs.Ytfcojhpnpfodeaa
open Go.RowKit
attribute [local go_sem ↓] Go.wp_at_zero Go.wp_at_succ

theorem wrap64u {k : Nat} (h : k < 18446744073709551616) : IntKind.u64.wrap (k : Int) = (k : Int) := by rw [IntKind.wrap_u64]; omega

end Go.Proofs.Ytfcojhpnpfodeaa
