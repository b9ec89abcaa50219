/- Extents: in plain words, and as the cells of a row; the document's Row. · Extents out of bytes, in plain words; no program. -/
import Derived.Test.YtfcojhpnpfodeaaMRepChunk
import Derived.Deep.SlicePairs
namespace Go.Proofs.Ytfcojhpnpfodeaa
open Go.RowKit

structure Ext where
  len : Int
  flags : Int
def Ext.ok (x : Ext) : Bool := decide (1 ≤ x.len) && (decide (x.len ≤ 4294967295) && (decide (0 ≤ x.flags) && decide (x.flags ≤ 4294967295)))
theorem Ext.ok_iff (x : Ext) : x.ok = true ↔ 1 ≤ x.len ∧ x.len ≤ 4294967295 ∧ 0 ≤ x.flags ∧ x.flags ≤ 4294967295 := by simp [Ext.ok]
def extB (x : Ext) : List UInt8 := be 4 x.len.toNat ++ be 4 x.flags.toNat
def extsB (l : List Ext) : List UInt8 := l.flatMap extB
def statusB (c : Nat) (l : List Ext) : List UInt8 := be 4 c ++ extsB l
def writeStatus (c : Nat) (l : List Ext) : List UInt8 × Int := if l = [] ∨ 500 < l.length then ([], 16) else if l.all Ext.ok = true then (statusB c l, 0) else ([], 25)

theorem extsB_take (l : List Ext) (k : Nat) (x : Ext) (h : l[k]? = some x) : extsB (l.take (k + 1)) = extsB (l.take k) ++ extB x := by
  unfold extsB
  rw [List.take_add_one, h]
  simp
theorem extsB_length (l : List Ext) : (extsB l).length = 8 * l.length := by
  unfold extsB
  induction l with
  | nil => rfl
  | cons a l ih => rw [List.flatMap_cons, List.length_append, ih, List.length_cons]; simp [extB, be_length]; omega

/-- v is a slice that holds the extents l. -/
def ExtAt (w : World) (v : Value) (l : List Ext) : Prop :=
  ∃ ad cap, v = .slice ad l.length cap ∧ (l = [] ∨ ∃ b o, ad = some ⟨b, o, none⟩ ∧ ∀ (j : Nat) (x : Ext), l[j]? = some x → w.cell? ⟨b, o + j * 2, none⟩ = some (.int .i64 x.len) ∧ w.cell? ⟨b, o + j * 2 + 1, none⟩ = some (.int .i64 x.flags))
theorem ExtAt.below {w w' : World} {v : Value} {l : List Ext} (h : ExtAt w v l) (hb : Below w.heap.size w w') : ExtAt w' v l := by
  obtain ⟨ad, cap, rfl, h⟩ := h
  refine ⟨ad, cap, rfl, ?_⟩
  rcases h with h | ⟨b, o, rfl, hc⟩
  · exact .inl h
  · exact .inr ⟨b, o, rfl, fun j x hx => ⟨cell_keep (hc j x hx).1 hb, cell_keep (hc j x hx).2 hb⟩⟩

end Go.Proofs.Ytfcojhpnpfodeaa

namespace Go.Proofs.Ytfcojhpnpfodeaa

def ext1 (t : List UInt8) : Ext := ⟨(rnum t 0 4 : Nat), (rnum t 4 4 : Nat)⟩

/-- The extents that a text has; false: one of no length was met. -/
inductive Exts : List UInt8 → List Ext → Bool → Prop
  | nil : Exts [] [] true
  | zero {t : List UInt8} (h : 8 ≤ t.length) (hz : rnum t 0 4 = 0) : Exts t [] false
  | more {t : List UInt8} {l : List Ext} {b : Bool} (h : 8 ≤ t.length) (hz : rnum t 0 4 ≠ 0) (ha : Exts (t.drop 8) l b) : Exts t (ext1 t :: l) b

theorem exts_exists (n : Nat) : ∀ t : List UInt8, t.length = 8 * n → ∃ l b, Exts t l b := by
  induction n with
  | zero =>
    intro t h
    obtain rfl : t = [] := List.length_eq_zero_iff.1 (by omega)
    exact ⟨_, _, Exts.nil⟩
  | succ n ih =>
    intro t h
    by_cases hz : rnum t 0 4 = 0
    · exact ⟨_, _, Exts.zero (by omega) hz⟩
    · obtain ⟨l, b, ha⟩ := ih (t.drop 8) (by rw [List.length_drop]; omega)
      exact ⟨_, _, Exts.more (by omega) hz ha⟩

theorem exts_cases {t : List UInt8} {l : List Ext} {b : Bool} (h : Exts t l b) :
    (t = [] ∧ l = [] ∧ b = true) ∨ (8 ≤ t.length ∧ rnum t 0 4 = 0 ∧ l = [] ∧ b = false) ∨ (∃ l', 8 ≤ t.length ∧ rnum t 0 4 ≠ 0 ∧ l = ext1 t :: l' ∧ Exts (t.drop 8) l' b) := by
  cases h with
  | nil => exact .inl ⟨rfl, rfl, rfl⟩
  | zero h hz => exact .inr (.inl ⟨h, hz, rfl, rfl⟩)
  | more h hz ha => exact .inr (.inr ⟨_, h, hz, rfl, ha⟩)

theorem exts_len {t : List UInt8} {l : List Ext} {b : Bool} (h : Exts t l b) : 8 * l.length ≤ t.length := by
  induction h with
  | nil => simp
  | zero => simp
  | more h hz ha ih =>
    rw [List.length_drop] at ih
    simp only [List.length_cons]
    omega

end Go.Proofs.Ytfcojhpnpfodeaa
