/- Extents out of bytes, in plain words; no program. -/
import Derived.Test.YtcmocangmfengaaRepExt
namespace Go.Proofs.Ytcmocangmfengaa

def ext1 (t : List UInt8) : Ext := ⟨(rnum t 0 4 : Nat), (rnum t 4 4 : Nat)⟩

/-- The extents that a text has; false: one of no length was met. -/
inductive Exts : List UInt8 → List Ext → Bool → Prop
  | nil : Exts [] [] true
  | zero {t : List UInt8} (h : 8 ≤ t.length) (hz : rnum t 0 4 = 0) : Exts t [] false
  | more {t : List UInt8} {l : List Ext} {b : Bool} (h : 8 ≤ t.length) (hz : rnum t 0 4 ≠ 0) (ha : Exts (t.drop 8) l b) : Exts t (ext1 t :: l) b

theorem exts_exists (n : Nat) : ∀ t : List UInt8, t.length = 8 * n → ∃ l b, Exts t l b := by
  induction n with
  | zero =>
    intro t h
    obtain rfl : t = [] := List.length_eq_zero_iff.1 (by omega)
    exact ⟨_, _, Exts.nil⟩
  | succ n ih =>
    intro t h
    by_cases hz : rnum t 0 4 = 0
    · exact ⟨_, _, Exts.zero (by omega) hz⟩
    · obtain ⟨l, b, ha⟩ := ih (t.drop 8) (by rw [List.length_drop]; omega)
      exact ⟨_, _, Exts.more (by omega) hz ha⟩

theorem exts_cases {t : List UInt8} {l : List Ext} {b : Bool} (h : Exts t l b) :
    (t = [] ∧ l = [] ∧ b = true) ∨ (8 ≤ t.length ∧ rnum t 0 4 = 0 ∧ l = [] ∧ b = false) ∨ (∃ l', 8 ≤ t.length ∧ rnum t 0 4 ≠ 0 ∧ l = ext1 t :: l' ∧ Exts (t.drop 8) l' b) := by
  cases h with
  | nil => exact .inl ⟨rfl, rfl, rfl⟩
  | zero h hz => exact .inr (.inl ⟨h, hz, rfl, rfl⟩)
  | more h hz ha => exact .inr (.inr ⟨_, h, hz, rfl, ha⟩)

theorem exts_len {t : List UInt8} {l : List Ext} {b : Bool} (h : Exts t l b) : 8 * l.length ≤ t.length := by
  induction h with
  | nil => simp
  | zero => simp
  | more h hz ha ih =>
    rw [List.length_drop] at ih
    simp only [List.length_cons]
    omega

end Go.Proofs.Ytcmocangmfengaa
