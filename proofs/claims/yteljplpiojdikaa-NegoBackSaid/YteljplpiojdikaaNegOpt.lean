/- nego's options; option. -/
import Derived.Test.YteljplpiojdikaaNegInfo
import Derived.Test.YteljplpiojdikaaNegMetas
import Derived.Laws.EntriesVeiled
import Derived.WideMake
import Derived.Maps.Own
import Derived.Maps.OwnSet
namespace Go.Proofs.Yteljplpiojdikaa
open Go.RowKit

/-- How a worker's method, as a function's value, is told. -/
def fnElem (b : Nat) : Value → Option (DataW Unit × List MemPlace)
  | .func (.func f) ⟨[.pointer (some ⟨b', 0, none⟩)]⟩ ⟨[]⟩ => if b' = b then some (.lit (.int .i64 f), []) else none
  | .nilFunc => some (.nil, [])
  | _ => none
theorem fnElem_mk (b f : Nat) : fnElem b (.func (.func f) #[.pointer (some ⟨b, 0, none⟩)] #[]) = some (.lit (.int .i64 f), []) := by
  show (if b = b then some (DataW.lit (Lit.int .i64 f), ([] : List MemPlace)) else none) = _
  rw [if_pos rfl]
theorem fnElem_inv {b : Nat} {v : Value} {k : Int} {ps : List MemPlace} (h : fnElem b v = some (.lit (.int .i64 k), ps)) : ∃ f : Nat, (f : Int) = k ∧ v = .func (.func f) #[.pointer (some ⟨b, 0, none⟩)] #[] := by
  unfold fnElem at h
  split at h
  · split at h
    · rename_i hb
      simp only [Option.some.injEq, Prod.mk.injEq, DataW.lit.injEq, Lit.int.injEq, true_and] at h
      exact ⟨_, h.1, by rw [hb]⟩
    · cases h
  · simp at h
  · cases h
theorem fnElem_nil {b : Nat} {v : Value} {ps : List MemPlace} (h : fnElem b v = some (.nil, ps)) : v = .nilFunc := by
  unfold fnElem at h
  split at h
  · split at h
    · simp at h
    · cases h
  · rfl
  · cases h

/-- What is done of each kind. -/
def optD : DataW Unit :=
  ((((((((DataW.map []).put (.int .u32 1) (.lit (.int .i64 50))).put (.int .u32 2) (.lit (.int .i64 51))).put (.int .u32 3) (.lit (.int .i64 52))).put (.int .u32 6) (.lit (.int .i64 53))).put (.int .u32 7) (.lit (.int .i64 53))).put (.int .u32 8) (.lit (.int .i64 54))).put (.int .u32 9) (.lit (.int .i64 55))).put (.int .u32 10) (.lit (.int .i64 55))

theorem u32_keyed : Maps.Keyed Try.prog 35 := Maps.int_keyed Try.underlying35

set_option maxRecDepth 100000 in
set_option maxHeartbeats 2000000 in
theorem options_any (b : Nat) (w : World) : Calls Try.prog 36 #[.pointer (some ⟨b, 0, none⟩)] w fun e w' => e = .returned (.map (some w.heap.size)) ∧ w'.ownsMap Try.prog 35 (fnElem b) w.heap.size 8 optD ∧ Below w.heap.size w w' := by
  have hown := World.ownsMap_made w Try.prog 35 (fnElem b)
  have hkey : ∀ k : Int, (Lit.int .u32 k).wf = true → keyOf Try.prog 35 (.int .u32 k) = some (.int .u32 k) := fun k hk => Maps.keyOf_int_mk Try.underlying35 hk
  have hmk : ∀ w, (Instr.makeMap 84 none).run Try.prog w = .ok (.map (some w.heap.size)) (w.alloc (.map #[] 0)) := fun w => rfl
  obtain ⟨w1, r1, h1, g1⟩ := hown.update (key := .int .u32 1) (val := .func (.func 50) #[.pointer (some ⟨b, 0, none⟩)] #[]) u32_keyed Try.underlying84 (by unfold maxLen; omega) (hkey 1 (by decide)) (fnElem_mk b _)
  obtain ⟨w2, r2, h2, g2⟩ := h1.update (key := .int .u32 2) (val := .func (.func 51) #[.pointer (some ⟨b, 0, none⟩)] #[]) u32_keyed Try.underlying84 (by unfold maxLen; omega) (hkey 2 (by decide)) (fnElem_mk b _)
  obtain ⟨w3, r3, h3, g3⟩ := h2.update (key := .int .u32 3) (val := .func (.func 52) #[.pointer (some ⟨b, 0, none⟩)] #[]) u32_keyed Try.underlying84 (by unfold maxLen; omega) (hkey 3 (by decide)) (fnElem_mk b _)
  obtain ⟨w4, r4, h4, g4⟩ := h3.update (key := .int .u32 6) (val := .func (.func 53) #[.pointer (some ⟨b, 0, none⟩)] #[]) u32_keyed Try.underlying84 (by unfold maxLen; omega) (hkey 6 (by decide)) (fnElem_mk b _)
  obtain ⟨w5, r5, h5, g5⟩ := h4.update (key := .int .u32 7) (val := .func (.func 53) #[.pointer (some ⟨b, 0, none⟩)] #[]) u32_keyed Try.underlying84 (by unfold maxLen; omega) (hkey 7 (by decide)) (fnElem_mk b _)
  obtain ⟨w6, r6, h6, g6⟩ := h5.update (key := .int .u32 8) (val := .func (.func 54) #[.pointer (some ⟨b, 0, none⟩)] #[]) u32_keyed Try.underlying84 (by unfold maxLen; omega) (hkey 8 (by decide)) (fnElem_mk b _)
  obtain ⟨w7, r7, h7, g7⟩ := h6.update (key := .int .u32 9) (val := .func (.func 55) #[.pointer (some ⟨b, 0, none⟩)] #[]) u32_keyed Try.underlying84 (by unfold maxLen; omega) (hkey 9 (by decide)) (fnElem_mk b _)
  obtain ⟨w8, r8, h8, g8⟩ := h7.update (key := .int .u32 10) (val := .func (.func 55) #[.pointer (some ⟨b, 0, none⟩)] #[]) u32_keyed Try.underlying84 (by unfold maxLen; omega) (hkey 10 (by decide)) (fnElem_mk b _)
  have HM := Lib.hid h8
  have hB : Below w.heap.size w w8 := by
    have b0 : Below w.heap.size w (w.alloc (.map #[] 0)) := (Below.refl _ w).alloc (Nat.le_refl _) _
    have st : ∀ {a c : World}, Below w.heap.size w a → a.grownBy c (some w.heap.size) → Below w.heap.size w c := fun ha hg => ha.grown hg ha.size (fun k hk => by simp only [Option.some.injEq] at hk; omega)
    exact st (st (st (st (st (st (st (st b0 g1) g2) g3) g4) g5) g6) g7) g8
  clear hown h1 h2 h3 h4 h5 h6 h7 h8 g1 g2 g3 g4 g5 g6 g7 g8 hkey
  go_enter Try.func36, Try.ntmps36
  go_wp2_with fail
  go_ret
  exact ⟨rfl, HM.out, hB⟩
end Go.Proofs.Yteljplpiojdikaa
