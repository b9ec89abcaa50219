/- match's kinds: what is done of each kind of chunks. · match: what the map of kinds gives, and what that does. -/
import Derived.Test.YtfcojhpnpfodeaaMatStatus
import Derived.Test.YtfcojhpnpfodeaaMatHole
import Derived.Laws.EntriesVeiled
import Derived.WideMake
import Derived.Maps.Own
import Derived.Maps.OwnSet
import Derived.Maps.Views
namespace Go.Proofs.Ytfcojhpnpfodeaa
open Go.RowKit

/-- How a worker's method, as a function's value, is told. -/
def fnElem (b : Nat) : Value → Option (DataW Unit × List MemPlace)
  | .func (.func f) ⟨[.pointer (some ⟨b', 0, none⟩)]⟩ ⟨[]⟩ => if b' = b then some (.lit (.int .i64 f), []) else none
  | .nilFunc => some (.nil, [])
  | _ => none
theorem fnElem_mk (b f : Nat) : fnElem b (.func (.func f) #[.pointer (some ⟨b, 0, none⟩)] #[]) = some (.lit (.int .i64 f), []) := by
  show (if b = b then some (DataW.lit (Lit.int .i64 f), ([] : List MemPlace)) else none) = _
  rw [if_pos rfl]
theorem fnElem_inv {b : Nat} {v : Value} {k : Int} {ps : List MemPlace} (h : fnElem b v = some (.lit (.int .i64 k), ps)) : ∃ f : Nat, (f : Int) = k ∧ v = .func (.func f) #[.pointer (some ⟨b, 0, none⟩)] #[] := by
  unfold fnElem at h
  split at h
  · split at h
    · rename_i hb
      simp only [Option.some.injEq, Prod.mk.injEq, DataW.lit.injEq, Lit.int.injEq, true_and] at h
      exact ⟨_, h.1, by rw [hb]⟩
    · cases h
  · simp at h
  · cases h
theorem fnElem_nil {b : Nat} {v : Value} {ps : List MemPlace} (h : fnElem b v = some (.nil, ps)) : v = .nilFunc := by
  unfold fnElem at h
  split at h
  · split at h
    · simp at h
    · cases h
  · rfl
  · cases h

/-- What is done of each kind. -/
def kindD : DataW Unit :=
  (((((DataW.map []).put (.int .i64 0) (.lit (.int .i64 53))).put (.int .i64 1) (.lit (.int .i64 54))).put (.int .i64 2) (.lit (.int .i64 55))).put (.int .i64 5) (.lit (.int .i64 56))).put (.int .i64 32769) (.lit (.int .i64 57))

theorem i64_keyed : Maps.Keyed Try.prog 3 := Maps.int_keyed Try.underlying3

set_option maxRecDepth 100000 in
set_option maxHeartbeats 2000000 in
theorem kinds_any (b : Nat) (w : World) : Calls Try.prog 38 #[.pointer (some ⟨b, 0, none⟩)] w fun e w' => e = .returned (.map (some w.heap.size)) ∧ w'.ownsMap Try.prog 3 (fnElem b) w.heap.size 5 kindD ∧ Below w.heap.size w w' := by
  have hown := World.ownsMap_made w Try.prog 3 (fnElem b)
  have hkey : ∀ k : Int, (Lit.int .i64 k).wf = true → keyOf Try.prog 3 (.int .i64 k) = some (.int .i64 k) := fun k hk => Maps.keyOf_int_mk Try.underlying3 hk
  have hmk : ∀ w, (Instr.makeMap 85 none).run Try.prog w = .ok (.map (some w.heap.size)) (w.alloc (.map #[] 0)) := fun w => rfl
  obtain ⟨w1, r1, h1, g1⟩ := hown.update (key := .int .i64 0) (val := .func (.func 53) #[.pointer (some ⟨b, 0, none⟩)] #[]) i64_keyed Try.underlying85 (by unfold maxLen; omega) (hkey 0 (by decide)) (fnElem_mk b _)
  obtain ⟨w2, r2, h2, g2⟩ := h1.update (key := .int .i64 1) (val := .func (.func 54) #[.pointer (some ⟨b, 0, none⟩)] #[]) i64_keyed Try.underlying85 (by unfold maxLen; omega) (hkey 1 (by decide)) (fnElem_mk b _)
  obtain ⟨w3, r3, h3, g3⟩ := h2.update (key := .int .i64 2) (val := .func (.func 55) #[.pointer (some ⟨b, 0, none⟩)] #[]) i64_keyed Try.underlying85 (by unfold maxLen; omega) (hkey 2 (by decide)) (fnElem_mk b _)
  obtain ⟨w4, r4, h4, g4⟩ := h3.update (key := .int .i64 5) (val := .func (.func 56) #[.pointer (some ⟨b, 0, none⟩)] #[]) i64_keyed Try.underlying85 (by unfold maxLen; omega) (hkey 5 (by decide)) (fnElem_mk b _)
  obtain ⟨w5, r5, h5, g5⟩ := h4.update (key := .int .i64 32769) (val := .func (.func 57) #[.pointer (some ⟨b, 0, none⟩)] #[]) i64_keyed Try.underlying85 (by unfold maxLen; omega) (hkey 32769 (by decide)) (fnElem_mk b _)
  have HM := Lib.hid h5
  have hB : Below w.heap.size w w5 := by
    have b0 : Below w.heap.size w (w.alloc (.map #[] 0)) := (Below.refl _ w).alloc (Nat.le_refl _) _
    have st : ∀ {a c : World}, Below w.heap.size w a → a.grownBy c (some w.heap.size) → Below w.heap.size w c := fun ha hg => ha.grown hg ha.size (fun k hk => by simp only [Option.some.injEq] at hk; omega)
    exact st (st (st (st (st b0 g1) g2) g3) g4) g5
  clear hown h1 h2 h3 h4 h5 g1 g2 g3 g4 g5 hkey
  go_enter Try.func38, Try.ntmps38
  go_wp2_with fail
  go_ret
  exact ⟨rfl, HM.out, hB⟩
end Go.Proofs.Ytfcojhpnpfodeaa

namespace Go.Proofs.Ytfcojhpnpfodeaa
open Go.RowKit

/-- The method of a kind. -/
def methodK (o : Nat) : Nat :=
  if o = 0 then 53 else if o = 1 then 54 else if o = 2 then 55 else if o = 5 then 56 else 57
def knownK (o : Nat) : Bool := decide (o = 0) || decide (o = 1) || decide (o = 2) || decide (o = 5) || decide (o = 32769)

theorem kind_known (o : Nat) (hk : knownK o = true) : Maps.has kindD (.int .i64 (o : Nat)) = true ∧ kindD.atKey (.int .i64 (o : Nat)) .nil = .lit (.int .i64 (methodK o : Nat)) := by
  have hc : o = 0 ∨ o = 1 ∨ o = 2 ∨ o = 5 ∨ o = 32769 := by
    unfold knownK at hk
    simp only [Bool.or_eq_true, decide_eq_true_eq] at hk
    omega
  rcases hc with rfl | rfl | rfl | rfl | rfl
  all_goals exact ⟨by rfl, by rfl⟩
theorem kind_unknown (o : Nat) (hk : knownK o = false) : Maps.has kindD (.int .i64 (o : Nat)) = false ∧ kindD.atKey (.int .i64 (o : Nat)) .nil = .nil := by
  unfold knownK at hk
  simp only [Bool.or_eq_false_iff, decide_eq_false_iff_not] at hk
  have hn : ∀ m : Int, (o : Int) ≠ m → Lit.int .i64 (o : Nat) ≠ Lit.int .i64 m := fun m h e => h (by simpa only [Lit.int.injEq, true_and] using e)
  have h0 := hn 0 (by omega)
  have h1 := hn 1 (by omega)
  have h2 := hn 2 (by omega)
  have h5 := hn 5 (by omega)
  have h9 := hn 32769 (by omega)
  unfold kindD
  refine ⟨?_, ?_⟩
  · rw [Maps.has_put_other h9, Maps.has_put_other h5, Maps.has_put_other h2, Maps.has_put_other h1, Maps.has_put_other h0]
    rfl
  · rw [Maps.atKey_put_other h9, Maps.atKey_put_other h5, Maps.atKey_put_other h2, Maps.atKey_put_other h1, Maps.atKey_put_other h0]
    rfl
theorem apply_unknown (q : Wait) (o : Nat) (d : List UInt8) (hk : knownK o = false) : q.apply (o : Nat) d = none := by
  unfold knownK at hk
  simp only [Bool.or_eq_false_iff, decide_eq_false_iff_not] at hk
  unfold Wait.apply
  rw [if_neg (by omega), if_neg (by omega), if_neg (by omega), if_neg (by omega), if_neg (by omega)]

section
variable {W0 : FW} {b : Nat} {w : World} {m : Mat} {ns : List Answ} {k : Nat} {d : List UInt8} {q : Wait}
theorem kdoes_any (o : Nat) (hk : knownK o = true) (h : MWk W0 b w m ns k d) (hq : m.waits[k]? = some q) (hok : q.Ok) (hsp : q.spans.length ≤ 500000) (hdl : d.length ≤ 100000) :
    Calls Try.prog (methodK o) #[.pointer (some ⟨b, 0, none⟩)] w (KEnds W0 b m ns k d (q.apply (o : Nat) d)) := by
  have hc : o = 0 ∨ o = 1 ∨ o = 2 ∨ o = 5 ∨ o = 32769 := by
    unfold knownK at hk
    simp only [Bool.or_eq_true, decide_eq_true_eq] at hk
    omega
  rcases hc with rfl | rfl | rfl | rfl | rfl
  · exact wnone_any h hq
  · exact wbytes_any h hq hok hdl
  · exact whole_any h hq hok hdl
  · exact wstatus_any h hq hsp hdl
  · exact wfail_any h hq hdl
end
end Go.Proofs.Ytfcojhpnpfodeaa
