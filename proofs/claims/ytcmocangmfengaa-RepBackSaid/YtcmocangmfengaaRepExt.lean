/- Extents: in plain words, and as the cells of a row; the document's Row. -/
import Derived.Test.YtcmocangmfengaaRepChunk
import Derived.Deep.SlicePairs
namespace Go.Proofs.Ytcmocangmfengaa
open Go.RowKit

structure Ext where
  len : Int
  flags : Int
def Ext.ok (x : Ext) : Bool := decide (1 ≤ x.len) && (decide (x.len ≤ 4294967295) && (decide (0 ≤ x.flags) && decide (x.flags ≤ 4294967295)))
theorem Ext.ok_iff (x : Ext) : x.ok = true ↔ 1 ≤ x.len ∧ x.len ≤ 4294967295 ∧ 0 ≤ x.flags ∧ x.flags ≤ 4294967295 := by simp [Ext.ok]
def extB (x : Ext) : List UInt8 := be 4 x.len.toNat ++ be 4 x.flags.toNat
def extsB (l : List Ext) : List UInt8 := l.flatMap extB
def statusB (c : Nat) (l : List Ext) : List UInt8 := be 4 c ++ extsB l
def writeStatus (c : Nat) (l : List Ext) : List UInt8 × Int := if l = [] ∨ 500 < l.length then ([], 16) else if l.all Ext.ok = true then (statusB c l, 0) else ([], 25)

theorem extsB_take (l : List Ext) (k : Nat) (x : Ext) (h : l[k]? = some x) : extsB (l.take (k + 1)) = extsB (l.take k) ++ extB x := by
  unfold extsB
  rw [List.take_add_one, h]
  simp
theorem extsB_length (l : List Ext) : (extsB l).length = 8 * l.length := by
  unfold extsB
  induction l with
  | nil => rfl
  | cons a l ih => rw [List.flatMap_cons, List.length_append, ih, List.length_cons]; simp [extB, be_length]; omega

/-- v is a slice that holds the extents l. -/
def ExtAt (w : World) (v : Value) (l : List Ext) : Prop :=
  ∃ ad cap, v = .slice ad l.length cap ∧ (l = [] ∨ ∃ b o, ad = some ⟨b, o, none⟩ ∧ ∀ (j : Nat) (x : Ext), l[j]? = some x → w.cell? ⟨b, o + j * 2, none⟩ = some (.int .i64 x.len) ∧ w.cell? ⟨b, o + j * 2 + 1, none⟩ = some (.int .i64 x.flags))
theorem ExtAt.below {w w' : World} {v : Value} {l : List Ext} (h : ExtAt w v l) (hb : Below w.heap.size w w') : ExtAt w' v l := by
  obtain ⟨ad, cap, rfl, h⟩ := h
  refine ⟨ad, cap, rfl, ?_⟩
  rcases h with h | ⟨b, o, rfl, hc⟩
  · exact .inl h
  · exact .inr ⟨b, o, rfl, fun j x hx => ⟨cell_keep (hc j x hx).1 hb, cell_keep (hc j x hx).2 hb⟩⟩

set_option maxRecDepth 100000 in
set_option maxHeartbeats 1000000 in
theorem row_same (l : List Ext) (va vb : Value) (hl : l.length ≤ 1000000) (w : World) (ha : ExtAt w va l) (hb : ExtAt w vb l) :
    Calls Try.prog 17 #[va, vb] w (Gives (.bool true) w) := by
  have mixed : Try.prog.follows .mixedOrders = true := by kernel_rfl
  obtain ⟨ada, ca, rfl, ha⟩ := ha
  obtain ⟨adb, cb, rfl, hb⟩ := hb
  have HCA := Lib.hid ha
  have HCB := Lib.hid hb
  clear ha hb
  obtain ⟨n, hnl⟩ : ∃ n, l.length = n := ⟨_, rfl⟩
  have HN := Lib.hid hnl
  rw [hnl] at hl ⊢
  clear hnl
  go_enter Try.func17, Try.ntmps17
  go_wp2
  go_loopw [5] (fun i wr => ∃ k : Nat, k ≤ n ∧ i = .int .i64 k ∧ Below w.heap.size w wr) (fun i _ => n - (intOf i).toNat)
  case atStart => exact ⟨0, Nat.zero_le _, rfl, Below.refl _ _⟩
  case round =>
    obtain ⟨k, hk, rfl, hbw⟩ := hrel
    by_cases hlt : k < n
    · have k1 : (k : Int) < (n : Int) := by omega
      have k0 : (0 : Int) ≤ (k : Int) := by omega
      obtain ⟨q, hq⟩ : ∃ q, l[k]? = some q := ⟨l[k]'(by rw [HN.out]; exact hlt), List.getElem?_eq_getElem _⟩
      have hne : l ≠ [] := by intro e; rw [e] at hq; simp at hq
      obtain ⟨b1, o1, rfl, A⟩ := HCA.out.resolve_left hne
      obtain ⟨b2, o2, rfl, B⟩ := HCB.out.resolve_left hne
      have a0 := cell_keep (A k q hq).1 hbw
      have a1 := cell_keep (A k q hq).2 hbw
      have d0 := cell_keep (B k q hq).1 hbw
      have d1 := cell_keep (B k q hq).2 hbw
      clear A B hlt hk hq hne
      go_wp2
      go_quiet (fail)
      go_wp2
      go_roundw
      case rel => exact ⟨k + 1, by omega, by go_num, below_drewN hbw _⟩
      case measure => simp [intOf]; omega
    · have k1 : ¬ (k : Int) < (n : Int) := by omega
      go_wp2
      go_ret
      exact ⟨rfl, hbw⟩

end Go.Proofs.Ytcmocangmfengaa
