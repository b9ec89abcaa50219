/- rep.extents: the iterator over a text's extents. -/
import Derived.Test.YtfcojhpnpfodeaaMRepExts
import Derived.Test.YtfcojhpnpfodeaaMRepBase
import Derived.Stop.RegionWithIn
namespace Go.Proofs.Ytfcojhpnpfodeaa
open Go.RowKit Go.Shelf

attribute [local go_sem] Oper.semAt_some

/-- How long the text in a box is. -/
def boxLen (w : World) (b : Nat) : Nat := match w.cell? ⟨b, 0, none⟩ with | some (.string s) => s.size | _ => 0
theorem boxLen_of {w : World} {b : Nat} {s : List UInt8} (h : w.cell? ⟨b, 0, none⟩ = some (.string ⟨s.toArray⟩)) : boxLen w b = s.length := by
  unfold boxLen
  rw [h]
  simp [ByteArray.size]

set_option maxRecDepth 100000 in
set_option maxHeartbeats 2000000 in
theorem extents1 (l Bs : Nat) (T : Bool) (J : List Ext → List UInt8 → World → Prop) (K : World → Prop)
    (hJ : ∀ suf cur W, J suf cur W → W.cell? ⟨Bs, 0, none⟩ = some (.string ⟨cur.toArray⟩) ∧ Exts cur suf T ∧ cur.length ≤ 100000)
    (hB : ∀ suf cur W W', J suf cur W → Below W.heap.size W W' → J suf cur W')
    (hY : ∀ suf cur W, J (ext1 cur :: suf) cur W → 8 ≤ cur.length → rnum cur 0 4 ≠ 0 → Exts (cur.drop 8) suf T → YieldAt Fence.wide 0 Try.prog l #[.agg #[.int .i64 (rnum cur 0 4 : Nat), .int .i64 (rnum cur 4 4 : Nat)]] W
      fun e W' => e = .returned (.bool true) ∧ W'.cell? ⟨Bs, 0, none⟩ = some (.string ⟨cur.toArray⟩) ∧ W'.frozen? ⟨Bs, 0, none⟩ = false ∧ J suf (cur.drop 8) (W'.setCell ⟨Bs, 0, none⟩ (.string ⟨(cur.drop 8).toArray⟩)))
    (hN : ∀ cur W, J [] cur W → T = false → 8 ≤ cur.length → rnum cur 0 4 = 0 → YieldAt Fence.wide 0 Try.prog l #[.agg #[.int .i64 (rnum cur 0 4 : Nat), .int .i64 (rnum cur 4 4 : Nat)]] W
      fun e' W' => e' = .returned (.bool false) ∧ K W')
    (suf0 : List Ext) (cur0 : List UInt8) (W : World) (h0 : J suf0 cur0 W) :
    CallsIn Fence.wide 0 Try.prog 80 #[.func (.yield l) #[] #[], .pointer (some ⟨Bs, 0, none⟩)] W fun e W' => e = .returned (.tuple #[]) ∧ ((T = true ∧ J [] [] W') ∨ (T = false ∧ K W')) := by
  have mixed : Try.prog.follows .mixedOrders = true := by kernel_rfl
  refine callsIn_of Try.func80 rfl ?_
  simp only [Try.ntmps80, List.size_toArray, List.length_cons, List.length_nil, Nat.reduceAdd, Nat.reduceSub, Array.replicate_succ, Array.replicate_zero, List.push_toArray, List.append_toArray, List.nil_append, List.cons_append]
  gi_wp2
  gi_loopw [3] (fun _ wr => ∃ suf cur, J suf cur wr) (fun _ wr => boxLen wr Bs)
  case atStart => exact ⟨suf0, cur0, h0⟩
  case round =>
    obtain ⟨suf, cur, hJs⟩ := hrel
    obtain ⟨hc, ha, hl⟩ := hJ suf cur wr hJs
    have hlt := World.block_lt_of_cell? wr _ hc
    dsimp only at hlt
    rcases exts_cases ha with ⟨rfl, rfl, rfl⟩ | ⟨h8, hz, rfl, rfl⟩ | ⟨suf, h8, hz, rfl, ha2⟩
    · clear hJ hB hY hN h0
      gi_wp2
      go_end0
      exact ⟨rfl, hJs⟩
    · have hsl : cur.isEmpty = false := by cases cur; simp at h8; rfl
      have HYW := Lib.hid (fun W' hb => hN cur W' (hB _ _ _ W' hJs hb) rfl h8 hz)
      have H0 := Lib.hid (fun W => at_any cur 0 4 (by decide) (by decide) (by omega) (by omega) W)
      have H4 := Lib.hid (fun W => at_any cur 4 4 (by decide) (by decide) (by omega) (by omega) W)
      have l0 := rnum_lt cur 0 4
      have l4 := rnum_lt cur 4 4
      generalize rnum cur 0 4 = a at H0 HYW l0 hz
      generalize rnum cur 4 4 = b at H4 HYW l4
      have hw0 : IntKind.i64.wrap (a : Int) = (a : Int) := by rw [IntKind.wrap_i64]; omega
      have hw4 : IntKind.i64.wrap (b : Int) = (b : Int) := by rw [IntKind.wrap_i64]; omega
      clear hJ hB hY hN h0 hJs ha hz l0 l4
      gi_wp2_with fail
      gi_region_with (first
        | (gi_at_call 51; (fail_if_success (have hbx := hb6)); refine ((callsIn_wide (n := 0)).2 (H0.out _)).mono ?_; rintro e w6 ⟨rfl, hb6⟩; have hcb6 : w6.cell? ⟨Bs, 0, none⟩ = some (.string ⟨cur.toArray⟩) := (hb6.cell (p := ⟨Bs, 0, none⟩) hlt).trans hc)
        | (gi_at_call 51; refine ((callsIn_wide (n := 0)).2 (H4.out _)).mono ?_; rintro e w8 ⟨rfl, hb8⟩; obtain ⟨fn, tmps, assign, body, hy, hR⟩ := HYW.out w8 (below_next ((Below.refl _ wr).drew) (hb6.trans (hb8.mono hb6.size))))
        | (refine hR.mono ?_; rintro e W3 ⟨rfl, hK⟩))
      all_goals gi_wp2
      all_goals exact bodyPost_ret (v := .tuple #[]) (by simp [results, Try.results80]) rfl ⟨rfl, hK⟩
    · have hsl : cur.isEmpty = false := by cases cur; simp at h8; rfl
      have HYW := Lib.hid (fun W' hb => hY suf cur W' (hB _ _ _ W' hJs hb) h8 hz ha2)
      have hlen : (cur.drop 8).length < cur.length := by rw [List.length_drop]; omega
      have HL := Lib.hid hlen
      have HBL := Lib.hid (boxLen_of hc)
      have h8i : (8 : Int) ≤ (cur.length : Int) := by omega
      have H0 := Lib.hid (fun W => at_any cur 0 4 (by decide) (by decide) (by omega) (by omega) W)
      have H4 := Lib.hid (fun W => at_any cur 4 4 (by decide) (by decide) (by omega) (by omega) W)
      have l0 := rnum_lt cur 0 4
      have l4 := rnum_lt cur 4 4
      generalize rnum cur 0 4 = a at H0 HYW l0 hz
      generalize rnum cur 4 4 = b at H4 HYW l4
      have hw0 : IntKind.i64.wrap (a : Int) = (a : Int) := by rw [IntKind.wrap_i64]; omega
      have hw4 : IntKind.i64.wrap (b : Int) = (b : Int) := by rw [IntKind.wrap_i64]; omega
      clear hJ hB hY hN h0 hJs ha ha2 hz l0 l4 hlen
      gi_wp2_with fail
      gi_region_with (first
        | (gi_at_call 51; (fail_if_success (have hbx := hb6)); refine ((callsIn_wide (n := 0)).2 (H0.out _)).mono ?_; rintro e w6 ⟨rfl, hb6⟩; have hcb6 : w6.cell? ⟨Bs, 0, none⟩ = some (.string ⟨cur.toArray⟩) := (hb6.cell (p := ⟨Bs, 0, none⟩) hlt).trans hc)
        | (gi_at_call 51; refine ((callsIn_wide (n := 0)).2 (H4.out _)).mono ?_; rintro e w8 ⟨rfl, hb8⟩; obtain ⟨fn, tmps, assign, body, hy, hR⟩ := HYW.out w8 (below_next ((Below.refl _ wr).drew) (hb6.trans (hb8.mono hb6.size))))
        | (refine hR.mono ?_; rintro e W3 ⟨rfl, hc3, hf3, hJ3⟩))
      all_goals
        clear hc hcb6
        gi_wp2
        go_roundw
        case rel => exact ⟨suf, _, hJ3⟩
        case measure =>
          rw [HBL.out, boxLen_of (s := cur.drop 8) (by simp [hc3, go_sem])]
          exact HL.out

end Go.Proofs.Ytfcojhpnpfodeaa
