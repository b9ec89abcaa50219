/- req.requests: the iterator over a text's requests. -/
import Derived.Test.YtneibnoocfcndaaReq
import Derived.Test.YtneibnoocfcndaaReqAlls
namespace Go.Proofs.Ytneibnoocfcndaa
open Go.RowKit Go.Shelf

attribute [local go_sem] Oper.semAt_some

/-- A request and what stands behind it. -/
abbrev stepV (q : Req) (r : List UInt8) : Value := .agg #[.int .i64 q.flags, .int .i64 q.kind, .int .u64 (q.cookie : Nat), .int .u64 (q.frm : Nat), .int .u32 (q.len : Nat), .string ⟨q.data.toArray⟩, .string ⟨r.toArray⟩]
/-- How long the text in a box is. -/
def boxLen (w : World) (b : Nat) : Nat := match w.cell? ⟨b, 0, none⟩ with | some (.string s) => s.size | _ => 0
theorem boxLen_of {w : World} {b : Nat} {s : List UInt8} (h : w.cell? ⟨b, 0, none⟩ = some (.string ⟨s.toArray⟩)) : boxLen w b = s.length := by
  unfold boxLen
  rw [h]
  simp [ByteArray.size]

set_option maxRecDepth 100000 in
set_option maxHeartbeats 1000000 in
theorem requests1 (l Bs : Nat) (T : List UInt8) (E : Int) (J : List Req → List UInt8 → World → Prop) (K : World → Prop)
    (hJ : ∀ suf cur W, J suf cur W → W.cell? ⟨Bs, 0, none⟩ = some (.string ⟨cur.toArray⟩) ∧ Alls cur suf T E ∧ cur.length ≤ 9223372036854775807)
    (hB : ∀ suf cur W W', J suf cur W → Below W.heap.size W W' → J suf cur W')
    (hY : ∀ q suf cur r W, J (q :: suf) cur W → cur ≠ [] → readReq cur = (q, r, 0) → YieldAt Fence.wide 0 Try.prog l #[stepV q r, .int .i64 0] W
      fun e W' => e = .returned (.bool true) ∧ W'.cell? ⟨Bs, 0, none⟩ = some (.string ⟨cur.toArray⟩) ∧ W'.frozen? ⟨Bs, 0, none⟩ = false ∧ J suf r (W'.setCell ⟨Bs, 0, none⟩ (.string ⟨r.toArray⟩)))
    (hN : ∀ cur x r e W, J [] cur W → cur ≠ [] → readReq cur = (x, r, e) → e ≠ 0 → T = cur → E = e → YieldAt Fence.wide 0 Try.prog l #[stepV x r, .int .i64 e] W
      fun e' W' => e' = .returned (.bool false) ∧ K W')
    (suf0 : List Req) (cur0 : List UInt8) (W : World) (h0 : J suf0 cur0 W) :
    CallsIn Fence.wide 0 Try.prog 21 #[.func (.yield l) #[] #[], .pointer (some ⟨Bs, 0, none⟩)] W fun e W' => e = .returned (.tuple #[]) ∧ (J [] [] W' ∨ K W') := by
  refine callsIn_of Try.func21 rfl ?_
  simp only [Try.ntmps21, List.size_toArray, List.length_cons, List.length_nil, Nat.reduceAdd, Nat.reduceSub, Array.replicate_succ, Array.replicate_zero, List.push_toArray, List.append_toArray, List.nil_append, List.cons_append]
  gi_wp2
  gi_loopw [3] (fun _ wr => ∃ suf cur, J suf cur wr) (fun _ wr => boxLen wr Bs)
  case atStart => exact ⟨suf0, cur0, h0⟩
  case round =>
    obtain ⟨suf, cur, hJs⟩ := hrel
    obtain ⟨hc, ha, hl⟩ := hJ suf cur wr hJs
    rcases alls_cases ha with ⟨rfl, rfl, rfl, rfl⟩ | ⟨x, r, hs, rfl, hT, hr, he⟩ | ⟨q, r, suf, hs, rfl, hr, ha2⟩
    · clear hJ hB hY hN h0
      gi_wp2
      go_end0
      exact ⟨rfl, .inl hJs⟩
    · have hsl : cur.isEmpty = false := by simpa using hs
      have HR := Lib.hid (fun W => read_any cur hl W)
      rw [hr] at HR
      have HB := Lib.hid hB
      have HN := Lib.hid hN
      clear hJ hB hY hN h0
      gi_wp2_with fail
      refine ((callsIn_wide (n := 0)).2 (HR.out _)).mono ?_
      rintro e' w1 ⟨rfl, hb1⟩
      obtain ⟨fl, kd, ck, fr, ln, d⟩ := x
      have hJ2 := HB.out _ _ _ (w1.alloc (.cells #[.int .i64 fl, .int .i64 kd, .int .u64 (ck : Nat), .int .u64 (fr : Nat), .int .u32 (ln : Nat), .string ⟨d.toArray⟩] 25)) hJs (hb1.alloc hb1.size _)
      obtain ⟨fn, tmps, assign, body, hy, hR⟩ := HN.out cur ⟨fl, kd, ck, fr, ln, d⟩ r E _ hJ2 hs hr he hT rfl
      clear hJs hJ2 HB HN hb1 hr ha HR
      gi_wp2
      refine hR.mono ?_
      rintro e' W3 ⟨rfl, hK⟩
      gi_wp2
      exact bodyPost_ret (v := .tuple #[]) (by simp [results, Try.results21]) rfl ⟨rfl, .inr hK⟩
    · have hsl : cur.isEmpty = false := by simpa using hs
      have HR := Lib.hid (fun W => read_any cur hl W)
      rw [hr] at HR
      have HB := Lib.hid hB
      have HY := Lib.hid hY
      obtain ⟨_, _, _, hlen⟩ := req_read _ _ _ hr
      have hbl := boxLen_of hc
      clear hJ hB hY hN h0
      gi_wp2_with fail
      refine ((callsIn_wide (n := 0)).2 (HR.out _)).mono ?_
      rintro e' w1 ⟨rfl, hb1⟩
      obtain ⟨fl, kd, ck, fr, ln, d⟩ := q
      have hJ2 := HB.out _ _ _ (w1.alloc (.cells #[.int .i64 fl, .int .i64 kd, .int .u64 (ck : Nat), .int .u64 (fr : Nat), .int .u32 (ln : Nat), .string ⟨d.toArray⟩] 25)) hJs (hb1.alloc hb1.size _)
      obtain ⟨fn, tmps, assign, body, hy, hR⟩ := HY.out ⟨fl, kd, ck, fr, ln, d⟩ suf cur r _ hJ2 hs hr
      have HL := Lib.hid hlen
      have HBL := Lib.hid hbl
      clear hJs hJ2 HB HY hb1 hr ha HR hlen hbl
      gi_wp2
      refine hR.mono ?_
      rintro e' W3 ⟨rfl, hc3, hf3, hJ3⟩
      clear hc
      gi_wp2
      go_roundw
      case rel => exact ⟨suf, r, hJ3⟩
      case measure =>
        rw [HBL.out, boxLen_of (s := r) (by simp [hc3, go_sem])]
        have := HL.out
        omega

end Go.Proofs.Ytneibnoocfcndaa
