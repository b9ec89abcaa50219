/- The document's Fit and Write of requests. -/
import Derived.Test.YtfcojhpnpfodeaaMatSame
import Derived.Test.YtfcojhpnpfodeaaMRepChunk
import Derived.Test.YtfcojhpnpfodeaaReqLaw
namespace Go.Proofs.Ytfcojhpnpfodeaa
open Go.RowKit

set_option maxRecDepth 100000 in
set_option maxHeartbeats 1000000 in
theorem rfit_any (q : Req) (hq : q.len < 4294967296) (hd : q.data.length ≤ 9223372036854775807) (w : World) : Calls Try.prog 31 #[reqV q] w (Gives (.bool q.fit) w) := by
  obtain ⟨fl, kd, ck, fr, ln, d⟩ := q
  unfold reqV
  dsimp only at hq hd ⊢
  have hw1 : IntKind.u64.wrap (d.length : Int) = (d.length : Int) := by rw [IntKind.wrap_u64]; omega
  have hw2 : IntKind.u64.wrap (ln : Int) = (ln : Int) := by rw [IntKind.wrap_u64]; omega
  go_enter Try.func31, Try.ntmps31
  go_wp2
  all_goals go_ret
  all_goals (refine gives_bool ?_ ((Below.refl _ _).alloc (Nat.le_refl _) _); simp_all [Req.fit]; try (first | omega | (intro _; omega) | (rw [Bool.eq_iff_iff]; simp; omega)))

theorem held6c {a w w' : World} {B : Nat} {c0 c1 c2 c3 c4 c5 : Value} (h : w.cell? ⟨B, 0, none⟩ = some c0 ∧ w.cell? ⟨B, 1, none⟩ = some c1 ∧ w.cell? ⟨B, 2, none⟩ = some c2 ∧ w.cell? ⟨B, 3, none⟩ = some c3 ∧ w.cell? ⟨B, 4, none⟩ = some c4 ∧ w.cell? ⟨B, 5, none⟩ = some c5 ∧ B < w.heap.size ∧ Below B a w) (hb : Below w.heap.size w w') :
    w'.cell? ⟨B, 0, none⟩ = some c0 ∧ w'.cell? ⟨B, 1, none⟩ = some c1 ∧ w'.cell? ⟨B, 2, none⟩ = some c2 ∧ w'.cell? ⟨B, 3, none⟩ = some c3 ∧ w'.cell? ⟨B, 4, none⟩ = some c4 ∧ w'.cell? ⟨B, 5, none⟩ = some c5 ∧ B < w'.heap.size ∧ Below B a w' := by
  obtain ⟨h0, h1, h2, h3, h4, h5, hl, hw⟩ := h
  exact ⟨cell_keepS h0 hb, cell_keepS h1 hb, cell_keepS h2 hb, cell_keepS h3 hb, cell_keepS h4 hb, cell_keepS h5 hb, by have := hb.size; omega, hw.trans (hb.mono (by omega))⟩

set_option maxRecDepth 100000 in
set_option maxHeartbeats 4000000 in
theorem rwrite_fit (fl kd ck fr ln : Nat) (d : List UInt8) (hln : ln < 4294967296) (hfl : fl < 65536) (hkd : kd < 65536) (hck : ck < 18446744073709551616) (hfr : fr < 18446744073709551616) (hd : d.length ≤ 4096) (hf : (Req.mk fl kd ck fr ln d).fit = true) (w : World) :
    Calls Try.prog 33 #[reqV ⟨fl, kd, ck, fr, ln, d⟩] w (Gives (.tuple #[.string ⟨(reqBytes ⟨fl, kd, ck, fr, ln, d⟩).toArray⟩, .int .i64 0]) w) := by
  have HFT := Lib.hid (fun W => rfit_any ⟨fl, kd, ck, fr, ln, d⟩ hln (by dsimp only; omega) W)
  rw [hf] at HFT
  unfold reqV at HFT ⊢
  dsimp only at HFT ⊢
  have HFl := Lib.hid (fun W => rput_any fl 2 (by omega) (by decide) (by decide) W)
  have HKd := Lib.hid (fun W => rput_any kd 2 (by omega) (by decide) (by decide) W)
  have HCk := Lib.hid (fun W => rput_any ck 8 hck (by decide) (by decide) W)
  have HFr := Lib.hid (fun W => rput_any fr 8 hfr (by decide) (by decide) W)
  have HLn := Lib.hid (fun W => rput_any ln 4 (by omega) (by decide) (by decide) W)
  have mixed : Try.prog.follows .mixedOrders = true := by kernel_rfl
  have HF := Lib.hid (show reqHead ++ be 2 fl ++ be 2 kd ++ be 8 ck ++ be 8 fr ++ be 4 ln ++ d = reqBytes ⟨fl, kd, ck, fr, ln, d⟩ by simp [reqBytes])
  have hl0 : (be 2 fl).length = 2 := be_length _ _
  have hl1 : (be 2 kd).length = 2 := be_length _ _
  have hl2 : (be 8 ck).length = 8 := be_length _ _
  have hl3 : (be 8 fr).length = 8 := be_length _ _
  have hl4 : (be 4 ln).length = 4 := be_length _ _
  have hw1 : IntKind.u64.wrap (fl : Int) = (fl : Int) := by rw [IntKind.wrap_u64]; omega
  have hw2 : IntKind.u64.wrap (kd : Int) = (kd : Int) := by rw [IntKind.wrap_u64]; omega
  have hw3 : IntKind.u64.wrap (ln : Int) = (ln : Int) := by rw [IntKind.wrap_u64]; omega
  have hsz : ¬ (9223372036854775807 < 28 + d.length) := by omega
  generalize reqBytes ⟨fl, kd, ck, fr, ln, d⟩ = out at HF ⊢
  clear hf
  go_enter Try.func33, Try.ntmps33
  go_wp2_with fail
  have hB0 : Below w.heap.size w (w.alloc (.cells #[.int .i64 fl, .int .i64 kd, .int .u64 (ck : Nat), .int .u64 (fr : Nat), .int .u32 (ln : Nat), .string ⟨d.toArray⟩] 37)) := by (repeat' (first | (with_reducible assumption) | (with_reducible exact Below.refl _ _) | (with_reducible refine below_drewN ?_ _) | (with_reducible refine Below.drew ?_) | (with_reducible refine Below.setCell ?_ ?_ _) | (with_reducible refine Below.alloc ?_ ?_ _) | (with_reducible refine below_putObj ?_ ?_ _) | (with_reducible exact Nat.le_refl _) | omega | (simp; done) | (simp; omega)))
  refine (HFT.out _).mono ?_
  rintro e w1 ⟨rfl, hb1⟩
  have x0 := (Blk.new w 37 #[.int .i64 fl, .int .i64 kd, .int .u64 (ck : Nat), .int .u64 (fr : Nat), .int .u32 (ln : Nat), .string ⟨d.toArray⟩]).below hb1 (Blk.new w 37 #[.int .i64 fl, .int .i64 kd, .int .u64 (ck : Nat), .int .u64 (fr : Nat), .int .u32 (ln : Nat), .string ⟨d.toArray⟩]).lt
  have c0 := x0.cell 0
  have c1 := x0.cell 1
  have c2 := x0.cell 2
  have c3 := x0.cell 3
  have c4 := x0.cell 4
  have c5 := x0.cell 5
  simp only [List.getElem?_toArray, List.getElem?_cons_zero, List.getElem?_cons_succ] at c0 c1 c2 c3 c4 c5
  have hlt := x0.lt
  have hB := below_next hB0 hb1
  clear x0 hB0 hb1 HFT
  go_wp2_with fail
  go_region_held3 (fun w' => w'.cell? ⟨w.heap.size, 0, none⟩ = some (.int .i64 (fl : Int)) ∧ w'.cell? ⟨w.heap.size, 1, none⟩ = some (.int .i64 (kd : Int)) ∧ w'.cell? ⟨w.heap.size, 2, none⟩ = some (.int .u64 (ck : Nat)) ∧ w'.cell? ⟨w.heap.size, 3, none⟩ = some (.int .u64 (fr : Nat)) ∧ w'.cell? ⟨w.heap.size, 4, none⟩ = some (.int .u32 (ln : Nat)) ∧ w'.cell? ⟨w.heap.size, 5, none⟩ = some (.string ⟨d.toArray⟩) ∧ w.heap.size < w'.heap.size ∧ Below w.heap.size w w')
    (first | assumption | exact ⟨c0, c1, c2, c3, c4, c5, hlt, hB.drew⟩ | exact held6c (by assumption) hb)
    (first | (go_at_call_of 26 (Value.int .u64 ((fl : Nat) : Int)); refine (HFl.out _).mono ?_; rintro e w' ⟨rfl, hb⟩) | (go_at_call_of 26 (Value.int .u64 ((kd : Nat) : Int)); refine (HKd.out _).mono ?_; rintro e w' ⟨rfl, hb⟩) | (go_at_call_of 26 (Value.int .u64 ((ck : Nat) : Int)); refine (HCk.out _).mono ?_; rintro e w' ⟨rfl, hb⟩) | (go_at_call_of 26 (Value.int .u64 ((fr : Nat) : Int)); refine (HFr.out _).mono ?_; rintro e w' ⟨rfl, hb⟩) | (go_at_call_of 26 (Value.int .u64 ((ln : Nat) : Int)); refine (HLn.out _).mono ?_; rintro e w' ⟨rfl, hb⟩))
  all_goals go_wp2
  all_goals go_ret2
  all_goals exact ⟨by rw [← HF.out]; simp [reqHead], ‹_ ∧ _ ∧ _ ∧ _ ∧ _ ∧ _ ∧ _ ∧ Below w.heap.size w _›.2.2.2.2.2.2.2⟩

set_option maxRecDepth 100000 in
set_option maxHeartbeats 1000000 in
theorem rwrite_any (q : Req) (hq : q.wf) (hf : q.fit = true) (w : World) :
    Calls Try.prog 33 #[reqV q] w (Gives (.tuple #[.string ⟨(reqBytes q).toArray⟩, .int .i64 0]) w) := by
  obtain ⟨h1, h2, h3, h4, h5, _⟩ := fit_bounds q hf
  obtain ⟨g1, g2, g3⟩ := hq
  obtain ⟨fl, kd, ck, fr, ln, d⟩ := q
  dsimp only at h1 h2 h3 h4 h5 g1 g2 g3
  obtain ⟨a, rfl⟩ := Int.eq_ofNat_of_zero_le h1
  obtain ⟨b, rfl⟩ := Int.eq_ofNat_of_zero_le h3
  exact rwrite_fit a b ck fr ln d (by assumption) (by omega) (by omega) (by assumption) (by assumption) h5 hf w

end Go.Proofs.Ytfcojhpnpfodeaa
