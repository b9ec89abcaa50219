/- opt.ToAnswer: an answer is read by the reader; what it throws is recovered. -/
import Derived.Test.YtcmgecojhjdjkaaAnsKit
namespace Go.Proofs.Ytcmgecojhjdjkaa
open Go.RowKit

abbrev ansV (x : Nat × Nat × List UInt8) : Value := .agg #[.int .u32 (x.1 : Nat), .int .u32 (x.2.1 : Nat), .string ⟨x.2.2.toArray⟩]

section
variable (w : World) (b : Nat) (s : List UInt8) (hb : Blk w b 92 #[.string ⟨s.toArray⟩])
include hb

set_option maxRecDepth 100000 in
set_option maxHeartbeats 400000 in
theorem by_ans_throw (n : Int) (hm : s.length ≤ 9223372036854775807) (hn : readAnsO s = .thrown n) : Calls Try.prog 38 #[.pointer (some ⟨b, 0, none⟩)] w (RdThrow w b n) := by
  have hb0 := hb.alloc (.cells #[.int .u32 0, .int .u32 0, .string ⟨#[]⟩] 41)
  have g0 : w.grownBy (w.alloc (.cells #[.int .u32 0, .int .u32 0, .string ⟨#[]⟩] 41)) (some b) := World.grownBy_alloc _ _ _
  have K0 := Lib.hid g0
  clear g0
  unfold readAnsO at hn
  cases hh : headO ansHead s with
  | thrown m =>
    rw [hh] at hn
    simp only [Out.thrown.injEq] at hn
    subst hn
    go_enter Try.func38, Try.ntmps38
    go_wp2_with fail
    refine (rd_head_throw _ b s hb0 ansHead m rfl hh).mono ?_
    rintro e w1 ⟨rfl, hg⟩
    go_wp2
    exact ⟨rfl, rfl, only_trans K0.out hg⟩
  | ok u r =>
    rw [hh] at hn
    dsimp only at hn
    obtain ⟨h8, ht, rfl⟩ := headO_ok _ _ _ _ rfl hh
    clear hh
    cases h4 : fourO (s.drop 8) with
    | thrown m =>
      rw [h4] at hn
      simp only [Out.thrown.injEq] at hn
      subst hn
      obtain ⟨hl, rfl⟩ := fourO_thrown _ _ h4
      clear h4
      go_enter Try.func38, Try.ntmps38
      go_wp2_with fail
      refine (rd_head_ok _ b s hb0 ansHead rfl h8 ht).mono ?_
      rintro e w1 ⟨rfl, hb1, hg⟩
      go_wp2_with fail
      refine (rd_four_short w1 b _ hb1 hl).mono ?_
      rintro e w2 ⟨rfl, hg2⟩
      go_wp2
      exact ⟨rfl, rfl, only_trans K0.out (only_trans hg hg2)⟩
    | ok o r1 =>
      rw [h4] at hn
      dsimp only at hn
      obtain ⟨hl, rfl, rfl⟩ := fourO_ok _ _ _ h4
      clear h4
      cases h5 : fourO ((s.drop 8).drop 4) with
      | thrown m =>
        rw [h5] at hn
        simp only [Out.thrown.injEq] at hn
        subst hn
        obtain ⟨hl2, rfl⟩ := fourO_thrown _ _ h5
        clear h5
        go_enter Try.func38, Try.ntmps38
        go_wp2_with fail
        refine (rd_head_ok _ b s hb0 ansHead rfl h8 ht).mono ?_
        rintro e w1 ⟨rfl, hb1, hg⟩
        go_wp2_with fail
        refine (rd_four_ok w1 b _ hb1 hl (by simp; omega)).mono ?_
        rintro e w2 ⟨rfl, hb2, hg2⟩
        go_wp2_with fail
        refine (rd_four_short w2 b _ hb2 hl2).mono ?_
        rintro e w3 ⟨rfl, hg3⟩
        go_wp2
        exact ⟨rfl, rfl, only_trans K0.out (only_trans hg (only_trans hg2 hg3))⟩
      | ok k r2 =>
        rw [h5] at hn
        dsimp only at hn
        obtain ⟨hl2, rfl, rfl⟩ := fourO_ok _ _ _ h5
        clear h5
        cases hd : dataO 4096 (((s.drop 8).drop 4).drop 4) with
        | thrown m =>
          rw [hd] at hn
          simp only [Out.thrown.injEq] at hn
          subst hn
          have HD := Lib.hid hd
          clear hd
          go_enter Try.func38, Try.ntmps38
          go_wp2_with fail
          refine (rd_head_ok _ b s hb0 ansHead rfl h8 ht).mono ?_
          rintro e w1 ⟨rfl, hb1, hg⟩
          go_wp2_with fail
          refine (rd_four_ok w1 b _ hb1 hl (by simp; omega)).mono ?_
          rintro e w2 ⟨rfl, hb2, hg2⟩
          go_wp2_with fail
          refine (rd_four_ok w2 b _ hb2 hl2 (by simp; omega)).mono ?_
          rintro e w3 ⟨rfl, hb3, hg3⟩
          go_wp2_with fail
          refine (rd_data_throw w3 b _ hb3 4096 m (by omega) (by simp; omega) HD.out).mono ?_
          rintro e w4 ⟨rfl, hg4⟩
          go_wp2
          exact ⟨rfl, rfl, only_trans K0.out (only_trans hg (only_trans hg2 (only_trans hg3 hg4)))⟩
        | ok d r3 =>
          rw [hd] at hn
          cases hn

set_option maxRecDepth 100000 in
set_option maxHeartbeats 400000 in
theorem by_ans_ok (x : Nat × Nat × List UInt8) (r : List UInt8) (hm : s.length ≤ 9223372036854775807) (hn : readAnsO s = .ok x r) : Calls Try.prog 38 #[.pointer (some ⟨b, 0, none⟩)] w (RdOk w b (ansV x) r) := by
  have hb0 := hb.alloc (.cells #[.int .u32 0, .int .u32 0, .string ⟨#[]⟩] 41)
  have x0 := Blk.new w 41 #[.int .u32 0, .int .u32 0, .string ⟨#[]⟩]
  have K0 : Hid (w.grownBy (w.alloc (.cells #[.int .u32 0, .int .u32 0, .string ⟨#[]⟩] 41)) (some b)) := World.grownBy_alloc _ _ _
  have hlt := hb.lt
  unfold readAnsO at hn
  cases hh : headO ansHead s with
  | thrown m => rw [hh] at hn; cases hn
  | ok u r1 =>
    rw [hh] at hn
    dsimp only at hn
    obtain ⟨h8, ht, rfl⟩ := headO_ok _ _ _ _ rfl hh
    clear hh
    cases h4 : fourO (s.drop 8) with
    | thrown m => rw [h4] at hn; cases hn
    | ok o r2 =>
      rw [h4] at hn
      dsimp only at hn
      obtain ⟨hl, rfl, rfl⟩ := fourO_ok _ _ _ h4
      clear h4
      cases h5 : fourO ((s.drop 8).drop 4) with
      | thrown m => rw [h5] at hn; cases hn
      | ok k r3 =>
        rw [h5] at hn
        dsimp only at hn
        obtain ⟨hl2, rfl, rfl⟩ := fourO_ok _ _ _ h5
        clear h5
        cases hd : dataO 4096 (((s.drop 8).drop 4).drop 4) with
        | thrown m => rw [hd] at hn; cases hn
        | ok d r4 =>
          rw [hd] at hn
          simp only [Out.ok.injEq] at hn
          obtain ⟨rfl, rfl⟩ := hn
          have HD := Lib.hid hd
          clear hd
          unfold ansV
          dsimp only
          go_enter Try.func38, Try.ntmps38
          go_wp2_with fail
          refine (rd_head_ok _ b s hb0 ansHead rfl h8 ht).mono ?_
          rintro e w1 ⟨rfl, hb1, hg⟩
          have x1 : Blk w1 w.heap.size 41 #[.int .u32 0, .int .u32 0, .string ⟨#[]⟩] := (hg.block _ (by simp) (by simp; omega)).trans x0
          go_wp2_with fail
          refine (rd_four_ok w1 b _ hb1 hl (by simp; omega)).mono ?_
          rintro e w2 ⟨rfl, hb2, hg2⟩
          have x2 : Blk w2 w.heap.size 41 #[.int .u32 0, .int .u32 0, .string ⟨#[]⟩] := (hg2.block _ x1.lt (by simp; omega)).trans x1
          go_wp2_with fail
          refine (rd_four_ok w2 b _ hb2 hl2 (by simp; omega)).mono ?_
          rintro e w3 ⟨rfl, hb3, hg3⟩
          have x3 : Blk w3 w.heap.size 41 #[.int .u32 0, .int .u32 0, .string ⟨#[]⟩] := (hg3.block _ x2.lt (by simp; omega)).trans x2
          go_wp2_with fail
          refine (rd_data_ok w3 b _ hb3 4096 d _ (by omega) (by simp; omega) HD.out).mono ?_
          rintro e w4 ⟨rfl, hb4, hg4⟩
          have x4 : Blk w4 w.heap.size 41 #[.int .u32 0, .int .u32 0, .string ⟨#[]⟩] := (hg4.block _ x3.lt (by simp; omega)).trans x3
          have c0 := x4.cell 0
          have c1 := x4.cell 1
          have c2 := x4.cell 2
          have f0 := x4.frozen 0
          have f1 := x4.frozen 1
          have f2 := x4.frozen 2
          simp only [List.getElem?_toArray, List.getElem?_cons_zero, List.getElem?_cons_succ] at c0 c1 c2
          have K1 := Lib.hid hg
          have K2 := Lib.hid hg2
          have K3 := Lib.hid hg3
          have K4 := Lib.hid hg4
          have hne : b ≠ w.heap.size := by omega
          clear hg hg2 hg3 hg4
          go_wp2
          refine bodyPost_ret (v := .agg #[.int .u32 (de ((s.drop 8).take 4) : Nat), .int .u32 (de (((s.drop 8).drop 4).take 4) : Nat), .string ⟨d.toArray⟩]) (by simp [results, Try.results38, go_sem, c0, c1, c2]) rfl ⟨rfl, ?_, ?_⟩
          · exact ((hb4.far (by exact hne) _).far (by exact hne) _).far (by exact hne) _
          · have hk := only_trans K0.out (only_trans K1.out (only_trans K2.out (only_trans K3.out K4.out)))
            refine ⟨hk.os, hk.tape, hk.output, by simpa using hk.size, fun i hi hne2 => ?_⟩
            rw [heap_set (by dsimp only; omega), heap_set (by dsimp only; omega), heap_set (by dsimp only; omega)]
            exact hk.block i hi hne2
end

end Go.Proofs.Ytcmgecojhjdjkaa
