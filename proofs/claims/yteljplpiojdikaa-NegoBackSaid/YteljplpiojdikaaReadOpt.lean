/- opt.Read: an option is read by the reader; what it throws is recovered. -/
import Derived.Test.YteljplpiojdikaaReader
namespace Go.Proofs.Yteljplpiojdikaa
open Go.RowKit

theorem headO_ok (hd t r : List UInt8) (u : Unit) (hl : hd.length = 8) (hn : headO hd t = .ok u r) : 8 ≤ t.length ∧ t.take 8 = hd ∧ r = t.drop 8 := by
  unfold headO takeO at hn
  rw [hl] at hn
  by_cases h1 : t.take (min 8 t.length) ≠ hd.take (min 8 t.length)
  · rw [if_pos h1] at hn; cases hn
  · rw [if_neg h1] at hn
    by_cases h2 : t.length < 8
    · rw [if_pos h2] at hn; cases hn
    · rw [if_neg h2] at hn
      simp only [Out.ok.injEq] at hn
      rw [Nat.min_eq_left (by omega)] at h1
      refine ⟨by omega, ?_, hn.2.symm⟩
      rw [Classical.not_not.1 h1, List.take_of_length_le (by omega)]

theorem fourO_ok (t r : List UInt8) (k : Nat) (hn : fourO t = .ok k r) : 4 ≤ t.length ∧ k = de (t.take 4) ∧ r = t.drop 4 := by
  unfold fourO at hn
  by_cases h : t.length < 4
  · rw [if_pos h] at hn; cases hn
  · rw [if_neg h] at hn
    simp only [Out.ok.injEq] at hn
    exact ⟨by omega, hn.1.symm, hn.2.symm⟩

theorem fourO_thrown (t : List UInt8) (n : Int) (hn : fourO t = .thrown n) : t.length < 4 ∧ n = 22 := by
  unfold fourO at hn
  by_cases h : t.length < 4
  · rw [if_pos h] at hn
    simp only [Out.thrown.injEq] at hn
    exact ⟨h, hn.symm⟩
  · rw [if_neg h] at hn; cases hn

theorem only_of_below {w w1 : World} {row : Option Nat} (h : Below w.heap.size w w1) : w.grownBy w1 row := ⟨h.os, h.tape, h.output, h.size, fun k hk _ => h.block k hk⟩

abbrev optV (x : Nat × List UInt8) : Value := .agg #[.int .u32 (x.1 : Nat), .string ⟨x.2.toArray⟩]

section
variable (w : World) (b : Nat) (s : List UInt8) (hb : Blk w b 112 #[.string ⟨s.toArray⟩])
include hb

set_option maxRecDepth 100000 in
set_option maxHeartbeats 400000 in
theorem by_opt_throw (n : Int) (hm : s.length ≤ 9223372036854775807) (hn : readOptO s = .thrown n) : Calls Try.prog 47 #[.pointer (some ⟨b, 0, none⟩)] w (RdThrow w b n) := by
  have hb0 := hb.alloc (.cells #[.int .u32 0, .string ⟨#[]⟩] 58)
  have g0 : w.grownBy (w.alloc (.cells #[.int .u32 0, .string ⟨#[]⟩] 58)) (some b) := World.grownBy_alloc _ _ _
  have K0 := Lib.hid g0
  clear g0
  unfold readOptO at hn
  cases hh : headO optHead s with
  | thrown m =>
    rw [hh] at hn
    simp only [Out.thrown.injEq] at hn
    subst hn
    go_enter Try.func47, Try.ntmps47
    go_wp2_with fail
    refine (rd_head_throw _ b s hb0 optHead m rfl hh).mono ?_
    rintro e w1 ⟨rfl, hg⟩
    go_wp2
    exact ⟨rfl, rfl, only_trans K0.out hg⟩
  | ok u r =>
    rw [hh] at hn
    dsimp only at hn
    obtain ⟨h8, ht, rfl⟩ := headO_ok _ _ _ _ rfl hh
    clear hh
    cases h4 : fourO (s.drop 8) with
    | thrown m =>
      rw [h4] at hn
      simp only [Out.thrown.injEq] at hn
      subst hn
      obtain ⟨hl, rfl⟩ := fourO_thrown _ _ h4
      clear h4
      go_enter Try.func47, Try.ntmps47
      go_wp2_with fail
      refine (rd_head_ok _ b s hb0 optHead rfl h8 ht).mono ?_
      rintro e w1 ⟨rfl, hb1, hg⟩
      go_wp2_with fail
      refine (rd_four_short w1 b _ hb1 hl).mono ?_
      rintro e w2 ⟨rfl, hg2⟩
      go_wp2
      exact ⟨rfl, rfl, only_trans K0.out (only_trans hg hg2)⟩
    | ok k r2 =>
      rw [h4] at hn
      dsimp only at hn
      obtain ⟨hl, rfl, rfl⟩ := fourO_ok _ _ _ h4
      clear h4
      cases hd : dataO 4096 ((s.drop 8).drop 4) with
      | thrown m =>
        rw [hd] at hn
        simp only [Out.thrown.injEq] at hn
        subst hn
        have HD := Lib.hid hd
        clear hd
        go_enter Try.func47, Try.ntmps47
        go_wp2_with fail
        refine (rd_head_ok _ b s hb0 optHead rfl h8 ht).mono ?_
        rintro e w1 ⟨rfl, hb1, hg⟩
        go_wp2_with fail
        refine (rd_four_ok w1 b _ hb1 hl (by simp; omega)).mono ?_
        rintro e w2 ⟨rfl, hb2, hg2⟩
        go_wp2_with fail
        refine (rd_data_throw w2 b _ hb2 4096 m (by omega) (by simp; omega) HD.out).mono ?_
        rintro e w3 ⟨rfl, hg3⟩
        go_wp2
        exact ⟨rfl, rfl, only_trans K0.out (only_trans hg (only_trans hg2 hg3))⟩
      | ok d r3 =>
        rw [hd] at hn
        cases hn

set_option maxRecDepth 100000 in
set_option maxHeartbeats 400000 in
theorem by_opt_ok (x : Nat × List UInt8) (r : List UInt8) (hm : s.length ≤ 9223372036854775807) (hn : readOptO s = .ok x r) : Calls Try.prog 47 #[.pointer (some ⟨b, 0, none⟩)] w (RdOk w b (optV x) r) := by
  have hb0 := hb.alloc (.cells #[.int .u32 0, .string ⟨#[]⟩] 58)
  have x0 := Blk.new w 58 #[.int .u32 0, .string ⟨#[]⟩]
  have K0 : Hid (w.grownBy (w.alloc (.cells #[.int .u32 0, .string ⟨#[]⟩] 58)) (some b)) := World.grownBy_alloc _ _ _
  have hlt := hb.lt
  unfold readOptO at hn
  cases hh : headO optHead s with
  | thrown m => rw [hh] at hn; cases hn
  | ok u r1 =>
    rw [hh] at hn
    dsimp only at hn
    obtain ⟨h8, ht, rfl⟩ := headO_ok _ _ _ _ rfl hh
    clear hh
    cases h4 : fourO (s.drop 8) with
    | thrown m => rw [h4] at hn; cases hn
    | ok k r2 =>
      rw [h4] at hn
      dsimp only at hn
      obtain ⟨hl, rfl, rfl⟩ := fourO_ok _ _ _ h4
      clear h4
      cases hd : dataO 4096 ((s.drop 8).drop 4) with
      | thrown m => rw [hd] at hn; cases hn
      | ok d r3 =>
        rw [hd] at hn
        simp only [Out.ok.injEq] at hn
        obtain ⟨rfl, rfl⟩ := hn
        have HD := Lib.hid hd
        clear hd
        unfold optV
        dsimp only
        go_enter Try.func47, Try.ntmps47
        go_wp2_with fail
        refine (rd_head_ok _ b s hb0 optHead rfl h8 ht).mono ?_
        rintro e w1 ⟨rfl, hb1, hg⟩
        have x1 : Blk w1 w.heap.size 58 #[.int .u32 0, .string ⟨#[]⟩] := (hg.block _ (by simp) (by simp; omega)).trans x0
        go_wp2_with fail
        refine (rd_four_ok w1 b _ hb1 hl (by simp; omega)).mono ?_
        rintro e w2 ⟨rfl, hb2, hg2⟩
        have x2 : Blk w2 w.heap.size 58 #[.int .u32 0, .string ⟨#[]⟩] := (hg2.block _ x1.lt (by simp; omega)).trans x1
        go_wp2_with fail
        refine (rd_data_ok w2 b _ hb2 4096 d r3 (by omega) (by simp; omega) HD.out).mono ?_
        rintro e w3 ⟨rfl, hb3, hg3⟩
        have x3 : Blk w3 w.heap.size 58 #[.int .u32 0, .string ⟨#[]⟩] := (hg3.block _ x2.lt (by simp; omega)).trans x2
        have c0 := x3.cell 0
        have c1 := x3.cell 1
        have f0 := x3.frozen 0
        have f1 := x3.frozen 1
        simp only [List.getElem?_toArray, List.getElem?_cons_zero, List.getElem?_cons_succ] at c0 c1
        have K1 := Lib.hid hg
        have K2 := Lib.hid hg2
        have K3 := Lib.hid hg3
        have hne : b ≠ w.heap.size := by omega
        clear hg hg2 hg3
        go_wp2
        refine bodyPost_ret (v := .agg #[.int .u32 (de ((s.drop 8).take 4) : Nat), .string ⟨d.toArray⟩]) (by simp [results, Try.results47, go_sem, c0, c1]) rfl ⟨rfl, ?_, ?_⟩
        · exact (hb3.far (by exact hne) _).far (by exact hne) _
        · have hk := only_trans K0.out (only_trans K1.out (only_trans K2.out K3.out))
          refine ⟨hk.os, hk.tape, hk.output, by simpa using hk.size, fun i hi hne2 => ?_⟩
          rw [heap_set (by dsimp only; omega), heap_set (by dsimp only; omega)]
          exact hk.block i hi hne2
end

end Go.Proofs.Yteljplpiojdikaa
