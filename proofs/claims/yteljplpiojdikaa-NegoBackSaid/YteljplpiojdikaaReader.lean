/- opt's reader: take, four, data, head. -/
import Derived.Test.YteljplpiojdikaaOptSpec
import Derived.Test.YteljplpiojdikaaTake
import Derived.Test.YteljplpiojdikaaBuilder
import Derived.Defers
import Derived.Recover
namespace Go.Proofs.Yteljplpiojdikaa
open Go.RowKit

abbrev thrown (n : Int) : List PanicEntry := [{ v := .iface 109 (.int .i64 n), recovered := false }]
/-- A reader's method returns a value, and the reader has what is left; nothing else has turned. -/
def RdOk (w : World) (b : Nat) (v : Value) (r : List UInt8) (e : Ending) (w' : World) : Prop := e = .returned v ∧ Blk w' b 112 #[.string ⟨r.toArray⟩] ∧ w.grownBy w' (some b)
/-- A reader's method throws. -/
def RdThrow (w : World) (b : Nat) (n : Int) (e : Ending) (w' : World) : Prop := e = .panicked (thrown n) ∧ w.grownBy w' (some b)

theorem at_door {P : Program} {fn : Func} {R : Ending → World → Prop} {ex : Exit} {a : Act} {w : World} (h : ∀ W, W = w → bodyPostD P fn R ex a W) : bodyPostD P fn R ex a w := h w rfl
theorem only_below {w w1 w2 : World} {row : Option Nat} (h : w.grownBy w1 row) (k : Below w1.heap.size w1 w2) : w.grownBy w2 row :=
  ⟨k.os.trans h.os, k.tape.trans h.tape, k.output.trans h.output, Nat.le_trans h.size k.size, fun i hi hne => (k.block i (Nat.lt_of_lt_of_le hi h.size)).trans (h.block i hi hne)⟩
theorem only_trans {w w1 w2 : World} {row : Option Nat} (h : w.grownBy w1 row) (k : w1.grownBy w2 row) : w.grownBy w2 row :=
  ⟨k.os.trans h.os, k.tape.trans h.tape, k.output.trans h.output, Nat.le_trans h.size k.size, fun i hi hne => (k.block i (Nat.lt_of_lt_of_le hi h.size) hne).trans (h.block i hi hne)⟩
theorem only_drewN {w w1 : World} {row : Option Nat} (h : w.grownBy w1 row) (n : Nat) : w.grownBy (w1.drewN n) row := ⟨h.os, h.tape, h.output, h.size, h.block⟩

theorem headO_thrown (h t : List UInt8) (n : Int) (hn : headO h t = .thrown n) :
    (n = 14 ∧ t.take (min h.length t.length) ≠ h.take (min h.length t.length)) ∨ (n = 22 ∧ t.take (min h.length t.length) = h.take (min h.length t.length) ∧ t.length < h.length) := by
  unfold headO takeO at hn
  by_cases h1 : t.take (min h.length t.length) ≠ h.take (min h.length t.length)
  · rw [if_pos h1] at hn
    simp only [Out.thrown.injEq] at hn
    exact .inl ⟨hn.symm, h1⟩
  · rw [if_neg h1] at hn
    by_cases h2 : t.length < h.length
    · rw [if_pos h2] at hn
      simp only [Out.thrown.injEq] at hn
      exact .inr ⟨hn.symm, Classical.not_not.1 h1, h2⟩
    · rw [if_neg h2] at hn
      cases hn

section
variable (w : World) (b : Nat) (s : List UInt8) (hb : Blk w b 112 #[.string ⟨s.toArray⟩])
include hb

set_option maxRecDepth 100000 in
set_option maxHeartbeats 400000 in
theorem rd_take_short (n : Int) (hn : (s.length : Int) < n) : Calls Try.prog 59 #[.pointer (some ⟨b, 0, none⟩), .int .i64 n] w (RdThrow w b 22) := by
  have c0 := hb.cell 0
  simp only [List.getElem?_toArray, List.getElem?_cons_zero] at c0
  go_enter Try.func59, Try.ntmps59
  go_wp2
  exact ⟨rfl, rfl, World.grownBy.refl w _⟩

set_option maxRecDepth 100000 in
set_option maxHeartbeats 400000 in
theorem rd_take_ok (n : Int) (h0 : 0 ≤ n) (hn : n ≤ (s.length : Int)) :
    Calls Try.prog 59 #[.pointer (some ⟨b, 0, none⟩), .int .i64 n] w (RdOk w b (.string ⟨(s.take n.toNat).toArray⟩) (s.drop n.toNat)) := by
  have c0 := hb.cell 0
  have f0 := hb.frozen 0
  simp only [List.getElem?_toArray, List.getElem?_cons_zero] at c0
  go_enter Try.func59, Try.ntmps59
  go_wp2
  go_ret
  exact ⟨rfl, hb.set_ 0 _, grownBy_setCell _ _ _ _⟩

set_option maxRecDepth 100000 in
set_option maxHeartbeats 400000 in
theorem rd_four_short (hn : s.length < 4) : Calls Try.prog 49 #[.pointer (some ⟨b, 0, none⟩)] w (RdThrow w b 22) := by
  have H := Lib.hid (rd_take_short w b s hb 4 (by omega))
  go_enter Try.func49, Try.ntmps49
  go_wp2_with fail
  refine H.out.mono ?_
  rintro e w1 ⟨rfl, hg⟩
  go_wp2
  exact ⟨rfl, rfl, hg⟩

set_option maxRecDepth 100000 in
set_option maxHeartbeats 400000 in
theorem rd_four_ok (hn : 4 ≤ s.length) (hm : s.length ≤ 9223372036854775807) :
    Calls Try.prog 49 #[.pointer (some ⟨b, 0, none⟩)] w (RdOk w b (.int .u32 (de (s.take 4) : Nat)) (s.drop 4)) := by
  have H := Lib.hid (rd_take_ok w b s hb 4 (by omega) (by omega))
  have hd : de (s.take 4) < 4294967296 := by have := de_lt (s.take 4); rw [List.length_take, Nat.min_eq_left hn] at this; exact this
  go_enter Try.func49, Try.ntmps49
  go_wp2_with fail
  refine H.out.mono ?_
  rintro e w1 ⟨rfl, hb1, hg⟩
  go_wp2_with fail
  refine (take_int (s.take 4) 4 (by omega) (by omega) (by simp; omega) (by simp; omega) _).mono ?_
  rintro e w2 ⟨rfl, hb2⟩
  go_wp2
  go_ret
  exact ⟨by simp [List.take_take]; omega, hb1.below hb2 hb1.lt, only_below hg hb2⟩

set_option maxRecDepth 100000 in
set_option maxHeartbeats 400000 in
theorem rd_data_throw (most : Int) (n : Int) (h0 : 0 ≤ most) (hm : s.length ≤ 9223372036854775807) (hn : dataO most.toNat s = .thrown n) :
    Calls Try.prog 41 #[.pointer (some ⟨b, 0, none⟩), .int .i64 most] w (RdThrow w b n) := by
  unfold dataO fourO at hn
  by_cases h4 : s.length < 4
  · rw [if_pos h4] at hn
    simp only [Out.thrown.injEq] at hn
    subst hn
    have H := Lib.hid (rd_four_short w b s hb h4)
    go_enter Try.func41, Try.ntmps41
    go_wp2_with fail
    refine H.out.mono ?_
    rintro e w1 ⟨rfl, hg⟩
    go_wp2
    exact ⟨rfl, rfl, hg⟩
  · rw [if_neg h4] at hn
    dsimp only at hn
    have H := Lib.hid (rd_four_ok w b s hb (by omega) hm)
    have hd : de (s.take 4) < 4294967296 := by have := de_lt (s.take 4); rw [List.length_take, Nat.min_eq_left (by omega)] at this; exact this
    by_cases h5 : most.toNat < de (s.take 4)
    · rw [if_pos h5] at hn
      simp only [Out.thrown.injEq] at hn
      subst hn
      go_enter Try.func41, Try.ntmps41
      go_wp2_with fail
      refine H.out.mono ?_
      rintro e w1 ⟨rfl, hb1, hg⟩
      go_wp2
      exact ⟨rfl, rfl, hg⟩
    · rw [if_neg h5] at hn
      unfold takeO at hn
      by_cases h6 : (s.drop 4).length < de (s.take 4)
      · rw [if_pos h6] at hn
        simp only [Out.thrown.injEq] at hn
        subst hn
        simp only [List.length_drop] at h6
        go_enter Try.func41, Try.ntmps41
        go_wp2_with fail
        refine H.out.mono ?_
        rintro e w1 ⟨rfl, hb1, hg⟩
        go_wp2_with fail
        refine (rd_take_short w1 b (s.drop 4) hb1 _ (by simp; omega)).mono ?_
        rintro e w2 ⟨rfl, hg2⟩
        go_wp2
        exact ⟨rfl, rfl, only_trans hg hg2⟩
      · rw [if_neg h6] at hn
        cases hn

set_option maxRecDepth 100000 in
set_option maxHeartbeats 400000 in
theorem rd_data_ok (most : Int) (d r : List UInt8) (h0 : 0 ≤ most) (hm : s.length ≤ 9223372036854775807) (hn : dataO most.toNat s = .ok d r) :
    Calls Try.prog 41 #[.pointer (some ⟨b, 0, none⟩), .int .i64 most] w (RdOk w b (.string ⟨d.toArray⟩) r) := by
  unfold dataO fourO at hn
  by_cases h4 : s.length < 4
  · rw [if_pos h4] at hn
    cases hn
  · rw [if_neg h4] at hn
    dsimp only at hn
    have H := Lib.hid (rd_four_ok w b s hb (by omega) hm)
    have hd : de (s.take 4) < 4294967296 := by have := de_lt (s.take 4); rw [List.length_take, Nat.min_eq_left (by omega)] at this; exact this
    by_cases h5 : most.toNat < de (s.take 4)
    · rw [if_pos h5] at hn
      cases hn
    · rw [if_neg h5] at hn
      unfold takeO at hn
      by_cases h6 : (s.drop 4).length < de (s.take 4)
      · rw [if_pos h6] at hn
        cases hn
      · rw [if_neg h6] at hn
        simp only [Out.ok.injEq] at hn
        obtain ⟨rfl, rfl⟩ := hn
        simp only [List.length_drop] at h6
        go_enter Try.func41, Try.ntmps41
        go_wp2_with fail
        refine H.out.mono ?_
        rintro e w1 ⟨rfl, hb1, hg⟩
        go_wp2_with fail
        refine (rd_take_ok w1 b (s.drop 4) hb1 _ (by omega) (by simp; omega)).mono ?_
        rintro e w2 ⟨rfl, hb2, hg2⟩
        go_wp2
        go_ret
        exact ⟨by simp, hb2, only_trans hg hg2⟩

set_option maxRecDepth 100000 in
set_option maxHeartbeats 400000 in
theorem rd_head_throw (hd : List UInt8) (n : Int) (hl : hd.length = 8) (hn : headO hd s = .thrown n) :
    Calls Try.prog 48 #[.pointer (some ⟨b, 0, none⟩), .string ⟨hd.toArray⟩] w (RdThrow w b n) := by
  have c0 := hb.cell 0
  simp only [List.getElem?_toArray, List.getElem?_cons_zero] at c0
  have ht := headO_thrown hd s n hn
  rw [hl] at ht
  clear hn
  by_cases h8 : s.length < 8
  · rw [Nat.min_eq_right (by omega), List.take_length] at ht
    by_cases hne : s = List.take s.length hd
    · have hn22 : n = 22 := by
        rcases ht with ⟨_, hx⟩ | ⟨hx, _⟩
        · exact absurd hne hx
        · exact hx
      clear ht
      subst hn22
      have HE := Lib.hid hne
      have HS := Lib.hid (rd_take_short w b s hb 8 (by omega))
      clear hne
      go_enter Try.func48, Try.ntmps48
      go_wp2
      go_quiet (fail)
      go_wp2_with fail
      · have hx : (!s == List.take s.length hd) = true := by assumption
        rw [beq_iff_eq.2 HE.out] at hx
        cases hx
      · refine (rd_take_short (w.drewN nq) b s hb 8 (by omega)).mono ?_
        rintro e w1 ⟨rfl, hg⟩
        go_wp2
        exact ⟨rfl, rfl, only_trans (only_drewN (World.grownBy.refl w _) nq) hg⟩
    · have hn14 : n = 14 := by
        rcases ht with ⟨hx, _⟩ | ⟨_, hx, _⟩
        · exact hx
        · exact absurd hx hne
      clear ht
      subst hn14
      have HE := Lib.hid hne
      clear hne
      go_enter Try.func48, Try.ntmps48
      go_wp2
      go_quiet (fail)
      go_wp2_with fail
      · go_wp2
        exact ⟨rfl, rfl, only_drewN (World.grownBy.refl w _) nq⟩
      · have hx : (!s == List.take s.length hd) = false := by assumption
        exact absurd (by simpa using hx) HE.out
  · rw [Nat.min_eq_left (by omega)] at ht
    have hne : (!List.take 8 s == List.take 8 hd) = true := by
      rcases ht with ⟨_, hx⟩ | ⟨_, _, hx⟩
      · simpa using hx
      · omega
    have hn14 : n = 14 := by
      rcases ht with ⟨hx, _⟩ | ⟨_, _, hx⟩
      · exact hx
      · omega
    clear ht
    subst hn14
    go_enter Try.func48, Try.ntmps48
    go_wp2
    go_quiet (fail)
    go_wp2
    exact ⟨rfl, rfl, only_drewN (World.grownBy.refl w _) nq⟩

set_option maxRecDepth 100000 in
set_option maxHeartbeats 400000 in
theorem rd_head_ok (hd : List UInt8) (hl : hd.length = 8) (h8 : 8 ≤ s.length) (he : s.take 8 = hd) :
    Calls Try.prog 48 #[.pointer (some ⟨b, 0, none⟩), .string ⟨hd.toArray⟩] w (RdOk w b (.tuple #[]) (s.drop 8)) := by
  have c0 := hb.cell 0
  simp only [List.getElem?_toArray, List.getElem?_cons_zero] at c0
  have hne : (!List.take 8 s == List.take 8 hd) = false := by rw [he, List.take_of_length_le (by omega)]; simp
  clear he
  have h8' : ¬ s.length < 8 := by omega
  go_enter Try.func48, Try.ntmps48
  go_wp2
  go_quiet (fail)
  go_wp2_with fail
  refine (rd_take_ok (w.drewN nq) b s hb 8 (by omega) (by omega)).mono ?_
  rintro e w1 ⟨rfl, hb1, hg⟩
  go_wp2
  go_end0
  exact ⟨rfl, hb1, only_trans (only_drewN (World.grownBy.refl w _) nq) hg⟩
end

end Go.Proofs.Yteljplpiojdikaa
