/- OptUnlike, the walk. -/
import Derived.Test.YtckkjkdpcnedkaaOptAwake
import Derived.Test.YtckkjkdpcnedkaaReadAns2
import Derived.Test.YtckkjkdpcnedkaaOptLaw
namespace Go.Proofs.Ytckkjkdpcnedkaa
open Go.RowKit

set_option maxRecDepth 100000 in
set_option maxHeartbeats 2000000 in
theorem optUnlike_walk (k : Nat) (d : List UInt8) (a1 a2 : Nat) (ad more : List UInt8) (hk : k < 4294967296) (ha1 : a1 < 4294967296) (ha2 : a2 < 4294967296) (X Y A3 A4 O2 O3 : List UInt8) (x y g h : Int) (A1 A2 O1 : Nat)
    (hx : framed optHead [k] d = (X, x)) (hy : framed ansHead [a1, a2] ad = (Y, y)) (hra : readAns (X ++ more) = ((A1, A2, A3), A4, g)) (hro : readOpt (Y ++ more) = ((O1, O2), O3, h))
    (hX : X.length ≤ 20000) (hY : Y.length ≤ 20000) (hmore : more.length ≤ 9223372036854700000) (hc1 : (x = 0 ∧ g = 14) ∨ x = 11) (hc2 : (y = 0 ∧ h = 14) ∨ y = 11) (w : World) :
    Calls Try.prog 7 #[.agg #[.int .u32 k, .string ⟨d.toArray⟩], .agg #[.int .u32 a1, .int .u32 a2, .string ⟨ad.toArray⟩], .string ⟨more.toArray⟩] w (Gives (.bool true) w) := by
  have h1 := opt_write_any k d hk
  have h2 := answer_any a1 a2 ad ha1 ha2
  rw [hx] at h1
  rw [hy] at h2
  dsimp only at h1 h2
  have h3 := opt_answer_read_any (X ++ more) (by simp; omega)
  rw [hra] at h3
  have h4 := opt_read_any (Y ++ more) (by simp; omega)
  rw [hro] at h4
  have h5 := opt_read_any (greeting ++ more) (by simp [greeting, optHead]; omega)
  rw [greet_unlike] at h5
  have h6 := greeting_any
  have hgl : greeting.length = 18 := rfl
  generalize greeting = G at h5 h6 hgl
  unfold optV at h4 h5
  unfold ansV at h3
  dsimp only at h3 h4 h5
  have H1 := Lib.hid h1
  have H2 := Lib.hid h2
  have H3 := Lib.hid h3
  have H4 := Lib.hid h4
  have H5 := Lib.hid h5
  have H6 := Lib.hid h6
  have HA := Lib.hid awake_any
  clear h1 h2 h3 h4 h5 h6 hx hy hra hro
  rcases hc1 with ⟨rfl, rfl⟩ | rfl <;> rcases hc2 with ⟨rfl, rfl⟩ | rfl
  all_goals
    go_enter Try.func7, Try.ntmps7
    go_wp2_with fail
    refine (H1.out _).mono ?_
    rintro e w1 ⟨rfl, hb1⟩
    have q1 := (Blk.newAt (w := w.alloc (.cells #[.int .u32 k, .string ⟨d.toArray⟩] 32)) (g := w.heap.size + 1) (t := 34) (cs := #[.int .u32 a1, .int .u32 a2, .string ⟨ad.toArray⟩]) (by simp)).below hb1 (by simp)
    have b1 := below_next (((Below.refl _ w).alloc (Nat.le_refl _) (.cells #[.int .u32 k, .string ⟨d.toArray⟩] 32)).alloc (by simp) (.cells #[.int .u32 a1, .int .u32 a2, .string ⟨ad.toArray⟩] 34)) hb1
    clear hb1 H1
    have c0 := q1.cell 0
    have c1 := q1.cell 1
    have c2 := q1.cell 2
    simp only [List.getElem?_toArray, List.getElem?_cons_zero, List.getElem?_cons_succ] at c0 c1 c2
    have l1 := q1.lt
    go_wp2_with fail
    refine (H2.out _).mono ?_
    rintro e w2 ⟨rfl, hb2⟩
    have b2 := below_next b1 hb2
    have s2 := b2.size
    clear hb2 H2 q1 b1 c0 c1 c2 l1
    go_wp2_with fail
    refine (H3.out _).mono ?_
    rintro e w3 ⟨rfl, hb3⟩
    have b3 := below_next b2 hb3
    have s3 := b3.size
    clear hb3 H3 b2 s2
    go_wp2_with fail
    refine (H4.out _).mono ?_
    rintro e w4 ⟨rfl, hb4⟩
    have b4 : Below w.heap.size w w4 := by
      refine below_next ?_ hb4
      (repeat' (first | (with_reducible assumption) | (with_reducible exact Below.refl _ _) | (with_reducible refine below_drewN ?_ _) | (with_reducible refine Below.drew ?_) | (with_reducible refine Below.setCell ?_ ?_ _) | (with_reducible refine Below.alloc ?_ ?_ _) | (with_reducible refine below_putObj ?_ ?_ _) | (with_reducible exact Nat.le_refl _) | omega | (simp; done) | (simp; omega)))
    have s4 := b4.size
    clear hb4 H4 b3 s3
    go_wp2_with fail
    refine (H6.out _).mono ?_
    rintro e w5 ⟨rfl, hb5⟩
    have b5 : Below w.heap.size w w5 := by
      refine below_next ?_ hb5
      (repeat' (first | (with_reducible assumption) | (with_reducible exact Below.refl _ _) | (with_reducible refine below_drewN ?_ _) | (with_reducible refine Below.drew ?_) | (with_reducible refine Below.setCell ?_ ?_ _) | (with_reducible refine Below.alloc ?_ ?_ _) | (with_reducible refine below_putObj ?_ ?_ _) | (with_reducible exact Nat.le_refl _) | omega | (simp; done) | (simp; omega)))
    have s5 := b5.size
    clear hb5 H6 b4 s4
    go_wp2_with fail
    refine (H5.out _).mono ?_
    rintro e w6 ⟨rfl, hb6⟩
    have b6 := below_next b5 hb6
    have s6 := b6.size
    clear hb6 H5 b5 s5
    go_wp2_with fail
    refine (HA.out _).mono ?_
    rintro e w7 ⟨rfl, hb7⟩
    have b7 : Below w.heap.size w w7 := by
      refine below_next ?_ hb7
      (repeat' (first | (with_reducible assumption) | (with_reducible exact Below.refl _ _) | (with_reducible refine below_drewN ?_ _) | (with_reducible refine Below.drew ?_) | (with_reducible refine Below.setCell ?_ ?_ _) | (with_reducible refine Below.alloc ?_ ?_ _) | (with_reducible refine below_putObj ?_ ?_ _) | (with_reducible exact Nat.le_refl _) | omega | (simp; done) | (simp; omega)))
    clear hb7 HA b6
    go_wp2
    go_ret
    exact ⟨rfl, b7⟩

theorem framed_cases (h : List UInt8) (ns : List Nat) (d : List UInt8) : (d.length ≤ 4096 ∧ framed h ns d = (framedB h ns d, 0)) ∨ framed h ns d = ([], 11) := by
  unfold framed
  by_cases hd : 4096 < d.length
  · exact .inr (if_pos hd)
  · exact .inl ⟨by omega, if_neg hd⟩

theorem optUnlike_any (q : Nat × List UInt8) (hq : q.1 < 4294967296) (a : Nat × Nat × List UInt8) (ha1 : a.1 < 4294967296) (ha2 : a.2.1 < 4294967296) (more : List UInt8) (hmore : more.length ≤ 9223372036854700000) (w : World) :
    Calls Try.prog 7 #[optV q, ansV a, .string ⟨more.toArray⟩] w (Gives (.bool true) w) := by
  obtain ⟨k, d⟩ := q
  obtain ⟨a1, a2, ad⟩ := a
  dsimp only at hq ha1 ha2
  have F1 : ∃ X x, framed optHead [k] d = (X, x) ∧ X.length ≤ 20000 ∧ ((x = 0 ∧ (readAns (X ++ more)).2.2 = 14) ∨ x = 11) := by
    rcases framed_cases optHead [k] d with ⟨hd, e⟩ | e
    · refine ⟨_, _, e, ?_, .inl ⟨rfl, by rw [ans_unlike]⟩⟩
      rw [framedB_length]; simp [optHead]; omega
    · exact ⟨_, _, e, by simp, .inr rfl⟩
  have F2 : ∃ Y y, framed ansHead [a1, a2] ad = (Y, y) ∧ Y.length ≤ 20000 ∧ ((y = 0 ∧ (readOpt (Y ++ more)).2.2 = 14) ∨ y = 11) := by
    rcases framed_cases ansHead [a1, a2] ad with ⟨hd, e⟩ | e
    · refine ⟨_, _, e, ?_, .inl ⟨rfl, by rw [opt_unlike]⟩⟩
      rw [framedB_length]; simp [ansHead]; omega
    · exact ⟨_, _, e, by simp, .inr rfl⟩
  obtain ⟨X, x, hx, hX, hc1⟩ := F1
  obtain ⟨Y, y, hy, hY, hc2⟩ := F2
  exact optUnlike_walk k d a1 a2 ad more hq ha1 ha2 X Y _ _ _ _ x y _ _ _ _ _ hx hy rfl rfl hX hY hmore hc1 hc2 w

end Go.Proofs.Ytckkjkdpcnedkaa
