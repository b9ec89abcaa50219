/- OptBack, joined. Printed by wip/optback2.py. -/
import Derived.Test.YtckkjkdpcnedkaaOptBack
import Derived.Test.YtckkjkdpcnedkaaOptBackLaw
namespace Go.Proofs.Ytckkjkdpcnedkaa
open Go.RowKit

set_option maxRecDepth 100000 in
set_option maxHeartbeats 2000000 in
theorem optBack_long (k a1 a2 : Nat) (d ad more s : List UInt8) (hg : 10000 < d.length ∨ (d.length ≤ 10000 ∧ 10000 < ad.length) ∨ (d.length ≤ 10000 ∧ ad.length ≤ 10000 ∧ 20000 < s.length) ∨ (d.length ≤ 10000 ∧ ad.length ≤ 10000 ∧ s.length ≤ 20000 ∧ 20000 < more.length)) (w : World) :
    Calls Try.prog 5 #[.agg #[.int .u32 k, .string ⟨d.toArray⟩], .agg #[.int .u32 a1, .int .u32 a2, .string ⟨ad.toArray⟩], .string ⟨more.toArray⟩, .string ⟨s.toArray⟩] w (Gives (.bool true) w) := by
  have HA := Lib.hid awake_any
  have b0 : Below w.heap.size w ((w.alloc (.cells #[.int .u32 k, .string ⟨d.toArray⟩] 32)).alloc (.cells #[.int .u32 a1, .int .u32 a2, .string ⟨ad.toArray⟩] 34)) := ((Below.refl _ w).alloc (Nat.le_refl _) _).alloc (by simp) _
  have B0 := Lib.hid b0
  clear b0
  rcases hg with h1 | ⟨h1, h2⟩ | ⟨h1, h2, h3⟩ | ⟨h1, h2, h3, h4⟩
  all_goals
    go_enter Try.func5, Try.ntmps5
    go_wp2_with fail
    refine (HA.out _).mono ?_
    rintro e w1 ⟨rfl, hb1⟩
    go_wp2
    go_ret
    exact ⟨rfl, below_next B0.out hb1⟩

theorem framed_cases (h : List UInt8) (ns : List Nat) (d : List UInt8) : (d.length ≤ 4096 ∧ framed h ns d = (framedB h ns d, 0)) ∨ framed h ns d = ([], 11) := by
  unfold framed
  by_cases hd : 4096 < d.length
  · exact .inr (if_pos hd)
  · exact .inl ⟨by omega, if_neg hd⟩

theorem opt_rest (s : List UInt8) : (readOpt s).2.2 ≠ 0 → (readOpt s).2.1 = [] := by
  unfold readOpt
  cases readOptO s with
  | thrown n => intro _; rfl
  | ok x r => intro h; exact absurd rfl h
theorem ans_rest (s : List UInt8) : (readAns s).2.2 ≠ 0 → (readAns s).2.1 = [] := by
  unfold readAns
  cases readAnsO s with
  | thrown n => intro _; rfl
  | ok x r => intro h; exact absurd rfl h

theorem optBack_any (q : Nat × List UInt8) (hq : q.1 < 4294967296) (a : Nat × Nat × List UInt8) (ha1 : a.1 < 4294967296) (ha2 : a.2.1 < 4294967296) (more s : List UInt8) (w : World) :
    Calls Try.prog 5 #[optV q, ansV a, .string ⟨more.toArray⟩, .string ⟨s.toArray⟩] w (Gives (.bool true) w) := by
  obtain ⟨k, d⟩ := q
  obtain ⟨a1, a2, ad⟩ := a
  dsimp only at hq ha1 ha2
  by_cases hg : d.length ≤ 10000 ∧ ad.length ≤ 10000 ∧ s.length ≤ 20000 ∧ more.length ≤ 20000
  case neg => exact optBack_long k a1 a2 d ad more s (by omega) w
  obtain ⟨h1, h2, h3, h4⟩ := hg
  have HW0 := opt_write_any k d hq
  have HN0 := answer_any a1 a2 ad ha1 ha2
  have HR0 := opt_read_any s (by omega)
  have HT0 := opt_answer_read_any s (by omega)
  have cX : ∃ X x, framed optHead [k] d = (X, x) ∧ X.length ≤ 20000 ∧ ((x = 0 ∧ readOpt (X ++ more) = ((k, d), more, 0)) ∨ x = 11) := by
    rcases framed_cases optHead [k] d with ⟨hd, e⟩ | e
    · refine ⟨_, _, e, ?_, .inl ⟨rfl, opt_back k d more hq hd⟩⟩
      rw [framedB_length]; simp [optHead]; omega
    · exact ⟨_, _, e, by simp, .inr rfl⟩
  have cY : ∃ Y y, framed ansHead [a1, a2] ad = (Y, y) ∧ Y.length ≤ 20000 ∧ ((y = 0 ∧ readAns (Y ++ more) = ((a1, a2, ad), more, 0)) ∨ y = 11) := by
    rcases framed_cases ansHead [a1, a2] ad with ⟨hd, e⟩ | e
    · refine ⟨_, _, e, ?_, .inl ⟨rfl, ans_back a1 a2 ad more ha1 ha2 hd⟩⟩
      rw [framedB_length]; simp [ansHead]; omega
    · exact ⟨_, _, e, by simp, .inr rfl⟩
  obtain ⟨X, x, eX, h5, cX⟩ := cX
  obtain ⟨Y, y, eY, h6, cY⟩ := cY
  rw [eX] at HW0
  rw [eY] at HN0
  obtain ⟨⟨⟨x1, x2⟩, xr, er⟩, hro⟩ : ∃ z, readOpt s = z := ⟨_, rfl⟩
  obtain ⟨⟨⟨y1, y2, y3⟩, yr, et⟩, hra⟩ : ∃ z, readAns s = z := ⟨_, rfl⟩
  have lo := opt_rest s
  have la := ans_rest s
  rw [hro] at HR0 lo
  rw [hra] at HT0 la
  dsimp only at HW0 HN0 HR0 HT0 lo la
  have R : ((er == 0) = false ∧ xr.length ≤ 20000) ∨ (er = 0 ∧ s.head? = some 73 ∧ ∃ P : List UInt8, s = P ++ xr ∧ P.length + xr.length ≤ 40000 ∧ ∀ W, Calls Try.prog 13 #[.agg #[.int .u32 x1, .string ⟨x2.toArray⟩]] W (Gives (.tuple #[.string ⟨P.toArray⟩, .int .i64 0]) W)) := by
    by_cases he : er = 0
    · subst he
      obtain ⟨r1, r2, r3⟩ := opt_read s x1 x2 xr hro
      refine .inr ⟨rfl, by rw [r3]; rfl, framedB optHead [x1] x2, r3, ?_, fun W => ?_⟩
      · rw [← List.length_append, ← r3]; omega
      · have h := opt_write_any x1 x2 r1 W
        rw [show framed optHead [x1] x2 = (framedB optHead [x1] x2, 0) by unfold framed; rw [if_neg (by omega)]] at h
        exact h
    · exact .inl ⟨by simpa using he, by rw [lo he]; simp⟩
  have T : ((et == 0) = false ∧ yr.length ≤ 20000) ∨ (et = 0 ∧ s.head? = some 0 ∧ ∃ Q : List UInt8, s = Q ++ yr ∧ Q.length + yr.length ≤ 40000 ∧ ∀ W, Calls Try.prog 15 #[.agg #[.int .u32 y1, .int .u32 y2, .string ⟨y3.toArray⟩]] W (Gives (.tuple #[.string ⟨Q.toArray⟩, .int .i64 0]) W)) := by
    by_cases he : et = 0
    · subst he
      obtain ⟨r1, r4, r2, r3⟩ := ans_read s y1 y2 y3 yr hra
      refine .inr ⟨rfl, by rw [r3]; rfl, framedB ansHead [y1, y2] y3, r3, ?_, fun W => ?_⟩
      · rw [← List.length_append, ← r3]; omega
      · have h := answer_any y1 y2 y3 r1 r4 W
        rw [show framed ansHead [y1, y2] y3 = (framedB ansHead [y1, y2] y3, 0) by unfold framed; rw [if_neg (by omega)]] at h
        exact h
    · exact .inl ⟨by simpa using he, by rw [la he]; simp⟩
  clear hro hra lo la
  have BX : x = 0 → ∀ W, Calls Try.prog 17 #[.string ⟨(X ++ more).toArray⟩] W (Gives (.tuple #[.agg #[.int .u32 k, .string ⟨d.toArray⟩], .string ⟨more.toArray⟩, .int .i64 0]) W) := by
    intro hx W
    rcases cX with ⟨_, e⟩ | e
    · have h := opt_read_any (X ++ more) (by rw [List.length_append]; omega) W
      rw [e] at h
      exact h
    · omega
  have BY : y = 0 → ∀ W, Calls Try.prog 19 #[.string ⟨(Y ++ more).toArray⟩] W (Gives (.tuple #[.agg #[.int .u32 a1, .int .u32 a2, .string ⟨ad.toArray⟩], .string ⟨more.toArray⟩, .int .i64 0]) W) := by
    intro hy W
    rcases cY with ⟨_, e⟩ | e
    · have h := opt_answer_read_any (Y ++ more) (by rw [List.length_append]; omega) W
      rw [e] at h
      exact h
    · omega
  have cX2 : x = 0 ∨ x = 11 := by rcases cX with ⟨e, _⟩ | e <;> simp [e]
  have cY2 : y = 0 ∨ y = 11 := by rcases cY with ⟨e, _⟩ | e <;> simp [e]
  clear cX cY eX eY
  rcases cX2 with rfl | rfl <;> rcases cY2 with rfl | rfl <;> rcases R with ⟨he, hxr⟩ | ⟨rfl, hd1, P, hP, h7, HP⟩ <;> rcases T with ⟨ht, hyr⟩ | ⟨rfl, hd2, Q, hQ, h8, HQ⟩
  · exact optBack_1100 k a1 a2 x1 y1 y2 d ad x2 y3 more s X Y xr yr er et (Lib.hid HW0) (Lib.hid (BX rfl)) (Lib.hid HN0) (Lib.hid (BY rfl)) (Lib.hid HR0) (Lib.hid HT0) he ht h1 h2 h3 h4 h5 h6 w
  · exact optBack_1101 k a1 a2 x1 y1 y2 d ad x2 y3 more s X Y xr yr Q er (Lib.hid HW0) (Lib.hid (BX rfl)) (Lib.hid HN0) (Lib.hid (BY rfl)) (Lib.hid HR0) (Lib.hid HT0) (Lib.hid HQ) he hQ h1 h2 h3 h4 h5 h6 h8 w
  · exact optBack_1110 k a1 a2 x1 y1 y2 d ad x2 y3 more s X Y xr yr P et (Lib.hid HW0) (Lib.hid (BX rfl)) (Lib.hid HN0) (Lib.hid (BY rfl)) (Lib.hid HR0) (Lib.hid HP) (Lib.hid HT0) hP ht h1 h2 h3 h4 h5 h6 h7 w
  · rw [hd1] at hd2; cases hd2
  · exact optBack_1000 k a1 a2 x1 y1 y2 d ad x2 y3 more s X Y xr yr er et (Lib.hid HW0) (Lib.hid (BX rfl)) (Lib.hid HN0) (Lib.hid HR0) (Lib.hid HT0) he ht h1 h2 h3 h4 h5 w
  · exact optBack_1001 k a1 a2 x1 y1 y2 d ad x2 y3 more s X Y xr yr Q er (Lib.hid HW0) (Lib.hid (BX rfl)) (Lib.hid HN0) (Lib.hid HR0) (Lib.hid HT0) (Lib.hid HQ) he hQ h1 h2 h3 h4 h5 h8 w
  · exact optBack_1010 k a1 a2 x1 y1 y2 d ad x2 y3 more s X Y xr yr P et (Lib.hid HW0) (Lib.hid (BX rfl)) (Lib.hid HN0) (Lib.hid HR0) (Lib.hid HP) (Lib.hid HT0) hP ht h1 h2 h3 h4 h5 h7 w
  · rw [hd1] at hd2; cases hd2
  · exact optBack_0100 k a1 a2 x1 y1 y2 d ad x2 y3 more s X Y xr yr er et (Lib.hid HW0) (Lib.hid HN0) (Lib.hid (BY rfl)) (Lib.hid HR0) (Lib.hid HT0) he ht h1 h2 h3 h4 h6 w
  · exact optBack_0101 k a1 a2 x1 y1 y2 d ad x2 y3 more s X Y xr yr Q er (Lib.hid HW0) (Lib.hid HN0) (Lib.hid (BY rfl)) (Lib.hid HR0) (Lib.hid HT0) (Lib.hid HQ) he hQ h1 h2 h3 h4 h6 h8 w
  · exact optBack_0110 k a1 a2 x1 y1 y2 d ad x2 y3 more s X Y xr yr P et (Lib.hid HW0) (Lib.hid HN0) (Lib.hid (BY rfl)) (Lib.hid HR0) (Lib.hid HP) (Lib.hid HT0) hP ht h1 h2 h3 h4 h6 h7 w
  · rw [hd1] at hd2; cases hd2
  · exact optBack_0000 k a1 a2 x1 y1 y2 d ad x2 y3 more s X Y xr yr er et (Lib.hid HW0) (Lib.hid HN0) (Lib.hid HR0) (Lib.hid HT0) he ht h1 h2 h3 h4 w
  · exact optBack_0001 k a1 a2 x1 y1 y2 d ad x2 y3 more s X Y xr yr Q er (Lib.hid HW0) (Lib.hid HN0) (Lib.hid HR0) (Lib.hid HT0) (Lib.hid HQ) he hQ h1 h2 h3 h4 h8 w
  · exact optBack_0010 k a1 a2 x1 y1 y2 d ad x2 y3 more s X Y xr yr P et (Lib.hid HW0) (Lib.hid HN0) (Lib.hid HR0) (Lib.hid HP) (Lib.hid HT0) hP ht h1 h2 h3 h4 h7 w
  · rw [hd1] at hd2; cases hd2

end Go.Proofs.Ytckkjkdpcnedkaa
