/- ReqBack, the walk: a request written and read is the same; what is read stood there as it is written. -/
import Derived.Test.YtneibnoocfcndaaReqAwake
import Derived.Test.YtneibnoocfcndaaReqLaw
namespace Go.Proofs.Ytneibnoocfcndaa
open Go.RowKit

theorem list_beq_self (l : List UInt8) : (l == l) = true := by simp

/-- The guards: whatever is too long. -/
theorem reqBack_long (q : Req) (more s : List UInt8) (hq : 10000 < q.data.length ∨ 20000 < s.length ∨ 20000 < more.length) (w : World) :
    Calls Try.prog 3 #[reqV q, .string ⟨more.toArray⟩, .string ⟨s.toArray⟩] w (Gives (.bool true) w) := by
  have HA := Lib.hid awake_any
  obtain ⟨fl, kd, ck, fr, ln, d⟩ := q
  unfold reqV
  dsimp only at hq ⊢
  by_cases h1 : 10000 < d.length
  · go_enter Try.func3, Try.ntmps3
    go_wp2_with fail
    refine (HA.out _).mono ?_
    rintro e w1 ⟨rfl, hb1⟩
    go_wp2
    go_ret
    exact ⟨rfl, below_next ((Below.refl _ w).alloc (Nat.le_refl _) _) hb1⟩
  · by_cases h2 : 20000 < s.length
    · clear hq
      go_enter Try.func3, Try.ntmps3
      go_wp2_with fail
      refine (HA.out _).mono ?_
      rintro e w1 ⟨rfl, hb1⟩
      go_wp2
      go_ret
      exact ⟨rfl, below_next ((Below.refl _ w).alloc (Nat.le_refl _) _) hb1⟩
    · have h3 : 20000 < more.length := by omega
      clear hq
      go_enter Try.func3, Try.ntmps3
      go_wp2_with fail
      refine (HA.out _).mono ?_
      rintro e w1 ⟨rfl, hb1⟩
      go_wp2
      go_ret
      exact ⟨rfl, below_next ((Below.refl _ w).alloc (Nat.le_refl _) _) hb1⟩

/-- The second half's facts of q. -/
structure Half (q : Req) (more : List UInt8) where
  fit : ∀ w, Calls Try.prog 10 #[reqV q] w (Gives (.bool q.fit) w)
  no : q.fit = false → ∀ w, Calls Try.prog 9 #[reqV q] w (Gives (.tuple #[.string ⟨#[]⟩, .int .i64 25]) w)
  yes : q.fit = true → ∀ w, Calls Try.prog 9 #[reqV q] w (Gives (.tuple #[.string ⟨(reqBytes q).toArray⟩, .int .i64 0]) w)
  back : q.fit = true → more.length ≤ 20000 → ∀ w, Calls Try.prog 8 #[.string ⟨(reqBytes q ++ more).toArray⟩] w (Gives (.tuple #[reqV q, .string ⟨more.toArray⟩, .int .i64 0]) w)

theorem half (q : Req) (hq : q.wf) (more : List UInt8) : Half q more where
  fit := fit_any q hq.len
  no h := by
    have hw := write_any q hq
    rw [show writeReq q = ([], 25) from by unfold writeReq; rw [h]; rfl] at hw
    exact hw
  yes h := by
    have hw := write_any q hq
    rw [show writeReq q = (reqBytes q, 0) from by unfold writeReq; rw [h]; rfl] at hw
    exact hw
  back h hm := by
    have hl := reqBytes_length q
    have hd := (fit_bounds q h).2.2.2.2.1
    have hr := read_any (reqBytes q ++ more) (by rw [List.length_append]; omega)
    rw [req_back q hq h more] at hr
    exact hr

set_option maxRecDepth 100000 in
set_option maxHeartbeats 2000000 in
/-- What is read is no request; q is none. -/
theorem reqBack_no_no (q : Req) (hq : q.wf) (more s : List UInt8) (x : Req) (rest : List UInt8) (er : Int) (hr : readReq s = (x, rest, er)) (he : (er == 0) = false) (hf : q.fit = false)
    (h1 : q.data.length ≤ 10000) (h2 : s.length ≤ 20000) (h3 : more.length ≤ 20000) (w : World) :
    Calls Try.prog 3 #[reqV q, .string ⟨more.toArray⟩, .string ⟨s.toArray⟩] w (Gives (.bool true) w) := by
  have HA := Lib.hid awake_any
  have R := read_any s (by omega)
  rw [hr] at R
  have H := half q hq more
  have F := H.fit
  rw [hf] at F
  have HR := Lib.hid R
  have HF := Lib.hid F
  have HW := Lib.hid (H.no hf)
  clear R H F hr hf hq
  obtain ⟨fl, kd, ck, fr, ln, d⟩ := q
  obtain ⟨xf, xk, xc, xr, xl, xd⟩ := x
  unfold reqV at HR HF HW ⊢
  dsimp only at HR HF HW h1 ⊢
  go_enter Try.func3, Try.ntmps3
  go_wp2_with fail
  refine (HR.out _).mono ?_
  rintro e w1 ⟨rfl, hb1⟩
  have b1 := below_next ((Below.refl _ w).alloc (Nat.le_refl _) (.cells #[.int .i64 fl, .int .i64 kd, .int .u64 ck, .int .u64 fr, .int .u32 ln, .string ⟨d.toArray⟩] 25)) hb1
  have q1 := (Blk.new w 25 #[.int .i64 fl, .int .i64 kd, .int .u64 ck, .int .u64 fr, .int .u32 ln, .string ⟨d.toArray⟩]).below hb1 (by simp)
  clear hb1
  obtain ⟨c0, c1, c2, c3, c4, c5⟩ := q1.cells6
  have s1 := b1.size
  have l1 := q1.lt
  go_wp2_with fail
  refine (HW.out _).mono ?_
  rintro e w4 ⟨rfl, hb4⟩
  have b4 := below_next (b1.alloc s1 (.cells #[.int .i64 xf, .int .i64 xk, .int .u64 xc, .int .u64 xr, .int .u32 xl, .string ⟨xd.toArray⟩] 25)) hb4
  have q4 := (q1.alloc (.cells #[.int .i64 xf, .int .i64 xk, .int .u64 xc, .int .u64 xr, .int .u32 xl, .string ⟨xd.toArray⟩] 25)).below hb4 (by have := q1.lt; simp; omega)
  clear c0 c1 c2 c3 c4 c5 hb4
  obtain ⟨c0, c1, c2, c3, c4, c5⟩ := q4.cells6
  go_wp2_with fail
  refine (HF.out _).mono ?_
  rintro e w5 ⟨rfl, hb5⟩
  have b5 := below_next b4 hb5
  have q5 := q4.below hb5 q4.lt
  clear c0 c1 c2 c3 c4 c5 hb5
  go_wp2_with fail
  refine (HA.out _).mono ?_
  rintro e w6 ⟨rfl, hb6⟩
  go_wp2
  go_ret
  exact ⟨rfl, below_next b5 hb6⟩

set_option maxRecDepth 100000 in
set_option maxHeartbeats 2000000 in
/-- What is read is no request; q is one. -/
theorem reqBack_no_yes (q : Req) (hq : q.wf) (more s : List UInt8) (x : Req) (rest : List UInt8) (er : Int) (hr : readReq s = (x, rest, er)) (he : (er == 0) = false) (hf : q.fit = true)
    (h1 : q.data.length ≤ 10000) (h2 : s.length ≤ 20000) (h3 : more.length ≤ 20000) (w : World) :
    Calls Try.prog 3 #[reqV q, .string ⟨more.toArray⟩, .string ⟨s.toArray⟩] w (Gives (.bool true) w) := by
  have HA := Lib.hid awake_any
  have R := read_any s (by omega)
  rw [hr] at R
  have H := half q hq more
  have F := H.fit
  rw [hf] at F
  have HR := Lib.hid R
  have HF := Lib.hid F
  have HW := Lib.hid (H.yes hf)
  have HB := Lib.hid (H.back hf h3)
  have hl := reqBytes_length q
  have hdd := (fit_bounds q hf).2.2.2.2.1
  generalize hqb : reqBytes q = qb at HW HB hl
  have hl2 : qb.length ≤ 20000 := by omega
  clear hqb hl hdd
  clear R H F hr hf hq
  obtain ⟨fl, kd, ck, fr, ln, d⟩ := q
  obtain ⟨xf, xk, xc, xr, xl, xd⟩ := x
  unfold reqV at HR HF HW HB ⊢
  dsimp only at HR HF HW HB h1 ⊢
  go_enter Try.func3, Try.ntmps3
  go_wp2_with fail
  refine (HR.out _).mono ?_
  rintro e w1 ⟨rfl, hb1⟩
  have b1 := below_next ((Below.refl _ w).alloc (Nat.le_refl _) (.cells #[.int .i64 fl, .int .i64 kd, .int .u64 ck, .int .u64 fr, .int .u32 ln, .string ⟨d.toArray⟩] 25)) hb1
  have q1 := (Blk.new w 25 #[.int .i64 fl, .int .i64 kd, .int .u64 ck, .int .u64 fr, .int .u32 ln, .string ⟨d.toArray⟩]).below hb1 (by simp)
  clear hb1
  obtain ⟨c0, c1, c2, c3, c4, c5⟩ := q1.cells6
  have s1 := b1.size
  have l1 := q1.lt
  go_wp2_with fail
  refine (HW.out _).mono ?_
  rintro e w4 ⟨rfl, hb4⟩
  have b4 := below_next (b1.alloc s1 (.cells #[.int .i64 xf, .int .i64 xk, .int .u64 xc, .int .u64 xr, .int .u32 xl, .string ⟨xd.toArray⟩] 25)) hb4
  have q4 := (q1.alloc (.cells #[.int .i64 xf, .int .i64 xk, .int .u64 xc, .int .u64 xr, .int .u32 xl, .string ⟨xd.toArray⟩] 25)).below hb4 (by have := q1.lt; simp; omega)
  clear c0 c1 c2 c3 c4 c5 hb4
  obtain ⟨c0, c1, c2, c3, c4, c5⟩ := q4.cells6
  go_wp2_with fail
  refine (HF.out _).mono ?_
  rintro e w5 ⟨rfl, hb5⟩
  have b5 := below_next b4 hb5
  have q5 := q4.below hb5 q4.lt
  clear c0 c1 c2 c3 c4 c5 hb5
  obtain ⟨c0, c1, c2, c3, c4, c5⟩ := q5.cells6
  go_wp2_with fail
  refine (HB.out _).mono ?_
  rintro e w6 ⟨rfl, hb6⟩
  have b6 := below_next b5 hb6
  have q6 := q5.below hb6 q5.lt
  clear c0 c1 c2 c3 c4 c5 hb6
  obtain ⟨c0, c1, c2, c3, c4, c5⟩ := q6.cells6
  have s6 := b6.size
  have l6 := q6.lt
  go_wp2_with fail
  refine (HA.out _).mono ?_
  rintro e w7 ⟨rfl, hb7⟩
  go_wp2
  go_ret
  exact ⟨rfl, below_next (b6.alloc s6 _) hb7⟩

set_option maxRecDepth 100000 in
set_option maxHeartbeats 2000000 in
/-- What is read is a request; q is none. -/
theorem reqBack_yes_no (q : Req) (hq : q.wf) (more s : List UInt8) (x : Req) (rest : List UInt8) (er : Int) (hr : readReq s = (x, rest, er)) (he : er = 0) (hf : q.fit = false)
    (h1 : q.data.length ≤ 10000) (h2 : s.length ≤ 20000) (h3 : more.length ≤ 20000) (w : World) :
    Calls Try.prog 3 #[reqV q, .string ⟨more.toArray⟩, .string ⟨s.toArray⟩] w (Gives (.bool true) w) := by
  have HA := Lib.hid awake_any
  have R := read_any s (by omega)
  rw [hr] at R
  subst he
  obtain ⟨xfit, xwf, xcat, xlen⟩ := req_read s x rest hr
  have X := half x xwf []
  have XF := X.fit
  rw [xfit] at XF
  have HXF := Lib.hid XF
  have HXW := Lib.hid (X.yes xfit)
  generalize hxb : reqBytes x = xb at xcat HXW
  subst xcat
  clear X XF hxb xfit xwf
  have H := half q hq more
  have F := H.fit
  rw [hf] at F
  have HR := Lib.hid R
  have HF := Lib.hid F
  have HW := Lib.hid (H.no hf)
  clear R H F hr hf hq
  obtain ⟨fl, kd, ck, fr, ln, d⟩ := q
  obtain ⟨xf, xk, xc, xr, xl, xd⟩ := x
  unfold reqV at HR HF HW HXF HXW ⊢
  dsimp only at HR HF HW HXF HXW h1 ⊢
  simp only [List.length_append] at h2 xlen
  go_enter Try.func3, Try.ntmps3
  go_wp2_with fail
  refine (HR.out _).mono ?_
  rintro e w1 ⟨rfl, hb1⟩
  have b1 := below_next ((Below.refl _ w).alloc (Nat.le_refl _) (.cells #[.int .i64 fl, .int .i64 kd, .int .u64 ck, .int .u64 fr, .int .u32 ln, .string ⟨d.toArray⟩] 25)) hb1
  have q1 := (Blk.new w 25 #[.int .i64 fl, .int .i64 kd, .int .u64 ck, .int .u64 fr, .int .u32 ln, .string ⟨d.toArray⟩]).below hb1 (by simp)
  clear hb1
  have s1 := b1.size
  have x1 := Blk.new w1 25 #[.int .i64 xf, .int .i64 xk, .int .u64 xc, .int .u64 xr, .int .u32 xl, .string ⟨xd.toArray⟩]
  go_wp2_with fail
  refine (HXW.out _).mono ?_
  rintro e w2 ⟨rfl, hb2⟩
  have b2 := below_next (b1.alloc s1 (.cells #[.int .i64 xf, .int .i64 xk, .int .u64 xc, .int .u64 xr, .int .u32 xl, .string ⟨xd.toArray⟩] 25)) hb2
  have q2 := (q1.alloc (.cells #[.int .i64 xf, .int .i64 xk, .int .u64 xc, .int .u64 xr, .int .u32 xl, .string ⟨xd.toArray⟩] 25)).below hb2 (by have := q1.lt; simp; omega)
  have x2 := x1.below hb2 (by simp)
  clear hb2 q1 x1
  obtain ⟨y0, y1, y2, y3, y4, y5⟩ := x2.cells6
  go_wp2_with fail
  refine (HXF.out _).mono ?_
  rintro e w3 ⟨rfl, hb3⟩
  have b3 := below_next b2 hb3
  have q3 := q2.below hb3 q2.lt
  clear hb3 q2 x2 y0 y1 y2 y3 y4 y5
  obtain ⟨c0, c1, c2, c3, c4, c5⟩ := q3.cells6
  go_wp2_with fail
  refine (HW.out _).mono ?_
  rintro e w4 ⟨rfl, hb4⟩
  have b4 := below_next b3 hb4
  have q4 := q3.below hb4 q3.lt
  clear c0 c1 c2 c3 c4 c5 hb4
  obtain ⟨c0, c1, c2, c3, c4, c5⟩ := q4.cells6
  go_wp2_with fail
  refine (HF.out _).mono ?_
  rintro e w5 ⟨rfl, hb5⟩
  have b5 := below_next b4 hb5
  have q5 := q4.below hb5 q4.lt
  clear c0 c1 c2 c3 c4 c5 hb5
  go_wp2_with fail
  refine (HA.out _).mono ?_
  rintro e w6 ⟨rfl, hb6⟩
  go_wp2
  go_ret
  exact ⟨rfl, below_next b5 hb6⟩

set_option maxRecDepth 100000 in
set_option maxHeartbeats 2000000 in
/-- What is read is a request; q is one. -/
theorem reqBack_yes_yes (q : Req) (hq : q.wf) (more s : List UInt8) (x : Req) (rest : List UInt8) (er : Int) (hr : readReq s = (x, rest, er)) (he : er = 0) (hf : q.fit = true)
    (h1 : q.data.length ≤ 10000) (h2 : s.length ≤ 20000) (h3 : more.length ≤ 20000) (w : World) :
    Calls Try.prog 3 #[reqV q, .string ⟨more.toArray⟩, .string ⟨s.toArray⟩] w (Gives (.bool true) w) := by
  have HA := Lib.hid awake_any
  have R := read_any s (by omega)
  rw [hr] at R
  subst he
  obtain ⟨xfit, xwf, xcat, xlen⟩ := req_read s x rest hr
  have X := half x xwf []
  have XF := X.fit
  rw [xfit] at XF
  have HXF := Lib.hid XF
  have HXW := Lib.hid (X.yes xfit)
  generalize hxb : reqBytes x = xb at xcat HXW
  subst xcat
  clear X XF hxb xfit xwf
  have H := half q hq more
  have F := H.fit
  rw [hf] at F
  have HR := Lib.hid R
  have HF := Lib.hid F
  have HW := Lib.hid (H.yes hf)
  have HB := Lib.hid (H.back hf h3)
  have hl := reqBytes_length q
  have hdd := (fit_bounds q hf).2.2.2.2.1
  generalize hqb : reqBytes q = qb at HW HB hl
  have hl2 : qb.length ≤ 20000 := by omega
  clear hqb hl hdd
  clear R H F hr hf hq
  obtain ⟨fl, kd, ck, fr, ln, d⟩ := q
  obtain ⟨xf, xk, xc, xr, xl, xd⟩ := x
  unfold reqV at HR HF HW HB HXF HXW ⊢
  dsimp only at HR HF HW HB HXF HXW h1 ⊢
  simp only [List.length_append] at h2 xlen
  go_enter Try.func3, Try.ntmps3
  go_wp2_with fail
  refine (HR.out _).mono ?_
  rintro e w1 ⟨rfl, hb1⟩
  have b1 := below_next ((Below.refl _ w).alloc (Nat.le_refl _) (.cells #[.int .i64 fl, .int .i64 kd, .int .u64 ck, .int .u64 fr, .int .u32 ln, .string ⟨d.toArray⟩] 25)) hb1
  have q1 := (Blk.new w 25 #[.int .i64 fl, .int .i64 kd, .int .u64 ck, .int .u64 fr, .int .u32 ln, .string ⟨d.toArray⟩]).below hb1 (by simp)
  clear hb1
  have s1 := b1.size
  have x1 := Blk.new w1 25 #[.int .i64 xf, .int .i64 xk, .int .u64 xc, .int .u64 xr, .int .u32 xl, .string ⟨xd.toArray⟩]
  go_wp2_with fail
  refine (HXW.out _).mono ?_
  rintro e w2 ⟨rfl, hb2⟩
  have b2 := below_next (b1.alloc s1 (.cells #[.int .i64 xf, .int .i64 xk, .int .u64 xc, .int .u64 xr, .int .u32 xl, .string ⟨xd.toArray⟩] 25)) hb2
  have q2 := (q1.alloc (.cells #[.int .i64 xf, .int .i64 xk, .int .u64 xc, .int .u64 xr, .int .u32 xl, .string ⟨xd.toArray⟩] 25)).below hb2 (by have := q1.lt; simp; omega)
  have x2 := x1.below hb2 (by simp)
  clear hb2 q1 x1
  obtain ⟨y0, y1, y2, y3, y4, y5⟩ := x2.cells6
  go_wp2_with fail
  refine (HXF.out _).mono ?_
  rintro e w3 ⟨rfl, hb3⟩
  have b3 := below_next b2 hb3
  have q3 := q2.below hb3 q2.lt
  clear hb3 q2 x2 y0 y1 y2 y3 y4 y5
  obtain ⟨c0, c1, c2, c3, c4, c5⟩ := q3.cells6
  go_wp2_with fail
  refine (HW.out _).mono ?_
  rintro e w4 ⟨rfl, hb4⟩
  have b4 := below_next b3 hb4
  have q4 := q3.below hb4 q3.lt
  clear c0 c1 c2 c3 c4 c5 hb4
  obtain ⟨c0, c1, c2, c3, c4, c5⟩ := q4.cells6
  go_wp2_with fail
  refine (HF.out _).mono ?_
  rintro e w5 ⟨rfl, hb5⟩
  have b5 := below_next b4 hb5
  have q5 := q4.below hb5 q4.lt
  clear c0 c1 c2 c3 c4 c5 hb5
  obtain ⟨c0, c1, c2, c3, c4, c5⟩ := q5.cells6
  go_wp2_with fail
  refine (HB.out _).mono ?_
  rintro e w6 ⟨rfl, hb6⟩
  have b6 := below_next b5 hb6
  have q6 := q5.below hb6 q5.lt
  clear c0 c1 c2 c3 c4 c5 hb6
  obtain ⟨c0, c1, c2, c3, c4, c5⟩ := q6.cells6
  have s6 := b6.size
  have l6 := q6.lt
  go_wp2_with fail
  refine (HA.out _).mono ?_
  rintro e w7 ⟨rfl, hb7⟩
  go_wp2
  go_ret
  exact ⟨rfl, below_next (b6.alloc s6 _) hb7⟩

theorem reqBack_any (q : Req) (hq : q.wf) (more s : List UInt8) (w : World) :
    Calls Try.prog 3 #[reqV q, .string ⟨more.toArray⟩, .string ⟨s.toArray⟩] w (Gives (.bool true) w) := by
  by_cases hg : 10000 < q.data.length ∨ 20000 < s.length ∨ 20000 < more.length
  · exact reqBack_long q more s hg w
  · obtain ⟨x, rest, er, hr⟩ : ∃ x rest er, readReq s = (x, rest, er) := ⟨_, _, _, rfl⟩
    cases hf : q.fit with
    | false =>
      by_cases he : er = 0
      · exact reqBack_yes_no q hq more s x rest er hr he hf (by omega) (by omega) (by omega) w
      · exact reqBack_no_no q hq more s x rest er hr (by simpa using he) hf (by omega) (by omega) (by omega) w
    | true =>
      by_cases he : er = 0
      · exact reqBack_yes_yes q hq more s x rest er hr he hf (by omega) (by omega) (by omega) w
      · exact reqBack_no_yes q hq more s x rest er hr (by simpa using he) hf (by omega) (by omega) (by omega) w

end Go.Proofs.Ytneibnoocfcndaa
