/- match's come: bytes of a reading that come. -/
import Derived.Test.YtfcojhpnpfodeaaMatSimple
import Derived.Test.YtfcojhpnpfodeaaShelf
import Derived.Lib.IndexAny
import Derived.StillTailTactics
import Derived.Test.YtfcojhpnpfodeaaRegTail
namespace Go.Proofs.Ytfcojhpnpfodeaa
open Go.RowKit

/-- Block b is a worker that has the k-th at hand. -/
def MWk (W0 : FW) (b : Nat) (w : World) (m : Mat) (ns : List Answ) (k : Nat) (d : List UInt8) : Prop :=
  ∃ gw cap va, Blk w b 66 (wkC m (.slice (some ⟨gw, 0, none⟩) m.waits.length cap) va (.pointer (some ⟨gw, k * 10, none⟩)) d) ∧ WRows W0 b w m.waits ns (.slice (some ⟨gw, 0, none⟩) m.waits.length cap) va ∧ k < m.waits.length
theorem MWk.below {W0 : FW} {b : Nat} {w w' : World} {m : Mat} {ns : List Answ} {k : Nat} {d : List UInt8} (h : MWk W0 b w m ns k d) (hb : Below w.heap.size w w') : MWk W0 b w' m ns k d := by
  obtain ⟨gw, cap, va, h1, h2, h3⟩ := h
  exact ⟨gw, cap, va, h1.below hb h1.lt, h2.below hb, h3⟩
theorem MWk.toMW {W0 : FW} {b : Nat} {w : World} {m : Mat} {ns : List Answ} {k : Nat} {d : List UInt8} (h : MWk W0 b w m ns k d) : ∃ p, MW W0 b w m ns p d := by
  obtain ⟨gw, cap, va, h1, h2, h3⟩ := h
  exact ⟨_, _, _, h1, h2⟩
/-- How what is done of a chunk ends. -/
def KEnds (W0 : FW) (b : Nat) (m : Mat) (ns : List Answ) (k : Nat) (d : List UInt8) (r : Option Wait) (e : Ending) (w' : World) : Prop :=
  (r = none ∧ e = .returned (.bool false) ∧ ∃ q, MWk W0 b w' { m with waits := m.waits.set k q } ns k d) ∨ ∃ q, r = some q ∧ e = .returned (.bool true) ∧ MWk W0 b w' { m with waits := m.waits.set k q } ns k d
theorem set_same (m : Mat) (k : Nat) (q : Wait) (h : m.waits[k]? = some q) : { m with waits := m.waits.set k q } = m := by
  have e : m.waits.set k q = m.waits := by
    apply List.ext_getElem?
    intro j
    rw [List.getElem?_set]
    by_cases hj : k = j
    · subst hj
      rw [if_pos rfl, h]
      have := (List.getElem?_eq_some_iff.1 h).1
      simp [this]
    · rw [if_neg hj]
  rw [e]
/-- A store to the row. -/
theorem WRows.put {W0 : FW} {X : World} {b gw n cap k : Nat} {l : List Wait} {ns : List Answ} {va : Value} {ps : List (Wait × Value)} {q q' : Wait} {uv uv' : Value} (h : WRows W0 b X l ns (.slice (some ⟨gw, 0, none⟩) n cap) va) (p1 : ps.map Prod.fst = l) (own : X.ownsRow (b + 1) 42 10 (.slice (some ⟨gw, 0, none⟩) n cap) n (ps.flatMap waitC)) (p3 : ∀ p ∈ ps, SpanAt X p.2 p.1.spans) (hn : n = l.length)
    (hk : ps[k]? = some (q, uv)) (i : Nat) (u : Value) (hi : i < 10) (hc : waitC (q', uv') = (waitC (q, uv)).set i u) (hs : SpanAt X uv' q'.spans) : WRows W0 b (X.setCell ⟨gw, k * 10 + i, none⟩ u) (l.set k q') ns (.slice (some ⟨gw, 0, none⟩) n cap) va := by
  obtain ⟨o1, hg⟩ := own.stored (k * 10 + i) u
  have hA := apart2_grown own hg (by decide)
  obtain ⟨qs, q1, q2, q3⟩ := h.an
  refine ⟨⟨ps.set k (q', uv'), by rw [List.map_set, p1], ?_, fun p hp => ?_⟩, ⟨qs, q1, other_grown own hg q2 (by decide), fun p hp => (q3 p hp).apart2 hA⟩, h.bl.grown hg h.bl.size (fun j hj => by have := (own.lt j hj).1; have := h.hb; omega), h.hb, fun x hx => ⟨kept_grown own hg (h.kp x hx).1 (h.kp x hx).2.2.1, (h.kp x hx).2⟩⟩
  · rw [List.length_set, ← hn, ← flat_set waitC 10 waitC_len ps k (q, uv) (q', uv') i u hk hi hc]
    exact o1
  · rcases List.mem_or_eq_of_mem_set hp with hp | rfl
    · exact (p3 p hp).apart2 hA
    · exact hs.apart2 hA
/-- The cells of the k-th of the row. -/
theorem row_cells {X : World} {B gw n cap k : Nat} {ps : List (Wait × Value)} {q : Wait} {uv : Value} (own : X.ownsRow B 42 10 (.slice (some ⟨gw, 0, none⟩) n cap) n (ps.flatMap waitC)) (hk : ps[k]? = some (q, uv)) : WaitCells X gw (k * 10) (q, uv) := by
  obtain ⟨b, o, e, h⟩ := wait_cells (SlAt.of_row own) hk
  simp only [Option.some.injEq, Addr.mk.injEq, and_true] at e
  obtain ⟨rfl, rfl⟩ := e
  rw [Nat.zero_add] at h
  exact h
theorem come_bad (w : Wait) (a : Nat) (s : List UInt8) (h : w.req.kind ≠ 0 ∨ s = [] ∨ a < w.req.frm ∨ w.req.len < a - w.req.frm ∨ w.req.len - (a - w.req.frm) < s.length) : w.come a s = none := by unfold Wait.come; rw [if_pos h]
theorem come_twice (w : Wait) (a : Nat) (s : List UInt8) (h : ¬ (w.req.kind ≠ 0 ∨ s = [] ∨ a < w.req.frm ∨ w.req.len < a - w.req.frm ∨ w.req.len - (a - w.req.frm) < s.length)) (h2 : (1 : UInt8) ∈ (w.have_.drop (a - w.req.frm)).take s.length) : w.come a s = none := by
  unfold Wait.come; rw [if_neg h, if_pos h2]
theorem come_ok (w : Wait) (a : Nat) (s : List UInt8) (h : ¬ (w.req.kind ≠ 0 ∨ s = [] ∨ a < w.req.frm ∨ w.req.len < a - w.req.frm ∨ w.req.len - (a - w.req.frm) < s.length)) (h2 : ¬ (1 : UInt8) ∈ (w.have_.drop (a - w.req.frm)).take s.length) :
    w.come a s = some { w with data := w.data.take (a - w.req.frm) ++ s ++ w.data.drop (a - w.req.frm + s.length), have_ := w.have_.take (a - w.req.frm) ++ List.replicate s.length 1 ++ w.have_.drop (a - w.req.frm + s.length) } := by
  unfold Wait.come; rw [if_neg h, if_neg h2]

theorem has_any (c : UInt8) (l : List UInt8) (w : World) : Calls Try.prog 39 #[.string ⟨l.toArray⟩, .string ⟨#[c]⟩] w fun e w' => e = .returned (.bool (l.contains c)) ∧ w' = w := by
  have h := Try.strings_Contains_one ⟨l.toArray⟩ c w
  rw [show (⟨l.toArray⟩ : ByteArray).data.toList = l by simp, ← Lib.contains_iff_indexByte] at h
  exact h

theorem come_str (h : List UInt8) (J n : Nat) : (({ data := (List.take J h).toArray } : ByteArray) ++ { data := Array.replicate n 1 } ++ { data := (List.drop (J + n) h).toArray }) = ⟨(List.take J h ++ List.replicate n 1 ++ List.drop (J + n) h).toArray⟩ := by
  rw [show (Array.replicate n (1 : UInt8)) = (List.replicate n 1).toArray by simp, mk_append, mk_append]
set_option maxRecDepth 100000 in
set_option maxHeartbeats 4000000 in
theorem come_any {W0 : FW} {b : Nat} {w : World} {m : Mat} {ns : List Answ} {k : Nat} {d : List UInt8} {q : Wait} (h : MWk W0 b w m ns k d) (hq : m.waits[k]? = some q) (hok : q.Ok) (a : Nat) (s : List UInt8) (ha : a < 18446744073709551616) (hs : s.length ≤ 100000) :
    Calls Try.prog 66 #[.pointer (some ⟨b, 0, none⟩), .int .u64 (a : Nat), .string ⟨s.toArray⟩] w (KEnds W0 b m ns k d (q.come a s)) := by
  have mixed : Try.prog.follows .mixedOrders = true := by kernel_rfl
  obtain ⟨gw, cap, va, h1, h2, h3⟩ := h
  obtain ⟨ps, p1, p2, p3⟩ := h2.wa
  obtain ⟨uv, hu⟩ := pairs_get p1 k q hq
  have H1 := Lib.hid h1
  have H2 := Lib.hid h2
  have HP := Lib.hid (And.intro p1 (And.intro p2 p3))
  obtain ⟨t0, t1, t2, t3, t4, t5, t6, t7, t8, t9⟩ := row_cells p2 hu
  have HU := Lib.hid hu
  have HQ := Lib.hid hq
  have x5 := h1.cell 5
  unfold wkC at x5
  simp only [List.getElem?_toArray, List.getElem?_cons_zero, List.getElem?_cons_succ] at x5
  clear h1 h2 p1 p2 p3 hu hq
  dsimp only at t0 t1 t2 t3 t4 t5 t6 t7 t8 t9
  obtain ⟨hwf, hfit, hrd, hot, her, hcx⟩ := hok
  obtain ⟨hl32, hc64, hf64⟩ := hwf
  have HM0 : Hid (∀ W, Below w.heap.size w W → MWk W0 b W m ns k d) := Lib.hid (fun W hb => ⟨gw, cap, va, H1.out.below hb H1.out.lt, H2.out.below hb, h3⟩)
  have HNO : Hid (∀ W, Below w.heap.size w W → q.come a s = none → KEnds W0 b m ns k d (q.come a s) (.returned (.bool false)) W) := Lib.hid (fun W hb hn => by
    rw [hn]
    exact .inl ⟨rfl, rfl, q, by rw [set_same m k q HQ.out]; exact HM0.out W hb⟩)
  by_cases c1 : q.req.kind = 0
  · by_cases c2 : s = []
    · have hn := Lib.hid (come_bad q a s (.inr (.inl c2)))
      have e1 : (q.req.kind == 0) = true := by simpa using c1
      have e1' : (q.req.kind != 0) = false := by simpa using c1
      have e2 : s.isEmpty = true := by simpa using c2
      clear c1 c2
      go_enter Try.func66, Try.ntmps66
      go_wp2_with fail
      go_ret
      exact HNO.out _ (by (repeat' (first | (with_reducible assumption) | (with_reducible exact Below.refl _ _) | (with_reducible refine below_drewN ?_ _) | (with_reducible refine Below.drew ?_) | (with_reducible refine Below.setCell ?_ ?_ _) | (with_reducible refine Below.alloc ?_ ?_ _) | (with_reducible refine below_putObj ?_ ?_ _) | (with_reducible exact Nat.le_refl _) | omega | (simp; done) | (simp; omega)))) hn.out
    · by_cases c3 : a < q.req.frm
      · have hn := Lib.hid (come_bad q a s (.inr (.inr (.inl c3))))
        have e1 : (q.req.kind == 0) = true := by simpa using c1
        have e1' : (q.req.kind != 0) = false := by simpa using c1
        have e2 : s.isEmpty = false := by simpa using c2
        clear c1 c2
        go_enter Try.func66, Try.ntmps66
        go_wp2_with fail
        go_ret
        exact HNO.out _ (by (repeat' (first | (with_reducible assumption) | (with_reducible exact Below.refl _ _) | (with_reducible refine below_drewN ?_ _) | (with_reducible refine Below.drew ?_) | (with_reducible refine Below.setCell ?_ ?_ _) | (with_reducible refine Below.alloc ?_ ?_ _) | (with_reducible refine below_putObj ?_ ?_ _) | (with_reducible exact Nat.le_refl _) | omega | (simp; done) | (simp; omega)))) hn.out
      · by_cases c4 : q.req.len < a - q.req.frm
        · have hn := Lib.hid (come_bad q a s (.inr (.inr (.inr (.inl c4)))))
          have e1 : (q.req.kind == 0) = true := by simpa using c1
          have e1' : (q.req.kind != 0) = false := by simpa using c1
          have e2 : s.isEmpty = false := by simpa using c2
          have e4 : (q.req.len : Int) < (a : Int) - (q.req.frm : Int) := by omega
          clear c1 c2 c4
          go_enter Try.func66, Try.ntmps66
          go_wp2_with fail
          go_ret
          exact HNO.out _ (by (repeat' (first | (with_reducible assumption) | (with_reducible exact Below.refl _ _) | (with_reducible refine below_drewN ?_ _) | (with_reducible refine Below.drew ?_) | (with_reducible refine Below.setCell ?_ ?_ _) | (with_reducible refine Below.alloc ?_ ?_ _) | (with_reducible refine below_putObj ?_ ?_ _) | (with_reducible exact Nat.le_refl _) | omega | (simp; done) | (simp; omega)))) hn.out
        · by_cases c5 : q.req.len - (a - q.req.frm) < s.length
          · have hn := Lib.hid (come_bad q a s (.inr (.inr (.inr (.inr c5)))))
            have e1 : (q.req.kind == 0) = true := by simpa using c1
            have e1' : (q.req.kind != 0) = false := by simpa using c1
            have e2 : s.isEmpty = false := by simpa using c2
            have e4 : ¬ (q.req.len : Int) < (a : Int) - (q.req.frm : Int) := by omega
            have e5 : (q.req.len : Int) - ((a : Int) - (q.req.frm : Int)) < (s.length : Int) := by omega
            clear c1 c2 c4 c5
            go_enter Try.func66, Try.ntmps66
            go_wp2_with fail
            go_ret
            exact HNO.out _ (by (repeat' (first | (with_reducible assumption) | (with_reducible exact Below.refl _ _) | (with_reducible refine below_drewN ?_ _) | (with_reducible refine Below.drew ?_) | (with_reducible refine Below.setCell ?_ ?_ _) | (with_reducible refine Below.alloc ?_ ?_ _) | (with_reducible refine below_putObj ?_ ?_ _) | (with_reducible exact Nat.le_refl _) | omega | (simp; done) | (simp; omega)))) hn.out
          · obtain ⟨hln, hdl, hhl⟩ := hrd c1
            have hgood : ¬ (q.req.kind ≠ 0 ∨ s = [] ∨ a < q.req.frm ∨ q.req.len < a - q.req.frm ∨ q.req.len - (a - q.req.frm) < s.length) := by
              rintro (h | h | h | h | h)
              · exact h c1
              · exact c2 h
              · exact c3 h
              · exact c4 h
              · exact c5 h
            have e1 : (q.req.kind == 0) = true := by simpa using c1
            have e1' : (q.req.kind != 0) = false := by simpa using c1
            have e2 : s.isEmpty = false := by simpa using c2
            have e4 : ¬ (q.req.len : Int) < (a : Int) - (q.req.frm : Int) := by omega
            have e5 : ¬ (q.req.len : Int) - ((a : Int) - (q.req.frm : Int)) < (s.length : Int) := by omega
            have HG := Lib.hid hgood
            obtain ⟨J, hJ⟩ : ∃ J : Nat, (a : Int) - (q.req.frm : Int) = (J : Int) := ⟨a - q.req.frm, by omega⟩
            have hJ2 : a - q.req.frm = J := by omega
            have j1 : (0 : Int) ≤ (J : Int) := by omega
            have j2 : J + s.length ≤ q.req.len := by omega
            have j3 : (J : Int) + (s.length : Int) ≤ (q.req.len : Int) := by omega
            have j4 : (J : Int) ≤ (J : Int) + (s.length : Int) := by omega
            have j5 : J + s.length ≤ q.have_.length := by omega
            have j6 : J + s.length ≤ q.data.length := by omega
            have zo := fun o i => old_cell (w := w) (g := b) H1.out.lt o i
            have wo : ∀ o i, (w.alloc o).cell? ⟨gw, i, none⟩ = w.cell? ⟨gw, i, none⟩ := fun o i => old_cell (own_cap HP.out.2.1).2.2.2 o i
            have nb1 : b ≠ w.heap.size := by have := H1.out.lt; omega
            have nb2 : gw ≠ w.heap.size := by have := (own_cap HP.out.2.1).2.2.2; omega
            have nb3 := nb1.symm
            have nb4 := nb2.symm
            clear c1 c2 c4 c5 hgood
            go_enter Try.func66, Try.ntmps66
            go_wp2_with fail
            refine (has_any 1 _ _).mono ?_
            rintro e w1 ⟨rfl, rfl⟩
            have hdt : List.drop J (List.take (J + s.length) q.have_) = (q.have_.drop (a - q.req.frm)).take s.length := by rw [hJ2, List.drop_take]; congr 1; omega
            cases hc : (List.drop J (List.take (J + s.length) q.have_)).contains 1 with
            | true =>
              have hn := Lib.hid (come_twice q a s HG.out (by rw [← hdt]; simpa using hc))
              go_wp2_with fail
              go_ret
              exact HNO.out _ (by (repeat' (first | (with_reducible assumption) | (with_reducible exact Below.refl _ _) | (with_reducible refine below_drewN ?_ _) | (with_reducible refine Below.drew ?_) | (with_reducible refine Below.setCell ?_ ?_ _) | (with_reducible refine Below.alloc ?_ ?_ _) | (with_reducible refine below_putObj ?_ ?_ _) | (with_reducible exact Nat.le_refl _) | omega | (simp; done) | (simp; omega)))) hn.out
            | false =>
              have hn := Lib.hid (come_ok q a s HG.out (by rw [← hdt]; simpa using hc))
              rw [hJ2] at hn
              clear hdt hc
              go_wp2_with fail
              have N1 := H1.out.alloc (.cells #[.int .i64 q.req.flags, .int .i64 q.req.kind, .int .u64 (q.req.cookie : Nat), .int .u64 (q.req.frm : Nat), .int .u32 (q.req.len : Nat), .string ⟨q.req.data.toArray⟩] 37)
              have hgb : Below w.heap.size w (w.alloc (.cells #[.int .i64 q.req.flags, .int .i64 q.req.kind, .int .u64 (q.req.cookie : Nat), .int .u64 (q.req.frm : Nat), .int .u32 (q.req.len : Nat), .string ⟨q.req.data.toArray⟩] 37)) := by (repeat' (first | (with_reducible assumption) | (with_reducible exact Below.refl _ _) | (with_reducible refine below_drewN ?_ _) | (with_reducible refine Below.drew ?_) | (with_reducible refine Below.setCell ?_ ?_ _) | (with_reducible refine Below.alloc ?_ ?_ _) | (with_reducible refine below_putObj ?_ ?_ _) | (with_reducible exact Nat.le_refl _) | omega | (simp; done) | (simp; omega)))
              have N2 := H2.out.below hgb
              have N4 := own_below HP.out.2.1 hgb
              have N5 : ∀ p ∈ ps, SpanAt _ p.2 p.1.spans := fun p hp => (HP.out.2.2 p hp).below hgb
              have QB := Blk.new w 37 #[.int .i64 q.req.flags, .int .i64 q.req.kind, .int .u64 (q.req.cookie : Nat), .int .u64 (q.req.frm : Nat), .int .u32 (q.req.len : Nat), .string ⟨q.req.data.toArray⟩]
              clear t0 t1 t2 t3 t4 t5 t6 t7 t8 t9 x5 zo wo hgb
              generalize (w.alloc (.cells #[.int .i64 q.req.flags, .int .i64 q.req.kind, .int .u64 (q.req.cookie : Nat), .int .u64 (q.req.frm : Nat), .int .u32 (q.req.len : Nat), .string ⟨q.req.data.toArray⟩] 37)) = W at *
              obtain ⟨t0, t1, t2, t3, t4, t5, t6, t7, t8, t9⟩ := row_cells N4 HU.out
              dsimp only at t6 t7
              have f6 := N4.frozenAt (k * 10 + 6)
              have f7 := N4.frozenAt (k * 10 + 7)
              have x5 := N1.cell 5
              unfold wkC at x5
              simp only [List.getElem?_toArray, List.getElem?_cons_zero, List.getElem?_cons_succ] at x5
              have HN1 := Lib.hid N1
              have HN2 := Lib.hid N2
              have HN4 := Lib.hid N4
              have HN5 := Lib.hid N5
              clear t0 t1 t2 t3 t4 t5 t8 t9 N1 N2 N4 N5
              have m1 : min J q.data.length = J := by omega
              have m2 : ¬ 9223372036854775807 < J + s.length := by omega
              have m3 : ¬ 9223372036854775807 < J + s.length + (q.data.length - (J + s.length)) := by omega
              have m4 : (J : Int) + (s.length : Int) ≤ (q.data.length : Int) := by omega
              have m5 : (0 : Int) ≤ (J : Int) + (s.length : Int) := by omega
              have m6 : ¬ 9223372036854775807 < J + (s.length + (q.data.length - (J + s.length))) := by omega
              have m7 : (J : Int) ≤ (q.data.length : Int) := by omega
              have m8 : ((J : Int) + (s.length : Int)).toNat = J + s.length := by omega
              have m9 : ¬ 9223372036854775807 < q.data.length := by omega
              have HDL := Lib.hid (And.intro hdl hhl)
              clear hdl hhl
              go_still_tail 25, (by kernel_rfl)
              change wpList _ _ _ _ _ W.drew
              have x5d : W.drew.cell? ⟨b, 5, none⟩ = some (.pointer (some ⟨gw, k * 10, none⟩)) := x5
              have t6d : W.drew.cell? ⟨gw, k * 10 + 6, none⟩ = some (.string ⟨q.data.toArray⟩) := t6
              have t7d : W.drew.cell? ⟨gw, k * 10 + 7, none⟩ = some (.string ⟨q.have_.toArray⟩) := t7
              have f6d : W.drew.frozen? ⟨gw, k * 10 + 6, none⟩ = false := f6
              clear x5 t6 t7 f6 f7
              go_wp2_with fail
              have hq6 : waitC ({ q with data := q.data.take J ++ s ++ q.data.drop (J + s.length) }, uv) = (waitC (q, uv)).set 6 (.string ⟨(List.take J q.data ++ (s ++ List.drop (J + s.length) q.data)).toArray⟩) := by simp [waitC]
              have R9 := HN2.out.put (by exact HP.out.1) HN4.out HN5.out rfl HU.out 6 _ (by decide) hq6 (HN5.out _ (List.mem_of_getElem? HU.out))
              have B9 := HN1.out.far (p := ⟨gw, k * 10 + 6, none⟩) (by have := (own_cap HN4.out).2.2.1; dsimp only; omega) (.string ⟨(List.take J q.data ++ (s ++ List.drop (J + s.length) q.data)).toArray⟩)
              clear x5d t6d t7d f6d hq6 HN1 HN2 HN4 HN5 QB
              generalize (W.setCell ⟨gw, k * 10 + 6, none⟩ (.string ⟨(List.take J q.data ++ (s ++ List.drop (J + s.length) q.data)).toArray⟩)) = W9 at *
              obtain ⟨q9, hq9⟩ : ∃ q9 : Wait, q9 = { q with data := q.data.take J ++ s ++ q.data.drop (J + s.length) } := ⟨_, rfl⟩
              rw [← hq9] at R9
              obtain ⟨ps9, p91, p92, p93⟩ := R9.wa
              rw [List.length_set] at p92
              obtain ⟨uv9, hu9⟩ := pairs_get p91 k q9 (by rw [List.getElem?_set_self h3])
              obtain ⟨_, _, _, _, _, _, _, t7, _, _⟩ := row_cells p92 hu9
              have f7 := p92.frozenAt (k * 10 + 7)
              dsimp only at t7
              have hh9 : q9.have_ = q.have_ := by rw [hq9]
              rw [hh9] at t7
              have x5 := B9.cell 5
              unfold wkC at x5
              simp only [List.getElem?_toArray, List.getElem?_cons_zero, List.getElem?_cons_succ] at x5
              have HB9 := Lib.hid B9
              have HR9 := Lib.hid R9
              have HP9 := Lib.hid (And.intro p91 (And.intro p92 (And.intro p93 hu9)))
              have HQ9 := Lib.hid (And.intro hq9 hh9)
              clear B9 R9 p91 p92 p93 hu9 hq9 hh9 m1 m3 m4 m6 m7 m9
              obtain ⟨_, hhl⟩ := HDL.out
              have m1 : min J q.have_.length = J := by omega
              have m3 : ¬ 9223372036854775807 < J + s.length + (q.have_.length - (J + s.length)) := by omega
              have m4 : (J : Int) + (s.length : Int) ≤ (q.have_.length : Int) := by omega
              have m6 : ¬ 9223372036854775807 < J + (s.length + (q.have_.length - (J + s.length))) := by omega
              have m7 : (J : Int) ≤ (q.have_.length : Int) := by omega
              have m9 : ¬ 9223372036854775807 < q.have_.length := by omega
              have hsl : s.length ≤ 5000 := by omega
              clear hhl
              have x5dd : W9.drew.drew.cell? ⟨b, 5, none⟩ = some (.pointer (some ⟨gw, k * 10, none⟩)) := x5
              have t7dd : W9.drew.drew.cell? ⟨gw, k * 10 + 7, none⟩ = some (.string ⟨q.have_.toArray⟩) := t7
              have hne57 : b ≠ gw := by have := (own_cap HP9.out.2.1).2.2.1; omega
              have hne75 := hne57.symm
              refine wp_region_tail (fun w' => w'.cell? ⟨b, 5, none⟩ = some (.pointer (some ⟨gw, k * 10, none⟩)) ∧ w'.cell? ⟨gw, k * 10 + 7, none⟩ = some (.string ⟨q.have_.toArray⟩)) 29 mixed ⟨x5dd, t7dd⟩ (fun hHeld1 => ?_)
              refine anyT_take (i := 0) (v := ?_) (by simp only [List.getElem?_toArray, List.getElem?_cons_succ, List.getElem?_cons_zero]; rfl) (by kernel_rfl) (by kernel_rfl) (by kernel_rfl) (by kernel_rfl) (by intro _ _ _ h; exact h) (Or.inl ⟨by rfl, ?_⟩) (by assumption) ?_
              rotate_left
              · intro w hSw; (try dsimp only at hSw); go_simp; try (with_reducible rfl)
              try simp only [Act.put, List.setIfInBounds_toArray, List.set_cons_zero, List.set_cons_succ]
              refine anyT_take (i := 1) (v := ?_) (by simp only [List.getElem?_toArray, List.getElem?_cons_succ, List.getElem?_cons_zero]; rfl) (by kernel_rfl) (by kernel_rfl) (by kernel_rfl) (by kernel_rfl) (by intro _ _ _ h; exact h) (Or.inl ⟨by rfl, ?_⟩) (by assumption) ?_
              rotate_left
              · intro w hSw; (try dsimp only at hSw); go_simp; try (with_reducible rfl)
              try simp only [Act.put, List.setIfInBounds_toArray, List.set_cons_zero, List.set_cons_succ]
              refine anyT_take (i := 2) (v := ?_) (by simp only [List.getElem?_toArray, List.getElem?_cons_succ, List.getElem?_cons_zero]; rfl) (by kernel_rfl) (by kernel_rfl) (by kernel_rfl) (by kernel_rfl) (by intro _ _ _ h; exact h) (Or.inl ⟨by rfl, ?_⟩) (by assumption) ?_
              rotate_left
              · intro w hSw; (try dsimp only at hSw); go_simp; try (with_reducible rfl)
              try simp only [Act.put, List.setIfInBounds_toArray, List.set_cons_zero, List.set_cons_succ]
              refine anyT_take (i := 3) (v := ?_) (by simp only [List.getElem?_toArray, List.getElem?_cons_succ, List.getElem?_cons_zero]; rfl) (by kernel_rfl) (by kernel_rfl) (by kernel_rfl) (by kernel_rfl) (by intro _ _ _ h; exact h) (Or.inl ⟨by rfl, ?_⟩) (by assumption) ?_
              rotate_left
              · intro w hSw; (try dsimp only at hSw); go_simp; try (with_reducible rfl)
              try simp only [Act.put, List.setIfInBounds_toArray, List.set_cons_zero, List.set_cons_succ]
              refine anyT_take (i := 4) (v := ?_) (by simp only [List.getElem?_toArray, List.getElem?_cons_succ, List.getElem?_cons_zero]; rfl) (by kernel_rfl) (by kernel_rfl) (by kernel_rfl) (by kernel_rfl) (by intro _ _ _ h; exact h) (Or.inl ⟨by rfl, ?_⟩) (by assumption) ?_
              rotate_left
              · intro w hSw; (try dsimp only at hSw); go_simp; try (with_reducible rfl)
              try simp only [Act.put, List.setIfInBounds_toArray, List.set_cons_zero, List.set_cons_succ]
              refine anyT_take (i := 5) (v := ?_) (by simp only [List.getElem?_toArray, List.getElem?_cons_succ, List.getElem?_cons_zero]; rfl) (by kernel_rfl) (by kernel_rfl) (by kernel_rfl) (by kernel_rfl) (by intro _ _ _ h; exact h) (Or.inl ⟨by rfl, ?_⟩) (by assumption) ?_
              rotate_left
              · intro w hSw; (try dsimp only at hSw); go_simp; try (with_reducible rfl)
              try simp only [Act.put, List.setIfInBounds_toArray, List.set_cons_zero, List.set_cons_succ]
              refine anyT_take (i := 6) (v := ?_) (by simp only [List.getElem?_toArray, List.getElem?_cons_succ, List.getElem?_cons_zero]; rfl) (by kernel_rfl) (by kernel_rfl) (by kernel_rfl) (by kernel_rfl) (by intro _ _ _ h; exact h) (Or.inl ⟨by rfl, ?_⟩) (by assumption) ?_
              rotate_left
              · intro w hSw; (try dsimp only at hSw); go_simp; try (with_reducible rfl)
              try simp only [Act.put, List.setIfInBounds_toArray, List.set_cons_zero, List.set_cons_succ]
              refine anyT_take (i := 7) (v := ?_) (by simp only [List.getElem?_toArray, List.getElem?_cons_succ, List.getElem?_cons_zero]; rfl) (by kernel_rfl) (by kernel_rfl) (by kernel_rfl) (by kernel_rfl) (by intro _ _ _ h; exact h) (Or.inl ⟨by rfl, ?_⟩) (by assumption) ?_
              rotate_left
              · intro w hSw; (try dsimp only at hSw); go_simp; try (with_reducible rfl)
              try simp only [Act.put, List.setIfInBounds_toArray, List.set_cons_zero, List.set_cons_succ]
              refine anyT_take (i := 8) (v := ?_) (by simp only [List.getElem?_toArray, List.getElem?_cons_succ, List.getElem?_cons_zero]; rfl) (by kernel_rfl) (by kernel_rfl) (by kernel_rfl) (by kernel_rfl) (by intro _ _ _ h; exact h) (Or.inl ⟨by rfl, ?_⟩) (by assumption) ?_
              rotate_left
              · intro w hSw; (try dsimp only at hSw); go_simp; try (with_reducible rfl)
              try simp only [Act.put, List.setIfInBounds_toArray, List.set_cons_zero, List.set_cons_succ]
              refine anyT_take (i := 9) (v := ?_) (by simp only [List.getElem?_toArray, List.getElem?_cons_succ, List.getElem?_cons_zero]; rfl) (by kernel_rfl) (by kernel_rfl) (by kernel_rfl) (by kernel_rfl) (by intro _ _ _ h; exact h) (Or.inl ⟨by rfl, ?_⟩) (by assumption) ?_
              rotate_left
              · intro w hSw; (try dsimp only at hSw); go_simp; try (with_reducible rfl)
              try simp only [Act.put, List.setIfInBounds_toArray, List.set_cons_zero, List.set_cons_succ]
              refine anyT_take (i := 10) (v := ?_) (by simp only [List.getElem?_toArray, List.getElem?_cons_succ, List.getElem?_cons_zero]; rfl) (by kernel_rfl) (by kernel_rfl) (by kernel_rfl) (by kernel_rfl) (by intro _ _ _ h; exact h) (Or.inl ⟨by rfl, ?_⟩) (by assumption) ?_
              rotate_left
              · intro w hSw; (try dsimp only at hSw); go_simp; try (with_reducible rfl)
              try simp only [Act.put, List.setIfInBounds_toArray, List.set_cons_zero, List.set_cons_succ]
              refine anyT_take (i := 11) (v := ?_) (by simp only [List.getElem?_toArray, List.getElem?_cons_succ, List.getElem?_cons_zero]; rfl) (by kernel_rfl) (by kernel_rfl) (by kernel_rfl) (by kernel_rfl) (by intro _ _ _ h; exact h) (Or.inl ⟨by rfl, ?_⟩) (by assumption) ?_
              rotate_left
              · intro w hSw; (try dsimp only at hSw); go_simp; try (with_reducible rfl)
              try simp only [Act.put, List.setIfInBounds_toArray, List.set_cons_zero, List.set_cons_succ]
              refine anyT_take (i := 12) (v := ?_) (by simp only [List.getElem?_toArray, List.getElem?_cons_succ, List.getElem?_cons_zero]; rfl) (by kernel_rfl) (by kernel_rfl) (by kernel_rfl) (by kernel_rfl) (by intro _ _ _ h; exact h) (Or.inl ⟨by rfl, ?_⟩) (by assumption) ?_
              rotate_left
              · intro w hSw; (try dsimp only at hSw); go_simp; try (with_reducible rfl)
              try simp only [Act.put, List.setIfInBounds_toArray, List.set_cons_zero, List.set_cons_succ]
              refine anyT_take (i := 13) (v := ?_) (by simp only [List.getElem?_toArray, List.getElem?_cons_succ, List.getElem?_cons_zero]; rfl) (by kernel_rfl) (by kernel_rfl) (by kernel_rfl) (by kernel_rfl) (by intro _ _ _ h; exact h) (Or.inl ⟨by rfl, ?_⟩) (by assumption) ?_
              rotate_left
              · intro w hSw; (try dsimp only at hSw); go_simp; try (with_reducible rfl)
              try simp only [Act.put, List.setIfInBounds_toArray, List.set_cons_zero, List.set_cons_succ]
              refine anyT_take (i := 14) (v := ?_) (by simp only [List.getElem?_toArray, List.getElem?_cons_succ, List.getElem?_cons_zero]; rfl) (by kernel_rfl) (by kernel_rfl) (by kernel_rfl) (by kernel_rfl) (by intro _ _ _ h; exact h) (Or.inl ⟨by rfl, ?_⟩) (by assumption) ?_
              rotate_left
              · intro w hSw; (try dsimp only at hSw); go_simp; try (with_reducible rfl)
              try simp only [Act.put, List.setIfInBounds_toArray, List.set_cons_zero, List.set_cons_succ]
              refine anyT_take (i := 17) (v := ?_) (by simp only [List.getElem?_toArray, List.getElem?_cons_succ, List.getElem?_cons_zero]; rfl) (by kernel_rfl) (by kernel_rfl) (by kernel_rfl) (by kernel_rfl) (by intro _ _ _ h; exact h) (Or.inl ⟨by rfl, ?_⟩) (by assumption) ?_
              rotate_left
              · intro w hSw; (try dsimp only at hSw); go_simp; try (with_reducible rfl)
              try simp only [Act.put, List.setIfInBounds_toArray, List.set_cons_zero, List.set_cons_succ]
              refine anyT_take (i := 18) (v := ?_) (by simp only [List.getElem?_toArray, List.getElem?_cons_succ, List.getElem?_cons_zero]; rfl) (by kernel_rfl) (by kernel_rfl) (by kernel_rfl) (by kernel_rfl) (by intro _ _ _ h; exact h) (Or.inl ⟨by rfl, ?_⟩) (by assumption) ?_
              rotate_left
              · intro w hSw; (try dsimp only at hSw); go_simp; try (with_reducible rfl)
              try simp only [Act.put, List.setIfInBounds_toArray, List.set_cons_zero, List.set_cons_succ]
              refine anyT_take (i := 19) (v := ?_) (by simp only [List.getElem?_toArray, List.getElem?_cons_succ, List.getElem?_cons_zero]; rfl) (by kernel_rfl) (by kernel_rfl) (by kernel_rfl) (by kernel_rfl) (by intro _ _ _ h; exact h) (Or.inl ⟨by rfl, ?_⟩) (by assumption) ?_
              rotate_left
              · intro w hSw; (try dsimp only at hSw); go_simp; try (with_reducible rfl)
              try simp only [Act.put, List.setIfInBounds_toArray, List.set_cons_zero, List.set_cons_succ]
              refine anyT_take (i := 20) (v := ?_) (by simp only [List.getElem?_toArray, List.getElem?_cons_succ, List.getElem?_cons_zero]; rfl) (by kernel_rfl) (by kernel_rfl) (by kernel_rfl) (by kernel_rfl) (by intro _ _ _ h; exact h) (Or.inl ⟨by rfl, ?_⟩) (by assumption) ?_
              rotate_left
              · intro w hSw; (try dsimp only at hSw); go_simp; try (with_reducible rfl)
              try simp only [Act.put, List.setIfInBounds_toArray, List.set_cons_zero, List.set_cons_succ]
              refine anyT_take (i := 21) (v := ?_) (by simp only [List.getElem?_toArray, List.getElem?_cons_succ, List.getElem?_cons_zero]; rfl) (by kernel_rfl) (by kernel_rfl) (by kernel_rfl) (by kernel_rfl) (by intro _ _ _ h; exact h) (Or.inl ⟨by rfl, ?_⟩) (by assumption) ?_
              rotate_left
              · intro w hSw; (try dsimp only at hSw); go_simp; try (with_reducible rfl)
              try simp only [Act.put, List.setIfInBounds_toArray, List.set_cons_zero, List.set_cons_succ]
              refine anyT_take (i := 22) (v := ?_) (by simp only [List.getElem?_toArray, List.getElem?_cons_succ, List.getElem?_cons_zero]; rfl) (by kernel_rfl) (by kernel_rfl) (by kernel_rfl) (by kernel_rfl) (by intro _ _ _ h; exact h) (Or.inl ⟨by rfl, ?_⟩) (by assumption) ?_
              rotate_left
              · intro w hSw; (try dsimp only at hSw); go_simp; try (with_reducible rfl)
              try simp only [Act.put, List.setIfInBounds_toArray, List.set_cons_zero, List.set_cons_succ]
              refine anyT_take (i := 23) (v := ?_) (by simp only [List.getElem?_toArray, List.getElem?_cons_succ, List.getElem?_cons_zero]; rfl) (by kernel_rfl) (by kernel_rfl) (by kernel_rfl) (by kernel_rfl) (by intro _ _ _ h; exact h) (Or.inl ⟨by rfl, ?_⟩) (by assumption) ?_
              rotate_left
              · intro w hSw; (try dsimp only at hSw); go_simp; try (with_reducible rfl)
              try simp only [Act.put, List.setIfInBounds_toArray, List.set_cons_zero, List.set_cons_succ]
              refine anyT_take (i := 24) (v := ?_) (by simp only [List.getElem?_toArray, List.getElem?_cons_succ, List.getElem?_cons_zero]; rfl) (by kernel_rfl) (by kernel_rfl) (by kernel_rfl) (by kernel_rfl) (by intro _ _ _ h; exact h) (Or.inl ⟨by rfl, ?_⟩) (by assumption) ?_
              rotate_left
              · intro w hSw; (try dsimp only at hSw); go_simp; try (with_reducible rfl)
              try simp only [Act.put, List.setIfInBounds_toArray, List.set_cons_zero, List.set_cons_succ]
              refine anyT_take (i := 25) (v := ?_) (by simp only [List.getElem?_toArray, List.getElem?_cons_succ, List.getElem?_cons_zero]; rfl) (by kernel_rfl) (by kernel_rfl) (by kernel_rfl) (by kernel_rfl) (by intro _ _ _ h; exact h) (Or.inl ⟨by rfl, ?_⟩) (by assumption) ?_
              rotate_left
              · intro w hSw; (try dsimp only at hSw); go_simp; try (with_reducible rfl)
              try simp only [Act.put, List.setIfInBounds_toArray, List.set_cons_zero, List.set_cons_succ]
              refine anyT_step (i := 15) (by simp only [List.getElem?_toArray, List.getElem?_cons_succ, List.getElem?_cons_zero]; rfl) (by kernel_rfl) (fun K hK => ?_)
              go_simp
              go_at_call 29
              refine (repeat_any 1 s.length hsl _).mono ?_
              rintro e w6 ⟨rfl, hb6⟩
              have hb69 := below_next (((Below.refl _ W9).drew).drew) hb6
              have x56 := cell_keepS x5 hb69
              have t76 := cell_keepS t7 hb69
              have f76 := (own_below HP9.out.2.1 hb69).frozenAt (k * 10 + 7)
              have hHeld6 := And.intro x56 t76
              refine hK.out _ _ ?_ (fun hHeld2 => ?_)
              · exact Or.inr hHeld6
              clear hK K
              try simp only [Act.put, List.setIfInBounds_toArray, List.set_cons_zero, List.set_cons_succ]
              refine anyT_take (i := 16) (v := ?_) (by simp only [List.getElem?_toArray, List.getElem?_cons_succ, List.getElem?_cons_zero]; rfl) (by kernel_rfl) (by kernel_rfl) (by kernel_rfl) (by kernel_rfl) (by intro _ _ _ h; exact h) (Or.inl ⟨by rfl, ?_⟩) (by assumption) ?_
              rotate_left
              · intro w hSw; (try dsimp only at hSw); go_simp; try (with_reducible rfl)
              try simp only [Act.put, List.setIfInBounds_toArray, List.set_cons_zero, List.set_cons_succ]
              refine anyT_take (i := 26) (v := ?_) (by simp only [List.getElem?_toArray, List.getElem?_cons_succ, List.getElem?_cons_zero]; rfl) (by kernel_rfl) (by kernel_rfl) (by kernel_rfl) (by kernel_rfl) (by intro _ _ _ h; exact h) (Or.inl ⟨by rfl, ?_⟩) (by assumption) ?_
              rotate_left
              · intro w hSw; (try dsimp only at hSw); go_simp; try (with_reducible rfl)
              try simp only [Act.put, List.setIfInBounds_toArray, List.set_cons_zero, List.set_cons_succ]
              refine anyT_step (i := 27) (by simp only [List.getElem?_toArray, List.getElem?_cons_succ, List.getElem?_cons_zero]; rfl) (by kernel_rfl) (fun K hK => ?_)
              go_simp
              refine hK.out _ _ ?_ (fun hHeld2 => ?_)
              · exact Or.inr hHeld6
              clear hK K
              try simp only [Act.put, List.setIfInBounds_toArray, List.set_cons_zero, List.set_cons_succ]
              refine anyT_take (i := 28) (v := ?_) (by simp only [List.getElem?_toArray, List.getElem?_cons_succ, List.getElem?_cons_zero]; rfl) (by kernel_rfl) (by kernel_rfl) (by kernel_rfl) (by kernel_rfl) (by intro _ _ _ h; exact h) (Or.inl ⟨by rfl, ?_⟩) (by assumption) ?_
              rotate_left
              · intro w hSw; (try dsimp only at hSw); go_simp; try (with_reducible rfl)
              try simp only [Act.put, List.setIfInBounds_toArray, List.set_cons_zero, List.set_cons_succ]
              refine anyT_step (i := 29) (by simp only [List.getElem?_toArray, List.getElem?_cons_succ, List.getElem?_cons_zero]; rfl) (by kernel_rfl) (fun K hK => ?_)
              go_simp
              refine hK.out _ _ ?_ (fun hHeld2 => ?_)
              · exact Or.inl rfl
              clear hK K
              try simp only [Act.put, List.setIfInBounds_toArray, List.set_cons_zero, List.set_cons_succ]
              refine anyT_done (by kernel_rfl) ?_ _
              clear hHeld6 x5dd t7dd hHeld1
              try clear hHeld2
              all_goals rw [come_str q.have_ J s.length]
              all_goals have R6 := HR9.out.below hb69
              all_goals have O6 := own_below HP9.out.2.1 hb69
              all_goals have P6 : ∀ p ∈ ps9, SpanAt w6 p.2 p.1.spans := fun p hp => (HP9.out.2.2.1 p hp).below hb69
              all_goals have hq7 : waitC ({ q with data := q.data.take J ++ s ++ q.data.drop (J + s.length), have_ := q.have_.take J ++ List.replicate s.length 1 ++ q.have_.drop (J + s.length) }, uv9) = (waitC (q9, uv9)).set 7 (.string ⟨(List.take J q.have_ ++ List.replicate s.length 1 ++ List.drop (J + s.length) q.have_).toArray⟩) := by rw [HQ9.out.1]; simp [waitC]
              all_goals have R7 := R6.put HP9.out.1 O6 P6 (by rw [List.length_set]) HP9.out.2.2.2 7 _ (by decide) hq7 (by have h := P6 _ (List.mem_of_getElem? HP9.out.2.2.2); rw [HQ9.out.1] at h; exact h)
              all_goals rw [List.set_set] at R7
              all_goals have B7 := (HB9.out.below hb69 HB9.out.lt).far (p := ⟨gw, k * 10 + 7, none⟩) (by exact hne57) (.string ⟨(List.take J q.have_ ++ List.replicate s.length 1 ++ List.drop (J + s.length) q.have_).toArray⟩)
              all_goals have HR7 := Lib.hid R7
              all_goals have HB7 := Lib.hid B7
              all_goals clear R6 O6 P6 hq7 R7 B7 x56 t76 f76 hb6 hb69
              all_goals go_wp2_with fail
              all_goals go_ret
              all_goals refine .inr ⟨_, hn.out, rfl, gw, cap, va, ?_, ?_, ?_⟩
              all_goals try rw [show q.have_.take J ++ (List.replicate s.length 1 ++ q.have_.drop (J + s.length)) = q.have_.take J ++ List.replicate s.length 1 ++ q.have_.drop (J + s.length) from (List.append_assoc ..).symm]
              all_goals first | exact (by dsimp only; rw [List.length_set]; exact HB7.out) | exact (by dsimp only; rw [List.length_set]; exact HR7.out) | exact (by dsimp only; rw [List.length_set]; exact h3)
  · have hn := Lib.hid (come_bad q a s (.inl c1))
    have e1 : (q.req.kind == 0) = false := by simpa using c1
    have e1' : (q.req.kind != 0) = true := by simpa using c1
    clear c1
    go_enter Try.func66, Try.ntmps66
    go_wp2_with fail
    go_ret
    exact HNO.out _ (by (repeat' (first | (with_reducible assumption) | (with_reducible exact Below.refl _ _) | (with_reducible refine below_drewN ?_ _) | (with_reducible refine Below.drew ?_) | (with_reducible refine Below.setCell ?_ ?_ _) | (with_reducible refine Below.alloc ?_ ?_ _) | (with_reducible refine below_putObj ?_ ?_ _) | (with_reducible exact Nat.le_refl _) | omega | (simp; done) | (simp; omega)))) hn.out
end Go.Proofs.Ytfcojhpnpfodeaa
