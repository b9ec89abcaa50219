/- match's worker: where it lies; die, answer. -/
import Derived.Test.YtfcojhpnpfodeaaMatDel
import Derived.BigRegion
namespace Go.Proofs.Ytfcojhpnpfodeaa
open Go.RowKit

def wkC (m : Mat) (vw va p : Value) (d : List UInt8) : Array Value := #[.string ⟨m.buf.toArray⟩, .bool m.chunks, vw, .bool m.dead, va, p, .string ⟨d.toArray⟩]

theorem own_moved {B : Nat} {e : TypeId} {k : Nat} {v : Value} {n : Nat} {xs : List Value} {w w' : World} (h : w.ownsRow B e k v n xs) (hk : ∀ g, v.ownBlock = some g → w'.heap[g]? = w.heap[g]?) : w'.ownsRow B e k v n xs :=
  ⟨h.1, h.2.imp id fun ⟨g, cap, cur, hv, hB, hg, r⟩ => ⟨g, cap, cur, hv, hB, (hk g (by rw [hv]; rfl)).trans hg, r⟩⟩
theorem own_typed {B : Nat} {e : TypeId} {k : Nat} {v : Value} {n : Nat} {xs : List Value} {w : World} (h : w.ownsRow B e k v n xs) : ∀ g, v.ownBlock = some g → B ≤ g ∧ ∃ cs, Blk w g e cs := by
  intro g hg
  rcases h.2 with ⟨hv, _⟩ | ⟨g', cap, cur, hv, hB, hgb, _⟩
  · rw [hv] at hg; simp [Value.ownBlock] at hg
  · rw [hv] at hg
    obtain rfl : g' = g := by simpa [Value.ownBlock] using hg
    exact ⟨hB, cur, hgb⟩
theorem own_apart {B : Nat} {e : TypeId} {k : Nat} {v : Value} {n : Nat} {xs : List Value} {w w' : World} (h : w.ownsRow B e k v n xs) (ha : Apart w w') (he : e = 114 ∨ e = 90 ∨ e = 42 ∨ e = 40) : w'.ownsRow B e k v n xs :=
  own_moved h fun g hg => by
    obtain ⟨_, cs, h2⟩ := own_typed h g hg
    exact ha g cs e _ h2 he

/-- The world at the start, and blocks that stay as they are. -/
structure FW where
  w : World
  kept : List (Nat × TypeId × Array Value)
theorem kept_grown {B k n g : Nat} {e T : TypeId} {v : Value} {xs : List Value} {X w6 : World} {cs : Array Value} (own : X.ownsRow B e k v n xs) (hg : X.grownBy w6 v.ownBlock) (hx : Blk X g T cs) (ht : T ≠ e) : Blk w6 g T cs := by
  refine (hg.block g hx.lt fun hv => ?_).trans hx
  obtain ⟨_, cs', h2⟩ := own_typed own g hv.symm
  have := (show X.heap[g]? = _ from h2).symm.trans hx
  simp only [Option.some.injEq, Obj.cells.injEq] at this
  exact ht this.2.1.symm
/-- What waits in a row of the call's own, and what was answered. -/
structure WRows (W0 : FW) (b : Nat) (w : World) (l : List Wait) (ns : List Answ) (vw va : Value) : Prop where
  wa : ∃ ps : List (Wait × Value), ps.map Prod.fst = l ∧ w.ownsRow (b + 1) 42 10 vw l.length (ps.flatMap waitC) ∧ ∀ p ∈ ps, SpanAt w p.2 p.1.spans
  an : ∃ qs : List (Answ × Value), qs.map Prod.fst = ns ∧ w.ownsRow (b + 1) 40 9 va ns.length (qs.flatMap answC) ∧ ∀ p ∈ qs, SpanAt w p.2 p.1.spans
  bl : Below W0.w.heap.size W0.w w
  hb : W0.w.heap.size ≤ b
  kp : ∀ x ∈ W0.kept, Blk w x.1 x.2.1 x.2.2 ∧ x.1 ≠ b ∧ x.2.1 ≠ 42 ∧ x.2.1 ≠ 40
section
variable {W0 : FW} {b : Nat} {w w' : World} {l : List Wait} {ns : List Answ} {vw va : Value}
theorem WRows.below (h : WRows W0 b w l ns vw va) (hb : Below w.heap.size w w') : WRows W0 b w' l ns vw va := by
  obtain ⟨ps, p1, p2, p3⟩ := h.wa
  obtain ⟨qs, q1, q2, q3⟩ := h.an
  exact ⟨⟨ps, p1, own_below p2 hb, fun p hp => (p3 p hp).below hb⟩, ⟨qs, q1, own_below q2 hb, fun p hp => (q3 p hp).below hb⟩, below_next h.bl hb, h.hb, fun x hx => ⟨(h.kp x hx).1.below hb (h.kp x hx).1.lt, (h.kp x hx).2⟩⟩
theorem WRows.apart (h : WRows W0 b w l ns vw va) (ha : Apart w w') (hb : Below W0.w.heap.size W0.w w') (hk : ∀ x ∈ W0.kept, Blk w' x.1 x.2.1 x.2.2) : WRows W0 b w' l ns vw va := by
  obtain ⟨ps, p1, p2, p3⟩ := h.wa
  obtain ⟨qs, q1, q2, q3⟩ := h.an
  exact ⟨⟨ps, p1, own_apart p2 ha (.inr (.inr (.inl rfl))), fun p hp => (p3 p hp).apart ha⟩, ⟨qs, q1, own_apart q2 ha (.inr (.inr (.inr rfl))), fun p hp => (q3 p hp).apart ha⟩, hb, h.hb, fun x hx => ⟨hk x hx, (h.kp x hx).2⟩⟩
theorem workT : 66 ≠ 114 ∧ 66 ≠ 90 ∧ 66 ≠ 42 ∧ 66 ≠ 40 := by decide
theorem WRows.set_ {cs : Array Value} (h : WRows W0 b w l ns vw va) (hB : Blk w b 66 cs) (i : Nat) (u : Value) : WRows W0 b (w.setCell ⟨b, i, none⟩ u) l ns vw va :=
  h.apart (apart_set (apart_refl w) hB workT i u) (h.bl.setCell h.hb _) (fun x hx => (h.kp x hx).1.far (p := ⟨b, i, none⟩) (h.kp x hx).2.1 u)
theorem WRows.bare (h : WRows W0 b w l ns vw va) : WRows W0 b w [] ns (.slice none 0 0) va := ⟨⟨[], rfl, World.ownsRow_nil _ _ _ _, by simp⟩, h.an, h.bl, h.hb, h.kp⟩
theorem WRows.formW (h : WRows W0 b w l ns vw va) : ∃ a c, vw = .slice a l.length c := by
  obtain ⟨ps, p1, p2, p3⟩ := h.wa
  exact (SlAt.of_row p2).form
theorem WRows.formA (h : WRows W0 b w l ns vw va) : ∃ a c, va = .slice a ns.length c := by
  obtain ⟨ps, p1, p2, p3⟩ := h.an
  exact (SlAt.of_row p2).form
theorem WRows.waits (h : WRows W0 b w l ns vw va) : WaitsAt w vw l := by
  obtain ⟨ps, p1, p2, p3⟩ := h.wa
  exact ⟨ps, p1, SlAt.of_row p2, p3, TyAt.of_row p2⟩
theorem WRows.answs (h : WRows W0 b w l ns vw va) : AnswsAt w va ns := by
  obtain ⟨ps, p1, p2, p3⟩ := h.an
  exact ⟨ps, p1, SlAt.of_row p2, p3, TyAt.of_row p2⟩
end
/-- Block b is a worker. -/
def MW (W0 : FW) (b : Nat) (w : World) (m : Mat) (ns : List Answ) (p : Value) (d : List UInt8) : Prop :=
  ∃ vw va, Blk w b 66 (wkC m vw va p d) ∧ WRows W0 b w m.waits ns vw va
theorem MW.below {W0 : FW} {b : Nat} {w w' : World} {m : Mat} {ns : List Answ} {p : Value} {d : List UInt8} (h : MW W0 b w m ns p d) (hb : Below w.heap.size w w') : MW W0 b w' m ns p d := by
  obtain ⟨vw, va, h1, h2⟩ := h
  exact ⟨vw, va, h1.below hb h1.lt, h2.below hb⟩
/-- Opened: the slices in their own form. -/
theorem MW.open_ {W0 : FW} {b : Nat} {w : World} {m : Mat} {ns : List Answ} {p : Value} {d : List UInt8} (h : MW W0 b w m ns p d) : ∃ a1 c1 a2 c2, Blk w b 66 (wkC m (.slice a1 m.waits.length c1) (.slice a2 ns.length c2) p d) ∧ WRows W0 b w m.waits ns (.slice a1 m.waits.length c1) (.slice a2 ns.length c2) := by
  obtain ⟨vw, va, h1, h2⟩ := h
  obtain ⟨a1, c1, rfl⟩ := h2.formW
  obtain ⟨a2, c2, rfl⟩ := h2.formA
  exact ⟨_, _, _, _, h1, h2⟩
def MWEnds (W0 : FW) (b : Nat) (m : Mat) (ns : List Answ) (p : Value) (d : List UInt8) (e : Ending) (w' : World) : Prop := e = .returned (.tuple #[]) ∧ MW W0 b w' m ns p d

set_option maxRecDepth 100000 in
set_option maxHeartbeats 1000000 in
theorem die_any {W0 : FW} {b : Nat} {w : World} {m : Mat} {ns : List Answ} {p : Value} {d : List UInt8} (h : MW W0 b w m ns p d) :
    Calls Try.prog 35 #[.pointer (some ⟨b, 0, none⟩)] w (MWEnds W0 b m.kill ns p d) := by
  have mixed : Try.prog.follows .mixedOrders = true := by kernel_rfl
  obtain ⟨a1, c1, a2, c2, h1, h2⟩ := h.open_
  have H1 := Lib.hid h1
  have H2 := Lib.hid h2
  have x0 := h1.cell 0
  have x1 := h1.cell 1
  have x2 := h1.cell 2
  have x3 := h1.cell 3
  have f0 := h1.frozen 0
  have f1 := h1.frozen 1
  have f2 := h1.frozen 2
  have f3 := h1.frozen 3
  unfold wkC at x0 x1 x2 x3
  simp only [List.getElem?_toArray, List.getElem?_cons_zero, List.getElem?_cons_succ] at x0 x1 x2 x3
  clear h h1 h2
  go_enter Try.func35, Try.ntmps35
  go_wp2_with fail
  go_end0
  refine ⟨rfl, .slice none 0 0, .slice a2 ns.length c2, ((((H1.out.set_ 0 _).set_ 1 _).set_ 2 _).set_ 3 _).as_ (by simp [wkC, Mat.kill]), ?_⟩
  exact ((((H2.out.bare.set_ H1.out 0 _).set_ (H1.out.set_ 0 _) 1 _).set_ ((H1.out.set_ 0 _).set_ 1 _) 2 _).set_ (((H1.out.set_ 0 _).set_ 1 _).set_ 2 _) 3 _)

theorem flat_erase {α : Type} (f : α → List Value) (k : Nat) (hf : ∀ x, (f x).length = k) : ∀ (l : List α) (j : Nat), j < l.length → (l.eraseIdx j).flatMap f = (l.flatMap f).take (j * k) ++ (l.flatMap f).drop (j * k + k) := by
  intro l
  induction l with
  | nil => intro j h; simp at h
  | cons a l ih =>
    intro j h
    cases j with
    | zero =>
      rw [List.eraseIdx_cons_zero, List.flatMap_cons, Nat.zero_mul, List.take_zero, List.nil_append, Nat.zero_add, List.drop_append_of_le_length (by rw [hf]; exact Nat.le_refl _), List.drop_of_length_le (by rw [hf]; exact Nat.le_refl _), List.nil_append]
    | succ j =>
      have hj : j < l.length := by simpa using h
      rw [List.eraseIdx_cons_succ, List.flatMap_cons, List.flatMap_cons, ih j hj, Nat.add_mul, Nat.one_mul]
      have e1 : (f a ++ l.flatMap f).take (j * k + k) = f a ++ (l.flatMap f).take (j * k) := by
        rw [show j * k + k = (f a).length + j * k by rw [hf]; omega, List.take_length_add_append]
      have e2 : (f a ++ l.flatMap f).drop (j * k + k + k) = (l.flatMap f).drop (j * k + k) := by
        rw [show j * k + k + k = (f a).length + (j * k + k) by rw [hf]; omega, List.drop_length_add_append]
      rw [e1, e2, List.append_assoc]

/-- Worlds in which spans stay. -/
def Apart2 (w w' : World) : Prop := ∀ (g : Nat) (cs : Array Value) (e : TypeId) (fr : Nat × Nat), w.heap[g]? = some (.cells cs e fr) → (e = 114 ∨ e = 90) → w'.heap[g]? = w.heap[g]?
theorem SpanAt.apart2 {w w' : World} {v : Value} {l : List Span} (h : SpanAt w v l) (ha : Apart2 w w') : SpanAt w' v l := by
  obtain ⟨ps, h1, h2, h3, h4⟩ := h
  have hk : ∀ g, v.ownBlock = some g → w'.heap[g]? = w.heap[g]? := fun g hg => by
    obtain ⟨cs, fr, h⟩ := h4 g hg
    exact ha g cs _ fr h (.inr rfl)
  refine ⟨ps, h1, h2.moved hk, fun p hp => (h3 p hp).moved fun g hg => ?_, h4.moved hk⟩
  obtain ⟨cs, fr, h⟩ := (h3 p hp).2 g hg
  exact ha g cs _ fr h (.inl rfl)
theorem apart2_grown {X w6 : World} {B n k : Nat} {e : TypeId} {v : Value} {xs : List Value} (own : X.ownsRow B e k v n xs) (hg : X.grownBy w6 v.ownBlock) (he : e ≠ 114 ∧ e ≠ 90) : Apart2 X w6 := by
  intro g cs e' fr h1 he'
  refine hg.block g (Array.getElem?_eq_some_iff.1 h1).1 fun hv => ?_
  obtain ⟨_, cs', h2⟩ := own_typed own g hv.symm
  have := (show X.heap[g]? = _ from h2).symm.trans h1
  simp only [Option.some.injEq, Obj.cells.injEq] at this
  obtain ⟨_, rfl, _⟩ := this
  rcases he' with h | h
  · exact he.1 h
  · exact he.2 h
theorem other_grown {X w6 : World} {B n k B' n' k' : Nat} {e e' : TypeId} {v v' : Value} {xs xs' : List Value} (own : X.ownsRow B e k v n xs) (hg : X.grownBy w6 v.ownBlock) (own' : X.ownsRow B' e' k' v' n' xs') (he : e ≠ e') : w6.ownsRow B' e' k' v' n' xs' :=
  own_moved own' fun g hv' => by
    obtain ⟨_, cs', h2⟩ := own_typed own' g hv'
    refine hg.block g h2.lt fun hv => ?_
    obtain ⟨_, cs, h1⟩ := own_typed own g hv.symm
    have := (show X.heap[g]? = _ from h1).symm.trans h2
    simp only [Option.some.injEq, Obj.cells.injEq] at this
    exact he this.2.1
theorem WRows.grownA {W0 : FW} {X w6 : World} {b : Nat} {l : List Wait} {ns : List Answ} {vw va v6 sv : Value} {qs : List (Answ × Value)} {a : Answ} (h : WRows W0 b X l ns vw va) (q1 : qs.map Prod.fst = ns) (q3 : ∀ p ∈ qs, SpanAt X p.2 p.1.spans) (own : X.ownsRow (b + 1) 40 9 va ns.length (qs.flatMap answC)) (hg : X.grownBy w6 va.ownBlock)
    (ho : w6.ownsRow (b + 1) 40 9 v6 (ns.length + 1) (qs.flatMap answC ++ answC (a, sv))) (hs : SpanAt X sv a.spans) : WRows W0 b w6 l (ns ++ [a]) vw v6 := by
  have hA := apart2_grown own hg (by decide)
  obtain ⟨ps, p1, p2, p3⟩ := h.wa
  refine ⟨⟨ps, p1, other_grown own hg p2 (by decide), fun p hp => (p3 p hp).apart2 hA⟩, ⟨qs ++ [(a, sv)], by rw [List.map_append, q1]; rfl, ?_, fun p hp => ?_⟩, h.bl.grown hg h.bl.size (fun k hk => by have := (own.lt k hk).1; have := h.hb; omega), h.hb, fun x hx => ⟨kept_grown own hg (h.kp x hx).1 (h.kp x hx).2.2.2, (h.kp x hx).2⟩⟩
  · rw [List.length_append, List.flatMap_append]
    simpa using ho
  · rcases List.mem_append.1 hp with hp | hp
    · exact (q3 p hp).apart2 hA
    · simp only [List.mem_singleton] at hp
      subst hp
      exact hs.apart2 hA
theorem map_erase {α β : Type} (f : α → β) (l : List α) (k : Nat) : (l.eraseIdx k).map f = (l.map f).eraseIdx k := by
  induction l generalizing k with
  | nil => simp
  | cons a l ih => cases k with
    | zero => simp
    | succ k => simp [ih]
theorem WRows.deleted {W0 : FW} {X w6 : World} {b g n cap k : Nat} {l : List Wait} {ns : List Answ} {va : Value} {ps : List (Wait × Value)} (h : WRows W0 b X l ns (.slice (some ⟨g, 0, none⟩) n cap) va) (p1 : ps.map Prod.fst = l) (p3 : ∀ p ∈ ps, SpanAt X p.2 p.1.spans) (hn : n = l.length) (hk : k < n)
    (own : X.ownsRow (b + 1) 42 10 (.slice (some ⟨g, 0, none⟩) n cap) n (ps.flatMap waitC)) (hg : X.grownBy w6 (some g))
    (ho : w6.ownsRow (b + 1) 42 10 (.slice (some ⟨g, 0, none⟩) (n - 1) cap) (n - 1) ((ps.flatMap waitC).take (k * 10) ++ (ps.flatMap waitC).drop (k * 10 + 10))) : WRows W0 b w6 (l.eraseIdx k) ns (.slice (some ⟨g, 0, none⟩) (n - 1) cap) va := by
  have hA := apart2_grown own hg (by decide)
  have hpl : ps.length = n := by have := congrArg List.length p1; simp at this; omega
  obtain ⟨qs, q1, q2, q3⟩ := h.an
  refine ⟨⟨ps.eraseIdx k, by rw [map_erase, p1], ?_, fun p hp => (p3 p (List.mem_of_mem_eraseIdx hp)).apart2 hA⟩, ⟨qs, q1, other_grown own hg q2 (by decide), fun p hp => (q3 p hp).apart2 hA⟩, h.bl.grown hg h.bl.size (fun j hj => by have := (own.lt j hj).1; have := h.hb; omega), h.hb, fun x hx => ⟨kept_grown own hg (h.kp x hx).1 (h.kp x hx).2.2.1, (h.kp x hx).2⟩⟩
  rw [flat_erase waitC 10 waitC_len ps k (by omega), List.length_eraseIdx_of_lt (by omega), ← hn]
  exact ho

set_option maxRecDepth 100000 in
set_option maxHeartbeats 1000000 in
theorem answer_any {W0 : FW} {b : Nat} {w : World} {m : Mat} {ns : List Answ} {p : Value} {d : List UInt8} (h : MW W0 b w m ns p d) (k : Nat) (hk : k < m.waits.length) (hf : m.waits.length ≤ 8) (ha : ns.length ≤ 1000) (a : Answ) (sv : Value) (hs : SpanAt w sv a.spans) :
    Calls Try.prog 36 #[.pointer (some ⟨b, 0, none⟩), .int .i64 (k : Nat), .agg (answC (a, sv)).toArray] w (MWEnds W0 b { m with waits := m.waits.eraseIdx k } (ns ++ [a]) p d) := by
  have mixed : Try.prog.follows .mixedOrders = true := by kernel_rfl
  obtain ⟨i0, hi, hz0, hz1, hz2⟩ := info_parts Try.infoAnsw
  obtain ⟨vw, va, h1, h2⟩ := h
  obtain ⟨a2, c2, rfl⟩ := h2.formA
  obtain ⟨gw, cw, rfl⟩ : ∃ g c, vw = .slice (some ⟨g, 0, none⟩) m.waits.length c := by
    obtain ⟨ps, p1, p2, p3⟩ := h2.wa
    obtain ⟨g, c, e, _⟩ := p2.form (by omega)
    exact ⟨g, c, e⟩
  have H1 := Lib.hid h1
  have H2 := Lib.hid h2
  obtain ⟨sa, sc, rfl⟩ := hs.form
  have HS := Lib.hid hs
  have x2 := h1.cell 2
  have x4 := h1.cell 4
  have f2 := h1.frozen 2
  have f4 := h1.frozen 4
  unfold wkC at x2 x4
  simp only [List.getElem?_toArray, List.getElem?_cons_zero, List.getElem?_cons_succ] at x2 x4
  unfold answC
  dsimp only
  clear h1 h2 hs
  go_enter Try.func36, Try.ntmps36
  go_wp2_with fail
  have AB := Blk.new w 40 #[.int .i64 a.req.flags, .int .i64 a.req.kind, .int .u64 (a.req.cookie : Nat), .int .u64 (a.req.frm : Nat), .int .u32 (a.req.len : Nat), .string ⟨a.req.data.toArray⟩, .int .u32 (a.err : Nat), .string ⟨a.data.toArray⟩, .slice sa a.spans.length sc]
  have hg : Below w.heap.size w (w.alloc (.cells #[.int .i64 a.req.flags, .int .i64 a.req.kind, .int .u64 (a.req.cookie : Nat), .int .u64 (a.req.frm : Nat), .int .u32 (a.req.len : Nat), .string ⟨a.req.data.toArray⟩, .int .u32 (a.err : Nat), .string ⟨a.data.toArray⟩, .slice sa a.spans.length sc] 40)) := by (repeat' (first | (with_reducible assumption) | (with_reducible exact Below.refl _ _) | (with_reducible refine below_drewN ?_ _) | (with_reducible refine Below.drew ?_) | (with_reducible refine Below.setCell ?_ ?_ _) | (with_reducible refine Below.alloc ?_ ?_ _) | (with_reducible refine below_putObj ?_ ?_ _) | (with_reducible exact Nat.le_refl _) | omega | (simp; done) | (simp; omega)))
  have J1 := H1.out.alloc (.cells #[.int .i64 a.req.flags, .int .i64 a.req.kind, .int .u64 (a.req.cookie : Nat), .int .u64 (a.req.frm : Nat), .int .u32 (a.req.len : Nat), .string ⟨a.req.data.toArray⟩, .int .u32 (a.err : Nat), .string ⟨a.data.toArray⟩, .slice sa a.spans.length sc] 40)
  have J2 := H2.out.below hg
  have HSA := Lib.hid (HS.out.below hg)
  have hwb : b < w.heap.size := H1.out.lt
  clear x2 x4 f2 f4 H1 H2 HS hg
  generalize (w.alloc (.cells #[.int .i64 a.req.flags, .int .i64 a.req.kind, .int .u64 (a.req.cookie : Nat), .int .u64 (a.req.frm : Nat), .int .u32 (a.req.len : Nat), .string ⟨a.req.data.toArray⟩, .int .u32 (a.err : Nat), .string ⟨a.data.toArray⟩, .slice sa a.spans.length sc] 40)) = W at *
  generalize w.heap.size = gA at *
  obtain ⟨qs, q1, q2, q3⟩ := J2.an
  have HJ1 := Lib.hid J1
  have HJ2 := Lib.hid J2
  have HQ := Lib.hid (And.intro q1 q3)
  have x4 := J1.cell 4
  have f4 := J1.frozen 4
  have n0 := AB.cell 0
  have n1 := AB.cell 1
  have n2 := AB.cell 2
  have n3 := AB.cell 3
  have n4 := AB.cell 4
  have n5 := AB.cell 5
  have n6 := AB.cell 6
  have n7 := AB.cell 7
  have n8 := AB.cell 8
  unfold wkC at x4
  simp only [List.getElem?_toArray, List.getElem?_cons_zero, List.getElem?_cons_succ] at x4 n0 n1 n2 n3 n4 n5 n6 n7 n8
  have hbW : b < W.heap.size := J1.lt
  have O2 := Lib.hid q2
  clear q1 q2 q3 J1 J2
  go_region_law (refine step_append_lies _ (by rfl) _ _ _ (by rfl) (b + 1) 40 i0 _ 9 104 Try.underlying31 hi hz0 hz1 hz2 rfl (by omega) (.slice a2 ns.length c2) ns.length (qs.flatMap answC) (by rfl) ((O2.out.drew).alloc _) _ 1 1 [.int .i64 a.req.flags, .int .i64 a.req.kind, .int .u64 (a.req.cookie : Nat), .int .u64 (a.req.frm : Nat), .int .u32 (a.req.len : Nat), .string ⟨a.req.data.toArray⟩, .int .u32 (a.err : Nat), .string ⟨a.data.toArray⟩, .slice sa a.spans.length sc] (by rfl) (by rfl) (World.news_of_block (heap_alloc_new _ _)) (by intro u hu; simp only [List.mem_cons, List.not_mem_nil, or_false] at hu; rcases hu with rfl | rfl | rfl | rfl | rfl | rfl | rfl | rfl | rfl <;> rfl) (by omega) (by unfold maxLen; omega) (by omega) (by simp; omega) _ rfl ?_; intro g6 c6 w6 ho6 hg6 hat6 hlt6; have K1 := own_cell ((O2.out.drew).alloc _) hg6 ((HJ1.out.drew).alloc _) (Nat.lt_succ_self b); have k4 := K1.cell 4; have k4f := K1.frozen 4; unfold wkC at k4; simp only [List.getElem?_toArray, List.getElem?_cons_zero, List.getElem?_cons_succ] at k4)
  all_goals have R6 := (HJ2.out.below (show Below W.heap.size W (W.drew.alloc (.cells (answC (a, .slice sa a.spans.length sc)).toArray 40)) by (repeat' (first | (with_reducible assumption) | (with_reducible exact Below.refl _ _) | (with_reducible refine below_drewN ?_ _) | (with_reducible refine Below.drew ?_) | (with_reducible refine Below.setCell ?_ ?_ _) | (with_reducible refine Below.alloc ?_ ?_ _) | (with_reducible refine below_putObj ?_ ?_ _) | (with_reducible exact Nat.le_refl _) | omega | (simp; done) | (simp; omega))))).grownA HQ.out.1 (fun p hp => (HQ.out.2 p hp).below (show Below W.heap.size W (W.drew.alloc (.cells (answC (a, .slice sa a.spans.length sc)).toArray 40)) by (repeat' (first | (with_reducible assumption) | (with_reducible exact Below.refl _ _) | (with_reducible refine below_drewN ?_ _) | (with_reducible refine Below.drew ?_) | (with_reducible refine Below.setCell ?_ ?_ _) | (with_reducible refine Below.alloc ?_ ?_ _) | (with_reducible refine below_putObj ?_ ?_ _) | (with_reducible exact Nat.le_refl _) | omega | (simp; done) | (simp; omega))))) ((O2.out.drew).alloc _) hg6 ho6 (HSA.out.below (show Below W.heap.size W (W.drew.alloc (.cells (answC (a, .slice sa a.spans.length sc)).toArray 40)) by (repeat' (first | (with_reducible assumption) | (with_reducible exact Below.refl _ _) | (with_reducible refine below_drewN ?_ _) | (with_reducible refine Below.drew ?_) | (with_reducible refine Below.setCell ?_ ?_ _) | (with_reducible refine Below.alloc ?_ ?_ _) | (with_reducible refine below_putObj ?_ ?_ _) | (with_reducible exact Nat.le_refl _) | omega | (simp; done) | (simp; omega)))))
  all_goals have L1 := (K1.set_ 4 (.slice (some ⟨g6, 0, none⟩) (ns.length + 1) c6)).as_ (cs' := wkC m (.slice (some ⟨gw, 0, none⟩) m.waits.length cw) (.slice (some ⟨g6, 0, none⟩) (ns.length + 1) c6) p d) (by simp [wkC])
  all_goals have R7 := R6.set_ K1 4 (.slice (some ⟨g6, 0, none⟩) (ns.length + 1) c6)
  all_goals clear K1 k4 k4f hg6 ho6 hat6 hlt6 R6 n0 n1 n2 n3 n4 n5 n6 n7 n8 x4 f4 HJ1 HJ2 HQ O2 HSA AB
  all_goals generalize (w6.setCell ⟨b, 4, none⟩ (.slice (some ⟨g6, 0, none⟩) (ns.length + 1) c6)) = W7 at *
  all_goals have y2 := L1.cell 2
  all_goals have yf2 := L1.frozen 2
  all_goals unfold wkC at y2
  all_goals simp only [List.getElem?_toArray, List.getElem?_cons_zero, List.getElem?_cons_succ] at y2
  all_goals obtain ⟨ps, p1, p2, p3⟩ := R7.wa
  all_goals have HD := Lib.hid (fun (W8 : World) (o : W8.ownsRow (b + 1) 42 10 (.slice (some ⟨gw, 0, none⟩) m.waits.length cw) m.waits.length (ps.flatMap waitC)) => delete_any (b + 1) gw cw m.waits.length k (ps.flatMap waitC) W8 o hk hf (waitsRow_one p3))
  all_goals have HP := Lib.hid (And.intro p1 (And.intro p2 p3))
  all_goals have HR7 := Lib.hid R7
  all_goals have HL1 := Lib.hid L1
  all_goals clear p1 p2 p3 R7 L1
  all_goals go_wp2_with fail
  all_goals refine (HD.out _ HP.out.2.1).mono ?_
  all_goals rintro e w8 ⟨rfl, o8, g8⟩
  all_goals have R8 := HR7.out.deleted HP.out.1 HP.out.2.2 rfl hk HP.out.2.1 g8 o8
  all_goals have L8 := own_cell HP.out.2.1 g8 HL1.out (Nat.lt_succ_self b)
  all_goals clear y2 yf2
  all_goals have y2 := L8.cell 2
  all_goals have yf2 := L8.frozen 2
  all_goals unfold wkC at y2
  all_goals simp only [List.getElem?_toArray, List.getElem?_cons_zero, List.getElem?_cons_succ] at y2
  all_goals go_wp2_with fail
  all_goals go_end0
  all_goals refine ⟨rfl, _, _, (L8.set_ 2 (.slice (some ⟨gw, 0, none⟩) (m.waits.length - 1) cw)).as_ (by simp [wkC]), R8.set_ L8 2 _⟩
end Go.Proofs.Ytfcojhpnpfodeaa
