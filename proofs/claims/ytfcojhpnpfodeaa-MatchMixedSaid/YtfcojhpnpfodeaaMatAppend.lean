/- Behind a Feed, in a law: where the client lies. · append of a slice, nil or not, behind a row of the call's own. -/
import Derived.Test.YtfcojhpnpfodeaaMatAwake
import Derived.Deep.AppendSrc
import Derived.BigFrame
namespace Go.Proofs.Ytfcojhpnpfodeaa
open Go.RowKit

/-- A client at block G. -/
def MatAt (W : World) (G : Nat) (m : Mat) : Prop := ∃ v, Blk W G 28 (matC m v) ∧ WaitsAt W v m.waits
theorem MatAt.below {W W' : World} {G : Nat} {m : Mat} (h : MatAt W G m) (hb : Below W.heap.size W W') : MatAt W' G m := by
  obtain ⟨v, h1, h2⟩ := h
  exact ⟨v, h1.below hb h1.lt, h2.below hb⟩
theorem MatAt.lt {W : World} {G : Nat} {m : Mat} (h : MatAt W G m) : G < W.heap.size := by
  obtain ⟨v, h1, _⟩ := h
  exact h1.lt
theorem MatAt.open_ {W : World} {G : Nat} {m : Mat} (h : MatAt W G m) : ∃ a c, Blk W G 28 (matC m (.slice a m.waits.length c)) ∧ WaitsAt W (.slice a m.waits.length c) m.waits := by
  obtain ⟨v, h1, h2⟩ := h
  obtain ⟨a, c, rfl⟩ := h2.form
  exact ⟨a, c, h1, h2⟩
/-- Behind a Feed whose client goes to a new variable. -/
def FedAt (m : Mat) (s : List UInt8) (W : World) (x y : Value) (wx : World) : Prop :=
  ∃ G n out, x = .pointer (some ⟨G, 0, none⟩) ∧ Mat.Feeds m s n out ∧ MatAt wx G n ∧ AnswsAt wx y out ∧ Below W.heap.size W wx ∧ W.heap.size ≤ G
theorem fed_new {m n : Mat} {s : List UInt8} {out : List Answ} {W w : World} {va vb : Value} (hF : Mat.Feeds m s n out) (hw : WaitsAt w va n.waits) (ha : AnswsAt w vb out) (hb : Below W.heap.size W w) :
    FedAt m s W (.pointer (some ⟨w.heap.size, 0, none⟩)) vb (w.alloc (.cells #[.string ⟨n.buf.toArray⟩, .bool n.chunks, va, .bool n.dead] 28)) := by
  have hg : Below w.heap.size w (w.alloc (.cells #[.string ⟨n.buf.toArray⟩, .bool n.chunks, va, .bool n.dead] 28)) := by (repeat' (first | (with_reducible assumption) | (with_reducible exact Below.refl _ _) | (with_reducible refine below_drewN ?_ _) | (with_reducible refine Below.drew ?_) | (with_reducible refine Below.setCell ?_ ?_ _) | (with_reducible refine Below.alloc ?_ ?_ _) | (with_reducible refine below_putObj ?_ ?_ _) | (with_reducible exact Nat.le_refl _) | omega | (simp; done) | (simp; omega)))
  exact ⟨_, n, out, rfl, hF, ⟨va, Blk.new w _ _, hw.below hg⟩, ha.below hg, below_next hb hg, hb.size⟩
theorem fed_set {m n : Mat} {s : List UInt8} {out : List Answ} {W w : World} {va vb : Value} {G : Nat} {cs : Array Value} (hF : Mat.Feeds m s n out) (hw : WaitsAt w va n.waits) (ha : AnswsAt w vb out) (hb : Below W.heap.size W w) (hZ : Blk w G 28 cs) (hcs : cs.size = 4) (hG : W.heap.size ≤ G) :
    FedAt m s W (.pointer (some ⟨G, 0, none⟩)) vb ((((w.setCell ⟨G, 0, none⟩ (.string ⟨n.buf.toArray⟩)).setCell ⟨G, 1, none⟩ (.bool n.chunks)).setCell ⟨G, 2, none⟩ va).setCell ⟨G, 3, none⟩ (.bool n.dead)) := by
  have hP := apart_set (apart_set (apart_set (apart_set (apart_refl w) hZ matchT 0 (.string ⟨n.buf.toArray⟩)) hZ matchT 1 (.bool n.chunks)) hZ matchT 2 va) hZ matchT 3 (.bool n.dead)
  refine ⟨G, n, out, rfl, hF, ⟨va, ((((hZ.set_ 0 _).set_ 1 _).set_ 2 _).set_ 3 _).as_ ?_, hw.apart hP⟩, ha.apart hP, by (repeat' (first | (with_reducible assumption) | (with_reducible exact Below.refl _ _) | (with_reducible refine below_drewN ?_ _) | (with_reducible refine Below.drew ?_) | (with_reducible refine Below.setCell ?_ ?_ _) | (with_reducible refine Below.alloc ?_ ?_ _) | (with_reducible refine below_putObj ?_ ?_ _) | (with_reducible exact Nat.le_refl _) | omega | (simp; done) | (simp; omega))), hG⟩
  obtain ⟨l⟩ := cs
  match l, hcs with
  | [c0, c1, c2, c3], _ => simp [matC]
theorem feeds_small {N : Nat} {m n : Mat} {s : List UInt8} {out : List Answ} (h : m.Ok N) (hN : N + s.length ≤ 100000) (hF : Mat.Feeds m s n out) : n.Ok (N + s.length) ∧ out.length ≤ 8 ∧ (∀ a ∈ out, Small a.spans) ∧ ∀ q ∈ n.waits, Small q.spans := by
  obtain ⟨m', hw, hc, ho, _⟩ := Mat.feeds_once hF h
  have h1 := ho.few
  have h2 := h.few
  rw [hw] at h1
  refine ⟨ho.ok, by omega, fun a ha => ?_, fun q hq => ?_⟩
  · have g := ho.good a ha
    exact ⟨by have := g.few; omega, fun x hx => by have := (g.ctx x hx).2; omega⟩
  · have g := ho.ok.waits q hq
    exact ⟨by have := g.2; omega, fun x hx => by have := (g.1.ctx x hx).2; omega⟩

/-- Answers behind answers. -/
theorem AnswsAt.grown {X w6 : World} {B : Nat} {v v6 : Value} {l1 l2 : List Answ} {qs ps : List (Answ × Value)} (own : X.ownsRow B 40 9 v l1.length (qs.flatMap answC)) (hg : X.grownBy w6 v.ownBlock) (q1 : qs.map Prod.fst = l1) (q3 : ∀ p ∈ qs, SpanAt X p.2 p.1.spans)
    (p1 : ps.map Prod.fst = l2) (p3 : ∀ p ∈ ps, SpanAt X p.2 p.1.spans) (ho : w6.ownsRow B 40 9 v6 (l1.length + l2.length) (qs.flatMap answC ++ ps.flatMap answC)) :
    (qs ++ ps).map Prod.fst = l1 ++ l2 ∧ w6.ownsRow B 40 9 v6 (l1 ++ l2).length ((qs ++ ps).flatMap answC) ∧ (∀ p ∈ qs ++ ps, SpanAt w6 p.2 p.1.spans) := by
  have hA := apart2_grown own hg (by decide)
  refine ⟨by rw [List.map_append, q1, p1], by rw [List.length_append, List.flatMap_append]; exact ho, fun p hp => ?_⟩
  rcases List.mem_append.1 hp with hp | hp
  · exact (q3 p hp).apart2 hA
  · exact (p3 p hp).apart2 hA
theorem answsRow_one {w : World} {ps : List (Answ × Value)} (h : ∀ p ∈ ps, SpanAt w p.2 p.1.spans) : ∀ u ∈ ps.flatMap answC, u.oneCell' = true := by
  intro u hu
  obtain ⟨p, hp, hx⟩ := List.mem_flatMap.1 hu
  obtain ⟨ad, cap, e⟩ := (h p hp).form
  simp only [answC, List.mem_cons, List.not_mem_nil, or_false] at hx
  rcases hx with rfl | rfl | rfl | rfl | rfl | rfl | rfl | rfl | rfl
  all_goals first | rfl | (rw [e]; rfl)
end Go.Proofs.Ytfcojhpnpfodeaa

namespace Go.Proofs.Ytfcojhpnpfodeaa
open Go.RowKit Go.Deep

theorem append_slat {P : Program} {w : World} (base : Nat) (t ty e : TypeId) (i : TypeInfo) (z : Value) (size bytes : Nat) (ht : P.underlying t = some (.slice e)) (hi : P.info? e = some i) (hz : i.zero = some z) (hsize : i.size = size) (hby : i.bytes = bytes) (hzs : z.cells.size = size) (hsz : 0 < size)
    (g n cap : Nat) (xs : List Value) (own : w.ownsRow base e size (.slice (some ⟨g, 0, none⟩) n cap) n xs) (y : Value) (m : Nat) (news : List Value) (hy : SlAt w y m news) (hl : news.length = m * size) (h1 : ∀ u ∈ news, u.oneCell' = true)
    (h63 : n + m ≤ maxLen) (hbytes : (n + m) * bytes ≤ 140737488355328) (hbase : base ≤ w.heap.size) :
    ∃ g' c' w', (Builtin.append_ #[t, t] ty #[.slice (some ⟨g, 0, none⟩) n cap, y]).run P w = .ok (.slice (some ⟨g', 0, none⟩) (n + m) c') w' ∧ w'.ownsRow base e size (.slice (some ⟨g', 0, none⟩) (n + m) c') (n + m) (xs ++ news) ∧ w.grownBy w' (some g) := by
  rcases hy with ⟨rfl, rfl, rfl⟩ | ⟨a, c, rfl, _, hc⟩
  · have hr := run_append_room_src (P := P) (w := w) t t ty e i ht hi g 0 n cap (.slice none 0 0) 0 [] (Src.ofNil _ ht 0) (by have := own_cap own; omega) (by simp) (by simp)
    refine ⟨g, cap, w, ?_, by simpa using own, ⟨rfl, rfl, rfl, Nat.le_refl _, fun _ _ _ => rfl⟩⟩
    rw [hr]
    rfl
  · obtain ⟨v', w', hr, h2, h3, h4⟩ := run_append_own (P := P) w base t ty e i z size bytes ht hi hz hsize hby hzs hsz (.slice (some ⟨g, 0, none⟩) n cap) n xs own a m c news hl hc h1 h63 hbytes hbase
    rcases h2.2 with ⟨rfl, h0⟩ | ⟨g', c', cur, rfl, _⟩
    · exact absurd (h4.1 rfl).1 (by simp)
    · exact ⟨g', c', w', hr, h2, h3⟩

theorem wpList_append_slat {P : Program} {w : World} {ops : Array Oper} {rest : List Oper} {o : Oper} {a : Act} {Q : Exit → Act → World → Prop} (hw : Region.wanted o (yielded ops a.tmps) = true) (s x : Operand) (t : TypeId) (ho : o.op = .call { callee := .builtin .append, args := #[s, x], argTypes := #[t, t] })
    (base : Nat) (e : TypeId) (i : TypeInfo) (z : Value) (size bytes : Nat) (ht : P.underlying t = some (.slice e)) (hi : P.info? e = some i) (hz : i.zero = some z) (hsize : i.size = size) (hby : i.bytes = bytes) (hzs : z.cells.size = size) (hsz : 0 < size)
    (g n cap : Nat) (xs : List Value) (hs : a.eval s = .slice (some ⟨g, 0, none⟩) n cap) (own : w.ownsRow base e size (.slice (some ⟨g, 0, none⟩) n cap) n xs) (y : Value) (m : Nat) (news : List Value) (hx : a.eval x = y) (hy : SlAt w y m news) (hl : news.length = m * size) (h1 : ∀ u ∈ news, u.oneCell' = true)
    (h63 : n + m ≤ maxLen) (hbytes : (n + m) * bytes ≤ 140737488355328) (hbase : base ≤ w.heap.size)
    (h : ∀ g' c' w', w'.ownsRow base e size (.slice (some ⟨g', 0, none⟩) (n + m) c') (n + m) (xs ++ news) → w.grownBy w' (some g) → wpList P ops Q rest (a.put o.dst (.slice (some ⟨g', 0, none⟩) (n + m) c')) w') : wpList P ops Q (o :: rest) a w := by
  obtain ⟨g', c', w', hr, h2, h3⟩ := append_slat (P := P) base t o.type e i z size bytes ht hi hz hsize hby hzs hsz g n cap xs own y m news hy hl h1 h63 hbytes hbase
  refine BigFrame.wpList_want hw fun K hK => ?_
  unfold Oper.wp execOp
  simp only [ho, resolve, invoke, builtin, Sem.run_bind, Sem.run_pure, Result.andThen_ok, List.map_toArray, List.map_cons, List.map_nil, hs, hx, hr]
  exact hK _ _ (h g' c' w' h2 h3)
end Go.Proofs.Ytfcojhpnpfodeaa
