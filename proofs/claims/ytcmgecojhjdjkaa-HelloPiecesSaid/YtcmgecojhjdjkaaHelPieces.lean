/- HelloPieces, the walk. -/
import Derived.Test.YtcmgecojhjdjkaaHelFeed
import Derived.Test.YtcmgecojhjdjkaaHelLaw
import Derived.Test.YtcmgecojhjdjkaaHelSame
import Derived.Test.YtcmgecojhjdjkaaHelShort
namespace Go.Proofs.Ytcmgecojhjdjkaa
open Go.RowKit

/-- How New ends. -/
def NewEnds (want : List (List UInt8)) (w : World) (e : Ending) (w' : World) : Prop :=
  ∃ v, e = .returned (.agg (helC (Hel.new want) v (.slice none 0 0))) ∧ SlAt w' v want.length (cellsS want) ∧ (∀ g, v.ownBlock = some g → ∃ cs, Blk w' g 9 cs) ∧ Below w.heap.size w w'

set_option maxRecDepth 100000 in
set_option maxHeartbeats 1000000 in
theorem new_any (v : Value) (want : List (List UInt8)) (w : World) (h : SlAt w v want.length (cellsS want)) (hl : want.length ≤ 1000000) :
    Calls Try.prog 7 #[v] w (NewEnds want w) := by
  have H := Lib.hid (fun W (hb : Below w.heap.size w W) => clone_strs v want.length (cellsS want) W (h.below hb) hl (cellsS_length _) (cellsS_one _))
  clear h
  go_enter Try.func7, Try.ntmps7
  go_wp2_with fail
  refine at_world fun W0 hW0 => ?_
  have hb0 : Below w.heap.size w W0 := by rw [hW0]; (repeat' (first | (with_reducible assumption) | (with_reducible exact Below.refl _ _) | (with_reducible refine below_drewN ?_ _) | (with_reducible refine Below.drew ?_) | (with_reducible refine Below.setCell ?_ ?_ _) | (with_reducible refine Below.alloc ?_ ?_ _) | (with_reducible refine below_putObj ?_ ?_ _) | (with_reducible exact Nat.le_refl _) | omega | (simp; done) | (simp; omega)))
  have hR : Blk W0 w.heap.size 28 #[.int .i64 0, .string ⟨#[]⟩, .slice none 0 0, .bool false, .int .u64 0, .int .i64 0, .bool false, .slice none 0 0] := by rw [hW0]; exact Blk.new w _ _
  clear hW0
  refine (H.out _ hb0).mono ?_
  rintro e w1 ⟨v', rfl, hown, hb⟩
  have hR1 := hR.below hb hR.lt
  have b1 := below_next hb0 hb
  have hSR := SlAt.of_row hown
  obtain ⟨a1, c1, rfl⟩ := hSR.form
  have HS := Lib.hid hSR
  have HO : Hid (∀ g, (Value.slice a1 want.length c1).ownBlock = some g → g ≠ w.heap.size) := Lib.hid (by
    intro g hg e
    have := hown.lt g hg
    have := hR.lt
    omega)
  have HT : Hid (∀ g, (Value.slice a1 want.length c1).ownBlock = some g → ∃ cs, Blk w1 g 9 cs) := Lib.hid (by
    intro g hg
    rcases hown.2 with ⟨hv, _⟩ | ⟨g', cap, cur, hv, hB, hgb, _⟩
    · rw [hv] at hg; simp [Value.ownBlock] at hg
    · rw [hv] at hg
      obtain rfl : g' = g := by simpa [Value.ownBlock] using hg
      exact ⟨cur, hgb⟩)
  clear hown hb0 hb hR
  have r0 := hR1.cell 0
  have r1 := hR1.cell 1
  have r2 := hR1.cell 2
  have r3 := hR1.cell 3
  have r4 := hR1.cell 4
  have r5 := hR1.cell 5
  have r6 := hR1.cell 6
  have r7 := hR1.cell 7
  have s0 := hR1.frozen 0
  have s1 := hR1.frozen 1
  have s2 := hR1.frozen 2
  have s3 := hR1.frozen 3
  have s4 := hR1.frozen 4
  have s5 := hR1.frozen 5
  have s6 := hR1.frozen 6
  have s7 := hR1.frozen 7
  simp only [List.getElem?_toArray, List.getElem?_cons_zero, List.getElem?_cons_succ] at r0 r1 r2 r3 r4 r5 r6 r7
  clear hR1
  go_wp2
  try simp only [Exit.inBlock, Exit.then]
  refine bodyPost_ret (v := .agg (helC (Hel.new want) (.slice a1 want.length c1) (.slice none 0 0))) (by simp [results, Try.results7, go_sem, helC, Hel.new, *]) rfl ⟨_, rfl, HS.out.moved fun g hg => ?_, fun g hg => (HT.out g hg).imp fun cs h => ?_, ?_⟩
  · repeat rw [heap_set (HO.out g hg)]
  · exact ((((((((h.far (HO.out g hg) _).far (HO.out g hg) _).far (HO.out g hg) _).far (HO.out g hg) _).far (HO.out g hg) _).far (HO.out g hg) _).far (HO.out g hg) _).far (HO.out g hg) _)
  · (repeat' (first | (with_reducible assumption) | (with_reducible exact Below.refl _ _) | (with_reducible refine below_drewN ?_ _) | (with_reducible refine Below.drew ?_) | (with_reducible refine Below.setCell ?_ ?_ _) | (with_reducible refine Below.alloc ?_ ?_ _) | (with_reducible refine below_putObj ?_ ?_ _) | (with_reducible exact Nat.le_refl _) | omega | (simp; done) | (simp; omega)))

namespace Hel
theorem new_mild (want : List (List UInt8)) (s : List UInt8) (h1 : want.length ≤ 100) (h2 : ∀ x ∈ want, x.length ≤ 20000) (h3 : s.length ≤ 20000) : Mild { new want with buf := (new want).buf ++ s } [] :=
  ⟨h1, h2, by simp [new]; omega, by simp [new]; omega, by simp [new]⟩
theorem runs_less {h h' : Hel} {o : List UInt8} (hr : Runs h o h') (hp : h.phase ≤ 5) : h'.metas.length + h'.buf.length ≤ h.metas.length + h.buf.length := by
  induction hr with
  | stop _ => exact Nat.le_refl _
  | go hp4 hs hr ih =>
    have hl := less_step _ hp _ hs
    exact Nat.le_trans (ih hl.phase) hl.metas
theorem feeds_less {h h' : Hel} {s o : List UInt8} (hf : Feeds h s h' o) (hp : h.phase ≤ 5) : h'.metas.length + h'.buf.length ≤ h.metas.length + h.buf.length + s.length := by
  cases hf with
  | dead _ => omega
  | live _ hr =>
    have := runs_less hr hp
    dsimp only at this
    rw [List.length_append] at this
    omega
/-- Chapter 28's example. -/
theorem feeds_greeting : Feeds (new []) greeting { new [] with phase := 1 } (be 4 3 ++ askB 8 []) := by
  refine Feeds.live (by decide) ?_
  have h1 : step { new [] with buf := (new []).buf ++ greeting } = some ({ new [] with phase := 1 }, be 4 3 ++ askB 8 []) := by rfl
  have := Runs.go (by decide) h1 (Runs.stop (h := { new [] with phase := 1 }) (.inr (by rfl)))
  rwa [List.append_nil] at this
end Hel

set_option maxRecDepth 100000 in
set_option maxHeartbeats 1000000 in
theorem awake_any (w : World) : Calls Try.prog 5 #[] w (Gives (.bool true) w) := by
  have HN := Lib.hid (fun W => new_any (.slice none 0 0) [] W (.inl ⟨rfl, rfl, rfl⟩) (by decide))
  have HF : Hid (∀ W vw, SlAt W vw 0 [] → (∀ g, vw.ownBlock = some g → ∃ cs, Blk W g 9 cs) → Calls Try.prog 6 #[.agg (helC (Hel.new []) vw (.slice none 0 0)), .string ⟨greeting.toArray⟩] W (FeedEnds (Hel.new []) greeting W)) :=
    Lib.hid (fun W vw hv ht => feed_any (Hel.new []) greeting vw (.slice none 0 0) W (Hel.new_mild [] _ (by decide) (by simp) (by decide)) hv (.inl ⟨rfl, rfl, rfl⟩) (fun g hg => by simp [Value.ownBlock] at hg) ht)
  have mixed : Try.prog.follows .mixedOrders = true := by kernel_rfl
  unfold greeting optHead at HF
  simp only [List.cons_append, List.nil_append] at HF
  go_enter Try.func5, Try.ntmps5
  go_wp2_with fail
  refine (HN.out _).mono ?_
  rintro e w1 ⟨v1, rfl, hs1, ht1, hb1⟩
  have HS := Lib.hid (And.intro hs1 ht1)
  clear hs1 ht1
  go_wp2_with fail
  refine (HF.out _ _ HS.out.1 HS.out.2).mono ?_
  rintro e w2 ⟨h', out, vw, vm, rfl, hf, _, _, g1, g2, _, _, hb2⟩
  obtain ⟨p1, q1, rfl⟩ := g1.form
  obtain ⟨p2, q2, rfl⟩ := g2.form
  clear g1 g2
  obtain ⟨rfl, rfl⟩ := Hel.feeds_one hf Hel.feeds_greeting
  have b2 := below_next hb1 hb2
  have e1 : be 4 3 ++ askB 8 [] = [0, 0, 0, 3, 73, 72, 65, 86, 69, 79, 80, 84, 0, 0, 0, 8, 0, 0, 0, 0] := by rfl
  rw [e1]
  clear hf e1 hb1 hb2 HS
  unfold helC Hel.new
  dsimp only
  go_wp2
  go_ret
  have s2 := b2.size
  exact ⟨rfl, by (repeat' (first | (with_reducible assumption) | (with_reducible exact Below.refl _ _) | (with_reducible refine below_drewN ?_ _) | (with_reducible refine Below.drew ?_) | (with_reducible refine Below.setCell ?_ ?_ _) | (with_reducible refine Below.alloc ?_ ?_ _) | (with_reducible refine below_putObj ?_ ?_ _) | (with_reducible exact Nat.le_refl _) | omega | (simp; done) | (simp; omega)))⟩


/-- A client at block G. -/
def HelAt (W : World) (G : Nat) (h : Hel) : Prop :=
  ∃ vw vm, Blk W G 28 (helC h vw vm) ∧ SlAt W vw h.want.length (cellsS h.want) ∧ SlAt W vm h.metas.length (cellsM h.metas) ∧ (∀ g, vw.ownBlock = some g → ∃ cs, Blk W g 9 cs) ∧ ∀ g, vm.ownBlock = some g → ∃ cs, Blk W g 48 cs
theorem HelAt.below {W W' : World} {G : Nat} {h : Hel} (a : HelAt W G h) (hb : Below W.heap.size W W') : HelAt W' G h := by
  obtain ⟨vw, vm, h1, h2, h3, h4, h5⟩ := a
  exact ⟨vw, vm, h1.below hb h1.lt, h2.below hb, h3.below hb, fun g hg => (h4 g hg).imp fun cs h => h.below hb h.lt, fun g hg => (h5 g hg).imp fun cs h => h.below hb h.lt⟩
theorem HelAt.lt {W : World} {G : Nat} {h : Hel} (a : HelAt W G h) : G < W.heap.size := by
  obtain ⟨vw, vm, h1, _⟩ := a
  exact h1.lt
theorem typed_far {W W' : World} {R : Nat} {t u : TypeId} {v : Value} {cs : Array Value} (hR : Blk W R t cs) (ht : t ≠ u) (hv : ∀ g, v.ownBlock = some g → ∃ cs, Blk W g u cs) (hw : ∀ g, g ≠ R → W'.heap[g]? = W.heap[g]?) :
    (∀ g, v.ownBlock = some g → W'.heap[g]? = W.heap[g]?) ∧ ∀ g, v.ownBlock = some g → ∃ cs, Blk W' g u cs := by
  have hne : ∀ g, v.ownBlock = some g → g ≠ R := by
    rintro g hg rfl
    obtain ⟨cs', h1⟩ := hv g hg
    have := (show W.heap[g]? = _ from hR).symm.trans h1
    simp at this
    exact ht this.2
  exact ⟨fun g hg => hw g (hne g hg), fun g hg => (hv g hg).imp fun cs h => (hw g (hne g hg)).trans h⟩
theorem HelAt.far {W W' : World} {G R : Nat} {h : Hel} {cs : Array Value} (a : HelAt W G h) (hR : Blk W R 28 cs) (hne : G ≠ R) (hw : ∀ g, g ≠ R → W'.heap[g]? = W.heap[g]?) : HelAt W' G h := by
  obtain ⟨vw, vm, h1, h2, h3, h4, h5⟩ := a
  obtain ⟨k1, k2⟩ := typed_far hR (by decide) h4 hw
  obtain ⟨k3, k4⟩ := typed_far hR (by decide) h5 hw
  exact ⟨vw, vm, (hw G hne).trans h1, h2.moved k1, h3.moved k3, k2, k4⟩
theorem HelAt.open_ {W : World} {G : Nat} {h : Hel} (a : HelAt W G h) : ∃ a1 c1 a2 c2, SlAt W (.slice a1 h.want.length c1) h.want.length (cellsS h.want) ∧ SlAt W (.slice a2 h.metas.length c2) h.metas.length (cellsM h.metas) ∧
    (∀ g, (Value.slice a1 h.want.length c1).ownBlock = some g → ∃ cs, Blk W g 9 cs) ∧ (∀ g, (Value.slice a2 h.metas.length c2).ownBlock = some g → ∃ cs, Blk W g 48 cs) ∧
    Blk W G 28 (helC h (.slice a1 h.want.length c1) (.slice a2 h.metas.length c2)) := by
  obtain ⟨vw, vm, h1, h2, h3, h4, h5⟩ := a
  obtain ⟨a1, c1, rfl⟩ := h2.form
  obtain ⟨a2, c2, rfl⟩ := h3.form
  exact ⟨a1, c1, a2, c2, h2, h3, h4, h5, h1⟩
theorem old_cellH {w : World} {g : Nat} (h : g < w.heap.size) (o : Obj) (i : Nat) : (w.alloc o).cell? ⟨g, i, none⟩ = w.cell? ⟨g, i, none⟩ := World.cell?_of_block (Below.heap_alloc w o g h)
/-- Behind a Feed: where the client lies, and what came of it. -/
def FedAt (h : Hel) (s : List UInt8) (w : World) (GA : Nat) (hA : Hel) (x y : Value) (wx : World) : Prop :=
  ∃ G hC oC, x = .pointer (some ⟨G, 0, none⟩) ∧ y = .string ⟨oC.toArray⟩ ∧ Hel.Feeds h s hC oC ∧ Mild hC oC ∧ hC.want = h.want ∧ HelAt wx G hC ∧ HelAt wx GA hA ∧ Below w.heap.size w wx
/-- What a Feed has left. -/
def FedIn (h : Hel) (s : List UInt8) (hC : Hel) (oC : List UInt8) (vw vm : Value) (W : World) : Prop :=
  Hel.Feeds h s hC oC ∧ Mild hC oC ∧ hC.want = h.want ∧ SlAt W vw hC.want.length (cellsS hC.want) ∧ SlAt W vm hC.metas.length (cellsM hC.metas) ∧ (∀ g, vw.ownBlock = some g → ∃ cs, Blk W g 9 cs) ∧ ∀ g, vm.ownBlock = some g → ∃ cs, Blk W g 48 cs
theorem fed_new {h hC hA : Hel} {s oC : List UInt8} {w W : World} {GA : Nat} {vw vm : Value} (f : FedIn h s hC oC vw vm W) (A : HelAt W GA hA) (hb : Below w.heap.size w W) : FedAt h s w GA hA (.pointer (some ⟨W.heap.size, 0, none⟩)) (.string ⟨oC.toArray⟩) (W.alloc (.cells #[.int .i64 hC.phase, .string ⟨hC.buf.toArray⟩, vw, .bool hC.told, .int .u64 hC.size, .int .i64 hC.flags, .bool hC.chunks, vm] 28)) := by
  show FedAt h s w GA hA (.pointer (some ⟨W.heap.size, 0, none⟩)) (.string ⟨oC.toArray⟩) (W.alloc (.cells (helC hC vw vm) 28))
  have hg : Below W.heap.size W (W.alloc (.cells (helC hC vw vm) 28)) := by (repeat' (first | (with_reducible assumption) | (with_reducible exact Below.refl _ _) | (with_reducible refine below_drewN ?_ _) | (with_reducible refine Below.drew ?_) | (with_reducible refine Below.setCell ?_ ?_ _) | (with_reducible refine Below.alloc ?_ ?_ _) | (with_reducible refine below_putObj ?_ ?_ _) | (with_reducible exact Nat.le_refl _) | omega | (simp; done) | (simp; omega)))
  obtain ⟨f1, f2, f3, f4, f5, f6, f7⟩ := f
  exact ⟨_, hC, oC, rfl, rfl, f1, f2, f3, ⟨vw, vm, Blk.new _ _ _, f4.below hg, f5.below hg, fun g h => (f6 g h).imp fun cs h => h.below hg h.lt, fun g h => (f7 g h).imp fun cs h => h.below hg h.lt⟩, A.below hg, below_next hb hg⟩
theorem fed_set {h hC hA : Hel} {s oC : List UInt8} {w W : World} {GA G : Nat} {vw vm : Value} (f : FedIn h s hC oC vw vm W) (A : HelAt W GA hA) (hb : Below w.heap.size w W) (hZ : Blk W G 28 #[.int .i64 0, .string ⟨#[]⟩, .slice none 0 0, .bool false, .int .u64 0, .int .i64 0, .bool false, .slice none 0 0]) (hne : GA ≠ G) (hG : w.heap.size ≤ G) :
    FedAt h s w GA hA (.pointer (some ⟨G, 0, none⟩)) (.string ⟨oC.toArray⟩) ((((((((W.setCell ⟨G, 0, none⟩ (.int .i64 hC.phase)).setCell ⟨G, 1, none⟩ (.string ⟨hC.buf.toArray⟩)).setCell ⟨G, 2, none⟩ vw).setCell ⟨G, 3, none⟩ (.bool hC.told)).setCell ⟨G, 4, none⟩ (.int .u64 hC.size)).setCell ⟨G, 5, none⟩ (.int .i64 hC.flags)).setCell ⟨G, 6, none⟩ (.bool hC.chunks)).setCell ⟨G, 7, none⟩ vm) := by
  have hw : ∀ g, g ≠ G → ((((((((W.setCell ⟨G, 0, none⟩ (.int .i64 hC.phase)).setCell ⟨G, 1, none⟩ (.string ⟨hC.buf.toArray⟩)).setCell ⟨G, 2, none⟩ vw).setCell ⟨G, 3, none⟩ (.bool hC.told)).setCell ⟨G, 4, none⟩ (.int .u64 hC.size)).setCell ⟨G, 5, none⟩ (.int .i64 hC.flags)).setCell ⟨G, 6, none⟩ (.bool hC.chunks)).setCell ⟨G, 7, none⟩ vm).heap[g]? = W.heap[g]? := by
    intro g hg
    repeat rw [heap_set hg]
  obtain ⟨f1, f2, f3, f4, f5, f6, f7⟩ := f
  obtain ⟨k1, k2⟩ := typed_far hZ (by decide) f6 hw
  obtain ⟨k3, k4⟩ := typed_far hZ (by decide) f7 hw
  exact ⟨G, hC, oC, rfl, rfl, f1, f2, f3, ⟨vw, vm, ((((((((hZ.set_ 0 _).set_ 1 _).set_ 2 _).set_ 3 _).set_ 4 _).set_ 5 _).set_ 6 _).set_ 7 _).as_ (by simp [helC]), f4.moved k1, f5.moved k3, k2, k4⟩, A.far hZ hne hw, by (repeat' (first | (with_reducible assumption) | (with_reducible exact Below.refl _ _) | (with_reducible refine below_drewN ?_ _) | (with_reducible refine Below.drew ?_) | (with_reducible refine Below.setCell ?_ ?_ _) | (with_reducible refine Below.alloc ?_ ?_ _) | (with_reducible refine below_putObj ?_ ?_ _) | (with_reducible exact Nat.le_refl _) | omega | (simp; done) | (simp; omega)))⟩

set_option maxRecDepth 100000 in
set_option maxHeartbeats 4000000 in
theorem helloPieces_any (v : Value) (want : List (List UInt8)) (s : List UInt8) (cut : Int) (w : World) (h : SlAt w v want.length (cellsS want)) (hwl : want.length ≤ 9223372036854775807) (hwx : ∀ x ∈ want, x.length ≤ 9223372036854775807) (hs : s.length ≤ 9223372036854775807) :
    Calls Try.prog 3 #[v, .string ⟨s.toArray⟩, .int .i64 cut] w (Gives (.bool true) w) := by
  have mixed : Try.prog.follows .mixedOrders = true := by kernel_rfl
  have HA := Lib.hid awake_any
  have H := Lib.hid h
  have HW := Lib.hid (short_any v want w h hwl hwx)
  have HS := Lib.hid (fun W v (hv : SlAt W v 1 (cellsS [s])) => short_any v [s] W hv (show (1 : Nat) ≤ _ by decide) (by simpa using hs))
  obtain ⟨ad, cp, rfl⟩ := h.form
  clear h
  go_enter Try.func3, Try.ntmps3
  go_wp2_with fail
  refine HW.out.mono ?_
  rintro e w1 ⟨r, rfl, hr, hb1⟩
  have HR := Lib.hid hr
  clear hr HW
  cases r with
  | false =>
    go_wp2_with fail
    refine (HA.out _).mono ?_
    rintro e w2 ⟨rfl, hb2⟩
    have b2 := below_next hb1 hb2
    go_wp2
    go_ret
    exact ⟨rfl, b2⟩
  | true =>
    obtain ⟨hM, hn⟩ := HR.out rfl
    go_wp2_with fail
    have hb2 : Below w.heap.size w (w1.alloc (.cells #[.string ⟨s.toArray⟩] 9)) := by have s1 := hb1.size; (repeat' (first | (with_reducible assumption) | (with_reducible exact Below.refl _ _) | (with_reducible refine below_drewN ?_ _) | (with_reducible refine Below.drew ?_) | (with_reducible refine Below.setCell ?_ ?_ _) | (with_reducible refine Below.alloc ?_ ?_ _) | (with_reducible refine below_putObj ?_ ?_ _) | (with_reducible exact Nat.le_refl _) | omega | (simp; done) | (simp; omega)))
    refine (HS.out _ _ (.inr ⟨⟨w1.heap.size, 0, none⟩, 1, rfl, .inr rfl, ?cs⟩)).mono ?_
    case cs =>
      intro j u hu
      have h2 := (Blk.new w1 9 #[.string ⟨s.toArray⟩]).cell j
      rw [Addr.add_lit, Nat.zero_add, h2]
      simpa [cellsS] using hu
    rintro e w2 ⟨r, rfl, hr, hb3⟩
    have HR2 := Lib.hid hr
    have b3 := below_next hb2 hb3
    clear hr hb2 hb3 hb1
    cases r with
    | false =>
      go_wp2_with fail
      refine (HA.out _).mono ?_
      rintro e w2 ⟨rfl, hb2⟩
      have b2 := below_next b3 hb2
      go_wp2
      go_ret
      exact ⟨rfl, b2⟩
    | true =>
      have hsl : s.length ≤ 20000 := by have := (HR2.out rfl).1; simpa using this
      obtain ⟨k, hk, hmod⟩ := cut_mod cut (s.length + 1) (by omega)
      have HN := Lib.hid (fun W (hb : Below w.heap.size w W) => new_any (.slice ad want.length cp) want W (H.out.below hb) (by omega))
      have HF1 : Hid (∀ (l : List UInt8), l.length ≤ 20000 → ∀ W vw, SlAt W vw want.length (cellsS want) → (∀ g, vw.ownBlock = some g → ∃ cs, Blk W g 9 cs) → Calls Try.prog 6 #[.agg (helC (Hel.new want) vw (.slice none 0 0)), .string ⟨l.toArray⟩] W (FeedEnds (Hel.new want) l W)) :=
        Lib.hid (fun l hl W vw hv ht => feed_any (Hel.new want) l vw (.slice none 0 0) W (Hel.new_mild want _ hn hM hl) hv (.inl ⟨rfl, rfl, rfl⟩) (fun g hg => by simp [Value.ownBlock] at hg) ht)
      have hkl : k ≤ s.length := by omega
      have l1 : (k : Int) ≤ (s.length : Int) := by omega
      have hwk : wrap64 (k : Int) = (k : Int) := by unfold wrap64; omega
      have hmod2 : (IntKind.u64.wrap cut).tmod ((s.length : Int) + 1) = (k : Int) := by rw [← hmod]; norm_cast
      clear hmod hk
      go_wp2_with fail
      refine (HN.out _ b3).mono ?_
      rintro e w3 ⟨v3, rfl, hs3, ht3, hb3⟩
      have b4 := below_next b3 hb3
      clear b3 hb3
      have HS3 := Lib.hid (And.intro hs3 ht3)
      clear hs3 ht3
      go_wp2_with fail
      refine (HF1.out s hsl _ _ HS3.out.1 HS3.out.2).mono ?_
      rintro e w4 ⟨hA, oA, vwA, vmA, rfl, fA, mA, eA, sA, tA, uA, xA, hb4⟩
      have b5 := below_next b4 hb4
      clear b4 hb4 HS3
      obtain ⟨pA, qA, rfl⟩ := sA.form
      obtain ⟨rA, tA', rfl⟩ := tA.form
      have HfA : Hid (FedIn (Hel.new want) s hA oA (.slice pA hA.want.length qA) (.slice rA hA.metas.length tA') w4) := Lib.hid ⟨fA, mA, eA, sA, tA, uA, xA⟩
      clear fA mA eA sA tA uA xA
      simp only [helC]
      go_upto_region 5 with fail
      refine wp_at fun W4 hW4 => ?_
      have BA : HelAt W4 w4.heap.size hA := by
        have hg : Below w4.heap.size w4 W4 := by rw [hW4]; (repeat' (first | (with_reducible assumption) | (with_reducible exact Below.refl _ _) | (with_reducible refine below_drewN ?_ _) | (with_reducible refine Below.drew ?_) | (with_reducible refine Below.setCell ?_ ?_ _) | (with_reducible refine Below.alloc ?_ ?_ _) | (with_reducible refine below_putObj ?_ ?_ _) | (with_reducible exact Nat.le_refl _) | omega | (simp; done) | (simp; omega)))
        obtain ⟨_, _, _, f4, f5, f6, f7⟩ := HfA.out
        exact ⟨_, _, by rw [hW4]; exact Blk.new w4 _ _, f4.below hg, f5.below hg, fun g h => (f6 g h).imp fun cs h => h.below hg h.lt, fun g h => (f7 g h).imp fun cs h => h.below hg h.lt⟩
      have b6 : Below w.heap.size w W4 := by have s5 := b5.size; rw [hW4]; (repeat' (first | (with_reducible assumption) | (with_reducible exact Below.refl _ _) | (with_reducible refine below_drewN ?_ _) | (with_reducible refine Below.drew ?_) | (with_reducible refine Below.setCell ?_ ?_ _) | (with_reducible refine Below.alloc ?_ ?_ _) | (with_reducible refine below_putObj ?_ ?_ _) | (with_reducible exact Nat.le_refl _) | omega | (simp; done) | (simp; omega)))
      have HfA2 := Lib.hid (And.intro HfA.out.1 HfA.out.2.1)
      clear hW4 b5 HfA
      generalize w4.heap.size = GA at BA ⊢
      have hkt : (s.take k).length ≤ 20000 := by rw [List.length_take]; omega
      have HBA := Lib.hid BA
      have HB6 := Lib.hid b6
      have HN4 : Hid (GA ≠ W4.heap.size) := Lib.hid (by have := BA.lt; omega)
      have HS4 : Hid (w.heap.size ≤ W4.heap.size) := Lib.hid b6.size
      clear BA b6
      go_cut [10, 11] from 39 to 47 (fun x y wx => FedAt (Hel.new want) (s.take k) w GA hA x y wx)
      case first =>
        go_region_with (first | (go_at_call 7; (refine (HN.out _ (by have h0 := HB6.out; have hs0 := h0.size; (repeat' (first | (with_reducible assumption) | (with_reducible exact Below.refl _ _) | (with_reducible refine below_drewN ?_ _) | (with_reducible refine Below.drew ?_) | (with_reducible refine Below.setCell ?_ ?_ _) | (with_reducible refine Below.alloc ?_ ?_ _) | (with_reducible refine below_putObj ?_ ?_ _) | (with_reducible exact Nat.le_refl _) | omega | (simp; done) | (simp; omega))))).mono ?_; rintro e w5 ⟨v5, rfl, hs5, ht5, hb5⟩; have HS5b := Lib.hid (And.intro hs5 ht5); have b7 := below_next (show Below w.heap.size w _ by have h0 := HB6.out; have hs0 := h0.size; (repeat' (first | (with_reducible assumption) | (with_reducible exact Below.refl _ _) | (with_reducible refine below_drewN ?_ _) | (with_reducible refine Below.drew ?_) | (with_reducible refine Below.setCell ?_ ?_ _) | (with_reducible refine Below.alloc ?_ ?_ _) | (with_reducible refine below_putObj ?_ ?_ _) | (with_reducible exact Nat.le_refl _) | omega | (simp; done) | (simp; omega)))) hb5; have BA5 := (HBA.out.below (show Below W4.heap.size W4 _ by (repeat' (first | (with_reducible assumption) | (with_reducible exact Below.refl _ _) | (with_reducible refine below_drewN ?_ _) | (with_reducible refine Below.drew ?_) | (with_reducible refine Below.setCell ?_ ?_ _) | (with_reducible refine Below.alloc ?_ ?_ _) | (with_reducible refine below_putObj ?_ ?_ _) | (with_reducible exact Nat.le_refl _) | omega | (simp; done) | (simp; omega))))).below hb5; (try have hZ5 := (show Blk _ W4.heap.size 28 #[.int .i64 0, .string ⟨#[]⟩, .slice none 0 0, .bool false, .int .u64 0, .int .i64 0, .bool false, .slice none 0 0] from Blk.new W4.drew _ _).below hb5 (show Blk _ W4.heap.size 28 #[.int .i64 0, .string ⟨#[]⟩, .slice none 0 0, .bool false, .int .u64 0, .int .i64 0, .bool false, .slice none 0 0] from Blk.new W4.drew _ _).lt); have HN5 : Hid (GA ≠ w5.heap.size) := Lib.hid (by have := BA5.lt; omega); have HS5 : Hid (w.heap.size ≤ w5.heap.size) := Lib.hid b7.size; clear hb5 hs5 ht5)) | (go_at_call 6; (refine (HF1.out (s.take k) hkt _ _ (HS5b.out.1.below (by (repeat' (first | (with_reducible assumption) | (with_reducible exact Below.refl _ _) | (with_reducible refine below_drewN ?_ _) | (with_reducible refine Below.drew ?_) | (with_reducible refine Below.setCell ?_ ?_ _) | (with_reducible refine Below.alloc ?_ ?_ _) | (with_reducible refine below_putObj ?_ ?_ _) | (with_reducible exact Nat.le_refl _) | omega | (simp; done) | (simp; omega))))) (fun g hg => (HS5b.out.2 g hg).imp fun cs h => h.below (show Below w5.heap.size w5 _ by (repeat' (first | (with_reducible assumption) | (with_reducible exact Below.refl _ _) | (with_reducible refine below_drewN ?_ _) | (with_reducible refine Below.drew ?_) | (with_reducible refine Below.setCell ?_ ?_ _) | (with_reducible refine Below.alloc ?_ ?_ _) | (with_reducible refine below_putObj ?_ ?_ _) | (with_reducible exact Nat.le_refl _) | omega | (simp; done) | (simp; omega)))) h.lt)).mono ?_; rintro e w6 ⟨hC, oC, vwC, vmC, rfl, fC, mC, eC, sC, tC, uC, xC, hb6⟩; have HB8 := Lib.hid (below_next (show Below w.heap.size w _ by have hs0 := b7.size; (repeat' (first | (with_reducible assumption) | (with_reducible exact Below.refl _ _) | (with_reducible refine below_drewN ?_ _) | (with_reducible refine Below.drew ?_) | (with_reducible refine Below.setCell ?_ ?_ _) | (with_reducible refine Below.alloc ?_ ?_ _) | (with_reducible refine below_putObj ?_ ?_ _) | (with_reducible exact Nat.le_refl _) | omega | (simp; done) | (simp; omega)))) hb6); have HBA6 := Lib.hid ((BA5.below (show Below w5.heap.size w5 _ by (repeat' (first | (with_reducible assumption) | (with_reducible exact Below.refl _ _) | (with_reducible refine below_drewN ?_ _) | (with_reducible refine Below.drew ?_) | (with_reducible refine Below.setCell ?_ ?_ _) | (with_reducible refine Below.alloc ?_ ?_ _) | (with_reducible refine below_putObj ?_ ?_ _) | (with_reducible exact Nat.le_refl _) | omega | (simp; done) | (simp; omega))))).below hb6); (try (have hZ6 := (Blk.new w5 28 #[.int .i64 0, .string ⟨#[]⟩, .slice none 0 0, .bool false, .int .u64 0, .int .i64 0, .bool false, .slice none 0 0]).below hb6 (Blk.new w5 28 #[.int .i64 0, .string ⟨#[]⟩, .slice none 0 0, .bool false, .int .u64 0, .int .i64 0, .bool false, .slice none 0 0]).lt; have z0 := hZ6.cell 0; have z1 := hZ6.cell 1; have z2 := hZ6.cell 2; have z3 := hZ6.cell 3; have z4 := hZ6.cell 4; have z5 := hZ6.cell 5; have z6 := hZ6.cell 6; have z7 := hZ6.cell 7; simp only [List.getElem?_toArray, List.getElem?_cons_zero, List.getElem?_cons_succ] at z0 z1 z2 z3 z4 z5 z6 z7; have y0 := hZ6.frozen 0; have y1 := hZ6.frozen 1; have y2 := hZ6.frozen 2; have y3 := hZ6.frozen 3; have y4 := hZ6.frozen 4; have y5 := hZ6.frozen 5; have y6 := hZ6.frozen 6; have y7 := hZ6.frozen 7; have HZ6 := Lib.hid hZ6; clear hZ6)); (try (have hZ6 := hZ5.below hb6 hZ5.lt; have z0 := hZ6.cell 0; have z1 := hZ6.cell 1; have z2 := hZ6.cell 2; have z3 := hZ6.cell 3; have z4 := hZ6.cell 4; have z5 := hZ6.cell 5; have z6 := hZ6.cell 6; have z7 := hZ6.cell 7; simp only [List.getElem?_toArray, List.getElem?_cons_zero, List.getElem?_cons_succ] at z0 z1 z2 z3 z4 z5 z6 z7; have y0 := hZ6.frozen 0; have y1 := hZ6.frozen 1; have y2 := hZ6.frozen 2; have y3 := hZ6.frozen 3; have y4 := hZ6.frozen 4; have y5 := hZ6.frozen 5; have y6 := hZ6.frozen 6; have y7 := hZ6.frozen 7; have HZ6 := Lib.hid hZ6; clear hZ6)); clear b7 BA5 hb6; obtain ⟨pC, qC, rfl⟩ := sC.form; obtain ⟨rC, tC', rfl⟩ := tC.form; have HfC : Hid (FedIn (Hel.new want) (s.take k) hC oC (.slice pC hC.want.length qC) (.slice rC hC.metas.length tC') w6) := Lib.hid ⟨fC, mC, eC, sC, tC, uC, xC⟩; clear fC mC eC sC tC uC xC; simp only [helC])))
        all_goals go_wp2_with fail
        all_goals go_meet
        all_goals first | with_reducible exact fed_new HfC.out HBA6.out HB8.out | with_reducible exact fed_set HfC.out HBA6.out HB8.out HZ6.out HN5.out HS5.out | with_reducible exact fed_set HfC.out HBA6.out HB8.out HZ6.out HN4.out HS4.out
      case rest =>
        clear HBA HB6 HN4 HS4 hwk hmod2
        obtain ⟨GC, hC, oC, rfl, rfl, fC, mC, eC, AC, AA, hbC⟩ := hcut
        have HFC := Lib.hid (And.intro fC mC)
        have hmild : Mild { hC with buf := hC.buf ++ s.drop k } [] := by
          have hl := Hel.feeds_less fC (show (0 : Nat) ≤ 5 by decide)
          have hlk : (s.take k).length = k := by rw [List.length_take]; omega
          rw [hlk] at hl
          have hld : (s.drop k).length = s.length - k := List.length_drop
          have hz : (Hel.new want).metas.length + (Hel.new want).buf.length = 0 := rfl
          refine ⟨by rw [eC]; exact hn, by rw [eC]; exact hM, ?_, ?_, mC.phase⟩
          · dsimp only; rw [List.length_append]; omega
          · dsimp only; rw [List.length_append]; simp only [List.length_nil]; omega
        have HF3 : Hid (∀ W vw vm, SlAt W vw hC.want.length (cellsS hC.want) → SlAt W vm hC.metas.length (cellsM hC.metas) → (∀ g, vw.ownBlock = some g → ∃ cs, Blk W g 9 cs) → (∀ g, vm.ownBlock = some g → ∃ cs, Blk W g 48 cs) →
            Calls Try.prog 6 #[.agg (helC hC vw vm), .string ⟨(s.drop k).toArray⟩] W (FeedEnds hC (s.drop k) W)) :=
          Lib.hid (fun W vw vm h1 h2 h3 h4 => feed_any hC (s.drop k) vw vm W hmild h1 h2 h4 h3)
        obtain ⟨pC, qC, rC, tC, sC1, sC2, sC3, sC4, BC⟩ := AC.open_
        have HSC := Lib.hid (And.intro sC1 (And.intro sC2 (And.intro sC3 sC4)))
        have z0 := BC.cell 0
        have z1 := BC.cell 1
        have z2 := BC.cell 2
        have z3 := BC.cell 3
        have z4 := BC.cell 4
        have z5 := BC.cell 5
        have z6 := BC.cell 6
        have z7 := BC.cell 7
        unfold helC at z0 z1 z2 z3 z4 z5 z6 z7
        simp only [List.getElem?_toArray, List.getElem?_cons_zero, List.getElem?_cons_succ] at z0 z1 z2 z3 z4 z5 z6 z7
        have HBA := Lib.hid AA
        have HB6 := Lib.hid hbC
        have zo := fun o i => old_cellH (w := wc) (g := GC) BC.lt o i
        have nz1 : GC ≠ wc.heap.size := by have := BC.lt; omega
        have nz2 : wc.heap.size ≠ GC := by have := BC.lt; omega
        have HN4 : Hid (GA ≠ wc.heap.size) := Lib.hid (by have := AA.lt; omega)
        have HS4 : Hid (w.heap.size ≤ wc.heap.size) := Lib.hid hbC.size
        clear fC mC eC AC AA hbC hmild sC1 sC2 sC3 sC4 BC
        go_upto_region 6 with fail
        go_cut [12, 13] from 48 to 55 (fun x y wx => FedAt hC (s.drop k) w GA hA x y wx)
        case first =>
          go_region_with (first | (go_at_call 6; (refine (HF3.out _ _ _ (HSC.out.1.below (by (repeat' (first | (with_reducible assumption) | (with_reducible exact Below.refl _ _) | (with_reducible refine below_drewN ?_ _) | (with_reducible refine Below.drew ?_) | (with_reducible refine Below.setCell ?_ ?_ _) | (with_reducible refine Below.alloc ?_ ?_ _) | (with_reducible refine below_putObj ?_ ?_ _) | (with_reducible exact Nat.le_refl _) | omega | (simp; done) | (simp; omega))))) (HSC.out.2.1.below (by (repeat' (first | (with_reducible assumption) | (with_reducible exact Below.refl _ _) | (with_reducible refine below_drewN ?_ _) | (with_reducible refine Below.drew ?_) | (with_reducible refine Below.setCell ?_ ?_ _) | (with_reducible refine Below.alloc ?_ ?_ _) | (with_reducible refine below_putObj ?_ ?_ _) | (with_reducible exact Nat.le_refl _) | omega | (simp; done) | (simp; omega))))) (fun g hg => (HSC.out.2.2.1 g hg).imp fun cs h => h.below (show Below wc.heap.size wc _ by (repeat' (first | (with_reducible assumption) | (with_reducible exact Below.refl _ _) | (with_reducible refine below_drewN ?_ _) | (with_reducible refine Below.drew ?_) | (with_reducible refine Below.setCell ?_ ?_ _) | (with_reducible refine Below.alloc ?_ ?_ _) | (with_reducible refine below_putObj ?_ ?_ _) | (with_reducible exact Nat.le_refl _) | omega | (simp; done) | (simp; omega)))) h.lt) (fun g hg => (HSC.out.2.2.2 g hg).imp fun cs h => h.below (show Below wc.heap.size wc _ by (repeat' (first | (with_reducible assumption) | (with_reducible exact Below.refl _ _) | (with_reducible refine below_drewN ?_ _) | (with_reducible refine Below.drew ?_) | (with_reducible refine Below.setCell ?_ ?_ _) | (with_reducible refine Below.alloc ?_ ?_ _) | (with_reducible refine below_putObj ?_ ?_ _) | (with_reducible exact Nat.le_refl _) | omega | (simp; done) | (simp; omega)))) h.lt)).mono ?_; rintro e w6 ⟨hE, oE, vwE, vmE, rfl, fC, mC, eC, sC, tC, uC, xC, hb6⟩; have HB8 := Lib.hid (below_next (show Below w.heap.size w _ by have h0 := HB6.out; have hs0 := h0.size; (repeat' (first | (with_reducible assumption) | (with_reducible exact Below.refl _ _) | (with_reducible refine below_drewN ?_ _) | (with_reducible refine Below.drew ?_) | (with_reducible refine Below.setCell ?_ ?_ _) | (with_reducible refine Below.alloc ?_ ?_ _) | (with_reducible refine below_putObj ?_ ?_ _) | (with_reducible exact Nat.le_refl _) | omega | (simp; done) | (simp; omega)))) hb6); have HBA6 := Lib.hid ((HBA.out.below (show Below wc.heap.size wc _ by (repeat' (first | (with_reducible assumption) | (with_reducible exact Below.refl _ _) | (with_reducible refine below_drewN ?_ _) | (with_reducible refine Below.drew ?_) | (with_reducible refine Below.setCell ?_ ?_ _) | (with_reducible refine Below.alloc ?_ ?_ _) | (with_reducible refine below_putObj ?_ ?_ _) | (with_reducible exact Nat.le_refl _) | omega | (simp; done) | (simp; omega))))).below hb6); (try (have hZ6 := (show Blk _ wc.heap.size 28 #[.int .i64 0, .string ⟨#[]⟩, .slice none 0 0, .bool false, .int .u64 0, .int .i64 0, .bool false, .slice none 0 0] from Blk.new wc.drew _ _).below hb6 (show Blk _ wc.heap.size 28 #[.int .i64 0, .string ⟨#[]⟩, .slice none 0 0, .bool false, .int .u64 0, .int .i64 0, .bool false, .slice none 0 0] from Blk.new wc.drew _ _).lt; have x0 := hZ6.cell 0; have x1 := hZ6.cell 1; have x2 := hZ6.cell 2; have x3 := hZ6.cell 3; have x4 := hZ6.cell 4; have x5 := hZ6.cell 5; have x6 := hZ6.cell 6; have x7 := hZ6.cell 7; simp only [List.getElem?_toArray, List.getElem?_cons_zero, List.getElem?_cons_succ] at x0 x1 x2 x3 x4 x5 x6 x7; have y0 := hZ6.frozen 0; have y1 := hZ6.frozen 1; have y2 := hZ6.frozen 2; have y3 := hZ6.frozen 3; have y4 := hZ6.frozen 4; have y5 := hZ6.frozen 5; have y6 := hZ6.frozen 6; have y7 := hZ6.frozen 7; have HZ6 := Lib.hid hZ6; clear hZ6)); clear hb6; obtain ⟨pE, qE, rfl⟩ := sC.form; obtain ⟨rE, tE', rfl⟩ := tC.form; have HfC : Hid (FedIn hC (s.drop k) hE oE (.slice pE hE.want.length qE) (.slice rE hE.metas.length tE') w6) := Lib.hid ⟨fC, mC, eC, sC, tC, uC, xC⟩; clear fC mC eC sC tC uC xC; simp only [helC])))
          all_goals go_wp2_with fail
          all_goals go_meet
          all_goals first | with_reducible exact fed_new HfC.out HBA6.out HB8.out | with_reducible exact fed_set HfC.out HBA6.out HB8.out HZ6.out HN4.out HS4.out
        case rest =>
          clear zo nz1 nz2 HSC z0 z1 z2 z3 z4 z5 z6 z7 HBA HB6 HN4 HS4 HF3 l1
          obtain ⟨GE, hE, oE, rfl, rfl, fE, mE, eE, AE, AA, hbE⟩ := hcut
          have hp := Hel.feeds_pieces HFC.out.1 fE
          rw [List.take_append_drop] at hp
          obtain ⟨e1, e2⟩ := Hel.feeds_one HfA2.out.1 hp
          have m1 := HFC.out.2.out
          have m2 := mE.out
          have m3 := mE.want
          have m4 := mE.buf
          clear hp fE eE HFC HfA2
          subst e1 e2
          have HSM := Lib.hid (fun W va ma vb mb h1 h2 h3 h4 => same_true hA va ma vb mb W h1 h2 h3 h4 (by omega) (by omega))
          obtain ⟨pA, qA, rA, tA, s1, s2, s3, s4, B1⟩ := AA.open_
          obtain ⟨pE, qE, rE, tE, s5, s6, s7, s8, B2⟩ := AE.open_
          have HSS := Lib.hid (And.intro s1 (And.intro s2 (And.intro s5 s6)))
          have HBE := Lib.hid hbE
          clear s1 s2 s3 s4 s5 s6 s7 s8 AA AE mE hbE m3 m4
          have z0 := B1.cell 0
          have z1 := B1.cell 1
          have z2 := B1.cell 2
          have z3 := B1.cell 3
          have z4 := B1.cell 4
          have z5 := B1.cell 5
          have z6 := B1.cell 6
          have z7 := B1.cell 7
          have y0 := B2.cell 0
          have y1 := B2.cell 1
          have y2 := B2.cell 2
          have y3 := B2.cell 3
          have y4 := B2.cell 4
          have y5 := B2.cell 5
          have y6 := B2.cell 6
          have y7 := B2.cell 7
          unfold helC at z0 z1 z2 z3 z4 z5 z6 z7 y0 y1 y2 y3 y4 y5 y6 y7
          simp only [List.getElem?_toArray, List.getElem?_cons_zero, List.getElem?_cons_succ] at z0 z1 z2 z3 z4 z5 z6 z7 y0 y1 y2 y3 y4 y5 y6 y7
          clear B1 B2
          go_wp2_with fail
          refine (HSM.out _ _ _ _ _ HSS.out.1 HSS.out.2.1 HSS.out.2.2.1 HSS.out.2.2.2).mono ?_
          rintro e w8 ⟨rfl, hb8⟩
          have b8 := below_next HBE.out hb8
          clear HSM HSS HBE hb8 z0 z1 z2 z3 z4 z5 z6 z7 y0 y1 y2 y3 y4 y5 y6 y7
          go_wp2_with fail
          refine (HA.out _).mono ?_
          rintro e w9 ⟨rfl, hb9⟩
          have b9 := below_next b8 hb9
          clear b8 hb9
          go_wp2
          all_goals go_ret
          all_goals exact ⟨by simp, b9⟩
end Go.Proofs.Ytcmgecojhjdjkaa
