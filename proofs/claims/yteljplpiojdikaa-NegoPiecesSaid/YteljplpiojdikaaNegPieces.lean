/- NegoPieces, the walk. -/
import Derived.Test.YteljplpiojdikaaNegAwake
namespace Go.Proofs.Yteljplpiojdikaa
open Go.RowKit

namespace Neg
theorem zero_mild (s : List UInt8) (h : s.length ≤ 20000) : Mild { zero with buf := zero.buf ++ s } [] := ⟨by simp [zero]; omega, by simp [zero]; omega, by simp [zero]⟩
theorem runs_less {sz : Nat} {maps : List (List UInt8)} {h h' : Neg} {o : List UInt8} (hr : Runs sz maps h o h') (hm : maps.length ≤ 10) (hp : h.phase ≤ 3) : h'.buf.length ≤ h.buf.length := by
  induction hr with
  | stop _ => exact Nat.le_refl _
  | go hp4 hs hr ih =>
    have hl := less_step _ _ _ hp hm _ hs
    have := ih hl.phase
    have := hl.out
    dsimp only at this
    omega
theorem feeds_less {sz : Nat} {maps : List (List UInt8)} {h h' : Neg} {s o : List UInt8} (hf : Feeds sz maps h s h' o) (hm : maps.length ≤ 10) (hp : h.phase ≤ 3) : h'.buf.length ≤ h.buf.length + s.length := by
  cases hf with
  | dead _ => omega
  | live _ hr =>
    have := runs_less hr hm hp
    dsimp only at this
    rw [List.length_append] at this
    omega
theorem inv_zero (n : Nat) : Inv n zero := ⟨by simp [zero], by simp [zero], by simp [zero]⟩
end Neg

/-- A server's beginning at block G. -/
def NegAt (W : World) (G : Nat) (n : Neg) : Prop :=
  ∃ vm, Blk W G 31 (ngC n vm) ∧ W.ownsRow 0 35 1 vm n.metas.length (cellsU n.metas)
theorem own_below {W W' : World} {v : Value} {n : Nat} {xs : List Value} (h : W.ownsRow 0 35 1 v n xs) (hb : Below W.heap.size W W') : W'.ownsRow 0 35 1 v n xs :=
  own_moved h fun g hg => hb.block g (by obtain ⟨_, cs, h2⟩ := own_typed h g hg; exact h2.lt)
theorem NegAt.below {W W' : World} {G : Nat} {n : Neg} (a : NegAt W G n) (hb : Below W.heap.size W W') : NegAt W' G n := by
  obtain ⟨vm, h1, h2⟩ := a
  exact ⟨vm, h1.below hb h1.lt, own_below h2 hb⟩
theorem NegAt.lt {W : World} {G : Nat} {n : Neg} (a : NegAt W G n) : G < W.heap.size := by
  obtain ⟨vm, h1, _⟩ := a
  exact h1.lt
theorem own_far {W W' : World} {R : Nat} {v : Value} {n : Nat} {xs : List Value} {cs : Array Value} (h : W.ownsRow 0 35 1 v n xs) (hR : Blk W R 31 cs) (hw : ∀ g, g ≠ R → W'.heap[g]? = W.heap[g]?) : W'.ownsRow 0 35 1 v n xs := by
  refine own_moved h fun g hg => hw g ?_
  rintro rfl
  obtain ⟨_, cs', h1⟩ := own_typed h g hg
  have := (show W.heap[g]? = _ from hR).symm.trans h1
  simp at this
theorem NegAt.far {W W' : World} {G R : Nat} {n : Neg} {cs : Array Value} (a : NegAt W G n) (hR : Blk W R 31 cs) (hne : G ≠ R) (hw : ∀ g, g ≠ R → W'.heap[g]? = W.heap[g]?) : NegAt W' G n := by
  obtain ⟨vm, h1, h2⟩ := a
  exact ⟨vm, (hw G hne).trans h1, own_far h2 hR hw⟩
theorem NegAt.open_ {W : World} {G : Nat} {n : Neg} (a : NegAt W G n) : ∃ a1 c1, W.ownsRow 0 35 1 (.slice a1 n.metas.length c1) n.metas.length (cellsU n.metas) ∧ Blk W G 31 (ngC n (.slice a1 n.metas.length c1)) := by
  obtain ⟨vm, h1, h2⟩ := a
  obtain ⟨a1, c1, rfl⟩ := (SlAt.of_row h2).form
  exact ⟨a1, c1, h2, h1⟩
theorem old_cellN {w : World} {g : Nat} (h : g < w.heap.size) (o : Obj) (i : Nat) : (w.alloc o).cell? ⟨g, i, none⟩ = w.cell? ⟨g, i, none⟩ := World.cell?_of_block (Below.heap_alloc w o g h)
/-- What a Feed has left. -/
def FedIn (n : Neg) (sz : Nat) (maps : List (List UInt8)) (s : List UInt8) (nC : Neg) (oC : List UInt8) (vm : Value) (W : World) : Prop :=
  Neg.Feeds sz maps n s nC oC ∧ Mild nC oC ∧ W.ownsRow 0 35 1 vm nC.metas.length (cellsU nC.metas)
/-- Behind a Feed: where it lies, and what came of it. -/
def FedAt (n : Neg) (sz : Nat) (maps : List (List UInt8)) (s : List UInt8) (w : World) (GX : Nat) (cX : Array Value) (GA : Nat) (nA : Neg) (x y : Value) (wx : World) : Prop :=
  ∃ G nC oC, x = .pointer (some ⟨G, 0, none⟩) ∧ y = .string ⟨oC.toArray⟩ ∧ Neg.Feeds sz maps n s nC oC ∧ Mild nC oC ∧ NegAt wx G nC ∧ NegAt wx GA nA ∧ Blk wx GX 25 cX ∧ Below w.heap.size w wx

theorem sorted_length (N : Nat) (l : List Nat) (a : Nat) (h1 : ∀ m ∈ l, a ≤ m ∧ m ≤ N) (h2 : l.Pairwise (· < ·)) : l.length ≤ N + 1 - a := by
  induction l generalizing a with
  | nil => simp
  | cons x l ih =>
    obtain ⟨h3, h4⟩ := List.pairwise_cons.1 h2
    have hx := h1 x (by simp)
    have := ih (x + 1) (fun m hm => ⟨h3 m hm, (h1 m (by simp [hm])).2⟩) h4
    simp only [List.length_cons]
    omega
theorem inv_length {n : Nat} {h : Neg} (hi : Neg.Inv n h) : h.metas.length ≤ n + 2 := by
  have := sorted_length (n + 1) h.metas 0 (fun m hm => ⟨Nat.zero_le _, (hi.range m hm).2⟩) hi.order
  omega
set_option maxRecDepth 100000 in
set_option maxHeartbeats 2000000 in
theorem feed_dead (n : Neg) (sz : Nat) (maps : List (List UInt8)) (s : List UInt8) (vm : Value) (ad1 : Option Addr) (c1 : Nat) (w : World) (m : Mild n []) (hp : n.phase = 3) (h2 : w.ownsRow 0 35 1 vm n.metas.length (cellsU n.metas)) :
    Calls Try.prog 9 #[.agg (ngC n vm), .agg (exC sz (.slice ad1 maps.length c1)), .string ⟨s.toArray⟩] w (FeedEnds n sz maps s w) := by
  obtain ⟨ad2, c2, rfl⟩ := (SlAt.of_row h2).form
  have H2 := Lib.hid h2
  clear h2
  have HM := Lib.hid m
  have e1 : ((n.phase : Int) == 3) = true := by rw [hp]; rfl
  have HF := Lib.hid (Neg.Feeds.dead (sz := sz) (maps := maps) (s := s) hp)
  clear hp m
  unfold ngC exC
  go_enter Try.func9, Try.ntmps9
  go_wp2_with fail
  try simp only [Exit.inBlock, Exit.then]
  refine bodyPost_ret (v := .tuple #[.agg (ngC n (.slice ad2 n.metas.length c2)), .string ⟨#[]⟩]) (by simp [results, Try.results9, go_sem, ngC]) rfl ?_
  have hb : Below w.heap.size w (((w.alloc (.cells #[.int .i64 n.phase, .string ⟨n.buf.toArray⟩, .bool n.brief, .bool n.chunks, .slice ad2 n.metas.length c2] 31)).alloc (.cells #[.int .u64 sz, .slice ad1 maps.length c1] 25)).alloc (.cells #[.int .i64 n.phase, .string ⟨n.buf.toArray⟩, .bool n.brief, .bool n.chunks, .slice ad2 n.metas.length c2] 31)) := by (repeat' (first | (with_reducible assumption) | (with_reducible exact Below.refl _ _) | (with_reducible refine below_drewN ?_ _) | (with_reducible refine Below.drew ?_) | (with_reducible refine Below.setCell ?_ ?_ _) | (with_reducible refine Below.alloc ?_ ?_ _) | (with_reducible refine below_putObj ?_ ?_ _) | (with_reducible exact Nat.le_refl _) | omega | (simp; done) | (simp; omega)))
  exact ⟨n, [], _, rfl, HF.out, HM.out, own_below H2.out hb, hb⟩
theorem fed_new {n nC nA : Neg} {sz : Nat} {maps : List (List UInt8)} {s oC : List UInt8} {w W : World} {GX GA : Nat} {cX : Array Value} {vm : Value} (f : FedIn n sz maps s nC oC vm W) (X : Blk W GX 25 cX) (A : NegAt W GA nA) (hb : Below w.heap.size w W) :
    FedAt n sz maps s w GX cX GA nA (.pointer (some ⟨W.heap.size, 0, none⟩)) (.string ⟨oC.toArray⟩) (W.alloc (.cells #[.int .i64 nC.phase, .string ⟨nC.buf.toArray⟩, .bool nC.brief, .bool nC.chunks, vm] 31)) := by
  show FedAt n sz maps s w GX cX GA nA (.pointer (some ⟨W.heap.size, 0, none⟩)) (.string ⟨oC.toArray⟩) (W.alloc (.cells (ngC nC vm) 31))
  have hg : Below W.heap.size W (W.alloc (.cells (ngC nC vm) 31)) := by (repeat' (first | (with_reducible assumption) | (with_reducible exact Below.refl _ _) | (with_reducible refine below_drewN ?_ _) | (with_reducible refine Below.drew ?_) | (with_reducible refine Below.setCell ?_ ?_ _) | (with_reducible refine Below.alloc ?_ ?_ _) | (with_reducible refine below_putObj ?_ ?_ _) | (with_reducible exact Nat.le_refl _) | omega | (simp; done) | (simp; omega)))
  obtain ⟨f1, f2, f3⟩ := f
  exact ⟨_, nC, oC, rfl, rfl, f1, f2, ⟨vm, Blk.new _ _ _, own_below f3 hg⟩, A.below hg, X.below hg X.lt, below_next hb hg⟩
theorem fed_set {n nC nA : Neg} {sz : Nat} {maps : List (List UInt8)} {s oC : List UInt8} {w W : World} {GX GA G : Nat} {cX : Array Value} {vm : Value} (f : FedIn n sz maps s nC oC vm W) (X : Blk W GX 25 cX) (A : NegAt W GA nA) (hb : Below w.heap.size w W)
    (hZ : Blk W G 31 #[.int .i64 0, .string ⟨#[]⟩, .bool false, .bool false, .slice none 0 0]) (hne : GA ≠ G) (hG : w.heap.size ≤ G) :
    FedAt n sz maps s w GX cX GA nA (.pointer (some ⟨G, 0, none⟩)) (.string ⟨oC.toArray⟩) (((((W.setCell ⟨G, 0, none⟩ (.int .i64 nC.phase)).setCell ⟨G, 1, none⟩ (.string ⟨nC.buf.toArray⟩)).setCell ⟨G, 2, none⟩ (.bool nC.brief)).setCell ⟨G, 3, none⟩ (.bool nC.chunks)).setCell ⟨G, 4, none⟩ vm) := by
  have hw : ∀ g, g ≠ G → (((((W.setCell ⟨G, 0, none⟩ (.int .i64 nC.phase)).setCell ⟨G, 1, none⟩ (.string ⟨nC.buf.toArray⟩)).setCell ⟨G, 2, none⟩ (.bool nC.brief)).setCell ⟨G, 3, none⟩ (.bool nC.chunks)).setCell ⟨G, 4, none⟩ vm).heap[g]? = W.heap[g]? := by
    intro g hg
    repeat rw [heap_set hg]
  have hX : GX ≠ G := by
    rintro rfl
    have := (show W.heap[GX]? = _ from hZ).symm.trans X
    simp at this
  obtain ⟨f1, f2, f3⟩ := f
  exact ⟨G, nC, oC, rfl, rfl, f1, f2, ⟨vm, (((((hZ.set_ 0 _).set_ 1 _).set_ 2 _).set_ 3 _).set_ 4 _).as_ (by simp [ngC]), own_far f3 hZ hw⟩, A.far hZ hne hw, (hw GX hX).trans X, by (repeat' (first | (with_reducible assumption) | (with_reducible exact Below.refl _ _) | (with_reducible refine below_drewN ?_ _) | (with_reducible refine Below.drew ?_) | (with_reducible refine Below.setCell ?_ ?_ _) | (with_reducible refine Below.alloc ?_ ?_ _) | (with_reducible refine below_putObj ?_ ?_ _) | (with_reducible exact Nat.le_refl _) | omega | (simp; done) | (simp; omega)))⟩

set_option maxRecDepth 100000 in
set_option maxHeartbeats 4000000 in
theorem negoPieces_any (sz : Nat) (v : Value) (maps : List (List UInt8)) (s : List UInt8) (cut : Int) (w : World) (h : SlAt w v maps.length (cellsS maps)) (hwl : maps.length ≤ 9223372036854775807) (hwx : ∀ x ∈ maps, x.length ≤ 9223372036854775807) (hs : s.length ≤ 9223372036854775807) :
    Calls Try.prog 3 #[.agg (exC sz v), .string ⟨s.toArray⟩, .int .i64 cut] w (Gives (.bool true) w) := by
  have mixed : Try.prog.follows .mixedOrders = true := by kernel_rfl
  have HA := Lib.hid awake_any
  have H := Lib.hid h
  have HW := Lib.hid (fun W (hb : Below w.heap.size w W) => good_any sz v maps W (h.below hb) hwl hwx)
  have HS := Lib.hid (fun W v (hv : SlAt W v 1 (cellsS [s])) => short_any v [s] W hv (show (1 : Nat) ≤ _ by decide) (by simpa using hs))
  obtain ⟨ad, cp, rfl⟩ := h.form
  clear h
  unfold exC at HW ⊢
  go_enter Try.func3, Try.ntmps3
  go_wp2_with fail
  refine (HW.out _ (by (repeat' (first | (with_reducible assumption) | (with_reducible exact Below.refl _ _) | (with_reducible refine below_drewN ?_ _) | (with_reducible refine Below.drew ?_) | (with_reducible refine Below.setCell ?_ ?_ _) | (with_reducible refine Below.alloc ?_ ?_ _) | (with_reducible refine below_putObj ?_ ?_ _) | (with_reducible exact Nat.le_refl _) | omega | (simp; done) | (simp; omega))))).mono ?_
  rintro e w1 ⟨r, rfl, hr, hb1⟩
  have HR := Lib.hid hr
  have b1 : Below w.heap.size w w1 := below_next (by (repeat' (first | (with_reducible assumption) | (with_reducible exact Below.refl _ _) | (with_reducible refine below_drewN ?_ _) | (with_reducible refine Below.drew ?_) | (with_reducible refine Below.setCell ?_ ?_ _) | (with_reducible refine Below.alloc ?_ ?_ _) | (with_reducible refine below_putObj ?_ ?_ _) | (with_reducible exact Nat.le_refl _) | omega | (simp; done) | (simp; omega)))) hb1
  have BX := (Blk.new w 25 #[.int .u64 sz, .slice ad maps.length cp]).below hb1 (Blk.new w 25 #[.int .u64 sz, .slice ad maps.length cp]).lt
  clear hr HW hb1
  generalize hGX : w.heap.size = GX at BX ⊢
  cases r with
  | false =>
    go_wp2_with fail
    refine (HA.out _).mono ?_
    rintro e w2 ⟨rfl, hb2⟩
    have b2 := below_next b1 hb2
    go_wp2
    go_ret
    exact ⟨rfl, b2⟩
  | true =>
    obtain ⟨hml, hM⟩ := HR.out (by trivial)
    clear hwl hwx HR
    have HX := Lib.hid BX
    clear BX
    go_wp2_with fail
    have hb2 : Below w.heap.size w (w1.alloc (.cells #[.string ⟨s.toArray⟩] 9)) := by have s1 := b1.size; (repeat' (first | (with_reducible assumption) | (with_reducible exact Below.refl _ _) | (with_reducible refine below_drewN ?_ _) | (with_reducible refine Below.drew ?_) | (with_reducible refine Below.setCell ?_ ?_ _) | (with_reducible refine Below.alloc ?_ ?_ _) | (with_reducible refine below_putObj ?_ ?_ _) | (with_reducible exact Nat.le_refl _) | omega | (simp; done) | (simp; omega)))
    have HX2 := Lib.hid (HX.out.alloc (.cells #[.string ⟨s.toArray⟩] 9))
    refine (HS.out _ _ (.inr ⟨⟨w1.heap.size, 0, none⟩, 1, rfl, .inr rfl, ?cs⟩)).mono ?_
    case cs =>
      intro j u hu
      have h2 := (Blk.new w1 9 #[.string ⟨s.toArray⟩]).cell j
      rw [Addr.add_lit, Nat.zero_add, h2]
      simpa [cellsS] using hu
    rintro e w2 ⟨r, rfl, hr, hb3⟩
    have HR2 := Lib.hid hr
    have b3 := below_next hb2 hb3
    have BX2 := HX2.out.below hb3 HX2.out.lt
    clear hr hb2 hb3 b1 HX HX2
    cases r with
    | false =>
      go_wp2_with fail
      refine (HA.out _).mono ?_
      rintro e w2 ⟨rfl, hb2⟩
      have b2 := below_next b3 hb2
      go_wp2
      go_ret
      exact ⟨rfl, b2⟩
    | true =>
      have hsl : s.length ≤ 20000 := by have := HR2.out (by trivial); simpa [sumL] using this
      obtain ⟨k, hk, hmod⟩ := cut_mod cut (s.length + 1) (by omega)
      have HQ : Hid (∀ q ∈ maps, q.length ≤ 1000) := Lib.hid (fun q hq => by have := hM q hq; omega)
      have HF1 : Hid (∀ (l : List UInt8), l.length ≤ 20000 → ∀ W, Below w.heap.size w W → Calls Try.prog 9 #[.agg (ngC Neg.zero (.slice none 0 0)), .agg (exC sz (.slice ad maps.length cp)), .string ⟨l.toArray⟩] W (FeedEnds Neg.zero sz maps l W)) :=
        Lib.hid (fun l hl W hb => feed_any Neg.zero sz maps l (.slice none 0 0) (.slice ad maps.length cp) W (Neg.zero_mild _ hl) (by omega) HQ.out (H.out.below hb) (World.ownsRow_nil _ _ _ _))
      have hkl : k ≤ s.length := by omega
      have l1 : (k : Int) ≤ (s.length : Int) := by omega
      have hwk : wrap64 (k : Int) = (k : Int) := by unfold wrap64; omega
      have hmod2 : (IntKind.u64.wrap cut).tmod ((s.length : Int) + 1) = (k : Int) := by rw [← hmod]; norm_cast
      clear hmod hk HR2 HS
      have xc0 := BX2.cell 0
      have xc1 := BX2.cell 1
      simp only [List.getElem?_toArray, List.getElem?_cons_zero, List.getElem?_cons_succ] at xc0 xc1
      go_wp2_with fail
      refine (HF1.out s hsl _ b3).mono ?_
      rintro e w4 ⟨nA, oA, vmA, rfl, fA, mA, sA, hb4⟩
      have b5 := below_next b3 hb4
      have BX4 := BX2.below hb4 BX2.lt
      clear b3 hb4 BX2 xc0 xc1
      obtain ⟨pA, qA, rfl⟩ := (SlAt.of_row sA).form
      have HfA : Hid (FedIn Neg.zero sz maps s nA oA (.slice pA nA.metas.length qA) w4) := Lib.hid ⟨fA, mA, sA⟩
      clear fA mA sA
      simp only [ngC]
      go_upto_region 5 with fail
      refine wp_at fun W4 hW4 => ?_
      have BA : NegAt W4 w4.heap.size nA := by
        have hg : Below w4.heap.size w4 W4 := by rw [hW4]; (repeat' (first | (with_reducible assumption) | (with_reducible exact Below.refl _ _) | (with_reducible refine below_drewN ?_ _) | (with_reducible refine Below.drew ?_) | (with_reducible refine Below.setCell ?_ ?_ _) | (with_reducible refine Below.alloc ?_ ?_ _) | (with_reducible refine below_putObj ?_ ?_ _) | (with_reducible exact Nat.le_refl _) | omega | (simp; done) | (simp; omega)))
        obtain ⟨_, _, f3⟩ := HfA.out
        exact ⟨_, by rw [hW4]; exact Blk.new w4 _ _, own_below f3 hg⟩
      have BX := (show Blk W4 GX 25 #[.int .u64 sz, .slice ad maps.length cp] by rw [hW4]; exact BX4.alloc _)
      have b6 : Below w.heap.size w W4 := by have s5 := b5.size; rw [hW4]; (repeat' (first | (with_reducible assumption) | (with_reducible exact Below.refl _ _) | (with_reducible refine below_drewN ?_ _) | (with_reducible refine Below.drew ?_) | (with_reducible refine Below.setCell ?_ ?_ _) | (with_reducible refine Below.alloc ?_ ?_ _) | (with_reducible refine below_putObj ?_ ?_ _) | (with_reducible exact Nat.le_refl _) | omega | (simp; done) | (simp; omega)))
      have HfA2 := Lib.hid HfA.out.1
      clear hW4 b5 HfA BX4
      generalize w4.heap.size = GA at BA ⊢
      have hkt : (s.take k).length ≤ 20000 := by rw [List.length_take]; omega
      have HBA := Lib.hid BA
      have HBX := Lib.hid BX
      have HB6 := Lib.hid b6
      have HN4 : Hid (GA ≠ W4.heap.size) := Lib.hid (by have := BA.lt; omega)
      have HS4 : Hid (w.heap.size ≤ W4.heap.size) := Lib.hid b6.size
      have xc0 := BX.cell 0
      have xc1 := BX.cell 1
      simp only [List.getElem?_toArray, List.getElem?_cons_zero, List.getElem?_cons_succ] at xc0 xc1
      have xo := fun o i => old_cellN (w := W4) (g := GX) BX.lt o i
      clear BA b6 BX
      go_cut [10, 11] from 43 to 51 (fun x y wx => FedAt Neg.zero sz maps (s.take k) w GX #[.int .u64 sz, .slice ad maps.length cp] GA nA x y wx)
      case first =>
        go_region_with (go_at_call 9; go_loud (refine (HF1.out (s.take k) hkt _ (by have h0 := HB6.out; have hs0 := h0.size; (repeat' (first | (with_reducible assumption) | (with_reducible exact Below.refl _ _) | (with_reducible refine below_drewN ?_ _) | (with_reducible refine Below.drew ?_) | (with_reducible refine Below.setCell ?_ ?_ _) | (with_reducible refine Below.alloc ?_ ?_ _) | (with_reducible refine below_putObj ?_ ?_ _) | (with_reducible exact Nat.le_refl _) | omega | (simp; done) | (simp; omega))))).mono ?_; rintro e w6 ⟨nC, oC, vmC, rfl, fC, mC, sC, hb6⟩; have HB8 := Lib.hid (below_next (show Below w.heap.size w _ by have h0 := HB6.out; have hs0 := h0.size; (repeat' (first | (with_reducible assumption) | (with_reducible exact Below.refl _ _) | (with_reducible refine below_drewN ?_ _) | (with_reducible refine Below.drew ?_) | (with_reducible refine Below.setCell ?_ ?_ _) | (with_reducible refine Below.alloc ?_ ?_ _) | (with_reducible refine below_putObj ?_ ?_ _) | (with_reducible exact Nat.le_refl _) | omega | (simp; done) | (simp; omega)))) hb6); have HBA6 := Lib.hid ((HBA.out.below (show Below W4.heap.size W4 _ by (repeat' (first | (with_reducible assumption) | (with_reducible exact Below.refl _ _) | (with_reducible refine below_drewN ?_ _) | (with_reducible refine Below.drew ?_) | (with_reducible refine Below.setCell ?_ ?_ _) | (with_reducible refine Below.alloc ?_ ?_ _) | (with_reducible refine below_putObj ?_ ?_ _) | (with_reducible exact Nat.le_refl _) | omega | (simp; done) | (simp; omega))))).below hb6); have HBX6 := Lib.hid ((HBX.out.below (show Below W4.heap.size W4 _ by (repeat' (first | (with_reducible assumption) | (with_reducible exact Below.refl _ _) | (with_reducible refine below_drewN ?_ _) | (with_reducible refine Below.drew ?_) | (with_reducible refine Below.setCell ?_ ?_ _) | (with_reducible refine Below.alloc ?_ ?_ _) | (with_reducible refine below_putObj ?_ ?_ _) | (with_reducible exact Nat.le_refl _) | omega | (simp; done) | (simp; omega)))) HBX.out.lt).below hb6 (Blk.lt (HBX.out.below (show Below W4.heap.size W4 _ by (repeat' (first | (with_reducible assumption) | (with_reducible exact Below.refl _ _) | (with_reducible refine below_drewN ?_ _) | (with_reducible refine Below.drew ?_) | (with_reducible refine Below.setCell ?_ ?_ _) | (with_reducible refine Below.alloc ?_ ?_ _) | (with_reducible refine below_putObj ?_ ?_ _) | (with_reducible exact Nat.le_refl _) | omega | (simp; done) | (simp; omega)))) HBX.out.lt))); (try (have hZ6 := (show Blk _ W4.heap.size 31 #[.int .i64 0, .string ⟨#[]⟩, .bool false, .bool false, .slice none 0 0] from Blk.new W4.drew _ _).below hb6 (show Blk _ W4.heap.size 31 #[.int .i64 0, .string ⟨#[]⟩, .bool false, .bool false, .slice none 0 0] from Blk.new W4.drew _ _).lt; have u0 := hZ6.cell 0; have u1 := hZ6.cell 1; have u2 := hZ6.cell 2; have u3 := hZ6.cell 3; have u4 := hZ6.cell 4; simp only [List.getElem?_toArray, List.getElem?_cons_zero, List.getElem?_cons_succ] at u0 u1 u2 u3 u4; have y0 := hZ6.frozen 0; have y1 := hZ6.frozen 1; have y2 := hZ6.frozen 2; have y3 := hZ6.frozen 3; have y4 := hZ6.frozen 4; have HZ6 := Lib.hid hZ6; clear hZ6)); clear hb6; obtain ⟨pC, qC, rfl⟩ := (SlAt.of_row sC).form; have HfC : Hid (FedIn Neg.zero sz maps (s.take k) nC oC (.slice pC nC.metas.length qC) w6) := Lib.hid ⟨fC, mC, sC⟩; clear fC mC sC; simp only [ngC]))
        all_goals go_wp2_with fail
        all_goals go_meet
        all_goals first | with_reducible exact fed_new HfC.out HBX6.out HBA6.out HB8.out | with_reducible exact fed_set HfC.out HBX6.out HBA6.out HB8.out HZ6.out HN4.out HS4.out
      case rest =>
        clear HBA HB6 HN4 HS4 HBX hwk hmod2 xc0 xc1 xo
        obtain ⟨GC, nC, oC, rfl, rfl, fC, mC, AC, AA, AX, hbC⟩ := hcut
        have HFC := Lib.hid (And.intro fC mC)
        have hmild : Mild { nC with buf := nC.buf ++ s.drop k } [] := by
          have hl := Neg.feeds_less fC (show maps.length ≤ 10 by omega) (show (0 : Nat) ≤ 3 by decide)
          have hlk : (s.take k).length = k := by rw [List.length_take]; omega
          rw [hlk] at hl
          have hld : (s.drop k).length = s.length - k := List.length_drop
          have hz : Neg.zero.buf.length = 0 := rfl
          refine ⟨?_, ?_, mC.phase⟩
          · dsimp only; rw [List.length_append]; omega
          · dsimp only; rw [List.length_append]; simp only [List.length_nil]; omega
        have HF3 : Hid (∀ W vm, Below w.heap.size w W → W.ownsRow 0 35 1 vm nC.metas.length (cellsU nC.metas) →
            Calls Try.prog 9 #[.agg (ngC nC vm), .agg (exC sz (.slice ad maps.length cp)), .string ⟨(s.drop k).toArray⟩] W (FeedEnds nC sz maps (s.drop k) W)) :=
          Lib.hid (fun W vm hb h1 => feed_any nC sz maps (s.drop k) vm (.slice ad maps.length cp) W hmild (by omega) HQ.out (H.out.below hb) h1)
        obtain ⟨pC, qC, sC1, BC⟩ := AC.open_
        have HSC := Lib.hid sC1
        have z0 := BC.cell 0
        have z1 := BC.cell 1
        have z2 := BC.cell 2
        have z3 := BC.cell 3
        have z4 := BC.cell 4
        unfold ngC at z0 z1 z2 z3 z4
        have xc0 := AX.cell 0
        have xc1 := AX.cell 1
        simp only [List.getElem?_toArray, List.getElem?_cons_zero, List.getElem?_cons_succ] at z0 z1 z2 z3 z4 xc0 xc1
        have HBA := Lib.hid AA
        have HBX := Lib.hid AX
        have HB6 := Lib.hid hbC
        have zo := fun o i => old_cellN (w := wc) (g := GC) BC.lt o i
        have xo := fun o i => old_cellN (w := wc) (g := GX) AX.lt o i
        have nz1 : GC ≠ wc.heap.size := by have := BC.lt; omega
        have nz2 : wc.heap.size ≠ GC := by have := BC.lt; omega
        have nx1 : GX ≠ wc.heap.size := by have := AX.lt; omega
        have nx2 : wc.heap.size ≠ GX := by have := AX.lt; omega
        have HN4 : Hid (GA ≠ wc.heap.size) := Lib.hid (by have := AA.lt; omega)
        have HS4 : Hid (w.heap.size ≤ wc.heap.size) := Lib.hid hbC.size
        clear fC mC AC AA AX hbC hmild sC1 BC
        go_upto_region 6 with fail
        go_cut [12, 13] from 52 to 60 (fun x y wx => FedAt nC sz maps (s.drop k) w GX #[.int .u64 sz, .slice ad maps.length cp] GA nA x y wx)
        case first =>
          go_region_with (go_at_call 9; go_loud (refine (HF3.out _ _ (by have h0 := HB6.out; have hs0 := h0.size; (repeat' (first | (with_reducible assumption) | (with_reducible exact Below.refl _ _) | (with_reducible refine below_drewN ?_ _) | (with_reducible refine Below.drew ?_) | (with_reducible refine Below.setCell ?_ ?_ _) | (with_reducible refine Below.alloc ?_ ?_ _) | (with_reducible refine below_putObj ?_ ?_ _) | (with_reducible exact Nat.le_refl _) | omega | (simp; done) | (simp; omega)))) (own_below HSC.out (by (repeat' (first | (with_reducible assumption) | (with_reducible exact Below.refl _ _) | (with_reducible refine below_drewN ?_ _) | (with_reducible refine Below.drew ?_) | (with_reducible refine Below.setCell ?_ ?_ _) | (with_reducible refine Below.alloc ?_ ?_ _) | (with_reducible refine below_putObj ?_ ?_ _) | (with_reducible exact Nat.le_refl _) | omega | (simp; done) | (simp; omega)))))).mono ?_; rintro e w6 ⟨nE, oE, vmC, rfl, fC, mC, sC, hb6⟩; have HB8 := Lib.hid (below_next (show Below w.heap.size w _ by have h0 := HB6.out; have hs0 := h0.size; (repeat' (first | (with_reducible assumption) | (with_reducible exact Below.refl _ _) | (with_reducible refine below_drewN ?_ _) | (with_reducible refine Below.drew ?_) | (with_reducible refine Below.setCell ?_ ?_ _) | (with_reducible refine Below.alloc ?_ ?_ _) | (with_reducible refine below_putObj ?_ ?_ _) | (with_reducible exact Nat.le_refl _) | omega | (simp; done) | (simp; omega)))) hb6); have HBA6 := Lib.hid ((HBA.out.below (show Below wc.heap.size wc _ by (repeat' (first | (with_reducible assumption) | (with_reducible exact Below.refl _ _) | (with_reducible refine below_drewN ?_ _) | (with_reducible refine Below.drew ?_) | (with_reducible refine Below.setCell ?_ ?_ _) | (with_reducible refine Below.alloc ?_ ?_ _) | (with_reducible refine below_putObj ?_ ?_ _) | (with_reducible exact Nat.le_refl _) | omega | (simp; done) | (simp; omega))))).below hb6); have HBX6 := Lib.hid ((HBX.out.below (show Below wc.heap.size wc _ by (repeat' (first | (with_reducible assumption) | (with_reducible exact Below.refl _ _) | (with_reducible refine below_drewN ?_ _) | (with_reducible refine Below.drew ?_) | (with_reducible refine Below.setCell ?_ ?_ _) | (with_reducible refine Below.alloc ?_ ?_ _) | (with_reducible refine below_putObj ?_ ?_ _) | (with_reducible exact Nat.le_refl _) | omega | (simp; done) | (simp; omega)))) HBX.out.lt).below hb6 (Blk.lt (HBX.out.below (show Below wc.heap.size wc _ by (repeat' (first | (with_reducible assumption) | (with_reducible exact Below.refl _ _) | (with_reducible refine below_drewN ?_ _) | (with_reducible refine Below.drew ?_) | (with_reducible refine Below.setCell ?_ ?_ _) | (with_reducible refine Below.alloc ?_ ?_ _) | (with_reducible refine below_putObj ?_ ?_ _) | (with_reducible exact Nat.le_refl _) | omega | (simp; done) | (simp; omega)))) HBX.out.lt))); (try (have hZ6 := (show Blk _ wc.heap.size 31 #[.int .i64 0, .string ⟨#[]⟩, .bool false, .bool false, .slice none 0 0] from Blk.new wc.drew _ _).below hb6 (show Blk _ wc.heap.size 31 #[.int .i64 0, .string ⟨#[]⟩, .bool false, .bool false, .slice none 0 0] from Blk.new wc.drew _ _).lt; have u0 := hZ6.cell 0; have u1 := hZ6.cell 1; have u2 := hZ6.cell 2; have u3 := hZ6.cell 3; have u4 := hZ6.cell 4; simp only [List.getElem?_toArray, List.getElem?_cons_zero, List.getElem?_cons_succ] at u0 u1 u2 u3 u4; have y0 := hZ6.frozen 0; have y1 := hZ6.frozen 1; have y2 := hZ6.frozen 2; have y3 := hZ6.frozen 3; have y4 := hZ6.frozen 4; have HZ6 := Lib.hid hZ6; clear hZ6)); clear hb6; obtain ⟨pC, qC, rfl⟩ := (SlAt.of_row sC).form; have HfC : Hid (FedIn nC sz maps (s.drop k) nE oE (.slice pC nE.metas.length qC) w6) := Lib.hid ⟨fC, mC, sC⟩; clear fC mC sC; simp only [ngC]))
          all_goals go_wp2_with fail
          all_goals go_meet
          all_goals first | with_reducible exact fed_new HfC.out HBX6.out HBA6.out HB8.out | with_reducible exact fed_set HfC.out HBX6.out HBA6.out HB8.out HZ6.out HN4.out HS4.out
        case rest =>
          clear zo xo nz1 nz2 nx1 nx2 HSC z0 z1 z2 z3 z4 xc0 xc1 HBA HBX HB6 HN4 HS4 HF3 l1
          obtain ⟨GE, nE, oE, rfl, rfl, fE, mE, AE, AA, AX, hbE⟩ := hcut
          have hp := Neg.feeds_pieces HFC.out.1 fE
          rw [List.take_append_drop] at hp
          obtain ⟨e1, e2⟩ := Neg.feeds_one HfA2.out hp
          have m1 := HFC.out.2.out
          have m2 := mE.out
          clear hp fE HFC
          subst e1 e2
          have HI := Lib.hid (Neg.inv_feeds HfA2.out (Neg.inv_zero maps.length))
          have hlen := inv_length HI.out
          have HFA := Lib.hid mE
          have HSM := Lib.hid (fun W va vb h1 h2 => same_true nA va vb W h1 h2 (by omega))
          obtain ⟨pA, qA, s1, B1⟩ := AA.open_
          obtain ⟨pE, qE, s2, B2⟩ := AE.open_
          have HSS := Lib.hid (And.intro s1 s2)
          have HB1 := Lib.hid B1
          have HBX := Lib.hid AX
          have HBE := Lib.hid hbE
          have z0 := B1.cell 0
          have z1 := B1.cell 1
          have z2 := B1.cell 2
          have z3 := B1.cell 3
          have z4 := B1.cell 4
          have y0 := B2.cell 0
          have y1 := B2.cell 1
          have y2 := B2.cell 2
          have y3 := B2.cell 3
          have y4 := B2.cell 4
          unfold ngC at z0 z1 z2 z3 z4 y0 y1 y2 y3 y4
          simp only [List.getElem?_toArray, List.getElem?_cons_zero, List.getElem?_cons_succ] at z0 z1 z2 z3 z4 y0 y1 y2 y3 y4
          clear B1 B2 s1 s2 AX AE AA hbE mE
          go_wp2_with fail
          refine (HSM.out _ _ _ (SlAt.of_row HSS.out.1) (SlAt.of_row HSS.out.2)).mono ?_
          rintro e w8 ⟨rfl, hb8⟩
          have b8 := below_next HBE.out hb8
          have HB18 := Lib.hid (HB1.out.below hb8 HB1.out.lt)
          have HBX8 := Lib.hid (HBX.out.below hb8 HBX.out.lt)
          have HSS8 := Lib.hid (own_below HSS.out.1 hb8)
          clear HSS HBE HB1 HBX hb8 z0 z1 z2 z3 z4 y0 y1 y2 y3 y4
          have z0 := HB18.out.cell 0
          have z1 := HB18.out.cell 1
          have z2 := HB18.out.cell 2
          have z3 := HB18.out.cell 3
          have z4 := HB18.out.cell 4
          unfold ngC at z0 z1 z2 z3 z4
          simp only [List.getElem?_toArray, List.getElem?_cons_zero, List.getElem?_cons_succ] at z0 z1 z2 z3 z4
          go_wp2_with fail
          have HLT := Lib.hid (And.intro HB18.out.lt HBX8.out.lt)
          clear z0 z1 z2 z3 z4
          go_loopw [75] (fun i wr => ∃ j : Nat, j ≤ nA.metas.length ∧ i = .int .i64 j ∧ Below w8.heap.size w8 wr) (fun i _ => nA.metas.length - (intOf i).toNat)
          case atStart => exact ⟨0, Nat.zero_le _, rfl, Below.refl _ _⟩
          case round =>
            obtain ⟨j, hj, rfl, hbw⟩ := hrel
            have B1 := HB18.out.below hbw HLT.out.1
            have B2 := HBX8.out.below hbw HLT.out.2
            have z0 := B1.cell 0
            have z3 := B1.cell 3
            have z4 := B1.cell 4
            have xc1 := B2.cell 1
            unfold ngC at z0 z3 z4
            simp only [List.getElem?_toArray, List.getElem?_cons_zero, List.getElem?_cons_succ] at z0 z3 z4 xc1
            clear B1 B2
            by_cases hlt : j < nA.metas.length
            · have k1 : (j : Int) < (nA.metas.length : Int) := by omega
              have k0 : (0 : Int) ≤ (j : Int) := by omega
              have hch : nA.chunks = true := HI.out.chunks (by rintro h; rw [h] at hlt; simp at hlt)
              rw [hch] at z3
              clear hch
              obtain ⟨q, hq⟩ : ∃ q, nA.metas[j]? = some q := ⟨_, List.getElem?_eq_getElem hlt⟩
              have hr := HI.out.range q (List.mem_of_getElem? hq)
              have r1 : (1 : Int) ≤ (q : Int) := by omega
              have r2 : (q : Int) ≤ (maps.length : Int) + 1 := by omega
              obtain ⟨x1, o1, rfl, A⟩ := (SlAt.of_row HSS8.out).addr (cellsU_at nA.metas j q hq)
              have a0 := cell_keepS (A j _ (cellsU_at nA.metas j q hq)) hbw
              rcases Nat.eq_zero_or_pos j with rfl | hjp
              · clear A hq hr
                rw [Nat.add_zero] at a0
                go_wp2
                go_roundw
                case rel => exact ⟨0 + 1, by omega, by go_num, hbw⟩
                case measure => simp [intOf]; omega
              · obtain ⟨p, hp⟩ : ∃ p, nA.metas[j - 1]? = some p := ⟨_, List.getElem?_eq_getElem (by omega)⟩
                have a1 := cell_keepS (A (j - 1) _ (cellsU_at nA.metas (j - 1) p hp)) hbw
                have hpq : (p : Int) < (q : Int) := by
                  have h1 := List.pairwise_iff_getElem.1 HI.out.order (j - 1) j (by omega) hlt (by omega)
                  rw [List.getElem?_eq_getElem (by omega)] at hp hq
                  simp only [Option.some.injEq] at hp hq
                  omega
                obtain ⟨j1, hj1⟩ : ∃ j1, j - 1 = j1 := ⟨_, rfl⟩
                rw [hj1] at a1
                have e1 : (j : Int) - 1 = (j1 : Int) := by omega
                have k00 : (0 : Int) < (j : Int) := by omega
                have k11 : (j1 : Int) < (nA.metas.length : Int) := by omega
                clear A hq hr hp hj1
                go_wp2
                go_roundw
                case rel => exact ⟨j + 1, by omega, by go_num, hbw⟩
                case measure => simp [intOf]; omega
            · obtain rfl : j = nA.metas.length := by omega
              have k1 : ¬ (nA.metas.length : Int) < (nA.metas.length : Int) := by omega
              have bw := below_next b8 hbw
              by_cases hph : nA.phase = 3
              · have e3 : ((nA.phase : Int) == 3) = true := by rw [hph]; rfl
                have HF4 : Hid (∀ W vm, W.ownsRow 0 35 1 vm nA.metas.length (cellsU nA.metas) → Calls Try.prog 9 #[.agg (ngC nA vm), .agg (exC sz (.slice ad maps.length cp)), .string ⟨s.toArray⟩] W (FeedEnds nA sz maps s W)) :=
                  Lib.hid (fun W vm h1 => feed_dead nA sz maps s vm ad cp W ⟨HFA.out.buf, by have := HFA.out.buf; simp only [List.length_nil]; omega, HFA.out.phase⟩ hph h1)
                have HPH := Lib.hid hph
                have B1 := HB18.out.below hbw HLT.out.1
                have B2 := HBX8.out.below hbw HLT.out.2
                have HSW := Lib.hid (own_below HSS8.out hbw)
                have HBA := Lib.hid (show NegAt wr GA nA from ⟨_, B1, HSW.out⟩)
                have HBX := Lib.hid B2
                have HB6 := Lib.hid bw
                have z1 := B1.cell 1
                have z2 := B1.cell 2
                unfold ngC at z1 z2
                simp only [List.getElem?_toArray, List.getElem?_cons_zero, List.getElem?_cons_succ] at z1 z2
                have xc0 := B2.cell 0
                simp only [List.getElem?_toArray, List.getElem?_cons_zero, List.getElem?_cons_succ] at xc0
                have zo := fun o i => old_cellN (w := wr) (g := GA) B1.lt o i
                have xo := fun o i => old_cellN (w := wr) (g := GX) B2.lt o i
                have nz1 : GA ≠ wr.heap.size := by have := B1.lt; omega
                have nz2 : wr.heap.size ≠ GA := by have := B1.lt; omega
                have nx1 : GX ≠ wr.heap.size := by have := B2.lt; omega
                have nx2 : wr.heap.size ≠ GX := by have := B2.lt; omega
                have HN4 : Hid (GA ≠ wr.heap.size) := Lib.hid nz1
                have HS4 : Hid (w.heap.size ≤ wr.heap.size) := Lib.hid bw.size
                clear B1 B2 bw hph HSS8 HB18 HBX8 HLT
                go_upto_region 16 with fail
                go_cut [16, 17] from 114 to 122 (fun x y wx => FedAt nA sz maps s w GX #[.int .u64 sz, .slice ad maps.length cp] GA nA x y wx)
                case first =>
                  go_wp2_with fail
                  refine (HF4.out _ _ HSW.out).mono ?_
                  rintro e w6 ⟨nE, oE, vmC, rfl, fC, mC, sC, hb6⟩; have HB8 := Lib.hid (below_next (show Below w.heap.size w _ by have h0 := HB6.out; have hs0 := h0.size; (repeat' (first | (with_reducible assumption) | (with_reducible exact Below.refl _ _) | (with_reducible refine below_drewN ?_ _) | (with_reducible refine Below.drew ?_) | (with_reducible refine Below.setCell ?_ ?_ _) | (with_reducible refine Below.alloc ?_ ?_ _) | (with_reducible refine below_putObj ?_ ?_ _) | (with_reducible exact Nat.le_refl _) | omega | (simp; done) | (simp; omega)))) hb6); have HBA6 := Lib.hid ((HBA.out.below (show Below wr.heap.size wr _ by (repeat' (first | (with_reducible assumption) | (with_reducible exact Below.refl _ _) | (with_reducible refine below_drewN ?_ _) | (with_reducible refine Below.drew ?_) | (with_reducible refine Below.setCell ?_ ?_ _) | (with_reducible refine Below.alloc ?_ ?_ _) | (with_reducible refine below_putObj ?_ ?_ _) | (with_reducible exact Nat.le_refl _) | omega | (simp; done) | (simp; omega))))).below hb6); have HBX6 := Lib.hid ((HBX.out.below (show Below wr.heap.size wr _ by (repeat' (first | (with_reducible assumption) | (with_reducible exact Below.refl _ _) | (with_reducible refine below_drewN ?_ _) | (with_reducible refine Below.drew ?_) | (with_reducible refine Below.setCell ?_ ?_ _) | (with_reducible refine Below.alloc ?_ ?_ _) | (with_reducible refine below_putObj ?_ ?_ _) | (with_reducible exact Nat.le_refl _) | omega | (simp; done) | (simp; omega)))) HBX.out.lt).below hb6 (Blk.lt (HBX.out.below (show Below wr.heap.size wr _ by (repeat' (first | (with_reducible assumption) | (with_reducible exact Below.refl _ _) | (with_reducible refine below_drewN ?_ _) | (with_reducible refine Below.drew ?_) | (with_reducible refine Below.setCell ?_ ?_ _) | (with_reducible refine Below.alloc ?_ ?_ _) | (with_reducible refine below_putObj ?_ ?_ _) | (with_reducible exact Nat.le_refl _) | omega | (simp; done) | (simp; omega)))) HBX.out.lt))); (try (have hZ6 := (show Blk _ wr.heap.size 31 #[.int .i64 0, .string ⟨#[]⟩, .bool false, .bool false, .slice none 0 0] from Blk.new wr.drew _ _).below hb6 (show Blk _ wr.heap.size 31 #[.int .i64 0, .string ⟨#[]⟩, .bool false, .bool false, .slice none 0 0] from Blk.new wr.drew _ _).lt; have u0 := hZ6.cell 0; have u1 := hZ6.cell 1; have u2 := hZ6.cell 2; have u3 := hZ6.cell 3; have u4 := hZ6.cell 4; simp only [List.getElem?_toArray, List.getElem?_cons_zero, List.getElem?_cons_succ] at u0 u1 u2 u3 u4; have y0 := hZ6.frozen 0; have y1 := hZ6.frozen 1; have y2 := hZ6.frozen 2; have y3 := hZ6.frozen 3; have y4 := hZ6.frozen 4; have HZ6 := Lib.hid hZ6; clear hZ6)); clear hb6; obtain ⟨pC, qC, rfl⟩ := (SlAt.of_row sC).form; have HfC : Hid (FedIn nA sz maps (s) nE oE (.slice pC nE.metas.length qC) w6) := Lib.hid ⟨fC, mC, sC⟩; clear fC mC sC; simp only [ngC]
                  go_wp2_with fail
                  all_goals go_meet
                  all_goals first | with_reducible exact fed_new HfC.out HBX6.out HBA6.out HB8.out | with_reducible exact fed_set HfC.out HBX6.out HBA6.out HB8.out HZ6.out HN4.out HS4.out
                case rest =>
                  clear zo xo nz1 nz2 nx1 nx2 HSW z1 z2 xc0 HBA HBX HB6 HN4 HS4 HF4
                  obtain ⟨GE, nE, oE, rfl, rfl, fE, mE, AE, AA, AX, hbE⟩ := hcut
                  cases fE with
                  | live hp4 _ => exact absurd HPH.out hp4
                  | dead hp5 =>
                    clear hp5
                    obtain ⟨pA, qA, s1, B1⟩ := AA.open_
                    obtain ⟨pE, qE, s2, B2⟩ := AE.open_
                    have HSS := Lib.hid (And.intro s1 s2)
                    have HBE := Lib.hid hbE
                    have z0 := B1.cell 0
                    have z1 := B1.cell 1
                    have z2 := B1.cell 2
                    have z3 := B1.cell 3
                    have z4 := B1.cell 4
                    have y0 := B2.cell 0
                    have y1 := B2.cell 1
                    have y2 := B2.cell 2
                    have y3 := B2.cell 3
                    have y4 := B2.cell 4
                    unfold ngC at z0 z1 z2 z3 z4 y0 y1 y2 y3 y4
                    simp only [List.getElem?_toArray, List.getElem?_cons_zero, List.getElem?_cons_succ] at z0 z1 z2 z3 z4 y0 y1 y2 y3 y4
                    clear B1 B2 s1 s2 AX AE AA hbE mE
                    go_wp2_with fail
                    refine (HSM.out _ _ _ (SlAt.of_row HSS.out.1) (SlAt.of_row HSS.out.2)).mono ?_
                    rintro e w9 ⟨rfl, hb9⟩
                    have b9 := below_next HBE.out hb9
                    clear hb9 z0 z1 z2 z3 z4 y0 y1 y2 y3 y4
                    go_wp2_with fail
                    refine (HA.out _).mono ?_
                    rintro e wa ⟨rfl, hba⟩
                    have ba := below_next b9 hba
                    clear b8 b9 hba
                    go_wp2
                    all_goals go_ret
                    all_goals exact ⟨by simp, ba⟩
              · have hph2 : ((nA.phase : Int) == 3) = false := by rw [beq_eq_false_iff_ne]; omega
                go_wp2_with fail
                refine (HA.out _).mono ?_
                rintro e w9 ⟨rfl, hb9⟩
                have b9 := below_next bw hb9
                clear b8 hb9
                go_wp2
                all_goals go_ret
                all_goals exact ⟨by simp, b9⟩
end Go.Proofs.Yteljplpiojdikaa
