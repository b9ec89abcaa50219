/- The worker of a client's beginning: one block of thirteen cells, its builder's row, its contexts' row. die, ask, export. -/
import Derived.Test.YtcmgecojhjdjkaaHelSub
namespace Go.Proofs.Ytcmgecojhjdjkaa
open Go.RowKit

abbrev Held := List (Nat × TypeId × Array Value)

/-- The contexts' slice, in a block of contexts, not b. -/
def MetaIn (w : World) (b : Nat) (v : Value) (l : List (Nat × List UInt8)) : Prop :=
  SlAt w v l.length (cellsM l) ∧ ∀ g, v.ownBlock = some g → g ≠ b ∧ ∃ cs, Blk w g 48 cs

/-- What stands beside a worker's own block b. -/
structure Rest (W0 : World) (b : Nat) (K : Held) (w : World) (want : List (List UInt8)) (metas : List (Nat × List UInt8)) (out : List UInt8) (vw vm p v : Value) : Prop where
  bld : Bld w W0.heap.size b 8 p v out
  metas : MetaIn w b vm metas
  want : SlAt W0 vw want.length (cellsS want)
  grown : Below W0.heap.size W0 w
  kept : ∀ x ∈ K, Blk w x.1 x.2.1 x.2.2 ∧ x.1 ≠ b ∧ x.2.1 ≠ 5
  hb : W0.heap.size ≤ b
  wt : ∀ g, vw.ownBlock = some g → ∃ cs, Blk W0 g 9 cs

section
variable {W0 : World} {b : Nat} {K : Held} {w w' : World} {want : List (List UInt8)} {metas : List (Nat × List UInt8)} {out : List UInt8} {vw vm p v : Value}

theorem SlAt.moved {v : Value} {n : Nat} {cs : List Value} (h : SlAt w v n cs) (hk : ∀ g, v.ownBlock = some g → w'.heap[g]? = w.heap[g]?) : SlAt w' v n cs := by
  rcases h with h | ⟨a, cap, rfl, hs, hc⟩
  · exact .inl h
  · refine .inr ⟨a, cap, rfl, hs, fun j u hu => ?_⟩
    rw [World.cell?_of_block (w := w) (w' := w')]
    · exact hc j u hu
    · have e : (a.add j).block = a.block := by unfold Addr.add; split <;> rfl
      rw [e]; exact hk a.block rfl
theorem MetaIn.below (h : MetaIn w b v metas) (hb : Below w.heap.size w w') : MetaIn w' b v metas :=
  ⟨h.1.below hb, fun g hg => by
    obtain ⟨h1, cs, h2⟩ := h.2 g hg
    exact ⟨h1, cs, h2.below hb h2.lt⟩⟩
theorem Rest.wantAt (h : Rest W0 b K w want metas out vw vm p v) : SlAt w vw want.length (cellsS want) := h.want.below h.grown
theorem Rest.below (h : Rest W0 b K w want metas out vw vm p v) (hb : Below w.heap.size w w') : Rest W0 b K w' want metas out vw vm p v :=
  ⟨h.bld.below hb, h.metas.below hb, h.want, h.grown.trans (hb.mono h.grown.size), fun x hx => ⟨(h.kept x hx).1.below hb (h.kept x hx).1.lt, (h.kept x hx).2⟩, h.hb, h.wt⟩
theorem Rest.alloc (h : Rest W0 b K w want metas out vw vm p v) (o : Obj) : Rest W0 b K (w.alloc o) want metas out vw vm p v := h.below ((Below.refl _ _).alloc (Nat.le_refl _) o)
theorem Rest.drew (h : Rest W0 b K w want metas out vw vm p v) : Rest W0 b K w.drew want metas out vw vm p v := h.below (Below.refl _ _).drew
theorem Rest.set_ (h : Rest W0 b K w want metas out vw vm p v) (i : Nat) (u : Value) : Rest W0 b K (w.setCell ⟨b, i, none⟩ u) want metas out vw vm p v := by
  have hs : ∀ g, g ≠ b → (w.setCell ⟨b, i, none⟩ u).heap[g]? = w.heap[g]? := fun g hg => Below.heap_setCell _ _ _ g hg
  refine ⟨⟨h.bld.self, h.bld.own.kept (grownBy_setCell _ _ _ _) (.inr h.bld.ne), h.bld.ne, h.bld.nil⟩, ⟨h.metas.1.moved fun g hg => hs g (h.metas.2 g hg).1, fun g hg => ?_⟩, h.want, h.grown.setCell h.hb _, fun x hx => ⟨?_, (h.kept x hx).2⟩, h.hb, h.wt⟩
  · obtain ⟨h1, cs, h2⟩ := h.metas.2 g hg
    exact ⟨h1, cs, h2.far h1 _⟩
  · exact (h.kept x hx).1.far (h.kept x hx).2.1 _
theorem Rest.turn {p' v' : Value} {out' : List UInt8} (h : Rest W0 b K w want metas out vw vm p v) (hT : Turns w w' b v.ownBlock) (hB : Bld w' W0.heap.size b 8 p' v' out') : Rest W0 b K w' want metas out' vw vm p' v' := by
  refine ⟨hB, ⟨h.metas.1.moved fun g hg => ?_, fun g hg => ?_⟩, h.want, hT.below h.grown h.grown.size h.hb h.bld.row, fun x hx => ⟨h.bld.keeps (h.kept x hx).1 hT (h.kept x hx).2.1 (h.kept x hx).2.2, (h.kept x hx).2⟩, h.hb, h.wt⟩
  · obtain ⟨h1, cs, h2⟩ := h.metas.2 g hg
    exact (h.bld.keeps h2 hT h1 (by decide)).trans h2.symm
  · obtain ⟨h1, cs, h2⟩ := h.metas.2 g hg
    exact ⟨h1, cs, h.bld.keeps h2 hT h1 (by decide)⟩
end

/-- A worker's cells. -/
def wrkC (h : Hel) (vw vm p v : Value) (ao ak : Nat) (ad : List UInt8) : Array Value :=
  #[.int .i64 h.phase, .string ⟨h.buf.toArray⟩, vw, .bool h.told, .int .u64 h.size, .int .i64 h.flags, .bool h.chunks, vm, p, v, .int .u32 ao, .int .u32 ak, .string ⟨ad.toArray⟩]
/-- Block b is a worker at h, that has said out, with an answer at hand. -/
def Wrk (W0 : World) (b : Nat) (K : Held) (w : World) (h : Hel) (out : List UInt8) (ao ak : Nat) (ad : List UInt8) : Prop :=
  ∃ vw vm p v, Blk w b 43 (wrkC h vw vm p v ao ak ad) ∧ Rest W0 b K w h.want h.metas out vw vm p v
def MEnds (W0 : World) (b : Nat) (K : Held) (h : Hel) (out : List UInt8) (ao ak : Nat) (ad : List UInt8) (e : Ending) (w' : World) : Prop := e = .returned (.tuple #[]) ∧ Wrk W0 b K w' h out ao ak ad

section
variable {W0 : World} {b : Nat} {K : Held} {w w' : World} {h : Hel} {out : List UInt8} {ao ak : Nat} {ad : List UInt8}
theorem Wrk.below (hw : Wrk W0 b K w h out ao ak ad) (hb : Below w.heap.size w w') : Wrk W0 b K w' h out ao ak ad := by
  obtain ⟨vw, vm, p, v, h1, h2⟩ := hw
  exact ⟨vw, vm, p, v, h1.below hb h1.lt, h2.below hb⟩
theorem Wrk.alloc (hw : Wrk W0 b K w h out ao ak ad) (o : Obj) : Wrk W0 b K (w.alloc o) h out ao ak ad := hw.below ((Below.refl _ _).alloc (Nat.le_refl _) o)
theorem Wrk.drew (hw : Wrk W0 b K w h out ao ak ad) : Wrk W0 b K w.drew h out ao ak ad := hw.below (Below.refl _ _).drew
/-- Opened: the slices in their own form. -/
theorem Wrk.open_ (hw : Wrk W0 b K w h out ao ak ad) : ∃ a1 c1 a2 c2 p a3 c3, Blk w b 43 (wrkC h (.slice a1 h.want.length c1) (.slice a2 h.metas.length c2) p (.slice a3 out.length c3) ao ak ad) ∧
    Rest W0 b K w h.want h.metas out (.slice a1 h.want.length c1) (.slice a2 h.metas.length c2) p (.slice a3 out.length c3) := by
  obtain ⟨vw, vm, p, v, h1, h2⟩ := hw
  obtain ⟨a1, c1, rfl⟩ := h2.want.form
  obtain ⟨a2, c2, rfl⟩ := h2.metas.1.form
  obtain ⟨a3, c3, rfl⟩ := h2.bld.form
  exact ⟨_, _, _, _, _, _, _, h1, h2⟩
end

theorem askB_length (k : Nat) (d : List UInt8) : (askB k d).length ≤ 4112 := by
  unfold askB framed
  split
  · simp
  · simp [framedB, optHead, beginB, be_length]; omega

section
variable (W0 : World) (b : Nat) (K : Held) (w : World) (h : Hel) (out : List UInt8) (ao ak : Nat) (ad : List UInt8)

set_option maxRecDepth 100000 in
set_option maxHeartbeats 1000000 in
theorem die_any (hw : Wrk W0 b K w h out ao ak ad) : Calls Try.prog 16 #[.pointer (some ⟨b, 0, none⟩)] w (MEnds W0 b K h.die out ao ak ad) := by
  obtain ⟨vw, vm, p, v, h1, h2⟩ := hw
  have c0 := h1.cell 0
  have c1 := h1.cell 1
  have f0 := h1.frozen 0
  have f1 := h1.frozen 1
  have H1 := Lib.hid h1
  have H2 := Lib.hid h2
  clear h1 h2
  unfold wrkC at c0 c1
  simp only [List.getElem?_toArray, List.getElem?_cons_zero, List.getElem?_cons_succ] at c0 c1
  go_enter Try.func16, Try.ntmps16
  go_wp2
  go_end0
  exact ⟨rfl, vw, vm, p, v, ((H1.out.set_ 0 _).set_ 1 _).as_ (by simp [wrkC, Hel.die]), (H2.out.set_ 0 _).set_ 1 _⟩

set_option maxRecDepth 100000 in
set_option maxHeartbeats 1000000 in
theorem ask_any (k : Nat) (ki : Int) (hki : ki = k) (d : List UInt8) (ph : Nat) (phi : Int) (hph : phi = ph) (hk : k < 4294967296) (ho : out.length ≤ 100000000000) (hw : Wrk W0 b K w h out ao ak ad) :
    Calls Try.prog 19 #[.pointer (some ⟨b, 0, none⟩), .int .u32 ki, .string ⟨d.toArray⟩, .int .i64 phi] w (MEnds W0 b K (h.ask k d ph).1 (out ++ askB k d) ao ak ad) := by
  subst hki hph
  obtain ⟨vw, vm, p, v, h1, h2⟩ := hw
  have hal := askB_length k d
  have H := Lib.hid (fun W => opt_write_any k d hk W)
  have e1 : (framed optHead [k] d).1 = askB k d := rfl
  rw [e1] at H
  generalize askB k d = aB at H hal ⊢
  generalize (framed optHead [k] d).2 = aE at H
  clear e1
  have H1 := Lib.hid h1
  have H2 := Lib.hid h2
  clear h1 h2
  go_enter Try.func19, Try.ntmps19
  go_wp2_with fail
  refine (H.out _).mono ?_
  rintro e w1 ⟨rfl, hb1⟩
  have h1 := H1.out.below hb1 H1.out.lt
  have h2 := H2.out.below hb1
  clear H1 H2 hb1
  go_wp2_with fail
  refine (writeString_any w1 W0.heap.size b 8 43 _ p v out aB h1 (by simp [wrkC]) rfl rfl h2.bld (by kernel_rfl) (by decide) (by omega) h2.grown.size).mono ?_
  rintro e w2 ⟨rfl, v2, g1, g2, g3⟩
  have h3 := h2.turn g3 g2
  clear h1 h2 g2 g3
  have c0 := g1.cell 0
  have f0 := g1.frozen 0
  have H1 := Lib.hid g1
  have H2 := Lib.hid h3
  clear g1 h3
  have c0' : w2.cell? ⟨b, 0, none⟩ = some (.int .i64 h.phase) := c0.trans (by simp [wrkC])
  clear c0
  go_wp2
  go_end0
  exact ⟨rfl, vw, vm, _, v2, (H1.out.set_ 0 _).as_ (by simp [wrkC, Hel.ask]), H2.out.set_ 0 _⟩

set_option maxRecDepth 100000 in
set_option maxHeartbeats 1000000 in
theorem askGo_any (ho : out.length ≤ 100000000000) (hw : Wrk W0 b K w h out ao ak ad) :
    Calls Try.prog 29 #[.pointer (some ⟨b, 0, none⟩)] w (MEnds W0 b K h.askGo.1 (out ++ h.askGo.2) ao ak ad) := by
  have HA := Lib.hid (fun W => asks_nil W)
  have HK : Hid (∀ W, Wrk W0 b K W h out ao ak ad → Calls Try.prog 19 #[.pointer (some ⟨b, 0, none⟩), .int .u32 7, .string ⟨asksB.toArray⟩, .int .i64 3] W (MEnds W0 b K h.askGo.1 (out ++ h.askGo.2) ao ak ad)) :=
    Lib.hid (fun W hW => ask_any W0 b K W h out ao ak ad 7 7 rfl asksB 3 3 rfl (by decide) ho hW)
  have HW := Lib.hid hw
  clear hw
  generalize asksB = aB at HA HK
  go_enter Try.func29, Try.ntmps29
  go_wp2_with fail
  refine (HA.out _).mono ?_
  rintro e w1 ⟨rfl, hb1⟩
  go_wp2_with fail
  refine (HK.out _ (HW.out.below hb1)).mono ?_
  rintro e w2 ⟨rfl, hw2⟩
  go_wp2
  go_end0
  exact ⟨rfl, hw2⟩
end

end Go.Proofs.Ytcmgecojhjdjkaa
