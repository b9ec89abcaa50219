/- The worker of a connection's beginning: one block of eleven cells, its builder's row, its contexts' row. die, say, ours, size, empty. -/
import Derived.Test.YteljplpiojdikaaNStrs
import Derived.Test.YteljplpiojdikaaNOptWrite
import Derived.Test.YteljplpiojdikaaNegSpec
namespace Go.Proofs.Yteljplpiojdikaa
open Go.RowKit

/-- What else is held: the contexts' base, blocks. -/
structure Held where
  base : Nat
  blocks : List (Nat × TypeId × Array Value)
def cellsU (l : List Nat) : List Value := l.map fun x => .int .u32 (x : Nat)
theorem cellsU_length (l : List Nat) : (cellsU l).length = l.length * 1 := by simp [cellsU]
theorem cellsU_one (l : List Nat) : ∀ u ∈ cellsU l, u.oneCell' = true := by
  intro u hu
  obtain ⟨x, _, rfl⟩ := List.mem_map.1 hu
  rfl
theorem cellsU_at (l : List Nat) (k x : Nat) (h : l[k]? = some x) : (cellsU l)[k]? = some (.int .u32 (x : Nat)) := by simp [cellsU, h]
theorem cellsU_snoc (l : List Nat) (x : Nat) : cellsU (l ++ [x]) = cellsU l ++ [.int .u32 (x : Nat)] := by simp [cellsU]

/-- The contexts' numbers: a row of their own, at or beyond B, not b. -/
def MetaU (B : Nat) (w : World) (b : Nat) (v : Value) (l : List Nat) : Prop :=
  w.ownsRow B 35 1 v l.length (cellsU l) ∧ ∀ g, v.ownBlock = some g → g ≠ b

/-- What stands beside a worker's own block b. -/
structure Rest (W0 : World) (b : Nat) (K : Held) (w : World) (maps : List (List UInt8)) (metas : List Nat) (out : List UInt8) (vm vx p v : Value) : Prop where
  bld : Bld w W0.heap.size b 9 p v out
  metas : MetaU K.base w b vm metas
  maps : SlAt W0 vx maps.length (cellsS maps)
  grown : Below W0.heap.size W0 w
  kept : ∀ x ∈ K.blocks, Blk w x.1 x.2.1 x.2.2 ∧ x.1 ≠ b ∧ x.2.1 ≠ 5 ∧ x.2.1 ≠ 35
  hb : W0.heap.size ≤ b

section
variable {W0 : World} {b : Nat} {K : Held} {w w' : World} {maps : List (List UInt8)} {metas : List Nat} {out : List UInt8} {vm vx p v : Value}

theorem SlAt.moved {v : Value} {n : Nat} {cs : List Value} (h : SlAt w v n cs) (hk : ∀ g, v.ownBlock = some g → w'.heap[g]? = w.heap[g]?) : SlAt w' v n cs := by
  rcases h with h | ⟨a, cap, rfl, hs, hc⟩
  · exact .inl h
  · refine .inr ⟨a, cap, rfl, hs, fun j u hu => ?_⟩
    rw [World.cell?_of_block (w := w) (w' := w')]
    · exact hc j u hu
    · have e : (a.add j).block = a.block := by unfold Addr.add; split <;> rfl
      rw [e]; exact hk a.block rfl
theorem own_moved {B : Nat} {e : TypeId} {k : Nat} {v : Value} {n : Nat} {xs : List Value} (h : w.ownsRow B e k v n xs) (hk : ∀ g, v.ownBlock = some g → w'.heap[g]? = w.heap[g]?) : w'.ownsRow B e k v n xs :=
  ⟨h.1, h.2.imp id fun ⟨g, cap, cur, hv, hB, hg, r⟩ => ⟨g, cap, cur, hv, hB, (hk g (by rw [hv]; rfl)).trans hg, r⟩⟩
theorem own_typed {B : Nat} {e : TypeId} {k : Nat} {v : Value} {n : Nat} {xs : List Value} (h : w.ownsRow B e k v n xs) : ∀ g, v.ownBlock = some g → B ≤ g ∧ ∃ cs, Blk w g e cs := by
  intro g hg
  rcases h.2 with ⟨hv, _⟩ | ⟨g', cap, cur, hv, hB, hgb, _⟩
  · rw [hv] at hg; simp [Value.ownBlock] at hg
  · rw [hv] at hg
    obtain rfl : g' = g := by simpa [Value.ownBlock] using hg
    exact ⟨hB, cur, hgb⟩
theorem own_base {B B' : Nat} {e : TypeId} {k : Nat} {v : Value} {n : Nat} {xs : List Value} (h : w.ownsRow B e k v n xs) (hB : B' ≤ B) : w.ownsRow B' e k v n xs :=
  ⟨h.1, h.2.imp id fun ⟨g, cap, cur, hv, hg, r⟩ => ⟨g, cap, cur, hv, Nat.le_trans hB hg, r⟩⟩
theorem MetaU.below {B : Nat} (h : MetaU B w b v metas) (hb : Below w.heap.size w w') : MetaU B w' b v metas :=
  ⟨own_moved h.1 fun g hg => hb.block g (by obtain ⟨_, cs, h2⟩ := own_typed h.1 g hg; exact h2.lt), h.2⟩
theorem metaU_nil (B : Nat) (w : World) (b : Nat) : MetaU B w b (.slice none 0 0) [] := ⟨World.ownsRow_nil _ _ _ _, fun g hg => by simp [Value.ownBlock] at hg⟩
theorem MetaU.form {B : Nat} (h : MetaU B w b v metas) : ∃ a c, v = .slice a metas.length c := (SlAt.of_row h.1).form
theorem Rest.mapsAt (h : Rest W0 b K w maps metas out vm vx p v) : SlAt w vx maps.length (cellsS maps) := h.maps.below h.grown
theorem Rest.below (h : Rest W0 b K w maps metas out vm vx p v) (hb : Below w.heap.size w w') : Rest W0 b K w' maps metas out vm vx p v :=
  ⟨h.bld.below hb, h.metas.below hb, h.maps, h.grown.trans (hb.mono h.grown.size), fun x hx => ⟨(h.kept x hx).1.below hb (h.kept x hx).1.lt, (h.kept x hx).2⟩, h.hb⟩
theorem Rest.alloc (h : Rest W0 b K w maps metas out vm vx p v) (o : Obj) : Rest W0 b K (w.alloc o) maps metas out vm vx p v := h.below ((Below.refl _ _).alloc (Nat.le_refl _) o)
theorem Rest.drew (h : Rest W0 b K w maps metas out vm vx p v) : Rest W0 b K w.drew maps metas out vm vx p v := h.below (Below.refl _ _).drew
theorem Rest.set_ (h : Rest W0 b K w maps metas out vm vx p v) (i : Nat) (u : Value) : Rest W0 b K (w.setCell ⟨b, i, none⟩ u) maps metas out vm vx p v := by
  have hs : ∀ g, g ≠ b → (w.setCell ⟨b, i, none⟩ u).heap[g]? = w.heap[g]? := fun g hg => Below.heap_setCell _ _ _ g hg
  refine ⟨⟨h.bld.self, h.bld.own.kept (grownBy_setCell _ _ _ _) (.inr h.bld.ne), h.bld.ne, h.bld.nil⟩, ⟨own_moved h.metas.1 fun g hg => hs g (h.metas.2 g hg), h.metas.2⟩, h.maps, h.grown.setCell h.hb _, fun x hx => ⟨?_, (h.kept x hx).2⟩, h.hb⟩
  · exact (h.kept x hx).1.far (h.kept x hx).2.1 _
theorem Rest.turn {p' v' : Value} {out' : List UInt8} (h : Rest W0 b K w maps metas out vm vx p v) (hT : Turns w w' b v.ownBlock) (hB : Bld w' W0.heap.size b 9 p' v' out') : Rest W0 b K w' maps metas out' vm vx p' v' := by
  refine ⟨hB, ⟨own_moved h.metas.1 fun g hg => ?_, h.metas.2⟩, h.maps, hT.below h.grown h.grown.size h.hb h.bld.row, fun x hx => ⟨h.bld.keeps (h.kept x hx).1 hT (h.kept x hx).2.1 (h.kept x hx).2.2.1, (h.kept x hx).2⟩, h.hb⟩
  · obtain ⟨_, cs, h2⟩ := own_typed h.metas.1 g hg
    exact (h.bld.keeps h2 hT (h.metas.2 g hg) (by decide)).trans h2.symm
end

/-- A worker's cells. -/
def nwC (n : Neg) (sz : Nat) (vm vx p v : Value) (ok : Nat) (od : List UInt8) : Array Value :=
  #[.int .i64 n.phase, .string ⟨n.buf.toArray⟩, .bool n.brief, .bool n.chunks, vm, .int .u64 sz, vx, .int .u32 ok, .string ⟨od.toArray⟩, p, v]
/-- Block b is a worker at n, for an export, that has said out, with an option at hand. -/
def NWrk (W0 : World) (b : Nat) (K : Held) (sz : Nat) (maps : List (List UInt8)) (w : World) (n : Neg) (out : List UInt8) (ok : Nat) (od : List UInt8) : Prop :=
  ∃ vm vx p v, Blk w b 64 (nwC n sz vm vx p v ok od) ∧ Rest W0 b K w maps n.metas out vm vx p v
def MEnds (W0 : World) (b : Nat) (K : Held) (sz : Nat) (maps : List (List UInt8)) (n : Neg) (out : List UInt8) (ok : Nat) (od : List UInt8) (e : Ending) (w' : World) : Prop := e = .returned (.tuple #[]) ∧ NWrk W0 b K sz maps w' n out ok od

section
variable {W0 : World} {b : Nat} {K : Held} {sz : Nat} {maps : List (List UInt8)} {w w' : World} {n : Neg} {out : List UInt8} {ok : Nat} {od : List UInt8}
theorem NWrk.below (hw : NWrk W0 b K sz maps w n out ok od) (hb : Below w.heap.size w w') : NWrk W0 b K sz maps w' n out ok od := by
  obtain ⟨vm, vx, p, v, h1, h2⟩ := hw
  exact ⟨vm, vx, p, v, h1.below hb h1.lt, h2.below hb⟩
theorem NWrk.alloc (hw : NWrk W0 b K sz maps w n out ok od) (o : Obj) : NWrk W0 b K sz maps (w.alloc o) n out ok od := hw.below ((Below.refl _ _).alloc (Nat.le_refl _) o)
theorem NWrk.drew (hw : NWrk W0 b K sz maps w n out ok od) : NWrk W0 b K sz maps w.drew n out ok od := hw.below (Below.refl _ _).drew
/-- Opened: the slices in their own form. -/
theorem NWrk.open_ (hw : NWrk W0 b K sz maps w n out ok od) : ∃ a1 c1 a2 c2 p a3 c3, Blk w b 64 (nwC n sz (.slice a1 n.metas.length c1) (.slice a2 maps.length c2) p (.slice a3 out.length c3) ok od) ∧
    Rest W0 b K w maps n.metas out (.slice a1 n.metas.length c1) (.slice a2 maps.length c2) p (.slice a3 out.length c3) := by
  obtain ⟨vm, vx, p, v, h1, h2⟩ := hw
  obtain ⟨a1, c1, rfl⟩ := h2.metas.form
  obtain ⟨a2, c2, rfl⟩ := h2.maps.form
  obtain ⟨a3, c3, rfl⟩ := h2.bld.form
  exact ⟨_, _, _, _, _, _, _, h1, h2⟩
theorem NWrk.stored {n' : Neg} {vm vx p v : Value} (h1 : Blk w b 64 (nwC n sz vm vx p v ok od)) (h2 : Rest W0 b K w maps n.metas out vm vx p v) (i : Nat) (u : Value)
    (e : (nwC n sz vm vx p v ok od).setIfInBounds i u = nwC n' sz vm vx p v ok od) (em : n'.metas = n.metas) : NWrk W0 b K sz maps (w.setCell ⟨b, i, none⟩ u) n' out ok od :=
  ⟨vm, vx, p, v, (h1.set_ i u).as_ e, by rw [em]; exact h2.set_ i u⟩
/-- Another base, where the contexts are no more. -/
theorem NWrk.noMetas {vm vx p v : Value} (B : Nat) (h1 : Blk w b 64 (nwC n sz vm vx p v ok od)) (h2 : Rest W0 b K w maps n.metas out vm vx p v) :
    NWrk W0 b ⟨B, K.blocks⟩ sz maps (w.setCell ⟨b, 4, none⟩ (.slice none 0 0)) { n with metas := [] } out ok od := by
  refine ⟨.slice none 0 0, vx, p, v, (h1.set_ 4 _).as_ (by simp [nwC]), ?_⟩
  have h3 : Rest W0 b ⟨B, K.blocks⟩ w maps [] out (.slice none 0 0) vx p v := ⟨h2.bld, metaU_nil _ _ _, h2.maps, h2.grown, h2.kept, h2.hb⟩
  exact h3.set_ 4 _
theorem NWrk.rebase {B : Nat} (h : NWrk W0 b K sz maps w n out ok od) (hB : B ≤ K.base) : NWrk W0 b ⟨B, K.blocks⟩ sz maps w n out ok od := by
  obtain ⟨vm, vx, p, v, h1, h2⟩ := h
  exact ⟨vm, vx, p, v, h1, ⟨h2.bld, ⟨own_base h2.metas.1 hB, h2.metas.2⟩, h2.maps, h2.grown, h2.kept, h2.hb⟩⟩
theorem nwrk_cell7 {vm vx p v : Value} (h1 : Blk w b 64 (nwC n sz vm vx p v ok od)) (ki : Int) (hki : (ok : Int) = ki) : w.cell? ⟨b, 7, none⟩ = some (.int .u32 ki) := by
  rw [h1.cell 7, ← hki]; rfl
end

theorem sayB_length (o k : Nat) (d : List UInt8) : (sayB o k d).length ≤ 4116 := by
  unfold sayB framed
  split
  · simp
  · simp [framedB, ansHead, beginB, be_length]; omega

section
variable (W0 : World) (b : Nat) (K : Held) (sz : Nat) (maps : List (List UInt8)) (w : World) (n : Neg) (out : List UInt8) (ok : Nat) (od : List UInt8)

set_option maxRecDepth 100000 in
set_option maxHeartbeats 1000000 in
theorem die_any (hw : NWrk W0 b K sz maps w n out ok od) : Calls Try.prog 34 #[.pointer (some ⟨b, 0, none⟩)] w (MEnds W0 b K sz maps n.die out ok od) := by
  obtain ⟨vm, vx, p, v, h1, h2⟩ := hw
  have c0 := h1.cell 0
  have c1 := h1.cell 1
  have f0 := h1.frozen 0
  have f1 := h1.frozen 1
  have H1 := Lib.hid h1
  have H2 := Lib.hid h2
  clear h1 h2
  unfold nwC at c0 c1
  simp only [List.getElem?_toArray, List.getElem?_cons_zero, List.getElem?_cons_succ] at c0 c1
  go_enter Try.func34, Try.ntmps34
  go_wp2
  go_end0
  exact ⟨rfl, vm, vx, p, v, ((H1.out.set_ 0 _).set_ 1 _).as_ (by simp [nwC, Neg.die]), (H2.out.set_ 0 _).set_ 1 _⟩

/-- The builder's WriteString. -/
theorem nwrk_write (m : List UInt8) (ho : out.length + m.length ≤ 140737488355328) (hw : NWrk W0 b K sz maps w n out ok od) :
    Calls Try.prog 57 #[.pointer (some ⟨b, 9, none⟩), .string ⟨m.toArray⟩] w fun e w' => (∃ n : Nat, e = .returned (.tuple #[.int .i64 n, .nilIface])) ∧ NWrk W0 b K sz maps w' n (out ++ m) ok od := by
  obtain ⟨vm, vx, p, v, h1, h2⟩ := hw
  refine (writeString_any w W0.heap.size b 9 64 _ p v out m h1 (by simp [nwC]) rfl rfl h2.bld (by kernel_rfl) (by decide) ho h2.grown.size).mono ?_
  rintro e w2 ⟨rfl, v2, g1, g2, g3⟩
  exact ⟨⟨_, rfl⟩, vm, vx, _, v2, g1.as_ (by simp [nwC]), h2.turn g3 g2⟩

set_option maxRecDepth 100000 in
set_option maxHeartbeats 1000000 in
theorem say_any (k : Nat) (ki : Int) (hki : ki = k) (d : List UInt8) (hk : k < 4294967296) (hok : ok < 4294967296) (ho : out.length ≤ 100000000000) (hw : NWrk W0 b K sz maps w n out ok od) :
    Calls Try.prog 38 #[.pointer (some ⟨b, 0, none⟩), .int .u32 ki, .string ⟨d.toArray⟩] w (MEnds W0 b K sz maps n (out ++ sayB ok k d) ok od) := by
  subst hki
  have hal := sayB_length ok k d
  have H := Lib.hid (fun W => answer_any ok k d hok hk W)
  have e1 : (framed ansHead [ok, k] d).1 = sayB ok k d := rfl
  rw [e1] at H
  have HWr : Hid (∀ W, NWrk W0 b K sz maps W n out ok od → Calls Try.prog 57 #[.pointer (some ⟨b, 9, none⟩), .string ⟨(sayB ok k d).toArray⟩] W fun e w' => (∃ n : Nat, e = .returned (.tuple #[.int .i64 n, .nilIface])) ∧ NWrk W0 b K sz maps w' n (out ++ sayB ok k d) ok od) :=
    Lib.hid (fun W hW => nwrk_write W0 b K sz maps W n out ok od _ (by omega) hW)
  generalize sayB ok k d = aB at H HWr ⊢
  generalize (framed ansHead [ok, k] d).2 = aE at H
  clear e1 hal
  have c7 : w.cell? ⟨b, 7, none⟩ = some (.int .u32 ok) := by obtain ⟨_, _, _, _, h1, _⟩ := hw; exact h1.cell 7
  have HW := Lib.hid hw
  clear hw
  go_enter Try.func38, Try.ntmps38
  go_wp2_with fail
  refine (H.out _).mono ?_
  rintro e w1 ⟨rfl, hb1⟩
  have hw1 := HW.out.below hb1
  clear c7 hb1
  go_wp2_with fail
  refine (HWr.out _ hw1).mono ?_
  rintro e w2 ⟨⟨m, rfl⟩, hw2⟩
  clear hw1
  go_wp2
  go_end0
  exact ⟨rfl, hw2⟩

set_option maxRecDepth 100000 in
set_option maxHeartbeats 400000 in
theorem ours_any (a : Addr) (s : List UInt8) : Calls Try.prog 62 #[.pointer (some a), .string ⟨s.toArray⟩] w fun e w' => e = .returned (.bool (ours s)) ∧ w' = w := by
  go_enter Try.func62, Try.ntmps62
  go_wp2
  all_goals go_ret
  · rename_i h0
    exact ⟨by simp [ours, h0], rfl⟩
  · exact ⟨congrArg (fun b => Ending.returned (.bool b)) (by unfold ours disk; rw [Bool.eq_iff_iff]; simp), rfl⟩

set_option maxRecDepth 100000 in
set_option maxHeartbeats 400000 in
theorem size_any (hw : NWrk W0 b K sz maps w n out ok od) : Calls Try.prog 63 #[.pointer (some ⟨b, 0, none⟩)] w (Gives (.string ⟨(sizeB sz).toArray⟩) w) := by
  have HP := Lib.hid (fun W => put_int (sz : Int) 8 (by omega) (by decide) (by decide) W)
  simp only [show (8 : Int).toNat = 8 from rfl, Int.toNat_natCast] at HP
  have hbe : (be 8 sz).length = 8 := be_length _ _
  unfold sizeB
  have c5 : w.cell? ⟨b, 5, none⟩ = some (.int .u64 sz) := by obtain ⟨_, _, _, _, h1, _⟩ := hw; exact h1.cell 5
  clear hw
  go_enter Try.func63, Try.ntmps63
  go_wp2_with fail
  refine (HP.out _).mono ?_
  rintro e w1 ⟨rfl, hb1⟩
  go_wp2
  go_ret
  exact ⟨rfl, hb1⟩

def EmptyEnds (W0 : World) (b : Nat) (K : Held) (sz : Nat) (maps : List (List UInt8)) (n : Neg) (out : List UInt8) (ok : Nat) (od : List UInt8) (e : Ending) (w' : World) : Prop :=
  e = .returned (.bool (decide (od = []))) ∧ NWrk W0 b K sz maps w' n (if od = [] then out else out ++ sayB ok 2147483651 []) ok od

set_option maxRecDepth 100000 in
set_option maxHeartbeats 400000 in
theorem empty_any (hok : ok < 4294967296) (ho : out.length ≤ 100000000000) (hw : NWrk W0 b K sz maps w n out ok od) :
    Calls Try.prog 65 #[.pointer (some ⟨b, 0, none⟩)] w (EmptyEnds W0 b K sz maps n out ok od) := by
  have HS := Lib.hid (say_any W0 b K sz maps w n out ok od 2147483651 2147483651 rfl [] (by decide) hok ho hw)
  have c8 : w.cell? ⟨b, 8, none⟩ = some (.string ⟨od.toArray⟩) := by obtain ⟨_, _, _, _, h1, _⟩ := hw; exact h1.cell 8
  have HW := Lib.hid hw
  unfold EmptyEnds
  by_cases hd : od = []
  · have HD := Lib.hid hd
    rw [if_pos hd]
    have e1 : decide (od = []) = true := by simp [hd]
    rw [e1]
    have e2 : od.isEmpty = true := by simp [hd]
    clear hd hw e1
    go_enter Try.func65, Try.ntmps65
    go_wp2_with fail
    go_ret
    exact ⟨by rw [HD.out]; rfl, HW.out⟩
  · rw [if_neg hd]
    have e1 : decide (od = []) = false := by simp [hd]
    rw [e1]
    have e2 : od.isEmpty = false := by simp [hd]
    clear hd hw e1 HW
    go_enter Try.func65, Try.ntmps65
    go_wp2_with fail
    refine HS.out.mono ?_
    rintro e w1 ⟨rfl, hw1⟩
    have c8 : w1.cell? ⟨b, 8, none⟩ = some (.string ⟨od.toArray⟩) := by obtain ⟨_, _, _, _, h1, _⟩ := hw1; exact h1.cell 8
    go_wp2
    go_ret
    exact ⟨by simp, hw1⟩

set_option maxRecDepth 100000 in
set_option maxHeartbeats 400000 in
theorem abort_any (hok : ok < 4294967296) (ho : out.length ≤ 100000000000) (hw : NWrk W0 b K sz maps w n out ok od) :
    Calls Try.prog 51 #[.pointer (some ⟨b, 0, none⟩)] w (MEnds W0 b K sz maps n.die (out ++ sayB ok 1 []) ok od) := by
  have HS := Lib.hid (say_any W0 b K sz maps w n out ok od 1 1 rfl [] (by decide) hok ho hw)
  clear hw
  go_enter Try.func51, Try.ntmps51
  go_wp2_with fail
  refine HS.out.mono ?_
  rintro e w1 ⟨rfl, hw1⟩
  have HD := Lib.hid (die_any W0 b K sz maps w1 n _ ok od hw1)
  clear hw1
  go_wp2_with fail
  refine HD.out.mono ?_
  rintro e w2 ⟨rfl, hw2⟩
  go_wp2
  go_end0
  exact ⟨rfl, hw2⟩

set_option maxRecDepth 100000 in
set_option maxHeartbeats 400000 in
theorem list_any (hok : ok < 4294967296) (ho : out.length ≤ 10000000000) (hw : NWrk W0 b K sz maps w n out ok od) :
    Calls Try.prog 52 #[.pointer (some ⟨b, 0, none⟩)] w (MEnds W0 b K sz maps n (out ++ if od = [] then sayB ok 2 (beginB disk) ++ sayB ok 1 [] else sayB ok 2147483651 []) ok od) := by
  have HE := Lib.hid (empty_any W0 b K sz maps w n out ok od hok (by omega) hw)
  have HB := Lib.hid (fun W => begin_any disk (by decide) W)
  unfold disk at HB
  clear hw
  by_cases hd : od = []
  · have e1 : decide (od = []) = true := by simp [hd]
    unfold EmptyEnds at HE
    rw [e1, if_pos hd] at HE
    rw [if_pos hd]
    clear hd e1
    go_enter Try.func52, Try.ntmps52
    go_wp2_with fail
    refine HE.out.mono ?_
    rintro e w1 ⟨rfl, hw1⟩
    go_wp2_with fail
    refine (HB.out _).mono ?_
    rintro e w2 ⟨rfl, hb2⟩
    have hal := sayB_length ok 2 (beginB disk)
    have HS := Lib.hid (say_any W0 b K sz maps w2 n out ok od 2 2 rfl (beginB disk) (by decide) hok (by omega) (hw1.below hb2))
    clear hw1 hb2
    go_wp2_with fail
    refine HS.out.mono ?_
    rintro e w3 ⟨rfl, hw3⟩
    have HS2 := Lib.hid (say_any W0 b K sz maps w3 n _ ok od 1 1 rfl [] (by decide) hok (by rw [List.length_append]; omega) hw3)
    clear hw3
    go_wp2_with fail
    refine HS2.out.mono ?_
    rintro e w4 ⟨rfl, hw4⟩
    go_wp2
    go_end0
    exact ⟨rfl, by rw [← List.append_assoc]; exact hw4⟩
  · have e1 : decide (od = []) = false := by simp [hd]
    unfold EmptyEnds at HE
    rw [e1, if_neg hd] at HE
    rw [if_neg hd]
    clear hd e1
    go_enter Try.func52, Try.ntmps52
    go_wp2_with fail
    refine HE.out.mono ?_
    rintro e w1 ⟨rfl, hw1⟩
    go_wp2
    go_end0
    exact ⟨rfl, hw1⟩

set_option maxRecDepth 100000 in
set_option maxHeartbeats 400000 in
theorem chunks_any (hok : ok < 4294967296) (ho : out.length ≤ 10000000000) (hw : NWrk W0 b K sz maps w n out ok od) :
    Calls Try.prog 54 #[.pointer (some ⟨b, 0, none⟩)] w (MEnds W0 b K sz maps (if od = [] then { n with chunks := true } else n) (out ++ if od = [] then sayB ok 1 [] else sayB ok 2147483651 []) ok od) := by
  have HE := Lib.hid (empty_any W0 b K sz maps w n out ok od hok (by omega) hw)
  clear hw
  by_cases hd : od = []
  · have e1 : decide (od = []) = true := by simp [hd]
    unfold EmptyEnds at HE
    rw [e1, if_pos hd] at HE
    rw [if_pos hd, if_pos hd]
    clear hd e1
    go_enter Try.func54, Try.ntmps54
    go_wp2_with fail
    refine HE.out.mono ?_
    rintro e w1 ⟨rfl, hw1⟩
    obtain ⟨vm, vx, p, v, h1, h2⟩ := hw1
    have c3 := h1.cell 3
    have f3 := h1.frozen 3
    have HN := Lib.hid (NWrk.stored (n' := { n with chunks := true }) h1 h2 3 (.bool true) (by simp [nwC]) rfl)
    unfold nwC at c3
    simp only [List.getElem?_toArray, List.getElem?_cons_zero, List.getElem?_cons_succ] at c3
    clear h1 h2
    go_wp2_with fail
    refine (say_any W0 b K sz maps _ _ out ok od 1 1 rfl [] (by decide) hok (by omega) HN.out).mono ?_
    rintro e w3 ⟨rfl, hw3⟩
    go_wp2
    go_end0
    exact ⟨rfl, hw3⟩
  · have e1 : decide (od = []) = false := by simp [hd]
    unfold EmptyEnds at HE
    rw [e1, if_neg hd] at HE
    rw [if_neg hd, if_neg hd]
    clear hd e1
    go_enter Try.func54, Try.ntmps54
    go_wp2_with fail
    refine HE.out.mono ?_
    rintro e w1 ⟨rfl, hw1⟩
    go_wp2
    go_end0
    exact ⟨rfl, hw1⟩
end
end Go.Proofs.Yteljplpiojdikaa
