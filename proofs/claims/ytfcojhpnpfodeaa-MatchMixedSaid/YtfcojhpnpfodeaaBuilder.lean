/- strings.Builder, wherever it lies in a block that is known whole: WriteString, String. -/
import Derived.Test.YtfcojhpnpfodeaaNum
import Derived.Test.YtfcojhpnpfodeaaProg
import Derived.Lib.Builder
import Derived.Lib.AppendStr
import Derived.Lib.UnsafeStr
import Derived.Lib.OthersKept
namespace Go.Proofs.Ytfcojhpnpfodeaa
open Go.RowKit

/-- The two cells p, v at offset o of block b are a builder that holds the bytes l; its row lies at or beyond B. -/
structure Bld (w : World) (B b o : Nat) (p v : Value) (l : List UInt8) : Prop where
  self : p = .pointer none ∨ p = .pointer (some ⟨b, o, none⟩)
  own : w.ownsRow B 5 1 v l.length (Lib.byteCells l)
  ne : v.ownBlock ≠ some b
  nil : l = [] → v = .slice none 0 0

theorem Bld.fresh (w : World) (B b o : Nat) : Bld w B b o (.pointer none) (.slice none 0 0) [] := ⟨.inl rfl, World.ownsRow_nil _ _ _ _, by simp [Value.ownBlock], fun _ => rfl⟩
theorem Bld.form {w : World} {B b o : Nat} {p v : Value} {l : List UInt8} (h : Bld w B b o p v l) : ∃ a cap, v = .slice a l.length cap := by
  rcases h.own.2 with ⟨hv, h0⟩ | ⟨g, cap, cur, hv, _⟩
  · exact ⟨none, 0, by rw [hv, h0]⟩
  · exact ⟨_, _, hv⟩
theorem Bld.kept {w w' : World} {B b o : Nat} {p v : Value} {l : List UInt8} (h : Bld w B b o p v l) {row : Option Nat} (hg : w.grownBy w' row) (hne : v.ownBlock = none ∨ v.ownBlock ≠ row) : Bld w' B b o p v l :=
  ⟨h.self, h.own.kept hg hne, h.ne, h.nil⟩
theorem grownBy_below {w w' : World} (h : Below w.heap.size w w') : w.grownBy w' none := ⟨h.os, h.tape, h.output, h.size, fun k hk _ => h.block k hk⟩
theorem Bld.below {w w' : World} {B b o : Nat} {p v : Value} {l : List UInt8} (h : Bld w B b o p v l) (hb : Below w.heap.size w w') : Bld w' B b o p v l := by
  rcases hv : v.ownBlock with _ | g
  · exact h.kept (grownBy_below hb) (.inl hv)
  · exact h.kept (grownBy_below hb) (.inr (by rw [hv]; simp))

theorem grownBy_setCell (W : World) (b o : Nat) (v : Value) : W.grownBy (W.setCell ⟨b, o, none⟩ v) (some b) :=
  ⟨rfl, rfl, rfl, by simp, fun k _ hk => Below.heap_setCell _ _ _ k (fun e => hk (by rw [e]))⟩

theorem Try.sizeBuilder : (Try.prog.info? 99).map (·.size) = some 2 := by kernel_rfl

set_option maxRecDepth 100000 in
set_option maxHeartbeats 1000000 in
theorem copyCheck_any (w : World) (b o : Nat) (E : TypeId) (cs : Array Value) (p : Value) (hb : Blk w b E cs) (ho : o < cs.size) (hp : cs[o]? = some p)
    (hpp : p = .pointer none ∨ p = .pointer (some ⟨b, o, none⟩)) (hl : liesAt Try.prog Try.prog.depth E (cs.size / Try.prog.cellsOf E) o 99 1 = true) :
    Calls Try.prog 62 #[.pointer (some ⟨b, o, none⟩)] w fun e w' => e = .returned (.tuple #[]) ∧ Blk w' b E (cs.setIfInBounds o (.pointer (some ⟨b, o, none⟩))) ∧ w.grownBy w' (some b) := by
  obtain ⟨j, hj, hjs⟩ := Option.map_eq_some_iff.1 Try.sizeBuilder
  have hsh : w.shape? b = some (E, cs.size) := by unfold World.shape?; rw [show w.heap[b]? = _ from hb]
  have hc : w.cell? ⟨b, o, none⟩ = some p := (hb.cell o).trans hp
  have hf := hb.frozen o
  rcases hpp with rfl | rfl
  · go_enter Try.func62, Try.ntmps62
    go_wp2
    rw [Lib.run_to_unsafe w ⟨b, o, none⟩ Try.underlying97 Try.underlying130 hj (by rw [hjs]; decide) hsh ho]
    simp only [Result.andThen]
    rw [Oper.upon_value]
    go_wp2
    rw [run_callFunc_extern Try.func71 (by kernel_rfl) (by kernel_rfl) (by kernel_rfl) (e := Extern.AbiNoEscape.same) (by kernel_rfl)]
    rw [Lib.run_noEscape]
    simp only [Result.andThen]
    rw [Oper.upon_value]
    go_wp2
    rw [Lib.run_from_unsafe w ⟨b, o, none⟩ Try.underlying130 Try.underlying97 hj hsh hl]
    simp only [Result.andThen]
    rw [Oper.upon_value]
    go_wp2_with fail
    go_end0
    exact ⟨rfl, hb.set_ o _, grownBy_setCell _ _ _ _⟩
  · have hcs : cs.setIfInBounds o (.pointer (some ⟨b, o, none⟩)) = cs := by
      obtain ⟨h1, h2⟩ := Array.getElem?_eq_some_iff.1 hp
      simp [Array.setIfInBounds, h1, ← h2]
    rw [hcs]
    clear hcs
    have hx := Lib.run_neq_ptr_same (P := Try.prog) w ⟨b, o, none⟩ Try.underlying97 hj
    go_enter Try.func62, Try.ntmps62
    go_wp2
    go_end0
    exact ⟨rfl, hb, World.grownBy.refl w _⟩

theorem Try.infoByteB : (Try.prog.info? 5).map (fun i => (i.zero, i.size, i.bytes)) = some (some (.int .u8 0), 1, 1) := by kernel_rfl

/-- What a builder's method may turn: its own block, its row; all else stands. -/
structure Turns (w w' : World) (b : Nat) (row : Option Nat) : Prop where
  os : w'.os = w.os
  tape : w'.tape = w.tape
  output : w'.output = w.output
  size : w.heap.size ≤ w'.heap.size
  block : ∀ k, k < w.heap.size → k ≠ b → some k ≠ row → w'.heap[k]? = w.heap[k]?

theorem Turns.below {B b : Nat} {a w w' : World} {row : Option Nat} (h : Turns w w' b row) (hb : Below B a w) (hB : B ≤ w.heap.size) (h1 : B ≤ b) (h2 : ∀ g, row = some g → B ≤ g) : Below B a w' :=
  hb.trans ⟨h.os, h.tape, h.output, h.size, fun k hk => h.block k (by omega) (by omega) (fun e => by have := h2 k e.symm; omega)⟩

theorem Bld.keeps {w w' : World} {B b o g : Nat} {p v : Value} {l : List UInt8} {t : TypeId} {cs : Array Value} (hA : Bld w B b o p v l) (h : Blk w g t cs) (hT : Turns w w' b v.ownBlock) (hg : g ≠ b) (ht : t ≠ 5) : Blk w' g t cs := by
  refine (hT.block g h.lt hg ?_).trans h
  intro e
  rcases hA.own.2 with ⟨hv, _⟩ | ⟨g', cap, cur, hv, _, hgb, _⟩
  · rw [hv] at e; simp [Value.ownBlock] at e
  · rw [hv] at e
    obtain rfl : g = g' := by simpa [Value.ownBlock] using e
    have := (show w.heap[g]? = _ from h).symm.trans hgb
    simp at this
    exact ht this.2
theorem Bld.row {w : World} {B b o : Nat} {p v : Value} {l : List UInt8} (hA : Bld w B b o p v l) : ∀ g, v.ownBlock = some g → B ≤ g := by
  intro g e
  rcases hA.own.2 with ⟨hv, _⟩ | ⟨g', cap, cur, hv, hB, _⟩
  · rw [hv] at e; simp [Value.ownBlock] at e
  · rw [hv] at e
    obtain rfl : g' = g := by simpa [Value.ownBlock] using e
    exact hB
theorem Bld.alloc {w : World} {B b o : Nat} {p v : Value} {l : List UInt8} (h : Bld w B b o p v l) (ob : Obj) : Bld (w.alloc ob) B b o p v l :=
  h.kept (World.grownBy_alloc w ob none) (by
    rcases hv : v.ownBlock with _ | g
    · exact .inl rfl
    · exact .inr (by simp))
theorem Bld.drew {w : World} {B b o : Nat} {p v : Value} {l : List UInt8} (h : Bld w B b o p v l) : Bld w.drew B b o p v l := ⟨h.self, h.own, h.ne, h.nil⟩
theorem Bld.keeps_row {w w' : World} {B b o g : Nat} {p v : Value} {l : List UInt8} {t : TypeId} {cs : Array Value} (hA : Bld w B b o p v l) (h : Blk w g t cs) (hT : w.grownBy w' v.ownBlock) (ht : t ≠ 5) : Blk w' g t cs := by
  refine (hT.block g h.lt ?_).trans h
  intro e
  rcases hA.own.2 with ⟨hv, _⟩ | ⟨g', cap, cur, hv, _, hgb, _⟩
  · rw [hv] at e; simp [Value.ownBlock] at e
  · rw [hv] at e
    obtain rfl : g = g' := by simpa [Value.ownBlock] using e
    have := (show w.heap[g]? = _ from h).symm.trans hgb
    simp at this
    exact ht this.2
theorem size_list (m : List UInt8) : (ByteArray.mk m.toArray).size = m.length := by show m.toArray.size = _; simp
theorem bytes_cells (l m : List UInt8) : Lib.byteCells l ++ Lib.strCells ⟨m.toArray⟩ = Lib.byteCells (l ++ m) := by simp [Lib.byteCells, Lib.strCells]

set_option maxRecDepth 100000 in
set_option maxHeartbeats 1000000 in
theorem writeString_any (w : World) (B b o : Nat) (E : TypeId) (cs : Array Value) (p v : Value) (l m : List UInt8) (hb : Blk w b E cs) (ho : o + 1 < cs.size) (hp : cs[o]? = some p) (hv : cs[o + 1]? = some v)
    (hA : Bld w B b o p v l) (hl : liesAt Try.prog Try.prog.depth E (cs.size / Try.prog.cellsOf E) o 99 1 = true) (hE : E ≠ 5)
    (hlen : l.length + m.length ≤ 140737488355328) (hB : B ≤ w.heap.size) :
    Calls Try.prog 46 #[.pointer (some ⟨b, o, none⟩), .string ⟨m.toArray⟩] w fun e w' => e = .returned (.tuple #[.int .i64 m.length, .nilIface]) ∧
      ∃ v', Blk w' b E ((cs.setIfInBounds o (.pointer (some ⟨b, o, none⟩))).setIfInBounds (o + 1) v') ∧ Bld w' B b o (.pointer (some ⟨b, o, none⟩)) v' (l ++ m) ∧ Turns w w' b v.ownBlock := by
  obtain ⟨i0, hi, hz0, hz1, hz2⟩ := info_parts Try.infoByteB
  obtain ⟨A, c, rfl⟩ := hA.form
  go_enter Try.func46, Try.ntmps46
  go_wp2_with fail
  refine (copyCheck_any w b o E cs p hb (by omega) hp hA.self hl).mono ?_
  rintro e w1 ⟨rfl, hb1, hg1⟩
  have hv1 : (cs.setIfInBounds o (.pointer (some ⟨b, o, none⟩)))[o + 1]? = some (.slice A l.length c) := by rw [Array.getElem?_setIfInBounds_ne (by omega)]; exact hv
  have c1 : w1.cell? ⟨b, o + 1, none⟩ = some (.slice A l.length c) := (hb1.cell (o + 1)).trans hv1
  have hown := hA.own.kept hg1 (.inr hA.ne)
  have H1 := Lib.hid hb1
  have H2 := Lib.hid hv1
  clear hb1 hv1 hv hp
  go_wp2_with (at_builtin; refine Lib.wpList_append_own_string _ rfl _ _ 76 9 rfl B 5 i0 Try.underlying76 Try.underlying9 hi hz0 hz1 hz2 _ _ _ rfl hown ⟨m.toArray⟩ rfl ?c3 ?c4 ?c5 ?_)
  case c3 => rw [size_list]; unfold maxLen; omega
  case c4 => rw [size_list]; omega
  case c5 => have := hg1.size; omega
  intro v' w2 hown' hgrow hnil
  have hb1 := H1.out
  have hlt := hb1.lt
  have hb2 : Blk w2 b E (cs.setIfInBounds o (.pointer (some ⟨b, o, none⟩))) := (hgrow.block b hlt (fun e => hA.ne e.symm)).trans hb1
  obtain ⟨A', n', c', rfl⟩ : ∃ A n c, v' = .slice A n c := by
    rcases hown'.2 with ⟨hv, _⟩ | ⟨g, cap, cur, hv, _⟩
    · exact ⟨_, _, _, hv⟩
    · exact ⟨_, _, _, hv⟩
  have d1 : w2.cell? ⟨b, o + 1, none⟩ = some (.slice A l.length c) := (hb2.cell (o + 1)).trans H2.out
  have f1 := hb2.frozen (o + 1)
  have hne' : (Value.slice A' n' c').ownBlock ≠ some b := by
    intro e
    rcases hown'.2 with ⟨hv, _⟩ | ⟨g, cap, cur, hv, _, hgb, _⟩
    · rw [hv] at e; simp [Value.ownBlock] at e
    · rw [hv] at e
      obtain rfl : g = b := by simpa [Value.ownBlock] using e
      have := (show w2.heap[g]? = _ from hb2).symm.trans hgb
      simp at this
      exact hE this.2
  have hnil' : l ++ m = [] → Value.slice A' n' c' = .slice none 0 0 := by
    intro e
    rw [List.append_eq_nil_iff] at e
    have h0 := hA.nil e.1
    obtain ⟨rfl, rfl⟩ := e
    rw [hnil]
    simp_all
  have K1 := Lib.hid hb2
  have K2 := Lib.hid hown'
  have K3 := Lib.hid hgrow
  have K4 := Lib.hid hnil'
  have K5 := Lib.hid hg1
  clear hb2 hown' hgrow hnil' hnil hb1 hown hg1
  go_wp2
  go_ret2
  refine ⟨rfl, _, K1.out.set_ _ _, ⟨.inr rfl, ?_, hne', K4.out⟩, ?_⟩
  · have h := K2.out
    have h2 : Lib.byteCells l ++ Lib.strCells ⟨m.toArray⟩ = Lib.byteCells (l ++ m) := bytes_cells l m
    rw [h2] at h
    rw [List.length_append]
    try rw [size_list] at h
    exact h.kept (grownBy_setCell _ _ _ _) (.inr hne')
  · have g1 := K5.out
    have g2 := K3.out
    exact ⟨g2.os.trans g1.os, g2.tape.trans g1.tape, g2.output.trans g1.output, Nat.le_trans g1.size (by simpa using g2.size), fun k hk hkb hkr =>
      (Below.heap_setCell _ _ _ k hkb).trans ((g2.block k (Nat.lt_of_lt_of_le hk g1.size) hkr).trans (g1.block k hk (fun e => hkb (by simpa using e))))⟩

set_option maxRecDepth 100000 in
set_option maxHeartbeats 1000000 in
theorem string_any (w : World) (B b o : Nat) (E : TypeId) (cs : Array Value) (p v : Value) (l : List UInt8) (hb : Blk w b E cs) (hv : cs[o + 1]? = some v) (hA : Bld w B b o p v l) :
    Calls Try.prog 48 #[.pointer (some ⟨b, o, none⟩)] w fun e w' => e = .returned (.string ⟨l.toArray⟩) ∧ w.grownBy w' v.ownBlock := by
  obtain ⟨A, c, rfl⟩ := hA.form
  have c1 : w.drew.cell? ⟨b, o + 1, none⟩ = some (.slice A l.length c) := (hb.cell (o + 1)).trans hv
  rcases hl0 : l with _ | ⟨x, r⟩
  · have hz := hA.nil hl0
    simp only [Value.slice.injEq] at hz
    obtain ⟨rfl, _, rfl⟩ := hz
    rw [hl0] at c1 hA
    clear hv hb hA hl0
    simp only [List.length_nil] at c1
    have hSD := Lib.run_unsafeSliceData_nil (P := Try.prog) w.drew #[76] 119 0 0
    have hUS := Lib.run_unsafeString_none (P := Try.prog) w.drew 119 3 9 none
    have mixed : Try.prog.follows .mixedOrders = true := by kernel_rfl
    go_enter Try.func48, Try.ntmps48
    go_wp2
    go_region
    all_goals (go_wp2; go_ret; exact ⟨rfl, ⟨rfl, rfl, rfl, Nat.le_refl _, fun _ _ _ => rfl⟩⟩)
  · rw [← hl0]
    have hl0' : l ≠ [] := by rw [hl0]; simp
    have hlen : l.length ≠ 0 := by simpa using hl0'
    obtain ⟨g, cap, cur, hv2, hbg, hg, hnc, hcm, hcs, htake⟩ : ∃ g cap cur, Value.slice A l.length c = .slice (some ⟨g, 0, none⟩) l.length cap ∧ B ≤ g ∧ w.heap[g]? = some (.cells cur 5 (0, 0)) ∧ l.length ≤ cap ∧ cap ≤ maxLen ∧ cur.size = cap * 1 ∧ cur.toList.take (l.length * 1) = Lib.byteCells l := by
      rcases hA.own.2 with ⟨_, hz⟩ | r
      · exact absurd hz hlen
      · exact r
    simp only [Value.slice.injEq] at hv2
    obtain ⟨rfl, _, rfl⟩ := hv2
    have hSD : (Builtin.unsafeSliceData_ #[76] 119 #[.slice (some ⟨g, 0, none⟩) l.length c]).run Try.prog w.drew = .ok (.pointer (some ⟨g, 0, none⟩)) w.drew :=
      Lib.run_unsafeSliceData_row _ _ _ _ _ _ (by omega)
    have hUS : (Builtin.unsafeString_ #[119, 3] 9 #[.pointer (some ⟨g, 0, none⟩), .int .i64 l.length]).run Try.prog w.drew = .ok (.string ⟨l.toArray⟩) (w.drew.freeze ⟨g, 0, none⟩ l.length) := by
      refine Lib.run_unsafeString_row w.drew 119 3 9 5 Try.underlying119 (by kernel_rfl) g cur.size (by have hg' : w.drew.heap[g]? = some (.cells cur 5 (0, 0)) := hg; simp [World.shape?, hg']) l hl0' (by omega) (by unfold maxLen at hcm; omega) ?_
      intro j x hx
      have := hA.own.cells (g := g) rfl j (.int .u8 x.toNat) (by simp [Lib.byteCells, hx])
      exact this
    have mixed : Try.prog.follows .mixedOrders = true := by kernel_rfl
    have hfr : w.grownBy (w.drew.freeze ⟨g, 0, none⟩ l.length) (some g) := by
      refine ⟨?_, ?_, ?_, ?_, fun k hk hne => ?_⟩ <;> unfold World.freeze <;> rw [if_neg hlen] <;> try rfl
      · simp
      · show (w.heap.modify g _)[k]? = _
        rw [Array.getElem?_modify, if_neg (fun e => hne (by rw [e]))]
    have K := Lib.hid hfr
    clear hfr hcs htake hg hl0 hb hA hv hlen
    go_enter Try.func48, Try.ntmps48
    go_wp2
    go_region
    all_goals (go_wp2; go_ret; exact ⟨rfl, K.out⟩)

end Go.Proofs.Ytfcojhpnpfodeaa
