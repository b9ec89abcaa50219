/- Common laws of this seat's proofs, over any program: a range over a function as one walk of the iterator, with the loop's record in sight; a contract of a function that gives a value and leaves all that lay before as it lay. -/
import Derived.RangeFuncNested
import Derived.RangeFuncLeaves
import Derived.RangeFuncBox
import Derived.Shelf.Abstract
import Derived.Shelf.RegionOpen
import Derived.WalkKit
import Derived.OwnWalkIn
import Derived.TacticsInMore
import Derived.LoopNIn
import Derived.LoopIn
import Derived.WalkSpells
import Derived.WalkLawsBesides
import Derived.Lib.Hide
import Derived.Deep.RegionWith
import Derived.Deep.QuietTactic
import Derived.BigQuiet
import Derived.Deep.OwnRows
namespace Go.Proofs.Ytfcojhpnpfodeaa
open Go.RowKit

/-- The call returns v; all that lay before lies as it lay. -/
def Gives (v : Value) (w : World) (e : Ending) (w' : World) : Prop := e = .returned v ∧ Below w.heap.size w w'

theorem Gives.of {v : Value} {w : World} : ∀ {e : Ending} {w' : World}, Gives v w e w' → e = .returned v ∧ Below w.heap.size w w' := fun h => h

theorem gives_bool {b b' : Bool} {w w' : World} (h : b' = b) (hB : Below w.heap.size w w') : Gives (.bool b) w (.returned (.bool b')) w' := ⟨by rw [h], hB⟩
theorem gives_as {v v' : Value} {w w' : World} (h : v' = v) (hB : Below w.heap.size w w') : Gives v w (.returned v') w' := ⟨by rw [h], hB⟩
theorem at_world {P : Program} {f : FuncId} {args : Array Value} {w : World} {R : Ending → World → Prop} (h : ∀ W, W = w → Calls P f args W R) : Calls P f args w R := h w rfl
theorem bcell {W w1 : World} (hb : Below W.heap.size W w1) : (∀ b o, b < W.heap.size → w1.cell? ⟨b, o, none⟩ = W.cell? ⟨b, o, none⟩) ∧ (∀ b o, b < W.heap.size → w1.frozen? ⟨b, o, none⟩ = W.frozen? ⟨b, o, none⟩) :=
  ⟨fun b o h => hb.cell (p := ⟨b, o, none⟩) h, fun b o h => hb.frozen (p := ⟨b, o, none⟩) h⟩

@[go_sem] theorem wide_depth : Fence.wide.depth = none := rfl
@[go_sem] theorem wide_round_depth (l : Nat) : (Fence.wide.inRound l).depth = none := rfl

@[go_sem] theorem wide_fn (f : FuncId) : Fence.wide.fn f = True := rfl
@[go_sem] theorem wide_round_fn (l : Nat) (f : FuncId) : (Fence.wide.inRound l).fn f = True := rfl

theorem below_next {a w c : World} (h : Below a.heap.size a w) (k : Below w.heap.size w c) : Below a.heap.size a c := h.trans (k.mono h.size)

section range
variable {P : Program}

/-- How a round's body may be left, the loop's record in sight. -/
def roundEnd (l : Nat) (rec : Loop) (R : Ending → World → Prop) : Exit → Act → World → Prop
  | .normal, _, W' => W'.heap[l]? = some (.loop { rec with state := .busy }) ∧ R (.returned (.bool true)) (W'.putObj l (.loop { rec with state := .ready, pending := none }))
  | .ret, _, W' => W'.heap[l]? = some (.loop { rec with state := .busy }) ∧ R (.returned (.bool false)) (W'.putObj l (.loop { rec with state := .done, pending := some .ret }))
  | .exit id, _, W' => W'.heap[l]? = some (.loop { rec with state := .busy }) ∧ R (.returned (.bool false)) (W'.putObj l (.loop { rec with state := .done, pending := some (.exit id) }))
  | _, _, _ => False

/-- Behind the assignment to the loop's left sides: the record is still there; then the body is walked. -/
def bodyFrom (P : Program) (l : Nat) (rec : Loop) (R : Ending → World → Prop) (a₁ : Act) (W₁ : World) : Prop :=
  W₁.heap[l]? = some (.loop rec) ∧ ∀ W₂, W₂ = W₁.putObj l (.loop { rec with state := .busy }) → rec.body.wpIn (Fence.wide.inRound l) 0 P (roundEnd l rec R) a₁ W₂

/-- A call of yield, out of the assignment's and the body's walk. -/
theorem yieldAt_of {l : Nat} {rec : Loop} {args : Array Value} {W : World} {R : Ending → World → Prop} (hl : W.heap[l]? = some (.loop rec)) (hr : rec.state = .ready) (hs : args.size = rec.params.size)
    (h : rec.assign.wpIn (Fence.wide.inRound l) 0 P (Exit.then (bodyFrom P l rec R) (fun _ _ _ => False))
      { tmps := (rec.params.zip args).foldl (fun t (p, v) => t.setIfInBounds p v) rec.tmps, defers := [] } W) : YieldAt Fence.wide 0 P l args W R := by
  refine ⟨rec.fn, _, rec.assign, rec.body, run_yield (P := P) hl hs, roundIn_of_wpIn trivial (wpIn_mono h ?_)⟩
  rintro e a₁ W₁ hq
  cases e with
  | normal =>
    obtain ⟨hl1, hb⟩ := hq
    refine ⟨_, run_beginRound hl1 hr, wpIn_mono (hb _ rfl) ?_⟩
    rintro e2 a2 W2 hq2
    cases e2 with
    | normal => exact ⟨_, _, run_endRound none hq2.1, hq2.2⟩
    | ret => exact ⟨_, _, run_endRound (some .ret) hq2.1, hq2.2⟩
    | exit id => exact ⟨_, _, run_endRound (some (.exit id)) hq2.1, hq2.2⟩
    | goto t => exact hq2.elim
    | panic c => exact hq2.elim
    | outgrown => exact hq2.elim
  | _ => exact hq.elim

/-- What is owed behind the iterator's return: the record is not busy; the pending jump goes on. -/
def rangeEnd (P : Program) (l : Nat) (rec : Loop) (Q : Exit → Act → World → Prop) (a' : Act) (e : Ending) (W' : World) : Prop :=
  (∃ v, e = .returned v) ∧ ∃ st, st ≠ .busy ∧
    ((W'.heap[l]? = some (.loop { rec with state := st, pending := none }) ∧ Q .normal a' (W'.putObj l (.loop { rec with state := .exhausted, pending := none }))) ∨
     (∃ c, W'.heap[l]? = some (.loop { rec with state := st, pending := some c }) ∧ c.wpIn Fence.wide 0 P Q a' (W'.putObj l (.loop { rec with state := .exhausted, pending := some c }))))

/-- The statement 'for .. := range g': the iterator is one call, at a record that is ready. -/
theorem wpIn_range {g : Operand} {ps : Array Tmp} {assign body : Code} {Q : Exit → Act → World → Prop} {a : Act} {w : World} {gf : Nat} {lb : Array Value}
    (hg : a.eval g = .func (.func gf) #[] lb) (eg : ∀ args w, (callFunc gf args).run P w = .ok (.enter gf args) w)
    (h : ∀ rec : Loop, rec.state = .ready → rec.pending = none → rec.tmps = a.tmps → rec.params = ps → rec.assign = assign → rec.body = body →
      CallsIn Fence.wide 0 P gf (#[.func (.yield (w.heap.size + 1)) #[] #[]] ++ lb) ((w.alloc (.deferred (some []))).alloc (.loop rec))
        (rangeEnd P (w.heap.size + 1) rec Q { a with defers := { target := .collected w.heap.size, args := #[] } :: a.defers })) :
    (Code.rangeFunc g ps assign body).wpIn Fence.wide 0 P Q a w := by
  refine wpIn_rangeFunc ?_
  intro fn _
  obtain ⟨rec, hrec⟩ : ∃ rec : Loop, rec = { state := .ready, pending := none, fn, tmps := a.tmps, params := ps, assign, body, defers := w.heap.size } := ⟨_, rfl⟩
  have hc := h rec (by rw [hrec]) (by rw [hrec]) (by rw [hrec]) (by rw [hrec]) (by rw [hrec]) (by rw [hrec])
  have he := run_enterLoop_outer (P := P) (w := w) fn a.tmps ps assign body
  rw [← hrec] at he
  clear hrec h
  obtain ⟨W1, hW1⟩ : ∃ W1, (w.alloc (.deferred (some []))).alloc (.loop rec) = W1 := ⟨_, rfl⟩
  rw [hW1] at hc he
  refine ⟨w.heap.size + 1, [{ target := .collected w.heap.size, args := #[] }], W1, { target := .fn (.func gf) lb, args := #[.func (.yield (w.heap.size + 1)) #[] #[]] }, W1, gf,
    #[.func (.yield (w.heap.size + 1)) #[] #[]] ++ lb, W1, he, ?_, ?_, ?_, ?_, ?_⟩
  · simp only [resolve, hg]
    simp [go_sem]
  · intro f' _
    trivial
  · simp [invoke, go_sem, eg]
  · intro hd
    simp [Fence.wide] at hd
  · refine hc.mono ?_
    rintro e W2 ⟨⟨v, rfl⟩, st, hst, ⟨hl, hq⟩ | ⟨c, hl, hq⟩⟩
    · exact ⟨none, _, run_endLoop hl hst, hq⟩
    · exact ⟨some c, _, run_endLoop hl hst, hq⟩

/-- A function that holds such a statement. -/
theorem calls_of_marks {f : FuncId} {fn : Func} {c : Code} {args : Array Value} {w : World} {R : Ending → World → Prop}
    (hf : P.funcs[f]? = some fn) (hb : fn.body = some c)
    (h : c.wpIn Fence.wide 0 P (bodyPostM Fence.wide 0 P fn R) { tmps := args ++ Array.replicate (fn.ntmps - args.size) undef, defers := [] } w) : Calls P f args w R :=
  (callsIn_wide (n := 0)).1 (callsIn_of_wp_marks hf hb trivial h rfl)

theorem callsIn_of {f : FuncId} {fn : Func} {c : Code} {args : Array Value} {w : World} {R : Ending → World → Prop}
    (hf : P.funcs[f]? = some fn) (hb : fn.body = some c)
    (h : c.wpIn Fence.wide 0 P (bodyPost P fn R) { tmps := args ++ Array.replicate (fn.ntmps - args.size) undef, defers := [] } w) : CallsIn Fence.wide 0 P f args w R :=
  callsIn_of_wp hf hb trivial h rfl

theorem leaves_mark {fn : Func} {tmps : Array Value} {R : Ending → World → Prop} {D : Nat} {w : World} {v : Value} (hK : w.heap[D]? = some (.deferred (some [])))
    (hres : (results fn tmps).run P (w.putObj D (.deferred none)) = .ok v (w.putObj D (.deferred none))) (hR : R (.returned v) (w.putObj D (.deferred none))) :
    LeavesInM Fence.wide 0 P fn tmps R [{ target := .collected D, args := #[] }] .returning w :=
  ⟨by simp, .inl ⟨_, _, rfl, run_takeDeferred hK, ⟨v, hres, hR⟩⟩⟩
end range

/-- Below B, the turn of a block at or beyond B. -/
theorem below_putObj {B : Nat} {a w : World} (h : Below B a w) {l : Nat} (hl : B ≤ l) (o : Obj) : Below B a (w.putObj l o) :=
  h.trans ⟨rfl, rfl, rfl, by simp, fun k hk => World.putObj_heap_other (by omega)⟩

/-- Block g is just the cells cs of element type t, none frozen. -/
def Blk (w : World) (g : Nat) (t : TypeId) (cs : Array Value) : Prop := w.heap[g]? = some (.cells cs t (0, 0))

section
variable {w w' : World} {g : Nat} {t : TypeId} {cs : Array Value}
theorem Blk.lt (h : Blk w g t cs) : g < w.heap.size := lt_of_block h
theorem Blk.cell (h : Blk w g t cs) (i : Nat) : w.cell? ⟨g, i, none⟩ = cs[i]? := cell_of_row w g i cs t (0, 0) h
theorem Blk.cells6 {a0 a1 a2 a3 a4 a5 : Value} (h : Blk w g t #[a0, a1, a2, a3, a4, a5]) : w.cell? ⟨g, 0, none⟩ = some a0 ∧ w.cell? ⟨g, 1, none⟩ = some a1 ∧ w.cell? ⟨g, 2, none⟩ = some a2 ∧ w.cell? ⟨g, 3, none⟩ = some a3 ∧ w.cell? ⟨g, 4, none⟩ = some a4 ∧ w.cell? ⟨g, 5, none⟩ = some a5 :=
  ⟨h.cell 0, h.cell 1, h.cell 2, h.cell 3, h.cell 4, h.cell 5⟩
theorem Blk.frozen (h : Blk w g t cs) (i : Nat) : w.frozen? ⟨g, i, none⟩ = false := by
  unfold Blk at h
  simp [World.frozen?, h]
theorem Blk.new (w : World) (t : TypeId) (cs : Array Value) : Blk (w.alloc (.cells cs t)) w.heap.size t cs := heap_alloc_new w _
theorem Blk.newAt (h : w.heap.size = g) : Blk (w.alloc (.cells cs t)) g t cs := h ▸ heap_alloc_new w _
theorem Blk.as_ {cs' : Array Value} (h : Blk w g t cs) (e : cs = cs') : Blk w g t cs' := e ▸ h
theorem Blk.drew (h : Blk w g t cs) : Blk w.drew g t cs := h
theorem Blk.alloc (h : Blk w g t cs) (o : Obj) : Blk (w.alloc o) g t cs := (Below.heap_alloc w o g h.lt).trans h
theorem Blk.set_ (h : Blk w g t cs) (i : Nat) (u : Value) : Blk (w.setCell ⟨g, i, none⟩ u) g t (cs.setIfInBounds i u) := by
  unfold Blk at h ⊢
  simp [World.setCell, Array.getElem?_modify, h]
theorem Blk.far (h : Blk w g t cs) {p : Addr} (hp : g ≠ p.block) (u : Value) : Blk (w.setCell p u) g t cs := (Below.heap_setCell w p u g hp).trans h
theorem Blk.below {B : Nat} (h : Blk w g t cs) (hb : Below B w w') (hg : g < B) : Blk w' g t cs := (hb.block g hg).trans h
theorem Blk.put (h : Blk w g t cs) {l : Nat} (hl : g ≠ l) (o : Obj) : Blk (w.putObj l o) g t cs := (World.putObj_heap_other hl).trans h
end
theorem heap_newAt {w : World} {g : Nat} (h : w.heap.size = g) (o : Obj) : (w.alloc o).heap[g]? = some o := h ▸ heap_alloc_new w o
theorem heap_old {w : World} {g : Nat} {o : Obj} (h : w.heap[g]? = some o) (o' : Obj) : (w.alloc o').heap[g]? = some o := (Below.heap_alloc w o' g (lt_of_block h)).trans h
theorem rec_ready {rec : Loop} (h1 : rec.state = .ready) (h2 : rec.pending = none) : { rec with state := .ready, pending := none } = rec := by
  cases rec; simp_all
theorem heap_set {w : World} {k : Nat} {p : Addr} (h : k ≠ p.block) (u : Value) : (w.setCell p u).heap[k]? = w.heap[k]? := Below.heap_setCell w p u k h

@[go_sem] theorem mk_get (l : List UInt8) (k : Nat) (h : k < (ByteArray.mk l.toArray).size) : (ByteArray.mk l.toArray)[k] = l[k]?.getD 0 := by
  have h2 : k < l.length := by have h3 : k < l.toArray.size := h; simpa using h3
  rw [List.getElem?_eq_getElem h2]
  show l.toArray[k] = _
  simp
@[go_sem] theorem mk_append (x y : List UInt8) : ByteArray.mk x.toArray ++ ByteArray.mk y.toArray = ByteArray.mk (x ++ y).toArray := ByteArray.mk_append_mk x y
/-- Cuts of a text that is a list. -/
@[go_sem] theorem extract_to (l : List UInt8) (b : Nat) : (ByteArray.mk l.toArray).extract 0 b = ByteArray.mk (l.take b).toArray := by
  rw [ByteArray.extract_mk]; simp
@[go_sem] theorem extract_from (l : List UInt8) (a : Nat) : (ByteArray.mk l.toArray).extract a l.length = ByteArray.mk (l.drop a).toArray := by
  rw [ByteArray.extract_mk, List.take_of_length_le (by simp)]
@[go_sem] theorem take_drop_all (l : List UInt8) (k : Nat) : (l.drop k).take (l.length - k) = l.drop k := List.take_of_length_le (by simp)
@[go_sem] theorem extract_mid (l : List UInt8) (a b : Nat) : (ByteArray.mk l.toArray).extract a b = ByteArray.mk ((l.take b).drop a).toArray := by
  rw [ByteArray.extract_mk, List.drop_take]

end Go.Proofs.Ytfcojhpnpfodeaa
