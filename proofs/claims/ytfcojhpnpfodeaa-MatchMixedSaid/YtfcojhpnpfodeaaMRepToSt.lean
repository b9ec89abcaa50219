/- rep.ToStatus. -/
import Derived.Test.YtfcojhpnpfodeaaMRepIter
import Derived.Maps.AppendAt
import Derived.OwnWalkIn
import Derived.WalkMore
import Derived.RegionIn
import Derived.Deep.RegionHeld3
import Derived.Deep.AppendLies
namespace Go.Proofs.Ytfcojhpnpfodeaa
open Go.RowKit Go.Shelf

attribute [local go_sem] Oper.semAt_some

theorem Try.infoExt : (Try.prog.info? 114).map (fun i => (i.zero, i.size, i.bytes)) = some (some (.agg #[.int .i64 0, .int .i64 0]), 2, 16) := by kernel_rfl

def extCells1 (x : Ext) : List Value := [.int .i64 x.len, .int .i64 x.flags]
def extCells (l : List Ext) : List Value := l.flatMap extCells1
theorem extCells_add (l : List Ext) (q : Ext) : extCells l ++ extCells1 q = extCells (l ++ [q]) := by simp [extCells]
theorem extCells_at (l : List Ext) : ∀ (j : Nat) (q : Ext) (i : Nat), l[j]? = some q → i < 2 → (extCells l)[j * 2 + i]? = (extCells1 q)[i]? := by
  induction l with
  | nil => intro j q i h; simp at h
  | cons a l ih =>
    intro j q i h hi
    have e : extCells (a :: l) = extCells1 a ++ extCells l := by simp [extCells]
    have hl : (extCells1 a).length = 2 := rfl
    rw [e]
    cases j with
    | zero =>
      simp only [List.getElem?_cons_zero, Option.some.injEq] at h
      subst h
      rw [List.getElem?_append_left (by omega), Nat.zero_mul, Nat.zero_add]
    | succ j =>
      rw [List.getElem?_cons_succ] at h
      rw [List.getElem?_append_right (by omega), hl, show (j + 1) * 2 + i - 2 = j * 2 + i by omega]
      exact ih j q i h hi

theorem own_ext {w : World} {B : Nat} {v : Value} {l : List Ext} (h : w.ownsRow B 114 2 v l.length (extCells l)) : ExtAt w v l := by
  rcases h.2 with ⟨rfl, hx⟩ | ⟨g, cap, cur, rfl, hb, hg, hnc, hcm, hcs, htake⟩
  · exact ⟨none, 0, by rw [hx], .inl (List.length_eq_zero_iff.1 hx)⟩
  · refine ⟨some ⟨g, 0, none⟩, cap, rfl, .inr ⟨g, 0, rfl, fun j x hx => ?_⟩⟩
    have hj : j < l.length := (List.getElem?_eq_some_iff.1 hx).1
    have h0 := h.cellAt (j * 2 + 0) (by omega)
    have h1 := h.cellAt (j * 2 + 1) (by omega)
    rw [extCells_at l j x 0 hx (by omega)] at h0
    rw [extCells_at l j x 1 hx (by omega)] at h1
    refine ⟨?_, ?_⟩
    · rw [Nat.zero_add]; exact h0
    · rw [Nat.zero_add]; exact h1

theorem own_below {B : Nat} {e : TypeId} {k : Nat} {v : Value} {n : Nat} {xs : List Value} {w w' : World} (h : w.ownsRow B e k v n xs) (hb : Below w.heap.size w w') : w'.ownsRow B e k v n xs :=
  h.kept (row := none) ⟨hb.os, hb.tape, hb.output, hb.size, fun j hj _ => hb.block j hj⟩ (by cases hv : v.ownBlock <;> simp)
theorem own_put {B : Nat} {e : TypeId} {k : Nat} {v : Value} {n : Nat} {xs : List Value} {w : World} (h : w.ownsRow B e k v n xs) {l : Nat} (hl : l < B) (o : Obj) : (w.putObj l o).ownsRow B e k v n xs := by
  refine h.kept (row := some l) ⟨rfl, rfl, rfl, by simp, fun j _ hne => World.putObj_heap_other (fun e => hne (by rw [e]))⟩ (.inr ?_)
  intro e
  have := (h.lt l e).1
  omega
theorem own_cell {B : Nat} {e : TypeId} {k : Nat} {v : Value} {n : Nat} {xs : List Value} {w w1 : World} {b : Nat} {t : TypeId} {cs : Array Value} (hown : w.ownsRow B e k v n xs) (hg : w.grownBy w1 v.ownBlock) (h : Blk w b t cs) (hb : b < B) : Blk w1 b t cs := by
  refine (hg.block b h.lt ?_).trans h
  intro hv
  have := (hown.lt b hv.symm).1
  omega
theorem own_heap {B : Nat} {e : TypeId} {k : Nat} {v : Value} {n : Nat} {xs : List Value} {w w1 : World} {b : Nat} (hown : w.ownsRow B e k v n xs) (hg : w.grownBy w1 v.ownBlock) (hl : b < w.heap.size) (hb : b < B) : w1.heap[b]? = w.heap[b]? := by
  refine hg.block b hl ?_
  intro hv
  have := (hown.lt b hv.symm).1
  omega

theorem extents_any (s : List UInt8) (w : World) :
    Calls Try.prog 74 #[.string ⟨s.toArray⟩] w fun e w' => e = .returned (.func (.func 80) #[] #[.pointer (some ⟨w.heap.size, 0, none⟩)]) ∧ w.alloc (.cells #[.string ⟨s.toArray⟩] 9) = w' := by
  go_enter Try.func74, Try.ntmps74
  go_wp2
  go_ret
  exact ⟨rfl, rfl⟩

/-- What ToStatus's loop holds. -/
structure TsSt (w : World) (lo : Loop) (pre : List Ext) (cur : List UInt8) (ev : Int) (v : Value) (W : World) : Prop where
  c : Blk W w.heap.size 35 #[.int .u32 0]
  r : Blk W (w.heap.size + 1) 88 #[.slice none 0 0]
  e : Blk W (w.heap.size + 2) 56 #[.int .i64 ev]
  l : Blk W (w.heap.size + 3) 88 #[v]
  own : W.ownsRow (w.heap.size + 7) 114 2 v pre.length (extCells pre)
  x : Blk W (w.heap.size + 4) 9 #[.string ⟨cur.toArray⟩]
  d : W.heap[w.heap.size + 5]? = some (.deferred (some []))
  lp : W.heap[w.heap.size + 6]? = some (.loop lo)
  b : Below w.heap.size w W

section
variable {w : World} {lo : Loop} {pre : List Ext} {cur : List UInt8} {ev : Int} {v : Value} {W : World}
theorem TsSt.below {W' : World} (h : TsSt w lo pre cur ev v W) (hb : Below W.heap.size W W') : TsSt w lo pre cur ev v W' :=
  ⟨h.c.below hb h.c.lt, h.r.below hb h.r.lt, h.e.below hb h.e.lt, h.l.below hb h.l.lt, own_below h.own hb, h.x.below hb h.x.lt, (hb.block _ (lt_of_block h.d)).trans h.d, (hb.block _ (lt_of_block h.lp)).trans h.lp, below_next h.b hb⟩
theorem TsSt.put (h : TsSt w lo pre cur ev v W) (lo' : Loop) : TsSt w lo' pre cur ev v (W.putObj (w.heap.size + 6) (.loop lo')) :=
  ⟨h.c.put (by omega) _, h.r.put (by omega) _, h.e.put (by omega) _, h.l.put (by omega) _, own_put h.own (by omega) _, h.x.put (by omega) _, (World.putObj_heap_other (by omega)).trans h.d, World.putObj_heap_same (lt_of_block h.lp), below_putObj h.b (by omega) _⟩
theorem TsSt.ready {rec : Loop} (h1 : rec.state = .ready) (h2 : rec.pending = none) (h : TsSt w lo pre cur ev v W) : TsSt w rec pre cur ev v (W.putObj (w.heap.size + 6) (.loop { rec with state := .ready, pending := none })) := by
  rw [rec_ready h1 h2]
  exact h.put rec
theorem TsSt.next (h : TsSt w lo pre cur ev v W) (y : List UInt8) : TsSt w lo pre y ev v (W.setCell ⟨w.heap.size + 4, 0, none⟩ (.string ⟨y.toArray⟩)) :=
  ⟨h.c.far (p := ⟨w.heap.size + 4, 0, none⟩) (by dsimp only; omega) _, h.r.far (p := ⟨w.heap.size + 4, 0, none⟩) (by dsimp only; omega) _, h.e.far (p := ⟨w.heap.size + 4, 0, none⟩) (by dsimp only; omega) _, h.l.far (p := ⟨w.heap.size + 4, 0, none⟩) (by dsimp only; omega) _,
    ownsRow_setCell_below h.own (by dsimp only; omega) _, h.x.set_ 0 _, (heap_set (by dsimp only; omega) _).trans h.d, (heap_set (by dsimp only; omega) _).trans h.lp, h.b.setCell (by dsimp only; omega) _⟩
/-- Thrown away: the results' cells. -/
theorem TsSt.bad (h : TsSt w lo pre cur ev v W) (k : Int) : TsSt w lo pre cur k v (((W.setCell ⟨w.heap.size, 0, none⟩ (.int .u32 0)).setCell ⟨w.heap.size + 1, 0, none⟩ (.slice none 0 0)).setCell ⟨w.heap.size + 2, 0, none⟩ (.int .i64 k)) := by
  refine ⟨?_, ?_, ?_, ?_, ?_, ?_, ?_, ?_, ?_⟩
  · exact ((h.c.set_ 0 _).far (p := ⟨w.heap.size + 1, 0, none⟩) (by dsimp only; omega) _).far (p := ⟨w.heap.size + 2, 0, none⟩) (by dsimp only; omega) _
  · exact ((h.r.far (p := ⟨w.heap.size, 0, none⟩) (by dsimp only; omega) _).set_ 0 _).far (p := ⟨w.heap.size + 2, 0, none⟩) (by dsimp only; omega) _
  · exact ((h.e.far (p := ⟨w.heap.size, 0, none⟩) (by dsimp only; omega) _).far (p := ⟨w.heap.size + 1, 0, none⟩) (by dsimp only; omega) _).set_ 0 _
  · exact ((h.l.far (p := ⟨w.heap.size, 0, none⟩) (by dsimp only; omega) _).far (p := ⟨w.heap.size + 1, 0, none⟩) (by dsimp only; omega) _).far (p := ⟨w.heap.size + 2, 0, none⟩) (by dsimp only; omega) _
  · exact ownsRow_setCell_below (ownsRow_setCell_below (ownsRow_setCell_below h.own (by dsimp only; omega) _) (by dsimp only; omega) _) (by dsimp only; omega) _
  · exact ((h.x.far (p := ⟨w.heap.size, 0, none⟩) (by dsimp only; omega) _).far (p := ⟨w.heap.size + 1, 0, none⟩) (by dsimp only; omega) _).far (p := ⟨w.heap.size + 2, 0, none⟩) (by dsimp only; omega) _
  · exact (heap_set (by dsimp only; omega) _).trans ((heap_set (by dsimp only; omega) _).trans ((heap_set (by dsimp only; omega) _).trans h.d))
  · exact (heap_set (by dsimp only; omega) _).trans ((heap_set (by dsimp only; omega) _).trans ((heap_set (by dsimp only; omega) _).trans h.lp))
  · exact ((h.b.setCell (by dsimp only; omega) _).setCell (by dsimp only; omega) _).setCell (by dsimp only; omega) _
/-- All is well: the results' cells. -/
theorem TsSt.fin {W' : World} (h : TsSt w lo pre cur ev v W) (a : Value) (hW : W' = ((W.setCell ⟨w.heap.size, 0, none⟩ a).setCell ⟨w.heap.size + 1, 0, none⟩ v).setCell ⟨w.heap.size + 2, 0, none⟩ (.int .i64 0)) :
    W'.heap[w.heap.size + 5]? = some (.deferred (some [])) ∧ W'.ownsRow (w.heap.size + 7) 114 2 v pre.length (extCells pre) ∧ Below w.heap.size w W' ∧
    Blk W' w.heap.size 35 #[a] ∧ Blk W' (w.heap.size + 1) 88 #[v] ∧ Blk W' (w.heap.size + 2) 56 #[.int .i64 0] := by
  subst hW
  refine ⟨?_, ?_, ?_, ?_, ?_, ?_⟩
  · exact (heap_set (by dsimp only; omega) _).trans ((heap_set (by dsimp only; omega) _).trans ((heap_set (by dsimp only; omega) _).trans h.d))
  · exact ownsRow_setCell_below (ownsRow_setCell_below (ownsRow_setCell_below h.own (by dsimp only; omega) _) (by dsimp only; omega) _) (by dsimp only; omega) _
  · exact ((h.b.setCell (by dsimp only; omega) _).setCell (by dsimp only; omega) _).setCell (by dsimp only; omega) _
  · exact ((h.c.set_ 0 _).far (p := ⟨w.heap.size + 1, 0, none⟩) (by dsimp only; omega) _).far (p := ⟨w.heap.size + 2, 0, none⟩) (by dsimp only; omega) _
  · exact ((h.r.far (p := ⟨w.heap.size, 0, none⟩) (by dsimp only; omega) _).set_ 0 _).far (p := ⟨w.heap.size + 2, 0, none⟩) (by dsimp only; omega) _
  · exact ((h.e.far (p := ⟨w.heap.size, 0, none⟩) (by dsimp only; omega) _).far (p := ⟨w.heap.size + 1, 0, none⟩) (by dsimp only; omega) _).set_ 0 _
/-- Three results out of cells. -/
theorem three_cells {W W1 : World} {D B : Nat} {t0 t1 t2 : TypeId} {a b c : Value} (h0 : Blk W B t0 #[a]) (h1 : Blk W (B + 1) t1 #[b]) (h2 : Blk W (B + 2) t2 #[c]) (hD : D = B + 5) (hW : W1 = W.putObj D (.deferred none)) :
    W1.cell? ⟨B, 0, none⟩ = some a ∧ W1.cell? ⟨B + 1, 0, none⟩ = some b ∧ W1.cell? ⟨B + 1 + 1, 0, none⟩ = some c := by
  subst hW
  exact ⟨(h0.put (by omega) _).cell 0, (h1.put (by omega) _).cell 0, (h2.put (by omega) _).cell 0⟩
/-- One more. -/
theorem TsSt.added {w1 : World} {o : Obj} {v' : Value} {q : Ext} (h : TsSt w lo pre cur ev v W) (hg : (W.alloc o).grownBy w1 v.ownBlock) (hown : w1.ownsRow (w.heap.size + 7) 114 2 v' (pre.length + 1) (extCells pre ++ extCells1 q)) :
    TsSt w lo (pre ++ [q]) cur ev v' (w1.setCell ⟨w.heap.size + 3, 0, none⟩ v') := by
  have h2 := h.below ((Below.refl _ W).alloc (Nat.le_refl _) o)
  refine ⟨?_, ?_, ?_, ?_, ?_, ?_, ?_, ?_, ?_⟩
  · exact (own_cell h2.own hg h2.c (by omega)).far (p := ⟨w.heap.size + 3, 0, none⟩) (by dsimp only; omega) _
  · exact (own_cell h2.own hg h2.r (by omega)).far (p := ⟨w.heap.size + 3, 0, none⟩) (by dsimp only; omega) _
  · exact (own_cell h2.own hg h2.e (by omega)).far (p := ⟨w.heap.size + 3, 0, none⟩) (by dsimp only; omega) _
  · exact (own_cell h2.own hg h2.l (by omega)).set_ 0 _
  · rw [← extCells_add, List.length_append]
    exact ownsRow_setCell_below hown (by dsimp only; omega) _
  · exact (own_cell h2.own hg h2.x (by omega)).far (p := ⟨w.heap.size + 3, 0, none⟩) (by dsimp only; omega) _
  · exact (heap_set (by dsimp only; omega) _).trans ((own_heap h2.own hg (lt_of_block h2.d) (by omega)).trans h2.d)
  · exact (heap_set (by dsimp only; omega) _).trans ((own_heap h2.own hg (lt_of_block h2.lp) (by omega)).trans h2.lp)
  · exact (h2.b.grown hg (Nat.le_of_lt h2.c.lt) (fun k hk => by have := (h2.own.lt k hk).1; omega)).setCell (by dsimp only; omega) _
end

theorem own_sl {w : World} {B : Nat} {e : TypeId} {k : Nat} {v : Value} {n : Nat} {xs : List Value} (h : w.ownsRow B e k v n xs) : ∃ ad m cap, v = .slice ad m cap := by
  rcases h.2 with ⟨rfl, _⟩ | ⟨g, cap, cur, rfl, _⟩
  · exact ⟨_, _, _, rfl⟩
  · exact ⟨_, _, _, rfl⟩
theorem wpIn_noPanic {F : Fence} {n : Nat} {P : Program} {c : Code} {Q : Exit → Act → World → Prop} {a : Act} {w : World} (h : c.wpIn F n P (NoPanic Q) a w) : c.wpIn F n P Q a w := wpIn_mono h NoPanic.imp

def TsJ (w : World) (rec : Loop) (L : List Ext) (T : Bool) (suf : List Ext) (cur : List UInt8) (W : World) : Prop :=
  ∃ pre v, L = pre ++ suf ∧ Exts cur suf T ∧ pre.length * 8 + cur.length ≤ 5000 ∧ TsSt w rec pre cur 0 v W
def TsK (w : World) (rec : Loop) (W : World) : Prop :=
  ∃ pre cur v, TsSt w { rec with state := .done, pending := some .ret } pre cur 25 v W

/-- A slice's block is of extents. -/
def TyR (w : World) (v : Value) : Prop := ∀ g, v.ownBlock = some g → ∃ cs fr, w.heap[g]? = some (.cells cs 114 fr)
theorem tyr_row {w : World} {B : Nat} {v : Value} {n : Nat} {xs : List Value} (h : w.ownsRow B 114 2 v n xs) : TyR w v := fun g hg => by
  rcases h.2 with ⟨rfl, _⟩ | ⟨g', cap, cur, rfl, _, hh, _⟩
  · simp [Value.ownBlock] at hg
  · simp [Value.ownBlock] at hg
    subst hg
    exact ⟨cur, (0, 0), hh⟩
theorem tyr_nil (w : World) : TyR w (.slice none 0 0) := fun g hg => by simp [Value.ownBlock] at hg
/-- What ToStatus gives. -/
def TsGives (w : World) (c : Nat) (L : List Ext) (E : Int) (e : Ending) (w' : World) : Prop :=
  ∃ v, e = .returned (.tuple #[.int .u32 (c : Nat), v, .int .i64 E]) ∧ (ExtAt w' v L ∧ TyR w' v) ∧ Below w.heap.size w w'

theorem ext_nil (w : World) : ExtAt w (.slice none 0 0) [] := ⟨none, 0, rfl, .inl rfl⟩

set_option maxRecDepth 100000 in
set_option maxHeartbeats 1000000 in
theorem tostatus_bad (s : List UInt8) (hs : s.length ≤ 100000) (hb : s.length < 12 ∨ (12 ≤ s.length ∧ 4004 < s.length) ∨ (12 ≤ s.length ∧ s.length ≤ 4004 ∧ s.length % 8 ≠ 4)) (w : World) :
    Calls Try.prog 67 #[.string ⟨s.toArray⟩] w (TsGives w 0 [] 14) := by
  have hm : ((s.length : Int) - 4).tmod 8 = ((s.length : Int) - 4) % 8 ∨ s.length < 12 := by
    by_cases h : s.length < 12
    · exact .inr h
    · exact .inl (Int.tmod_eq_emod_of_nonneg (by omega))
  rcases hb with h1 | ⟨h1, h2⟩ | ⟨h1, h2, h3⟩
  · have k1 : (s.length : Int) - 4 < 8 := by omega
    clear hm
    go_enter Try.func67, Try.ntmps67
    go_wp2
    refine bodyPost_ret (v := .tuple #[.int .u32 0, .slice none 0 0, .int .i64 14]) (by simp [results, Try.results67, go_sem]) rfl ⟨_, rfl, ⟨ext_nil _, tyr_nil _⟩, ?_⟩
    (repeat' (first | (with_reducible assumption) | (with_reducible exact Below.refl _ _) | (with_reducible refine below_drewN ?_ _) | (with_reducible refine Below.drew ?_) | (with_reducible refine Below.setCell ?_ ?_ _) | (with_reducible refine Below.alloc ?_ ?_ _) | (with_reducible refine below_putObj ?_ ?_ _) | (with_reducible exact Nat.le_refl _) | omega | (simp; done) | (simp; omega)))
  · have k1 : ¬ (s.length : Int) - 4 < 8 := by omega
    have k2 : (4000 : Int) < (s.length : Int) - 4 := by omega
    clear hm
    go_enter Try.func67, Try.ntmps67
    go_wp2
    refine bodyPost_ret (v := .tuple #[.int .u32 0, .slice none 0 0, .int .i64 14]) (by simp [results, Try.results67, go_sem]) rfl ⟨_, rfl, ⟨ext_nil _, tyr_nil _⟩, ?_⟩
    (repeat' (first | (with_reducible assumption) | (with_reducible exact Below.refl _ _) | (with_reducible refine below_drewN ?_ _) | (with_reducible refine Below.drew ?_) | (with_reducible refine Below.setCell ?_ ?_ _) | (with_reducible refine Below.alloc ?_ ?_ _) | (with_reducible refine below_putObj ?_ ?_ _) | (with_reducible exact Nat.le_refl _) | omega | (simp; done) | (simp; omega)))
  · have k1 : ¬ (s.length : Int) - 4 < 8 := by omega
    have k2 : ¬ (4000 : Int) < (s.length : Int) - 4 := by omega
    have k3 : (((s.length : Int) - 4).tmod 8 != 0) = true := by
      rw [hm.resolve_right (by omega)]
      simp
      omega
    clear hm
    go_enter Try.func67, Try.ntmps67
    go_wp2
    refine bodyPost_ret (v := .tuple #[.int .u32 0, .slice none 0 0, .int .i64 14]) (by simp [results, Try.results67, go_sem]) rfl ⟨_, rfl, ⟨ext_nil _, tyr_nil _⟩, ?_⟩
    (repeat' (first | (with_reducible assumption) | (with_reducible exact Below.refl _ _) | (with_reducible refine below_drewN ?_ _) | (with_reducible refine Below.drew ?_) | (with_reducible refine Below.setCell ?_ ?_ _) | (with_reducible refine Below.alloc ?_ ?_ _) | (with_reducible refine below_putObj ?_ ?_ _) | (with_reducible exact Nat.le_refl _) | omega | (simp; done) | (simp; omega)))

set_option maxRecDepth 100000 in
set_option maxHeartbeats 2000000 in
theorem tostatus_good (s : List UInt8) (h1 : 12 ≤ s.length) (h2 : s.length ≤ 4004) (h3 : s.length % 8 = 4) (L : List Ext) (T : Bool) (hL : Exts (s.drop 4) L T) (w : World) (Q : Ending → World → Prop)
    (hQ : (T = true ∧ ∀ e w', TsGives w (rnum s 0 4) L 0 e w' → Q e w') ∨ (T = false ∧ ∀ e w', TsGives w 0 [] 25 e w' → Q e w')) :
    Calls Try.prog 67 #[.string ⟨s.toArray⟩] w Q := by
  have hm : ((s.length : Int) - 4).tmod 8 = ((s.length : Int) - 4) % 8 := Int.tmod_eq_emod_of_nonneg (by omega)
  have k1 : ¬ (s.length : Int) - 4 < 8 := by omega
  have k2 : ¬ (4000 : Int) < (s.length : Int) - 4 := by omega
  have k3 : (((s.length : Int) - 4).tmod 8 != 0) = false := by
    rw [hm]
    simp
    omega
  have k4 : (4 : Int) ≤ (s.length : Int) := by omega
  clear hm
  have HQ := Lib.hid hQ
  have HLL := Lib.hid hL
  have HAT := Lib.hid (fun W => at_any s 0 4 (by decide) (by decide) (by omega) (by omega) W)
  have la := rnum_lt s 0 4
  have hwa : IntKind.u32.wrap (rnum s 0 4 : Int) = (rnum s 0 4 : Int) := by rw [IntKind.wrap_u32]; omega
  clear hQ hL
  generalize rnum s 0 4 = a at HQ HAT la hwa
  obtain ⟨i0, hi, hz0, hz1, hz2⟩ := info_parts Try.infoExt
  have mixed : Try.prog.follows .mixedOrders = true := by kernel_rfl
  refine calls_of_marks Try.func67 rfl ?_
  simp only [Try.ntmps67, List.size_toArray, List.length_cons, List.length_nil, Nat.reduceAdd, Nat.reduceSub, Array.replicate_succ, Array.replicate_zero, List.push_toArray, List.append_toArray, List.nil_append, List.cons_append]
  gi_wp2_with (gi_at_call 74; refine ((callsIn_wide (n := 0)).2 (extents_any _ _)).mono ?_; rintro e w' ⟨rfl, rfl⟩)
  refine wpIn_range (gf := 80) (lb := #[.pointer (some ⟨w.heap.size + 4, 0, none⟩)]) rfl (enters_of Try.func80 (by kernel_rfl) rfl) ?_
  intro rec hr1 hr2 hr3 hr4 hr5 hr6
  simp only [World.size_alloc]
  refine (extents1 (w.heap.size + 4 + 1 + 1) (w.heap.size + 4) T (TsJ w rec L T) (TsK w rec) ?_ ?_ ?_ ?_ L (s.drop 4) _ ?_).mono ?_
  · rintro suf cur W ⟨pre, v, hL, ha, hn, hS⟩
    exact ⟨hS.x.cell 0, ha, by omega⟩
  · rintro suf cur W W' ⟨pre, v, hL, ha, hn, hS⟩ hb
    exact ⟨pre, v, hL, ha, hn, hS.below hb⟩
  · rintro suf cur W ⟨pre, v, hL, ha, hn, hS⟩ h8 hz ha2
    refine yieldAt_of hS.lp hr1 (by rw [hr4]; rfl) ?_
    rw [hr3, hr4, hr5]
    have HL := Lib.hid hL
    have HS := Lib.hid hS
    have HA2 := Lib.hid ha2
    have hp2 : ¬ ((rnum cur 0 4 : Nat) : Int) = 0 := by omega
    have hp3 : (((rnum cur 0 4 : Nat) : Int) == 0) = false := by simp; omega
    have HE : Hid (ext1 cur = ⟨(rnum cur 0 4 : Nat), (rnum cur 4 4 : Nat)⟩) := Lib.hid rfl
    clear hL hS ha ha2 hz
    generalize rnum cur 0 4 = p at hp2 hp3 HE ⊢
    generalize rnum cur 4 4 = q at HE ⊢
    gi_wp2
    refine ⟨heap_old HS.out.lp _, fun W2 hW2 => ?_⟩
    rw [hr6]
    have hlt := lt_of_block HS.out.lp
    have x2 : Blk W2 W.heap.size 114 #[.int .i64 (p : Nat), .int .i64 (q : Nat)] := by rw [hW2]; exact (Blk.new W _ _).put (by omega) _
    have S2 : TsSt w { rec with state := .busy } pre cur 0 v W2 := by rw [hW2]; exact (HS.out.below ((Below.refl _ W).alloc (Nat.le_refl _) _)).put _
    have hg2 := x2.lt
    generalize W.heap.size = g at x2 hlt hg2
    clear hW2 HS
    have a0 : W2.cell? ⟨w.heap.size + 1 + 1 + 1, 0, none⟩ = some v := S2.l.cell 0
    have a1 := x2.cell 0
    have a2 := x2.cell 1
    simp only [List.getElem?_toArray, List.getElem?_cons_zero, List.getElem?_cons_succ] at a1 a2
    have hown := S2.own.alloc (.cells #[.int .i64 (p : Nat), .int .i64 (q : Nat)] 114)
    have SS := Lib.hid S2
    have HR1 := Lib.hid hr1
    have HR2 := Lib.hid hr2
    have hsz := S2.b.size
    clear S2 x2 hr1 hr2 hr3 hr4 hr5 hr6
    gi_wp2_with (gi_at_builtin; refine wpListIn_append_own _ rfl _ _ 88 rfl (w.heap.size + 7) 114 i0 _ 2 16 Try.underlying88 hi hz0 hz1 hz2 rfl (by decide) _ _ _ rfl hown ⟨W2.heap.size, 0, none⟩ 1 1 (extCells1 ⟨(p : Nat), (q : Nat)⟩) rfl rfl ?c1 ?c2 ?c3 ?c4 ?c5 ?_)
    case c1 => exact World.news_of_block (heap_alloc_new W2 _)
    case c2 => intro u hu; simp [extCells1] at hu; rcases hu with rfl | rfl <;> rfl
    case c3 => unfold maxLen; omega
    case c4 => omega
    case c5 => simp; omega
    intro v' w1 hown' hgrow _
    obtain ⟨ad, cap, rfl⟩ : ∃ ad cap, v' = .slice ad (pre.length + 1) cap := by
      rcases hown'.2 with ⟨_, hx⟩ | ⟨g, cap, cur, rfl, _⟩
      · omega
      · exact ⟨_, _, rfl⟩
    have S3 := TsSt.added SS.out hgrow hown'
    have z0 : w1.cell? ⟨w.heap.size + 1 + 1 + 1, 0, none⟩ = some v := (own_cell hown hgrow (SS.out.l.alloc _) (by omega)).cell 0
    have z1 : w1.frozen? ⟨w.heap.size + 1 + 1 + 1, 0, none⟩ = false := (own_cell hown hgrow (SS.out.l.alloc _) (by omega)).frozen 0
    have S4 := Lib.hid (TsSt.ready HR1.out HR2.out S3)
    have S5 := Lib.hid S3.lp
    clear hown hown' hgrow S3 a0
    gi_wp2
    exact ⟨S5.out, rfl, S4.out.x.cell 0, S4.out.x.frozen 0, pre ++ [⟨(p : Nat), (q : Nat)⟩], _, by rw [HL.out, HE.out]; simp, HA2.out, by rw [List.length_append, List.length_drop]; simp; omega, S4.out.next _⟩
  · rintro cur W ⟨pre, v, hL, ha, hn, hS⟩ hT h8 hz
    refine yieldAt_of hS.lp hr1 (by rw [hr4]; rfl) ?_
    rw [hr3, hr4, hr5]
    have HS := Lib.hid hS
    have hz3 : (((rnum cur 0 4 : Nat) : Int) == 0) = true := by simp; omega
    clear hL hS ha hz
    generalize rnum cur 0 4 = p at hz3 ⊢
    generalize rnum cur 4 4 = q
    gi_wp2
    refine ⟨heap_old HS.out.lp _, fun W2 hW2 => ?_⟩
    rw [hr6]
    have hlt := lt_of_block HS.out.lp
    have x2 : Blk W2 W.heap.size 114 #[.int .i64 (p : Nat), .int .i64 (q : Nat)] := by rw [hW2]; exact (Blk.new W _ _).put (by omega) _
    have S2 : TsSt w { rec with state := .busy } pre cur 0 v W2 := by rw [hW2]; exact (HS.out.below ((Below.refl _ W).alloc (Nat.le_refl _) _)).put _
    generalize W.heap.size = g at x2 hlt
    clear hW2 HS
    have a0 : W2.cell? ⟨w.heap.size, 0, none⟩ = some (.int .u32 0) := S2.c.cell 0
    have a1 : W2.cell? ⟨w.heap.size + 1, 0, none⟩ = some (.slice none 0 0) := S2.r.cell 0
    have a2 : W2.cell? ⟨w.heap.size + 1 + 1, 0, none⟩ = some (.int .i64 0) := S2.e.cell 0
    have a3 := x2.cell 0
    have f0 : W2.frozen? ⟨w.heap.size, 0, none⟩ = false := S2.c.frozen 0
    have f1 : W2.frozen? ⟨w.heap.size + 1, 0, none⟩ = false := S2.r.frozen 0
    have f2 : W2.frozen? ⟨w.heap.size + 1 + 1, 0, none⟩ = false := S2.e.frozen 0
    simp only [List.getElem?_toArray, List.getElem?_cons_zero] at a3
    have SS := Lib.hid (S2.bad 25)
    clear S2 x2 hr1 hr2 hr3 hr4 hr5 hr6
    gi_wp2
    exact ⟨SS.out.lp, rfl, pre, cur, v, SS.out.put _⟩
  · refine ⟨[], .slice none 0 0, by simp, HLL.out, by rw [List.length_drop]; simp; omega, ⟨?_, ?_, ?_, ?_, ?_, ?_, ?_, ?_, ?_⟩⟩
    · exact ((((((Blk.new w _ _).alloc _).alloc _).alloc _).alloc _).alloc _).alloc _
    · exact (((((Blk.newAt (by simp)).alloc _).alloc _).alloc _).alloc _).alloc _
    · exact ((((Blk.newAt (by simp)).alloc _).alloc _).alloc _).alloc _
    · exact (((Blk.newAt (by simp)).alloc _).alloc _).alloc _
    · exact World.ownsRow_nil _ _ _ _
    · exact ((Blk.newAt (by simp)).alloc _).alloc _
    · exact heap_old (heap_newAt (by simp) _) _
    · exact heap_newAt (by simp) _
    · (repeat' (first | (with_reducible assumption) | (with_reducible exact Below.refl _ _) | (with_reducible refine below_drewN ?_ _) | (with_reducible refine Below.drew ?_) | (with_reducible refine Below.setCell ?_ ?_ _) | (with_reducible refine Below.alloc ?_ ?_ _) | (with_reducible refine below_putObj ?_ ?_ _) | (with_reducible exact Nat.le_refl _) | omega | (simp; done) | (simp; omega)))
  · rintro e W ⟨rfl, hK⟩
    rcases hK with ⟨rfl, pre, v, hL, ha, hn, hS⟩ | ⟨rfl, pre, cur, v, hS⟩
    · refine ⟨⟨_, rfl⟩, .ready, by simp, .inl ⟨by rw [rec_ready hr1 hr2]; exact hS.lp, ?_⟩⟩
      have hL2 : pre = L := by rw [hL]; simp
      subst hL2
      have S1 := hS.put { rec with state := .exhausted, pending := none }
      generalize W.putObj _ _ = W1 at S1 ⊢
      have HQ1 := Lib.hid ((HQ.out.resolve_right (fun h => by cases h.1)).2)
      clear hS ha hL HQ
      have a0 : W1.cell? ⟨w.heap.size, 0, none⟩ = some (.int .u32 0) := S1.c.cell 0
      have a1 : W1.cell? ⟨w.heap.size + 1, 0, none⟩ = some (.slice none 0 0) := S1.r.cell 0
      have a2 : W1.cell? ⟨w.heap.size + 1 + 1, 0, none⟩ = some (.int .i64 0) := S1.e.cell 0
      obtain ⟨ad, m, cap, rfl⟩ := own_sl S1.own
      have a3 : W1.cell? ⟨w.heap.size + 1 + 1 + 1, 0, none⟩ = some (.slice ad m cap) := S1.l.cell 0
      have f0 : W1.frozen? ⟨w.heap.size, 0, none⟩ = false := S1.c.frozen 0
      have f1 : W1.frozen? ⟨w.heap.size + 1, 0, none⟩ = false := S1.r.frozen 0
      have f2 : W1.frozen? ⟨w.heap.size + 1 + 1, 0, none⟩ = false := S1.e.frozen 0
      have SS := Lib.hid S1
      clear S1 hr1 hr2 hr3 hr4 hr5 hr6
      gi_wp2
      refine wpIn_noPanic ?_
      gi_region_with (gi_at_call 51; refine ((callsIn_wide (n := 0)).2 (HAT.out _)).mono ?_; rintro e w9 ⟨rfl, hb9⟩; have T9 := Lib.hid (SS.out.below (below_next ((Below.refl _ W1).drew) hb9)); have y0 : w9.cell? ⟨w.heap.size, 0, none⟩ = some (.int .u32 0) := T9.out.c.cell 0; have y1 : w9.cell? ⟨w.heap.size + 1, 0, none⟩ = some (.slice none 0 0) := T9.out.r.cell 0; have y2 : w9.cell? ⟨w.heap.size + 1 + 1, 0, none⟩ = some (.int .i64 0) := T9.out.e.cell 0; have y3 : w9.cell? ⟨w.heap.size + 1 + 1 + 1, 0, none⟩ = some (.slice ad m cap) := T9.out.l.cell 0; have j0 : w9.frozen? ⟨w.heap.size, 0, none⟩ = false := T9.out.c.frozen 0; have j1 : w9.frozen? ⟨w.heap.size + 1, 0, none⟩ = false := T9.out.r.frozen 0; have j2 : w9.frozen? ⟨w.heap.size + 1 + 1, 0, none⟩ = false := T9.out.e.frozen 0)
      all_goals
        refine NoPanic.normal ?_
        gi_wp2
        have U := T9.out.fin (.int .u32 (a : Nat)) rfl
        have V := three_cells U.2.2.2.1 U.2.2.2.2.1 U.2.2.2.2.2 rfl rfl
        obtain ⟨V0, V1, V2⟩ := V
        refine leaves_mark U.1 (by simp [results, Try.results67, go_sem, V0, V1, V2]; rfl) ?_
        exact HQ1.out _ _ ⟨_, rfl, ⟨own_ext (own_put U.2.1 (by omega) _), tyr_row (own_put U.2.1 (by omega) _)⟩, below_putObj U.2.2.1 (by omega) _⟩
    · refine ⟨⟨_, rfl⟩, .done, by simp, .inr ⟨_, hS.lp, ?_⟩⟩
      have S1 := hS.put { rec with state := .exhausted, pending := some .ret }
      generalize W.putObj _ _ = W1 at S1 ⊢
      have HQ1 := Lib.hid ((HQ.out.resolve_left (fun h => by cases h.1)).2)
      clear hS HQ
      have a0 : W1.cell? ⟨w.heap.size, 0, none⟩ = some (.int .u32 0) := S1.c.cell 0
      have a1 : W1.cell? ⟨w.heap.size + 1, 0, none⟩ = some (.slice none 0 0) := S1.r.cell 0
      have a2 : W1.cell? ⟨w.heap.size + 1 + 1, 0, none⟩ = some (.int .i64 25) := S1.e.cell 0
      have SS := Lib.hid S1
      clear S1 hr1 hr2 hr3 hr4 hr5 hr6
      gi_wp2
      obtain ⟨V0, V1, V2⟩ := three_cells SS.out.c SS.out.r SS.out.e rfl rfl
      refine leaves_mark SS.out.d (by simp [results, Try.results67, go_sem, V0, V1, V2]; rfl) ?_
      exact HQ1.out _ _ ⟨_, rfl, ⟨ext_nil _, tyr_nil _⟩, below_putObj SS.out.b (by omega) _⟩

end Go.Proofs.Ytfcojhpnpfodeaa
