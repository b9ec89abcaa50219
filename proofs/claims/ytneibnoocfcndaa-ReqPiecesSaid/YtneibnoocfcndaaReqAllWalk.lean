/- req.All: requests as far as they are whole. -/
import Derived.Test.YtneibnoocfcndaaReqIter
import Derived.Maps.AppendAt
import Derived.Deep.AppendLies
import Derived.Test.YtneibnoocfcndaaRoundHeld
import Derived.WalkMore
import Derived.RegionIn
namespace Go.Proofs.Ytneibnoocfcndaa
open Go.RowKit Go.Shelf

attribute [local go_sem] Oper.semAt_some

theorem wpIn_scope_wide {P : Program} {c : Code} {Q : Exit → Act → World → Prop} {a : Act} {w : World} (h : c.wpIn Fence.wide 0 P (Exit.noGoto Q) a w) : (Code.scope c).wpIn Fence.wide 0 P Q a w :=
  wpIn_wide.2 (wp_scope_straight (wpIn_wide.1 h))

theorem Try.infoReq : (Try.prog.info? 25).map (fun i => (i.zero, i.size, i.bytes)) = some (some (.agg #[.int .i64 0, .int .i64 0, .int .u64 0, .int .u64 0, .int .u32 0, .string ⟨#[]⟩]), 6, 56) := by kernel_rfl

def reqCells1 (q : Req) : List Value := [.int .i64 q.flags, .int .i64 q.kind, .int .u64 (q.cookie : Nat), .int .u64 (q.frm : Nat), .int .u32 (q.len : Nat), .string ⟨q.data.toArray⟩]
/-- Requests as the cells of a row. -/
def reqCells (l : List Req) : List Value := l.flatMap reqCells1
theorem reqCells_add (l : List Req) (q : Req) : reqCells l ++ reqCells1 q = reqCells (l ++ [q]) := by simp [reqCells]

theorem requests_any (s : List UInt8) (w : World) :
    Calls Try.prog 17 #[.string ⟨s.toArray⟩] w fun e w' => e = .returned (.func (.func 21) #[] #[.pointer (some ⟨w.heap.size, 0, none⟩)]) ∧ w.alloc (.cells #[.string ⟨s.toArray⟩] 9) = w' := by
  go_enter Try.func17, Try.ntmps17
  go_wp2
  go_ret
  exact ⟨rfl, rfl⟩

/-- What All's loop holds. -/
structure AllSt (w : World) (lo : Loop) (pre : List Req) (sc rc : List UInt8) (ev : Int) (v : Value) (W : World) : Prop where
  s : Blk W w.heap.size 9 #[.string ⟨sc.toArray⟩]
  l : Blk W (w.heap.size + 1) 35 #[v]
  own : W.ownsRow (w.heap.size + 6) 25 6 v pre.length (reqCells pre)
  e : Blk W (w.heap.size + 2) 27 #[.int .i64 ev]
  r : Blk W (w.heap.size + 3) 9 #[.string ⟨rc.toArray⟩]
  d : W.heap[w.heap.size + 4]? = some (.deferred (some []))
  lp : W.heap[w.heap.size + 5]? = some (.loop lo)
  b : Below w.heap.size w W

theorem own_below {B : Nat} {e : TypeId} {k : Nat} {v : Value} {n : Nat} {xs : List Value} {w w' : World} (h : w.ownsRow B e k v n xs) (hb : Below w.heap.size w w') : w'.ownsRow B e k v n xs :=
  h.kept (row := none) ⟨hb.os, hb.tape, hb.output, hb.size, fun j hj _ => hb.block j hj⟩ (by cases hv : v.ownBlock <;> simp)
theorem own_less {B B' : Nat} {e : TypeId} {k : Nat} {v : Value} {n : Nat} {xs : List Value} {w : World} (h : w.ownsRow B e k v n xs) (hB : B' ≤ B) : w.ownsRow B' e k v n xs := by
  refine ⟨h.1, ?_⟩
  rcases h.2 with h2 | ⟨g, cap, cur, hv, hb, rest⟩
  · exact .inl h2
  · exact .inr ⟨g, cap, cur, hv, Nat.le_trans hB hb, rest⟩
theorem own_put {B : Nat} {e : TypeId} {k : Nat} {v : Value} {n : Nat} {xs : List Value} {w : World} (h : w.ownsRow B e k v n xs) {l : Nat} (hl : l < B) (o : Obj) : (w.putObj l o).ownsRow B e k v n xs := by
  refine h.kept (row := some l) ⟨rfl, rfl, rfl, by simp, fun j _ hne => World.putObj_heap_other (fun e => hne (by rw [e]))⟩ (.inr ?_)
  intro e
  have := (h.lt l e).1
  omega

theorem AllSt.below {w : World} {lo : Loop} {pre : List Req} {sc rc : List UInt8} {ev : Int} {v : Value} {W W' : World} (h : AllSt w lo pre sc rc ev v W) (hb : Below W.heap.size W W') : AllSt w lo pre sc rc ev v W' :=
  ⟨h.s.below hb h.s.lt, h.l.below hb h.l.lt, own_below h.own hb, h.e.below hb h.e.lt, h.r.below hb h.r.lt, (hb.block _ (lt_of_block h.d)).trans h.d, (hb.block _ (lt_of_block h.lp)).trans h.lp, below_next h.b hb⟩
theorem AllSt.put {w : World} {lo : Loop} {pre : List Req} {sc rc : List UInt8} {ev : Int} {v : Value} {W : World} (h : AllSt w lo pre sc rc ev v W) (lo' : Loop) : AllSt w lo' pre sc rc ev v (W.putObj (w.heap.size + 5) (.loop lo')) :=
  ⟨h.s.put (by omega) _, h.l.put (by omega) _, own_put h.own (by omega) _, h.e.put (by omega) _, h.r.put (by omega) _, (World.putObj_heap_other (by omega)).trans h.d, World.putObj_heap_same (lt_of_block h.lp), below_putObj h.b (by omega) _⟩
theorem AllSt.ready {w : World} {rec lo : Loop} {pre : List Req} {sc rc : List UInt8} {ev : Int} {v : Value} {W : World} (h1 : rec.state = .ready) (h2 : rec.pending = none) (h : AllSt w lo pre sc rc ev v W) :
    AllSt w rec pre sc rc ev v (W.putObj (w.heap.size + 5) (.loop { rec with state := .ready, pending := none })) := by
  rw [rec_ready h1 h2]
  exact h.put rec
theorem AllSt.next {w : World} {lo : Loop} {pre : List Req} {sc rc : List UInt8} {ev : Int} {v : Value} {W : World} (h : AllSt w lo pre sc rc ev v W) (x : List UInt8) : AllSt w lo pre sc x ev v (W.setCell ⟨w.heap.size + 3, 0, none⟩ (.string ⟨x.toArray⟩)) :=
  ⟨h.s.far (p := ⟨w.heap.size + 3, 0, none⟩) (by dsimp only; omega) _, h.l.far (p := ⟨w.heap.size + 3, 0, none⟩) (by dsimp only; omega) _, ownsRow_setCell_below h.own (by dsimp only; omega) _, h.e.far (p := ⟨w.heap.size + 3, 0, none⟩) (by dsimp only; omega) _,
    h.r.set_ 0 _, (heap_set (by dsimp only; omega) _).trans h.d, (heap_set (by dsimp only; omega) _).trans h.lp, h.b.setCell (by dsimp only; omega) _⟩
theorem AllSt.err {w : World} {lo : Loop} {pre : List Req} {sc rc : List UInt8} {ev : Int} {v : Value} {W : World} (h : AllSt w lo pre sc rc ev v W) (x : Int) : AllSt w lo pre sc rc x v (W.setCell ⟨w.heap.size + 2, 0, none⟩ (.int .i64 x)) :=
  ⟨h.s.far (p := ⟨w.heap.size + 2, 0, none⟩) (by dsimp only; omega) _, h.l.far (p := ⟨w.heap.size + 2, 0, none⟩) (by dsimp only; omega) _, ownsRow_setCell_below h.own (by dsimp only; omega) _, h.e.set_ 0 _, h.r.far (p := ⟨w.heap.size + 2, 0, none⟩) (by dsimp only; omega) _,
    (heap_set (by dsimp only; omega) _).trans h.d, (heap_set (by dsimp only; omega) _).trans h.lp, h.b.setCell (by dsimp only; omega) _⟩

theorem cells7 {W : World} {g : Nat} {t : TypeId} {c0 c1 c2 c3 c4 c5 c6 : Value} (h : Blk W g t #[c0, c1, c2, c3, c4, c5, c6]) :
    W.cell? ⟨g, 0, none⟩ = some c0 ∧ W.cell? ⟨g, 1, none⟩ = some c1 ∧ W.cell? ⟨g, 2, none⟩ = some c2 ∧ W.cell? ⟨g, 3, none⟩ = some c3 ∧ W.cell? ⟨g, 4, none⟩ = some c4 ∧ W.cell? ⟨g, 5, none⟩ = some c5 ∧ W.cell? ⟨g, 6, none⟩ = some c6 :=
  ⟨h.cell 0, h.cell 1, h.cell 2, h.cell 3, h.cell 4, h.cell 5, h.cell 6⟩

/-- An append to a row leaves each other block. -/
theorem row_keeps {W w1 : World} {B : Nat} {e : TypeId} {k : Nat} {v : Value} {n : Nat} {xs : List Value} {b : Nat} {t : TypeId} {cs : Array Value} (hown : W.ownsRow B e k v n xs) (hg : W.grownBy w1 v.ownBlock) (h : Blk W b t cs) (hb : b < B ∨ t ≠ e) : Blk w1 b t cs := by
  refine (hg.block b h.lt ?_).trans h
  intro hv
  rcases hown.2 with ⟨rfl, _⟩ | ⟨g, cap, cur, rfl, hB, hgg, _⟩
  · simp [Value.ownBlock] at hv
  · simp [Value.ownBlock] at hv
    subst hv
    rcases hb with hb | hb
    · omega
    · unfold Blk at h
      rw [h] at hgg
      simp at hgg
      exact hb hgg.2

theorem row_heap {W w1 : World} {B : Nat} {e : TypeId} {k : Nat} {v : Value} {n : Nat} {xs : List Value} {b : Nat} (hown : W.ownsRow B e k v n xs) (hg : W.grownBy w1 v.ownBlock) (hl : b < W.heap.size) (hb : b < B) : w1.heap[b]? = W.heap[b]? := by
  refine hg.block b hl ?_
  intro hv
  have := (hown.lt b hv.symm).1
  omega

theorem AllSt.appended {w : World} {lo : Loop} {pre : List Req} {sc rc : List UInt8} {ev : Int} {v v' : Value} {W w1 : World} {o : Obj} {q : Req} {r : List UInt8} (h : AllSt w lo pre sc rc ev v W) (hg : (W.alloc o).drew.grownBy w1 v.ownBlock)
    (hown : w1.ownsRow (w.heap.size + 6) 25 6 v' (pre.length + 1) (reqCells pre ++ reqCells1 q)) :
    AllSt w lo (pre ++ [q]) r rc ev v' ((w1.setCell ⟨w.heap.size + 1, 0, none⟩ v').setCell ⟨w.heap.size, 0, none⟩ (.string ⟨r.toArray⟩)) := by
  have h2 : AllSt w lo pre sc rc ev v (W.alloc o).drew := h.below ((Below.refl _ W).alloc (Nat.le_refl _) _).drew
  have k1 := row_keeps h2.own hg h2.s (.inl (by omega))
  have k2 := row_keeps h2.own hg h2.l (.inl (by omega))
  have k3 := row_keeps h2.own hg h2.e (.inl (by omega))
  have k4 := row_keeps h2.own hg h2.r (.inl (by omega))
  have k5 := (row_heap h2.own hg (lt_of_block h2.d) (by omega)).trans h2.d
  have k6 := (row_heap h2.own hg (lt_of_block h2.lp) (by omega)).trans h2.lp
  have kB : Below w.heap.size w w1 := h2.b.grown hg (Nat.le_of_lt h2.s.lt) (fun k hk => by have := (h2.own.lt k hk).1; omega)
  refine ⟨?_, ?_, ?_, ?_, ?_, ?_, ?_, ?_⟩
  · exact (k1.far (p := ⟨w.heap.size + 1, 0, none⟩) (by dsimp only; omega) _).set_ 0 _
  · exact (k2.set_ 0 _).far (p := ⟨w.heap.size, 0, none⟩) (by dsimp only; omega) _
  · rw [← reqCells_add, List.length_append]
    exact ownsRow_setCell_below (ownsRow_setCell_below hown (by dsimp only; omega) _) (by dsimp only; omega) _
  · exact (k3.far (p := ⟨w.heap.size + 1, 0, none⟩) (by dsimp only; omega) _).far (p := ⟨w.heap.size, 0, none⟩) (by dsimp only; omega) _
  · exact (k4.far (p := ⟨w.heap.size + 1, 0, none⟩) (by dsimp only; omega) _).far (p := ⟨w.heap.size, 0, none⟩) (by dsimp only; omega) _
  · exact (heap_set (by dsimp only; omega) _).trans ((heap_set (by dsimp only; omega) _).trans k5)
  · exact (heap_set (by dsimp only; omega) _).trans ((heap_set (by dsimp only; omega) _).trans k6)
  · exact (kB.setCell (by dsimp only; omega) _).setCell (by dsimp only; omega) _

/-- Ahead of a round: cur is still to be read; suf are its requests. -/
def AllJ (w : World) (rec : Loop) (L : List Req) (T : List UInt8) (E : Int) (suf : List Req) (cur : List UInt8) (W : World) : Prop :=
  ∃ pre v, L = pre ++ suf ∧ Alls cur suf T E ∧ pre.length * 28 + cur.length ≤ 1000000 ∧ AllSt w rec pre cur cur 0 v W
/-- Behind the round that ended it. -/
def AllK (w : World) (rec : Loop) (L : List Req) (T : List UInt8) (E : Int) (W : World) : Prop :=
  ∃ v, AllSt w { rec with state := .done, pending := some (.exit 0) } L T T E v W

/-- What All gives: the requests as a row of the call's own, what is left, the error. -/
def AllGives (w : World) (L : List Req) (T : List UInt8) (E : Int) (e : Ending) (w' : World) : Prop :=
  ∃ v, e = .returned (.tuple #[v, .string ⟨T.toArray⟩, .int .i64 E]) ∧ w'.ownsRow w.heap.size 25 6 v L.length (reqCells L) ∧ Below w.heap.size w w'

set_option maxRecDepth 100000 in
set_option maxHeartbeats 1000000 in
theorem all_any (s : List UInt8) (hs : s.length ≤ 1000000) (L : List Req) (T : List UInt8) (E : Int) (h : Alls s L T E) (E' : Int) (hE : E' = if E = 22 then 0 else E) (w : World) :
    Calls Try.prog 11 #[.string ⟨s.toArray⟩] w (AllGives w L T E') := by
  have HA := Lib.hid h
  have HE := Lib.hid hE
  clear h hE
  obtain ⟨i0, hi, hz0, hz1, hz2⟩ := info_parts Try.infoReq
  refine calls_of_marks Try.func11 rfl ?_
  simp only [Try.ntmps11, List.size_toArray, List.length_cons, List.length_nil, Nat.reduceAdd, Nat.reduceSub, Array.replicate_succ, Array.replicate_zero, List.push_toArray, List.append_toArray, List.nil_append, List.cons_append]
  gi_wp2
  refine wpIn_scope_wide ?_
  gi_wp2
  refine wpIn_label ?_
  gi_wp2_with (gi_at_call 17; refine ((callsIn_wide (n := 0)).2 (requests_any _ _)).mono ?_; rintro e w' ⟨rfl, rfl⟩)
  refine wpIn_range (gf := 21) (lb := #[.pointer (some ⟨w.heap.size + 3, 0, none⟩)]) rfl (enters_of Try.func21 (by kernel_rfl) rfl) ?_
  intro rec hr1 hr2 hr3 hr4 hr5 hr6
  simp only [World.size_alloc]
  refine (requests1 (w.heap.size + 3 + 1 + 1) (w.heap.size + 3) T E
    (AllJ w rec L T E) (AllK w rec L T E) ?_ ?_ ?_ ?_ L s _ ?_).mono ?_
  · rintro suf cur W ⟨pre, v, hL, ha, hn, hS⟩
    exact ⟨hS.r.cell 0, ha, by omega⟩
  · rintro suf cur W W' ⟨pre, v, hL, ha, hn, hS⟩ hb
    exact ⟨pre, v, hL, ha, hn, hS.below hb⟩
  · rintro q suf cur r W ⟨pre, v, hL, ha, hn, hS⟩ hne hr
    refine yieldAt_of hS.lp hr1 (by rw [hr4]; rfl) ?_
    rw [hr3, hr4, hr5]
    obtain ⟨fl, kd, ck, fr, ln, d⟩ := q
    have HR := Lib.hid hr
    have HL := Lib.hid hL
    have HS := Lib.hid hS
    have HA2 := Lib.hid (alls_more ha hr)
    clear hr hL hS ha
    gi_wp2
    refine ⟨heap_old HS.out.lp _, fun W2 hW2 => ?_⟩
    rw [hr6]
    have hlt := lt_of_block HS.out.lp
    have x2 : Blk W2 W.heap.size 59 #[.int .i64 fl, .int .i64 kd, .int .u64 (ck : Nat), .int .u64 (fr : Nat), .int .u32 (ln : Nat), .string ⟨d.toArray⟩, .string ⟨r.toArray⟩] := by
      rw [hW2]; exact (Blk.new W _ _).put (by omega) _
    have S2 : AllSt w { rec with state := .busy } pre cur cur 0 v W2 := by
      rw [hW2]; exact (HS.out.below ((Below.refl _ W).alloc (Nat.le_refl _) _)).put _
    have hg : W.heap.size < W2.heap.size := x2.lt
    generalize W.heap.size = g at x2 hlt hg
    clear hW2 HS
    have a0 : W2.cell? ⟨w.heap.size + 1, 0, none⟩ = some v := S2.l.cell 0
    have a1 := x2.cell 0
    have a2 := x2.cell 1
    have a3 := x2.cell 2
    have a4 := x2.cell 3
    have a5 := x2.cell 4
    have a6 := x2.cell 5
    have a7 := x2.cell 6
    simp only [List.getElem?_toArray, List.getElem?_cons_zero, List.getElem?_cons_succ] at a1 a2 a3 a4 a5 a6 a7
    have SS := Lib.hid S2
    have XX := Lib.hid x2
    have HR1 := Lib.hid hr1
    have HR2 := Lib.hid hr2
    clear S2 x2 hr1 hr2 hr3 hr4 hr5 hr6
    have mixed : Try.prog.follows .mixedOrders = true := by kernel_rfl
    gi_wp2
    have hown : ((W2.alloc (.cells #[.int .i64 fl, .int .i64 kd, .int .u64 (ck : Nat), .int .u64 (fr : Nat), .int .u32 (ln : Nat), .string ⟨d.toArray⟩] 25)).drew).ownsRow (w.heap.size + 6) 25 6 v pre.length (reqCells pre) := own_below (SS.out.own.alloc _) (Below.refl _ _).drew
    have hone : ∀ u ∈ reqCells1 ⟨fl, kd, ck, fr, ln, d⟩, u.oneCell' = true := by intro u hu; simp [reqCells1] at hu; rcases hu with rfl | rfl | rfl | rfl | rfl | rfl <;> rfl
    have hbase : w.heap.size + 6 ≤ ((W2.alloc (.cells #[.int .i64 fl, .int .i64 kd, .int .u64 (ck : Nat), .int .u64 (fr : Nat), .int .u32 (ln : Nat), .string ⟨d.toArray⟩] 25)).drew).heap.size := by simp; omega
    refine wpIn_region_held (fun W' => W'.cell? ⟨g, 0, none⟩ = some (.int .i64 fl) ∧ W'.cell? ⟨g, 1, none⟩ = some (.int .i64 kd) ∧ W'.cell? ⟨g, 2, none⟩ = some (.int .u64 (ck : Nat)) ∧ W'.cell? ⟨g, 3, none⟩ = some (.int .u64 (fr : Nat)) ∧ W'.cell? ⟨g, 4, none⟩ = some (.int .u32 (ln : Nat)) ∧ W'.cell? ⟨g, 5, none⟩ = some (.string ⟨d.toArray⟩) ∧ W'.cell? ⟨g, 6, none⟩ = some (.string ⟨r.toArray⟩)) mixed (plain_ops (by kernel_rfl)) (cells7 XX.out.drew) (fun hHeld => ?_)
    refine wpAnyH_take (i := 1) (v := ?_) (by simp only [List.getElem?_toArray, List.getElem?_cons_succ, List.getElem?_cons_zero]; rfl) (by kernel_rfl) (by kernel_rfl) (by kernel_rfl) (fun c _ w h => norm_panic c _ _ w h) (Or.inl ⟨by rfl, ?_⟩) (by assumption) ?_
    rotate_left
    · intro w hSw; (try dsimp only at hSw); go_simp; try (with_reducible rfl)
    try simp only [Act.put, List.setIfInBounds_toArray, List.set_cons_zero, List.set_cons_succ]
    refine wpAnyH_take (i := 5) (v := ?_) (by simp only [List.getElem?_toArray, List.getElem?_cons_succ, List.getElem?_cons_zero]; rfl) (by kernel_rfl) (by kernel_rfl) (by kernel_rfl) (fun c _ w h => norm_panic c _ _ w h) (Or.inl ⟨by rfl, ?_⟩) (by assumption) ?_
    rotate_left
    · intro w hSw; (try dsimp only at hSw); go_simp; try (with_reducible rfl)
    try simp only [Act.put, List.setIfInBounds_toArray, List.set_cons_zero, List.set_cons_succ]
    refine wpAnyH_take (i := 2) (v := ?_) (by simp only [List.getElem?_toArray, List.getElem?_cons_succ, List.getElem?_cons_zero]; rfl) (by kernel_rfl) (by kernel_rfl) (by kernel_rfl) (fun c _ w h => norm_panic c _ _ w h) (Or.inl ⟨by rfl, ?_⟩) (by assumption) ?_
    rotate_left
    · intro w hSw; (try dsimp only at hSw); go_simp; try (with_reducible rfl)
    try simp only [Act.put, List.setIfInBounds_toArray, List.set_cons_zero, List.set_cons_succ]
    refine wpAnyH_take (i := 6) (v := ?_) (by simp only [List.getElem?_toArray, List.getElem?_cons_succ, List.getElem?_cons_zero]; rfl) (by kernel_rfl) (by kernel_rfl) (by kernel_rfl) (fun c _ w h => norm_panic c _ _ w h) (Or.inl ⟨by rfl, ?_⟩) (by assumption) ?_
    rotate_left
    · intro w hSw; (try dsimp only at hSw); go_simp; try (with_reducible rfl)
    try simp only [Act.put, List.setIfInBounds_toArray, List.set_cons_zero, List.set_cons_succ]
    refine wpAnyH_ready (rs := [0, 3]) (by kernel_rfl) (by simp) ?_
    refine AllReadyH.cons (by simp only [List.getElem?_toArray, List.getElem?_cons_zero]; rfl) (fun K hK => ?_) (AllReadyH.cons (by simp only [List.getElem?_toArray, List.getElem?_cons_succ, List.getElem?_cons_zero]; rfl) (fun K hK => ?_) AllReadyH.nil)
    · go_simp
      refine hK.out _ _ ?_ (fun hHeld2 => ?_)
      · exact cells7 XX.out.drew
      clear hK K
      try simp only [Act.put, List.setIfInBounds_toArray, List.set_cons_zero, List.set_cons_succ]
      refine wpAnyH_ready (rs := [3]) (by kernel_rfl) (by simp) ?_
      refine AllReadyH.cons (by simp only [List.getElem?_toArray, List.getElem?_cons_succ, List.getElem?_cons_zero]; rfl) (fun K hK => ?_) AllReadyH.nil
      go_simp
      refine hK.out _ _ ?_ (fun hHeld2 => ?_)
      · exact cells7 (XX.out.alloc _).drew
      clear hK K
      try simp only [Act.put, List.setIfInBounds_toArray, List.set_cons_zero, List.set_cons_succ]
      refine wpAnyH_ready (rs := [4]) (by kernel_rfl) (by simp) ?_
      refine AllReadyH.cons (by simp only [List.getElem?_toArray, List.getElem?_cons_succ, List.getElem?_cons_zero]; rfl) (fun K hK => ?_) AllReadyH.nil
      refine step_append_lies _ (by rfl) _ _ 35 (by rfl) (w.heap.size + 6) 25 i0 _ 6 56 Try.underlying35 hi hz0 hz1 hz2 (by rfl) (by omega) v pre.length (reqCells pre) (by rfl) hown ⟨W2.heap.size, 0, none⟩ 1 1 (reqCells1 ⟨fl, kd, ck, fr, ln, d⟩) (by rfl) (by rfl) (World.news_of_block (heap_alloc_new W2 _)) hone (by omega) (by unfold maxLen; omega) (by omega) hbase (W2.heap.size + 1) (by simp) ?_
      intro g2 cap w1 hown1 hgrow hat hlt2
      have S1 := AllSt.appended (r := r) SS.out hgrow hown1
      refine hK.out _ _ ?_ (fun hHeld2 => ?_)
      · exact cells7 (row_keeps hown hgrow (XX.out.alloc _).drew (.inr (by decide)))
      clear hK K
      try simp only [Act.put, List.setIfInBounds_toArray, List.set_cons_zero, List.set_cons_succ]
      have z0 : w1.cell? ⟨w.heap.size + 1, 0, none⟩ = some v := (row_keeps hown hgrow (SS.out.l.alloc _).drew (.inl (by omega))).cell 0
      have z1 : w1.frozen? ⟨w.heap.size + 1, 0, none⟩ = false := (row_keeps hown hgrow (SS.out.l.alloc _).drew (.inl (by omega))).frozen 0
      have z2 : w1.cell? ⟨w.heap.size, 0, none⟩ = some (.string ⟨cur.toArray⟩) := (row_keeps hown hgrow (SS.out.s.alloc _).drew (.inl (by omega))).cell 0
      have z3 : w1.frozen? ⟨w.heap.size, 0, none⟩ = false := (row_keeps hown hgrow (SS.out.s.alloc _).drew (.inl (by omega))).frozen 0
      have y1 := row_keeps hown hgrow (XX.out.alloc _).drew (.inr (by decide))
      clear hown hown1 hgrow a0
      refine wpAnyH_ready (rs := [7]) (by kernel_rfl) (by simp) ?_
      refine AllReadyH.cons (by simp only [List.getElem?_toArray, List.getElem?_cons_succ, List.getElem?_cons_zero]; rfl) (fun K hK => ?_) AllReadyH.nil
      go_simp
      refine hK.out _ _ ?_ (fun hHeld2 => ?_)
      · exact cells7 (y1.far (p := ⟨w.heap.size + 1, 0, none⟩) (by dsimp only; omega) _)
      clear hK K
      try simp only [Act.put, List.setIfInBounds_toArray, List.set_cons_zero, List.set_cons_succ]
      refine wpAnyH_ready (rs := [8]) (by kernel_rfl) (by simp) ?_
      refine AllReadyH.cons (by simp only [List.getElem?_toArray, List.getElem?_cons_succ, List.getElem?_cons_zero]; rfl) (fun K hK => ?_) AllReadyH.nil
      go_simp
      refine hK.out _ _ ?_ (fun hHeld2 => ?_)
      · exact cells7 ((y1.far (p := ⟨w.heap.size + 1, 0, none⟩) (by dsimp only; omega) _).far (p := ⟨w.heap.size, 0, none⟩) (by dsimp only; omega) _)
      clear hK K
      try simp only [Act.put, List.setIfInBounds_toArray, List.set_cons_zero, List.set_cons_succ]
      refine wpAnyH_done (by kernel_rfl) ⟨rfl, ?_⟩ _
      gi_wp2
      have S3 := AllSt.ready HR1.out HR2.out S1
      obtain ⟨_, _, _, hlen⟩ := req_read _ _ _ HR.out
      exact ⟨S1.lp, rfl, S3.r.cell 0, S3.r.frozen 0, pre ++ [⟨fl, kd, ck, fr, ln, d⟩], _, by rw [HL.out]; simp, HA2.out, by simp; omega, S3.next r⟩
    · go_simp
      refine hK.out _ _ ?_ (fun hHeld2 => ?_)
      · exact cells7 (XX.out.alloc _).drew
      clear hK K
      try simp only [Act.put, List.setIfInBounds_toArray, List.set_cons_zero, List.set_cons_succ]
      refine wpAnyH_ready (rs := [0]) (by kernel_rfl) (by simp) ?_
      refine AllReadyH.cons (by simp only [List.getElem?_toArray, List.getElem?_cons_zero]; rfl) (fun K hK => ?_) AllReadyH.nil
      have b0 : (W2.alloc (.cells #[.int .i64 fl, .int .i64 kd, .int .u64 (ck : Nat), .int .u64 (fr : Nat), .int .u32 (ln : Nat), .string ⟨d.toArray⟩] 25)).cell? ⟨w.heap.size + 1, 0, none⟩ = some v := (SS.out.l.alloc _).cell 0
      go_simp
      refine hK.out _ _ ?_ (fun hHeld2 => ?_)
      · exact cells7 (XX.out.alloc _).drew
      clear hK K
      try simp only [Act.put, List.setIfInBounds_toArray, List.set_cons_zero, List.set_cons_succ]
      refine wpAnyH_ready (rs := [4]) (by kernel_rfl) (by simp) ?_
      refine AllReadyH.cons (by simp only [List.getElem?_toArray, List.getElem?_cons_succ, List.getElem?_cons_zero]; rfl) (fun K hK => ?_) AllReadyH.nil
      refine step_append_lies _ (by rfl) _ _ 35 (by rfl) (w.heap.size + 6) 25 i0 _ 6 56 Try.underlying35 hi hz0 hz1 hz2 (by rfl) (by omega) v pre.length (reqCells pre) (by rfl) hown ⟨W2.heap.size, 0, none⟩ 1 1 (reqCells1 ⟨fl, kd, ck, fr, ln, d⟩) (by rfl) (by rfl) (World.news_of_block (heap_alloc_new W2 _)) hone (by omega) (by unfold maxLen; omega) (by omega) hbase (W2.heap.size + 1) (by simp) ?_
      intro g2 cap w1 hown1 hgrow hat hlt2
      have S1 := AllSt.appended (r := r) SS.out hgrow hown1
      refine hK.out _ _ ?_ (fun hHeld2 => ?_)
      · exact cells7 (row_keeps hown hgrow (XX.out.alloc _).drew (.inr (by decide)))
      clear hK K
      try simp only [Act.put, List.setIfInBounds_toArray, List.set_cons_zero, List.set_cons_succ]
      have z0 : w1.cell? ⟨w.heap.size + 1, 0, none⟩ = some v := (row_keeps hown hgrow (SS.out.l.alloc _).drew (.inl (by omega))).cell 0
      have z1 : w1.frozen? ⟨w.heap.size + 1, 0, none⟩ = false := (row_keeps hown hgrow (SS.out.l.alloc _).drew (.inl (by omega))).frozen 0
      have z2 : w1.cell? ⟨w.heap.size, 0, none⟩ = some (.string ⟨cur.toArray⟩) := (row_keeps hown hgrow (SS.out.s.alloc _).drew (.inl (by omega))).cell 0
      have z3 : w1.frozen? ⟨w.heap.size, 0, none⟩ = false := (row_keeps hown hgrow (SS.out.s.alloc _).drew (.inl (by omega))).frozen 0
      have y1 := row_keeps hown hgrow (XX.out.alloc _).drew (.inr (by decide))
      clear hown hown1 hgrow a0
      refine wpAnyH_ready (rs := [7]) (by kernel_rfl) (by simp) ?_
      refine AllReadyH.cons (by simp only [List.getElem?_toArray, List.getElem?_cons_succ, List.getElem?_cons_zero]; rfl) (fun K hK => ?_) AllReadyH.nil
      go_simp
      refine hK.out _ _ ?_ (fun hHeld2 => ?_)
      · exact cells7 (y1.far (p := ⟨w.heap.size + 1, 0, none⟩) (by dsimp only; omega) _)
      clear hK K
      try simp only [Act.put, List.setIfInBounds_toArray, List.set_cons_zero, List.set_cons_succ]
      refine wpAnyH_ready (rs := [8]) (by kernel_rfl) (by simp) ?_
      refine AllReadyH.cons (by simp only [List.getElem?_toArray, List.getElem?_cons_succ, List.getElem?_cons_zero]; rfl) (fun K hK => ?_) AllReadyH.nil
      go_simp
      refine hK.out _ _ ?_ (fun hHeld2 => ?_)
      · exact cells7 ((y1.far (p := ⟨w.heap.size + 1, 0, none⟩) (by dsimp only; omega) _).far (p := ⟨w.heap.size, 0, none⟩) (by dsimp only; omega) _)
      clear hK K
      try simp only [Act.put, List.setIfInBounds_toArray, List.set_cons_zero, List.set_cons_succ]
      refine wpAnyH_done (by kernel_rfl) ⟨rfl, ?_⟩ _
      gi_wp2
      have S3 := AllSt.ready HR1.out HR2.out S1
      obtain ⟨_, _, _, hlen⟩ := req_read _ _ _ HR.out
      exact ⟨S1.lp, rfl, S3.r.cell 0, S3.r.frozen 0, pre ++ [⟨fl, kd, ck, fr, ln, d⟩], _, by rw [HL.out]; simp, HA2.out, by simp; omega, S3.next r⟩
  · rintro cur x r e W ⟨pre, v, hL, ha, hn, hS⟩ hne hr he hT hE
    refine yieldAt_of hS.lp hr1 (by rw [hr4]; rfl) ?_
    rw [hr3, hr4, hr5]
    obtain ⟨fl, kd, ck, fr, ln, d⟩ := x
    have HR := Lib.hid hr
    have HL := Lib.hid hL
    have HS := Lib.hid hS
    have HT := Lib.hid hT
    have HEE := Lib.hid hE
    clear hr hL hS ha hT hE
    gi_wp2
    refine ⟨heap_old HS.out.lp _, fun W2 hW2 => ?_⟩
    rw [hr6]
    have S2 : AllSt w { rec with state := .busy } pre cur cur 0 v W2 := by
      rw [hW2]; exact (HS.out.below ((Below.refl _ W).alloc (Nat.le_refl _) _)).put _
    clear hW2 HS
    have a0 : W2.cell? ⟨w.heap.size + 1 + 1, 0, none⟩ = some (.int .i64 0) := S2.e.cell 0
    have a1 : W2.frozen? ⟨w.heap.size + 1 + 1, 0, none⟩ = false := S2.e.frozen 0
    have SS := Lib.hid S2
    clear S2 hr1 hr2 hr3 hr4 hr5 hr6
    gi_wp2
    have S3 := (SS.out.err e).put { rec with state := .done, pending := some (.exit 0) }
    have hL2 : L = pre := by rw [HL.out]; simp
    exact ⟨(SS.out.err e).lp, rfl, v, by rw [hL2, HT.out, HEE.out]; exact S3⟩
  · refine ⟨[], .slice none 0 0, by simp, HA.out, by simp; omega, ⟨?_, ?_, ?_, ?_, ?_, ?_, ?_, ?_⟩⟩
    · exact ((((((Blk.new w _ _).alloc _).alloc _).alloc _).alloc _).alloc _)
    · exact (((((Blk.newAt (by simp)).alloc _).alloc _).alloc _).alloc _)
    · exact World.ownsRow_nil _ _ _ _
    · exact ((((Blk.newAt (by simp)).alloc _).alloc _).alloc _)
    · exact (((Blk.newAt (by simp)).alloc _).alloc _)
    · exact heap_old (heap_newAt (by simp) _) _
    · exact heap_newAt (by simp) _
    · (repeat' (first | (with_reducible assumption) | (with_reducible exact Below.refl _ _) | (with_reducible refine below_drewN ?_ _) | (with_reducible refine Below.drew ?_) | (with_reducible refine Below.setCell ?_ ?_ _) | (with_reducible refine Below.alloc ?_ ?_ _) | (with_reducible refine below_putObj ?_ ?_ _) | (with_reducible exact Nat.le_refl _) | omega | (simp; done) | (simp; omega)))
  · rintro e W ⟨rfl, hK⟩
    rcases hK with ⟨pre, v, hL, ha, hn, hS⟩ | ⟨v, hS⟩
    · refine ⟨⟨_, rfl⟩, .ready, by simp, .inl ⟨by rw [rec_ready hr1 hr2]; exact hS.lp, ?_⟩⟩
      obtain ⟨rfl, rfl⟩ : T = [] ∧ E = 0 := by
        rcases alls_cases ha with ⟨_, _, h1, h2⟩ | ⟨_, _, h, _⟩ | ⟨_, _, _, h, _⟩
        · exact ⟨h1, h2⟩
        · exact absurd rfl h
        · exact absurd rfl h
      have hL2 : pre = L := by rw [hL]; simp
      subst hL2
      have S1 := hS.put { rec with state := .exhausted, pending := none }
      generalize W.putObj _ _ = W1 at S1 ⊢
      clear hS ha hL
      have c0 : W1.cell? ⟨w.heap.size, 0, none⟩ = some (.string ⟨#[]⟩) := S1.s.cell 0
      have c1 : W1.cell? ⟨w.heap.size + 1, 0, none⟩ = some v := S1.l.cell 0
      have c2 : W1.cell? ⟨w.heap.size + 1 + 1, 0, none⟩ = some (.int .i64 0) := S1.e.cell 0
      have f2 : W1.frozen? ⟨w.heap.size + 1 + 1, 0, none⟩ = false := S1.e.frozen 0
      have SS := Lib.hid S1
      have hE0 : E' = 0 := by rw [HE.out]; rfl
      subst hE0
      clear S1 hr1 hr2 hr3 hr4 hr5 hr6
      gi_wp2
      gi_region
      gi_wp2
      refine leaves_mark SS.out.d (by simp [results, Try.results11, go_sem]; rfl) ?_
      exact ⟨v, rfl, own_less (own_put SS.out.own (by omega) _) (by omega), below_putObj SS.out.b.drew (by omega) _⟩
    · refine ⟨⟨_, rfl⟩, .done, by simp, .inr ⟨_, hS.lp, ?_⟩⟩
      have S1 := hS.put { rec with state := .exhausted, pending := some (.exit 0) }
      generalize W.putObj _ _ = W1 at S1 ⊢
      clear hS
      have c0 : W1.cell? ⟨w.heap.size, 0, none⟩ = some (.string ⟨T.toArray⟩) := S1.s.cell 0
      have c1 : W1.cell? ⟨w.heap.size + 1, 0, none⟩ = some v := S1.l.cell 0
      have c2 : W1.cell? ⟨w.heap.size + 1 + 1, 0, none⟩ = some (.int .i64 E) := S1.e.cell 0
      have f2 : W1.frozen? ⟨w.heap.size + 1 + 1, 0, none⟩ = false := S1.e.frozen 0
      have SS := Lib.hid S1
      clear S1 hr1 hr2 hr3 hr4 hr5 hr6
      by_cases h22 : E = 22
      · have hE0 : E' = 0 := by rw [HE.out, if_pos h22]
        subst hE0
        subst h22
        gi_wp2
        have T1 := Lib.hid (SS.out.err 0)
        gi_region
        gi_wp2
        refine leaves_mark T1.out.d (by simp [results, Try.results11, go_sem]; rfl) ?_
        exact ⟨v, rfl, own_less (own_put T1.out.own (by omega) _) (by omega), below_putObj T1.out.b.drew (by omega) _⟩
      · have hE0 : E' = E := by rw [HE.out, if_neg h22]
        subst hE0
        gi_wp2
        gi_region
        gi_wp2
        refine leaves_mark SS.out.d (by simp [results, Try.results11, go_sem]; rfl) ?_
        exact ⟨v, rfl, own_less (own_put SS.out.own (by omega) _) (by omega), below_putObj SS.out.b.drew (by omega) _⟩

end Go.Proofs.Ytneibnoocfcndaa
