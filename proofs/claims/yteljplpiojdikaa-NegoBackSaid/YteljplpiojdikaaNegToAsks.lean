/- nego.ToAsks. -/
import Derived.Test.YteljplpiojdikaaNegToMeta
import Derived.Test.YteljplpiojdikaaNegChunk
import Derived.Test.YteljplpiojdikaaRoundHeld
namespace Go.Proofs.Yteljplpiojdikaa
open Go.RowKit Go.Shelf

attribute [local go_sem] Oper.semAt_some

def cellsI (l : List Nat) : List Value := l.map fun x => .int .i64 (x : Nat)
theorem cellsI_length (l : List Nat) : (cellsI l).length = l.length * 1 := by simp [cellsI]

theorem or_bytes (x y : UInt8) : bits .or .i64 (IntKind.i64.wrap (IntKind.i64.wrap (x.toNat : Int) * 256)) (IntKind.i64.wrap (y.toNat : Int)) = ((de [x, y] : Nat) : Int) := by
  have hx : x.toNat < 256 := UInt8.toNat_lt _
  have hy : y.toNat < 256 := UInt8.toNat_lt _
  have hd : de [x, y] = x.toNat * 256 + y.toNat := by simp [de]
  rw [hd]
  generalize x.toNat = d at *
  generalize y.toNat = c at *
  have e0 : IntKind.i64.wrap (d : Int) = (d : Int) := by rw [IntKind.wrap_i64]; omega
  rw [e0]
  have e1 : IntKind.i64.wrap ((d : Int) * 256) = ((d * 256 : Nat) : Int) := by rw [IntKind.wrap_i64]; omega
  have e2 : IntKind.i64.wrap (c : Int) = (c : Int) := by rw [IntKind.wrap_i64]; omega
  rw [e1, e2]
  show IntKind.i64.wrap ((BitVec.ofInt 64 ((d * 256 : Nat) : Int) ||| BitVec.ofInt 64 (c : Int)).toNat : Int) = _
  rw [BitVec.toNat_or, ofInt_u64 _ (by omega), ofInt_u64 c (by omega)]
  have h := Nat.shiftLeft_add_eq_or_of_lt (i := 8) (b := c) (by omega) d
  rw [Nat.shiftLeft_eq] at h
  rw [show d * 256 = d * 2 ^ 8 from rfl, ← h, IntKind.wrap_i64]
  omega
theorem pairs_at (d : List UInt8) : ∀ (N : Nat), d.length = 2 * N → (pairs d).length = N ∧ ∀ k x y, d[2 * k]? = some x → d[2 * k + 1]? = some y → (pairs d)[k]? = some (de [x, y]) := by
  intro N
  induction N generalizing d with
  | zero =>
    intro h
    have : d = [] := by simpa using h
    subst this
    exact ⟨rfl, by simp⟩
  | succ N ih =>
    intro h
    match d, h with
    | a :: b :: r, h =>
      obtain ⟨h1, h2⟩ := ih r (by simp at h; omega)
      refine ⟨by simp [pairs, h1], fun k x y hx hy => ?_⟩
      cases k with
      | zero =>
        simp at hx hy
        subst hx hy
        rfl
      | succ k =>
        have e1 : 2 * (k + 1) = 2 * k + 1 + 1 := by omega
        rw [e1] at hx hy
        simp only [List.getElem?_cons_succ] at hx hy
        simpa [pairs] using h2 k x y hx hy

/-- How ToAsks ends. -/
def AsksEnds (r : Option (List UInt8 × List Nat)) (w : World) (e : Ending) (w' : World) : Prop :=
  ∃ nm v l x, e = .returned (.tuple #[.string ⟨nm.toArray⟩, v, .int .i64 x]) ∧ w'.ownsRow w.heap.size 3 1 v l.length (cellsI l) ∧ Below w.heap.size w w' ∧ ((r = none ∧ nm = [] ∧ l = [] ∧ x = 14) ∨ (r = some (nm, l) ∧ x = 0))
theorem asksEnds_none (w w' : World) (hb : Below w.heap.size w w') : AsksEnds none w (.returned (.tuple #[.string ⟨#[]⟩, .slice none 0 0, .int .i64 14])) w' :=
  ⟨[], _, [], 14, rfl, World.ownsRow_nil _ _ _ _, hb, .inl ⟨rfl, rfl, rfl, rfl⟩⟩

theorem Try.infoInt : (Try.prog.info? 3).map (fun i => (i.zero, i.size, i.bytes)) = some (some (.int .i64 0), 1, 8) := by kernel_rfl

/-- What ToAsks's loop holds. -/
structure AsSt (w : World) (B len cap : Nat) (d : List UInt8) (lo : Loop) (l : List Nat) (v : Value) (W : World) : Prop where
  lb : Blk W B 37 #[v]
  own : W.ownsRow (B + 6) 3 1 v l.length (cellsI l)
  y : ∀ j c, d[j]? = some c → W.cell? ⟨B + 1, j, none⟩ = some (.int .u8 (c.toNat : Int))
  sb : Blk W (B + 2) 60 #[.slice (some ⟨B + 1, 0, none⟩) len cap]
  nb : Blk W (B + 3) 3 #[.int .i64 2]
  df : W.heap[B + 4]? = some (.deferred (some []))
  lp : W.heap[B + 5]? = some (.loop lo)
  b : Below w.heap.size w W
  hB : w.heap.size ≤ B

section
variable {w : World} {B len cap : Nat} {d : List UInt8} {lo : Loop} {l : List Nat} {v : Value} {W W' : World}
theorem AsSt.below (h : AsSt w B len cap d lo l v W) (hb : Below W.heap.size W W') : AsSt w B len cap d lo l v W' :=
  ⟨h.lb.below hb h.lb.lt, own_belowN h.own hb, fun j c hj => cell_keepS (h.y j c hj) hb, h.sb.below hb h.sb.lt, h.nb.below hb h.nb.lt, (hb.block _ (lt_of_block h.df)).trans h.df, (hb.block _ (lt_of_block h.lp)).trans h.lp, below_next h.b hb, h.hB⟩
theorem AsSt.put (h : AsSt w B len cap d lo l v W) (lo' : Loop) : AsSt w B len cap d lo' l v (W.putObj (B + 5) (.loop lo')) :=
  have hB := h.hB
  ⟨h.lb.put (by omega) _, own_moved h.own (fun g hg => World.putObj_heap_other (by have := (own_typed h.own g hg).1; omega)), fun j c hj => by
      rw [World.cell?_of_block (w := W) (World.putObj_heap_other (show B + 1 ≠ B + 5 by omega))]; exact h.y j c hj,
    h.sb.put (by omega) _, h.nb.put (by omega) _, (World.putObj_heap_other (by omega)).trans h.df, World.putObj_heap_same (lt_of_block h.lp), below_putObj h.b (by omega) _, hB⟩
theorem AsSt.ready {rec : Loop} (h1 : rec.state = .ready) (h2 : rec.pending = none) (h : AsSt w B len cap d lo l v W) : AsSt w B len cap d rec l v (W.putObj (B + 5) (.loop { rec with state := .ready, pending := none })) := by
  rw [rec_ready h1 h2]
  exact h.put rec
/-- One more. -/
theorem AsSt.added {o : Obj} {w1 : World} {v' : Value} {q : Nat} (h : AsSt w B len cap d lo l v W) (hg : (W.alloc o).grownBy w1 v.ownBlock) (hown : w1.ownsRow (B + 6) 3 1 v' (l.length + 1) (cellsI l ++ [.int .i64 (q : Nat)])) :
    AsSt w B len cap d lo (l ++ [q]) v' (w1.setCell ⟨B, 0, none⟩ v') := by
  have hB := h.hB
  have h2 := h.below ((Below.refl _ W).alloc (Nat.le_refl _) o)
  have hk : ∀ g, g < (W.alloc o).heap.size → g < B + 6 → w1.heap[g]? = (W.alloc o).heap[g]? := fun g hl hlt => hg.block g hl (fun e => by have := (own_typed h2.own g e.symm).1; omega)
  have hs := h2.lp
  have hlt := lt_of_block h2.lp
  refine ⟨?_, ?_, fun j c hj => ?_, ?_, ?_, ?_, ?_, ?_, hB⟩
  · exact Blk.set_ (cs := #[v]) ((hk B (by omega) (by omega)).trans h2.lb) 0 v'
  · rw [List.length_append, show cellsI (l ++ [q]) = cellsI l ++ [.int .i64 (q : Nat)] by simp [cellsI]]
    exact own_moved hown (fun g hg2 => heap_set (by have := (own_typed hown g hg2).1; dsimp only; omega) _)
  · rw [World.cell?_of_block (w := W.alloc o) ((heap_set (by dsimp only; omega) _).trans (hk (B + 1) (by omega) (by omega)))]
    exact h2.y j c hj
  · exact (Blk.far ((hk _ (by omega) (by omega)).trans h2.sb) (by dsimp only; omega) _)
  · exact (Blk.far ((hk _ (by omega) (by omega)).trans h2.nb) (by dsimp only; omega) _)
  · exact (heap_set (by dsimp only; omega) _).trans ((hk _ (by omega) (by omega)).trans h2.df)
  · exact (heap_set (by dsimp only; omega) _).trans ((hk _ (by omega) (by omega)).trans h2.lp)
  · exact (h2.b.grown hg h2.b.size (fun k hk2 => by have := (own_typed h2.own k hk2).1; omega)).setCell (by dsimp only; omega) _
end

set_option maxRecDepth 100000 in
set_option maxHeartbeats 2000000 in
theorem toAsks_good (s nm r d : List UInt8) (N : Nat) (hs : s.length ≤ 1000000) (h1 : readBegO s = .ok nm r) (hT2 : ∀ W, Calls Try.prog 26 #[.string ⟨r.toArray⟩, .int .i64 2] W (Gives (.tuple #[.int .u64 N, .string ⟨d.toArray⟩, .int .i64 0]) W))
    (hN : N < 65536) (hd : d.length = 2 * N) (w : World) : Calls Try.prog 13 #[.string ⟨s.toArray⟩] w (AsksEnds (some (nm, pairs d)) w) := by
  have HT : Hid (∀ W, Calls Try.prog 25 #[.string ⟨s.toArray⟩] W (Gives (.tuple #[.string ⟨nm.toArray⟩, .string ⟨r.toArray⟩, .int .i64 0]) W)) := Lib.hid (fun W => by
    have h := to_begin_any s (by omega) W
    have e : readBeg s = (nm, r, 0) := by unfold readBeg; rw [h1]
    rw [e] at h
    exact h)
  have HT2 := Lib.hid hT2
  clear h1 hT2
  have hcv := fun (w : World) (s : ByteArray) => run_bytes_of_string (P := Try.prog) w 9 60 5 s Try.underlying9 Try.underlying60 Try.underlying5
  have hwn : IntKind.i64.wrap (N : Int) = (N : Int) := by rw [IntKind.wrap_i64]; omega
  have hdl : (d.length : Int) = 2 * (N : Int) := by omega
  obtain ⟨i0, hi0, hz0, hz1, hz2⟩ := info_parts Try.infoInt
  have mixed : Try.prog.follows .mixedOrders = true := by kernel_rfl
  refine calls_of_marks Try.func13 rfl ?_
  simp only [Try.ntmps13, List.size_toArray, List.length_cons, List.length_nil, Nat.reduceAdd, Nat.reduceSub, Array.replicate_succ, Array.replicate_zero, List.push_toArray, List.append_toArray, List.nil_append, List.cons_append]
  gi_wp2_with fail
  refine ((callsIn_wide (n := 0)).2 (HT.out _)).mono ?_
  rintro e w1 ⟨rfl, hb1⟩
  gi_wp2_with fail
  refine ((callsIn_wide (n := 0)).2 (HT2.out _)).mono ?_
  rintro e w2 ⟨rfl, hb2⟩
  have b2 := below_next hb1 hb2
  clear hb1 hb2 HT HT2
  gi_wp2_with fail
  have hcap := grownCap_ge (w2.alloc (.cells #[.slice none 0 0] 37)) (2 * N) 0 5
  have hcm := grownCap_le_maxLen (w2.alloc (.cells #[.slice none 0 0] 37)) (2 * N) 0 5 (by unfold maxLen; omega)
  generalize grownCap (w2.alloc (.cells #[.slice none 0 0] 37)) (2 * N) 0 5 = cap at hcap hcm ⊢
  obtain ⟨W3, hW3⟩ : ∃ W3, ((w2.alloc (.cells #[.slice none 0 0] 37)).alloc (.cells (bytesRow ⟨d.toArray⟩ cap) 5 ((bytesRow ⟨d.toArray⟩ cap).size, (bytesRow ⟨d.toArray⟩ cap).size + 1))).drew = W3 := ⟨_, rfl⟩
  rw [hW3]
  have hy : ∀ j c, d[j]? = some c → W3.cell? ⟨w2.heap.size + 1, j, none⟩ = some (.int .u8 (c.toNat : Int)) := by
    intro j c hj
    have hl := (List.getElem?_eq_some_iff.1 hj).1
    rw [← hW3, World.cell?_drew, show w2.heap.size + 1 = (w2.alloc (.cells #[.slice none 0 0] 37)).heap.size by simp, World.cell?_alloc_mark, bytesRow_at _ _ _ (by simpa using hl)]
    simp [(List.getElem?_eq_some_iff.1 hj).2]
  have hlb : Blk W3 w2.heap.size 37 #[.slice none 0 0] := by rw [← hW3]; exact (Blk.new w2 _ _).alloc _
  have hsz : W3.heap.size = w2.heap.size + 2 := by rw [← hW3]; simp
  have hb3 : Below w.heap.size w W3 := by have := b2.size; rw [← hW3]; (repeat' (first | (with_reducible assumption) | (with_reducible exact Below.refl _ _) | (with_reducible refine below_drewN ?_ _) | (with_reducible refine Below.drew ?_) | (with_reducible refine Below.setCell ?_ ?_ _) | (with_reducible refine Below.alloc ?_ ?_ _) | (with_reducible refine below_putObj ?_ ?_ _) | (with_reducible exact Nat.le_refl _) | omega | (simp; done) | (simp; omega)))
  have hB := b2.size
  clear hW3 b2 hcv
  generalize w2.heap.size = B at hy hlb hsz hB ⊢
  refine ((callsIn_wide (n := 0)).2 (chunk_any _ _ _ _)).mono ?_
  rintro e w' ⟨rfl, rfl⟩
  gi_wp2_with fail
  obtain ⟨hpl, hpk⟩ := pairs_at d N hd
  refine wpIn_range (gf := 42) (lb := #[.pointer (some ⟨B + 2, 0, none⟩), .pointer (some ⟨B + 2 + 1, 0, none⟩)]) (by rw [← hsz]; rfl) (enters_of Try.func42 (by kernel_rfl) rfl) ?_
  intro rec hr1 hr2 hr3 hr4 hr5 hr6
  simp only [World.size_alloc, hsz]
  refine (chunk1 (B + 5) (B + 2) (B + 3) N (2 * N) cap (some ⟨B + 1, 0, none⟩) (B + 1) rfl (fun _ => rfl) (by omega) (by unfold maxLen at hcm; omega) (by omega)
    (fun k W => ∃ v, AsSt w B (2 * N) cap d rec ((pairs d).take k) v W ∧ k ≤ N) ?_ ?_ ?_ _ ?_).mono ?_
  · rintro k W ⟨v, hS, hk⟩
    exact ⟨hS.sb.cell 0, hS.nb.cell 0⟩
  · rintro k W W' ⟨v, hS, hk⟩ hb
    exact ⟨v, hS.below hb, hk⟩
  · rintro k W hk ⟨v, hS, _⟩ i hi
    refine yieldAt_of hS.lp hr1 (by rw [hr4]; rfl) ?_
    rw [hr3, hr4, hr5]
    have hx1 : i < d.length := by omega
    have hx2 : i + 1 < d.length := by omega
    obtain ⟨x, hx⟩ : ∃ x, d[i]? = some x := ⟨_, List.getElem?_eq_getElem hx1⟩
    obtain ⟨y, hy'⟩ : ∃ y, d[i + 1]? = some y := ⟨_, List.getElem?_eq_getElem hx2⟩
    have HS := Lib.hid hS
    have HP := Lib.hid (hpk k x y (by rw [← hi]; exact hx) (by rw [← hi]; exact hy'))
    have HI := Lib.hid hi
    have HX := Lib.hid (And.intro hx hy')
    have HPL := Lib.hid hpl
    clear hS hx hy' hy hpk hpl hlb hi hx1 hx2
    gi_wp2
    refine ⟨HS.out.lp, fun W2 hW2 => ?_⟩
    rw [hr6]
    have S2 : AsSt w B (2 * N) cap d { rec with state := .busy } ((pairs d).take k) v W2 := by rw [hW2]; exact HS.out.put _
    clear hW2 HS
    have a0 : W2.cell? ⟨B, 0, none⟩ = some v := S2.lb.cell 0
    have SS := Lib.hid S2
    have HR1 := Lib.hid hr1
    have HR2 := Lib.hid hr2
    clear S2 hr1 hr2 hr3 hr4 hr5 hr6
    have HT : Hid ((pairs d).take (k + 1) = (pairs d).take k ++ [de [x, y]]) := Lib.hid (by rw [List.take_add_one, HP.out]; rfl)
    have hlk : ((pairs d).take k).length ≤ 65536 := by rw [List.length_take]; omega
    clear HP
    generalize (pairs d).take k = pl at SS HT hlk
    obtain ⟨va, vc, rfl⟩ := (SlAt.of_row SS.out.own).form
    gi_wp2
    refine wpIn_region_held (fun W' => W'.cell? ⟨B + 1, i, none⟩ = some (.int .u8 (x.toNat : Int)) ∧ W'.cell? ⟨B + 1, i + 1, none⟩ = some (.int .u8 (y.toNat : Int))) mixed (plain_ops (by kernel_rfl)) ⟨SS.out.y i x HX.out.1, SS.out.y (i + 1) y HX.out.2⟩ (fun hHeld => ?_)
    refine wpAnyH_take (i := 1) (v := ?_) (by simp only [List.getElem?_toArray, List.getElem?_cons_succ, List.getElem?_cons_zero]; rfl) (by kernel_rfl) (by kernel_rfl) (by kernel_rfl) (fun c _ w h => norm_panic c _ _ w h) (Or.inl ⟨by rfl, ?_⟩) (by assumption) ?_
    rotate_left
    · intro w hSw; (try dsimp only at hSw); go_simp; try (with_reducible rfl)
    try simp only [Act.put, List.setIfInBounds_toArray, List.set_cons_zero, List.set_cons_succ]
    refine wpAnyH_take (i := 2) (v := ?_) (by simp only [List.getElem?_toArray, List.getElem?_cons_succ, List.getElem?_cons_zero]; rfl) (by kernel_rfl) (by kernel_rfl) (by kernel_rfl) (fun c _ w h => norm_panic c _ _ w h) (Or.inl ⟨by rfl, ?_⟩) (by assumption) ?_
    rotate_left
    · intro w hSw; (try dsimp only at hSw); go_simp; try (with_reducible rfl)
    try simp only [Act.put, List.setIfInBounds_toArray, List.set_cons_zero, List.set_cons_succ]
    refine wpAnyH_take (i := 3) (v := ?_) (by simp only [List.getElem?_toArray, List.getElem?_cons_succ, List.getElem?_cons_zero]; rfl) (by kernel_rfl) (by kernel_rfl) (by kernel_rfl) (fun c _ w h => norm_panic c _ _ w h) (Or.inl ⟨by rfl, ?_⟩) (by assumption) ?_
    rotate_left
    · intro w hSw; (try dsimp only at hSw); go_simp; try (with_reducible rfl)
    try simp only [Act.put, List.setIfInBounds_toArray, List.set_cons_zero, List.set_cons_succ]
    refine wpAnyH_take (i := 4) (v := ?_) (by simp only [List.getElem?_toArray, List.getElem?_cons_succ, List.getElem?_cons_zero]; rfl) (by kernel_rfl) (by kernel_rfl) (by kernel_rfl) (fun c _ w h => norm_panic c _ _ w h) (Or.inl ⟨by rfl, ?_⟩) (by assumption) ?_
    rotate_left
    · intro w hSw; (try dsimp only at hSw); go_simp; try (with_reducible rfl)
    try simp only [Act.put, List.setIfInBounds_toArray, List.set_cons_zero, List.set_cons_succ]
    refine wpAnyH_take (i := 5) (v := ?_) (by simp only [List.getElem?_toArray, List.getElem?_cons_succ, List.getElem?_cons_zero]; rfl) (by kernel_rfl) (by kernel_rfl) (by kernel_rfl) (fun c _ w h => norm_panic c _ _ w h) (Or.inl ⟨by rfl, ?_⟩) (by assumption) ?_
    rotate_left
    · intro w hSw; (try dsimp only at hSw); go_simp; try (with_reducible rfl)
    try simp only [Act.put, List.setIfInBounds_toArray, List.set_cons_zero, List.set_cons_succ]
    refine wpAnyH_take (i := 6) (v := ?_) (by simp only [List.getElem?_toArray, List.getElem?_cons_succ, List.getElem?_cons_zero]; rfl) (by kernel_rfl) (by kernel_rfl) (by kernel_rfl) (fun c _ w h => norm_panic c _ _ w h) (Or.inl ⟨by rfl, ?_⟩) (by assumption) ?_
    rotate_left
    · intro w hSw; (try dsimp only at hSw); go_simp; try (with_reducible rfl)
    try simp only [Act.put, List.setIfInBounds_toArray, List.set_cons_zero, List.set_cons_succ]
    refine wpAnyH_take (i := 7) (v := ?_) (by simp only [List.getElem?_toArray, List.getElem?_cons_succ, List.getElem?_cons_zero]; rfl) (by kernel_rfl) (by kernel_rfl) (by kernel_rfl) (fun c _ w h => norm_panic c _ _ w h) (Or.inl ⟨by rfl, ?_⟩) (by assumption) ?_
    rotate_left
    · intro w hSw; (try dsimp only at hSw); go_simp; try (with_reducible rfl)
    try simp only [Act.put, List.setIfInBounds_toArray, List.set_cons_zero, List.set_cons_succ]
    refine wpAnyH_take (i := 8) (v := ?_) (by simp only [List.getElem?_toArray, List.getElem?_cons_succ, List.getElem?_cons_zero]; rfl) (by kernel_rfl) (by kernel_rfl) (by kernel_rfl) (fun c _ w h => norm_panic c _ _ w h) (Or.inl ⟨by rfl, ?_⟩) (by assumption) ?_
    rotate_left
    · intro w hSw; (try dsimp only at hSw); go_simp; try (with_reducible rfl)
    try simp only [Act.put, List.setIfInBounds_toArray, List.set_cons_zero, List.set_cons_succ]
    refine wpAnyH_take (i := 9) (v := ?_) (by simp only [List.getElem?_toArray, List.getElem?_cons_succ, List.getElem?_cons_zero]; rfl) (by kernel_rfl) (by kernel_rfl) (by kernel_rfl) (fun c _ w h => norm_panic c _ _ w h) (Or.inl ⟨by rfl, ?_⟩) (by assumption) ?_
    rotate_left
    · intro w hSw; (try dsimp only at hSw); go_simp; try (with_reducible rfl)
    try simp only [Act.put, List.setIfInBounds_toArray, List.set_cons_zero, List.set_cons_succ]
    refine wpAnyH_take (i := 10) (v := ?_) (by simp only [List.getElem?_toArray, List.getElem?_cons_succ, List.getElem?_cons_zero]; rfl) (by kernel_rfl) (by kernel_rfl) (by kernel_rfl) (fun c _ w h => norm_panic c _ _ w h) (Or.inl ⟨by rfl, ?_⟩) (by assumption) ?_
    rotate_left
    · intro w hSw; (try dsimp only at hSw); go_simp; try (with_reducible rfl)
    try simp only [Act.put, List.setIfInBounds_toArray, List.set_cons_zero, List.set_cons_succ]
    simp only [or_bytes x y]
    have hlt := lt_of_block SS.out.lp
    have hown : ((W2.alloc (.cells #[.int .i64 ((de [x, y] : Nat) : Int)] 3)).drew).ownsRow (B + 6) 3 1 (.slice va pl.length vc) pl.length (cellsI pl) := own_belowN (SS.out.own.alloc _) (Below.refl _ _).drew
    have hbase : B + 6 ≤ ((W2.alloc (.cells #[.int .i64 ((de [x, y] : Nat) : Int)] 3)).drew).heap.size := by simp; omega
    have HS2 : Hid (∀ W' : World, W'.heap[B + 1]? = W2.heap[B + 1]? → W'.cell? ⟨B + 1, i, none⟩ = some (.int .u8 (x.toNat : Int)) ∧ W'.cell? ⟨B + 1, i + 1, none⟩ = some (.int .u8 (y.toNat : Int))) := Lib.hid (fun W' h => by
      have h1 := SS.out.y i x HX.out.1
      have h2 := SS.out.y (i + 1) y HX.out.2
      exact ⟨(World.cell?_of_block h).trans h1, (World.cell?_of_block h).trans h2⟩)
    refine wpAnyH_ready (rs := [0, 11]) (by kernel_rfl) (by simp) ?_
    refine AllReadyH.cons (by simp only [List.getElem?_toArray, List.getElem?_cons_zero]; rfl) (fun K hK => ?_) (AllReadyH.cons (by simp only [List.getElem?_toArray, List.getElem?_cons_succ, List.getElem?_cons_zero]; rfl) (fun K hK => ?_) AllReadyH.nil)
    · go_simp
      refine hK.out _ _ ?_ (fun hHeld2 => ?_)
      · exact HS2.out _ rfl
      clear hK K
      try simp only [Act.put, List.setIfInBounds_toArray, List.set_cons_zero, List.set_cons_succ]
      refine wpAnyH_ready (rs := [11]) (by kernel_rfl) (by simp) ?_
      refine AllReadyH.cons (by simp only [List.getElem?_toArray, List.getElem?_cons_succ, List.getElem?_cons_zero]; rfl) (fun K hK => ?_) AllReadyH.nil
      go_simp
      refine hK.out _ _ ?_ (fun hHeld2 => ?_)
      · exact HS2.out _ (Below.heap_alloc _ _ _ (by omega))
      clear hK K
      try simp only [Act.put, List.setIfInBounds_toArray, List.set_cons_zero, List.set_cons_succ]
      refine wpAnyH_ready (rs := [12]) (by kernel_rfl) (by simp) ?_
      refine AllReadyH.cons (by simp only [List.getElem?_toArray, List.getElem?_cons_succ, List.getElem?_cons_zero]; rfl) (fun K hK => ?_) AllReadyH.nil
      refine step_append_lies _ (by rfl) _ _ 37 (by rfl) (B + 6) 3 i0 _ 1 8 Try.underlying37 hi0 hz0 hz1 hz2 (by rfl) (by omega) (.slice va pl.length vc) pl.length (cellsI pl) (by rfl) hown ⟨W2.heap.size, 0, none⟩ 1 1 [.int .i64 ((de [x, y] : Nat) : Int)] (by rfl) (by rfl) (World.news_of_block (heap_alloc_new W2 _)) (by intro u hu; simp at hu; subst hu; rfl) (by omega) (by unfold maxLen; omega) (by omega) hbase (W2.heap.size + 1) (by simp) ?_
      intro g2 cap2 w1 hown1 hgrow hat hlt2
      have S1 := AsSt.added SS.out (o := .cells #[.int .i64 ((de [x, y] : Nat) : Int)] 3) ⟨hgrow.os, hgrow.tape, hgrow.output, hgrow.size, hgrow.block⟩ hown1
      have hk1 : ∀ g, g < B + 6 → w1.heap[g]? = W2.heap[g]? := fun g hg => (hgrow.block g (by simp; omega) (fun e => by have := (own_typed SS.out.own g e.symm).1; omega)).trans (Below.heap_alloc _ _ _ (by omega))
      refine hK.out _ _ ?_ (fun hHeld2 => ?_)
      · exact HS2.out _ (hk1 _ (by omega))
      clear hK K
      try simp only [Act.put, List.setIfInBounds_toArray, List.set_cons_zero, List.set_cons_succ]
      have z0 : w1.cell? ⟨B, 0, none⟩ = some (.slice va pl.length vc) := Blk.cell (cs := #[.slice va pl.length vc]) ((hk1 B (by omega)).trans SS.out.lb) 0
      have z1 : w1.frozen? ⟨B, 0, none⟩ = false := Blk.frozen (cs := #[.slice va pl.length vc]) ((hk1 B (by omega)).trans SS.out.lb) 0
      have HK1 := Lib.hid (hk1 (B + 1) (by omega))
      clear hown hown1 hgrow a0 hk1
      refine wpAnyH_ready (rs := [13]) (by kernel_rfl) (by simp) ?_
      refine AllReadyH.cons (by simp only [List.getElem?_toArray, List.getElem?_cons_succ, List.getElem?_cons_zero]; rfl) (fun K hK => ?_) AllReadyH.nil
      go_simp
      refine hK.out _ _ ?_ (fun hHeld2 => ?_)
      · exact HS2.out _ ((heap_set (by dsimp only; omega) _).trans HK1.out)
      clear hK K
      try simp only [Act.put, List.setIfInBounds_toArray, List.set_cons_zero, List.set_cons_succ]
      refine wpAnyH_done (by kernel_rfl) ⟨rfl, ?_⟩ _
      gi_wp2
      exact ⟨S1.lp, rfl, ⟨_, by rw [HT.out]; exact AsSt.ready HR1.out HR2.out S1⟩, by omega⟩
    · go_simp
      refine hK.out _ _ ?_ (fun hHeld2 => ?_)
      · exact HS2.out _ (Below.heap_alloc _ _ _ (by omega))
      clear hK K
      try simp only [Act.put, List.setIfInBounds_toArray, List.set_cons_zero, List.set_cons_succ]
      refine wpAnyH_ready (rs := [0]) (by kernel_rfl) (by simp) ?_
      refine AllReadyH.cons (by simp only [List.getElem?_toArray, List.getElem?_cons_zero]; rfl) (fun K hK => ?_) AllReadyH.nil
      have b0 : (W2.alloc (.cells #[.int .i64 ((de [x, y] : Nat) : Int)] 3)).cell? ⟨B, 0, none⟩ = some (.slice va pl.length vc) := (SS.out.lb.alloc _).cell 0
      go_simp
      refine hK.out _ _ ?_ (fun hHeld2 => ?_)
      · exact HS2.out _ (Below.heap_alloc _ _ _ (by omega))
      clear hK K
      try simp only [Act.put, List.setIfInBounds_toArray, List.set_cons_zero, List.set_cons_succ]
      refine wpAnyH_ready (rs := [12]) (by kernel_rfl) (by simp) ?_
      refine AllReadyH.cons (by simp only [List.getElem?_toArray, List.getElem?_cons_succ, List.getElem?_cons_zero]; rfl) (fun K hK => ?_) AllReadyH.nil
      refine step_append_lies _ (by rfl) _ _ 37 (by rfl) (B + 6) 3 i0 _ 1 8 Try.underlying37 hi0 hz0 hz1 hz2 (by rfl) (by omega) (.slice va pl.length vc) pl.length (cellsI pl) (by rfl) hown ⟨W2.heap.size, 0, none⟩ 1 1 [.int .i64 ((de [x, y] : Nat) : Int)] (by rfl) (by rfl) (World.news_of_block (heap_alloc_new W2 _)) (by intro u hu; simp at hu; subst hu; rfl) (by omega) (by unfold maxLen; omega) (by omega) hbase (W2.heap.size + 1) (by simp) ?_
      intro g2 cap2 w1 hown1 hgrow hat hlt2
      have S1 := AsSt.added SS.out (o := .cells #[.int .i64 ((de [x, y] : Nat) : Int)] 3) ⟨hgrow.os, hgrow.tape, hgrow.output, hgrow.size, hgrow.block⟩ hown1
      have hk1 : ∀ g, g < B + 6 → w1.heap[g]? = W2.heap[g]? := fun g hg => (hgrow.block g (by simp; omega) (fun e => by have := (own_typed SS.out.own g e.symm).1; omega)).trans (Below.heap_alloc _ _ _ (by omega))
      refine hK.out _ _ ?_ (fun hHeld2 => ?_)
      · exact HS2.out _ (hk1 _ (by omega))
      clear hK K
      try simp only [Act.put, List.setIfInBounds_toArray, List.set_cons_zero, List.set_cons_succ]
      have z0 : w1.cell? ⟨B, 0, none⟩ = some (.slice va pl.length vc) := Blk.cell (cs := #[.slice va pl.length vc]) ((hk1 B (by omega)).trans SS.out.lb) 0
      have z1 : w1.frozen? ⟨B, 0, none⟩ = false := Blk.frozen (cs := #[.slice va pl.length vc]) ((hk1 B (by omega)).trans SS.out.lb) 0
      have HK1 := Lib.hid (hk1 (B + 1) (by omega))
      clear hown hown1 hgrow a0 hk1
      refine wpAnyH_ready (rs := [13]) (by kernel_rfl) (by simp) ?_
      refine AllReadyH.cons (by simp only [List.getElem?_toArray, List.getElem?_cons_succ, List.getElem?_cons_zero]; rfl) (fun K hK => ?_) AllReadyH.nil
      go_simp
      refine hK.out _ _ ?_ (fun hHeld2 => ?_)
      · exact HS2.out _ ((heap_set (by dsimp only; omega) _).trans HK1.out)
      clear hK K
      try simp only [Act.put, List.setIfInBounds_toArray, List.set_cons_zero, List.set_cons_succ]
      refine wpAnyH_done (by kernel_rfl) ⟨rfl, ?_⟩ _
      gi_wp2
      exact ⟨S1.lp, rfl, ⟨_, by rw [HT.out]; exact AsSt.ready HR1.out HR2.out S1⟩, by omega⟩
  · refine ⟨.slice none 0 0, ⟨?_, ?_, fun j c hj => ?_, ?_, ?_, ?_, ?_, ?_, hB⟩, Nat.zero_le _⟩
    · exact (((hlb.alloc _).alloc _).alloc _).alloc _
    · exact World.ownsRow_nil _ _ _ _
    · have h := hy j c hj
      have e : ∀ (w : World) (o : Obj), B + 1 < w.heap.size → (w.alloc o).cell? ⟨B + 1, j, none⟩ = w.cell? ⟨B + 1, j, none⟩ := fun w o hl => World.cell?_of_block (Below.heap_alloc w o _ hl)
      rw [e _ _ (by simp; omega), e _ _ (by simp; omega), e _ _ (by simp; omega), e _ _ (by omega)]
      exact h
    · exact (((Blk.newAt hsz).alloc _).alloc _).alloc _
    · exact ((Blk.newAt (by simp; omega)).alloc _).alloc _
    · exact heap_old (heap_newAt (by simp; omega) _) _
    · exact heap_newAt (by simp; omega) _
    · have := hb3.size; (repeat' (first | (with_reducible assumption) | (with_reducible exact Below.refl _ _) | (with_reducible refine below_drewN ?_ _) | (with_reducible refine Below.drew ?_) | (with_reducible refine Below.setCell ?_ ?_ _) | (with_reducible refine Below.alloc ?_ ?_ _) | (with_reducible refine below_putObj ?_ ?_ _) | (with_reducible exact Nat.le_refl _) | omega | (simp; done) | (simp; omega)))
  · rintro e W ⟨rfl, v, hS, _⟩
    refine ⟨⟨_, rfl⟩, .ready, by simp, .inl ⟨by rw [rec_ready hr1 hr2]; exact hS.lp, ?_⟩⟩
    have S1 := hS.put { rec with state := .exhausted, pending := none }
    have htk : (pairs d).take N = pairs d := List.take_of_length_le (by omega)
    rw [htk] at S1
    generalize hW1 : W.putObj (B + 5) (.loop { rec with state := .exhausted, pending := none }) = W1 at S1
    have a0 : W1.cell? ⟨B, 0, none⟩ = some v := S1.lb.cell 0
    obtain ⟨va, vc, rfl⟩ := (SlAt.of_row S1.own).form
    have HS1 := Lib.hid S1
    have cd := S1.df
    clear S1 hS hr1 hr2 hr3 hr4 hr5 hr6 hy hlb htk hpk hpl hb3 hsz
    simp only [show B + 2 + 1 + 1 = B + 4 by omega]
    clear hW1
    gi_wp2
    have hb := HS1.out.b.drew
    gi_region
    all_goals gi_wp2
    all_goals exact leaves_mark cd (results_tmp3 rfl _ _ _) ⟨nm, _, pairs d, 0, rfl, own_base (own_moved HS1.out.own (fun g hg => World.putObj_heap_other (by have := (own_typed HS1.out.own g hg).1; omega))) (by omega), below_putObj hb (by omega) _, .inr ⟨rfl, rfl⟩⟩

set_option maxRecDepth 100000 in
set_option maxHeartbeats 2000000 in
theorem toAsks_any (s : List UInt8) (hs : s.length ≤ 1000000) (w : World) :
    Calls Try.prog 13 #[.string ⟨s.toArray⟩] w (AsksEnds (readAsks s) w) := by
  have HT := Lib.hid (fun W => to_begin_any s (by omega) W)
  rcases readBeg_cases s with ⟨nm, r, h1, h2⟩ | ⟨e, h1, h2, h3⟩
  · rw [h2] at HT
    dsimp only at HT
    have hrl := dataO_len _ _ _ _ h1
    obtain ⟨n, r2, e2, hT2, hc⟩ := take_cases r 2 (by decide) (by decide) (by omega)
    rcases hc with ⟨h4, rfl, rfl, rfl⟩ | ⟨h4, rfl⟩
    · have hlt := de_lt (r.take 2)
      have hl2 : (r.take 2).length = 2 := by rw [List.length_take]; omega
      rw [hl2] at hlt
      have hlt2 : de (r.take 2) < 65536 := by simpa using hlt
      by_cases hn : (r.drop 2).length = 2 * de (r.take 2)
      · have hX : readAsks s = some (nm, pairs (r.drop 2)) := by unfold readAsks; rw [h1]; dsimp only; rw [if_neg (by omega)]
        rw [hX]
        exact toAsks_good s nm r _ _ hs h1 hT2 hlt2 hn w
      · have hX : readAsks s = none := by unfold readAsks; rw [h1]; dsimp only; rw [if_pos (.inr hn)]
        rw [hX]
        have HT2 := Lib.hid hT2
        have hwn : IntKind.i64.wrap (de (r.take 2) : Int) = (de (r.take 2) : Int) := by rw [IntKind.wrap_i64]; omega
        have e1 : (((r.drop 2).length : Int) != 2 * (de (r.take 2) : Int)) = true := by simp only [bne_iff_ne, ne_eq]; omega
        have hdl : (r.drop 2).length ≤ 1000000 := by rw [List.length_drop]; omega
        generalize de (r.take 2) = n at HT2 hwn e1 hlt2
        generalize r.drop 2 = d at HT2 e1 hdl
        clear hX h1 hn h4 hrl hT2 hlt hl2
        go_enter Try.func13, Try.ntmps13
        go_wp2_with fail
        refine (HT.out _).mono ?_
        rintro e w1 ⟨rfl, hb1⟩
        go_wp2_with fail
        refine (HT2.out _).mono ?_
        rintro e w2 ⟨rfl, hb2⟩
        have b2 := below_next hb1 hb2
        clear hb1 hb2
        go_wp2_with fail
        go_ret3
        exact asksEnds_none _ _ b2
    · have hX : readAsks s = none := by unfold readAsks; rw [h1]; dsimp only; rw [if_pos (.inl h4)]
      rw [hX]
      have HT2 := Lib.hid hT2
      clear hX h1 h4 hrl hT2
      go_enter Try.func13, Try.ntmps13
      go_wp2_with fail
      refine (HT.out _).mono ?_
      rintro e w1 ⟨rfl, hb1⟩
      go_wp2_with fail
      refine (HT2.out _).mono ?_
      rintro e w2 ⟨rfl, hb2⟩
      have b2 := below_next hb1 hb2
      clear hb1 hb2
      go_wp2_with fail
      go_ret3
      exact asksEnds_none _ _ b2
  · rw [h3] at HT
    dsimp only at HT
    obtain ⟨n, r2, e2, hT2, hc⟩ := take_cases [] 2 (by decide) (by decide) (by simp)
    have HT2 := Lib.hid hT2
    have hX : readAsks s = none := by unfold readAsks; rw [h1]
    rw [hX]
    have e1 : (e == 0) = false := by simpa using h2
    have e1' : (e != 0) = true := by simpa using h2
    clear hX h1 hT2 hc h2 h3
    go_enter Try.func13, Try.ntmps13
    go_wp2_with fail
    refine (HT.out _).mono ?_
    rintro e w1 ⟨rfl, hb1⟩
    go_wp2_with fail
    refine (HT2.out _).mono ?_
    rintro e w2 ⟨rfl, hb2⟩
    have b2 := below_next hb1 hb2
    clear hb1 hb2
    go_wp2_with fail
    all_goals go_ret3
    all_goals exact asksEnds_none _ _ b2
end Go.Proofs.Yteljplpiojdikaa
