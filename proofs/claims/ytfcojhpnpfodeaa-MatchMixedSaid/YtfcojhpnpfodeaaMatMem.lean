/- A client in memory: rows of structs, and what of it stays. -/
import Derived.Test.YtfcojhpnpfodeaaMatLaw
import Derived.Test.YtfcojhpnpfodeaaMRepToSt
import Derived.Test.YtfcojhpnpfodeaaMReqWrite
import Derived.Maps.AppendAt
import Derived.Deep.AppendLies
namespace Go.Proofs.Ytfcojhpnpfodeaa
open Go.RowKit

/-- v is a slice of n elements whose cells are cs. -/
def SlAt (w : World) (v : Value) (n : Nat) (cs : List Value) : Prop :=
  (v = .slice none 0 0 ∧ n = 0 ∧ cs = []) ∨ ∃ a cap, v = .slice (some a) n cap ∧ (cs = [] ∨ a.spot = none) ∧ ∀ j u, cs[j]? = some u → w.cell? (a.add j) = some u
theorem cell_keepS {w w' : World} {p : Addr} {v : Value} (h : w.cell? p = some v) (hb : Below w.heap.size w w') : w'.cell? p = some v := (hb.cell (World.block_lt_of_cell? w p h)).trans h
theorem SlAt.below {w w' : World} {v : Value} {n : Nat} {cs : List Value} (h : SlAt w v n cs) (hb : Below w.heap.size w w') : SlAt w' v n cs := by
  rcases h with h | ⟨a, cap, rfl, hs, hc⟩
  · exact .inl h
  · exact .inr ⟨a, cap, rfl, hs, fun j u hu => cell_keepS (hc j u hu) hb⟩
theorem SlAt.of_row {w : World} {v : Value} {n B sz : Nat} {e : TypeId} {cs : List Value} (h : w.ownsRow B e sz v n cs) : SlAt w v n cs := by
  rcases h.2 with ⟨hv, h0⟩ | ⟨g, cap, cur, hv, _⟩
  · have hl := h.1
    rw [h0, Nat.zero_mul, List.length_eq_zero_iff] at hl
    exact .inl ⟨hv, h0, hl⟩
  · refine .inr ⟨⟨g, 0, none⟩, cap, hv, .inr rfl, fun j u hu => h.cells (by rw [hv]; rfl) j u hu⟩
theorem SlAt.form {w : World} {v : Value} {n : Nat} {cs : List Value} (h : SlAt w v n cs) : ∃ ad cap, v = .slice ad n cap := by
  rcases h with ⟨rfl, rfl, _⟩ | ⟨a, cap, rfl, _⟩
  · exact ⟨none, 0, rfl⟩
  · exact ⟨some a, cap, rfl⟩
/-- The address of what is not empty. -/
theorem SlAt.addr {w : World} {ad : Option Addr} {cap n k : Nat} {cs : List Value} {u : Value} (h : SlAt w (.slice ad n cap) n cs) (hk : cs[k]? = some u) :
    ∃ b o, ad = some ⟨b, o, none⟩ ∧ ∀ j u, cs[j]? = some u → w.cell? ⟨b, o + j, none⟩ = some u := by
  rcases h with ⟨_, _, rfl⟩ | ⟨⟨b, o, sp⟩, cap', hv, hs, hc⟩
  · simp at hk
  · simp only [Value.slice.injEq] at hv
    obtain ⟨rfl, _, _⟩ := hv
    rcases hs with rfl | hs
    · simp at hk
    · dsimp only at hs
      subst hs
      refine ⟨b, o, rfl, fun j u hu => ?_⟩
      have := hc j u hu
      rwa [Addr.add_lit] at this

/-- Rows of structs of k cells. -/
theorem flat_len {α : Type} (f : α → List Value) (k : Nat) (hf : ∀ x, (f x).length = k) (l : List α) : (l.flatMap f).length = l.length * k := by
  induction l with
  | nil => simp
  | cons a l ih => rw [List.flatMap_cons, List.length_append, ih, hf, List.length_cons]; rw [Nat.add_mul]; omega
theorem flat_at {α : Type} (f : α → List Value) (k : Nat) (hf : ∀ x, (f x).length = k) : ∀ (l : List α) (j : Nat) (x : α) (i : Nat), l[j]? = some x → i < k → (l.flatMap f)[j * k + i]? = (f x)[i]? := by
  intro l
  induction l with
  | nil => intro j x i h; simp at h
  | cons a l ih =>
    intro j x i h hi
    rw [List.flatMap_cons]
    cases j with
    | zero =>
      simp at h
      subst h
      rw [Nat.zero_mul, Nat.zero_add, List.getElem?_append_left (by rw [hf]; exact hi)]
    | succ j =>
      have h2 : l[j]? = some x := by simpa using h
      rw [List.getElem?_append_right (by rw [hf, Nat.add_mul]; omega), hf, Nat.add_mul, show j * k + 1 * k + i - k = j * k + i by omega]
      exact ih j x i h2 hi
theorem flat_set {α : Type} (f : α → List Value) (k : Nat) (hf : ∀ x, (f x).length = k) (l : List α) (j : Nat) (x y : α) (i : Nat) (u : Value) (hx : l[j]? = some x) (hi : i < k) (hy : f y = (f x).set i u) : (l.flatMap f).set (j * k + i) u = (l.set j y).flatMap f := by
  induction l generalizing j with
  | nil => simp at hx
  | cons a l ih =>
    cases j with
    | zero =>
      simp at hx
      subst hx
      rw [Nat.zero_mul, Nat.zero_add, List.set_cons_zero, List.flatMap_cons, List.flatMap_cons, hy, List.set_append_left _ _ (by rw [hf]; exact hi)]
    | succ j =>
      have h2 : l[j]? = some x := by simpa using hx
      rw [List.set_cons_succ, List.flatMap_cons, List.flatMap_cons, List.set_append_right _ _ (by rw [hf, Nat.add_mul]; omega), hf, Nat.add_mul, show j * k + 1 * k + i - k = j * k + i by omega, ih j h2]
theorem flat_one {α : Type} (f : α → List Value) (h1 : ∀ x, ∀ u ∈ f x, u.oneCell' = true) (l : List α) : ∀ u ∈ l.flatMap f, u.oneCell' = true := by
  intro u hu
  obtain ⟨x, _, hx⟩ := List.mem_flatMap.1 hu
  exact h1 x u hx

def reqC (q : Req) : List Value := [.int .i64 q.flags, .int .i64 q.kind, .int .u64 (q.cookie : Nat), .int .u64 (q.frm : Nat), .int .u32 (q.len : Nat), .string ⟨q.data.toArray⟩]
abbrev SpanV := Span × Value
def spanC (p : Span × Value) : List Value := [.int .u32 (p.1.context : Nat), p.2]
def waitC (p : Wait × Value) : List Value := [.int .i64 p.1.req.flags, .int .i64 p.1.req.kind, .int .u64 (p.1.req.cookie : Nat), .int .u64 (p.1.req.frm : Nat), .int .u32 (p.1.req.len : Nat), .string ⟨p.1.req.data.toArray⟩, .string ⟨p.1.data.toArray⟩, .string ⟨p.1.have_.toArray⟩, p.2, .int .u32 (p.1.err : Nat)]
def answC (p : Answ × Value) : List Value := [.int .i64 p.1.req.flags, .int .i64 p.1.req.kind, .int .u64 (p.1.req.cookie : Nat), .int .u64 (p.1.req.frm : Nat), .int .u32 (p.1.req.len : Nat), .string ⟨p.1.req.data.toArray⟩, .int .u32 (p.1.err : Nat), .string ⟨p.1.data.toArray⟩, p.2]
theorem spanC_len (p : Span × Value) : (spanC p).length = 2 := rfl
theorem waitC_len (p : Wait × Value) : (waitC p).length = 10 := rfl
theorem answC_len (p : Answ × Value) : (answC p).length = 9 := rfl

/-- A value that is a slice: of one cell. -/
theorem ext_form {w : World} {v : Value} {l : List Ext} (h : ExtAt w v l) : ∃ ad cap, v = .slice ad l.length cap := by
  obtain ⟨ad, cap, rfl, _⟩ := h
  exact ⟨ad, cap, rfl⟩
/-- Where a slice lies, elements of that type lie. -/
def TyAt (w : World) (e : TypeId) (v : Value) : Prop := ∀ g, v.ownBlock = some g → ∃ cs fr, w.heap[g]? = some (.cells cs e fr)
theorem TyAt.below {w w' : World} {e : TypeId} {v : Value} (h : TyAt w e v) (hb : Below w.heap.size w w') : TyAt w' e v := fun g hg => by
  obtain ⟨cs, fr, h1⟩ := h g hg
  exact ⟨cs, fr, (hb.block g (Array.getElem?_eq_some_iff.1 h1).1).trans h1⟩
theorem TyAt.of_row {w : World} {v : Value} {n B sz : Nat} {e : TypeId} {cs : List Value} (h : w.ownsRow B e sz v n cs) : TyAt w e v := fun g hg => by
  rcases h.2 with ⟨rfl, _⟩ | ⟨g', cap, cur, rfl, _, hh, _⟩
  · simp [Value.ownBlock] at hg
  · simp [Value.ownBlock] at hg
    subst hg
    exact ⟨cur, (0, 0), hh⟩
theorem ty_nil (w : World) (e : TypeId) : TyAt w e (.slice none 0 0) := fun g hg => by simp [Value.ownBlock] at hg
/-- What lies elsewhere than the block that is another type's stays. -/
theorem TyAt.ne {w : World} {e t : TypeId} {v : Value} {R : Nat} {cs : Array Value} (h : TyAt w e v) (hR : Blk w R t cs) (hte : t ≠ e) : ∀ g, v.ownBlock = some g → g ≠ R := by
  rintro g hg rfl
  obtain ⟨cs', fr, h1⟩ := h g hg
  have := (show w.heap[g]? = _ from hR).symm.trans h1
  simp only [Option.some.injEq, Obj.cells.injEq] at this
  exact hte this.2.1
theorem SlAt.moved {w w' : World} {v : Value} {n : Nat} {cs : List Value} (h : SlAt w v n cs) (hk : ∀ g, v.ownBlock = some g → w'.heap[g]? = w.heap[g]?) : SlAt w' v n cs := by
  rcases h with h | ⟨a, cap, rfl, hs, hc⟩
  · exact .inl h
  · refine .inr ⟨a, cap, rfl, hs, fun j u hu => ?_⟩
    have hb : (a.add j).block = a.block := by unfold Addr.add; split <;> rfl
    rw [World.cell?_of_block (w := w) (by rw [hb]; exact hk a.block rfl)]
    exact hc j u hu
theorem TyAt.moved {w w' : World} {e : TypeId} {v : Value} (h : TyAt w e v) (hk : ∀ g, v.ownBlock = some g → w'.heap[g]? = w.heap[g]?) : TyAt w' e v := fun g hg => by
  obtain ⟨cs, fr, h1⟩ := h g hg
  exact ⟨cs, fr, (hk g hg).trans h1⟩
/-- Extents, where they may lie. -/
def ExtT (w : World) (v : Value) (l : List Ext) : Prop := ExtAt w v l ∧ TyAt w 114 v
theorem ExtT.below {w w' : World} {v : Value} {l : List Ext} (h : ExtT w v l) (hb : Below w.heap.size w w') : ExtT w' v l := ⟨h.1.below hb, h.2.below hb⟩
theorem ExtT.moved {w w' : World} {v : Value} {l : List Ext} (h : ExtT w v l) (hk : ∀ g, v.ownBlock = some g → w'.heap[g]? = w.heap[g]?) : ExtT w' v l := by
  obtain ⟨⟨ad, cap, rfl, hc⟩, h2⟩ := h
  refine ⟨⟨ad, cap, rfl, ?_⟩, h2.moved hk⟩
  rcases hc with hc | ⟨b, o, rfl, hc⟩
  · exact .inl hc
  · have hkb := hk b rfl
    exact .inr ⟨b, o, rfl, fun j x hx => ⟨(World.cell?_of_block (w := w) hkb).trans (hc j x hx).1, (World.cell?_of_block (w := w) hkb).trans (hc j x hx).2⟩⟩
/-- v is a slice that holds the spans l. -/
def SpanAt (w : World) (v : Value) (l : List Span) : Prop :=
  ∃ ps : List (Span × Value), ps.map Prod.fst = l ∧ SlAt w v l.length (ps.flatMap spanC) ∧ (∀ p ∈ ps, ExtT w p.2 p.1.list) ∧ TyAt w 90 v
theorem SpanAt.below {w w' : World} {v : Value} {l : List Span} (h : SpanAt w v l) (hb : Below w.heap.size w w') : SpanAt w' v l := by
  obtain ⟨ps, h1, h2, h3, h4⟩ := h
  exact ⟨ps, h1, h2.below hb, fun p hp => (h3 p hp).below hb, h4.below hb⟩
theorem SpanAt.form {w : World} {v : Value} {l : List Span} (h : SpanAt w v l) : ∃ ad cap, v = .slice ad l.length cap := by
  obtain ⟨ps, h1, h2, h3⟩ := h
  exact h2.form
theorem span_nil (w : World) : SpanAt w (.slice none 0 0) [] := ⟨[], rfl, .inl ⟨rfl, rfl, rfl⟩, by simp, ty_nil _ _⟩
/-- Worlds that differ in blocks of other types alone. -/
def Apart (w w' : World) : Prop := ∀ (g : Nat) (cs : Array Value) (e : TypeId) (fr : Nat × Nat), w.heap[g]? = some (.cells cs e fr) → (e = 114 ∨ e = 90 ∨ e = 42 ∨ e = 40) → w'.heap[g]? = w.heap[g]?
theorem TyAt.apart {w w' : World} {e : TypeId} {v : Value} (h : TyAt w e v) (ha : Apart w w') (he : e = 114 ∨ e = 90 ∨ e = 42 ∨ e = 40) : ∀ g, v.ownBlock = some g → w'.heap[g]? = w.heap[g]? := fun g hg => by
  obtain ⟨cs, fr, h1⟩ := h g hg
  exact ha g cs e fr h1 he
theorem SpanAt.apart {w w' : World} {v : Value} {l : List Span} (h : SpanAt w v l) (ha : Apart w w') : SpanAt w' v l := by
  obtain ⟨ps, h1, h2, h3, h4⟩ := h
  have hk := h4.apart ha (.inr (.inl rfl))
  exact ⟨ps, h1, h2.moved hk, fun p hp => (h3 p hp).moved ((h3 p hp).2.apart ha (.inl rfl)), h4.moved hk⟩
/-- v is a slice that holds what waits. -/
def WaitsAt (w : World) (v : Value) (l : List Wait) : Prop :=
  ∃ ps : List (Wait × Value), ps.map Prod.fst = l ∧ SlAt w v l.length (ps.flatMap waitC) ∧ (∀ p ∈ ps, SpanAt w p.2 p.1.spans) ∧ TyAt w 42 v
theorem WaitsAt.below {w w' : World} {v : Value} {l : List Wait} (h : WaitsAt w v l) (hb : Below w.heap.size w w') : WaitsAt w' v l := by
  obtain ⟨ps, h1, h2, h3, h4⟩ := h
  exact ⟨ps, h1, h2.below hb, fun p hp => (h3 p hp).below hb, h4.below hb⟩
theorem WaitsAt.form {w : World} {v : Value} {l : List Wait} (h : WaitsAt w v l) : ∃ ad cap, v = .slice ad l.length cap := by
  obtain ⟨ps, h1, h2, h3⟩ := h
  exact h2.form
theorem WaitsAt.apart {w w' : World} {v : Value} {l : List Wait} (h : WaitsAt w v l) (ha : Apart w w') : WaitsAt w' v l := by
  obtain ⟨ps, h1, h2, h3, h4⟩ := h
  have hk := h4.apart ha (.inr (.inr (.inl rfl)))
  exact ⟨ps, h1, h2.moved hk, fun p hp => (h3 p hp).apart ha, h4.moved hk⟩
theorem waits_nil (w : World) : WaitsAt w (.slice none 0 0) [] := ⟨[], rfl, .inl ⟨rfl, rfl, rfl⟩, by simp, ty_nil _ _⟩
/-- v is a slice that holds answers. -/
def AnswsAt (w : World) (v : Value) (l : List Answ) : Prop :=
  ∃ ps : List (Answ × Value), ps.map Prod.fst = l ∧ SlAt w v l.length (ps.flatMap answC) ∧ (∀ p ∈ ps, SpanAt w p.2 p.1.spans) ∧ TyAt w 40 v
theorem AnswsAt.below {w w' : World} {v : Value} {l : List Answ} (h : AnswsAt w v l) (hb : Below w.heap.size w w') : AnswsAt w' v l := by
  obtain ⟨ps, h1, h2, h3, h4⟩ := h
  exact ⟨ps, h1, h2.below hb, fun p hp => (h3 p hp).below hb, h4.below hb⟩
theorem AnswsAt.form {w : World} {v : Value} {l : List Answ} (h : AnswsAt w v l) : ∃ ad cap, v = .slice ad l.length cap := by
  obtain ⟨ps, h1, h2, h3⟩ := h
  exact h2.form
theorem AnswsAt.apart {w w' : World} {v : Value} {l : List Answ} (h : AnswsAt w v l) (ha : Apart w w') : AnswsAt w' v l := by
  obtain ⟨ps, h1, h2, h3, h4⟩ := h
  have hk := h4.apart ha (.inr (.inr (.inr rfl)))
  exact ⟨ps, h1, h2.moved hk, fun p hp => (h3 p hp).apart ha, h4.moved hk⟩
theorem answs_nil (w : World) : AnswsAt w (.slice none 0 0) [] := ⟨[], rfl, .inl ⟨rfl, rfl, rfl⟩, by simp, ty_nil _ _⟩
/-- Stores to a block of another type. -/
theorem apart_set {w w0 : World} {R : Nat} {t : TypeId} {cs : Array Value} (h : Apart w0 w) (hR : Blk w0 R t cs) (ht : t ≠ 114 ∧ t ≠ 90 ∧ t ≠ 42 ∧ t ≠ 40) (i : Nat) (u : Value) : Apart w0 (w.setCell ⟨R, i, none⟩ u) := by
  intro g cs' e fr h1 he
  have hg : g ≠ R := by
    rintro rfl
    have := (show w0.heap[g]? = _ from hR).symm.trans h1
    simp only [Option.some.injEq, Obj.cells.injEq] at this
    obtain ⟨_, rfl, _⟩ := this
    rcases he with he | he | he | he
    · exact ht.1 he
    · exact ht.2.1 he
    · exact ht.2.2.1 he
    · exact ht.2.2.2 he
  rw [Below.heap_setCell w ⟨R, i, none⟩ u g hg]
  exact h g cs' e fr h1 he
theorem apart_refl (w : World) : Apart w w := fun _ _ _ _ _ _ => rfl
theorem apart_drew {w w0 : World} (h : Apart w0 w) : Apart w0 w.drew := h

/-- A client's cells. -/
def matC (m : Mat) (v : Value) : Array Value := #[.string ⟨m.buf.toArray⟩, .bool m.chunks, v, .bool m.dead]

/-- What is k-th of the pairs. -/
theorem pairs_get {α : Type} {ps : List (α × Value)} {l : List α} (h : ps.map Prod.fst = l) (k : Nat) (x : α) (hx : l[k]? = some x) : ∃ v, ps[k]? = some (x, v) := by
  subst h
  rw [List.getElem?_map] at hx
  cases hp : ps[k]? with
  | none => rw [hp] at hx; simp at hx
  | some p =>
    rw [hp] at hx
    simp only [Option.map_some, Option.some.injEq] at hx
    subst hx
    exact ⟨p.2, rfl⟩
theorem waits_one : ∀ (p : Wait × Value), p.2.oneCell' = true → ∀ u ∈ waitC p, u.oneCell' = true := by
  intro p hp u hu
  simp only [waitC, List.mem_cons, List.not_mem_nil, or_false] at hu
  rcases hu with rfl | rfl | rfl | rfl | rfl | rfl | rfl | rfl | rfl | rfl
  all_goals first | rfl | exact hp
theorem waitsRow_one {w : World} {ps : List (Wait × Value)} (h : ∀ p ∈ ps, SpanAt w p.2 p.1.spans) : ∀ u ∈ ps.flatMap waitC, u.oneCell' = true := by
  intro u hu
  obtain ⟨p, hp, hx⟩ := List.mem_flatMap.1 hu
  obtain ⟨ad, cap, e⟩ := (h p hp).form
  exact waits_one p (by rw [e]; rfl) u hx
theorem spansRow_one {w : World} {ps : List (Span × Value)} (h : ∀ p ∈ ps, ExtT w p.2 p.1.list) : ∀ u ∈ ps.flatMap spanC, u.oneCell' = true := by
  intro u hu
  obtain ⟨p, hp, hx⟩ := List.mem_flatMap.1 hu
  obtain ⟨ad, cap, e⟩ := ext_form (h p hp).1
  simp only [spanC, List.mem_cons, List.not_mem_nil, or_false] at hx
  rcases hx with rfl | rfl
  · rfl
  · rw [e]; rfl

/-- The cells of what waits, of an answer, of a span. -/
def WaitCells (w : World) (b q : Nat) (p : Wait × Value) : Prop :=
  w.cell? ⟨b, q, none⟩ = some (.int .i64 p.1.req.flags) ∧ w.cell? ⟨b, q + 1, none⟩ = some (.int .i64 p.1.req.kind) ∧ w.cell? ⟨b, q + 2, none⟩ = some (.int .u64 (p.1.req.cookie : Nat)) ∧ w.cell? ⟨b, q + 3, none⟩ = some (.int .u64 (p.1.req.frm : Nat)) ∧ w.cell? ⟨b, q + 4, none⟩ = some (.int .u32 (p.1.req.len : Nat)) ∧
  w.cell? ⟨b, q + 5, none⟩ = some (.string ⟨p.1.req.data.toArray⟩) ∧ w.cell? ⟨b, q + 6, none⟩ = some (.string ⟨p.1.data.toArray⟩) ∧ w.cell? ⟨b, q + 7, none⟩ = some (.string ⟨p.1.have_.toArray⟩) ∧ w.cell? ⟨b, q + 8, none⟩ = some p.2 ∧ w.cell? ⟨b, q + 9, none⟩ = some (.int .u32 (p.1.err : Nat))
theorem wait_cells {w : World} {ad : Option Addr} {cap n : Nat} {ps : List (Wait × Value)} {j : Nat} {p : Wait × Value} (h : SlAt w (.slice ad n cap) n (ps.flatMap waitC)) (hj : ps[j]? = some p) :
    ∃ b o, ad = some ⟨b, o, none⟩ ∧ WaitCells w b (o + j * 10) p := by
  have f : ∀ i, i < 10 → (ps.flatMap waitC)[j * 10 + i]? = (waitC p)[i]? := fun i hi => flat_at waitC 10 waitC_len ps j p i hj hi
  obtain ⟨b, o, rfl, A⟩ := h.addr (k := j * 10 + 0) (u := .int .i64 p.1.req.flags) (by rw [f 0 (by decide)]; rfl)
  have g : ∀ i u, i < 10 → (waitC p)[i]? = some u → w.cell? ⟨b, o + j * 10 + i, none⟩ = some u := fun i u hi hu => by
    rw [Nat.add_assoc]
    exact A _ _ (by rw [f i hi]; exact hu)
  exact ⟨b, o, rfl, g 0 _ (by decide) rfl, g 1 _ (by decide) rfl, g 2 _ (by decide) rfl, g 3 _ (by decide) rfl, g 4 _ (by decide) rfl, g 5 _ (by decide) rfl, g 6 _ (by decide) rfl, g 7 _ (by decide) rfl, g 8 _ (by decide) rfl, g 9 _ (by decide) rfl⟩
theorem WaitCells.below {w w' : World} {b q : Nat} {p : Wait × Value} (h : WaitCells w b q p) (hb : Below w.heap.size w w') : WaitCells w' b q p := by
  obtain ⟨h0, h1, h2, h3, h4, h5, h6, h7, h8, h9⟩ := h
  exact ⟨cell_keepS h0 hb, cell_keepS h1 hb, cell_keepS h2 hb, cell_keepS h3 hb, cell_keepS h4 hb, cell_keepS h5 hb, cell_keepS h6 hb, cell_keepS h7 hb, cell_keepS h8 hb, cell_keepS h9 hb⟩

theorem span_cells {w : World} {ad : Option Addr} {cap n : Nat} {ps : List (Span × Value)} {j : Nat} {p : Span × Value} (h : SlAt w (.slice ad n cap) n (ps.flatMap spanC)) (hj : ps[j]? = some p) :
    ∃ b o, ad = some ⟨b, o, none⟩ ∧ w.cell? ⟨b, o + j * 2, none⟩ = some (.int .u32 (p.1.context : Nat)) ∧ w.cell? ⟨b, o + j * 2 + 1, none⟩ = some p.2 := by
  have f : ∀ i, i < 2 → (ps.flatMap spanC)[j * 2 + i]? = (spanC p)[i]? := fun i hi => flat_at spanC 2 spanC_len ps j p i hj hi
  obtain ⟨b, o, rfl, A⟩ := h.addr (k := j * 2 + 0) (u := .int .u32 (p.1.context : Nat)) (by rw [f 0 (by decide)]; rfl)
  have g : ∀ i u, i < 2 → (spanC p)[i]? = some u → w.cell? ⟨b, o + j * 2 + i, none⟩ = some u := fun i u hi hu => by
    rw [Nat.add_assoc]
    exact A _ _ (by rw [f i hi]; exact hu)
  exact ⟨b, o, rfl, g 0 _ (by decide) rfl, g 1 _ (by decide) rfl⟩

theorem held4e {a w w' : World} {p1 p2 p3 p4 : Addr} {u v x y : Value} (h : w.cell? p1 = some u ∧ w.cell? p2 = some v ∧ w.cell? p3 = some x ∧ w.cell? p4 = some y ∧ Below a.heap.size a w) (hb : Below w.heap.size w w') :
    w'.cell? p1 = some u ∧ w'.cell? p2 = some v ∧ w'.cell? p3 = some x ∧ w'.cell? p4 = some y ∧ Below a.heap.size a w' :=
  ⟨cell_keepS h.1 hb, cell_keepS h.2.1 hb, cell_keepS h.2.2.1 hb, cell_keepS h.2.2.2.1 hb, below_next h.2.2.2.2 hb⟩

theorem own_base {B B' : Nat} {e : TypeId} {k : Nat} {v : Value} {n : Nat} {xs : List Value} {w : World} (h : w.ownsRow B e k v n xs) (hb : B' ≤ B) : w.ownsRow B' e k v n xs := by
  refine ⟨h.1, ?_⟩
  rcases h.2 with h2 | ⟨g, cap, cur, hv, hg, rest⟩
  · exact .inl h2
  · exact .inr ⟨g, cap, cur, hv, Nat.le_trans hb hg, rest⟩

end Go.Proofs.Ytfcojhpnpfodeaa
