/- The law's few, short, answers; the document's Alike. -/
import Derived.Test.YtfcojhpnpfodeaaMatAsks
import Derived.Test.YtfcojhpnpfodeaaMatSame
namespace Go.Proofs.Ytfcojhpnpfodeaa
open Go.RowKit

def sumN (l : List Nat) (k : Nat) : Nat := (l.take k).sum
theorem sumN_succ (l : List Nat) (k n : Nat) (h : l[k]? = some n) : sumN l (k + 1) = sumN l k + n := by
  unfold sumN
  rw [List.take_add_one, h]
  simp
theorem le_sumN (l : List Nat) (x : Nat) (h : x ∈ l) : x ≤ l.sum := by
  induction l with
  | nil => simp at h
  | cons a l ih =>
    rw [List.sum_cons]
    rcases List.mem_cons.1 h with rfl | h
    · omega
    · have := ih h; omega
theorem sumN_each (l : List Nat) (n : Nat) (h : sumN l l.length ≤ n) : ∀ x ∈ l, x ≤ n := by
  intro x hx
  unfold sumN at h
  rw [List.take_length] at h
  have := le_sumN _ _ hx
  omega
def WaysEnds (M : Prop) (w : World) (e : Ending) (w' : World) : Prop := ∃ r : Bool, e = .returned (.bool r) ∧ (r = true → M) ∧ Below w.heap.size w w'
theorem wrap_sum (a b N : Nat) (ha : a ≤ N) (hN : N ≤ 100000) (hb : b ≤ 9223372036854775807) (s : Int) (hs : IntKind.i64.wrap ((a : Int) + (b : Int)) = s) (h0 : 0 ≤ s) : s = (a + b : Nat) := by
  subst hs
  simp only [IntKind.wrap, IntKind.signed, IntKind.bits] at h0 ⊢
  simp at h0 ⊢
  omega

set_option maxRecDepth 100000 in
set_option maxHeartbeats 1000000 in
theorem short_any (v : Value) (l : List (List UInt8)) (w : World) (h : SlAt w v l.length (l.map fun x => .string ⟨x.toArray⟩)) (hl : l.length ≤ 9223372036854775807) (hx : ∀ x ∈ l, x.length ≤ 9223372036854775807) :
    Calls Try.prog 7 #[v] w (WaysEnds (∀ x ∈ l, x.length ≤ 20000) w) := by
  obtain ⟨ad, cap, rfl⟩ := h.form
  have H := Lib.hid h
  clear h
  have HL := Lib.hid (show ∀ k, k < l.length → ∃ q, l[k]? = some q ∧ q.length ≤ 9223372036854775807 from fun k hk => ⟨_, List.getElem?_eq_getElem hk, hx _ (List.getElem_mem hk)⟩)
  have HE : Hid (sumN (l.map List.length) l.length ≤ 20000 → ∀ x ∈ l, x.length ≤ 20000) := Lib.hid (fun h x hx => sumN_each (l.map List.length) 20000 (by simpa using h) _ (List.mem_map_of_mem hx))
  clear hx
  obtain ⟨n, hnl⟩ : ∃ n, l.length = n := ⟨_, rfl⟩
  have HN := Lib.hid hnl
  rw [hnl] at hl HE ⊢
  clear hnl
  obtain ⟨M, hM⟩ : ∃ M : Prop, M = ∀ x ∈ l, x.length ≤ 20000 := ⟨_, rfl⟩
  rw [← hM] at HE ⊢
  clear hM
  go_enter Try.func7, Try.ntmps7
  go_wp2
  go_loopw [8, 3] (fun i s wr => ∃ k a : Nat, k ≤ n ∧ i = .int .i64 k ∧ s = .int .i64 a ∧ a ≤ 20000 ∧ Hid (a = sumN (l.map List.length) k) ∧ Below w.heap.size w wr) (fun i _ _ => n - (intOf i).toNat)
  case atStart => exact ⟨0, 0, Nat.zero_le _, rfl, rfl, Nat.zero_le _, Lib.hid (by simp [sumN]), Below.refl _ _⟩
  case round =>
    obtain ⟨k, a, hk, rfl, rfl, ha, hsum, hbw⟩ := hrel
    by_cases hlt : k < n
    · have k1 : (k : Int) < (n : Int) := by omega
      have k0 : (0 : Int) ≤ (k : Int) := by omega
      obtain ⟨q, hq, hql⟩ := HL.out k (by rw [HN.out]; exact hlt)
      have hq2 : (l.map fun x => Value.string ⟨x.toArray⟩)[k]? = some (.string ⟨q.toArray⟩) := by rw [List.getElem?_map, hq]; rfl
      obtain ⟨b, o, rfl, A⟩ := (HN.out ▸ H.out).addr hq2
      have a0 := cell_keepS (A k _ hq2) hbw
      have HQ := Lib.hid (sumN_succ (l.map List.length) k q.length (by rw [List.getElem?_map, hq]; rfl))
      obtain ⟨s, hs⟩ : ∃ s, IntKind.i64.wrap ((a : Int) + (q.length : Int)) = s := ⟨_, rfl⟩
      have HW := Lib.hid (wrap_sum a q.length 20000 ha (by decide) hql s hs)
      clear A hq hq2
      by_cases hs2 : 20000 < s
      · have hs3 : (20000 : Int) < s := hs2
        go_wp2
        go_ret
        exact ⟨false, rfl, by simp, hbw⟩
      · by_cases hs3 : s < 0
        · go_wp2
          go_ret
          exact ⟨false, rfl, by simp, hbw⟩
        · go_wp2
          go_roundw
          case rel =>
            have e := HW.out (by omega)
            exact ⟨k + 1, a + q.length, by omega, by go_num, by rw [e], by omega, Lib.hid (by rw [HQ.out, hsum.out]), hbw⟩
          case measure => simp [intOf]; omega
    · obtain rfl : k = n := by omega
      have k1 : ¬ (k : Int) < (k : Int) := by omega
      go_wp2
      go_ret
      exact ⟨_, rfl, fun h => HE.out (by rw [← hsum.out]; exact ha), hbw⟩

set_option maxRecDepth 100000 in
set_option maxHeartbeats 1000000 in
theorem few_any (v : Value) (l : List Req) (w : World) (h : SlAt w v l.length (l.flatMap reqC)) (hl : l.length ≤ 9223372036854775807) (hx : ∀ q ∈ l, q.data.length ≤ 9223372036854775807) :
    Calls Try.prog 6 #[v] w (WaysEnds (l.length ≤ 20 ∧ ∀ q ∈ l, q.data.length ≤ 40000) w) := by
  obtain ⟨ad, cap, rfl⟩ := h.form
  have H := Lib.hid h
  clear h
  have HL := Lib.hid (show ∀ k, k < l.length → ∃ q, l[k]? = some q ∧ q.data.length ≤ 9223372036854775807 from fun k hk => ⟨_, List.getElem?_eq_getElem hk, hx _ (List.getElem_mem hk)⟩)
  have HE : Hid (sumN (l.map (·.data.length)) l.length ≤ 40000 → ∀ q ∈ l, q.data.length ≤ 40000) := Lib.hid (fun h x hx => sumN_each (l.map (·.data.length)) 40000 (by simpa using h) _ (List.mem_map.2 ⟨x, hx, rfl⟩))
  clear hx
  obtain ⟨n, hnl⟩ : ∃ n, l.length = n := ⟨_, rfl⟩
  have HN := Lib.hid hnl
  rw [hnl] at hl HE ⊢
  clear hnl
  obtain ⟨M, hM⟩ : ∃ M : Prop, M = ∀ q ∈ l, q.data.length ≤ 40000 := ⟨_, rfl⟩
  rw [← hM] at HE ⊢
  clear hM
  go_enter Try.func6, Try.ntmps6
  go_wp2
  go_loopw [8, 3] (fun i s wr => ∃ k a : Nat, k ≤ n ∧ i = .int .i64 k ∧ s = .int .i64 a ∧ a ≤ 40000 ∧ Hid (a = sumN (l.map (·.data.length)) k) ∧ Below w.heap.size w wr) (fun i _ _ => n - (intOf i).toNat)
  case atStart => exact ⟨0, 0, Nat.zero_le _, rfl, rfl, Nat.zero_le _, Lib.hid (by simp [sumN]), Below.refl _ _⟩
  case round =>
    obtain ⟨k, a, hk, rfl, rfl, ha, hsum, hbw⟩ := hrel
    by_cases hlt : k < n
    · have k1 : (k : Int) < (n : Int) := by omega
      have k0 : (0 : Int) ≤ (k : Int) := by omega
      obtain ⟨q, hq, hql⟩ := HL.out k (by rw [HN.out]; exact hlt)
      obtain ⟨b, o, rfl, r0, r1, r2, r3, r4, r5⟩ := req_cells (HN.out ▸ H.out) hq
      have q0 := cell_keepS r0 hbw
      have q1 := cell_keepS r1 hbw
      have q2 := cell_keepS r2 hbw
      have q3 := cell_keepS r3 hbw
      have q4 := cell_keepS r4 hbw
      have q5 := cell_keepS r5 hbw
      have HQ := Lib.hid (sumN_succ (l.map (·.data.length)) k q.data.length (by rw [List.getElem?_map, hq]; rfl))
      obtain ⟨s, hs⟩ : ∃ s, IntKind.i64.wrap ((a : Int) + (q.data.length : Int)) = s := ⟨_, rfl⟩
      have HW := Lib.hid (wrap_sum a q.data.length 40000 ha (by decide) hql s hs)
      have hbs := hbw.size
      clear r0 r1 r2 r3 r4 r5 hq
      by_cases hs2 : 40000 < s
      · have hs3 : (40000 : Int) < s := hs2
        go_wp2
        go_ret
        exact ⟨false, rfl, by simp, by (repeat' (first | (with_reducible assumption) | (with_reducible exact Below.refl _ _) | (with_reducible refine below_drewN ?_ _) | (with_reducible refine Below.drew ?_) | (with_reducible refine Below.setCell ?_ ?_ _) | (with_reducible refine Below.alloc ?_ ?_ _) | (with_reducible refine below_putObj ?_ ?_ _) | (with_reducible exact Nat.le_refl _) | omega | (simp; done) | (simp; omega)))⟩
      · by_cases hs3 : s < 0
        · go_wp2
          go_ret
          exact ⟨false, rfl, by simp, by (repeat' (first | (with_reducible assumption) | (with_reducible exact Below.refl _ _) | (with_reducible refine below_drewN ?_ _) | (with_reducible refine Below.drew ?_) | (with_reducible refine Below.setCell ?_ ?_ _) | (with_reducible refine Below.alloc ?_ ?_ _) | (with_reducible refine below_putObj ?_ ?_ _) | (with_reducible exact Nat.le_refl _) | omega | (simp; done) | (simp; omega)))⟩
        · go_wp2
          go_roundw
          case rel =>
            have e := HW.out (by omega)
            exact ⟨k + 1, a + q.data.length, by omega, by go_num, by rw [e], by omega, Lib.hid (by rw [HQ.out, hsum.out]), by (repeat' (first | (with_reducible assumption) | (with_reducible exact Below.refl _ _) | (with_reducible refine below_drewN ?_ _) | (with_reducible refine Below.drew ?_) | (with_reducible refine Below.setCell ?_ ?_ _) | (with_reducible refine Below.alloc ?_ ?_ _) | (with_reducible refine below_putObj ?_ ?_ _) | (with_reducible exact Nat.le_refl _) | omega | (simp; done) | (simp; omega)))⟩
          case measure => simp [intOf]; omega
    · obtain rfl : k = n := by omega
      have k1 : ¬ (k : Int) < (k : Int) := by omega
      go_wp2
      go_ret
      exact ⟨_, rfl, fun h => ⟨by simp at h; omega, HE.out (by rw [← hsum.out]; exact ha)⟩, hbw⟩

/-- The cells of an answer. -/
def AnswCells (w : World) (b q : Nat) (p : Answ × Value) : Prop :=
  w.cell? ⟨b, q, none⟩ = some (.int .i64 p.1.req.flags) ∧ w.cell? ⟨b, q + 1, none⟩ = some (.int .i64 p.1.req.kind) ∧ w.cell? ⟨b, q + 2, none⟩ = some (.int .u64 (p.1.req.cookie : Nat)) ∧ w.cell? ⟨b, q + 3, none⟩ = some (.int .u64 (p.1.req.frm : Nat)) ∧ w.cell? ⟨b, q + 4, none⟩ = some (.int .u32 (p.1.req.len : Nat)) ∧
  w.cell? ⟨b, q + 5, none⟩ = some (.string ⟨p.1.req.data.toArray⟩) ∧ w.cell? ⟨b, q + 6, none⟩ = some (.int .u32 (p.1.err : Nat)) ∧ w.cell? ⟨b, q + 7, none⟩ = some (.string ⟨p.1.data.toArray⟩) ∧ w.cell? ⟨b, q + 8, none⟩ = some p.2
theorem answ_cells {w : World} {ad : Option Addr} {cap n : Nat} {ps : List (Answ × Value)} {j : Nat} {p : Answ × Value} (h : SlAt w (.slice ad n cap) n (ps.flatMap answC)) (hj : ps[j]? = some p) :
    ∃ b o, ad = some ⟨b, o, none⟩ ∧ AnswCells w b (o + j * 9) p := by
  have f : ∀ i, i < 9 → (ps.flatMap answC)[j * 9 + i]? = (answC p)[i]? := fun i hi => flat_at answC 9 answC_len ps j p i hj hi
  obtain ⟨b, o, rfl, A⟩ := h.addr (k := j * 9 + 0) (u := .int .i64 p.1.req.flags) (by rw [f 0 (by decide)]; rfl)
  have g : ∀ i u, i < 9 → (answC p)[i]? = some u → w.cell? ⟨b, o + j * 9 + i, none⟩ = some u := fun i u hi hu => by
    rw [Nat.add_assoc]
    exact A _ _ (by rw [f i hi]; exact hu)
  exact ⟨b, o, rfl, g 0 _ (by decide) rfl, g 1 _ (by decide) rfl, g 2 _ (by decide) rfl, g 3 _ (by decide) rfl, g 4 _ (by decide) rfl, g 5 _ (by decide) rfl, g 6 _ (by decide) rfl, g 7 _ (by decide) rfl, g 8 _ (by decide) rfl⟩
theorem AnswCells.below {w w' : World} {b q : Nat} {p : Answ × Value} (h : AnswCells w b q p) (hb : Below w.heap.size w w') : AnswCells w' b q p := by
  obtain ⟨h0, h1, h2, h3, h4, h5, h6, h7, h8⟩ := h
  exact ⟨cell_keepS h0 hb, cell_keepS h1 hb, cell_keepS h2 hb, cell_keepS h3 hb, cell_keepS h4 hb, cell_keepS h5 hb, cell_keepS h6 hb, cell_keepS h7 hb, cell_keepS h8 hb⟩

set_option maxRecDepth 100000 in
set_option maxHeartbeats 1000000 in
theorem alike_true (a : Answ) (va vb : Value) (w : World) (h1 : SpanAt w va a.spans) (h2 : SpanAt w vb a.spans) (hs : Small a.spans) :
    Calls Try.prog 25 #[.agg (answC (a, va)).toArray, .agg (answC (a, vb)).toArray] w (Gives (.bool true) w) := by
  obtain ⟨a1, c1, rfl⟩ := h1.form
  obtain ⟨a2, c2, rfl⟩ := h2.form
  have HS := Lib.hid (fun W hb => rspans_same a.spans _ _ hs.1 hs.2 W (h1.below (w' := W) hb) (h2.below hb))
  clear h1 h2 hs
  unfold answC
  dsimp only
  have zo := fun o o2 i => old_cell (w := w.alloc o) (g := w.heap.size) (by simp) o2 i
  go_enter Try.func25, Try.ntmps25
  go_wp2_with fail
  refine (HS.out _ (by (repeat' (first | (with_reducible assumption) | (with_reducible exact Below.refl _ _) | (with_reducible refine below_drewN ?_ _) | (with_reducible refine Below.drew ?_) | (with_reducible refine Below.setCell ?_ ?_ _) | (with_reducible refine Below.alloc ?_ ?_ _) | (with_reducible refine below_putObj ?_ ?_ _) | (with_reducible exact Nat.le_refl _) | omega | (simp; done) | (simp; omega))))).mono ?_
  rintro e w3 ⟨rfl, hb3⟩
  go_wp2_with fail
  go_ret
  exact ⟨rfl, below_next (show Below w.heap.size w _ by (repeat' (first | (with_reducible assumption) | (with_reducible exact Below.refl _ _) | (with_reducible refine below_drewN ?_ _) | (with_reducible refine Below.drew ?_) | (with_reducible refine Below.setCell ?_ ?_ _) | (with_reducible refine Below.alloc ?_ ?_ _) | (with_reducible refine below_putObj ?_ ?_ _) | (with_reducible exact Nat.le_refl _) | omega | (simp; done) | (simp; omega)))) hb3⟩

theorem AnswsAt.pairs {w : World} {v : Value} {l : List Answ} (h : AnswsAt w v l) : ∃ ps : List (Answ × Value), ps.map Prod.fst = l ∧ SlAt w v l.length (ps.flatMap answC) ∧ ∀ p ∈ ps, SpanAt w p.2 p.1.spans := by
  obtain ⟨ps, h1, h2, h3, _⟩ := h
  exact ⟨ps, h1, h2, h3⟩

set_option maxRecDepth 100000 in
set_option maxHeartbeats 4000000 in
theorem answers_true (l : List Answ) (va vb : Value) (w : World) (h1 : AnswsAt w va l) (h2 : AnswsAt w vb l) (hl : l.length ≤ 1000000) (hx : ∀ a ∈ l, Small a.spans) :
    Calls Try.prog 12 #[va, vb] w (Gives (.bool true) w) := by
  have mixed : Try.prog.follows .mixedOrders = true := by kernel_rfl
  obtain ⟨pa, hpa, hsa, hea⟩ := h1.pairs
  obtain ⟨pb, hpb, hsb, heb⟩ := h2.pairs
  obtain ⟨ad1, c1, rfl⟩ := hsa.form
  obtain ⟨ad2, c2, rfl⟩ := hsb.form
  obtain ⟨n, hnl⟩ : ∃ n, l.length = n := ⟨_, rfl⟩
  have HN := Lib.hid hnl
  rw [hnl] at hl hsa hsb ⊢
  clear hnl h1 h2
  have HA := Lib.hid hsa
  have HB := Lib.hid hsb
  have HPA := Lib.hid (And.intro hpa hea)
  have HPB := Lib.hid (And.intro hpb heb)
  have HX := Lib.hid hx
  clear hsa hsb hpa hpb hea heb hx
  go_enter Try.func12, Try.ntmps12
  go_wp2_with fail
  go_loopw [13] (fun i wr => ∃ k : Nat, k ≤ n ∧ i = .int .i64 k ∧ Below w.heap.size w wr) (fun i _ => n - (intOf i).toNat)
  case atStart => exact ⟨0, Nat.zero_le _, rfl, Below.refl _ _⟩
  case round =>
    obtain ⟨k, hk, rfl, hbw⟩ := hrel
    by_cases hlt : k < n
    · have k1 : (k : Int) < (n : Int) := by omega
      have k0 : (0 : Int) ≤ (k : Int) := by omega
      obtain ⟨q, hq⟩ : ∃ q, l[k]? = some q := ⟨_, List.getElem?_eq_getElem (by rw [HN.out]; exact hlt)⟩
      obtain ⟨u, hu⟩ := pairs_get HPA.out.1 k q hq
      obtain ⟨v, hv⟩ := pairs_get HPB.out.1 k q hq
      have su := HPA.out.2 _ (List.mem_of_getElem? hu)
      have sv := HPB.out.2 _ (List.mem_of_getElem? hv)
      obtain ⟨au, cu, eu⟩ := su.form
      obtain ⟨av, cv, ev⟩ := sv.form
      dsimp only at eu ev
      subst eu ev
      obtain ⟨x1, o1, rfl, A⟩ := answ_cells HA.out hu
      obtain ⟨x2, o2, rfl, D⟩ := answ_cells HB.out hv
      have HC := Lib.hid (fun W hb => alike_true q _ _ W (su.below (w' := W) hb) (sv.below hb) (HX.out q (List.mem_of_getElem? hq)))
      have HAD : Hid (∀ W, Below w.heap.size w W → AnswCells W x1 (o1 + k * 9) (q, .slice au q.spans.length cu) ∧ AnswCells W x2 (o2 + k * 9) (q, .slice av q.spans.length cv)) := Lib.hid (fun W hb => ⟨A.below hb, D.below hb⟩)
      obtain ⟨⟨a0, a1, a2, a3, a4, a5, a6, a7, a8⟩, d0, d1, d2, d3, d4, d5, d6, d7, d8⟩ := HAD.out wr.drew (below_drewN hbw _)
      clear A D hq hu hv su sv
      dsimp only at a0 a1 a2 a3 a4 a5 a6 a7 a8 d0 d1 d2 d3 d4 d5 d6 d7 d8
      unfold answC at HC
      dsimp only at HC
      go_upto_region 6 with fail
      go_region_held3 (fun w' => (w'.cell? ⟨x1, o1 + k * 9, none⟩ = some (.int .i64 q.req.flags) ∧ w'.cell? ⟨x1, o1 + k * 9 + 1, none⟩ = some (.int .i64 q.req.kind) ∧ w'.cell? ⟨x1, o1 + k * 9 + 2, none⟩ = some (.int .u64 (q.req.cookie : Nat)) ∧ w'.cell? ⟨x1, o1 + k * 9 + 3, none⟩ = some (.int .u64 (q.req.frm : Nat)) ∧ w'.cell? ⟨x1, o1 + k * 9 + 4, none⟩ = some (.int .u32 (q.req.len : Nat)) ∧ w'.cell? ⟨x1, o1 + k * 9 + 5, none⟩ = some (.string ⟨q.req.data.toArray⟩) ∧ w'.cell? ⟨x1, o1 + k * 9 + 6, none⟩ = some (.int .u32 (q.err : Nat)) ∧ w'.cell? ⟨x1, o1 + k * 9 + 7, none⟩ = some (.string ⟨q.data.toArray⟩) ∧ w'.cell? ⟨x1, o1 + k * 9 + 8, none⟩ = some (.slice au q.spans.length cu)) ∧ w'.cell? ⟨x2, o2 + k * 9, none⟩ = some (.int .i64 q.req.flags) ∧ w'.cell? ⟨x2, o2 + k * 9 + 1, none⟩ = some (.int .i64 q.req.kind) ∧ w'.cell? ⟨x2, o2 + k * 9 + 2, none⟩ = some (.int .u64 (q.req.cookie : Nat)) ∧ w'.cell? ⟨x2, o2 + k * 9 + 3, none⟩ = some (.int .u64 (q.req.frm : Nat)) ∧ w'.cell? ⟨x2, o2 + k * 9 + 4, none⟩ = some (.int .u32 (q.req.len : Nat)) ∧ w'.cell? ⟨x2, o2 + k * 9 + 5, none⟩ = some (.string ⟨q.req.data.toArray⟩) ∧ w'.cell? ⟨x2, o2 + k * 9 + 6, none⟩ = some (.int .u32 (q.err : Nat)) ∧ w'.cell? ⟨x2, o2 + k * 9 + 7, none⟩ = some (.string ⟨q.data.toArray⟩) ∧ w'.cell? ⟨x2, o2 + k * 9 + 8, none⟩ = some (.slice av q.spans.length cv))
        (first | with_reducible exact ⟨⟨a0, a1, a2, a3, a4, a5, a6, a7, a8⟩, d0, d1, d2, d3, d4, d5, d6, d7, d8⟩ | with_reducible exact HK6 | go_keep)
        (first | (go_at_call 25; refine (HC.out _ (below_drewN hbw _)).mono ?_; rintro e w6 ⟨rfl, hb⟩; have hb6 := below_next (below_drewN hbw 1) hb; have HK6 := HAD.out _ hb6; unfold AnswCells at HK6; dsimp only at HK6))
      go_wp2
      go_roundw
      case rel => exact ⟨k + 1, by omega, by go_num, hb6⟩
      case measure => simp [intOf]; omega
    · obtain rfl : k = n := by omega
      have k1 : ¬ (k : Int) < (k : Int) := by omega
      go_wp2
      go_ret
      exact ⟨rfl, hbw⟩
end Go.Proofs.Ytfcojhpnpfodeaa
