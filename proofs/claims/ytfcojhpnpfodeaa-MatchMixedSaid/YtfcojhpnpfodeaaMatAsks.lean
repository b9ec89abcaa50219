/- The law's asked. -/
import Derived.Test.YtfcojhpnpfodeaaMatAsked
import Derived.Test.YtfcojhpnpfodeaaMatInv
namespace Go.Proofs.Ytfcojhpnpfodeaa
open Go.RowKit

theorem reqC_len (q : Req) : (reqC q).length = 6 := rfl
theorem req_cells {w : World} {ad : Option Addr} {cap n : Nat} {l : List Req} {j : Nat} {q : Req} (h : SlAt w (.slice ad n cap) n (l.flatMap reqC)) (hj : l[j]? = some q) :
    ∃ b o, ad = some ⟨b, o, none⟩ ∧ w.cell? ⟨b, o + j * 6, none⟩ = some (.int .i64 q.flags) ∧ w.cell? ⟨b, o + j * 6 + 1, none⟩ = some (.int .i64 q.kind) ∧ w.cell? ⟨b, o + j * 6 + 2, none⟩ = some (.int .u64 (q.cookie : Nat)) ∧
      w.cell? ⟨b, o + j * 6 + 3, none⟩ = some (.int .u64 (q.frm : Nat)) ∧ w.cell? ⟨b, o + j * 6 + 4, none⟩ = some (.int .u32 (q.len : Nat)) ∧ w.cell? ⟨b, o + j * 6 + 5, none⟩ = some (.string ⟨q.data.toArray⟩) := by
  have f : ∀ i, i < 6 → (l.flatMap reqC)[j * 6 + i]? = (reqC q)[i]? := fun i hi => flat_at reqC 6 reqC_len l j q i hj hi
  obtain ⟨b, o, rfl, A⟩ := h.addr (k := j * 6 + 0) (u := .int .i64 q.flags) (by rw [f 0 (by decide)]; rfl)
  have g : ∀ i u, i < 6 → (reqC q)[i]? = some u → w.cell? ⟨b, o + j * 6 + i, none⟩ = some u := fun i u hi hu => by
    rw [Nat.add_assoc]
    exact A _ _ (by rw [f i hi]; exact hu)
  exact ⟨b, o, rfl, g 0 _ (by decide) rfl, g 1 _ (by decide) rfl, g 2 _ (by decide) rfl, g 3 _ (by decide) rfl, g 4 _ (by decide) rfl, g 5 _ (by decide) rfl⟩

set_option maxRecDepth 100000 in
theorem new_any (c : Bool) (w : World) : Calls Try.prog 17 #[.bool c] w (Gives (.agg (matC (Mat.new c) (.slice none 0 0))) w) := by
  unfold matC Mat.new
  go_enter Try.func17, Try.ntmps17
  go_wp2
  refine bodyPost_ret (v := .agg #[.string ⟨#[]⟩, .bool c, .slice none 0 0, .bool false]) (by simp [results, Try.results17, go_sem]) rfl ?_
  exact ⟨rfl, by (repeat' (first | (with_reducible assumption) | (with_reducible exact Below.refl _ _) | (with_reducible refine below_drewN ?_ _) | (with_reducible refine Below.drew ?_) | (with_reducible refine Below.setCell ?_ ?_ _) | (with_reducible refine Below.alloc ?_ ?_ _) | (with_reducible refine below_putObj ?_ ?_ _) | (with_reducible exact Nat.le_refl _) | omega | (simp; done) | (simp; omega)))⟩
set_option maxRecDepth 100000 in
theorem rnew_any (c : Bool) (w : World) : Calls Try.prog 19 #[.bool c] w (Gives (.agg (matC (Mat.new c) (.slice none 0 0))) w) := by
  unfold matC Mat.new
  go_enter Try.func19, Try.ntmps19
  go_wp2
  refine bodyPost_ret (v := .agg #[.string ⟨#[]⟩, .bool c, .slice none 0 0, .bool false]) (by simp [results, Try.results19, go_sem]) rfl ?_
  exact ⟨rfl, by (repeat' (first | (with_reducible assumption) | (with_reducible exact Below.refl _ _) | (with_reducible refine below_drewN ?_ _) | (with_reducible refine Below.drew ?_) | (with_reducible refine Below.setCell ?_ ?_ _) | (with_reducible refine Below.alloc ?_ ?_ _) | (with_reducible refine below_putObj ?_ ?_ _) | (with_reducible exact Nat.le_refl _) | omega | (simp; done) | (simp; omega)))⟩

/-- How asked ends. -/
def AskedEnds (m : Mat) (w : World) (e : Ending) (w' : World) : Prop :=
  ∃ va vb, e = .returned (.tuple #[.agg (matC m va), .agg (matC m vb), .bool true]) ∧ WaitsAt w' va m.waits ∧ WaitsAt w' vb m.waits ∧ Below w.heap.size w w'

/-- What asked's loop holds. -/
structure AkSt (w : World) (GA GB : Nat) (m : Mat) (va vb : Value) (W : World) : Prop where
  a : Blk W GA 28 (matC m va)
  b : Blk W GB 28 (matC m vb)
  r1 : Blk W w.heap.size 28 #[.string ⟨#[]⟩, .bool false, .slice none 0 0, .bool false]
  r2 : Blk W (w.heap.size + 1) 28 #[.string ⟨#[]⟩, .bool false, .slice none 0 0, .bool false]
  wa : WaitsAt W va m.waits
  wb : WaitsAt W vb m.waits
  bl : Below w.heap.size w W
  ga : w.heap.size + 1 < GA
  gb : GA < GB
theorem AkSt.below {w : World} {GA GB : Nat} {m : Mat} {va vb : Value} {W W' : World} (h : AkSt w GA GB m va vb W) (hb : Below W.heap.size W W') : AkSt w GA GB m va vb W' :=
  ⟨h.a.below hb h.a.lt, h.b.below hb h.b.lt, h.r1.below hb h.r1.lt, h.r2.below hb h.r2.lt, h.wa.below hb, h.wb.below hb, below_next h.bl hb, h.ga, h.gb⟩

/-- The two clients turned. -/
theorem AkSt.turned {w : World} {GA GB : Nat} {m m' : Mat} {va vb va' vb' : Value} {W W' : World} (h : AkSt w GA GB m va vb W) (hA : Blk W' GA 28 (matC m' va')) (hB : Blk W' GB 28 (matC m' vb'))
    (wa : WaitsAt W va' m'.waits) (wb : WaitsAt W vb' m'.waits) (ha : Apart W W') (hr1 : W'.heap[w.heap.size]? = W.heap[w.heap.size]?) (hr2 : W'.heap[w.heap.size + 1]? = W.heap[w.heap.size + 1]?) (hb : Below w.heap.size w W') : AkSt w GA GB m' va' vb' W' :=
  ⟨hA, hB, hr1.trans h.r1, hr2.trans h.r2, wa.apart ha, wb.apart ha, hb, h.ga, h.gb⟩

set_option maxRecDepth 100000 in
theorem ak_set {w W : World} {G : Nat} {m m' : Mat} {va vb va' vb' : Value} (h : AkSt w G (G + 1) m va vb W) (wa : WaitsAt W va' m'.waits) (wb : WaitsAt W vb' m'.waits) : AkSt w G (G + 1) m' va' vb' ((((((((W.setCell ⟨G, 0, none⟩ (.string ⟨m'.buf.toArray⟩)).setCell ⟨G, 1, none⟩ (.bool m'.chunks)).setCell ⟨G, 2, none⟩ (va')).setCell ⟨G, 3, none⟩ (.bool m'.dead)).setCell ⟨G + 1, 0, none⟩ (.string ⟨m'.buf.toArray⟩)).setCell ⟨G + 1, 1, none⟩ (.bool m'.chunks)).setCell ⟨G + 1, 2, none⟩ (vb')).setCell ⟨G + 1, 3, none⟩ (.bool m'.dead)).drew := by
  have hne : G ≠ G + 1 := by omega
  have h1 := h.ga
  have hT : 28 ≠ 114 ∧ 28 ≠ 90 ∧ 28 ≠ 42 ∧ 28 ≠ 40 := by decide
  have hw : ∀ g, g ≠ G → g ≠ G + 1 → ((((((((W.setCell ⟨G, 0, none⟩ (.string ⟨m'.buf.toArray⟩)).setCell ⟨G, 1, none⟩ (.bool m'.chunks)).setCell ⟨G, 2, none⟩ (va')).setCell ⟨G, 3, none⟩ (.bool m'.dead)).setCell ⟨G + 1, 0, none⟩ (.string ⟨m'.buf.toArray⟩)).setCell ⟨G + 1, 1, none⟩ (.bool m'.chunks)).setCell ⟨G + 1, 2, none⟩ (vb')).setCell ⟨G + 1, 3, none⟩ (.bool m'.dead)).heap[g]? = W.heap[g]? := by
    intro g hg hg2
    rw [heap_set hg2, heap_set hg2, heap_set hg2, heap_set hg2, heap_set hg, heap_set hg, heap_set hg, heap_set hg]
  have hA := ((((((((h.a.set_ 0 (.string ⟨m'.buf.toArray⟩)).set_ 1 (.bool m'.chunks)).set_ 2 va').set_ 3 (.bool m'.dead)).far (p := ⟨G + 1, 0, none⟩) hne (.string ⟨m'.buf.toArray⟩)).far (p := ⟨G + 1, 1, none⟩) hne (.bool m'.chunks)).far (p := ⟨G + 1, 2, none⟩) hne vb').far (p := ⟨G + 1, 3, none⟩) hne (.bool m'.dead)).as_ (cs' := matC m' va') (by simp [matC])
  have hB := ((((((((h.b.far (p := ⟨G, 0, none⟩) hne.symm (.string ⟨m'.buf.toArray⟩)).far (p := ⟨G, 1, none⟩) hne.symm (.bool m'.chunks)).far (p := ⟨G, 2, none⟩) hne.symm va').far (p := ⟨G, 3, none⟩) hne.symm (.bool m'.dead)).set_ 0 (.string ⟨m'.buf.toArray⟩)).set_ 1 (.bool m'.chunks)).set_ 2 vb').set_ 3 (.bool m'.dead)).as_ (cs' := matC m' vb') (by simp [matC])
  have hP := apart_set (apart_set (apart_set (apart_set (apart_set (apart_set (apart_set (apart_set (apart_refl W) h.a hT 0 (.string ⟨m'.buf.toArray⟩)) h.a hT 1 (.bool m'.chunks)) h.a hT 2 va') h.a hT 3 (.bool m'.dead)) h.b hT 0 (.string ⟨m'.buf.toArray⟩)) h.b hT 1 (.bool m'.chunks)) h.b hT 2 vb') h.b hT 3 (.bool m'.dead)
  have hb := h.bl
  have hbl : Below w.heap.size w ((((((((W.setCell ⟨G, 0, none⟩ (.string ⟨m'.buf.toArray⟩)).setCell ⟨G, 1, none⟩ (.bool m'.chunks)).setCell ⟨G, 2, none⟩ (va')).setCell ⟨G, 3, none⟩ (.bool m'.dead)).setCell ⟨G + 1, 0, none⟩ (.string ⟨m'.buf.toArray⟩)).setCell ⟨G + 1, 1, none⟩ (.bool m'.chunks)).setCell ⟨G + 1, 2, none⟩ (vb')).setCell ⟨G + 1, 3, none⟩ (.bool m'.dead)) := by (repeat' (first | (with_reducible assumption) | (with_reducible exact Below.refl _ _) | (with_reducible refine below_drewN ?_ _) | (with_reducible refine Below.drew ?_) | (with_reducible refine Below.setCell ?_ ?_ _) | (with_reducible refine Below.alloc ?_ ?_ _) | (with_reducible refine below_putObj ?_ ?_ _) | (with_reducible exact Nat.le_refl _) | omega | (simp; done) | (simp; omega)))
  have hd := h.turned hA hB wa wb hP (hw _ (by omega) (by omega)) (hw _ (by omega) (by omega)) hbl
  generalize ((((((((W.setCell ⟨G, 0, none⟩ (.string ⟨m'.buf.toArray⟩)).setCell ⟨G, 1, none⟩ (.bool m'.chunks)).setCell ⟨G, 2, none⟩ (va')).setCell ⟨G, 3, none⟩ (.bool m'.dead)).setCell ⟨G + 1, 0, none⟩ (.string ⟨m'.buf.toArray⟩)).setCell ⟨G + 1, 1, none⟩ (.bool m'.chunks)).setCell ⟨G + 1, 2, none⟩ (vb')).setCell ⟨G + 1, 3, none⟩ (.bool m'.dead)) = W' at hd ⊢
  exact hd.below ((Below.refl _ _).drew)

set_option maxRecDepth 100000 in
theorem asked_end {w W : World} {GA GB : Nat} {m : Mat} {va vb : Value} (h : AkSt w GA GB m va vb W) :
    AskedEnds m w (.returned (.tuple #[.agg #[.string ⟨m.buf.toArray⟩, .bool m.chunks, va, .bool m.dead], .agg #[.string ⟨m.buf.toArray⟩, .bool m.chunks, vb, .bool m.dead], .bool true])) ((((((((W.setCell ⟨w.heap.size, 0, none⟩ (.string ⟨m.buf.toArray⟩)).setCell ⟨w.heap.size, 1, none⟩ (.bool m.chunks)).setCell ⟨w.heap.size, 2, none⟩ (va)).setCell ⟨w.heap.size, 3, none⟩ (.bool m.dead)).setCell ⟨w.heap.size + 1, 0, none⟩ (.string ⟨m.buf.toArray⟩)).setCell ⟨w.heap.size + 1, 1, none⟩ (.bool m.chunks)).setCell ⟨w.heap.size + 1, 2, none⟩ (vb)).setCell ⟨w.heap.size + 1, 3, none⟩ (.bool m.dead)) := by
  have hT : 28 ≠ 114 ∧ 28 ≠ 90 ∧ 28 ≠ 42 ∧ 28 ≠ 40 := by decide
  have hP := apart_set (apart_set (apart_set (apart_set (apart_set (apart_set (apart_set (apart_set (apart_refl W) h.r1 hT 0 (.string ⟨m.buf.toArray⟩)) h.r1 hT 1 (.bool m.chunks)) h.r1 hT 2 va) h.r1 hT 3 (.bool m.dead)) h.r2 hT 0 (.string ⟨m.buf.toArray⟩)) h.r2 hT 1 (.bool m.chunks)) h.r2 hT 2 vb) h.r2 hT 3 (.bool m.dead)
  have hb := h.bl
  have hbl : Below w.heap.size w ((((((((W.setCell ⟨w.heap.size, 0, none⟩ (.string ⟨m.buf.toArray⟩)).setCell ⟨w.heap.size, 1, none⟩ (.bool m.chunks)).setCell ⟨w.heap.size, 2, none⟩ (va)).setCell ⟨w.heap.size, 3, none⟩ (.bool m.dead)).setCell ⟨w.heap.size + 1, 0, none⟩ (.string ⟨m.buf.toArray⟩)).setCell ⟨w.heap.size + 1, 1, none⟩ (.bool m.chunks)).setCell ⟨w.heap.size + 1, 2, none⟩ (vb)).setCell ⟨w.heap.size + 1, 3, none⟩ (.bool m.dead)) := by (repeat' (first | (with_reducible assumption) | (with_reducible exact Below.refl _ _) | (with_reducible refine below_drewN ?_ _) | (with_reducible refine Below.drew ?_) | (with_reducible refine Below.setCell ?_ ?_ _) | (with_reducible refine Below.alloc ?_ ?_ _) | (with_reducible refine below_putObj ?_ ?_ _) | (with_reducible exact Nat.le_refl _) | omega | (simp; done) | (simp; omega)))
  exact ⟨va, vb, rfl, h.wa.apart hP, h.wb.apart hP, hbl⟩

set_option maxRecDepth 100000 in
set_option maxHeartbeats 4000000 in
theorem asked_any (c : Bool) (v : Value) (l : List Req) (w : World) (h : SlAt w v l.length (l.flatMap reqC)) (hl : l.length ≤ 20) (hq : ∀ q ∈ l, q.wf ∧ q.data.length ≤ 40000) :
    Calls Try.prog 9 #[.bool c, v] w (AskedEnds (askedM c l) w) := by
  have mixed : Try.prog.follows .mixedOrders = true := by kernel_rfl
  obtain ⟨ad, cap, rfl⟩ := h.form
  have H := Lib.hid h
  have HQ := Lib.hid hq
  have HN := Lib.hid (new_any c)
  have HRN := Lib.hid (rnew_any c)
  unfold matC Mat.new at HN HRN
  dsimp only at HN HRN
  clear h hq
  go_enter Try.func9, Try.ntmps9
  go_wp2_with fail
  refine (HN.out _).mono ?_
  rintro e w1 ⟨rfl, hb1⟩
  go_wp2_with fail
  refine (HRN.out _).mono ?_
  rintro e w2 ⟨rfl, hb2⟩
  have S0 : AkSt w w2.heap.size (w2.heap.size + 1) (Mat.new c) (.slice none 0 0) (.slice none 0 0) ((w2.alloc (.cells #[.string ⟨#[]⟩, .bool c, .slice none 0 0, .bool false] 28)).alloc (.cells #[.string ⟨#[]⟩, .bool c, .slice none 0 0, .bool false] 28)) := by
    have B0 := (Blk.new w 28 #[.string ⟨#[]⟩, .bool false, .slice none 0 0, .bool false]).alloc (.cells #[.string ⟨#[]⟩, .bool false, .slice none 0 0, .bool false] 28)
    have B1 : Blk ((w.alloc (.cells #[.string ⟨#[]⟩, .bool false, .slice none 0 0, .bool false] 28)).alloc (.cells #[.string ⟨#[]⟩, .bool false, .slice none 0 0, .bool false] 28)) (w.heap.size + 1) 28 #[.string ⟨#[]⟩, .bool false, .slice none 0 0, .bool false] := Blk.newAt (by simp)
    have C0 := (B0.below hb1 B0.lt).below hb2 (B0.below hb1 B0.lt).lt
    have C1 := (B1.below hb1 B1.lt).below hb2 (B1.below hb1 B1.lt).lt
    have hg : Below w.heap.size w ((w.alloc (.cells #[.string ⟨#[]⟩, .bool false, .slice none 0 0, .bool false] 28)).alloc (.cells #[.string ⟨#[]⟩, .bool false, .slice none 0 0, .bool false] 28)) := by (repeat' (first | (with_reducible assumption) | (with_reducible exact Below.refl _ _) | (with_reducible refine below_drewN ?_ _) | (with_reducible refine Below.drew ?_) | (with_reducible refine Below.setCell ?_ ?_ _) | (with_reducible refine Below.alloc ?_ ?_ _) | (with_reducible refine below_putObj ?_ ?_ _) | (with_reducible exact Nat.le_refl _) | omega | (simp; done) | (simp; omega)))
    have b2 := below_next (below_next hg hb1) hb2
    refine ⟨(Blk.new w2 _ _).alloc _, Blk.newAt (by simp), (C0.alloc _).alloc _, (C1.alloc _).alloc _, waits_nil _, waits_nil _, ?_, C1.lt, by omega⟩
    have := b2.size
    (repeat' (first | (with_reducible assumption) | (with_reducible exact Below.refl _ _) | (with_reducible refine below_drewN ?_ _) | (with_reducible refine Below.drew ?_) | (with_reducible refine Below.setCell ?_ ?_ _) | (with_reducible refine Below.alloc ?_ ?_ _) | (with_reducible refine below_putObj ?_ ?_ _) | (with_reducible exact Nat.le_refl _) | omega | (simp; done) | (simp; omega)))
  have HS0 := Lib.hid S0
  have hl1 := S0.ga
  clear S0 hb1 hb2
  go_wp2_with fail
  generalize ((w2.alloc (.cells #[.string ⟨#[]⟩, .bool c, .slice none 0 0, .bool false] 28)).alloc (.cells #[.string ⟨#[]⟩, .bool c, .slice none 0 0, .bool false] 28)) = W0 at *
  generalize w2.heap.size = G at *
  obtain ⟨n, hnl⟩ : ∃ n, l.length = n := ⟨_, rfl⟩
  have HNL := Lib.hid hnl
  rw [hnl] at hl H ⊢
  clear hnl HN HRN
  go_loopw [23] (fun i wr => ∃ (k : Nat) (va vb : Value), k ≤ n ∧ i = .int .i64 k ∧ AkSt w G (G + 1) (askedM c (l.take k)) va vb wr) (fun i _ => n - (intOf i).toNat)
  case atStart => exact ⟨0, _, _, Nat.zero_le _, rfl, HS0.out⟩
  case round =>
    obtain ⟨k, va, vb, hk, rfl, S⟩ := hrel
    have HAS := Lib.hid (askedM_asked c (l.take k) (fun q hq => (HQ.out q (List.mem_of_mem_take hq)).1)).1
    by_cases hlt : k < n
    · have k1 : (k : Int) < (n : Int) := by omega
      have k0 : (0 : Int) ≤ (k : Int) := by omega
      obtain ⟨q, hq⟩ : ∃ q, l[k]? = some q := ⟨_, List.getElem?_eq_getElem (by rw [HNL.out]; exact hlt)⟩
      have hqw := HQ.out q (List.mem_of_getElem? hq)
      obtain ⟨b, o, rfl, r0, r1, r2, r3, r4, r5⟩ := req_cells H.out hq
      have q0 := cell_keepS r0 S.bl
      have q1 := cell_keepS r1 S.bl
      have q2 := cell_keepS r2 S.bl
      have q3 := cell_keepS r3 S.bl
      have q4 := cell_keepS r4 S.bl
      have q5 := cell_keepS r5 S.bl
      have HK : Hid (askedM c (l.take (k + 1)) = ((askedM c (l.take k)).ask q).1) := Lib.hid (by rw [List.take_add_one, hq]; exact askedM_add c _ q)
      have HQW := Lib.hid hqw
      clear hq hqw r0 r1 r2 r3 r4 r5
      generalize askedM c (l.take k) = M at *
      obtain ⟨ada, ca, rfl⟩ := S.wa.form
      obtain ⟨adb, cb, rfl⟩ := S.wb.form
      have hfew := HAS.out.ok.few
      have HA := Lib.hid (fun W hb => ask_any M _ q W (S.wa.below (w' := W) hb) hfew HQW.out.1)
      have HRA := Lib.hid (fun W hb => rask_any M _ q W (S.wb.below (w' := W) hb) hfew HQW.out.1 (by have := HQW.out.2; omega))
      have HS := Lib.hid S
      have z0 := S.a.cell 0
      have z1 := S.a.cell 1
      have z2 := S.a.cell 2
      have z3 := S.a.cell 3
      unfold matC at z0 z1 z2 z3
      simp only [List.getElem?_toArray, List.getElem?_cons_zero, List.getElem?_cons_succ] at z0 z1 z2 z3
      have zo := fun o i => old_cell (w := wr) (g := G) S.a.lt o i
      have nz1 : G ≠ wr.heap.size := by have := S.a.lt; omega
      have nz2 : wr.heap.size ≠ G := by have := S.a.lt; omega
      clear S
      go_wp2_with fail
      have hg1 : Below wr.heap.size wr (wr.alloc (.cells (reqC q).toArray 37)) := by (repeat' (first | (with_reducible assumption) | (with_reducible exact Below.refl _ _) | (with_reducible refine below_drewN ?_ _) | (with_reducible refine Below.drew ?_) | (with_reducible refine Below.setCell ?_ ?_ _) | (with_reducible refine Below.alloc ?_ ?_ _) | (with_reducible refine below_putObj ?_ ?_ _) | (with_reducible exact Nat.le_refl _) | omega | (simp; done) | (simp; omega)))
      have QB := Blk.new wr 37 (reqC q).toArray
      refine (HA.out _ hg1).mono ?_
      rintro e w3 ⟨v3, rfl, hv3, hb3⟩
      obtain ⟨a3, c3, rfl⟩ := hv3.form
      have hok1 := (ask_asked HAS.out q HQW.out.1).1
      have hsm : ∀ x ∈ (M.ask q).1.waits, Small x.spans := fun x hx => by
        rw [hok1.fresh x hx]
        have := hok1.ok.waits x hx
        unfold Wait.fresh
        split <;> exact ⟨by simp, by simp⟩
      have HOK := Lib.hid (And.intro hok1 hsm)
      have HSA := Lib.hid (fun va vb W h1 h2 => same_true (M.ask q).1 va vb W h1 h2 (by have := HOK.out.1.ok.few; omega) HOK.out.2)
      clear hok1 hsm
      have h13 := below_next hg1 hb3
      have S3 := HS.out.below h13
      have QB3 := QB.below hb3 QB.lt
      obtain ⟨X, hX⟩ : ∃ X, M.ask q = X := ⟨_, rfl⟩
      have HX := Lib.hid hX
      rw [hX] at hv3 HSA ⊢
      rw [hX] at HK
      obtain ⟨M1, s1, e1⟩ := X
      unfold matC
      dsimp only at hv3 HSA HK ⊢
      have HV3 := Lib.hid hv3
      have y0 := S3.b.cell 0
      have y1 := S3.b.cell 1
      have y2 := S3.b.cell 2
      have y3 := S3.b.cell 3
      have p0 := QB3.cell 0
      have p1 := QB3.cell 1
      have p2 := QB3.cell 2
      have p3 := QB3.cell 3
      have p4 := QB3.cell 4
      have p5 := QB3.cell 5
      unfold matC at y0 y1 y2 y3
      unfold reqC at p0 p1 p2 p3 p4 p5
      simp only [List.getElem?_toArray, List.getElem?_cons_zero, List.getElem?_cons_succ] at y0 y1 y2 y3 p0 p1 p2 p3 p4 p5
      have yo := fun o i => old_cell (w := w3) (g := G + 1) S3.b.lt o i
      have po := fun o i => old_cell (w := w3) (g := wr.heap.size) QB3.lt o i
      have ny1 : G + 1 ≠ w3.heap.size := by have := S3.b.lt; omega
      have ny2 : w3.heap.size ≠ G + 1 := by have := S3.b.lt; omega
      have np1 : wr.heap.size ≠ w3.heap.size := by have := QB3.lt; omega
      have np2 : w3.heap.size ≠ wr.heap.size := by have := QB3.lt; omega
      have HS3 := Lib.hid S3
      have H13 := Lib.hid h13
      clear zo nz1 nz2 z0 z1 z2 z3 q0 q1 q2 q3 q4 q5 hX hv3 S3 QB QB3 hb3 hg1 h13 HA HS
      go_wp2_with fail
      have hg2 : Below w3.heap.size w3 (w3.alloc (.cells #[.string ⟨M1.buf.toArray⟩, .bool M1.chunks, .slice a3 M1.waits.length c3, .bool M1.dead] 28)) := by (repeat' (first | (with_reducible assumption) | (with_reducible exact Below.refl _ _) | (with_reducible refine below_drewN ?_ _) | (with_reducible refine Below.drew ?_) | (with_reducible refine Below.setCell ?_ ?_ _) | (with_reducible refine Below.alloc ?_ ?_ _) | (with_reducible refine below_putObj ?_ ?_ _) | (with_reducible exact Nat.le_refl _) | omega | (simp; done) | (simp; omega)))
      have CB := Blk.new w3 28 #[.string ⟨M1.buf.toArray⟩, .bool M1.chunks, .slice a3 M1.waits.length c3, .bool M1.dead]
      refine (HRA.out _ (below_next H13.out hg2)).mono ?_
      rintro e w4 ⟨v4, rfl, hv4, hb4⟩
      obtain ⟨a4, c4, rfl⟩ := hv4.form
      have h34 := below_next hg2 hb4
      have HS4 := Lib.hid (HS3.out.below h34)
      have HV34 := Lib.hid (HV3.out.below h34)
      have CB4 := CB.below hb4 CB.lt
      rw [HX.out] at hv4 ⊢
      unfold matC
      dsimp only at hv4 ⊢
      have HV4 := Lib.hid hv4
      have x0 := CB4.cell 0
      have x1 := CB4.cell 1
      have x2 := CB4.cell 2
      have x3 := CB4.cell 3
      simp only [List.getElem?_toArray, List.getElem?_cons_zero, List.getElem?_cons_succ] at x0 x1 x2 x3
      have xo := fun o i => old_cell (w := w4) (g := w3.heap.size) CB4.lt o i
      have nx1 : w3.heap.size ≠ w4.heap.size := by have := CB4.lt; omega
      have nx2 : w4.heap.size ≠ w3.heap.size := by have := CB4.lt; omega
      have HCB := Lib.hid CB4
      clear yo po ny1 ny2 np1 np2 y0 y1 y2 y3 p0 p1 p2 p3 p4 p5 CB CB4 hv4 hg2 hb4 h34 HRA HS3 HV3 H13
      go_wp2_with fail
      have hg3 : Below w4.heap.size w4 (w4.alloc (.cells #[.string ⟨M1.buf.toArray⟩, .bool M1.chunks, .slice a4 M1.waits.length c4, .bool M1.dead] 28)) := by (repeat' (first | (with_reducible assumption) | (with_reducible exact Below.refl _ _) | (with_reducible refine below_drewN ?_ _) | (with_reducible refine Below.drew ?_) | (with_reducible refine Below.setCell ?_ ?_ _) | (with_reducible refine Below.alloc ?_ ?_ _) | (with_reducible refine below_putObj ?_ ?_ _) | (with_reducible exact Nat.le_refl _) | omega | (simp; done) | (simp; omega)))
      have DB := Blk.new w4 28 #[.string ⟨M1.buf.toArray⟩, .bool M1.chunks, .slice a4 M1.waits.length c4, .bool M1.dead]
      refine (HSA.out _ _ _ (HV34.out.below hg3) (HV4.out.below hg3)).mono ?_
      rintro e w5 ⟨rfl, hb5⟩
      have h45 := below_next hg3 hb5
      have S5 := HS4.out.below h45
      have HV35 := Lib.hid (HV34.out.below h45)
      have HV45 := Lib.hid (HV4.out.below h45)
      have CB5 := HCB.out.below h45 HCB.out.lt
      have DB5 := DB.below hb5 DB.lt
      have HS5 := Lib.hid S5
      clear x0 x1 x2 x3 xo nx1 nx2
      have x0 := CB5.cell 0
      have x1 := CB5.cell 1
      have x2 := CB5.cell 2
      have x3 := CB5.cell 3
      have y0 := DB5.cell 0
      have y1 := DB5.cell 1
      have y2 := DB5.cell 2
      have y3 := DB5.cell 3
      have u0 := S5.a.cell 0
      have u1 := S5.a.cell 1
      have u2 := S5.a.cell 2
      have u3 := S5.a.cell 3
      have f0 := S5.a.frozen 0
      have f1 := S5.a.frozen 1
      have f2 := S5.a.frozen 2
      have f3 := S5.a.frozen 3
      have t0 := S5.b.cell 0
      have t1 := S5.b.cell 1
      have t2 := S5.b.cell 2
      have t3 := S5.b.cell 3
      have g0 := S5.b.frozen 0
      have g1 := S5.b.frozen 1
      have g2 := S5.b.frozen 2
      have g3 := S5.b.frozen 3
      unfold matC at u0 u1 u2 u3 t0 t1 t2 t3
      simp only [List.getElem?_toArray, List.getElem?_cons_zero, List.getElem?_cons_succ] at x0 x1 x2 x3 y0 y1 y2 y3 u0 u1 u2 u3 t0 t1 t2 t3
      have nG1 : G ≠ w4.heap.size := by have := HS4.out.a.lt; omega
      have nG2 : G + 1 ≠ w4.heap.size := by have := HS4.out.b.lt; omega
      have nG3 : w4.heap.size ≠ G := by omega
      have nG4 : w4.heap.size ≠ G + 1 := by omega
      clear S5 CB5 DB5 DB HCB HS4 HV34 HV4 hg3 hb5 h45 HSA
      go_wp2_with fail
      go_region
      go_wp2
      go_roundw
      case rel =>
        refine ⟨k + 1, .slice a3 M1.waits.length c3, .slice a4 M1.waits.length c4, by omega, by go_num, ?_⟩
        rw [HK.out]
        exact ak_set HS5.out HV35.out HV45.out
      case measure => simp [intOf]; omega
    · obtain rfl : k = n := by omega
      have k1 : ¬ (k : Int) < (k : Int) := by omega
      rw [List.take_of_length_le (by rw [HNL.out]; exact Nat.le_refl _)] at S HAS
      generalize askedM c l = M at *
      obtain ⟨ada, ca, rfl⟩ := S.wa.form
      obtain ⟨adb, cb, rfl⟩ := S.wb.form
      have HSA := Lib.hid (fun va vb W h1 h2 => same_true M va vb W h1 h2 (by have := HAS.out.ok.few; omega) (fun x hx => by
        rw [HAS.out.fresh x hx]
        unfold Wait.fresh
        split <;> exact ⟨by simp, by simp⟩))
      have HS := Lib.hid S
      have u0 := S.a.cell 0
      have u1 := S.a.cell 1
      have u2 := S.a.cell 2
      have u3 := S.a.cell 3
      have t0 := S.b.cell 0
      have t1 := S.b.cell 1
      have t2 := S.b.cell 2
      have t3 := S.b.cell 3
      unfold matC at u0 u1 u2 u3 t0 t1 t2 t3
      simp only [List.getElem?_toArray, List.getElem?_cons_zero, List.getElem?_cons_succ] at u0 u1 u2 u3 t0 t1 t2 t3
      clear S
      have ng1 : w.heap.size ≠ G := by omega
      have ng2 : w.heap.size ≠ G + 1 := by omega
      have ng3 : w.heap.size + 1 ≠ G := by omega
      have ng4 : w.heap.size + 1 ≠ G + 1 := by omega
      have ng5 := ng1.symm
      have ng6 := ng2.symm
      have ng7 := ng3.symm
      have ng8 := ng4.symm
      go_wp2_with fail
      have ud0 : wr.drew.cell? ⟨G, 0, none⟩ = some (.string ⟨M.buf.toArray⟩) := u0
      have td0 : wr.drew.cell? ⟨G + 1, 0, none⟩ = some (.string ⟨M.buf.toArray⟩) := t0
      have ud1 : wr.drew.cell? ⟨G, 1, none⟩ = some (.bool M.chunks) := u1
      have td1 : wr.drew.cell? ⟨G + 1, 1, none⟩ = some (.bool M.chunks) := t1
      have ud2 : wr.drew.cell? ⟨G, 2, none⟩ = some (.slice ada M.waits.length ca) := u2
      have td2 : wr.drew.cell? ⟨G + 1, 2, none⟩ = some (.slice adb M.waits.length cb) := t2
      have ud3 : wr.drew.cell? ⟨G, 3, none⟩ = some (.bool M.dead) := u3
      have td3 : wr.drew.cell? ⟨G + 1, 3, none⟩ = some (.bool M.dead) := t3
      go_region_held3 (fun w' => w'.cell? ⟨G, 0, none⟩ = some (.string ⟨M.buf.toArray⟩) ∧ w'.cell? ⟨G, 1, none⟩ = some (.bool M.chunks) ∧ w'.cell? ⟨G, 2, none⟩ = some (.slice ada M.waits.length ca) ∧ w'.cell? ⟨G, 3, none⟩ = some (.bool M.dead) ∧ w'.cell? ⟨G + 1, 0, none⟩ = some (.string ⟨M.buf.toArray⟩) ∧ w'.cell? ⟨G + 1, 1, none⟩ = some (.bool M.chunks) ∧ w'.cell? ⟨G + 1, 2, none⟩ = some (.slice adb M.waits.length cb) ∧ w'.cell? ⟨G + 1, 3, none⟩ = some (.bool M.dead))
        (first | with_reducible exact ⟨ud0, ud1, ud2, ud3, td0, td1, td2, td3⟩ | with_reducible exact ⟨v0, v1, v2, v3, s0, s1, s2, s3⟩ | go_keep)
        (first | (go_at_call 11; refine (HSA.out _ _ _ (HS.out.wa.below ((Below.refl _ wr).drew)) (HS.out.wb.below ((Below.refl _ wr).drew))).mono ?_; rintro e w' ⟨rfl, hb⟩; have S6 := HS.out.below (below_next ((Below.refl _ wr).drew) hb); have v0 := S6.a.cell 0; have v1 := S6.a.cell 1; have v2 := S6.a.cell 2; have v3 := S6.a.cell 3; have s0 := S6.b.cell 0; have s1 := S6.b.cell 1; have s2 := S6.b.cell 2; have s3 := S6.b.cell 3; have h0 := S6.r1.cell 0; have i0 := S6.r1.frozen 0; have j0 := S6.r2.cell 0; have k0 := S6.r2.frozen 0; have h1 := S6.r1.cell 1; have i1 := S6.r1.frozen 1; have j1 := S6.r2.cell 1; have k1 := S6.r2.frozen 1; have h2 := S6.r1.cell 2; have i2 := S6.r1.frozen 2; have j2 := S6.r2.cell 2; have k2 := S6.r2.frozen 2; have h3 := S6.r1.cell 3; have i3 := S6.r1.frozen 3; have j3 := S6.r2.cell 3; have k3 := S6.r2.frozen 3; unfold matC at v0 v1 v2 v3 s0 s1 s2 s3; simp only [List.getElem?_toArray, List.getElem?_cons_zero, List.getElem?_cons_succ] at v0 v1 v2 v3 s0 s1 s2 s3 h0 h1 h2 h3 j0 j1 j2 j3))
      go_wp2
      refine bodyPost_ret (v := .tuple #[.agg #[.string ⟨M.buf.toArray⟩, .bool M.chunks, .slice ada M.waits.length ca, .bool M.dead], .agg #[.string ⟨M.buf.toArray⟩, .bool M.chunks, .slice adb M.waits.length cb, .bool M.dead], .bool true]) (by simp [results, Try.results9, go_sem, h0, h1, h2, h3, j0, j1, j2, j3]) rfl ?_
      exact asked_end S6
end Go.Proofs.Ytfcojhpnpfodeaa
