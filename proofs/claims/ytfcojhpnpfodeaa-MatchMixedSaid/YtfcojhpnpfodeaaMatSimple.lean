/- match's simple: a reply in one. -/
import Derived.Test.YtfcojhpnpfodeaaMatWrk
import Derived.Test.YtfcojhpnpfodeaaMatInv
namespace Go.Proofs.Ytfcojhpnpfodeaa
open Go.RowKit

/-- How a step ends. -/
def SEnds (W0 : FW) (b : Nat) (m : Mat) (ns : List Answ) (p : Value) (d : List UInt8) (r : Option (Mat × List Answ)) (e : Ending) (w' : World) : Prop :=
  (r = none ∧ e = .returned (.bool false) ∧ MW W0 b w' m ns p d) ∨ ∃ m1 a1 p' d', r = some (m1, a1) ∧ e = .returned (.bool true) ∧ MW W0 b w' m1 (ns ++ a1) p' d'
theorem simple_22 (m : Mat) (h : (readRep m.buf 0).2.2 = 22) : m.simple = none := by unfold Mat.simple; rw [if_pos h]
theorem simple_bad (m : Mat) (h : (readRep m.buf 0).2.2 ≠ 22) (h2 : (readRep m.buf 0).2.2 ≠ 0) : m.simple = some (m.kill, []) := by unfold Mat.simple; rw [if_neg h, if_pos h2]
theorem simple_no (m : Mat) (h2 : (readRep m.buf 0).2.2 = 0) (h3 : findW m.waits (readRep m.buf 0).1.cookie = none) : m.simple = some (m.kill, []) := by unfold Mat.simple; rw [if_neg (by rw [h2]; decide), if_neg (by simp [h2]), h3]
theorem simple_wait (m : Mat) (k : Nat) (q : Wait) (h2 : (readRep m.buf 0).2.2 = 0) (h3 : findW m.waits (readRep m.buf 0).1.cookie = some k) (h4 : m.waits[k]? = some q) (h5 : (readRep m.buf (Mat.wants q.req)).2.2 ≠ 0) : m.simple = none := by
  unfold Mat.simple; rw [if_neg (by rw [h2]; decide), if_neg (by simp [h2]), h3]; dsimp only; rw [h4]; dsimp only; rw [if_pos h5]
theorem simple_ok (m : Mat) (k : Nat) (q : Wait) (h2 : (readRep m.buf 0).2.2 = 0) (h3 : findW m.waits (readRep m.buf 0).1.cookie = some k) (h4 : m.waits[k]? = some q) (h5 : (readRep m.buf (Mat.wants q.req)).2.2 = 0) :
    m.simple = some ({ m with buf := (readRep m.buf (Mat.wants q.req)).2.1, waits := m.waits.eraseIdx k }, [⟨q.req, (readRep m.buf (Mat.wants q.req)).1.err, (readRep m.buf (Mat.wants q.req)).1.data, []⟩]) := by
  unfold Mat.simple; rw [if_neg (by rw [h2]; decide), if_neg (by simp [h2]), h3]; dsimp only; rw [h4]; dsimp only; rw [if_neg (by simp [h5])]

/-- A store elsewhere; the worker's bytes turned. -/
theorem MW.far {W0 : FW} {b R : Nat} {w : World} {m : Mat} {ns : List Answ} {p : Value} {d : List UInt8} {T : TypeId} {cs : Array Value} (h : MW W0 b w m ns p d) (hR : Blk w R T cs) (hT : T ≠ 114 ∧ T ≠ 90 ∧ T ≠ 42 ∧ T ≠ 40) (hne : b < R) (hk0 : W0.kept = []) (i : Nat) (u : Value) : MW W0 b (w.setCell ⟨R, i, none⟩ u) m ns p d := by
  obtain ⟨vw, va, h1, h2⟩ := h
  exact ⟨vw, va, h1.far (by dsimp only; omega) u, h2.apart (apart_set (apart_refl w) hR hT i u) (h2.bl.setCell (by have := h2.hb; dsimp only; omega) _) (by rw [hk0]; simp)⟩
theorem MW.buf_ {W0 : FW} {b : Nat} {w : World} {m : Mat} {ns : List Answ} {p : Value} {d : List UInt8} (h : MW W0 b w m ns p d) (x : List UInt8) : MW W0 b (w.setCell ⟨b, 0, none⟩ (.string ⟨x.toArray⟩)) { m with buf := x } ns p d := by
  obtain ⟨vw, va, h1, h2⟩ := h
  exact ⟨vw, va, (h1.set_ 0 _).as_ (by simp [wkC]), h2.set_ h1 0 _⟩

set_option maxRecDepth 100000 in
set_option maxHeartbeats 4000000 in
theorem simple_any {W0 : FW} {b : Nat} {w : World} {m : Mat} {ns : List Answ} {p : Value} {d : List UInt8} (hk0 : W0.kept = []) (h : MW W0 b w m ns p d) (hbf : m.buf.length ≤ 100000) (hf : m.waits.length ≤ 8) (ha : ns.length ≤ 1000) (hok : ∀ q ∈ m.waits, q.Ok) :
    Calls Try.prog 22 #[.pointer (some ⟨b, 0, none⟩)] w (SEnds W0 b m ns p d m.simple) := by
  have mixed : Try.prog.follows .mixedOrders = true := by kernel_rfl
  have HT := Lib.hid (fun n W => tosimple_any m.buf n hbf W)
  have HD := Lib.hid (fun W (hm : MW W0 b W m ns p d) => die_any hm)
  have HAN := Lib.hid (fun W (m' : Mat) (hm : MW W0 b W m' ns p d) k hk hf a sv hs => answer_any hm k hk hf ha a sv hs)
  have HF := Lib.hid (fun W v c (hv : WaitsAt W v m.waits) => find_any m v c W hv (by omega))
  obtain ⟨a1, c1, a2, c2, h1, h2⟩ := h.open_
  have H1 := Lib.hid h1
  have H2 := Lib.hid h2
  have x0 := h1.cell 0
  unfold wkC at x0
  simp only [List.getElem?_toArray, List.getElem?_cons_zero] at x0
  have HT0 := Lib.hid (HT.out 0)
  have S1 := Lib.hid (simple_22 m)
  have S2 := Lib.hid (simple_bad m)
  have S3 := Lib.hid (simple_no m)
  have S4 := Lib.hid (simple_wait m)
  have S5 := Lib.hid (simple_ok m)
  generalize readRep m.buf 0 = r0 at *
  obtain ⟨⟨er, ck, dt⟩, rest, e0⟩ := r0
  unfold repV at HT0
  dsimp only at *
  clear h h1 h2
  go_enter Try.func22, Try.ntmps22
  go_wp2_with fail
  refine (HT0.out _).mono ?_
  rintro e w1 ⟨rfl, hb1⟩
  go_wp2_with fail
  have J1 := (H1.out.below hb1 H1.out.lt).alloc (.cells #[.int .u32 (er : Nat), .int .u64 (ck : Nat), .string ⟨dt.toArray⟩] 79)
  have J2 := (H2.out.below hb1).below ((Below.refl _ w1).alloc (Nat.le_refl _) (.cells #[.int .u32 (er : Nat), .int .u64 (ck : Nat), .string ⟨dt.toArray⟩] 79))
  have RBK := Blk.new w1 79 #[.int .u32 (er : Nat), .int .u64 (ck : Nat), .string ⟨dt.toArray⟩]
  have hne : b < w1.heap.size := by have := hb1.size; have := H1.out.lt; omega
  clear hb1 x0 H1 H2 HT0
  generalize (w1.alloc (.cells #[.int .u32 (er : Nat), .int .u64 (ck : Nat), .string ⟨dt.toArray⟩] 79)) = W at *
  generalize w1.heap.size = gr at *
  have HJ1 := Lib.hid J1
  have HJ2 := Lib.hid J2
  have HRB := Lib.hid RBK
  have z0 : W.drew.cell? ⟨b, 0, none⟩ = some (.string ⟨m.buf.toArray⟩) := J1.cell 0
  have z1 : W.drew.cell? ⟨b, 1, none⟩ = some (.bool m.chunks) := J1.cell 1
  have z2 : W.drew.cell? ⟨b, 2, none⟩ = some (.slice a1 m.waits.length c1) := J1.cell 2
  have z3 : W.drew.cell? ⟨b, 3, none⟩ = some (.bool m.dead) := J1.cell 3
  have r1 : W.drew.cell? ⟨gr, 1, none⟩ = some (.int .u64 (ck : Nat)) := RBK.cell 1
  clear J1 J2 RBK
  go_region_held3 (fun w' => w'.cell? ⟨b, 0, none⟩ = some (.string ⟨m.buf.toArray⟩) ∧ w'.cell? ⟨b, 1, none⟩ = some (.bool m.chunks) ∧ w'.cell? ⟨b, 2, none⟩ = some (.slice a1 m.waits.length c1) ∧ w'.cell? ⟨b, 3, none⟩ = some (.bool m.dead) ∧ w'.cell? ⟨gr, 1, none⟩ = some (.int .u64 (ck : Nat)))
    (first | with_reducible exact ⟨z0, z1, z2, z3, r1⟩ | with_reducible exact ⟨v0, v1, v2, v3, s1⟩ | go_keep)
    (first | (go_at_call 28; refine (HF.out _ _ _ (HJ2.out.waits.below ((Below.refl _ W).drew))).mono ?_; rintro e w2 ⟨rfl, hb2⟩; have hb2' := below_next ((Below.refl _ W).drew) hb2; have v0 := (HJ1.out.below hb2' HJ1.out.lt).cell 0; have v1 := (HJ1.out.below hb2' HJ1.out.lt).cell 1; have v2 := (HJ1.out.below hb2' HJ1.out.lt).cell 2; have v3 := (HJ1.out.below hb2' HJ1.out.lt).cell 3; have s1 := (HRB.out.below hb2' HRB.out.lt).cell 1; unfold wkC at v0 v1 v2 v3; simp only [List.getElem?_toArray, List.getElem?_cons_zero, List.getElem?_cons_succ] at v0 v1 v2 v3 s1))
  have HB2 := Lib.hid hb2'
  have M2 : Hid (MW W0 b w2 m ns p d) := Lib.hid ⟨_, _, HJ1.out.below hb2' HJ1.out.lt, HJ2.out.below hb2'⟩
  by_cases h22 : e0 = 22
  · subst h22
    go_wp2_with fail
    go_ret
    exact .inl ⟨S1.out (by trivial), rfl, M2.out⟩
  · have n22 : (e0 == 22) = false := by simpa using h22
    by_cases h0 : e0 = 0
    · subst h0
      cases hfd : findW m.waits ck with
      | none =>
        have hfi : findI m.waits ck = -1 := by unfold findI; rw [hfd]
        have HS3 := Lib.hid (S3.out rfl hfd)
        rw [hfi]
        clear hfd hfi
        go_wp2_with fail
        refine (HD.out _ M2.out).mono ?_
        rintro e w3 ⟨rfl, hm⟩
        have HM := Lib.hid hm
        clear hm
        go_wp2_with fail
        go_ret
        exact .inr ⟨m.kill, [], p, d, HS3.out, rfl, by rw [List.append_nil]; exact HM.out⟩
      | some k =>
        have hfi : findI m.waits ck = (k : Int) := by unfold findI; rw [hfd]
        obtain ⟨q, hq, hcc⟩ := findW_some hfd
        clear hcc
        have hkl : k < m.waits.length := (List.getElem?_eq_some_iff.1 hq).1
        have HS4 := Lib.hid (fun h5 => S4.out k q rfl hfd hq h5)
        have HS5 := Lib.hid (fun h5 => S5.out k q rfl hfd hq h5)
        have HQO := Lib.hid (hok q (List.mem_of_getElem? hq))
        rw [hfi]
        obtain ⟨ps, p1, p2, p3, _⟩ := HJ2.out.waits
        obtain ⟨u, hu⟩ := pairs_get p1 k q hq
        obtain ⟨gw, ow, rfl, A⟩ := wait_cells p2 hu
        obtain ⟨t0, t1, t2, t3, t4, t5, _, _, _, _⟩ := A.below hb2'
        clear A p1 p2 p3 hu hfd hfi hb2'
        dsimp only at t0 t1 t2 t3 t4 t5
        have k0 : (0 : Int) ≤ (k : Int) := by omega
        have k1 : (k : Int) < (m.waits.length : Int) := by omega
        have k2 : ¬ ((k : Int) < 0) := by omega
        have HTN := Lib.hid (HT.out (Mat.wants q.req))
        have zo := fun o i => old_cell (w := w2) (g := b) (by have := HB2.out.size; have := HJ1.out.lt; omega) o i
        have nzb : b ≠ w2.heap.size := by have := HB2.out.size; have := HJ1.out.lt; omega
        have nzb' := nzb.symm
        generalize readRep m.buf (Mat.wants q.req) = r1 at *
        obtain ⟨⟨er1, ck1, dt1⟩, rest1, e1⟩ := r1
        unfold repV at HTN
        dsimp only at HTN HS4 HS5
        by_cases hk : q.req.kind = 0
        · have hN : Mat.wants q.req = (q.req.len : Int) := by unfold Mat.wants; rw [if_pos hk]
          have hkb : (q.req.kind == 0) = true := by simpa using hk
          have hlen := (HQO.out.read hk).1
          have hwl : wrap64 (q.req.len : Int) = (q.req.len : Int) := by unfold wrap64; omega
          have hwl2 : IntKind.i64.wrap (q.req.len : Int) = (q.req.len : Int) := by rw [IntKind.wrap_i64]; omega
          rw [hN] at HTN
          clear hk hN
          go_wp2_with fail
          refine (HTN.out _).mono ?_
          rintro e w3 ⟨rfl, hb3⟩
          have hgq : Below w2.heap.size w2 (w2.alloc (.cells #[.int .i64 q.req.flags, .int .i64 q.req.kind, .int .u64 (q.req.cookie : Nat), .int .u64 (q.req.frm : Nat), .int .u32 (q.req.len : Nat), .string ⟨q.req.data.toArray⟩] 37)) := by (repeat' (first | (with_reducible assumption) | (with_reducible exact Below.refl _ _) | (with_reducible refine below_drewN ?_ _) | (with_reducible refine Below.drew ?_) | (with_reducible refine Below.setCell ?_ ?_ _) | (with_reducible refine Below.alloc ?_ ?_ _) | (with_reducible refine below_putObj ?_ ?_ _) | (with_reducible exact Nat.le_refl _) | omega | (simp; done) | (simp; omega)))
          have hb23 := below_next hgq hb3
          have hbB := below_next HB2.out hb23
          have QK := (Blk.new w2 37 #[.int .i64 q.req.flags, .int .i64 q.req.kind, .int .u64 (q.req.cookie : Nat), .int .u64 (q.req.frm : Nat), .int .u32 (q.req.len : Nat), .string ⟨q.req.data.toArray⟩]).below hb3 (Blk.new w2 37 #[.int .i64 q.req.flags, .int .i64 q.req.kind, .int .u64 (q.req.cookie : Nat), .int .u64 (q.req.frm : Nat), .int .u32 (q.req.len : Nat), .string ⟨q.req.data.toArray⟩]).lt
          have RK := HRB.out.below hbB HRB.out.lt
          have L1 := HJ1.out.below hbB HJ1.out.lt
          have L2 := HJ2.out.below hbB
          clear zo v0 v1 v2 v3 s1 t0 t1 t2 t3 t4 t5 hgq hb3 hb23 nzb nzb'
          by_cases he1 : e1 = 0
          · subst he1
            have g0 := RK.cell 0
            have g1 := RK.cell 1
            have g2 := RK.cell 2
            have gf0 := RK.frozen 0
            have gf1 := RK.frozen 1
            have gf2 := RK.frozen 2
            have u0 := L1.cell 0
            have uf0 := L1.frozen 0
            have w0' := QK.cell 0
            have w1' := QK.cell 1
            have w2' := QK.cell 2
            have w3' := QK.cell 3
            have w4' := QK.cell 4
            have w5' := QK.cell 5
            unfold wkC at u0
            simp only [List.getElem?_toArray, List.getElem?_cons_zero, List.getElem?_cons_succ] at g0 g1 g2 u0 w0' w1' w2' w3' w4' w5'
            have HL1 := Lib.hid L1
            have HL2 := Lib.hid L2
            have ne1 : gr ≠ w2.heap.size := by have := HB2.out.size; have := HRB.out.lt; omega
            have ne2 : b ≠ w2.heap.size := by have := HB2.out.size; have := HJ1.out.lt; omega
            have ne3 := ne1.symm
            have ne4 := ne2.symm
            have ne5 : b ≠ gr := by omega
            have ne6 := ne5.symm
            have HRK := Lib.hid RK
            clear L1 L2 QK RK hbB
            go_wp2_with fail
            have M3 : MW W0 b w3 m ns p d := ⟨_, _, HL1.out, HL2.out⟩
            have M4 := ((((M3.far HRK.out (by decide) hne hk0 0 (.int .u32 (er1 : Nat))).far (HRK.out.set_ 0 _) (by decide) hne hk0 1 (.int .u64 (ck1 : Nat))).far ((HRK.out.set_ 0 _).set_ 1 _) (by decide) hne hk0 2 (.string ⟨dt1.toArray⟩)).buf_ rest1)
            refine (HAN.out _ _ M4 k hkl hf ⟨q.req, er1, dt1, []⟩ (.slice none 0 0) (span_nil _)).mono ?_
            rintro e w8 ⟨rfl, hm8⟩
            have HM8 := Lib.hid hm8
            have HS5' := Lib.hid (HS5.out (by trivial))
            clear hm8 M3 M4 g0 g1 g2 gf0 gf1 gf2 u0 uf0 w0' w1' w2' w3' w4' w5'
            go_wp2_with fail
            go_ret
            exact .inr ⟨_, _, _, _, HS5'.out, rfl, HM8.out⟩
          · have ne0 : (e1 == 0) = false := by simpa using he1
            have ne0' : (e1 != 0) = true := by simpa using he1
            have HS4' := Lib.hid (HS4.out he1)
            have M3 : Hid (MW W0 b w3 m ns p d) := Lib.hid ⟨_, _, L1, L2⟩
            have g0 := RK.cell 0
            have g1 := RK.cell 1
            have g2 := RK.cell 2
            have gf0 := RK.frozen 0
            have gf1 := RK.frozen 1
            have gf2 := RK.frozen 2
            simp only [List.getElem?_toArray, List.getElem?_cons_zero, List.getElem?_cons_succ] at g0 g1 g2
            have HRK := Lib.hid RK
            clear L1 L2 QK RK
            go_wp2_with fail
            go_ret
            exact .inl ⟨HS4'.out, rfl, (((M3.out.far HRK.out (by decide) hne hk0 0 (.int .u32 (er1 : Nat))).far (HRK.out.set_ 0 _) (by decide) hne hk0 1 (.int .u64 (ck1 : Nat))).far ((HRK.out.set_ 0 _).set_ 1 _) (by decide) hne hk0 2 (.string ⟨dt1.toArray⟩))⟩
        · have hN : Mat.wants q.req = 0 := by unfold Mat.wants; rw [if_neg hk]
          have hkb : (q.req.kind == 0) = false := by simpa using hk
          rw [hN] at HTN
          clear hk hN
          go_wp2_with fail
          refine (HTN.out _).mono ?_
          rintro e w3 ⟨rfl, hb3⟩
          have hgq : Below w2.heap.size w2 (w2.alloc (.cells #[.int .i64 q.req.flags, .int .i64 q.req.kind, .int .u64 (q.req.cookie : Nat), .int .u64 (q.req.frm : Nat), .int .u32 (q.req.len : Nat), .string ⟨q.req.data.toArray⟩] 37)) := by (repeat' (first | (with_reducible assumption) | (with_reducible exact Below.refl _ _) | (with_reducible refine below_drewN ?_ _) | (with_reducible refine Below.drew ?_) | (with_reducible refine Below.setCell ?_ ?_ _) | (with_reducible refine Below.alloc ?_ ?_ _) | (with_reducible refine below_putObj ?_ ?_ _) | (with_reducible exact Nat.le_refl _) | omega | (simp; done) | (simp; omega)))
          have hb23 := below_next hgq hb3
          have hbB := below_next HB2.out hb23
          have QK := (Blk.new w2 37 #[.int .i64 q.req.flags, .int .i64 q.req.kind, .int .u64 (q.req.cookie : Nat), .int .u64 (q.req.frm : Nat), .int .u32 (q.req.len : Nat), .string ⟨q.req.data.toArray⟩]).below hb3 (Blk.new w2 37 #[.int .i64 q.req.flags, .int .i64 q.req.kind, .int .u64 (q.req.cookie : Nat), .int .u64 (q.req.frm : Nat), .int .u32 (q.req.len : Nat), .string ⟨q.req.data.toArray⟩]).lt
          have RK := HRB.out.below hbB HRB.out.lt
          have L1 := HJ1.out.below hbB HJ1.out.lt
          have L2 := HJ2.out.below hbB
          clear zo v0 v1 v2 v3 s1 t0 t1 t2 t3 t4 t5 hgq hb3 hb23 nzb nzb'
          by_cases he1 : e1 = 0
          · subst he1
            have g0 := RK.cell 0
            have g1 := RK.cell 1
            have g2 := RK.cell 2
            have gf0 := RK.frozen 0
            have gf1 := RK.frozen 1
            have gf2 := RK.frozen 2
            have u0 := L1.cell 0
            have uf0 := L1.frozen 0
            have w0' := QK.cell 0
            have w1' := QK.cell 1
            have w2' := QK.cell 2
            have w3' := QK.cell 3
            have w4' := QK.cell 4
            have w5' := QK.cell 5
            unfold wkC at u0
            simp only [List.getElem?_toArray, List.getElem?_cons_zero, List.getElem?_cons_succ] at g0 g1 g2 u0 w0' w1' w2' w3' w4' w5'
            have HL1 := Lib.hid L1
            have HL2 := Lib.hid L2
            have ne1 : gr ≠ w2.heap.size := by have := HB2.out.size; have := HRB.out.lt; omega
            have ne2 : b ≠ w2.heap.size := by have := HB2.out.size; have := HJ1.out.lt; omega
            have ne3 := ne1.symm
            have ne4 := ne2.symm
            have ne5 : b ≠ gr := by omega
            have ne6 := ne5.symm
            have HRK := Lib.hid RK
            clear L1 L2 QK RK hbB
            go_wp2_with fail
            have M3 : MW W0 b w3 m ns p d := ⟨_, _, HL1.out, HL2.out⟩
            have M4 := ((((M3.far HRK.out (by decide) hne hk0 0 (.int .u32 (er1 : Nat))).far (HRK.out.set_ 0 _) (by decide) hne hk0 1 (.int .u64 (ck1 : Nat))).far ((HRK.out.set_ 0 _).set_ 1 _) (by decide) hne hk0 2 (.string ⟨dt1.toArray⟩)).buf_ rest1)
            refine (HAN.out _ _ M4 k hkl hf ⟨q.req, er1, dt1, []⟩ (.slice none 0 0) (span_nil _)).mono ?_
            rintro e w8 ⟨rfl, hm8⟩
            have HM8 := Lib.hid hm8
            have HS5' := Lib.hid (HS5.out (by trivial))
            clear hm8 M3 M4 g0 g1 g2 gf0 gf1 gf2 u0 uf0 w0' w1' w2' w3' w4' w5'
            go_wp2_with fail
            go_ret
            exact .inr ⟨_, _, _, _, HS5'.out, rfl, HM8.out⟩
          · have ne0 : (e1 == 0) = false := by simpa using he1
            have ne0' : (e1 != 0) = true := by simpa using he1
            have HS4' := Lib.hid (HS4.out he1)
            have M3 : Hid (MW W0 b w3 m ns p d) := Lib.hid ⟨_, _, L1, L2⟩
            have g0 := RK.cell 0
            have g1 := RK.cell 1
            have g2 := RK.cell 2
            have gf0 := RK.frozen 0
            have gf1 := RK.frozen 1
            have gf2 := RK.frozen 2
            simp only [List.getElem?_toArray, List.getElem?_cons_zero, List.getElem?_cons_succ] at g0 g1 g2
            have HRK := Lib.hid RK
            clear L1 L2 QK RK
            go_wp2_with fail
            go_ret
            exact .inl ⟨HS4'.out, rfl, (((M3.out.far HRK.out (by decide) hne hk0 0 (.int .u32 (er1 : Nat))).far (HRK.out.set_ 0 _) (by decide) hne hk0 1 (.int .u64 (ck1 : Nat))).far ((HRK.out.set_ 0 _).set_ 1 _) (by decide) hne hk0 2 (.string ⟨dt1.toArray⟩))⟩
    · have n0 : (e0 == 0) = false := by simpa using h0
      have n0' : (e0 != 0) = true := by simpa using h0
      have HS2 := Lib.hid (S2.out h22 h0)
      go_wp2_with fail
      refine (HD.out _ M2.out).mono ?_
      rintro e w3 ⟨rfl, hm⟩
      have HM := Lib.hid hm
      clear hm
      go_wp2_with fail
      go_ret
      exact .inr ⟨m.kill, [], p, d, HS2.out, rfl, by rw [List.append_nil]; exact HM.out⟩
end Go.Proofs.Ytfcojhpnpfodeaa
