/- match's chunk: a piece of a reply. -/
import Derived.Test.YtfcojhpnpfodeaaMatDoes
import Derived.Test.YtfcojhpnpfodeaaMRepReadC
namespace Go.Proofs.Ytfcojhpnpfodeaa
open Go.RowKit

theorem readC_any (s : List UInt8) (hs : s.length ≤ 100000) (w : World) :
    Calls Try.prog 37 #[.string ⟨s.toArray⟩] w (Gives (.tuple #[chunkV (readChunk s).1, .string ⟨(readChunk s).2.1.toArray⟩, .int .i64 (readChunk s).2.2]) w) := by
  by_cases h : beginsE s pieceHead 20 = 0
  · exact readC_good s hs h w
  · exact readC_bad s hs h w

theorem chunk_22 (m : Mat) (h : (readChunk m.buf).2.2 = 22) : m.chunk = none := by unfold Mat.chunk; rw [if_pos h]
theorem chunk_bad (m : Mat) (h : (readChunk m.buf).2.2 ≠ 22) (h2 : (readChunk m.buf).2.2 ≠ 0) : m.chunk = some (m.kill, []) := by unfold Mat.chunk; rw [if_neg h, if_pos h2]
theorem chunk_no (m : Mat) (h2 : (readChunk m.buf).2.2 = 0) (h3 : findW m.waits (readChunk m.buf).1.cookie = none) : m.chunk = some (m.kill, []) := by unfold Mat.chunk; rw [if_neg (by rw [h2]; decide), if_neg (by simp [h2]), h3]
theorem chunk_go (m : Mat) (k : Nat) (q : Wait) (h2 : (readChunk m.buf).2.2 = 0) (h3 : findW m.waits (readChunk m.buf).1.cookie = some k) (h4 : m.waits[k]? = some q) :
    m.chunk = some (m.applied k (readChunk m.buf).1.done (readChunk m.buf).2.1 (q.apply (readChunk m.buf).1.kind (readChunk m.buf).1.data)) := by
  unfold Mat.chunk; rw [if_neg (by rw [h2]; decide), if_neg (by simp [h2]), h3]; dsimp only; rw [h4]
theorem applied_no (m : Mat) (k : Nat) (dn : Bool) (rest : List UInt8) : m.applied k dn rest none = (m.kill, []) := rfl
theorem applied_few (m : Mat) (k : Nat) (rest : List UInt8) (w2 : Wait) (h : w2.err = 0 ∧ (0 : UInt8) ∈ w2.have_) : m.applied k true rest (some w2) = (m.kill, []) := by unfold Mat.applied; simp only [if_true]; rw [if_pos h]
theorem applied_done (m : Mat) (k : Nat) (rest : List UInt8) (w2 : Wait) (h : ¬ (w2.err = 0 ∧ (0 : UInt8) ∈ w2.have_)) : m.applied k true rest (some w2) = ({ m with buf := rest, waits := m.waits.eraseIdx k }, [w2.answ]) := by unfold Mat.applied; simp only [if_true]; rw [if_neg h]
theorem answ_err (q : Wait) (h : ¬ q.err = 0) : q.answ = ⟨q.req, q.err, [], []⟩ := by unfold Wait.answ; rw [if_neg h]
theorem answ_ok (q : Wait) (h : q.err = 0) : q.answ = ⟨q.req, q.err, q.data, q.spans⟩ := by unfold Wait.answ; rw [if_pos h, h]
theorem applied_more (m : Mat) (k : Nat) (rest : List UInt8) (w2 : Wait) : m.applied k false rest (some w2) = ({ m with buf := rest, waits := m.waits.set k w2 }, []) := by unfold Mat.applied; simp
theorem erase_set {α : Type} (l : List α) (k : Nat) (x : α) : (l.set k x).eraseIdx k = l.eraseIdx k := by
  induction l generalizing k with
  | nil => rfl
  | cons a l ih =>
    cases k with
    | zero => rfl
    | succ k => rw [List.set_cons_succ, List.eraseIdx_cons_succ, List.eraseIdx_cons_succ, ih]
theorem rnum_lt2 (s : List UInt8) (i : Nat) : rnum s i 2 < 65536 := by
  have h := de_lt ((s.drop i).take 2)
  have h2 : ((s.drop i).take 2).length ≤ 2 := by rw [List.length_take]; omega
  exact Nat.lt_of_lt_of_le h (Nat.pow_le_pow_right (by decide) h2)
theorem readChunk_facts (s : List UInt8) : ∃ o : Nat, (readChunk s).1.kind = (o : Int) ∧ o < 65536 ∧ (readChunk s).1.data.length ≤ s.length := by
  have hl := rnum_lt2 s 6
  unfold readChunk
  split
  · exact ⟨0, rfl, by decide, by simp [Chunk.zero]⟩
  split
  · exact ⟨0, rfl, by decide, by simp [Chunk.zero]⟩
  split
  · exact ⟨0, rfl, by decide, by simp [Chunk.zero]⟩
  split
  · exact ⟨0, rfl, by decide, by simp [Chunk.zero]⟩
  · exact ⟨rnum s 6 2, rfl, hl, by dsimp only; rw [List.length_take, List.length_drop]; omega⟩

/-- One block more is kept; one less. -/
theorem WRows.keep_ {W0 : FW} {b : Nat} {w : World} {l : List Wait} {ns : List Answ} {vw va : Value} {g : Nat} {T : TypeId} {cs : Array Value} (h : WRows W0 b w l ns vw va) (hg : Blk w g T cs) (hb : g ≠ b) (hT : T ≠ 42 ∧ T ≠ 40) : WRows ⟨W0.w, (g, T, cs) :: W0.kept⟩ b w l ns vw va :=
  ⟨h.wa, h.an, h.bl, h.hb, fun x hx => by
    rcases List.mem_cons.1 hx with rfl | hx
    · exact ⟨hg, hb, hT⟩
    · exact h.kp x hx⟩
theorem WRows.drop_ {W0 : FW} {b : Nat} {w : World} {l : List Wait} {ns : List Answ} {vw va : Value} {x : Nat × TypeId × Array Value} (h : WRows ⟨W0.w, x :: W0.kept⟩ b w l ns vw va) : WRows W0 b w l ns vw va ∧ Blk w x.1 x.2.1 x.2.2 :=
  ⟨⟨h.wa, h.an, h.bl, h.hb, fun y hy => h.kp y (List.mem_cons_of_mem _ hy)⟩, (h.kp x (List.mem_cons_self ..)).1⟩
theorem MWk.drop_ {W0 : FW} {b : Nat} {w : World} {m : Mat} {ns : List Answ} {k : Nat} {d : List UInt8} {x : Nat × TypeId × Array Value} (h : MWk ⟨W0.w, x :: W0.kept⟩ b w m ns k d) : MWk W0 b w m ns k d ∧ Blk w x.1 x.2.1 x.2.2 := by
  obtain ⟨gw, cap, va, h1, h2, h3⟩ := h
  exact ⟨⟨gw, cap, va, h1, h2.drop_.1, h3⟩, h2.drop_.2⟩

set_option maxRecDepth 100000 in
set_option maxHeartbeats 20000000 in
theorem chunk_any {W0 : FW} {b : Nat} {w : World} {m : Mat} {ns : List Answ} {p : Value} {d : List UInt8} (h : MW W0 b w m ns p d) (hbf : m.buf.length ≤ 100000) (hf : m.waits.length ≤ 8) (ha : ns.length ≤ 1000) (hok : ∀ q ∈ m.waits, q.Ok ∧ q.spans.length ≤ 500000) :
    Calls Try.prog 23 #[.pointer (some ⟨b, 0, none⟩)] w (SEnds W0 b m ns p d m.chunk) := by
  have mixed : Try.prog.follows .mixedOrders = true := by kernel_rfl
  have hnil : ∀ w : World, (binOp BinOp.eql 25 .nilFunc .nilFunc).run Try.prog w = .ok (.bool true) w := fun _ => by kernel_rfl
  have hfun : ∀ (w : World) (f : Nat) (cs xs : Array Value), (binOp BinOp.eql 25 (.func (.func f) cs xs) .nilFunc).run Try.prog w = .ok (.bool false) w := fun _ _ _ _ => by kernel_rfl
  have HT := Lib.hid (fun W => readC_any m.buf hbf W)
  have HD := Lib.hid (fun W m' p' d' (hm : MW W0 b W m' ns p' d') => die_any hm)
  have HF := Lib.hid (fun W v c (hv : WaitsAt W v m.waits) => find_any m v c W hv (by omega))
  have HKI := Lib.hid (fun W => kinds_any b W)
  have hf0 := hf
  obtain ⟨a1, c1, a2, c2, h1, h2⟩ := h.open_
  have H1 := Lib.hid h1
  have H2 := Lib.hid h2
  have x0 := h1.cell 0
  unfold wkC at x0
  simp only [List.getElem?_toArray, List.getElem?_cons_zero] at x0
  have S1 := Lib.hid (chunk_22 m)
  have S2 := Lib.hid (chunk_bad m)
  have S3 := Lib.hid (chunk_no m)
  have S4 := Lib.hid (chunk_go m)
  obtain ⟨o, ho, ho6, hdt⟩ := readChunk_facts m.buf
  generalize readChunk m.buf = r0 at *
  obtain ⟨⟨dn, kd, ck, dt⟩, rest, e0⟩ := r0
  unfold chunkV at HT
  dsimp only at *
  subst ho
  clear h h1 h2
  go_enter Try.func23, Try.ntmps23
  go_wp2_with fail
  refine (HT.out _).mono ?_
  rintro e w1 ⟨rfl, hb1⟩
  by_cases h22 : e0 = 22
  · subst h22
    go_wp2_with fail
    go_ret
    exact .inl ⟨S1.out (by trivial), rfl, (show MW W0 b w1 m ns p d from ⟨_, _, H1.out.below hb1 H1.out.lt, H2.out.below hb1⟩).below ((Below.refl _ w1).alloc (Nat.le_refl _) _)⟩
  have n22 : (e0 == 22) = false := by simpa using h22
  go_wp2_with fail
  have J1 := (H1.out.below hb1 H1.out.lt).alloc (.cells #[.bool dn, .int .i64 (o : Nat), .int .u64 (ck : Nat), .string ⟨dt.toArray⟩] 52)
  have J2 := (H2.out.below hb1).below ((Below.refl _ w1).alloc (Nat.le_refl _) (.cells #[.bool dn, .int .i64 (o : Nat), .int .u64 (ck : Nat), .string ⟨dt.toArray⟩] 52))
  have RBK := Blk.new w1 52 #[.bool dn, .int .i64 (o : Nat), .int .u64 (ck : Nat), .string ⟨dt.toArray⟩]
  have hne : b < w1.heap.size := by have := hb1.size; have := H1.out.lt; omega
  clear hb1 x0 H1 H2 HT
  generalize (w1.alloc (.cells #[.bool dn, .int .i64 (o : Nat), .int .u64 (ck : Nat), .string ⟨dt.toArray⟩] 52)) = W at *
  generalize w1.heap.size = gr at *
  have HJ1 := Lib.hid J1
  have HJ2 := Lib.hid J2
  have HRB := Lib.hid RBK
  have z0 : W.drew.cell? ⟨b, 0, none⟩ = some (.string ⟨m.buf.toArray⟩) := J1.cell 0
  have z1 : W.drew.cell? ⟨b, 1, none⟩ = some (.bool m.chunks) := J1.cell 1
  have z2 : W.drew.cell? ⟨b, 2, none⟩ = some (.slice a1 m.waits.length c1) := J1.cell 2
  have z3 : W.drew.cell? ⟨b, 3, none⟩ = some (.bool m.dead) := J1.cell 3
  have r2 : W.drew.cell? ⟨gr, 2, none⟩ = some (.int .u64 (ck : Nat)) := RBK.cell 2
  clear J1 J2 RBK
  go_region_held3 (fun w' => w'.cell? ⟨b, 0, none⟩ = some (.string ⟨m.buf.toArray⟩) ∧ w'.cell? ⟨b, 1, none⟩ = some (.bool m.chunks) ∧ w'.cell? ⟨b, 2, none⟩ = some (.slice a1 m.waits.length c1) ∧ w'.cell? ⟨b, 3, none⟩ = some (.bool m.dead) ∧ w'.cell? ⟨gr, 2, none⟩ = some (.int .u64 (ck : Nat)))
    (first | with_reducible exact ⟨z0, z1, z2, z3, r2⟩ | with_reducible exact ⟨v0, v1, v2, v3, s2⟩ | go_keep)
    (first | (go_at_call 28; refine (HF.out _ _ _ (HJ2.out.waits.below ((Below.refl _ W).drew))).mono ?_; rintro e w2 ⟨rfl, hb2⟩; have hb2' := below_next ((Below.refl _ W).drew) hb2; have v0 := (HJ1.out.below hb2' HJ1.out.lt).cell 0; have v1 := (HJ1.out.below hb2' HJ1.out.lt).cell 1; have v2 := (HJ1.out.below hb2' HJ1.out.lt).cell 2; have v3 := (HJ1.out.below hb2' HJ1.out.lt).cell 3; have s2 := (HRB.out.below hb2' HRB.out.lt).cell 2; have s1 := (HRB.out.below hb2' HRB.out.lt).cell 1; unfold wkC at v0 v1 v2 v3; simp only [List.getElem?_toArray, List.getElem?_cons_zero, List.getElem?_cons_succ] at v0 v1 v2 v3 s1 s2))
  have HB2 := Lib.hid hb2'
  have M2 : Hid (MW W0 b w2 m ns p d) := Lib.hid ⟨_, _, HJ1.out.below hb2' HJ1.out.lt, HJ2.out.below hb2'⟩
  have HKY : Hid (keyOf Try.prog 3 (.int .i64 (o : Nat)) = some (.int .i64 (o : Nat))) := Lib.hid (Maps.keyOf_int_mk Try.underlying3 (by simp [Lit.wf, IntKind.min, IntKind.max, IntKind.signed, IntKind.bits]; omega))
  go_upto_region 5 with fail
  go_cut [7] from 29 to 33 (fun v wx => MW W0 b wx m ns p d ∧ Blk wx gr 52 #[.bool dn, .int .i64 (o : Nat), .int .u64 (ck : Nat), .string ⟨dt.toArray⟩] ∧ ∃ pv, fnElem b v = some (kindD.atKey (.int .i64 (o : Nat)) .nil, pv))
  case first =>
    go_region_with (first | (go_at_call 38; refine (HKI.out _).mono ?_; rintro e w4 ⟨rfl, hM, hb4⟩; have g4 : w4.cell? ⟨gr, 1, none⟩ = some (.int .i64 (o : Nat)) := cell_keepS (show w2.drew.cell? ⟨gr, 1, none⟩ = some (.int .i64 (o : Nat)) from s1) hb4; obtain ⟨v, pv, hlook, hv⟩ := hM.lookup i64_keyed Try.underlying85 (z := .nilFunc) (by rfl) (zd := .nil) (zp := []) rfl HKY.out; have hlook' : (Instr.lookup 85 (.map (some w2.heap.size)) (.int .i64 (o : Nat)) false).run Try.prog w4 = .ok v w4 := hlook; have HV := Lib.hid hv; have M4 := Lib.hid (M2.out.below (below_next ((Below.refl _ w2).drew) hb4)); clear hM hlook hv))
    all_goals go_wp2_with fail
    all_goals go_meet
    all_goals exact ⟨M4.out, ((HRB.out.below hb2' HRB.out.lt).drew).below hb4 (HRB.out.below hb2' HRB.out.lt).lt, pv, HV.out⟩
  case rest =>
    obtain ⟨hM4, hG4, pv, hv0⟩ := hcut
    obtain ⟨w4, hw4⟩ : ∃ w4, w4 = wc := ⟨_, rfl⟩
    rw [← hw4] at hM4 hG4 ⊢
    have M4 := Lib.hid hM4
    have HG4 := Lib.hid hG4
    have HV := Lib.hid hv0
    clear hw4 hM4 hG4 hv0 z0 z1 z2 z3 r2 HKI v0 v1 v2 v3 s1 s2 M2 HB2 HRB HJ1 HJ2 HF HKY
    by_cases h0 : e0 = 0
    · subst h0
      cases hfd : findW m.waits ck with
      | none =>
        have hfi : findI m.waits ck = -1 := by unfold findI; rw [hfd]
        have HS3 := Lib.hid (S3.out rfl hfd)
        rw [hfi]
        clear hfd hfi
        go_wp2_with fail
        refine (HD.out _ _ _ _ M4.out).mono ?_
        rintro e w5 ⟨rfl, hm⟩
        have HM := Lib.hid hm
        clear hm
        go_wp2_with fail
        go_ret
        exact .inr ⟨m.kill, [], p, d, HS3.out, rfl, by rw [List.append_nil]; exact HM.out⟩
      | some k =>
        have hfi : findI m.waits ck = (k : Int) := by unfold findI; rw [hfd]
        obtain ⟨q, hq, hcc⟩ := findW_some hfd
        clear hcc
        have hkl : k < m.waits.length := (List.getElem?_eq_some_iff.1 hq).1
        have HS4 := Lib.hid (S4.out k q rfl hfd hq)
        have HQO := Lib.hid (hok q (List.mem_of_getElem? hq))
        have k0 : ¬ ((k : Int) < 0) := by omega
        have k1 : (k : Int) < (m.waits.length : Int) := by omega
        have k2 : (0 : Int) ≤ (k : Int) := by omega
        rw [hfi]
        have hv := HV.out
        clear HV hfi
        cases hkn : knownK o with
        | false =>
          rw [(kind_unknown o hkn).2] at hv
          obtain rfl := fnElem_nil hv
          have HS5 : Hid (m.chunk = some (m.kill, [])) := Lib.hid (HS4.out.trans (by rw [apply_unknown q o dt hkn]; rfl))
          clear hv HS4 hkn
          go_wp2_with fail
          refine (HD.out _ _ _ _ M4.out).mono ?_
          rintro e w5 ⟨rfl, hm⟩
          have HM := Lib.hid hm
          clear hm
          go_wp2_with fail
          go_ret
          exact .inr ⟨m.kill, [], p, d, HS5.out, rfl, by rw [List.append_nil]; exact HM.out⟩
        | true =>
          rw [(kind_known o hkn).2] at hv
          obtain ⟨f, hf, rfl⟩ := fnElem_inv hv
          clear hv
          have c3 : w4.cell? ⟨gr, 3, none⟩ = some (.string ⟨dt.toArray⟩) := HG4.out.cell 3
          obtain ⟨av, cv, an, cn, K1, K2⟩ := M4.out.open_
          obtain ⟨gw, cw, hgw⟩ : ∃ g c, Value.slice av m.waits.length cv = .slice (some ⟨g, 0, none⟩) m.waits.length c := by
            obtain ⟨ps, p1, p2, p3⟩ := K2.wa
            obtain ⟨g, c, e, _⟩ := p2.form (by omega)
            exact ⟨g, c, e⟩
          rw [hgw] at K1 K2
          have y0 := K1.cell 0
          have y2 := K1.cell 2
          have y5 := K1.cell 5
          have y6 := K1.cell 6
          have yf0 := K1.frozen 0
          have yf5 := K1.frozen 5
          have yf6 := K1.frozen 6
          unfold wkC at y0 y2 y5 y6
          simp only [List.getElem?_toArray, List.getElem?_cons_zero, List.getElem?_cons_succ] at y0 y2 y5 y6
          have HK := Lib.hid (And.intro K1 K2)
          have nbr : gr ≠ b := by omega
          have hfs : f = 53 ∨ f = 54 ∨ f = 55 ∨ f = 56 ∨ f = 57 := by
            have hf2 : methodK o = f := by omega
            rw [← hf2]
            unfold methodK
            repeat' split
            all_goals simp
          clear K1 K2 hgw
          go_upto_region 9 with fail
          go_cut [] from 46 to 65 (fun wx => MWk ⟨W0.w, (gr, 52, #[.bool dn, .int .i64 (o : Nat), .int .u64 (ck : Nat), .string ⟨dt.toArray⟩]) :: W0.kept⟩ b wx { m with buf := rest } ns k dt)
          case first =>
            go_region
            all_goals go_wp2_with fail
            all_goals go_meet
            all_goals exact MWk.below (w := ((w4.setCell ⟨b, 0, none⟩ (.string ⟨rest.toArray⟩)).setCell ⟨b, 6, none⟩ (.string ⟨dt.toArray⟩)).setCell ⟨b, 5, none⟩ (.pointer (some ⟨gw, k * 10, none⟩))) ⟨gw, cw, _, (((HK.out.1.set_ 0 _).set_ 6 _).set_ 5 _).as_ (by simp [wkC]), (((HK.out.2.keep_ HG4.out nbr (by decide)).set_ HK.out.1 0 _).set_ (HK.out.1.set_ 0 _) 6 _).set_ ((HK.out.1.set_ 0 _).set_ 6 _) 5 _, hkl⟩ ((Below.refl _ _).drew)
          case rest =>
            obtain ⟨W5, hW5⟩ : ∃ W5, W5 = wc := ⟨_, rfl⟩
            rw [← hW5] at hcut ⊢
            have HDO := Lib.hid (kdoes_any (m := { m with buf := rest }) o hkn hcut hq HQO.out.1 HQO.out.2 (by omega))
            have hf2 : methodK o = f := by omega
            rw [hf2] at HDO
            clear hW5 y0 y2 y5 y6 yf0 yf5 yf6 c3 HK HG4 M4 hcut hf hf2 hkn
            generalize q.apply (o : Nat) dt = R at HDO HS4
            go_upto_region 10 with fail
            go_cut [8] from 66 to 67 (fun v wx => KEnds ⟨W0.w, (gr, 52, #[.bool dn, .int .i64 (o : Nat), .int .u64 (ck : Nat), .string ⟨dt.toArray⟩]) :: W0.kept⟩ b { m with buf := rest } ns k dt R (.returned v) wx)
            case first =>
              rcases hfs with rfl | rfl | rfl | rfl | rfl
              all_goals
                go_wp2_with fail
                refine HDO.out.mono ?_
                rintro e w6 hk
                rcases hk with ⟨x1, rfl, x2⟩ | ⟨q2, x1, rfl, x2⟩
                · go_wp2_with fail
                  go_meet
                  exact .inl ⟨x1, rfl, x2⟩
                · go_wp2_with fail
                  go_meet
                  exact .inr ⟨q2, x1, rfl, x2⟩
            case rest =>
              obtain ⟨w6, hw6⟩ : ∃ w6, w6 = wc := ⟨_, rfl⟩
              rw [← hw6] at hcut ⊢
              have hall : ∃ (q2 : Wait) (B : Bool), u8 = .bool B ∧ ((B = false ∧ R = none) ∨ (B = true ∧ R = some q2)) ∧ MWk ⟨W0.w, (gr, 52, #[.bool dn, .int .i64 (o : Nat), .int .u64 (ck : Nat), .string ⟨dt.toArray⟩]) :: W0.kept⟩ b w6 { { m with buf := rest } with waits := m.waits.set k q2 } ns k dt := by
                rcases hcut with ⟨x1, x0, q2, x2⟩ | ⟨q2, x1, x0, x2⟩
                · exact ⟨q2, false, by simpa using x0, .inl ⟨rfl, x1⟩, x2⟩
                · exact ⟨q2, true, by simpa using x0, .inr ⟨rfl, x1⟩, x2⟩
              clear hcut hw6 HDO hfs
              obtain ⟨q2, B, rfl, hB, hm6⟩ := hall
              obtain ⟨hm6', hg6⟩ := hm6.drop_
              have hq2 : (m.waits.set k q2)[k]? = some q2 := List.getElem?_set_self hkl
              obtain ⟨gw6, cap6, va6, uv, B1, A, SP, hbg, hgl, _⟩ := hm6'.spans_ hq2
              obtain ⟨sa, sc, rfl⟩ := SP.form
              obtain ⟨t0, t1, t2, t3, t4, t5, t6, t7, t8, t9⟩ := A
              dsimp only at t0 t1 t2 t3 t4 t5 t6 t7 t8 t9
              have HM6 := Lib.hid hm6'
              have HCE : Hid (∀ W, Below w6.heap.size w6 W → W.cell? ⟨b, 5, none⟩ = some (.pointer (some ⟨gw6, k * 10, none⟩)) ∧ W.cell? ⟨gw6, k * 10 + 6, none⟩ = some (.string ⟨q2.data.toArray⟩) ∧ W.cell? ⟨gw6, k * 10 + 7, none⟩ = some (.string ⟨q2.have_.toArray⟩) ∧ W.cell? ⟨gw6, k * 10 + 8, none⟩ = some (.slice sa q2.spans.length sc)) :=
                Lib.hid (fun W hb => ⟨cell_keepS (B1.cell 5) hb, cell_keepS t6 hb, cell_keepS t7 hb, cell_keepS t8 hb⟩)
              have HSP := Lib.hid SP
              have HG6 := Lib.hid hg6
              have HB1 := Lib.hid B1
              have hw6b : b < w6.heap.size := B1.lt
              have hgr6 : gr < w6.heap.size := hg6.lt
              have hf8 := hf0
              have y5 := B1.cell 5
              unfold wkC at y5
              simp only [List.getElem?_toArray, List.getElem?_cons_zero, List.getElem?_cons_succ] at y5
              clear hm6 hm6' hg6 SP B1
              go_upto_region 11 with fail
              go_cut [9] from 68 to 82 (fun pv wx => pv = .pointer (some ⟨w6.heap.size, 0, none⟩) ∧ Below w6.heap.size w6 wx ∧ Blk wx w6.heap.size 40 #[.int .i64 q2.req.flags, .int .i64 q2.req.kind, .int .u64 (q2.req.cookie : Nat), .int .u64 (q2.req.frm : Nat), .int .u32 (q2.req.len : Nat), .string ⟨q2.req.data.toArray⟩, .int .u32 (q2.err : Nat), .string ⟨#[]⟩, .slice none 0 0])
              case first =>
                go_region
                all_goals go_wp2_with fail
                all_goals go_meet
                all_goals exact ⟨rfl, by (repeat' (first | (with_reducible assumption) | (with_reducible exact Below.refl _ _) | (with_reducible refine below_drewN ?_ _) | (with_reducible refine Below.drew ?_) | (with_reducible refine Below.setCell ?_ ?_ _) | (with_reducible refine Below.alloc ?_ ?_ _) | (with_reducible refine below_putObj ?_ ?_ _) | (with_reducible exact Nat.le_refl _) | omega | (simp; done) | (simp; omega))), by first | exact Blk.new w6.drew _ _ | exact (Blk.new w6 _ _).drew⟩
              case rest =>
                obtain ⟨rfl, hbx, hax⟩ := hcut
                obtain ⟨w7, hw7⟩ : ∃ w7, w7 = wc := ⟨_, rfl⟩
                rw [← hw7] at hbx hax ⊢
                clear hw7 y5 t0 t1 t2 t3 t4 t5 t6 t7 t8 t9
                have HG7 := Lib.hid (HG6.out.below hbx hgr6)
                have g0 := HG7.out.cell 0
                have a0 := hax.cell 0
                have a1 := hax.cell 1
                have a2 := hax.cell 2
                have a3 := hax.cell 3
                have a4 := hax.cell 4
                have a5 := hax.cell 5
                have a6 := hax.cell 6
                have a7 := hax.cell 7
                have a8 := hax.cell 8
                simp only [List.getElem?_toArray, List.getElem?_cons_zero, List.getElem?_cons_succ] at g0 a0 a1 a2 a3 a4 a5 a6 a7 a8
                by_cases he0 : q2.err = 0
                · have e1 : ((q2.err : Int) == 0) = true := by rw [he0]; rfl
                  have HE0 := Lib.hid he0
                  clear he0
                  have hn7 : w6.heap.size ≠ b := by omega
                  have hn8 : gr ≠ w6.heap.size := by omega
                  obtain ⟨x5, x6, x7, x8⟩ := HCE.out _ hbx
                  have af7 := hax.frozen 7
                  have af8 := hax.frozen 8
                  have HA7 := Lib.hid hax
                  have HB7 := Lib.hid hbx
                  clear hax hbx g0 a0 a1 a2 a3 a4 a5
                  go_upto_region 13 with fail
                  go_cut [] from 86 to 101 (fun wx => Below w6.heap.size w6 wx ∧ Blk wx w6.heap.size 40 #[.int .i64 q2.req.flags, .int .i64 q2.req.kind, .int .u64 (q2.req.cookie : Nat), .int .u64 (q2.req.frm : Nat), .int .u32 (q2.req.len : Nat), .string ⟨q2.req.data.toArray⟩, .int .u32 (q2.err : Nat), .string ⟨q2.data.toArray⟩, .slice sa q2.spans.length sc])
                  case first =>
                    go_region
                    all_goals go_wp2_with fail
                    all_goals go_meet
                    all_goals refine ⟨?_, ?_⟩
                    all_goals first | (have hbb := HB7.out; (repeat' (first | (with_reducible assumption) | (with_reducible exact Below.refl _ _) | (with_reducible refine below_drewN ?_ _) | (with_reducible refine Below.drew ?_) | (with_reducible refine Below.setCell ?_ ?_ _) | (with_reducible refine Below.alloc ?_ ?_ _) | (with_reducible refine below_putObj ?_ ?_ _) | (with_reducible exact Nat.le_refl _) | omega | (simp; done) | (simp; omega))); done) | (exact (((HA7.out.set_ 7 _).set_ 8 _).as_ (by simp)).drew) | (exact (((HA7.out.drew.set_ 7 _).set_ 8 _).as_ (by simp))) | (trace_state; sorry)
                  case rest =>
                    obtain ⟨hbx, hax⟩ := hcut
                    obtain ⟨w8, hw8⟩ : ∃ w8, w8 = wc := ⟨_, rfl⟩
                    rw [← hw8] at hbx hax ⊢
                    clear hw8 x5 x6 x7 x8 af7 af8 a6 a7 a8
                    have g0 := (HG6.out.below hbx hgr6).cell 0
                    have a0 := hax.cell 0
                    have a1 := hax.cell 1
                    have a2 := hax.cell 2
                    have a3 := hax.cell 3
                    have a4 := hax.cell 4
                    have a5 := hax.cell 5
                    have a6 := hax.cell 6
                    have a7 := hax.cell 7
                    have a8 := hax.cell 8
                    obtain ⟨x5, x6, x7, x8⟩ := HCE.out _ hbx
                    simp only [List.getElem?_toArray, List.getElem?_cons_zero, List.getElem?_cons_succ] at g0 a0 a1 a2 a3 a4 a5 a6 a7 a8
                    rcases hB with ⟨rfl, rfl⟩ | ⟨rfl, rfl⟩
                    · go_wp2_with fail
                      obtain ⟨pz, HZ⟩ := (HM6.out.below hbx).toMW
                      refine (HD.out _ _ _ _ HZ).mono ?_
                      rintro e w8 ⟨rfl, hm⟩
                      have HM := Lib.hid hm
                      clear hm
                      go_wp2_with fail
                      go_ret
                      exact .inr ⟨m.kill, [], _, _, HS4.out.trans (congrArg some (applied_no m k dn rest)), rfl, by rw [List.append_nil]; exact HM.out⟩
                    · cases dn with
                      | false =>
                        go_wp2_with fail
                        go_ret
                        obtain ⟨pz, HZ⟩ := (HM6.out.below hbx).toMW
                        exact .inr ⟨_, [], _, _, HS4.out.trans (congrArg some (applied_more m k rest q2)), rfl, by rw [List.append_nil]; exact HZ⟩
                      | true =>
                        by_cases hz0 : (0 : UInt8) ∈ q2.have_
                        · have hz1 : q2.have_.contains (0 : UInt8) = true := by simpa using hz0
                          have HHA := Lib.hid (fun W => has_any 0 q2.have_ W)
                          rw [hz1] at HHA
                          go_wp2_with fail
                          refine (HHA.out _).mono ?_
                          rintro e w9 ⟨rfl, rfl⟩
                          go_wp2_with fail
                          obtain ⟨pz, HZ⟩ := (HM6.out.below hbx).toMW
                          refine (HD.out _ _ _ _ HZ).mono ?_
                          rintro e w8 ⟨rfl, hm⟩
                          have HM := Lib.hid hm
                          clear hm
                          go_wp2_with fail
                          go_ret
                          exact .inr ⟨m.kill, [], _, _, HS4.out.trans (congrArg some (applied_few m k rest q2 ⟨HE0.out, hz0⟩)), rfl, by rw [List.append_nil]; exact HM.out⟩
                        · have hz1 : q2.have_.contains (0 : UInt8) = false := by simpa using hz0
                          have HHA := Lib.hid (fun W => has_any 0 q2.have_ W)
                          rw [hz1] at HHA
                          go_wp2_with fail
                          refine (HHA.out _).mono ?_
                          rintro e w9 ⟨rfl, rfl⟩
                          go_wp2_with fail
                          obtain ⟨pz, HZ⟩ := (HM6.out.below hbx).toMW
                          refine (answer_any HZ k (by dsimp only; rw [List.length_set]; exact hkl) (by dsimp only; rw [List.length_set]; exact hf8) ha ⟨q2.req, q2.err, q2.data, q2.spans⟩ (.slice sa q2.spans.length sc) (HSP.out.below hbx)).mono ?_
                          rintro e w8 ⟨rfl, hm⟩
                          have HM := Lib.hid hm
                          clear hm
                          go_wp2_with fail
                          go_ret
                          refine .inr ⟨_, _, pz, dt, HS4.out.trans (congrArg some (applied_done m k rest q2 (fun h => hz0 h.2))), rfl, ?_⟩
                          have HMO := HM.out
                          rw [erase_set] at HMO
                          rw [answ_ok q2 HE0.out]
                          exact HMO
                · have e1 : ((q2.err : Int) == 0) = false := by rw [beq_eq_false_iff_ne]; omega
                  rcases hB with ⟨rfl, rfl⟩ | ⟨rfl, rfl⟩
                  · go_wp2_with fail
                    obtain ⟨pz, HZ⟩ := (HM6.out.below hbx).toMW
                    refine (HD.out _ _ _ _ HZ).mono ?_
                    rintro e w8 ⟨rfl, hm⟩
                    have HM := Lib.hid hm
                    clear hm
                    go_wp2_with fail
                    go_ret
                    exact .inr ⟨m.kill, [], _, _, HS4.out.trans (congrArg some (applied_no m k dn rest)), rfl, by rw [List.append_nil]; exact HM.out⟩
                  · cases dn with
                    | false =>
                      go_wp2_with fail
                      go_ret
                      obtain ⟨pz, HZ⟩ := (HM6.out.below hbx).toMW
                      exact .inr ⟨_, [], _, _, HS4.out.trans (congrArg some (applied_more m k rest q2)), rfl, by rw [List.append_nil]; exact HZ⟩
                    | true =>
                      go_wp2_with fail
                      obtain ⟨pz, HZ⟩ := (HM6.out.below hbx).toMW
                      refine (answer_any HZ k (by dsimp only; rw [List.length_set]; exact hkl) (by dsimp only; rw [List.length_set]; exact hf8) ha ⟨q2.req, q2.err, [], []⟩ (.slice none 0 0) (span_nil _)).mono ?_
                      rintro e w8 ⟨rfl, hm⟩
                      have HM := Lib.hid hm
                      clear hm
                      go_wp2_with fail
                      go_ret
                      refine .inr ⟨_, _, pz, dt, HS4.out.trans (congrArg some (applied_done m k rest q2 (fun h => he0 h.1))), rfl, ?_⟩
                      have HMO := HM.out
                      rw [erase_set] at HMO
                      rw [answ_err q2 he0]
                      exact HMO
    · have n0 : (e0 == 0) = false := by simpa using h0
      have n0' : (e0 != 0) = true := by simpa using h0
      have HS2 := Lib.hid (S2.out h22 h0)
      go_wp2_with fail
      refine (HD.out _ _ _ _ M4.out).mono ?_
      rintro e w5 ⟨rfl, hm⟩
      have HM := Lib.hid hm
      clear hm
      go_wp2_with fail
      go_ret
      exact .inr ⟨m.kill, [], p, d, HS2.out, rfl, by rw [List.append_nil]; exact HM.out⟩
end Go.Proofs.Ytfcojhpnpfodeaa
