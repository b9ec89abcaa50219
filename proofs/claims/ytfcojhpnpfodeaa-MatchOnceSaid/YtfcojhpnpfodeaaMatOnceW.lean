/- EACH ONCE: the law's walk. -/
import Derived.Test.YtfcojhpnpfodeaaMatAppend
namespace Go.Proofs.Ytfcojhpnpfodeaa
open Go.RowKit

/-- What the law asks, plain. -/
structure OnceAt (M n : Mat) (out : List Answ) : Prop where
  came : ∀ (k : Nat) (a : Answ), out[k]? = some a → ∃ (J : Nat) (q : Wait), M.waits[J]? = some q ∧ q.req = a.req
  apart : ∀ (k : Nat) (a : Answ), out[k]? = some a → ∀ (j : Nat) (o : Answ), j < k → out[j]? = some o → o.req.cookie ≠ a.req.cookie
  left : ∀ (k : Nat) (a : Answ), out[k]? = some a → ∀ (j : Nat) (q : Wait), n.waits[j]? = some q → q.req.cookie ≠ a.req.cookie
  good : ∀ a ∈ out, a.Good 100000
  count : (n.dead = true ∧ n.waits.length = 0) ∨ n.waits.length + out.length = M.waits.length
  few : out.length ≤ 8 ∧ M.waits.length ≤ 8 ∧ n.waits.length ≤ 8
theorem once_law {M n : Mat} {out : List Answ} {s : List UInt8} (hM : M.Asked) (hs : s.length ≤ 20000) (hF : Mat.Feeds M s n out) : OnceAt M n out := by
  obtain ⟨m', hw, _, ho, hd⟩ := Mat.feeds_once hF hM.ok
  have hnd := ho.apart
  rw [List.nodup_append] at hnd
  obtain ⟨a1, _, a3⟩ := hnd
  refine ⟨fun k a ha => ?_, fun k a ha j o hj hoj he => ?_, fun k a ha j q hq he => ?_, fun a ha => ?_, ?_, ?_⟩
  · obtain ⟨q, hq, e⟩ := ho.came a (List.mem_of_getElem? ha)
    rw [hw] at hq
    obtain ⟨J, hJ⟩ := List.getElem?_of_mem hq
    exact ⟨J, q, hJ, e⟩
  · have h1 : (out.map (·.req.cookie))[k]? = some a.req.cookie := by rw [List.getElem?_map, ha]; rfl
    have h2 : (out.map (·.req.cookie))[j]? = some a.req.cookie := by rw [List.getElem?_map, hoj, ← he]; rfl
    have hk := (List.getElem?_eq_some_iff.1 h1).1
    have hjl := (List.getElem?_eq_some_iff.1 h2).1
    have := (List.getElem_inj a1).1 (((List.getElem?_eq_some_iff.1 h2).2).trans ((List.getElem?_eq_some_iff.1 h1).2).symm)
    omega
  · exact a3 a.req.cookie (List.mem_map.2 ⟨a, List.mem_of_getElem? ha, rfl⟩) q.req.cookie (List.mem_map.2 ⟨q, List.mem_of_getElem? hq, rfl⟩) he.symm
  · have g := ho.good a ha
    exact ⟨g.read, g.bad, g.err, g.ctx, by have := g.few; omega⟩
  · rcases ho.count with h | h
    · exact .inl ⟨h, by rw [ho.ok.dead h]; rfl⟩
    · exact .inr (by rw [← hw]; exact h)
  · have h1 := ho.few
    have h2 := hM.ok.few
    have h3 := ho.ok.few
    rw [hw] at h1
    omega

/-- What the law's outer loop holds. -/
structure OnSt (GM GN : Nat) (M n : Mat) (out : List Answ) (vo : Value) (W : World) : Prop where
  m : MatAt W GM M
  n : MatAt W GN n
  o : AnswsAt W vo out
theorem OnSt.below {GM GN : Nat} {M n : Mat} {out : List Answ} {vo : Value} {W W' : World} (h : OnSt GM GN M n out vo W) (hb : Below W.heap.size W W') : OnSt GM GN M n out vo W' := ⟨h.m.below hb, h.n.below hb, h.o.below hb⟩

set_option maxRecDepth 100000 in
set_option maxHeartbeats 8000000 in
theorem once_any (c : Bool) (v : Value) (l : List Req) (s : List UInt8) (w : World) (h : SlAt w v l.length (l.flatMap reqC)) (hl : l.length ≤ 9223372036854775807) (hq : ∀ q ∈ l, q.wf ∧ q.data.length ≤ 9223372036854775807) (hs : s.length ≤ 9223372036854775807) :
    Calls Try.prog 3 #[.bool c, v, .string ⟨s.toArray⟩] w (Gives (.bool true) w) := by
  have mixed : Try.prog.follows .mixedOrders = true := by kernel_rfl
  have HA := Lib.hid awake_any
  have H := Lib.hid h
  have HFW := Lib.hid (few_any v l w h hl (fun q hx => (hq q hx).2))
  have HS := Lib.hid (fun W v (hv : SlAt W v 1 [.string ⟨s.toArray⟩]) => short_any v [s] W hv (show (1 : Nat) ≤ _ by decide) (by simpa using hs))
  have HK := Lib.hid (fun (hl2 : l.length ≤ 20) (hd : ∀ q ∈ l, q.data.length ≤ 40000) W (hb : Below w.heap.size w W) => asked_any c v l W (h.below hb) hl2 (fun q hx => ⟨(hq q hx).1, hd q hx⟩))
  have HM : Hid ((askedM c l).Asked) := Lib.hid (askedM_asked c l (fun q hx => (hq q hx).1)).1
  obtain ⟨ad, cp, rfl⟩ := h.form
  clear h hq
  generalize askedM c l = M at HK HM
  go_enter Try.func3, Try.ntmps3
  go_wp2_with fail
  refine HFW.out.mono ?_
  rintro e w1 ⟨r, rfl, hr, hb1⟩
  have HR := Lib.hid hr
  clear hr HFW
  cases r with
  | false =>
    go_wp2_with fail
    refine (HA.out _).mono ?_
    rintro e w2 ⟨rfl, hb2⟩
    have b2 := below_next hb1 hb2
    go_wp2
    go_ret
    exact ⟨rfl, b2⟩
  | true =>
    obtain ⟨hl2, hd2⟩ := HR.out rfl
    have HK2 := Lib.hid (HK.out hl2 hd2)
    clear HK hd2 HR
    go_wp2_with fail
    have hb2 : Below w.heap.size w (w1.alloc (.cells #[.string ⟨s.toArray⟩] 9)) := by have s1 := hb1.size; (repeat' (first | (with_reducible assumption) | (with_reducible exact Below.refl _ _) | (with_reducible refine below_drewN ?_ _) | (with_reducible refine Below.drew ?_) | (with_reducible refine Below.setCell ?_ ?_ _) | (with_reducible refine Below.alloc ?_ ?_ _) | (with_reducible refine below_putObj ?_ ?_ _) | (with_reducible exact Nat.le_refl _) | omega | (simp; done) | (simp; omega)))
    refine (HS.out _ _ (.inr ⟨⟨w1.heap.size, 0, none⟩, 1, rfl, .inr rfl, ?cs⟩)).mono ?_
    case cs =>
      intro j u hu
      have h2 := (Blk.new w1 9 #[.string ⟨s.toArray⟩]).cell j
      rw [Addr.add_lit, Nat.zero_add, h2]
      simpa using hu
    rintro e w2 ⟨r, rfl, hr, hb3⟩
    have HR2 := Lib.hid hr
    have b3 := below_next hb2 hb3
    clear hr hb2 hb3 hb1
    cases r with
    | false =>
      go_wp2_with fail
      refine (HA.out _).mono ?_
      rintro e w2 ⟨rfl, hb2⟩
      have b2 := below_next b3 hb2
      go_wp2
      go_ret
      exact ⟨rfl, b2⟩
    | true =>
      have hsl : s.length ≤ 20000 := by have := HR2.out rfl; simpa using this
      clear HR2
      go_wp2_with fail
      refine (HK2.out _ b3).mono ?_
      rintro e w3 ⟨va, vb, rfl, hwa, hwb, hb4⟩
      have b4 := below_next b3 hb4
      obtain ⟨a1, c1, rfl⟩ := hwa.form
      obtain ⟨a2, c2, rfl⟩ := hwb.form
      have HWA := Lib.hid hwa
      have HF1 := Lib.hid (fun W v (hv : WaitsAt W v M.waits) => feedC_any 0 M s v W hv HM.out.ok (by omega))
      clear hwa hwb hb4 b3 HK2 HS
      unfold matC
      go_upto_region 4 with fail
      obtain ⟨W4, hW4⟩ : ∃ W4, W4 = ((w3.alloc (.cells #[.string ⟨M.buf.toArray⟩, .bool M.chunks, .slice a1 M.waits.length c1, .bool M.dead] 28)).alloc (.cells #[.string ⟨M.buf.toArray⟩, .bool M.chunks, .slice a2 M.waits.length c2, .bool M.dead] 28)) := ⟨_, rfl⟩
      rw [← hW4]
      have h34 : Below w3.heap.size w3 W4 := by rw [hW4]; (repeat' (first | (with_reducible assumption) | (with_reducible exact Below.refl _ _) | (with_reducible refine below_drewN ?_ _) | (with_reducible refine Below.drew ?_) | (with_reducible refine Below.setCell ?_ ?_ _) | (with_reducible refine Below.alloc ?_ ?_ _) | (with_reducible refine below_putObj ?_ ?_ _) | (with_reducible exact Nat.le_refl _) | omega | (simp; done) | (simp; omega)))
      have B9 : Blk W4 w3.heap.size 28 #[.string ⟨M.buf.toArray⟩, .bool M.chunks, .slice a1 M.waits.length c1, .bool M.dead] := by rw [hW4]; exact (Blk.new w3 _ _).alloc _
      have m0 := B9.cell 0
      have m1 := B9.cell 1
      have m2 := B9.cell 2
      have m3 := B9.cell 3
      simp only [List.getElem?_toArray, List.getElem?_cons_zero, List.getElem?_cons_succ] at m0 m1 m2 m3
      have b5 := below_next b4 h34
      have HWA4 := Lib.hid (HWA.out.below h34)
      have HMM : Hid (MatAt W4 w3.heap.size M) := Lib.hid ⟨_, B9, HWA.out.below h34⟩
      clear hW4 h34 B9 b4 HWA
      generalize w3.heap.size = GM at *
      go_wp2_with fail
      refine (HF1.out _ _ HWA4.out).mono ?_
      rintro e w5 ⟨n, out, vA, yA, rfl, hfA, hwA, hyA, hb6, hcap⟩
      obtain ⟨pA, qA, rfl⟩ := hwA.form
      obtain ⟨rA, tA, rfl⟩ := hyA.form
      have hct : out.length ≤ tA := hcap _ _ _ rfl
      have HO := Lib.hid (once_law HM.out hsl hfA)
      have b6 := below_next b5 hb6
      unfold matC
      go_upto_region 5 with fail
      obtain ⟨W5, hW5⟩ : ∃ W5, W5 = w5.alloc (.cells #[.string ⟨n.buf.toArray⟩, .bool n.chunks, .slice pA n.waits.length qA, .bool n.dead] 28) := ⟨_, rfl⟩
      rw [← hW5]
      have h55 : Below w5.heap.size w5 W5 := by rw [hW5]; (repeat' (first | (with_reducible assumption) | (with_reducible exact Below.refl _ _) | (with_reducible refine below_drewN ?_ _) | (with_reducible refine Below.drew ?_) | (with_reducible refine Below.setCell ?_ ?_ _) | (with_reducible refine Below.alloc ?_ ?_ _) | (with_reducible refine below_putObj ?_ ?_ _) | (with_reducible exact Nat.le_refl _) | omega | (simp; done) | (simp; omega)))
      have HST : Hid (OnSt GM w5.heap.size M n out (.slice rA out.length tA) W5) := Lib.hid ⟨(HMM.out.below hb6).below h55, ⟨_, by rw [hW5]; exact Blk.new w5 _ _, hwA.below h55⟩, hyA.below h55⟩
      have b7 := below_next b6 h55
      clear hW5 b6 hb6 HWA4 HMM h55 hwA hyA hfA hcap m0 m1 m2 m3 HF1 b5
      generalize w5.heap.size = GN at *
      obtain ⟨N, hN⟩ : ∃ N, N = out.length := ⟨_, rfl⟩
      have HN := Lib.hid hN
      have hct2 : N ≤ tA := by omega
      rw [← hN] at HST ⊢
      clear hN hct
      go_wp2_with fail
      go_loopw [46] (fun i wr => ∃ k : Nat, k ≤ N ∧ i = .int .i64 k ∧ Below W5.heap.size W5 wr) (fun i _ => N - (intOf i).toNat)
      case atStart => exact ⟨0, Nat.zero_le _, rfl, Below.refl _ _⟩
      case round =>
        obtain ⟨k, hk, rfl, hbw⟩ := hrel
        have hbk := hbw.size
        by_cases hlt : k < N
        · have k1 : (k : Int) < (N : Int) := by omega
          have k0 : (0 : Int) ≤ (k : Int) := by omega
          have k2 : (k : Int) ≤ (tA : Int) := by omega
          obtain ⟨⟨rq, er, dt, sp⟩, ha⟩ : ∃ a, out[k]? = some a := ⟨_, List.getElem?_eq_getElem (by rw [← HN.out]; exact hlt)⟩
          obtain ⟨ps, p1, p2, p3⟩ := HST.out.o.pairs
          obtain ⟨u, hu⟩ := pairs_get p1 k _ ha
          obtain ⟨su, cu, e9⟩ := (p3 _ (List.mem_of_getElem? hu)).form
          dsimp only at e9
          subst e9
          rw [← HN.out] at p2
          obtain ⟨gD, oD, rfl, A⟩ := answ_cells p2 hu
          obtain ⟨t0, t1, t2, t3, t4, t5, t6, t7, t8⟩ := A.below hbw
          dsimp only at t0 t1 t2 t3 t4 t5 t6 t7 t8
          obtain ⟨am, cm, BM, WM⟩ := (HST.out.m.below hbw).open_
          have m2 := BM.cell 2
          unfold matC at m2
          simp only [List.getElem?_toArray, List.getElem?_cons_zero, List.getElem?_cons_succ] at m2
          have hltM := BM.lt
          have zoM := fun o i => old_cell (w := wr) (g := GM) hltM o i
          obtain ⟨J, qJ, hJ, hJq⟩ := HO.out.came k _ ha
          have HJ := Lib.hid (And.intro hJ hJq)
          have HAK := Lib.hid ha
          have HP := Lib.hid (And.intro p1 (And.intro p2 p3))
          have hfew := HO.out.few
          have hN8 : N ≤ 8 := by have h1 := hfew.1; have h2 := HN.out; omega
          go_wp2_with fail
          obtain ⟨WA, hWA⟩ : ∃ WA, WA = wr.alloc (.cells #[.int .i64 rq.flags, .int .i64 rq.kind, .int .u64 (rq.cookie : Nat), .int .u64 (rq.frm : Nat), .int .u32 (rq.len : Nat), .string ⟨rq.data.toArray⟩, .int .u32 (er : Nat), .string ⟨dt.toArray⟩, .slice su sp.length cu] 40) := ⟨_, rfl⟩
          rw [← hWA]
          have hgA : Below wr.heap.size wr WA := by rw [hWA]; (repeat' (first | (with_reducible assumption) | (with_reducible exact Below.refl _ _) | (with_reducible refine below_drewN ?_ _) | (with_reducible refine Below.drew ?_) | (with_reducible refine Below.setCell ?_ ?_ _) | (with_reducible refine Below.alloc ?_ ?_ _) | (with_reducible refine below_putObj ?_ ?_ _) | (with_reducible exact Nat.le_refl _) | omega | (simp; done) | (simp; omega)))
          have BA : Blk WA wr.heap.size 40 #[.int .i64 rq.flags, .int .i64 rq.kind, .int .u64 (rq.cookie : Nat), .int .u64 (rq.frm : Nat), .int .u32 (rq.len : Nat), .string ⟨rq.data.toArray⟩, .int .u32 (er : Nat), .string ⟨dt.toArray⟩, .slice su sp.length cu] := by rw [hWA]; exact Blk.new _ _ _
          have hbA : Below W5.heap.size W5 WA := below_next hbw hgA
          have HWM := Lib.hid (WM.below hgA)
          have HBA := Lib.hid BA
          have HBW := Lib.hid hbA
          have HGN : Hid (∀ W, Below WA.heap.size WA W → MatAt W GN n) := Lib.hid (fun W hb => ((HST.out.n.below hbA).below hb))
          have HAO : Hid (∀ W, Below WA.heap.size WA W → ∀ (j : Nat) (o : Answ), out[j]? = some o → ∃ so : Option Addr × Nat, AnswCells W gD (oD + j * 9) (o, .slice so.1 o.spans.length so.2)) := Lib.hid (fun W hb j o ho => by
            obtain ⟨x, hx⟩ := pairs_get HP.out.1 j o ho
            obtain ⟨f1, f2, e8⟩ := (HP.out.2.2 _ (List.mem_of_getElem? hx)).form
            dsimp only at e8
            subst e8
            obtain ⟨_, _, e7, A7⟩ := answ_cells HP.out.2.1 hx
            simp only [Option.some.injEq, Addr.mk.injEq, and_true] at e7
            obtain ⟨rfl, rfl⟩ := e7
            exact ⟨(f1, f2), A7.below (below_next hbA hb)⟩)
          clear hWA BM WM m2 zoM t0 t1 t2 t3 t4 t5 t6 t7 t8 A hu hJ hJq ha BA hgA hltM p1 p2 p3
          generalize wr.heap.size = gA at *
          go_loopw [54, 14] (fun i v wq => ∃ (j : Nat) (B : Bool), j ≤ M.waits.length ∧ i = .int .i64 j ∧ v = .bool B ∧ Hid (J < j → B = true) ∧ Below WA.heap.size WA wq) (fun i _ _ => M.waits.length - (intOf i).toNat)
          case atStart => exact ⟨0, false, Nat.zero_le _, rfl, rfl, Lib.hid (fun h => absurd h (Nat.not_lt_zero _)), Below.refl _ _⟩
          case round =>
            obtain ⟨j, B, hj, rfl, rfl, hin, hbq⟩ := hrel
            have hszq := hbq.size
            by_cases hjl : j < M.waits.length
            · have j1 : (j : Int) < (M.waits.length : Int) := by omega
              have j0 : (0 : Int) ≤ (j : Int) := by omega
              obtain ⟨q, hq⟩ : ∃ q, M.waits[j]? = some q := ⟨_, List.getElem?_eq_getElem hjl⟩
              obtain ⟨qs, e1, e2, e3, _⟩ := HWM.out.below hbq
              obtain ⟨uv, huv⟩ := pairs_get e1 j q hq
              obtain ⟨f1, f2, e9⟩ := (e3 _ (List.mem_of_getElem? huv)).form
              dsimp only at e9
              subst e9
              obtain ⟨gw, ow, rfl, A⟩ := wait_cells e2 huv
              obtain ⟨t0, t1, t2, t3, t4, t5, t6, t7, t8, t9⟩ := A
              dsimp only at t0 t1 t2 t3 t4 t5 t6 t7 t8 t9
              have BQ := HBA.out.below hbq HBA.out.lt
              have s0 := BQ.cell 0
              have s1 := BQ.cell 1
              have s2 := BQ.cell 2
              have s3 := BQ.cell 3
              have s4 := BQ.cell 4
              have s5 := BQ.cell 5
              simp only [List.getElem?_toArray, List.getElem?_cons_zero, List.getElem?_cons_succ] at s0 s1 s2 s3 s4 s5
              have hlq := BQ.lt
              have zq := fun o i => old_cell (w := wr) (g := gA) hlq o i
              have HQ := Lib.hid hq
              clear BQ huv e1 e2 e3 hq
              cases B with
              | true =>
                go_wp2
                go_roundw
                case rel => exact ⟨j + 1, true, by omega, by go_num, rfl, Lib.hid (fun _ => rfl), by (repeat' (first | (with_reducible assumption) | (with_reducible exact Below.refl _ _) | (with_reducible refine below_drewN ?_ _) | (with_reducible refine Below.drew ?_) | (with_reducible refine Below.setCell ?_ ?_ _) | (with_reducible refine Below.alloc ?_ ?_ _) | (with_reducible refine below_putObj ?_ ?_ _) | (with_reducible exact Nat.le_refl _) | omega | (simp; done) | (simp; omega)))⟩
                case measure => simp [intOf]; omega
              | false =>
                by_cases hJj : j = J
                · subst hJj
                  have hqq : q.req = rq := by
                    have h1 := HQ.out.symm.trans HJ.out.1
                    simp only [Option.some.injEq] at h1
                    rw [h1, HJ.out.2]
                  rw [hqq] at t0 t1 t2 t3 t4 t5
                  clear hqq
                  go_wp2
                  go_roundw
                  case rel => exact ⟨j + 1, true, by omega, by go_num, by simp, Lib.hid (fun _ => rfl), by (repeat' (first | (with_reducible assumption) | (with_reducible exact Below.refl _ _) | (with_reducible refine below_drewN ?_ _) | (with_reducible refine Below.drew ?_) | (with_reducible refine Below.setCell ?_ ?_ _) | (with_reducible refine Below.alloc ?_ ?_ _) | (with_reducible refine below_putObj ?_ ?_ _) | (with_reducible exact Nat.le_refl _) | omega | (simp; done) | (simp; omega)))⟩
                  case measure => simp [intOf]; omega
                · have HNB : Hid (J < j + 1 → ∀ X : Bool, X = true) := Lib.hid (fun h X => by have := hin.out (by omega); cases this)
                  clear hJj hin
                  go_wp2
                  all_goals
                    go_roundw
                    case rel => exact ⟨j + 1, _, by omega, by go_num, rfl, Lib.hid (fun h => HNB.out h _), by (repeat' (first | (with_reducible assumption) | (with_reducible exact Below.refl _ _) | (with_reducible refine below_drewN ?_ _) | (with_reducible refine Below.drew ?_) | (with_reducible refine Below.setCell ?_ ?_ _) | (with_reducible refine Below.alloc ?_ ?_ _) | (with_reducible refine below_putObj ?_ ?_ _) | (with_reducible exact Nat.le_refl _) | omega | (simp; done) | (simp; omega)))⟩
                    case measure => simp [intOf]; omega
            · obtain rfl : j = M.waits.length := by omega
              have hB : B = true := hin.out (List.getElem?_eq_some_iff.1 HJ.out.1).1
              subst hB
              have j1 : ¬ (M.waits.length : Int) < (M.waits.length : Int) := by omega
              clear hin hjl
              go_wp2_with fail
              go_loopw [71, 14] (fun i v w3 => ∃ j : Nat, j ≤ k ∧ i = .int .i64 j ∧ v = .bool true ∧ Below WA.heap.size WA w3) (fun i _ _ => k - (intOf i).toNat)
              case atStart => exact ⟨0, Nat.zero_le _, rfl, rfl, hbq⟩
              case round =>
                obtain ⟨j3, hj3, rfl, rfl, hb3⟩ := hrel
                have hsz3 := hb3.size
                by_cases hl3 : j3 < k
                · have j31 : (j3 : Int) < (k : Int) := by omega
                  have j30 : (0 : Int) ≤ (j3 : Int) := by omega
                  obtain ⟨o, ho⟩ : ∃ o, out[j3]? = some o := ⟨_, List.getElem?_eq_getElem (by have := HN.out; omega)⟩
                  obtain ⟨so, A3⟩ := HAO.out _ hb3 j3 o ho
                  obtain ⟨t0, t1, t2, t3, t4, t5, t6, t7, t8⟩ := A3
                  dsimp only at t0 t1 t2 t3 t4 t5 t6 t7 t8
                  have hne := HO.out.apart k _ HAK.out j3 o hl3 ho
                  dsimp only at hne
                  have ne1 : ((o.req.cookie : Int) == (rq.cookie : Int)) = false := by rw [beq_eq_false_iff_ne]; omega
                  have ne2 : ((o.req.cookie : Int) != (rq.cookie : Int)) = true := by rw [bne_iff_ne]; omega
                  have BQ := HBA.out.below hb3 HBA.out.lt
                  have s0 := BQ.cell 0
                  have s1 := BQ.cell 1
                  have s2 := BQ.cell 2
                  have s3 := BQ.cell 3
                  have s4 := BQ.cell 4
                  have s5 := BQ.cell 5
                  have s6 := BQ.cell 6
                  have s7 := BQ.cell 7
                  have s8 := BQ.cell 8
                  simp only [List.getElem?_toArray, List.getElem?_cons_zero, List.getElem?_cons_succ] at s0 s1 s2 s3 s4 s5 s6 s7 s8
                  have hlq := BQ.lt
                  have zq := fun o i => old_cell (w := wr) (g := gA) hlq o i
                  clear BQ ho hne
                  go_wp2
                  go_roundw
                  case rel => exact ⟨j3 + 1, by omega, by go_num, by simp, by (repeat' (first | (with_reducible assumption) | (with_reducible exact Below.refl _ _) | (with_reducible refine below_drewN ?_ _) | (with_reducible refine Below.drew ?_) | (with_reducible refine Below.setCell ?_ ?_ _) | (with_reducible refine Below.alloc ?_ ?_ _) | (with_reducible refine below_putObj ?_ ?_ _) | (with_reducible exact Nat.le_refl _) | omega | (simp; done) | (simp; omega)))⟩
                  case measure => simp [intOf]; omega
                · obtain rfl : k = j3 := by omega
                  have j31 : ¬ (k : Int) < (k : Int) := by omega
                  obtain ⟨an, cn, BN, WN⟩ := (HGN.out _ hb3).open_
                  have n2 := BN.cell 2
                  unfold matC at n2
                  simp only [List.getElem?_toArray, List.getElem?_cons_zero, List.getElem?_cons_succ] at n2
                  have HWN := Lib.hid WN
                  clear BN WN
                  go_wp2_with fail
                  obtain ⟨W3, hW3⟩ : ∃ W3, W3 = wr := ⟨_, rfl⟩
                  rw [← hW3] at HWN hb3
                  go_loopw [89, 14] (fun i v w4 => ∃ j : Nat, j ≤ n.waits.length ∧ i = .int .i64 j ∧ v = .bool true ∧ Below W3.heap.size W3 w4) (fun i _ _ => n.waits.length - (intOf i).toNat)
                  case atStart => exact ⟨0, Nat.zero_le _, rfl, rfl, by rw [hW3]; exact Below.refl _ _⟩
                  case round =>
                    clear hW3 n2
                    obtain ⟨j4, hj4, rfl, rfl, hb4⟩ := hrel
                    have hsz4 := hb4.size
                    have hb34 := below_next hb3 hb4
                    by_cases hl4 : j4 < n.waits.length
                    · have j41 : (j4 : Int) < (n.waits.length : Int) := by omega
                      have j40 : (0 : Int) ≤ (j4 : Int) := by omega
                      obtain ⟨q, hq⟩ : ∃ q, n.waits[j4]? = some q := ⟨_, List.getElem?_eq_getElem hl4⟩
                      obtain ⟨qs, e1, e2, e3, _⟩ := HWN.out.below hb4
                      obtain ⟨uv, huv⟩ := pairs_get e1 j4 q hq
                      obtain ⟨f1, f2, e9⟩ := (e3 _ (List.mem_of_getElem? huv)).form
                      dsimp only at e9
                      subst e9
                      obtain ⟨gw, ow, rfl, A⟩ := wait_cells e2 huv
                      obtain ⟨t0, t1, t2, t3, t4, t5, t6, t7, t8, t9⟩ := A
                      dsimp only at t0 t1 t2 t3 t4 t5 t6 t7 t8 t9
                      have hne := HO.out.left _ _ HAK.out j4 q hq
                      dsimp only at hne
                      have ne1 : ((q.req.cookie : Int) == (rq.cookie : Int)) = false := by rw [beq_eq_false_iff_ne]; omega
                      have ne2 : ((q.req.cookie : Int) != (rq.cookie : Int)) = true := by rw [bne_iff_ne]; omega
                      have BQ := HBA.out.below hb34 HBA.out.lt
                      have s0 := BQ.cell 0
                      have s1 := BQ.cell 1
                      have s2 := BQ.cell 2
                      have s3 := BQ.cell 3
                      have s4 := BQ.cell 4
                      have s5 := BQ.cell 5
                      have s6 := BQ.cell 6
                      have s7 := BQ.cell 7
                      have s8 := BQ.cell 8
                      simp only [List.getElem?_toArray, List.getElem?_cons_zero, List.getElem?_cons_succ] at s0 s1 s2 s3 s4 s5 s6 s7 s8
                      have hlq := BQ.lt
                      have zq := fun o i => old_cell (w := wr) (g := gA) hlq o i
                      clear BQ huv e1 e2 e3 hq hne
                      go_wp2
                      go_roundw
                      case rel => exact ⟨j4 + 1, by omega, by go_num, by simp, by (repeat' (first | (with_reducible assumption) | (with_reducible exact Below.refl _ _) | (with_reducible refine below_drewN ?_ _) | (with_reducible refine Below.drew ?_) | (with_reducible refine Below.setCell ?_ ?_ _) | (with_reducible refine Below.alloc ?_ ?_ _) | (with_reducible refine below_putObj ?_ ?_ _) | (with_reducible exact Nat.le_refl _) | omega | (simp; done) | (simp; omega)))⟩
                      case measure => simp [intOf]; omega
                    · obtain rfl : j4 = n.waits.length := by omega
                      have j41 : ¬ (n.waits.length : Int) < (n.waits.length : Int) := by omega
                      have BQ := HBA.out.below hb34 HBA.out.lt
                      have s0 := BQ.cell 0
                      have s1 := BQ.cell 1
                      have s2 := BQ.cell 2
                      have s3 := BQ.cell 3
                      have s4 := BQ.cell 4
                      have s5 := BQ.cell 5
                      have s6 := BQ.cell 6
                      have s7 := BQ.cell 7
                      have s8 := BQ.cell 8
                      simp only [List.getElem?_toArray, List.getElem?_cons_zero, List.getElem?_cons_succ] at s0 s1 s2 s3 s4 s5 s6 s7 s8
                      have hlq := BQ.lt
                      have zq := fun o i => old_cell (w := wr) (g := gA) hlq o i
                      have hgd := HO.out.good _ (List.mem_of_getElem? HAK.out)
                      have hw5 : Below W5.heap.size W5 wr := below_next HBW.out hb34
                      have hl32 : rq.len < 4294967296 := by
                        have := (HM.out.ok.waits qJ (List.mem_of_getElem? HJ.out.1)).1.wf.len
                        rwa [HJ.out.2] at this
                      have HG := Lib.hid hgd
                      have HW5 := Lib.hid hw5
                      clear BQ hgd hw5 zq
                      by_cases her : er = 0
                      · have r1 : ((er : Int) == 0) = true := by rw [her]; rfl
                        have r2 : ((er : Int) != 0) = false := by rw [her]; rfl
                        by_cases hkd : rq.kind = 0
                        · have r3 : (rq.kind == 0) = true := by simpa using hkd
                          have hdl := HG.out.read her hkd
                          dsimp only at hdl
                          have r4 : IntKind.i64.wrap (rq.len : Int) = (dt.length : Int) := by rw [IntKind.wrap_i64]; omega
                          clear her hkd hdl
                          go_wp2
                          go_roundw
                          case rel => exact ⟨k + 1, by omega, by go_num, HW5.out⟩
                          case measure => simp [intOf]; omega
                        · have r3 : (rq.kind == 0) = false := by simpa using hkd
                          clear her hkd
                          go_wp2
                          go_roundw
                          case rel => exact ⟨k + 1, by omega, by go_num, HW5.out⟩
                          case measure => simp [intOf]; omega
                      · have r1 : ((er : Int) == 0) = false := by rw [beq_eq_false_iff_ne]; omega
                        have r2 : ((er : Int) != 0) = true := by rw [bne_iff_ne]; omega
                        obtain ⟨g1, g2⟩ := HG.out.bad her
                        dsimp only at g1 g2
                        have r5 : dt.isEmpty = true := by rw [g1]; rfl
                        have r6 : (sp.length : Int) = 0 := by rw [g2]; rfl
                        have r7 : ¬ (0 : Int) < (sp.length : Int) := by omega
                        clear her g1 g2
                        go_wp2
                        go_roundw
                        case rel => exact ⟨k + 1, by omega, by go_num, HW5.out⟩
                        case measure => simp [intOf]; omega
        · obtain rfl : k = N := by omega
          have k1 : ¬ (k : Int) < (k : Int) := by omega
          obtain ⟨an, cn, BN, WN⟩ := (HST.out.n.below hbw).open_
          obtain ⟨am, cm, BM, WM⟩ := (HST.out.m.below hbw).open_
          have n2 := BN.cell 2
          have n3 := BN.cell 3
          have m2 := BM.cell 2
          unfold matC at n2 n3 m2
          simp only [List.getElem?_toArray, List.getElem?_cons_zero, List.getElem?_cons_succ] at n2 n3 m2
          have hfew := HO.out.few
          have hcnt := HO.out.count
          rw [← HN.out] at hcnt
          have hb9 := Lib.hid (below_next b7 hbw)
          clear BN WN BM WM
          by_cases hnd : n.dead = true
          · by_cases hc : n.waits.length = 0
            · have hc2 : (n.waits.length : Int) = 0 := by omega
              rw [hnd] at n3
              rw [hc] at n2
              clear hcnt hc hnd
              go_wp2_with fail
              refine (HA.out _).mono ?_
              rintro e w9 ⟨rfl, hb10⟩
              have b11 := below_next hb9.out hb10
              go_wp2
              go_ret
              exact ⟨rfl, b11⟩
            · rw [hnd] at n3
              have hc4 : (n.waits.length : Int) + (k : Int) = (M.waits.length : Int) := by
                rcases hcnt with h | h
                · exact absurd h.2 hc
                · omega
              have hc3 : ((n.waits.length : Int) == 0) = false := by rw [beq_eq_false_iff_ne]; omega
              clear hc
              clear hcnt hnd
              go_wp2_with fail
              refine (HA.out _).mono ?_
              rintro e w9 ⟨rfl, hb10⟩
              have b11 := below_next hb9.out hb10
              go_wp2
              go_ret
              exact ⟨rfl, b11⟩
          · have hc : (n.waits.length : Int) + (k : Int) = (M.waits.length : Int) := by
              rcases hcnt with h | h
              · exact absurd h.1 hnd
              · omega
            have hnd2 : n.dead = false := by simpa using hnd
            rw [hnd2] at n3
            clear hcnt hnd hnd2
            go_wp2_with fail
            refine (HA.out _).mono ?_
            rintro e w9 ⟨rfl, hb10⟩
            have b11 := below_next hb9.out hb10
            go_wp2
            go_ret
            exact ⟨rfl, b11⟩
end Go.Proofs.Ytfcojhpnpfodeaa
