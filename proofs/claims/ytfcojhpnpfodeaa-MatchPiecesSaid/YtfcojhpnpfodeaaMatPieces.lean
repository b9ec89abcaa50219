/- PIECES: the law's walk. -/
import Derived.Test.YtfcojhpnpfodeaaMatAppend
import Derived.Deep.RegionWith
namespace Go.Proofs.Ytfcojhpnpfodeaa
open Go.RowKit

/-- Behind the two guards: what few and short let through, and the client. -/
theorem asked_of {c : Bool} {l : List Req} (hq : ∀ q ∈ l, q.wf) : (askedM c l).Asked := (askedM_asked c l hq).1

set_option maxRecDepth 100000 in
set_option maxHeartbeats 8000000 in
theorem pieces_any (c : Bool) (v : Value) (l : List Req) (s : List UInt8) (cut : Int) (w : World) (h : SlAt w v l.length (l.flatMap reqC)) (hl : l.length ≤ 9223372036854775807) (hq : ∀ q ∈ l, q.wf ∧ q.data.length ≤ 9223372036854775807) (hs : s.length ≤ 9223372036854775807) :
    Calls Try.prog 4 #[.bool c, v, .string ⟨s.toArray⟩, .int .i64 cut] w (Gives (.bool true) w) := by
  have mixed : Try.prog.follows .mixedOrders = true := by kernel_rfl
  have HA := Lib.hid awake_any
  have H := Lib.hid h
  have HFW := Lib.hid (few_any v l w h hl (fun q hx => (hq q hx).2))
  have HS := Lib.hid (fun W v (hv : SlAt W v 1 [.string ⟨s.toArray⟩]) => short_any v [s] W hv (show (1 : Nat) ≤ _ by decide) (by simpa using hs))
  have HQ := Lib.hid hq
  have HK := Lib.hid (fun (hl2 : l.length ≤ 20) (hd : ∀ q ∈ l, q.data.length ≤ 40000) W (hb : Below w.heap.size w W) => asked_any c v l W (h.below hb) hl2 (fun q hx => ⟨(hq q hx).1, hd q hx⟩))
  have HM := Lib.hid (asked_of (c := c) (fun q hx => (hq q hx).1))
  obtain ⟨ad, cp, rfl⟩ := h.form
  clear h hq
  generalize askedM c l = M at HK HM
  go_enter Try.func4, Try.ntmps4
  go_wp2_with fail
  refine HFW.out.mono ?_
  rintro e w1 ⟨r, rfl, hr, hb1⟩
  have HR := Lib.hid hr
  clear hr HFW
  cases r with
  | false =>
    go_wp2_with fail
    refine (HA.out _).mono ?_
    rintro e w2 ⟨rfl, hb2⟩
    have b2 := below_next hb1 hb2
    go_wp2
    go_ret
    exact ⟨rfl, b2⟩
  | true =>
    obtain ⟨hl2, hd2⟩ := HR.out rfl
    have HK2 := Lib.hid (HK.out hl2 hd2)
    clear HK hd2 HR
    go_wp2_with fail
    have hb2 : Below w.heap.size w (w1.alloc (.cells #[.string ⟨s.toArray⟩] 9)) := by have s1 := hb1.size; (repeat' (first | (with_reducible assumption) | (with_reducible exact Below.refl _ _) | (with_reducible refine below_drewN ?_ _) | (with_reducible refine Below.drew ?_) | (with_reducible refine Below.setCell ?_ ?_ _) | (with_reducible refine Below.alloc ?_ ?_ _) | (with_reducible refine below_putObj ?_ ?_ _) | (with_reducible exact Nat.le_refl _) | omega | (simp; done) | (simp; omega)))
    refine (HS.out _ _ (.inr ⟨⟨w1.heap.size, 0, none⟩, 1, rfl, .inr rfl, ?cs⟩)).mono ?_
    case cs =>
      intro j u hu
      have h2 := (Blk.new w1 9 #[.string ⟨s.toArray⟩]).cell j
      rw [Addr.add_lit, Nat.zero_add, h2]
      simpa using hu
    rintro e w2 ⟨r, rfl, hr, hb3⟩
    have HR2 := Lib.hid hr
    have b3 := below_next hb2 hb3
    clear hr hb2 hb3 hb1
    cases r with
    | false =>
      go_wp2_with fail
      refine (HA.out _).mono ?_
      rintro e w2 ⟨rfl, hb2⟩
      have b2 := below_next b3 hb2
      go_wp2
      go_ret
      exact ⟨rfl, b2⟩
    | true =>
      have hsl : s.length ≤ 20000 := by have := HR2.out rfl; simpa using this
      obtain ⟨k, hk, hmod⟩ := cut_mod cut (s.length + 1) (by omega)
      have hkl : k ≤ s.length := by omega
      have l1 : (k : Int) ≤ (s.length : Int) := by omega
      have hwk : wrap64 (k : Int) = (k : Int) := by unfold wrap64; omega
      have hmod2 : (IntKind.u64.wrap cut).tmod ((s.length : Int) + 1) = (k : Int) := by rw [← hmod]; norm_cast
      have hkt : (s.take k).length = k := by rw [List.length_take]; omega
      clear hmod hk HR2
      go_wp2_with fail
      refine (HK2.out _ b3).mono ?_
      rintro e w3 ⟨va, vb, rfl, hwa, hwb, hb4⟩
      have b4 := below_next b3 hb4
      obtain ⟨a1, c1, rfl⟩ := hwa.form
      obtain ⟨a2, c2, rfl⟩ := hwb.form
      have HWA := Lib.hid hwa
      have HF1 := Lib.hid (fun (t : List UInt8) (ht : t.length ≤ 20000) W v (hv : WaitsAt W v M.waits) => feed_any 0 M t v W hv HM.out.ok (by omega))
      clear hwa hwb hb4 b3 HK2 HS
      unfold matC
      go_upto_region 5 with fail
      obtain ⟨W4, hW4⟩ : ∃ W4, W4 = ((w3.alloc (.cells #[.string ⟨M.buf.toArray⟩, .bool M.chunks, .slice a1 M.waits.length c1, .bool M.dead] 28)).alloc (.cells #[.string ⟨M.buf.toArray⟩, .bool M.chunks, .slice a2 M.waits.length c2, .bool M.dead] 28)) := ⟨_, rfl⟩
      rw [← hW4]
      have h34 : Below w3.heap.size w3 W4 := by rw [hW4]; (repeat' (first | (with_reducible assumption) | (with_reducible exact Below.refl _ _) | (with_reducible refine below_drewN ?_ _) | (with_reducible refine Below.drew ?_) | (with_reducible refine Below.setCell ?_ ?_ _) | (with_reducible refine Below.alloc ?_ ?_ _) | (with_reducible refine below_putObj ?_ ?_ _) | (with_reducible exact Nat.le_refl _) | omega | (simp; done) | (simp; omega)))
      have B9 : Blk W4 w3.heap.size 28 #[.string ⟨M.buf.toArray⟩, .bool M.chunks, .slice a1 M.waits.length c1, .bool M.dead] := by rw [hW4]; exact (Blk.new w3 _ _).alloc _
      have m0 := B9.cell 0
      have m1 := B9.cell 1
      have m2 := B9.cell 2
      have m3 := B9.cell 3
      simp only [List.getElem?_toArray, List.getElem?_cons_zero, List.getElem?_cons_succ] at m0 m1 m2 m3
      have b5 := below_next b4 h34
      have HWA4 := Lib.hid (HWA.out.below h34)
      have HB9 := Lib.hid B9
      clear hW4 h34 B9 b4 HWA
      go_wp2_with fail
      refine (HF1.out s hsl _ _ HWA4.out).mono ?_
      rintro e w5 ⟨mA, oA, vA, yA, rfl, hfA, hwA, hyA, hb6⟩
      obtain ⟨pA, qA, rfl⟩ := hwA.form
      obtain ⟨rA, tA, rfl⟩ := hyA.form
      have HFA := Lib.hid (And.intro hfA (And.intro hwA hyA))
      have B59 := Lib.hid (HB9.out.below hb6 HB9.out.lt)
      have HWA5 := Lib.hid (HWA4.out.below hb6)
      have b6 := below_next b5 hb6
      clear hfA hwA hyA hb6 b5 HWA4 HB9 m0 m1 m2 m3
      unfold matC
      go_upto_region 6 with fail
      obtain ⟨W5, hW5⟩ : ∃ W5, W5 = w5.alloc (.cells #[.string ⟨mA.buf.toArray⟩, .bool mA.chunks, .slice pA mA.waits.length qA, .bool mA.dead] 28) := ⟨_, rfl⟩
      rw [← hW5]
      have h55 : Below w5.heap.size w5 W5 := by rw [hW5]; (repeat' (first | (with_reducible assumption) | (with_reducible exact Below.refl _ _) | (with_reducible refine below_drewN ?_ _) | (with_reducible refine Below.drew ?_) | (with_reducible refine Below.setCell ?_ ?_ _) | (with_reducible refine Below.alloc ?_ ?_ _) | (with_reducible refine below_putObj ?_ ?_ _) | (with_reducible exact Nat.le_refl _) | omega | (simp; done) | (simp; omega)))
      have MA : MatAt W5 w5.heap.size mA := ⟨_, by rw [hW5]; exact Blk.new w5 _ _, HFA.out.2.1.below h55⟩
      have HMA := Lib.hid (And.intro MA (HFA.out.2.2.below h55))
      have HfA := Lib.hid HFA.out.1
      have HWA6 := Lib.hid (HWA5.out.below h55)
      have BM := B59.out.below h55 B59.out.lt
      have hlt5 := BM.lt
      have b7 := below_next b6 h55
      clear hW5 b6 HFA HWA5 B59 h55
      generalize w5.heap.size = GA at *
      have m0 := BM.cell 0
      have m1 := BM.cell 1
      have m2 := BM.cell 2
      have m3 := BM.cell 3
      simp only [List.getElem?_toArray, List.getElem?_cons_zero, List.getElem?_cons_succ] at m0 m1 m2 m3
      have md0 : W5.drew.cell? ⟨w3.heap.size, 0, none⟩ = some (.string ⟨M.buf.toArray⟩) := m0
      have md1 : W5.drew.cell? ⟨w3.heap.size, 1, none⟩ = some (.bool M.chunks) := m1
      have md2 : W5.drew.cell? ⟨w3.heap.size, 2, none⟩ = some (.slice a1 M.waits.length c1) := m2
      have md3 : W5.drew.cell? ⟨w3.heap.size, 3, none⟩ = some (.bool M.dead) := m3
      have n1 : w3.heap.size ≠ W5.heap.size := by omega
      have n2 := n1.symm
      clear BM
      go_cut [15, 16] from 50 to 57 (fun x y wx => FedAt M (s.take k) W5 x y wx)
      case first =>
        go_region_held3 (fun w' => w'.cell? ⟨w3.heap.size, 0, none⟩ = some (.string ⟨M.buf.toArray⟩) ∧ w'.cell? ⟨w3.heap.size, 1, none⟩ = some (.bool M.chunks) ∧ w'.cell? ⟨w3.heap.size, 2, none⟩ = some (.slice a1 M.waits.length c1) ∧ w'.cell? ⟨w3.heap.size, 3, none⟩ = some (.bool M.dead))
          (first | with_reducible exact ⟨md0, md1, md2, md3⟩ | with_reducible exact ⟨x0, x1, x2, x3⟩ | go_keep)
          (first | (go_at_call 10; (refine (HF1.out (s.take k) (by omega) _ _ (HWA6.out.below (by (repeat' (first | (with_reducible assumption) | (with_reducible exact Below.refl _ _) | (with_reducible refine below_drewN ?_ _) | (with_reducible refine Below.drew ?_) | (with_reducible refine Below.setCell ?_ ?_ _) | (with_reducible refine Below.alloc ?_ ?_ _) | (with_reducible refine below_putObj ?_ ?_ _) | (with_reducible exact Nat.le_refl _) | omega | (simp; done) | (simp; omega)))))).mono ?_; rintro e w6 ⟨mC, oC, vC, yC, rfl, hfC, hwC, hyC, hb7⟩; obtain ⟨pC, qC, rfl⟩ := hwC.form; obtain ⟨rC, tC, rfl⟩ := hyC.form; have HFC := Lib.hid (And.intro hfC (And.intro hwC hyC)); have HB7 := Lib.hid (below_next (show Below W5.heap.size W5 _ by (repeat' (first | (with_reducible assumption) | (with_reducible exact Below.refl _ _) | (with_reducible refine below_drewN ?_ _) | (with_reducible refine Below.drew ?_) | (with_reducible refine Below.setCell ?_ ?_ _) | (with_reducible refine Below.alloc ?_ ?_ _) | (with_reducible refine below_putObj ?_ ?_ _) | (with_reducible exact Nat.le_refl _) | omega | (simp; done) | (simp; omega)))) hb7); have x0 := cell_keepS m0 HB7.out; have x1 := cell_keepS m1 HB7.out; have x2 := cell_keepS m2 HB7.out; have x3 := cell_keepS m3 HB7.out; (try (have hZ := (show Blk _ W5.heap.size 28 #[.string ⟨#[]⟩, .bool false, .slice none 0 0, .bool false] from Blk.new W5.drew _ _).below hb7 (Blk.new W5.drew 28 #[.string ⟨#[]⟩, .bool false, .slice none 0 0, .bool false]).lt; have z0 := hZ.cell 0; have z1 := hZ.cell 1; have z2 := hZ.cell 2; have z3 := hZ.cell 3; have y0 := hZ.frozen 0; have y1 := hZ.frozen 1; have y2 := hZ.frozen 2; have y3 := hZ.frozen 3; simp only [List.getElem?_toArray, List.getElem?_cons_zero, List.getElem?_cons_succ] at z0 z1 z2 z3; have HZ := Lib.hid hZ; clear hZ)); clear hfC hwC hyC hb7; unfold matC; dsimp only)))
        all_goals go_wp2_with fail
        all_goals go_meet
        all_goals first | with_reducible exact fed_new HFC.out.1 HFC.out.2.1 HFC.out.2.2 HB7.out | with_reducible exact fed_set HFC.out.1 HFC.out.2.1 HFC.out.2.2 HB7.out HZ.out rfl (Nat.le_refl _) | (trace_state; sorry)
      case rest =>
        obtain ⟨GB, mB, oB, hx, hfB, hmB, hyB, hbB, hgB⟩ := hcut
        obtain ⟨W6, hW6⟩ : ∃ W6, W6 = wc := ⟨_, rfl⟩
        rw [← hW6] at hmB hyB hbB ⊢
        subst hx
        have kB := (feeds_small HM.out.ok (by omega) hfB).1
        have HF3 := Lib.hid (fun W v (hv : WaitsAt W v mB.waits) => feed_any (0 + (s.take k).length) mB (s.drop k) v W hv kB (by rw [hkt, List.length_drop]; omega))
        obtain ⟨pB, qB, BB, WB⟩ := hmB.open_
        have HWB := Lib.hid WB
        obtain ⟨rB, tB, rfl⟩ := hyB.form
        have HMA6 := Lib.hid (And.intro (HMA.out.1.below hbB) (HMA.out.2.below hbB))
        have HYB := Lib.hid hyB
        have HfB := Lib.hid hfB
        have b8 := below_next b7 hbB
        have hltB := BB.lt
        unfold matC at BB
        clear hW6 hmB WB hyB hfB hbB kB b7 m0 m1 m2 m3 md0 md1 md2 md3 n1 n2 HF1 HMA HWA6 hlt5
        have m0 := BB.cell 0
        have m1 := BB.cell 1
        have m2 := BB.cell 2
        have m3 := BB.cell 3
        simp only [List.getElem?_toArray, List.getElem?_cons_zero, List.getElem?_cons_succ] at m0 m1 m2 m3
        have md0 : W6.drew.cell? ⟨GB, 0, none⟩ = some (.string ⟨mB.buf.toArray⟩) := m0
        have md1 : W6.drew.cell? ⟨GB, 1, none⟩ = some (.bool mB.chunks) := m1
        have md2 : W6.drew.cell? ⟨GB, 2, none⟩ = some (.slice pB mB.waits.length qB) := m2
        have md3 : W6.drew.cell? ⟨GB, 3, none⟩ = some (.bool mB.dead) := m3
        have n1 : GB ≠ W6.heap.size := by omega
        have n2 := n1.symm
        clear BB
        go_upto_region 7 with fail
        go_cut [17, 18] from 58 to 65 (fun x y wx => FedAt mB (s.drop k) W6 x y wx)
        case first =>
          go_region_held3 (fun w' => w'.cell? ⟨GB, 0, none⟩ = some (.string ⟨mB.buf.toArray⟩) ∧ w'.cell? ⟨GB, 1, none⟩ = some (.bool mB.chunks) ∧ w'.cell? ⟨GB, 2, none⟩ = some (.slice pB mB.waits.length qB) ∧ w'.cell? ⟨GB, 3, none⟩ = some (.bool mB.dead))
            (first | with_reducible exact ⟨md0, md1, md2, md3⟩ | with_reducible exact ⟨x0, x1, x2, x3⟩ | go_keep)
            (first | (go_at_call 10; (refine (HF3.out   _ _ (HWB.out.below (by (repeat' (first | (with_reducible assumption) | (with_reducible exact Below.refl _ _) | (with_reducible refine below_drewN ?_ _) | (with_reducible refine Below.drew ?_) | (with_reducible refine Below.setCell ?_ ?_ _) | (with_reducible refine Below.alloc ?_ ?_ _) | (with_reducible refine below_putObj ?_ ?_ _) | (with_reducible exact Nat.le_refl _) | omega | (simp; done) | (simp; omega)))))).mono ?_; rintro e w6 ⟨mC, oC, vC, yC, rfl, hfC, hwC, hyC, hb7⟩; obtain ⟨pC, qC, rfl⟩ := hwC.form; obtain ⟨rC, tC, rfl⟩ := hyC.form; have HFC := Lib.hid (And.intro hfC (And.intro hwC hyC)); have HB7 := Lib.hid (below_next (show Below W6.heap.size W6 _ by (repeat' (first | (with_reducible assumption) | (with_reducible exact Below.refl _ _) | (with_reducible refine below_drewN ?_ _) | (with_reducible refine Below.drew ?_) | (with_reducible refine Below.setCell ?_ ?_ _) | (with_reducible refine Below.alloc ?_ ?_ _) | (with_reducible refine below_putObj ?_ ?_ _) | (with_reducible exact Nat.le_refl _) | omega | (simp; done) | (simp; omega)))) hb7); have x0 := cell_keepS m0 HB7.out; have x1 := cell_keepS m1 HB7.out; have x2 := cell_keepS m2 HB7.out; have x3 := cell_keepS m3 HB7.out; (try (have hZ := (show Blk _ W6.heap.size 28 #[.string ⟨#[]⟩, .bool false, .slice none 0 0, .bool false] from Blk.new W6.drew _ _).below hb7 (Blk.new W6.drew 28 #[.string ⟨#[]⟩, .bool false, .slice none 0 0, .bool false]).lt; have z0 := hZ.cell 0; have z1 := hZ.cell 1; have z2 := hZ.cell 2; have z3 := hZ.cell 3; have y0 := hZ.frozen 0; have y1 := hZ.frozen 1; have y2 := hZ.frozen 2; have y3 := hZ.frozen 3; simp only [List.getElem?_toArray, List.getElem?_cons_zero, List.getElem?_cons_succ] at z0 z1 z2 z3; have HZ := Lib.hid hZ; clear hZ)); clear hfC hwC hyC hb7; unfold matC; dsimp only)))
          all_goals go_wp2_with fail
          all_goals go_meet
          all_goals first | with_reducible exact fed_new HFC.out.1 HFC.out.2.1 HFC.out.2.2 HB7.out | with_reducible exact fed_set HFC.out.1 HFC.out.2.1 HFC.out.2.2 HB7.out HZ.out rfl (Nat.le_refl _) | (trace_state; sorry)
        case rest =>
          obtain ⟨GC, mC, oC, hx, hfC, hmC, hyC, hbC, hgC⟩ := hcut
          obtain ⟨W7, hW7⟩ : ∃ W7, W7 = wc := ⟨_, rfl⟩
          rw [← hW7] at hmC hyC hbC ⊢
          subst hx
          have hp := Mat.feeds_pieces HfB.out hfC
          rw [List.take_append_drop] at hp
          obtain ⟨e1, e2⟩ := Mat.feeds_one HfA.out hp
          obtain ⟨_, ho8, hsA, hsW⟩ := feeds_small HM.out.ok (by omega) HfA.out
          subst e1 e2
          have b9 := below_next b8 hbC
          have AA := HMA6.out.1.below hbC
          have YA := HMA6.out.2.below hbC
          have YB := HYB.out.below hbC
          obtain ⟨rC, tC, rfl⟩ := hyC.form
          have HY := Lib.hid (And.intro YA (And.intro YB hyC))
          have HSA := Lib.hid hsA
          obtain ⟨u1, u2, BA, WA⟩ := AA.open_
          obtain ⟨u3, u4, BC, WC⟩ := hmC.open_
          have HSM := Lib.hid (same_true mA _ _ W7 WA WC (by have := (feeds_small HM.out.ok (by omega) HfA.out).1.few; omega) hsW)
          unfold matC at BA BC HSM
          clear hW7 hp hfC hmC hyC hbC b8 hsA hsW AA YA YB WA WC m0 m1 m2 m3 md0 md1 md2 md3 n1 n2 HF3 HMA6 HYB HfA HfB HWB hltB
          have z0 := BA.cell 0
          have z1 := BA.cell 1
          have z2 := BA.cell 2
          have z3 := BA.cell 3
          simp only [List.getElem?_toArray, List.getElem?_cons_zero, List.getElem?_cons_succ] at z0 z1 z2 z3
          have y0 := BC.cell 0
          have y1 := BC.cell 1
          have y2 := BC.cell 2
          have y3 := BC.cell 3
          simp only [List.getElem?_toArray, List.getElem?_cons_zero, List.getElem?_cons_succ] at y0 y1 y2 y3
          clear BA BC
          go_wp2_with fail
          refine HSM.out.mono ?_
          rintro e w8 ⟨rfl, hb8⟩
          obtain ⟨i0, hi, hz0, hz1, hz2⟩ := info_parts Try.infoAnsw
          obtain ⟨YA8, YB8, YC8⟩ : AnswsAt w8 (.slice rA (oB ++ oC).length tA) (oB ++ oC) ∧ AnswsAt w8 (.slice rB oB.length tB) oB ∧ AnswsAt w8 (.slice rC oC.length tC) oC := ⟨HY.out.1.below hb8, HY.out.2.1.below hb8, HY.out.2.2.below hb8⟩
          have b10 := below_next b9 hb8
          rw [List.length_append] at ho8
          obtain ⟨psB, e1, s1, x1⟩ := YB8.pairs
          obtain ⟨psC, e2, s2, x2⟩ := YC8.pairs
          have hal : Below w8.heap.size w8 (w8.alloc (.cells #[] 40)) := by (repeat' (first | (with_reducible assumption) | (with_reducible exact Below.refl _ _) | (with_reducible refine below_drewN ?_ _) | (with_reducible refine Below.drew ?_) | (with_reducible refine Below.setCell ?_ ?_ _) | (with_reducible refine Below.alloc ?_ ?_ _) | (with_reducible refine below_putObj ?_ ?_ _) | (with_reducible exact Nat.le_refl _) | omega | (simp; done) | (simp; omega)))
          have SB := Lib.hid (s1.below hal)
          have SC := Lib.hid s2
          have LB : Hid ((psB.flatMap answC).length = oB.length * 9) := Lib.hid (by rw [flat_len answC 9 answC_len, ← e1, List.length_map])
          have LC : Hid ((psC.flatMap answC).length = oC.length * 9) := Lib.hid (by rw [flat_len answC 9 answC_len, ← e2, List.length_map])
          have OB := Lib.hid (answsRow_one x1)
          have OC := Lib.hid (answsRow_one x2)
          have XB := Lib.hid (And.intro e1 x1)
          have XC := Lib.hid (And.intro e2 x2)
          have HYA := Lib.hid YA8
          clear YA8 YB8 YC8 e1 e2 s1 s2 x1 x2 hal hb8 HY b9 HSM z0 z1 z2 z3 y0 y1 y2 y3
          go_wp2_with (at_builtin; refine wpList_append_slat (by rfl) _ _ 31 rfl w8.heap.size 40 i0 (.agg #[.int .i64 0, .int .i64 0, .int .u64 0, .int .u64 0, .int .u32 0, .string ⟨#[]⟩, .int .u32 0, .string ⟨#[]⟩, .slice none 0 0]) 9 104 Try.underlying31 hi hz0 hz1 hz2 rfl (by decide) _ _ _ _ rfl (World.ownsRow_made w8 #[] 0 (Nat.le_refl _) (Nat.zero_le _) rfl) _ _ _ rfl (SB.out) LB.out OB.out (by unfold maxLen; omega) (by omega) (by simp) ?_)
          intro g1 c1' w9 own1 gr1
          have own1 : w9.ownsRow w8.heap.size 40 9 (.slice (some ⟨g1, 0, none⟩) oB.length c1') oB.length (psB.flatMap answC) := by simpa using own1
          have hz9 : 0 + oB.length = oB.length := Nat.zero_add _
          try rw [hz9]
          clear hz9
          have hb89 : Below w8.heap.size w8 w9 := ((Below.refl _ w8).alloc (Nat.le_refl _) _).grown gr1 (by simp) (fun k hk => by simp only [Option.some.injEq] at hk; omega)
          have SC1 := Lib.hid (SC.out.below hb89)
          have OW1 := Lib.hid own1
          have BS1 := Lib.hid hb89.size
          have HB89 := Lib.hid hb89
          clear own1 gr1 hb89 SC SB LB OB
          go_wp2_with (at_builtin; refine wpList_append_slat (by rfl) _ _ 31 rfl w8.heap.size 40 i0 (.agg #[.int .i64 0, .int .i64 0, .int .u64 0, .int .u64 0, .int .u32 0, .string ⟨#[]⟩, .int .u32 0, .string ⟨#[]⟩, .slice none 0 0]) 9 104 Try.underlying31 hi hz0 hz1 hz2 rfl (by decide) _ _ _ _ rfl OW1.out _ _ _ rfl SC1.out LC.out OC.out (by unfold maxLen; omega) (by omega) BS1.out ?_)
          intro g2 c2' w10 own2 gr2
          have hb810 : Below w8.heap.size w8 w10 := HB89.out.grown gr2 HB89.out.size (fun k hk => by simp only [Option.some.injEq] at hk; have := (own_cap OW1.out).2.2.1; omega)
          have AN : AnswsAt w10 (.slice (some ⟨g2, 0, none⟩) (oB.length + oC.length) c2') (oB ++ oC) := by
            have o2 := own2
            rw [← List.flatMap_append] at o2
            refine ⟨psB ++ psC, by rw [List.map_append, XB.out.1, XC.out.1], ?_, fun p hp => ?_, TyAt.of_row own2⟩
            · rw [List.length_append]
              exact SlAt.of_row o2
            · rcases List.mem_append.1 hp with hp | hp
              · exact (XB.out.2 p hp).below hb810
              · exact (XC.out.2 p hp).below hb810
          have HAL := Lib.hid (answers_true (oB ++ oC) _ _ w10 (HYA.out.below hb810) AN (by rw [List.length_append]; omega) HSA.out)
          have b11 := below_next b10 hb810
          rw [List.length_append] at HAL
          clear own2 gr2 hb810 AN OW1 SC1 BS1 HB89 LC OC XB XC HYA HSA b10
          go_wp2_with fail
          refine HAL.out.mono ?_
          rintro e w11 ⟨rfl, hb11⟩
          have b12 := below_next b11 hb11
          go_wp2_with fail
          refine (HA.out _).mono ?_
          rintro e w12 ⟨rfl, hb12⟩
          have b13 := below_next b12 hb12
          go_wp2
          go_ret
          exact ⟨rfl, b13⟩
end Go.Proofs.Ytfcojhpnpfodeaa
