/- What is done of an answer: chunks, meta, info. -/
import Derived.Test.YtcmgecojhjdjkaaHelAns
import Derived.Test.YtcmgecojhjdjkaaTake
import Derived.Deep.AppendLies
namespace Go.Proofs.Ytcmgecojhjdjkaa
open Go.RowKit

/-- A worker behind a store into one of its own cells. -/
theorem Wrk.stored {W0 : World} {b : Nat} {K : Held} {w : World} {h h' : Hel} {out : List UInt8} {ao ak : Nat} {ad : List UInt8} {vw vm p v : Value}
    (h1 : Blk w b 43 (wrkC h vw vm p v ao ak ad)) (h2 : Rest W0 b K w h.want h.metas out vw vm p v) (i : Nat) (u : Value)
    (e : (wrkC h vw vm p v ao ak ad).setIfInBounds i u = wrkC h' vw vm p v ao ak ad) (ew : h'.want = h.want) (em : h'.metas = h.metas) : Wrk W0 b K (w.setCell ⟨b, i, none⟩ u) h' out ao ak ad :=
  ⟨vw, vm, p, v, (h1.set_ i u).as_ e, by rw [ew, em]; exact h2.set_ i u⟩

section
variable (W0 : World) (b : Nat) (K : Held) (w : World) (h : Hel) (out : List UInt8) (ao ak : Nat) (ad : List UInt8)

theorem wrk_cell11 {h : Hel} {vw vm p v : Value} (h1 : Blk w b 43 (wrkC h vw vm p v ao ak ad)) (ki : Int) (hki : (ak : Int) = ki) : w.cell? ⟨b, 11, none⟩ = some (.int .u32 ki) := by
  rw [h1.cell 11, ← hki]; rfl

set_option maxRecDepth 100000 in
set_option maxHeartbeats 2000000 in
theorem chunks_any (hwl : h.want.length ≤ 100) (hwq : ∀ x ∈ h.want, x.length ≤ 20000) (ho : out.length ≤ 100000000000) (hw : Wrk W0 b K w h out ao ak ad) :
    Calls Try.prog 21 #[.pointer (some ⟨b, 0, none⟩)] w (MEnds W0 b K (h.doChunks ak).1 (out ++ (h.doChunks ak).2) ao ak ad) := by
  have HQ := Lib.hid hwq
  clear hwq
  obtain ⟨a1, q1, a2, q2, p, a3, q3, h1, h2⟩ := hw.open_
  obtain ⟨ki, hki⟩ : ∃ ki : Int, (ak : Int) = ki := ⟨_, rfl⟩
  have c6 := h1.cell 6
  have f6 := h1.frozen 6
  have c11 := wrk_cell11 b w ao ak ad h1 ki hki
  unfold wrkC at c6
  simp only [List.getElem?_toArray, List.getElem?_cons_zero, List.getElem?_cons_succ] at c6
  have hsl := h2.wantAt
  have H0 := Lib.hid (And.intro h1 h2)
  have HS := Lib.hid hsl
  have HKI := Lib.hid hki
  by_cases hk1 : ak = 1
  · have e1 : (ki == 1) = true := by rw [← hki, beq_iff_eq]; omega
    have b1 := h1.set_ 6 (.bool true)
    have d2 := b1.cell 2
    have d6 := b1.cell 6
    have d11 : (w.setCell ⟨b, 6, none⟩ (.bool true)).cell? ⟨b, 11, none⟩ = some (.int .u32 ki) := by rw [b1.cell 11, ← hki]; rfl
    have hw2 := Wrk.stored (h' := { h with chunks := true }) h1 h2 6 (.bool true) (by simp [wrkC]) rfl rfl
    have HW := Lib.hid hw2
    have HS2 := Lib.hid (h2.set_ 6 (.bool true)).wantAt
    clear h1 h2 hw hw2 hki b1
    unfold wrkC at d2 d6
    simp only [List.getElem?_toArray, List.getElem?_cons_zero, List.getElem?_cons_succ, List.setIfInBounds_toArray, List.set_cons_succ, List.set_cons_zero] at d2 d6
    by_cases hn : h.want = []
    · have l0 : ¬ (0 : Int) < (h.want.length : Int) := by rw [hn]; simp
      have HX : Hid (h.doChunks ak = Hel.askGo { h with chunks := true }) := Lib.hid (by unfold Hel.doChunks; rw [if_pos hk1, if_pos hn])
      rw [HX.out]
      clear HX hn hk1
      go_enter Try.func21, Try.ntmps21
      go_wp2_with fail
      refine (askGo_any W0 b K _ _ out ao ak ad ho HW.out).mono ?_
      rintro e w5 ⟨rfl, hw5⟩
      go_wp2
      go_end0
      exact ⟨rfl, hw5⟩
    · have l0 : (0 : Int) < (h.want.length : Int) := by
        have : h.want.length ≠ 0 := by simpa using hn
        omega
      have HX : Hid (h.doChunks ak = Hel.ask { h with chunks := true } 10 (metaB h.want) 2) := Lib.hid (by unfold Hel.doChunks; rw [if_pos hk1, if_neg hn])
      rw [HX.out]
      clear HX hn hk1
      go_enter Try.func21, Try.ntmps21
      go_wp2_with fail
      refine (meta_any _ h.want _ HS2.out hwl HQ.out).mono ?_
      rintro e w5 ⟨rfl, hb5⟩
      have hw5 := HW.out.below hb5
      clear hb5 d2 d6 d11
      have HK := Lib.hid (ask_any W0 b K _ _ out ao ak ad 10 10 rfl (metaB h.want) 2 2 rfl (by decide) ho hw5)
      clear hw5
      go_wp2_with fail
      refine HK.out.mono ?_
      rintro e w6 ⟨rfl, hw6⟩
      go_wp2
      go_end0
      exact ⟨rfl, hw6⟩
  · have e1 : (ki == 1) = false := by rw [← hki, beq_eq_false_iff_ne]; omega
    have b1 := h1.set_ 6 (.bool false)
    have d6 := b1.cell 6
    have d10 := b1.cell 10
    have d11 : (w.setCell ⟨b, 6, none⟩ (.bool false)).cell? ⟨b, 11, none⟩ = some (.int .u32 ki) := by rw [b1.cell 11, ← hki]; rfl
    have hw2 := Wrk.stored (h' := { h with chunks := false }) h1 h2 6 (.bool false) (by simp [wrkC]) rfl rfl
    have HW := Lib.hid hw2
    clear h1 h2 hw hw2 b1
    unfold wrkC at d6 d10
    simp only [List.getElem?_toArray, List.getElem?_cons_zero, List.getElem?_cons_succ, List.setIfInBounds_toArray, List.set_cons_succ, List.set_cons_zero] at d6 d10
    by_cases hk2 : 2147483648 ≤ ak
    · have l2 : (2147483648 : Int) ≤ ki := by omega
      have HX : Hid (h.doChunks ak = Hel.askGo { h with chunks := false }) := Lib.hid (by unfold Hel.doChunks; rw [if_neg hk1, if_pos hk2])
      rw [HX.out]
      clear HX hk1 hk2 hki
      go_enter Try.func21, Try.ntmps21
      go_wp2_with fail
      refine (askGo_any W0 b K _ _ out ao ak ad ho HW.out).mono ?_
      rintro e w5 ⟨rfl, hw5⟩
      go_wp2
      go_end0
      exact ⟨rfl, hw5⟩
    · have l2 : ¬ (2147483648 : Int) ≤ ki := by omega
      have HX : Hid (h.doChunks ak = (Hel.die { h with chunks := false }, [])) := Lib.hid (by unfold Hel.doChunks; rw [if_neg hk1, if_neg hk2])
      rw [HX.out]
      clear HX hk1 hk2 hki
      go_enter Try.func21, Try.ntmps21
      go_wp2_with fail
      refine (die_any W0 b K _ _ out ao ak ad HW.out).mono ?_
      rintro e w5 ⟨rfl, hw5⟩
      go_wp2
      go_end0
      exact ⟨rfl, by rw [List.append_nil]; exact hw5⟩

theorem take4_cases (d : List UInt8) (hd : d.length ≤ 9223372036854775807) : ∃ (n : Nat) (nm : List UInt8) (e : Int), (∀ W, Calls Try.prog 30 #[.string ⟨d.toArray⟩, .int .i64 4] W (Gives (.tuple #[.int .u64 n, .string ⟨nm.toArray⟩, .int .i64 e]) W)) ∧
    ((4 ≤ d.length ∧ n = de (d.take 4) ∧ nm = d.drop 4 ∧ e = 0) ∨ (d.length < 4 ∧ e = 22)) := by
  by_cases h : 4 ≤ d.length
  · exact ⟨_, _, _, fun W => take_int d 4 (by decide) (by decide) h hd W, .inl ⟨h, rfl, rfl, rfl⟩⟩
  · exact ⟨_, _, _, fun W => take_short_int d 4 (by decide) (by decide) (by show d.length < 4; omega) W, .inr ⟨by omega, rfl⟩⟩

theorem MetaIn.of_row {B' b : Nat} {w : World} {v : Value} {l : List (Nat × List UInt8)} (h : w.ownsRow B' 48 2 v l.length (cellsM l)) (hb : b < B') : MetaIn w b v l := by
  refine ⟨SlAt.of_row h, fun g hg => ?_⟩
  rcases h.2 with ⟨hv, _⟩ | ⟨g', cap, cur, hv, hB, hgb, _⟩
  · rw [hv] at hg; simp [Value.ownBlock] at hg
  · rw [hv] at hg
    obtain rfl : g' = g := by simpa [Value.ownBlock] using hg
    exact ⟨by omega, cur, hgb⟩
theorem Wrk.metasSet {W0 : World} {b : Nat} {K : Held} {w : World} {h : Hel} {out : List UInt8} {ao ak : Nat} {ad : List UInt8} {vw vm p v : Value} {l : List (Nat × List UInt8)} {u : Value}
    (h1 : Blk w b 43 (wrkC h vw vm p v ao ak ad)) (h2 : Rest W0 b K w h.want h.metas out vw vm p v) (h3 : MetaIn w b u l) : Wrk W0 b K (w.setCell ⟨b, 7, none⟩ u) { h with metas := l } out ao ak ad := by
  refine ⟨vw, u, p, v, (h1.set_ 7 u).as_ (by simp [wrkC]), ?_⟩
  have h4 : Rest W0 b K w h.want l out vw u p v := { h2 with metas := h3 }
  exact h4.set_ 7 u
theorem metaIn_nil (w : World) (b : Nat) : MetaIn w b (.slice none 0 0) [] := ⟨.inl ⟨rfl, rfl, rfl⟩, fun g hg => by simp [Value.ownBlock] at hg⟩
theorem cellsM_snoc (l : List (Nat × List UInt8)) (x : Nat × List UInt8) : cellsM (l ++ [x]) = cellsM l ++ [.int .u32 x.1, .string ⟨x.2.toArray⟩] := by simp [cellsM]

set_option maxRecDepth 100000 in
set_option maxHeartbeats 2000000 in
theorem doMeta_any (hwl : h.want.length ≤ 100) (hml : h.metas.length ≤ 1000000) (hd : ad.length ≤ 9223372036854775807) (ho : out.length ≤ 100000000000) (hw : Wrk W0 b K w h out ao ak ad) :
    Calls Try.prog 22 #[.pointer (some ⟨b, 0, none⟩)] w (MEnds W0 b K (h.doMeta ak ad).1 (out ++ (h.doMeta ak ad).2) ao ak ad) := by
  obtain ⟨n, nm, x, hT, hx⟩ := take4_cases ad hd
  have HT := Lib.hid hT
  clear hT
  have c12 : w.cell? ⟨b, 12, none⟩ = some (.string ⟨ad.toArray⟩) := by obtain ⟨_, _, _, _, _, _, _, h1, _⟩ := hw.open_; exact h1.cell 12
  have HW := Lib.hid hw
  clear hw
  obtain ⟨ki, hki⟩ : ∃ ki : Int, (ak : Int) = ki := ⟨_, rfl⟩
  have HKI := Lib.hid hki
  by_cases hk4 : ak = 4
  · have e1 : (ki == 4) = true := by rw [← hki, beq_iff_eq]; omega
    have e1' : (ki == 1) = false := by rw [← hki, beq_eq_false_iff_ne]; omega
    have l2 : ¬ (2147483648 : Int) ≤ ki := by omega
    clear hki
    rcases hx with ⟨hl, hn, hnm, rfl⟩ | ⟨hl, rfl⟩
    · have HL := Lib.hid hl
      have HNM := Lib.hid hnm
      have HNN := Lib.hid hn
      have HK4 := Lib.hid hk4
      clear hl hnm hn hk4
      go_enter Try.func22, Try.ntmps22
      go_wp2_with fail
      refine (HT.out _).mono ?_
      rintro e w1 ⟨rfl, hb1⟩
      have hw1 := HW.out.below hb1
      obtain ⟨a1, q1, a2, q2, p, a3, q3, h1, h2⟩ := hw1.open_
      have d11 := wrk_cell11 b w1 ao ak ad h1 ki HKI.out
      have d2 := h1.cell 2
      have HS := Lib.hid h2.wantAt
      unfold wrkC at d2
      simp only [List.getElem?_toArray, List.getElem?_cons_zero, List.getElem?_cons_succ] at d2
      clear h1 h2 hb1 c12
      go_wp2_with fail
      refine (contains_strs _ h.want nm _ HS.out (by omega)).mono ?_
      rintro e w2 ⟨r, rfl, hr, hb2⟩
      have hw2 := hw1.below hb2
      clear hb2 hw1 d11 d2 HS
      cases r with
      | false =>
        have HX : Hid (h.doMeta ak ad = (h.die, [])) := Lib.hid (by unfold Hel.doMeta; rw [if_neg (by rintro ⟨_, _, h3⟩; rw [← HNM.out, ← hr] at h3; cases h3), if_neg (by have := HK4.out; omega), if_neg (by have := HK4.out; omega)])
        obtain ⟨a1, q1, a2, q2, p, a3, q3, h1, h2⟩ := hw2.open_
        have d11 := wrk_cell11 b w2 ao ak ad h1 ki HKI.out
        clear hr h1 h2
        go_wp2_with fail
        refine (die_any W0 b K _ _ out ao ak ad hw2).mono ?_
        rintro e w5 ⟨rfl, hw5⟩
        go_wp2
        go_end0
        exact ⟨rfl, by rw [HX.out, List.append_nil]; exact hw5⟩
      | true =>
        obtain ⟨i0, hi, hz0, hz1, hz2⟩ := info_parts Try.infoMeta
        have hn32 := de_lt (ad.take 4)
        have hwr : IntKind.u32.wrap (n : Int) = (n : Int) := by
          rw [HNN.out]
          rw [List.length_take] at hn32
          have h4 : min 4 ad.length = 4 := by have := HL.out; omega
          rw [h4] at hn32
          simp [IntKind.wrap, IntKind.signed, IntKind.bits]; omega
        have HX : Hid (h.doMeta ak ad = ({ h with metas := h.metas ++ [(n, nm)] }, [])) := Lib.hid (by unfold Hel.doMeta; rw [if_pos ⟨HK4.out, HL.out, by rw [← HNM.out]; exact hr.1 rfl⟩, HNN.out, HNM.out])
        obtain ⟨a1, q1, a2, q2, p, a3, q3, h1, h2⟩ := hw2.open_
        have d7 := h1.cell 7
        have f7 := h1.frozen 7
        have HM := Lib.hid h2.metas.1
        have HB := Lib.hid (And.intro h1 h2)
        unfold wrkC at d7
        simp only [List.getElem?_toArray, List.getElem?_cons_zero, List.getElem?_cons_succ] at d7
        clear hr h1 h2 hw2 hn32
        go_wp2_with fail
        refine (clone_metas _ h.metas.length (cellsM h.metas) _ HM.out (by omega) (cellsM_length _) (cellsM_one _)).mono ?_
        rintro e w3 ⟨v3, rfl, hown, hb3⟩
        have own3 := hown.alloc (.cells #[.int .u32 (n : Nat), .string ⟨nm.toArray⟩] 48)
        have s3 := hb3.size
        have g3 := d7
        have B3 := Lib.hid hb3
        clear hown HM
        have c7 := cell_keepS d7 hb3
        have f7' : w3.frozen? ⟨b, 7, none⟩ = false := by rw [hb3.frozen (p := ⟨b, 7, none⟩) (World.block_lt_of_cell? _ _ d7)]; exact f7
        clear d7 f7 g3 hb3
        go_wp2_with (at_builtin; refine wpList_append_own _ rfl _ _ 26 rfl w2.heap.size 48 i0 _ 2 24 Try.underlying26 hi hz0 hz1 hz2 rfl (by decide) _ _ _ rfl own3 ⟨w3.heap.size, 0, none⟩ 1 1 [.int .u32 (n : Nat), .string ⟨nm.toArray⟩] rfl rfl ?c1 ?c2 ?c3 ?c4 ?c5 ?_)
        case c1 => exact World.news_of_block (heap_alloc_new w3 _)
        case c2 => intro u hu; simp at hu; rcases hu with rfl | rfl <;> rfl
        case c3 => unfold maxLen; omega
        case c4 => omega
        case c5 => simp; omega
        intro v' w4 hown' hgrow _
        have b4 := (B3.out.alloc s3 (.cells #[.int .u32 (n : Nat), .string ⟨nm.toArray⟩] 48)).grown hgrow (by simp; omega) (fun k hk => (own3.lt k hk).1)
        have hcl : cellsM h.metas ++ [.int .u32 (n : Nat), .string ⟨nm.toArray⟩] = cellsM (h.metas ++ [(n, nm)]) := (cellsM_snoc h.metas (n, nm)).symm
        rw [hcl] at hown'
        have k1 := HB.out.1.below b4 HB.out.1.lt
        have k2 := HB.out.2.below b4
        have c7 := k1.cell 7
        have f7 := k1.frozen 7
        have HN := Lib.hid (Wrk.metasSet k1 k2 (MetaIn.of_row (l := h.metas ++ [(n, nm)]) (by rw [List.length_append]; exact hown') HB.out.1.lt))
        unfold wrkC at c7
        simp only [List.getElem?_toArray, List.getElem?_cons_zero, List.getElem?_cons_succ] at c7
        obtain ⟨ad4, cap4, rfl⟩ := (SlAt.of_row hown').form
        clear hown' hgrow own3 B3 k1 k2 b4 hcl
        go_wp2
        go_end0
        exact ⟨rfl, by rw [HX.out, List.append_nil]; exact HN.out⟩
    · have HX : Hid (h.doMeta ak ad = (h.die, [])) := Lib.hid (by unfold Hel.doMeta; rw [if_neg (by omega), if_neg (by omega), if_neg (by omega)])
      rw [HX.out]
      clear HX hk4 hl
      go_enter Try.func22, Try.ntmps22
      go_wp2_with fail
      refine (HT.out _).mono ?_
      rintro e w1 ⟨rfl, hb1⟩
      have hw1 := HW.out.below hb1
      obtain ⟨a1, q1, a2, q2, p, a3, q3, h1, h2⟩ := hw1.open_
      have d11 := wrk_cell11 b w1 ao ak ad h1 ki HKI.out
      clear h1 h2 hb1 c12
      go_wp2_with fail
      refine (die_any W0 b K _ _ out ao ak ad hw1).mono ?_
      rintro e w5 ⟨rfl, hw5⟩
      go_wp2
      go_end0
      exact ⟨rfl, by rw [List.append_nil]; exact hw5⟩
  · have e1 : (ki == 4) = false := by rw [← hki, beq_eq_false_iff_ne]; omega
    by_cases hk1 : ak = 1
    · have e1' : (ki == 1) = true := by rw [← hki, beq_iff_eq]; omega
      clear hx hki
      have HX : Hid (h.doMeta ak ad = h.askGo) := Lib.hid (by unfold Hel.doMeta; rw [if_neg (by omega), if_pos hk1])
      rw [HX.out]
      clear HX hk4 hk1
      go_enter Try.func22, Try.ntmps22
      go_wp2_with fail
      refine (HT.out _).mono ?_
      rintro e w1 ⟨rfl, hb1⟩
      have hw1 := HW.out.below hb1
      obtain ⟨a1, q1, a2, q2, p, a3, q3, h1, h2⟩ := hw1.open_
      have d11 := wrk_cell11 b w1 ao ak ad h1 ki HKI.out
      clear h1 h2 hb1 c12
      go_wp2_with fail
      refine (askGo_any W0 b K _ _ out ao ak ad ho hw1).mono ?_
      rintro e w5 ⟨rfl, hw5⟩
      go_wp2
      go_end0
      exact ⟨rfl, hw5⟩
    · have e1' : (ki == 1) = false := by rw [← hki, beq_eq_false_iff_ne]; omega
      by_cases hk2 : 2147483648 ≤ ak
      · have l2 : (2147483648 : Int) ≤ ki := by omega
        clear hx hki
        have HX : Hid (h.doMeta ak ad = Hel.askGo { h with metas := [] }) := Lib.hid (by unfold Hel.doMeta; rw [if_neg (by omega), if_neg hk1, if_pos hk2])
        rw [HX.out]
        clear HX hk4 hk1 hk2
        go_enter Try.func22, Try.ntmps22
        go_wp2_with fail
        refine (HT.out _).mono ?_
        rintro e w1 ⟨rfl, hb1⟩
        have hw1 := HW.out.below hb1
        obtain ⟨a1, q1, a2, q2, p, a3, q3, h1, h2⟩ := hw1.open_
        have d11 := wrk_cell11 b w1 ao ak ad h1 ki HKI.out
        have d7 := h1.cell 7
        have f7 := h1.frozen 7
        have HN := Lib.hid (Wrk.metasSet h1 h2 (metaIn_nil _ _))
        unfold wrkC at d7
        simp only [List.getElem?_toArray, List.getElem?_cons_zero, List.getElem?_cons_succ] at d7
        clear h1 h2 hb1 c12 hw1
        go_wp2_with fail
        refine (askGo_any W0 b K _ _ out ao ak ad ho HN.out).mono ?_
        rintro e w5 ⟨rfl, hw5⟩
        go_wp2
        go_end0
        exact ⟨rfl, hw5⟩
      · have l2 : ¬ (2147483648 : Int) ≤ ki := by omega
        clear hx hki
        have HX : Hid (h.doMeta ak ad = (h.die, [])) := Lib.hid (by unfold Hel.doMeta; rw [if_neg (by omega), if_neg hk1, if_neg hk2])
        rw [HX.out]
        clear HX hk4 hk1 hk2
        go_enter Try.func22, Try.ntmps22
        go_wp2_with fail
        refine (HT.out _).mono ?_
        rintro e w1 ⟨rfl, hb1⟩
        have hw1 := HW.out.below hb1
        obtain ⟨a1, q1, a2, q2, p, a3, q3, h1, h2⟩ := hw1.open_
        have d11 := wrk_cell11 b w1 ao ak ad h1 ki HKI.out
        clear h1 h2 hb1 c12
        go_wp2_with fail
        refine (die_any W0 b K _ _ out ao ak ad hw1).mono ?_
        rintro e w5 ⟨rfl, hw5⟩
        go_wp2
        go_end0
        exact ⟨rfl, by rw [List.append_nil]; exact hw5⟩
end
end Go.Proofs.Ytcmgecojhjdjkaa
