/- nego's metas: what is said of contexts. -/
import Derived.Test.YteljplpiojdikaaNegWant
import Derived.Test.YteljplpiojdikaaNegToMeta
namespace Go.Proofs.Yteljplpiojdikaa
open Go.RowKit

theorem doCtxs_nil (o : Nat) (q : List (List UInt8)) (k : Nat) : Neg.doCtxs o q k [] = ([], []) := rfl
theorem doCtxs_yes (o : Nat) (q : List (List UInt8)) (k : Nat) (c : List UInt8) (l : List (List UInt8)) (h : wantedC o c q = true) :
    (Neg.doCtxs o q k (c :: l)).1 = (k + 1) :: (Neg.doCtxs o q (k + 1) l).1 ∧ (Neg.doCtxs o q k (c :: l)).2 = sayB o 4 (be 4 (k + 1) ++ c) ++ (Neg.doCtxs o q (k + 1) l).2 := by
  rw [Neg.doCtxs]
  rw [if_pos h]
  exact ⟨rfl, rfl⟩
theorem doCtxs_no (o : Nat) (q : List (List UInt8)) (k : Nat) (c : List UInt8) (l : List (List UInt8)) (h : wantedC o c q = false) :
    Neg.doCtxs o q k (c :: l) = Neg.doCtxs o q (k + 1) l := by
  rw [Neg.doCtxs]
  rw [if_neg (by rw [h]; simp)]
theorem doCtxs_count (o : Nat) (q : List (List UInt8)) (k : Nat) (l : List (List UInt8)) : (Neg.doCtxs o q k l).1.length ≤ l.length := by
  induction l generalizing k with
  | nil => simp [Neg.doCtxs]
  | cons c l ih =>
    have := ih (k + 1)
    cases h : wantedC o c q with
    | true => rw [(doCtxs_yes o q k c l h).1]; simp; omega
    | false => rw [doCtxs_no o q k c l h]; simp; omega
theorem contexts_58 (maps : List (List UInt8)) : ∀ c ∈ contextsL maps, 58 ∈ c := by
  intro c hc
  rcases List.mem_cons.1 hc with rfl | hc
  · decide
  · obtain ⟨q, _, rfl⟩ := List.mem_map.1 hc
    exact List.mem_append_left _ (by decide)
theorem contexts_len (maps : List (List UInt8)) (hq : ∀ q ∈ maps, q.length ≤ 1000) : ∀ c ∈ contextsL maps, c.length ≤ 2000 := by
  intro c hc
  rcases List.mem_cons.1 hc with rfl | hc
  · decide
  · obtain ⟨q, h, rfl⟩ := List.mem_map.1 hc
    have := hq q h
    have h2 : dirtyPre.length = 18 := rfl
    rw [List.length_append]
    omega
theorem Try.infoU32 : (Try.prog.info? 35).map (fun i => (i.zero, i.size, i.bytes)) = some (some (.int .u32 0), 1, 4) := by kernel_rfl
/-- A row of texts, by the blocks that hold it. -/
theorem own_held {w : World} {B n : Nat} {v : Value} {xs : List Value} (h : w.ownsRow B 9 1 v n xs) : ∃ L : List (Nat × TypeId × Array Value),
    (∀ x ∈ L, Blk w x.1 x.2.1 x.2.2 ∧ x.2.1 = 9 ∧ B ≤ x.1) ∧ ∀ W : World, (∀ x ∈ L, Blk W x.1 x.2.1 x.2.2) → SlAt W v n xs := by
  rcases h.2 with ⟨hv, h0⟩ | ⟨g, cap, cur, hv, hB, hg, r⟩
  · have hl := h.1
    rw [h0, Nat.zero_mul, List.length_eq_zero_iff] at hl
    exact ⟨[], by simp, fun W _ => .inl ⟨hv, h0, hl⟩⟩
  · refine ⟨[(g, 9, cur)], fun x hx => ?_, fun W hW => SlAt.of_row (B := B) (e := 9) (sz := 1) ⟨h.1, .inr ⟨g, cap, cur, hv, hB, hW (g, 9, cur) (by simp), r⟩⟩⟩
    simp only [List.mem_singleton] at hx
    subst hx
    exact ⟨hg, rfl, hB⟩
section
variable {W0 : World} {b : Nat} {B : Nat} {bl : List (Nat × TypeId × Array Value)} {sz : Nat} {maps : List (List UInt8)} {w w' : World} {n : Neg} {out : List UInt8} {ok : Nat} {od : List UInt8}
theorem NWrk.hold (h : NWrk W0 b ⟨B, bl⟩ sz maps w n out ok od) (L : List (Nat × TypeId × Array Value)) (hL : ∀ x ∈ L, Blk w x.1 x.2.1 x.2.2 ∧ x.1 ≠ b ∧ x.2.1 ≠ 5 ∧ x.2.1 ≠ 35) : NWrk W0 b ⟨B, L ++ bl⟩ sz maps w n out ok od := by
  obtain ⟨vm, vx, p, v, h1, h2⟩ := h
  refine ⟨vm, vx, p, v, h1, ⟨h2.bld, h2.metas, h2.maps, h2.grown, fun x hx => ?_, h2.hb⟩⟩
  rcases List.mem_append.1 hx with hx | hx
  · exact hL x hx
  · exact h2.kept x hx
theorem NWrk.drop {L : List (Nat × TypeId × Array Value)} (h : NWrk W0 b ⟨B, L⟩ sz maps w n out ok od) (hs : ∀ x ∈ bl, x ∈ L) : NWrk W0 b ⟨B, bl⟩ sz maps w n out ok od := by
  obtain ⟨vm, vx, p, v, h1, h2⟩ := h
  exact ⟨vm, vx, p, v, h1, ⟨h2.bld, h2.metas, h2.maps, h2.grown, fun x hx => h2.kept x (hs x hx), h2.hb⟩⟩
theorem NWrk.held {K : Held} (h : NWrk W0 b K sz maps w n out ok od) {x : Nat × TypeId × Array Value} (hx : x ∈ K.blocks) : Blk w x.1 x.2.1 x.2.2 := by
  obtain ⟨vm, vx, p, v, h1, h2⟩ := h
  exact (h2.kept x hx).1
/-- The contexts' row has grown. -/
theorem Rest.grown_ {K : Held} {metas l' : List Nat} {vm vx p v v' : Value} (h : Rest W0 b K w maps metas out vm vx p v) {cs : Array Value} (h1 : Blk w b 64 cs) (hg : w.grownBy w' vm.ownBlock) (hB : W0.heap.size ≤ K.base)
    (hown : w'.ownsRow K.base 35 1 v' l'.length (cellsU l')) : Blk w' b 64 cs ∧ Rest W0 b K w' maps l' out v' vx p v := by
  have hne : ∀ g t cs, Blk w g t cs → t ≠ 35 → vm.ownBlock ≠ some g := by
    intro g t cs h3 ht e
    obtain ⟨_, cs', h4⟩ := own_typed h.metas.1 g e
    have := (show w.heap[g]? = _ from h3).symm.trans h4
    simp at this
    exact ht this.2
  have hk : ∀ g t cs, Blk w g t cs → t ≠ 35 → Blk w' g t cs := fun g t cs h3 ht => (hg.block g h3.lt (fun e => hne g t cs h3 ht e.symm)).trans h3
  have hb1 := hk b _ _ h1 (by decide)
  refine ⟨hb1, ⟨h.bld.kept hg ?_, ⟨hown, ?_⟩, h.maps, h.grown.grown hg h.grown.size (fun k hk2 => Nat.le_trans hB (own_typed h.metas.1 k hk2).1), fun x hx => ⟨hk _ _ _ (h.kept x hx).1 (h.kept x hx).2.2.2, (h.kept x hx).2⟩, h.hb⟩⟩
  · rcases hv : v.ownBlock with _ | g
    · exact .inl rfl
    · right
      rcases h.bld.own.2 with ⟨hv2, _⟩ | ⟨g', cap, cur, hv2, _, hgb, _⟩
      · rw [hv2] at hv; simp [Value.ownBlock] at hv
      · rw [hv2] at hv
        obtain rfl : g' = g := by simpa [Value.ownBlock] using hv
        intro e
        exact hne g' _ _ hgb (by decide) e.symm
  · rintro g hg2 rfl
    obtain ⟨_, cs', h4⟩ := own_typed hown g hg2
    have := (show w'.heap[g]? = _ from hb1).symm.trans h4
    simp at this
theorem NWrk.metasSet {K : Held} {l' : List Nat} {vm v' vx p v : Value} (h1 : Blk w b 64 (nwC n sz vm vx p v ok od)) (h2 : Rest W0 b K w maps l' out v' vx p v) :
    NWrk W0 b K sz maps (w.setCell ⟨b, 4, none⟩ v') { n with metas := l' } out ok od :=
  ⟨v', vx, p, v, (h1.set_ 4 _).as_ (by simp [nwC]), h2.set_ 4 _⟩
end

theorem drop_at {α : Type} (l : List α) (k : Nat) (x : α) (h : l[k]? = some x) : l.drop k = x :: l.drop (k + 1) := by
  obtain ⟨h1, h2⟩ := List.getElem?_eq_some_iff.1 h
  rw [← h2, List.drop_eq_getElem_cons h1]

section
variable (W0 : World) (b : Nat) (bl : List (Nat × TypeId × Array Value)) (sz : Nat) (maps : List (List UInt8)) (w : World) (n : Neg) (out : List UInt8) (od : List UInt8)

set_option maxRecDepth 100000 in
set_option maxHeartbeats 4000000 in
theorem metas_lists (hod : od.length ≤ 1000000) (hml : maps.length ≤ 1000) (hmq : ∀ q ∈ maps, q.length ≤ 1000) (ho : out.length ≤ 1000000000) (hw : NWrk W0 b ⟨0, bl⟩ sz maps w n out 9 od) :
    Calls Try.prog 55 #[.pointer (some ⟨b, 0, none⟩)] w (MEnds W0 b ⟨0, bl⟩ sz maps (n.doMetas maps 9 od).1 (out ++ (n.doMetas maps 9 od).2) 9 od) := by
  have mixed : Try.prog.follows .mixedOrders = true := by kernel_rfl
  have HT := Lib.hid (fun W => toMeta_any od hod W)
  obtain ⟨n0, hn0⟩ : ∃ n0 : Neg, n0 = (if 9 = 10 then { n with metas := [] } else n) := ⟨_, rfl⟩
  obtain ⟨B, hB⟩ : ∃ B : Nat, B = 0 := ⟨_, rfl⟩
  have hD : n.doMetas maps 9 od = match readMeta od with | none => (n0, sayB 9 2147483651 []) | some (name, queries) => if n.chunks = false then (n0, sayB 9 2147483651 []) else if 8 < queries.length then (n0, sayB 9 2147483657 []) else if ours name = false then (n0, sayB 9 2147483654 []) else ({ n0 with metas := n0.metas }, (Neg.doCtxs 9 queries 0 (contextsL maps)).2 ++ sayB 9 1 []) := by
    unfold Neg.doMetas
    rw [← hn0]
    cases readMeta od with
    | none => rfl
    | some x => rfl
  have HD := Lib.hid hD
  generalize n.doMetas maps 9 od = D at HD ⊢
  clear hD
  have hnc : n0.chunks = n.chunks := by rw [hn0]; rfl
  have HNC := Lib.hid hnc
  obtain ⟨vm, vx, p, v, h1, h2⟩ := hw
  have c7 : w.cell? ⟨b, 7, none⟩ = some (.int .u32 9) := h1.cell 7
  have c8 := h1.cell 8
  have c4 := h1.cell 4
  have f4 := h1.frozen 4
  unfold nwC at c8 c4
  simp only [List.getElem?_toArray, List.getElem?_cons_zero, List.getElem?_cons_succ] at c8 c4
  obtain ⟨vma, vmc, rfl⟩ := h2.metas.form
  have HN : Hid (NWrk W0 b ⟨B, bl⟩ sz maps w n0 out 9 od) := Lib.hid (by rw [hn0, hB]; exact ⟨_, _, _, _, h1, h2⟩)
  have HB := Lib.hid hB
  clear h1 h2 hn0 hnc hB
  go_enter Try.func55, Try.ntmps55
  go_wp2_with fail
  refine (HT.out _).mono ?_
  rintro e w1 ⟨nm, v, ql, x, rfl, hown, hb1, hc⟩
  have hw1 := HN.out.below hb1
  obtain ⟨qa, qc, rfl⟩ := (SlAt.of_row hown).form
  have HQ := Lib.hid hown
  have HBQ : Hid (b < (w).heap.size) := Lib.hid (by obtain ⟨_, _, _, _, h1, _⟩ := HN.out; exact h1.lt)
  clear hown hb1 c7 c8 c4 f4 HN HT
  rcases hc with ⟨hr, rfl, rfl, rfl⟩ | ⟨hr, rfl⟩
  · have HX : Hid (D = (n0, sayB 9 2147483651 [])) := Lib.hid (by rw [HD.out, hr])
    clear hr
    go_wp2_with fail
    refine (say_any W0 b ⟨B, bl⟩ sz maps _ n0 out 9 od 2147483651 2147483651 rfl [] (by decide) (by decide) (by omega) hw1).mono ?_
    rintro e w2 ⟨rfl, hw2⟩
    go_wp2
    go_end0
    exact ⟨rfl, by rw [HX.out]; exact hw2.rebase (Nat.zero_le _)⟩
  · obtain ⟨ch, hch⟩ : ∃ ch, n0.chunks = ch := ⟨_, rfl⟩
    have c3 : w1.cell? ⟨b, 3, none⟩ = some (.bool ch) := by obtain ⟨_, _, _, _, h1, _⟩ := hw1; rw [← hch]; exact h1.cell 3
    have HCH := Lib.hid hch
    clear hch
    cases ch with
    | false =>
      have HX : Hid (D = (n0, sayB 9 2147483651 [])) := Lib.hid (by rw [HD.out, hr]; dsimp only; rw [if_pos (by rw [← HNC.out]; exact HCH.out)])
      clear hr
      go_wp2_with fail
      refine (say_any W0 b ⟨B, bl⟩ sz maps _ n0 out 9 od 2147483651 2147483651 rfl [] (by decide) (by decide) (by omega) hw1).mono ?_
      rintro e w2 ⟨rfl, hw2⟩
      go_wp2
      go_end0
      exact ⟨rfl, by rw [HX.out]; exact hw2.rebase (Nat.zero_le _)⟩
    | true =>
      have hne : ¬ n.chunks = false := by rw [← HNC.out, HCH.out]; simp
      by_cases h8 : 8 < ql.length
      · have l8 : (8 : Int) < (ql.length : Int) := by omega
        have HX : Hid (D = (n0, sayB 9 2147483657 [])) := Lib.hid (by rw [HD.out, hr]; dsimp only; rw [if_neg hne, if_pos h8])
        clear hr h8 hne
        go_wp2_with fail
        refine (say_any W0 b ⟨B, bl⟩ sz maps _ n0 out 9 od 2147483657 2147483657 rfl [] (by decide) (by decide) (by omega) hw1).mono ?_
        rintro e w2 ⟨rfl, hw2⟩
        go_wp2
        go_end0
        exact ⟨rfl, by rw [HX.out]; exact hw2.rebase (Nat.zero_le _)⟩
      · have l8 : ¬ (8 : Int) < (ql.length : Int) := by omega
        have HO := Lib.hid (fun W => ours_any W ⟨b, 0, none⟩ nm)
        cases hou : ours nm with
        | false =>
          rw [hou] at HO
          have HX : Hid (D = (n0, sayB 9 2147483654 [])) := Lib.hid (by rw [HD.out, hr]; dsimp only; rw [if_neg hne, if_neg h8, if_pos hou])
          clear hr h8 hne hou
          go_wp2_with fail
          refine (HO.out _).mono ?_
          rintro e w1' ⟨rfl, rfl⟩
          go_wp2_with fail
          refine (say_any W0 b ⟨B, bl⟩ sz maps _ n0 out 9 od 2147483654 2147483654 rfl [] (by decide) (by decide) (by omega) hw1).mono ?_
          rintro e w2 ⟨rfl, hw2⟩
          go_wp2
          go_end0
          exact ⟨rfl, by rw [HX.out]; exact hw2.rebase (Nat.zero_le _)⟩
        | true =>
          rw [hou] at HO
          have HX : Hid (D = ({ n0 with metas := n0.metas }, (Neg.doCtxs 9 ql 0 (contextsL maps)).2 ++ sayB 9 1 [])) := Lib.hid (by rw [HD.out, hr]; dsimp only; rw [if_neg hne, if_neg h8, if_neg (by rw [hou]; simp)])
          have hq8 : ql.length ≤ 8 := by omega
          clear hr h8 hne hou HD HNC HCH
          go_wp2_with fail
          refine (HO.out _).mono ?_
          rintro e w1' ⟨rfl, rfl⟩
          have c5 : w1'.cell? ⟨b, 5, none⟩ = some (.int .u64 sz) := by obtain ⟨_, _, _, _, h1, _⟩ := hw1; exact h1.cell 5
          obtain ⟨va, vc, vxa, vxc, p1, va3, vc3, k1, k2⟩ := hw1.open_
          have c6 := k1.cell 6
          unfold nwC at c6
          simp only [List.getElem?_toArray, List.getElem?_cons_zero, List.getElem?_cons_succ] at c6
          have HC := Lib.hid (contexts_any sz maps w1' _ k2.mapsAt hml hmq)
          have HW1 := Lib.hid hw1
          clear k1 k2 hw1 HO
          go_wp2_with fail
          refine HC.out.mono ?_
          rintro e w2 ⟨v2, rfl, hown, hb2⟩
          have hw2 := HW1.out.below hb2
          obtain ⟨sa, sc, rfl⟩ := (SlAt.of_row hown).form
          have HBL : Hid (b < w1'.heap.size) := Lib.hid (by obtain ⟨_, _, _, _, h1, _⟩ := HW1.out; exact h1.lt)
          have hown2 := hown
          have hownq2 := own_belowN HQ.out hb2
          have hbq := HBQ.out
          clear hown hb2 HW1 HQ HC c3 c5 c6
          go_wp2_with fail
          obtain ⟨LS, hLS1, hLS2⟩ := own_held hown2
          obtain ⟨LQ, hLQ1, hLQ2⟩ := own_held hownq2
          have hbl := HBL.out
          have hwK : NWrk W0 b ⟨B, LS ++ (LQ ++ bl)⟩ sz maps w2 n0 out 9 od := (hw2.hold LQ (fun x hx => ⟨(hLQ1 x hx).1, by have := (hLQ1 x hx).2.2; omega, by rw [(hLQ1 x hx).2.1]; decide, by rw [(hLQ1 x hx).2.1]; decide⟩)).hold LS (fun x hx => ⟨(hLS1 x hx).1, by have := (hLS1 x hx).2.2; omega, by rw [(hLS1 x hx).2.1]; decide, by rw [(hLS1 x hx).2.1]; decide⟩)
          have HLS := Lib.hid hLS2
          have HLQ := Lib.hid hLQ2
          have HC58 := Lib.hid (contexts_58 maps)
          have HCL := Lib.hid (contexts_len maps hmq)
          have hcm : (contextsL maps).length = maps.length + 1 := by simp [contextsL]
          obtain ⟨C, hC⟩ : ∃ C, contextsL maps = C := ⟨_, rfl⟩
          rw [hC] at HLS HC58 HCL HX hcm
          obtain ⟨m, hm⟩ : ∃ m, C.length = m := ⟨_, rfl⟩
          rw [hm] at HLS hcm
          simp only [hC, hm]
          have HEl := Lib.hid (show ∀ k, k < m → ∃ q, C[k]? = some q ∧ q.length ≤ 2000 ∧ 58 ∈ q from fun k hk => ⟨_, List.getElem?_eq_getElem (by omega), HCL.out _ (List.getElem_mem (by omega)), HC58.out _ (List.getElem_mem (by omega))⟩)
          have HM := Lib.hid hm
          have hm2 : m ≤ 1001 := by omega
          clear hLS1 hLS2 hLQ1 hLQ2 hown2 hownq2 hw2 hC hm hmq HC58 HCL hcm
          go_loopw [61] (fun i wr => ∃ (k : Nat) (m1 : List Nat) (o1 : List UInt8), k ≤ m ∧ i = .int .i64 k ∧ NWrk W0 b ⟨B, LS ++ (LQ ++ bl)⟩ sz maps wr n0 o1 9 od ∧ o1.length ≤ out.length + k * 4116 ∧ Hid (m1 ++ (Neg.doCtxs 9 ql k (C.drop k)).1 = (Neg.doCtxs 9 ql 0 C).1 ∧ o1 ++ (Neg.doCtxs 9 ql k (C.drop k)).2 = out ++ (Neg.doCtxs 9 ql 0 C).2)) (fun i _ => m - (intOf i).toNat)
          case atStart => exact ⟨0, [], out, Nat.zero_le _, rfl, hwK, by omega, Lib.hid ⟨rfl, rfl⟩⟩
          case round =>
            obtain ⟨k, m1, o1, hk, rfl, hwr, hol, hI⟩ := hrel
            by_cases hlt : k < m
            · have k1 : (k : Int) < (m : Int) := by omega
              have k0 : (0 : Int) ≤ (k : Int) := by omega
              obtain ⟨c, hc, hcl, h58⟩ := HEl.out k hlt
              have hSr := HLS.out wr (fun x hx => hwr.held (List.mem_append_left _ hx))
              have hQr := HLQ.out wr (fun x hx => hwr.held (List.mem_append_right _ (List.mem_append_left _ hx)))
              obtain ⟨b', o', rfl, A⟩ := hSr.addr (cellsS_at C k c hc)
              have a0 := A k _ (cellsS_at C k c hc)
              have HWn := Lib.hid (wanted_any W0 b ⟨B, LS ++ (LQ ++ bl)⟩ sz maps wr n0 o1 9 od c ql _ h58 (by omega) hQr (by omega) hwr)
              have HDr := Lib.hid (drop_at C k c hc)
              clear A hSr hQr hc h58
              obtain ⟨wb, hwb⟩ : ∃ wb, wantedC 9 c ql = wb := ⟨_, rfl⟩
              rw [hwb] at HWn
              have HWB := Lib.hid hwb
              clear hwb
              go_wp2_with fail
              refine HWn.out.mono ?_
              rintro e w3 ⟨rfl, hb3⟩
              have hw3 := hwr.below hb3
              clear hb3 hwr HWn a0
              cases wb with
              | false =>
                have HI2 : Hid (m1 ++ (Neg.doCtxs 9 ql (k + 1) (C.drop (k + 1))).1 = (Neg.doCtxs 9 ql 0 C).1 ∧ o1 ++ (Neg.doCtxs 9 ql (k + 1) (C.drop (k + 1))).2 = out ++ (Neg.doCtxs 9 ql 0 C).2) := Lib.hid (by
                  have h := hI.out
                  rw [HDr.out, doCtxs_no _ _ _ _ _ HWB.out] at h
                  exact h)
                clear hI HDr HWB
                go_wp2
                go_roundw
                case rel => exact ⟨k + 1, m1, o1, by omega, by go_num, hw3, by omega, HI2⟩
                case measure => simp [intOf]; omega
              | true =>
                have HI2 : Hid ((m1 ++ [k + 1]) ++ (Neg.doCtxs 9 ql (k + 1) (C.drop (k + 1))).1 = (Neg.doCtxs 9 ql 0 C).1 ∧ (o1 ++ sayB 9 4 (be 4 (k + 1) ++ c)) ++ (Neg.doCtxs 9 ql (k + 1) (C.drop (k + 1))).2 = out ++ (Neg.doCtxs 9 ql 0 C).2) := Lib.hid (by
                  have h := hI.out
                  rw [HDr.out, (doCtxs_yes _ _ _ _ _ HWB.out).1, (doCtxs_yes _ _ _ _ _ HWB.out).2] at h
                  exact ⟨by rw [List.append_assoc]; exact h.1, by rw [List.append_assoc]; exact h.2⟩)
                clear hI HDr HWB
                have HP : Hid (∀ W, Calls Try.prog 31 #[.int .u64 ((k : Int) + 1), .int .i64 4] W (Gives (.string ⟨(be 4 (k + 1)).toArray⟩) W)) := Lib.hid (fun W => by
                  have h := put_int ((k + 1 : Nat) : Int) 4 (by omega) (by decide) (by decide) W
                  rw [show ((k + 1 : Nat) : Int).toNat = k + 1 by omega, show (4 : Int).toNat = 4 from rfl, show ((k + 1 : Nat) : Int) = (k : Int) + 1 by omega] at h
                  exact h)
                have hwk : IntKind.u64.wrap ((k : Int) + 1) = (k : Int) + 1 := by simp [IntKind.wrap, IntKind.signed, IntKind.bits]; omega
                have hwk2 : IntKind.u32.wrap ((k : Int) + 1) = (k : Int) + 1 := by simp [IntKind.wrap, IntKind.signed, IntKind.bits]; omega
                have hal := sayB_length 9 4 (be 4 (k + 1) ++ c)
                have HSay : Hid (∀ W, NWrk W0 b ⟨B, LS ++ (LQ ++ bl)⟩ sz maps W n0 o1 9 od → Calls Try.prog 38 #[.pointer (some ⟨b, 0, none⟩), .int .u32 4, .string ⟨(be 4 (k + 1) ++ c).toArray⟩] W (MEnds W0 b ⟨B, LS ++ (LQ ++ bl)⟩ sz maps n0 (o1 ++ sayB 9 4 (be 4 (k + 1) ++ c)) 9 od)) :=
                  Lib.hid (fun W hW => say_any W0 b ⟨B, LS ++ (LQ ++ bl)⟩ sz maps W n0 o1 9 od 4 4 rfl _ (by decide) (by decide) (by omega) hW)
                have hbe : (be 4 (k + 1)).length = 4 := be_length _ _
                generalize sayB 9 4 (be 4 (k + 1) ++ c) = sb at HI2 HSay hal
                generalize be 4 (k + 1) = bk at HP HSay hbe
                go_wp2_with fail
                refine (HP.out _).mono ?_
                rintro e w4 ⟨rfl, hb4⟩
                have hw4 := hw3.below hb4
                clear hb4 hw3
                go_wp2_with fail
                refine (HSay.out _ hw4).mono ?_
                rintro e w5 ⟨rfl, hw5⟩
                clear hw4 HSay HP
                go_wp2
                go_roundw
                case rel => exact ⟨k + 1, m1 ++ [k + 1], o1 ++ sb, by omega, by go_num, hw5, by rw [List.length_append]; omega, HI2⟩
                case measure => simp [intOf]; omega
            · obtain rfl : k = m := by omega
              have k1 : ¬ (k : Int) < (k : Int) := by omega
              have hE : (Neg.doCtxs 9 ql k (C.drop k)) = ([], []) := by rw [List.drop_of_length_le (by have := HM.out; omega)]; rfl
              have HI2 : Hid (m1 = (Neg.doCtxs 9 ql 0 C).1 ∧ o1 = out ++ (Neg.doCtxs 9 ql 0 C).2) := Lib.hid (by
                have h := hI.out
                rw [hE, List.append_nil, List.append_nil] at h
                exact h)
              clear hI hE
              go_wp2_with fail
              refine (say_any W0 b ⟨B, LS ++ (LQ ++ bl)⟩ sz maps _ n0 o1 9 od 1 1 rfl [] (by decide) (by decide) (by omega) hwr).mono ?_
              rintro e w6 ⟨rfl, hw6⟩
              have hw7 := (hw6.drop (bl := bl) (fun x hx => List.mem_append_right _ (List.mem_append_right _ hx))).rebase (Nat.zero_le _)
              rw [HI2.out.2, List.append_assoc] at hw7
              clear hw6
              go_wp2
              go_end0
              exact ⟨rfl, by rw [HX.out]; exact hw7⟩
end

section
variable (W0 : World) (b : Nat) (bl : List (Nat × TypeId × Array Value)) (sz : Nat) (maps : List (List UInt8)) (w : World) (n : Neg) (out : List UInt8) (od : List UInt8)

set_option maxRecDepth 100000 in
set_option maxHeartbeats 4000000 in
theorem metas_sets (hod : od.length ≤ 1000000) (hml : maps.length ≤ 1000) (hmq : ∀ q ∈ maps, q.length ≤ 1000) (ho : out.length ≤ 1000000000) (hw : NWrk W0 b ⟨0, bl⟩ sz maps w n out 10 od) :
    Calls Try.prog 55 #[.pointer (some ⟨b, 0, none⟩)] w (MEnds W0 b ⟨0, bl⟩ sz maps (n.doMetas maps 10 od).1 (out ++ (n.doMetas maps 10 od).2) 10 od) := by
  have mixed : Try.prog.follows .mixedOrders = true := by kernel_rfl
  have HT := Lib.hid (fun W => toMeta_any od hod W)
  obtain ⟨n0, hn0⟩ : ∃ n0 : Neg, n0 = (if 10 = 10 then { n with metas := [] } else n) := ⟨_, rfl⟩
  obtain ⟨B, hB⟩ : ∃ B : Nat, B = W0.heap.size := ⟨_, rfl⟩
  have hD : n.doMetas maps 10 od = match readMeta od with | none => (n0, sayB 10 2147483651 []) | some (name, queries) => if n.chunks = false then (n0, sayB 10 2147483651 []) else if 8 < queries.length then (n0, sayB 10 2147483657 []) else if ours name = false then (n0, sayB 10 2147483654 []) else ({ n0 with metas := (Neg.doCtxs 10 queries 0 (contextsL maps)).1 }, (Neg.doCtxs 10 queries 0 (contextsL maps)).2 ++ sayB 10 1 []) := by
    unfold Neg.doMetas
    rw [← hn0]
    cases readMeta od with
    | none => rfl
    | some x => rfl
  have HD := Lib.hid hD
  generalize n.doMetas maps 10 od = D at HD ⊢
  clear hD
  have hnc : n0.chunks = n.chunks := by rw [hn0]; rfl
  have HNC := Lib.hid hnc
  have HN0 : Hid (n0.metas = []) := Lib.hid (by rw [hn0]; rfl)
  obtain ⟨vm, vx, p, v, h1, h2⟩ := hw
  have c7 : w.cell? ⟨b, 7, none⟩ = some (.int .u32 10) := h1.cell 7
  have c8 := h1.cell 8
  have c4 := h1.cell 4
  have f4 := h1.frozen 4
  unfold nwC at c8 c4
  simp only [List.getElem?_toArray, List.getElem?_cons_zero, List.getElem?_cons_succ] at c8 c4
  obtain ⟨vma, vmc, rfl⟩ := h2.metas.form
  have HN : Hid (NWrk W0 b ⟨B, bl⟩ sz maps (w.setCell ⟨b, 4, none⟩ (.slice none 0 0)) n0 out 10 od) := Lib.hid (by rw [hn0]; exact NWrk.noMetas B h1 h2)
  have HB := Lib.hid hB
  clear h1 h2 hn0 hnc hB
  go_enter Try.func55, Try.ntmps55
  go_wp2_with fail
  refine (HT.out _).mono ?_
  rintro e w1 ⟨nm, v, ql, x, rfl, hown, hb1, hc⟩
  have hw1 := HN.out.below hb1
  obtain ⟨qa, qc, rfl⟩ := (SlAt.of_row hown).form
  have HQ := Lib.hid hown
  have HBQ : Hid (b < (w.setCell ⟨b, 4, none⟩ (.slice none 0 0)).heap.size) := Lib.hid (by obtain ⟨_, _, _, _, h1, _⟩ := HN.out; exact h1.lt)
  clear hown hb1 c7 c8 c4 f4 HN HT
  rcases hc with ⟨hr, rfl, rfl, rfl⟩ | ⟨hr, rfl⟩
  · have HX : Hid (D = (n0, sayB 10 2147483651 [])) := Lib.hid (by rw [HD.out, hr])
    clear hr
    go_wp2_with fail
    refine (say_any W0 b ⟨B, bl⟩ sz maps _ n0 out 10 od 2147483651 2147483651 rfl [] (by decide) (by decide) (by omega) hw1).mono ?_
    rintro e w2 ⟨rfl, hw2⟩
    go_wp2
    go_end0
    exact ⟨rfl, by rw [HX.out]; exact hw2.rebase (Nat.zero_le _)⟩
  · obtain ⟨ch, hch⟩ : ∃ ch, n0.chunks = ch := ⟨_, rfl⟩
    have c3 : w1.cell? ⟨b, 3, none⟩ = some (.bool ch) := by obtain ⟨_, _, _, _, h1, _⟩ := hw1; rw [← hch]; exact h1.cell 3
    have HCH := Lib.hid hch
    clear hch
    cases ch with
    | false =>
      have HX : Hid (D = (n0, sayB 10 2147483651 [])) := Lib.hid (by rw [HD.out, hr]; dsimp only; rw [if_pos (by rw [← HNC.out]; exact HCH.out)])
      clear hr
      go_wp2_with fail
      refine (say_any W0 b ⟨B, bl⟩ sz maps _ n0 out 10 od 2147483651 2147483651 rfl [] (by decide) (by decide) (by omega) hw1).mono ?_
      rintro e w2 ⟨rfl, hw2⟩
      go_wp2
      go_end0
      exact ⟨rfl, by rw [HX.out]; exact hw2.rebase (Nat.zero_le _)⟩
    | true =>
      have hne : ¬ n.chunks = false := by rw [← HNC.out, HCH.out]; simp
      by_cases h8 : 8 < ql.length
      · have l8 : (8 : Int) < (ql.length : Int) := by omega
        have HX : Hid (D = (n0, sayB 10 2147483657 [])) := Lib.hid (by rw [HD.out, hr]; dsimp only; rw [if_neg hne, if_pos h8])
        clear hr h8 hne
        go_wp2_with fail
        refine (say_any W0 b ⟨B, bl⟩ sz maps _ n0 out 10 od 2147483657 2147483657 rfl [] (by decide) (by decide) (by omega) hw1).mono ?_
        rintro e w2 ⟨rfl, hw2⟩
        go_wp2
        go_end0
        exact ⟨rfl, by rw [HX.out]; exact hw2.rebase (Nat.zero_le _)⟩
      · have l8 : ¬ (8 : Int) < (ql.length : Int) := by omega
        have HO := Lib.hid (fun W => ours_any W ⟨b, 0, none⟩ nm)
        cases hou : ours nm with
        | false =>
          rw [hou] at HO
          have HX : Hid (D = (n0, sayB 10 2147483654 [])) := Lib.hid (by rw [HD.out, hr]; dsimp only; rw [if_neg hne, if_neg h8, if_pos hou])
          clear hr h8 hne hou
          go_wp2_with fail
          refine (HO.out _).mono ?_
          rintro e w1' ⟨rfl, rfl⟩
          go_wp2_with fail
          refine (say_any W0 b ⟨B, bl⟩ sz maps _ n0 out 10 od 2147483654 2147483654 rfl [] (by decide) (by decide) (by omega) hw1).mono ?_
          rintro e w2 ⟨rfl, hw2⟩
          go_wp2
          go_end0
          exact ⟨rfl, by rw [HX.out]; exact hw2.rebase (Nat.zero_le _)⟩
        | true =>
          rw [hou] at HO
          have HX : Hid (D = ({ n0 with metas := (Neg.doCtxs 10 ql 0 (contextsL maps)).1 }, (Neg.doCtxs 10 ql 0 (contextsL maps)).2 ++ sayB 10 1 [])) := Lib.hid (by rw [HD.out, hr]; dsimp only; rw [if_neg hne, if_neg h8, if_neg (by rw [hou]; simp)])
          have hq8 : ql.length ≤ 8 := by omega
          clear hr h8 hne hou HD HNC HCH
          go_wp2_with fail
          refine (HO.out _).mono ?_
          rintro e w1' ⟨rfl, rfl⟩
          have c5 : w1'.cell? ⟨b, 5, none⟩ = some (.int .u64 sz) := by obtain ⟨_, _, _, _, h1, _⟩ := hw1; exact h1.cell 5
          obtain ⟨va, vc, vxa, vxc, p1, va3, vc3, k1, k2⟩ := hw1.open_
          have c6 := k1.cell 6
          unfold nwC at c6
          simp only [List.getElem?_toArray, List.getElem?_cons_zero, List.getElem?_cons_succ] at c6
          have HC := Lib.hid (contexts_any sz maps w1' _ k2.mapsAt hml hmq)
          have HW1 := Lib.hid hw1
          clear k1 k2 hw1 HO
          go_wp2_with fail
          refine HC.out.mono ?_
          rintro e w2 ⟨v2, rfl, hown, hb2⟩
          have hw2 := HW1.out.below hb2
          obtain ⟨sa, sc, rfl⟩ := (SlAt.of_row hown).form
          have HBL : Hid (b < w1'.heap.size) := Lib.hid (by obtain ⟨_, _, _, _, h1, _⟩ := HW1.out; exact h1.lt)
          have hown2 := hown
          have hownq2 := own_belowN HQ.out hb2
          have hbq := HBQ.out
          clear hown hb2 HW1 HQ HC c3 c5 c6
          go_wp2_with fail
          obtain ⟨LS, hLS1, hLS2⟩ := own_held hown2
          obtain ⟨LQ, hLQ1, hLQ2⟩ := own_held hownq2
          have hbl := HBL.out
          have hwK : NWrk W0 b ⟨B, LS ++ (LQ ++ bl)⟩ sz maps w2 n0 out 10 od := (hw2.hold LQ (fun x hx => ⟨(hLQ1 x hx).1, by have := (hLQ1 x hx).2.2; omega, by rw [(hLQ1 x hx).2.1]; decide, by rw [(hLQ1 x hx).2.1]; decide⟩)).hold LS (fun x hx => ⟨(hLS1 x hx).1, by have := (hLS1 x hx).2.2; omega, by rw [(hLS1 x hx).2.1]; decide, by rw [(hLS1 x hx).2.1]; decide⟩)
          have HLS := Lib.hid hLS2
          have HLQ := Lib.hid hLQ2
          have HC58 := Lib.hid (contexts_58 maps)
          have HCL := Lib.hid (contexts_len maps hmq)
          have hcm : (contextsL maps).length = maps.length + 1 := by simp [contextsL]
          obtain ⟨C, hC⟩ : ∃ C, contextsL maps = C := ⟨_, rfl⟩
          rw [hC] at HLS HC58 HCL HX hcm
          obtain ⟨m, hm⟩ : ∃ m, C.length = m := ⟨_, rfl⟩
          rw [hm] at HLS hcm
          simp only [hC, hm]
          have HEl := Lib.hid (show ∀ k, k < m → ∃ q, C[k]? = some q ∧ q.length ≤ 2000 ∧ 58 ∈ q from fun k hk => ⟨_, List.getElem?_eq_getElem (by omega), HCL.out _ (List.getElem_mem (by omega)), HC58.out _ (List.getElem_mem (by omega))⟩)
          have HM := Lib.hid hm
          have hm2 : m ≤ 1001 := by omega
          clear hLS1 hLS2 hLQ1 hLQ2 hown2 hownq2 hw2 hC hm hmq HC58 HCL hcm
          go_loopw [61] (fun i wr => ∃ (k : Nat) (m1 : List Nat) (o1 : List UInt8), k ≤ m ∧ i = .int .i64 k ∧ NWrk W0 b ⟨B, LS ++ (LQ ++ bl)⟩ sz maps wr { n0 with metas := m1 } o1 10 od ∧ o1.length ≤ out.length + k * 4116 ∧ Hid (m1 ++ (Neg.doCtxs 10 ql k (C.drop k)).1 = (Neg.doCtxs 10 ql 0 C).1 ∧ o1 ++ (Neg.doCtxs 10 ql k (C.drop k)).2 = out ++ (Neg.doCtxs 10 ql 0 C).2)) (fun i _ => m - (intOf i).toNat)
          case atStart => exact ⟨0, [], out, Nat.zero_le _, rfl, by rw [show ({ n0 with metas := [] } : Neg) = n0 by have := HN0.out; cases n0; simp_all]; exact hwK, by omega, Lib.hid ⟨rfl, rfl⟩⟩
          case round =>
            obtain ⟨k, m1, o1, hk, rfl, hwr, hol, hI⟩ := hrel
            by_cases hlt : k < m
            · have k1 : (k : Int) < (m : Int) := by omega
              have k0 : (0 : Int) ≤ (k : Int) := by omega
              obtain ⟨c, hc, hcl, h58⟩ := HEl.out k hlt
              have hSr := HLS.out wr (fun x hx => hwr.held (List.mem_append_left _ hx))
              have hQr := HLQ.out wr (fun x hx => hwr.held (List.mem_append_right _ (List.mem_append_left _ hx)))
              obtain ⟨b', o', rfl, A⟩ := hSr.addr (cellsS_at C k c hc)
              have a0 := A k _ (cellsS_at C k c hc)
              have HWn := Lib.hid (wanted_any W0 b ⟨B, LS ++ (LQ ++ bl)⟩ sz maps wr { n0 with metas := m1 } o1 10 od c ql _ h58 (by omega) hQr (by omega) hwr)
              have HDr := Lib.hid (drop_at C k c hc)
              clear A hSr hQr hc h58
              obtain ⟨wb, hwb⟩ : ∃ wb, wantedC 10 c ql = wb := ⟨_, rfl⟩
              rw [hwb] at HWn
              have HWB := Lib.hid hwb
              clear hwb
              go_wp2_with fail
              refine HWn.out.mono ?_
              rintro e w3 ⟨rfl, hb3⟩
              have hw3 := hwr.below hb3
              clear hb3 hwr HWn a0
              cases wb with
              | false =>
                have HI2 : Hid (m1 ++ (Neg.doCtxs 10 ql (k + 1) (C.drop (k + 1))).1 = (Neg.doCtxs 10 ql 0 C).1 ∧ o1 ++ (Neg.doCtxs 10 ql (k + 1) (C.drop (k + 1))).2 = out ++ (Neg.doCtxs 10 ql 0 C).2) := Lib.hid (by
                  have h := hI.out
                  rw [HDr.out, doCtxs_no _ _ _ _ _ HWB.out] at h
                  exact h)
                clear hI HDr HWB
                go_wp2
                go_roundw
                case rel => exact ⟨k + 1, m1, o1, by omega, by go_num, hw3, by omega, HI2⟩
                case measure => simp [intOf]; omega
              | true =>
                have HI2 : Hid ((m1 ++ [k + 1]) ++ (Neg.doCtxs 10 ql (k + 1) (C.drop (k + 1))).1 = (Neg.doCtxs 10 ql 0 C).1 ∧ (o1 ++ sayB 10 4 (be 4 (k + 1) ++ c)) ++ (Neg.doCtxs 10 ql (k + 1) (C.drop (k + 1))).2 = out ++ (Neg.doCtxs 10 ql 0 C).2) := Lib.hid (by
                  have h := hI.out
                  rw [HDr.out, (doCtxs_yes _ _ _ _ _ HWB.out).1, (doCtxs_yes _ _ _ _ _ HWB.out).2] at h
                  exact ⟨by rw [List.append_assoc]; exact h.1, by rw [List.append_assoc]; exact h.2⟩)
                clear hI HDr HWB
                have HP : Hid (∀ W, Calls Try.prog 31 #[.int .u64 ((k : Int) + 1), .int .i64 4] W (Gives (.string ⟨(be 4 (k + 1)).toArray⟩) W)) := Lib.hid (fun W => by
                  have h := put_int ((k + 1 : Nat) : Int) 4 (by omega) (by decide) (by decide) W
                  rw [show ((k + 1 : Nat) : Int).toNat = k + 1 by omega, show (4 : Int).toNat = 4 from rfl, show ((k + 1 : Nat) : Int) = (k : Int) + 1 by omega] at h
                  exact h)
                have hwk : IntKind.u64.wrap ((k : Int) + 1) = (k : Int) + 1 := by simp [IntKind.wrap, IntKind.signed, IntKind.bits]; omega
                have hwk2 : IntKind.u32.wrap ((k : Int) + 1) = (k : Int) + 1 := by simp [IntKind.wrap, IntKind.signed, IntKind.bits]; omega
                have hal := sayB_length 10 4 (be 4 (k + 1) ++ c)
                have HSay : Hid (∀ W, NWrk W0 b ⟨B, LS ++ (LQ ++ bl)⟩ sz maps W { n0 with metas := m1 } o1 10 od → Calls Try.prog 38 #[.pointer (some ⟨b, 0, none⟩), .int .u32 4, .string ⟨(be 4 (k + 1) ++ c).toArray⟩] W (MEnds W0 b ⟨B, LS ++ (LQ ++ bl)⟩ sz maps { n0 with metas := m1 } (o1 ++ sayB 10 4 (be 4 (k + 1) ++ c)) 10 od)) :=
                  Lib.hid (fun W hW => say_any W0 b ⟨B, LS ++ (LQ ++ bl)⟩ sz maps W { n0 with metas := m1 } o1 10 od 4 4 rfl _ (by decide) (by decide) (by omega) hW)
                have hbe : (be 4 (k + 1)).length = 4 := be_length _ _
                generalize sayB 10 4 (be 4 (k + 1) ++ c) = sb at HI2 HSay hal
                generalize be 4 (k + 1) = bk at HP HSay hbe
                go_wp2_with fail
                refine (HP.out _).mono ?_
                rintro e w4 ⟨rfl, hb4⟩
                have hw4 := hw3.below hb4
                clear hb4 hw3
                go_wp2_with fail
                refine (HSay.out _ hw4).mono ?_
                rintro e w5 ⟨rfl, hw5⟩
                clear hw4 HSay HP
                obtain ⟨i0, hi, hz0, hz1, hz2⟩ := info_parts Try.infoU32
                obtain ⟨vm5, vx5, p5, v5, g1, g2⟩ := hw5
                obtain ⟨ma5, mc5, rfl⟩ := g2.metas.form
                have c4 := g1.cell 4
                unfold nwC at c4
                simp only [List.getElem?_toArray, List.getElem?_cons_zero, List.getElem?_cons_succ] at c4
                have hml : m1.length ≤ 2000 := by
                  have h := congrArg List.length HI2.out.1
                  simp only [List.length_append, List.length_singleton] at h
                  have h2 := doCtxs_count 10 ql 0 C
                  have h3 := HM.out
                  omega
                have own2 := g2.metas.1.alloc (.cells #[.int .u32 ((k : Int) + 1)] 35)
                have G := Lib.hid (And.intro g1 g2)
                clear g1 g2
                go_wp2_with (at_builtin; refine wpList_append_own _ rfl _ _ 29 rfl B 35 i0 (.int .u32 0) 1 4 Try.underlying29 hi hz0 hz1 hz2 rfl (by decide) _ _ _ rfl own2 ⟨w5.heap.size, 0, none⟩ 1 1 [.int .u32 ((k : Int) + 1)] rfl rfl ?c1 ?c2 ?c3 ?c4 ?c5 ?_)
                case c1 => exact World.news_of_block (heap_alloc_new w5 _)
                case c2 => intro u hu; simp at hu; subst hu; rfl
                case c3 => unfold maxLen; omega
                case c4 => omega
                case c5 => rw [HB.out]; have := G.out.2.grown.size; simp; omega
                intro v' w6 hown' hgrow _
                have r1 := (G.out.2.alloc (.cells #[.int .u32 ((k : Int) + 1)] 35)).grown_ (G.out.1.alloc _) hgrow (by rw [HB.out]; exact Nat.le_refl _) (l' := m1 ++ [k + 1]) (by
                  have e : cellsU m1 ++ [.int .u32 ((k : Int) + 1)] = cellsU (m1 ++ [k + 1]) := by rw [cellsU_snoc]; simp
                  rw [List.length_append, ← e]
                  exact hown')
                have f4 := r1.1.frozen 4
                have d4 := r1.1.cell 4
                unfold nwC at d4
                simp only [List.getElem?_toArray, List.getElem?_cons_zero, List.getElem?_cons_succ] at d4
                have HN6 := Lib.hid (NWrk.metasSet r1.1 r1.2)
                obtain ⟨ma6, mc6, rfl⟩ := r1.2.metas.form
                clear own2 hown' hgrow r1 G
                go_wp2
                go_roundw
                case rel => exact ⟨k + 1, m1 ++ [k + 1], o1 ++ sb, by omega, by go_num, (by have h := HN6.out; dsimp only at h; rw [List.length_append] at h; exact h), by rw [List.length_append]; omega, HI2⟩
                case measure => simp [intOf]; omega
            · obtain rfl : k = m := by omega
              have k1 : ¬ (k : Int) < (k : Int) := by omega
              have hE : (Neg.doCtxs 10 ql k (C.drop k)) = ([], []) := by rw [List.drop_of_length_le (by have := HM.out; omega)]; rfl
              have HI2 : Hid (m1 = (Neg.doCtxs 10 ql 0 C).1 ∧ o1 = out ++ (Neg.doCtxs 10 ql 0 C).2) := Lib.hid (by
                have h := hI.out
                rw [hE, List.append_nil, List.append_nil] at h
                exact h)
              clear hI hE
              go_wp2_with fail
              refine (say_any W0 b ⟨B, LS ++ (LQ ++ bl)⟩ sz maps _ { n0 with metas := m1 } o1 10 od 1 1 rfl [] (by decide) (by decide) (by omega) hwr).mono ?_
              rintro e w6 ⟨rfl, hw6⟩
              have hw7 := (hw6.drop (bl := bl) (fun x hx => List.mem_append_right _ (List.mem_append_right _ hx))).rebase (Nat.zero_le _)
              rw [HI2.out.2, HI2.out.1, List.append_assoc] at hw7
              clear hw6
              go_wp2
              go_end0
              exact ⟨rfl, by rw [HX.out]; exact hw7⟩
end

end Go.Proofs.Yteljplpiojdikaa
