/- The document's ToMeta and ToAsks. -/
import Derived.Test.YteljplpiojdikaaNegToAsks
import Derived.Test.YteljplpiojdikaaNOptRef
namespace Go.Proofs.Yteljplpiojdikaa
open Go.RowKit

theorem rtake_cases (d : List UInt8) (k : Nat) (k1 : 1 ≤ k) (k8 : k ≤ 8) (hd : d.length ≤ 9223372036854775807) : ∃ (n : Nat) (nm : List UInt8) (e : Int), (∀ W, Calls Try.prog 28 #[.string ⟨d.toArray⟩, .int .i64 k] W (Gives (.tuple #[.int .u64 n, .string ⟨nm.toArray⟩, .int .i64 e]) W)) ∧
    ((k ≤ d.length ∧ n = de (d.take k) ∧ nm = d.drop k ∧ e = 0) ∨ (d.length < k ∧ e = 22)) := by
  by_cases h : k ≤ d.length
  · exact ⟨_, _, _, fun W => rtake_any d k k1 k8 h hd W, .inl ⟨h, rfl, rfl, rfl⟩⟩
  · exact ⟨0, [], 22, fun W => rtake_short d k (by omega) (by omega) (by omega) W, .inr ⟨by omega, rfl⟩⟩

set_option maxRecDepth 100000 in
set_option maxHeartbeats 2000000 in
theorem rtoMeta_any (s : List UInt8) (hs : s.length ≤ 20000) (w : World) :
    Calls Try.prog 12 #[.string ⟨s.toArray⟩] w (MetaEnds (readMeta s) w) := by
  have HT := Lib.hid (fun W => rto_begin s (by omega) W)
  rcases readBeg_cases s with ⟨nm, r, h1, h2⟩ | ⟨e, h1, h2, h3⟩
  · rw [h2] at HT
    dsimp only at HT
    have hrl := dataO_len _ _ _ _ h1
    obtain ⟨n, r2, e2, hT2, hc⟩ := rtake_cases r 4 (by decide) (by decide) (by omega)
    have HT2 := Lib.hid hT2
    clear hT2 h2
    rcases hc with ⟨h4, rfl, rfl, rfl⟩ | ⟨h4, rfl⟩
    · by_cases hn : 1000 < de (r.take 4)
      · have hX : readMeta s = none := by unfold readMeta; rw [h1]; dsimp only; rw [if_pos (.inr hn)]
        rw [hX]
        have l1 : (1000 : Int) < (de (r.take 4) : Nat) := by omega
        generalize de (r.take 4) = n at HT2 l1
        clear hX h1 hn h4 hrl
        go_enter Try.func12, Try.ntmps12
        go_wp2_with fail
        refine (HT.out _).mono ?_
        rintro e w1 ⟨rfl, hb1⟩
        go_wp2_with fail
        refine (HT2.out _).mono ?_
        rintro e w2 ⟨rfl, hb2⟩
        have b2 := below_next hb1 hb2
        clear hb1 hb2
        go_wp2_with fail
        go_ret3
        exact metaEnds_none _ _ b2
      · have hX : readMeta s = metaOf nm (readBegs (de (r.take 4)) (r.drop 4)) := by
          unfold readMeta metaOf; rw [h1]; dsimp only; rw [if_neg (by omega)]
          cases readBegs (de (r.take 4)) (r.drop 4) <;> rfl
        have l1 : ¬ (1000 : Int) < (de (r.take 4) : Nat) := by omega
        have hn2 : de (r.take 4) ≤ 1000 := by omega
        have hdl : (r.drop 4).length ≤ 20000 := by rw [List.length_drop]; omega
        have HX := Lib.hid hX
        generalize de (r.take 4) = n at HT2 l1 hn2 HX
        generalize r.drop 4 = d at HT2 HX hdl
        generalize readMeta s = R at HX ⊢
        clear hX h1 hn h4 hrl
        obtain ⟨i0, hi, hz0, hz1, hz2⟩ := info_parts Try.infoStr
        go_enter Try.func12, Try.ntmps12
        go_wp2_with fail
        refine (HT.out _).mono ?_
        rintro e w1 ⟨rfl, hb1⟩
        go_wp2_with fail
        refine (HT2.out _).mono ?_
        rintro e w2 ⟨rfl, hb2⟩
        have b2 := below_next hb1 hb2
        clear hb1 hb2 HT HT2
        go_wp2_with fail
        go_loopw [6, 9, 10] (fun c l i wr => ∃ (k : Nat) (cur : List UInt8) (ll : List (List UInt8)), k ≤ n ∧ i = .int .u64 k ∧ c = .string ⟨cur.toArray⟩ ∧ cur.length ≤ 20000 ∧ ll.length = k ∧ wr.ownsRow w.heap.size 9 1 l k (cellsS ll) ∧ Hid (R = metaOf nm (ahead ll (readBegs (n - k) cur))) ∧ Below w.heap.size w wr) (fun _ _ i _ => n - (intOf i).toNat)
        case atStart => exact ⟨0, d, [], Nat.zero_le _, rfl, rfl, hdl, rfl, World.ownsRow_nil _ _ _ _, Lib.hid (by rw [ahead_nil]; exact HX.out), b2⟩
        case round =>
          obtain ⟨k, cur, ll, hk, rfl, rfl, hcl, hll, hown, hR, hbw⟩ := hrel
          obtain ⟨ad, cp, rfl⟩ := (SlAt.of_row hown).form
          have HLL := Lib.hid hll
          clear hll
          by_cases hlt : k < n
          · have k1 : (k : Int) < (n : Int) := by omega
            have HB := Lib.hid (fun W => rto_begin cur (by omega) W)
            have e0 : n - k = (n - (k + 1)) + 1 := by omega
            rcases readBeg_cases cur with ⟨q, r2, g1, g2⟩ | ⟨e, g1, g2, g3⟩
            · rw [g2] at HB
              dsimp only at HB
              have hrl := dataO_len _ _ _ _ g1
              have HR2 : Hid (R = metaOf nm (ahead (ll ++ [q]) (readBegs (n - (k + 1)) r2))) := Lib.hid (by rw [hR.out, e0, ahead_ok _ _ _ _ _ g1])
              have HCL : Hid (r2.length ≤ 20000) := Lib.hid (by omega)
              clear g1 g2 hrl hR e0
              go_wp2_with fail
              refine (HB.out _).mono ?_
              rintro e w3 ⟨rfl, hb3⟩
              have b3 := below_next hbw hb3
              have own2 := (own_belowN hown hb3).alloc (.cells #[.string ⟨q.toArray⟩] 9)
              have s3 := b3.size
              clear hown hb3 hbw
              go_wp2_with (at_builtin; refine wpList_append_own _ rfl _ _ 23 rfl w.heap.size 9 i0 (.string ⟨#[]⟩) 1 16 Try.underlying23 hi hz0 hz1 hz2 rfl (by decide) _ _ _ rfl own2 ⟨w3.heap.size, 0, none⟩ 1 1 [.string ⟨q.toArray⟩] rfl rfl ?c1 ?c2 ?c3 ?c4 ?c5 ?_)
              case c1 => exact World.news_of_block (heap_alloc_new w3 _)
              case c2 => intro u hu; simp at hu; subst hu; rfl
              case c3 => unfold maxLen; omega
              case c4 => omega
              case c5 => simp; omega
              intro v' w4 hown' hgrow _
              have b4 := (b3.alloc s3 (.cells #[.string ⟨q.toArray⟩] 9)).grown hgrow (by simp; omega) (fun k hk => (own2.lt k hk).1)
              rw [show cellsS ll ++ [.string ⟨q.toArray⟩] = cellsS (ll ++ [q]) by simp [cellsS]] at hown'
              have HO := Lib.hid hown'
              clear hown' hgrow own2 b3
              go_wp2
              go_roundw
              case rel => exact ⟨k + 1, r2, ll ++ [q], by omega, by go_num, rfl, HCL.out, by rw [List.length_append, HLL.out]; rfl, HO.out, HR2, b4⟩
              case measure => simp [intOf]; omega
            · rw [g3] at HB
              dsimp only at HB
              have HR2 : Hid (R = none) := Lib.hid (by rw [hR.out, e0, ahead_thrown _ _ _ _ g1]; rfl)
              have e1' : (e != 0) = true := by simpa using g2
              clear g1 g2 g3 hR e0
              go_wp2_with fail
              refine (HB.out _).mono ?_
              rintro e w3 ⟨rfl, hb3⟩
              have b3 := below_next hbw hb3
              clear hown hb3 hbw
              go_wp2_with fail
              go_ret3
              rw [HR2.out]
              exact metaEnds_none _ _ b3
          · obtain rfl : k = n := by omega
            have k1 : ¬ (k : Int) < (k : Int) := by omega
            have hR2 : R = if cur = [] then some (nm, ll) else none := by
              rw [hR.out, Nat.sub_self]
              show metaOf nm (some (ll ++ [], cur)) = _
              rw [List.append_nil]
              rfl
            have HO := Lib.hid hown
            clear hown hR
            by_cases hce : cur = []
            · have e1 : cur.isEmpty = true := by simp [hce]
              have HR2 : Hid (R = some (nm, ll)) := Lib.hid (by rw [hR2, if_pos hce])
              clear hR2 hce
              go_wp2_with fail
              go_ret3
              exact ⟨nm, _, ll, 0, rfl, by rw [HLL.out]; exact HO.out, hbw, .inr ⟨HR2.out, rfl⟩⟩
            · have e1 : cur.isEmpty = false := by simp [hce]
              have HR2 : Hid (R = none) := Lib.hid (by rw [hR2, if_neg hce])
              clear hR2 hce
              go_wp2_with fail
              go_ret3
              rw [HR2.out]
              exact metaEnds_none _ _ hbw
    · have hX : readMeta s = none := by unfold readMeta; rw [h1]; dsimp only; rw [if_pos (.inl h4)]
      rw [hX]
      clear hX h1 h4 hrl
      go_enter Try.func12, Try.ntmps12
      go_wp2_with fail
      refine (HT.out _).mono ?_
      rintro e w1 ⟨rfl, hb1⟩
      go_wp2_with fail
      refine (HT2.out _).mono ?_
      rintro e w2 ⟨rfl, hb2⟩
      have b2 := below_next hb1 hb2
      clear hb1 hb2
      go_wp2_with fail
      go_ret3
      exact metaEnds_none _ _ b2
  · rw [h3] at HT
    dsimp only at HT
    have hX : readMeta s = none := by unfold readMeta; rw [h1]
    rw [hX]
    have e1 : (e == 0) = false := by simpa using h2
    have e1' : (e != 0) = true := by simpa using h2
    clear hX h1 h2 h3
    go_enter Try.func12, Try.ntmps12
    go_wp2_with fail
    refine (HT.out _).mono ?_
    rintro e w1 ⟨rfl, hb1⟩
    go_wp2_with fail
    all_goals go_ret3
    all_goals exact metaEnds_none _ _ hb1

def strOf : Value → Nat
  | .string s => s.size
  | _ => 0
theorem cellsI_at (l : List Nat) (k : Nat) (x : Nat) (h : l[k]? = some x) : (cellsI l)[k]? = some (.int .i64 (x : Nat)) := by simp [cellsI, h]
theorem pairs_step (c : List UInt8) (h : 2 ≤ c.length) : pairs c = de (c.take 2) :: pairs (c.drop 2) := by
  match c, h with
  | a :: b :: r, _ => simp [pairs]

set_option maxRecDepth 100000 in
set_option maxHeartbeats 2000000 in
theorem rtoAsks_any (s : List UInt8) (hs : s.length ≤ 20000) (w : World) :
    Calls Try.prog 14 #[.string ⟨s.toArray⟩] w (AsksEnds (readAsks s) w) := by
  have HT := Lib.hid (fun W => rto_begin s (by omega) W)
  rcases readBeg_cases s with ⟨nm, r, h1, h2⟩ | ⟨e, h1, h2, h3⟩
  · rw [h2] at HT
    dsimp only at HT
    have hrl := dataO_len _ _ _ _ h1
    obtain ⟨n, r2, e2, hT2, hc⟩ := rtake_cases r 2 (by decide) (by decide) (by omega)
    rcases hc with ⟨h4, rfl, rfl, rfl⟩ | ⟨h4, rfl⟩
    · have hlt := de_lt (r.take 2)
      have hl2 : (r.take 2).length = 2 := by rw [List.length_take]; omega
      rw [hl2] at hlt
      have hlt2 : de (r.take 2) < 65536 := by simpa using hlt
      have HT2 := Lib.hid hT2
      have hdl : (r.drop 2).length ≤ 20000 := by rw [List.length_drop]; omega
      by_cases hn : (r.drop 2).length = 2 * de (r.take 2)
      · have hX : readAsks s = some (nm, pairs (r.drop 2)) := by unfold readAsks; rw [h1]; dsimp only; rw [if_neg (by omega)]
        rw [hX]
        have e1 : (((r.drop 2).length : Int) != 2 * (de (r.take 2) : Int)) = false := by
          have : ((r.drop 2).length : Int) = 2 * (de (r.take 2) : Int) := by omega
          rw [this]; simp
        generalize hN : de (r.take 2) = n at HT2 e1 hlt2 hn
        generalize r.drop 2 = d at HT2 e1 hdl hn ⊢
        obtain ⟨P, hP⟩ : ∃ P, P = pairs d := ⟨_, rfl⟩
        have HPP := Lib.hid hP
        rw [← hP]
        clear hX h1 h4 hrl hT2 hlt hl2 hP hN
        obtain ⟨i0, hi, hz0, hz1, hz2⟩ := info_parts Try.infoInt
        go_enter Try.func14, Try.ntmps14
        go_wp2_with fail
        refine (HT.out _).mono ?_
        rintro e w1 ⟨rfl, hb1⟩
        go_wp2_with fail
        refine (HT2.out _).mono ?_
        rintro e w2 ⟨rfl, hb2⟩
        have b2 := below_next hb1 hb2
        clear hb1 hb2 HT HT2
        have HD := Lib.hid hn
        clear hn
        go_wp2_with fail
        go_loopw [6, 9] (fun c l wr => ∃ (cur : List UInt8) (ll : List Nat), c = .string ⟨cur.toArray⟩ ∧ cur.length % 2 = 0 ∧ cur.length ≤ 20000 ∧ ll.length + cur.length ≤ 20000 ∧ wr.ownsRow w.heap.size 3 1 l ll.length (cellsI ll) ∧ Hid (P = ll ++ pairs cur) ∧ Below w.heap.size w wr) (fun c _ _ => strOf c)
        case atStart => exact ⟨d, [], rfl, by have := HD.out; omega, hdl, by simpa using hdl, World.ownsRow_nil _ _ _ _, Lib.hid (by rw [HPP.out]; rfl), b2⟩
        case round =>
          obtain ⟨cur, ll, rfl, hev, hcl, hsum, hown, hP, hbw⟩ := hrel
          obtain ⟨ad, cp, rfl⟩ := (SlAt.of_row hown).form
          clear b2
          by_cases hce : cur = []
          · have e2 : cur.isEmpty = true := by simp [hce]
            have HO := Lib.hid hown
            have HR2 : Hid (P = ll) := Lib.hid (by rw [hP.out, hce]; simp [pairs])
            clear hP hce hown
            go_wp2_with fail
            go_ret3
            exact ⟨nm, _, ll, 0, rfl, HO.out, hbw, .inr ⟨by rw [HR2.out], rfl⟩⟩
          · have e2 : cur.isEmpty = false := by simp [hce]
            have hpos : 0 < cur.length := List.length_pos_iff.2 hce
            have HT3 := Lib.hid (fun W => rtake_any cur 2 (by decide) (by decide) (by omega) (by omega) W)
            have hlt := de_lt (cur.take 2)
            have hl2 : (cur.take 2).length = 2 := by rw [List.length_take]; omega
            rw [hl2] at hlt
            have hlt2 : de (cur.take 2) < 65536 := by simpa using hlt
            have hwn : IntKind.i64.wrap (de (cur.take 2) : Int) = (de (cur.take 2) : Int) := by rw [IntKind.wrap_i64]; omega
            have HP2 : Hid (P = (ll ++ [de (cur.take 2)]) ++ pairs (cur.drop 2)) := Lib.hid (by rw [hP.out, pairs_step cur (by omega)]; simp)
            have hdl2 : (cur.drop 2).length = cur.length - 2 := List.length_drop
            have HM : Hid (strOf (.string ⟨(cur.drop 2).toArray⟩) < strOf (.string ⟨cur.toArray⟩)) := Lib.hid (by
              show ByteArray.size _ < ByteArray.size _
              show (cur.drop 2).toArray.size < cur.toArray.size
              simp only [List.size_toArray]
              omega)
            clear hlt hl2 hP hce
            generalize de (cur.take 2) = q at *
            generalize cur.drop 2 = r3 at *
            go_wp2_with fail
            refine (HT3.out _).mono ?_
            rintro e w3 ⟨rfl, hb3⟩
            have b3 := below_next hbw hb3
            have own2 := (own_belowN hown hb3).alloc (.cells #[.int .i64 (q : Nat)] 3)
            have s3 := b3.size
            clear hown hb3 hbw HT3
            go_wp2_with (at_builtin; refine wpList_append_own _ rfl _ _ 37 rfl w.heap.size 3 i0 (.int .i64 0) 1 8 Try.underlying37 hi hz0 hz1 hz2 rfl (by decide) _ _ _ rfl own2 ⟨w3.heap.size, 0, none⟩ 1 1 [.int .i64 (q : Nat)] rfl rfl ?c1 ?c2 ?c3 ?c4 ?c5 ?_)
            case c1 => exact World.news_of_block (heap_alloc_new w3 _)
            case c2 => intro u hu; simp at hu; subst hu; rfl
            case c3 => unfold maxLen; omega
            case c4 => omega
            case c5 => simp; omega
            intro v' w4 hown' hgrow _
            have b4 := (b3.alloc s3 (.cells #[.int .i64 (q : Nat)] 3)).grown hgrow (by simp; omega) (fun k hk => (own2.lt k hk).1)
            rw [show cellsI ll ++ [.int .i64 (q : Nat)] = cellsI (ll ++ [q]) by simp [cellsI]] at hown'
            have HO := Lib.hid hown'
            clear hown' hgrow own2 b3
            go_wp2
            go_roundw
            case rel => exact ⟨r3, ll ++ [q], rfl, by omega, by omega, by rw [List.length_append, List.length_singleton]; omega, by rw [List.length_append]; exact HO.out, HP2, b4⟩
            case measure => exact HM.out

      · have hX : readAsks s = none := by unfold readAsks; rw [h1]; dsimp only; rw [if_pos (.inr hn)]
        rw [hX]
        have e1 : (((r.drop 2).length : Int) != 2 * (de (r.take 2) : Int)) = true := by simp only [bne_iff_ne, ne_eq]; omega
        generalize de (r.take 2) = n at HT2 e1 hlt2
        generalize r.drop 2 = d at HT2 e1 hdl
        clear hX h1 hn h4 hrl hT2 hlt hl2
        go_enter Try.func14, Try.ntmps14
        go_wp2_with fail
        refine (HT.out _).mono ?_
        rintro e w1 ⟨rfl, hb1⟩
        go_wp2_with fail
        refine (HT2.out _).mono ?_
        rintro e w2 ⟨rfl, hb2⟩
        have b2 := below_next hb1 hb2
        clear hb1 hb2
        go_wp2_with fail
        go_ret3
        exact asksEnds_none _ _ b2
    · have hX : readAsks s = none := by unfold readAsks; rw [h1]; dsimp only; rw [if_pos (.inl h4)]
      rw [hX]
      have HT2 := Lib.hid hT2
      clear hX h1 h4 hrl hT2
      go_enter Try.func14, Try.ntmps14
      go_wp2_with fail
      refine (HT.out _).mono ?_
      rintro e w1 ⟨rfl, hb1⟩
      go_wp2_with fail
      refine (HT2.out _).mono ?_
      rintro e w2 ⟨rfl, hb2⟩
      have b2 := below_next hb1 hb2
      clear hb1 hb2
      go_wp2_with fail
      go_ret3
      exact asksEnds_none _ _ b2
  · rw [h3] at HT
    dsimp only at HT
    have hX : readAsks s = none := by unfold readAsks; rw [h1]
    rw [hX]
    have e1 : (e == 0) = false := by simpa using h2
    have e1' : (e != 0) = true := by simpa using h2
    clear hX h1 h2 h3
    go_enter Try.func14, Try.ntmps14
    go_wp2_with fail
    refine (HT.out _).mono ?_
    rintro e w1 ⟨rfl, hb1⟩
    go_wp2_with fail
    all_goals go_ret3
    all_goals exact asksEnds_none _ _ hb1

end Go.Proofs.Yteljplpiojdikaa
