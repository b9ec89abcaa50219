/- nego.ToMeta. -/
import Derived.Test.YteljplpiojdikaaNegWrk
import Derived.Test.YteljplpiojdikaaNReadBeg
import Derived.Test.YteljplpiojdikaaOptMono
import Derived.Deep.AppendLies
namespace Go.Proofs.Yteljplpiojdikaa
open Go.RowKit

theorem throws_beg : Throws readBegO := throws_data _
theorem take_cases (d : List UInt8) (k : Nat) (k1 : 1 ≤ k) (k8 : k ≤ 8) (hd : d.length ≤ 9223372036854775807) : ∃ (n : Nat) (nm : List UInt8) (e : Int), (∀ W, Calls Try.prog 26 #[.string ⟨d.toArray⟩, .int .i64 k] W (Gives (.tuple #[.int .u64 n, .string ⟨nm.toArray⟩, .int .i64 e]) W)) ∧
    ((k ≤ d.length ∧ n = de (d.take k) ∧ nm = d.drop k ∧ e = 0) ∨ (d.length < k ∧ e = 22)) := by
  by_cases h : k ≤ d.length
  · exact ⟨_, _, _, fun W => take_any d k k1 k8 h hd W, .inl ⟨h, rfl, rfl, rfl⟩⟩
  · exact ⟨0, [], 22, fun W => by
      refine (take_short d k k1 k8 (by omega) W).mono ?_
      rintro e w' ⟨rfl, rfl⟩
      exact ⟨rfl, Below.refl _ _⟩, .inr ⟨by omega, rfl⟩⟩

theorem own_belowN {B : Nat} {e : TypeId} {k : Nat} {v : Value} {n : Nat} {xs : List Value} {w w' : World} (h : w.ownsRow B e k v n xs) (hb : Below w.heap.size w w') : w'.ownsRow B e k v n xs :=
  h.kept (row := none) ⟨hb.os, hb.tape, hb.output, hb.size, fun j hj _ => hb.block j hj⟩ (by cases hv : v.ownBlock <;> simp)
/-- What came of the texts, with the name. -/
def metaOf (nm : List UInt8) : Option (List (List UInt8) × List UInt8) → Option (List UInt8 × List (List UInt8))
  | none => none
  | some (l, r2) => if r2 = [] then some (nm, l) else none
/-- Texts ahead. -/
def ahead (l : List (List UInt8)) : Option (List (List UInt8) × List UInt8) → Option (List (List UInt8) × List UInt8)
  | none => none
  | some (l2, r) => some (l ++ l2, r)
theorem ahead_nil (o : Option (List (List UInt8) × List UInt8)) : ahead [] o = o := by cases o <;> rfl
theorem ahead_ok (l : List (List UInt8)) (n : Nat) (s q r : List UInt8) (h : readBegO s = .ok q r) : ahead l (readBegs (n + 1) s) = ahead (l ++ [q]) (readBegs n r) := by
  rw [readBegs, h]
  dsimp only
  cases readBegs n r with
  | none => rfl
  | some x => simp [ahead]
theorem ahead_thrown (l : List (List UInt8)) (n : Nat) (s : List UInt8) (e : Int) (h : readBegO s = .thrown e) : ahead l (readBegs (n + 1) s) = none := by
  rw [readBegs, h]
  rfl

/-- How ToMeta ends. -/
def MetaEnds (r : Option (List UInt8 × List (List UInt8))) (w : World) (e : Ending) (w' : World) : Prop :=
  ∃ nm v l x, e = .returned (.tuple #[.string ⟨nm.toArray⟩, v, .int .i64 x]) ∧ w'.ownsRow w.heap.size 9 1 v l.length (cellsS l) ∧ Below w.heap.size w w' ∧ ((r = none ∧ nm = [] ∧ l = [] ∧ x = 14) ∨ (r = some (nm, l) ∧ x = 0))
theorem metaEnds_none (w w' : World) (hb : Below w.heap.size w w') : MetaEnds none w (.returned (.tuple #[.string ⟨#[]⟩, .slice none 0 0, .int .i64 14])) w' :=
  ⟨[], _, [], 14, rfl, World.ownsRow_nil _ _ _ _, hb, .inl ⟨rfl, rfl, rfl, rfl⟩⟩

theorem readBeg_cases (s : List UInt8) : (∃ nm r, readBegO s = .ok nm r ∧ readBeg s = (nm, r, 0)) ∨ (∃ e, readBegO s = .thrown e ∧ e ≠ 0 ∧ readBeg s = ([], [], e)) := by
  cases h : readBegO s with
  | ok nm r => exact .inl ⟨nm, r, rfl, by unfold readBeg; rw [h]⟩
  | thrown e => exact .inr ⟨e, rfl, throws_beg s e h, by unfold readBeg; rw [h]⟩

set_option maxRecDepth 100000 in
set_option maxHeartbeats 2000000 in
theorem toMeta_any (s : List UInt8) (hs : s.length ≤ 1000000) (w : World) :
    Calls Try.prog 11 #[.string ⟨s.toArray⟩] w (MetaEnds (readMeta s) w) := by
  have HT := Lib.hid (fun W => to_begin_any s (by omega) W)
  rcases readBeg_cases s with ⟨nm, r, h1, h2⟩ | ⟨e, h1, h2, h3⟩
  · rw [h2] at HT
    dsimp only at HT
    have hrl := dataO_len _ _ _ _ h1
    obtain ⟨n, r2, e2, hT2, hc⟩ := take_cases r 4 (by decide) (by decide) (by omega)
    have HT2 := Lib.hid hT2
    clear hT2 h2
    rcases hc with ⟨h4, rfl, rfl, rfl⟩ | ⟨h4, rfl⟩
    · by_cases hn : 1000 < de (r.take 4)
      · have hX : readMeta s = none := by unfold readMeta; rw [h1]; dsimp only; rw [if_pos (.inr hn)]
        rw [hX]
        have l1 : (1000 : Int) < (de (r.take 4) : Nat) := by omega
        generalize de (r.take 4) = n at HT2 l1
        clear hX h1 hn h4 hrl
        go_enter Try.func11, Try.ntmps11
        go_wp2_with fail
        refine (HT.out _).mono ?_
        rintro e w1 ⟨rfl, hb1⟩
        go_wp2_with fail
        refine (HT2.out _).mono ?_
        rintro e w2 ⟨rfl, hb2⟩
        have b2 := below_next hb1 hb2
        clear hb1 hb2
        go_wp2_with fail
        go_ret3
        exact metaEnds_none _ _ b2
      · have hX : readMeta s = metaOf nm (readBegs (de (r.take 4)) (r.drop 4)) := by
          unfold readMeta metaOf; rw [h1]; dsimp only; rw [if_neg (by omega)]
          cases readBegs (de (r.take 4)) (r.drop 4) <;> rfl
        have l1 : ¬ (1000 : Int) < (de (r.take 4) : Nat) := by omega
        have hn2 : de (r.take 4) ≤ 1000 := by omega
        have hdl : (r.drop 4).length ≤ 1000000 := by rw [List.length_drop]; omega
        have HX := Lib.hid hX
        generalize de (r.take 4) = n at HT2 l1 hn2 HX
        generalize r.drop 4 = d at HT2 HX hdl
        generalize readMeta s = R at HX ⊢
        clear hX h1 hn h4 hrl
        obtain ⟨i0, hi, hz0, hz1, hz2⟩ := info_parts Try.infoStr
        go_enter Try.func11, Try.ntmps11
        go_wp2_with fail
        refine (HT.out _).mono ?_
        rintro e w1 ⟨rfl, hb1⟩
        go_wp2_with fail
        refine (HT2.out _).mono ?_
        rintro e w2 ⟨rfl, hb2⟩
        have b2 := below_next hb1 hb2
        clear hb1 hb2 HT HT2
        go_wp2_with fail
        go_loopw [0, 9, 34] (fun c l i wr => ∃ (k : Nat) (cur : List UInt8) (ll : List (List UInt8)), k ≤ n ∧ i = .int .u64 k ∧ c = .string ⟨cur.toArray⟩ ∧ cur.length ≤ 1000000 ∧ ll.length = k ∧ wr.ownsRow w.heap.size 9 1 l k (cellsS ll) ∧ Hid (R = metaOf nm (ahead ll (readBegs (n - k) cur))) ∧ Below w.heap.size w wr) (fun _ _ i _ => n - (intOf i).toNat)
        case atStart => exact ⟨0, d, [], Nat.zero_le _, rfl, rfl, hdl, rfl, World.ownsRow_nil _ _ _ _, Lib.hid (by rw [ahead_nil]; exact HX.out), b2⟩
        case round =>
          obtain ⟨k, cur, ll, hk, rfl, rfl, hcl, hll, hown, hR, hbw⟩ := hrel
          obtain ⟨ad, cp, rfl⟩ := (SlAt.of_row hown).form
          have HLL := Lib.hid hll
          clear hll
          by_cases hlt : k < n
          · have k1 : (k : Int) < (n : Int) := by omega
            have HB := Lib.hid (fun W => to_begin_any cur (by omega) W)
            have e0 : n - k = (n - (k + 1)) + 1 := by omega
            rcases readBeg_cases cur with ⟨q, r2, g1, g2⟩ | ⟨e, g1, g2, g3⟩
            · rw [g2] at HB
              dsimp only at HB
              have hrl := dataO_len _ _ _ _ g1
              have HR2 : Hid (R = metaOf nm (ahead (ll ++ [q]) (readBegs (n - (k + 1)) r2))) := Lib.hid (by rw [hR.out, e0, ahead_ok _ _ _ _ _ g1])
              have HCL : Hid (r2.length ≤ 1000000) := Lib.hid (by omega)
              clear g1 g2 hrl hR e0
              go_wp2_with fail
              refine (HB.out _).mono ?_
              rintro e w3 ⟨rfl, hb3⟩
              have b3 := below_next hbw hb3
              have own2 := (own_belowN hown hb3).alloc (.cells #[.string ⟨q.toArray⟩] 9)
              have s3 := b3.size
              clear hown hb3 hbw
              go_wp2_with (at_builtin; refine wpList_append_own _ rfl _ _ 23 rfl w.heap.size 9 i0 (.string ⟨#[]⟩) 1 16 Try.underlying23 hi hz0 hz1 hz2 rfl (by decide) _ _ _ rfl own2 ⟨w3.heap.size, 0, none⟩ 1 1 [.string ⟨q.toArray⟩] rfl rfl ?c1 ?c2 ?c3 ?c4 ?c5 ?_)
              case c1 => exact World.news_of_block (heap_alloc_new w3 _)
              case c2 => intro u hu; simp at hu; subst hu; rfl
              case c3 => unfold maxLen; omega
              case c4 => omega
              case c5 => simp; omega
              intro v' w4 hown' hgrow _
              have b4 := (b3.alloc s3 (.cells #[.string ⟨q.toArray⟩] 9)).grown hgrow (by simp; omega) (fun k hk => (own2.lt k hk).1)
              rw [show cellsS ll ++ [.string ⟨q.toArray⟩] = cellsS (ll ++ [q]) by simp [cellsS]] at hown'
              have HO := Lib.hid hown'
              clear hown' hgrow own2 b3
              go_wp2
              go_roundw
              case rel => exact ⟨k + 1, r2, ll ++ [q], by omega, by go_num, rfl, HCL.out, by rw [List.length_append, HLL.out]; rfl, HO.out, HR2, b4⟩
              case measure => simp [intOf]; omega
            · rw [g3] at HB
              dsimp only at HB
              have HR2 : Hid (R = none) := Lib.hid (by rw [hR.out, e0, ahead_thrown _ _ _ _ g1]; rfl)
              have e1' : (e != 0) = true := by simpa using g2
              clear g1 g2 g3 hR e0
              go_wp2_with fail
              refine (HB.out _).mono ?_
              rintro e w3 ⟨rfl, hb3⟩
              have b3 := below_next hbw hb3
              clear hown hb3 hbw
              go_wp2_with fail
              go_ret3
              rw [HR2.out]
              exact metaEnds_none _ _ b3
          · obtain rfl : k = n := by omega
            have k1 : ¬ (k : Int) < (k : Int) := by omega
            have hR2 : R = if cur = [] then some (nm, ll) else none := by
              rw [hR.out, Nat.sub_self]
              show metaOf nm (some (ll ++ [], cur)) = _
              rw [List.append_nil]
              rfl
            have HO := Lib.hid hown
            clear hown hR
            by_cases hce : cur = []
            · have e1 : cur.isEmpty = true := by simp [hce]
              have HR2 : Hid (R = some (nm, ll)) := Lib.hid (by rw [hR2, if_pos hce])
              clear hR2 hce
              go_wp2_with fail
              go_ret3
              exact ⟨nm, _, ll, 0, rfl, by rw [HLL.out]; exact HO.out, hbw, .inr ⟨HR2.out, rfl⟩⟩
            · have e1 : cur.isEmpty = false := by simp [hce]
              have HR2 : Hid (R = none) := Lib.hid (by rw [hR2, if_neg hce])
              clear hR2 hce
              go_wp2_with fail
              go_ret3
              rw [HR2.out]
              exact metaEnds_none _ _ hbw
    · have hX : readMeta s = none := by unfold readMeta; rw [h1]; dsimp only; rw [if_pos (.inl h4)]
      rw [hX]
      clear hX h1 h4 hrl
      go_enter Try.func11, Try.ntmps11
      go_wp2_with fail
      refine (HT.out _).mono ?_
      rintro e w1 ⟨rfl, hb1⟩
      go_wp2_with fail
      refine (HT2.out _).mono ?_
      rintro e w2 ⟨rfl, hb2⟩
      have b2 := below_next hb1 hb2
      clear hb1 hb2
      go_wp2_with fail
      go_ret3
      exact metaEnds_none _ _ b2
  · rw [h3] at HT
    dsimp only at HT
    obtain ⟨n, r2, e2, hT2, hc⟩ := take_cases [] 4 (by decide) (by decide) (by simp)
    have HT2 := Lib.hid hT2
    have hX : readMeta s = none := by unfold readMeta; rw [h1]
    rw [hX]
    have e1 : (e == 0) = false := by simpa using h2
    have e1' : (e != 0) = true := by simpa using h2
    clear hX h1 hT2 hc h2 h3
    go_enter Try.func11, Try.ntmps11
    go_wp2_with fail
    refine (HT.out _).mono ?_
    rintro e w1 ⟨rfl, hb1⟩
    go_wp2_with fail
    refine (HT2.out _).mono ?_
    rintro e w2 ⟨rfl, hb2⟩
    have b2 := below_next hb1 hb2
    clear hb1 hb2
    go_wp2_with fail
    all_goals go_ret3
    all_goals exact metaEnds_none _ _ b2
end Go.Proofs.Yteljplpiojdikaa
