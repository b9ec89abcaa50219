/- The document's ToStatus. -/
import Derived.Test.YtcmocangmfengaaRepToSt
namespace Go.Proofs.Ytcmocangmfengaa
open Go.RowKit

set_option maxRecDepth 100000 in
set_option maxHeartbeats 1000000 in
theorem rtostatus_bad (s : List UInt8) (hs : s.length ≤ 100000) (hb : s.length < 12 ∨ (12 ≤ s.length ∧ 4004 < s.length) ∨ (12 ≤ s.length ∧ s.length ≤ 4004 ∧ s.length % 8 ≠ 4)) (w : World) :
    Calls Try.prog 10 #[.string ⟨s.toArray⟩] w (TsGives w 0 [] 14) := by
  have hm : (s.length : Int).tmod 8 = (s.length : Int) % 8 := Int.tmod_eq_emod_of_nonneg (by omega)
  rcases hb with h1 | ⟨h1, h2⟩ | ⟨h1, h2, h3⟩
  · have k1 : (s.length : Int) < 12 := by omega
    clear hm
    go_enter Try.func10, Try.ntmps10
    go_wp2
    go_ret3
    exact ⟨_, rfl, ext_nil _, Below.refl _ _⟩
  · have k1 : ¬ (s.length : Int) < 12 := by omega
    have k2 : (4004 : Int) < (s.length : Int) := by omega
    clear hm
    go_enter Try.func10, Try.ntmps10
    go_wp2
    go_ret3
    exact ⟨_, rfl, ext_nil _, Below.refl _ _⟩
  · have k1 : ¬ (s.length : Int) < 12 := by omega
    have k2 : ¬ (4004 : Int) < (s.length : Int) := by omega
    have k3 : ((s.length : Int).tmod 8 != 4) = true := by
      rw [hm]
      simp
      omega
    clear hm
    go_enter Try.func10, Try.ntmps10
    go_wp2
    go_ret3
    exact ⟨_, rfl, ext_nil _, Below.refl _ _⟩

/-- How long a text is. -/
def strLen : Value → Nat
  | .string s => s.size
  | _ => 0
theorem strLen_of (s : List UInt8) : strLen (.string ⟨s.toArray⟩) = s.length := by
  unfold strLen
  simp [ByteArray.size]

set_option maxRecDepth 100000 in
set_option maxHeartbeats 2000000 in
theorem rtostatus_good (s : List UInt8) (h1 : 12 ≤ s.length) (h2 : s.length ≤ 4004) (h3 : s.length % 8 = 4) (L : List Ext) (T : Bool) (hL : Exts (s.drop 4) L T) (w : World) (Q : Ending → World → Prop)
    (hQ : (T = true ∧ ∀ e w', TsGives w (rnum s 0 4) L 0 e w' → Q e w') ∨ (T = false ∧ ∀ e w', TsGives w 0 [] 25 e w' → Q e w')) :
    Calls Try.prog 10 #[.string ⟨s.toArray⟩] w Q := by
  have hm : (s.length : Int).tmod 8 = (s.length : Int) % 8 := Int.tmod_eq_emod_of_nonneg (by omega)
  have k1 : ¬ (s.length : Int) < 12 := by omega
  have k2 : ¬ (4004 : Int) < (s.length : Int) := by omega
  have k3 : ((s.length : Int).tmod 8 != 4) = false := by
    rw [hm]
    simp
    omega
  clear hm
  have HQ := Lib.hid hQ
  have HLL := Lib.hid hL
  have HT0 : Hid (∀ W, Calls Try.prog 30 #[.string ⟨s.toArray⟩, .int .i64 4] W (Gives (.tuple #[.int .u64 (rnum s 0 4 : Nat), .string ⟨(s.drop 4).toArray⟩, .int .i64 0]) W)) :=
    Lib.hid (fun W => rtake_any s 4 (by decide) (by decide) (by omega) (by omega) W)
  have la := rnum_lt s 0 4
  have hwa : IntKind.u32.wrap (rnum s 0 4 : Int) = (rnum s 0 4 : Int) := by rw [IntKind.wrap_u32]; omega
  clear hQ hL
  generalize rnum s 0 4 = a at HQ HT0 la hwa
  obtain ⟨t, ht⟩ : ∃ t, s.drop 4 = t := ⟨_, rfl⟩
  have htl : t.length ≤ 4000 := by rw [← ht, List.length_drop]; omega
  rw [ht] at HLL HT0
  clear ht
  obtain ⟨i0, hi, hz0, hz1, hz2⟩ := info_parts Try.infoExt
  go_enter Try.func10, Try.ntmps10
  go_wp2_with fail
  refine (HT0.out _).mono ?_
  rintro e w1 ⟨rfl, b1⟩
  go_wp2
  go_loopw [6, 8] (fun c v wr => ∃ pre suf cur, c = .string ⟨cur.toArray⟩ ∧ L = pre ++ suf ∧ Exts cur suf T ∧ pre.length * 8 + cur.length ≤ 4000 ∧ wr.ownsRow w.heap.size 60 2 v pre.length (extCells pre) ∧ Below w.heap.size w wr) (fun c _ _ => strLen c)
  case atStart => exact ⟨[], L, t, rfl, by simp, HLL.out, by simpa using htl, World.ownsRow_nil _ _ _ _, b1⟩
  case round =>
    obtain ⟨pre, suf, cur, rfl, hL, ha, hn, hown, hbr⟩ := hrel
    clear b1
    rcases exts_cases ha with ⟨rfl, rfl, rfl⟩ | ⟨h8, hz, rfl, rfl⟩ | ⟨suf, h8, hz, rfl, ha2⟩
    · have hL2 : pre = L := by rw [hL]; simp
      subst hL2
      have HQ1 := Lib.hid ((HQ.out.resolve_right (fun h => by cases h.1)).2)
      have HO := Lib.hid hown
      obtain ⟨ad, m, cap, rfl⟩ := own_sl hown
      clear HQ hown hL ha
      go_wp2
      go_ret3
      exact HQ1.out _ _ ⟨_, rfl, own_ext HO.out, hbr⟩
    · have HQ1 := Lib.hid ((HQ.out.resolve_left (fun h => by cases h.1)).2)
      have hsl : cur.isEmpty = false := by cases cur; simp at h8; rfl
      have HA : Hid (∀ W, Calls Try.prog 30 #[.string ⟨cur.toArray⟩, .int .i64 4] W (Gives (.tuple #[.int .u64 (rnum cur 0 4 : Nat), .string ⟨(cur.drop 4).toArray⟩, .int .i64 0]) W)) :=
        Lib.hid (fun W => rtake_any cur 4 (by decide) (by decide) (by omega) (by omega) W)
      have HB : Hid (∀ W, Calls Try.prog 30 #[.string ⟨(cur.drop 4).toArray⟩, .int .i64 4] W (Gives (.tuple #[.int .u64 (rnum cur 4 4 : Nat), .string ⟨(cur.drop 8).toArray⟩, .int .i64 0]) W)) :=
        Lib.hid (fun W => by have h := rtake_any (cur.drop 4) 4 (by decide) (by decide) (by rw [List.length_drop]; omega) (by rw [List.length_drop]; omega) W; rwa [List.drop_drop] at h)
      rw [hz] at HA
      clear HQ hown hL ha hz
      go_wp2_with fail
      refine (HA.out _).mono ?_
      rintro e w2 ⟨rfl, hb2⟩
      have b2 := below_next hbr hb2
      clear hb2 hbr
      go_wp2_with fail
      refine (HB.out _).mono ?_
      rintro e w3 ⟨rfl, hb3⟩
      have b3 := below_next b2 hb3
      clear hb3 b2
      go_wp2
      go_ret3
      exact HQ1.out _ _ ⟨_, rfl, ext_nil _, b3⟩
    · have hsl : cur.isEmpty = false := by cases cur; simp at h8; rfl
      have HA : Hid (∀ W, Calls Try.prog 30 #[.string ⟨cur.toArray⟩, .int .i64 4] W (Gives (.tuple #[.int .u64 (rnum cur 0 4 : Nat), .string ⟨(cur.drop 4).toArray⟩, .int .i64 0]) W)) :=
        Lib.hid (fun W => rtake_any cur 4 (by decide) (by decide) (by omega) (by omega) W)
      have HB : Hid (∀ W, Calls Try.prog 30 #[.string ⟨(cur.drop 4).toArray⟩, .int .i64 4] W (Gives (.tuple #[.int .u64 (rnum cur 4 4 : Nat), .string ⟨(cur.drop 8).toArray⟩, .int .i64 0]) W)) :=
        Lib.hid (fun W => by have h := rtake_any (cur.drop 4) 4 (by decide) (by decide) (by rw [List.length_drop]; omega) (by rw [List.length_drop]; omega) W; rwa [List.drop_drop] at h)
      have lp := rnum_lt cur 0 4
      have lq := rnum_lt cur 4 4
      have HL := Lib.hid hL
      have HA2 := Lib.hid ha2
      have HE : Hid (ext1 cur = ⟨(rnum cur 0 4 : Nat), (rnum cur 4 4 : Nat)⟩) := Lib.hid rfl
      have hp3 : (((rnum cur 0 4 : Nat) : Int) == 0) = false := by simp; omega
      have hwp : IntKind.i64.wrap (rnum cur 0 4 : Int) = (rnum cur 0 4 : Int) := by rw [IntKind.wrap_i64]; omega
      have hwq : IntKind.i64.wrap (rnum cur 4 4 : Int) = (rnum cur 4 4 : Int) := by rw [IntKind.wrap_i64]; omega
      clear hL ha ha2 hz lp lq
      generalize rnum cur 0 4 = p at HA HE hp3 hwp
      generalize rnum cur 4 4 = q at HB HE hwq
      go_wp2_with fail
      refine (HA.out _).mono ?_
      rintro e w2 ⟨rfl, hb2⟩
      have b2 := below_next hbr hb2
      have own2 := own_below hown hb2
      clear hb2 hbr hown
      go_wp2_with fail
      refine (HB.out _).mono ?_
      rintro e w3 ⟨rfl, hb3⟩
      have b3 := below_next b2 hb3
      have own3 := (own_below own2 hb3).alloc (.cells #[.int .i64 (p : Nat), .int .i64 (q : Nat)] 60)
      have s3 := b3.size
      clear hb3 b2 own2
      go_wp2_with (at_builtin; refine wpList_append_own _ rfl _ _ 24 rfl w.heap.size 60 i0 _ 2 16 Try.underlying24 hi hz0 hz1 hz2 rfl (by decide) _ _ _ rfl own3 ⟨w3.heap.size, 0, none⟩ 1 1 (extCells1 ⟨(p : Nat), (q : Nat)⟩) rfl rfl ?c1 ?c2 ?c3 ?c4 ?c5 ?_)
      case c1 => exact World.news_of_block (heap_alloc_new w3 _)
      case c2 => intro u hu; simp [extCells1] at hu; rcases hu with rfl | rfl <;> rfl
      case c3 => unfold maxLen; omega
      case c4 => omega
      case c5 => simp; omega
      intro v' w4 hown' hgrow _
      have b4 := (b3.alloc s3 (.cells #[.int .i64 (p : Nat), .int .i64 (q : Nat)] 60)).grown hgrow (by simp; omega) (fun k hk => (own3.lt k hk).1)
      rw [extCells_add] at hown'
      have HO := Lib.hid hown'
      clear hown' hgrow own3 b3
      go_wp2
      go_roundw
      case rel => exact ⟨pre ++ [⟨(p : Nat), (q : Nat)⟩], suf, cur.drop 8, rfl, by rw [HL.out, HE.out]; simp, HA2.out, by rw [List.length_append, List.length_drop]; simp; omega, by rw [List.length_append]; exact HO.out, b4⟩
      case measure => rw [strLen_of, strLen_of, List.length_drop]; omega

end Go.Proofs.Ytcmocangmfengaa
