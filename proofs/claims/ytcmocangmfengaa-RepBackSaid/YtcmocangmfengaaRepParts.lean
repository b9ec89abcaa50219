/- RepParts, the walk. -/
import Derived.Test.YtcmocangmfengaaRepRToSt
import Derived.Test.YtcmocangmfengaaRepRStatus
import Derived.Test.YtcmocangmfengaaRepAwake
namespace Go.Proofs.Ytcmocangmfengaa
open Go.RowKit

theorem ts_both (s : List UInt8) (hs : s.length ≤ 100000) : ∃ (c : Nat) (L : List Ext) (E : Int), L.length ≤ 100000 ∧ (∀ W, Calls Try.prog 9 #[.string ⟨s.toArray⟩] W (TsGives W c L E)) ∧ (∀ W, Calls Try.prog 10 #[.string ⟨s.toArray⟩] W (TsGives W c L E)) := by
  by_cases hb : s.length < 12 ∨ (12 ≤ s.length ∧ 4004 < s.length) ∨ (12 ≤ s.length ∧ s.length ≤ 4004 ∧ s.length % 8 ≠ 4)
  · exact ⟨0, [], 14, by simp, fun W => tostatus_bad s hs hb W, fun W => rtostatus_bad s hs hb W⟩
  · obtain ⟨L, T, hL⟩ := exts_exists ((s.length - 4) / 8) (s.drop 4) (by rw [List.length_drop]; omega)
    have hlen := exts_len hL
    rw [List.length_drop] at hlen
    cases T with
    | true => exact ⟨rnum s 0 4, L, 0, by omega, fun W => tostatus_good s (by omega) (by omega) (by omega) L true hL W _ (.inl ⟨rfl, fun _ _ h => h⟩), fun W => rtostatus_good s (by omega) (by omega) (by omega) L true hL W _ (.inl ⟨rfl, fun _ _ h => h⟩)⟩
    | false => exact ⟨0, [], 25, by simp, fun W => tostatus_good s (by omega) (by omega) (by omega) L false hL W _ (.inr ⟨rfl, fun _ _ h => h⟩), fun W => rtostatus_good s (by omega) (by omega) (by omega) L false hL W _ (.inr ⟨rfl, fun _ _ h => h⟩)⟩

set_option maxRecDepth 100000 in
set_option maxHeartbeats 400000 in
theorem repParts_long (f n : Nat) (s : List UInt8) (ad : Option Addr) (m cap : Nat) (hg : 2000 < m ∨ (m ≤ 2000 ∧ 20000 < s.length)) (w : World) :
    Calls Try.prog 3 #[.int .u64 (f : Nat), .int .u32 (n : Nat), .string ⟨s.toArray⟩, .slice ad m cap] w (Gives (.bool true) w) := by
  have HA := Lib.hid awake_any
  rcases hg with h1 | ⟨h1, h2⟩
  all_goals
    go_enter Try.func3, Try.ntmps3
    go_wp2_with fail
    refine (HA.out _).mono ?_
    rintro e w1 ⟨rfl, hb1⟩
    go_wp2
    go_ret
    exact ⟨rfl, hb1⟩

set_option maxRecDepth 100000 in
set_option maxHeartbeats 2000000 in
theorem repParts_any (f n : Nat) (s : List UInt8) (l : List Ext) (v : Value) (hf : f < 18446744073709551616) (hn : n < 4294967296) (w : World) (hv : ExtAt w v l) :
    Calls Try.prog 3 #[.int .u64 (f : Nat), .int .u32 (n : Nat), .string ⟨s.toArray⟩, v] w (Gives (.bool true) w) := by
  have HV := Lib.hid hv
  obtain ⟨ad, cap, rfl, _⟩ := hv
  by_cases hg : l.length ≤ 2000 ∧ s.length ≤ 20000
  case neg => exact repParts_long f n s ad l.length cap (by omega) w
  obtain ⟨g1, g2⟩ := hg
  have HA := Lib.hid awake_any
  obtain ⟨c, L, E, hL, t1, t2⟩ := ts_both s (by omega)
  have HT1 := Lib.hid t1
  have HT2 := Lib.hid t2
  have HS1 := Lib.hid (fun W hW => status_any n l (.slice ad l.length cap) hn (by omega) W hW)
  have HS2 := Lib.hid (fun W hW => rstatus_any n l (.slice ad l.length cap) hn (by omega) W hW)
  have HD1 := Lib.hid (fun W => data_any f s hf (by omega) W)
  have HD2 := Lib.hid (fun W => rdata_any f s hf (by omega) W)
  have HH1 := Lib.hid (fun W => hole_any f n hf hn W)
  have HH2 := Lib.hid (fun W => rhole_any f n hf hn W)
  have HF1 := Lib.hid (fun W => fail_any n hn W)
  have HF2 := Lib.hid (fun W => rfail_any n hn W)
  have HL := Lib.hid hL
  generalize writeStatus n l = z at HS1 HS2
  generalize dataB f s = db at HD1 HD2
  generalize holeB f n = ho at HH1 HH2
  generalize failB n = fb at HF1 HF2
  obtain ⟨m, hm⟩ : ∃ m, l.length = m := ⟨_, rfl⟩
  rw [hm] at g1 HV HS1 HS2 ⊢
  obtain ⟨za, ze⟩ := z
  dsimp only at HS1 HS2
  clear t1 t2 hL hm hf hn
  go_enter Try.func3, Try.ntmps3
  go_wp2_with fail
  refine (HS1.out _ HV.out).mono ?_
  rintro e w1 ⟨rfl, b1⟩
  have HV1 := Lib.hid (HV.out.below b1)
  go_wp2_with fail
  refine (HS2.out _ HV1.out).mono ?_
  rintro e w2 ⟨rfl, hb2⟩
  have b2 := below_next b1 hb2
  clear b1 hb2
  go_wp2_with fail
  refine (HT1.out _).mono ?_
  rintro e w3 ⟨v1, rfl, x3, hb3⟩
  have b3 := below_next b2 hb3
  clear b2 hb3
  go_wp2_with fail
  refine (HT2.out _).mono ?_
  rintro e w4 ⟨v2, rfl, y4, hb4⟩
  have x4 := x3.below hb4
  have b4 := below_next b3 hb4
  clear b3 hb4 x3
  go_wp2_with fail
  refine (HD1.out _).mono ?_
  rintro e w5 ⟨rfl, hb5⟩
  have x5 := x4.below hb5
  have y5 := y4.below hb5
  have b5 := below_next b4 hb5
  clear b4 hb5 x4 y4
  go_wp2_with fail
  refine (HD2.out _).mono ?_
  rintro e w6 ⟨rfl, hb6⟩
  have x6 := x5.below hb6
  have y6 := y5.below hb6
  have b6 := below_next b5 hb6
  clear b5 hb6 x5 y5
  go_wp2_with fail
  refine (HH1.out _).mono ?_
  rintro e w7 ⟨rfl, hb7⟩
  have x7 := x6.below hb7
  have y7 := y6.below hb7
  have b7 := below_next b6 hb7
  clear b6 hb7 x6 y6
  go_wp2_with fail
  refine (HH2.out _).mono ?_
  rintro e w8 ⟨rfl, hb8⟩
  have x8 := x7.below hb8
  have y8 := y7.below hb8
  have b8 := below_next b7 hb8
  clear b7 hb8 x7 y7
  go_wp2_with fail
  refine (HF1.out _).mono ?_
  rintro e w9 ⟨rfl, hb9⟩
  have x9 := x8.below hb9
  have y9 := y8.below hb9
  have b9 := below_next b8 hb9
  clear b8 hb9 x8 y8
  go_wp2_with fail
  refine (HF2.out _).mono ?_
  rintro e wa ⟨rfl, hba⟩
  have xa := x9.below hba
  have ya := y9.below hba
  have ba := below_next b9 hba
  clear b9 hba x9 y9
  go_wp2_with fail
  refine (row_same L _ _ (by have := HL.out; omega) _ xa ya).mono ?_
  rintro e wb ⟨rfl, hbb⟩
  have bb := below_next ba hbb
  clear ba hbb xa ya
  go_wp2_with fail
  refine (HA.out _).mono ?_
  rintro e wc ⟨rfl, hbc⟩
  have bc := below_next bb hbc
  clear bb hbc
  go_wp2
  go_ret
  exact ⟨rfl, bc⟩

end Go.Proofs.Ytcmocangmfengaa
