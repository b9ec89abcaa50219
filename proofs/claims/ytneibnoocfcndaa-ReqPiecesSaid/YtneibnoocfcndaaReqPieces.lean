/- ReqPieces, the walk. -/
import Derived.Test.YtneibnoocfcndaaReqRow
import Derived.Test.YtneibnoocfcndaaReqAwake
namespace Go.Proofs.Ytneibnoocfcndaa
open Go.RowKit

set_option maxRecDepth 100000 in
set_option maxHeartbeats 400000 in
theorem reqPieces_long (s t : List UInt8) (hg : 20000 < s.length ∨ (s.length ≤ 20000 ∧ 20000 < t.length)) (w : World) :
    Calls Try.prog 5 #[.string ⟨s.toArray⟩, .string ⟨t.toArray⟩] w (Gives (.bool true) w) := by
  have HA := Lib.hid awake_any
  rcases hg with h1 | ⟨h1, h2⟩
  all_goals
    go_enter Try.func5, Try.ntmps5
    go_wp2_with fail
    refine (HA.out _).mono ?_
    rintro e w1 ⟨rfl, hb1⟩
    go_wp2
    go_ret
    exact ⟨rfl, hb1⟩

theorem own_slice {w : World} {B : Nat} {v : Value} {n : Nat} {xs : List Value} (h : w.ownsRow B 25 6 v n xs) : ∃ ad cap, v = .slice ad n cap := by
  rcases own_value h with ⟨rfl, rfl⟩ | ⟨g, cap, rfl, _⟩
  · exact ⟨_, _, rfl⟩
  · exact ⟨_, _, rfl⟩

set_option maxRecDepth 100000 in
set_option maxHeartbeats 1000000 in
theorem reqPieces_bad (s t : List UInt8) (hs : s.length ≤ 20000) (ht : t.length ≤ 20000) (L : List Req) (T T2 : List UInt8) (E : Int) (hE : E ≠ 0)
    (h1 : ∀ W, Calls Try.prog 11 #[.string ⟨s.toArray⟩] W (AllGives W L T E)) (h2 : ∀ W, Calls Try.prog 11 #[.string ⟨(s ++ t).toArray⟩] W (AllGives W L T2 E)) (w : World) :
    Calls Try.prog 5 #[.string ⟨s.toArray⟩, .string ⟨t.toArray⟩] w (Gives (.bool true) w) := by
  have HA := Lib.hid awake_any
  have H1 := Lib.hid h1
  have H2 := Lib.hid h2
  clear h1 h2
  go_enter Try.func5, Try.ntmps5
  go_wp2_with fail
  refine (H1.out _).mono ?_
  rintro e w1 ⟨va, rfl, ho1, hb1⟩
  obtain ⟨a1, c1, rfl⟩ := own_slice ho1
  clear ho1
  go_wp2_with fail
  refine (H2.out _).mono ?_
  rintro e w2 ⟨vb, rfl, ho2, hb2⟩
  obtain ⟨a2, c2, rfl⟩ := own_slice ho2
  have b2 := below_next hb1 hb2
  clear ho2 hb1 hb2
  go_wp2_with fail
  refine (HA.out _).mono ?_
  rintro e w3 ⟨rfl, hb3⟩
  have b3 := below_next b2 hb3
  clear hb3 b2
  go_wp2
  go_ret
  exact ⟨rfl, b3⟩

set_option maxRecDepth 100000 in
set_option maxHeartbeats 1000000 in
theorem reqPieces_ok (s t : List UInt8) (hs : s.length ≤ 20000) (ht : t.length ≤ 20000) (L L2 : List Req) (T T2 : List UInt8) (E2 : Int) (hT : T.length ≤ 20000) (hL : L.length ≤ 20000) (hL2 : L2.length ≤ 20000)
    (h1 : ∀ W, Calls Try.prog 11 #[.string ⟨s.toArray⟩] W (AllGives W L T 0)) (h2 : ∀ W, Calls Try.prog 11 #[.string ⟨(s ++ t).toArray⟩] W (AllGives W (L ++ L2) T2 E2))
    (h3 : ∀ W, Calls Try.prog 11 #[.string ⟨(T ++ t).toArray⟩] W (AllGives W L2 T2 E2)) (w : World) :
    Calls Try.prog 5 #[.string ⟨s.toArray⟩, .string ⟨t.toArray⟩] w (Gives (.bool true) w) := by
  have HA := Lib.hid awake_any
  have H1 := Lib.hid h1
  have H2 := Lib.hid h2
  have H3 := Lib.hid h3
  clear h1 h2 h3
  obtain ⟨n1, hn1⟩ : ∃ n1, L.length = n1 := ⟨_, rfl⟩
  obtain ⟨n2, hn2⟩ : ∃ n2, L2.length = n2 := ⟨_, rfl⟩
  have HN1 := Lib.hid hn1
  have HN2 := Lib.hid hn2
  rw [hn1] at hL
  rw [hn2] at hL2
  clear hn1 hn2
  go_enter Try.func5, Try.ntmps5
  go_wp2_with fail
  refine (H1.out _).mono ?_
  rintro e w1 ⟨va, rfl, ho1, hb1⟩
  have R1 := own_row ho1
  rw [HN1.out] at ho1
  obtain ⟨a1, c1, rfl⟩ := own_slice ho1
  clear ho1
  go_wp2_with fail
  refine (H2.out _).mono ?_
  rintro e w2 ⟨vb, rfl, ho2, hb2⟩
  replace R1 := R1.below hb2
  have b2 := below_next hb1 hb2
  clear hb1 hb2
  rw [List.length_append, HN1.out, HN2.out] at ho2
  rcases own_value ho2 with ⟨rfl, h0⟩ | ⟨g, cap, rfl, hcap⟩
  · obtain rfl : n1 = 0 := by omega
    obtain rfl : n2 = 0 := by omega
    have N1 := Lib.hid (List.length_eq_zero_iff.1 HN1.out)
    have N2 := Lib.hid (List.length_eq_zero_iff.1 HN2.out)
    clear h0 ho2
    go_wp2_with fail
    refine (H3.out _).mono ?_
    rintro e w3 ⟨vc, rfl, ho3, hb3⟩
    have R3 := own_row ho3
    rw [HN2.out] at ho3
    obtain ⟨a3, c3, rfl⟩ := own_slice ho3
    have b3 := below_next b2 hb3
    have Q1 := Lib.hid (R1.below hb3)
    have Q4 := Lib.hid R3
    have Q3 : Hid (∀ c : Nat, RowAt w3 (.slice none 0 0) L2) := Lib.hid (fun _ => .inl ⟨N2.out, _, _, rfl⟩)
    clear ho3 hb3 R1 R3 b2
    · go_wp2_with fail
      refine (row_same L _ _ (by rw [HN1.out]; omega) _ (.inl ⟨N1.out, _, _, rfl⟩) Q1.out).mono ?_
      rintro e w4 ⟨rfl, hb4⟩
      have b4 := below_next b3 hb4
      have Q5 := Lib.hid (Q4.out.below hb4)
      have Q6 := Lib.hid (fun c => (Q3.out c).below hb4)
      clear hb4 b3 Q4 Q3
      go_wp2_with fail
      refine (row_same L2 _ _ (by rw [HN2.out]; omega) _ (Q6.out 0) Q5.out).mono ?_
      rintro e w5 ⟨rfl, hb5⟩
      have b5 := below_next b4 hb5
      clear hb5 b4
      go_wp2_with fail
      refine (HA.out _).mono ?_
      rintro e w6 ⟨rfl, hb6⟩
      have b6 := below_next b5 hb6
      clear hb6 b5
      go_wp2
      go_ret
      exact ⟨rfl, b6⟩
  · have RB1 := own_part (l1 := []) (l2 := L) (l3 := L2) (o := 0) ho2 (by simp [HN1.out, HN2.out]) rfl rfl
    have RB2 := own_part (l1 := L) (l2 := L2) (l3 := []) (o := n1 * 6) ho2 (by simp [HN1.out, HN2.out]) (by simp) (by rw [HN1.out])
    rw [HN1.out] at RB1
    rw [HN2.out] at RB2
    clear ho2
    go_wp2_with fail
    refine (H3.out _).mono ?_
    rintro e w3 ⟨vc, rfl, ho3, hb3⟩
    have R3 := own_row ho3
    rw [HN2.out] at ho3
    obtain ⟨a3, c3, rfl⟩ := own_slice ho3
    have b3 := below_next b2 hb3
    have Q1 := Lib.hid (R1.below hb3)
    have Q2 := Lib.hid (fun c => (RB1 c).below hb3)
    have Q3 := Lib.hid (fun c => (RB2 c).below hb3)
    have Q4 := Lib.hid R3
    clear ho3 hb3 R1 RB1 RB2 R3 b2
    have k1 : (n1 : Int) ≤ (cap : Int) := by omega
    have k2 : (n1 : Int) ≤ ((n1 + n2 : Nat) : Int) := by omega
    have k3 : ((n1 + n2 : Nat) : Int) ≤ (cap : Int) := by omega
    by_cases hc : cap = n1
    · obtain rfl : n2 = 0 := by omega
      go_wp2_with fail
      refine (row_same L _ _ (by rw [HN1.out]; omega) _ (Q2.out _) Q1.out).mono ?_
      rintro e w4 ⟨rfl, hb4⟩
      have b4 := below_next b3 hb4
      have Q5 := Lib.hid (Q4.out.below hb4)
      have Q6 := Lib.hid (fun c => (Q3.out c).below hb4)
      clear hb4 b3 Q4 Q3
      go_wp2_with fail
      refine (row_same L2 _ _ (by rw [HN2.out]; omega) _ (.inl ⟨List.length_eq_zero_iff.1 HN2.out, _, _, rfl⟩) Q5.out).mono ?_
      rintro e w5 ⟨rfl, hb5⟩
      have b5 := below_next b4 hb5
      clear hb5 b4
      go_wp2_with fail
      refine (HA.out _).mono ?_
      rintro e w6 ⟨rfl, hb6⟩
      have b6 := below_next b5 hb6
      clear hb6 b5
      go_wp2
      go_ret
      exact ⟨rfl, b6⟩
    · go_wp2_with fail
      refine (row_same L _ _ (by rw [HN1.out]; omega) _ (Q2.out _) Q1.out).mono ?_
      rintro e w4 ⟨rfl, hb4⟩
      have b4 := below_next b3 hb4
      have Q5 := Lib.hid (Q4.out.below hb4)
      have Q6 := Lib.hid (fun c => (Q3.out c).below hb4)
      clear hb4 b3 Q4 Q3
      go_wp2_with fail
      refine (row_same L2 _ _ (by rw [HN2.out]; omega) _ (Q6.out _) Q5.out).mono ?_
      rintro e w5 ⟨rfl, hb5⟩
      have b5 := below_next b4 hb5
      clear hb5 b4
      go_wp2_with fail
      refine (HA.out _).mono ?_
      rintro e w6 ⟨rfl, hb6⟩
      have b6 := below_next b5 hb6
      clear hb6 b5
      go_wp2
      go_ret
      exact ⟨rfl, b6⟩

theorem reqPieces_any (s t : List UInt8) (w : World) :
    Calls Try.prog 5 #[.string ⟨s.toArray⟩, .string ⟨t.toArray⟩] w (Gives (.bool true) w) := by
  by_cases hg : s.length ≤ 20000 ∧ t.length ≤ 20000
  case neg => exact reqPieces_long s t (by omega) w
  obtain ⟨hs, ht⟩ := hg
  obtain ⟨L, T, E, h⟩ := alls_exists s
  have hl := alls_len h
  by_cases hE : E = 0 ∨ E = 22
  · obtain ⟨L2, T2, E2, h2⟩ := alls_exists (T ++ t)
    have hl2 := alls_len h2
    rw [List.length_append] at hl2
    have h3 := alls_pieces h t hE h2
    have e0 : (0 : Int) = if E = 22 then 0 else E := by rcases hE with rfl | rfl <;> rfl
    exact reqPieces_ok s t hs ht L L2 T T2 (if E2 = 22 then 0 else E2) (by omega) (by omega) (by omega) (fun W => all_any s (by omega) L T E h 0 e0 W)
      (fun W => all_any (s ++ t) (by rw [List.length_append]; omega) _ T2 E2 h3 _ rfl W) (fun W => all_any (T ++ t) (by rw [List.length_append]; omega) L2 T2 E2 h2 _ rfl W) w
  · have h0 : E ≠ 0 := fun e => hE (.inl e)
    have h22 : E ≠ 22 := fun e => hE (.inr e)
    have h3 := alls_bad h t h0 h22
    exact reqPieces_bad s t hs ht L T (T ++ t) E h0 (fun W => all_any s (by omega) L T E h E (by rw [if_neg h22]) W) (fun W => all_any (s ++ t) (by rw [List.length_append]; omega) L _ E h3 E (by rw [if_neg h22]) W) w

end Go.Proofs.Ytneibnoocfcndaa
