/- MatchMixedSaid: the statement is proved: for every input the law returns true. No condition. -/
import Derived.Test.YtfcojhpnpfodeaaMatMixW
import Derived.Test.YtfcojhpnpfodeaaMatOpen
import Derived.Test.YtfcojhpnpfodeaaRowSized
import Derived.Test.YtfcojhpnpfodeaaRowKit
import Derived.OpenShut
namespace Go.Proofs.Ytfcojhpnpfodeaa
open Go.Joins Go.ChangeShapes Go.WideShapes Go.ChangeAt Go.RowKit Go.Deep
open Go.ChangeMaps (open_string shut_string)

set_option maxRecDepth 100000 in
theorem matchMixed_lifted (os : Os) (started : os.Started) (H : Type) (enc : TypeId × Value → H) :
    ReturnsInHanded {} Try.checked os 5 .any (Rows.matchMixedSpec.pre6 enc Try.prog Try.f5 Rows.matchMixedRow.domain false) (Rows.matchMixedSpec.post enc Try.prog Try.f5 false true false false) := by
  refine returnsInHanded_of_change_sized (C := Try.checked) Try.own started (by kernel_rfl) Try.func5
    (ChangeSpec.witness6 (enc := enc) (C := Try.checked) false ⟨#[], #[.int .u64 0, .string ⟨#[]⟩, .string ⟨#[]⟩, .int .u64 0, .string ⟨#[]⟩, .slice none 0 0], []⟩ 8 (by kernel_rfl) (by kernel_rfl) (by kernel_rfl) (by kernel_rfl)) ?_
  intro W base args ds gs before hval0 hW hcnd hsz _
  have hval : ∀ (j : Nat) t v, Try.f5.params[j]? = some t → args[j]? = some v → Value.okWide Try.prog W .any base t v := hval0
  have hW' := hW
  obtain ⟨p, q, hA0, hV, rfl, hfz, hnd⟩ := hW
  have hA : DataW.TrodAll enc Try.prog W 0 (fun _ => true) true Try.f5.params.toList args.toList ds p := hA0
  rw [Try.params5] at hA hval
  obtain ⟨v0, vs0, d0, ds0, p0, z0, hargs, rfl, rfl, h0, r0⟩ := trodAll_cons hA
  obtain ⟨v1, vs1, d1, ds1, p1, z1, rfl, rfl, rfl, h1, r1⟩ := trodAll_cons r0
  obtain ⟨v2, vs2, d2, ds2, p2, z2, rfl, rfl, rfl, h2, r2⟩ := trodAll_cons r1
  obtain ⟨v3, vs3, d3, ds3, p3, z3, rfl, rfl, rfl, h3, r3⟩ := trodAll_cons r2
  obtain ⟨v4, vs4, d4, ds4, p4, z4, rfl, rfl, rfl, h4, r4⟩ := trodAll_cons r3
  obtain ⟨v5, vs5, d5, ds5, p5, z5, rfl, rfl, rfl, h5, r5⟩ := trodAll_cons r4
  obtain ⟨rfl, rfl, rfl⟩ := trodAll_nil r5
  obtain rfl : args = #[v0, v1, v2, v3, v4, v5] := by cases args; simp_all
  obtain ⟨rfl, rfl⟩ := trodVars_none hV
  have lt0 : ∀ x ∈ p0, x.block < W.heap.size := by obtain ⟨m, hm⟩ := h0; exact DataW.trod_lt m _ _ _ hm
  have lt1 : ∀ x ∈ p1, x.block < W.heap.size := by obtain ⟨m, hm⟩ := h1; exact DataW.trod_lt m _ _ _ hm
  have lt2 : ∀ x ∈ p2, x.block < W.heap.size := by obtain ⟨m, hm⟩ := h2; exact DataW.trod_lt m _ _ _ hm
  have lt3 : ∀ x ∈ p3, x.block < W.heap.size := by obtain ⟨m, hm⟩ := h3; exact DataW.trod_lt m _ _ _ hm
  have lt4 : ∀ x ∈ p4, x.block < W.heap.size := by obtain ⟨m, hm⟩ := h4; exact DataW.trod_lt m _ _ _ hm
  have lt5 : ∀ x ∈ p5, x.block < W.heap.size := by obtain ⟨m, hm⟩ := h5; exact DataW.trod_lt m _ _ _ hm
  obtain ⟨a0, rfl, b0⟩ := open_u64 Try.underlying34 (hval 0 34 v0 rfl rfl) h0
  obtain ⟨s1, rfl, ls1, hd1⟩ := open_strd Try.underlying9 (hval 1 9 v1 rfl rfl) h1
  obtain ⟨s2, rfl, ls2, hd2⟩ := open_strd Try.underlying9 (hval 2 9 v2 rfl rfl) h2
  obtain ⟨a3, rfl, b3⟩ := open_u64 Try.underlying34 (hval 3 34 v3 rfl rfl) h3
  obtain ⟨s4, rfl, ls4, hd4⟩ := open_strd Try.underlying9 (hval 4 9 v4 rfl rfl) h4
  obtain ⟨q5, wq5, lq5⟩ := open_boolsl (hval 5 47 v5 rfl rfl) h5
  have hm1 : s1.length ≤ 4000000000000000000 := by
    have hr : s1.length ≤ reachBytes := sized_string hsz (j := 1) (t := 9) rfl (by rw [hd1]; rfl)
    have := reachBytes_lt
    omega
  have hm2 : s2.length ≤ 4000000000000000000 := by
    have hr : s2.length ≤ reachBytes := sized_string hsz (j := 2) (t := 9) rfl (by rw [hd2]; rfl)
    have := reachBytes_lt
    omega
  have hm4 : s4.length ≤ 4000000000000000000 := by
    have hr : s4.length ≤ reachBytes := sized_string hsz (j := 4) (t := 9) rfl (by rw [hd4]; rfl)
    have := reachBytes_lt
    omega
  clear hA0 hval0
  refine (mixed_any a0 s1 s2 a3 s4 v5 q5 W wq5 lq5 hm1 hm2 hm4 b0 b3).mono fun e W' ⟨he, bel⟩ => ?_
  subst he
  exact ⟨_, rfl, _, _, _, [], _, [], hW', trodAll_mk1 (shut_bool Try.underlying4 _), (trodAll_cons_mk (Below.trod Try.laidOut (by kernel_rfl) (of_decide_eq_true (by kernel_rfl)) h0 bel lt0) (trodAll_cons_mk (Below.trod Try.laidOut (by kernel_rfl) (of_decide_eq_true (by kernel_rfl)) h1 bel lt1) (trodAll_cons_mk (Below.trod Try.laidOut (by kernel_rfl) (of_decide_eq_true (by kernel_rfl)) h2 bel lt2) (trodAll_cons_mk (Below.trod Try.laidOut (by kernel_rfl) (of_decide_eq_true (by kernel_rfl)) h3 bel lt3) (trodAll_cons_mk (Below.trod Try.laidOut (by kernel_rfl) (of_decide_eq_true (by kernel_rfl)) h4 bel lt4) (trodAll_cons_mk (Below.trod Try.laidOut (by kernel_rfl) (of_decide_eq_true (by kernel_rfl)) h5 bel lt5) trodAll_mk0)))))), rfl, bel.frame _, fun h => by cases h⟩

/-- THE STATEMENT. -/
theorem matchMixed_holds : Rows.MatchMixedSaid :=
  OpenClaim.holds_of_wide 5 Try.f5 rfl rfl rfl rfl rfl rfl rfl ⟨rfl, rfl, rfl, rfl, rfl⟩ rfl rfl rfl rfl rfl (by kernel_rfl) Try.func5 (by kernel_rfl)
    (of_decide_eq_true (by kernel_rfl)) (by unfold Func.isWrapper; first | (rw [if_pos (by decide +kernel)]; kernel_rfl) | (rw [if_neg (by decide +kernel)]; exact ⟨rfl, rfl⟩))
    (fun os started H enc _ => matchMixed_lifted os started H enc)

end Go.Proofs.Ytfcojhpnpfodeaa
