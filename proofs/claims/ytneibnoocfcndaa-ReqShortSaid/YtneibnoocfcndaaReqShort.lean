/- ReqShort, the walk: each beginning of a request that is less is too short. -/
import Derived.Test.YtneibnoocfcndaaReqAwake
import Derived.Test.YtneibnoocfcndaaReqLaw
namespace Go.Proofs.Ytneibnoocfcndaa
open Go.RowKit

set_option maxRecDepth 100000 in
set_option maxHeartbeats 1000000 in
theorem reqShort_any (q : Req) (hq : q.wf) (cut : Int) (w : World) :
    Calls Try.prog 4 #[reqV q, .int .i64 cut] w (Gives (.bool true) w) := by
  have hw := write_any q hq
  have HA := Lib.hid awake_any
  by_cases hd : 10000 < q.data.length
  · obtain ⟨fl, kd, ck, fr, ln, d⟩ := q
    clear hw
    unfold reqV
    dsimp only at hd ⊢
    go_enter Try.func4, Try.ntmps4
    go_wp2_with fail
    refine (HA.out _).mono ?_
    rintro e w1 ⟨rfl, hb1⟩
    go_wp2
    go_ret
    exact ⟨rfl, ((Below.refl _ w).alloc (Nat.le_refl _) _).trans (hb1.mono (by simp))⟩
  · cases hf : q.fit with
    | false =>
      rw [show writeReq q = ([], 25) from by unfold writeReq; rw [hf]; rfl] at hw
      have H := Lib.hid hw
      clear hw hf
      obtain ⟨fl, kd, ck, fr, ln, d⟩ := q
      unfold reqV at H ⊢
      dsimp only at hd H ⊢
      go_enter Try.func4, Try.ntmps4
      go_wp2_with fail
      refine (H.out _).mono ?_
      rintro e w1 ⟨rfl, hb1⟩
      go_wp2_with fail
      refine (HA.out _).mono ?_
      rintro e w2 ⟨rfl, hb2⟩
      go_wp2
      go_ret
      exact ⟨rfl, (((Below.refl _ w).alloc (Nat.le_refl _) _).trans (hb1.mono (by simp))).trans (hb2.mono (by have := hb1.size; simp at this; omega))⟩
    | true =>
      rw [show writeReq q = (reqBytes q, 0) from by unfold writeReq; rw [hf]; rfl] at hw
      have hl := reqBytes_length q
      have hs := req_short q hq hf
      generalize hbs : reqBytes q = bs at hw hl hs
      have hr := fun k => read_any (bs.take k)
      have H := Lib.hid hw
      have HR := Lib.hid hr
      have HS := Lib.hid hs
      clear hw hr hs hf hbs
      obtain ⟨fl, kd, ck, fr, ln, d⟩ := q
      unfold reqV at H ⊢
      dsimp only at hd hl H ⊢
      have hl1 : 28 ≤ bs.length := by omega
      have hl2 : bs.length ≤ 20000 := by omega
      have hne : bs.isEmpty = false := by cases bs; simp at hl1; rfl
      clear hl
      obtain ⟨k, hk, hmod⟩ := cut_mod cut bs.length (by omega)
      have HK := HR.out k
      rw [HS.out k hk] at HK
      have HK' := Lib.hid HK
      clear HK HR HS
      go_enter Try.func4, Try.ntmps4
      go_wp2_with fail
      refine (H.out _).mono ?_
      rintro e w1 ⟨rfl, hb1⟩
      go_wp2_with fail
      refine (HK'.out (by simp; omega) _).mono ?_
      rintro e w2 ⟨rfl, hb2⟩
      go_wp2_with fail
      refine (HA.out _).mono ?_
      rintro e w3 ⟨rfl, hb3⟩
      go_wp2
      go_ret
      have b1 := ((Below.refl _ w).alloc (Nat.le_refl _) (.cells #[.int .i64 fl, .int .i64 kd, .int .u64 ck, .int .u64 fr, .int .u32 ln, .string ⟨d.toArray⟩] 25)).trans (hb1.mono (by simp))
      have s1 := b1.size
      have b2 := b1.trans (hb2.mono s1)
      have s2 := b2.size
      exact ⟨rfl, below_next (b2.alloc s2 _) hb3⟩

end Go.Proofs.Ytneibnoocfcndaa
