/- RepBack, joined. -/
import Derived.Test.YtcmocangmfengaaRepBack
namespace Go.Proofs.Ytcmocangmfengaa
open Go.RowKit

theorem readC_any (s : List UInt8) (hs : s.length ≤ 100000) (W : World) : Calls Try.prog 24 #[.string ⟨s.toArray⟩] W (Gives (.tuple #[chunkV (readChunk s).1, .string ⟨(readChunk s).2.1.toArray⟩, .int .i64 (readChunk s).2.2]) W) := by
  by_cases hb : beginsE s pieceHead 20 = 0
  · exact readC_good s hs hb W
  · exact readC_bad s hs hb W

theorem repBack_any (r : Rep) (hr : r.wf) (c : Chunk) (hc : c.wf) (ctx : Nat) (hctx : ctx < 4294967296) (l : List Ext) (v : Value) (more s : List UInt8) (w : World) (hv : ExtAt w v l) :
    Calls Try.prog 5 #[repV r, chunkV c, .int .u32 (ctx : Nat), v, .string ⟨more.toArray⟩, .string ⟨s.toArray⟩] w (Gives (.bool true) w) := by
  obtain ⟨r0, r1, r2⟩ := r
  obtain ⟨k0, k1, k2, k3⟩ := c
  have hv2 := hv
  obtain ⟨ad, cap, rfl, _⟩ := hv
  by_cases hg : r2.length ≤ 10000 ∧ k3.length ≤ 10000 ∧ s.length ≤ 20000 ∧ more.length ≤ 20000 ∧ l.length ≤ 2000
  case neg => exact repBack_long r0 r1 r2 k0 k1 k2 k3 ctx ad l.length cap more s (by omega) w
  obtain ⟨g1, g2, g3, g4, g5⟩ := hg
  have hr0 := hr.err
  have hr1 := hr.cookie
  have hk2 : k2 < 18446744073709551616 := hc
  dsimp only at hr0 hr1
  -- a reply
  have P1 : ∃ (A : List UInt8) (e1 : Int), (∀ W, Calls Try.prog 18 #[repV ⟨r0, r1, r2⟩] W (Gives (.tuple #[.string ⟨A.toArray⟩, .int .i64 e1]) W)) ∧
      ((e1 = 0 ∧ A.length ≤ 20000 ∧ ∀ W, Calls Try.prog 20 #[.string ⟨(A ++ more).toArray⟩, .int .i64 (r2.length : Nat)] W (Gives (.tuple #[repV ⟨r0, r1, r2⟩, .string ⟨more.toArray⟩, .int .i64 0]) W)) ∨ e1 = 11) := by
    refine ⟨_, _, simple_any r0 r1 r2 hr0 hr1, ?_⟩
    unfold writeRep
    by_cases hf : repFit ⟨r0, r1, r2⟩ = true
    · rw [if_pos hf]
      have hlen : (repBytes ⟨r0, r1, r2⟩).length = 16 + r2.length := by simp [repBytes, oneHead, be_length]; omega
      refine .inl ⟨rfl, by dsimp only; omega, fun W => ?_⟩
      have h := tosimple_any (repBytes ⟨r0, r1, r2⟩ ++ more) (r2.length : Nat) (by rw [List.length_append]; omega) W
      rw [rep_back r0 r1 r2 more hr0 hr1 hf] at h
      exact h
    · rw [if_neg hf]
      exact .inr rfl
  -- a chunk
  have P2 : ∃ (L : List UInt8) (e2 : Int), (∀ W, Calls Try.prog 22 #[chunkV ⟨k0, k1, k2, k3⟩] W (Gives (.tuple #[.string ⟨L.toArray⟩, .int .i64 e2]) W)) ∧
      ((e2 = 0 ∧ L.length ≤ 20000 ∧ ∀ W, Calls Try.prog 24 #[.string ⟨(L ++ more).toArray⟩] W (Gives (.tuple #[chunkV ⟨k0, k1, k2, k3⟩, .string ⟨more.toArray⟩, .int .i64 0]) W)) ∨ e2 = 25 ∨ e2 = 11) := by
    refine ⟨_, _, writeC_any k0 k1 k2 k3 hk2, ?_⟩
    rcases chunk_cases k0 k1 k2 k3 with ⟨_, hw⟩ | ⟨_, hw⟩ | ⟨_, _, _, hw⟩ | ⟨h1, h2, h3, hw⟩
    · rw [hw]; exact .inr (.inl rfl)
    · rw [hw]; exact .inr (.inl rfl)
    · rw [hw]; exact .inr (.inr rfl)
    · rw [hw]
      have hlen := (chunk_nums k0 k1 k2 k3 []).2.2.2.2.2.1
      rw [List.append_nil] at hlen
      simp only [List.length_nil] at hlen
      refine .inl ⟨rfl, by dsimp only; omega, fun W => ?_⟩
      have h := readC_any (chunkBytes ⟨k0, k1, k2, k3⟩ ++ more) (by rw [List.length_append]; omega) W
      rw [chunk_back k0 k1 k2 k3 more h1 h2 hk2 h3] at h
      exact h
  -- a text as a chunk
  have P3 : ∃ (m0 : Bool) (m1 : Int) (m2 : Nat) (m3 rest : List UInt8) (e3 : Int), (∀ W, Calls Try.prog 24 #[.string ⟨s.toArray⟩] W (Gives (.tuple #[chunkV ⟨m0, m1, m2, m3⟩, .string ⟨rest.toArray⟩, .int .i64 e3]) W)) ∧
      ((e3 = 0 ∧ ∃ u, u.length ≤ 20000 ∧ u ++ rest = s ∧ ∀ W, Calls Try.prog 22 #[chunkV ⟨m0, m1, m2, m3⟩] W (Gives (.tuple #[.string ⟨u.toArray⟩, .int .i64 0]) W)) ∨ (e3 == 0) = false) := by
    cases hz : readChunk s with
    | mk x re =>
      obtain ⟨m0, m1, m2, m3⟩ := x
      obtain ⟨rest, e3⟩ := re
      refine ⟨m0, m1, m2, m3, rest, e3, fun W => ?_, ?_⟩
      · have h := readC_any s (by omega) W
        rw [hz] at h
        exact h
      · by_cases he : e3 = 0
        · subst he
          obtain ⟨hm, u, hu, hus⟩ := chunk_there s m0 m1 m2 m3 rest hz
          have hul : u.length ≤ 20000 := by
            have := congrArg List.length hus
            rw [List.length_append] at this
            omega
          refine .inl ⟨rfl, u, hul, hus, fun W => ?_⟩
          have h := writeC_any m0 m1 m2 m3 hm W
          rw [hu] at h
          exact h
        · exact .inr (by simpa using he)
  -- extents
  have P4 : ∃ (S : List UInt8) (e4 : Int), (∀ W, ExtAt W (.slice ad l.length cap) l → Calls Try.prog 7 #[.int .u32 (ctx : Nat), .slice ad l.length cap] W (Gives (.tuple #[.string ⟨S.toArray⟩, .int .i64 e4]) W)) ∧
      ((e4 = 0 ∧ ∀ W, Calls Try.prog 9 #[.string ⟨S.toArray⟩] W (TsGives W ctx l 0)) ∨ (e4 == 0) = false) := by
    refine ⟨_, _, fun W hW => status_any ctx l _ hctx (by omega) W hW, ?_⟩
    unfold writeStatus
    by_cases h1 : l = [] ∨ 500 < l.length
    · rw [if_pos h1]; exact .inr rfl
    · rw [if_neg h1]
      by_cases h2 : l.all Ext.ok = true
      · rw [if_pos h2]
        obtain ⟨f1, f2, f3, f4, f5⟩ := status_facts ctx l hctx (fun e => h1 (.inl e)) (by omega) h2
        refine .inl ⟨rfl, fun W => ?_⟩
        exact tostatus_good (statusB ctx l) f1 f2 f3 l true f4 W _ (.inl ⟨rfl, fun e w' h => by rw [f5] at h; exact h⟩)
      · rw [if_neg h2]; exact .inr rfl
  -- a text as extents
  have P5 : ∃ (c5 : Nat) (L5 : List Ext) (e5 : Int), (∀ W, Calls Try.prog 9 #[.string ⟨s.toArray⟩] W (TsGives W c5 L5 e5)) ∧
      ((e5 = 0 ∧ ∀ W v, ExtAt W v L5 → Calls Try.prog 7 #[.int .u32 (c5 : Nat), v] W (Gives (.tuple #[.string ⟨s.toArray⟩, .int .i64 0]) W)) ∨ (e5 == 0) = false) := by
    by_cases hb : s.length < 12 ∨ (12 ≤ s.length ∧ 4004 < s.length) ∨ (12 ≤ s.length ∧ s.length ≤ 4004 ∧ s.length % 8 ≠ 4)
    · exact ⟨0, [], 14, fun W => tostatus_bad s (by omega) hb W, .inr rfl⟩
    · obtain ⟨L, T, hL⟩ := exts_exists ((s.length - 4) / 8) (s.drop 4) (by rw [List.length_drop]; omega)
      cases T with
      | true =>
        refine ⟨rnum s 0 4, L, 0, fun W => tostatus_good s (by omega) (by omega) (by omega) L true hL W _ (.inl ⟨rfl, fun _ _ h => h⟩), .inl ⟨rfl, fun W v hW => ?_⟩⟩
        have hlen := exts_len hL
        rw [List.length_drop] at hlen
        have h := status_any (rnum s 0 4) L v (rnum_lt s 0 4) (by omega) W hW
        rw [status_there s L (by omega) (by omega) hL] at h
        exact h
      | false => exact ⟨0, [], 25, fun W => tostatus_good s (by omega) (by omega) (by omega) L false hL W _ (.inr ⟨rfl, fun _ _ h => h⟩), .inr rfl⟩
  obtain ⟨A, e1, a1, a2⟩ := P1
  obtain ⟨L, e2, b1, b2⟩ := P2
  obtain ⟨m0, m1, m2, m3, rest, e3, d1, d2⟩ := P3
  obtain ⟨S, e4, f1, f2⟩ := P4
  obtain ⟨c5, L5, e5, i1, i2⟩ := P5
  exact repBack_walk r0 r1 r2 k0 k1 k2 k3 ctx ad l.length cap more s l g1 g2 g3 g4 g5 A L S e1 e2 e4 a1 a2 b1 b2 m0 m1 m2 m3 rest e3 d1 d2 f1 f2 c5 L5 e5 i1 i2 w hv2 g5

end Go.Proofs.Ytcmocangmfengaa
