/- match.Ask and the document's: one contract each; asked. -/
import Derived.Test.YtfcojhpnpfodeaaMatRAsk
namespace Go.Proofs.Ytfcojhpnpfodeaa
open Go.RowKit

theorem waits_add {w w' : World} {B : Nat} {v' : Value} {ps : List (Wait × Value)} {l : List Wait} {x : Wait} (hps : ps.map Prod.fst = l) (hsp : ∀ p ∈ ps, SpanAt w p.2 p.1.spans) (hb : Below w.heap.size w w')
    (ho : w'.ownsRow B 42 10 v' (l.length + 1) (ps.flatMap waitC ++ waitC (x, .slice none 0 0))) (hx : x.spans = []) : WaitsAt w' v' (l ++ [x]) := by
  refine ⟨ps ++ [(x, .slice none 0 0)], by rw [List.map_append, hps]; rfl, ?_, fun p hp => ?_, ?_⟩
  · have h := SlAt.of_row ho
    rw [List.length_append, List.flatMap_append]
    simpa using h
  · rcases List.mem_append.1 hp with hp | hp
    · exact (hsp p hp).below hb
    · simp only [List.mem_singleton] at hp
      subst hp
      dsimp only
      rw [hx]
      exact span_nil w'
  · exact TyAt.of_row ho
theorem ask_added {m : Mat} {q : Req} {w w' : World} {B : Nat} {v : Value} {ps : List (Wait × Value)} (hr : m.ask q = ({ m with waits := m.waits ++ [Wait.fresh q] }, reqBytes q, 0)) (hps : ps.map Prod.fst = m.waits) (hsp : ∀ p ∈ ps, SpanAt w p.2 p.1.spans) (hb : Below w.heap.size w w')
    (ho : w'.ownsRow B 42 10 v (m.waits.length + 1) (ps.flatMap waitC ++ waitC (Wait.fresh q, .slice none 0 0))) :
    AskEnds m q w (.returned (.tuple #[.agg #[.string ⟨m.buf.toArray⟩, .bool m.chunks, v, .bool m.dead], .string ⟨(reqBytes q).toArray⟩, .int .i64 0])) w' := by
  unfold AskEnds
  rw [hr]
  exact ⟨v, rfl, waits_add hps hsp hb ho (by unfold Wait.fresh; split <;> rfl), hb⟩
theorem write_of_fit (q : Req) (hq : q.wf) (hf : q.fit = true) (w : World) : Calls Try.prog 30 #[reqV q] w (Gives (.tuple #[.string ⟨(reqBytes q).toArray⟩, .int .i64 0]) w) := by
  have h := write_any q hq w
  have e : writeReq q = (reqBytes q, 0) := by unfold writeReq; rw [hf]; rfl
  rw [e] at h
  exact h
theorem repeat_any (c : UInt8) (n : Nat) (hn : n ≤ 5000) (w : World) : Calls Try.prog 29 #[.string ⟨#[c]⟩, .int .i64 (n : Nat)] w (Gives (.string ⟨(List.replicate n c).toArray⟩) w) := by
  have h := Try.strings_Repeat ⟨#[c]⟩ n w (by omega) (by show (1 : Nat) * n ≤ _; omega)
  refine h.mono ?_
  rintro e w' ⟨rfl, hb⟩
  exact ⟨by rw [← repeat_byte c n], hb⟩

set_option maxRecDepth 100000 in
set_option maxHeartbeats 1000000 in
theorem ask_any (m : Mat) (v : Value) (q : Req) (w : World) (h : WaitsAt w v m.waits) (hl : m.waits.length ≤ 8) (hq : q.wf) :
    Calls Try.prog 16 #[.agg (matC m v), reqV q] w (AskEnds m q w) := by
  have HFT := Lib.hid (fun W => fit_any q hq.len W)
  have HFD := Lib.hid (fun W (hb : Below w.heap.size w W) => find_any m v q.cookie W (h.below hb) (by omega))
  have HS := fun x (hx : m.ask q = (m, [], x)) w' hb => ask_same (w' := w') hx h hb
  have HW := Lib.hid (fun (hf : q.fit = true) W => write_of_fit q hq hf W)
  obtain ⟨ad, cap, rfl⟩ := h.form
  obtain ⟨ps, hps, hsl, hsp, _⟩ := h
  have HC := Lib.hid (fun W (hb : Below w.heap.size w W) => clone_waits _ _ _ W (hsl.below hb) (by omega) (by rw [flat_len waitC 10 waitC_len, ← hps]; simp) (waitsRow_one hsp))
  have HA := fun w' v' hr ho hb => ask_added (w := w) (w' := w') (B := w.heap.size) (v := v') (m := m) (q := q) hr hps hsp hb ho
  by_cases hd : m.dead = true
  · have h0 := ask_dead m q hd
    obtain ⟨bf, ch, l, dd⟩ := m
    obtain ⟨fl, kd, ck, fr, ln, d⟩ := q
    dsimp only at hd
    subst hd
    exact askr_dead bf ch ad l.length cap fl kd ck fr ln d 0 w _ (Lib.hid (fun w' hb => HS 24 h0 w' hb))
  · have hd : m.dead = false := by simpa using hd
    by_cases hf : q.fit = true
    · by_cases hlong : q.kind = 0 ∧ 4096 < q.len
      · have h0 := ask_bad m q hd (.inr hlong)
        rw [hf] at HFT
        obtain ⟨bf, ch, l, dd⟩ := m
        obtain ⟨fl, kd, ck, fr, ln, d⟩ := q
        dsimp only at hd hlong
        subst hd
        exact askr_long bf ch ad l.length cap fl kd ck fr ln d 0 w _ (Lib.hid (fun w' hb => HS 25 h0 w' hb)) HFT (by simp [hlong.1]) (by omega)
      · have hnb : ¬ (q.fit = false ∨ (q.kind = 0 ∧ 4096 < q.len)) := fun h => h.elim (fun h => by rw [hf] at h; cases h) hlong
        by_cases hfd : (findW m.waits q.cookie).isSome = true
        · have h0 := ask_twice m q hd hnb hfd
          have hF := findI_some _ _ hfd
          rw [hf] at HFT
          obtain ⟨bf, ch, l, dd⟩ := m
          obtain ⟨fl, kd, ck, fr, ln, d⟩ := q
          dsimp only at hd hlong hF
          subst hd
          by_cases hk : kd = 0
          · exact askr_twice_read bf ch ad l.length cap fl kd ck fr ln d _ w _ (Lib.hid (fun w' hb => HS 20 h0 w' hb)) HFT HFD hF (by simp [hk]) (by omega)
          · exact askr_twice bf ch ad l.length cap fl kd ck fr ln d _ w _ (Lib.hid (fun w' hb => HS 20 h0 w' hb)) HFT HFD hF (by simp [hk])
        · have hF := findI_not _ _ hfd
          by_cases h8 : 8 ≤ m.waits.length
          · have h0 := ask_many m q hd hnb hfd h8
            rw [hf] at HFT
            obtain ⟨bf, ch, l, dd⟩ := m
            obtain ⟨fl, kd, ck, fr, ln, d⟩ := q
            dsimp only at hd hlong hF h8
            subst hd
            by_cases hk : kd = 0
            · exact askr_many_read bf ch ad l.length cap fl kd ck fr ln d _ w _ (Lib.hid (fun w' hb => HS 16 h0 w' hb)) HFT HFD hF h8 (by simp [hk]) (by omega)
            · exact askr_many bf ch ad l.length cap fl kd ck fr ln d _ w _ (Lib.hid (fun w' hb => HS 16 h0 w' hb)) HFT HFD hF h8 (by simp [hk])
          · have h0 := ask_ok m q hd hnb hfd h8
            have HW2 := Lib.hid (HW.out hf)
            rw [hf] at HFT
            obtain ⟨bf, ch, l, dd⟩ := m
            obtain ⟨fl, kd, ck, fr, ln, d⟩ := q
            dsimp only at hd hlong hF h8
            subst hd
            dsimp only at HFD
            rw [hF] at HFD
            by_cases hk : kd = 0
            · refine askg_read bf ch ad l.length cap fl kd ck fr ln d _ (List.replicate ln 0) _ w _ (Lib.hid (fun w' v' ho hb => ?_)) HFT HFD HC HW2 (Lib.hid (fun W => repeat_any 0 ln (by omega) W)) (by simp [hk]) (by omega) (by omega)
              refine HA w' v' h0 ?_ hb
              have e : Wait.fresh ⟨fl, kd, ck, fr, ln, d⟩ = ⟨⟨fl, kd, ck, fr, ln, d⟩, List.replicate ln 0, List.replicate ln 0, [], 0⟩ := by unfold Wait.fresh; rw [if_pos hk]
              rw [e]
              exact ho
            · refine askg bf ch ad l.length cap fl kd ck fr ln d _ _ w _ (Lib.hid (fun w' v' ho hb => ?_)) HFT HFD HC HW2 (by simp [hk]) (by omega)
              refine HA w' v' h0 ?_ hb
              have e : Wait.fresh ⟨fl, kd, ck, fr, ln, d⟩ = ⟨⟨fl, kd, ck, fr, ln, d⟩, [], [], [], 0⟩ := by unfold Wait.fresh; rw [if_neg hk]
              rw [e]
              exact ho
    · have hf : q.fit = false := by simpa using hf
      have h0 := ask_bad m q hd (.inl hf)
      rw [hf] at HFT
      obtain ⟨bf, ch, l, dd⟩ := m
      obtain ⟨fl, kd, ck, fr, ln, d⟩ := q
      dsimp only at hd
      subst hd
      exact askr_unfit bf ch ad l.length cap fl kd ck fr ln d 0 w _ (Lib.hid (fun w' hb => HS 25 h0 w' hb)) HFT

set_option maxRecDepth 100000 in
set_option maxHeartbeats 1000000 in
theorem rask_any (m : Mat) (v : Value) (q : Req) (w : World) (h : WaitsAt w v m.waits) (hl : m.waits.length ≤ 8) (hq : q.wf) (hqd : q.data.length ≤ 9223372036854775807) :
    Calls Try.prog 20 #[.agg (matC m v), reqV q] w (AskEnds m q w) := by
  have HFT := Lib.hid (fun W => rfit_any q hq.len hqd W)
  have HFD := Lib.hid (fun W (hb : Below w.heap.size w W) => rfind_any m v q.cookie W (h.below hb) (by omega))
  have HS := fun x (hx : m.ask q = (m, [], x)) w' hb => ask_same (w' := w') hx h hb
  have HW := Lib.hid (fun (hf : q.fit = true) W => rwrite_any q hq hf W)
  obtain ⟨ad, cap, rfl⟩ := h.form
  obtain ⟨ps, hps, hsl, hsp, _⟩ := h
  have HA := fun w' v' hr ho hb => ask_added (w := w) (w' := w') (B := w.heap.size) (v := v') (m := m) (q := q) hr hps hsp hb ho
  by_cases hd : m.dead = true
  · have h0 := ask_dead m q hd
    obtain ⟨bf, ch, l, dd⟩ := m
    obtain ⟨fl, kd, ck, fr, ln, d⟩ := q
    dsimp only at hd
    subst hd
    exact raskr_dead bf ch ad l.length cap fl kd ck fr ln d 0 w _ (Lib.hid (fun w' hb => HS 24 h0 w' hb))
  · have hd : m.dead = false := by simpa using hd
    by_cases hf : q.fit = true
    · by_cases hlong : q.kind = 0 ∧ 4096 < q.len
      · have h0 := ask_bad m q hd (.inr hlong)
        rw [hf] at HFT
        obtain ⟨bf, ch, l, dd⟩ := m
        obtain ⟨fl, kd, ck, fr, ln, d⟩ := q
        dsimp only at hd hlong
        subst hd
        exact raskr_long bf ch ad l.length cap fl kd ck fr ln d 0 w _ (Lib.hid (fun w' hb => HS 25 h0 w' hb)) HFT (by simp [hlong.1]) (by omega)
      · have hnb : ¬ (q.fit = false ∨ (q.kind = 0 ∧ 4096 < q.len)) := fun h => h.elim (fun h => by rw [hf] at h; cases h) hlong
        by_cases hfd : (findW m.waits q.cookie).isSome = true
        · have h0 := ask_twice m q hd hnb hfd
          have hF := findI_some _ _ hfd
          rw [hf] at HFT
          obtain ⟨bf, ch, l, dd⟩ := m
          obtain ⟨fl, kd, ck, fr, ln, d⟩ := q
          dsimp only at hd hlong hF
          subst hd
          by_cases hk : kd = 0
          · exact raskr_twice_read bf ch ad l.length cap fl kd ck fr ln d _ w _ (Lib.hid (fun w' hb => HS 20 h0 w' hb)) HFT HFD hF (by simp [hk]) (by omega)
          · exact raskr_twice bf ch ad l.length cap fl kd ck fr ln d _ w _ (Lib.hid (fun w' hb => HS 20 h0 w' hb)) HFT HFD hF (by simp [hk])
        · have hF := findI_not _ _ hfd
          by_cases h8 : 8 ≤ m.waits.length
          · have h0 := ask_many m q hd hnb hfd h8
            rw [hf] at HFT
            obtain ⟨bf, ch, l, dd⟩ := m
            obtain ⟨fl, kd, ck, fr, ln, d⟩ := q
            dsimp only at hd hlong hF h8
            subst hd
            by_cases hk : kd = 0
            · exact raskr_many_read bf ch ad l.length cap fl kd ck fr ln d _ w _ (Lib.hid (fun w' hb => HS 16 h0 w' hb)) HFT HFD hF h8 (by simp [hk]) (by omega)
            · exact raskr_many bf ch ad l.length cap fl kd ck fr ln d _ w _ (Lib.hid (fun w' hb => HS 16 h0 w' hb)) HFT HFD hF h8 (by simp [hk])
          · have h0 := ask_ok m q hd hnb hfd h8
            have HW2 := Lib.hid (HW.out hf)
            rw [hf] at HFT
            obtain ⟨bf, ch, l, dd⟩ := m
            obtain ⟨fl, kd, ck, fr, ln, d⟩ := q
            dsimp only at hd hlong hF h8
            subst hd
            dsimp only at HFD
            rw [hF] at HFD
            have hpl : ps.length = l.length := by have := congrArg List.length hps; simpa using this
            have hcs : (ps.flatMap waitC).length = l.length * 10 := by rw [flat_len waitC 10 waitC_len, hpl]
            have hone := waitsRow_one hsp
            rcases hsl with ⟨hv, hn0, hcs0⟩ | ⟨a, cap', hv, hs, hc⟩
            · simp only [Value.slice.injEq] at hv
              obtain ⟨rfl, hn1, rfl⟩ := hv
              have hl0 : l = [] := List.length_eq_zero_iff.1 hn0
              subst hl0
              rw [hcs0] at HA
              simp only [List.length_nil] at HA HFD hn1 ⊢
              by_cases hk : kd = 0
              · refine raskg_read_none bf ch fl kd ck fr ln d _ (List.replicate ln 0) w _ (Lib.hid (fun w' v' ho hb => ?_)) HFT HFD HW2 (by simp [hk]) (by omega) (Lib.hid rfl)
                refine HA w' v' h0 ?_ hb
                have e : Wait.fresh ⟨fl, kd, ck, fr, ln, d⟩ = ⟨⟨fl, kd, ck, fr, ln, d⟩, List.replicate ln 0, List.replicate ln 0, [], 0⟩ := by unfold Wait.fresh; rw [if_pos hk]
                rw [e]
                exact ho
              · refine raskg_none bf ch fl kd ck fr ln d _ w _ (Lib.hid (fun w' v' ho hb => ?_)) HFT HFD HW2 (by simp [hk])
                refine HA w' v' h0 ?_ hb
                have e : Wait.fresh ⟨fl, kd, ck, fr, ln, d⟩ = ⟨⟨fl, kd, ck, fr, ln, d⟩, [], [], [], 0⟩ := by unfold Wait.fresh; rw [if_neg hk]
                rw [e]
                exact ho
            · simp only [Value.slice.injEq] at hv
              obtain ⟨rfl, _, rfl⟩ := hv
              have HCA : Hid (∀ W, Below w.heap.size w W → ∀ j u, (ps.flatMap waitC)[j]? = some u → W.cell? (a.add j) = some u) := Lib.hid (fun W hb j u hu => cell_keepS (hc j u hu) hb)
              by_cases hk : kd = 0
              · refine raskg_read bf ch a l.length _ fl kd ck fr ln d _ (List.replicate ln 0) (ps.flatMap waitC) w _ (Lib.hid (fun w' v' ho hb => ?_)) HFT HFD HW2 (by simp [hk]) (by omega) (Lib.hid rfl) (by omega) hcs hone HCA
                refine HA w' v' h0 ?_ hb
                have e : Wait.fresh ⟨fl, kd, ck, fr, ln, d⟩ = ⟨⟨fl, kd, ck, fr, ln, d⟩, List.replicate ln 0, List.replicate ln 0, [], 0⟩ := by unfold Wait.fresh; rw [if_pos hk]
                rw [e]
                exact ho
              · refine raskg bf ch a l.length _ fl kd ck fr ln d _ (ps.flatMap waitC) w _ (Lib.hid (fun w' v' ho hb => ?_)) HFT HFD HW2 (by simp [hk]) (by omega) hcs hone HCA
                refine HA w' v' h0 ?_ hb
                have e : Wait.fresh ⟨fl, kd, ck, fr, ln, d⟩ = ⟨⟨fl, kd, ck, fr, ln, d⟩, [], [], [], 0⟩ := by unfold Wait.fresh; rw [if_neg hk]
                rw [e]
                exact ho
    · have hf : q.fit = false := by simpa using hf
      have h0 := ask_bad m q hd (.inl hf)
      rw [hf] at HFT
      obtain ⟨bf, ch, l, dd⟩ := m
      obtain ⟨fl, kd, ck, fr, ln, d⟩ := q
      dsimp only at hd
      subst hd
      exact raskr_unfit bf ch ad l.length cap fl kd ck fr ln d 0 w _ (Lib.hid (fun w' hb => HS 25 h0 w' hb)) HFT

end Go.Proofs.Ytfcojhpnpfodeaa
