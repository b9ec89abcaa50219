/- Is a context wanted. -/
import Derived.Test.YteljplpiojdikaaNegName
namespace Go.Proofs.Yteljplpiojdikaa
open Go.RowKit

theorem indexByte_mem (l : List UInt8) (c : UInt8) (h : c ∈ l) : Lib.indexByte l c = (l.idxOf c : Nat) := by
  induction l with
  | nil => simp at h
  | cons a l ih =>
    unfold Lib.indexByte
    rw [List.idxOf_cons]
    by_cases e : a = c
    · simp [e]
    · have h2 : c ∈ l := by
        rcases List.mem_cons.1 h with h | h
        · exact absurd h.symm e
        · exact h
      have e1 : (a == c) = false := by simpa using e
      rw [e1]
      have i1 := ih h2
      have i2 : (Lib.indexByte l c == -1) = false := by rw [i1]; simp
      simp only [i2, Bool.false_eq_true, ↓reduceIte, cond_false]
      rw [i1]
      simp
theorem index58 (c : List UInt8) (h : 58 ∈ c) (w : World) : Calls Try.prog 75 #[.string ⟨c.toArray⟩, .int .u8 58] w fun e w' => e = .returned (.int .i64 (c.idxOf 58 : Nat)) ∧ w' = w := by
  refine (Try.strings_IndexByte ⟨c.toArray⟩ 58 w).mono ?_
  rintro e w' ⟨rfl, rfl⟩
  refine ⟨?_, rfl⟩
  rw [show (⟨c.toArray⟩ : ByteArray).data.toList = c from rfl, show (58 : Int).toNat.toUInt8 = 58 from rfl, indexByte_mem c 58 h]

section
variable (W0 : World) (b : Nat) (K : Held) (sz : Nat) (maps : List (List UInt8)) (w : World) (n : Neg) (out : List UInt8) (ok : Nat) (od : List UInt8)

set_option maxRecDepth 100000 in
set_option maxHeartbeats 1000000 in
theorem wanted_any (c : List UInt8) (q : List (List UInt8)) (vq : Value) (h58 : 58 ∈ c) (hcl : c.length ≤ 100000) (hq : SlAt w vq q.length (cellsS q)) (hql : q.length ≤ 1000000) (hw : NWrk W0 b K sz maps w n out ok od) :
    Calls Try.prog 67 #[.pointer (some ⟨b, 0, none⟩), .string ⟨c.toArray⟩, vq] w (Gives (.bool (wantedC ok c q)) w) := by
  obtain ⟨ki, hki⟩ : ∃ ki : Int, (ok : Int) = ki := ⟨_, rfl⟩
  have c7 : w.cell? ⟨b, 7, none⟩ = some (.int .u32 ki) := by obtain ⟨_, _, _, _, h1, _⟩ := hw; exact nwrk_cell7 h1 ki hki
  have HC := Lib.hid (fun W (hb : Below w.heap.size w W) (x : List UInt8) => contains_strs vq q x W (hq.below hb) hql)
  obtain ⟨vqa, vqc, rfl⟩ := hq.form
  have HI := Lib.hid (fun W => index58 c h58 W)
  have hlt : c.idxOf 58 < c.length := List.idxOf_lt_length_of_mem h58
  obtain ⟨i, hi⟩ : ∃ i, c.idxOf 58 = i := ⟨_, rfl⟩
  have HW : Hid (wantedC ok c q = (decide (c ∈ q) || (decide (ok = 9) && (decide (q = []) || decide (c.take (i + 1) ∈ q))))) := Lib.hid (by unfold wantedC; rw [hi])
  rw [hi] at HI hlt
  generalize wantedC ok c q = R at HW ⊢
  have HKI := Lib.hid hki
  clear hw hq h58 hi hki
  have l1 : (i : Int) + 1 ≤ (c.length : Int) := by omega
  have hw1 : wrap64 ((i : Int) + 1) = (i : Int) + 1 := by unfold wrap64; omega
  go_enter Try.func67, Try.ntmps67
  go_wp2_with fail
  refine (HC.out _ (Below.refl _ _) c).mono ?_
  rintro e w1 ⟨r, rfl, hr, hb1⟩
  have HR := Lib.hid hr
  clear hr
  cases r with
  | true =>
    go_wp2
    go_ret
    have HX : R = true := by rw [HW.out, decide_eq_true (HR.out.1 (by simp))]; rfl
    exact ⟨by rw [HX]; rfl, hb1⟩
  | false =>
    have HN : Hid (decide (c ∈ q) = false) := Lib.hid (decide_eq_false fun h => by simpa using HR.out.2 h)
    have c7' := cell_keepS c7 hb1
    clear c7
    go_wp2_with fail
    refine (HI.out _).mono ?_
    rintro e w2 ⟨rfl, rfl⟩
    by_cases h9 : ok = 9
    · have e1 : (ki == 9) = true := by rw [← HKI.out, beq_iff_eq]; omega
      by_cases hz : q = []
      · have e2 : ((q.length : Int) == 0) = true := by simp [hz]
        have HX : Hid (R = true) := Lib.hid (by rw [HW.out, HN.out, decide_eq_true h9, decide_eq_true hz]; rfl)
        clear h9 hz HW HN
        go_wp2_with fail
        all_goals go_ret
        all_goals exact ⟨by rw [HX.out]; first | rfl | simp, hb1⟩
      · have e2 : ((q.length : Int) == 0) = false := by
          have : q.length ≠ 0 := by simpa using hz
          rw [beq_eq_false_iff_ne]; omega
        have HX : Hid (R = decide (c.take (i + 1) ∈ q)) := Lib.hid (by rw [HW.out, HN.out, decide_eq_true h9, decide_eq_false hz]; rfl)
        clear h9 hz HW HN
        go_wp2_with fail
        refine (HC.out _ hb1 (c.take (i + 1))).mono ?_
        rintro e w3 ⟨r2, rfl, hr2, hb3⟩
        have b3 := below_next hb1 hb3
        have HX2 : Hid (R = r2) := Lib.hid (by rw [HX.out]; cases r2 with
          | true => exact decide_eq_true (hr2.1 rfl)
          | false => exact decide_eq_false (fun h => by simpa using hr2.2 h))
        clear hb3 hr2
        go_wp2_with fail
        all_goals go_ret
        all_goals exact ⟨by rw [HX2.out]; first | rfl | simp, b3⟩
    · have e1 : (ki == 9) = false := by rw [← HKI.out, beq_eq_false_iff_ne]; omega
      have HX : Hid (R = false) := Lib.hid (by rw [HW.out, HN.out, decide_eq_false h9]; rfl)
      clear h9 HW HN
      go_wp2_with fail
      go_ret
      exact ⟨by rw [HX.out]; first | rfl | simp, hb1⟩
end
end Go.Proofs.Yteljplpiojdikaa
