/- nego.Meta, nego.Asks, and the document's. -/
import Derived.Test.YteljplpiojdikaaNegToAsks
import Derived.Test.YteljplpiojdikaaNegSame
import Derived.Test.YteljplpiojdikaaNOptWrite
import Derived.Test.YteljplpiojdikaaNOptRef
namespace Go.Proofs.Yteljplpiojdikaa
open Go.RowKit

def cellsZ (l : List Int) : List Value := l.map fun x => .int .i64 x
theorem cellsZ_at (l : List Int) (k : Nat) (x : Int) (h : l[k]? = some x) : (cellsZ l)[k]? = some (.int .i64 x) := by simp [cellsZ, h]
theorem cellsI_Z (l : List Nat) : cellsI l = cellsZ (l.map Int.ofNat) := by simp [cellsI, cellsZ]
def asksZ (name : List UInt8) (l : List Int) : List UInt8 := beginB name ++ be 2 l.length ++ l.flatMap fun i => be 2 (IntKind.u64.wrap i).toNat
theorem u64_nat (i : Int) : ∃ n : Nat, IntKind.u64.wrap i = (n : Int) ∧ (IntKind.u64.wrap i).toNat = n ∧ n < 18446744073709551616 := by
  have h : 0 ≤ IntKind.u64.wrap i ∧ IntKind.u64.wrap i < 18446744073709551616 := by rw [IntKind.wrap_u64]; omega
  exact ⟨(IntKind.u64.wrap i).toNat, by omega, rfl, by omega⟩
/-- A row of texts, one behind the other: one more. -/
theorem flat_one {α : Type} (f : α → List UInt8) (l : List α) (k : Nat) (x : α) (h : l[k]? = some x) : (l.take (k + 1)).flatMap f = (l.take k).flatMap f ++ f x := by
  rw [List.take_add_one, h]
  simp

set_option maxRecDepth 100000 in
set_option maxHeartbeats 1000000 in
theorem meta_any (name : List UInt8) (v : Value) (l : List (List UInt8)) (w : World) (h : SlAt w v l.length (cellsS l)) (hl : l.length ≤ 20000) (hn : name.length ≤ 20000) (hx : ∀ x ∈ l, x.length ≤ 20000) :
    Calls Try.prog 15 #[.string ⟨name.toArray⟩, v] w (Gives (.string ⟨(metaB name l).toArray⟩) w) := by
  have mixed : Try.prog.follows .mixedOrders = true := by kernel_rfl
  obtain ⟨ad, cap, rfl⟩ := h.form
  have H := Lib.hid h
  clear h
  have HQ : Hid (∀ (q : List UInt8) (_ : q.length ≤ 20000) W, Calls Try.prog 30 #[.string ⟨q.toArray⟩] W (Gives (.string ⟨(beginB q).toArray⟩) W)) := Lib.hid (fun q hq W => begin_any q (by omega) W)
  have HP := Lib.hid (fun W => put_any l.length 4 (by decide) (by decide) W)
  have HL := Lib.hid (show ∀ k, k < l.length → ∃ q, l[k]? = some q ∧ q.length ≤ 20000 from fun k hk => ⟨_, List.getElem?_eq_getElem hk, hx _ (List.getElem_mem hk)⟩)
  obtain ⟨n, hnl⟩ : ∃ n, l.length = n := ⟨_, rfl⟩
  have HN := Lib.hid hnl
  obtain ⟨R, hR⟩ : ∃ R, R = metaB name l := ⟨_, rfl⟩
  have HR : Hid (R = beginB name ++ be 4 n ++ l.flatMap beginB) := Lib.hid (by rw [hR, ← hnl]; rfl)
  rw [← hR]
  rw [hnl] at hl HP ⊢
  clear hnl hR hx
  have hbl : (beginB name).length = 4 + name.length := by simp [beginB, be_length]
  have hb4 : (be 4 n).length = 4 := be_length _ _
  go_enter Try.func15, Try.ntmps15
  go_wp2_with fail
  refine (HQ.out _ hn _).mono ?_
  rintro e w1 ⟨rfl, hb1⟩
  go_wp2_with fail
  refine (HP.out _).mono ?_
  rintro e w2 ⟨rfl, hb2⟩
  have b2 := below_next hb1 hb2
  clear hb1 hb2 HP
  generalize beginB name = B at *
  generalize be 4 n = C at *
  go_wp2_with fail
  go_loopw [5, 17] (fun a i wr => ∃ k : Nat, ∃ acc : List UInt8, k ≤ n ∧ i = .int .i64 k ∧ a = .string ⟨acc.toArray⟩ ∧ acc.length ≤ 30000 + 30000 * k ∧ Hid (acc = B ++ C ++ (l.take k).flatMap beginB) ∧ Below w.heap.size w wr) (fun _ i _ => n - (intOf i).toNat)
  case atStart => exact ⟨0, B ++ C, Nat.zero_le _, rfl, by simp, by rw [List.length_append]; omega, Lib.hid (by simp), b2⟩
  case round =>
    obtain ⟨k, acc, hk, rfl, rfl, ha, hacc, hbw⟩ := hrel
    clear b2
    by_cases hlt : k < n
    · have k1 : (k : Int) < (n : Int) := by omega
      have k0 : (0 : Int) ≤ (k : Int) := by omega
      obtain ⟨q, hq, hql⟩ := HL.out k (by rw [HN.out]; exact hlt)
      obtain ⟨b, o, rfl, A⟩ := (HN.out ▸ H.out).addr (cellsS_at l k q hq)
      have a0 := cell_keepS (A k _ (cellsS_at l k q hq)) hbw
      have HS := Lib.hid (flat_one beginB l k q hq)
      have hil : (beginB q).length = 4 + q.length := by simp [beginB, be_length]
      clear A hq
      go_wp2_with fail
      refine (HQ.out q hql _).mono ?_
      rintro e w3 ⟨rfl, hb3⟩
      have b3 := below_next hbw hb3
      clear hb3 a0 hbw
      obtain ⟨Z, hZ⟩ : ∃ Z, Z = beginB q := ⟨_, rfl⟩
      have HZ := Lib.hid hZ
      rw [← hZ] at hil ⊢
      clear hZ
      go_wp2_with fail
      go_roundw
      case rel => exact ⟨k + 1, acc ++ Z, by omega, by go_num, by simp, by rw [List.length_append]; omega, Lib.hid (by rw [HS.out, hacc.out, HZ.out]; simp), b3⟩
      case measure => simp [intOf]; omega
    · obtain rfl : k = n := by omega
      have k1 : ¬ (k : Int) < (k : Int) := by omega
      have HE : Hid (acc = R) := Lib.hid (by rw [hacc.out, HR.out, List.take_of_length_le (by rw [HN.out]; omega)])
      clear hacc
      go_wp2_with fail
      go_ret
      exact ⟨by rw [HE.out]; rfl, hbw⟩

set_option maxRecDepth 100000 in
set_option maxHeartbeats 1000000 in
theorem rmeta_any (name : List UInt8) (v : Value) (l : List (List UInt8)) (w : World) (h : SlAt w v l.length (cellsS l)) (hl : l.length ≤ 20000) (hn : name.length ≤ 20000) (hx : ∀ x ∈ l, x.length ≤ 20000) :
    Calls Try.prog 16 #[.string ⟨name.toArray⟩, v] w (Gives (.string ⟨(metaB name l).toArray⟩) w) := by
  have mixed : Try.prog.follows .mixedOrders = true := by kernel_rfl
  obtain ⟨ad, cap, rfl⟩ := h.form
  have H := Lib.hid h
  clear h
  have HQ : Hid (∀ (q : List UInt8) (_ : q.length ≤ 20000) W, Calls Try.prog 32 #[.string ⟨q.toArray⟩] W (Gives (.string ⟨(beginB q).toArray⟩) W)) := Lib.hid (fun q hq W => rbegin q hq W)
  have HP := Lib.hid (fun W => rput_any l.length 4 (by omega) (by decide) (by decide) W)
  have HL := Lib.hid (show ∀ k, k < l.length → ∃ q, l[k]? = some q ∧ q.length ≤ 20000 from fun k hk => ⟨_, List.getElem?_eq_getElem hk, hx _ (List.getElem_mem hk)⟩)
  obtain ⟨n, hnl⟩ : ∃ n, l.length = n := ⟨_, rfl⟩
  have HN := Lib.hid hnl
  obtain ⟨R, hR⟩ : ∃ R, R = metaB name l := ⟨_, rfl⟩
  have HR : Hid (R = beginB name ++ be 4 n ++ l.flatMap beginB) := Lib.hid (by rw [hR, ← hnl]; rfl)
  rw [← hR]
  rw [hnl] at hl HP ⊢
  clear hnl hR hx
  have hbl : (beginB name).length = 4 + name.length := by simp [beginB, be_length]
  have hb4 : (be 4 n).length = 4 := be_length _ _
  go_enter Try.func16, Try.ntmps16
  go_wp2_with fail
  refine (HQ.out _ hn _).mono ?_
  rintro e w1 ⟨rfl, hb1⟩
  go_wp2_with fail
  refine (HP.out _).mono ?_
  rintro e w2 ⟨rfl, hb2⟩
  have b2 := below_next hb1 hb2
  clear hb1 hb2 HP
  generalize beginB name = B at *
  generalize be 4 n = C at *
  go_wp2_with fail
  go_loopw [5, 6] (fun a i wr => ∃ k : Nat, ∃ acc : List UInt8, k ≤ n ∧ i = .int .i64 k ∧ a = .string ⟨acc.toArray⟩ ∧ acc.length ≤ 30000 + 30000 * k ∧ Hid (acc = B ++ C ++ (l.take k).flatMap beginB) ∧ Below w.heap.size w wr) (fun _ i _ => n - (intOf i).toNat)
  case atStart => exact ⟨0, B ++ C, Nat.zero_le _, rfl, by simp, by rw [List.length_append]; omega, Lib.hid (by simp), b2⟩
  case round =>
    obtain ⟨k, acc, hk, rfl, rfl, ha, hacc, hbw⟩ := hrel
    clear b2
    by_cases hlt : k < n
    · have k1 : (k : Int) < (n : Int) := by omega
      have k0 : (0 : Int) ≤ (k : Int) := by omega
      obtain ⟨q, hq, hql⟩ := HL.out k (by rw [HN.out]; exact hlt)
      obtain ⟨b, o, rfl, A⟩ := (HN.out ▸ H.out).addr (cellsS_at l k q hq)
      have a0 := cell_keepS (A k _ (cellsS_at l k q hq)) hbw
      have HS := Lib.hid (flat_one beginB l k q hq)
      have hil : (beginB q).length = 4 + q.length := by simp [beginB, be_length]
      clear A hq
      go_wp2_with fail
      refine (HQ.out q hql _).mono ?_
      rintro e w3 ⟨rfl, hb3⟩
      have b3 := below_next hbw hb3
      clear hb3 a0 hbw
      obtain ⟨Z, hZ⟩ : ∃ Z, Z = beginB q := ⟨_, rfl⟩
      have HZ := Lib.hid hZ
      rw [← hZ] at hil ⊢
      clear hZ
      go_wp2_with fail
      go_roundw
      case rel => exact ⟨k + 1, acc ++ Z, by omega, by go_num, by simp, by rw [List.length_append]; omega, Lib.hid (by rw [HS.out, hacc.out, HZ.out]; simp), b3⟩
      case measure => simp [intOf]; omega
    · obtain rfl : k = n := by omega
      have k1 : ¬ (k : Int) < (k : Int) := by omega
      have HE : Hid (acc = R) := Lib.hid (by rw [hacc.out, HR.out, List.take_of_length_le (by rw [HN.out]; omega)])
      clear hacc
      go_wp2_with fail
      go_ret
      exact ⟨by rw [HE.out]; rfl, hbw⟩

set_option maxRecDepth 100000 in
set_option maxHeartbeats 1000000 in
theorem asks_any (name : List UInt8) (v : Value) (l : List Int) (w : World) (h : SlAt w v l.length (cellsZ l)) (hl : l.length ≤ 20000) (hn : name.length ≤ 20000) :
    Calls Try.prog 17 #[.string ⟨name.toArray⟩, v] w (Gives (.string ⟨(asksZ name l).toArray⟩) w) := by
  have mixed : Try.prog.follows .mixedOrders = true := by kernel_rfl
  obtain ⟨ad, cap, rfl⟩ := h.form
  have H := Lib.hid h
  clear h
  have HQ : Hid (∀ (q : List UInt8) (_ : q.length ≤ 20000) W, Calls Try.prog 30 #[.string ⟨q.toArray⟩] W (Gives (.string ⟨(beginB q).toArray⟩) W)) := Lib.hid (fun q hq W => begin_any q (by omega) W)
  have HP := Lib.hid (fun W => put_any l.length 2 (by decide) (by decide) W)
  have HI : Hid (∀ (n : Nat) (_ : n < 18446744073709551616) W, Calls Try.prog 31 #[.int .u64 n, .int .i64 2] W (Gives (.string ⟨(be 2 n).toArray⟩) W)) := Lib.hid (fun n hn W => put_any n 2 (by decide) (by decide) W)
  have HL := Lib.hid (show ∀ k, k < l.length → ∃ q, l[k]? = some q from fun k hk => ⟨_, List.getElem?_eq_getElem hk⟩)
  obtain ⟨n, hnl⟩ : ∃ n, l.length = n := ⟨_, rfl⟩
  have HN := Lib.hid hnl
  obtain ⟨R, hR⟩ : ∃ R, R = asksZ name l := ⟨_, rfl⟩
  have HR : Hid (R = beginB name ++ be 2 n ++ l.flatMap (fun i => be 2 (IntKind.u64.wrap i).toNat)) := Lib.hid (by rw [hR, ← hnl]; rfl)
  rw [← hR]
  rw [hnl] at hl HP ⊢
  clear hnl hR
  have hbl : (beginB name).length = 4 + name.length := by simp [beginB, be_length]
  have hb4 : (be 2 n).length = 2 := be_length _ _
  go_enter Try.func17, Try.ntmps17
  go_wp2_with fail
  refine (HQ.out _ hn _).mono ?_
  rintro e w1 ⟨rfl, hb1⟩
  go_wp2_with fail
  refine (HP.out _).mono ?_
  rintro e w2 ⟨rfl, hb2⟩
  have b2 := below_next hb1 hb2
  clear hb1 hb2 HP
  generalize beginB name = B at *
  generalize be 2 n = C at *
  go_wp2_with fail
  go_loopw [5, 17] (fun a i wr => ∃ k : Nat, ∃ acc : List UInt8, k ≤ n ∧ i = .int .i64 k ∧ a = .string ⟨acc.toArray⟩ ∧ acc.length ≤ 30000 + 30000 * k ∧ Hid (acc = B ++ C ++ (l.take k).flatMap (fun i => be 2 (IntKind.u64.wrap i).toNat)) ∧ Below w.heap.size w wr) (fun _ i _ => n - (intOf i).toNat)
  case atStart => exact ⟨0, B ++ C, Nat.zero_le _, rfl, by simp, by rw [List.length_append]; omega, Lib.hid (by simp), b2⟩
  case round =>
    obtain ⟨k, acc, hk, rfl, rfl, ha, hacc, hbw⟩ := hrel
    clear b2
    by_cases hlt : k < n
    · have k1 : (k : Int) < (n : Int) := by omega
      have k0 : (0 : Int) ≤ (k : Int) := by omega
      obtain ⟨q, hq⟩ := HL.out k (by rw [HN.out]; exact hlt)
      obtain ⟨b, o, rfl, A⟩ := (HN.out ▸ H.out).addr (cellsZ_at l k q hq)
      have a0 := cell_keepS (A k _ (cellsZ_at l k q hq)) hbw
      have HS := Lib.hid (flat_one (fun i => be 2 (IntKind.u64.wrap i).toNat) l k q hq)
      obtain ⟨m, hm, hm2, hm3⟩ := u64_nat q
      have hil : (be 2 m).length = 2 := be_length _ _
      have HM := Lib.hid hm2
      clear hm2
      clear A hq
      go_wp2_with fail
      refine (HI.out m hm3 _).mono ?_
      rintro e w3 ⟨rfl, hb3⟩
      have b3 := below_next hbw hb3
      clear hb3 a0 hbw
      obtain ⟨Z, hZ⟩ : ∃ Z, Z = be 2 m := ⟨_, rfl⟩
      have HZ := Lib.hid hZ
      rw [← hZ] at hil ⊢
      clear hZ
      go_wp2_with fail
      go_roundw
      case rel => exact ⟨k + 1, acc ++ Z, by omega, by go_num, by simp, by rw [List.length_append]; omega, Lib.hid (by rw [HS.out, hacc.out, HZ.out, ← HM.out]; simp), b3⟩
      case measure => simp [intOf]; omega
    · obtain rfl : k = n := by omega
      have k1 : ¬ (k : Int) < (k : Int) := by omega
      have HE : Hid (acc = R) := Lib.hid (by rw [hacc.out, HR.out, List.take_of_length_le (by rw [HN.out]; omega)])
      clear hacc
      go_wp2_with fail
      go_ret
      exact ⟨by rw [HE.out]; rfl, hbw⟩

set_option maxRecDepth 100000 in
set_option maxHeartbeats 1000000 in
theorem rasks_any (name : List UInt8) (v : Value) (l : List Int) (w : World) (h : SlAt w v l.length (cellsZ l)) (hl : l.length ≤ 20000) (hn : name.length ≤ 20000) :
    Calls Try.prog 18 #[.string ⟨name.toArray⟩, v] w (Gives (.string ⟨(asksZ name l).toArray⟩) w) := by
  have mixed : Try.prog.follows .mixedOrders = true := by kernel_rfl
  obtain ⟨ad, cap, rfl⟩ := h.form
  have H := Lib.hid h
  clear h
  have HQ : Hid (∀ (q : List UInt8) (_ : q.length ≤ 20000) W, Calls Try.prog 32 #[.string ⟨q.toArray⟩] W (Gives (.string ⟨(beginB q).toArray⟩) W)) := Lib.hid (fun q hq W => rbegin q hq W)
  have HP := Lib.hid (fun W => rput_any l.length 2 (by omega) (by decide) (by decide) W)
  have HI : Hid (∀ (n : Nat) (_ : n < 18446744073709551616) W, Calls Try.prog 33 #[.int .u64 n, .int .i64 2] W (Gives (.string ⟨(be 2 n).toArray⟩) W)) := Lib.hid (fun n hn W => rput_any n 2 hn (by decide) (by decide) W)
  have HL := Lib.hid (show ∀ k, k < l.length → ∃ q, l[k]? = some q from fun k hk => ⟨_, List.getElem?_eq_getElem hk⟩)
  obtain ⟨n, hnl⟩ : ∃ n, l.length = n := ⟨_, rfl⟩
  have HN := Lib.hid hnl
  obtain ⟨R, hR⟩ : ∃ R, R = asksZ name l := ⟨_, rfl⟩
  have HR : Hid (R = beginB name ++ be 2 n ++ l.flatMap (fun i => be 2 (IntKind.u64.wrap i).toNat)) := Lib.hid (by rw [hR, ← hnl]; rfl)
  rw [← hR]
  rw [hnl] at hl HP ⊢
  clear hnl hR
  have hbl : (beginB name).length = 4 + name.length := by simp [beginB, be_length]
  have hb4 : (be 2 n).length = 2 := be_length _ _
  go_enter Try.func18, Try.ntmps18
  go_wp2_with fail
  refine (HQ.out _ hn _).mono ?_
  rintro e w1 ⟨rfl, hb1⟩
  go_wp2_with fail
  refine (HP.out _).mono ?_
  rintro e w2 ⟨rfl, hb2⟩
  have b2 := below_next hb1 hb2
  clear hb1 hb2 HP
  generalize beginB name = B at *
  generalize be 2 n = C at *
  go_wp2_with fail
  go_loopw [5, 6] (fun a i wr => ∃ k : Nat, ∃ acc : List UInt8, k ≤ n ∧ i = .int .i64 k ∧ a = .string ⟨acc.toArray⟩ ∧ acc.length ≤ 30000 + 30000 * k ∧ Hid (acc = B ++ C ++ (l.take k).flatMap (fun i => be 2 (IntKind.u64.wrap i).toNat)) ∧ Below w.heap.size w wr) (fun _ i _ => n - (intOf i).toNat)
  case atStart => exact ⟨0, B ++ C, Nat.zero_le _, rfl, by simp, by rw [List.length_append]; omega, Lib.hid (by simp), b2⟩
  case round =>
    obtain ⟨k, acc, hk, rfl, rfl, ha, hacc, hbw⟩ := hrel
    clear b2
    by_cases hlt : k < n
    · have k1 : (k : Int) < (n : Int) := by omega
      have k0 : (0 : Int) ≤ (k : Int) := by omega
      obtain ⟨q, hq⟩ := HL.out k (by rw [HN.out]; exact hlt)
      obtain ⟨b, o, rfl, A⟩ := (HN.out ▸ H.out).addr (cellsZ_at l k q hq)
      have a0 := cell_keepS (A k _ (cellsZ_at l k q hq)) hbw
      have HS := Lib.hid (flat_one (fun i => be 2 (IntKind.u64.wrap i).toNat) l k q hq)
      obtain ⟨m, hm, hm2, hm3⟩ := u64_nat q
      have hil : (be 2 m).length = 2 := be_length _ _
      have HM := Lib.hid hm2
      clear hm2
      clear A hq
      go_wp2_with fail
      refine (HI.out m hm3 _).mono ?_
      rintro e w3 ⟨rfl, hb3⟩
      have b3 := below_next hbw hb3
      clear hb3 a0 hbw
      obtain ⟨Z, hZ⟩ : ∃ Z, Z = be 2 m := ⟨_, rfl⟩
      have HZ := Lib.hid hZ
      rw [← hZ] at hil ⊢
      clear hZ
      go_wp2_with fail
      go_roundw
      case rel => exact ⟨k + 1, acc ++ Z, by omega, by go_num, by simp, by rw [List.length_append]; omega, Lib.hid (by rw [HS.out, hacc.out, HZ.out, ← HM.out]; simp), b3⟩
      case measure => simp [intOf]; omega
    · obtain rfl : k = n := by omega
      have k1 : ¬ (k : Int) < (k : Int) := by omega
      have HE : Hid (acc = R) := Lib.hid (by rw [hacc.out, HR.out, List.take_of_length_le (by rw [HN.out]; omega)])
      clear hacc
      go_wp2_with fail
      go_ret
      exact ⟨by rw [HE.out]; rfl, hbw⟩

end Go.Proofs.Yteljplpiojdikaa
