/- What asks for contexts and for an export (nego.Meta, nego.Asks without numbers), a copy of contexts, the law's short. -/
import Derived.Test.YtcmgecojhjdjkaaStrs
import Derived.Test.YtcmgecojhjdjkaaHOptWrite
import Derived.Test.YtcmgecojhjdjkaaHelSpec
namespace Go.Proofs.Ytcmgecojhjdjkaa
open Go.RowKit

def upMeta (l : List (List UInt8)) (k : Nat) : List UInt8 := beginB disk ++ be 4 l.length ++ (l.take k).flatMap beginB
theorem upMeta_succ (l : List (List UInt8)) (k : Nat) (q : List UInt8) (h : l[k]? = some q) : upMeta l k ++ beginB q = upMeta l (k + 1) := by
  unfold upMeta
  rw [List.take_add_one, List.flatMap_append, h]
  simp

theorem begins_length (l : List (List UInt8)) (hq : ∀ x ∈ l, x.length ≤ 20000) : (l.flatMap beginB).length ≤ l.length * 20004 := by
  induction l with
  | nil => simp
  | cons a l ih =>
    have h1 := hq a (by simp)
    have h2 := ih (fun x hx => hq x (by simp [hx]))
    rw [List.flatMap_cons, List.length_append, List.length_cons]
    have h3 : (beginB a).length = 4 + a.length := by simp [beginB, be_length]
    omega
theorem upMeta_length (l : List (List UInt8)) (k : Nat) (hl : l.length ≤ 100) (hq : ∀ x ∈ l, x.length ≤ 20000) : (upMeta l k).length ≤ 3000000 := by
  have h1 := begins_length (l.take k) (fun x hx => hq x (List.mem_of_mem_take hx))
  have h2 : (beginB disk).length = 8 := by decide
  unfold upMeta
  rw [List.length_append, List.length_append, h2, be_length]
  rw [List.length_take] at h1
  have : min k l.length ≤ 100 := by omega
  omega

set_option maxRecDepth 100000 in
set_option maxHeartbeats 1000000 in
theorem meta_any (v : Value) (l : List (List UInt8)) (w : World) (h : SlAt w v l.length (cellsS l)) (hl : l.length ≤ 100) (hq : ∀ x ∈ l, x.length ≤ 20000) :
    Calls Try.prog 28 #[.string ⟨#[100, 105, 115, 107]⟩, v] w (Gives (.string ⟨(metaB l).toArray⟩) w) := by
  obtain ⟨ad, cap, rfl⟩ := h.form
  have H := Lib.hid h
  clear h
  have HL := Lib.hid (show ∀ k, k < l.length → ∃ q, l[k]? = some q ∧ q.length ≤ 20000 from fun k hk => ⟨_, List.getElem?_eq_getElem hk, hq _ (List.getElem_mem hk)⟩)
  have HB := Lib.hid (fun W => begin_any disk (by decide) W)
  have HP := Lib.hid (fun W => put_int (l.length : Int) 4 (by omega) (by decide) (by decide) W)
  have HQ : Hid (∀ (q : List UInt8) (_ : q.length ≤ 20000) W, Calls Try.prog 42 #[.string ⟨q.toArray⟩] W (Gives (.string ⟨(beginB q).toArray⟩) W)) := Lib.hid (fun q hq W => begin_any q (by omega) W)
  simp only [show (4 : Int).toNat = 4 from rfl, Int.toNat_natCast] at HP
  have HS := Lib.hid (fun k q h => upMeta_succ l k q h)
  have HU := Lib.hid (fun k => upMeta_length l k hl hq)
  have h8 : (beginB disk).length = 8 := by decide
  have hbl : (be 4 l.length).length = 4 := be_length _ _
  have HF : Hid (metaB l = upMeta l l.length) := Lib.hid (by unfold metaB upMeta; rw [List.take_length])
  have H0 : Hid (beginB disk ++ be 4 l.length = upMeta l 0) := Lib.hid (by unfold upMeta; simp)
  obtain ⟨n, hnl⟩ : ∃ n, l.length = n := ⟨_, rfl⟩
  have HN := Lib.hid hnl
  rw [hnl] at hl HP H0 HF hbl ⊢
  rw [HF.out]
  clear HF hnl hq
  obtain ⟨bd, hbd⟩ : ∃ bd, beginB disk = bd := ⟨_, rfl⟩
  rw [hbd] at HB H0 h8
  clear hbd
  unfold disk at HB
  go_enter Try.func28, Try.ntmps28
  go_wp2_with fail
  refine (HB.out _).mono ?_
  rintro e w1 ⟨rfl, hb1⟩
  go_wp2_with fail
  refine (HP.out _).mono ?_
  rintro e w2 ⟨rfl, hb2⟩
  have b2 := below_next hb1 hb2
  clear hb1 hb2
  go_wp2
  go_loopw [17, 5] (fun i s wr => ∃ k : Nat, k ≤ n ∧ i = .int .i64 k ∧ s = .string ⟨(upMeta l k).toArray⟩ ∧ Below w.heap.size w wr) (fun i _ _ => n - (intOf i).toNat)
  case atStart => exact ⟨0, Nat.zero_le _, rfl, by rw [← H0.out], b2⟩
  case round =>
    obtain ⟨k, hk, rfl, rfl, hbw⟩ := hrel
    by_cases hlt : k < n
    · have k1 : (k : Int) < (n : Int) := by omega
      have k0 : (0 : Int) ≤ (k : Int) := by omega
      obtain ⟨q, hq, hql⟩ := HL.out k (by rw [HN.out]; exact hlt)
      obtain ⟨b, o, rfl, A⟩ := (HN.out ▸ H.out).addr (cellsS_at l k q hq)
      have a0 := cell_keepS (A k _ (cellsS_at l k q hq)) hbw
      have hs := HS.out k q hq
      have HK := Lib.hid hs
      have u1 := HU.out k
      have u2 : (beginB q).length = 4 + q.length := by simp [beginB, be_length]
      clear A hq hs
      go_wp2_with fail
      refine (HQ.out q hql _).mono ?_
      rintro e w3 ⟨rfl, hb3⟩
      clear a0
      go_wp2
      go_roundw
      case rel => exact ⟨k + 1, by omega, by go_num, by rw [HK.out], below_next hbw hb3⟩
      case measure => simp [intOf]; omega
    · obtain rfl : k = n := by omega
      have k1 : ¬ (k : Int) < (k : Int) := by omega
      go_wp2
      go_ret
      exact ⟨rfl, hbw⟩

set_option maxRecDepth 100000 in
set_option maxHeartbeats 1000000 in
theorem asks_nil (w : World) : Calls Try.prog 43 #[.string ⟨#[100, 105, 115, 107]⟩, .slice none 0 0] w (Gives (.string ⟨asksB.toArray⟩) w) := by
  have HB := Lib.hid (fun W => begin_any disk (by decide) W)
  have HP := Lib.hid (fun W => put_int 0 2 (by decide) (by decide) (by decide) W)
  simp only [show (2 : Int).toNat = 2 from rfl, show (0 : Int).toNat = 0 from rfl] at HP
  have HE : Hid (asksB = beginB disk ++ be 2 0) := Lib.hid rfl
  rw [HE.out]
  clear HE
  have h8 : (beginB disk).length = 8 := by decide
  have hbl : (be 2 0).length = 2 := be_length _ _
  unfold disk at HB h8 ⊢
  generalize beginB [100, 105, 115, 107] = bd at HB h8 ⊢
  generalize be 2 0 = bz at HP hbl ⊢
  go_enter Try.func43, Try.ntmps43
  go_wp2_with fail
  refine (HB.out _).mono ?_
  rintro e w1 ⟨rfl, hb1⟩
  go_wp2_with fail
  refine (HP.out _).mono ?_
  rintro e w2 ⟨rfl, hb2⟩
  have b2 := below_next hb1 hb2
  clear hb1 hb2
  go_wp2
  go_loopw [17, 5] (fun i s wr => i = .int .i64 0 ∧ s = .string ⟨(bd ++ bz).toArray⟩ ∧ Below w.heap.size w wr) (fun _ _ _ => 0)
  case atStart => exact ⟨rfl, rfl, b2⟩
  case round =>
    obtain ⟨rfl, rfl, hbw⟩ := hrel
    go_wp2
    go_ret
    exact ⟨rfl, hbw⟩

theorem Try.infoMeta : (Try.prog.info? 48).map (fun i => (i.zero, i.size, i.bytes)) = some (some (.agg #[.int .u32 0, .string ⟨#[]⟩]), 2, 24) := by kernel_rfl

set_option maxRecDepth 100000 in
set_option maxHeartbeats 1000000 in
theorem clone_metas (v : Value) (n : Nat) (cs : List Value) (w : World) (h : SlAt w v n cs) (hl : n ≤ 1000000000) (hcs : cs.length = n * 2) (h1 : ∀ u ∈ cs, u.oneCell' = true) :
    Calls Try.prog 32 #[v] w fun e w' => ∃ v', e = .returned v' ∧ w'.ownsRow w.heap.size 48 2 v' n cs ∧ Below w.heap.size w w' := by
  obtain ⟨i0, hi, hz0, hz1, hz2⟩ := info_parts Try.infoMeta
  have q22 : ∀ (w : World) (a : Option Addr) (n c n' c' : Nat), (binOp .eql 26 (.slice a n c) (.slice none n' c')).run Try.prog w = .ok (.bool a.isNone) w := fun w a n c n' c' => Lib.run_eql_slice_nil w _ _ a n c n' c' Try.underlying26
  rcases h with ⟨rfl, rfl, rfl⟩ | ⟨a, cap, rfl, hs, hc⟩
  · go_enter Try.func32, Try.ntmps32
    go_wp2
    go_ret
    exact ⟨_, rfl, World.ownsRow_nil _ _ _ _, Below.refl _ _⟩
  · have A := Lib.hid hc
    clear hc hs
    go_enter Try.func32, Try.ntmps32
    go_wp2_with (at_builtin; refine wpList_append_own _ rfl _ _ 26 rfl w.heap.size 48 i0 (.agg #[.int .u32 0, .string ⟨#[]⟩]) 2 24 Try.underlying26 hi hz0 hz1 hz2 rfl (by decide) _ _ _ rfl (World.ownsRow_made w #[] 0 (Nat.le_refl _) (Nat.zero_le _) rfl) a n cap cs rfl hcs ?qc2 h1 ?qc4 ?qc5 ?qc6 ?_)
    case qc2 =>
      intro j u hj
      exact Lib.cell?_alloc_some _ (A.out j u hj)
    case qc4 => unfold maxLen; omega
    case qc5 => omega
    case qc6 => simp
    intro v' w1 hown hgrow hnil
    go_wp2
    go_ret
    exact ⟨v', rfl, by simpa using hown, ((Below.refl _ w).alloc (Nat.le_refl _) _).grown hgrow (by simp) (by intro k hk; simp [Value.ownBlock] at hk; omega)⟩

/-- The law's short. -/
def shortL (l : List (List UInt8)) : Bool := decide ((l.map List.length).sum ≤ 20000) && decide (l.length ≤ 100)
theorem shortL_iff (l : List (List UInt8)) : shortL l = true ↔ (l.map List.length).sum ≤ 20000 ∧ l.length ≤ 100 := by simp [shortL]

end Go.Proofs.Ytcmgecojhjdjkaa
