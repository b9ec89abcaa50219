/- RepBack, the walk. -/
import Derived.Test.YtcmocangmfengaaRepBackLaw
import Derived.Test.YtcmocangmfengaaRepParts
import Derived.Deep.Cut
import Derived.Deep.CutRange
namespace Go.Proofs.Ytcmocangmfengaa
open Go.RowKit

set_option maxRecDepth 100000 in
set_option maxHeartbeats 1000000 in
theorem repBack_long (r0 r1 : Nat) (r2 : List UInt8) (k0 : Bool) (k1 : Int) (k2 : Nat) (k3 : List UInt8) (ctx : Nat) (ad : Option Addr) (m cap : Nat) (more s : List UInt8)
    (hg : 10000 < r2.length ∨ (r2.length ≤ 10000 ∧ 10000 < k3.length) ∨ (r2.length ≤ 10000 ∧ k3.length ≤ 10000 ∧ 20000 < s.length) ∨ (r2.length ≤ 10000 ∧ k3.length ≤ 10000 ∧ s.length ≤ 20000 ∧ 20000 < more.length) ∨ (r2.length ≤ 10000 ∧ k3.length ≤ 10000 ∧ s.length ≤ 20000 ∧ more.length ≤ 20000 ∧ 2000 < m)) (w : World) :
    Calls Try.prog 5 #[.agg #[.int .u32 (r0 : Nat), .int .u64 (r1 : Nat), .string ⟨r2.toArray⟩], .agg #[.bool k0, .int .i64 k1, .int .u64 (k2 : Nat), .string ⟨k3.toArray⟩], .int .u32 (ctx : Nat), .slice ad m cap, .string ⟨more.toArray⟩, .string ⟨s.toArray⟩] w (Gives (.bool true) w) := by
  have HA := Lib.hid awake_any
  have b0 := ((Below.refl _ w).alloc (Nat.le_refl _) (.cells #[.int .u32 (r0 : Nat), .int .u64 (r1 : Nat), .string ⟨r2.toArray⟩] 41)).alloc (by simp) (.cells #[.bool k0, .int .i64 k1, .int .u64 (k2 : Nat), .string ⟨k3.toArray⟩] 43)
  rcases hg with h1 | ⟨h1, h2⟩ | ⟨h1, h2, h3⟩ | ⟨h1, h2, h3, h4⟩ | ⟨h1, h2, h3, h4, h5⟩
  all_goals
    go_enter Try.func5, Try.ntmps5
    go_wp2_with fail
    refine (HA.out _).mono ?_
    rintro e w1 ⟨rfl, hb1⟩
    have b1 := below_next b0 hb1
    go_wp2
    go_ret
    exact ⟨rfl, b1⟩

/-- What stands between the tests. -/
def RbSt (w : World) (R C : Array Value) (v : Value) (l : List Ext) (W : World) : Prop :=
  Blk W w.heap.size 41 R ∧ Blk W (w.heap.size + 1) 43 C ∧ ExtAt W v l ∧ Below w.heap.size w W
theorem RbSt.below {w W W' : World} {R C : Array Value} {v : Value} {l : List Ext} (h : RbSt w R C v l W) (hb : Below W.heap.size W W') : RbSt w R C v l W' :=
  ⟨h.1.below hb h.1.lt, h.2.1.below hb h.2.1.lt, h.2.2.1.below hb, below_next h.2.2.2 hb⟩
theorem RbSt.lay {w W : World} {R C : Array Value} {v : Value} {l : List Ext} (h : RbSt w R C v l W) (o : Obj) : RbSt w R C v l (W.alloc o) := h.below ((Below.refl _ W).alloc (Nat.le_refl _) o)

set_option maxRecDepth 100000 in
set_option maxHeartbeats 4000000 in
theorem repBack_walk (r0 r1 : Nat) (r2 : List UInt8) (k0 : Bool) (k1 : Int) (k2 : Nat) (k3 : List UInt8) (ctx : Nat) (ad : Option Addr) (m cap : Nat) (more s : List UInt8) (l : List Ext)
    (g1 : r2.length ≤ 10000) (g2 : k3.length ≤ 10000) (g3 : s.length ≤ 20000) (g4 : more.length ≤ 20000) (g5 : m ≤ 2000) (A L S : List UInt8) (e1 e2 e4 : Int)
    (hS1 : ∀ W, Calls Try.prog 18 #[.agg #[.int .u32 (r0 : Nat), .int .u64 (r1 : Nat), .string ⟨r2.toArray⟩]] W (Gives (.tuple #[.string ⟨A.toArray⟩, .int .i64 e1]) W))
    (hA : (e1 = 0 ∧ A.length ≤ 20000 ∧ ∀ W, Calls Try.prog 20 #[.string ⟨(A ++ more).toArray⟩, .int .i64 (r2.length : Nat)] W (Gives (.tuple #[.agg #[.int .u32 (r0 : Nat), .int .u64 (r1 : Nat), .string ⟨r2.toArray⟩], .string ⟨more.toArray⟩, .int .i64 0]) W)) ∨ e1 = 11)
    (hS2 : ∀ W, Calls Try.prog 22 #[.agg #[.bool k0, .int .i64 k1, .int .u64 (k2 : Nat), .string ⟨k3.toArray⟩]] W (Gives (.tuple #[.string ⟨L.toArray⟩, .int .i64 e2]) W))
    (hL : (e2 = 0 ∧ L.length ≤ 20000 ∧ ∀ W, Calls Try.prog 24 #[.string ⟨(L ++ more).toArray⟩] W (Gives (.tuple #[.agg #[.bool k0, .int .i64 k1, .int .u64 (k2 : Nat), .string ⟨k3.toArray⟩], .string ⟨more.toArray⟩, .int .i64 0]) W)) ∨ e2 = 25 ∨ e2 = 11)
    (m0 : Bool) (m1 : Int) (m2 : Nat) (m3 rest : List UInt8) (e3 : Int)
    (hS3 : ∀ W, Calls Try.prog 24 #[.string ⟨s.toArray⟩] W (Gives (.tuple #[.agg #[.bool m0, .int .i64 m1, .int .u64 (m2 : Nat), .string ⟨m3.toArray⟩], .string ⟨rest.toArray⟩, .int .i64 e3]) W))
    (hR : (e3 = 0 ∧ ∃ u, u.length ≤ 20000 ∧ u ++ rest = s ∧ ∀ W, Calls Try.prog 22 #[.agg #[.bool m0, .int .i64 m1, .int .u64 (m2 : Nat), .string ⟨m3.toArray⟩]] W (Gives (.tuple #[.string ⟨u.toArray⟩, .int .i64 0]) W)) ∨ (e3 == 0) = false)
    (hS4 : ∀ W, ExtAt W (.slice ad m cap) l → Calls Try.prog 7 #[.int .u32 (ctx : Nat), .slice ad m cap] W (Gives (.tuple #[.string ⟨S.toArray⟩, .int .i64 e4]) W))
    (hT : (e4 = 0 ∧ ∀ W, Calls Try.prog 9 #[.string ⟨S.toArray⟩] W (TsGives W ctx l 0)) ∨ (e4 == 0) = false)
    (c5 : Nat) (L5 : List Ext) (e5 : Int) (hS5 : ∀ W, Calls Try.prog 9 #[.string ⟨s.toArray⟩] W (TsGives W c5 L5 e5))
    (hU : (e5 = 0 ∧ ∀ W v, ExtAt W v L5 → Calls Try.prog 7 #[.int .u32 (c5 : Nat), v] W (Gives (.tuple #[.string ⟨s.toArray⟩, .int .i64 0]) W)) ∨ (e5 == 0) = false)
    (w : World) (hv : ExtAt w (.slice ad m cap) l) (hml : l.length ≤ 2000) :
    Calls Try.prog 5 #[.agg #[.int .u32 (r0 : Nat), .int .u64 (r1 : Nat), .string ⟨r2.toArray⟩], .agg #[.bool k0, .int .i64 k1, .int .u64 (k2 : Nat), .string ⟨k3.toArray⟩], .int .u32 (ctx : Nat), .slice ad m cap, .string ⟨more.toArray⟩, .string ⟨s.toArray⟩] w (Gives (.bool true) w) := by
  have HA := Lib.hid awake_any
  have HS1 := Lib.hid hS1
  have HAA := Lib.hid hA
  have HS2 := Lib.hid hS2
  have HL := Lib.hid hL
  have HS3 := Lib.hid hS3
  have HR := Lib.hid hR
  have HS4 := Lib.hid hS4
  have HT := Lib.hid hT
  have HS5 := Lib.hid hS5
  have HU := Lib.hid hU
  clear hS1 hA hS2 hL hS3 hR hS4 hT hS5 hU
  have HV := Lib.hid hv
  clear hv
  go_enter Try.func5, Try.ntmps5
  go_wp2_with fail
  refine at_world fun W0 hW0 => ?_
  have st : RbSt w #[.int .u32 (r0 : Nat), .int .u64 (r1 : Nat), .string ⟨r2.toArray⟩] #[.bool k0, .int .i64 k1, .int .u64 (k2 : Nat), .string ⟨k3.toArray⟩] (.slice ad m cap) l W0 := by
    rw [hW0]
    exact ⟨(Blk.new w _ _).alloc _, Blk.newAt (by simp), (HV.out.below ((Below.refl _ w).alloc (Nat.le_refl _) _)).below ((Below.refl _ _).alloc (Nat.le_refl _) _), by (repeat' (first | (with_reducible assumption) | (with_reducible exact Below.refl _ _) | (with_reducible refine below_drewN ?_ _) | (with_reducible refine Below.drew ?_) | (with_reducible refine Below.setCell ?_ ?_ _) | (with_reducible refine Below.alloc ?_ ?_ _) | (with_reducible refine below_putObj ?_ ?_ _) | (with_reducible exact Nat.le_refl _) | omega | (simp; done) | (simp; omega)))⟩
  clear hW0
  refine (HS1.out _).mono ?_
  rintro e w1 ⟨rfl, hb1⟩
  have st1 := st.below hb1
  clear hb1 st
  go_upto_if 71 with fail
  go_cut [] from 13 to 193 (fun wx => RbSt w #[.int .u32 (r0 : Nat), .int .u64 (r1 : Nat), .string ⟨r2.toArray⟩] #[.bool k0, .int .i64 k1, .int .u64 (k2 : Nat), .string ⟨k3.toArray⟩] (.slice ad m cap) l wx)
  case first =>
    have c0 := st1.1.cell 0
    have c1 := st1.1.cell 1
    have c2 := st1.1.cell 2
    have d0 := st1.2.1.cell 0
    have d1 := st1.2.1.cell 1
    have d2 := st1.2.1.cell 2
    have d3 := st1.2.1.cell 3
    simp only [List.getElem?_toArray, List.getElem?_cons_zero, List.getElem?_cons_succ] at c0 c1 c2 d0 d1 d2 d3
    rcases HAA.out with ⟨rfl, hla, hts⟩ | rfl
    · have HTS := Lib.hid hts
      clear hts
      go_wp2_with fail
      refine (HTS.out _).mono ?_
      rintro e w2 ⟨rfl, hb2⟩
      have st2 := st1.below hb2
      clear hb2 st1 c0 c1 c2 d0 d1 d2 d3
      have c0 := st2.1.cell 0
      have c1 := st2.1.cell 1
      have c2 := st2.1.cell 2
      have d0 := st2.2.1.cell 0
      have d1 := st2.2.1.cell 1
      have d2 := st2.2.1.cell 2
      have d3 := st2.2.1.cell 3
      simp only [List.getElem?_toArray, List.getElem?_cons_zero, List.getElem?_cons_succ] at c0 c1 c2 d0 d1 d2 d3
      have o1 := fun o i => old_cell (w := w2) (g := w.heap.size) st2.1.lt o i
      have o2 := fun o i => old_cell (w := w2) (g := w.heap.size + 1) st2.2.1.lt o i
      go_wp2_with fail
      go_meet
      exact st2.lay _
    · go_wp2_with fail
      go_meet
      exact st1
  case rest =>
    clear st1
    have c0 := hcut.1.cell 0
    have c1 := hcut.1.cell 1
    have c2 := hcut.1.cell 2
    have d0 := hcut.2.1.cell 0
    have d1 := hcut.2.1.cell 1
    have d2 := hcut.2.1.cell 2
    have d3 := hcut.2.1.cell 3
    simp only [List.getElem?_toArray, List.getElem?_cons_zero, List.getElem?_cons_succ] at c0 c1 c2 d0 d1 d2 d3
    go_wp2_with fail
    refine (HS2.out _).mono ?_
    rintro e w1 ⟨rfl, hb1⟩
    have st1 := hcut.below hb1
    clear hb1 hcut c0 c1 c2 d0 d1 d2 d3
    go_upto_if 102 with fail
    go_cut [] from 13 to 193 (fun wx => RbSt w #[.int .u32 (r0 : Nat), .int .u64 (r1 : Nat), .string ⟨r2.toArray⟩] #[.bool k0, .int .i64 k1, .int .u64 (k2 : Nat), .string ⟨k3.toArray⟩] (.slice ad m cap) l wx)
    case first =>
      have c0 := st1.1.cell 0
      have c1 := st1.1.cell 1
      have c2 := st1.1.cell 2
      have d0 := st1.2.1.cell 0
      have d1 := st1.2.1.cell 1
      have d2 := st1.2.1.cell 2
      have d3 := st1.2.1.cell 3
      simp only [List.getElem?_toArray, List.getElem?_cons_zero, List.getElem?_cons_succ] at c0 c1 c2 d0 d1 d2 d3
      rcases HL.out with ⟨rfl, hla, hts⟩ | rfl | rfl
      · have HTS := Lib.hid hts
        clear hts
        go_wp2_with fail
        refine (HTS.out _).mono ?_
        rintro e w2 ⟨rfl, hb2⟩
        have st2 := st1.below hb2
        clear hb2 st1 c0 c1 c2 d0 d1 d2 d3
        have c0 := st2.1.cell 0
        have c1 := st2.1.cell 1
        have c2 := st2.1.cell 2
        have d0 := st2.2.1.cell 0
        have d1 := st2.2.1.cell 1
        have d2 := st2.2.1.cell 2
        have d3 := st2.2.1.cell 3
        simp only [List.getElem?_toArray, List.getElem?_cons_zero, List.getElem?_cons_succ] at c0 c1 c2 d0 d1 d2 d3
        have o1 := fun o i => old_cell (w := w2) (g := w.heap.size) st2.1.lt o i
        have o2 := fun o i => old_cell (w := w2) (g := w.heap.size + 1) st2.2.1.lt o i
        go_wp2_with fail
        go_meet
        exact st2.lay _
      · go_wp2_with fail
        go_meet
        exact st1
      · go_wp2_with fail
        go_meet
        exact st1
    case rest =>
      clear st1
      go_wp2_with fail
      refine (HS3.out _).mono ?_
      rintro e w1 ⟨rfl, hb1⟩
      have st1 := hcut.below hb1
      clear hb1 hcut
      go_upto_if 130 with fail
      go_cut [] from 13 to 193 (fun wx => RbSt w #[.int .u32 (r0 : Nat), .int .u64 (r1 : Nat), .string ⟨r2.toArray⟩] #[.bool k0, .int .i64 k1, .int .u64 (k2 : Nat), .string ⟨k3.toArray⟩] (.slice ad m cap) l wx)
      case first =>
        rcases HR.out with ⟨rfl, u, hlu, hus, hts⟩ | hne
        · have HTS := Lib.hid hts
          clear hts
          have HUS := Lib.hid hus
          clear hus
          go_wp2_with fail
          refine (HTS.out _).mono ?_
          rintro e w2 ⟨rfl, hb2⟩
          have st2 := (st1.lay _).below hb2
          clear hb2 st1
          have hrl : rest.length ≤ 20000 := by have := congrArg List.length HUS.out; rw [List.length_append] at this; omega
          have hss := HUS.out
          go_wp2_with fail
          go_meet
          exact st2
        · go_wp2_with fail
          go_meet
          exact st1.lay _
      case rest =>
        clear st1
        go_wp2_with fail
        refine (HS4.out _ hcut.2.2.1).mono ?_
        rintro e w1 ⟨rfl, hb1⟩
        have st1 := hcut.below hb1
        clear hb1 hcut
        go_upto_if 152 with fail
        go_cut [] from 13 to 193 (fun wx => RbSt w #[.int .u32 (r0 : Nat), .int .u64 (r1 : Nat), .string ⟨r2.toArray⟩] #[.bool k0, .int .i64 k1, .int .u64 (k2 : Nat), .string ⟨k3.toArray⟩] (.slice ad m cap) l wx)
        case first =>
          rcases HT.out with ⟨rfl, hts⟩ | hne
          · have HTS := Lib.hid hts
            clear hts
            go_wp2_with fail
            refine (HTS.out _).mono ?_
            rintro e w2 ⟨v2, rfl, x2, hb2⟩
            have st2 := st1.below hb2
            clear hb2 st1
            go_wp2_with fail
            refine (row_same l _ _ (by omega) _ st2.2.2.1 x2).mono ?_
            rintro e w3 ⟨rfl, hb3⟩
            have st3 := st2.below hb3
            clear hb3 st2 x2
            go_wp2_with fail
            go_meet
            exact st3
          · go_wp2_with fail
            go_meet
            exact st1
        case rest =>
          clear st1
          go_wp2_with fail
          refine (HS5.out _).mono ?_
          rintro e w1 ⟨v1, rfl, x1, hb1⟩
          have st1 := hcut.below hb1
          clear hb1 hcut
          go_upto_if 179 with fail
          go_cut [] from 13 to 193 (fun wx => RbSt w #[.int .u32 (r0 : Nat), .int .u64 (r1 : Nat), .string ⟨r2.toArray⟩] #[.bool k0, .int .i64 k1, .int .u64 (k2 : Nat), .string ⟨k3.toArray⟩] (.slice ad m cap) l wx)
          case first =>
            rcases HU.out with ⟨rfl, hts⟩ | hne
            · have HTS := Lib.hid hts
              clear hts
              go_wp2_with fail
              refine (HTS.out _ _ x1).mono ?_
              rintro e w2 ⟨rfl, hb2⟩
              have st2 := st1.below hb2
              clear hb2 st1 x1
              go_wp2_with fail
              go_meet
              exact st2
            · go_wp2_with fail
              go_meet
              exact st1
          case rest =>
            clear st1 x1
            go_wp2_with fail
            refine (HA.out _).mono ?_
            rintro e w1 ⟨rfl, hb1⟩
            have b := below_next hcut.2.2.2 hb1
            clear hb1 hcut
            go_wp2
            go_ret
            exact ⟨rfl, b⟩

end Go.Proofs.Ytcmocangmfengaa
