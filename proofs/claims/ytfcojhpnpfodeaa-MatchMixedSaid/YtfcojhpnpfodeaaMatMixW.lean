/- ORDERS: the law's walk. -/
import Derived.Test.YtfcojhpnpfodeaaMatAppend
import Derived.Test.YtfcojhpnpfodeaaMatMix
import Derived.Deep.RegionWith
namespace Go.Proofs.Ytfcojhpnpfodeaa
open Go.RowKit

set_option maxRecDepth 100000 in
set_option maxHeartbeats 400000 in
theorem named_a (w : World) : Calls Try.prog 15 #[.string ⟨#[97]⟩] w (Gives (.bool true) w) := by
  have mixed : Try.prog.follows .mixedOrders = true := by kernel_rfl
  go_enter Try.func15, Try.ntmps15
  go_wp2_with fail
  go_loopw [3] (fun i wr => (i = .int .i64 0 ∨ i = .int .i64 1) ∧ wr = w) (fun i _ => 1 - (intOf i).toNat)
  case atStart => exact ⟨.inl rfl, rfl⟩
  case round =>
    obtain ⟨rfl | rfl, rfl⟩ := hrel
    · go_wp2
      go_roundw
      case rel => exact ⟨.inr rfl, trivial⟩
      case measure => simp [intOf]
    · go_wp2
      go_ret
      exact ⟨rfl, Below.refl _ _⟩
theorem Try.infoStr : (Try.prog.info? 9).map (fun i => (i.zero, i.size, i.bytes)) = some (some (.string ⟨#[]⟩), 1, 16) := by kernel_rfl
theorem strs_one (l : List (List UInt8)) : ∀ u ∈ l.map (fun x => Value.string ⟨x.toArray⟩), u.oneCell' = true := by
  intro u hu
  obtain ⟨x, _, rfl⟩ := List.mem_map.1 hu
  rfl
theorem two_at {W : World} {g i : Nat} {x y : List UInt8} {v : Value} (hB : Blk W g 9 #[.string ⟨x.toArray⟩, .string ⟨y.toArray⟩]) (h : (i = 0 ∧ v = .slice (some ⟨g, 0, none⟩) 2 2) ∨ (i = 1 ∧ v = .slice (some ⟨g, 1, none⟩) 1 1) ∨ (i = 2 ∧ ∃ ad, v = .slice ad 0 0)) :
    SlAt W v (2 - i) (([x, y].drop i).map fun x => .string ⟨x.toArray⟩) := by
  have c0 := hB.cell 0
  have c1 := hB.cell 1
  simp only [List.getElem?_toArray, List.getElem?_cons_zero, List.getElem?_cons_succ] at c0 c1
  rcases h with ⟨rfl, rfl⟩ | ⟨rfl, rfl⟩ | ⟨rfl, ad, rfl⟩
  · refine .inr ⟨_, _, rfl, .inr rfl, fun j u hu => ?_⟩
    rw [Addr.add_lit, Nat.zero_add]
    match j, hu with
    | 0, hu => simp at hu; rw [← hu]; exact c0
    | 1, hu => simp at hu; rw [← hu]; exact c1
  · refine .inr ⟨_, _, rfl, .inr rfl, fun j u hu => ?_⟩
    rw [Addr.add_lit]
    match j, hu with
    | 0, hu => simp at hu; rw [← hu]; exact c1
  · cases ad with
    | none => exact .inl ⟨rfl, rfl, rfl⟩
    | some a => exact .inr ⟨a, 0, rfl, .inl rfl, by simp⟩
theorem take_flat_le (l : List (List UInt8)) (k : Nat) : ((l.take k).flatten).length ≤ l.flatten.length := by
  have h : l.flatten = (l.take k).flatten ++ (l.drop k).flatten := by rw [← List.flatten_append, List.take_append_drop]
  rw [h, List.length_append]
  omega
theorem mix_len (o : List Bool) : ∀ a b : List (List UInt8), (mix o a b).length = a.flatten.length + b.flatten.length := by
  induction o with
  | nil => intro a b; simp [mix]
  | cons f o ih =>
    intro a b
    unfold mix
    cases f with
    | true =>
      rw [if_pos rfl, List.length_append, ih]
      cases a <;> simp
      omega
    | false =>
      rw [if_neg (by decide), List.length_append, ih]
      cases b <;> simp
      omega

set_option maxRecDepth 100000 in
set_option maxHeartbeats 8000000 in
theorem mixed_any (frm : Nat) (s more : List UInt8) (at_ : Nat) (t : List UInt8) (v : Value) (o : List Bool) (w : World) (hv : SlAt w v o.length (o.map .bool)) (hol : o.length ≤ 9223372036854775807) (hs : s.length ≤ 4000000000000000000) (hm : more.length ≤ 4000000000000000000) (ht : t.length ≤ 4000000000000000000) (hf : frm < 18446744073709551616) (hat : at_ < 18446744073709551616) :
    Calls Try.prog 5 #[.int .u64 (frm : Nat), .string ⟨s.toArray⟩, .string ⟨more.toArray⟩, .int .u64 (at_ : Nat), .string ⟨t.toArray⟩, v] w (Gives (.bool true) w) := by
  have mixed : Try.prog.follows .mixedOrders = true := by kernel_rfl
  have HA := Lib.hid awake_any
  obtain ⟨vo, co, rfl⟩ := hv.form
  have HV := Lib.hid hv
  have w1 : ¬ 9223372036854775807 < s.length + more.length := by omega
  clear hv
  by_cases g1 : 1000 < s.length + more.length
  · have e1 : (1000 : Int) < (s.length : Int) + (more.length : Int) := by omega
    go_enter Try.func5, Try.ntmps5
    go_wp2_with fail
    refine (HA.out _).mono ?_
    rintro e w2 ⟨rfl, hb2⟩
    go_wp2
    go_ret
    exact ⟨rfl, hb2⟩
  have e1 : ¬ (1000 : Int) < (s.length : Int) + (more.length : Int) := by omega
  by_cases g2 : 1000 < t.length
  · have e2 : (1000 : Int) < (t.length : Int) := by omega
    go_enter Try.func5, Try.ntmps5
    go_wp2_with fail
    refine (HA.out _).mono ?_
    rintro e w2 ⟨rfl, hb2⟩
    go_wp2
    go_ret
    exact ⟨rfl, hb2⟩
  have e2 : ¬ (1000 : Int) < (t.length : Int) := by omega
  by_cases g3 : s = []
  · have e3 : s.isEmpty = true := by simpa using g3
    clear g3
    go_enter Try.func5, Try.ntmps5
    go_wp2_with fail
    refine (HA.out _).mono ?_
    rintro e w2 ⟨rfl, hb2⟩
    go_wp2
    go_ret
    exact ⟨rfl, hb2⟩
  have e3 : s.isEmpty = false := by simpa using g3
  by_cases g4 : more = []
  · have e4 : more.isEmpty = true := by simpa using g4
    clear g4 g3
    go_enter Try.func5, Try.ntmps5
    go_wp2_with fail
    refine (HA.out _).mono ?_
    rintro e w2 ⟨rfl, hb2⟩
    go_wp2
    go_ret
    exact ⟨rfl, hb2⟩
  have e4 : more.isEmpty = false := by simpa using g4
  by_cases g5 : t = []
  · have e5 : t.isEmpty = true := by simpa using g5
    clear g5 g4 g3
    go_enter Try.func5, Try.ntmps5
    go_wp2_with fail
    refine (HA.out _).mono ?_
    rintro e w2 ⟨rfl, hb2⟩
    go_wp2
    go_ret
    exact ⟨rfl, hb2⟩
  have e5 : t.isEmpty = false := by simpa using g5
  by_cases g6 : 1152921504606846976 < frm
  · have e6 : (1152921504606846976 : Int) < (frm : Int) := by omega
    clear g5 g4 g3
    go_enter Try.func5, Try.ntmps5
    go_wp2_with fail
    refine (HA.out _).mono ?_
    rintro e w2 ⟨rfl, hb2⟩
    go_wp2
    go_ret
    exact ⟨rfl, hb2⟩
  have e6 : ¬ (1152921504606846976 : Int) < (frm : Int) := by omega
  by_cases g7 : 1152921504606846976 < at_
  · have e7 : (1152921504606846976 : Int) < (at_ : Int) := by omega
    clear g5 g4 g3
    go_enter Try.func5, Try.ntmps5
    go_wp2_with fail
    refine (HA.out _).mono ?_
    rintro e w2 ⟨rfl, hb2⟩
    go_wp2
    go_ret
    exact ⟨rfl, hb2⟩
  have e7 : ¬ (1152921504606846976 : Int) < (at_ : Int) := by omega
  have OK : MixOk frm at_ s more t := ⟨g3, g4, g5, by omega, by omega, by omega, by omega⟩
  have HOK := Lib.hid OK
  clear OK g3 g4 g5
  obtain ⟨L1, hL1⟩ : ∃ L1, L1 = s.length + more.length := ⟨_, rfl⟩
  obtain ⟨F1, hF1⟩ : ∃ F1, F1 = frm + s.length := ⟨_, rfl⟩
  have u1 : IntKind.u32.wrap ((s.length : Int) + (more.length : Int)) = (L1 : Int) := by rw [IntKind.wrap_u32]; omega
  have u2 : IntKind.u32.wrap (t.length : Int) = (t.length : Int) := by rw [IntKind.wrap_u32]; omega
  have u3 : IntKind.u64.wrap (s.length : Int) = (s.length : Int) := by rw [IntKind.wrap_u64]; omega
  have u4 : IntKind.u64.wrap ((frm : Int) + (s.length : Int)) = (F1 : Int) := by rw [IntKind.wrap_u64]; omega
  have HD1 := Lib.hid (fun W => rdata_any F1 more (by omega) (by omega) W)
  have HD2 := Lib.hid (fun W => rdata_any frm s (by omega) (by omega) W)
  have HD3 := Lib.hid (fun W => rdata_any at_ t (by omega) (by omega) W)
  have HC1 := Lib.hid (fun W => rwriteC_ok false 1 1 (dataB F1 more) (by decide) (by decide) (by decide) (by rw [data_len]; omega) W)
  have HC2 := Lib.hid (fun W => rwriteC_ok true 1 1 (dataB frm s) (by decide) (by decide) (by decide) (by rw [data_len]; omega) W)
  have HC3 := Lib.hid (fun W => rwriteC_ok false 1 2 (dataB at_ t) (by decide) (by decide) (by decide) (by rw [data_len]; omega) W)
  have HC4 := Lib.hid (fun W => rwriteC_ok true 0 2 [] (by decide) (by decide) (by decide) (by decide) W)
  rw [show chunkBytes ⟨false, 1, 1, dataB F1 more⟩ = mxOne frm s more by rw [hF1]; rfl] at HC1
  rw [show chunkBytes ⟨true, 1, 1, dataB frm s⟩ = mxTwo frm s from rfl] at HC2
  rw [show chunkBytes ⟨false, 1, 2, dataB at_ t⟩ = mxThree at_ t from rfl] at HC3
  rw [show chunkBytes ⟨true, 0, 2, []⟩ = mxFour from rfl] at HC4
  have HQ : Hid (mxQ frm s more = ⟨0, 0, 1, frm, L1, []⟩) := Lib.hid (by rw [hL1]; rfl)
  have HP : Hid (mxP at_ t = ⟨0, 0, 2, at_, t.length, []⟩) := Lib.hid rfl
  have hlen : (mix o (mxLA frm s more) (mxLB at_ t)).length ≤ 10000 := by
    rw [mix_len]
    have a1 := (chunk_nums false 1 1 (dataB (frm + s.length) more) []).2.2.2.2.2.1
    have a2 := (chunk_nums true 1 1 (dataB frm s) []).2.2.2.2.2.1
    have a3 := (chunk_nums false 1 2 (dataB at_ t) []).2.2.2.2.2.1
    have a4 := (chunk_nums true 0 2 [] []).2.2.2.2.2.1
    rw [List.append_nil, data_len] at a1 a2 a3
    rw [List.append_nil] at a4
    simp only [mxLA, mxLB, mxOne, mxTwo, mxThree, mxFour, List.flatten_cons, List.flatten_nil, List.length_append, List.length_nil, a1, a2, a3, a4]
    omega
  have HFD : Hid (∀ n out, Mat.Feeds (askedM true [mxQ frm s more, mxP at_ t]) (mix o (mxLA frm s more) (mxLB at_ t)) n out → n = mxN ∧ (out = [mxAA frm s more, mxAB at_ t] ∨ out = [mxAB at_ t, mxAA frm s more])) := Lib.hid (fun n out h => mx_feeds HOK.out o h)
  have HLEN := Lib.hid hlen
  clear hlen hL1 hF1
  generalize dataB F1 more = d1 at HD1 HC1
  generalize dataB frm s = d2 at HD2 HC2
  generalize dataB at_ t = d3 at HD3 HC3
  unfold mxLA mxLB at HFD HLEN
  generalize mxOne frm s more = x1 at HC1 HFD HLEN
  generalize mxTwo frm s = x2 at HC2 HFD HLEN
  generalize mxThree at_ t = x3 at HC3 HFD HLEN
  generalize mxFour = x4 at HC4 HFD HLEN
  go_enter Try.func5, Try.ntmps5
  go_wp2_with fail
  refine (HD1.out _).mono ?_
  rintro e w2 ⟨rfl, hb2⟩
  go_wp2_with fail
  refine (HC1.out _).mono ?_
  rintro e w3 ⟨rfl, hb3⟩
  go_wp2_with fail
  refine (HD2.out _).mono ?_
  rintro e w4 ⟨rfl, hb4⟩
  go_wp2_with fail
  refine (HC2.out _).mono ?_
  rintro e w5 ⟨rfl, hb5⟩
  go_wp2_with fail
  refine (HD3.out _).mono ?_
  rintro e w6 ⟨rfl, hb6⟩
  go_wp2_with fail
  refine (HC3.out _).mono ?_
  rintro e w7 ⟨rfl, hb7⟩
  go_wp2_with fail
  refine (HC4.out _).mono ?_
  rintro e w8 ⟨rfl, hb8⟩
  go_wp2_with fail
  obtain ⟨W9, hW9⟩ : ∃ W9, W9 = ((w8.alloc (.cells #[.string ⟨x1.toArray⟩, .string ⟨x2.toArray⟩] 9)).alloc (.cells #[.string ⟨x3.toArray⟩, .string ⟨x4.toArray⟩] 9)) := ⟨_, rfl⟩
  rw [← hW9]
  have h89 : Below w8.heap.size w8 W9 := by rw [hW9]; (repeat' (first | (with_reducible assumption) | (with_reducible exact Below.refl _ _) | (with_reducible refine below_drewN ?_ _) | (with_reducible refine Below.drew ?_) | (with_reducible refine Below.setCell ?_ ?_ _) | (with_reducible refine Below.alloc ?_ ?_ _) | (with_reducible refine below_putObj ?_ ?_ _) | (with_reducible exact Nat.le_refl _) | omega | (simp; done) | (simp; omega)))
  have hq0 : Below w.heap.size w ((w.alloc (.cells #[.int .i64 0, .int .i64 0, .int .u64 1, .int .u64 (frm : Nat), .int .u32 (L1 : Nat), .string ⟨#[]⟩] 37)).alloc (.cells #[.int .i64 0, .int .i64 0, .int .u64 2, .int .u64 (at_ : Nat), .int .u32 (t.length : Nat), .string ⟨#[]⟩] 37)) := by (repeat' (first | (with_reducible assumption) | (with_reducible exact Below.refl _ _) | (with_reducible refine below_drewN ?_ _) | (with_reducible refine Below.drew ?_) | (with_reducible refine Below.setCell ?_ ?_ _) | (with_reducible refine Below.alloc ?_ ?_ _) | (with_reducible refine below_putObj ?_ ?_ _) | (with_reducible exact Nat.le_refl _) | omega | (simp; done) | (simp; omega)))
  have b28 := below_next (below_next (below_next (below_next (below_next (below_next (below_next hb2 hb3) hb4) hb5) hb6) hb7) hb8) h89
  have HGA : Hid (Blk W9 w8.heap.size 9 #[.string ⟨x1.toArray⟩, .string ⟨x2.toArray⟩]) := Lib.hid (by rw [hW9]; exact (Blk.new w8 _ _).alloc _)
  have HGB : Hid (Blk W9 (w8.heap.size + 1) 9 #[.string ⟨x3.toArray⟩, .string ⟨x4.toArray⟩]) := Lib.hid (by rw [hW9]; exact Blk.newAt (by simp))
  have HB9 := Lib.hid (below_next hq0 b28)
  have HGQ : Hid (Blk W9 w.heap.size 37 #[.int .i64 0, .int .i64 0, .int .u64 1, .int .u64 (frm : Nat), .int .u32 (L1 : Nat), .string ⟨#[]⟩]) := Lib.hid (((Blk.new w _ _).alloc _).below b28 ((Blk.new w _ _).alloc _).lt)
  have HGP : Hid (Blk W9 (w.heap.size + 1) 37 #[.int .i64 0, .int .i64 0, .int .u64 2, .int .u64 (at_ : Nat), .int .u32 (t.length : Nat), .string ⟨#[]⟩]) := Lib.hid ((show Blk ((w.alloc (.cells #[.int .i64 0, .int .i64 0, .int .u64 1, .int .u64 (frm : Nat), .int .u32 (L1 : Nat), .string ⟨#[]⟩] 37)).alloc (.cells #[.int .i64 0, .int .i64 0, .int .u64 2, .int .u64 (at_ : Nat), .int .u32 (t.length : Nat), .string ⟨#[]⟩] 37)) (w.heap.size + 1) 37 _ from Blk.newAt (by simp)).below b28 (by simp))
  have hxl : x1.length + x2.length + (x3.length + x4.length) ≤ 10000 := by
    have h := HLEN.out
    rw [mix_len] at h
    simpa using h
  clear hW9 h89 hq0 b28 hb2 hb3 hb4 hb5 hb6 hb7 hb8 HD1 HD2 HD3 HC1 HC2 HC3 HC4 e1 e2 e3 e4 e5 e6 e7
  generalize w8.heap.size = ga at *
  obtain ⟨N, hN⟩ : ∃ N, N = o.length := ⟨_, rfl⟩
  have HN := Lib.hid hN
  rw [← hN] at HV hol ⊢
  clear hN
  go_loopw [122, 25, 23, 24] (fun iv av sa sb wr => ∃ (k i j : Nat) (X : List UInt8), k ≤ N ∧ iv = .int .i64 k ∧ av = .string ⟨X.toArray⟩ ∧ ((i = 0 ∧ sa = .slice (some ⟨ga, 0, none⟩) 2 2) ∨ (i = 1 ∧ sa = .slice (some ⟨ga, 1, none⟩) 1 1) ∨ (i = 2 ∧ ∃ ad, sa = .slice ad 0 0)) ∧ ((j = 0 ∧ sb = .slice (some ⟨ga + 1, 0, none⟩) 2 2) ∨ (j = 1 ∧ sb = .slice (some ⟨ga + 1, 1, none⟩) 1 1) ∨ (j = 2 ∧ ∃ ad, sb = .slice ad 0 0)) ∧ Hid (X ++ mix (o.drop k) ([x1, x2].drop i) ([x3, x4].drop j) = mix o [x1, x2] [x3, x4]) ∧ Below W9.heap.size W9 wr) (fun iv _ _ _ _ => N - (intOf iv).toNat)
  case atStart => exact ⟨0, 0, 0, [], Nat.zero_le _, rfl, rfl, .inl ⟨rfl, rfl⟩, .inl ⟨rfl, rfl⟩, Lib.hid rfl, Below.refl _ _⟩
  case round =>
    obtain ⟨k, i, j, X, hk, rfl, rfl, hA, hB, hX, hbw⟩ := hrel
    have hXl : X.length ≤ 10000 := by
      have h := congrArg List.length hX.out
      rw [List.length_append] at h
      have := HLEN.out
      omega
    by_cases hlt : k < N
    · have k1 : (k : Int) < (N : Int) := by omega
      have k0 : (0 : Int) ≤ (k : Int) := by omega
      obtain ⟨f, hf⟩ : ∃ f, o[k]? = some f := ⟨_, List.getElem?_eq_getElem (by rw [← HN.out]; exact hlt)⟩
      have hdrop : o.drop k = f :: o.drop (k + 1) := by
        obtain ⟨h1, h2⟩ := List.getElem?_eq_some_iff.1 hf
        rw [List.drop_eq_getElem_cons h1, h2]
      have hfm : (o.map Value.bool)[k]? = some (.bool f) := by rw [List.getElem?_map, hf]; rfl
      obtain ⟨bo, oo, rfl, A⟩ := HV.out.addr hfm
      have c0 := cell_keepS (A k _ hfm) (below_next HB9.out hbw)
      have hl1 : ¬ 9223372036854775807 < X.length + x1.length := by omega
      have hl2 : ¬ 9223372036854775807 < X.length + x2.length := by omega
      have hl3 : ¬ 9223372036854775807 < X.length + x3.length := by omega
      have hl4 : ¬ 9223372036854775807 < X.length + x4.length := by omega
      clear A hfm hf
      cases f with
      | true =>
        rcases hA with ⟨rfl, rfl⟩ | ⟨rfl, rfl⟩ | ⟨rfl, hE⟩
        · have p0 := ((HGA.out.below hbw HGA.out.lt).cell 0)
          simp only [List.getElem?_toArray, List.getElem?_cons_zero] at p0
          go_wp2_with fail
          go_quiet (fail)
          go_wp2
          go_roundw
          case rel => exact ⟨k + 1, 1, j, X ++ x1, by omega, by go_num, rfl, .inr (.inl ⟨rfl, rfl⟩), hB, Lib.hid (by rw [← hX.out, hdrop]; simp [mix]), by (repeat' (first | (with_reducible assumption) | (with_reducible exact Below.refl _ _) | (with_reducible refine below_drewN ?_ _) | (with_reducible refine Below.drew ?_) | (with_reducible refine Below.setCell ?_ ?_ _) | (with_reducible refine Below.alloc ?_ ?_ _) | (with_reducible refine below_putObj ?_ ?_ _) | (with_reducible exact Nat.le_refl _) | omega | (simp; done) | (simp; omega)))⟩
          case measure => simp [intOf]; omega
        · have p0 := ((HGA.out.below hbw HGA.out.lt).cell 1)
          simp only [List.getElem?_toArray, List.getElem?_cons_zero, List.getElem?_cons_succ] at p0
          go_wp2_with fail
          go_quiet (fail)
          go_wp2
          go_roundw
          case rel => exact ⟨k + 1, 2, j, X ++ x2, by omega, by go_num, rfl, .inr (.inr ⟨rfl, ⟨_, rfl⟩⟩), hB, Lib.hid (by rw [← hX.out, hdrop]; simp [mix]), by (repeat' (first | (with_reducible assumption) | (with_reducible exact Below.refl _ _) | (with_reducible refine below_drewN ?_ _) | (with_reducible refine Below.drew ?_) | (with_reducible refine Below.setCell ?_ ?_ _) | (with_reducible refine Below.alloc ?_ ?_ _) | (with_reducible refine below_putObj ?_ ?_ _) | (with_reducible exact Nat.le_refl _) | omega | (simp; done) | (simp; omega)))⟩
          case measure => simp [intOf]; omega
        · obtain ⟨ad, rfl⟩ := hE
          go_wp2
          go_roundw
          case rel => exact ⟨k + 1, 2, j, X, by omega, by go_num, rfl, .inr (.inr ⟨rfl, ⟨_, rfl⟩⟩), hB, Lib.hid (by rw [← hX.out, hdrop]; simp [mix]), hbw⟩
          case measure => simp [intOf]; omega
      | false =>
        rcases hB with ⟨rfl, rfl⟩ | ⟨rfl, rfl⟩ | ⟨rfl, hE⟩
        · have p0 := ((HGB.out.below hbw HGB.out.lt).cell 0)
          simp only [List.getElem?_toArray, List.getElem?_cons_zero] at p0
          go_wp2_with fail
          go_quiet (fail)
          go_wp2
          go_roundw
          case rel => exact ⟨k + 1, i, 1, X ++ x3, by omega, by go_num, rfl, hA, .inr (.inl ⟨rfl, rfl⟩), Lib.hid (by rw [← hX.out, hdrop]; simp [mix]), by (repeat' (first | (with_reducible assumption) | (with_reducible exact Below.refl _ _) | (with_reducible refine below_drewN ?_ _) | (with_reducible refine Below.drew ?_) | (with_reducible refine Below.setCell ?_ ?_ _) | (with_reducible refine Below.alloc ?_ ?_ _) | (with_reducible refine below_putObj ?_ ?_ _) | (with_reducible exact Nat.le_refl _) | omega | (simp; done) | (simp; omega)))⟩
          case measure => simp [intOf]; omega
        · have p0 := ((HGB.out.below hbw HGB.out.lt).cell 1)
          simp only [List.getElem?_toArray, List.getElem?_cons_zero, List.getElem?_cons_succ] at p0
          go_wp2_with fail
          go_quiet (fail)
          go_wp2
          go_roundw
          case rel => exact ⟨k + 1, i, 2, X ++ x4, by omega, by go_num, rfl, hA, .inr (.inr ⟨rfl, ⟨_, rfl⟩⟩), Lib.hid (by rw [← hX.out, hdrop]; simp [mix]), by (repeat' (first | (with_reducible assumption) | (with_reducible exact Below.refl _ _) | (with_reducible refine below_drewN ?_ _) | (with_reducible refine Below.drew ?_) | (with_reducible refine Below.setCell ?_ ?_ _) | (with_reducible refine Below.alloc ?_ ?_ _) | (with_reducible refine below_putObj ?_ ?_ _) | (with_reducible exact Nat.le_refl _) | omega | (simp; done) | (simp; omega)))⟩
          case measure => simp [intOf]; omega
        · obtain ⟨ad, rfl⟩ := hE
          go_wp2
          go_roundw
          case rel => exact ⟨k + 1, i, 2, X, by omega, by go_num, rfl, hA, .inr (.inr ⟨rfl, ⟨_, rfl⟩⟩), Lib.hid (by rw [← hX.out, hdrop]; simp [mix]), hbw⟩
          case measure => simp [intOf]; omega
    · obtain rfl : k = N := by omega
      have k1 : ¬ (k : Int) < (k : Int) := by omega
      have hall : X ++ ([x1, x2].drop i ++ [x3, x4].drop j).flatten = mix o [x1, x2] [x3, x4] := by
        have h := hX.out
        rw [List.drop_of_length_le (by rw [← HN.out]; exact Nat.le_refl _)] at h
        rw [List.flatten_append]
        exact h
      have hRl : ([x1, x2].drop i ++ [x3, x4].drop j).length = (2 - i) + (2 - j) := by rw [List.length_append, List.length_drop, List.length_drop]; rfl
      have SA : SlAt wr _ (2 - i) (([x1, x2].drop i).map fun x => .string ⟨x.toArray⟩) := two_at (HGA.out.below hbw HGA.out.lt) hA
      have SB : SlAt wr _ (2 - j) (([x3, x4].drop j).map fun x => .string ⟨x.toArray⟩) := two_at (HGB.out.below hbw HGB.out.lt) hB
      have hi2 : 2 - i ≤ 2 := Nat.sub_le _ _
      have hj2 : 2 - j ≤ 2 := Nat.sub_le _ _
      have LA1 : Hid ((([x1, x2].drop i).map fun x => Value.string ⟨x.toArray⟩).length = (2 - i) * 1) := Lib.hid (by rw [List.length_map, List.length_drop, Nat.mul_one]; rfl)
      have LB1 : Hid ((([x3, x4].drop j).map fun x => Value.string ⟨x.toArray⟩).length = (2 - j) * 1) := Lib.hid (by rw [List.length_map, List.length_drop, Nat.mul_one]; rfl)
      have OA1 := Lib.hid (strs_one ([x1, x2].drop i))
      have OB1 := Lib.hid (strs_one ([x3, x4].drop j))
      obtain ⟨aA, cA, rfl⟩ := SA.form
      obtain ⟨aB, cB, rfl⟩ := SB.form
      obtain ⟨WE, hWE⟩ : ∃ WE, WE = wr := ⟨_, rfl⟩
      rw [← hWE] at SA SB hbw ⊢
      have SA1 := Lib.hid (SA.below (show Below WE.heap.size WE (WE.alloc (.cells #[] 9)) by (repeat' (first | (with_reducible assumption) | (with_reducible exact Below.refl _ _) | (with_reducible refine below_drewN ?_ _) | (with_reducible refine Below.drew ?_) | (with_reducible refine Below.setCell ?_ ?_ _) | (with_reducible refine Below.alloc ?_ ?_ _) | (with_reducible refine below_putObj ?_ ?_ _) | (with_reducible exact Nat.le_refl _) | omega | (simp; done) | (simp; omega)))))
      have SB0 := Lib.hid SB
      have HALL := Lib.hid hall
      have HRL := Lib.hid hRl
      have HEW := Lib.hid hbw
      obtain ⟨i0, hi, hz0, hz1, hz2⟩ := info_parts Try.infoStr
      clear hall hRl SA SB hA hB hX hWE hbw
      generalize hii : 2 - i = ni at *
      generalize hjj : 2 - j = nj at *
      generalize [x1, x2].drop i = RA at *
      generalize [x3, x4].drop j = RB at *
      clear hii hjj
      go_wp2_with (at_builtin; refine wpList_append_slat (by rfl) _ _ 53 rfl WE.heap.size 9 i0 (.string ⟨#[]⟩) 1 16 Try.underlying53 hi hz0 hz1 hz2 rfl (by decide) _ _ _ _ rfl (World.ownsRow_made WE #[] 0 (Nat.le_refl _) (Nat.zero_le _) rfl) _ _ _ rfl SA1.out LA1.out OA1.out (by unfold maxLen; omega) (by omega) (by simp) ?_)
      intro g1 c1' w9' own1 gr1
      have own1 : w9'.ownsRow WE.heap.size 9 1 (.slice (some ⟨g1, 0, none⟩) ni c1') ni (RA.map fun x => .string ⟨x.toArray⟩) := by simpa using own1
      have hz9 : 0 + ni = ni := Nat.zero_add _
      try rw [hz9]
      clear hz9
      have hb89 : Below WE.heap.size WE w9' := ((Below.refl _ WE).alloc (Nat.le_refl _) _).grown gr1 (by simp) (fun k hk => by simp only [Option.some.injEq] at hk; omega)
      have SB1 := Lib.hid (SB0.out.below hb89)
      have OW1 := Lib.hid own1
      have BS1 := Lib.hid hb89.size
      have HB89 := Lib.hid hb89
      clear own1 gr1 hb89 SB0 SA1 LA1 OA1
      go_wp2_with (at_builtin; refine wpList_append_slat (by rfl) _ _ 53 rfl WE.heap.size 9 i0 (.string ⟨#[]⟩) 1 16 Try.underlying53 hi hz0 hz1 hz2 rfl (by decide) _ _ _ _ rfl OW1.out _ _ _ rfl SB1.out LB1.out OB1.out (by unfold maxLen; omega) (by omega) BS1.out ?_)
      intro g2 c2' w10 own2 gr2
      have hb810 : Below WE.heap.size WE w10 := HB89.out.grown gr2 HB89.out.size (fun k hk => by simp only [Option.some.injEq] at hk; have := (own_cap OW1.out).2.2.1; omega)
      have SR : SlAt w10 (.slice (some ⟨g2, 0, none⟩) (ni + nj) c2') (ni + nj) ((RA ++ RB).map fun x => .string ⟨x.toArray⟩) := by rw [List.map_append]; exact SlAt.of_row own2
      have HSR := Lib.hid SR
      have HE10 := Lib.hid (below_next HEW.out hb810)
      clear own2 gr2 hb810 SR OW1 BS1 HB89 SB1 LB1 OB1
      have HXA : Hid (∀ k2, X.length + (((RA ++ RB).take k2).flatten).length ≤ 10000) := Lib.hid (fun k2 => by
        have h1 := congrArg List.length HALL.out
        rw [List.length_append] at h1
        have h2 := take_flat_le (RA ++ RB) k2
        have h3 := HLEN.out
        omega)
      go_wp2_with fail
      go_loopw [160, 25] (fun iv av wq => ∃ (k2 : Nat) (Y : List UInt8), k2 ≤ ni + nj ∧ iv = .int .i64 k2 ∧ av = .string ⟨Y.toArray⟩ ∧ Hid (Y = X ++ ((RA ++ RB).take k2).flatten) ∧ Below w10.heap.size w10 wq) (fun iv _ _ => ni + nj - (intOf iv).toNat)
      case atStart => exact ⟨0, X, Nat.zero_le _, rfl, rfl, Lib.hid (by simp), Below.refl _ _⟩
      case round =>
        obtain ⟨k2, Y, hk2, rfl, rfl, hY, hbq⟩ := hrel
        by_cases hlt2 : k2 < ni + nj
        · have j1 : (k2 : Int) < (ni : Int) + (nj : Int) := by omega
          have j1' : (k2 : Int) < ((ni + nj : Nat) : Int) := by omega
          have j0 : (0 : Int) ≤ (k2 : Int) := by omega
          obtain ⟨x, hx⟩ : ∃ x, (RA ++ RB)[k2]? = some x := ⟨_, List.getElem?_eq_getElem (by rw [HRL.out]; exact hlt2)⟩
          have hxm : ((RA ++ RB).map fun x => Value.string ⟨x.toArray⟩)[k2]? = some (.string ⟨x.toArray⟩) := by rw [List.getElem?_map, hx]; rfl
          obtain ⟨b0, o0, e0, A0⟩ := HSR.out.addr hxm
          simp only [Option.some.injEq, Addr.mk.injEq, and_true] at e0
          obtain ⟨rfl, rfl⟩ := e0
          have p0 := cell_keepS (A0 k2 _ hxm) hbq
          have hYx : Y ++ x = X ++ ((RA ++ RB).take (k2 + 1)).flatten := by rw [hY.out, List.take_add_one, hx]; simp
          have HYX := Lib.hid hYx
          have hyl : ¬ 9223372036854775807 < Y.length + x.length := by
            have h1 := congrArg List.length hYx
            rw [List.length_append, List.length_append] at h1
            have h2 := HXA.out (k2 + 1)
            omega
          clear A0 hx hxm hYx
          rw [Nat.zero_add] at p0
          go_wp2
          go_roundw
          case rel => exact ⟨k2 + 1, Y ++ x, by omega, by go_num, rfl, HYX, hbq⟩
          case measure => simp [intOf]; omega
        · have hk3 : k2 = ni + nj := by omega
          have j1 : ¬ (k2 : Int) < (ni : Int) + (nj : Int) := by omega
          have j1' : ¬ (k2 : Int) < ((ni + nj : Nat) : Int) := by omega
          have hYA : Y = mix o [x1, x2] [x3, x4] := by
            rw [hY.out, List.take_of_length_le (by rw [HRL.out]; omega)]
            exact HALL.out
          have HYA := Lib.hid hYA
          clear hYA hk3
          have hb9r := below_next HE10.out hbq
          have BQ := HGQ.out.below hb9r HGQ.out.lt
          have BP := HGP.out.below hb9r HGP.out.lt
          have q0 := BQ.cell 0
          have q1 := BQ.cell 1
          have q2 := BQ.cell 2
          have q3 := BQ.cell 3
          have q4 := BQ.cell 4
          have q5 := BQ.cell 5
          have p0 := BP.cell 0
          have p1 := BP.cell 1
          have p2 := BP.cell 2
          have p3 := BP.cell 3
          have p4 := BP.cell 4
          have p5 := BP.cell 5
          simp only [List.getElem?_toArray, List.getElem?_cons_zero, List.getElem?_cons_succ] at q0 q1 q2 q3 q4 q5 p0 p1 p2 p3 p4 p5
          have HBQ := Lib.hid BQ
          have HBP := Lib.hid BP
          have HB9r := Lib.hid (below_next HB9.out hb9r)
          clear BQ BP hb9r HE10 HEW HGA HGB HSR HALL HRL HXA hY hbq hi hz0 hz1 hz2 HV hXl hxl
          go_wp2_with fail
          have hwf : ∀ q ∈ [mxQ frm s more, mxP at_ t], q.wf ∧ q.data.length ≤ 40000 := by
            intro q hq
            have hwfQ : (mxQ frm s more).wf := ⟨by have := HOK.out.len; show s.length + more.length < _; omega, by show (1 : Nat) < _; decide, by show frm < _; omega⟩
            have hwfP : (mxP at_ t).wf := ⟨by have := HOK.out.tlen; show t.length < _; omega, by show (2 : Nat) < _; decide, by show at_ < _; omega⟩
            simp only [List.mem_cons, List.not_mem_nil, or_false] at hq
            rcases hq with rfl | rfl
            · exact ⟨hwfQ, by simp [mxQ]⟩
            · exact ⟨hwfP, by simp [mxP]⟩
          have HAK := Lib.hid (askedM_asked true [mxQ frm s more, mxP at_ t] (fun q hq => (hwf q hq).1)).1
          refine (asked_any true _ [mxQ frm s more, mxP at_ t] _ (.inr ⟨⟨wr.heap.size, 0, none⟩, 2, rfl, .inr rfl, ?cs⟩) (by simp) hwf).mono ?_
          case cs =>
            intro j u hu
            rw [HQ.out, HP.out] at hu
            rw [Addr.add_lit, Nat.zero_add]
            refine Eq.trans (Blk.cell (Blk.new wr 37 _) j) ?_
            simpa [reqC] using hu
          rintro e w11 ⟨va, vb, rfl, hwa, hwb, hb11⟩
          obtain ⟨M, hM⟩ : ∃ M, M = askedM true [mxQ frm s more, mxP at_ t] := ⟨_, rfl⟩
          rw [← hM] at hwa hwb HAK HFD ⊢
          clear hM
          have HF := Lib.hid (fun W v (hv : WaitsAt W v M.waits) => feed_any 0 M Y v W hv HAK.out.ok (by rw [HYA.out]; have := HLEN.out; omega))
          obtain ⟨a1, c1, rfl⟩ := hwa.form
          obtain ⟨a2, c2, rfl⟩ := hwb.form
          have hr11 : Below wr.heap.size wr w11 := below_next (show Below wr.heap.size wr _ by (repeat' (first | (with_reducible assumption) | (with_reducible exact Below.refl _ _) | (with_reducible refine below_drewN ?_ _) | (with_reducible refine Below.drew ?_) | (with_reducible refine Below.setCell ?_ ?_ _) | (with_reducible refine Below.alloc ?_ ?_ _) | (with_reducible refine below_putObj ?_ ?_ _) | (with_reducible exact Nat.le_refl _) | omega | (simp; done) | (simp; omega)))) hb11
          unfold matC
          go_upto_region 25 with fail
          obtain ⟨W12, hW12⟩ : ∃ W12, W12 = ((w11.alloc (.cells #[.string ⟨M.buf.toArray⟩, .bool M.chunks, .slice a1 M.waits.length c1, .bool M.dead] 28)).alloc (.cells #[.string ⟨M.buf.toArray⟩, .bool M.chunks, .slice a2 M.waits.length c2, .bool M.dead] 28)) := ⟨_, rfl⟩
          rw [← hW12]
          have h112 : Below w11.heap.size w11 W12 := by rw [hW12]; (repeat' (first | (with_reducible assumption) | (with_reducible exact Below.refl _ _) | (with_reducible refine below_drewN ?_ _) | (with_reducible refine Below.drew ?_) | (with_reducible refine Below.setCell ?_ ?_ _) | (with_reducible refine Below.alloc ?_ ?_ _) | (with_reducible refine below_putObj ?_ ?_ _) | (with_reducible exact Nat.le_refl _) | omega | (simp; done) | (simp; omega)))
          have BT : Blk W12 w11.heap.size 28 #[.string ⟨M.buf.toArray⟩, .bool M.chunks, .slice a1 M.waits.length c1, .bool M.dead] := by rw [hW12]; exact (Blk.new w11 _ _).alloc _
          have hr12 := below_next hr11 h112
          have HWA12 := Lib.hid (hwa.below h112)
          have m0 := BT.cell 0
          have m1 := BT.cell 1
          have m2 := BT.cell 2
          have m3 := BT.cell 3
          simp only [List.getElem?_toArray, List.getElem?_cons_zero, List.getElem?_cons_succ] at m0 m1 m2 m3
          have hgr : wr.heap.size ≤ w11.heap.size := hr11.size
          have HBT := Lib.hid BT
          clear hW12 h112 hr11 hwa hwb hb11 BT q0 q1 q2 q3 q4 q5 p0 p1 p2 p3 p4 p5 hwf
          generalize w11.heap.size = GT at *
          go_wp2_with fail
          refine (HF.out _ _ HWA12.out).mono ?_
          rintro e w13 ⟨n, out, vA, yA, rfl, hfd, hwn, hyn, hb13⟩
          rw [HYA.out] at hfd
          obtain ⟨hn, hout⟩ := HFD.out n out hfd
          subst hn
          obtain ⟨z0, z1, hz, hzz⟩ : ∃ z0 z1, out = [z0, z1] ∧ ((z0 = mxAA frm s more ∧ z1 = mxAB at_ t) ∨ (z0 = mxAB at_ t ∧ z1 = mxAA frm s more)) := by
            rcases hout with h | h
            · exact ⟨_, _, h, .inl ⟨rfl, rfl⟩⟩
            · exact ⟨_, _, h, .inr ⟨rfl, rfl⟩⟩
          subst hz
          obtain ⟨pA, qA, rfl⟩ := hwn.form
          obtain ⟨rA, tA, rfl⟩ := hyn.form
          have BT3 := HBT.out.below hb13 HBT.out.lt
          clear m0 m1 m2 m3
          have m0 := BT3.cell 0
          have m1 := BT3.cell 1
          have m2 := BT3.cell 2
          have m3 := BT3.cell 3
          have f0 := BT3.frozen 0
          have f1 := BT3.frozen 1
          have f2 := BT3.frozen 2
          have f3 := BT3.frozen 3
          simp only [List.getElem?_toArray, List.getElem?_cons_zero, List.getElem?_cons_succ] at m0 m1 m2 m3
          have hr13 := below_next hr12 hb13
          unfold matC mxN
          dsimp only [List.length_cons, List.length_nil]
          go_upto_region 26 with fail
          obtain ⟨W14, hW14⟩ : ∃ W14, W14 = ((((w13.setCell ⟨GT, 0, none⟩ (.string ⟨#[]⟩)).setCell ⟨GT, 1, none⟩ (.bool true)).setCell ⟨GT, 2, none⟩ (.slice pA 0 qA)).setCell ⟨GT, 3, none⟩ (.bool false)) := ⟨_, rfl⟩
          rw [← hW14]
          have BT4 : Blk W14 GT 28 #[.string ⟨#[]⟩, .bool true, .slice pA 0 qA, .bool false] := by rw [hW14]; exact ((((BT3.set_ 0 _).set_ 1 _).set_ 2 _).set_ 3 _).as_ (by simp)
          have hy14 : AnswsAt W14 (.slice rA [z0, z1].length tA) [z0, z1] := by rw [hW14]; exact hyn.apart (apart_set (apart_set (apart_set (apart_set (apart_refl w13) BT3 matchT 0 _) BT3 matchT 1 _) BT3 matchT 2 _) BT3 matchT 3 _)
          have hr14 : Below wr.heap.size wr W14 := by have hs13 := hr13.size; rw [hW14]; (repeat' (first | (with_reducible assumption) | (with_reducible exact Below.refl _ _) | (with_reducible refine below_drewN ?_ _) | (with_reducible refine Below.drew ?_) | (with_reducible refine Below.setCell ?_ ?_ _) | (with_reducible refine Below.alloc ?_ ?_ _) | (with_reducible refine below_putObj ?_ ?_ _) | (with_reducible exact Nat.le_refl _) | omega | (simp; done) | (simp; omega)))
          have n2 := BT4.cell 2
          have n3 := BT4.cell 3
          simp only [List.getElem?_toArray, List.getElem?_cons_zero, List.getElem?_cons_succ] at n2 n3
          have HQ4 := Lib.hid (HBQ.out.below hr14 HBQ.out.lt)
          have HP4 := Lib.hid (HBP.out.below hr14 HBP.out.lt)
          obtain ⟨ps, p1, p2, p3⟩ := hy14.pairs
          obtain ⟨v0, hu0⟩ := pairs_get p1 0 z0 rfl
          obtain ⟨v1, hu1⟩ := pairs_get p1 1 z1 rfl
          obtain ⟨su0, cu0, e5⟩ := (p3 _ (List.mem_of_getElem? hu0)).form
          dsimp only at e5
          subst e5
          obtain ⟨su1, cu1, e6⟩ := (p3 _ (List.mem_of_getElem? hu1)).form
          dsimp only at e6
          subst e6
          obtain ⟨gD, oD, rfl, _⟩ := answ_cells p2 hu0
          have HU : Hid (∀ W, Below W14.heap.size W14 W → AnswCells W gD (oD + 0 * 9) (z0, .slice su0 z0.spans.length cu0) ∧ AnswCells W gD (oD + 1 * 9) (z1, .slice su1 z1.spans.length cu1)) := Lib.hid (fun W hb => by
            obtain ⟨_, _, e7, A0⟩ := answ_cells p2 hu0
            simp only [Option.some.injEq, Addr.mk.injEq, and_true] at e7
            obtain ⟨rfl, rfl⟩ := e7
            obtain ⟨_, _, e8, A1⟩ := answ_cells p2 hu1
            simp only [Option.some.injEq, Addr.mk.injEq, and_true] at e8
            obtain ⟨rfl, rfl⟩ := e8
            exact ⟨A0.below hb, A1.below hb⟩)
          clear hW14 BT4 BT3 hy14 hyn hwn hfd hout hb13 m0 m1 m2 m3 f0 f1 f2 f3 hr13 hr12 HF HFD HWA12 HBT HAK HYA
          go_wp2_with fail
          go_loopw [197] (fun iv wz => ∃ k3 : Nat, k3 ≤ 2 ∧ iv = .int .i64 k3 ∧ Below W14.heap.size W14 wz) (fun iv _ => 2 - (intOf iv).toNat)
          case atStart => exact ⟨0, Nat.zero_le _, rfl, Below.refl _ _⟩
          case round =>
            obtain ⟨k3, hk3, rfl, hbz⟩ := hrel
            have hszz := hbz.size
            by_cases hl3 : k3 < 2
            · have BQ := HQ4.out.below hbz HQ4.out.lt
              have BP := HP4.out.below hbz HP4.out.lt
              have q0 := BQ.cell 0
              have q1 := BQ.cell 1
              have q2 := BQ.cell 2
              have q3 := BQ.cell 3
              have q4 := BQ.cell 4
              have q5 := BQ.cell 5
              have p0' := BP.cell 0
              have p1' := BP.cell 1
              have p2' := BP.cell 2
              have p3' := BP.cell 3
              have p4' := BP.cell 4
              have p5' := BP.cell 5
              simp only [List.getElem?_toArray, List.getElem?_cons_zero, List.getElem?_cons_succ] at q0 q1 q2 q3 q4 q5 p0' p1' p2' p3' p4' p5'
              have hlq := BQ.lt
              have hlp := BP.lt
              have zq := fun o i => old_cell (w := wr) (g := w.heap.size) hlq o i
              have zp := fun o i => old_cell (w := wr) (g := w.heap.size + 1) hlp o i
              obtain ⟨A0, A1⟩ := HU.out _ hbz
              clear BQ BP p1 p2 p3 hu0 hu1
              rcases (show k3 = 0 ∨ k3 = 1 by omega) with rfl | rfl
              · obtain ⟨t0, t1, t2, t3, t4, t5, t6, t7, t8⟩ := A0
                clear A1
                simp only [Nat.zero_mul, Nat.add_zero] at t0 t1 t2 t3 t4 t5 t6 t7 t8
                rcases hzz with ⟨rfl, rfl⟩ | ⟨rfl, rfl⟩
                · simp only [mxAA, HQ.out] at t0 t1 t2 t3 t4 t5 t6 t7 t8
                  go_wp2
                  go_roundw
                  case rel => exact ⟨1, by omega, by first | rfl | go_num, by (repeat' (first | (with_reducible assumption) | (with_reducible exact Below.refl _ _) | (with_reducible refine below_drewN ?_ _) | (with_reducible refine Below.drew ?_) | (with_reducible refine Below.setCell ?_ ?_ _) | (with_reducible refine Below.alloc ?_ ?_ _) | (with_reducible refine below_putObj ?_ ?_ _) | (with_reducible exact Nat.le_refl _) | omega | (simp; done) | (simp; omega)))⟩
                  case measure => simp [intOf]
                · simp only [mxAB, HP.out] at t0 t1 t2 t3 t4 t5 t6 t7 t8
                  go_wp2
                  go_roundw
                  case rel => exact ⟨1, by omega, by first | rfl | go_num, by (repeat' (first | (with_reducible assumption) | (with_reducible exact Below.refl _ _) | (with_reducible refine below_drewN ?_ _) | (with_reducible refine Below.drew ?_) | (with_reducible refine Below.setCell ?_ ?_ _) | (with_reducible refine Below.alloc ?_ ?_ _) | (with_reducible refine below_putObj ?_ ?_ _) | (with_reducible exact Nat.le_refl _) | omega | (simp; done) | (simp; omega)))⟩
                  case measure => simp [intOf]
              · obtain ⟨t0, t1, t2, t3, t4, t5, t6, t7, t8⟩ := A1
                clear A0
                simp only [Nat.one_mul] at t0 t1 t2 t3 t4 t5 t6 t7 t8
                rcases hzz with ⟨rfl, rfl⟩ | ⟨rfl, rfl⟩
                · simp only [mxAB, HP.out] at t0 t1 t2 t3 t4 t5 t6 t7 t8
                  go_wp2
                  go_roundw
                  case rel => exact ⟨2, by omega, by first | rfl | go_num, by (repeat' (first | (with_reducible assumption) | (with_reducible exact Below.refl _ _) | (with_reducible refine below_drewN ?_ _) | (with_reducible refine Below.drew ?_) | (with_reducible refine Below.setCell ?_ ?_ _) | (with_reducible refine Below.alloc ?_ ?_ _) | (with_reducible refine below_putObj ?_ ?_ _) | (with_reducible exact Nat.le_refl _) | omega | (simp; done) | (simp; omega)))⟩
                  case measure => simp [intOf]
                · simp only [mxAA, HQ.out] at t0 t1 t2 t3 t4 t5 t6 t7 t8
                  go_wp2
                  go_roundw
                  case rel => exact ⟨2, by omega, by first | rfl | go_num, by (repeat' (first | (with_reducible assumption) | (with_reducible exact Below.refl _ _) | (with_reducible refine below_drewN ?_ _) | (with_reducible refine Below.drew ?_) | (with_reducible refine Below.setCell ?_ ?_ _) | (with_reducible refine Below.alloc ?_ ?_ _) | (with_reducible refine below_putObj ?_ ?_ _) | (with_reducible exact Nat.le_refl _) | omega | (simp; done) | (simp; omega)))⟩
                  case measure => simp [intOf]
            · obtain rfl : k3 = 2 := by omega
              rcases hzz with ⟨rfl, rfl⟩ | ⟨rfl, rfl⟩
              · have HS : Hid (∀ W, Below W14.heap.size W14 W → (W.cell? ⟨gD, oD + 0 * 9, none⟩ = some (.int .i64 0) ∧ W.cell? ⟨gD, oD + 0 * 9 + 1, none⟩ = some (.int .i64 0) ∧ W.cell? ⟨gD, oD + 0 * 9 + 2, none⟩ = some (.int .u64 1) ∧ W.cell? ⟨gD, oD + 0 * 9 + 3, none⟩ = some (.int .u64 (frm : Nat)) ∧ W.cell? ⟨gD, oD + 0 * 9 + 4, none⟩ = some (.int .u32 (L1 : Nat)) ∧ W.cell? ⟨gD, oD + 0 * 9 + 5, none⟩ = some (.string ⟨#[]⟩)) ∧ W.cell? ⟨gD, oD + 1 * 9, none⟩ = some (.int .i64 0) ∧ W.cell? ⟨gD, oD + 1 * 9 + 1, none⟩ = some (.int .i64 0) ∧ W.cell? ⟨gD, oD + 1 * 9 + 2, none⟩ = some (.int .u64 2) ∧ W.cell? ⟨gD, oD + 1 * 9 + 3, none⟩ = some (.int .u64 (at_ : Nat)) ∧ W.cell? ⟨gD, oD + 1 * 9 + 4, none⟩ = some (.int .u32 (t.length : Nat)) ∧ W.cell? ⟨gD, oD + 1 * 9 + 5, none⟩ = some (.string ⟨#[]⟩)) := Lib.hid (fun W hb => by
                  obtain ⟨_, _, e7, A0⟩ := answ_cells p2 hu0
                  simp only [Option.some.injEq, Addr.mk.injEq, and_true] at e7
                  obtain ⟨rfl, rfl⟩ := e7
                  obtain ⟨_, _, e8, A1⟩ := answ_cells p2 hu1
                  simp only [Option.some.injEq, Addr.mk.injEq, and_true] at e8
                  obtain ⟨rfl, rfl⟩ := e8
                  obtain ⟨a0, a1, a2, a3, a4, a5, _⟩ := A0.below hb
                  obtain ⟨d0, d1, d2, d3, d4, d5, _⟩ := A1.below hb
                  simp only [mxAA, HQ.out] at a0 a1 a2 a3 a4 a5
                  simp only [mxAB, HP.out] at d0 d1 d2 d3 d4 d5
                  exact ⟨⟨a0, a1, a2, a3, a4, a5⟩, d0, d1, d2, d3, d4, d5⟩)
                have SD := HS.out wr.drew (below_drewN hbz _)
                simp only [Nat.zero_mul, Nat.add_zero, Nat.one_mul] at HS SD
                clear p1 p2 p3 hu0 hu1
                go_upto_region 34 with fail
                go_region_held3 (fun w' => (w'.cell? ⟨gD, oD, none⟩ = some (.int .i64 0) ∧ w'.cell? ⟨gD, oD + 1, none⟩ = some (.int .i64 0) ∧ w'.cell? ⟨gD, oD + 2, none⟩ = some (.int .u64 1) ∧ w'.cell? ⟨gD, oD + 3, none⟩ = some (.int .u64 (frm : Nat)) ∧ w'.cell? ⟨gD, oD + 4, none⟩ = some (.int .u32 (L1 : Nat)) ∧ w'.cell? ⟨gD, oD + 5, none⟩ = some (.string ⟨#[]⟩)) ∧ w'.cell? ⟨gD, oD + 9, none⟩ = some (.int .i64 0) ∧ w'.cell? ⟨gD, oD + 9 + 1, none⟩ = some (.int .i64 0) ∧ w'.cell? ⟨gD, oD + 9 + 2, none⟩ = some (.int .u64 2) ∧ w'.cell? ⟨gD, oD + 9 + 3, none⟩ = some (.int .u64 (at_ : Nat)) ∧ w'.cell? ⟨gD, oD + 9 + 4, none⟩ = some (.int .u32 (t.length : Nat)) ∧ w'.cell? ⟨gD, oD + 9 + 5, none⟩ = some (.string ⟨#[]⟩))
                  (first | with_reducible exact SD | with_reducible exact SE | with_reducible exact SG | go_keep)
                  (first | (go_at_call 15; refine (named_a _).mono ?_; rintro e w20 ⟨rfl, hb20⟩; have hz20 := below_next (below_drewN hbz 1) hb20; have SE := HS.out _ hz20) | (go_at_call 8; refine (HA.out _).mono ?_; rintro e w21 ⟨rfl, hb21⟩; have hz21 := below_next hz20 hb21; have SG := HS.out _ hz21))
                all_goals go_wp2
                all_goals go_ret
                all_goals exact ⟨rfl, below_next HB9r.out (below_next hr14 hz21)⟩
              · have HS : Hid (∀ W, Below W14.heap.size W14 W → (W.cell? ⟨gD, oD + 0 * 9, none⟩ = some (.int .i64 0) ∧ W.cell? ⟨gD, oD + 0 * 9 + 1, none⟩ = some (.int .i64 0) ∧ W.cell? ⟨gD, oD + 0 * 9 + 2, none⟩ = some (.int .u64 2) ∧ W.cell? ⟨gD, oD + 0 * 9 + 3, none⟩ = some (.int .u64 (at_ : Nat)) ∧ W.cell? ⟨gD, oD + 0 * 9 + 4, none⟩ = some (.int .u32 (t.length : Nat)) ∧ W.cell? ⟨gD, oD + 0 * 9 + 5, none⟩ = some (.string ⟨#[]⟩)) ∧ W.cell? ⟨gD, oD + 1 * 9, none⟩ = some (.int .i64 0) ∧ W.cell? ⟨gD, oD + 1 * 9 + 1, none⟩ = some (.int .i64 0) ∧ W.cell? ⟨gD, oD + 1 * 9 + 2, none⟩ = some (.int .u64 1) ∧ W.cell? ⟨gD, oD + 1 * 9 + 3, none⟩ = some (.int .u64 (frm : Nat)) ∧ W.cell? ⟨gD, oD + 1 * 9 + 4, none⟩ = some (.int .u32 (L1 : Nat)) ∧ W.cell? ⟨gD, oD + 1 * 9 + 5, none⟩ = some (.string ⟨#[]⟩)) := Lib.hid (fun W hb => by
                  obtain ⟨_, _, e7, A0⟩ := answ_cells p2 hu0
                  simp only [Option.some.injEq, Addr.mk.injEq, and_true] at e7
                  obtain ⟨rfl, rfl⟩ := e7
                  obtain ⟨_, _, e8, A1⟩ := answ_cells p2 hu1
                  simp only [Option.some.injEq, Addr.mk.injEq, and_true] at e8
                  obtain ⟨rfl, rfl⟩ := e8
                  obtain ⟨a0, a1, a2, a3, a4, a5, _⟩ := A0.below hb
                  obtain ⟨d0, d1, d2, d3, d4, d5, _⟩ := A1.below hb
                  simp only [mxAB, HP.out] at a0 a1 a2 a3 a4 a5
                  simp only [mxAA, HQ.out] at d0 d1 d2 d3 d4 d5
                  exact ⟨⟨a0, a1, a2, a3, a4, a5⟩, d0, d1, d2, d3, d4, d5⟩)
                have SD := HS.out wr.drew (below_drewN hbz _)
                simp only [Nat.zero_mul, Nat.add_zero, Nat.one_mul] at HS SD
                clear p1 p2 p3 hu0 hu1
                go_upto_region 34 with fail
                go_region_held3 (fun w' => (w'.cell? ⟨gD, oD, none⟩ = some (.int .i64 0) ∧ w'.cell? ⟨gD, oD + 1, none⟩ = some (.int .i64 0) ∧ w'.cell? ⟨gD, oD + 2, none⟩ = some (.int .u64 2) ∧ w'.cell? ⟨gD, oD + 3, none⟩ = some (.int .u64 (at_ : Nat)) ∧ w'.cell? ⟨gD, oD + 4, none⟩ = some (.int .u32 (t.length : Nat)) ∧ w'.cell? ⟨gD, oD + 5, none⟩ = some (.string ⟨#[]⟩)) ∧ w'.cell? ⟨gD, oD + 9, none⟩ = some (.int .i64 0) ∧ w'.cell? ⟨gD, oD + 9 + 1, none⟩ = some (.int .i64 0) ∧ w'.cell? ⟨gD, oD + 9 + 2, none⟩ = some (.int .u64 1) ∧ w'.cell? ⟨gD, oD + 9 + 3, none⟩ = some (.int .u64 (frm : Nat)) ∧ w'.cell? ⟨gD, oD + 9 + 4, none⟩ = some (.int .u32 (L1 : Nat)) ∧ w'.cell? ⟨gD, oD + 9 + 5, none⟩ = some (.string ⟨#[]⟩))
                  (first | with_reducible exact SD | with_reducible exact SE | with_reducible exact SG | go_keep)
                  (first | (go_at_call 15; refine (named_a _).mono ?_; rintro e w20 ⟨rfl, hb20⟩; have hz20 := below_next (below_drewN hbz 1) hb20; have SE := HS.out _ hz20) | (go_at_call 8; refine (HA.out _).mono ?_; rintro e w21 ⟨rfl, hb21⟩; have hz21 := below_next hz20 hb21; have SG := HS.out _ hz21))
                all_goals go_wp2
                all_goals go_ret
                all_goals exact ⟨rfl, below_next HB9r.out (below_next hr14 hz21)⟩
end Go.Proofs.Ytfcojhpnpfodeaa
