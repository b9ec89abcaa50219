/- pack.Put: a number as bytes, by slices.Backward's iterator. -/
import Derived.Test.YtfcojhpnpfodeaaNum
import Derived.Test.YtfcojhpnpfodeaaProg
import Derived.Deep.OwnRows
namespace Go.Proofs.Ytfcojhpnpfodeaa
open Go.RowKit Go.Shelf

attribute [local go_sem] Oper.semAt_some

set_option maxRecDepth 100000 in
set_option maxHeartbeats 1000000 in
theorem backward1 (l Bs g size cap : Nat) (hs : size ≤ 8) (J : Nat → World → Prop)
    (hJ : ∀ k W, J k W → W.cell? ⟨Bs, 0, none⟩ = some (.slice (some ⟨g, 0, none⟩) size cap) ∧ ∀ j, j < size → ∃ v : Int, W.cell? ⟨g, j, none⟩ = some (.int .u8 v))
    (hY : ∀ k W (v : Int), k < size → J k W → YieldAt Fence.wide 0 Try.prog l #[.int .i64 ((size : Int) - 1 - k), .int .u8 v] W fun e W' => e = .returned (.bool true) ∧ J (k + 1) W')
    (W : World) (h0 : J 0 W) :
    CallsIn Fence.wide 0 Try.prog 73 #[.func (.yield l) #[] #[], .pointer (some ⟨Bs, 0, none⟩)] W fun e W' => e = .returned (.tuple #[]) ∧ J size W' := by
  refine callsIn_of Try.func73 rfl ?_
  simp only [Try.ntmps73, List.size_toArray, List.length_cons, List.length_nil, Nat.reduceAdd, Nat.reduceSub, Array.replicate_succ, Array.replicate_zero, List.push_toArray, List.append_toArray, List.nil_append, List.cons_append]
  have hb0 := (hJ 0 W h0).1
  gi_wp2
  gi_loopw [3] (fun i wr => ∃ k : Nat, k ≤ size ∧ i = .int .i64 ((size : Int) - 1 - k) ∧ J k wr) (fun i _ => (intOf i + 1).toNat)
  case atStart => exact ⟨0, Nat.zero_le _, by simp, h0⟩
  case round =>
    obtain ⟨k, hk, rfl, hJs⟩ := hrel
    obtain ⟨hb, hc⟩ := hJ k wr hJs
    by_cases hlt : k < size
    · obtain ⟨v, hv⟩ := hc (size - 1 - k) (by omega)
      obtain ⟨fn, tmps, assign, body, hy, hR⟩ := hY k wr v hlt hJs
      clear hb0 hY hJ hc
      gi_wp2
      refine hR.mono ?_
      rintro e W3 ⟨rfl, hJ3⟩
      gi_wp2
      go_roundw
      case rel => exact ⟨k + 1, by omega, by rw [show ((size : Int) - 1 - k) - 1 = (size : Int) - 1 - (k + 1 : Nat) from by omega], hJ3⟩
      case measure => simp [intOf]; omega
    · obtain rfl : k = size := by omega
      clear hY hJ hb0
      gi_wp2
      go_end0
      exact ⟨rfl, hJs⟩

/-- slices.Backward(s): the slice is boxed, the function captures the box. -/
theorem backward_any (a : Option Addr) (len cap : Nat) (w : World) :
    Calls Try.prog 64 #[.slice a len cap] w fun e w' => e = .returned (.func (.func 73) #[] #[.pointer (some ⟨w.heap.size, 0, none⟩)]) ∧ w.alloc (.cells #[.slice a len cap] 76) = w' := by
  go_enter Try.func64, Try.ntmps64
  go_wp2
  go_ret
  exact ⟨rfl, rfl⟩

theorem Try.infoByte : (Try.prog.info? 5).map (fun i => (i.zero, i.size, i.bytes)) = some (some (.int .u8 0), 1, 1) := by kernel_rfl

/-- The cells of Put's row behind k rounds. -/
def putRow (size n k : Nat) : Array Value := (List.replicate (size - k) (Value.int .u8 0) ++ (be k n).map fun c => Value.int .u8 (c.toNat : Int)).toArray

theorem cast_div_pow (n k : Nat) : ((n / 256 ^ k : Nat) : Int) = (n : Int) / 256 ^ k := by
  rw [Int.natCast_ediv, Int.natCast_pow]
  rfl
theorem shr8 (n k : Nat) : (n : Int) / 256 ^ k / 256 = (n : Int) / 256 ^ (k + 1) := by
  have h : n / 256 ^ k / 256 = n / 256 ^ (k + 1) := by rw [Nat.pow_succ, ← Nat.div_div_eq_div_mul]
  rw [← cast_div_pow, ← cast_div_pow, ← h]
  rfl
theorem byte8 (n k : Nat) : (n : Int) / 256 ^ k % 256 = ((UInt8.ofNat (n / 256 ^ k)).toNat : Int) := by
  rw [UInt8.toNat_ofNat', ← cast_div_pow]
  rfl
theorem putRow_size (size n k : Nat) (hk : k ≤ size) : (putRow size n k).size = size := by
  simp [putRow, be_length]; omega
theorem putRow_at (size n k j : Nat) (hj : j < size) : ∃ v : Int, (putRow size n k)[j]? = some (.int .u8 v) := by
  have hl : j < (putRow size n k).size := by simp [putRow, be_length]; omega
  rw [Array.getElem?_eq_getElem hl]
  have hm : (putRow size n k)[j] ∈ (List.replicate (size - k) (Value.int .u8 0) ++ (be k n).map fun c => Value.int .u8 (c.toNat : Int)) := by
    exact List.mem_toArray.1 (Array.getElem_mem hl)
  rcases List.mem_append.1 hm with h | h
  · exact ⟨0, by rw [List.eq_of_mem_replicate h]⟩
  · obtain ⟨c, _, hc⟩ := List.mem_map.1 h
    exact ⟨_, by rw [← hc]⟩
theorem putRow_set (size n k : Nat) (hk : k < size) : (putRow size n k).setIfInBounds (size - 1 - k) (.int .u8 ((UInt8.ofNat (n / 256 ^ k)).toNat : Int)) = putRow size n (k + 1) := by
  unfold putRow
  rw [List.setIfInBounds_toArray]
  congr 1
  rw [show size - k = (size - 1 - k) + 1 from by omega, List.replicate_succ', List.append_assoc, List.set_append_right _ _ (by simp), show size - (k + 1) = size - 1 - k from by omega]
  simp [be]

set_option maxRecDepth 100000 in
set_option maxHeartbeats 1000000 in
theorem put_any (n size : Nat) (h1 : 1 ≤ size) (h8 : size ≤ 8) (w : World) :
    Calls Try.prog 49 #[.int .u64 n, .int .i64 size] w (Gives (.string ⟨(be size n).toArray⟩) w) := by
  refine calls_of_marks Try.func49 rfl ?_
  simp only [Try.ntmps49, List.size_toArray, List.length_cons, List.length_nil, Nat.reduceAdd, Nat.reduceSub, Array.replicate_succ, Array.replicate_zero, List.push_toArray, List.append_toArray, List.nil_append, List.cons_append]
  have hmk := fun W => run_make_row' (P := Try.prog) 76 5 (.int .u8 0) 1 Try.underlying76 Try.infoByte rfl .i64 .i64 size (by omega) (by omega) W
  gi_wp2_with (gi_at_call 64; refine ((callsIn_wide (n := 0)).2 (backward_any _ _ _ _)).mono ?_; rintro e w' ⟨rfl, rfl⟩)
  refine wpIn_range (gf := 73) (lb := #[.pointer (some ⟨w.heap.size + 3, 0, none⟩)]) rfl (enters_of Try.func73 (by kernel_rfl) rfl) ?_
  intro rec hr1 hr2 hr3 hr4 hr5 hr6
  simp only [World.size_alloc]
  refine (backward1 (w.heap.size + 3 + 1 + 1) (w.heap.size + 3) (w.heap.size + 1) size size h8
    (fun k W => Blk W w.heap.size 34 #[.int .u64 ((n : Int) / 256 ^ k)] ∧ Blk W (w.heap.size + 1) 5 (putRow size n k) ∧
      Blk W (w.heap.size + 2) 76 #[.slice (some ⟨w.heap.size + 1, 0, none⟩) size size] ∧ Blk W (w.heap.size + 3) 76 #[.slice (some ⟨w.heap.size + 1, 0, none⟩) size size] ∧
      W.heap[w.heap.size + 3 + 1]? = some (.deferred (some [])) ∧ W.heap[w.heap.size + 3 + 1 + 1]? = some (.loop rec) ∧ Below w.heap.size w W) ?_ ?_ _ ?_).mono ?_
  · rintro k W ⟨b1, b2, b3, b4, hd, hl, hB⟩
    exact ⟨b4.cell 0, fun j hj => by rw [b2.cell]; exact putRow_at size n k j hj⟩
  · rintro k W v hk ⟨b1, b2, b3, b4, hd, hl, hB⟩
    refine yieldAt_of hl hr1 (by rw [hr4]; rfl) ?_
    rw [hr3, hr4, hr5]
    gi_wp2
    refine ⟨hl, fun W1 hW1 => ?_⟩
    rw [hr6]
    have c1 : Blk W1 w.heap.size 34 #[.int .u64 ((n : Int) / 256 ^ k)] := by rw [hW1]; exact b1.put (by omega) _
    have c2 : Blk W1 (w.heap.size + 1) 5 (putRow size n k) := by rw [hW1]; exact b2.put (by omega) _
    have c3 : Blk W1 (w.heap.size + 2) 76 #[.slice (some ⟨w.heap.size + 1, 0, none⟩) size size] := by rw [hW1]; exact b3.put (by omega) _
    have c4 : Blk W1 (w.heap.size + 3) 76 #[.slice (some ⟨w.heap.size + 1, 0, none⟩) size size] := by rw [hW1]; exact b4.put (by omega) _
    have cd : W1.heap[w.heap.size + 3 + 1]? = some (.deferred (some [])) := by rw [hW1]; exact (World.putObj_heap_other (by omega)).trans hd
    have cl : W1.heap[w.heap.size + 3 + 1 + 1]? = some (.loop { rec with state := .busy }) := by rw [hW1]; exact World.putObj_heap_same (lt_of_block hl)
    have cB : Below w.heap.size w W1 := by rw [hW1]; exact below_putObj hB (by omega) _
    have e1 := c1.cell 0
    have e1f := c1.frozen 0
    obtain ⟨v2, hv2⟩ := putRow_at size n k (size - 1 - k) (by omega)
    have e2 := (c2.cell (size - 1 - k)).trans hv2
    have e2f := c2.frozen (size - 1 - k)
    have e3 := c3.cell 0
    have hs2 := hr1
    clear hW1 hv2 hr1 hr3 hr4 hr5 hr6 b1 b2 b3 b4 hd hl hB hmk
    simp only [List.getElem?_toArray, List.getElem?_cons_zero] at e1 e3
    gi_wp2
    refine ⟨(heap_set (by dsimp only; omega) _).trans ((heap_set (by dsimp only; omega) _).trans cl), rfl, ?_, ?_, ?_, ?_, ?_, ?_, ?_⟩
    · refine (((c1.far (by dsimp only; omega) _).set_ 0 _).put (by omega) _).as_ ?_
      rw [← shr8]
      rfl
    · refine (((c2.set_ _ _).far (by dsimp only; omega) _).put (by omega) _).as_ ?_
      rw [← putRow_set size n k hk]
      congr 2
    · exact ((c3.far (by dsimp only; omega) _).far (by dsimp only; omega) _).put (by omega) _
    · exact ((c4.far (by dsimp only; omega) _).far (by dsimp only; omega) _).put (by omega) _
    · exact (World.putObj_heap_other (by omega)).trans ((heap_set (by dsimp only; omega) _).trans ((heap_set (by dsimp only; omega) _).trans cd))
    · rw [World.putObj_heap_same (lt_of_block ((heap_set (by dsimp only; omega) _).trans ((heap_set (by dsimp only; omega) _).trans cl)))]
      rw [← hs2, ← hr2]
    · exact below_putObj ((cB.setCell (by dsimp only; omega) _).setCell (by dsimp only; omega) _) (by omega) _
  · refine ⟨?_, ?_, ?_, ?_, ?_, ?_, ?_⟩
    · exact ((((((Blk.new w _ _).alloc _).alloc _).alloc _).alloc _).alloc _).as_ (by simp)
    · exact (((((Blk.newAt (by simp)).alloc _).alloc _).alloc _).alloc _).as_ (by simp [madeCells, putRow, be, Array.ext_iff, Nat.mod_one])
    · exact ((((Blk.newAt (by simp)).alloc _).alloc _).alloc _)
    · exact (((Blk.newAt (by simp)).alloc _).alloc _)
    · exact heap_old (heap_newAt (by simp) _) _
    · exact heap_newAt (by simp) _
    · exact ((((((Below.refl _ w).alloc (Nat.le_refl _) _).alloc (by simp) _).alloc (by simp; omega) _).alloc (by simp; omega) _).alloc (by simp; omega) _).alloc (by simp; omega) _
  · rintro e W ⟨rfl, b1, b2, b3, b4, hd, hl, hB⟩
    refine ⟨⟨_, rfl⟩, .ready, by simp, .inl ⟨by rw [rec_ready hr1 hr2]; exact hl, ?_⟩⟩
    obtain ⟨W1, hW1⟩ : ∃ W1, W.putObj (w.heap.size + 3 + 1 + 1) (.loop { rec with state := .exhausted, pending := none }) = W1 := ⟨_, rfl⟩
    have c2 : Blk W1 (w.heap.size + 1) 5 (putRow size n size) := by rw [← hW1]; exact b2.put (by omega) _
    have c3 : Blk W1 (w.heap.size + 2) 76 #[.slice (some ⟨w.heap.size + 1, 0, none⟩) size size] := by rw [← hW1]; exact b3.put (by omega) _
    have cd : W1.heap[w.heap.size + 3 + 1]? = some (.deferred (some [])) := by rw [← hW1]; exact (World.putObj_heap_other (by omega)).trans hd
    have cB : Below w.heap.size w W1 := by rw [← hW1]; exact below_putObj hB (by omega) _
    rw [hW1]
    have hcv := run_convert_bytes_back (P := Try.prog) W1 76 9 5 ⟨w.heap.size + 1, 0, none⟩ size (be size n) Try.underlying76 Try.underlying5 Try.underlying9 (fun j hj => by
      rw [Addr.add, show (if j = 0 then (⟨w.heap.size + 1, 0, none⟩ : Addr) else { (⟨w.heap.size + 1, 0, none⟩ : Addr) with off := 0 + j, spot := none }) = ⟨w.heap.size + 1, j, none⟩ from by split <;> simp_all]
      rw [c2.cell]
      simp [putRow, hj])
    rw [be_length] at hcv
    have e3 := c3.cell 0
    simp only [List.getElem?_toArray, List.getElem?_cons_zero] at e3
    clear hW1 hr1 hr2 hr3 hr4 hr5 hr6 b1 b2 b3 b4 hd hl hB hmk c2 c3
    gi_wp2
    exact leaves_mark cd (results_tmp rfl _ _ _) ⟨rfl, below_putObj cB (by omega) _⟩
theorem put_int (n s : Int) (hn : 0 ≤ n) (h1 : 1 ≤ s) (h8 : s ≤ 8) (w : World) :
    Calls Try.prog 49 #[.int .u64 n, .int .i64 s] w (Gives (.string ⟨(be s.toNat n.toNat).toArray⟩) w) := by
  obtain ⟨m, rfl⟩ := Int.eq_ofNat_of_zero_le hn
  obtain ⟨k, rfl⟩ := Int.eq_ofNat_of_zero_le (show 0 ≤ s by omega)
  exact put_any m k (by omega) (by omega) w

end Go.Proofs.Ytfcojhpnpfodeaa
