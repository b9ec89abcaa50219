/- Requests as bytes: what the program computes, in plain words; no program. -/
import Derived.Test.YtfcojhpnpfodeaaNum
namespace Go.Proofs.Ytfcojhpnpfodeaa

structure Req where
  flags : Int
  kind : Int
  cookie : Nat
  frm : Nat
  len : Nat
  data : List UInt8

namespace Req
def zero : Req := ⟨0, 0, 0, 0, 0, []⟩
def fit (q : Req) : Bool :=
  !(decide (q.flags / 65536 ≠ 0) || decide (q.kind / 65536 ≠ 0)) && (if q.kind = 1 then decide (q.data.length ≤ 4096) && decide (q.data.length = q.len) else q.data.isEmpty)
end Req
abbrev reqV (q : Req) : Value := .agg #[.int .i64 q.flags, .int .i64 q.kind, .int .u64 (q.cookie : Nat), .int .u64 (q.frm : Nat), .int .u32 (q.len : Nat), .string ⟨q.data.toArray⟩]

def reqHead : List UInt8 := [37, 96, 149, 19]
def reqBytes (q : Req) : List UInt8 :=
  reqHead ++ (be 2 q.flags.toNat ++ (be 2 q.kind.toNat ++ (be 8 q.cookie ++ (be 8 q.frm ++ (be 4 q.len ++ q.data)))))
def writeReq (q : Req) : List UInt8 × Int := if q.fit = true then (reqBytes q, 0) else ([], 25)

def num (s : List UInt8) (at_ size : Nat) : Nat := de ((s.drop at_).take size)
def reqOf (s : List UInt8) : Req := ⟨num s 4 2, num s 6 2, num s 8 8, num s 16 8, num s 24 4, []⟩
def readReq (s : List UInt8) : Req × List UInt8 × Int :=
  if s.take (min s.length 4) ≠ reqHead.take (min s.length 4) then (.zero, [], 14)
  else if s.length < 28 then (.zero, [], 22)
  else if num s 6 2 ≠ 1 then (reqOf s, s.drop 28, 0)
  else if 4096 < num s 24 4 then (.zero, [], 11)
  else if s.length - 28 < num s 24 4 then (.zero, [], 22)
  else ({ reqOf s with data := (s.drop 28).take (num s 24 4) }, s.drop (28 + num s 24 4), 0)

theorem num_lt (s : List UInt8) (a n : Nat) (h : a + n ≤ s.length) : num s a n < 256 ^ n := by
  have := de_lt ((s.drop a).take n)
  rwa [List.length_take, List.length_drop, Nat.min_eq_left (by omega)] at this

theorem readReq_rest (l : List UInt8) (_h4 : 4 < l.length) (hh : (!List.take 4 l == [37, 96, 149, 19]) = false) (h28 : 28 ≤ l.length) :
    readReq l = if num l 6 2 ≠ 1 then (reqOf l, l.drop 28, 0) else if 4096 < num l 24 4 then (.zero, [], 11) else if l.length - 28 < num l 24 4 then (.zero, [], 22)
      else ({ reqOf l with data := (l.drop 28).take (num l 24 4) }, l.drop (28 + num l 24 4), 0) := by
  have e : l.take 4 = [37, 96, 149, 19] := by simpa using hh
  unfold readReq
  rw [Nat.min_eq_right (by omega), if_neg (by rw [e]; decide), if_neg (by omega)]

theorem readReq_few (l : List UInt8) (h4 : 4 < l.length) (hh : (!List.take 4 l == [37, 96, 149, 19]) = false) (h28 : l.length < 28) : readReq l = (.zero, [], 22) := by
  have e : l.take 4 = [37, 96, 149, 19] := by simpa using hh
  unfold readReq
  rw [Nat.min_eq_right (by omega), if_neg (by rw [e]; decide), if_pos h28]

theorem readReq_bad (l : List UInt8) (h4 : 4 < l.length) (hh : (!List.take 4 l == [37, 96, 149, 19]) = true) : readReq l = (.zero, [], 14) := by
  have e : ¬ l.take 4 = [37, 96, 149, 19] := by simpa using hh
  unfold readReq
  rw [Nat.min_eq_right (by omega), if_pos]
  exact e

def littleErr (l : List UInt8) : Int := if l = reqHead.take l.length then 22 else 14
theorem littleErr_no (l : List UInt8) (h : (!l == List.take l.length [37, 96, 149, 19]) = true) : littleErr l = 14 := by
  unfold littleErr
  rw [if_neg]
  intro e
  rw [show reqHead = [37, 96, 149, 19] from rfl] at e
  rw [beq_iff_eq.2 e] at h
  cases h
theorem littleErr_yes (l : List UInt8) (h : (!l == List.take l.length [37, 96, 149, 19]) = false) : littleErr l = 22 := by
  unfold littleErr
  rw [if_pos]
  rw [show reqHead = [37, 96, 149, 19] from rfl]
  simpa using h
theorem readReq_little (l : List UInt8) (h4 : l.length ≤ 4) : readReq l = (.zero, [], littleErr l) := by
  unfold readReq littleErr
  rw [Nat.min_eq_left h4, List.take_length]
  by_cases h : l = List.take l.length reqHead
  · rw [if_neg (fun hn => hn h), if_pos (by omega), if_pos h]
  · rw [if_pos h, if_neg h]

/-- What a request is in memory: its numbers are of their kinds. -/
structure Req.wf (q : Req) : Prop where
  len : q.len < 4294967296
  cookie : q.cookie < 18446744073709551616
  frm : q.frm < 18446744073709551616

theorem fit_bounds (q : Req) (h : q.fit = true) : 0 ≤ q.flags ∧ q.flags < 65536 ∧ 0 ≤ q.kind ∧ q.kind < 65536 ∧ q.data.length ≤ 4096 ∧ (q.kind ≠ 1 → q.data = []) ∧ (q.kind = 1 → q.data.length = q.len) := by
  unfold Req.fit at h
  simp only [Bool.and_eq_true, Bool.not_eq_true', Bool.or_eq_false_iff, decide_eq_false_iff_not, ne_eq, Classical.not_not] at h
  obtain ⟨⟨h1, h2⟩, h3⟩ := h
  by_cases hk : q.kind = 1
  · rw [if_pos hk] at h3
    simp only [Bool.and_eq_true, decide_eq_true_eq] at h3
    exact ⟨by omega, by omega, by omega, by omega, h3.1, fun h => absurd hk h, fun _ => h3.2⟩
  · rw [if_neg hk] at h3
    have h4 : q.data = [] := by simpa using h3
    exact ⟨by omega, by omega, by omega, by omega, by simp [h4], fun _ => h4, fun h => absurd h hk⟩

end Go.Proofs.Ytfcojhpnpfodeaa
