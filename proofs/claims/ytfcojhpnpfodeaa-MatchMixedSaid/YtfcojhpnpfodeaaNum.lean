/- Numbers as bytes, the highest first: plain laws, no program. -/
import Derived.Test.YtfcojhpnpfodeaaBase
namespace Go.Proofs.Ytfcojhpnpfodeaa

/-- The low k bytes of n, the highest first. -/
def be : Nat → Nat → List UInt8
  | 0, _ => []
  | k + 1, n => UInt8.ofNat (n / 256 ^ k) :: be k n

/-- A number out of bytes. -/
def de (l : List UInt8) : Nat := l.foldl (fun n c => n * 256 + c.toNat) 0

theorem be_length (k n : Nat) : (be k n).length = k := by induction k with
  | zero => rfl
  | succ k ih => simp [be, ih]

theorem de_foldl (l : List UInt8) (a : Nat) : l.foldl (fun n c => n * 256 + c.toNat) a = a * 256 ^ l.length + de l := by
  unfold de
  induction l generalizing a with
  | nil => simp
  | cons c l ih => simp only [List.foldl_cons, List.length_cons]; rw [ih, ih (0 * 256 + c.toNat), Nat.pow_succ, Nat.add_mul, Nat.add_mul, Nat.mul_assoc, Nat.mul_comm 256]; omega

theorem de_cons (c : UInt8) (l : List UInt8) : de (c :: l) = c.toNat * 256 ^ l.length + de l := by
  show List.foldl _ (0 * 256 + c.toNat) l = _
  rw [de_foldl]; simp

theorem de_append (l m : List UInt8) : de (l ++ m) = de l * 256 ^ m.length + de m := by
  show List.foldl _ 0 (l ++ m) = _
  rw [List.foldl_append, de_foldl]; rfl

theorem de_snoc (l : List UInt8) (c : UInt8) : de (l ++ [c]) = de l * 256 + c.toNat := by
  rw [de_append, de_cons]; simp [de]

theorem de_lt (l : List UInt8) : de l < 256 ^ l.length := by
  induction l with
  | nil => simp [de]
  | cons c l ih =>
    rw [de_cons, List.length_cons, Nat.pow_succ]
    have := c.toNat_lt
    have h2 : (c.toNat + 1) * 256 ^ l.length ≤ 256 * 256 ^ l.length := Nat.mul_le_mul_right _ (by omega)
    rw [Nat.add_mul] at h2
    rw [Nat.mul_comm (256 ^ l.length)]
    omega

theorem de_be (k n : Nat) : de (be k n) = n % 256 ^ k := by
  induction k with
  | zero => simp [be, de, Nat.mod_one]
  | succ k ih =>
    rw [be, de_cons, be_length, ih, UInt8.toNat_ofNat', show 256 ^ (k + 1) = 256 ^ k * 256 from Nat.pow_succ _ _, Nat.mod_mul (x := n) (a := 256 ^ k) (b := 256), Nat.mul_comm (256 ^ k), Nat.add_comm]

theorem be_de (l : List UInt8) : ∀ m, be l.length (m * 256 ^ l.length + de l) = l := by
  induction l with
  | nil => intro m; rfl
  | cons c l ih =>
    intro m
    have hlt := de_lt l
    have hp : 0 < 256 ^ l.length := Nat.pow_pos (by omega)
    have e : m * 256 ^ (l.length + 1) + de (c :: l) = (m * 256 + c.toNat) * 256 ^ l.length + de l := by
      rw [de_cons, Nat.pow_succ, Nat.add_mul, Nat.mul_assoc m 256, Nat.mul_comm 256]; omega
    rw [List.length_cons, be, e, ih]
    have e2 : ((m * 256 + c.toNat) * 256 ^ l.length + de l) / 256 ^ l.length = m * 256 + c.toNat := by
      rw [Nat.mul_comm, Nat.mul_add_div hp, Nat.div_eq_of_lt hlt, Nat.add_zero]
    rw [e2]
    congr 1
    apply UInt8.toNat_inj.1
    rw [UInt8.toNat_ofNat']
    have := c.toNat_lt
    omega

theorem be_of_de (l : List UInt8) : be l.length (de l) = l := by
  have := be_de l 0
  simpa using this

theorem be_mod (k n : Nat) : be k (n % 256 ^ k) = be k n := by
  have h : ∀ j n m : Nat, n % 256 ^ j = m % 256 ^ j → be j n = be j m := by
    intro j
    induction j with
    | zero => intros; rfl
    | succ j ih =>
      intro n m h
      have h1 : n % 256 ^ j = m % 256 ^ j := by
        have := congrArg (· % 256 ^ j) h
        simpa [Nat.pow_succ, Nat.mod_mul_right_mod] using this
      rw [be, be, ih n m h1]
      congr 1
      apply UInt8.toNat_inj.1
      rw [UInt8.toNat_ofNat', UInt8.toNat_ofNat']
      have h2 := h
      rw [Nat.pow_succ, Nat.mod_mul, Nat.mod_mul, h1] at h2
      have hp : 0 < 256 ^ j := Nat.pow_pos (by omega)
      have h3 : 256 ^ j * (n / 256 ^ j % 256) = 256 ^ j * (m / 256 ^ j % 256) := by omega
      exact Nat.eq_of_mul_eq_mul_left hp h3
  exact h k _ _ (Nat.mod_mod _ _)

theorem be_inj (k n m : Nat) (hn : n < 256 ^ k) (hm : m < 256 ^ k) (h : be k n = be k m) : n = m := by
  have := congrArg de h
  rwa [de_be, de_be, Nat.mod_eq_of_lt hn, Nat.mod_eq_of_lt hm] at this

theorem ofInt_u64 (a : Nat) (ha : a < 18446744073709551616) : (BitVec.ofInt 64 (a : Int)).toNat = a := by
  rw [BitVec.ofInt_natCast, BitVec.toNat_ofNat]; exact Nat.mod_eq_of_lt (by omega)

/-- One byte more: 'n<<8 | uint64(c)'. -/
theorem de_step (l : List UInt8) (k : Nat) (hk : k < l.length) (h8 : k < 8) :
    bits .or .u64 (IntKind.u64.wrap (((de (l.take k) : Nat) : Int) * 256)) (IntKind.u64.wrap (((l[k]?.getD 0).toNat : Nat) : Int)) = ((de (l.take (k + 1)) : Nat) : Int) := by
  have hd := de_lt (l.take k)
  have h7 : 256 ^ (l.take k).length ≤ 256 ^ 7 := Nat.pow_le_pow_right (by omega) (by simp; omega)
  have h7' : (256 : Nat) ^ 7 = 72057594037927936 := by rfl
  have hc : (l[k]?.getD 0).toNat < 256 := UInt8.toNat_lt _
  have hs : l.take (k + 1) = l.take k ++ [l[k]?.getD 0] := by rw [List.take_succ_eq_append_getElem hk, List.getElem?_eq_getElem hk]; rfl
  rw [hs, de_snoc]
  generalize de (l.take k) = d at *
  generalize (l[k]?.getD 0).toNat = c at *
  have e1 : IntKind.u64.wrap ((d : Int) * 256) = ((d * 256 : Nat) : Int) := by rw [IntKind.wrap_u64]; omega
  have e2 : IntKind.u64.wrap (c : Int) = (c : Int) := by rw [IntKind.wrap_u64]; omega
  rw [e1, e2]
  show IntKind.u64.wrap ((BitVec.ofInt 64 ((d * 256 : Nat) : Int) ||| BitVec.ofInt 64 (c : Int)).toNat : Int) = _
  rw [BitVec.toNat_or, ofInt_u64 _ (by omega), ofInt_u64 c (by omega)]
  have h := Nat.shiftLeft_add_eq_or_of_lt (i := 8) (b := c) (by omega) d
  rw [Nat.shiftLeft_eq] at h
  rw [show d * 256 = d * 2 ^ 8 from rfl, ← h, IntKind.wrap_u64]
  omega

/-- int(uint64(cut) % uint64(n)). -/
theorem cut_mod (cut : Int) (n : Nat) (hn : 0 < n) : ∃ k, k < n ∧ (IntKind.u64.wrap cut).tmod (n : Int) = (k : Int) := by
  have h0 : 0 ≤ IntKind.u64.wrap cut := by rw [IntKind.wrap_u64]; omega
  refine ⟨((IntKind.u64.wrap cut).tmod (n : Int)).toNat, ?_, ?_⟩
  · have h1 : (IntKind.u64.wrap cut).tmod (n : Int) < n := Int.tmod_lt_of_pos _ (by omega)
    have h2 : 0 ≤ (IntKind.u64.wrap cut).tmod (n : Int) := Int.tmod_nonneg _ h0
    omega
  · rw [Int.toNat_of_nonneg (Int.tmod_nonneg _ h0)]

end Go.Proofs.Ytfcojhpnpfodeaa
