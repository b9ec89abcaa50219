/- Replies as bytes: what is computed, in plain words; no program. -/
import Derived.Test.YtfcojhpnpfodeaaNum
namespace Go.Proofs.Ytfcojhpnpfodeaa

/-- What bytes takes. -/
inductive Item where
  | u16 (n : Nat)
  | u32 (n : Nat)
  | u64 (n : Nat)
  | str (l : List UInt8)

def Item.bytes : Item → List UInt8
  | .u16 n => be 2 n
  | .u32 n => be 4 n
  | .u64 n => be 8 n
  | .str l => l
def Item.ok : Item → Prop
  | .u16 n => n < 65536
  | .u32 n => n < 4294967296
  | .u64 n => n < 18446744073709551616
  | .str _ => True
def bytesOf (l : List Item) : List UInt8 := l.flatMap Item.bytes
theorem bytesOf_take (l : List Item) (k : Nat) (x : Item) (h : l[k]? = some x) : bytesOf (l.take (k + 1)) = bytesOf (l.take k) ++ x.bytes := by
  unfold bytesOf
  rw [List.take_add_one, h]
  simp
theorem bytesOf_le (l : List Item) (k : Nat) : (bytesOf (l.take k)).length ≤ (bytesOf l).length := by
  have h : bytesOf l = bytesOf (l.take k) ++ bytesOf (l.drop k) := by
    unfold bytesOf
    rw [← List.flatMap_append, List.take_append_drop]
  rw [h, List.length_append]
  omega

def rnum (s : List UInt8) (at_ size : Nat) : Nat := de ((s.drop at_).take size)
theorem rnum_lt (s : List UInt8) (a n : Nat) : rnum s a n < 256 ^ n := by
  have h := de_lt ((s.drop a).take n)
  have h2 : ((s.drop a).take n).length ≤ n := by rw [List.length_take]; omega
  exact Nat.lt_of_lt_of_le h (Nat.pow_le_pow_right (by decide) h2)

/-- What a text lacks that should have a head of four bytes, and so many bytes at least. -/
def beginsE (s h : List UInt8) (n : Nat) : Int :=
  if s.take (min s.length 4) = h.take (min s.length 4) then (if s.length < n then 22 else 0) else 14

def oneHead : List UInt8 := [103, 68, 102, 152]
def pieceHead : List UInt8 := [102, 142, 51, 239]

/-- A reply in one. -/
structure Rep where
  err : Nat
  cookie : Nat
  data : List UInt8
def Rep.zero : Rep := ⟨0, 0, []⟩
structure Rep.wf (r : Rep) : Prop where
  err : r.err < 4294967296
  cookie : r.cookie < 18446744073709551616
def repBytes (r : Rep) : List UInt8 := oneHead ++ (be 4 r.err ++ (be 8 r.cookie ++ r.data))
def repFit (r : Rep) : Bool := decide (r.data.length ≤ 4096) && (decide (r.data = []) || decide (r.err = 0))
def writeRep (r : Rep) : List UInt8 × Int := if repFit r = true then (repBytes r, 0) else ([], 11)
def readRep (s : List UInt8) (n : Int) : Rep × List UInt8 × Int :=
  if n < 0 ∨ 4096 < n then (.zero, [], 25)
  else if beginsE s oneHead 16 ≠ 0 then (.zero, [], beginsE s oneHead 16)
  else if rnum s 4 4 ≠ 0 then (⟨rnum s 4 4, rnum s 8 8, []⟩, s.drop 16, 0)
  else if s.length - 16 < n.toNat then (.zero, [], 22)
  else (⟨rnum s 4 4, rnum s 8 8, (s.drop 16).take n.toNat⟩, (s.drop 16).drop n.toNat, 0)

/-- A chunk. -/
structure Chunk where
  done : Bool
  kind : Int
  cookie : Nat
  data : List UInt8
def Chunk.zero : Chunk := ⟨false, 0, 0, []⟩
def Chunk.wf (c : Chunk) : Prop := c.cookie < 18446744073709551616
def chunkBytes (c : Chunk) : List UInt8 := pieceHead ++ (be 2 (if c.done then 1 else 0) ++ (be 2 c.kind.toNat ++ (be 8 c.cookie ++ (be 4 c.data.length ++ c.data))))
def writeChunk (c : Chunk) : List UInt8 × Int := if c.kind < 0 ∨ 65536 ≤ c.kind then ([], 25) else if 4128 < c.data.length then ([], 11) else (chunkBytes c, 0)
def readChunk (s : List UInt8) : Chunk × List UInt8 × Int :=
  if beginsE s pieceHead 20 ≠ 0 then (.zero, [], beginsE s pieceHead 20)
  else if 1 < rnum s 4 2 then (.zero, [], 14)
  else if 4128 < rnum s 16 4 then (.zero, [], 11)
  else if s.length - 20 < rnum s 16 4 then (.zero, [], 22)
  else (⟨decide (rnum s 4 2 = 1), rnum s 6 2, rnum s 8 8, (s.drop 20).take (rnum s 16 4)⟩, (s.drop 20).drop (rnum s 16 4), 0)

end Go.Proofs.Ytfcojhpnpfodeaa
