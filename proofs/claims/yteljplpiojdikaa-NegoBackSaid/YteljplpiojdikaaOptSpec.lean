/- Options and answers as bytes: what is computed, in plain words; no program. -/
import Derived.Test.YteljplpiojdikaaNum
namespace Go.Proofs.Yteljplpiojdikaa

def numAt (s : List UInt8) (at_ size : Nat) : Nat := de ((s.drop at_).take size)

def optHead : List UInt8 := [73, 72, 65, 86, 69, 79, 80, 84]
def ansHead : List UInt8 := [0, 3, 232, 137, 4, 85, 101, 169]
def greeting : List UInt8 := [78, 66, 68, 77, 65, 71, 73, 67] ++ (optHead ++ [0, 3])

/-- A text with its length ahead. -/
def beginB (s : List UInt8) : List UInt8 := be 4 s.length ++ s
/-- A head, numbers, and a text with its length ahead. -/
def framedB (head : List UInt8) (ns : List Nat) (data : List UInt8) : List UInt8 := head ++ (ns.flatMap (be 4) ++ beginB data)
def framed (head : List UInt8) (ns : List Nat) (data : List UInt8) : List UInt8 × Int := if 4096 < data.length then ([], 11) else (framedB head ns data, 0)

/-- What a reader throws, or what it takes off and leaves. -/
inductive Out (α : Type) where
  | ok (x : α) (rest : List UInt8)
  | thrown (e : Int)

def takeO (n : Nat) (s : List UInt8) : Out (List UInt8) := if s.length < n then .thrown 22 else .ok (s.take n) (s.drop n)
def fourO (s : List UInt8) : Out Nat := if s.length < 4 then .thrown 22 else .ok (de (s.take 4)) (s.drop 4)
def dataO (most : Nat) (s : List UInt8) : Out (List UInt8) :=
  match fourO s with
  | .thrown e => .thrown e
  | .ok n r => if most < n then .thrown 11 else takeO n r
def headO (h s : List UInt8) : Out Unit :=
  if s.take (min h.length s.length) ≠ h.take (min h.length s.length) then .thrown 14
  else match takeO h.length s with
    | .thrown e => .thrown e
    | .ok _ r => .ok () r

def readOptO (s : List UInt8) : Out (Nat × List UInt8) :=
  match headO optHead s with
  | .thrown e => .thrown e
  | .ok _ r => match fourO r with
    | .thrown e => .thrown e
    | .ok k r2 => match dataO 4096 r2 with
      | .thrown e => .thrown e
      | .ok d r3 => .ok (k, d) r3
def readAnsO (s : List UInt8) : Out (Nat × Nat × List UInt8) :=
  match headO ansHead s with
  | .thrown e => .thrown e
  | .ok _ r => match fourO r with
    | .thrown e => .thrown e
    | .ok o r1 => match fourO r1 with
      | .thrown e => .thrown e
      | .ok k r2 => match dataO 4096 r2 with
        | .thrown e => .thrown e
        | .ok d r3 => .ok (o, k, d) r3
def readBegO (s : List UInt8) : Out (List UInt8) := dataO 4294967296 s

def readOpt (s : List UInt8) : (Nat × List UInt8) × List UInt8 × Int := match readOptO s with | .thrown e => ((0, []), [], e) | .ok x r => (x, r, 0)
def readAns (s : List UInt8) : (Nat × Nat × List UInt8) × List UInt8 × Int := match readAnsO s with | .thrown e => ((0, 0, []), [], e) | .ok x r => (x, r, 0)
def readBeg (s : List UInt8) : List UInt8 × List UInt8 × Int := match readBegO s with | .thrown e => ([], [], e) | .ok x r => (x, r, 0)

end Go.Proofs.Yteljplpiojdikaa
