/- A connection's beginning, on the server's side: what is computed, in plain words; no program. -/
import Derived.Test.YteljplpiojdikaaOptSpec
namespace Go.Proofs.Yteljplpiojdikaa

def disk : List UInt8 := [100, 105, 115, 107]
def ours (n : List UInt8) : Bool := decide (n = []) || decide (n = disk)
/-- "base:allocation", "qemu:dirty-bitmap:". -/
def baseAlloc : List UInt8 := [98, 97, 115, 101, 58, 97, 108, 108, 111, 99, 97, 116, 105, 111, 110]
def dirtyPre : List UInt8 := [113, 101, 109, 117, 58, 100, 105, 114, 116, 121, 45, 98, 105, 116, 109, 97, 112, 58]
def contextsL (maps : List (List UInt8)) : List (List UInt8) := baseAlloc :: maps.map (dirtyPre ++ ·)

/-- What asks for contexts, as bytes. -/
def metaB (name : List UInt8) (queries : List (List UInt8)) : List UInt8 := beginB name ++ be 4 queries.length ++ queries.flatMap beginB
/-- n texts with their length ahead, and nothing behind. -/
def readBegs : Nat → List UInt8 → Option (List (List UInt8) × List UInt8)
  | 0, s => some ([], s)
  | n + 1, s => match readBegO s with
    | .thrown _ => none
    | .ok q r => match readBegs n r with
      | none => none
      | some (l, r2) => some (q :: l, r2)
def readMeta (s : List UInt8) : Option (List UInt8 × List (List UInt8)) :=
  match readBegO s with
  | .thrown _ => none
  | .ok name r =>
    if r.length < 4 ∨ 1000 < de (r.take 4) then none
    else match readBegs (de (r.take 4)) (r.drop 4) with
      | none => none
      | some (l, r2) => if r2 = [] then some (name, l) else none
def asksB (name : List UInt8) (infos : List Nat) : List UInt8 := beginB name ++ be 2 infos.length ++ infos.flatMap (be 2)
def pairs : List UInt8 → List Nat
  | a :: b :: r => de [a, b] :: pairs r
  | _ => []
def readAsks (s : List UInt8) : Option (List UInt8 × List Nat) :=
  match readBegO s with
  | .thrown _ => none
  | .ok name r =>
    if r.length < 2 ∨ (r.drop 2).length ≠ 2 * de (r.take 2) then none
    else some (name, pairs (r.drop 2))

structure Neg where
  phase : Nat
  buf : List UInt8
  brief : Bool
  chunks : Bool
  metas : List Nat

def sayB (o k : Nat) (d : List UInt8) : List UInt8 := (framed ansHead [o, k] d).1
def sizeB (sz : Nat) : List UInt8 := be 8 sz ++ [0, 5]
/-- Is a context asked for? -/
def wantedC (o : Nat) (c : List UInt8) (queries : List (List UInt8)) : Bool :=
  decide (c ∈ queries) || (decide (o = 9) && (decide (queries = []) || decide (c.take (c.idxOf 58 + 1) ∈ queries)))

namespace Neg
def die (n : Neg) : Neg := { n with phase := 3, buf := [] }
/-- The contexts from number i on, that are asked for. -/
def doCtxs (o : Nat) (queries : List (List UInt8)) : Nat → List (List UInt8) → List Nat × List UInt8
  | _, [] => ([], [])
  | i, c :: l =>
    let r := doCtxs o queries (i + 1) l
    if wantedC o c queries then ((i + 1) :: r.1, sayB o 4 (be 4 (i + 1) ++ c) ++ r.2) else r
def doMetas (n : Neg) (maps : List (List UInt8)) (o : Nat) (d : List UInt8) : Neg × List UInt8 :=
  let n0 : Neg := if o = 10 then { n with metas := [] } else n
  match readMeta d with
  | none => (n0, sayB o 2147483651 [])
  | some (name, queries) =>
    if n.chunks = false then (n0, sayB o 2147483651 [])
    else if 8 < queries.length then (n0, sayB o 2147483657 [])
    else if ours name = false then (n0, sayB o 2147483654 [])
    else
      let r := doCtxs o queries 0 (contextsL maps)
      ({ n0 with metas := if o = 10 then r.1 else n0.metas }, r.2 ++ sayB o 1 [])
def doInfo (n : Neg) (sz : Nat) (o : Nat) (d : List UInt8) : Neg × List UInt8 :=
  match readAsks d with
  | none => (n, sayB o 2147483651 [])
  | some (name, _) =>
    if ours name = false then (n, sayB o 2147483654 [])
    else ({ n with phase := if o = 7 then 2 else n.phase }, sayB o 3 ([0, 0] ++ sizeB sz) ++ sayB o 1 [])
/-- What is done of an option. -/
def doOpt (n : Neg) (sz : Nat) (maps : List (List UInt8)) (o : Nat) (d : List UInt8) : Neg × List UInt8 :=
  if o = 1 then (if ours d = false then (n.die, []) else ({ n with phase := 2 }, sizeB sz ++ if n.brief then [] else List.replicate 124 0))
  else if o = 2 then (n.die, sayB o 1 [])
  else if o = 3 then (n, if d = [] then sayB o 2 (beginB disk) ++ sayB o 1 [] else sayB o 2147483651 [])
  else if o = 6 ∨ o = 7 then n.doInfo sz o d
  else if o = 8 then (if d = [] then ({ n with chunks := true }, sayB o 1 []) else (n, sayB o 2147483651 []))
  else if o = 9 ∨ o = 10 then n.doMetas maps o d
  else (n, sayB o 2147483649 [])
def doFlags (n : Neg) : Option (Neg × List UInt8) :=
  if n.buf.length < 4 then none
  else
    let f := de (n.buf.take 4)
    let n1 : Neg := { n with phase := 1, buf := n.buf.drop 4, brief := decide (f = 3) }
    some (if f = 1 ∨ f = 3 then n1 else n1.die, [])
def doOption (n : Neg) (sz : Nat) (maps : List (List UInt8)) : Option (Neg × List UInt8) :=
  let r := readOpt n.buf
  if r.2.2 = 22 then none
  else if r.2.2 ≠ 0 then some (n.die, [])
  else some (doOpt { n with buf := r.2.1 } sz maps r.1.1 r.1.2)
def step (n : Neg) (sz : Nat) (maps : List (List UInt8)) : Option (Neg × List UInt8) := if n.phase = 0 then n.doFlags else n.doOption sz maps
inductive Runs (sz : Nat) (maps : List (List UInt8)) : Neg → List UInt8 → Neg → Prop
  | stop {h : Neg} (hs : 2 ≤ h.phase ∨ h.step sz maps = none) : Runs sz maps h [] h
  | go {h h1 h2 : Neg} {o1 o2 : List UInt8} (hp : h.phase < 2) (hs : h.step sz maps = some (h1, o1)) (hr : Runs sz maps h1 o2 h2) : Runs sz maps h (o1 ++ o2) h2
inductive Feeds (sz : Nat) (maps : List (List UInt8)) : Neg → List UInt8 → Neg → List UInt8 → Prop
  | dead {h : Neg} {s : List UInt8} (hp : h.phase = 3) : Feeds sz maps h s h []
  | live {h h' : Neg} {s out : List UInt8} (hp : h.phase ≠ 3) (hr : Runs sz maps { h with buf := h.buf ++ s } out h') : Feeds sz maps h s h' out
def zero : Neg := ⟨0, [], false, false, []⟩
end Neg

end Go.Proofs.Yteljplpiojdikaa
