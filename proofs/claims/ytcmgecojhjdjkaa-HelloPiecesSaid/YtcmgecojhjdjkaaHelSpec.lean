/- A client's beginning: what is computed, in plain words; no program. -/
import Derived.Test.YtcmgecojhjdjkaaOptSpec
namespace Go.Proofs.Ytcmgecojhjdjkaa

structure Hel where
  phase : Nat
  buf : List UInt8
  want : List (List UInt8)
  told : Bool
  size : Nat
  flags : Nat
  chunks : Bool
  metas : List (Nat × List UInt8)

def disk : List UInt8 := [100, 105, 115, 107]
/-- What asks for an option. -/
def askB (kind : Nat) (data : List UInt8) : List UInt8 := (framed optHead [kind] data).1
def metaB (queries : List (List UInt8)) : List UInt8 := beginB disk ++ be 4 queries.length ++ queries.flatMap beginB
def asksB : List UInt8 := beginB disk ++ be 2 0

namespace Hel
def new (want : List (List UInt8)) : Hel := ⟨0, [], want, false, 0, 0, false, []⟩
def die (h : Hel) : Hel := { h with phase := 5, buf := [] }
def ask (h : Hel) (kind : Nat) (data : List UInt8) (phase : Nat) : Hel × List UInt8 := ({ h with phase := phase }, askB kind data)
def askGo (h : Hel) : Hel × List UInt8 := h.ask 7 asksB 3
def doChunks (h : Hel) (k : Nat) : Hel × List UInt8 :=
  if k = 1 then (if h.want = [] then askGo { h with chunks := true } else ask { h with chunks := true } 10 (metaB h.want) 2)
  else if 2147483648 ≤ k then askGo { h with chunks := false } else (die { h with chunks := false }, [])
def doMeta (h : Hel) (k : Nat) (d : List UInt8) : Hel × List UInt8 :=
  if k = 4 ∧ 4 ≤ d.length ∧ d.drop 4 ∈ h.want then ({ h with metas := h.metas ++ [(de (d.take 4), d.drop 4)] }, [])
  else if k = 1 then askGo h
  else if 2147483648 ≤ k then askGo { h with metas := [] }
  else (die h, [])
def doInfo (h : Hel) (k : Nat) (d : List UInt8) : Hel × List UInt8 :=
  if k = 3 then (if d.length = 12 ∧ d.take 2 = [0, 0] then ({ h with size := de ((d.drop 2).take 8), told := true, flags := de ((d.drop 10).take 2) }, []) else (h, []))
  else if k = 1 ∧ h.told = true then ({ h with phase := 4 }, [])
  else (die h, [])
/-- Takes off the greeting. -/
def greet (h : Hel) : Option (Hel × List UInt8) :=
  if h.buf.length < 18 then none
  else if h.buf.take 16 ≠ greeting.take 16 ∨ (h.buf[17]?.getD 0).toNat % 2 = 0 then some (h.die, [])
  else
    let r := ask { h with buf := h.buf.drop 18 } 8 [] 1
    some (r.1, be 4 ((h.buf[17]?.getD 0).toNat % 4) ++ r.2)
/-- Takes off an answer. -/
def answered (h : Hel) (kind : Nat) (f : Hel → Nat → List UInt8 → Hel × List UInt8) : Option (Hel × List UInt8) :=
  let a := readAns h.buf
  if a.2.2 = 22 then none
  else if a.2.2 ≠ 0 ∨ a.1.1 ≠ kind then some (h.die, [])
  else some (f { h with buf := a.2.1 } a.1.2.1 a.1.2.2)
def step (h : Hel) : Option (Hel × List UInt8) :=
  if h.phase = 0 then h.greet
  else if h.phase = 1 then h.answered 8 fun h k _ => h.doChunks k
  else if h.phase = 2 then h.answered 10 doMeta
  else h.answered 7 doInfo
/-- As far as there is anything to be done. -/
inductive Runs : Hel → List UInt8 → Hel → Prop
  | stop {h : Hel} (hs : 4 ≤ h.phase ∨ h.step = none) : Runs h [] h
  | go {h h1 h2 : Hel} {o1 o2 : List UInt8} (hp : h.phase < 4) (hs : h.step = some (h1, o1)) (hr : Runs h1 o2 h2) : Runs h (o1 ++ o2) h2
/-- Bytes come. -/
inductive Feeds : Hel → List UInt8 → Hel → List UInt8 → Prop
  | dead {h : Hel} {s : List UInt8} (hp : h.phase = 5) : Feeds h s h []
  | live {h h' : Hel} {s out : List UInt8} (hp : h.phase ≠ 5) (hr : Runs { h with buf := h.buf ++ s } out h') : Feeds h s h' out
end Hel

end Go.Proofs.Ytcmgecojhjdjkaa
