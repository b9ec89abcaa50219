/- A client that waits for requests: what is computed, in plain words; no program. -/
import Derived.Test.YtfcojhpnpfodeaaReqSpec
import Derived.Test.YtfcojhpnpfodeaaMRepExts
namespace Go.Proofs.Ytfcojhpnpfodeaa

structure Span where
  context : Nat
  list : List Ext
structure Wait where
  req : Req
  data : List UInt8
  have_ : List UInt8
  spans : List Span
  err : Nat
structure Answ where
  req : Req
  err : Nat
  data : List UInt8
  spans : List Span
structure Mat where
  buf : List UInt8
  chunks : Bool
  waits : List Wait
  dead : Bool

/-- Extents out of bytes; none: one of no length. -/
def readExts : Nat → List UInt8 → Option (List Ext)
  | 0, _ => some []
  | n + 1, t => if rnum t 0 4 = 0 then none else match readExts n (t.drop 8) with
    | none => none
    | some l => some (ext1 t :: l)
def readStatus (d : List UInt8) : Option (Nat × List Ext) :=
  if d.length < 12 ∨ 4004 < d.length ∨ d.length % 8 ≠ 4 then none
  else match readExts ((d.length - 4) / 8) (d.drop 4) with
    | none => none
    | some l => some (rnum d 0 4, l)

namespace Wait
/-- Bytes of a reading that come; none: they may not. -/
def come (w : Wait) (at_ : Nat) (s : List UInt8) : Option Wait :=
  if w.req.kind ≠ 0 ∨ s = [] ∨ at_ < w.req.frm ∨ w.req.len < at_ - w.req.frm ∨ w.req.len - (at_ - w.req.frm) < s.length then none
  else if (1 : UInt8) ∈ (w.have_.drop (at_ - w.req.frm)).take s.length then none
  else some { w with data := w.data.take (at_ - w.req.frm) ++ s ++ w.data.drop (at_ - w.req.frm + s.length), have_ := w.have_.take (at_ - w.req.frm) ++ List.replicate s.length 1 ++ w.have_.drop (at_ - w.req.frm + s.length) }
def bytes (w : Wait) (d : List UInt8) : Option Wait := if d.length < 8 then none else w.come (de (d.take 8)) (d.drop 8)
def hole (w : Wait) (d : List UInt8) : Option Wait :=
  if d.length ≠ 12 ∨ w.req.kind ≠ 0 ∨ w.req.len < de (d.drop 8) then none else w.come (de (d.take 8)) (List.replicate (de (d.drop 8)) 0)
def status (w : Wait) (d : List UInt8) : Option Wait :=
  match readStatus d with
  | none => none
  | some (k, l) => if w.req.kind = 7 then some { w with spans := w.spans ++ [⟨k, l⟩] } else none
def fail (w : Wait) (d : List UInt8) : Option Wait :=
  if d.length < 4 ∨ de (d.take 4) = 0 ∨ d ≠ failB (de (d.take 4)) then none else some { w with err := if w.err = 0 then de (d.take 4) else w.err }
def apply (w : Wait) (kind : Int) (d : List UInt8) : Option Wait :=
  if kind = 0 then (if d = [] then some w else none)
  else if kind = 1 then w.bytes d
  else if kind = 2 then w.hole d
  else if kind = 5 then w.status d
  else if kind = 32769 then w.fail d
  else none
def answ (w : Wait) : Answ := if w.err = 0 then ⟨w.req, 0, w.data, w.spans⟩ else ⟨w.req, w.err, [], []⟩
def fresh (q : Req) : Wait := if q.kind = 0 then ⟨q, List.replicate q.len 0, List.replicate q.len 0, [], 0⟩ else ⟨q, [], [], [], 0⟩
end Wait

def findW (l : List Wait) (c : Nat) : Option Nat := l.findIdx? fun w => w.req.cookie == c

namespace Mat
def new (chunks : Bool) : Mat := ⟨[], chunks, [], false⟩
def kill (m : Mat) : Mat := ⟨[], m.chunks, [], true⟩
def ask (m : Mat) (q : Req) : Mat × List UInt8 × Int :=
  if m.dead = true then (m, [], 24)
  else if q.fit = false ∨ (q.kind = 0 ∧ 4096 < q.len) then (m, [], 25)
  else if (findW m.waits q.cookie).isSome = true then (m, [], 20)
  else if 8 ≤ m.waits.length then (m, [], 16)
  else ({ m with waits := m.waits ++ [Wait.fresh q] }, reqBytes q, 0)
/-- So many bytes a reply in one has behind its head. -/
def wants (q : Req) : Int := if q.kind = 0 then q.len else 0
def simple (m : Mat) : Option (Mat × List Answ) :=
  if (readRep m.buf 0).2.2 = 22 then none
  else if (readRep m.buf 0).2.2 ≠ 0 then some (m.kill, [])
  else match findW m.waits (readRep m.buf 0).1.cookie with
    | none => some (m.kill, [])
    | some k => match m.waits[k]? with
      | none => none
      | some w =>
        if (readRep m.buf (wants w.req)).2.2 ≠ 0 then none
        else some ({ m with buf := (readRep m.buf (wants w.req)).2.1, waits := m.waits.eraseIdx k }, [⟨w.req, (readRep m.buf (wants w.req)).1.err, (readRep m.buf (wants w.req)).1.data, []⟩])
/-- What becomes of a chunk's request, with what stands behind. -/
def applied (m : Mat) (k : Nat) (done : Bool) (rest : List UInt8) : Option Wait → Mat × List Answ
  | none => (m.kill, [])
  | some w2 =>
    if done = true then
      if w2.err = 0 ∧ (0 : UInt8) ∈ w2.have_ then (m.kill, [])
      else ({ m with buf := rest, waits := m.waits.eraseIdx k }, [w2.answ])
    else ({ m with buf := rest, waits := m.waits.set k w2 }, [])
def chunk (m : Mat) : Option (Mat × List Answ) :=
  if (readChunk m.buf).2.2 = 22 then none
  else if (readChunk m.buf).2.2 ≠ 0 then some (m.kill, [])
  else match findW m.waits (readChunk m.buf).1.cookie with
    | none => some (m.kill, [])
    | some k => match m.waits[k]? with
      | none => none
      | some w => some (m.applied k (readChunk m.buf).1.done (readChunk m.buf).2.1 (w.apply (readChunk m.buf).1.kind (readChunk m.buf).1.data))
def step (m : Mat) : Option (Mat × List Answ) := if m.chunks = true then m.chunk else m.simple
inductive Runs : Mat → List Answ → Mat → Prop
  | stop {h : Mat} (hs : h.dead = true ∨ h.step = none) : Runs h [] h
  | go {h h1 h2 : Mat} {o1 o2 : List Answ} (hp : h.dead = false) (hs : h.step = some (h1, o1)) (hr : Runs h1 o2 h2) : Runs h (o1 ++ o2) h2
inductive Feeds : Mat → List UInt8 → Mat → List Answ → Prop
  | dead {h : Mat} {s : List UInt8} (hp : h.dead = true) : Feeds h s h []
  | live {h h' : Mat} {s : List UInt8} {out : List Answ} (hp : h.dead = false) (hr : Runs { h with buf := h.buf ++ s } out h') : Feeds h s h' out
end Mat

end Go.Proofs.Ytfcojhpnpfodeaa
