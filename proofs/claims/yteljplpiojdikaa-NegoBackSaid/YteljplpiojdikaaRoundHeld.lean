/- A region that draws its order, inside a round of a range over a function: walked by the plain laws ('wpAnyH': loads first), no operation of it a call of a function. General, over any program. -/
import Derived.Test.YteljplpiojdikaaBase
import Derived.OrdersIn
import Derived.OrdersHeld
import Derived.Deep.RegionHeld3
namespace Go.Proofs.Yteljplpiojdikaa
open Go.RowKit

/-- The post, of the normal way alone. -/
def NormOnly (Q : Exit → Act → World → Prop) (e : Exit) (a : Act) (w : World) : Prop := e = .normal ∧ Q .normal a w

section
variable {P : Program} {ops : Array Oper} {Q : Exit → Act → World → Prop} {md : Region.Mode} {S : World → Prop}

theorem norm_panic (c : List PanicEntry) (a b : Act) (w : World) (h : NormOnly Q (.panic c) a w) : NormOnly Q (.panic c) b w := by
  cases h.1

/-- No operation enters a function, or defers. -/
def Plain (ops : Array Oper) : Prop := ∀ (i : Nat) (o : Oper), ops[i]? = some o → ∀ c, o.op ≠ .defer c

/-- The same, to be reckoned. -/
def plainB (ops : Array Oper) : Bool := ops.toList.all fun o => match o.op with | .defer _ => false | _ => true
theorem plain_ops {ops : Array Oper} (h : plainB ops = true) : Plain ops := by
  intro i o hi c hc
  unfold plainB at h
  rw [List.all_eq_true] at h
  have := h o (by rw [← Array.getElem?_toList] at hi; exact List.mem_of_getElem? hi)
  rw [hc] at this
  cases this

theorem calls_round {l : Nat} {f : FuncId} {args : Array Value} {w : World} {R : Ending → World → Prop} (h : Calls P f args w R) : CallsIn (Fence.wide.inRound l) 0 P f args w R := by
  have h2 := (callsIn_wide (n := 0)).2 h
  exact ⟨trivial, h2.2⟩

theorem wpOpIn_of {l i : Nat} (hp : Plain ops) {K K' : Act → World → Prop} (hK : ∀ a w, K a w → K' a w) {a : Act} {w : World} (h : wpOp P ops (NormOnly Q) i K a w) : wpOpIn (Fence.wide.inRound l) 0 P ops Q i K' a w := by
  unfold wpOp at h
  unfold wpOpIn
  cases ho : ops[i]? with
  | none =>
    simp only [ho] at h
    exact hK _ _ h
  | some o =>
    simp only [ho] at h ⊢
    by_cases hw : Region.wanted o (yielded ops a.tmps) = true
    · simp only [hw, if_true] at h ⊢
      rcases h with h | ⟨_, a', w', h⟩
      · refine ⟨fun _ _ => trivial, ?_⟩
        rw [Oper.semAt_eq _ _ _ (hp i o ho)]
        unfold Oper.wp at h
        generalize (execOp a.eval o).run P w = r at h
        cases r with
        | ok x w' =>
          cases x <;> simp only [Oper.upon, Oper.uponIn] at h ⊢
          case value v => exact hK _ _ h
          case skip => exact hK _ _ h
          case defer d => exact hK _ _ h
          case enter f args =>
            refine ⟨fun hd => by simp [go_sem] at hd, calls_round (Calls.mono h ?_)⟩
            rintro e w'' he
            cases e with
            | returned v => exact hK _ _ he
            | panicked c => cases he.1
            | outgrown => obtain ⟨_, _, he⟩ := he; cases he.1
          case row row args =>
            exact ⟨fun hd => by simp [go_sem] at hd, fun c cs _ => let ⟨v, w2, r, s⟩ := h c cs; ⟨v, w2, hK _ _ r, stepsIn_wide.2 s⟩⟩
        | halt x w' =>
          cases x <;> simp only [Oper.upon, Oper.uponIn] at h ⊢
          case panic v => cases h.1
      · cases h.1
    · simp only [hw] at h ⊢
      exact ⟨fun _ _ => trivial, hK _ _ h⟩

theorem wpAnyIn_of_held {l : Nat} (hp : Plain ops) : ∀ (fuel : Nat) (listed : Array Bool) (a : Act) (w : World), wpAnyH P md ops (NormOnly Q) S fuel listed a w → wpAnyIn (Fence.wide.inRound l) 0 P md ops Q fuel listed a w
  | 0, _, _, _, h => ⟨h.1, h.2.2⟩
  | fuel + 1, _, _, _, h => ⟨fun hr => (h.1 hr).2, fun i hi => wpOpIn_of hp (fun a' w' h' => wpAnyIn_of_held hp fuel _ a' w' h'.2) (h.2 i hi)⟩

/-- THE BEGINNING. -/
theorem wpIn_region_held {id l : Nat} {a : Act} {w : World} (S : World → Prop) (hm : P.follows .mixedOrders = true) (hp : Plain ops) (hS : S w.drew)
    (h : S w.drew → wpAnyH P .any ops (NormOnly Q) S ops.size (Array.replicate ops.size false) a w.drew) : (Code.region id ops true).wpIn (Fence.wide.inRound l) 0 P Q a w :=
  wpIn_region_any hm (wpAnyIn_of_held hp _ _ _ _ (h hS))
end

end Go.Proofs.Yteljplpiojdikaa
