/- Chapter 23's example. -/
import Derived.Test.YteljplpiojdikaaNegGood
import Derived.Test.YteljplpiojdikaaNegLaw
namespace Go.Proofs.Yteljplpiojdikaa
open Go.RowKit

/-- What comes in the example; what is said. -/
def exIn : List UInt8 := [0, 0, 0, 3] ++ [73, 72, 65, 86, 69, 79, 80, 84] ++ [0, 0, 0, 8] ++ [0, 0, 0, 0] ++ [73, 72, 65, 86, 69, 79, 80, 84] ++ [0, 0, 0, 7] ++ [0, 0, 0, 6] ++ [0, 0, 0, 0] ++ [0, 0]
def exOut : List UInt8 := sayB 8 1 [] ++ (sayB 7 3 ([0, 0] ++ sizeB 512) ++ sayB 7 1 [])
namespace Neg
def exAt (ph : Nat) (ch : Bool) (buf : List UInt8) : Neg := ⟨ph, buf, true, ch, []⟩
theorem ex_step0 : step { zero with buf := zero.buf ++ exIn } 512 [] = some (exAt 1 false (exIn.drop 4), []) := by rfl
theorem ex_step1 : step (exAt 1 false (exIn.drop 4)) 512 [] = some (exAt 1 true (exIn.drop 20), sayB 8 1 []) := by rfl
theorem ex_step2 : step (exAt 1 true (exIn.drop 20)) 512 [] = some (exAt 2 true [], sayB 7 3 ([0, 0] ++ sizeB 512) ++ sayB 7 1 []) := by rfl
theorem feeds_ex : Feeds 512 [] zero exIn (exAt 2 true []) exOut := by
  refine Feeds.live (by decide) ?_
  have := Runs.go (by decide) ex_step0 (Runs.go (by decide) ex_step1 (Runs.go (by decide) ex_step2 (Runs.stop (sz := 512) (maps := []) (h := exAt 2 true []) (.inl (by decide)))))
  simpa [exOut] using this
end Neg

set_option maxRecDepth 100000 in
set_option maxHeartbeats 1000000 in
theorem awake_any (w : World) : Calls Try.prog 8 #[] w (Gives (.bool true) w) := by
  have HF : Hid (∀ W, Calls Try.prog 9 #[.agg (ngC Neg.zero (.slice none 0 0)), .agg (exC 512 (.slice none 0 0)), .string ⟨exIn.toArray⟩] W (FeedEnds Neg.zero 512 [] exIn W)) :=
    Lib.hid (fun W => feed_any Neg.zero 512 [] exIn (.slice none 0 0) (.slice none 0 0) W ⟨by decide, by decide, by decide⟩ (by decide) (by simp) (.inl ⟨rfl, rfl, rfl⟩) (World.ownsRow_nil _ _ _ _))
  have mixed : Try.prog.follows .mixedOrders = true := by kernel_rfl
  unfold exIn ngC exC Neg.zero at HF
  simp only [List.cons_append, List.nil_append] at HF
  go_enter Try.func8, Try.ntmps8
  go_wp2_with fail
  refine (HF.out _).mono ?_
  rintro e w2 ⟨h', out, vm, rfl, hf, _, g1, hb2⟩
  obtain ⟨p1, q1, rfl⟩ := (SlAt.of_row g1).form
  clear g1
  obtain ⟨rfl, rfl⟩ := Neg.feeds_one hf Neg.feeds_ex
  have e1 : exOut = [0, 3, 232, 137, 4, 85, 101, 169, 0, 0, 0, 8, 0, 0, 0, 1, 0, 0, 0, 0, 0, 3, 232, 137, 4, 85, 101, 169, 0, 0, 0, 7, 0, 0, 0, 3, 0, 0, 0, 12, 0, 0, 0, 0, 0, 0, 0, 0, 2, 0, 0, 5, 0, 3, 232, 137, 4, 85, 101, 169, 0, 0, 0, 7, 0, 0, 0, 1, 0, 0, 0, 0] := by rfl
  rw [e1]
  clear hf e1 HF
  unfold ngC Neg.exAt
  dsimp only
  go_wp2
  go_ret
  have s2 := hb2.size
  exact ⟨rfl, by (repeat' (first | (with_reducible assumption) | (with_reducible exact Below.refl _ _) | (with_reducible refine below_drewN ?_ _) | (with_reducible refine Below.drew ?_) | (with_reducible refine Below.setCell ?_ ?_ _) | (with_reducible refine Below.alloc ?_ ?_ _) | (with_reducible refine below_putObj ?_ ?_ _) | (with_reducible exact Nat.le_refl _) | omega | (simp; done) | (simp; omega)))⟩
end Go.Proofs.Yteljplpiojdikaa
