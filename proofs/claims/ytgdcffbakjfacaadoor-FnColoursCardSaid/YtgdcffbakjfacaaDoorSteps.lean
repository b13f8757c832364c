/- The moves of one column, at most three needles each. Condition: needles. -/
import Derived.Test.YtgdcffbakjfacaaDoorMoves
import Derived.Test.YtgdcffbakjfacaaDoorFC3
namespace Go.Proofs.YtgdcffbakjfacaaDoor
open Go.ChangeShapes Go.WideShapes Go.ChangeAt Go.RowKit
def nextOf (f t : Int) : Int := if 3 < t - f then f + 3 else if t - f < -3 then f - 3 else t
def stepsF : Nat → Int → Int → List MoveM
  | 0, _, _ => []
  | n + 1, f, t => if f = t then [] else ⟨f, nextOf f t⟩ :: stepsF n (nextOf f t) t
def stepsM (f t : Int) : List MoveM := stepsF 24 f t
theorem stepsF_done (n : Nat) (t : Int) : stepsF n t t = [] := by cases n <;> simp [stepsF]
theorem stepsF_go {n : Nat} {f t : Int} (h : f ≠ t) : stepsF (n + 1) f t = ⟨f, nextOf f t⟩ :: stepsF n (nextOf f t) t := by simp [stepsF, h]
theorem nextOf_in {f t : Int} (hf : 0 ≤ f ∧ f ≤ 23) (ht : 0 ≤ t ∧ t ≤ 23) : 0 ≤ nextOf f t ∧ nextOf f t ≤ 23 := by
  unfold nextOf; split <;> (try split) <;> omega
theorem nextOf_near {n : Nat} {f t : Int} (h1 : t - f ≤ n + 1 ∧ f - t ≤ n + 1) : t - nextOf f t ≤ n ∧ nextOf f t - t ≤ n := by
  unfold nextOf; split <;> (try split) <;> omega
theorem stepsF_length : ∀ (n : Nat) (f t : Int), (stepsF n f t).length ≤ n
  | 0, _, _ => by simp [stepsF]
  | n + 1, f, t => by
    unfold stepsF
    split
    · simp
    · have := stepsF_length n (nextOf f t) t
      simp
      omega
end Go.Proofs.YtgdcffbakjfacaaDoor
