/- Moves: one move as data, its tests, its copy. No condition. -/
import Derived.Test.YtnjfhpgmogopnaaRack
import Derived.Lib.SmallJoins
namespace Go.Proofs.Ytnjfhpgmogopnaa
open Go.ChangeShapes Go.WideShapes Go.ChangeAt Go.RowKit
def isMoveP (f t : Int) : Prop := (0 ≤ f ∧ f ≤ 23) ∧ (0 ≤ t ∧ t ≤ 23) ∧ f ≠ t ∧ (-3 ≤ t - f ∧ t - f ≤ 3)
instance (f t : Int) : Decidable (isMoveP f t) := inferInstanceAs (Decidable (_ ∧ _))
theorem move_cases (f t : Int) : (f < 0 ∨ 23 < f) ∨ ((0 ≤ f ∧ f ≤ 23) ∧ (t < 0 ∨ 23 < t)) ∨ ((0 ≤ f ∧ f ≤ 23) ∧ (0 ≤ t ∧ t ≤ 23) ∧ f = t) ∨
    ((0 ≤ f ∧ f ≤ 23) ∧ (0 ≤ t ∧ t ≤ 23) ∧ f ≠ t ∧ (t - f < -3 ∨ 3 < t - f)) ∨ ((0 ≤ f ∧ f ≤ 23) ∧ (0 ≤ t ∧ t ≤ 23) ∧ f ≠ t ∧ (-3 ≤ t - f ∧ t - f ≤ 3)) := by omega
end Go.Proofs.Ytnjfhpgmogopnaa
