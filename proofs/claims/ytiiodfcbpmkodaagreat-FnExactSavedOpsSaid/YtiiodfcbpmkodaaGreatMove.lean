/- Moves: one move as data, its tests, its copy. No condition. -/
import Derived.Test.YtiiodfcbpmkodaaGreatRack
import Derived.Lib.SmallJoins
set_option linter.unusedSimpArgs false
set_option linter.unusedVariables false
namespace Go.Proofs.YtiiodfcbpmkodaaGreat
open Go.ChangeShapes Go.WideShapes Go.ChangeAt Go.RowKit
def isMoveP (f t : Int) : Prop := (0 ≤ f ∧ f ≤ 23) ∧ (0 ≤ t ∧ t ≤ 23) ∧ f ≠ t ∧ (-3 ≤ t - f ∧ t - f ≤ 3)
instance (f t : Int) : Decidable (isMoveP f t) := inferInstanceAs (Decidable (_ ∧ _))
end Go.Proofs.YtiiodfcbpmkodaaGreat
