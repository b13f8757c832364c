/- Contracts of ValidPlaces and of the reference's l21Places: whether a list are needles of columns. No condition. -/
import Derived.Test.YtiiodfcbpmkodaaGreatInts
set_option linter.unusedSimpArgs false
set_option linter.unusedVariables false
namespace Go.Proofs.YtiiodfcbpmkodaaGreat
open Go.ChangeShapes Go.WideShapes Go.ChangeAt Go.RowKit
/-- the first j numbers are needles in ascending order (twice: equal ones are let in) -/
def placesTo (twice : Bool) (xs : List Int) (j : Nat) : Prop :=
  ∀ i (_ : i < xs.length), i < j → 0 ≤ xs[i] ∧ xs[i] ≤ 23 ∧ (∀ (_ : 0 < i), xs[i - 1] < xs[i] ∨ (twice = true ∧ xs[i - 1] = xs[i]))
instance (twice : Bool) (xs : List Int) (j : Nat) : Decidable (placesTo twice xs j) := inferInstanceAs (Decidable (∀ i, ∀ (_ : i < xs.length), i < j → _))
end Go.Proofs.YtiiodfcbpmkodaaGreat
