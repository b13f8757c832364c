/- Contracts of ValidPlaces and of the reference's l21Places: whether a list are needles of columns. No condition. -/
import Derived.Test.YtnjfhpgmogopnaaInts
namespace Go.Proofs.Ytnjfhpgmogopnaa
open Go.ChangeShapes Go.WideShapes Go.ChangeAt Go.RowKit

/-- the first j numbers are needles in ascending order (twice: equal ones are let in) -/
def placesTo (twice : Bool) (xs : List Int) (j : Nat) : Prop :=
  ∀ i (_ : i < xs.length), i < j → 0 ≤ xs[i] ∧ xs[i] ≤ 23 ∧ (∀ (_ : 0 < i), xs[i - 1] < xs[i] ∨ (twice = true ∧ xs[i - 1] = xs[i]))
instance (twice : Bool) (xs : List Int) (j : Nat) : Decidable (placesTo twice xs j) := inferInstanceAs (Decidable (∀ i, ∀ (_ : i < xs.length), i < j → _))
def placesB (twice : Bool) (xs : List Int) : Bool := decide (placesTo twice xs xs.length ∧ xs.length ≤ 8)
theorem placesTo_zero (twice : Bool) (xs : List Int) : placesTo twice xs 0 := fun _ _ h => absurd h (by omega)
theorem placesTo_succ {twice : Bool} {xs : List Int} {j : Nat} (hp : placesTo twice xs j) {h : j < xs.length} (h1 : 0 ≤ xs[j] ∧ xs[j] ≤ 23) (h2 : ∀ (_ : 0 < j), xs[j - 1] < xs[j] ∨ (twice = true ∧ xs[j - 1] = xs[j])) :
    placesTo twice xs (j + 1) := fun i hi hij => by
  by_cases e : i = j
  · subst e; exact ⟨h1.1, h1.2, h2⟩
  · exact hp i hi (by omega)
theorem placesB_not {twice : Bool} {xs : List Int} {j : Nat} (h : j < xs.length) (hn : ¬ (0 ≤ xs[j] ∧ xs[j] ≤ 23 ∧ (∀ (_ : 0 < j), xs[j - 1] < xs[j] ∨ (twice = true ∧ xs[j - 1] = xs[j])))) : placesB twice xs = false :=
  decide_eq_false fun hh => hn (hh.1 j h h)
theorem placesB_all {twice : Bool} {xs : List Int} (h : placesTo twice xs xs.length) : placesB twice xs = decide ((xs.length : Int) ≤ 8) := by
  unfold placesB; simp [h]; omega

end Go.Proofs.Ytnjfhpgmogopnaa
