/- The operations with which loops go from a front needle to another one. Condition: small needles. -/
import Derived.Test.YtaopjpcclkkoiaaOps
import Derived.Test.YtaopjpcclkkoiaaPlaces
namespace Go.Proofs.Ytaopjpcclkkoiaa
open Go.ChangeShapes Go.WideShapes Go.ChangeAt Go.RowKit
def rackM (a b : Int) : List OpM := [⟨4, 0, 1, a, 2, a, 0, 0⟩, ⟨7, 0, 0, 0, 0, 0, 0, b - a⟩, ⟨4, 0, 2, a, 1, b, 0, 0⟩, ⟨7, 0, 0, 0, 0, 0, 0, 0⟩]
theorem rackM_ok {a b : Int} (ha : 0 ≤ a ∧ a ≤ 1000) (hb : 0 ≤ b ∧ b ≤ 1000) : ∀ x ∈ rackM a b, x.ok := by
  intro x hx
  simp only [rackM, List.mem_cons, List.not_mem_nil, or_false] at hx
  rcases hx with rfl | rfl | rfl | rfl <;> (unfold OpM.ok I64; simp only []; omega)
end Go.Proofs.Ytaopjpcclkkoiaa
