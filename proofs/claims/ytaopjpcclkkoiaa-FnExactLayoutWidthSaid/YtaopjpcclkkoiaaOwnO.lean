/- Rows under construction: slices of operations to which the call appends. No condition but room. -/
import Derived.Test.YtaopjpcclkkoiaaOps
import Derived.Laws.AppendOwnNone
namespace Go.Proofs.Ytaopjpcclkkoiaa
open Go.ChangeShapes Go.WideShapes Go.ChangeAt Go.RowKit

theorem cells_one (x : OpM) : ∀ u ∈ x.cells, u.oneCell' = true := by
  intro u hu
  simp only [OpM.cells, List.mem_cons, List.not_mem_nil, or_false] at hu
  rcases hu with rfl | rfl | rfl | rfl | rfl | rfl | rfl | rfl <;> rfl

end Go.Proofs.Ytaopjpcclkkoiaa
