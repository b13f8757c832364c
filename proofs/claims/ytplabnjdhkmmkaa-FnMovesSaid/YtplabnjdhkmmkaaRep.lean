/- slices.Repeat of a single 1. Condition: at most eight. -/
import Derived.Test.YtplabnjdhkmmkaaShelfR6
import Derived.Test.YtplabnjdhkmmkaaPF5
import Derived.Laws.CopyOwn
import Derived.Deep.RegionLaw
set_option maxRecDepth 100000
set_option maxHeartbeats 200000
set_option linter.unusedSimpArgs false
set_option linter.unusedVariables false
namespace Go.Proofs.Ytplabnjdhkmmkaa
open Go.ChangeShapes Go.WideShapes Go.ChangeAt Go.RowKit
end Go.Proofs.Ytplabnjdhkmmkaa
