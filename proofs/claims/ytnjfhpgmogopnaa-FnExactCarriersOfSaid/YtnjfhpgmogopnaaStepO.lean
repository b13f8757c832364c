/- Appending operations at a step of a region that draws its order. No condition but room. -/
import Derived.Test.YtnjfhpgmogopnaaOwnO
import Derived.Test.YtnjfhpgmogopnaaMoves
namespace Go.Proofs.Ytnjfhpgmogopnaa
open Go.ChangeShapes Go.WideShapes Go.ChangeAt Go.RowKit
end Go.Proofs.Ytnjfhpgmogopnaa
