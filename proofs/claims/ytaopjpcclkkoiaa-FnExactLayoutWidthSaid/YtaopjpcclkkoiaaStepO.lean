/- Appending operations at a step of a region that draws its order. No condition but room. -/
import Derived.Test.YtaopjpcclkkoiaaOwnO
import Derived.Test.YtaopjpcclkkoiaaMoves
namespace Go.Proofs.Ytaopjpcclkkoiaa
open Go.ChangeShapes Go.WideShapes Go.ChangeAt Go.RowKit
end Go.Proofs.Ytaopjpcclkkoiaa
