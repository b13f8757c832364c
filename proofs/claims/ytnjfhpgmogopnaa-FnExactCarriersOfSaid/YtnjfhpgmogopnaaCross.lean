/- The operations with which two columns change places. Condition: a small needle. -/
import Derived.Test.YtnjfhpgmogopnaaConcat
import Derived.Test.YtnjfhpgmogopnaaRack
namespace Go.Proofs.Ytnjfhpgmogopnaa
open Go.ChangeShapes Go.WideShapes Go.ChangeAt Go.RowKit
def crossM (l : Int) (f : Bool) : List OpM := if f then rackM (l + 2) (l - 1) ++ rackM l (l + 2) ++ rackM (l - 1) l else rackM l (l + 3) ++ rackM (l + 2) l ++ rackM (l + 3) (l + 2)
theorem crossM_length (l : Int) (f : Bool) : (crossM l f).length = 12 := by
  cases f <;> simp [crossM, rackM]
end Go.Proofs.Ytnjfhpgmogopnaa
