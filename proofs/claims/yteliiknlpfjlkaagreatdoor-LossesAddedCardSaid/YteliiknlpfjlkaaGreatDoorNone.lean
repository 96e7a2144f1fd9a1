/- Walk: the reference's error of what is missing. -/
import Derived.Test.YteliiknlpfjlkaaGreatDoorBase
import Derived.Test.YteliiknlpfjlkaaGreatDoorProg
set_option linter.unusedVariables false
set_option linter.unusedSimpArgs false
namespace Go.Proofs.YteliiknlpfjlkaaGreatDoor
open Go Go.RowKit

def noneV (b : Bool) : Int := if b then 8 else 0
end Go.Proofs.YteliiknlpfjlkaaGreatDoor
