/- Parts of the proof of ScriptsAnswered: ShelfD, TreeG, AskA. No condition. -/
import Derived.Shelf.SlicesQ.Reverse
import Derived.Test.YtbgnlfgkgklkdaaGreatDoorZ17
set_option linter.unusedVariables false
set_option linter.unusedSimpArgs false
set_option maxHeartbeats 8000000
set_option maxRecDepth 100000
namespace Go.Proofs.YtbgnlfgkgklkdaaGreatDoor
open Go Go.RowKit Tryz
end Go.Proofs.YtbgnlfgkgklkdaaGreatDoor
namespace Go.Proofs
open Go.Shelf
end Go.Proofs
namespace Go.Proofs.YtbgnlfgkgklkdaaGreatDoor
open Go Go.RowKit Tryz
section
open Go Go.RowKit Go.Sort
section
variable {α : Type} [Inhabited α] {cells : α → List Value} {sz : Nat}
end
end

end Go.Proofs.YtbgnlfgkgklkdaaGreatDoor
