/- Walks of package budget that add up losses and use powers. -/
import Derived.Test.YtafjikoeolacgaaDoorWalkB2
set_option linter.unusedVariables false
set_option linter.unusedSimpArgs false
namespace Go.Proofs.YtafjikoeolacgaaDoor
open Go Go.RowKit

theorem quo_pos (a : Int) (h : 0 ≤ a) : (a + 1000 - 1) / 1000 = (a + 999) / 1000 := by rw [show a + 1000 - 1 = a + 999 from by omega]

end Go.Proofs.YtafjikoeolacgaaDoor
