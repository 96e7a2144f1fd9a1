/- Walks of package budget: total, Loss, Received, Margin, Attenuator, Reach, Repairs. -/
import Derived.Test.YtafjikoeolacgaaDoorWalkB3
set_option linter.unusedVariables false
set_option linter.unusedSimpArgs false
namespace Go.Proofs.YtafjikoeolacgaaDoor
open Go Go.RowKit

end Go.Proofs.YtafjikoeolacgaaDoor
