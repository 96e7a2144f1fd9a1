/- Walks of the stream: what draws lists of parts. -/
import Derived.Test.YtafjikoeolacgaaDoorStreamL
set_option linter.unusedVariables false
set_option linter.unusedSimpArgs false
namespace Go.Proofs.YtafjikoeolacgaaDoor
open Go Go.RowKit

end Go.Proofs.YtafjikoeolacgaaDoor
