/- Walks of the stream: what draws lists of parts. -/
import Derived.Test.YtcecpodbmjghhaaGreatStreamL
set_option linter.unusedVariables false
set_option linter.unusedSimpArgs false
namespace Go.Proofs.YtcecpodbmjghhaaGreat
open Go Go.RowKit

theorem infoPart : (Tryz.prog.info? 115).map (fun i => (i.zero, i.size, i.bytes)) = some (some (.agg #[.int .i64 0, .int .i64 0]), 2, 16) := by kernel_rfl

end Go.Proofs.YtcecpodbmjghhaaGreat
