/- Walks: right parts drawn from the stream; a copy of parts. -/
import Derived.Test.YtcecpodbmjghhaaGreatStrA
import Derived.Test.YtcecpodbmjghhaaGreatRefBAll
import Derived.Test.YtcecpodbmjghhaaGreatLibB
set_option linter.unusedVariables false
set_option linter.unusedSimpArgs false
namespace Go.Proofs.YtcecpodbmjghhaaGreat
open Go Go.RowKit
end Go.Proofs.YtcecpodbmjghhaaGreat
