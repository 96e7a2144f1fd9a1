/- Texts of one subject in one: PlainS, SchedA, SchedB; what each shows stands at its head. No condition. -/
import Derived.Test.YtcecpodbmjghhaaGreatPlainT
import Derived.Test.YtcecpodbmjghhaaGreatFuncs
import Derived.Test.YtcecpodbmjghhaaGreatMapB
import Derived.Test.YtcecpodbmjghhaaGreatTreeAll
import Derived.Sort.OwnSortedInts
import Derived.OwnWalk
import Derived.Test.YtcecpodbmjghhaaGreatShelfB
/- The plain mathematics of schedules: jobs, windows, crews. No program. No condition. -/
set_option linter.unusedVariables false
set_option linter.unusedSimpArgs false
namespace Go.Proofs.YtcecpodbmjghhaaGreat
open Go Go.RowKit
structure Fib where
  cable : ByteArray
  no : Int
deriving DecidableEq, Inhabited
structure Job where
  kind : Int
  site : ByteArray
  x : Fib
  y : Fib
  loss : Int
  mins : Int
deriving DecidableEq, Inhabited
def Job.cells (j : Job) : List Value := [.int .i64 j.kind, .string j.site, .string j.x.cable, .int .i64 j.x.no, .string j.y.cable, .int .i64 j.y.no, .int .i64 j.loss, .int .i64 j.mins]
theorem Job.cells_len (j : Job) : j.cells.length = 8 := rfl
structure Win where
  fr : Int
  to : Int
deriving DecidableEq, Inhabited
def Win.cells (x : Win) : List Value := [.int .i64 x.fr, .int .i64 x.to]
theorem Win.cells_len (x : Win) : x.cells.length = 2 := rfl
end Go.Proofs.YtcecpodbmjghhaaGreat
/- Walks of package change: what is wrong with jobs, windows and crews. -/
namespace Go.Proofs.YtcecpodbmjghhaaGreat
open Go Go.RowKit
end Go.Proofs.YtcecpodbmjghhaaGreat
/- Walk of package change: the schedule of jobs. -/
namespace Go.Proofs.YtcecpodbmjghhaaGreat
open Go Go.RowKit
end Go.Proofs.YtcecpodbmjghhaaGreat
