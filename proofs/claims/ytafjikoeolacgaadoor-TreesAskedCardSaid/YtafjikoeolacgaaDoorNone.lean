/- Walk: the reference's error of what is missing. -/
import Derived.Test.YtafjikoeolacgaaDoorBase
import Derived.Test.YtafjikoeolacgaaDoorProg
set_option linter.unusedVariables false
set_option linter.unusedSimpArgs false
namespace Go.Proofs.YtafjikoeolacgaaDoor
open Go Go.RowKit

def noneV (b : Bool) : Int := if b then 8 else 0
set_option maxHeartbeats 1000000 in
theorem none_any (b : Bool) (w : World) : Calls Tryd.prog 15 #[.bool b] w fun e w' => e = .returned (.int .i64 (noneV b)) ∧ w = w' := by
  cases b
  all_goals
    go_enter Tryd.func15, Tryd.ntmps15
    go_wp2
    go_ret
    exact ⟨rfl, rfl⟩
end Go.Proofs.YtafjikoeolacgaaDoor
