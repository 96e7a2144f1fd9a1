/- Walks of the checks of losses and optics, of sums of losses, and of the functions of package budget that start from them. -/
import Derived.Test.YtafjikoeolacgaaDoorWalkB1
set_option linter.unusedVariables false
set_option linter.unusedSimpArgs false
namespace Go.Proofs.YtafjikoeolacgaaDoor
open Go Go.RowKit

theorem lossesFault_eq (x : Losses) : lossesFault x = firstF ([x.perKm, x.conn, x.dblg, x.exc].map fun n => if outB n 0 1000 then 1 else 0) := by
  unfold lossesFault
  simp only [List.map_cons, List.map_nil, firstF]
  generalize outB x.perKm 0 1000 = a
  generalize outB x.conn 0 1000 = b
  generalize outB x.dblg 0 1000 = c
  generalize outB x.exc 0 1000 = d
  revert a b c d
  decide

theorem opticsOut (o : Optics) : (if (outB o.launch (-10000) 10000 || outB o.least (-10000) 10000 || outB o.most (-10000) 10000) then 1 else 0) = firstF ([o.launch, o.least, o.most].map fun n => if outB n (-10000) 10000 then 1 else 0) := by
  simp only [List.map_cons, List.map_nil, firstF]
  generalize outB o.launch (-10000) 10000 = a
  generalize outB o.least (-10000) 10000 = b
  generalize outB o.most (-10000) 10000 = c
  revert a b c
  decide

end Go.Proofs.YtafjikoeolacgaaDoor
