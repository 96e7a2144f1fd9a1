/- Walks: budget.Loss, and the laws' 'budgeted'. -/
import Derived.Test.YtafjikoeolacgaaDoorWalkB4
set_option linter.unusedVariables false
set_option linter.unusedSimpArgs false
namespace Go.Proofs.YtafjikoeolacgaaDoor
open Go Go.RowKit

def lossF (l : List Part) (x : Losses) : Int := firstF [partsFault l, lossesFault x]
def lossV (l : List Part) (x : Losses) : Int := if lossF l x = 0 then total l x else 0
theorem lossF_zero {l : List Part} {x : Losses} : lossF l x = 0 ↔ (partsFault l = 0 ∧ lossesFault x = 0) := by
  unfold lossF firstF
  by_cases h : partsFault l = 0 <;> by_cases h2 : lossesFault x = 0 <;> simp [firstF, h, h2]

theorem eightyEight : lossV [⟨1, 2500⟩] ⟨35, 0, 0, 0⟩ = 88 ∧ lossF [⟨1, 2500⟩] ⟨35, 0, 0, 0⟩ = 0 := by decide
end Go.Proofs.YtafjikoeolacgaaDoor
