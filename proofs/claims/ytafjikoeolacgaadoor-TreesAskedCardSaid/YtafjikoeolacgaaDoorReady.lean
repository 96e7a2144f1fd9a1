/- Walks: the properties' 'ready' and the laws' 'grown'. -/
import Derived.Test.YtafjikoeolacgaaDoorSchedAll
import Derived.Test.YtafjikoeolacgaaDoorTreeAll
import Derived.Test.YtafjikoeolacgaaDoorLoss
set_option linter.unusedVariables false
set_option linter.unusedSimpArgs false
namespace Go.Proofs.YtafjikoeolacgaaDoor
open Go Go.RowKit

def keyS : ByteArray := ⟨#[115]⟩
theorem readySplit : splitterF [⟨keyS, 2, ⟨#[]⟩, 0⟩] [] keyS = 0 := by decide +kernel
theorem readyPorts : (portsL [⟨keyS, 2, ⟨#[]⟩, 0⟩] [] keyS).length = 2 := by decide +kernel
theorem readySchedF : schedF [⟨0, ⟨#[]⟩, ⟨⟨#[]⟩, 0⟩, ⟨⟨#[]⟩, 0⟩, 0, 5⟩] [⟨3, 9⟩] 1 = 0 := by decide +kernel
theorem readySchedV : schedV [⟨0, ⟨#[]⟩, ⟨⟨#[]⟩, 0⟩, ⟨⟨#[]⟩, 0⟩, 0, 5⟩] [⟨3, 9⟩] 1 = some [3] := by
  simp [schedV, schedGo, fitsW]
  decide
theorem grownSplit : splitterF [⟨keyS, 2, ⟨#[]⟩, 0⟩] [⟨⟨#[107]⟩, keyS, 2⟩] keyS = 0 := by decide +kernel
theorem grownPorts : portsL [⟨keyS, 2, ⟨#[]⟩, 0⟩] [⟨⟨#[107]⟩, keyS, 2⟩] keyS = [⟨#[]⟩, ⟨#[107]⟩] := by decide +kernel
end Go.Proofs.YtafjikoeolacgaaDoor
