/- The plain mathematics of classes of losses. -/
import Derived.Test.YtcecpodbmjghhaaGreatPlainB
import Derived.Test.YtcecpodbmjghhaaGreatKeysAll
set_option linter.unusedVariables false
set_option linter.unusedSimpArgs false
namespace Go.Proofs.YtcecpodbmjghhaaGreat
open Go Go.RowKit
/-- are the strings the same (as the walk has it) -/
def strB (a b : ByteArray) : Bool := a.toList == b.toList
theorem strB_iff {a b : ByteArray} : strB a b = true ↔ a = b := by
  unfold strB
  simp only [beq_iff_eq, ByteArray.toList_eq]
  constructor
  · intro h
    obtain ⟨a⟩ := a
    obtain ⟨b⟩ := b
    congr 1
    exact Array.toList_inj.1 h
  · intro h; rw [h]
instance : Inhabited Class := ⟨⟨ByteArray.empty, 0, 0⟩⟩
end Go.Proofs.YtcecpodbmjghhaaGreat
