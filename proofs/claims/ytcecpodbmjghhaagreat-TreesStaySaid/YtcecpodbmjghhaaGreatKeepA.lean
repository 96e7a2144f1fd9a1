/- Walks: right parts drawn from the stream; a copy of parts. -/
import Derived.Test.YtcecpodbmjghhaaGreatStream3
import Derived.Test.YtcecpodbmjghhaaGreatRefBAll
import Derived.Test.YtcecpodbmjghhaaGreatLibB
set_option linter.unusedVariables false
set_option linter.unusedSimpArgs false
namespace Go.Proofs.YtcecpodbmjghhaaGreat
open Go Go.RowKit

theorem part_one (l : List Part) : ∀ u ∈ l.flatMap Part.cells, u.oneCell' = true := by
  intro u hu
  obtain ⟨c, _, hc⟩ := List.mem_flatMap.1 hu
  simp [Part.cells] at hc
  rcases hc with rfl | rfl <;> rfl
/-- parts that are right, at most so many -/
def RightP (s most : Nat) (v : Value) (w : World) : Prop := ∃ l : List Part, l.length ≤ most ∧ partsFault l = 0 ∧ Arr Part.cells 2 w l v ∧ ∀ b off n cap, v = .slice (some ⟨b, off, none⟩) n cap → s < b
end Go.Proofs.YtcecpodbmjghhaaGreat
