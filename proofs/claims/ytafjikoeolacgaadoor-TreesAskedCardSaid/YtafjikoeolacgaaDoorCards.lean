/-
  DERIVED. GIVEN WITH THE SEED: THE CARDS: each row of YtafjikoeolacgaaDoorRows.lean that lists a variable, with what it lists TIED to the program's text (the seventh form; the later family's looks); each row that meets fmt, with fmt's text TOLD by the authors' own Lean function (tested against real Go, not proved from fmt's source: count such statements apart). THE CARD IS WHAT COUNTS. Prove the row's statement (the work); the ties are given (YtafjikoeolacgaaDoorTie.lean); close each card by the builder's one call (the guide's Derived/Test/ToyasCard.lean, 'card_holds'). Laid BY PROGRAM, IN A SANDBOX (cutbox-door.mjs). By AI agents, Wed Nov 11 2026. No macro, syntax, notation, axiom, sorry.
-/
import Derived.Test.YtafjikoeolacgaaDoorRows
import GoSem.ClaimSeven
namespace Go.Proofs.YtafjikoeolacgaaDoor
namespace Rows

/-- THE TIED CARD OF 'splaw1.TreesAsked'. -/
def treesAskedCard : Claim7 := { stood := { row := treesAskedRow, standIns := [], harness := (true, "e5b92d61177c07a0fcc027801d30102a524f987d19be3cec4768e19cdec3e53c"), looks := false }, kinds := [], alts := [], laidByText := true, laidKinds := [.data, .data, .data], laidTests := true, laidLooks := .later }
def TreesAskedCardSaid : Prop := Claim7.holds Tryd.pinned (.plain (OpenSpec.ofChange treesAskedSpec)) treesAskedCard

/-- THE SECOND FORM's CARD OF 'splaw1.TreesAsked'. -/
def treesAskedUptoCard : Claim7 := { stood := { row := treesAskedUptoRow, standIns := [], harness := (true, "e5b92d61177c07a0fcc027801d30102a524f987d19be3cec4768e19cdec3e53c"), looks := false }, kinds := [], alts := [], laidByText := true, laidKinds := [.data, .data, .data], laidTests := true, laidLooks := .later }
def TreesAskedUptoCardSaid : Prop := Claim7.holds Tryd.pinned (.plain (OpenSpec.upto treesAskedSpec)) treesAskedUptoCard
end Rows
end Go.Proofs.YtafjikoeolacgaaDoor
