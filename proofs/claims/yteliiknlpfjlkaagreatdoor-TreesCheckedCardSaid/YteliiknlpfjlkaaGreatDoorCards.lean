/-
  DERIVED. GIVEN WITH THE SEED: THE CARDS: each row of YteliiknlpfjlkaaGreatDoorRows.lean that lists a variable, with what it lists TIED to the program's text (the seventh form; the later family's looks); each row that meets fmt, with fmt's text TOLD by the authors' own Lean function (tested against real Go, not proved from fmt's source: count such statements apart). THE CARD IS WHAT COUNTS. Prove the row's statement (the work); the ties are given (YteliiknlpfjlkaaGreatDoorTie.lean); close each card by the builder's one call (the guide's Derived/Test/ToyasCard.lean, 'card_holds'). Laid BY PROGRAM, IN A SANDBOX (cutbox-door.mjs). By AI agents, Wed Nov 11 2026. No macro, syntax, notation, axiom, sorry.
-/
import Derived.Test.YteliiknlpfjlkaaGreatDoorRows
import GoSem.ClaimSeven
namespace Go.Proofs.YteliiknlpfjlkaaGreatDoor
namespace Rows

/-- THE TIED CARD OF 'splaw1.LossesAdded'. -/
def lossesAddedCard : Claim7 := { stood := { row := lossesAddedRow, standIns := [], harness := (true, "c35b2daef2dc98057535be641d26f31ba90d15860f8b6d05749fe662deab1a9d"), looks := true }, kinds := [], alts := [], laidByText := true, laidKinds := [.data, .data, .data, .data, .sentinel, .sentinel, .pinned], laidTests := true, laidLooks := .later }
def LossesAddedCardSaid : Prop := Claim7.holds Tryz.pinned (.plain (OpenSpec.ofChange lossesAddedSpec)) lossesAddedCard

/-- THE TIED CARD OF 'splaw1.TreesChecked'. -/
def treesCheckedCard : Claim7 := { stood := { row := treesCheckedRow, standIns := [], harness := (true, "c35b2daef2dc98057535be641d26f31ba90d15860f8b6d05749fe662deab1a9d"), looks := true }, kinds := [], alts := [], laidByText := true, laidKinds := [.data, .data, .data, .data, .sentinel, .sentinel, .pinned], laidTests := true, laidLooks := .later }
def TreesCheckedCardSaid : Prop := Claim7.holds Tryz.pinned (.plain (OpenSpec.ofChange treesCheckedSpec)) treesCheckedCard

/-- THE TIED CARD OF 'spkeep1.PartsComeBack'. -/
def partsComeBackCard : Claim7 := { stood := { row := partsComeBackRow, standIns := [], harness := (true, "c35b2daef2dc98057535be641d26f31ba90d15860f8b6d05749fe662deab1a9d"), looks := true }, kinds := [], alts := [], laidByText := true, laidKinds := [.data, .data, .data, .data, .sentinel, .sentinel, .pinned], laidTests := true, laidLooks := .later }
def PartsComeBackCardSaid : Prop := Claim7.holds Tryz.pinned (.plain (OpenSpec.ofChange partsComeBackSpec)) partsComeBackCard

/-- THE TIED CARD OF 'spkeep1.TreesComeBack'. -/
def treesComeBackCard : Claim7 := { stood := { row := treesComeBackRow, standIns := [], harness := (true, "c35b2daef2dc98057535be641d26f31ba90d15860f8b6d05749fe662deab1a9d"), looks := true }, kinds := [], alts := [], laidByText := true, laidKinds := [.data, .data, .data, .data, .sentinel, .sentinel, .pinned], laidTests := true, laidLooks := .later }
def TreesComeBackCardSaid : Prop := Claim7.holds Tryz.pinned (.plain (OpenSpec.ofChange treesComeBackSpec)) treesComeBackCard

/-- THE SECOND FORM's CARD OF 'splaw1.LossesAdded'. -/
def lossesAddedUptoCard : Claim7 := { stood := { row := lossesAddedUptoRow, standIns := [], harness := (true, "c35b2daef2dc98057535be641d26f31ba90d15860f8b6d05749fe662deab1a9d"), looks := true }, kinds := [], alts := [], laidByText := true, laidKinds := [.data, .data, .data, .data, .sentinel, .sentinel, .pinned], laidTests := true, laidLooks := .later }
def LossesAddedUptoCardSaid : Prop := Claim7.holds Tryz.pinned (.plain (OpenSpec.upto lossesAddedSpec)) lossesAddedUptoCard

/-- THE SECOND FORM's CARD OF 'splaw1.TreesChecked'. -/
def treesCheckedUptoCard : Claim7 := { stood := { row := treesCheckedUptoRow, standIns := [], harness := (true, "c35b2daef2dc98057535be641d26f31ba90d15860f8b6d05749fe662deab1a9d"), looks := true }, kinds := [], alts := [], laidByText := true, laidKinds := [.data, .data, .data, .data, .sentinel, .sentinel, .pinned], laidTests := true, laidLooks := .later }
def TreesCheckedUptoCardSaid : Prop := Claim7.holds Tryz.pinned (.plain (OpenSpec.upto treesCheckedSpec)) treesCheckedUptoCard

/-- THE SECOND FORM's CARD OF 'spkeep1.PartsComeBack'. -/
def partsComeBackUptoCard : Claim7 := { stood := { row := partsComeBackUptoRow, standIns := [], harness := (true, "c35b2daef2dc98057535be641d26f31ba90d15860f8b6d05749fe662deab1a9d"), looks := true }, kinds := [], alts := [], laidByText := true, laidKinds := [.data, .data, .data, .data, .sentinel, .sentinel, .pinned], laidTests := true, laidLooks := .later }
def PartsComeBackUptoCardSaid : Prop := Claim7.holds Tryz.pinned (.plain (OpenSpec.upto partsComeBackSpec)) partsComeBackUptoCard

/-- THE SECOND FORM's CARD OF 'spkeep1.TreesComeBack'. -/
def treesComeBackUptoCard : Claim7 := { stood := { row := treesComeBackUptoRow, standIns := [], harness := (true, "c35b2daef2dc98057535be641d26f31ba90d15860f8b6d05749fe662deab1a9d"), looks := true }, kinds := [], alts := [], laidByText := true, laidKinds := [.data, .data, .data, .data, .sentinel, .sentinel, .pinned], laidTests := true, laidLooks := .later }
def TreesComeBackUptoCardSaid : Prop := Claim7.holds Tryz.pinned (.plain (OpenSpec.upto treesComeBackSpec)) treesComeBackUptoCard
end Rows
end Go.Proofs.YteliiknlpfjlkaaGreatDoor
