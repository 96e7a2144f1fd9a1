/-
  DERIVED. GIVEN WITH THE SEED: THE CARDS: each row of YtbgnlfgkgklkdaaGreatDoorRows.lean that lists a variable, with what it lists TIED to the program's text (the seventh form; the later family's looks); each row that meets fmt, with fmt's text TOLD by the authors' own Lean function (tested against real Go, not proved from fmt's source: count such statements apart). THE CARD IS WHAT COUNTS. Prove the row's statement (the work); the ties are given (YtbgnlfgkgklkdaaGreatDoorTie.lean); close each card by the builder's one call (the guide's Derived/Test/ToyasCard.lean, 'card_holds'). Laid BY PROGRAM, IN A SANDBOX (cutbox-door.mjs). By AI agents, Wed Nov 11 2026. No macro, syntax, notation, axiom, sorry.
-/
import Derived.Test.YtbgnlfgkgklkdaaGreatDoorRows
import GoSem.ClaimSeven
namespace Go.Proofs.YtbgnlfgkgklkdaaGreatDoor
namespace Rows

/-- THE TIED CARD OF 'splaw1.ScriptsAnswered'. -/
def scriptsAnsweredCard : Claim7 := { stood := { row := scriptsAnsweredRow, standIns := [], harness := (true, "1441460bcd32e15ed6f24d0dfee0cd11eb963ab655f5e3072944601a2bd49791"), looks := true }, kinds := [], alts := [], laidByText := true, laidKinds := [.data, .data, .data, .data, .sentinel, .sentinel, .pinned], laidTests := true, laidLooks := .later }
def ScriptsAnsweredCardSaid : Prop := Claim7.holds Tryz.pinned (.plain (OpenSpec.ofChange scriptsAnsweredSpec)) scriptsAnsweredCard

/-- THE SECOND FORM's CARD OF 'splaw1.ScriptsAnswered'. -/
def scriptsAnsweredUptoCard : Claim7 := { stood := { row := scriptsAnsweredUptoRow, standIns := [], harness := (true, "1441460bcd32e15ed6f24d0dfee0cd11eb963ab655f5e3072944601a2bd49791"), looks := true }, kinds := [], alts := [], laidByText := true, laidKinds := [.data, .data, .data, .data, .sentinel, .sentinel, .pinned], laidTests := true, laidLooks := .later }
def ScriptsAnsweredUptoCardSaid : Prop := Claim7.holds Tryz.pinned (.plain (OpenSpec.upto scriptsAnsweredSpec)) scriptsAnsweredUptoCard
end Rows
end Go.Proofs.YtbgnlfgkgklkdaaGreatDoor
