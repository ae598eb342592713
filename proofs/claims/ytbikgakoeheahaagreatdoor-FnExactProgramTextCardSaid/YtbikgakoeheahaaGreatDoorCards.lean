/-
  DERIVED. GIVEN WITH THE SEED: THE CARDS: each row of YtbikgakoeheahaaGreatDoorRows.lean that lists a variable, with what it lists TIED to the program's text (the seventh form; the later family's looks); each row that meets fmt, with fmt's text TOLD by the authors' own Lean function (tested against real Go, not proved from fmt's source: count such statements apart). THE CARD IS WHAT COUNTS. Prove the row's statement (the work); the ties are given (YtbikgakoeheahaaGreatDoorTie.lean); close each card by the builder's one call (the guide's Derived/Test/ToyasCard.lean, 'card_holds'). Laid BY PROGRAM, IN A SANDBOX (cutbox-door.mjs). By AI agents, Wed Nov 11 2026. No macro, syntax, notation, axiom, sorry.
-/
import Derived.Test.YtbikgakoeheahaaGreatDoorRows
import GoSem.ClaimSeven
namespace Go.Proofs.YtbikgakoeheahaaGreatDoor
namespace Rows

/-- THE TIED CARD OF 'laws.FnExactProgramText'. -/
def fnExactProgramTextCard : Claim7 := { stood := { row := fnExactProgramTextRow, standIns := [], harness := (true, "3c9fe6a849f57922eb7080b64921571fc58e33322862a969172bb00b060591b8"), looks := true }, kinds := [], alts := [], laidByText := true, laidKinds := [.data, .data, .data, .sentinel, .sentinel, .widerDeep, .mapped], laidTests := true, laidLooks := .later }
def FnExactProgramTextCardSaid : Prop := Claim7.holds Tryz.pinned (.plain (OpenSpec.ofChange fnExactProgramTextSpec)) fnExactProgramTextCard

/-- THE SECOND FORM's CARD OF 'laws.FnExactProgramText'. -/
def fnExactProgramTextUptoCard : Claim7 := { stood := { row := fnExactProgramTextUptoRow, standIns := [], harness := (true, "3c9fe6a849f57922eb7080b64921571fc58e33322862a969172bb00b060591b8"), looks := true }, kinds := [], alts := [], laidByText := true, laidKinds := [.data, .data, .data, .sentinel, .sentinel, .widerDeep, .mapped], laidTests := true, laidLooks := .later }
def FnExactProgramTextUptoCardSaid : Prop := Claim7.holds Tryz.pinned (.plain (OpenSpec.upto fnExactProgramTextSpec)) fnExactProgramTextUptoCard
end Rows
end Go.Proofs.YtbikgakoeheahaaGreatDoor
