/-
  DERIVED. GIVEN WITH THE SEED: THE CARDS: each row of YtlhnojpkomcpmaaDoorRows.lean that lists a variable, with what it lists TIED to the program's text (the seventh form; the later family's looks); each row that meets fmt, with fmt's text TOLD by the authors' own Lean function (tested against real Go, not proved from fmt's source: count such statements apart). THE CARD IS WHAT COUNTS. Prove the row's statement (the work); the ties are given (YtlhnojpkomcpmaaDoorTie.lean); close each card by the builder's one call (the guide's Derived/Test/ToyasCard.lean, 'card_holds'). Laid BY PROGRAM, IN A SANDBOX (cutbox-door.mjs). By AI agents, Wed Nov 11 2026. No macro, syntax, notation, axiom, sorry.
-/
import Derived.Test.YtlhnojpkomcpmaaDoorRows
import GoSem.ClaimSeven
namespace Go.Proofs.YtlhnojpkomcpmaaDoor
namespace Rows

/-- THE TIED CARD OF 'laws.FnExactNumbersFor'. -/
def fnExactNumbersForCard : Claim7 := { stood := { row := fnExactNumbersForRow, standIns := [], harness := (true, "9d9c5d68a6a0f798927c7e2b5e04028a0975398eb6376ee346982f2eddf7481a"), looks := false }, kinds := [], alts := [], laidByText := true, laidKinds := [.data], laidTests := true, laidLooks := .later }
def FnExactNumbersForCardSaid : Prop := Claim7.holds Tryd.pinned (.plain (OpenSpec.ofChange fnExactNumbersForSpec)) fnExactNumbersForCard

/-- THE SECOND FORM's CARD OF 'laws.FnExactNumbersFor'. -/
def fnExactNumbersForUptoCard : Claim7 := { stood := { row := fnExactNumbersForUptoRow, standIns := [], harness := (true, "9d9c5d68a6a0f798927c7e2b5e04028a0975398eb6376ee346982f2eddf7481a"), looks := false }, kinds := [], alts := [], laidByText := true, laidKinds := [.data], laidTests := true, laidLooks := .later }
def FnExactNumbersForUptoCardSaid : Prop := Claim7.holds Tryd.pinned (.plain (OpenSpec.upto fnExactNumbersForSpec)) fnExactNumbersForUptoCard
end Rows
end Go.Proofs.YtlhnojpkomcpmaaDoor
