/-
  DERIVED. GIVEN WITH THE SEED: THE CARDS: each row of YthfinoapfbhgcaaDoorRows.lean that lists a variable, with what it lists TIED to the program's text (the seventh form; the later family's looks); each row that meets fmt, with fmt's text TOLD by the authors' own Lean function (tested against real Go, not proved from fmt's source: count such statements apart). THE CARD IS WHAT COUNTS. Prove the row's statement (the work); the ties are given (YthfinoapfbhgcaaDoorTie.lean); close each card by the builder's one call (the guide's Derived/Test/ToyasCard.lean, 'card_holds'). Laid BY PROGRAM, IN A SANDBOX (cutbox-door.mjs). By AI agents, Wed Nov 11 2026. No macro, syntax, notation, axiom, sorry.
-/
import Derived.Test.YthfinoapfbhgcaaDoorRows
import GoSem.ClaimSeven
namespace Go.Proofs.YthfinoapfbhgcaaDoor
namespace Rows

/-- THE TIED CARD OF 'laws.FnSameExpr'. -/
def fnSameExprCard : Claim7 := { stood := { row := fnSameExprRow, standIns := [], harness := (true, "695cb85d47676d82c3416ed8bd18f7d1d36e2955b6f4097c111c1fd99f0cf534"), looks := true }, kinds := [], alts := [], laidByText := true, laidKinds := [.data, .data, .data, .sentinel, .sentinel, .widerDeep, .mapped], laidTests := true, laidLooks := .later }
def FnSameExprCardSaid : Prop := Claim7.holds Tryd.pinned (.plain (OpenSpec.ofChange fnSameExprSpec)) fnSameExprCard

/-- THE TIED CARD OF 'laws.FnFoldAgain'. -/
def fnFoldAgainCard : Claim7 := { stood := { row := fnFoldAgainRow, standIns := [], harness := (true, "695cb85d47676d82c3416ed8bd18f7d1d36e2955b6f4097c111c1fd99f0cf534"), looks := true }, kinds := [], alts := [], laidByText := true, laidKinds := [.widerDeep, .mapped], laidTests := true, laidLooks := .later }
def FnFoldAgainCardSaid : Prop := Claim7.holds Tryd.pinned (.plain (OpenSpec.ofChange fnFoldAgainSpec)) fnFoldAgainCard

/-- THE SECOND FORM's CARD OF 'laws.FnSameExpr'. -/
def fnSameExprUptoCard : Claim7 := { stood := { row := fnSameExprUptoRow, standIns := [], harness := (true, "695cb85d47676d82c3416ed8bd18f7d1d36e2955b6f4097c111c1fd99f0cf534"), looks := true }, kinds := [], alts := [], laidByText := true, laidKinds := [.data, .data, .data, .sentinel, .sentinel, .widerDeep, .mapped], laidTests := true, laidLooks := .later }
def FnSameExprUptoCardSaid : Prop := Claim7.holds Tryd.pinned (.plain (OpenSpec.upto fnSameExprSpec)) fnSameExprUptoCard

/-- THE SECOND FORM's CARD OF 'laws.FnFoldAgain'. -/
def fnFoldAgainUptoCard : Claim7 := { stood := { row := fnFoldAgainUptoRow, standIns := [], harness := (true, "695cb85d47676d82c3416ed8bd18f7d1d36e2955b6f4097c111c1fd99f0cf534"), looks := true }, kinds := [], alts := [], laidByText := true, laidKinds := [.widerDeep, .mapped], laidTests := true, laidLooks := .later }
def FnFoldAgainUptoCardSaid : Prop := Claim7.holds Tryd.pinned (.plain (OpenSpec.upto fnFoldAgainSpec)) fnFoldAgainUptoCard
end Rows
end Go.Proofs.YthfinoapfbhgcaaDoor
