/-
  DERIVED. GIVEN WITH THE SEED: THE CARDS: each row of YtbikgakoeheahaaDoorRows.lean that lists a variable, with what it lists TIED to the program's text (the seventh form; the later family's looks); each row that meets fmt, with fmt's text TOLD by the authors' own Lean function (tested against real Go, not proved from fmt's source: count such statements apart). THE CARD IS WHAT COUNTS. Prove the row's statement (the work); the ties are given (YtbikgakoeheahaaDoorTie.lean); close each card by the builder's one call (the guide's Derived/Test/ToyasCard.lean, 'card_holds'). Laid BY PROGRAM, IN A SANDBOX (cutbox-door.mjs). By AI agents, Wed Nov 11 2026. No macro, syntax, notation, axiom, sorry.
-/
import Derived.Test.YtbikgakoeheahaaDoorRows
import GoSem.ClaimSeven
namespace Go.Proofs.YtbikgakoeheahaaDoor
namespace Rows

/-- THE TIED CARD OF 'laws.FnExactExprText'. -/
def fnExactExprTextCard : Claim7 := { stood := { row := fnExactExprTextRow, standIns := [], harness := (true, "cfde21af538fa9c97f60493fa138e4143a33b3d318d1d6ee093f31521b9651c8"), looks := true }, kinds := [], alts := [], laidByText := true, laidKinds := [.data, .data, .data, .sentinel, .sentinel, .widerDeep, .mapped], laidTests := true, laidLooks := .later }
def FnExactExprTextCardSaid : Prop := Claim7.holds Tryd.pinned (.plain (OpenSpec.ofChange fnExactExprTextSpec)) fnExactExprTextCard

/-- THE TIED CARD OF 'laws.FnExactStmtValid'. -/
def fnExactStmtValidCard : Claim7 := { stood := { row := fnExactStmtValidRow, standIns := [], harness := (true, "cfde21af538fa9c97f60493fa138e4143a33b3d318d1d6ee093f31521b9651c8"), looks := true }, kinds := [], alts := [], laidByText := true, laidKinds := [.widerDeep, .mapped], laidTests := true, laidLooks := .later }
def FnExactStmtValidCardSaid : Prop := Claim7.holds Tryd.pinned (.plain (OpenSpec.ofChange fnExactStmtValidSpec)) fnExactStmtValidCard

/-- THE TIED CARD OF 'laws.FnExactProgramValid'. -/
def fnExactProgramValidCard : Claim7 := { stood := { row := fnExactProgramValidRow, standIns := [], harness := (true, "cfde21af538fa9c97f60493fa138e4143a33b3d318d1d6ee093f31521b9651c8"), looks := true }, kinds := [], alts := [], laidByText := true, laidKinds := [.widerDeep, .mapped], laidTests := true, laidLooks := .later }
def FnExactProgramValidCardSaid : Prop := Claim7.holds Tryd.pinned (.plain (OpenSpec.ofChange fnExactProgramValidSpec)) fnExactProgramValidCard

/-- THE TIED CARD OF 'laws.FnExactStmtCount'. -/
def fnExactStmtCountCard : Claim7 := { stood := { row := fnExactStmtCountRow, standIns := [], harness := (true, "cfde21af538fa9c97f60493fa138e4143a33b3d318d1d6ee093f31521b9651c8"), looks := true }, kinds := [], alts := [], laidByText := true, laidKinds := [.widerDeep, .mapped], laidTests := true, laidLooks := .later }
def FnExactStmtCountCardSaid : Prop := Claim7.holds Tryd.pinned (.plain (OpenSpec.ofChange fnExactStmtCountSpec)) fnExactStmtCountCard

/-- THE TIED CARD OF 'laws.FnExactNestOf'. -/
def fnExactNestOfCard : Claim7 := { stood := { row := fnExactNestOfRow, standIns := [], harness := (true, "cfde21af538fa9c97f60493fa138e4143a33b3d318d1d6ee093f31521b9651c8"), looks := true }, kinds := [], alts := [], laidByText := true, laidKinds := [.widerDeep, .mapped], laidTests := true, laidLooks := .later }
def FnExactNestOfCardSaid : Prop := Claim7.holds Tryd.pinned (.plain (OpenSpec.ofChange fnExactNestOfSpec)) fnExactNestOfCard

/-- THE SECOND FORM's CARD OF 'laws.FnExactExprText'. -/
def fnExactExprTextUptoCard : Claim7 := { stood := { row := fnExactExprTextUptoRow, standIns := [], harness := (true, "cfde21af538fa9c97f60493fa138e4143a33b3d318d1d6ee093f31521b9651c8"), looks := true }, kinds := [], alts := [], laidByText := true, laidKinds := [.data, .data, .data, .sentinel, .sentinel, .widerDeep, .mapped], laidTests := true, laidLooks := .later }
def FnExactExprTextUptoCardSaid : Prop := Claim7.holds Tryd.pinned (.plain (OpenSpec.upto fnExactExprTextSpec)) fnExactExprTextUptoCard

/-- THE SECOND FORM's CARD OF 'laws.FnExactStmtValid'. -/
def fnExactStmtValidUptoCard : Claim7 := { stood := { row := fnExactStmtValidUptoRow, standIns := [], harness := (true, "cfde21af538fa9c97f60493fa138e4143a33b3d318d1d6ee093f31521b9651c8"), looks := true }, kinds := [], alts := [], laidByText := true, laidKinds := [.widerDeep, .mapped], laidTests := true, laidLooks := .later }
def FnExactStmtValidUptoCardSaid : Prop := Claim7.holds Tryd.pinned (.plain (OpenSpec.upto fnExactStmtValidSpec)) fnExactStmtValidUptoCard

/-- THE SECOND FORM's CARD OF 'laws.FnExactProgramValid'. -/
def fnExactProgramValidUptoCard : Claim7 := { stood := { row := fnExactProgramValidUptoRow, standIns := [], harness := (true, "cfde21af538fa9c97f60493fa138e4143a33b3d318d1d6ee093f31521b9651c8"), looks := true }, kinds := [], alts := [], laidByText := true, laidKinds := [.widerDeep, .mapped], laidTests := true, laidLooks := .later }
def FnExactProgramValidUptoCardSaid : Prop := Claim7.holds Tryd.pinned (.plain (OpenSpec.upto fnExactProgramValidSpec)) fnExactProgramValidUptoCard

/-- THE SECOND FORM's CARD OF 'laws.FnExactStmtCount'. -/
def fnExactStmtCountUptoCard : Claim7 := { stood := { row := fnExactStmtCountUptoRow, standIns := [], harness := (true, "cfde21af538fa9c97f60493fa138e4143a33b3d318d1d6ee093f31521b9651c8"), looks := true }, kinds := [], alts := [], laidByText := true, laidKinds := [.widerDeep, .mapped], laidTests := true, laidLooks := .later }
def FnExactStmtCountUptoCardSaid : Prop := Claim7.holds Tryd.pinned (.plain (OpenSpec.upto fnExactStmtCountSpec)) fnExactStmtCountUptoCard

/-- THE SECOND FORM's CARD OF 'laws.FnExactNestOf'. -/
def fnExactNestOfUptoCard : Claim7 := { stood := { row := fnExactNestOfUptoRow, standIns := [], harness := (true, "cfde21af538fa9c97f60493fa138e4143a33b3d318d1d6ee093f31521b9651c8"), looks := true }, kinds := [], alts := [], laidByText := true, laidKinds := [.widerDeep, .mapped], laidTests := true, laidLooks := .later }
def FnExactNestOfUptoCardSaid : Prop := Claim7.holds Tryd.pinned (.plain (OpenSpec.upto fnExactNestOfSpec)) fnExactNestOfUptoCard
end Rows
end Go.Proofs.YtbikgakoeheahaaDoor
