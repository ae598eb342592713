/-
  DERIVED. GIVEN WITH THE SEED: THE CARDS: each row of YtnamciblapddbaaDoorRows.lean that lists a variable, with what it lists TIED to the program's text (the seventh form; the later family's looks); each row that meets fmt, with fmt's text TOLD by the authors' own Lean function (tested against real Go, not proved from fmt's source: count such statements apart). THE CARD IS WHAT COUNTS. Prove the row's statement (the work); the ties are given (YtnamciblapddbaaDoorTie.lean); close each card by the builder's one call (the guide's Derived/Test/ToyasCard.lean, 'card_holds'). Laid BY PROGRAM, IN A SANDBOX (cutbox-door.mjs). By AI agents, Wed Nov 11 2026. No macro, syntax, notation, axiom, sorry.
-/
import Derived.Test.YtnamciblapddbaaDoorRows
import GoSem.ClaimSeven
namespace Go.Proofs.YtnamciblapddbaaDoor
namespace Rows

/-- THE TIED CARD OF 'laws.FnExactExprText'. -/
def fnExactExprTextCard : Claim7 := { stood := { row := fnExactExprTextRow, standIns := [], harness := (true, "35b5709cf617761e49e184a850844353efc8ee067b4b83a3b1615d185be7b518"), looks := true }, kinds := [], alts := [], laidByText := true, laidKinds := [.data, .data, .data, .sentinel, .sentinel, .widerDeep, .mapped], laidTests := true, laidLooks := .later }
def FnExactExprTextCardSaid : Prop := Claim7.holds Tryd.pinned (.plain (OpenSpec.ofChange fnExactExprTextSpec)) fnExactExprTextCard

/-- THE TIED CARD OF 'laws.FnExactExprValid'. -/
def fnExactExprValidCard : Claim7 := { stood := { row := fnExactExprValidRow, standIns := [], harness := (true, "35b5709cf617761e49e184a850844353efc8ee067b4b83a3b1615d185be7b518"), looks := true }, kinds := [], alts := [], laidByText := true, laidKinds := [.widerDeep, .mapped], laidTests := true, laidLooks := .later }
def FnExactExprValidCardSaid : Prop := Claim7.holds Tryd.pinned (.plain (OpenSpec.ofChange fnExactExprValidSpec)) fnExactExprValidCard

/-- THE TIED CARD OF 'laws.FnExactExprParts'. -/
def fnExactExprPartsCard : Claim7 := { stood := { row := fnExactExprPartsRow, standIns := [], harness := (true, "35b5709cf617761e49e184a850844353efc8ee067b4b83a3b1615d185be7b518"), looks := true }, kinds := [], alts := [], laidByText := true, laidKinds := [.widerDeep, .mapped], laidTests := true, laidLooks := .later }
def FnExactExprPartsCardSaid : Prop := Claim7.holds Tryd.pinned (.plain (OpenSpec.ofChange fnExactExprPartsSpec)) fnExactExprPartsCard

/-- THE TIED CARD OF 'laws.FnExactExprDeep'. -/
def fnExactExprDeepCard : Claim7 := { stood := { row := fnExactExprDeepRow, standIns := [], harness := (true, "35b5709cf617761e49e184a850844353efc8ee067b4b83a3b1615d185be7b518"), looks := true }, kinds := [], alts := [], laidByText := true, laidKinds := [.widerDeep, .mapped], laidTests := true, laidLooks := .later }
def FnExactExprDeepCardSaid : Prop := Claim7.holds Tryd.pinned (.plain (OpenSpec.ofChange fnExactExprDeepSpec)) fnExactExprDeepCard

/-- THE TIED CARD OF 'laws.FnExactSafeExpr'. -/
def fnExactSafeExprCard : Claim7 := { stood := { row := fnExactSafeExprRow, standIns := [], harness := (true, "35b5709cf617761e49e184a850844353efc8ee067b4b83a3b1615d185be7b518"), looks := true }, kinds := [], alts := [], laidByText := true, laidKinds := [.widerDeep, .mapped], laidTests := true, laidLooks := .later }
def FnExactSafeExprCardSaid : Prop := Claim7.holds Tryd.pinned (.plain (OpenSpec.ofChange fnExactSafeExprSpec)) fnExactSafeExprCard

/-- THE TIED CARD OF 'laws.FnExactCallsIn'. -/
def fnExactCallsInCard : Claim7 := { stood := { row := fnExactCallsInRow, standIns := [], harness := (true, "35b5709cf617761e49e184a850844353efc8ee067b4b83a3b1615d185be7b518"), looks := true }, kinds := [], alts := [], laidByText := true, laidKinds := [.widerDeep, .mapped], laidTests := true, laidLooks := .later }
def FnExactCallsInCardSaid : Prop := Claim7.holds Tryd.pinned (.plain (OpenSpec.ofChange fnExactCallsInSpec)) fnExactCallsInCard

/-- THE TIED CARD OF 'laws.FnExactVarsOf'. -/
def fnExactVarsOfCard : Claim7 := { stood := { row := fnExactVarsOfRow, standIns := [], harness := (true, "35b5709cf617761e49e184a850844353efc8ee067b4b83a3b1615d185be7b518"), looks := true }, kinds := [], alts := [], laidByText := true, laidKinds := [.widerDeep, .mapped], laidTests := true, laidLooks := .later }
def FnExactVarsOfCardSaid : Prop := Claim7.holds Tryd.pinned (.plain (OpenSpec.ofChange fnExactVarsOfSpec)) fnExactVarsOfCard

/-- THE TIED CARD OF 'laws.FnExactPutVar'. -/
def fnExactPutVarCard : Claim7 := { stood := { row := fnExactPutVarRow, standIns := [], harness := (true, "35b5709cf617761e49e184a850844353efc8ee067b4b83a3b1615d185be7b518"), looks := true }, kinds := [], alts := [], laidByText := true, laidKinds := [.widerDeep, .mapped], laidTests := true, laidLooks := .later }
def FnExactPutVarCardSaid : Prop := Claim7.holds Tryd.pinned (.plain (OpenSpec.ofChange fnExactPutVarSpec)) fnExactPutVarCard

/-- THE TIED CARD OF 'laws.FnExactFoldExpr'. -/
def fnExactFoldExprCard : Claim7 := { stood := { row := fnExactFoldExprRow, standIns := [], harness := (true, "35b5709cf617761e49e184a850844353efc8ee067b4b83a3b1615d185be7b518"), looks := true }, kinds := [], alts := [], laidByText := true, laidKinds := [.widerDeep, .mapped], laidTests := true, laidLooks := .later }
def FnExactFoldExprCardSaid : Prop := Claim7.holds Tryd.pinned (.plain (OpenSpec.ofChange fnExactFoldExprSpec)) fnExactFoldExprCard

/-- THE SECOND FORM's CARD OF 'laws.FnExactExprText'. -/
def fnExactExprTextUptoCard : Claim7 := { stood := { row := fnExactExprTextUptoRow, standIns := [], harness := (true, "35b5709cf617761e49e184a850844353efc8ee067b4b83a3b1615d185be7b518"), looks := true }, kinds := [], alts := [], laidByText := true, laidKinds := [.data, .data, .data, .sentinel, .sentinel, .widerDeep, .mapped], laidTests := true, laidLooks := .later }
def FnExactExprTextUptoCardSaid : Prop := Claim7.holds Tryd.pinned (.plain (OpenSpec.upto fnExactExprTextSpec)) fnExactExprTextUptoCard

/-- THE SECOND FORM's CARD OF 'laws.FnExactExprValid'. -/
def fnExactExprValidUptoCard : Claim7 := { stood := { row := fnExactExprValidUptoRow, standIns := [], harness := (true, "35b5709cf617761e49e184a850844353efc8ee067b4b83a3b1615d185be7b518"), looks := true }, kinds := [], alts := [], laidByText := true, laidKinds := [.widerDeep, .mapped], laidTests := true, laidLooks := .later }
def FnExactExprValidUptoCardSaid : Prop := Claim7.holds Tryd.pinned (.plain (OpenSpec.upto fnExactExprValidSpec)) fnExactExprValidUptoCard

/-- THE SECOND FORM's CARD OF 'laws.FnExactExprParts'. -/
def fnExactExprPartsUptoCard : Claim7 := { stood := { row := fnExactExprPartsUptoRow, standIns := [], harness := (true, "35b5709cf617761e49e184a850844353efc8ee067b4b83a3b1615d185be7b518"), looks := true }, kinds := [], alts := [], laidByText := true, laidKinds := [.widerDeep, .mapped], laidTests := true, laidLooks := .later }
def FnExactExprPartsUptoCardSaid : Prop := Claim7.holds Tryd.pinned (.plain (OpenSpec.upto fnExactExprPartsSpec)) fnExactExprPartsUptoCard

/-- THE SECOND FORM's CARD OF 'laws.FnExactExprDeep'. -/
def fnExactExprDeepUptoCard : Claim7 := { stood := { row := fnExactExprDeepUptoRow, standIns := [], harness := (true, "35b5709cf617761e49e184a850844353efc8ee067b4b83a3b1615d185be7b518"), looks := true }, kinds := [], alts := [], laidByText := true, laidKinds := [.widerDeep, .mapped], laidTests := true, laidLooks := .later }
def FnExactExprDeepUptoCardSaid : Prop := Claim7.holds Tryd.pinned (.plain (OpenSpec.upto fnExactExprDeepSpec)) fnExactExprDeepUptoCard

/-- THE SECOND FORM's CARD OF 'laws.FnExactSafeExpr'. -/
def fnExactSafeExprUptoCard : Claim7 := { stood := { row := fnExactSafeExprUptoRow, standIns := [], harness := (true, "35b5709cf617761e49e184a850844353efc8ee067b4b83a3b1615d185be7b518"), looks := true }, kinds := [], alts := [], laidByText := true, laidKinds := [.widerDeep, .mapped], laidTests := true, laidLooks := .later }
def FnExactSafeExprUptoCardSaid : Prop := Claim7.holds Tryd.pinned (.plain (OpenSpec.upto fnExactSafeExprSpec)) fnExactSafeExprUptoCard

/-- THE SECOND FORM's CARD OF 'laws.FnExactCallsIn'. -/
def fnExactCallsInUptoCard : Claim7 := { stood := { row := fnExactCallsInUptoRow, standIns := [], harness := (true, "35b5709cf617761e49e184a850844353efc8ee067b4b83a3b1615d185be7b518"), looks := true }, kinds := [], alts := [], laidByText := true, laidKinds := [.widerDeep, .mapped], laidTests := true, laidLooks := .later }
def FnExactCallsInUptoCardSaid : Prop := Claim7.holds Tryd.pinned (.plain (OpenSpec.upto fnExactCallsInSpec)) fnExactCallsInUptoCard

/-- THE SECOND FORM's CARD OF 'laws.FnExactVarsOf'. -/
def fnExactVarsOfUptoCard : Claim7 := { stood := { row := fnExactVarsOfUptoRow, standIns := [], harness := (true, "35b5709cf617761e49e184a850844353efc8ee067b4b83a3b1615d185be7b518"), looks := true }, kinds := [], alts := [], laidByText := true, laidKinds := [.widerDeep, .mapped], laidTests := true, laidLooks := .later }
def FnExactVarsOfUptoCardSaid : Prop := Claim7.holds Tryd.pinned (.plain (OpenSpec.upto fnExactVarsOfSpec)) fnExactVarsOfUptoCard

/-- THE SECOND FORM's CARD OF 'laws.FnExactPutVar'. -/
def fnExactPutVarUptoCard : Claim7 := { stood := { row := fnExactPutVarUptoRow, standIns := [], harness := (true, "35b5709cf617761e49e184a850844353efc8ee067b4b83a3b1615d185be7b518"), looks := true }, kinds := [], alts := [], laidByText := true, laidKinds := [.widerDeep, .mapped], laidTests := true, laidLooks := .later }
def FnExactPutVarUptoCardSaid : Prop := Claim7.holds Tryd.pinned (.plain (OpenSpec.upto fnExactPutVarSpec)) fnExactPutVarUptoCard

/-- THE SECOND FORM's CARD OF 'laws.FnExactFoldExpr'. -/
def fnExactFoldExprUptoCard : Claim7 := { stood := { row := fnExactFoldExprUptoRow, standIns := [], harness := (true, "35b5709cf617761e49e184a850844353efc8ee067b4b83a3b1615d185be7b518"), looks := true }, kinds := [], alts := [], laidByText := true, laidKinds := [.widerDeep, .mapped], laidTests := true, laidLooks := .later }
def FnExactFoldExprUptoCardSaid : Prop := Claim7.holds Tryd.pinned (.plain (OpenSpec.upto fnExactFoldExprSpec)) fnExactFoldExprUptoCard
end Rows
end Go.Proofs.YtnamciblapddbaaDoor
