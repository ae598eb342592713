/-
  DERIVED. GIVEN WITH THE SEED: THE CARDS: each row of YtpheoddpkmaidaaDoorRows.lean that lists a variable, with what it lists TIED to the program's text (the seventh form; the later family's looks); each row that meets fmt, with fmt's text TOLD by the authors' own Lean function (tested against real Go, not proved from fmt's source: count such statements apart). THE CARD IS WHAT COUNTS. Prove the row's statement (the work); the ties are given (YtpheoddpkmaidaaDoorTie.lean); close each card by the builder's one call (the guide's Derived/Test/ToyasCard.lean, 'card_holds'). Laid BY PROGRAM, IN A SANDBOX (cutbox-door.mjs). By AI agents, Wed Nov 11 2026. No macro, syntax, notation, axiom, sorry.
-/
import Derived.Test.YtpheoddpkmaidaaDoorRows
import GoSem.ClaimSeven
namespace Go.Proofs.YtpheoddpkmaidaaDoor
namespace Rows

/-- THE TIED CARD OF 'laws.FnSameExpr'. -/
def fnSameExprCard : Claim7 := { stood := { row := fnSameExprRow, standIns := [], harness := (true, "580401269a1c8dc28c353c32dde4a40a718151a3751f0e609d1d335e2d6a61c9"), looks := true }, kinds := [], alts := [], laidByText := true, laidKinds := [.data, .data, .data, .sentinel, .sentinel, .widerDeep, .mapped], laidTests := true, laidLooks := .later }
def FnSameExprCardSaid : Prop := Claim7.holds Tryd.pinned (.plain (OpenSpec.ofChange fnSameExprSpec)) fnSameExprCard

/-- THE TIED CARD OF 'laws.FnParts'. -/
def fnPartsCard : Claim7 := { stood := { row := fnPartsRow, standIns := [], harness := (true, "580401269a1c8dc28c353c32dde4a40a718151a3751f0e609d1d335e2d6a61c9"), looks := true }, kinds := [], alts := [], laidByText := true, laidKinds := [.widerDeep, .mapped], laidTests := true, laidLooks := .later }
def FnPartsCardSaid : Prop := Claim7.holds Tryd.pinned (.plain (OpenSpec.ofChange fnPartsSpec)) fnPartsCard

/-- THE TIED CARD OF 'laws.FnCalls'. -/
def fnCallsCard : Claim7 := { stood := { row := fnCallsRow, standIns := [], harness := (true, "580401269a1c8dc28c353c32dde4a40a718151a3751f0e609d1d335e2d6a61c9"), looks := true }, kinds := [], alts := [], laidByText := true, laidKinds := [.widerDeep, .mapped], laidTests := true, laidLooks := .later }
def FnCallsCardSaid : Prop := Claim7.holds Tryd.pinned (.plain (OpenSpec.ofChange fnCallsSpec)) fnCallsCard

/-- THE TIED CARD OF 'laws.FnVars'. -/
def fnVarsCard : Claim7 := { stood := { row := fnVarsRow, standIns := [], harness := (true, "580401269a1c8dc28c353c32dde4a40a718151a3751f0e609d1d335e2d6a61c9"), looks := true }, kinds := [], alts := [], laidByText := true, laidKinds := [.widerDeep, .mapped], laidTests := true, laidLooks := .later }
def FnVarsCardSaid : Prop := Claim7.holds Tryd.pinned (.plain (OpenSpec.ofChange fnVarsSpec)) fnVarsCard

/-- THE TIED CARD OF 'laws.FnPutVar'. -/
def fnPutVarCard : Claim7 := { stood := { row := fnPutVarRow, standIns := [], harness := (true, "580401269a1c8dc28c353c32dde4a40a718151a3751f0e609d1d335e2d6a61c9"), looks := true }, kinds := [], alts := [], laidByText := true, laidKinds := [.widerDeep, .mapped], laidTests := true, laidLooks := .later }
def FnPutVarCardSaid : Prop := Claim7.holds Tryd.pinned (.plain (OpenSpec.ofChange fnPutVarSpec)) fnPutVarCard

/-- THE TIED CARD OF 'laws.FnFoldAgain'. -/
def fnFoldAgainCard : Claim7 := { stood := { row := fnFoldAgainRow, standIns := [], harness := (true, "580401269a1c8dc28c353c32dde4a40a718151a3751f0e609d1d335e2d6a61c9"), looks := true }, kinds := [], alts := [], laidByText := true, laidKinds := [.widerDeep, .mapped], laidTests := true, laidLooks := .later }
def FnFoldAgainCardSaid : Prop := Claim7.holds Tryd.pinned (.plain (OpenSpec.ofChange fnFoldAgainSpec)) fnFoldAgainCard

/-- THE TIED CARD OF 'laws.FnExprForm'. -/
def fnExprFormCard : Claim7 := { stood := { row := fnExprFormRow, standIns := [], harness := (true, "580401269a1c8dc28c353c32dde4a40a718151a3751f0e609d1d335e2d6a61c9"), looks := true }, kinds := [], alts := [], laidByText := true, laidKinds := [.data, .data, .data, .sentinel, .sentinel, .widerDeep, .mapped], laidTests := true, laidLooks := .later }
def FnExprFormCardSaid : Prop := Claim7.holds Tryd.pinned (.plain (OpenSpec.ofChange fnExprFormSpec)) fnExprFormCard

/-- THE SECOND FORM's CARD OF 'laws.FnSameExpr'. -/
def fnSameExprUptoCard : Claim7 := { stood := { row := fnSameExprUptoRow, standIns := [], harness := (true, "580401269a1c8dc28c353c32dde4a40a718151a3751f0e609d1d335e2d6a61c9"), looks := true }, kinds := [], alts := [], laidByText := true, laidKinds := [.data, .data, .data, .sentinel, .sentinel, .widerDeep, .mapped], laidTests := true, laidLooks := .later }
def FnSameExprUptoCardSaid : Prop := Claim7.holds Tryd.pinned (.plain (OpenSpec.upto fnSameExprSpec)) fnSameExprUptoCard

/-- THE SECOND FORM's CARD OF 'laws.FnParts'. -/
def fnPartsUptoCard : Claim7 := { stood := { row := fnPartsUptoRow, standIns := [], harness := (true, "580401269a1c8dc28c353c32dde4a40a718151a3751f0e609d1d335e2d6a61c9"), looks := true }, kinds := [], alts := [], laidByText := true, laidKinds := [.widerDeep, .mapped], laidTests := true, laidLooks := .later }
def FnPartsUptoCardSaid : Prop := Claim7.holds Tryd.pinned (.plain (OpenSpec.upto fnPartsSpec)) fnPartsUptoCard

/-- THE SECOND FORM's CARD OF 'laws.FnCalls'. -/
def fnCallsUptoCard : Claim7 := { stood := { row := fnCallsUptoRow, standIns := [], harness := (true, "580401269a1c8dc28c353c32dde4a40a718151a3751f0e609d1d335e2d6a61c9"), looks := true }, kinds := [], alts := [], laidByText := true, laidKinds := [.widerDeep, .mapped], laidTests := true, laidLooks := .later }
def FnCallsUptoCardSaid : Prop := Claim7.holds Tryd.pinned (.plain (OpenSpec.upto fnCallsSpec)) fnCallsUptoCard

/-- THE SECOND FORM's CARD OF 'laws.FnVars'. -/
def fnVarsUptoCard : Claim7 := { stood := { row := fnVarsUptoRow, standIns := [], harness := (true, "580401269a1c8dc28c353c32dde4a40a718151a3751f0e609d1d335e2d6a61c9"), looks := true }, kinds := [], alts := [], laidByText := true, laidKinds := [.widerDeep, .mapped], laidTests := true, laidLooks := .later }
def FnVarsUptoCardSaid : Prop := Claim7.holds Tryd.pinned (.plain (OpenSpec.upto fnVarsSpec)) fnVarsUptoCard

/-- THE SECOND FORM's CARD OF 'laws.FnPutVar'. -/
def fnPutVarUptoCard : Claim7 := { stood := { row := fnPutVarUptoRow, standIns := [], harness := (true, "580401269a1c8dc28c353c32dde4a40a718151a3751f0e609d1d335e2d6a61c9"), looks := true }, kinds := [], alts := [], laidByText := true, laidKinds := [.widerDeep, .mapped], laidTests := true, laidLooks := .later }
def FnPutVarUptoCardSaid : Prop := Claim7.holds Tryd.pinned (.plain (OpenSpec.upto fnPutVarSpec)) fnPutVarUptoCard

/-- THE SECOND FORM's CARD OF 'laws.FnFoldAgain'. -/
def fnFoldAgainUptoCard : Claim7 := { stood := { row := fnFoldAgainUptoRow, standIns := [], harness := (true, "580401269a1c8dc28c353c32dde4a40a718151a3751f0e609d1d335e2d6a61c9"), looks := true }, kinds := [], alts := [], laidByText := true, laidKinds := [.widerDeep, .mapped], laidTests := true, laidLooks := .later }
def FnFoldAgainUptoCardSaid : Prop := Claim7.holds Tryd.pinned (.plain (OpenSpec.upto fnFoldAgainSpec)) fnFoldAgainUptoCard

/-- THE SECOND FORM's CARD OF 'laws.FnExprForm'. -/
def fnExprFormUptoCard : Claim7 := { stood := { row := fnExprFormUptoRow, standIns := [], harness := (true, "580401269a1c8dc28c353c32dde4a40a718151a3751f0e609d1d335e2d6a61c9"), looks := true }, kinds := [], alts := [], laidByText := true, laidKinds := [.data, .data, .data, .sentinel, .sentinel, .widerDeep, .mapped], laidTests := true, laidLooks := .later }
def FnExprFormUptoCardSaid : Prop := Claim7.holds Tryd.pinned (.plain (OpenSpec.upto fnExprFormSpec)) fnExprFormUptoCard
end Rows
end Go.Proofs.YtpheoddpkmaidaaDoor
