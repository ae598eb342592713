/-
  DERIVED. GIVEN WITH THE SEED: THE CARDS: each row of YtcmcpipcafjiaaaDoorRows.lean that lists a variable, with what it lists TIED to the program's text (the seventh form; the later family's looks); each row that meets fmt, with fmt's text TOLD by the authors' own Lean function (tested against real Go, not proved from fmt's source: count such statements apart). THE CARD IS WHAT COUNTS. Prove the row's statement (the work); the ties are given (YtcmcpipcafjiaaaDoorTie.lean); close each card by the builder's one call (the guide's Derived/Test/ToyasCard.lean, 'card_holds'). Laid BY PROGRAM, IN A SANDBOX (cutbox-door.mjs). By AI agents, Wed Nov 11 2026. No macro, syntax, notation, axiom, sorry.
-/
import Derived.Test.YtcmcpipcafjiaaaDoorRows
import GoSem.ClaimSeven
namespace Go.Proofs.YtcmcpipcafjiaaaDoor
namespace Rows

/-- THE TIED CARD OF 'laws.FnExactKeyWords'. -/
def fnExactKeyWordsCard : Claim7 := { stood := { row := fnExactKeyWordsRow, standIns := [], harness := (true, "4370dab7db71f642cdac41ffb3e53837edfae8416e167ce0c2e2d9a7ead7b6fd"), looks := true }, kinds := [], alts := [], laidByText := true, laidKinds := [.widerDeep], laidTests := true, laidLooks := .later }
def FnExactKeyWordsCardSaid : Prop := Claim7.holds Tryd.pinned (.plain (OpenSpec.ofChange fnExactKeyWordsSpec)) fnExactKeyWordsCard

/-- THE TIED CARD OF 'laws.FnExactIsName'. -/
def fnExactIsNameCard : Claim7 := { stood := { row := fnExactIsNameRow, standIns := [], harness := (true, "4370dab7db71f642cdac41ffb3e53837edfae8416e167ce0c2e2d9a7ead7b6fd"), looks := true }, kinds := [], alts := [], laidByText := true, laidKinds := [.widerDeep], laidTests := true, laidLooks := .later }
def FnExactIsNameCardSaid : Prop := Claim7.holds Tryd.pinned (.plain (OpenSpec.ofChange fnExactIsNameSpec)) fnExactIsNameCard

/-- THE TIED CARD OF 'laws.FnExactNumberOf'. -/
def fnExactNumberOfCard : Claim7 := { stood := { row := fnExactNumberOfRow, standIns := [], harness := (true, "4370dab7db71f642cdac41ffb3e53837edfae8416e167ce0c2e2d9a7ead7b6fd"), looks := true }, kinds := [], alts := [], laidByText := true, laidKinds := [.data, .data, .data, .sentinel, .sentinel], laidTests := true, laidLooks := .later }
def FnExactNumberOfCardSaid : Prop := Claim7.holds Tryd.pinned (.plain (OpenSpec.ofChange fnExactNumberOfSpec)) fnExactNumberOfCard

/-- THE TIED CARD OF 'laws.FnExactWordValid'. -/
def fnExactWordValidCard : Claim7 := { stood := { row := fnExactWordValidRow, standIns := [], harness := (true, "4370dab7db71f642cdac41ffb3e53837edfae8416e167ce0c2e2d9a7ead7b6fd"), looks := true }, kinds := [], alts := [], laidByText := true, laidKinds := [.data, .data, .data, .sentinel, .sentinel, .widerDeep], laidTests := true, laidLooks := .later }
def FnExactWordValidCardSaid : Prop := Claim7.holds Tryd.pinned (.plain (OpenSpec.ofChange fnExactWordValidSpec)) fnExactWordValidCard

/-- THE TIED CARD OF 'laws.FnExactCutWords'. -/
def fnExactCutWordsCard : Claim7 := { stood := { row := fnExactCutWordsRow, standIns := [], harness := (true, "4370dab7db71f642cdac41ffb3e53837edfae8416e167ce0c2e2d9a7ead7b6fd"), looks := true }, kinds := [], alts := [], laidByText := true, laidKinds := [.data, .data, .data, .sentinel, .sentinel, .widerDeep], laidTests := true, laidLooks := .later }
def FnExactCutWordsCardSaid : Prop := Claim7.holds Tryd.pinned (.plain (OpenSpec.ofChange fnExactCutWordsSpec)) fnExactCutWordsCard

/-- THE TIED CARD OF 'laws.FnExactJoinWords'. -/
def fnExactJoinWordsCard : Claim7 := { stood := { row := fnExactJoinWordsRow, standIns := [], harness := (true, "4370dab7db71f642cdac41ffb3e53837edfae8416e167ce0c2e2d9a7ead7b6fd"), looks := true }, kinds := [], alts := [], laidByText := true, laidKinds := [.data, .data, .data, .sentinel, .sentinel, .widerDeep], laidTests := true, laidLooks := .later }
def FnExactJoinWordsCardSaid : Prop := Claim7.holds Tryd.pinned (.plain (OpenSpec.ofChange fnExactJoinWordsSpec)) fnExactJoinWordsCard

/-- THE TIED CARD OF 'laws.FnExactPlainText'. -/
def fnExactPlainTextCard : Claim7 := { stood := { row := fnExactPlainTextRow, standIns := [], harness := (true, "4370dab7db71f642cdac41ffb3e53837edfae8416e167ce0c2e2d9a7ead7b6fd"), looks := true }, kinds := [], alts := [], laidByText := true, laidKinds := [.data, .data, .data, .sentinel, .sentinel, .widerDeep], laidTests := true, laidLooks := .later }
def FnExactPlainTextCardSaid : Prop := Claim7.holds Tryd.pinned (.plain (OpenSpec.ofChange fnExactPlainTextSpec)) fnExactPlainTextCard

/-- THE SECOND FORM's CARD OF 'laws.FnExactKeyWords'. -/
def fnExactKeyWordsUptoCard : Claim7 := { stood := { row := fnExactKeyWordsUptoRow, standIns := [], harness := (true, "4370dab7db71f642cdac41ffb3e53837edfae8416e167ce0c2e2d9a7ead7b6fd"), looks := true }, kinds := [], alts := [], laidByText := true, laidKinds := [.widerDeep], laidTests := true, laidLooks := .later }
def FnExactKeyWordsUptoCardSaid : Prop := Claim7.holds Tryd.pinned (.plain (OpenSpec.upto fnExactKeyWordsSpec)) fnExactKeyWordsUptoCard

/-- THE SECOND FORM's CARD OF 'laws.FnExactIsName'. -/
def fnExactIsNameUptoCard : Claim7 := { stood := { row := fnExactIsNameUptoRow, standIns := [], harness := (true, "4370dab7db71f642cdac41ffb3e53837edfae8416e167ce0c2e2d9a7ead7b6fd"), looks := true }, kinds := [], alts := [], laidByText := true, laidKinds := [.widerDeep], laidTests := true, laidLooks := .later }
def FnExactIsNameUptoCardSaid : Prop := Claim7.holds Tryd.pinned (.plain (OpenSpec.upto fnExactIsNameSpec)) fnExactIsNameUptoCard

/-- THE SECOND FORM's CARD OF 'laws.FnExactNumberOf'. -/
def fnExactNumberOfUptoCard : Claim7 := { stood := { row := fnExactNumberOfUptoRow, standIns := [], harness := (true, "4370dab7db71f642cdac41ffb3e53837edfae8416e167ce0c2e2d9a7ead7b6fd"), looks := true }, kinds := [], alts := [], laidByText := true, laidKinds := [.data, .data, .data, .sentinel, .sentinel], laidTests := true, laidLooks := .later }
def FnExactNumberOfUptoCardSaid : Prop := Claim7.holds Tryd.pinned (.plain (OpenSpec.upto fnExactNumberOfSpec)) fnExactNumberOfUptoCard

/-- THE SECOND FORM's CARD OF 'laws.FnExactWordValid'. -/
def fnExactWordValidUptoCard : Claim7 := { stood := { row := fnExactWordValidUptoRow, standIns := [], harness := (true, "4370dab7db71f642cdac41ffb3e53837edfae8416e167ce0c2e2d9a7ead7b6fd"), looks := true }, kinds := [], alts := [], laidByText := true, laidKinds := [.data, .data, .data, .sentinel, .sentinel, .widerDeep], laidTests := true, laidLooks := .later }
def FnExactWordValidUptoCardSaid : Prop := Claim7.holds Tryd.pinned (.plain (OpenSpec.upto fnExactWordValidSpec)) fnExactWordValidUptoCard

/-- THE SECOND FORM's CARD OF 'laws.FnExactCutWords'. -/
def fnExactCutWordsUptoCard : Claim7 := { stood := { row := fnExactCutWordsUptoRow, standIns := [], harness := (true, "4370dab7db71f642cdac41ffb3e53837edfae8416e167ce0c2e2d9a7ead7b6fd"), looks := true }, kinds := [], alts := [], laidByText := true, laidKinds := [.data, .data, .data, .sentinel, .sentinel, .widerDeep], laidTests := true, laidLooks := .later }
def FnExactCutWordsUptoCardSaid : Prop := Claim7.holds Tryd.pinned (.plain (OpenSpec.upto fnExactCutWordsSpec)) fnExactCutWordsUptoCard

/-- THE SECOND FORM's CARD OF 'laws.FnExactJoinWords'. -/
def fnExactJoinWordsUptoCard : Claim7 := { stood := { row := fnExactJoinWordsUptoRow, standIns := [], harness := (true, "4370dab7db71f642cdac41ffb3e53837edfae8416e167ce0c2e2d9a7ead7b6fd"), looks := true }, kinds := [], alts := [], laidByText := true, laidKinds := [.data, .data, .data, .sentinel, .sentinel, .widerDeep], laidTests := true, laidLooks := .later }
def FnExactJoinWordsUptoCardSaid : Prop := Claim7.holds Tryd.pinned (.plain (OpenSpec.upto fnExactJoinWordsSpec)) fnExactJoinWordsUptoCard

/-- THE SECOND FORM's CARD OF 'laws.FnExactPlainText'. -/
def fnExactPlainTextUptoCard : Claim7 := { stood := { row := fnExactPlainTextUptoRow, standIns := [], harness := (true, "4370dab7db71f642cdac41ffb3e53837edfae8416e167ce0c2e2d9a7ead7b6fd"), looks := true }, kinds := [], alts := [], laidByText := true, laidKinds := [.data, .data, .data, .sentinel, .sentinel, .widerDeep], laidTests := true, laidLooks := .later }
def FnExactPlainTextUptoCardSaid : Prop := Claim7.holds Tryd.pinned (.plain (OpenSpec.upto fnExactPlainTextSpec)) fnExactPlainTextUptoCard
end Rows
end Go.Proofs.YtcmcpipcafjiaaaDoor
