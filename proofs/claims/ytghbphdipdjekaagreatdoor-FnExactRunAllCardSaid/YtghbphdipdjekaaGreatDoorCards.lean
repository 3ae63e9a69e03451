/-
  DERIVED. GIVEN WITH THE SEED: THE CARDS: each row of YtghbphdipdjekaaGreatDoorRows.lean that lists a variable, with what it lists TIED to the program's text (the seventh form; the later family's looks); each row that meets fmt, with fmt's text TOLD by the authors' own Lean function (tested against real Go, not proved from fmt's source: count such statements apart). THE CARD IS WHAT COUNTS. Prove the row's statement (the work); the ties are given (YtghbphdipdjekaaGreatDoorTie.lean); close each card by the builder's one call (the guide's Derived/Test/ToyasCard.lean, 'card_holds'). Laid BY PROGRAM, IN A SANDBOX (cutbox-door.mjs). By AI agents, Wed Nov 11 2026. No macro, syntax, notation, axiom, sorry.
-/
import Derived.Test.YtghbphdipdjekaaGreatDoorRows
import GoSem.ClaimSeven
namespace Go.Proofs.YtghbphdipdjekaaGreatDoor
namespace Rows

/-- THE TIED CARD OF 'laws.FnRunLow'. -/
def fnRunLowCard : Claim7 := { stood := { row := fnRunLowRow, standIns := [], harness := (true, "b377f68cbe446cb376d1c97b912f005ea04d6597e96568119fb4aad1cbba6cb6"), looks := true }, kinds := [], alts := [], laidByText := true, laidKinds := [.handle], laidTests := true, laidLooks := .later }
def FnRunLowCardSaid : Prop := Claim7.holds Tryz.pinned (.plain (OpenSpec.ofChange fnRunLowSpec)) fnRunLowCard

/-- THE TIED CARD OF 'laws.FnRunCut'. -/
def fnRunCutCard : Claim7 := { stood := { row := fnRunCutRow, standIns := [], harness := (true, "b377f68cbe446cb376d1c97b912f005ea04d6597e96568119fb4aad1cbba6cb6"), looks := true }, kinds := [], alts := [], laidByText := true, laidKinds := [.handle], laidTests := true, laidLooks := .later }
def FnRunCutCardSaid : Prop := Claim7.holds Tryz.pinned (.plain (OpenSpec.ofChange fnRunCutSpec)) fnRunCutCard

/-- THE TIED CARD OF 'laws.FnRunOne'. -/
def fnRunOneCard : Claim7 := { stood := { row := fnRunOneRow, standIns := [], harness := (true, "b377f68cbe446cb376d1c97b912f005ea04d6597e96568119fb4aad1cbba6cb6"), looks := true }, kinds := [], alts := [], laidByText := true, laidKinds := [.handle], laidTests := true, laidLooks := .later }
def FnRunOneCardSaid : Prop := Claim7.holds Tryz.pinned (.plain (OpenSpec.ofChange fnRunOneSpec)) fnRunOneCard

/-- THE TIED CARD OF 'laws.FnRunRights'. -/
def fnRunRightsCard : Claim7 := { stood := { row := fnRunRightsRow, standIns := [], harness := (true, "b377f68cbe446cb376d1c97b912f005ea04d6597e96568119fb4aad1cbba6cb6"), looks := true }, kinds := [], alts := [], laidByText := true, laidKinds := [.handle], laidTests := true, laidLooks := .later }
def FnRunRightsCardSaid : Prop := Claim7.holds Tryz.pinned (.plain (OpenSpec.ofChange fnRunRightsSpec)) fnRunRightsCard

/-- THE TIED CARD OF 'laws.FnRunVers'. -/
def fnRunVersCard : Claim7 := { stood := { row := fnRunVersRow, standIns := [], harness := (true, "b377f68cbe446cb376d1c97b912f005ea04d6597e96568119fb4aad1cbba6cb6"), looks := true }, kinds := [], alts := [], laidByText := true, laidKinds := [.handle], laidTests := true, laidLooks := .later }
def FnRunVersCardSaid : Prop := Claim7.holds Tryz.pinned (.plain (OpenSpec.ofChange fnRunVersSpec)) fnRunVersCard

/-- THE TIED CARD OF 'laws.FnRunWrites'. -/
def fnRunWritesCard : Claim7 := { stood := { row := fnRunWritesRow, standIns := [], harness := (true, "b377f68cbe446cb376d1c97b912f005ea04d6597e96568119fb4aad1cbba6cb6"), looks := true }, kinds := [], alts := [], laidByText := true, laidKinds := [.handle], laidTests := true, laidLooks := .later }
def FnRunWritesCardSaid : Prop := Claim7.holds Tryz.pinned (.plain (OpenSpec.ofChange fnRunWritesSpec)) fnRunWritesCard

/-- THE TIED CARD OF 'laws.FnRunNone'. -/
def fnRunNoneCard : Claim7 := { stood := { row := fnRunNoneRow, standIns := [], harness := (true, "b377f68cbe446cb376d1c97b912f005ea04d6597e96568119fb4aad1cbba6cb6"), looks := true }, kinds := [], alts := [], laidByText := true, laidKinds := [.handle], laidTests := true, laidLooks := .later }
def FnRunNoneCardSaid : Prop := Claim7.holds Tryz.pinned (.plain (OpenSpec.ofChange fnRunNoneSpec)) fnRunNoneCard

/-- THE TIED CARD OF 'laws.FnRunAnswers'. -/
def fnRunAnswersCard : Claim7 := { stood := { row := fnRunAnswersRow, standIns := [], harness := (true, "b377f68cbe446cb376d1c97b912f005ea04d6597e96568119fb4aad1cbba6cb6"), looks := true }, kinds := [], alts := [], laidByText := true, laidKinds := [.handle], laidTests := true, laidLooks := .later }
def FnRunAnswersCardSaid : Prop := Claim7.holds Tryz.pinned (.plain (OpenSpec.ofChange fnRunAnswersSpec)) fnRunAnswersCard

/-- THE TIED CARD OF 'laws.FnRunQuiet'. -/
def fnRunQuietCard : Claim7 := { stood := { row := fnRunQuietRow, standIns := [], harness := (true, "b377f68cbe446cb376d1c97b912f005ea04d6597e96568119fb4aad1cbba6cb6"), looks := true }, kinds := [], alts := [], laidByText := true, laidKinds := [.handle], laidTests := true, laidLooks := .later }
def FnRunQuietCardSaid : Prop := Claim7.holds Tryz.pinned (.plain (OpenSpec.ofChange fnRunQuietSpec)) fnRunQuietCard

/-- THE TIED CARD OF 'laws.FnMoves'. -/
def fnMovesCard : Claim7 := { stood := { row := fnMovesRow, standIns := [], harness := (true, "b377f68cbe446cb376d1c97b912f005ea04d6597e96568119fb4aad1cbba6cb6"), looks := true }, kinds := [], alts := [], laidByText := true, laidKinds := [.handle], laidTests := true, laidLooks := .later }
def FnMovesCardSaid : Prop := Claim7.holds Tryz.pinned (.plain (OpenSpec.ofChange fnMovesSpec)) fnMovesCard

/-- THE TIED CARD OF 'laws.FnExactCallDo'. -/
def fnExactCallDoCard : Claim7 := { stood := { row := fnExactCallDoRow, standIns := [], harness := (true, "b377f68cbe446cb376d1c97b912f005ea04d6597e96568119fb4aad1cbba6cb6"), looks := true }, kinds := [], alts := [], laidByText := true, laidKinds := [.handle], laidTests := true, laidLooks := .later }
def FnExactCallDoCardSaid : Prop := Claim7.holds Tryz.pinned (.plain (OpenSpec.ofChange fnExactCallDoSpec)) fnExactCallDoCard

/-- THE TIED CARD OF 'laws.FnExactCallMoves'. -/
def fnExactCallMovesCard : Claim7 := { stood := { row := fnExactCallMovesRow, standIns := [], harness := (true, "b377f68cbe446cb376d1c97b912f005ea04d6597e96568119fb4aad1cbba6cb6"), looks := true }, kinds := [], alts := [], laidByText := true, laidKinds := [.handle], laidTests := true, laidLooks := .later }
def FnExactCallMovesCardSaid : Prop := Claim7.holds Tryz.pinned (.plain (OpenSpec.ofChange fnExactCallMovesSpec)) fnExactCallMovesCard

/-- THE TIED CARD OF 'laws.FnExactRunAll'. -/
def fnExactRunAllCard : Claim7 := { stood := { row := fnExactRunAllRow, standIns := [], harness := (true, "b377f68cbe446cb376d1c97b912f005ea04d6597e96568119fb4aad1cbba6cb6"), looks := true }, kinds := [], alts := [], laidByText := true, laidKinds := [.handle], laidTests := true, laidLooks := .later }
def FnExactRunAllCardSaid : Prop := Claim7.holds Tryz.pinned (.plain (OpenSpec.ofChange fnExactRunAllSpec)) fnExactRunAllCard

/-- THE SECOND FORM's CARD OF 'laws.FnRunLow'. -/
def fnRunLowUptoCard : Claim7 := { stood := { row := fnRunLowUptoRow, standIns := [], harness := (true, "b377f68cbe446cb376d1c97b912f005ea04d6597e96568119fb4aad1cbba6cb6"), looks := true }, kinds := [], alts := [], laidByText := true, laidKinds := [.handle], laidTests := true, laidLooks := .later }
def FnRunLowUptoCardSaid : Prop := Claim7.holds Tryz.pinned (.plain (OpenSpec.upto fnRunLowSpec)) fnRunLowUptoCard

/-- THE SECOND FORM's CARD OF 'laws.FnRunCut'. -/
def fnRunCutUptoCard : Claim7 := { stood := { row := fnRunCutUptoRow, standIns := [], harness := (true, "b377f68cbe446cb376d1c97b912f005ea04d6597e96568119fb4aad1cbba6cb6"), looks := true }, kinds := [], alts := [], laidByText := true, laidKinds := [.handle], laidTests := true, laidLooks := .later }
def FnRunCutUptoCardSaid : Prop := Claim7.holds Tryz.pinned (.plain (OpenSpec.upto fnRunCutSpec)) fnRunCutUptoCard

/-- THE SECOND FORM's CARD OF 'laws.FnRunOne'. -/
def fnRunOneUptoCard : Claim7 := { stood := { row := fnRunOneUptoRow, standIns := [], harness := (true, "b377f68cbe446cb376d1c97b912f005ea04d6597e96568119fb4aad1cbba6cb6"), looks := true }, kinds := [], alts := [], laidByText := true, laidKinds := [.handle], laidTests := true, laidLooks := .later }
def FnRunOneUptoCardSaid : Prop := Claim7.holds Tryz.pinned (.plain (OpenSpec.upto fnRunOneSpec)) fnRunOneUptoCard

/-- THE SECOND FORM's CARD OF 'laws.FnRunRights'. -/
def fnRunRightsUptoCard : Claim7 := { stood := { row := fnRunRightsUptoRow, standIns := [], harness := (true, "b377f68cbe446cb376d1c97b912f005ea04d6597e96568119fb4aad1cbba6cb6"), looks := true }, kinds := [], alts := [], laidByText := true, laidKinds := [.handle], laidTests := true, laidLooks := .later }
def FnRunRightsUptoCardSaid : Prop := Claim7.holds Tryz.pinned (.plain (OpenSpec.upto fnRunRightsSpec)) fnRunRightsUptoCard

/-- THE SECOND FORM's CARD OF 'laws.FnRunVers'. -/
def fnRunVersUptoCard : Claim7 := { stood := { row := fnRunVersUptoRow, standIns := [], harness := (true, "b377f68cbe446cb376d1c97b912f005ea04d6597e96568119fb4aad1cbba6cb6"), looks := true }, kinds := [], alts := [], laidByText := true, laidKinds := [.handle], laidTests := true, laidLooks := .later }
def FnRunVersUptoCardSaid : Prop := Claim7.holds Tryz.pinned (.plain (OpenSpec.upto fnRunVersSpec)) fnRunVersUptoCard

/-- THE SECOND FORM's CARD OF 'laws.FnRunWrites'. -/
def fnRunWritesUptoCard : Claim7 := { stood := { row := fnRunWritesUptoRow, standIns := [], harness := (true, "b377f68cbe446cb376d1c97b912f005ea04d6597e96568119fb4aad1cbba6cb6"), looks := true }, kinds := [], alts := [], laidByText := true, laidKinds := [.handle], laidTests := true, laidLooks := .later }
def FnRunWritesUptoCardSaid : Prop := Claim7.holds Tryz.pinned (.plain (OpenSpec.upto fnRunWritesSpec)) fnRunWritesUptoCard

/-- THE SECOND FORM's CARD OF 'laws.FnRunNone'. -/
def fnRunNoneUptoCard : Claim7 := { stood := { row := fnRunNoneUptoRow, standIns := [], harness := (true, "b377f68cbe446cb376d1c97b912f005ea04d6597e96568119fb4aad1cbba6cb6"), looks := true }, kinds := [], alts := [], laidByText := true, laidKinds := [.handle], laidTests := true, laidLooks := .later }
def FnRunNoneUptoCardSaid : Prop := Claim7.holds Tryz.pinned (.plain (OpenSpec.upto fnRunNoneSpec)) fnRunNoneUptoCard

/-- THE SECOND FORM's CARD OF 'laws.FnRunAnswers'. -/
def fnRunAnswersUptoCard : Claim7 := { stood := { row := fnRunAnswersUptoRow, standIns := [], harness := (true, "b377f68cbe446cb376d1c97b912f005ea04d6597e96568119fb4aad1cbba6cb6"), looks := true }, kinds := [], alts := [], laidByText := true, laidKinds := [.handle], laidTests := true, laidLooks := .later }
def FnRunAnswersUptoCardSaid : Prop := Claim7.holds Tryz.pinned (.plain (OpenSpec.upto fnRunAnswersSpec)) fnRunAnswersUptoCard

/-- THE SECOND FORM's CARD OF 'laws.FnRunQuiet'. -/
def fnRunQuietUptoCard : Claim7 := { stood := { row := fnRunQuietUptoRow, standIns := [], harness := (true, "b377f68cbe446cb376d1c97b912f005ea04d6597e96568119fb4aad1cbba6cb6"), looks := true }, kinds := [], alts := [], laidByText := true, laidKinds := [.handle], laidTests := true, laidLooks := .later }
def FnRunQuietUptoCardSaid : Prop := Claim7.holds Tryz.pinned (.plain (OpenSpec.upto fnRunQuietSpec)) fnRunQuietUptoCard

/-- THE SECOND FORM's CARD OF 'laws.FnMoves'. -/
def fnMovesUptoCard : Claim7 := { stood := { row := fnMovesUptoRow, standIns := [], harness := (true, "b377f68cbe446cb376d1c97b912f005ea04d6597e96568119fb4aad1cbba6cb6"), looks := true }, kinds := [], alts := [], laidByText := true, laidKinds := [.handle], laidTests := true, laidLooks := .later }
def FnMovesUptoCardSaid : Prop := Claim7.holds Tryz.pinned (.plain (OpenSpec.upto fnMovesSpec)) fnMovesUptoCard

/-- THE SECOND FORM's CARD OF 'laws.FnExactCallDo'. -/
def fnExactCallDoUptoCard : Claim7 := { stood := { row := fnExactCallDoUptoRow, standIns := [], harness := (true, "b377f68cbe446cb376d1c97b912f005ea04d6597e96568119fb4aad1cbba6cb6"), looks := true }, kinds := [], alts := [], laidByText := true, laidKinds := [.handle], laidTests := true, laidLooks := .later }
def FnExactCallDoUptoCardSaid : Prop := Claim7.holds Tryz.pinned (.plain (OpenSpec.upto fnExactCallDoSpec)) fnExactCallDoUptoCard

/-- THE SECOND FORM's CARD OF 'laws.FnExactCallMoves'. -/
def fnExactCallMovesUptoCard : Claim7 := { stood := { row := fnExactCallMovesUptoRow, standIns := [], harness := (true, "b377f68cbe446cb376d1c97b912f005ea04d6597e96568119fb4aad1cbba6cb6"), looks := true }, kinds := [], alts := [], laidByText := true, laidKinds := [.handle], laidTests := true, laidLooks := .later }
def FnExactCallMovesUptoCardSaid : Prop := Claim7.holds Tryz.pinned (.plain (OpenSpec.upto fnExactCallMovesSpec)) fnExactCallMovesUptoCard

/-- THE SECOND FORM's CARD OF 'laws.FnExactRunAll'. -/
def fnExactRunAllUptoCard : Claim7 := { stood := { row := fnExactRunAllUptoRow, standIns := [], harness := (true, "b377f68cbe446cb376d1c97b912f005ea04d6597e96568119fb4aad1cbba6cb6"), looks := true }, kinds := [], alts := [], laidByText := true, laidKinds := [.handle], laidTests := true, laidLooks := .later }
def FnExactRunAllUptoCardSaid : Prop := Claim7.holds Tryz.pinned (.plain (OpenSpec.upto fnExactRunAllSpec)) fnExactRunAllUptoCard
end Rows
end Go.Proofs.YtghbphdipdjekaaGreatDoor
