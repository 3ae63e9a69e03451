/-
  DERIVED. GIVEN WITH THE SEED: THE CARDS: each row of YthhmolonhpaepaaGreatDoorRows.lean that lists a variable, with what it lists TIED to the program's text (the seventh form; the later family's looks); each row that meets fmt, with fmt's text TOLD by the authors' own Lean function (tested against real Go, not proved from fmt's source: count such statements apart). THE CARD IS WHAT COUNTS. Prove the row's statement (the work); the ties are given (YthhmolonhpaepaaGreatDoorTie.lean); close each card by the builder's one call (the guide's Derived/Test/ToyasCard.lean, 'card_holds'). Laid BY PROGRAM, IN A SANDBOX (cutbox-door.mjs). By AI agents, Wed Nov 11 2026. No macro, syntax, notation, axiom, sorry.
-/
import Derived.Test.YthhmolonhpaepaaGreatDoorRows
import GoSem.ClaimSeven
namespace Go.Proofs.YthhmolonhpaepaaGreatDoor
namespace Rows

/-- THE TIED CARD OF 'laws.FnLowSlots'. -/
def fnLowSlotsCard : Claim7 := { stood := { row := fnLowSlotsRow, standIns := [], harness := (true, "cfa7d737ade949a4791bf4e9597b30e6c6f1bae7b45633feb6924f20a283dbfb"), looks := true }, kinds := [], alts := [], goes := true, laidByText := true, laidKinds := [.handle], laidTests := true, laidLooks := .later }
def FnLowSlotsCardSaid : Prop := Claim7.holds Tryz.pinned (.plain (OpenSpec.ofChange fnLowSlotsSpec)) fnLowSlotsCard

/-- THE TIED CARD OF 'laws.FnLowStep'. -/
def fnLowStepCard : Claim7 := { stood := { row := fnLowStepRow, standIns := [], harness := (true, "cfa7d737ade949a4791bf4e9597b30e6c6f1bae7b45633feb6924f20a283dbfb"), looks := true }, kinds := [], alts := [], goes := true, laidByText := true, laidKinds := [.handle], laidTests := true, laidLooks := .later }
def FnLowStepCardSaid : Prop := Claim7.holds Tryz.pinned (.plain (OpenSpec.ofChange fnLowStepSpec)) fnLowStepCard

/-- THE TIED CARD OF 'laws.FnViewThree'. -/
def fnViewThreeCard : Claim7 := { stood := { row := fnViewThreeRow, standIns := [], harness := (true, "cfa7d737ade949a4791bf4e9597b30e6c6f1bae7b45633feb6924f20a283dbfb"), looks := true }, kinds := [], alts := [], goes := true, laidByText := true, laidKinds := [.handle], laidTests := true, laidLooks := .later }
def FnViewThreeCardSaid : Prop := Claim7.holds Tryz.pinned (.plain (OpenSpec.ofChange fnViewThreeSpec)) fnViewThreeCard

/-- THE TIED CARD OF 'laws.FnRunSame'. -/
def fnRunSameCard : Claim7 := { stood := { row := fnRunSameRow, standIns := [], harness := (true, "cfa7d737ade949a4791bf4e9597b30e6c6f1bae7b45633feb6924f20a283dbfb"), looks := true }, kinds := [], alts := [], goes := true, laidByText := true, laidKinds := [.handle], laidTests := true, laidLooks := .later }
def FnRunSameCardSaid : Prop := Claim7.holds Tryz.pinned (.plain (OpenSpec.ofChange fnRunSameSpec)) fnRunSameCard

/-- THE TIED CARD OF 'laws.FnHighMany'. -/
def fnHighManyCard : Claim7 := { stood := { row := fnHighManyRow, standIns := [], harness := (true, "cfa7d737ade949a4791bf4e9597b30e6c6f1bae7b45633feb6924f20a283dbfb"), looks := true }, kinds := [], alts := [], goes := true, laidByText := true, laidKinds := [.handle], laidTests := true, laidLooks := .later }
def FnHighManyCardSaid : Prop := Claim7.holds Tryz.pinned (.plain (OpenSpec.ofChange fnHighManySpec)) fnHighManyCard

/-- THE TIED CARD OF 'laws.FnHighStep'. -/
def fnHighStepCard : Claim7 := { stood := { row := fnHighStepRow, standIns := [], harness := (true, "cfa7d737ade949a4791bf4e9597b30e6c6f1bae7b45633feb6924f20a283dbfb"), looks := true }, kinds := [], alts := [], goes := true, laidByText := true, laidKinds := [.handle], laidTests := true, laidLooks := .later }
def FnHighStepCardSaid : Prop := Claim7.holds Tryz.pinned (.plain (OpenSpec.ofChange fnHighStepSpec)) fnHighStepCard

/-- THE TIED CARD OF 'laws.FnRunNoise'. -/
def fnRunNoiseCard : Claim7 := { stood := { row := fnRunNoiseRow, standIns := [], harness := (true, "cfa7d737ade949a4791bf4e9597b30e6c6f1bae7b45633feb6924f20a283dbfb"), looks := true }, kinds := [], alts := [], goes := true, laidByText := true, laidKinds := [.handle], laidTests := true, laidLooks := .later }
def FnRunNoiseCardSaid : Prop := Claim7.holds Tryz.pinned (.plain (OpenSpec.ofChange fnRunNoiseSpec)) fnRunNoiseCard

/-- THE TIED CARD OF 'laws.FnRunPurgeOne'. -/
def fnRunPurgeOneCard : Claim7 := { stood := { row := fnRunPurgeOneRow, standIns := [], harness := (true, "cfa7d737ade949a4791bf4e9597b30e6c6f1bae7b45633feb6924f20a283dbfb"), looks := true }, kinds := [], alts := [], goes := true, laidByText := true, laidKinds := [.handle], laidTests := true, laidLooks := .later }
def FnRunPurgeOneCardSaid : Prop := Claim7.holds Tryz.pinned (.plain (OpenSpec.ofChange fnRunPurgeOneSpec)) fnRunPurgeOneCard

/-- THE TIED CARD OF 'laws.FnRunPurge'. -/
def fnRunPurgeCard : Claim7 := { stood := { row := fnRunPurgeRow, standIns := [], harness := (true, "cfa7d737ade949a4791bf4e9597b30e6c6f1bae7b45633feb6924f20a283dbfb"), looks := true }, kinds := [], alts := [], goes := true, laidByText := true, laidKinds := [.handle], laidTests := true, laidLooks := .later }
def FnRunPurgeCardSaid : Prop := Claim7.holds Tryz.pinned (.plain (OpenSpec.ofChange fnRunPurgeSpec)) fnRunPurgeCard

/-- THE TIED CARD OF 'laws.FnViewRun'. -/
def fnViewRunCard : Claim7 := { stood := { row := fnViewRunRow, standIns := [], harness := (true, "cfa7d737ade949a4791bf4e9597b30e6c6f1bae7b45633feb6924f20a283dbfb"), looks := true }, kinds := [], alts := [], goes := true, laidByText := true, laidKinds := [.handle], laidTests := true, laidLooks := .later }
def FnViewRunCardSaid : Prop := Claim7.holds Tryz.pinned (.plain (OpenSpec.ofChange fnViewRunSpec)) fnViewRunCard

/-- THE SECOND FORM's CARD OF 'laws.FnLowSlots'. -/
def fnLowSlotsUptoCard : Claim7 := { stood := { row := fnLowSlotsUptoRow, standIns := [], harness := (true, "cfa7d737ade949a4791bf4e9597b30e6c6f1bae7b45633feb6924f20a283dbfb"), looks := true }, kinds := [], alts := [], goes := true, laidByText := true, laidKinds := [.handle], laidTests := true, laidLooks := .later }
def FnLowSlotsUptoCardSaid : Prop := Claim7.holds Tryz.pinned (.plain (OpenSpec.upto fnLowSlotsSpec)) fnLowSlotsUptoCard

/-- THE SECOND FORM's CARD OF 'laws.FnLowStep'. -/
def fnLowStepUptoCard : Claim7 := { stood := { row := fnLowStepUptoRow, standIns := [], harness := (true, "cfa7d737ade949a4791bf4e9597b30e6c6f1bae7b45633feb6924f20a283dbfb"), looks := true }, kinds := [], alts := [], goes := true, laidByText := true, laidKinds := [.handle], laidTests := true, laidLooks := .later }
def FnLowStepUptoCardSaid : Prop := Claim7.holds Tryz.pinned (.plain (OpenSpec.upto fnLowStepSpec)) fnLowStepUptoCard

/-- THE SECOND FORM's CARD OF 'laws.FnViewThree'. -/
def fnViewThreeUptoCard : Claim7 := { stood := { row := fnViewThreeUptoRow, standIns := [], harness := (true, "cfa7d737ade949a4791bf4e9597b30e6c6f1bae7b45633feb6924f20a283dbfb"), looks := true }, kinds := [], alts := [], goes := true, laidByText := true, laidKinds := [.handle], laidTests := true, laidLooks := .later }
def FnViewThreeUptoCardSaid : Prop := Claim7.holds Tryz.pinned (.plain (OpenSpec.upto fnViewThreeSpec)) fnViewThreeUptoCard

/-- THE SECOND FORM's CARD OF 'laws.FnRunSame'. -/
def fnRunSameUptoCard : Claim7 := { stood := { row := fnRunSameUptoRow, standIns := [], harness := (true, "cfa7d737ade949a4791bf4e9597b30e6c6f1bae7b45633feb6924f20a283dbfb"), looks := true }, kinds := [], alts := [], goes := true, laidByText := true, laidKinds := [.handle], laidTests := true, laidLooks := .later }
def FnRunSameUptoCardSaid : Prop := Claim7.holds Tryz.pinned (.plain (OpenSpec.upto fnRunSameSpec)) fnRunSameUptoCard

/-- THE SECOND FORM's CARD OF 'laws.FnHighMany'. -/
def fnHighManyUptoCard : Claim7 := { stood := { row := fnHighManyUptoRow, standIns := [], harness := (true, "cfa7d737ade949a4791bf4e9597b30e6c6f1bae7b45633feb6924f20a283dbfb"), looks := true }, kinds := [], alts := [], goes := true, laidByText := true, laidKinds := [.handle], laidTests := true, laidLooks := .later }
def FnHighManyUptoCardSaid : Prop := Claim7.holds Tryz.pinned (.plain (OpenSpec.upto fnHighManySpec)) fnHighManyUptoCard

/-- THE SECOND FORM's CARD OF 'laws.FnHighStep'. -/
def fnHighStepUptoCard : Claim7 := { stood := { row := fnHighStepUptoRow, standIns := [], harness := (true, "cfa7d737ade949a4791bf4e9597b30e6c6f1bae7b45633feb6924f20a283dbfb"), looks := true }, kinds := [], alts := [], goes := true, laidByText := true, laidKinds := [.handle], laidTests := true, laidLooks := .later }
def FnHighStepUptoCardSaid : Prop := Claim7.holds Tryz.pinned (.plain (OpenSpec.upto fnHighStepSpec)) fnHighStepUptoCard

/-- THE SECOND FORM's CARD OF 'laws.FnRunNoise'. -/
def fnRunNoiseUptoCard : Claim7 := { stood := { row := fnRunNoiseUptoRow, standIns := [], harness := (true, "cfa7d737ade949a4791bf4e9597b30e6c6f1bae7b45633feb6924f20a283dbfb"), looks := true }, kinds := [], alts := [], goes := true, laidByText := true, laidKinds := [.handle], laidTests := true, laidLooks := .later }
def FnRunNoiseUptoCardSaid : Prop := Claim7.holds Tryz.pinned (.plain (OpenSpec.upto fnRunNoiseSpec)) fnRunNoiseUptoCard

/-- THE SECOND FORM's CARD OF 'laws.FnRunPurgeOne'. -/
def fnRunPurgeOneUptoCard : Claim7 := { stood := { row := fnRunPurgeOneUptoRow, standIns := [], harness := (true, "cfa7d737ade949a4791bf4e9597b30e6c6f1bae7b45633feb6924f20a283dbfb"), looks := true }, kinds := [], alts := [], goes := true, laidByText := true, laidKinds := [.handle], laidTests := true, laidLooks := .later }
def FnRunPurgeOneUptoCardSaid : Prop := Claim7.holds Tryz.pinned (.plain (OpenSpec.upto fnRunPurgeOneSpec)) fnRunPurgeOneUptoCard

/-- THE SECOND FORM's CARD OF 'laws.FnRunPurge'. -/
def fnRunPurgeUptoCard : Claim7 := { stood := { row := fnRunPurgeUptoRow, standIns := [], harness := (true, "cfa7d737ade949a4791bf4e9597b30e6c6f1bae7b45633feb6924f20a283dbfb"), looks := true }, kinds := [], alts := [], goes := true, laidByText := true, laidKinds := [.handle], laidTests := true, laidLooks := .later }
def FnRunPurgeUptoCardSaid : Prop := Claim7.holds Tryz.pinned (.plain (OpenSpec.upto fnRunPurgeSpec)) fnRunPurgeUptoCard

/-- THE SECOND FORM's CARD OF 'laws.FnViewRun'. -/
def fnViewRunUptoCard : Claim7 := { stood := { row := fnViewRunUptoRow, standIns := [], harness := (true, "cfa7d737ade949a4791bf4e9597b30e6c6f1bae7b45633feb6924f20a283dbfb"), looks := true }, kinds := [], alts := [], goes := true, laidByText := true, laidKinds := [.handle], laidTests := true, laidLooks := .later }
def FnViewRunUptoCardSaid : Prop := Claim7.holds Tryz.pinned (.plain (OpenSpec.upto fnViewRunSpec)) fnViewRunUptoCard
end Rows
end Go.Proofs.YthhmolonhpaepaaGreatDoor
