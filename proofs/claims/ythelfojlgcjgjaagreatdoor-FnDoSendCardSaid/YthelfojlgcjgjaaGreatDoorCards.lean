/-
  DERIVED. GIVEN WITH THE SEED: THE CARDS: each row of YthelfojlgcjgjaaGreatDoorRows.lean that lists a variable, with what it lists TIED to the program's text (the seventh form; the later family's looks); each row that meets fmt, with fmt's text TOLD by the authors' own Lean function (tested against real Go, not proved from fmt's source: count such statements apart). THE CARD IS WHAT COUNTS. Prove the row's statement (the work); the ties are given (YthelfojlgcjgjaaGreatDoorTie.lean); close each card by the builder's one call (the guide's Derived/Test/ToyasCard.lean, 'card_holds'). Laid BY PROGRAM, IN A SANDBOX (cutbox-door.mjs). By AI agents, Wed Nov 11 2026. No macro, syntax, notation, axiom, sorry.
-/
import Derived.Test.YthelfojlgcjgjaaGreatDoorRows
import GoSem.ClaimSeven
namespace Go.Proofs.YthelfojlgcjgjaaGreatDoor
namespace Rows

/-- THE TIED CARD OF 'laws.FnWriteRead'. -/
def fnWriteReadCard : Claim7 := { stood := { row := fnWriteReadRow, standIns := [], harness := (true, "c4e6c83ce2c16ae0a7be34f715a7ea2cb43642d222c8dd38ce29f5011554c5a1"), looks := true }, kinds := [], alts := [], laidByText := true, laidKinds := [.handle], laidTests := true, laidLooks := .later }
def FnWriteReadCardSaid : Prop := Claim7.holds Tryz.pinned (.plain (OpenSpec.ofChange fnWriteReadSpec)) fnWriteReadCard

/-- THE TIED CARD OF 'laws.FnDoSend'. -/
def fnDoSendCard : Claim7 := { stood := { row := fnDoSendRow, standIns := [], harness := (true, "c4e6c83ce2c16ae0a7be34f715a7ea2cb43642d222c8dd38ce29f5011554c5a1"), looks := true }, kinds := [], alts := [], laidByText := true, laidKinds := [.handle], laidTests := true, laidLooks := .later }
def FnDoSendCardSaid : Prop := Claim7.holds Tryz.pinned (.plain (OpenSpec.ofChange fnDoSendSpec)) fnDoSendCard

/-- THE TIED CARD OF 'laws.FnDoTouch'. -/
def fnDoTouchCard : Claim7 := { stood := { row := fnDoTouchRow, standIns := [], harness := (true, "c4e6c83ce2c16ae0a7be34f715a7ea2cb43642d222c8dd38ce29f5011554c5a1"), looks := true }, kinds := [], alts := [], laidByText := true, laidKinds := [.handle], laidTests := true, laidLooks := .later }
def FnDoTouchCardSaid : Prop := Claim7.holds Tryz.pinned (.plain (OpenSpec.ofChange fnDoTouchSpec)) fnDoTouchCard

/-- THE TIED CARD OF 'laws.FnDoCopy'. -/
def fnDoCopyCard : Claim7 := { stood := { row := fnDoCopyRow, standIns := [], harness := (true, "c4e6c83ce2c16ae0a7be34f715a7ea2cb43642d222c8dd38ce29f5011554c5a1"), looks := true }, kinds := [], alts := [], laidByText := true, laidKinds := [.handle], laidTests := true, laidLooks := .later }
def FnDoCopyCardSaid : Prop := Claim7.holds Tryz.pinned (.plain (OpenSpec.ofChange fnDoCopySpec)) fnDoCopyCard

/-- THE TIED CARD OF 'laws.FnDoRights'. -/
def fnDoRightsCard : Claim7 := { stood := { row := fnDoRightsRow, standIns := [], harness := (true, "c4e6c83ce2c16ae0a7be34f715a7ea2cb43642d222c8dd38ce29f5011554c5a1"), looks := true }, kinds := [], alts := [], laidByText := true, laidKinds := [.handle], laidTests := true, laidLooks := .later }
def FnDoRightsCardSaid : Prop := Claim7.holds Tryz.pinned (.plain (OpenSpec.ofChange fnDoRightsSpec)) fnDoRightsCard

/-- THE SECOND FORM's CARD OF 'laws.FnWriteRead'. -/
def fnWriteReadUptoCard : Claim7 := { stood := { row := fnWriteReadUptoRow, standIns := [], harness := (true, "c4e6c83ce2c16ae0a7be34f715a7ea2cb43642d222c8dd38ce29f5011554c5a1"), looks := true }, kinds := [], alts := [], laidByText := true, laidKinds := [.handle], laidTests := true, laidLooks := .later }
def FnWriteReadUptoCardSaid : Prop := Claim7.holds Tryz.pinned (.plain (OpenSpec.upto fnWriteReadSpec)) fnWriteReadUptoCard

/-- THE SECOND FORM's CARD OF 'laws.FnDoSend'. -/
def fnDoSendUptoCard : Claim7 := { stood := { row := fnDoSendUptoRow, standIns := [], harness := (true, "c4e6c83ce2c16ae0a7be34f715a7ea2cb43642d222c8dd38ce29f5011554c5a1"), looks := true }, kinds := [], alts := [], laidByText := true, laidKinds := [.handle], laidTests := true, laidLooks := .later }
def FnDoSendUptoCardSaid : Prop := Claim7.holds Tryz.pinned (.plain (OpenSpec.upto fnDoSendSpec)) fnDoSendUptoCard

/-- THE SECOND FORM's CARD OF 'laws.FnDoTouch'. -/
def fnDoTouchUptoCard : Claim7 := { stood := { row := fnDoTouchUptoRow, standIns := [], harness := (true, "c4e6c83ce2c16ae0a7be34f715a7ea2cb43642d222c8dd38ce29f5011554c5a1"), looks := true }, kinds := [], alts := [], laidByText := true, laidKinds := [.handle], laidTests := true, laidLooks := .later }
def FnDoTouchUptoCardSaid : Prop := Claim7.holds Tryz.pinned (.plain (OpenSpec.upto fnDoTouchSpec)) fnDoTouchUptoCard

/-- THE SECOND FORM's CARD OF 'laws.FnDoCopy'. -/
def fnDoCopyUptoCard : Claim7 := { stood := { row := fnDoCopyUptoRow, standIns := [], harness := (true, "c4e6c83ce2c16ae0a7be34f715a7ea2cb43642d222c8dd38ce29f5011554c5a1"), looks := true }, kinds := [], alts := [], laidByText := true, laidKinds := [.handle], laidTests := true, laidLooks := .later }
def FnDoCopyUptoCardSaid : Prop := Claim7.holds Tryz.pinned (.plain (OpenSpec.upto fnDoCopySpec)) fnDoCopyUptoCard

/-- THE SECOND FORM's CARD OF 'laws.FnDoRights'. -/
def fnDoRightsUptoCard : Claim7 := { stood := { row := fnDoRightsUptoRow, standIns := [], harness := (true, "c4e6c83ce2c16ae0a7be34f715a7ea2cb43642d222c8dd38ce29f5011554c5a1"), looks := true }, kinds := [], alts := [], laidByText := true, laidKinds := [.handle], laidTests := true, laidLooks := .later }
def FnDoRightsUptoCardSaid : Prop := Claim7.holds Tryz.pinned (.plain (OpenSpec.upto fnDoRightsSpec)) fnDoRightsUptoCard
end Rows
end Go.Proofs.YthelfojlgcjgjaaGreatDoor
