/-
  DERIVED. GIVEN WITH THE SEED: THE CARDS: each row of YtkbflnbjmpcjlaaGreatDoorRows.lean that lists a variable, with what it lists TIED to the program's text (the seventh form; the later family's looks); each row that meets fmt, with fmt's text TOLD by the authors' own Lean function (tested against real Go, not proved from fmt's source: count such statements apart). THE CARD IS WHAT COUNTS. Prove the row's statement (the work); the ties are given (YtkbflnbjmpcjlaaGreatDoorTie.lean); close each card by the builder's one call (the guide's Derived/Test/ToyasCard.lean, 'card_holds'). Laid BY PROGRAM, IN A SANDBOX (cutbox-door.mjs). By AI agents, Wed Nov 11 2026. No macro, syntax, notation, axiom, sorry.
-/
import Derived.Test.YtkbflnbjmpcjlaaGreatDoorRows
import GoSem.ClaimSeven
namespace Go.Proofs.YtkbflnbjmpcjlaaGreatDoor
namespace Rows

/-- THE TIED CARD OF 'laws.FnReachOrder'. -/
def fnReachOrderCard : Claim7 := { stood := { row := fnReachOrderRow, standIns := [], harness := (true, "f95ba16f7e6b9972f34c41e94bb5d7318bcd0685daa3215151ea0647d2d73c87"), looks := true }, kinds := [], alts := [], laidByText := true, laidKinds := [.handle], laidTests := true, laidLooks := .later }
def FnReachOrderCardSaid : Prop := Claim7.holds Tryz.pinned (.plain (OpenSpec.ofChange fnReachOrderSpec)) fnReachOrderCard

/-- THE TIED CARD OF 'laws.FnReachLess'. -/
def fnReachLessCard : Claim7 := { stood := { row := fnReachLessRow, standIns := [], harness := (true, "f95ba16f7e6b9972f34c41e94bb5d7318bcd0685daa3215151ea0647d2d73c87"), looks := true }, kinds := [], alts := [], laidByText := true, laidKinds := [.handle], laidTests := true, laidLooks := .later }
def FnReachLessCardSaid : Prop := Claim7.holds Tryz.pinned (.plain (OpenSpec.ofChange fnReachLessSpec)) fnReachLessCard

/-- THE TIED CARD OF 'laws.FnReachRun'. -/
def fnReachRunCard : Claim7 := { stood := { row := fnReachRunRow, standIns := [], harness := (true, "f95ba16f7e6b9972f34c41e94bb5d7318bcd0685daa3215151ea0647d2d73c87"), looks := true }, kinds := [], alts := [], laidByText := true, laidKinds := [.handle], laidTests := true, laidLooks := .later }
def FnReachRunCardSaid : Prop := Claim7.holds Tryz.pinned (.plain (OpenSpec.ofChange fnReachRunSpec)) fnReachRunCard

/-- THE TIED CARD OF 'laws.FnReachNow'. -/
def fnReachNowCard : Claim7 := { stood := { row := fnReachNowRow, standIns := [], harness := (true, "f95ba16f7e6b9972f34c41e94bb5d7318bcd0685daa3215151ea0647d2d73c87"), looks := true }, kinds := [], alts := [], laidByText := true, laidKinds := [.handle], laidTests := true, laidLooks := .later }
def FnReachNowCardSaid : Prop := Claim7.holds Tryz.pinned (.plain (OpenSpec.ofChange fnReachNowSpec)) fnReachNowCard

/-- THE SECOND FORM's CARD OF 'laws.FnReachOrder'. -/
def fnReachOrderUptoCard : Claim7 := { stood := { row := fnReachOrderUptoRow, standIns := [], harness := (true, "f95ba16f7e6b9972f34c41e94bb5d7318bcd0685daa3215151ea0647d2d73c87"), looks := true }, kinds := [], alts := [], laidByText := true, laidKinds := [.handle], laidTests := true, laidLooks := .later }
def FnReachOrderUptoCardSaid : Prop := Claim7.holds Tryz.pinned (.plain (OpenSpec.upto fnReachOrderSpec)) fnReachOrderUptoCard

/-- THE SECOND FORM's CARD OF 'laws.FnReachLess'. -/
def fnReachLessUptoCard : Claim7 := { stood := { row := fnReachLessUptoRow, standIns := [], harness := (true, "f95ba16f7e6b9972f34c41e94bb5d7318bcd0685daa3215151ea0647d2d73c87"), looks := true }, kinds := [], alts := [], laidByText := true, laidKinds := [.handle], laidTests := true, laidLooks := .later }
def FnReachLessUptoCardSaid : Prop := Claim7.holds Tryz.pinned (.plain (OpenSpec.upto fnReachLessSpec)) fnReachLessUptoCard

/-- THE SECOND FORM's CARD OF 'laws.FnReachRun'. -/
def fnReachRunUptoCard : Claim7 := { stood := { row := fnReachRunUptoRow, standIns := [], harness := (true, "f95ba16f7e6b9972f34c41e94bb5d7318bcd0685daa3215151ea0647d2d73c87"), looks := true }, kinds := [], alts := [], laidByText := true, laidKinds := [.handle], laidTests := true, laidLooks := .later }
def FnReachRunUptoCardSaid : Prop := Claim7.holds Tryz.pinned (.plain (OpenSpec.upto fnReachRunSpec)) fnReachRunUptoCard

/-- THE SECOND FORM's CARD OF 'laws.FnReachNow'. -/
def fnReachNowUptoCard : Claim7 := { stood := { row := fnReachNowUptoRow, standIns := [], harness := (true, "f95ba16f7e6b9972f34c41e94bb5d7318bcd0685daa3215151ea0647d2d73c87"), looks := true }, kinds := [], alts := [], laidByText := true, laidKinds := [.handle], laidTests := true, laidLooks := .later }
def FnReachNowUptoCardSaid : Prop := Claim7.holds Tryz.pinned (.plain (OpenSpec.upto fnReachNowSpec)) fnReachNowUptoCard
end Rows
end Go.Proofs.YtkbflnbjmpcjlaaGreatDoor
