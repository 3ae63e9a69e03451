/-
  NARROWER THAN 'FOR EVERY INPUT', by the rows' own cells (each row's printed sentence says how): FnLowSlots: laid · FnLowStep: laid · FnViewThree: laid · FnRunSame: laid · FnHighMany: laid · FnHighStep: laid · FnRunNoise: laid · FnRunPurgeOne: laid · FnRunPurge: laid · FnViewRun: laid.
  DERIVED. THE GIVEN ROWS OF THIS SEAT. 10 by the template 'for every input the law returns true; each argument reads behind the call as it read before'; 0 by the template 'total and deterministic' (their statements: YthhmolonhpaepaaGreatDoorTotals.lean).
  GIVEN WITH THE SEED: the statements are not yours to turn. If you find one false, say at which input.
  Laid BY PROGRAM, IN A SANDBOX (cutbox-rows.mjs): the forced cells as the released guide's own fill.sh prints them over the translation ae2e3e51a0f3633f… (all of the seat's roots in one cut). By AI agents, Wed Nov 11 2026. No macro, syntax, notation, axiom, sorry.
-/
import Derived.Test.YthhmolonhpaepaaGreatDoorChecked
import GoSem.Claim
import GoSem.ClaimJoined
import GoSem.ClaimMapViews
import Derived.JoinedTies
import Derived.KernelRfl
namespace Go.Proofs.YthhmolonhpaepaaGreatDoor
/- THE CELL 'sum', in the pinned program and in every row, IS THE sha256 OF THE DUMP (.gsa) THAT YthhmolonhpaepaaGreatDoorProg.lean LOADS. Nothing in Lean hashes anything: it is a label: what it is worth is what the hold of that sum in a sandbox is worth. -/
noncomputable def Tryz.pinned : Pinned := { name := "ythhmolonhpaepaagreatdoor", sum := "ae2e3e51a0f3633f841062f63f25b2a64e364d796bae26a6667b29ab09d293d3", checked := Tryz.checked }
namespace Rows
def none {H : Type} : Left H := { results := [], args := [] }

/- WHAT THE LISTED PACKAGE-LEVEL VARIABLES READ AS WHEN THE CALL BEGINS. Each datum BY PROGRAM (the guide's laid-datum.mjs) off the statement by which the dump's own 'gosem.cut.vars' lays the variable. In a bare row this is a premise. The card (YthhmolonhpaepaaGreatDoorCards.lean) ties it to the program's text. -/
def laid_errors_errorType {H : Type} : DataW H := .iface "internal/reflectlite.rtype" (.agg [.ptr (.lit (.string [101, 114, 114, 111, 114]))])

/-- 'laws.FnLowSlots': WHATEVER THE INPUT: true; the input reads as it did. -/
def fnLowSlotsSpec : ChangeSpec := { name := "fnLowSlots", fn := fun _ => fun
  | [d] => { results := [.lit (.bool true)], args := [d] }
  | _ => none }
def fnLowSlotsRow : OpenClaim := { program := "ythhmolonhpaepaagreatdoor", sum := "ae2e3e51a0f3633f841062f63f25b2a64e364d796bae26a6667b29ab09d293d3", func := "loop.example/drawbar/laws.FnLowSlots", spec := "fnLowSlots", inPlace := ["(*sync.WaitGroup).Add", "internal/race.ReleaseMerge", "internal/race.Disable", "internal/race.Enable", "internal/synctest.IsInBubble", "internal/synctest.Associate[sync.WaitGroup]", "sync.fatal", "sync/atomic.OrUint64", "sync/atomic.AddUint64", "internal/race.Read", "sync/atomic.LoadUint64", "sync/atomic.StoreUint64", "internal/synctest.Disassociate[sync.WaitGroup]", "sync.runtime_Semrelease", "(*sync.WaitGroup).Done", "(*sync.WaitGroup).Wait", "internal/race.Acquire", "internal/synctest.IsAssociated[sync.WaitGroup]", "sync/atomic.CompareAndSwapUint64", "internal/race.Write", "sync.runtime_SemacquireWaitGroup", "internal/reflectlite.ValueOf", "(internal/reflectlite.Value).Type", "(internal/reflectlite.Value).IsNil", "internal/reflectlite.TypeOf", "(internal/reflectlite.Value).Elem", "(internal/reflectlite.Value).Set"], unfollowed := true, recurses := true, named := ["errors.errorType"], leaving := true, apart := false, laid := [("errors.errorType", laid_errors_errorType)] }
def FnLowSlotsSaid : Prop := fnLowSlotsRow.holds Tryz.pinned (OpenSpec.ofChange fnLowSlotsSpec)

/-- ITS FALSE NEIGHBOUR: 'it returns false'. Refute it at one input. -/
def fnLowSlotsWrong : ChangeSpec := { name := "fnLowSlots", fn := fun _ => fun
  | [d] => { results := [.lit (.bool false)], args := [d] }
  | _ => none }
def FnLowSlotsWrongFalsely : Prop := fnLowSlotsRow.holds Tryz.pinned (OpenSpec.ofChange fnLowSlotsWrong)

/-- 'laws.FnLowStep': WHATEVER THE INPUT: true; the input reads as it did. -/
def fnLowStepSpec : ChangeSpec := { name := "fnLowStep", fn := fun _ => fun
  | [d1, d2] => { results := [.lit (.bool true)], args := [d1, d2] }
  | _ => none }
def fnLowStepRow : OpenClaim := { program := "ythhmolonhpaepaagreatdoor", sum := "ae2e3e51a0f3633f841062f63f25b2a64e364d796bae26a6667b29ab09d293d3", func := "loop.example/drawbar/laws.FnLowStep", spec := "fnLowStep", inPlace := ["(*sync.WaitGroup).Add", "internal/race.ReleaseMerge", "internal/race.Disable", "internal/race.Enable", "internal/synctest.IsInBubble", "internal/synctest.Associate[sync.WaitGroup]", "sync.fatal", "sync/atomic.OrUint64", "sync/atomic.AddUint64", "internal/race.Read", "sync/atomic.LoadUint64", "sync/atomic.StoreUint64", "internal/synctest.Disassociate[sync.WaitGroup]", "sync.runtime_Semrelease", "(*sync.WaitGroup).Done", "(*sync.WaitGroup).Wait", "internal/race.Acquire", "internal/synctest.IsAssociated[sync.WaitGroup]", "sync/atomic.CompareAndSwapUint64", "internal/race.Write", "sync.runtime_SemacquireWaitGroup", "internal/reflectlite.ValueOf", "(internal/reflectlite.Value).Type", "(internal/reflectlite.Value).IsNil", "internal/reflectlite.TypeOf", "(internal/reflectlite.Value).Elem", "(internal/reflectlite.Value).Set"], unfollowed := true, recurses := true, named := ["errors.errorType"], leaving := true, apart := false, laid := [("errors.errorType", laid_errors_errorType)] }
def FnLowStepSaid : Prop := fnLowStepRow.holds Tryz.pinned (OpenSpec.ofChange fnLowStepSpec)

/-- ITS FALSE NEIGHBOUR: 'it returns false'. Refute it at one input. -/
def fnLowStepWrong : ChangeSpec := { name := "fnLowStep", fn := fun _ => fun
  | [d1, d2] => { results := [.lit (.bool false)], args := [d1, d2] }
  | _ => none }
def FnLowStepWrongFalsely : Prop := fnLowStepRow.holds Tryz.pinned (OpenSpec.ofChange fnLowStepWrong)

/-- 'laws.FnViewThree': WHATEVER THE INPUT: true; the input reads as it did. -/
def fnViewThreeSpec : ChangeSpec := { name := "fnViewThree", fn := fun _ => fun
  | [d1, d2] => { results := [.lit (.bool true)], args := [d1, d2] }
  | _ => none }
def fnViewThreeRow : OpenClaim := { program := "ythhmolonhpaepaagreatdoor", sum := "ae2e3e51a0f3633f841062f63f25b2a64e364d796bae26a6667b29ab09d293d3", func := "loop.example/drawbar/laws.FnViewThree", spec := "fnViewThree", inPlace := ["(*sync.WaitGroup).Add", "internal/race.ReleaseMerge", "internal/race.Disable", "internal/race.Enable", "internal/synctest.IsInBubble", "internal/synctest.Associate[sync.WaitGroup]", "sync.fatal", "sync/atomic.OrUint64", "sync/atomic.AddUint64", "internal/race.Read", "sync/atomic.LoadUint64", "sync/atomic.StoreUint64", "internal/synctest.Disassociate[sync.WaitGroup]", "sync.runtime_Semrelease", "(*sync.WaitGroup).Done", "(*sync.WaitGroup).Wait", "internal/race.Acquire", "internal/synctest.IsAssociated[sync.WaitGroup]", "sync/atomic.CompareAndSwapUint64", "internal/race.Write", "sync.runtime_SemacquireWaitGroup", "internal/reflectlite.ValueOf", "(internal/reflectlite.Value).Type", "(internal/reflectlite.Value).IsNil", "internal/reflectlite.TypeOf", "(internal/reflectlite.Value).Elem", "(internal/reflectlite.Value).Set"], unfollowed := true, recurses := true, named := ["errors.errorType"], leaving := true, apart := false, laid := [("errors.errorType", laid_errors_errorType)] }
def FnViewThreeSaid : Prop := fnViewThreeRow.holds Tryz.pinned (OpenSpec.ofChange fnViewThreeSpec)

/-- ITS FALSE NEIGHBOUR: 'it returns false'. Refute it at one input. -/
def fnViewThreeWrong : ChangeSpec := { name := "fnViewThree", fn := fun _ => fun
  | [d1, d2] => { results := [.lit (.bool false)], args := [d1, d2] }
  | _ => none }
def FnViewThreeWrongFalsely : Prop := fnViewThreeRow.holds Tryz.pinned (OpenSpec.ofChange fnViewThreeWrong)

/-- 'laws.FnRunSame': WHATEVER THE INPUT: true; the input reads as it did. -/
def fnRunSameSpec : ChangeSpec := { name := "fnRunSame", fn := fun _ => fun
  | [d1, d2] => { results := [.lit (.bool true)], args := [d1, d2] }
  | _ => none }
def fnRunSameRow : OpenClaim := { program := "ythhmolonhpaepaagreatdoor", sum := "ae2e3e51a0f3633f841062f63f25b2a64e364d796bae26a6667b29ab09d293d3", func := "loop.example/drawbar/laws.FnRunSame", spec := "fnRunSame", inPlace := ["(*sync.WaitGroup).Add", "internal/race.ReleaseMerge", "internal/race.Disable", "internal/race.Enable", "internal/synctest.IsInBubble", "internal/synctest.Associate[sync.WaitGroup]", "sync.fatal", "sync/atomic.OrUint64", "sync/atomic.AddUint64", "internal/race.Read", "sync/atomic.LoadUint64", "sync/atomic.StoreUint64", "internal/synctest.Disassociate[sync.WaitGroup]", "sync.runtime_Semrelease", "(*sync.WaitGroup).Done", "(*sync.WaitGroup).Wait", "internal/race.Acquire", "internal/synctest.IsAssociated[sync.WaitGroup]", "sync/atomic.CompareAndSwapUint64", "internal/race.Write", "sync.runtime_SemacquireWaitGroup", "internal/reflectlite.ValueOf", "(internal/reflectlite.Value).Type", "(internal/reflectlite.Value).IsNil", "internal/reflectlite.TypeOf", "(internal/reflectlite.Value).Elem", "(internal/reflectlite.Value).Set"], unfollowed := true, recurses := true, named := ["errors.errorType"], leaving := true, apart := false, laid := [("errors.errorType", laid_errors_errorType)] }
def FnRunSameSaid : Prop := fnRunSameRow.holds Tryz.pinned (OpenSpec.ofChange fnRunSameSpec)

/-- ITS FALSE NEIGHBOUR: 'it returns false'. Refute it at one input. -/
def fnRunSameWrong : ChangeSpec := { name := "fnRunSame", fn := fun _ => fun
  | [d1, d2] => { results := [.lit (.bool false)], args := [d1, d2] }
  | _ => none }
def FnRunSameWrongFalsely : Prop := fnRunSameRow.holds Tryz.pinned (OpenSpec.ofChange fnRunSameWrong)

/-- 'laws.FnHighMany': WHATEVER THE INPUT: true; the input reads as it did. -/
def fnHighManySpec : ChangeSpec := { name := "fnHighMany", fn := fun _ => fun
  | [d1, d2] => { results := [.lit (.bool true)], args := [d1, d2] }
  | _ => none }
def fnHighManyRow : OpenClaim := { program := "ythhmolonhpaepaagreatdoor", sum := "ae2e3e51a0f3633f841062f63f25b2a64e364d796bae26a6667b29ab09d293d3", func := "loop.example/drawbar/laws.FnHighMany", spec := "fnHighMany", inPlace := ["internal/reflectlite.ValueOf", "(internal/reflectlite.Value).Type", "(internal/reflectlite.Value).IsNil", "internal/reflectlite.TypeOf", "(internal/reflectlite.Value).Elem", "(internal/reflectlite.Value).Set", "(*sync.WaitGroup).Add", "internal/race.ReleaseMerge", "internal/race.Disable", "internal/race.Enable", "internal/synctest.IsInBubble", "internal/synctest.Associate[sync.WaitGroup]", "sync.fatal", "sync/atomic.OrUint64", "sync/atomic.AddUint64", "internal/race.Read", "sync/atomic.LoadUint64", "sync/atomic.StoreUint64", "internal/synctest.Disassociate[sync.WaitGroup]", "sync.runtime_Semrelease", "(*sync.WaitGroup).Done", "(*sync.WaitGroup).Wait", "internal/race.Acquire", "internal/synctest.IsAssociated[sync.WaitGroup]", "sync/atomic.CompareAndSwapUint64", "internal/race.Write", "sync.runtime_SemacquireWaitGroup"], unfollowed := true, recurses := true, named := ["errors.errorType"], leaving := true, apart := false, laid := [("errors.errorType", laid_errors_errorType)] }
def FnHighManySaid : Prop := fnHighManyRow.holds Tryz.pinned (OpenSpec.ofChange fnHighManySpec)

/-- ITS FALSE NEIGHBOUR: 'it returns false'. Refute it at one input. -/
def fnHighManyWrong : ChangeSpec := { name := "fnHighMany", fn := fun _ => fun
  | [d1, d2] => { results := [.lit (.bool false)], args := [d1, d2] }
  | _ => none }
def FnHighManyWrongFalsely : Prop := fnHighManyRow.holds Tryz.pinned (OpenSpec.ofChange fnHighManyWrong)

/-- 'laws.FnHighStep': WHATEVER THE INPUT: true; the input reads as it did. -/
def fnHighStepSpec : ChangeSpec := { name := "fnHighStep", fn := fun _ => fun
  | [d1, d2] => { results := [.lit (.bool true)], args := [d1, d2] }
  | _ => none }
def fnHighStepRow : OpenClaim := { program := "ythhmolonhpaepaagreatdoor", sum := "ae2e3e51a0f3633f841062f63f25b2a64e364d796bae26a6667b29ab09d293d3", func := "loop.example/drawbar/laws.FnHighStep", spec := "fnHighStep", inPlace := ["internal/reflectlite.ValueOf", "(internal/reflectlite.Value).Type", "(internal/reflectlite.Value).IsNil", "internal/reflectlite.TypeOf", "(internal/reflectlite.Value).Elem", "(internal/reflectlite.Value).Set", "(*sync.WaitGroup).Add", "internal/race.ReleaseMerge", "internal/race.Disable", "internal/race.Enable", "internal/synctest.IsInBubble", "internal/synctest.Associate[sync.WaitGroup]", "sync.fatal", "sync/atomic.OrUint64", "sync/atomic.AddUint64", "internal/race.Read", "sync/atomic.LoadUint64", "sync/atomic.StoreUint64", "internal/synctest.Disassociate[sync.WaitGroup]", "sync.runtime_Semrelease", "(*sync.WaitGroup).Done", "(*sync.WaitGroup).Wait", "internal/race.Acquire", "internal/synctest.IsAssociated[sync.WaitGroup]", "sync/atomic.CompareAndSwapUint64", "internal/race.Write", "sync.runtime_SemacquireWaitGroup"], unfollowed := true, recurses := true, named := ["errors.errorType"], leaving := true, apart := false, laid := [("errors.errorType", laid_errors_errorType)] }
def FnHighStepSaid : Prop := fnHighStepRow.holds Tryz.pinned (OpenSpec.ofChange fnHighStepSpec)

/-- ITS FALSE NEIGHBOUR: 'it returns false'. Refute it at one input. -/
def fnHighStepWrong : ChangeSpec := { name := "fnHighStep", fn := fun _ => fun
  | [d1, d2] => { results := [.lit (.bool false)], args := [d1, d2] }
  | _ => none }
def FnHighStepWrongFalsely : Prop := fnHighStepRow.holds Tryz.pinned (OpenSpec.ofChange fnHighStepWrong)

/-- 'laws.FnRunNoise': WHATEVER THE INPUT: true; the input reads as it did. -/
def fnRunNoiseSpec : ChangeSpec := { name := "fnRunNoise", fn := fun _ => fun
  | [d1, d2] => { results := [.lit (.bool true)], args := [d1, d2] }
  | _ => none }
def fnRunNoiseRow : OpenClaim := { program := "ythhmolonhpaepaagreatdoor", sum := "ae2e3e51a0f3633f841062f63f25b2a64e364d796bae26a6667b29ab09d293d3", func := "loop.example/drawbar/laws.FnRunNoise", spec := "fnRunNoise", inPlace := ["internal/reflectlite.ValueOf", "(internal/reflectlite.Value).Type", "(internal/reflectlite.Value).IsNil", "internal/reflectlite.TypeOf", "(internal/reflectlite.Value).Elem", "(internal/reflectlite.Value).Set", "(*sync.WaitGroup).Add", "internal/race.ReleaseMerge", "internal/race.Disable", "internal/race.Enable", "internal/synctest.IsInBubble", "internal/synctest.Associate[sync.WaitGroup]", "sync.fatal", "sync/atomic.OrUint64", "sync/atomic.AddUint64", "internal/race.Read", "sync/atomic.LoadUint64", "sync/atomic.StoreUint64", "internal/synctest.Disassociate[sync.WaitGroup]", "sync.runtime_Semrelease", "(*sync.WaitGroup).Done", "(*sync.WaitGroup).Wait", "internal/race.Acquire", "internal/synctest.IsAssociated[sync.WaitGroup]", "sync/atomic.CompareAndSwapUint64", "internal/race.Write", "sync.runtime_SemacquireWaitGroup"], unfollowed := true, recurses := true, named := ["errors.errorType"], leaving := true, apart := false, laid := [("errors.errorType", laid_errors_errorType)] }
def FnRunNoiseSaid : Prop := fnRunNoiseRow.holds Tryz.pinned (OpenSpec.ofChange fnRunNoiseSpec)

/-- ITS FALSE NEIGHBOUR: 'it returns false'. Refute it at one input. -/
def fnRunNoiseWrong : ChangeSpec := { name := "fnRunNoise", fn := fun _ => fun
  | [d1, d2] => { results := [.lit (.bool false)], args := [d1, d2] }
  | _ => none }
def FnRunNoiseWrongFalsely : Prop := fnRunNoiseRow.holds Tryz.pinned (OpenSpec.ofChange fnRunNoiseWrong)

/-- 'laws.FnRunPurgeOne': WHATEVER THE INPUT: true; the input reads as it did. -/
def fnRunPurgeOneSpec : ChangeSpec := { name := "fnRunPurgeOne", fn := fun _ => fun
  | [d1, d2] => { results := [.lit (.bool true)], args := [d1, d2] }
  | _ => none }
def fnRunPurgeOneRow : OpenClaim := { program := "ythhmolonhpaepaagreatdoor", sum := "ae2e3e51a0f3633f841062f63f25b2a64e364d796bae26a6667b29ab09d293d3", func := "loop.example/drawbar/laws.FnRunPurgeOne", spec := "fnRunPurgeOne", inPlace := ["internal/reflectlite.ValueOf", "(internal/reflectlite.Value).Type", "(internal/reflectlite.Value).IsNil", "internal/reflectlite.TypeOf", "(internal/reflectlite.Value).Elem", "(internal/reflectlite.Value).Set", "(*sync.WaitGroup).Add", "internal/race.ReleaseMerge", "internal/race.Disable", "internal/race.Enable", "internal/synctest.IsInBubble", "internal/synctest.Associate[sync.WaitGroup]", "sync.fatal", "sync/atomic.OrUint64", "sync/atomic.AddUint64", "internal/race.Read", "sync/atomic.LoadUint64", "sync/atomic.StoreUint64", "internal/synctest.Disassociate[sync.WaitGroup]", "sync.runtime_Semrelease", "(*sync.WaitGroup).Done", "(*sync.WaitGroup).Wait", "internal/race.Acquire", "internal/synctest.IsAssociated[sync.WaitGroup]", "sync/atomic.CompareAndSwapUint64", "internal/race.Write", "sync.runtime_SemacquireWaitGroup"], unfollowed := true, recurses := true, named := ["errors.errorType"], leaving := true, apart := false, laid := [("errors.errorType", laid_errors_errorType)] }
def FnRunPurgeOneSaid : Prop := fnRunPurgeOneRow.holds Tryz.pinned (OpenSpec.ofChange fnRunPurgeOneSpec)

/-- ITS FALSE NEIGHBOUR: 'it returns false'. Refute it at one input. -/
def fnRunPurgeOneWrong : ChangeSpec := { name := "fnRunPurgeOne", fn := fun _ => fun
  | [d1, d2] => { results := [.lit (.bool false)], args := [d1, d2] }
  | _ => none }
def FnRunPurgeOneWrongFalsely : Prop := fnRunPurgeOneRow.holds Tryz.pinned (OpenSpec.ofChange fnRunPurgeOneWrong)

/-- 'laws.FnRunPurge': WHATEVER THE INPUT: true; the input reads as it did. -/
def fnRunPurgeSpec : ChangeSpec := { name := "fnRunPurge", fn := fun _ => fun
  | [d] => { results := [.lit (.bool true)], args := [d] }
  | _ => none }
def fnRunPurgeRow : OpenClaim := { program := "ythhmolonhpaepaagreatdoor", sum := "ae2e3e51a0f3633f841062f63f25b2a64e364d796bae26a6667b29ab09d293d3", func := "loop.example/drawbar/laws.FnRunPurge", spec := "fnRunPurge", inPlace := ["internal/reflectlite.ValueOf", "(internal/reflectlite.Value).Type", "(internal/reflectlite.Value).IsNil", "internal/reflectlite.TypeOf", "(internal/reflectlite.Value).Elem", "(internal/reflectlite.Value).Set", "(*sync.WaitGroup).Add", "internal/race.ReleaseMerge", "internal/race.Disable", "internal/race.Enable", "internal/synctest.IsInBubble", "internal/synctest.Associate[sync.WaitGroup]", "sync.fatal", "sync/atomic.OrUint64", "sync/atomic.AddUint64", "internal/race.Read", "sync/atomic.LoadUint64", "sync/atomic.StoreUint64", "internal/synctest.Disassociate[sync.WaitGroup]", "sync.runtime_Semrelease", "(*sync.WaitGroup).Done", "(*sync.WaitGroup).Wait", "internal/race.Acquire", "internal/synctest.IsAssociated[sync.WaitGroup]", "sync/atomic.CompareAndSwapUint64", "internal/race.Write", "sync.runtime_SemacquireWaitGroup"], unfollowed := true, recurses := true, named := ["errors.errorType"], leaving := true, apart := false, laid := [("errors.errorType", laid_errors_errorType)] }
def FnRunPurgeSaid : Prop := fnRunPurgeRow.holds Tryz.pinned (OpenSpec.ofChange fnRunPurgeSpec)

/-- ITS FALSE NEIGHBOUR: 'it returns false'. Refute it at one input. -/
def fnRunPurgeWrong : ChangeSpec := { name := "fnRunPurge", fn := fun _ => fun
  | [d] => { results := [.lit (.bool false)], args := [d] }
  | _ => none }
def FnRunPurgeWrongFalsely : Prop := fnRunPurgeRow.holds Tryz.pinned (OpenSpec.ofChange fnRunPurgeWrong)

/-- 'laws.FnViewRun': WHATEVER THE INPUT: true; the input reads as it did. -/
def fnViewRunSpec : ChangeSpec := { name := "fnViewRun", fn := fun _ => fun
  | [d1, d2] => { results := [.lit (.bool true)], args := [d1, d2] }
  | _ => none }
def fnViewRunRow : OpenClaim := { program := "ythhmolonhpaepaagreatdoor", sum := "ae2e3e51a0f3633f841062f63f25b2a64e364d796bae26a6667b29ab09d293d3", func := "loop.example/drawbar/laws.FnViewRun", spec := "fnViewRun", inPlace := ["internal/reflectlite.ValueOf", "(internal/reflectlite.Value).Type", "(internal/reflectlite.Value).IsNil", "internal/reflectlite.TypeOf", "(internal/reflectlite.Value).Elem", "(internal/reflectlite.Value).Set", "(*sync.WaitGroup).Add", "internal/race.ReleaseMerge", "internal/race.Disable", "internal/race.Enable", "internal/synctest.IsInBubble", "internal/synctest.Associate[sync.WaitGroup]", "sync.fatal", "sync/atomic.OrUint64", "sync/atomic.AddUint64", "internal/race.Read", "sync/atomic.LoadUint64", "sync/atomic.StoreUint64", "internal/synctest.Disassociate[sync.WaitGroup]", "sync.runtime_Semrelease", "(*sync.WaitGroup).Done", "(*sync.WaitGroup).Wait", "internal/race.Acquire", "internal/synctest.IsAssociated[sync.WaitGroup]", "sync/atomic.CompareAndSwapUint64", "internal/race.Write", "sync.runtime_SemacquireWaitGroup"], unfollowed := true, recurses := true, named := ["errors.errorType"], leaving := true, apart := false, laid := [("errors.errorType", laid_errors_errorType)] }
def FnViewRunSaid : Prop := fnViewRunRow.holds Tryz.pinned (OpenSpec.ofChange fnViewRunSpec)

/-- ITS FALSE NEIGHBOUR: 'it returns false'. Refute it at one input. -/
def fnViewRunWrong : ChangeSpec := { name := "fnViewRun", fn := fun _ => fun
  | [d1, d2] => { results := [.lit (.bool false)], args := [d1, d2] }
  | _ => none }
def FnViewRunWrongFalsely : Prop := fnViewRunRow.holds Tryz.pinned (OpenSpec.ofChange fnViewRunWrong)

/- THE SECOND FORM. 'bulk': how many values and letters a reading holds, each counted each time it is reached (what is shared counts as often as it is met; a slice's spare places count too). A statement '..UptoSaid' is the law's where the arguments, and the package variables that the reading takes, are together of bulk at most 1048576: NARROWER than '..Said'. Prove '..Said' where nothing that the law and all that it calls make is longer than what came in: it says more and counts as full. Else prove '..UptoSaid'. A law counts once. -/
mutual
def uptoBulk {H : Type} : DataW H → Nat
  | .lit (.string bytes) => bytes.length + 1
  | .lit _ => 1
  | .nil => 1
  | .ptr d => uptoBulk d + 1
  | .slice elems spare => uptoBulkAll elems + uptoBulkAll spare + 1
  | .agg parts => uptoBulkAll parts + 1
  | .iface _ d => uptoBulk d + 1
  | .map entries => uptoBulkEntries entries + 1
  | .held _ => 1
def uptoBulkAll {H : Type} : List (DataW H) → Nat
  | [] => 0
  | d :: r => uptoBulk d + uptoBulkAll r
def uptoBulkEntries {H : Type} : List (Lit × DataW H) → Nat
  | [] => 0
  | x :: r => uptoBulkEntry x + uptoBulkEntries r
def uptoBulkEntry {H : Type} : Lit × DataW H → Nat
  | (.string bytes, d) => bytes.length + uptoBulk d + 1
  | (_, d) => uptoBulk d + 1
 end
def uptoSmall : (H : Type) → List (DataW H) → Bool := fun _ ds => decide (uptoBulkAll ds ≤ 1048576)
def OpenSpec.upto (s : _root_.Go.ChangeSpec) : _root_.Go.OpenSpec := { _root_.Go.OpenSpec.ofChange s with cond := some uptoSmall }

/-- 'laws.FnLowSlots', WHERE WHAT IT READS IS OF BULK AT MOST 1048576: true; the input reads as it did. -/
def fnLowSlotsUptoRow : OpenClaim := { program := "ythhmolonhpaepaagreatdoor", sum := "ae2e3e51a0f3633f841062f63f25b2a64e364d796bae26a6667b29ab09d293d3", func := "loop.example/drawbar/laws.FnLowSlots", spec := "fnLowSlots", inPlace := ["(*sync.WaitGroup).Add", "internal/race.ReleaseMerge", "internal/race.Disable", "internal/race.Enable", "internal/synctest.IsInBubble", "internal/synctest.Associate[sync.WaitGroup]", "sync.fatal", "sync/atomic.OrUint64", "sync/atomic.AddUint64", "internal/race.Read", "sync/atomic.LoadUint64", "sync/atomic.StoreUint64", "internal/synctest.Disassociate[sync.WaitGroup]", "sync.runtime_Semrelease", "(*sync.WaitGroup).Done", "(*sync.WaitGroup).Wait", "internal/race.Acquire", "internal/synctest.IsAssociated[sync.WaitGroup]", "sync/atomic.CompareAndSwapUint64", "internal/race.Write", "sync.runtime_SemacquireWaitGroup", "internal/reflectlite.ValueOf", "(internal/reflectlite.Value).Type", "(internal/reflectlite.Value).IsNil", "internal/reflectlite.TypeOf", "(internal/reflectlite.Value).Elem", "(internal/reflectlite.Value).Set"], unfollowed := true, recurses := true, named := ["errors.errorType"], leaving := true, apart := false, laid := [("errors.errorType", laid_errors_errorType)], narrowed := true }
def FnLowSlotsUptoSaid : Prop := fnLowSlotsUptoRow.holds Tryz.pinned (OpenSpec.upto fnLowSlotsSpec)

/-- 'laws.FnLowStep', WHERE WHAT IT READS IS OF BULK AT MOST 1048576: true; the input reads as it did. -/
def fnLowStepUptoRow : OpenClaim := { program := "ythhmolonhpaepaagreatdoor", sum := "ae2e3e51a0f3633f841062f63f25b2a64e364d796bae26a6667b29ab09d293d3", func := "loop.example/drawbar/laws.FnLowStep", spec := "fnLowStep", inPlace := ["(*sync.WaitGroup).Add", "internal/race.ReleaseMerge", "internal/race.Disable", "internal/race.Enable", "internal/synctest.IsInBubble", "internal/synctest.Associate[sync.WaitGroup]", "sync.fatal", "sync/atomic.OrUint64", "sync/atomic.AddUint64", "internal/race.Read", "sync/atomic.LoadUint64", "sync/atomic.StoreUint64", "internal/synctest.Disassociate[sync.WaitGroup]", "sync.runtime_Semrelease", "(*sync.WaitGroup).Done", "(*sync.WaitGroup).Wait", "internal/race.Acquire", "internal/synctest.IsAssociated[sync.WaitGroup]", "sync/atomic.CompareAndSwapUint64", "internal/race.Write", "sync.runtime_SemacquireWaitGroup", "internal/reflectlite.ValueOf", "(internal/reflectlite.Value).Type", "(internal/reflectlite.Value).IsNil", "internal/reflectlite.TypeOf", "(internal/reflectlite.Value).Elem", "(internal/reflectlite.Value).Set"], unfollowed := true, recurses := true, named := ["errors.errorType"], leaving := true, apart := false, laid := [("errors.errorType", laid_errors_errorType)], narrowed := true }
def FnLowStepUptoSaid : Prop := fnLowStepUptoRow.holds Tryz.pinned (OpenSpec.upto fnLowStepSpec)

/-- 'laws.FnViewThree', WHERE WHAT IT READS IS OF BULK AT MOST 1048576: true; the input reads as it did. -/
def fnViewThreeUptoRow : OpenClaim := { program := "ythhmolonhpaepaagreatdoor", sum := "ae2e3e51a0f3633f841062f63f25b2a64e364d796bae26a6667b29ab09d293d3", func := "loop.example/drawbar/laws.FnViewThree", spec := "fnViewThree", inPlace := ["(*sync.WaitGroup).Add", "internal/race.ReleaseMerge", "internal/race.Disable", "internal/race.Enable", "internal/synctest.IsInBubble", "internal/synctest.Associate[sync.WaitGroup]", "sync.fatal", "sync/atomic.OrUint64", "sync/atomic.AddUint64", "internal/race.Read", "sync/atomic.LoadUint64", "sync/atomic.StoreUint64", "internal/synctest.Disassociate[sync.WaitGroup]", "sync.runtime_Semrelease", "(*sync.WaitGroup).Done", "(*sync.WaitGroup).Wait", "internal/race.Acquire", "internal/synctest.IsAssociated[sync.WaitGroup]", "sync/atomic.CompareAndSwapUint64", "internal/race.Write", "sync.runtime_SemacquireWaitGroup", "internal/reflectlite.ValueOf", "(internal/reflectlite.Value).Type", "(internal/reflectlite.Value).IsNil", "internal/reflectlite.TypeOf", "(internal/reflectlite.Value).Elem", "(internal/reflectlite.Value).Set"], unfollowed := true, recurses := true, named := ["errors.errorType"], leaving := true, apart := false, laid := [("errors.errorType", laid_errors_errorType)], narrowed := true }
def FnViewThreeUptoSaid : Prop := fnViewThreeUptoRow.holds Tryz.pinned (OpenSpec.upto fnViewThreeSpec)

/-- 'laws.FnRunSame', WHERE WHAT IT READS IS OF BULK AT MOST 1048576: true; the input reads as it did. -/
def fnRunSameUptoRow : OpenClaim := { program := "ythhmolonhpaepaagreatdoor", sum := "ae2e3e51a0f3633f841062f63f25b2a64e364d796bae26a6667b29ab09d293d3", func := "loop.example/drawbar/laws.FnRunSame", spec := "fnRunSame", inPlace := ["(*sync.WaitGroup).Add", "internal/race.ReleaseMerge", "internal/race.Disable", "internal/race.Enable", "internal/synctest.IsInBubble", "internal/synctest.Associate[sync.WaitGroup]", "sync.fatal", "sync/atomic.OrUint64", "sync/atomic.AddUint64", "internal/race.Read", "sync/atomic.LoadUint64", "sync/atomic.StoreUint64", "internal/synctest.Disassociate[sync.WaitGroup]", "sync.runtime_Semrelease", "(*sync.WaitGroup).Done", "(*sync.WaitGroup).Wait", "internal/race.Acquire", "internal/synctest.IsAssociated[sync.WaitGroup]", "sync/atomic.CompareAndSwapUint64", "internal/race.Write", "sync.runtime_SemacquireWaitGroup", "internal/reflectlite.ValueOf", "(internal/reflectlite.Value).Type", "(internal/reflectlite.Value).IsNil", "internal/reflectlite.TypeOf", "(internal/reflectlite.Value).Elem", "(internal/reflectlite.Value).Set"], unfollowed := true, recurses := true, named := ["errors.errorType"], leaving := true, apart := false, laid := [("errors.errorType", laid_errors_errorType)], narrowed := true }
def FnRunSameUptoSaid : Prop := fnRunSameUptoRow.holds Tryz.pinned (OpenSpec.upto fnRunSameSpec)

/-- 'laws.FnHighMany', WHERE WHAT IT READS IS OF BULK AT MOST 1048576: true; the input reads as it did. -/
def fnHighManyUptoRow : OpenClaim := { program := "ythhmolonhpaepaagreatdoor", sum := "ae2e3e51a0f3633f841062f63f25b2a64e364d796bae26a6667b29ab09d293d3", func := "loop.example/drawbar/laws.FnHighMany", spec := "fnHighMany", inPlace := ["internal/reflectlite.ValueOf", "(internal/reflectlite.Value).Type", "(internal/reflectlite.Value).IsNil", "internal/reflectlite.TypeOf", "(internal/reflectlite.Value).Elem", "(internal/reflectlite.Value).Set", "(*sync.WaitGroup).Add", "internal/race.ReleaseMerge", "internal/race.Disable", "internal/race.Enable", "internal/synctest.IsInBubble", "internal/synctest.Associate[sync.WaitGroup]", "sync.fatal", "sync/atomic.OrUint64", "sync/atomic.AddUint64", "internal/race.Read", "sync/atomic.LoadUint64", "sync/atomic.StoreUint64", "internal/synctest.Disassociate[sync.WaitGroup]", "sync.runtime_Semrelease", "(*sync.WaitGroup).Done", "(*sync.WaitGroup).Wait", "internal/race.Acquire", "internal/synctest.IsAssociated[sync.WaitGroup]", "sync/atomic.CompareAndSwapUint64", "internal/race.Write", "sync.runtime_SemacquireWaitGroup"], unfollowed := true, recurses := true, named := ["errors.errorType"], leaving := true, apart := false, laid := [("errors.errorType", laid_errors_errorType)], narrowed := true }
def FnHighManyUptoSaid : Prop := fnHighManyUptoRow.holds Tryz.pinned (OpenSpec.upto fnHighManySpec)

/-- 'laws.FnHighStep', WHERE WHAT IT READS IS OF BULK AT MOST 1048576: true; the input reads as it did. -/
def fnHighStepUptoRow : OpenClaim := { program := "ythhmolonhpaepaagreatdoor", sum := "ae2e3e51a0f3633f841062f63f25b2a64e364d796bae26a6667b29ab09d293d3", func := "loop.example/drawbar/laws.FnHighStep", spec := "fnHighStep", inPlace := ["internal/reflectlite.ValueOf", "(internal/reflectlite.Value).Type", "(internal/reflectlite.Value).IsNil", "internal/reflectlite.TypeOf", "(internal/reflectlite.Value).Elem", "(internal/reflectlite.Value).Set", "(*sync.WaitGroup).Add", "internal/race.ReleaseMerge", "internal/race.Disable", "internal/race.Enable", "internal/synctest.IsInBubble", "internal/synctest.Associate[sync.WaitGroup]", "sync.fatal", "sync/atomic.OrUint64", "sync/atomic.AddUint64", "internal/race.Read", "sync/atomic.LoadUint64", "sync/atomic.StoreUint64", "internal/synctest.Disassociate[sync.WaitGroup]", "sync.runtime_Semrelease", "(*sync.WaitGroup).Done", "(*sync.WaitGroup).Wait", "internal/race.Acquire", "internal/synctest.IsAssociated[sync.WaitGroup]", "sync/atomic.CompareAndSwapUint64", "internal/race.Write", "sync.runtime_SemacquireWaitGroup"], unfollowed := true, recurses := true, named := ["errors.errorType"], leaving := true, apart := false, laid := [("errors.errorType", laid_errors_errorType)], narrowed := true }
def FnHighStepUptoSaid : Prop := fnHighStepUptoRow.holds Tryz.pinned (OpenSpec.upto fnHighStepSpec)

/-- 'laws.FnRunNoise', WHERE WHAT IT READS IS OF BULK AT MOST 1048576: true; the input reads as it did. -/
def fnRunNoiseUptoRow : OpenClaim := { program := "ythhmolonhpaepaagreatdoor", sum := "ae2e3e51a0f3633f841062f63f25b2a64e364d796bae26a6667b29ab09d293d3", func := "loop.example/drawbar/laws.FnRunNoise", spec := "fnRunNoise", inPlace := ["internal/reflectlite.ValueOf", "(internal/reflectlite.Value).Type", "(internal/reflectlite.Value).IsNil", "internal/reflectlite.TypeOf", "(internal/reflectlite.Value).Elem", "(internal/reflectlite.Value).Set", "(*sync.WaitGroup).Add", "internal/race.ReleaseMerge", "internal/race.Disable", "internal/race.Enable", "internal/synctest.IsInBubble", "internal/synctest.Associate[sync.WaitGroup]", "sync.fatal", "sync/atomic.OrUint64", "sync/atomic.AddUint64", "internal/race.Read", "sync/atomic.LoadUint64", "sync/atomic.StoreUint64", "internal/synctest.Disassociate[sync.WaitGroup]", "sync.runtime_Semrelease", "(*sync.WaitGroup).Done", "(*sync.WaitGroup).Wait", "internal/race.Acquire", "internal/synctest.IsAssociated[sync.WaitGroup]", "sync/atomic.CompareAndSwapUint64", "internal/race.Write", "sync.runtime_SemacquireWaitGroup"], unfollowed := true, recurses := true, named := ["errors.errorType"], leaving := true, apart := false, laid := [("errors.errorType", laid_errors_errorType)], narrowed := true }
def FnRunNoiseUptoSaid : Prop := fnRunNoiseUptoRow.holds Tryz.pinned (OpenSpec.upto fnRunNoiseSpec)

/-- 'laws.FnRunPurgeOne', WHERE WHAT IT READS IS OF BULK AT MOST 1048576: true; the input reads as it did. -/
def fnRunPurgeOneUptoRow : OpenClaim := { program := "ythhmolonhpaepaagreatdoor", sum := "ae2e3e51a0f3633f841062f63f25b2a64e364d796bae26a6667b29ab09d293d3", func := "loop.example/drawbar/laws.FnRunPurgeOne", spec := "fnRunPurgeOne", inPlace := ["internal/reflectlite.ValueOf", "(internal/reflectlite.Value).Type", "(internal/reflectlite.Value).IsNil", "internal/reflectlite.TypeOf", "(internal/reflectlite.Value).Elem", "(internal/reflectlite.Value).Set", "(*sync.WaitGroup).Add", "internal/race.ReleaseMerge", "internal/race.Disable", "internal/race.Enable", "internal/synctest.IsInBubble", "internal/synctest.Associate[sync.WaitGroup]", "sync.fatal", "sync/atomic.OrUint64", "sync/atomic.AddUint64", "internal/race.Read", "sync/atomic.LoadUint64", "sync/atomic.StoreUint64", "internal/synctest.Disassociate[sync.WaitGroup]", "sync.runtime_Semrelease", "(*sync.WaitGroup).Done", "(*sync.WaitGroup).Wait", "internal/race.Acquire", "internal/synctest.IsAssociated[sync.WaitGroup]", "sync/atomic.CompareAndSwapUint64", "internal/race.Write", "sync.runtime_SemacquireWaitGroup"], unfollowed := true, recurses := true, named := ["errors.errorType"], leaving := true, apart := false, laid := [("errors.errorType", laid_errors_errorType)], narrowed := true }
def FnRunPurgeOneUptoSaid : Prop := fnRunPurgeOneUptoRow.holds Tryz.pinned (OpenSpec.upto fnRunPurgeOneSpec)

/-- 'laws.FnRunPurge', WHERE WHAT IT READS IS OF BULK AT MOST 1048576: true; the input reads as it did. -/
def fnRunPurgeUptoRow : OpenClaim := { program := "ythhmolonhpaepaagreatdoor", sum := "ae2e3e51a0f3633f841062f63f25b2a64e364d796bae26a6667b29ab09d293d3", func := "loop.example/drawbar/laws.FnRunPurge", spec := "fnRunPurge", inPlace := ["internal/reflectlite.ValueOf", "(internal/reflectlite.Value).Type", "(internal/reflectlite.Value).IsNil", "internal/reflectlite.TypeOf", "(internal/reflectlite.Value).Elem", "(internal/reflectlite.Value).Set", "(*sync.WaitGroup).Add", "internal/race.ReleaseMerge", "internal/race.Disable", "internal/race.Enable", "internal/synctest.IsInBubble", "internal/synctest.Associate[sync.WaitGroup]", "sync.fatal", "sync/atomic.OrUint64", "sync/atomic.AddUint64", "internal/race.Read", "sync/atomic.LoadUint64", "sync/atomic.StoreUint64", "internal/synctest.Disassociate[sync.WaitGroup]", "sync.runtime_Semrelease", "(*sync.WaitGroup).Done", "(*sync.WaitGroup).Wait", "internal/race.Acquire", "internal/synctest.IsAssociated[sync.WaitGroup]", "sync/atomic.CompareAndSwapUint64", "internal/race.Write", "sync.runtime_SemacquireWaitGroup"], unfollowed := true, recurses := true, named := ["errors.errorType"], leaving := true, apart := false, laid := [("errors.errorType", laid_errors_errorType)], narrowed := true }
def FnRunPurgeUptoSaid : Prop := fnRunPurgeUptoRow.holds Tryz.pinned (OpenSpec.upto fnRunPurgeSpec)

/-- 'laws.FnViewRun', WHERE WHAT IT READS IS OF BULK AT MOST 1048576: true; the input reads as it did. -/
def fnViewRunUptoRow : OpenClaim := { program := "ythhmolonhpaepaagreatdoor", sum := "ae2e3e51a0f3633f841062f63f25b2a64e364d796bae26a6667b29ab09d293d3", func := "loop.example/drawbar/laws.FnViewRun", spec := "fnViewRun", inPlace := ["internal/reflectlite.ValueOf", "(internal/reflectlite.Value).Type", "(internal/reflectlite.Value).IsNil", "internal/reflectlite.TypeOf", "(internal/reflectlite.Value).Elem", "(internal/reflectlite.Value).Set", "(*sync.WaitGroup).Add", "internal/race.ReleaseMerge", "internal/race.Disable", "internal/race.Enable", "internal/synctest.IsInBubble", "internal/synctest.Associate[sync.WaitGroup]", "sync.fatal", "sync/atomic.OrUint64", "sync/atomic.AddUint64", "internal/race.Read", "sync/atomic.LoadUint64", "sync/atomic.StoreUint64", "internal/synctest.Disassociate[sync.WaitGroup]", "sync.runtime_Semrelease", "(*sync.WaitGroup).Done", "(*sync.WaitGroup).Wait", "internal/race.Acquire", "internal/synctest.IsAssociated[sync.WaitGroup]", "sync/atomic.CompareAndSwapUint64", "internal/race.Write", "sync.runtime_SemacquireWaitGroup"], unfollowed := true, recurses := true, named := ["errors.errorType"], leaving := true, apart := false, laid := [("errors.errorType", laid_errors_errorType)], narrowed := true }
def FnViewRunUptoSaid : Prop := fnViewRunUptoRow.holds Tryz.pinned (OpenSpec.upto fnViewRunSpec)

end Rows
end Go.Proofs.YthhmolonhpaepaaGreatDoor
