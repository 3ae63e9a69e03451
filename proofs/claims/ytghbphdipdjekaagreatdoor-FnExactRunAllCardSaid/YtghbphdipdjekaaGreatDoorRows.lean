/-
  NARROWER THAN 'FOR EVERY INPUT', by the rows' own cells (each row's printed sentence says how): FnRunLow: laid · FnRunCut: laid · FnRunOne: laid · FnRunRights: laid · FnRunVers: laid · FnRunWrites: laid · FnRunNone: laid · FnRunAnswers: laid · FnRunQuiet: laid · FnMoves: laid · FnExactCallDo: laid · FnExactCallMoves: laid · FnExactRunAll: laid.
  DERIVED. THE GIVEN ROWS OF THIS SEAT. 13 by the template 'for every input the law returns true; each argument reads behind the call as it read before'; 0 by the template 'total and deterministic' (their statements: YtghbphdipdjekaaGreatDoorTotals.lean).
  GIVEN WITH THE SEED: the statements are not yours to turn. If you find one false, say at which input.
  Laid BY PROGRAM, IN A SANDBOX (cutbox-rows.mjs): the forced cells as the released guide's own fill.sh prints them over the translation ff8d01ae43f11139… (all of the seat's roots in one cut). By AI agents, Wed Nov 11 2026. No macro, syntax, notation, axiom, sorry.
-/
import Derived.Test.YtghbphdipdjekaaGreatDoorChecked
import GoSem.Claim
import GoSem.ClaimJoined
import GoSem.ClaimMapViews
import Derived.JoinedTies
import Derived.KernelRfl
namespace Go.Proofs.YtghbphdipdjekaaGreatDoor
/- THE CELL 'sum', in the pinned program and in every row, IS THE sha256 OF THE DUMP (.gsa) THAT YtghbphdipdjekaaGreatDoorProg.lean LOADS. Nothing in Lean hashes anything: it is a label: what it is worth is what the hold of that sum in a sandbox is worth. -/
noncomputable def Tryz.pinned : Pinned := { name := "ytghbphdipdjekaagreatdoor", sum := "ff8d01ae43f11139fbbe5edb9a8eaa3a77b64d0731a367c8d35c07bf3a713cfb", checked := Tryz.checked }
namespace Rows
def none {H : Type} : Left H := { results := [], args := [] }

/- WHAT THE LISTED PACKAGE-LEVEL VARIABLES READ AS WHEN THE CALL BEGINS. Each datum BY PROGRAM (the guide's laid-datum.mjs) off the statement by which the dump's own 'gosem.cut.vars' lays the variable. In a bare row this is a premise. The card (YtghbphdipdjekaaGreatDoorCards.lean) ties it to the program's text. -/
def laid_errors_errorType {H : Type} : DataW H := .iface "internal/reflectlite.rtype" (.agg [.ptr (.lit (.string [101, 114, 114, 111, 114]))])

/-- 'laws.FnRunLow': WHATEVER THE INPUT: true; the input reads as it did. -/
def fnRunLowSpec : ChangeSpec := { name := "fnRunLow", fn := fun _ => fun
  | [d] => { results := [.lit (.bool true)], args := [d] }
  | _ => none }
def fnRunLowRow : OpenClaim := { program := "ytghbphdipdjekaagreatdoor", sum := "ff8d01ae43f11139fbbe5edb9a8eaa3a77b64d0731a367c8d35c07bf3a713cfb", func := "loop.example/drawbar/laws.FnRunLow", spec := "fnRunLow", inPlace := ["internal/reflectlite.ValueOf", "(internal/reflectlite.Value).Type", "(internal/reflectlite.Value).IsNil", "internal/reflectlite.TypeOf", "(internal/reflectlite.Value).Elem", "(internal/reflectlite.Value).Set"], unfollowed := true, recurses := true, named := ["errors.errorType"], apart := false, laid := [("errors.errorType", laid_errors_errorType)] }
def FnRunLowSaid : Prop := fnRunLowRow.holds Tryz.pinned (OpenSpec.ofChange fnRunLowSpec)

/-- ITS FALSE NEIGHBOUR: 'it returns false'. Refute it at one input. -/
def fnRunLowWrong : ChangeSpec := { name := "fnRunLow", fn := fun _ => fun
  | [d] => { results := [.lit (.bool false)], args := [d] }
  | _ => none }
def FnRunLowWrongFalsely : Prop := fnRunLowRow.holds Tryz.pinned (OpenSpec.ofChange fnRunLowWrong)

/-- 'laws.FnRunCut': WHATEVER THE INPUT: true; the input reads as it did. -/
def fnRunCutSpec : ChangeSpec := { name := "fnRunCut", fn := fun _ => fun
  | [d1, d2] => { results := [.lit (.bool true)], args := [d1, d2] }
  | _ => none }
def fnRunCutRow : OpenClaim := { program := "ytghbphdipdjekaagreatdoor", sum := "ff8d01ae43f11139fbbe5edb9a8eaa3a77b64d0731a367c8d35c07bf3a713cfb", func := "loop.example/drawbar/laws.FnRunCut", spec := "fnRunCut", inPlace := ["internal/reflectlite.ValueOf", "(internal/reflectlite.Value).Type", "(internal/reflectlite.Value).IsNil", "internal/reflectlite.TypeOf", "(internal/reflectlite.Value).Elem", "(internal/reflectlite.Value).Set"], unfollowed := true, recurses := true, named := ["errors.errorType"], apart := false, laid := [("errors.errorType", laid_errors_errorType)] }
def FnRunCutSaid : Prop := fnRunCutRow.holds Tryz.pinned (OpenSpec.ofChange fnRunCutSpec)

/-- ITS FALSE NEIGHBOUR: 'it returns false'. Refute it at one input. -/
def fnRunCutWrong : ChangeSpec := { name := "fnRunCut", fn := fun _ => fun
  | [d1, d2] => { results := [.lit (.bool false)], args := [d1, d2] }
  | _ => none }
def FnRunCutWrongFalsely : Prop := fnRunCutRow.holds Tryz.pinned (OpenSpec.ofChange fnRunCutWrong)

/-- 'laws.FnRunOne': WHATEVER THE INPUT: true; the input reads as it did. -/
def fnRunOneSpec : ChangeSpec := { name := "fnRunOne", fn := fun _ => fun
  | [d] => { results := [.lit (.bool true)], args := [d] }
  | _ => none }
def fnRunOneRow : OpenClaim := { program := "ytghbphdipdjekaagreatdoor", sum := "ff8d01ae43f11139fbbe5edb9a8eaa3a77b64d0731a367c8d35c07bf3a713cfb", func := "loop.example/drawbar/laws.FnRunOne", spec := "fnRunOne", inPlace := ["internal/reflectlite.ValueOf", "(internal/reflectlite.Value).Type", "(internal/reflectlite.Value).IsNil", "internal/reflectlite.TypeOf", "(internal/reflectlite.Value).Elem", "(internal/reflectlite.Value).Set"], unfollowed := true, recurses := true, named := ["errors.errorType"], apart := false, laid := [("errors.errorType", laid_errors_errorType)] }
def FnRunOneSaid : Prop := fnRunOneRow.holds Tryz.pinned (OpenSpec.ofChange fnRunOneSpec)

/-- ITS FALSE NEIGHBOUR: 'it returns false'. Refute it at one input. -/
def fnRunOneWrong : ChangeSpec := { name := "fnRunOne", fn := fun _ => fun
  | [d] => { results := [.lit (.bool false)], args := [d] }
  | _ => none }
def FnRunOneWrongFalsely : Prop := fnRunOneRow.holds Tryz.pinned (OpenSpec.ofChange fnRunOneWrong)

/-- 'laws.FnRunRights': WHATEVER THE INPUT: true; the input reads as it did. -/
def fnRunRightsSpec : ChangeSpec := { name := "fnRunRights", fn := fun _ => fun
  | [d] => { results := [.lit (.bool true)], args := [d] }
  | _ => none }
def fnRunRightsRow : OpenClaim := { program := "ytghbphdipdjekaagreatdoor", sum := "ff8d01ae43f11139fbbe5edb9a8eaa3a77b64d0731a367c8d35c07bf3a713cfb", func := "loop.example/drawbar/laws.FnRunRights", spec := "fnRunRights", inPlace := ["internal/reflectlite.ValueOf", "(internal/reflectlite.Value).Type", "(internal/reflectlite.Value).IsNil", "internal/reflectlite.TypeOf", "(internal/reflectlite.Value).Elem", "(internal/reflectlite.Value).Set"], unfollowed := true, recurses := true, named := ["errors.errorType"], apart := false, laid := [("errors.errorType", laid_errors_errorType)] }
def FnRunRightsSaid : Prop := fnRunRightsRow.holds Tryz.pinned (OpenSpec.ofChange fnRunRightsSpec)

/-- ITS FALSE NEIGHBOUR: 'it returns false'. Refute it at one input. -/
def fnRunRightsWrong : ChangeSpec := { name := "fnRunRights", fn := fun _ => fun
  | [d] => { results := [.lit (.bool false)], args := [d] }
  | _ => none }
def FnRunRightsWrongFalsely : Prop := fnRunRightsRow.holds Tryz.pinned (OpenSpec.ofChange fnRunRightsWrong)

/-- 'laws.FnRunVers': WHATEVER THE INPUT: true; the input reads as it did. -/
def fnRunVersSpec : ChangeSpec := { name := "fnRunVers", fn := fun _ => fun
  | [d] => { results := [.lit (.bool true)], args := [d] }
  | _ => none }
def fnRunVersRow : OpenClaim := { program := "ytghbphdipdjekaagreatdoor", sum := "ff8d01ae43f11139fbbe5edb9a8eaa3a77b64d0731a367c8d35c07bf3a713cfb", func := "loop.example/drawbar/laws.FnRunVers", spec := "fnRunVers", inPlace := ["internal/reflectlite.ValueOf", "(internal/reflectlite.Value).Type", "(internal/reflectlite.Value).IsNil", "internal/reflectlite.TypeOf", "(internal/reflectlite.Value).Elem", "(internal/reflectlite.Value).Set"], unfollowed := true, recurses := true, named := ["errors.errorType"], apart := false, laid := [("errors.errorType", laid_errors_errorType)] }
def FnRunVersSaid : Prop := fnRunVersRow.holds Tryz.pinned (OpenSpec.ofChange fnRunVersSpec)

/-- ITS FALSE NEIGHBOUR: 'it returns false'. Refute it at one input. -/
def fnRunVersWrong : ChangeSpec := { name := "fnRunVers", fn := fun _ => fun
  | [d] => { results := [.lit (.bool false)], args := [d] }
  | _ => none }
def FnRunVersWrongFalsely : Prop := fnRunVersRow.holds Tryz.pinned (OpenSpec.ofChange fnRunVersWrong)

/-- 'laws.FnRunWrites': WHATEVER THE INPUT: true; the input reads as it did. -/
def fnRunWritesSpec : ChangeSpec := { name := "fnRunWrites", fn := fun _ => fun
  | [d] => { results := [.lit (.bool true)], args := [d] }
  | _ => none }
def fnRunWritesRow : OpenClaim := { program := "ytghbphdipdjekaagreatdoor", sum := "ff8d01ae43f11139fbbe5edb9a8eaa3a77b64d0731a367c8d35c07bf3a713cfb", func := "loop.example/drawbar/laws.FnRunWrites", spec := "fnRunWrites", inPlace := ["internal/reflectlite.ValueOf", "(internal/reflectlite.Value).Type", "(internal/reflectlite.Value).IsNil", "internal/reflectlite.TypeOf", "(internal/reflectlite.Value).Elem", "(internal/reflectlite.Value).Set"], unfollowed := true, recurses := true, named := ["errors.errorType"], apart := false, laid := [("errors.errorType", laid_errors_errorType)] }
def FnRunWritesSaid : Prop := fnRunWritesRow.holds Tryz.pinned (OpenSpec.ofChange fnRunWritesSpec)

/-- ITS FALSE NEIGHBOUR: 'it returns false'. Refute it at one input. -/
def fnRunWritesWrong : ChangeSpec := { name := "fnRunWrites", fn := fun _ => fun
  | [d] => { results := [.lit (.bool false)], args := [d] }
  | _ => none }
def FnRunWritesWrongFalsely : Prop := fnRunWritesRow.holds Tryz.pinned (OpenSpec.ofChange fnRunWritesWrong)

/-- 'laws.FnRunNone': WHATEVER THE INPUT: true; the input reads as it did. -/
def fnRunNoneSpec : ChangeSpec := { name := "fnRunNone", fn := fun _ => fun
  | [d] => { results := [.lit (.bool true)], args := [d] }
  | _ => none }
def fnRunNoneRow : OpenClaim := { program := "ytghbphdipdjekaagreatdoor", sum := "ff8d01ae43f11139fbbe5edb9a8eaa3a77b64d0731a367c8d35c07bf3a713cfb", func := "loop.example/drawbar/laws.FnRunNone", spec := "fnRunNone", inPlace := ["internal/reflectlite.ValueOf", "(internal/reflectlite.Value).Type", "(internal/reflectlite.Value).IsNil", "internal/reflectlite.TypeOf", "(internal/reflectlite.Value).Elem", "(internal/reflectlite.Value).Set"], unfollowed := true, recurses := true, named := ["errors.errorType"], apart := false, laid := [("errors.errorType", laid_errors_errorType)] }
def FnRunNoneSaid : Prop := fnRunNoneRow.holds Tryz.pinned (OpenSpec.ofChange fnRunNoneSpec)

/-- ITS FALSE NEIGHBOUR: 'it returns false'. Refute it at one input. -/
def fnRunNoneWrong : ChangeSpec := { name := "fnRunNone", fn := fun _ => fun
  | [d] => { results := [.lit (.bool false)], args := [d] }
  | _ => none }
def FnRunNoneWrongFalsely : Prop := fnRunNoneRow.holds Tryz.pinned (OpenSpec.ofChange fnRunNoneWrong)

/-- 'laws.FnRunAnswers': WHATEVER THE INPUT: true; the input reads as it did. -/
def fnRunAnswersSpec : ChangeSpec := { name := "fnRunAnswers", fn := fun _ => fun
  | [d] => { results := [.lit (.bool true)], args := [d] }
  | _ => none }
def fnRunAnswersRow : OpenClaim := { program := "ytghbphdipdjekaagreatdoor", sum := "ff8d01ae43f11139fbbe5edb9a8eaa3a77b64d0731a367c8d35c07bf3a713cfb", func := "loop.example/drawbar/laws.FnRunAnswers", spec := "fnRunAnswers", inPlace := ["internal/reflectlite.ValueOf", "(internal/reflectlite.Value).Type", "(internal/reflectlite.Value).IsNil", "internal/reflectlite.TypeOf", "(internal/reflectlite.Value).Elem", "(internal/reflectlite.Value).Set"], unfollowed := true, recurses := true, named := ["errors.errorType"], apart := false, laid := [("errors.errorType", laid_errors_errorType)] }
def FnRunAnswersSaid : Prop := fnRunAnswersRow.holds Tryz.pinned (OpenSpec.ofChange fnRunAnswersSpec)

/-- ITS FALSE NEIGHBOUR: 'it returns false'. Refute it at one input. -/
def fnRunAnswersWrong : ChangeSpec := { name := "fnRunAnswers", fn := fun _ => fun
  | [d] => { results := [.lit (.bool false)], args := [d] }
  | _ => none }
def FnRunAnswersWrongFalsely : Prop := fnRunAnswersRow.holds Tryz.pinned (OpenSpec.ofChange fnRunAnswersWrong)

/-- 'laws.FnRunQuiet': WHATEVER THE INPUT: true; the input reads as it did. -/
def fnRunQuietSpec : ChangeSpec := { name := "fnRunQuiet", fn := fun _ => fun
  | [d] => { results := [.lit (.bool true)], args := [d] }
  | _ => none }
def fnRunQuietRow : OpenClaim := { program := "ytghbphdipdjekaagreatdoor", sum := "ff8d01ae43f11139fbbe5edb9a8eaa3a77b64d0731a367c8d35c07bf3a713cfb", func := "loop.example/drawbar/laws.FnRunQuiet", spec := "fnRunQuiet", inPlace := ["internal/reflectlite.ValueOf", "(internal/reflectlite.Value).Type", "(internal/reflectlite.Value).IsNil", "internal/reflectlite.TypeOf", "(internal/reflectlite.Value).Elem", "(internal/reflectlite.Value).Set"], unfollowed := true, recurses := true, named := ["errors.errorType"], apart := false, laid := [("errors.errorType", laid_errors_errorType)] }
def FnRunQuietSaid : Prop := fnRunQuietRow.holds Tryz.pinned (OpenSpec.ofChange fnRunQuietSpec)

/-- ITS FALSE NEIGHBOUR: 'it returns false'. Refute it at one input. -/
def fnRunQuietWrong : ChangeSpec := { name := "fnRunQuiet", fn := fun _ => fun
  | [d] => { results := [.lit (.bool false)], args := [d] }
  | _ => none }
def FnRunQuietWrongFalsely : Prop := fnRunQuietRow.holds Tryz.pinned (OpenSpec.ofChange fnRunQuietWrong)

/-- 'laws.FnMoves': WHATEVER THE INPUT: true; the input reads as it did. -/
def fnMovesSpec : ChangeSpec := { name := "fnMoves", fn := fun _ => fun
  | [d] => { results := [.lit (.bool true)], args := [d] }
  | _ => none }
def fnMovesRow : OpenClaim := { program := "ytghbphdipdjekaagreatdoor", sum := "ff8d01ae43f11139fbbe5edb9a8eaa3a77b64d0731a367c8d35c07bf3a713cfb", func := "loop.example/drawbar/laws.FnMoves", spec := "fnMoves", inPlace := ["internal/reflectlite.ValueOf", "(internal/reflectlite.Value).Type", "(internal/reflectlite.Value).IsNil", "internal/reflectlite.TypeOf", "(internal/reflectlite.Value).Elem", "(internal/reflectlite.Value).Set"], unfollowed := true, recurses := true, named := ["errors.errorType"], apart := false, laid := [("errors.errorType", laid_errors_errorType)] }
def FnMovesSaid : Prop := fnMovesRow.holds Tryz.pinned (OpenSpec.ofChange fnMovesSpec)

/-- ITS FALSE NEIGHBOUR: 'it returns false'. Refute it at one input. -/
def fnMovesWrong : ChangeSpec := { name := "fnMoves", fn := fun _ => fun
  | [d] => { results := [.lit (.bool false)], args := [d] }
  | _ => none }
def FnMovesWrongFalsely : Prop := fnMovesRow.holds Tryz.pinned (OpenSpec.ofChange fnMovesWrong)

/-- 'laws.FnExactCallDo': WHATEVER THE INPUT: true; the input reads as it did. -/
def fnExactCallDoSpec : ChangeSpec := { name := "fnExactCallDo", fn := fun _ => fun
  | [d1, d2] => { results := [.lit (.bool true)], args := [d1, d2] }
  | _ => none }
def fnExactCallDoRow : OpenClaim := { program := "ytghbphdipdjekaagreatdoor", sum := "ff8d01ae43f11139fbbe5edb9a8eaa3a77b64d0731a367c8d35c07bf3a713cfb", func := "loop.example/drawbar/laws.FnExactCallDo", spec := "fnExactCallDo", inPlace := ["internal/reflectlite.ValueOf", "(internal/reflectlite.Value).Type", "(internal/reflectlite.Value).IsNil", "internal/reflectlite.TypeOf", "(internal/reflectlite.Value).Elem", "(internal/reflectlite.Value).Set"], unfollowed := true, recurses := true, named := ["errors.errorType"], apart := false, laid := [("errors.errorType", laid_errors_errorType)] }
def FnExactCallDoSaid : Prop := fnExactCallDoRow.holds Tryz.pinned (OpenSpec.ofChange fnExactCallDoSpec)

/-- ITS FALSE NEIGHBOUR: 'it returns false'. Refute it at one input. -/
def fnExactCallDoWrong : ChangeSpec := { name := "fnExactCallDo", fn := fun _ => fun
  | [d1, d2] => { results := [.lit (.bool false)], args := [d1, d2] }
  | _ => none }
def FnExactCallDoWrongFalsely : Prop := fnExactCallDoRow.holds Tryz.pinned (OpenSpec.ofChange fnExactCallDoWrong)

/-- 'laws.FnExactCallMoves': WHATEVER THE INPUT: true; the input reads as it did. -/
def fnExactCallMovesSpec : ChangeSpec := { name := "fnExactCallMoves", fn := fun _ => fun
  | [d1, d2] => { results := [.lit (.bool true)], args := [d1, d2] }
  | _ => none }
def fnExactCallMovesRow : OpenClaim := { program := "ytghbphdipdjekaagreatdoor", sum := "ff8d01ae43f11139fbbe5edb9a8eaa3a77b64d0731a367c8d35c07bf3a713cfb", func := "loop.example/drawbar/laws.FnExactCallMoves", spec := "fnExactCallMoves", inPlace := ["internal/reflectlite.ValueOf", "(internal/reflectlite.Value).Type", "(internal/reflectlite.Value).IsNil", "internal/reflectlite.TypeOf", "(internal/reflectlite.Value).Elem", "(internal/reflectlite.Value).Set"], unfollowed := true, recurses := true, named := ["errors.errorType"], apart := false, laid := [("errors.errorType", laid_errors_errorType)] }
def FnExactCallMovesSaid : Prop := fnExactCallMovesRow.holds Tryz.pinned (OpenSpec.ofChange fnExactCallMovesSpec)

/-- ITS FALSE NEIGHBOUR: 'it returns false'. Refute it at one input. -/
def fnExactCallMovesWrong : ChangeSpec := { name := "fnExactCallMoves", fn := fun _ => fun
  | [d1, d2] => { results := [.lit (.bool false)], args := [d1, d2] }
  | _ => none }
def FnExactCallMovesWrongFalsely : Prop := fnExactCallMovesRow.holds Tryz.pinned (OpenSpec.ofChange fnExactCallMovesWrong)

/-- 'laws.FnExactRunAll': WHATEVER THE INPUT: true; the input reads as it did. -/
def fnExactRunAllSpec : ChangeSpec := { name := "fnExactRunAll", fn := fun _ => fun
  | [d1, d2] => { results := [.lit (.bool true)], args := [d1, d2] }
  | _ => none }
def fnExactRunAllRow : OpenClaim := { program := "ytghbphdipdjekaagreatdoor", sum := "ff8d01ae43f11139fbbe5edb9a8eaa3a77b64d0731a367c8d35c07bf3a713cfb", func := "loop.example/drawbar/laws.FnExactRunAll", spec := "fnExactRunAll", inPlace := ["internal/reflectlite.ValueOf", "(internal/reflectlite.Value).Type", "(internal/reflectlite.Value).IsNil", "internal/reflectlite.TypeOf", "(internal/reflectlite.Value).Elem", "(internal/reflectlite.Value).Set"], unfollowed := true, recurses := true, named := ["errors.errorType"], apart := false, laid := [("errors.errorType", laid_errors_errorType)] }
def FnExactRunAllSaid : Prop := fnExactRunAllRow.holds Tryz.pinned (OpenSpec.ofChange fnExactRunAllSpec)

/-- ITS FALSE NEIGHBOUR: 'it returns false'. Refute it at one input. -/
def fnExactRunAllWrong : ChangeSpec := { name := "fnExactRunAll", fn := fun _ => fun
  | [d1, d2] => { results := [.lit (.bool false)], args := [d1, d2] }
  | _ => none }
def FnExactRunAllWrongFalsely : Prop := fnExactRunAllRow.holds Tryz.pinned (OpenSpec.ofChange fnExactRunAllWrong)

/- THE SECOND FORM. 'bulk': how many values and letters a reading holds, each counted each time it is reached (what is shared counts as often as it is met; a slice's spare places count too). A statement '..UptoSaid' is the law's where the arguments, and the package variables that the reading takes, are together of bulk at most 1048576: NARROWER than '..Said'. Prove '..Said' where nothing that the law and all that it calls make is longer than what came in: it says more and counts as full. Else prove '..UptoSaid'. A law counts once. -/
mutual
def uptoBulk {H : Type} : DataW H → Nat
  | .lit (.string bytes) => bytes.length + 1
  | .lit _ => 1
  | .nil => 1
  | .ptr d => uptoBulk d + 1
  | .slice elems spare => uptoBulkAll elems + uptoBulkAll spare + 1
  | .agg parts => uptoBulkAll parts + 1
  | .iface _ d => uptoBulk d + 1
  | .map entries => uptoBulkEntries entries + 1
  | .held _ => 1
def uptoBulkAll {H : Type} : List (DataW H) → Nat
  | [] => 0
  | d :: r => uptoBulk d + uptoBulkAll r
def uptoBulkEntries {H : Type} : List (Lit × DataW H) → Nat
  | [] => 0
  | x :: r => uptoBulkEntry x + uptoBulkEntries r
def uptoBulkEntry {H : Type} : Lit × DataW H → Nat
  | (.string bytes, d) => bytes.length + uptoBulk d + 1
  | (_, d) => uptoBulk d + 1
 end
def uptoSmall : (H : Type) → List (DataW H) → Bool := fun _ ds => decide (uptoBulkAll ds ≤ 1048576)
def OpenSpec.upto (s : _root_.Go.ChangeSpec) : _root_.Go.OpenSpec := { _root_.Go.OpenSpec.ofChange s with cond := some uptoSmall }

/-- 'laws.FnRunLow', WHERE WHAT IT READS IS OF BULK AT MOST 1048576: true; the input reads as it did. -/
def fnRunLowUptoRow : OpenClaim := { program := "ytghbphdipdjekaagreatdoor", sum := "ff8d01ae43f11139fbbe5edb9a8eaa3a77b64d0731a367c8d35c07bf3a713cfb", func := "loop.example/drawbar/laws.FnRunLow", spec := "fnRunLow", inPlace := ["internal/reflectlite.ValueOf", "(internal/reflectlite.Value).Type", "(internal/reflectlite.Value).IsNil", "internal/reflectlite.TypeOf", "(internal/reflectlite.Value).Elem", "(internal/reflectlite.Value).Set"], unfollowed := true, recurses := true, named := ["errors.errorType"], apart := false, laid := [("errors.errorType", laid_errors_errorType)], narrowed := true }
def FnRunLowUptoSaid : Prop := fnRunLowUptoRow.holds Tryz.pinned (OpenSpec.upto fnRunLowSpec)

/-- 'laws.FnRunCut', WHERE WHAT IT READS IS OF BULK AT MOST 1048576: true; the input reads as it did. -/
def fnRunCutUptoRow : OpenClaim := { program := "ytghbphdipdjekaagreatdoor", sum := "ff8d01ae43f11139fbbe5edb9a8eaa3a77b64d0731a367c8d35c07bf3a713cfb", func := "loop.example/drawbar/laws.FnRunCut", spec := "fnRunCut", inPlace := ["internal/reflectlite.ValueOf", "(internal/reflectlite.Value).Type", "(internal/reflectlite.Value).IsNil", "internal/reflectlite.TypeOf", "(internal/reflectlite.Value).Elem", "(internal/reflectlite.Value).Set"], unfollowed := true, recurses := true, named := ["errors.errorType"], apart := false, laid := [("errors.errorType", laid_errors_errorType)], narrowed := true }
def FnRunCutUptoSaid : Prop := fnRunCutUptoRow.holds Tryz.pinned (OpenSpec.upto fnRunCutSpec)

/-- 'laws.FnRunOne', WHERE WHAT IT READS IS OF BULK AT MOST 1048576: true; the input reads as it did. -/
def fnRunOneUptoRow : OpenClaim := { program := "ytghbphdipdjekaagreatdoor", sum := "ff8d01ae43f11139fbbe5edb9a8eaa3a77b64d0731a367c8d35c07bf3a713cfb", func := "loop.example/drawbar/laws.FnRunOne", spec := "fnRunOne", inPlace := ["internal/reflectlite.ValueOf", "(internal/reflectlite.Value).Type", "(internal/reflectlite.Value).IsNil", "internal/reflectlite.TypeOf", "(internal/reflectlite.Value).Elem", "(internal/reflectlite.Value).Set"], unfollowed := true, recurses := true, named := ["errors.errorType"], apart := false, laid := [("errors.errorType", laid_errors_errorType)], narrowed := true }
def FnRunOneUptoSaid : Prop := fnRunOneUptoRow.holds Tryz.pinned (OpenSpec.upto fnRunOneSpec)

/-- 'laws.FnRunRights', WHERE WHAT IT READS IS OF BULK AT MOST 1048576: true; the input reads as it did. -/
def fnRunRightsUptoRow : OpenClaim := { program := "ytghbphdipdjekaagreatdoor", sum := "ff8d01ae43f11139fbbe5edb9a8eaa3a77b64d0731a367c8d35c07bf3a713cfb", func := "loop.example/drawbar/laws.FnRunRights", spec := "fnRunRights", inPlace := ["internal/reflectlite.ValueOf", "(internal/reflectlite.Value).Type", "(internal/reflectlite.Value).IsNil", "internal/reflectlite.TypeOf", "(internal/reflectlite.Value).Elem", "(internal/reflectlite.Value).Set"], unfollowed := true, recurses := true, named := ["errors.errorType"], apart := false, laid := [("errors.errorType", laid_errors_errorType)], narrowed := true }
def FnRunRightsUptoSaid : Prop := fnRunRightsUptoRow.holds Tryz.pinned (OpenSpec.upto fnRunRightsSpec)

/-- 'laws.FnRunVers', WHERE WHAT IT READS IS OF BULK AT MOST 1048576: true; the input reads as it did. -/
def fnRunVersUptoRow : OpenClaim := { program := "ytghbphdipdjekaagreatdoor", sum := "ff8d01ae43f11139fbbe5edb9a8eaa3a77b64d0731a367c8d35c07bf3a713cfb", func := "loop.example/drawbar/laws.FnRunVers", spec := "fnRunVers", inPlace := ["internal/reflectlite.ValueOf", "(internal/reflectlite.Value).Type", "(internal/reflectlite.Value).IsNil", "internal/reflectlite.TypeOf", "(internal/reflectlite.Value).Elem", "(internal/reflectlite.Value).Set"], unfollowed := true, recurses := true, named := ["errors.errorType"], apart := false, laid := [("errors.errorType", laid_errors_errorType)], narrowed := true }
def FnRunVersUptoSaid : Prop := fnRunVersUptoRow.holds Tryz.pinned (OpenSpec.upto fnRunVersSpec)

/-- 'laws.FnRunWrites', WHERE WHAT IT READS IS OF BULK AT MOST 1048576: true; the input reads as it did. -/
def fnRunWritesUptoRow : OpenClaim := { program := "ytghbphdipdjekaagreatdoor", sum := "ff8d01ae43f11139fbbe5edb9a8eaa3a77b64d0731a367c8d35c07bf3a713cfb", func := "loop.example/drawbar/laws.FnRunWrites", spec := "fnRunWrites", inPlace := ["internal/reflectlite.ValueOf", "(internal/reflectlite.Value).Type", "(internal/reflectlite.Value).IsNil", "internal/reflectlite.TypeOf", "(internal/reflectlite.Value).Elem", "(internal/reflectlite.Value).Set"], unfollowed := true, recurses := true, named := ["errors.errorType"], apart := false, laid := [("errors.errorType", laid_errors_errorType)], narrowed := true }
def FnRunWritesUptoSaid : Prop := fnRunWritesUptoRow.holds Tryz.pinned (OpenSpec.upto fnRunWritesSpec)

/-- 'laws.FnRunNone', WHERE WHAT IT READS IS OF BULK AT MOST 1048576: true; the input reads as it did. -/
def fnRunNoneUptoRow : OpenClaim := { program := "ytghbphdipdjekaagreatdoor", sum := "ff8d01ae43f11139fbbe5edb9a8eaa3a77b64d0731a367c8d35c07bf3a713cfb", func := "loop.example/drawbar/laws.FnRunNone", spec := "fnRunNone", inPlace := ["internal/reflectlite.ValueOf", "(internal/reflectlite.Value).Type", "(internal/reflectlite.Value).IsNil", "internal/reflectlite.TypeOf", "(internal/reflectlite.Value).Elem", "(internal/reflectlite.Value).Set"], unfollowed := true, recurses := true, named := ["errors.errorType"], apart := false, laid := [("errors.errorType", laid_errors_errorType)], narrowed := true }
def FnRunNoneUptoSaid : Prop := fnRunNoneUptoRow.holds Tryz.pinned (OpenSpec.upto fnRunNoneSpec)

/-- 'laws.FnRunAnswers', WHERE WHAT IT READS IS OF BULK AT MOST 1048576: true; the input reads as it did. -/
def fnRunAnswersUptoRow : OpenClaim := { program := "ytghbphdipdjekaagreatdoor", sum := "ff8d01ae43f11139fbbe5edb9a8eaa3a77b64d0731a367c8d35c07bf3a713cfb", func := "loop.example/drawbar/laws.FnRunAnswers", spec := "fnRunAnswers", inPlace := ["internal/reflectlite.ValueOf", "(internal/reflectlite.Value).Type", "(internal/reflectlite.Value).IsNil", "internal/reflectlite.TypeOf", "(internal/reflectlite.Value).Elem", "(internal/reflectlite.Value).Set"], unfollowed := true, recurses := true, named := ["errors.errorType"], apart := false, laid := [("errors.errorType", laid_errors_errorType)], narrowed := true }
def FnRunAnswersUptoSaid : Prop := fnRunAnswersUptoRow.holds Tryz.pinned (OpenSpec.upto fnRunAnswersSpec)

/-- 'laws.FnRunQuiet', WHERE WHAT IT READS IS OF BULK AT MOST 1048576: true; the input reads as it did. -/
def fnRunQuietUptoRow : OpenClaim := { program := "ytghbphdipdjekaagreatdoor", sum := "ff8d01ae43f11139fbbe5edb9a8eaa3a77b64d0731a367c8d35c07bf3a713cfb", func := "loop.example/drawbar/laws.FnRunQuiet", spec := "fnRunQuiet", inPlace := ["internal/reflectlite.ValueOf", "(internal/reflectlite.Value).Type", "(internal/reflectlite.Value).IsNil", "internal/reflectlite.TypeOf", "(internal/reflectlite.Value).Elem", "(internal/reflectlite.Value).Set"], unfollowed := true, recurses := true, named := ["errors.errorType"], apart := false, laid := [("errors.errorType", laid_errors_errorType)], narrowed := true }
def FnRunQuietUptoSaid : Prop := fnRunQuietUptoRow.holds Tryz.pinned (OpenSpec.upto fnRunQuietSpec)

/-- 'laws.FnMoves', WHERE WHAT IT READS IS OF BULK AT MOST 1048576: true; the input reads as it did. -/
def fnMovesUptoRow : OpenClaim := { program := "ytghbphdipdjekaagreatdoor", sum := "ff8d01ae43f11139fbbe5edb9a8eaa3a77b64d0731a367c8d35c07bf3a713cfb", func := "loop.example/drawbar/laws.FnMoves", spec := "fnMoves", inPlace := ["internal/reflectlite.ValueOf", "(internal/reflectlite.Value).Type", "(internal/reflectlite.Value).IsNil", "internal/reflectlite.TypeOf", "(internal/reflectlite.Value).Elem", "(internal/reflectlite.Value).Set"], unfollowed := true, recurses := true, named := ["errors.errorType"], apart := false, laid := [("errors.errorType", laid_errors_errorType)], narrowed := true }
def FnMovesUptoSaid : Prop := fnMovesUptoRow.holds Tryz.pinned (OpenSpec.upto fnMovesSpec)

/-- 'laws.FnExactCallDo', WHERE WHAT IT READS IS OF BULK AT MOST 1048576: true; the input reads as it did. -/
def fnExactCallDoUptoRow : OpenClaim := { program := "ytghbphdipdjekaagreatdoor", sum := "ff8d01ae43f11139fbbe5edb9a8eaa3a77b64d0731a367c8d35c07bf3a713cfb", func := "loop.example/drawbar/laws.FnExactCallDo", spec := "fnExactCallDo", inPlace := ["internal/reflectlite.ValueOf", "(internal/reflectlite.Value).Type", "(internal/reflectlite.Value).IsNil", "internal/reflectlite.TypeOf", "(internal/reflectlite.Value).Elem", "(internal/reflectlite.Value).Set"], unfollowed := true, recurses := true, named := ["errors.errorType"], apart := false, laid := [("errors.errorType", laid_errors_errorType)], narrowed := true }
def FnExactCallDoUptoSaid : Prop := fnExactCallDoUptoRow.holds Tryz.pinned (OpenSpec.upto fnExactCallDoSpec)

/-- 'laws.FnExactCallMoves', WHERE WHAT IT READS IS OF BULK AT MOST 1048576: true; the input reads as it did. -/
def fnExactCallMovesUptoRow : OpenClaim := { program := "ytghbphdipdjekaagreatdoor", sum := "ff8d01ae43f11139fbbe5edb9a8eaa3a77b64d0731a367c8d35c07bf3a713cfb", func := "loop.example/drawbar/laws.FnExactCallMoves", spec := "fnExactCallMoves", inPlace := ["internal/reflectlite.ValueOf", "(internal/reflectlite.Value).Type", "(internal/reflectlite.Value).IsNil", "internal/reflectlite.TypeOf", "(internal/reflectlite.Value).Elem", "(internal/reflectlite.Value).Set"], unfollowed := true, recurses := true, named := ["errors.errorType"], apart := false, laid := [("errors.errorType", laid_errors_errorType)], narrowed := true }
def FnExactCallMovesUptoSaid : Prop := fnExactCallMovesUptoRow.holds Tryz.pinned (OpenSpec.upto fnExactCallMovesSpec)

/-- 'laws.FnExactRunAll', WHERE WHAT IT READS IS OF BULK AT MOST 1048576: true; the input reads as it did. -/
def fnExactRunAllUptoRow : OpenClaim := { program := "ytghbphdipdjekaagreatdoor", sum := "ff8d01ae43f11139fbbe5edb9a8eaa3a77b64d0731a367c8d35c07bf3a713cfb", func := "loop.example/drawbar/laws.FnExactRunAll", spec := "fnExactRunAll", inPlace := ["internal/reflectlite.ValueOf", "(internal/reflectlite.Value).Type", "(internal/reflectlite.Value).IsNil", "internal/reflectlite.TypeOf", "(internal/reflectlite.Value).Elem", "(internal/reflectlite.Value).Set"], unfollowed := true, recurses := true, named := ["errors.errorType"], apart := false, laid := [("errors.errorType", laid_errors_errorType)], narrowed := true }
def FnExactRunAllUptoSaid : Prop := fnExactRunAllUptoRow.holds Tryz.pinned (OpenSpec.upto fnExactRunAllSpec)

end Rows
end Go.Proofs.YtghbphdipdjekaaGreatDoor
