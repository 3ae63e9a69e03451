/-
  NARROWER THAN 'FOR EVERY INPUT', by the rows' own cells (each row's printed sentence says how): FnReachOrder: laid · FnReachLess: laid · FnReachRun: laid · FnReachNow: laid.
  DERIVED. THE GIVEN ROWS OF THIS SEAT. 4 by the template 'for every input the law returns true; each argument reads behind the call as it read before'; 0 by the template 'total and deterministic' (their statements: YtkbflnbjmpcjlaaGreatDoorTotals.lean).
  GIVEN WITH THE SEED: the statements are not yours to turn. If you find one false, say at which input.
  Laid BY PROGRAM, IN A SANDBOX (cutbox-rows.mjs): the forced cells as the released guide's own fill.sh prints them over the translation 9613d3a88fa3bf9d… (all of the seat's roots in one cut). By AI agents, Wed Nov 11 2026. No macro, syntax, notation, axiom, sorry.
-/
import Derived.Test.YtkbflnbjmpcjlaaGreatDoorChecked
import GoSem.Claim
import GoSem.ClaimJoined
import GoSem.ClaimMapViews
import Derived.JoinedTies
import Derived.KernelRfl
namespace Go.Proofs.YtkbflnbjmpcjlaaGreatDoor
/- THE CELL 'sum', in the pinned program and in every row, IS THE sha256 OF THE DUMP (.gsa) THAT YtkbflnbjmpcjlaaGreatDoorProg.lean LOADS. Nothing in Lean hashes anything: it is a label: what it is worth is what the hold of that sum in a sandbox is worth. -/
noncomputable def Tryz.pinned : Pinned := { name := "ytkbflnbjmpcjlaagreatdoor", sum := "9613d3a88fa3bf9d20a135c545243fe55b9b8215846e0ffc4cabf7cd832740d0", checked := Tryz.checked }
namespace Rows
def none {H : Type} : Left H := { results := [], args := [] }

/- WHAT THE LISTED PACKAGE-LEVEL VARIABLES READ AS WHEN THE CALL BEGINS. Each datum BY PROGRAM (the guide's laid-datum.mjs) off the statement by which the dump's own 'gosem.cut.vars' lays the variable. In a bare row this is a premise. The card (YtkbflnbjmpcjlaaGreatDoorCards.lean) ties it to the program's text. -/
def laid_errors_errorType {H : Type} : DataW H := .iface "internal/reflectlite.rtype" (.agg [.ptr (.lit (.string [101, 114, 114, 111, 114]))])

/-- 'laws.FnReachOrder': WHATEVER THE INPUT: true; the input reads as it did. -/
def fnReachOrderSpec : ChangeSpec := { name := "fnReachOrder", fn := fun _ => fun
  | [d1, d2] => { results := [.lit (.bool true)], args := [d1, d2] }
  | _ => none }
def fnReachOrderRow : OpenClaim := { program := "ytkbflnbjmpcjlaagreatdoor", sum := "9613d3a88fa3bf9d20a135c545243fe55b9b8215846e0ffc4cabf7cd832740d0", func := "loop.example/drawbar/laws.FnReachOrder", spec := "fnReachOrder", inPlace := ["internal/reflectlite.ValueOf", "(internal/reflectlite.Value).Type", "(internal/reflectlite.Value).IsNil", "internal/reflectlite.TypeOf", "(internal/reflectlite.Value).Elem", "(internal/reflectlite.Value).Set"], unfollowed := true, recurses := true, named := ["errors.errorType"], plainKeys := false, apart := false, laid := [("errors.errorType", laid_errors_errorType)] }
def FnReachOrderSaid : Prop := fnReachOrderRow.holds Tryz.pinned (OpenSpec.ofChange fnReachOrderSpec)

/-- ITS FALSE NEIGHBOUR: 'it returns false'. Refute it at one input. -/
def fnReachOrderWrong : ChangeSpec := { name := "fnReachOrder", fn := fun _ => fun
  | [d1, d2] => { results := [.lit (.bool false)], args := [d1, d2] }
  | _ => none }
def FnReachOrderWrongFalsely : Prop := fnReachOrderRow.holds Tryz.pinned (OpenSpec.ofChange fnReachOrderWrong)

/-- 'laws.FnReachLess': WHATEVER THE INPUT: true; the input reads as it did. -/
def fnReachLessSpec : ChangeSpec := { name := "fnReachLess", fn := fun _ => fun
  | [d] => { results := [.lit (.bool true)], args := [d] }
  | _ => none }
def fnReachLessRow : OpenClaim := { program := "ytkbflnbjmpcjlaagreatdoor", sum := "9613d3a88fa3bf9d20a135c545243fe55b9b8215846e0ffc4cabf7cd832740d0", func := "loop.example/drawbar/laws.FnReachLess", spec := "fnReachLess", inPlace := ["internal/reflectlite.ValueOf", "(internal/reflectlite.Value).Type", "(internal/reflectlite.Value).IsNil", "internal/reflectlite.TypeOf", "(internal/reflectlite.Value).Elem", "(internal/reflectlite.Value).Set"], unfollowed := true, recurses := true, named := ["errors.errorType"], plainKeys := false, apart := false, laid := [("errors.errorType", laid_errors_errorType)] }
def FnReachLessSaid : Prop := fnReachLessRow.holds Tryz.pinned (OpenSpec.ofChange fnReachLessSpec)

/-- ITS FALSE NEIGHBOUR: 'it returns false'. Refute it at one input. -/
def fnReachLessWrong : ChangeSpec := { name := "fnReachLess", fn := fun _ => fun
  | [d] => { results := [.lit (.bool false)], args := [d] }
  | _ => none }
def FnReachLessWrongFalsely : Prop := fnReachLessRow.holds Tryz.pinned (OpenSpec.ofChange fnReachLessWrong)

/-- 'laws.FnReachRun': WHATEVER THE INPUT: true; the input reads as it did. -/
def fnReachRunSpec : ChangeSpec := { name := "fnReachRun", fn := fun _ => fun
  | [d] => { results := [.lit (.bool true)], args := [d] }
  | _ => none }
def fnReachRunRow : OpenClaim := { program := "ytkbflnbjmpcjlaagreatdoor", sum := "9613d3a88fa3bf9d20a135c545243fe55b9b8215846e0ffc4cabf7cd832740d0", func := "loop.example/drawbar/laws.FnReachRun", spec := "fnReachRun", inPlace := ["internal/reflectlite.ValueOf", "(internal/reflectlite.Value).Type", "(internal/reflectlite.Value).IsNil", "internal/reflectlite.TypeOf", "(internal/reflectlite.Value).Elem", "(internal/reflectlite.Value).Set"], unfollowed := true, recurses := true, named := ["errors.errorType"], plainKeys := false, apart := false, laid := [("errors.errorType", laid_errors_errorType)] }
def FnReachRunSaid : Prop := fnReachRunRow.holds Tryz.pinned (OpenSpec.ofChange fnReachRunSpec)

/-- ITS FALSE NEIGHBOUR: 'it returns false'. Refute it at one input. -/
def fnReachRunWrong : ChangeSpec := { name := "fnReachRun", fn := fun _ => fun
  | [d] => { results := [.lit (.bool false)], args := [d] }
  | _ => none }
def FnReachRunWrongFalsely : Prop := fnReachRunRow.holds Tryz.pinned (OpenSpec.ofChange fnReachRunWrong)

/-- 'laws.FnReachNow': WHATEVER THE INPUT: true; the input reads as it did. -/
def fnReachNowSpec : ChangeSpec := { name := "fnReachNow", fn := fun _ => fun
  | [d] => { results := [.lit (.bool true)], args := [d] }
  | _ => none }
def fnReachNowRow : OpenClaim := { program := "ytkbflnbjmpcjlaagreatdoor", sum := "9613d3a88fa3bf9d20a135c545243fe55b9b8215846e0ffc4cabf7cd832740d0", func := "loop.example/drawbar/laws.FnReachNow", spec := "fnReachNow", inPlace := ["internal/reflectlite.ValueOf", "(internal/reflectlite.Value).Type", "(internal/reflectlite.Value).IsNil", "internal/reflectlite.TypeOf", "(internal/reflectlite.Value).Elem", "(internal/reflectlite.Value).Set"], unfollowed := true, recurses := true, named := ["errors.errorType"], plainKeys := false, apart := false, laid := [("errors.errorType", laid_errors_errorType)] }
def FnReachNowSaid : Prop := fnReachNowRow.holds Tryz.pinned (OpenSpec.ofChange fnReachNowSpec)

/-- ITS FALSE NEIGHBOUR: 'it returns false'. Refute it at one input. -/
def fnReachNowWrong : ChangeSpec := { name := "fnReachNow", fn := fun _ => fun
  | [d] => { results := [.lit (.bool false)], args := [d] }
  | _ => none }
def FnReachNowWrongFalsely : Prop := fnReachNowRow.holds Tryz.pinned (OpenSpec.ofChange fnReachNowWrong)

/- THE SECOND FORM. 'bulk': how many values and letters a reading holds, each counted each time it is reached (what is shared counts as often as it is met; a slice's spare places count too). A statement '..UptoSaid' is the law's where the arguments, and the package variables that the reading takes, are together of bulk at most 1048576: NARROWER than '..Said'. Prove '..Said' where nothing that the law and all that it calls make is longer than what came in: it says more and counts as full. Else prove '..UptoSaid'. A law counts once. -/
mutual
def uptoBulk {H : Type} : DataW H → Nat
  | .lit (.string bytes) => bytes.length + 1
  | .lit _ => 1
  | .nil => 1
  | .ptr d => uptoBulk d + 1
  | .slice elems spare => uptoBulkAll elems + uptoBulkAll spare + 1
  | .agg parts => uptoBulkAll parts + 1
  | .iface _ d => uptoBulk d + 1
  | .map entries => uptoBulkEntries entries + 1
  | .held _ => 1
def uptoBulkAll {H : Type} : List (DataW H) → Nat
  | [] => 0
  | d :: r => uptoBulk d + uptoBulkAll r
def uptoBulkEntries {H : Type} : List (Lit × DataW H) → Nat
  | [] => 0
  | x :: r => uptoBulkEntry x + uptoBulkEntries r
def uptoBulkEntry {H : Type} : Lit × DataW H → Nat
  | (.string bytes, d) => bytes.length + uptoBulk d + 1
  | (_, d) => uptoBulk d + 1
 end
def uptoSmall : (H : Type) → List (DataW H) → Bool := fun _ ds => decide (uptoBulkAll ds ≤ 1048576)
def OpenSpec.upto (s : _root_.Go.ChangeSpec) : _root_.Go.OpenSpec := { _root_.Go.OpenSpec.ofChange s with cond := some uptoSmall }

/-- 'laws.FnReachOrder', WHERE WHAT IT READS IS OF BULK AT MOST 1048576: true; the input reads as it did. -/
def fnReachOrderUptoRow : OpenClaim := { program := "ytkbflnbjmpcjlaagreatdoor", sum := "9613d3a88fa3bf9d20a135c545243fe55b9b8215846e0ffc4cabf7cd832740d0", func := "loop.example/drawbar/laws.FnReachOrder", spec := "fnReachOrder", inPlace := ["internal/reflectlite.ValueOf", "(internal/reflectlite.Value).Type", "(internal/reflectlite.Value).IsNil", "internal/reflectlite.TypeOf", "(internal/reflectlite.Value).Elem", "(internal/reflectlite.Value).Set"], unfollowed := true, recurses := true, named := ["errors.errorType"], plainKeys := false, apart := false, laid := [("errors.errorType", laid_errors_errorType)], narrowed := true }
def FnReachOrderUptoSaid : Prop := fnReachOrderUptoRow.holds Tryz.pinned (OpenSpec.upto fnReachOrderSpec)

/-- 'laws.FnReachLess', WHERE WHAT IT READS IS OF BULK AT MOST 1048576: true; the input reads as it did. -/
def fnReachLessUptoRow : OpenClaim := { program := "ytkbflnbjmpcjlaagreatdoor", sum := "9613d3a88fa3bf9d20a135c545243fe55b9b8215846e0ffc4cabf7cd832740d0", func := "loop.example/drawbar/laws.FnReachLess", spec := "fnReachLess", inPlace := ["internal/reflectlite.ValueOf", "(internal/reflectlite.Value).Type", "(internal/reflectlite.Value).IsNil", "internal/reflectlite.TypeOf", "(internal/reflectlite.Value).Elem", "(internal/reflectlite.Value).Set"], unfollowed := true, recurses := true, named := ["errors.errorType"], plainKeys := false, apart := false, laid := [("errors.errorType", laid_errors_errorType)], narrowed := true }
def FnReachLessUptoSaid : Prop := fnReachLessUptoRow.holds Tryz.pinned (OpenSpec.upto fnReachLessSpec)

/-- 'laws.FnReachRun', WHERE WHAT IT READS IS OF BULK AT MOST 1048576: true; the input reads as it did. -/
def fnReachRunUptoRow : OpenClaim := { program := "ytkbflnbjmpcjlaagreatdoor", sum := "9613d3a88fa3bf9d20a135c545243fe55b9b8215846e0ffc4cabf7cd832740d0", func := "loop.example/drawbar/laws.FnReachRun", spec := "fnReachRun", inPlace := ["internal/reflectlite.ValueOf", "(internal/reflectlite.Value).Type", "(internal/reflectlite.Value).IsNil", "internal/reflectlite.TypeOf", "(internal/reflectlite.Value).Elem", "(internal/reflectlite.Value).Set"], unfollowed := true, recurses := true, named := ["errors.errorType"], plainKeys := false, apart := false, laid := [("errors.errorType", laid_errors_errorType)], narrowed := true }
def FnReachRunUptoSaid : Prop := fnReachRunUptoRow.holds Tryz.pinned (OpenSpec.upto fnReachRunSpec)

/-- 'laws.FnReachNow', WHERE WHAT IT READS IS OF BULK AT MOST 1048576: true; the input reads as it did. -/
def fnReachNowUptoRow : OpenClaim := { program := "ytkbflnbjmpcjlaagreatdoor", sum := "9613d3a88fa3bf9d20a135c545243fe55b9b8215846e0ffc4cabf7cd832740d0", func := "loop.example/drawbar/laws.FnReachNow", spec := "fnReachNow", inPlace := ["internal/reflectlite.ValueOf", "(internal/reflectlite.Value).Type", "(internal/reflectlite.Value).IsNil", "internal/reflectlite.TypeOf", "(internal/reflectlite.Value).Elem", "(internal/reflectlite.Value).Set"], unfollowed := true, recurses := true, named := ["errors.errorType"], plainKeys := false, apart := false, laid := [("errors.errorType", laid_errors_errorType)], narrowed := true }
def FnReachNowUptoSaid : Prop := fnReachNowUptoRow.holds Tryz.pinned (OpenSpec.upto fnReachNowSpec)

end Rows
end Go.Proofs.YtkbflnbjmpcjlaaGreatDoor
