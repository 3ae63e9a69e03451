/-
  NARROWER THAN 'FOR EVERY INPUT', by the rows' own cells (each row's printed sentence says how): FnWriteRead: laid · FnDoSend: laid · FnDoTouch: laid · FnDoCopy: laid · FnDoRights: laid.
  DERIVED. THE GIVEN ROWS OF THIS SEAT. 5 by the template 'for every input the law returns true; each argument reads behind the call as it read before'; 0 by the template 'total and deterministic' (their statements: YthelfojlgcjgjaaGreatDoorTotals.lean).
  GIVEN WITH THE SEED: the statements are not yours to turn. If you find one false, say at which input.
  Laid BY PROGRAM, IN A SANDBOX (cutbox-rows.mjs): the forced cells as the released guide's own fill.sh prints them over the translation 4d3b73716bc4132b… (all of the seat's roots in one cut). By AI agents, Wed Nov 11 2026. No macro, syntax, notation, axiom, sorry.
-/
import Derived.Test.YthelfojlgcjgjaaGreatDoorChecked
import GoSem.Claim
import GoSem.ClaimJoined
import GoSem.ClaimMapViews
import Derived.JoinedTies
import Derived.KernelRfl
namespace Go.Proofs.YthelfojlgcjgjaaGreatDoor
/- THE CELL 'sum', in the pinned program and in every row, IS THE sha256 OF THE DUMP (.gsa) THAT YthelfojlgcjgjaaGreatDoorProg.lean LOADS. Nothing in Lean hashes anything: it is a label: what it is worth is what the hold of that sum in a sandbox is worth. -/
noncomputable def Tryz.pinned : Pinned := { name := "ythelfojlgcjgjaagreatdoor", sum := "4d3b73716bc4132b67be47d084ad626411ed6dfae8796695a66eab858145da84", checked := Tryz.checked }
namespace Rows
def none {H : Type} : Left H := { results := [], args := [] }

/- WHAT THE LISTED PACKAGE-LEVEL VARIABLES READ AS WHEN THE CALL BEGINS. Each datum BY PROGRAM (the guide's laid-datum.mjs) off the statement by which the dump's own 'gosem.cut.vars' lays the variable. In a bare row this is a premise. The card (YthelfojlgcjgjaaGreatDoorCards.lean) ties it to the program's text. -/
def laid_errors_errorType {H : Type} : DataW H := .iface "internal/reflectlite.rtype" (.agg [.ptr (.lit (.string [101, 114, 114, 111, 114]))])

/-- 'laws.FnWriteRead': WHATEVER THE INPUT: true; the input reads as it did. -/
def fnWriteReadSpec : ChangeSpec := { name := "fnWriteRead", fn := fun _ => fun
  | [d1, d2] => { results := [.lit (.bool true)], args := [d1, d2] }
  | _ => none }
def fnWriteReadRow : OpenClaim := { program := "ythelfojlgcjgjaagreatdoor", sum := "4d3b73716bc4132b67be47d084ad626411ed6dfae8796695a66eab858145da84", func := "loop.example/drawbar/laws.FnWriteRead", spec := "fnWriteRead", inPlace := ["internal/reflectlite.ValueOf", "(internal/reflectlite.Value).Type", "(internal/reflectlite.Value).IsNil", "internal/reflectlite.TypeOf", "(internal/reflectlite.Value).Elem", "(internal/reflectlite.Value).Set"], unfollowed := true, recurses := true, named := ["errors.errorType"], apart := false, laid := [("errors.errorType", laid_errors_errorType)] }
def FnWriteReadSaid : Prop := fnWriteReadRow.holds Tryz.pinned (OpenSpec.ofChange fnWriteReadSpec)

/-- ITS FALSE NEIGHBOUR: 'it returns false'. Refute it at one input. -/
def fnWriteReadWrong : ChangeSpec := { name := "fnWriteRead", fn := fun _ => fun
  | [d1, d2] => { results := [.lit (.bool false)], args := [d1, d2] }
  | _ => none }
def FnWriteReadWrongFalsely : Prop := fnWriteReadRow.holds Tryz.pinned (OpenSpec.ofChange fnWriteReadWrong)

/-- 'laws.FnDoSend': WHATEVER THE INPUT: true; the input reads as it did. -/
def fnDoSendSpec : ChangeSpec := { name := "fnDoSend", fn := fun _ => fun
  | [d] => { results := [.lit (.bool true)], args := [d] }
  | _ => none }
def fnDoSendRow : OpenClaim := { program := "ythelfojlgcjgjaagreatdoor", sum := "4d3b73716bc4132b67be47d084ad626411ed6dfae8796695a66eab858145da84", func := "loop.example/drawbar/laws.FnDoSend", spec := "fnDoSend", inPlace := ["internal/reflectlite.ValueOf", "(internal/reflectlite.Value).Type", "(internal/reflectlite.Value).IsNil", "internal/reflectlite.TypeOf", "(internal/reflectlite.Value).Elem", "(internal/reflectlite.Value).Set"], unfollowed := true, recurses := true, named := ["errors.errorType"], apart := false, laid := [("errors.errorType", laid_errors_errorType)] }
def FnDoSendSaid : Prop := fnDoSendRow.holds Tryz.pinned (OpenSpec.ofChange fnDoSendSpec)

/-- ITS FALSE NEIGHBOUR: 'it returns false'. Refute it at one input. -/
def fnDoSendWrong : ChangeSpec := { name := "fnDoSend", fn := fun _ => fun
  | [d] => { results := [.lit (.bool false)], args := [d] }
  | _ => none }
def FnDoSendWrongFalsely : Prop := fnDoSendRow.holds Tryz.pinned (OpenSpec.ofChange fnDoSendWrong)

/-- 'laws.FnDoTouch': WHATEVER THE INPUT: true; the input reads as it did. -/
def fnDoTouchSpec : ChangeSpec := { name := "fnDoTouch", fn := fun _ => fun
  | [d] => { results := [.lit (.bool true)], args := [d] }
  | _ => none }
def fnDoTouchRow : OpenClaim := { program := "ythelfojlgcjgjaagreatdoor", sum := "4d3b73716bc4132b67be47d084ad626411ed6dfae8796695a66eab858145da84", func := "loop.example/drawbar/laws.FnDoTouch", spec := "fnDoTouch", inPlace := ["internal/reflectlite.ValueOf", "(internal/reflectlite.Value).Type", "(internal/reflectlite.Value).IsNil", "internal/reflectlite.TypeOf", "(internal/reflectlite.Value).Elem", "(internal/reflectlite.Value).Set"], unfollowed := true, recurses := true, named := ["errors.errorType"], apart := false, laid := [("errors.errorType", laid_errors_errorType)] }
def FnDoTouchSaid : Prop := fnDoTouchRow.holds Tryz.pinned (OpenSpec.ofChange fnDoTouchSpec)

/-- ITS FALSE NEIGHBOUR: 'it returns false'. Refute it at one input. -/
def fnDoTouchWrong : ChangeSpec := { name := "fnDoTouch", fn := fun _ => fun
  | [d] => { results := [.lit (.bool false)], args := [d] }
  | _ => none }
def FnDoTouchWrongFalsely : Prop := fnDoTouchRow.holds Tryz.pinned (OpenSpec.ofChange fnDoTouchWrong)

/-- 'laws.FnDoCopy': WHATEVER THE INPUT: true; the input reads as it did. -/
def fnDoCopySpec : ChangeSpec := { name := "fnDoCopy", fn := fun _ => fun
  | [d] => { results := [.lit (.bool true)], args := [d] }
  | _ => none }
def fnDoCopyRow : OpenClaim := { program := "ythelfojlgcjgjaagreatdoor", sum := "4d3b73716bc4132b67be47d084ad626411ed6dfae8796695a66eab858145da84", func := "loop.example/drawbar/laws.FnDoCopy", spec := "fnDoCopy", inPlace := ["internal/reflectlite.ValueOf", "(internal/reflectlite.Value).Type", "(internal/reflectlite.Value).IsNil", "internal/reflectlite.TypeOf", "(internal/reflectlite.Value).Elem", "(internal/reflectlite.Value).Set"], unfollowed := true, recurses := true, named := ["errors.errorType"], apart := false, laid := [("errors.errorType", laid_errors_errorType)] }
def FnDoCopySaid : Prop := fnDoCopyRow.holds Tryz.pinned (OpenSpec.ofChange fnDoCopySpec)

/-- ITS FALSE NEIGHBOUR: 'it returns false'. Refute it at one input. -/
def fnDoCopyWrong : ChangeSpec := { name := "fnDoCopy", fn := fun _ => fun
  | [d] => { results := [.lit (.bool false)], args := [d] }
  | _ => none }
def FnDoCopyWrongFalsely : Prop := fnDoCopyRow.holds Tryz.pinned (OpenSpec.ofChange fnDoCopyWrong)

/-- 'laws.FnDoRights': WHATEVER THE INPUT: true; the input reads as it did. -/
def fnDoRightsSpec : ChangeSpec := { name := "fnDoRights", fn := fun _ => fun
  | [d] => { results := [.lit (.bool true)], args := [d] }
  | _ => none }
def fnDoRightsRow : OpenClaim := { program := "ythelfojlgcjgjaagreatdoor", sum := "4d3b73716bc4132b67be47d084ad626411ed6dfae8796695a66eab858145da84", func := "loop.example/drawbar/laws.FnDoRights", spec := "fnDoRights", inPlace := ["internal/reflectlite.ValueOf", "(internal/reflectlite.Value).Type", "(internal/reflectlite.Value).IsNil", "internal/reflectlite.TypeOf", "(internal/reflectlite.Value).Elem", "(internal/reflectlite.Value).Set"], unfollowed := true, recurses := true, named := ["errors.errorType"], apart := false, laid := [("errors.errorType", laid_errors_errorType)] }
def FnDoRightsSaid : Prop := fnDoRightsRow.holds Tryz.pinned (OpenSpec.ofChange fnDoRightsSpec)

/-- ITS FALSE NEIGHBOUR: 'it returns false'. Refute it at one input. -/
def fnDoRightsWrong : ChangeSpec := { name := "fnDoRights", fn := fun _ => fun
  | [d] => { results := [.lit (.bool false)], args := [d] }
  | _ => none }
def FnDoRightsWrongFalsely : Prop := fnDoRightsRow.holds Tryz.pinned (OpenSpec.ofChange fnDoRightsWrong)

/- THE SECOND FORM. 'bulk': how many values and letters a reading holds, each counted each time it is reached (what is shared counts as often as it is met; a slice's spare places count too). A statement '..UptoSaid' is the law's where the arguments, and the package variables that the reading takes, are together of bulk at most 1048576: NARROWER than '..Said'. Prove '..Said' where nothing that the law and all that it calls make is longer than what came in: it says more and counts as full. Else prove '..UptoSaid'. A law counts once. -/
mutual
def uptoBulk {H : Type} : DataW H → Nat
  | .lit (.string bytes) => bytes.length + 1
  | .lit _ => 1
  | .nil => 1
  | .ptr d => uptoBulk d + 1
  | .slice elems spare => uptoBulkAll elems + uptoBulkAll spare + 1
  | .agg parts => uptoBulkAll parts + 1
  | .iface _ d => uptoBulk d + 1
  | .map entries => uptoBulkEntries entries + 1
  | .held _ => 1
def uptoBulkAll {H : Type} : List (DataW H) → Nat
  | [] => 0
  | d :: r => uptoBulk d + uptoBulkAll r
def uptoBulkEntries {H : Type} : List (Lit × DataW H) → Nat
  | [] => 0
  | x :: r => uptoBulkEntry x + uptoBulkEntries r
def uptoBulkEntry {H : Type} : Lit × DataW H → Nat
  | (.string bytes, d) => bytes.length + uptoBulk d + 1
  | (_, d) => uptoBulk d + 1
 end
def uptoSmall : (H : Type) → List (DataW H) → Bool := fun _ ds => decide (uptoBulkAll ds ≤ 1048576)
def OpenSpec.upto (s : _root_.Go.ChangeSpec) : _root_.Go.OpenSpec := { _root_.Go.OpenSpec.ofChange s with cond := some uptoSmall }

/-- 'laws.FnWriteRead', WHERE WHAT IT READS IS OF BULK AT MOST 1048576: true; the input reads as it did. -/
def fnWriteReadUptoRow : OpenClaim := { program := "ythelfojlgcjgjaagreatdoor", sum := "4d3b73716bc4132b67be47d084ad626411ed6dfae8796695a66eab858145da84", func := "loop.example/drawbar/laws.FnWriteRead", spec := "fnWriteRead", inPlace := ["internal/reflectlite.ValueOf", "(internal/reflectlite.Value).Type", "(internal/reflectlite.Value).IsNil", "internal/reflectlite.TypeOf", "(internal/reflectlite.Value).Elem", "(internal/reflectlite.Value).Set"], unfollowed := true, recurses := true, named := ["errors.errorType"], apart := false, laid := [("errors.errorType", laid_errors_errorType)], narrowed := true }
def FnWriteReadUptoSaid : Prop := fnWriteReadUptoRow.holds Tryz.pinned (OpenSpec.upto fnWriteReadSpec)

/-- 'laws.FnDoSend', WHERE WHAT IT READS IS OF BULK AT MOST 1048576: true; the input reads as it did. -/
def fnDoSendUptoRow : OpenClaim := { program := "ythelfojlgcjgjaagreatdoor", sum := "4d3b73716bc4132b67be47d084ad626411ed6dfae8796695a66eab858145da84", func := "loop.example/drawbar/laws.FnDoSend", spec := "fnDoSend", inPlace := ["internal/reflectlite.ValueOf", "(internal/reflectlite.Value).Type", "(internal/reflectlite.Value).IsNil", "internal/reflectlite.TypeOf", "(internal/reflectlite.Value).Elem", "(internal/reflectlite.Value).Set"], unfollowed := true, recurses := true, named := ["errors.errorType"], apart := false, laid := [("errors.errorType", laid_errors_errorType)], narrowed := true }
def FnDoSendUptoSaid : Prop := fnDoSendUptoRow.holds Tryz.pinned (OpenSpec.upto fnDoSendSpec)

/-- 'laws.FnDoTouch', WHERE WHAT IT READS IS OF BULK AT MOST 1048576: true; the input reads as it did. -/
def fnDoTouchUptoRow : OpenClaim := { program := "ythelfojlgcjgjaagreatdoor", sum := "4d3b73716bc4132b67be47d084ad626411ed6dfae8796695a66eab858145da84", func := "loop.example/drawbar/laws.FnDoTouch", spec := "fnDoTouch", inPlace := ["internal/reflectlite.ValueOf", "(internal/reflectlite.Value).Type", "(internal/reflectlite.Value).IsNil", "internal/reflectlite.TypeOf", "(internal/reflectlite.Value).Elem", "(internal/reflectlite.Value).Set"], unfollowed := true, recurses := true, named := ["errors.errorType"], apart := false, laid := [("errors.errorType", laid_errors_errorType)], narrowed := true }
def FnDoTouchUptoSaid : Prop := fnDoTouchUptoRow.holds Tryz.pinned (OpenSpec.upto fnDoTouchSpec)

/-- 'laws.FnDoCopy', WHERE WHAT IT READS IS OF BULK AT MOST 1048576: true; the input reads as it did. -/
def fnDoCopyUptoRow : OpenClaim := { program := "ythelfojlgcjgjaagreatdoor", sum := "4d3b73716bc4132b67be47d084ad626411ed6dfae8796695a66eab858145da84", func := "loop.example/drawbar/laws.FnDoCopy", spec := "fnDoCopy", inPlace := ["internal/reflectlite.ValueOf", "(internal/reflectlite.Value).Type", "(internal/reflectlite.Value).IsNil", "internal/reflectlite.TypeOf", "(internal/reflectlite.Value).Elem", "(internal/reflectlite.Value).Set"], unfollowed := true, recurses := true, named := ["errors.errorType"], apart := false, laid := [("errors.errorType", laid_errors_errorType)], narrowed := true }
def FnDoCopyUptoSaid : Prop := fnDoCopyUptoRow.holds Tryz.pinned (OpenSpec.upto fnDoCopySpec)

/-- 'laws.FnDoRights', WHERE WHAT IT READS IS OF BULK AT MOST 1048576: true; the input reads as it did. -/
def fnDoRightsUptoRow : OpenClaim := { program := "ythelfojlgcjgjaagreatdoor", sum := "4d3b73716bc4132b67be47d084ad626411ed6dfae8796695a66eab858145da84", func := "loop.example/drawbar/laws.FnDoRights", spec := "fnDoRights", inPlace := ["internal/reflectlite.ValueOf", "(internal/reflectlite.Value).Type", "(internal/reflectlite.Value).IsNil", "internal/reflectlite.TypeOf", "(internal/reflectlite.Value).Elem", "(internal/reflectlite.Value).Set"], unfollowed := true, recurses := true, named := ["errors.errorType"], apart := false, laid := [("errors.errorType", laid_errors_errorType)], narrowed := true }
def FnDoRightsUptoSaid : Prop := fnDoRightsUptoRow.holds Tryz.pinned (OpenSpec.upto fnDoRightsSpec)

end Rows
end Go.Proofs.YthelfojlgcjgjaaGreatDoor
