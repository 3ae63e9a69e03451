/-
  No cell of these rows narrows 'for every input' (looked for: loops, veiled, ifaces, maps, wideKeys, modest, calm, conditions, laid).
  DERIVED. THE GIVEN ROWS OF THIS SEAT. 9 by the template 'for every input the law returns true; each argument reads behind the call as it read before'; 0 by the template 'total and deterministic' (their statements: YtiolplhgpodifaaGreatTotals.lean).
  GIVEN WITH THE SEED: the statements are not yours to turn. If you find one false, say at which input.
  Laid BY PROGRAM, IN A SANDBOX (cutbox-rows.mjs): the forced cells as the released guide's own fill.sh prints them over the translation 816ed9926b040a28… (all of the seat's roots in one cut). By AI agents, Wed Nov 11 2026. No macro, syntax, notation, axiom, sorry.
-/
import Derived.Test.YtiolplhgpodifaaGreatChecked
import GoSem.Claim
import GoSem.ClaimJoined
import GoSem.ClaimMapViews
import Derived.JoinedTies
import Derived.KernelRfl
namespace Go.Proofs.YtiolplhgpodifaaGreat
/- THE CELL 'sum', in the pinned program and in every row, IS THE sha256 OF THE DUMP (.gsa) THAT YtiolplhgpodifaaGreatProg.lean LOADS. Nothing in Lean hashes anything: it is a label: what it is worth is what the hold of that sum in a sandbox is worth. -/
noncomputable def Tryz.pinned : Pinned := { name := "ytiolplhgpodifaagreat", sum := "816ed9926b040a287389446a9c01410c0128dd4d8498f40b434a634fa4cbbd6e", checked := Tryz.checked }
namespace Rows
def none {H : Type} : Left H := { results := [], args := [] }

/-- 'laws.FnReachApart': WHATEVER THE INPUT: true; the input reads as it did. -/
def fnReachApartSpec : ChangeSpec := { name := "fnReachApart", fn := fun _ => fun
  | [d] => { results := [.lit (.bool true)], args := [d] }
  | _ => none }
def fnReachApartRow : OpenClaim := { program := "ytiolplhgpodifaagreat", sum := "816ed9926b040a287389446a9c01410c0128dd4d8498f40b434a634fa4cbbd6e", func := "loop.example/drawbar/laws.FnReachApart", spec := "fnReachApart", unfollowed := true, recurses := true, plainKeys := false, apart := false }
def FnReachApartSaid : Prop := fnReachApartRow.holds Tryz.pinned (OpenSpec.ofChange fnReachApartSpec)

/-- ITS FALSE NEIGHBOUR: 'it returns false'. Refute it at one input. -/
def fnReachApartWrong : ChangeSpec := { name := "fnReachApart", fn := fun _ => fun
  | [d] => { results := [.lit (.bool false)], args := [d] }
  | _ => none }
def FnReachApartWrongFalsely : Prop := fnReachApartRow.holds Tryz.pinned (OpenSpec.ofChange fnReachApartWrong)

/-- 'laws.FnReachHas': WHATEVER THE INPUT: true; the input reads as it did. -/
def fnReachHasSpec : ChangeSpec := { name := "fnReachHas", fn := fun _ => fun
  | [d] => { results := [.lit (.bool true)], args := [d] }
  | _ => none }
def fnReachHasRow : OpenClaim := { program := "ytiolplhgpodifaagreat", sum := "816ed9926b040a287389446a9c01410c0128dd4d8498f40b434a634fa4cbbd6e", func := "loop.example/drawbar/laws.FnReachHas", spec := "fnReachHas", unfollowed := true, recurses := true, plainKeys := false, apart := false }
def FnReachHasSaid : Prop := fnReachHasRow.holds Tryz.pinned (OpenSpec.ofChange fnReachHasSpec)

/-- ITS FALSE NEIGHBOUR: 'it returns false'. Refute it at one input. -/
def fnReachHasWrong : ChangeSpec := { name := "fnReachHas", fn := fun _ => fun
  | [d] => { results := [.lit (.bool false)], args := [d] }
  | _ => none }
def FnReachHasWrongFalsely : Prop := fnReachHasRow.holds Tryz.pinned (OpenSpec.ofChange fnReachHasWrong)

/-- 'laws.FnReachMore': WHATEVER THE INPUT: true; the input reads as it did. -/
def fnReachMoreSpec : ChangeSpec := { name := "fnReachMore", fn := fun _ => fun
  | [d1, d2] => { results := [.lit (.bool true)], args := [d1, d2] }
  | _ => none }
def fnReachMoreRow : OpenClaim := { program := "ytiolplhgpodifaagreat", sum := "816ed9926b040a287389446a9c01410c0128dd4d8498f40b434a634fa4cbbd6e", func := "loop.example/drawbar/laws.FnReachMore", spec := "fnReachMore", unfollowed := true, recurses := true, plainKeys := false, apart := false }
def FnReachMoreSaid : Prop := fnReachMoreRow.holds Tryz.pinned (OpenSpec.ofChange fnReachMoreSpec)

/-- ITS FALSE NEIGHBOUR: 'it returns false'. Refute it at one input. -/
def fnReachMoreWrong : ChangeSpec := { name := "fnReachMore", fn := fun _ => fun
  | [d1, d2] => { results := [.lit (.bool false)], args := [d1, d2] }
  | _ => none }
def FnReachMoreWrongFalsely : Prop := fnReachMoreRow.holds Tryz.pinned (OpenSpec.ofChange fnReachMoreWrong)

/-- 'laws.FnReachStep': WHATEVER THE INPUT: true; the input reads as it did. -/
def fnReachStepSpec : ChangeSpec := { name := "fnReachStep", fn := fun _ => fun
  | [d] => { results := [.lit (.bool true)], args := [d] }
  | _ => none }
def fnReachStepRow : OpenClaim := { program := "ytiolplhgpodifaagreat", sum := "816ed9926b040a287389446a9c01410c0128dd4d8498f40b434a634fa4cbbd6e", func := "loop.example/drawbar/laws.FnReachStep", spec := "fnReachStep", unfollowed := true, recurses := true, plainKeys := false, apart := false }
def FnReachStepSaid : Prop := fnReachStepRow.holds Tryz.pinned (OpenSpec.ofChange fnReachStepSpec)

/-- ITS FALSE NEIGHBOUR: 'it returns false'. Refute it at one input. -/
def fnReachStepWrong : ChangeSpec := { name := "fnReachStep", fn := fun _ => fun
  | [d] => { results := [.lit (.bool false)], args := [d] }
  | _ => none }
def FnReachStepWrongFalsely : Prop := fnReachStepRow.holds Tryz.pinned (OpenSpec.ofChange fnReachStepWrong)

/-- 'laws.FnReachKinds': WHATEVER THE INPUT: true; the input reads as it did. -/
def fnReachKindsSpec : ChangeSpec := { name := "fnReachKinds", fn := fun _ => fun
  | [d] => { results := [.lit (.bool true)], args := [d] }
  | _ => none }
def fnReachKindsRow : OpenClaim := { program := "ytiolplhgpodifaagreat", sum := "816ed9926b040a287389446a9c01410c0128dd4d8498f40b434a634fa4cbbd6e", func := "loop.example/drawbar/laws.FnReachKinds", spec := "fnReachKinds", unfollowed := true, recurses := true, plainKeys := false, apart := false }
def FnReachKindsSaid : Prop := fnReachKindsRow.holds Tryz.pinned (OpenSpec.ofChange fnReachKindsSpec)

/-- ITS FALSE NEIGHBOUR: 'it returns false'. Refute it at one input. -/
def fnReachKindsWrong : ChangeSpec := { name := "fnReachKinds", fn := fun _ => fun
  | [d] => { results := [.lit (.bool false)], args := [d] }
  | _ => none }
def FnReachKindsWrongFalsely : Prop := fnReachKindsRow.holds Tryz.pinned (OpenSpec.ofChange fnReachKindsWrong)

/-- 'laws.FnReachWeak': WHATEVER THE INPUT: true; the input reads as it did. -/
def fnReachWeakSpec : ChangeSpec := { name := "fnReachWeak", fn := fun _ => fun
  | [d] => { results := [.lit (.bool true)], args := [d] }
  | _ => none }
def fnReachWeakRow : OpenClaim := { program := "ytiolplhgpodifaagreat", sum := "816ed9926b040a287389446a9c01410c0128dd4d8498f40b434a634fa4cbbd6e", func := "loop.example/drawbar/laws.FnReachWeak", spec := "fnReachWeak", unfollowed := true, recurses := true, plainKeys := false, apart := false }
def FnReachWeakSaid : Prop := fnReachWeakRow.holds Tryz.pinned (OpenSpec.ofChange fnReachWeakSpec)

/-- ITS FALSE NEIGHBOUR: 'it returns false'. Refute it at one input. -/
def fnReachWeakWrong : ChangeSpec := { name := "fnReachWeak", fn := fun _ => fun
  | [d] => { results := [.lit (.bool false)], args := [d] }
  | _ => none }
def FnReachWeakWrongFalsely : Prop := fnReachWeakRow.holds Tryz.pinned (OpenSpec.ofChange fnReachWeakWrong)

/-- 'laws.FnReachTo': WHATEVER THE INPUT: true; the input reads as it did. -/
def fnReachToSpec : ChangeSpec := { name := "fnReachTo", fn := fun _ => fun
  | [d] => { results := [.lit (.bool true)], args := [d] }
  | _ => none }
def fnReachToRow : OpenClaim := { program := "ytiolplhgpodifaagreat", sum := "816ed9926b040a287389446a9c01410c0128dd4d8498f40b434a634fa4cbbd6e", func := "loop.example/drawbar/laws.FnReachTo", spec := "fnReachTo", unfollowed := true, recurses := true, plainKeys := false, apart := false }
def FnReachToSaid : Prop := fnReachToRow.holds Tryz.pinned (OpenSpec.ofChange fnReachToSpec)

/-- ITS FALSE NEIGHBOUR: 'it returns false'. Refute it at one input. -/
def fnReachToWrong : ChangeSpec := { name := "fnReachTo", fn := fun _ => fun
  | [d] => { results := [.lit (.bool false)], args := [d] }
  | _ => none }
def FnReachToWrongFalsely : Prop := fnReachToRow.holds Tryz.pinned (OpenSpec.ofChange fnReachToWrong)

/-- 'laws.FnExactReachTo': WHATEVER THE INPUT: true; the input reads as it did. -/
def fnExactReachToSpec : ChangeSpec := { name := "fnExactReachTo", fn := fun _ => fun
  | [d1, d2, d3, d4] => { results := [.lit (.bool true)], args := [d1, d2, d3, d4] }
  | _ => none }
def fnExactReachToRow : OpenClaim := { program := "ytiolplhgpodifaagreat", sum := "816ed9926b040a287389446a9c01410c0128dd4d8498f40b434a634fa4cbbd6e", func := "loop.example/drawbar/laws.FnExactReachTo", spec := "fnExactReachTo", unfollowed := true, recurses := true, plainKeys := false, apart := false }
def FnExactReachToSaid : Prop := fnExactReachToRow.holds Tryz.pinned (OpenSpec.ofChange fnExactReachToSpec)

/-- ITS FALSE NEIGHBOUR: 'it returns false'. Refute it at one input. -/
def fnExactReachToWrong : ChangeSpec := { name := "fnExactReachTo", fn := fun _ => fun
  | [d1, d2, d3, d4] => { results := [.lit (.bool false)], args := [d1, d2, d3, d4] }
  | _ => none }
def FnExactReachToWrongFalsely : Prop := fnExactReachToRow.holds Tryz.pinned (OpenSpec.ofChange fnExactReachToWrong)

/-- 'laws.FnExactReachAll': WHATEVER THE INPUT: true; the input reads as it did. -/
def fnExactReachAllSpec : ChangeSpec := { name := "fnExactReachAll", fn := fun _ => fun
  | [d] => { results := [.lit (.bool true)], args := [d] }
  | _ => none }
def fnExactReachAllRow : OpenClaim := { program := "ytiolplhgpodifaagreat", sum := "816ed9926b040a287389446a9c01410c0128dd4d8498f40b434a634fa4cbbd6e", func := "loop.example/drawbar/laws.FnExactReachAll", spec := "fnExactReachAll", unfollowed := true, recurses := true, plainKeys := false, apart := false }
def FnExactReachAllSaid : Prop := fnExactReachAllRow.holds Tryz.pinned (OpenSpec.ofChange fnExactReachAllSpec)

/-- ITS FALSE NEIGHBOUR: 'it returns false'. Refute it at one input. -/
def fnExactReachAllWrong : ChangeSpec := { name := "fnExactReachAll", fn := fun _ => fun
  | [d] => { results := [.lit (.bool false)], args := [d] }
  | _ => none }
def FnExactReachAllWrongFalsely : Prop := fnExactReachAllRow.holds Tryz.pinned (OpenSpec.ofChange fnExactReachAllWrong)

/- THE SECOND FORM. 'bulk': how many values and letters a reading holds, each counted each time it is reached (what is shared counts as often as it is met; a slice's spare places count too). A statement '..UptoSaid' is the law's where the arguments, and the package variables that the reading takes, are together of bulk at most 1048576: NARROWER than '..Said'. Prove '..Said' where nothing that the law and all that it calls make is longer than what came in: it says more and counts as full. Else prove '..UptoSaid'. A law counts once. -/
mutual
def uptoBulk {H : Type} : DataW H → Nat
  | .lit (.string bytes) => bytes.length + 1
  | .lit _ => 1
  | .nil => 1
  | .ptr d => uptoBulk d + 1
  | .slice elems spare => uptoBulkAll elems + uptoBulkAll spare + 1
  | .agg parts => uptoBulkAll parts + 1
  | .iface _ d => uptoBulk d + 1
  | .map entries => uptoBulkEntries entries + 1
  | .held _ => 1
def uptoBulkAll {H : Type} : List (DataW H) → Nat
  | [] => 0
  | d :: r => uptoBulk d + uptoBulkAll r
def uptoBulkEntries {H : Type} : List (Lit × DataW H) → Nat
  | [] => 0
  | x :: r => uptoBulkEntry x + uptoBulkEntries r
def uptoBulkEntry {H : Type} : Lit × DataW H → Nat
  | (.string bytes, d) => bytes.length + uptoBulk d + 1
  | (_, d) => uptoBulk d + 1
 end
def uptoSmall : (H : Type) → List (DataW H) → Bool := fun _ ds => decide (uptoBulkAll ds ≤ 1048576)
def OpenSpec.upto (s : _root_.Go.ChangeSpec) : _root_.Go.OpenSpec := { _root_.Go.OpenSpec.ofChange s with cond := some uptoSmall }

/-- 'laws.FnReachApart', WHERE WHAT IT READS IS OF BULK AT MOST 1048576: true; the input reads as it did. -/
def fnReachApartUptoRow : OpenClaim := { program := "ytiolplhgpodifaagreat", sum := "816ed9926b040a287389446a9c01410c0128dd4d8498f40b434a634fa4cbbd6e", func := "loop.example/drawbar/laws.FnReachApart", spec := "fnReachApart", unfollowed := true, recurses := true, plainKeys := false, apart := false, narrowed := true }
def FnReachApartUptoSaid : Prop := fnReachApartUptoRow.holds Tryz.pinned (OpenSpec.upto fnReachApartSpec)

/-- 'laws.FnReachHas', WHERE WHAT IT READS IS OF BULK AT MOST 1048576: true; the input reads as it did. -/
def fnReachHasUptoRow : OpenClaim := { program := "ytiolplhgpodifaagreat", sum := "816ed9926b040a287389446a9c01410c0128dd4d8498f40b434a634fa4cbbd6e", func := "loop.example/drawbar/laws.FnReachHas", spec := "fnReachHas", unfollowed := true, recurses := true, plainKeys := false, apart := false, narrowed := true }
def FnReachHasUptoSaid : Prop := fnReachHasUptoRow.holds Tryz.pinned (OpenSpec.upto fnReachHasSpec)

/-- 'laws.FnReachMore', WHERE WHAT IT READS IS OF BULK AT MOST 1048576: true; the input reads as it did. -/
def fnReachMoreUptoRow : OpenClaim := { program := "ytiolplhgpodifaagreat", sum := "816ed9926b040a287389446a9c01410c0128dd4d8498f40b434a634fa4cbbd6e", func := "loop.example/drawbar/laws.FnReachMore", spec := "fnReachMore", unfollowed := true, recurses := true, plainKeys := false, apart := false, narrowed := true }
def FnReachMoreUptoSaid : Prop := fnReachMoreUptoRow.holds Tryz.pinned (OpenSpec.upto fnReachMoreSpec)

/-- 'laws.FnReachStep', WHERE WHAT IT READS IS OF BULK AT MOST 1048576: true; the input reads as it did. -/
def fnReachStepUptoRow : OpenClaim := { program := "ytiolplhgpodifaagreat", sum := "816ed9926b040a287389446a9c01410c0128dd4d8498f40b434a634fa4cbbd6e", func := "loop.example/drawbar/laws.FnReachStep", spec := "fnReachStep", unfollowed := true, recurses := true, plainKeys := false, apart := false, narrowed := true }
def FnReachStepUptoSaid : Prop := fnReachStepUptoRow.holds Tryz.pinned (OpenSpec.upto fnReachStepSpec)

/-- 'laws.FnReachKinds', WHERE WHAT IT READS IS OF BULK AT MOST 1048576: true; the input reads as it did. -/
def fnReachKindsUptoRow : OpenClaim := { program := "ytiolplhgpodifaagreat", sum := "816ed9926b040a287389446a9c01410c0128dd4d8498f40b434a634fa4cbbd6e", func := "loop.example/drawbar/laws.FnReachKinds", spec := "fnReachKinds", unfollowed := true, recurses := true, plainKeys := false, apart := false, narrowed := true }
def FnReachKindsUptoSaid : Prop := fnReachKindsUptoRow.holds Tryz.pinned (OpenSpec.upto fnReachKindsSpec)

/-- 'laws.FnReachWeak', WHERE WHAT IT READS IS OF BULK AT MOST 1048576: true; the input reads as it did. -/
def fnReachWeakUptoRow : OpenClaim := { program := "ytiolplhgpodifaagreat", sum := "816ed9926b040a287389446a9c01410c0128dd4d8498f40b434a634fa4cbbd6e", func := "loop.example/drawbar/laws.FnReachWeak", spec := "fnReachWeak", unfollowed := true, recurses := true, plainKeys := false, apart := false, narrowed := true }
def FnReachWeakUptoSaid : Prop := fnReachWeakUptoRow.holds Tryz.pinned (OpenSpec.upto fnReachWeakSpec)

/-- 'laws.FnReachTo', WHERE WHAT IT READS IS OF BULK AT MOST 1048576: true; the input reads as it did. -/
def fnReachToUptoRow : OpenClaim := { program := "ytiolplhgpodifaagreat", sum := "816ed9926b040a287389446a9c01410c0128dd4d8498f40b434a634fa4cbbd6e", func := "loop.example/drawbar/laws.FnReachTo", spec := "fnReachTo", unfollowed := true, recurses := true, plainKeys := false, apart := false, narrowed := true }
def FnReachToUptoSaid : Prop := fnReachToUptoRow.holds Tryz.pinned (OpenSpec.upto fnReachToSpec)

/-- 'laws.FnExactReachTo', WHERE WHAT IT READS IS OF BULK AT MOST 1048576: true; the input reads as it did. -/
def fnExactReachToUptoRow : OpenClaim := { program := "ytiolplhgpodifaagreat", sum := "816ed9926b040a287389446a9c01410c0128dd4d8498f40b434a634fa4cbbd6e", func := "loop.example/drawbar/laws.FnExactReachTo", spec := "fnExactReachTo", unfollowed := true, recurses := true, plainKeys := false, apart := false, narrowed := true }
def FnExactReachToUptoSaid : Prop := fnExactReachToUptoRow.holds Tryz.pinned (OpenSpec.upto fnExactReachToSpec)

/-- 'laws.FnExactReachAll', WHERE WHAT IT READS IS OF BULK AT MOST 1048576: true; the input reads as it did. -/
def fnExactReachAllUptoRow : OpenClaim := { program := "ytiolplhgpodifaagreat", sum := "816ed9926b040a287389446a9c01410c0128dd4d8498f40b434a634fa4cbbd6e", func := "loop.example/drawbar/laws.FnExactReachAll", spec := "fnExactReachAll", unfollowed := true, recurses := true, plainKeys := false, apart := false, narrowed := true }
def FnExactReachAllUptoSaid : Prop := fnExactReachAllUptoRow.holds Tryz.pinned (OpenSpec.upto fnExactReachAllSpec)

end Rows
end Go.Proofs.YtiolplhgpodifaaGreat
