/- The statement that the program's RunAll returns what the reference's returns, for all arguments, proved. Conditions: those of its row; its listed variable is tied to the program's text. -/
import Derived.Test.YtghbphdipdjekaaGreatDoorKa
import Derived.Test.YtghbphdipdjekaaGreatDoorTg
import Derived.Test.YtghbphdipdjekaaGreatDoorEo
import Derived.Test.YtghbphdipdjekaaGreatDoorCards
import Derived.Test.YtghbphdipdjekaaGreatDoorTie
import Derived.SevenTiedAt
import Derived.Deep.Frames
set_option linter.unusedVariables false
set_option linter.unusedSimpArgs false
namespace Go.Proofs.YtghbphdipdjekaaGreatDoor
open Go Go.ChangeShapes Go.WideShapes Go.RowKit Drw

set_option maxRecDepth 100000 in
theorem fnExactRunAll_lifted (os : Os) (started : os.Started) (H : Type) (enc : TypeId × Value → H) :
    ReturnsInHanded {} Tryz.checked os 15 .any (fun w args => (Rows.fnExactRunAllSpec.pre enc Tryz.prog Tryz.f15 [] false w args ∧ laidMetH Tryz.prog Rows.fnExactRunAllRow.laid w) ∧ sizedMet enc Tryz.prog Tryz.f15 (OpenSpec.ofChange Rows.fnExactRunAllSpec) false w args)
      (Rows.fnExactRunAllSpec.post enc Tryz.prog Tryz.f15 false true false false) := by
  refine returnsInHanded_of_change_and (C := Tryz.checked) (X := fun w _ => laidMetH Tryz.prog Rows.fnExactRunAllRow.laid w) (fun _ _ _ hh h => h.of_heap hh) ownX started (by kernel_rfl) Tryz.func15
    (ChangeSpec.witness_at (enc := enc) (C := Tryz.checked) (os := os) (X := fun w _ => laidMetH Tryz.prog Rows.fnExactRunAllRow.laid w) false (laidWorld os) #[.slice none 0 0, .slice none 0 0] 8 rfl (by kernel_rfl) (by kernel_rfl) (by kernel_rfl) (by kernel_rfl) (by kernel_rfl) (laidWorld_met os _)) ?_
  intro W base args ds gs before hval0 hW _ _ hL _
  have hval : ∀ (j : Nat) t v, Tryz.f15.params[j]? = some t → args[j]? = some v → Value.okWide Tryz.prog W .any base t v := hval0
  have hW' := hW
  obtain ⟨p, q, hA0, hV0, rfl, hfz, hnd⟩ := hW
  have hA : DataW.TrodAll enc Tryz.prog W 0 (fun _ => true) true Tryz.f15.params.toList args.toList ds p := hA0
  have hV : DataW.TrodVars enc Tryz.prog W (fun _ => true) [] gs q := hV0
  rw [Tryz.params15] at hA hval
  obtain ⟨v0, v1, d0, d1, p0, p1, rfl, rfl, rfl, h0, h1⟩ := trodAll_two hA
  have hlt : ∀ x ∈ p0 ++ p1, x.block < W.heap.size := fun x hx => hW'.lt x (List.mem_append_left _ hx)
  obtain ⟨a0, cap0, ts0, rfl, hT0⟩ := thgs_of (hval 0 58 v0 rfl rfl) h0
  obtain ⟨a1, cap1, ts1, rfl, hT1⟩ := cals_of (hval 1 67 v1 rfl rfl) h1
  have hl := laid_of_met hL
  obtain ⟨rfl, rfl⟩ : gs = [] ∧ q = [] := by
    cases gs with
    | nil => exact ⟨rfl, hV⟩
    | cons g r => exact absurd hV (by intro h; cases h)
  have e1 : Rows.fnExactRunAllSpec.fn H ([d0, d1] ++ []) = { results := [.lit (.bool true)], args := [d0, d1] } := by simp [Rows.fnExactRunAllSpec]
  refine (fnExactRunAll_c W hl hT0 hT1).mono fun e W' ⟨he, hw⟩ => ?_
  subst he
  refine ⟨_, rfl, _, _, _, [], p0 ++ p1, [], hW', ?_, ?_, ?_, hw.frame _, fun h => by cases h⟩
  · rw [e1]; exact trodAll_mk1 (shut_bool Tryz.underlying4 true)
  · rw [e1]; exact trodAll_mk2 (Below.trod lawLaidOutX (by kernel_rfl) (of_decide_eq_true (by kernel_rfl)) h0 hw (fun x hx => hlt x (by simp [hx]))) (Below.trod lawLaidOutX (by kernel_rfl) (of_decide_eq_true (by kernel_rfl)) h1 hw (fun x hx => hlt x (by simp [hx])))
  · rw [e1]; rfl

set_option maxRecDepth 100000 in
theorem fnExactRunAll_closed : joinedFacts Tryz.pinned.checked.prog 15 Tryz.f15 Rows.fnExactRunAllSpec Rows.fnExactRunAllRow = true := by kernel_rfl
theorem fnExactRunAll_said : Rows.FnExactRunAllSaid :=
  OpenClaim.holds_of_wide 15 Tryz.f15 rfl rfl rfl rfl rfl rfl rfl ⟨rfl, rfl, rfl, rfl, rfl⟩ rfl rfl rfl rfl rfl (by kernel_rfl) Tryz.func15 fnExactRunAll_closed
    (of_decide_eq_true (by kernel_rfl)) (by unfold Func.isWrapper; rw [if_neg (of_decide_eq_false (by kernel_rfl))]; exact ⟨rfl, rfl⟩)
    (fun os started H enc _ => fnExactRunAll_lifted os started H enc)

theorem fnExactRunAll_holds : Rows.FnExactRunAllCardSaid :=
  Claim7.holds_tied_plain_at .later [] [.handle] true (true, "b377f68cbe446cb376d1c97b912f005ea04d6597e96568119fb4aad1cbba6cb6") true
    fnExactRunAll_said (fun _ h => by cases h) (by kernel_rfl) (fun _ h => by cases h) fnExactRunAll_row_tie rfl ⟨rfl, rfl⟩ (by kernel_rfl) rfl
    (fun f fn hf hfn => by
      obtain rfl : f = 15 := Option.some.inj ((show Tryz.prog.funcNamed "loop.example/drawbar/laws.FnExactRunAll" = some 15 by kernel_rfl).symm.trans hf) |>.symm
      obtain rfl : fn = Tryz.f15 := (Option.some.inj (Tryz.func15.symm.trans hfn)).symm
      exact ⟨by kernel_rfl, fun j t ht => by
        rw [Tryz.params15] at ht
        rcases j with _ | _ | j
        · obtain rfl : t = 58 := by simpa using ht.symm
          exact (show Tryz.prog.wantsStandIn 58 = false by kernel_rfl)
        · obtain rfl : t = 67 := by simpa using ht.symm
          exact (show Tryz.prog.wantsStandIn 67 = false by kernel_rfl)
        · simp at ht⟩)
    (by kernel_rfl)
#print axioms fnExactRunAll_holds
end Go.Proofs.YtghbphdipdjekaaGreatDoor
