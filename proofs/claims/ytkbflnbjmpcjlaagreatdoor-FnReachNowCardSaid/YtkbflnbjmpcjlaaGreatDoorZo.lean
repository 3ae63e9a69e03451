/- The law that what one cannot come to have one never has answers true whatever the bytes that come in, and leaves them as they were. Conditions: those of its row; its listed variable is tied to the program's text. -/
import Derived.Test.YtkbflnbjmpcjlaaGreatDoorKa
import Derived.Test.YtkbflnbjmpcjlaaGreatDoorZn
import Derived.Test.YtkbflnbjmpcjlaaGreatDoorCards
import Derived.Test.YtkbflnbjmpcjlaaGreatDoorTie
import Derived.SevenTiedAt
import Derived.Deep.Frames
set_option linter.unusedVariables false
set_option linter.unusedSimpArgs false
namespace Go.Proofs.YtkbflnbjmpcjlaaGreatDoor
open Go Go.ChangeShapes Go.WideShapes Go.RowKit Drw

set_option maxRecDepth 100000 in
theorem fnReachNow_lifted (os : Os) (started : os.Started) (H : Type) (enc : TypeId × Value → H) :
    ReturnsInHanded {} Tryz.checked os 6 .any (fun w args => (Rows.fnReachNowSpec.pre enc Tryz.prog Tryz.f6 [] false w args ∧ laidMetH Tryz.prog Rows.fnReachNowRow.laid w) ∧ sizedMet enc Tryz.prog Tryz.f6 (OpenSpec.ofChange Rows.fnReachNowSpec) false w args)
      (Rows.fnReachNowSpec.post enc Tryz.prog Tryz.f6 false true false false) := by
  refine returnsInHanded_of_change_and (C := Tryz.checked) (X := fun w _ => laidMetH Tryz.prog Rows.fnReachNowRow.laid w) (fun _ _ _ hh h => h.of_heap hh) own started (by kernel_rfl) Tryz.func6
    (ChangeSpec.witness_at (enc := enc) (C := Tryz.checked) (os := os) (X := fun w _ => laidMetH Tryz.prog Rows.fnReachNowRow.laid w) false (laidWorld os) #[.slice none 0 0] 8 rfl (by kernel_rfl) (by kernel_rfl) (by kernel_rfl) (by kernel_rfl) (by kernel_rfl) (laidWorld_met os _)) ?_
  intro W base args ds gs before hval0 hW _ _ hL _
  have hval : ∀ (j : Nat) t v, Tryz.f6.params[j]? = some t → args[j]? = some v → Value.okWide Tryz.prog W .any base t v := hval0
  have hW' := hW
  obtain ⟨p, q, hA0, hV0, rfl, hfz, hnd⟩ := hW
  have hA : DataW.TrodAll enc Tryz.prog W 0 (fun _ => true) true Tryz.f6.params.toList args.toList ds p := hA0
  have hV : DataW.TrodVars enc Tryz.prog W (fun _ => true) [] gs q := hV0
  rw [Tryz.params6] at hA hval
  obtain ⟨v0, d0, rfl, rfl, h0⟩ := trodAll_one hA
  have hlt : ∀ x ∈ p, x.block < W.heap.size := fun x hx => hW'.lt x (List.mem_append_left _ hx)
  obtain ⟨a, n, cap, rfl, hn, hm, hB, hcl⟩ := bytes_of (hval 0 22 v0 rfl rfl) h0
  have hl := laid_of_met hL
  obtain ⟨rfl, rfl⟩ : gs = [] ∧ q = [] := by
    cases gs with
    | nil => exact ⟨rfl, hV⟩
    | cons g r => exact absurd hV (by intro h; cases h)
  have e1 : Rows.fnReachNowSpec.fn H ([d0] ++ []) = { results := [.lit (.bool true)], args := [d0] } := by simp [Rows.fnReachNowSpec]
  refine (fnReachNow_c a n cap W hl hn hB).mono fun e W' ⟨he, hw⟩ => ?_
  subst he
  refine ⟨_, rfl, _, _, _, [], p, [], hW', ?_, ?_, ?_, hw.frame _, fun h => by cases h⟩
  · rw [e1]; exact trodAll_mk1 (shut_bool Tryz.underlying4 true)
  · rw [e1]; exact trodAll_mk1 (WideElems.Trod_stays lawLaidOut (by kernel_rfl) (of_decide_eq_true (by kernel_rfl)) h0 (fun x hx => World.keptBut.sameAt (hw.frame (fun _ => False)) (hlt x hx) (fun h => h) (fun b e => by obtain ⟨b', o', e'⟩ := hcl x hx; rw [e'] at e; cases e)) (fun x hx => by simpa using hlt x hx))
  · rw [e1]; rfl

theorem fnReachNow_said : Rows.FnReachNowSaid :=
  OpenClaim.holds_of_wide 6 Tryz.f6 rfl rfl rfl rfl rfl rfl rfl ⟨rfl, rfl, rfl, rfl, rfl⟩ rfl rfl rfl rfl rfl (by kernel_rfl) Tryz.func6 (by kernel_rfl)
    (of_decide_eq_true (by kernel_rfl)) (by unfold Func.isWrapper; rw [if_neg (of_decide_eq_false (by kernel_rfl))]; exact ⟨rfl, rfl⟩)
    (fun os started H enc _ => fnReachNow_lifted os started H enc)

theorem fnReachNow_holds : Rows.FnReachNowCardSaid :=
  Claim7.holds_tied_plain_at .later [] [.handle] true (true, "f95ba16f7e6b9972f34c41e94bb5d7318bcd0685daa3215151ea0647d2d73c87") true
    fnReachNow_said (fun _ h => by cases h) (by kernel_rfl) (fun _ h => by cases h) fnReachNow_row_tie rfl ⟨rfl, rfl⟩ (by kernel_rfl) rfl
    (fun f fn hf hfn => by
      obtain rfl : f = 6 := Option.some.inj ((show Tryz.prog.funcNamed "loop.example/drawbar/laws.FnReachNow" = some 6 by kernel_rfl).symm.trans hf) |>.symm
      obtain rfl : fn = Tryz.f6 := (Option.some.inj (Tryz.func6.symm.trans hfn)).symm
      exact ⟨by kernel_rfl, fun j t ht => by
        rw [Tryz.params6] at ht
        have h3 : t = 22 := by
          rcases j with _ | j
          · simpa using ht.symm
          · simp at ht
        subst h3
        exact (show Tryz.prog.wantsStandIn 22 = false by kernel_rfl)⟩)
    (by kernel_rfl)
#print axioms fnReachNow_holds
end Go.Proofs.YtkbflnbjmpcjlaaGreatDoor
