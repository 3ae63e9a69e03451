/- The law that what can be come to have is told in one order answers true whatever the bytes that come in, and leaves them as they were. Conditions: those of its row; its listed variable is tied to the program's text. Conditions: those of its row; its listed variable is tied to the program's text. -/
import Derived.Test.YtkbflnbjmpcjlaaGreatDoorKa
import Derived.Test.YtkbflnbjmpcjlaaGreatDoorZq
import Derived.Test.YtkbflnbjmpcjlaaGreatDoorCards
import Derived.Test.YtkbflnbjmpcjlaaGreatDoorTie
import Derived.SevenTiedAt
import Derived.Deep.Frames
set_option linter.unusedVariables false
set_option linter.unusedSimpArgs false
namespace Go.Proofs.YtkbflnbjmpcjlaaGreatDoor
open Go Go.ChangeShapes Go.WideShapes Go.RowKit Drw

set_option maxRecDepth 100000 in
theorem fnReachOrder_lifted (os : Os) (started : os.Started) (H : Type) (enc : TypeId × Value → H) :
    ReturnsInHanded {} Tryz.checked os 3 .any (fun w args => (Rows.fnReachOrderSpec.pre enc Tryz.prog Tryz.f3 [] false w args ∧ laidMetH Tryz.prog Rows.fnReachOrderRow.laid w) ∧ sizedMet enc Tryz.prog Tryz.f3 (OpenSpec.ofChange Rows.fnReachOrderSpec) false w args)
      (Rows.fnReachOrderSpec.post enc Tryz.prog Tryz.f3 false true false false) := by
  refine returnsInHanded_of_change_and (C := Tryz.checked) (X := fun w _ => laidMetH Tryz.prog Rows.fnReachOrderRow.laid w) (fun _ _ _ hh h => h.of_heap hh) own started (by kernel_rfl) Tryz.func3
    (ChangeSpec.witness_at (enc := enc) (C := Tryz.checked) (os := os) (X := fun w _ => laidMetH Tryz.prog Rows.fnReachOrderRow.laid w) false (laidWorld os) #[.slice none 0 0, .slice none 0 0] 8 rfl (by kernel_rfl) (by kernel_rfl) (by kernel_rfl) (by kernel_rfl) (by kernel_rfl) (laidWorld_met os _)) ?_
  intro W base args ds gs before hval0 hW _ _ hL _
  have hval : ∀ (j : Nat) t v, Tryz.f3.params[j]? = some t → args[j]? = some v → Value.okWide Tryz.prog W .any base t v := hval0
  have hW' := hW
  obtain ⟨p, q, hA0, hV0, rfl, hfz, hnd⟩ := hW
  have hA : DataW.TrodAll enc Tryz.prog W 0 (fun _ => true) true Tryz.f3.params.toList args.toList ds p := hA0
  have hV : DataW.TrodVars enc Tryz.prog W (fun _ => true) [] gs q := hV0
  rw [Tryz.params3] at hA hval
  obtain ⟨v0, v1, d0, d1, p0, p1, rfl, rfl, rfl, h0, h1⟩ := trodAll_two hA
  have hlt : ∀ x ∈ p0 ++ p1, x.block < W.heap.size := fun x hx => hW'.lt x (List.mem_append_left _ hx)
  obtain ⟨a, n, cap, rfl, hn, hm, hB, hcl⟩ := bytes_of (hval 0 22 v0 rfl rfl) h0
  obtain ⟨a2, n2, cap2, rfl, hn2, hm2, hB2, hcl2⟩ := bytes_of (hval 1 22 v1 rfl rfl) h1
  have hl := laid_of_met hL
  obtain ⟨rfl, rfl⟩ : gs = [] ∧ q = [] := by
    cases gs with
    | nil => exact ⟨rfl, hV⟩
    | cons g r => exact absurd hV (by intro h; cases h)
  have e1 : Rows.fnReachOrderSpec.fn H ([d0, d1] ++ []) = { results := [.lit (.bool true)], args := [d0, d1] } := by simp [Rows.fnReachOrderSpec]
  refine (fnReachOrder_c a n cap a2 n2 cap2 W hl hn hB).mono fun e W' ⟨he, hw⟩ => ?_
  subst he
  refine ⟨_, rfl, _, _, _, [], p0 ++ p1, [], hW', ?_, ?_, ?_, hw.frame _, fun h => by cases h⟩
  · rw [e1]; exact trodAll_mk1 (shut_bool Tryz.underlying4 true)
  · rw [e1]; exact trodAll_mk2 (WideElems.Trod_stays lawLaidOut (by kernel_rfl) (of_decide_eq_true (by kernel_rfl)) h0 (fun x hx => World.keptBut.sameAt (hw.frame (fun _ => False)) (hlt x (List.mem_append_left _ hx)) (fun h => h) (fun b e => by obtain ⟨b', o', e'⟩ := hcl x hx; rw [e'] at e; cases e)) (fun x hx => by simpa using hlt x (List.mem_append_left _ hx))) (WideElems.Trod_stays lawLaidOut (by kernel_rfl) (of_decide_eq_true (by kernel_rfl)) h1 (fun x hx => World.keptBut.sameAt (hw.frame (fun _ => False)) (hlt x (List.mem_append_right _ hx)) (fun h => h) (fun b e => by obtain ⟨b', o', e'⟩ := hcl2 x hx; rw [e'] at e; cases e)) (fun x hx => by simpa using hlt x (List.mem_append_right _ hx)))
  · rw [e1]; rfl

theorem fnReachOrder_said : Rows.FnReachOrderSaid :=
  OpenClaim.holds_of_wide 3 Tryz.f3 rfl rfl rfl rfl rfl rfl rfl ⟨rfl, rfl, rfl, rfl, rfl⟩ rfl rfl rfl rfl rfl (by kernel_rfl) Tryz.func3 (by kernel_rfl)
    (of_decide_eq_true (by kernel_rfl)) (by unfold Func.isWrapper; rw [if_neg (of_decide_eq_false (by kernel_rfl))]; exact ⟨rfl, rfl⟩)
    (fun os started H enc _ => fnReachOrder_lifted os started H enc)

theorem fnReachOrder_holds : Rows.FnReachOrderCardSaid :=
  Claim7.holds_tied_plain_at .later [] [.handle] true (true, "f95ba16f7e6b9972f34c41e94bb5d7318bcd0685daa3215151ea0647d2d73c87") true
    fnReachOrder_said (fun _ h => by cases h) (by kernel_rfl) (fun _ h => by cases h) fnReachOrder_row_tie rfl ⟨rfl, rfl⟩ (by kernel_rfl) rfl
    (fun f fn hf hfn => by
      obtain rfl : f = 3 := Option.some.inj ((show Tryz.prog.funcNamed "loop.example/drawbar/laws.FnReachOrder" = some 3 by kernel_rfl).symm.trans hf) |>.symm
      obtain rfl : fn = Tryz.f3 := (Option.some.inj (Tryz.func3.symm.trans hfn)).symm
      exact ⟨by kernel_rfl, fun j t ht => by
        rw [Tryz.params3] at ht
        have h3 : t = 22 := by
          rcases j with _ | _ | j
          · simpa using ht.symm
          · simpa using ht.symm
          · simp at ht
        subst h3
        exact (show Tryz.prog.wantsStandIn 22 = false by kernel_rfl)⟩)
    (by kernel_rfl)
#print axioms fnReachOrder_holds
end Go.Proofs.YtkbflnbjmpcjlaaGreatDoor
