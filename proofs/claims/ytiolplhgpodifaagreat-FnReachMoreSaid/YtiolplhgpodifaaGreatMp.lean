/- The statement that with a right more one can come to have no less, proved. Conditions: those of its row. -/
import Derived.Test.YtiolplhgpodifaaGreatKb
import Derived.Test.YtiolplhgpodifaaGreatMo
import Derived.SevenTiedAt
import Derived.SizedLaws
import Derived.Deep.Frames
set_option linter.unusedVariables false
set_option linter.unusedSimpArgs false
namespace Go.Proofs.YtiolplhgpodifaaGreat
open Go Go.ChangeShapes Go.WideShapes Go.RowKit Drw

set_option maxRecDepth 100000 in
theorem fnReachMore_lifted (os : Os) (started : os.Started) (H : Type) (enc : TypeId × Value → H) :
    ReturnsInHanded {} Tryz.checked os 5 .any (Rows.fnReachMoreSpec.pre6 enc Tryz.prog Tryz.f5 Rows.fnReachMoreRow.domain false) (Rows.fnReachMoreSpec.post enc Tryz.prog Tryz.f5 false true false false) := by
  refine returnsInHanded_of_change_sized (C := Tryz.checked) own started (by kernel_rfl) Tryz.func5
    (ChangeSpec.witness6 (enc := enc) (C := Tryz.checked) false ⟨#[], #[.slice none 0 0, .slice none 0 0], []⟩ 8 (by kernel_rfl) (by kernel_rfl) (by kernel_rfl) (by kernel_rfl)) ?_
  intro W base args ds gs before hval0 hW _ _ _
  have hval : ∀ (j : Nat) t v, Tryz.f5.params[j]? = some t → args[j]? = some v → Value.okWide Tryz.prog W .any base t v := hval0
  have hW' := hW
  obtain ⟨p, q, hA0, hV0, rfl, hfz, hnd⟩ := hW
  have hA : DataW.TrodAll enc Tryz.prog W 0 (fun _ => true) true Tryz.f5.params.toList args.toList ds p := hA0
  have hV : DataW.TrodVars enc Tryz.prog W (fun _ => true) [] gs q := hV0
  rw [Tryz.params5] at hA hval
  obtain ⟨v0, v1, d0, d1, p0, p1, rfl, rfl, rfl, h0, h1⟩ := trodAll_two hA
  have hlt : ∀ x ∈ p0 ++ p1, x.block < W.heap.size := fun x hx => hW'.lt x (List.mem_append_left _ hx)
  obtain ⟨a, n, cap, rfl, hn, hm, hB, hcl⟩ := bytes_of (hval 0 22 v0 rfl rfl) h0
  obtain ⟨a2, n2, cap2, rfl, hn2, hm2, hB2, hcl2⟩ := bytes_of (hval 1 22 v1 rfl rfl) h1
  obtain ⟨rfl, rfl⟩ : gs = [] ∧ q = [] := by
    cases gs with
    | nil => exact ⟨rfl, hV⟩
    | cons g r => exact absurd hV (by intro h; cases h)
  have e1 : Rows.fnReachMoreSpec.fn H ([d0, d1] ++ []) = { results := [.lit (.bool true)], args := [d0, d1] } := by simp [Rows.fnReachMoreSpec]
  refine (fnReachMore_c a n cap a2 n2 cap2 W hn hB).mono fun e W' ⟨he, hw⟩ => ?_
  subst he
  refine ⟨_, rfl, _, _, _, [], p0 ++ p1, [], hW', ?_, ?_, ?_, hw.frame _, fun h => by cases h⟩
  · rw [e1]; exact trodAll_mk1 (shut_bool Tryz.underlying4 true)
  · rw [e1]; exact trodAll_mk2 (WideElems.Trod_stays lawLaidOut (by kernel_rfl) (of_decide_eq_true (by kernel_rfl)) h0 (fun x hx => World.keptBut.sameAt (hw.frame (fun _ => False)) (hlt x (List.mem_append_left _ hx)) (fun h => h) (fun b e => by obtain ⟨b', o', e'⟩ := hcl x hx; rw [e'] at e; cases e)) (fun x hx => by simpa using hlt x (List.mem_append_left _ hx))) (WideElems.Trod_stays lawLaidOut (by kernel_rfl) (of_decide_eq_true (by kernel_rfl)) h1 (fun x hx => World.keptBut.sameAt (hw.frame (fun _ => False)) (hlt x (List.mem_append_right _ hx)) (fun h => h) (fun b e => by obtain ⟨b', o', e'⟩ := hcl2 x hx; rw [e'] at e; cases e)) (fun x hx => by simpa using hlt x (List.mem_append_right _ hx)))
  · rw [e1]; rfl

theorem fnReachMore_holds : Rows.FnReachMoreSaid :=
  OpenClaim.holds_of_wide 5 Tryz.f5 rfl rfl rfl rfl rfl rfl rfl ⟨rfl, rfl, rfl, rfl, rfl⟩ rfl rfl rfl rfl rfl (by kernel_rfl) Tryz.func5 (by kernel_rfl)
    (of_decide_eq_true (by kernel_rfl)) (by unfold Func.isWrapper; rw [if_neg (of_decide_eq_false (by kernel_rfl))]; exact ⟨rfl, rfl⟩)
    (fun os started H enc _ => fnReachMore_lifted os started H enc)
#print axioms fnReachMore_holds
end Go.Proofs.YtiolplhgpodifaaGreat
