/- A region that draws its order, by an invariant: whichever operations have come up so far, each that may come next keeps it. So a region is walked once an operation, whatever the number of its orders. Conditions: the edges lead back. -/
import Derived.WalkKit
import Derived.RegionTactic
import Derived.Orders
set_option linter.unusedVariables false
set_option linter.unusedSimpArgs false
namespace Go

theorem count_set_true : ∀ (l : List Bool) (i : Nat), l[i]? = some false → (l.set i true).count false + 1 = l.count false
  | [], i, h => by simp at h
  | x :: l, 0, h => by
    have : x = false := by simpa using h
    subst this
    simp
  | x :: l, i + 1, h => by
    have := count_set_true l i (by simpa using h)
    simp only [List.set_cons_succ, List.count_cons]
    omega

section
variable {P : Program} {ops : Array Oper} {Q : Exit → Act → World → Prop} {md : Region.Mode}

theorem ready_done {listed : Array Bool} (hs : listed.size = ops.size) (hback : ∀ (i : Nat) (o : Oper), ops[i]? = some o → ∀ e ∈ o.after, e.on < i) (hr : Region.ready md ops listed = []) : ∀ n i, i < n → i < ops.size → listed.getD i false = true := by
  intro n
  induction n with
  | zero => intro i h; omega
  | succ n ih =>
    intro i hi hlt
    apply Classical.byContradiction
    intro hf
    have hmem : i ∈ Region.ready md ops listed := by
      refine mem_ready.2 ⟨?_, ops[i], by simp [hlt], fun e he _ => ?_⟩
      · have h2 : i < listed.size := by omega
        simp only [Array.getD_eq_getD_getElem?, Array.getElem?_eq_getElem h2, Option.getD_some] at hf ⊢
        simpa using hf
      · have hb := hback i _ (by simp [hlt]) e he
        exact ih e.on (by omega) (by omega)
    rw [hr] at hmem
    cases hmem

theorem wpAny_inv {I : (Nat → Bool) → Act → World → Prop} (hback : ∀ (i : Nat) (o : Oper), ops[i]? = some o → ∀ e ∈ o.after, e.on < i)
    (step : ∀ (d : Nat → Bool) (i : Nat) (o : Oper) (a : Act) (w : World), ops[i]? = some o → d i = false → (∀ e ∈ o.after, Region.binds md e = true → d e.on = true) → I d a w → wpOp P ops Q i (fun a' w' => I (fun j => d j || decide (j = i)) a' w') a w)
    (fin : ∀ d a w, (∀ i, i < ops.size → d i = true) → I d a w → Q .normal a w) :
    ∀ (fuel : Nat) (listed : Array Bool) (a : Act) (w : World), listed.size = ops.size → listed.toList.count false ≤ fuel → I (fun j => listed.getD j false) a w → wpAny P md ops Q fuel listed a w
  | 0, listed, a, w, hs, hc, hI => by
    have hall : ∀ i, i < ops.size → listed.getD i false = true := by
      intro i hi
      have h0 : listed.toList.count false = 0 := by omega
      rw [List.count_eq_zero] at h0
      have h2 : i < listed.size := by omega
      simp only [Array.getD_eq_getD_getElem?, Array.getElem?_eq_getElem h2, Option.getD_some]
      cases hv : listed[i] with
      | true => rfl
      | false => exact absurd (by rw [← hv]; exact Array.getElem_mem_toList ..) h0
    refine ⟨?_, fin _ _ _ hall hI⟩
    apply List.eq_nil_iff_forall_not_mem.2
    intro i hi
    obtain ⟨h1, o, ho, -⟩ := mem_ready.1 hi
    have hlt : i < ops.size := (Array.getElem?_eq_some_iff.1 ho).1
    have h2 : i < listed.size := by omega
    have := hall i hlt
    simp only [Array.getD_eq_getD_getElem?, Array.getElem?_eq_getElem h2, Option.getD_some] at this h1
    rw [h1] at this; cases this
  | fuel + 1, listed, a, w, hs, hc, hI => by
    refine ⟨fun hr => fin _ _ _ (fun i hi => ready_done hs hback hr (i + 1) i (by omega) hi) hI, fun i hi => ?_⟩
    obtain ⟨h1, o, ho, h3⟩ := mem_ready.1 hi
    have hlt : i < ops.size := (Array.getElem?_eq_some_iff.1 ho).1
    have h2 : i < listed.size := by omega
    have hf : listed[i]? = some false := by
      simp only [Array.getD_eq_getD_getElem?, Array.getElem?_eq_getElem h2, Option.getD_some] at h1 ⊢
      rw [h1]
    refine wpOp_mono (fun a' w' h => ?_) (step (fun j => listed.getD j false) i o a w ho (by simp [Array.getD_eq_getD_getElem?, hf]) h3 hI)
    refine wpAny_inv hback step fin fuel _ a' w' (by simpa using hs) ?_ ?_
    · have := count_set_true listed.toList i (by simpa using hf)
      simp only [Array.toList_setIfInBounds]
      omega
    · have e : (fun j => (listed.setIfInBounds i true).getD j false) = (fun j => listed.getD j false || decide (j = i)) := by
        funext j
        simp only [Array.getD_eq_getD_getElem?, Array.getElem?_setIfInBounds]
        by_cases hj : i = j
        · subst hj; simp [h2]
        · have hj' : ¬ j = i := fun e => hj e.symm
          simp [hj, hj']
      rw [e]; exact h

/-- One step an operation, in the order of the text. -/
def OpSteps (P : Program) (md : Region.Mode) (ops : Array Oper) (Q : Exit → Act → World → Prop) (I : (Nat → Bool) → Act → World → Prop) : Nat → List Oper → Prop
  | _, [] => True
  | k, o :: l => (∀ d a w, d k = false → (∀ e ∈ o.after, Region.binds md e = true → d e.on = true) → I d a w → ∀ K : Act → World → Prop, (∀ a' w', I (fun j => d j || decide (j = k)) a' w' → K a' w') →
      if Region.wanted o (yielded ops a.tmps) = true then Oper.wp P o a w K Q else K (a.put o.dst undef) w) ∧ OpSteps P md ops Q I (k + 1) l
theorem OpSteps.at {I : (Nat → Bool) → Act → World → Prop} : ∀ (l : List Oper) (k i : Nat) (o : Oper), OpSteps P md ops Q I k l → l[i]? = some o → ∀ d a w, d (k + i) = false → (∀ e ∈ o.after, Region.binds md e = true → d e.on = true) → I d a w → ∀ K : Act → World → Prop, (∀ a' w', I (fun j => d j || decide (j = k + i)) a' w' → K a' w') →
      if Region.wanted o (yielded ops a.tmps) = true then Oper.wp P o a w K Q else K (a.put o.dst undef) w
  | [], _, _, _, _, h => by simp at h
  | x :: l, k, 0, o, hS, h => by
    have : x = o := by simpa using h
    subst this
    exact hS.1
  | x :: l, k, i + 1, o, hS, h => by
    have := OpSteps.at l (k + 1) i o hS.2 (by simpa using h)
    rw [show k + 1 + i = k + (i + 1) by omega] at this
    exact this

/-- Each operation waits only for such as stand ahead of it. -/
def backB : Nat → List Oper → Bool
  | _, [] => true
  | k, o :: l => o.after.all (fun e => decide (e.on < k)) && backB (k + 1) l
theorem backB_at : ∀ (l : List Oper) (k i : Nat) (o : Oper), backB k l = true → l[i]? = some o → ∀ e ∈ o.after, e.on < k + i
  | [], _, _, _, _, h => by simp at h
  | x :: l, k, 0, o, hb, h => by
    have : x = o := by simpa using h
    subst this
    simp only [backB, Bool.and_eq_true, Array.all_eq_true_iff_forall_mem, decide_eq_true_eq] at hb
    exact hb.1
  | x :: l, k, i + 1, o, hb, h => by
    simp only [backB, Bool.and_eq_true] at hb
    have := backB_at l (k + 1) i o hb.2 (by simpa using h)
    intro e he
    have := this e he
    omega

theorem wp_region_inv {id : Nat} {l : List Oper} {a : Act} {w : World} (I : (Nat → Bool) → Act → World → Prop) (hm : P.follows .mixedOrders = true) (hb : backB 0 l = true)
    (h0 : I (fun _ => false) a w.drew) (step : OpSteps P .any l.toArray Q I 0 l) (fin : ∀ d a w, (∀ i, i < l.length → d i = true) → I d a w → Q .normal a w) : (Code.region id l.toArray true).wp P Q a w := by
  refine wp_region_any hm ?_
  refine wpAny_inv (I := I) (fun i o ho e he => by have := backB_at l 0 i o hb (by simpa using ho) e he; omega) (fun d i o a w ho hd hdep hI => wpOp_step ho fun K hK => ?_) (fun d a w hd hI => fin d a w (by simpa using hd) hI) _ _ _ _ (by simp) (by simp) ?_
  · have := OpSteps.at l 0 i o step (by simpa using ho) d a w (by simpa using hd) hdep hI K
    simp only [Nat.zero_add] at this
    exact this hK
  · have e : (fun j => (Array.replicate l.toArray.size false).getD j false) = (fun _ => false) := by
      funext j
      simp only [Array.getD_eq_getD_getElem?, Array.getElem?_replicate]
      split <;> rfl
    rw [e]; exact h0
end
end Go
