/- As XIv, where an edge that does not bind may lead forward. -/
import Derived.Test.YtghbphdipdjekaaGreatDoorIv
import Derived.Test.YtghbphdipdjekaaGreatDoorMa
set_option linter.unusedVariables false
set_option linter.unusedSimpArgs false
namespace Go
section
variable {P : Program} {ops : Array Oper} {Q : Exit → Act → World → Prop} {md : Region.Mode}

theorem ready_doneB {listed : Array Bool} (hs : listed.size = ops.size) (hback : ∀ (i : Nat) (o : Oper), ops[i]? = some o → ∀ e ∈ o.after, Region.binds md e = true → e.on < i) (hr : Region.ready md ops listed = []) : ∀ n i, i < n → i < ops.size → listed.getD i false = true := by
  intro n
  induction n with
  | zero => intro i h; omega
  | succ n ih =>
    intro i hi hlt
    apply Classical.byContradiction
    intro hf
    have hmem : i ∈ Region.ready md ops listed := by
      refine mem_ready.2 ⟨?_, ops[i], by simp [hlt], fun e he hbd => ?_⟩
      · have h2 : i < listed.size := by omega
        simp only [Array.getD_eq_getD_getElem?, Array.getElem?_eq_getElem h2, Option.getD_some] at hf ⊢
        simpa using hf
      · have hb := hback i _ (by simp [hlt]) e he hbd
        exact ih e.on (by omega) (by omega)
    rw [hr] at hmem
    cases hmem

theorem wpAnyB_inv {I : (Nat → Bool) → Act → World → Prop} (hback : ∀ (i : Nat) (o : Oper), ops[i]? = some o → ∀ e ∈ o.after, Region.binds md e = true → e.on < i)
    (step : ∀ (d : Nat → Bool) (i : Nat) (o : Oper) (a : Act) (w : World), ops[i]? = some o → d i = false → (∀ e ∈ o.after, Region.binds md e = true → d e.on = true) → I d a w → wpOp P ops Q i (fun a' w' => I (fun j => d j || decide (j = i)) a' w') a w)
    (fin : ∀ d a w, (∀ i, i < ops.size → d i = true) → I d a w → Q .normal a w) :
    ∀ (fuel : Nat) (listed : Array Bool) (a : Act) (w : World), listed.size = ops.size → listed.toList.count false ≤ fuel → I (fun j => listed.getD j false) a w → wpAny P md ops Q fuel listed a w
  | 0, listed, a, w, hs, hc, hI => by
    have hall : ∀ i, i < ops.size → listed.getD i false = true := by
      intro i hi
      have h0 : listed.toList.count false = 0 := by omega
      rw [List.count_eq_zero] at h0
      have h2 : i < listed.size := by omega
      simp only [Array.getD_eq_getD_getElem?, Array.getElem?_eq_getElem h2, Option.getD_some]
      cases hv : listed[i] with
      | true => rfl
      | false => exact absurd (by rw [← hv]; exact Array.getElem_mem_toList ..) h0
    refine ⟨?_, fin _ _ _ hall hI⟩
    apply List.eq_nil_iff_forall_not_mem.2
    intro i hi
    obtain ⟨h1, o, ho, -⟩ := mem_ready.1 hi
    have hlt : i < ops.size := (Array.getElem?_eq_some_iff.1 ho).1
    have h2 : i < listed.size := by omega
    have := hall i hlt
    simp only [Array.getD_eq_getD_getElem?, Array.getElem?_eq_getElem h2, Option.getD_some] at this h1
    rw [h1] at this; cases this
  | fuel + 1, listed, a, w, hs, hc, hI => by
    refine ⟨fun hr => fin _ _ _ (fun i hi => ready_doneB hs hback hr (i + 1) i (by omega) hi) hI, fun i hi => ?_⟩
    obtain ⟨h1, o, ho, h3⟩ := mem_ready.1 hi
    have hlt : i < ops.size := (Array.getElem?_eq_some_iff.1 ho).1
    have h2 : i < listed.size := by omega
    have hf : listed[i]? = some false := by
      simp only [Array.getD_eq_getD_getElem?, Array.getElem?_eq_getElem h2, Option.getD_some] at h1 ⊢
      rw [h1]
    refine wpOp_mono (fun a' w' h => ?_) (step (fun j => listed.getD j false) i o a w ho (by simp [Array.getD_eq_getD_getElem?, hf]) h3 hI)
    refine wpAnyB_inv hback step fin fuel _ a' w' (by simpa using hs) ?_ ?_
    · have := count_set_true listed.toList i (by simpa using hf)
      simp only [Array.toList_setIfInBounds]
      omega
    · have e : (fun j => (listed.setIfInBounds i true).getD j false) = (fun j => listed.getD j false || decide (j = i)) := by
        funext j
        simp only [Array.getD_eq_getD_getElem?, Array.getElem?_setIfInBounds]
        by_cases hj : i = j
        · subst hj; simp [h2]
        · have hj' : ¬ j = i := fun e => hj e.symm
          simp [hj, hj']
      rw [e]; exact h

/-- Each operation waits only for such as stand ahead of it. -/
def backBB (md : Region.Mode) : Nat → List Oper → Bool
  | _, [] => true
  | k, o :: l => o.after.all (fun e => !Region.binds md e || decide (e.on < k)) && backBB md (k + 1) l
theorem backBB_at : ∀ (l : List Oper) (k i : Nat) (o : Oper), backBB md k l = true → l[i]? = some o → ∀ e ∈ o.after, Region.binds md e = true → e.on < k + i
  | [], _, _, _, _, h => by simp at h
  | x :: l, k, 0, o, hb, h => by
    have : x = o := by simpa using h
    subst this
    simp only [backBB, Bool.and_eq_true, Array.all_eq_true_iff_forall_mem, decide_eq_true_eq, Bool.or_eq_true, Bool.not_eq_true'] at hb
    intro e he hbd
    rcases hb.1 e he with h | h
    · rw [hbd] at h; cases h
    · exact h
  | x :: l, k, i + 1, o, hb, h => by
    simp only [backBB, Bool.and_eq_true] at hb
    have := backBB_at l (k + 1) i o hb.2 (by simpa using h)
    intro e he hbd
    have := this e he hbd
    omega

theorem wp_region_invB {id : Nat} {l : List Oper} {a : Act} {w : World} (I : (Nat → Bool) → Act → World → Prop) (hm : P.follows .mixedOrders = true) (hb : backBB .any 0 l = true)
    (h0 : I (fun _ => false) a w.drew) (step : OpSteps P .any l.toArray Q I 0 l) (fin : ∀ d a w, (∀ i, i < l.length → d i = true) → I d a w → Q .normal a w) : (Code.region id l.toArray true).wp P Q a w := by
  refine wp_region_any hm ?_
  refine wpAnyB_inv (I := I) (fun i o ho e he hbd => by have := backBB_at l 0 i o hb (by simpa using ho) e he hbd; omega) (fun d i o a w ho hd hdep hI => wpOp_step ho fun K hK => ?_) (fun d a w hd hI => fin d a w (by simpa using hd) hI) _ _ _ _ (by simp) (by simp) ?_
  · have := OpSteps.at l 0 i o step (by simpa using ho) d a w (by simpa using hd) hdep hI K
    simp only [Nat.zero_add] at this
    exact this hK
  · have e : (fun j => (Array.replicate l.toArray.size false).getD j false) = (fun _ => false) := by
      funext j
      simp only [Array.getD_eq_getD_getElem?, Array.getElem?_replicate]
      split <;> rfl
    rw [e]; exact h0
end
end Go

/- A right put into a set. -/
namespace Go.Proofs.YtghbphdipdjekaaGreatDoor
open Go.RowKit Drw
attribute [local go_sem] Lab.val Rgt.val Cal.val Thg.val

structure SaI (s b : Nat) (r : Rgt) (f : Bool) (w0 : World) (d : Nat → Bool) (w : World) (v5 v6 v7 v8 v9 v10 v11 v12 v13 v14 v15 : Value) : Prop where
  chg : Below w0.heap.size w0 w
  p0 : d 0 = true → v8 = .pointer (some ⟨s, 0, none⟩)
  p1 : d 1 = true → v9 = .pointer (some ⟨s, 0, none⟩)
  p2 : d 2 = true → v10 = .pointer (some ⟨s, 0, none⟩)
  p3 : d 3 = true → v11 = .map (some b)
  p4 : d 4 = true → v12 = .agg #[.int .i64 r.thing, .int .i64 r.vers, .bool r.rd, .bool r.wr, .bool r.wk]
  p5 : d 5 = true → v13 = .tuple #[.agg #[], .bool f]
  p6 : d 6 = true → v7 = .tuple #[.agg #[], .bool f]
  p7 : d 7 = true → v14 = .agg #[]
  p8 : d 8 = true → v15 = .bool f
  p9 : d 9 = true → ∃ q, v5 = .pointer (some ⟨q, 0, none⟩) ∧ q < w.heap.size
  p11 : d 11 = true → v6 = .bool f

structure SpI (s b n : Nat) (r : Rgt) (D : DataW Unit) (w0 : World) (d : Nat → Bool) (w : World) (v17 v18 v19 v20 v21 v22 : Value) : Prop where
  chg : Below 0 w0 w
  p0 : d 0 = true → v17 = .pointer (some ⟨s, 0, none⟩)
  p1 : d 1 = true → v18 = .pointer (some ⟨s, 0, none⟩)
  p2 : d 2 = true → v19 = .pointer (some ⟨s, 0, none⟩)
  p3 : d 3 = true → v20 = .map (some b)
  p4 : d 4 = true → v21 = .agg #[.int .i64 r.thing, .int .i64 r.vers, .bool r.rd, .bool r.wr, .bool r.wk]
  p5 : d 5 = true → v22 = .agg #[]
  x0 : d 6 = false → Below w0.heap.size w0 w
  x1 : d 6 = true → w.ownsMap Tryz.prog 49 (unitElem (H := Unit)) b (n + 1) (D.put (kR r) (.agg [])) ∧ Chg (fun k => k = b) w0 w
  x2 : ∀ j, j < 6 → d j = false → d 6 = false

end Go.Proofs.YtghbphdipdjekaaGreatDoor
