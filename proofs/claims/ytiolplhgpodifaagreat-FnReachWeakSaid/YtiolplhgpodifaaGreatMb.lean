/- As XIv, where an edge that does not bind may lead forward. -/
import Derived.Test.YtiolplhgpodifaaGreatIv
import Derived.Test.YtiolplhgpodifaaGreatMa
set_option linter.unusedVariables false
set_option linter.unusedSimpArgs false
namespace Go
section
variable {P : Program} {ops : Array Oper} {Q : Exit → Act → World → Prop} {md : Region.Mode}

theorem ready_doneB {listed : Array Bool} (hs : listed.size = ops.size) (hback : ∀ (i : Nat) (o : Oper), ops[i]? = some o → ∀ e ∈ o.after, Region.binds md e = true → e.on < i) (hr : Region.ready md ops listed = []) : ∀ n i, i < n → i < ops.size → listed.getD i false = true := by
  intro n
  induction n with
  | zero => intro i h; omega
  | succ n ih =>
    intro i hi hlt
    apply Classical.byContradiction
    intro hf
    have hmem : i ∈ Region.ready md ops listed := by
      refine mem_ready.2 ⟨?_, ops[i], by simp [hlt], fun e he hbd => ?_⟩
      · have h2 : i < listed.size := by omega
        simp only [Array.getD_eq_getD_getElem?, Array.getElem?_eq_getElem h2, Option.getD_some] at hf ⊢
        simpa using hf
      · have hb := hback i _ (by simp [hlt]) e he hbd
        exact ih e.on (by omega) (by omega)
    rw [hr] at hmem
    cases hmem

theorem wpAnyB_inv {I : (Nat → Bool) → Act → World → Prop} (hback : ∀ (i : Nat) (o : Oper), ops[i]? = some o → ∀ e ∈ o.after, Region.binds md e = true → e.on < i)
    (step : ∀ (d : Nat → Bool) (i : Nat) (o : Oper) (a : Act) (w : World), ops[i]? = some o → d i = false → (∀ e ∈ o.after, Region.binds md e = true → d e.on = true) → I d a w → wpOp P ops Q i (fun a' w' => I (fun j => d j || decide (j = i)) a' w') a w)
    (fin : ∀ d a w, (∀ i, i < ops.size → d i = true) → I d a w → Q .normal a w) :
    ∀ (fuel : Nat) (listed : Array Bool) (a : Act) (w : World), listed.size = ops.size → listed.toList.count false ≤ fuel → I (fun j => listed.getD j false) a w → wpAny P md ops Q fuel listed a w
  | 0, listed, a, w, hs, hc, hI => by
    have hall : ∀ i, i < ops.size → listed.getD i false = true := by
      intro i hi
      have h0 : listed.toList.count false = 0 := by omega
      rw [List.count_eq_zero] at h0
      have h2 : i < listed.size := by omega
      simp only [Array.getD_eq_getD_getElem?, Array.getElem?_eq_getElem h2, Option.getD_some]
      cases hv : listed[i] with
      | true => rfl
      | false => exact absurd (by rw [← hv]; exact Array.getElem_mem_toList ..) h0
    refine ⟨?_, fin _ _ _ hall hI⟩
    apply List.eq_nil_iff_forall_not_mem.2
    intro i hi
    obtain ⟨h1, o, ho, -⟩ := mem_ready.1 hi
    have hlt : i < ops.size := (Array.getElem?_eq_some_iff.1 ho).1
    have h2 : i < listed.size := by omega
    have := hall i hlt
    simp only [Array.getD_eq_getD_getElem?, Array.getElem?_eq_getElem h2, Option.getD_some] at this h1
    rw [h1] at this; cases this
  | fuel + 1, listed, a, w, hs, hc, hI => by
    refine ⟨fun hr => fin _ _ _ (fun i hi => ready_doneB hs hback hr (i + 1) i (by omega) hi) hI, fun i hi => ?_⟩
    obtain ⟨h1, o, ho, h3⟩ := mem_ready.1 hi
    have hlt : i < ops.size := (Array.getElem?_eq_some_iff.1 ho).1
    have h2 : i < listed.size := by omega
    have hf : listed[i]? = some false := by
      simp only [Array.getD_eq_getD_getElem?, Array.getElem?_eq_getElem h2, Option.getD_some] at h1 ⊢
      rw [h1]
    refine wpOp_mono (fun a' w' h => ?_) (step (fun j => listed.getD j false) i o a w ho (by simp [Array.getD_eq_getD_getElem?, hf]) h3 hI)
    refine wpAnyB_inv hback step fin fuel _ a' w' (by simpa using hs) ?_ ?_
    · have := count_set_true listed.toList i (by simpa using hf)
      simp only [Array.toList_setIfInBounds]
      omega
    · have e : (fun j => (listed.setIfInBounds i true).getD j false) = (fun j => listed.getD j false || decide (j = i)) := by
        funext j
        simp only [Array.getD_eq_getD_getElem?, Array.getElem?_setIfInBounds]
        by_cases hj : i = j
        · subst hj; simp [h2]
        · have hj' : ¬ j = i := fun e => hj e.symm
          simp [hj, hj']
      rw [e]; exact h

/-- Each operation waits only for such as stand ahead of it. -/
def backBB (md : Region.Mode) : Nat → List Oper → Bool
  | _, [] => true
  | k, o :: l => o.after.all (fun e => !Region.binds md e || decide (e.on < k)) && backBB md (k + 1) l
theorem backBB_at : ∀ (l : List Oper) (k i : Nat) (o : Oper), backBB md k l = true → l[i]? = some o → ∀ e ∈ o.after, Region.binds md e = true → e.on < k + i
  | [], _, _, _, _, h => by simp at h
  | x :: l, k, 0, o, hb, h => by
    have : x = o := by simpa using h
    subst this
    simp only [backBB, Bool.and_eq_true, Array.all_eq_true_iff_forall_mem, decide_eq_true_eq, Bool.or_eq_true, Bool.not_eq_true'] at hb
    intro e he hbd
    rcases hb.1 e he with h | h
    · rw [hbd] at h; cases h
    · exact h
  | x :: l, k, i + 1, o, hb, h => by
    simp only [backBB, Bool.and_eq_true] at hb
    have := backBB_at l (k + 1) i o hb.2 (by simpa using h)
    intro e he hbd
    have := this e he hbd
    omega

theorem wp_region_invB {id : Nat} {l : List Oper} {a : Act} {w : World} (I : (Nat → Bool) → Act → World → Prop) (hm : P.follows .mixedOrders = true) (hb : backBB .any 0 l = true)
    (h0 : I (fun _ => false) a w.drew) (step : OpSteps P .any l.toArray Q I 0 l) (fin : ∀ d a w, (∀ i, i < l.length → d i = true) → I d a w → Q .normal a w) : (Code.region id l.toArray true).wp P Q a w := by
  refine wp_region_any hm ?_
  refine wpAnyB_inv (I := I) (fun i o ho e he hbd => by have := backBB_at l 0 i o hb (by simpa using ho) e he hbd; omega) (fun d i o a w ho hd hdep hI => wpOp_step ho fun K hK => ?_) (fun d a w hd hI => fin d a w (by simpa using hd) hI) _ _ _ _ (by simp) (by simp) ?_
  · have := OpSteps.at l 0 i o step (by simpa using ho) d a w (by simpa using hd) hdep hI K
    simp only [Nat.zero_add] at this
    exact this hK
  · have e : (fun j => (Array.replicate l.toArray.size false).getD j false) = (fun _ => false) := by
      funext j
      simp only [Array.getD_eq_getD_getElem?, Array.getElem?_replicate]
      split <;> rfl
    rw [e]; exact h0
end
end Go

/- A right put into a set. -/
namespace Go.Proofs.YtiolplhgpodifaaGreat
open Go.RowKit Drw
attribute [local go_sem] Lab.val Rgt.val Cal.val Thg.val

structure SaI (s b : Nat) (r : Rgt) (f : Bool) (w0 : World) (d : Nat → Bool) (w : World) (v5 v6 v7 v8 v9 v10 v11 v12 v13 v14 v15 : Value) : Prop where
  chg : Below w0.heap.size w0 w
  p0 : d 0 = true → v8 = .pointer (some ⟨s, 0, none⟩)
  p1 : d 1 = true → v9 = .pointer (some ⟨s, 0, none⟩)
  p2 : d 2 = true → v10 = .pointer (some ⟨s, 0, none⟩)
  p3 : d 3 = true → v11 = .map (some b)
  p4 : d 4 = true → v12 = .agg #[.int .i64 r.thing, .int .i64 r.vers, .bool r.rd, .bool r.wr, .bool r.wk]
  p5 : d 5 = true → v13 = .tuple #[.agg #[], .bool f]
  p6 : d 6 = true → v7 = .tuple #[.agg #[], .bool f]
  p7 : d 7 = true → v14 = .agg #[]
  p8 : d 8 = true → v15 = .bool f
  p9 : d 9 = true → ∃ q, v5 = .pointer (some ⟨q, 0, none⟩) ∧ q < w.heap.size
  p11 : d 11 = true → v6 = .bool f

structure SpI (s b n : Nat) (r : Rgt) (D : DataW Unit) (w0 : World) (d : Nat → Bool) (w : World) (v17 v18 v19 v20 v21 v22 : Value) : Prop where
  chg : Below 0 w0 w
  p0 : d 0 = true → v17 = .pointer (some ⟨s, 0, none⟩)
  p1 : d 1 = true → v18 = .pointer (some ⟨s, 0, none⟩)
  p2 : d 2 = true → v19 = .pointer (some ⟨s, 0, none⟩)
  p3 : d 3 = true → v20 = .map (some b)
  p4 : d 4 = true → v21 = .agg #[.int .i64 r.thing, .int .i64 r.vers, .bool r.rd, .bool r.wr, .bool r.wk]
  p5 : d 5 = true → v22 = .agg #[]
  x0 : d 6 = false → Below w0.heap.size w0 w
  x1 : d 6 = true → w.ownsMap Tryz.prog 35 (unitElem (H := Unit)) b (n + 1) (D.put (kR r) (.agg [])) ∧ Chg (fun k => k = b) w0 w
  x2 : ∀ j, j < 6 → d j = false → d 6 = false

set_option maxRecDepth 100000 in
set_option maxHeartbeats 4000000 in
theorem setAdd_f {s b : Nat} {S : List Rgt} {r : Rgt} {D : DataW Unit} {f : Bool} {w : World} (hs0 : w.cell? ⟨s, 0, none⟩ = some (.map (some b))) (hD : w.ownsMap Tryz.prog 35 (unitElem (H := Unit)) b S.length D) (hr : RgtW r) (hf : Maps.has D (kR r) = f) (hn : S.length < maxLen) :
    Calls Tryz.prog 62 #[.pointer (some ⟨s, 0, none⟩), r.val] w fun e w' => e = .returned (.bool (!f)) ∧ (f = true → Below w.heap.size w w') ∧ (f = false → w'.ownsMap Tryz.prog 35 (unitElem (H := Unit)) b (S.length + 1) (D.put (kR r) (.agg [])) ∧ Chg (fun k => k = b) w w') := by
  have hkey := keyR hr
  have hsl : s < w.heap.size := by
    rcases Nat.lt_or_ge s w.heap.size with h | h
    · exact h
    · simp [World.cell?, Array.getElem?_eq_none h] at hs0
  have hbl := hD.lt
  obtain ⟨w1, hw1⟩ : ∃ x, w.alloc (.cells #[.int .i64 r.thing, .int .i64 r.vers, .bool r.rd, .bool r.wr, .bool r.wk] 35) = x := ⟨_, rfl⟩
  have hB1 : Below w.heap.size w w1 := by rw [← hw1]; exact (by (repeat (with_reducible first | exact Below.refl _ _ | refine Below.alloc ?_ ?_ _ | refine below_drewN ?_ _ | refine Below.drew ?_ | refine Below.setCell ?_ ?_ _ | refine Below.trans ?_ (Below.mono (by assumption) ?_))) <;> (first | omega | (simp; try omega)))
  have HC := Lib.hid (show ∀ w', Below w1.heap.size w1 w' → w'.cell? ⟨s, 0, none⟩ = some (.map (some b)) from fun w' h => ((hB1.trans (h.mono hB1.size)).cell hsl).trans hs0)
  have HDD := Lib.hid (show ∀ w', Below w1.heap.size w1 w' → w'.ownsMap Tryz.prog 35 (unitElem (H := Unit)) b S.length D from fun w' h => by
    obtain ⟨es, clock, hb, F, hs, e⟩ := hD
    exact ⟨es, clock, ((hB1.trans (h.mono hB1.size)).block b hbl).trans hb, F, hs, e⟩)
  have HK := Lib.hid (show ∀ w', Below w1.heap.size w1 w' → (Instr.lookup 119 (.map (some b)) (.agg #[.int .i64 r.thing, .int .i64 r.vers, .bool r.rd, .bool r.wr, .bool r.wk]) true).run Tryz.prog w' = .ok (.tuple #[.agg #[], .bool f]) w' from fun w' h => by
    obtain ⟨v, ps, hrun, hv⟩ := (HDD.out w' h).look_ok rgtKeyed mapUnder (unitZero _) unitElem_mk hkey
    obtain ⟨rfl, _⟩ := unitElem_inv hv
    rw [← hf]; exact hrun)
  have HY := Lib.hid (show ∀ w', Below w1.heap.size w1 w' → w'.cell? ⟨w.heap.size, 0, none⟩ = some (.int .i64 r.thing) ∧ w'.cell? ⟨w.heap.size, 1, none⟩ = some (.int .i64 r.vers) ∧ w'.cell? ⟨w.heap.size, 2, none⟩ = some (.bool r.rd) ∧ w'.cell? ⟨w.heap.size, 3, none⟩ = some (.bool r.wr) ∧ w'.cell? ⟨w.heap.size, 4, none⟩ = some (.bool r.wk) from fun w' h => by
    have hz : w.heap.size < w1.heap.size := by rw [← hw1]; simp
    refine ⟨(h.cell hz).trans ?_, (h.cell hz).trans ?_, (h.cell hz).trans ?_, (h.cell hz).trans ?_, (h.cell hz).trans ?_⟩ <;> (rw [← hw1]; simp [go_sem]))
  have Hkey := Lib.hid hkey
  have HB1 := Lib.hid hB1
  subst hw1
  clear hkey hs0 hD hB1 hf
  go_enter Tryz.func62, Tryz.ntmps62
  go_wp2
  refine wp_region_invB (fun d a w' => ∃ v5 v6 v7 v8 v9 v10 v11 v12 v13 v14 v15, a = { tmps := #[.pointer (some ⟨s, 0, none⟩), .agg #[.int .i64 r.thing, .int .i64 r.vers, .bool r.rd, .bool r.wr, .bool r.wk], undef, .pointer (some ⟨w.heap.size, 0, none⟩), .bool false, v5, v6, v7, v8, v9, v10, v11, v12, v13, v14, v15, undef, undef, undef, undef, undef, undef, undef], defers := [] } ∧ SaI s b r f (w.alloc (.cells #[.int .i64 r.thing, .int .i64 r.vers, .bool r.rd, .bool r.wr, .bool r.wk] 35)) d w' v5 v6 v7 v8 v9 v10 v11 v12 v13 v14 v15) (by kernel_rfl) (by kernel_rfl) ?_ ?_ ?_
  · refine ⟨_, _, _, _, _, _, _, _, _, _, _, rfl, ?_⟩
    constructor
    · exact Below.drew (Below.refl _ _)
    · intro hj; exact absurd hj (by decide)
    · intro hj; exact absurd hj (by decide)
    · intro hj; exact absurd hj (by decide)
    · intro hj; exact absurd hj (by decide)
    · intro hj; exact absurd hj (by decide)
    · intro hj; exact absurd hj (by decide)
    · intro hj; exact absurd hj (by decide)
    · intro hj; exact absurd hj (by decide)
    · intro hj; exact absurd hj (by decide)
    · intro hj; exact absurd hj (by decide)
    · intro hj; exact absurd hj (by decide)
  · refine ⟨?_, ?_, ?_, ?_, ?_, ?_, ?_, ?_, ?_, ?_, ?_, ?_, trivial⟩
    · rintro d a w' hd hdep ⟨v5, v6, v7, v8, v9, v10, v11, v12, v13, v14, v15, rfl, H⟩ K hK
      clear hdep
      go_simp
      have hg : Below w'.heap.size w' w' := Below.refl _ _
      refine hK _ _ ⟨_, _, _, _, _, _, _, _, _, _, _, rfl, ?_⟩
      constructor
      · exact H.chg.trans (hg.mono H.chg.size)
      · intro _; exact rfl
      · intro hj; have h := H.p1 (by simpa using hj); exact h
      · intro hj; have h := H.p2 (by simpa using hj); exact h
      · intro hj; have h := H.p3 (by simpa using hj); exact h
      · intro hj; have h := H.p4 (by simpa using hj); exact h
      · intro hj; have h := H.p5 (by simpa using hj); exact h
      · intro hj; have h := H.p6 (by simpa using hj); exact h
      · intro hj; have h := H.p7 (by simpa using hj); exact h
      · intro hj; have h := H.p8 (by simpa using hj); exact h
      · intro hj; have h := H.p9 (by simpa using hj); exact (let ⟨q, e, hq⟩ := h; ⟨q, e, Nat.lt_of_lt_of_le hq hg.size⟩)
      · intro hj; have h := H.p11 (by simpa using hj); exact h
    · rintro d a w' hd hdep ⟨v5, v6, v7, v8, v9, v10, v11, v12, v13, v14, v15, rfl, H⟩ K hK
      have d0 : d 0 = true := hdep ⟨0, .data⟩ (by simp) rfl
      clear hdep
      have e0 := H.p0 d0
      subst e0
      go_simp
      have hg : Below w'.heap.size w' w' := Below.refl _ _
      refine hK _ _ ⟨_, _, _, _, _, _, _, _, _, _, _, rfl, ?_⟩
      constructor
      · exact H.chg.trans (hg.mono H.chg.size)
      · intro hj; have h := H.p0 (by simpa using hj); exact h
      · intro _; exact rfl
      · intro hj; have h := H.p2 (by simpa using hj); exact h
      · intro hj; have h := H.p3 (by simpa using hj); exact h
      · intro hj; have h := H.p4 (by simpa using hj); exact h
      · intro hj; have h := H.p5 (by simpa using hj); exact h
      · intro hj; have h := H.p6 (by simpa using hj); exact h
      · intro hj; have h := H.p7 (by simpa using hj); exact h
      · intro hj; have h := H.p8 (by simpa using hj); exact h
      · intro hj; have h := H.p9 (by simpa using hj); exact (let ⟨q, e, hq⟩ := h; ⟨q, e, Nat.lt_of_lt_of_le hq hg.size⟩)
      · intro hj; have h := H.p11 (by simpa using hj); exact h
    · rintro d a w' hd hdep ⟨v5, v6, v7, v8, v9, v10, v11, v12, v13, v14, v15, rfl, H⟩ K hK
      have d1 : d 1 = true := hdep ⟨1, .data⟩ (by simp) rfl
      clear hdep
      have e1 := H.p1 d1
      subst e1
      go_simp
      have hg : Below w'.heap.size w' w' := Below.refl _ _
      refine hK _ _ ⟨_, _, _, _, _, _, _, _, _, _, _, rfl, ?_⟩
      constructor
      · exact H.chg.trans (hg.mono H.chg.size)
      · intro hj; have h := H.p0 (by simpa using hj); exact h
      · intro hj; have h := H.p1 (by simpa using hj); exact h
      · intro _; exact rfl
      · intro hj; have h := H.p3 (by simpa using hj); exact h
      · intro hj; have h := H.p4 (by simpa using hj); exact h
      · intro hj; have h := H.p5 (by simpa using hj); exact h
      · intro hj; have h := H.p6 (by simpa using hj); exact h
      · intro hj; have h := H.p7 (by simpa using hj); exact h
      · intro hj; have h := H.p8 (by simpa using hj); exact h
      · intro hj; have h := H.p9 (by simpa using hj); exact (let ⟨q, e, hq⟩ := h; ⟨q, e, Nat.lt_of_lt_of_le hq hg.size⟩)
      · intro hj; have h := H.p11 (by simpa using hj); exact h
    · rintro d a w' hd hdep ⟨v5, v6, v7, v8, v9, v10, v11, v12, v13, v14, v15, rfl, H⟩ K hK
      have d2 : d 2 = true := hdep ⟨2, .data⟩ (by simp) rfl
      clear hdep
      have e2 := H.p2 d2
      subst e2
      have hcx := HC.out _ H.chg
      go_simp
      have hg : Below w'.heap.size w' w' := Below.refl _ _
      refine hK _ _ ⟨_, _, _, _, _, _, _, _, _, _, _, rfl, ?_⟩
      constructor
      · exact H.chg.trans (hg.mono H.chg.size)
      · intro hj; have h := H.p0 (by simpa using hj); exact h
      · intro hj; have h := H.p1 (by simpa using hj); exact h
      · intro hj; have h := H.p2 (by simpa using hj); exact h
      · intro _; exact rfl
      · intro hj; have h := H.p4 (by simpa using hj); exact h
      · intro hj; have h := H.p5 (by simpa using hj); exact h
      · intro hj; have h := H.p6 (by simpa using hj); exact h
      · intro hj; have h := H.p7 (by simpa using hj); exact h
      · intro hj; have h := H.p8 (by simpa using hj); exact h
      · intro hj; have h := H.p9 (by simpa using hj); exact (let ⟨q, e, hq⟩ := h; ⟨q, e, Nat.lt_of_lt_of_le hq hg.size⟩)
      · intro hj; have h := H.p11 (by simpa using hj); exact h
    · rintro d a w' hd hdep ⟨v5, v6, v7, v8, v9, v10, v11, v12, v13, v14, v15, rfl, H⟩ K hK
      clear hdep
      obtain ⟨y0, y1, y2, y3, y4⟩ := HY.out _ H.chg
      go_simp
      have hg : Below w'.heap.size w' w' := Below.refl _ _
      refine hK _ _ ⟨_, _, _, _, _, _, _, _, _, _, _, rfl, ?_⟩
      constructor
      · exact H.chg.trans (hg.mono H.chg.size)
      · intro hj; have h := H.p0 (by simpa using hj); exact h
      · intro hj; have h := H.p1 (by simpa using hj); exact h
      · intro hj; have h := H.p2 (by simpa using hj); exact h
      · intro hj; have h := H.p3 (by simpa using hj); exact h
      · intro _; exact rfl
      · intro hj; have h := H.p5 (by simpa using hj); exact h
      · intro hj; have h := H.p6 (by simpa using hj); exact h
      · intro hj; have h := H.p7 (by simpa using hj); exact h
      · intro hj; have h := H.p8 (by simpa using hj); exact h
      · intro hj; have h := H.p9 (by simpa using hj); exact (let ⟨q, e, hq⟩ := h; ⟨q, e, Nat.lt_of_lt_of_le hq hg.size⟩)
      · intro hj; have h := H.p11 (by simpa using hj); exact h
    · rintro d a w' hd hdep ⟨v5, v6, v7, v8, v9, v10, v11, v12, v13, v14, v15, rfl, H⟩ K hK
      have d3 : d 3 = true := hdep ⟨3, .data⟩ (by simp) rfl
      have d4 : d 4 = true := hdep ⟨4, .data⟩ (by simp) rfl
      clear hdep
      have e3 := H.p3 d3
      subst e3
      have e4 := H.p4 d4
      subst e4
      have hlk := HK.out _ H.chg
      go_simp
      have hg : Below w'.heap.size w' w' := Below.refl _ _
      refine hK _ _ ⟨_, _, _, _, _, _, _, _, _, _, _, rfl, ?_⟩
      constructor
      · exact H.chg.trans (hg.mono H.chg.size)
      · intro hj; have h := H.p0 (by simpa using hj); exact h
      · intro hj; have h := H.p1 (by simpa using hj); exact h
      · intro hj; have h := H.p2 (by simpa using hj); exact h
      · intro hj; have h := H.p3 (by simpa using hj); exact h
      · intro hj; have h := H.p4 (by simpa using hj); exact h
      · intro _; exact rfl
      · intro hj; have h := H.p6 (by simpa using hj); exact h
      · intro hj; have h := H.p7 (by simpa using hj); exact h
      · intro hj; have h := H.p8 (by simpa using hj); exact h
      · intro hj; have h := H.p9 (by simpa using hj); exact (let ⟨q, e, hq⟩ := h; ⟨q, e, Nat.lt_of_lt_of_le hq hg.size⟩)
      · intro hj; have h := H.p11 (by simpa using hj); exact h
    · rintro d a w' hd hdep ⟨v5, v6, v7, v8, v9, v10, v11, v12, v13, v14, v15, rfl, H⟩ K hK
      have d5 : d 5 = true := hdep ⟨5, .data⟩ (by simp) rfl
      clear hdep
      have e5 := H.p5 d5
      subst e5
      go_simp
      have hg : Below w'.heap.size w' w' := Below.refl _ _
      refine hK _ _ ⟨_, _, _, _, _, _, _, _, _, _, _, rfl, ?_⟩
      constructor
      · exact H.chg.trans (hg.mono H.chg.size)
      · intro hj; have h := H.p0 (by simpa using hj); exact h
      · intro hj; have h := H.p1 (by simpa using hj); exact h
      · intro hj; have h := H.p2 (by simpa using hj); exact h
      · intro hj; have h := H.p3 (by simpa using hj); exact h
      · intro hj; have h := H.p4 (by simpa using hj); exact h
      · intro hj; have h := H.p5 (by simpa using hj); exact h
      · intro _; exact rfl
      · intro hj; have h := H.p7 (by simpa using hj); exact h
      · intro hj; have h := H.p8 (by simpa using hj); exact h
      · intro hj; have h := H.p9 (by simpa using hj); exact (let ⟨q, e, hq⟩ := h; ⟨q, e, Nat.lt_of_lt_of_le hq hg.size⟩)
      · intro hj; have h := H.p11 (by simpa using hj); exact h
    · rintro d a w' hd hdep ⟨v5, v6, v7, v8, v9, v10, v11, v12, v13, v14, v15, rfl, H⟩ K hK
      have d6 : d 6 = true := hdep ⟨6, .data⟩ (by simp) rfl
      clear hdep
      have e6 := H.p6 d6
      subst e6
      go_simp
      have hg : Below w'.heap.size w' w' := Below.refl _ _
      refine hK _ _ ⟨_, _, _, _, _, _, _, _, _, _, _, rfl, ?_⟩
      constructor
      · exact H.chg.trans (hg.mono H.chg.size)
      · intro hj; have h := H.p0 (by simpa using hj); exact h
      · intro hj; have h := H.p1 (by simpa using hj); exact h
      · intro hj; have h := H.p2 (by simpa using hj); exact h
      · intro hj; have h := H.p3 (by simpa using hj); exact h
      · intro hj; have h := H.p4 (by simpa using hj); exact h
      · intro hj; have h := H.p5 (by simpa using hj); exact h
      · intro hj; have h := H.p6 (by simpa using hj); exact h
      · intro _; exact rfl
      · intro hj; have h := H.p8 (by simpa using hj); exact h
      · intro hj; have h := H.p9 (by simpa using hj); exact (let ⟨q, e, hq⟩ := h; ⟨q, e, Nat.lt_of_lt_of_le hq hg.size⟩)
      · intro hj; have h := H.p11 (by simpa using hj); exact h
    · rintro d a w' hd hdep ⟨v5, v6, v7, v8, v9, v10, v11, v12, v13, v14, v15, rfl, H⟩ K hK
      have d6 : d 6 = true := hdep ⟨6, .data⟩ (by simp) rfl
      clear hdep
      have e6 := H.p6 d6
      subst e6
      go_simp
      have hg : Below w'.heap.size w' w' := Below.refl _ _
      refine hK _ _ ⟨_, _, _, _, _, _, _, _, _, _, _, rfl, ?_⟩
      constructor
      · exact H.chg.trans (hg.mono H.chg.size)
      · intro hj; have h := H.p0 (by simpa using hj); exact h
      · intro hj; have h := H.p1 (by simpa using hj); exact h
      · intro hj; have h := H.p2 (by simpa using hj); exact h
      · intro hj; have h := H.p3 (by simpa using hj); exact h
      · intro hj; have h := H.p4 (by simpa using hj); exact h
      · intro hj; have h := H.p5 (by simpa using hj); exact h
      · intro hj; have h := H.p6 (by simpa using hj); exact h
      · intro hj; have h := H.p7 (by simpa using hj); exact h
      · intro _; exact rfl
      · intro hj; have h := H.p9 (by simpa using hj); exact (let ⟨q, e, hq⟩ := h; ⟨q, e, Nat.lt_of_lt_of_le hq hg.size⟩)
      · intro hj; have h := H.p11 (by simpa using hj); exact h
    · rintro d a w' hd hdep ⟨v5, v6, v7, v8, v9, v10, v11, v12, v13, v14, v15, rfl, H⟩ K hK
      clear hdep
      go_simp
      have hg : Below w'.heap.size w' (w'.alloc (.cells #[] 106)) := (by (repeat (with_reducible first | exact Below.refl _ _ | refine Below.alloc ?_ ?_ _ | refine below_drewN ?_ _ | refine Below.drew ?_ | refine Below.setCell ?_ ?_ _ | refine Below.trans ?_ (Below.mono (by assumption) ?_))) <;> (first | omega | (simp; try omega)))
      refine hK _ _ ⟨_, _, _, _, _, _, _, _, _, _, _, rfl, ?_⟩
      constructor
      · exact H.chg.trans (hg.mono H.chg.size)
      · intro hj; have h := H.p0 (by simpa using hj); exact h
      · intro hj; have h := H.p1 (by simpa using hj); exact h
      · intro hj; have h := H.p2 (by simpa using hj); exact h
      · intro hj; have h := H.p3 (by simpa using hj); exact h
      · intro hj; have h := H.p4 (by simpa using hj); exact h
      · intro hj; have h := H.p5 (by simpa using hj); exact h
      · intro hj; have h := H.p6 (by simpa using hj); exact h
      · intro hj; have h := H.p7 (by simpa using hj); exact h
      · intro hj; have h := H.p8 (by simpa using hj); exact h
      · intro _; exact ⟨_, rfl, by simp⟩
      · intro hj; have h := H.p11 (by simpa using hj); exact h
    · rintro d a w' hd hdep ⟨v5, v6, v7, v8, v9, v10, v11, v12, v13, v14, v15, rfl, H⟩ K hK
      have d9 : d 9 = true := hdep ⟨9, .data⟩ (by simp) rfl
      have d7 : d 7 = true := hdep ⟨7, .data⟩ (by simp) rfl
      clear hdep
      obtain ⟨q, e9, hq⟩ := H.p9 d9
      subst e9
      have e7 := H.p7 d7
      subst e7
      go_simp
      have hg : Below w'.heap.size w' w' := Below.refl _ _
      refine hK _ _ ⟨_, _, _, _, _, _, _, _, _, _, _, rfl, ?_⟩
      constructor
      · exact H.chg.trans (hg.mono H.chg.size)
      · intro hj; have h := H.p0 (by simpa using hj); exact h
      · intro hj; have h := H.p1 (by simpa using hj); exact h
      · intro hj; have h := H.p2 (by simpa using hj); exact h
      · intro hj; have h := H.p3 (by simpa using hj); exact h
      · intro hj; have h := H.p4 (by simpa using hj); exact h
      · intro hj; have h := H.p5 (by simpa using hj); exact h
      · intro hj; have h := H.p6 (by simpa using hj); exact h
      · intro hj; have h := H.p7 (by simpa using hj); exact h
      · intro hj; have h := H.p8 (by simpa using hj); exact h
      · intro hj; have h := H.p9 (by simpa using hj); exact (let ⟨q, e, hq⟩ := h; ⟨q, e, Nat.lt_of_lt_of_le hq hg.size⟩)
      · intro hj; have h := H.p11 (by simpa using hj); exact h
    · rintro d a w' hd hdep ⟨v5, v6, v7, v8, v9, v10, v11, v12, v13, v14, v15, rfl, H⟩ K hK
      have d8 : d 8 = true := hdep ⟨8, .data⟩ (by simp) rfl
      clear hdep
      have e8 := H.p8 d8
      subst e8
      go_simp
      have hg : Below w'.heap.size w' w' := Below.refl _ _
      refine hK _ _ ⟨_, _, _, _, _, _, _, _, _, _, _, rfl, ?_⟩
      constructor
      · exact H.chg.trans (hg.mono H.chg.size)
      · intro hj; have h := H.p0 (by simpa using hj); exact h
      · intro hj; have h := H.p1 (by simpa using hj); exact h
      · intro hj; have h := H.p2 (by simpa using hj); exact h
      · intro hj; have h := H.p3 (by simpa using hj); exact h
      · intro hj; have h := H.p4 (by simpa using hj); exact h
      · intro hj; have h := H.p5 (by simpa using hj); exact h
      · intro hj; have h := H.p6 (by simpa using hj); exact h
      · intro hj; have h := H.p7 (by simpa using hj); exact h
      · intro hj; have h := H.p8 (by simpa using hj); exact h
      · intro hj; have h := H.p9 (by simpa using hj); exact (let ⟨q, e, hq⟩ := h; ⟨q, e, Nat.lt_of_lt_of_le hq hg.size⟩)
      · intro _; exact rfl
  · rintro d a w' hall ⟨v5, v6, v7, v8, v9, v10, v11, v12, v13, v14, v15, rfl, H⟩
    have e6 := H.p11 (hall 11 (by decide))
    subst e6
    have hBf := HB1.out.trans (H.chg.mono HB1.out.size)
    have hcx := HC.out _ H.chg
    have hown := HDD.out _ H.chg
    have HBf := Lib.hid hBf
    have HW := Lib.hid H.chg
    obtain ⟨y0, y1, y2, y3, y4⟩ := HY.out _ H.chg
    clear H hall hBf
    cases f
    · obtain ⟨wz, rfl⟩ : ∃ x : World, x = w' := ⟨_, rfl⟩
      go_wp2
      clear hcx y0 y1 y2 y3 y4 hown
      have HC2 := Lib.hid (show ∀ x, Below wz.heap.size wz x → x.cell? ⟨s, 0, none⟩ = some (.map (some b)) from fun x h => HC.out x (HW.out.trans (h.mono HW.out.size)))
      have HD2 := Lib.hid (show ∀ x, Below wz.heap.size wz x → x.ownsMap Tryz.prog 35 (unitElem (H := Unit)) b S.length D from fun x h => HDD.out x (HW.out.trans (h.mono HW.out.size)))
      have HY2 := Lib.hid (fun (x : World) (h : Below wz.heap.size wz x) => HY.out x (HW.out.trans (h.mono HW.out.size)))
      refine wp_region_inv (fun d a w' => ∃ v17 v18 v19 v20 v21 v22, a = { tmps := #[.pointer (some ⟨s, 0, none⟩), .agg #[.int .i64 r.thing, .int .i64 r.vers, .bool r.rd, .bool r.wr, .bool r.wk], undef, .pointer (some ⟨w.heap.size, 0, none⟩), .bool false, v5, .bool false, v7, v8, v9, v10, v11, v12, v13, v14, v15, .bool false, v17, v18, v19, v20, v21, v22], defers := [] } ∧ SpI s b S.length r D wz d w' v17 v18 v19 v20 v21 v22) (by kernel_rfl) (by kernel_rfl) ?_ ?_ ?_
      · refine ⟨_, _, _, _, _, _, rfl, ?_⟩
        constructor
        · exact Below.drew (Below.refl _ _)
        · intro hj; exact absurd hj (by decide)
        · intro hj; exact absurd hj (by decide)
        · intro hj; exact absurd hj (by decide)
        · intro hj; exact absurd hj (by decide)
        · intro hj; exact absurd hj (by decide)
        · intro hj; exact absurd hj (by decide)
        · exact fun _ => Below.drew (Below.refl _ _)
        · exact fun h => absurd h (by decide)
        · exact fun _ _ _ => rfl
      · refine ⟨?_, ?_, ?_, ?_, ?_, ?_, ?_, trivial⟩
        · rintro d a w' hd hdep ⟨v17, v18, v19, v20, v21, v22, rfl, H⟩ K hK
          clear hdep
          go_simp
          have hg : Below w'.heap.size w' w' := Below.refl _ _
          refine hK _ _ ⟨_, _, _, _, _, _, rfl, ?_⟩
          constructor
          · exact H.chg.trans (hg.mono (Nat.zero_le _))
          · intro _; exact rfl
          · intro hj; have h := H.p1 (by simpa using hj); exact h
          · intro hj; have h := H.p2 (by simpa using hj); exact h
          · intro hj; have h := H.p3 (by simpa using hj); exact h
          · intro hj; have h := H.p4 (by simpa using hj); exact h
          · intro hj; have h := H.p5 (by simpa using hj); exact h
          · have h := H.x0; exact fun h6 => h (by simpa using h6)
          · have h := H.x1; exact fun h6 => h (by simpa using h6)
          · have h := H.x2; exact fun j hj hh => by have := h j hj (by simp at hh; simpa using hh.1); simpa using this
        · rintro d a w' hd hdep ⟨v17, v18, v19, v20, v21, v22, rfl, H⟩ K hK
          have d0 : d 0 = true := hdep ⟨0, .data⟩ (by simp) rfl
          clear hdep
          have e0 := H.p0 d0
          subst e0
          go_simp
          have hg : Below w'.heap.size w' w' := Below.refl _ _
          refine hK _ _ ⟨_, _, _, _, _, _, rfl, ?_⟩
          constructor
          · exact H.chg.trans (hg.mono (Nat.zero_le _))
          · intro hj; have h := H.p0 (by simpa using hj); exact h
          · intro _; exact rfl
          · intro hj; have h := H.p2 (by simpa using hj); exact h
          · intro hj; have h := H.p3 (by simpa using hj); exact h
          · intro hj; have h := H.p4 (by simpa using hj); exact h
          · intro hj; have h := H.p5 (by simpa using hj); exact h
          · have h := H.x0; exact fun h6 => h (by simpa using h6)
          · have h := H.x1; exact fun h6 => h (by simpa using h6)
          · have h := H.x2; exact fun j hj hh => by have := h j hj (by simp at hh; simpa using hh.1); simpa using this
        · rintro d a w' hd hdep ⟨v17, v18, v19, v20, v21, v22, rfl, H⟩ K hK
          have d1 : d 1 = true := hdep ⟨1, .data⟩ (by simp) rfl
          clear hdep
          have e1 := H.p1 d1
          subst e1
          go_simp
          have hg : Below w'.heap.size w' w' := Below.refl _ _
          refine hK _ _ ⟨_, _, _, _, _, _, rfl, ?_⟩
          constructor
          · exact H.chg.trans (hg.mono (Nat.zero_le _))
          · intro hj; have h := H.p0 (by simpa using hj); exact h
          · intro hj; have h := H.p1 (by simpa using hj); exact h
          · intro _; exact rfl
          · intro hj; have h := H.p3 (by simpa using hj); exact h
          · intro hj; have h := H.p4 (by simpa using hj); exact h
          · intro hj; have h := H.p5 (by simpa using hj); exact h
          · have h := H.x0; exact fun h6 => h (by simpa using h6)
          · have h := H.x1; exact fun h6 => h (by simpa using h6)
          · have h := H.x2; exact fun j hj hh => by have := h j hj (by simp at hh; simpa using hh.1); simpa using this
        · rintro d a w' hd hdep ⟨v17, v18, v19, v20, v21, v22, rfl, H⟩ K hK
          have d2 : d 2 = true := hdep ⟨2, .data⟩ (by simp) rfl
          clear hdep
          have e2 := H.p2 d2
          subst e2
          have hB6 := H.x0 (H.x2 3 (by decide) hd)
          have hcx := HC2.out _ hB6
          go_simp
          have hg : Below w'.heap.size w' w' := Below.refl _ _
          refine hK _ _ ⟨_, _, _, _, _, _, rfl, ?_⟩
          constructor
          · exact H.chg.trans (hg.mono (Nat.zero_le _))
          · intro hj; have h := H.p0 (by simpa using hj); exact h
          · intro hj; have h := H.p1 (by simpa using hj); exact h
          · intro hj; have h := H.p2 (by simpa using hj); exact h
          · intro _; exact rfl
          · intro hj; have h := H.p4 (by simpa using hj); exact h
          · intro hj; have h := H.p5 (by simpa using hj); exact h
          · have h := H.x0; exact fun h6 => h (by simpa using h6)
          · have h := H.x1; exact fun h6 => h (by simpa using h6)
          · have h := H.x2; exact fun j hj hh => by have := h j hj (by simp at hh; simpa using hh.1); simpa using this
        · rintro d a w' hd hdep ⟨v17, v18, v19, v20, v21, v22, rfl, H⟩ K hK
          clear hdep
          have hB6 := H.x0 (H.x2 4 (by decide) hd)
          obtain ⟨y0, y1, y2, y3, y4⟩ := HY2.out _ hB6
          go_simp
          have hg : Below w'.heap.size w' w' := Below.refl _ _
          refine hK _ _ ⟨_, _, _, _, _, _, rfl, ?_⟩
          constructor
          · exact H.chg.trans (hg.mono (Nat.zero_le _))
          · intro hj; have h := H.p0 (by simpa using hj); exact h
          · intro hj; have h := H.p1 (by simpa using hj); exact h
          · intro hj; have h := H.p2 (by simpa using hj); exact h
          · intro hj; have h := H.p3 (by simpa using hj); exact h
          · intro _; exact rfl
          · intro hj; have h := H.p5 (by simpa using hj); exact h
          · have h := H.x0; exact fun h6 => h (by simpa using h6)
          · have h := H.x1; exact fun h6 => h (by simpa using h6)
          · have h := H.x2; exact fun j hj hh => by have := h j hj (by simp at hh; simpa using hh.1); simpa using this
        · rintro d a w' hd hdep ⟨v17, v18, v19, v20, v21, v22, rfl, H⟩ K hK
          clear hdep
          go_simp
          have hg : Below w'.heap.size w' w' := Below.refl _ _
          refine hK _ _ ⟨_, _, _, _, _, _, rfl, ?_⟩
          constructor
          · exact H.chg.trans (hg.mono (Nat.zero_le _))
          · intro hj; have h := H.p0 (by simpa using hj); exact h
          · intro hj; have h := H.p1 (by simpa using hj); exact h
          · intro hj; have h := H.p2 (by simpa using hj); exact h
          · intro hj; have h := H.p3 (by simpa using hj); exact h
          · intro hj; have h := H.p4 (by simpa using hj); exact h
          · intro _; exact rfl
          · have h := H.x0; exact fun h6 => h (by simpa using h6)
          · have h := H.x1; exact fun h6 => h (by simpa using h6)
          · have h := H.x2; exact fun j hj hh => by have := h j hj (by simp at hh; simpa using hh.1); simpa using this
        · rintro d a w' hd hdep ⟨v17, v18, v19, v20, v21, v22, rfl, H⟩ K hK
          have d3 : d 3 = true := hdep ⟨3, .data⟩ (by simp) rfl
          have d4 : d 4 = true := hdep ⟨4, .data⟩ (by simp) rfl
          have d5 : d 5 = true := hdep ⟨5, .data⟩ (by simp) rfl
          have d0 : d 0 = true := hdep ⟨0, .phase⟩ (by simp) rfl
          have d1 : d 1 = true := hdep ⟨1, .phase⟩ (by simp) rfl
          have d2 : d 2 = true := hdep ⟨2, .phase⟩ (by simp) rfl
          clear hdep
          have e3 := H.p3 d3
          subst e3
          have e4 := H.p4 d4
          subst e4
          have e5 := H.p5 d5
          subst e5
          have hB6 := H.x0 hd
          obtain ⟨w'', hrun, hown1, hgr⟩ := (HD2.out _ hB6).update rgtKeyed mapUnder hn Hkey.out (unitElem_mk (H := Unit))
          dsimp only [Rgt.val] at hrun
          have hg : Below 0 w' w'' := ⟨hgr.os, hgr.tape, hgr.output, hgr.size, fun k hk => absurd hk (Nat.not_lt_zero k)⟩
          go_simp
          refine hK _ _ ⟨_, _, _, _, _, _, rfl, ?_⟩
          constructor
          · exact H.chg.trans (hg.mono (Nat.zero_le _))
          · intro hj; have h := H.p0 (by simpa using hj); exact h
          · intro hj; have h := H.p1 (by simpa using hj); exact h
          · intro hj; have h := H.p2 (by simpa using hj); exact h
          · intro hj; have h := H.p3 (by simpa using hj); exact h
          · intro hj; have h := H.p4 (by simpa using hj); exact h
          · intro hj; have h := H.p5 (by simpa using hj); exact h
          · intro h6; simp at h6
          · have h := H.x1; exact fun _ => ⟨hown1, (Chg.of_pure hB6).trans ⟨hgr.os, hgr.tape, hgr.output, hgr.size, fun k hk hs => hgr.block k hk (fun e => hs (by cases e; rfl))⟩⟩
          · have h := H.x2; exact fun j hj hh => absurd (show d j = true from (match j, hj with | 0, _ => d0 | 1, _ => d1 | 2, _ => d2 | 3, _ => d3 | 4, _ => d4 | 5, _ => d5)) (by simp at hh; simp [hh.1])
      · rintro d a w' hall ⟨v17, v18, v19, v20, v21, v22, rfl, H⟩
        obtain ⟨hown1, hch⟩ := H.x1 (hall 6 (by decide))
        clear H hall
        have Hown := Lib.hid hown1
        have Hch := Lib.hid hch
        clear hown1 hch
        go_wp2
        go_ret
        exact ⟨rfl, Hown.out, (Chg.of_pure HBf.out).trans Hch.out⟩
    · go_wp2
      go_ret
      exact ⟨rfl, HBf.out⟩

/-- A right is put into a set: whether it is new, and what the set holds behind it. -/
theorem setAdd_c {s b : Nat} {S : List Rgt} {r : Rgt} {w : World} (h : SetAt w s b S) (hr : RgtW r) (hn : S.length < maxLen) (hsb : s ≠ b) :
    Calls Tryz.prog 62 #[.pointer (some ⟨s, 0, none⟩), r.val] w fun e w' => e = .returned (.bool (!decide (r ∈ S))) ∧ SetAt w' s b (if r ∈ S then S else S ++ [r]) ∧ Chg (fun k => k = b) w w' := by
  obtain ⟨D, hD, hm⟩ := h.map
  have hlt := h.lt
  by_cases hin : r ∈ S
  · refine (setAdd_f h.cell hD hr ((hm r hr).2 hin) hn).mono ?_
    rintro e w1 ⟨rfl, h1, -⟩
    have hb := h1 rfl
    refine ⟨by simp [hin], by simpa [hin] using h.pure hb, Chg.of_pure hb⟩
  · have hf : Maps.has D (kR r) = false := by
      cases hh : Maps.has D (kR r)
      · rfl
      · exact absurd ((hm r hr).1 hh) hin
    refine (setAdd_f h.cell hD hr hf hn).mono ?_
    rintro e w1 ⟨rfl, -, h2⟩
    obtain ⟨ho, hc⟩ := h2 rfl
    refine ⟨by simp [hin], ?_, hc⟩
    rw [if_neg hin]
    refine ⟨(World.cell?_of_block (w := w) (hc.block s hlt.1 hsb)).trans h.cell, ⟨_, by simpa using ho, fun t ht => ?_⟩, ?_, ?_⟩
    · by_cases e : t = r
      · subst e
        simp [Maps.has_put_same hD.isMap (kR_key t)]
      · rw [Maps.has_put_other (fun hk => e (kR_inj ht hr hk))]
        simp [hm t ht, e]
    · intro t ht
      rcases List.mem_append.1 ht with h' | h'
      · exact h.wide t h'
      · have : t = r := by simpa using h'
        rw [this]; exact hr
    · refine List.nodup_append.2 ⟨h.nodup, by simp, ?_⟩
      intro x hx y hy e
      have : y = r := by simpa using hy
      rw [e, this] at hx
      exact hin hx
end Go.Proofs.YtiolplhgpodifaaGreat
