/- Plain laws of calls, one behind the other. Conditions: none. -/
import Derived.Test.YtiolplhgpodifaaGreatView
set_option linter.unusedVariables false
set_option linter.unusedSimpArgs false
namespace Drw
open Go Go.RowKit

def runDo (ts : List Thg) : List Cal → List Thg × List Int
  | [] => (ts, [])
  | c :: cs => ((runDo (do2 ts c).1 cs).1, (do2 ts c).2 :: (runDo (do2 ts c).1 cs).2)
def runCan (ts : List Thg) (cs : List Cal) : Bool := tabOk ts && decide (cs.length ≤ 40) && cs.all (calCan ts)
def runAll (ts : List Thg) (cs : List Cal) : List Thg × List Int × Bool := if runCan ts cs then ((runDo ts cs).1, (runDo ts cs).2, true) else ([], [], false)
def runLow (ts : List Thg) (cs : List Cal) (l : Lab) : List Cal := if runCan ts cs && labOk l then cs.filter (fun c => flow (getT ts c.run).lab l) else []
def runQuiet (ts : List Thg) (cs : List Cal) (l : Lab) : Bool := runCan ts cs && labOk l && cs.all (fun c => c.kind != 9 || flow (getT ts c.run).lab l)

/-- All calls can be. -/
def AllCan (ts : List Thg) (cs : List Cal) : Prop := ∀ c ∈ cs, CanB ts c
theorem runCan_iff {ts : List Thg} {cs : List Cal} : runCan ts cs = true ↔ tabOk ts = true ∧ cs.length ≤ 40 ∧ AllCan ts cs := by
  simp only [runCan, Bool.and_eq_true, decide_eq_true_eq, List.all_eq_true, canB, and_assoc, AllCan]
theorem AllCan.after {ts us : List Thg} {cs : List Cal} (h : AllCan ts cs) (hs : Same ts us) (hu : tabOk us = true) : AllCan us cs :=
  fun c hc => can_after (h c hc) hs hu (h c hc).ok rfl
theorem AllCan.tail {ts : List Thg} {c : Cal} {cs : List Cal} (h : AllCan ts (c :: cs)) : AllCan (do2 ts c).1 cs := by
  have hf := do2_fine (h c (by simp))
  exact AllCan.after (fun d hd => h d (by simp [hd])) hf.same hf.tab

theorem runDo_fine : ∀ (cs : List Cal) {ts : List Thg}, tabOk ts = true → AllCan ts cs → tabOk (runDo ts cs).1 = true ∧ Same ts (runDo ts cs).1 ∧ (runDo ts cs).2.length = cs.length
  | [], ts, ht, _ => ⟨ht, Same.refl _, rfl⟩
  | c :: cs, ts, ht, h => by
    have hf := do2_fine (h c (by simp))
    obtain ⟨h1, h2, h3⟩ := runDo_fine cs hf.tab h.tail
    exact ⟨h1, hf.same.trans h2, by simp [runDo, h3]⟩

theorem runDo_append : ∀ (as bs : List Cal) (ts : List Thg), runDo ts (as ++ bs) = ((runDo (runDo ts as).1 bs).1, (runDo ts as).2 ++ (runDo (runDo ts as).1 bs).2)
  | [], bs, ts => rfl
  | a :: as, bs, ts => by
    simp only [List.cons_append, runDo]
    rw [runDo_append as bs]
theorem runDo_snoc (as : List Cal) (b : Cal) (ts : List Thg) : runDo ts (as ++ [b]) = ((do2 (runDo ts as).1 b).1, (runDo ts as).2 ++ [(do2 (runDo ts as).1 b).2]) := by
  rw [runDo_append]; rfl

/-- What holds at first, and behind each call, holds at the end. -/
theorem runDo_inv (P : List Thg → Prop) : ∀ (cs : List Cal) {ts : List Thg}, AllCan ts cs → P ts → (∀ us c, c ∈ cs → CanB us c → Same ts us → P us → P (do2 us c).1) → P (runDo ts cs).1
  | [], _, _, h, _ => h
  | c :: cs, ts, hc, h, hs => by
    have hf := do2_fine (hc c (by simp))
    exact runDo_inv P cs hc.tail (hs ts c (by simp) (hc c (by simp)) (Same.refl _) h) (fun us d hd hu hS hp => hs us d (by simp [hd]) hu (hf.same.trans hS) hp)

/-- P86. -/
def RgtOf (ts : List Thg) (r : Rgt) : Prop := r.thing = 0 ∨ ∃ n, ex ts n = true ∧ ∃ s ∈ (getT ts n).slots, s.thing = r.thing ∧ s.vers = r.vers ∧ (s.wr || !r.wr) = true ∧ (!s.wk || r.wk) = true
theorem rgtOf_in {ts : List Thg} {y s : Rgt} (h : rgtIn y s = true) (hs : RgtOf ts s) : RgtOf ts y := by
  simp only [rgtIn, Bool.and_eq_true, rgtIn1, Bool.or_eq_true, beq_iff_eq] at h
  rcases h.2 with h | ⟨⟨⟨⟨h1, h2⟩, h3⟩, h4⟩, h5⟩
  · exact .inl h
  · rcases hs with hs | ⟨n, hn, x, hx, e1, e2, e3, e4⟩
    · exact .inl (h1.trans hs)
    · refine .inr ⟨n, hn, x, hx, e1.trans h1.symm, e2.trans h2.symm, ?_, ?_⟩
      · revert h4 e3; cases x.wr <;> cases y.wr <;> cases s.wr <;> simp
      · revert h5 e4; cases x.wk <;> cases y.wk <;> cases s.wk <;> simp
theorem law_runRights {ts : List Thg} {cs : List Cal} (hc : AllCan ts cs) {i : Int} (hi : ex ts i = true) {r : Rgt} (hr : r ∈ (getT (runDo ts cs).1 i).slots) (ht : tabOk ts = true) : RgtOf ts r := by
  refine runDo_inv (fun us => ∀ i, ex ts i = true → ∀ r ∈ (getT us i).slots, RgtOf ts r) cs hc ?_ ?_ i hi r hr
  · intro i hi r hr
    refine .inr ⟨i, hi, r, hr, rfl, rfl, ?_, ?_⟩ <;> cases r.wr <;> cases r.wk <;> simp
  · intro us c _ hcu hS hP i hi r hr
    obtain ⟨k, hk⟩ := List.mem_iff_getElem?.1 hr
    have hiu : ex us i = true := by rw [hS.ex]; exact hi
    rcases law_rights hcu hiu hk with h | h | ⟨s, hs, h⟩ | ⟨-, h0, s, hs, h⟩
    · exact hP i hi r (List.mem_of_getElem? h)
    · subst h; exact .inl rfl
    · exact rgtOf_in h (hP c.run (by rw [← hS.ex]; exact hcu.ex) s hs)
    · exact rgtOf_in h (hP _ (by rw [← hS.ex]; exact cap_ex hcu.rCap h0) s hs)

/-- P95. -/
theorem law_writes1 {ts : List Thg} {c : Cal} (h : CanB ts c) {i : Int} (hi : ex ts i = true) (hk : (getT ts i).kind = 1) :
    (getT (do2 ts c).1 i).num = (getT ts i).num ∨ (getT (do2 ts c).1 i).num ≤ 1 ∨ (c.kind = 2 ∧ (getT (do2 ts c).1 i).num = c.n) := by
  have h1 : i ≠ c.run := by intro e; subst e; have := h.kind; omega
  rw [do2_ne h hi h1]
  by_cases h0 : check1 ts c = 0
  · by_cases h3 : c.kind = 3
    · rw [do1_copy h3]
      dsimp only
      rw [getT_ne _ (ex_iff.1 h.ex).1 (ex_iff.1 hi).1 h1]; exact .inl rfl
    · obtain ⟨z1, z2, -⟩ := check_zero h0 h3
      cases hl : live ts (slotOf ts c)
      · rw [do1_gone h0 h3 hl]; exact .inl rfl
      · rw [do1_live h0 h3 hl]
        dsimp only
        have he := live_ex hl
        generalize slotOf ts c = r at *
        have hn := h.n
        rcases kinds_of z2 h.call h3 with ⟨e, k⟩ | ⟨e, k⟩ | ⟨e, k⟩ | ⟨e, k⟩ | ⟨e, k⟩ | ⟨e, k⟩ | ⟨e, k⟩ | ⟨e, k⟩ <;> simp only [act, e, if_true, Int.reduceEq, if_false]
        · exact .inl (by trivial)
        · rw [getT_setT _ he hi]; split
          · exact .inr (.inr ⟨by trivial, rfl⟩)
          · exact .inl rfl
        · rw [getT_setT _ h.ex hi, if_neg h1]; exact .inl rfl
        · rw [getT_setT _ he hi]; split
          · rename_i e; subst e; exact .inl rfl
          · exact .inl rfl
        · split
          · exact .inl rfl
          · rw [getT_setT _ he hi]; split
            · rename_i e; subst e; exact .inl rfl
            · exact .inl rfl
        · split
          · exact .inl rfl
          · rw [getT_setT _ he hi]; split
            · rename_i e; subst e; exact .inl rfl
            · exact .inl rfl
        · have ht := gate_to h.tab he k
          have h2 : i ≠ r.thing := by intro e; subst e; omega
          rw [getT_ne _ (ex_iff.1 he).1 (ex_iff.1 hi).1 h2, getT_setT _ ht.1 hi]; split
          · refine .inr (.inl ?_); simp only [setNum]; omega
          · exact .inl rfl
        · split
          · exact .inl rfl
          · rw [getT_setT _ he hi]; split
            · exact .inr (.inl (by simp [renewT]))
            · exact .inl rfl
  · rw [do1_bad h0]; exact .inl rfl

theorem law_writes {ts : List Thg} {cs : List Cal} (hc : AllCan ts cs) {i : Int} (hi : ex ts i = true) (hk : (getT ts i).kind = 1) :
    (getT (runDo ts cs).1 i).num = (getT ts i).num ∨ (getT (runDo ts cs).1 i).num ≤ 1 ∨ ∃ c ∈ cs, c.kind = 2 ∧ c.n = (getT (runDo ts cs).1 i).num := by
  refine runDo_inv (fun us => (getT us i).num = (getT ts i).num ∨ (getT us i).num ≤ 1 ∨ ∃ c ∈ cs, c.kind = 2 ∧ c.n = (getT us i).num) cs hc (.inl rfl) ?_
  intro us c hcm hcu hS hP
  have hiu : ex us i = true := by rw [hS.ex]; exact hi
  rcases law_writes1 hcu hiu ((hS.kind i hi).trans hk) with h | h | ⟨h1, h2⟩
  · rw [h]; exact hP
  · exact .inr (.inl h)
  · exact .inr (.inr ⟨c, hcm, h1, h2.symm⟩)

/-- Quiet calls: high ones do not go through a gate. -/
def Quiet (ts : List Thg) (cs : List Cal) (l : Lab) : Prop := ∀ c ∈ cs, c.kind = 9 → flow (getT ts c.run).lab l = true
/-- The answers of those of whom one may know. -/
def lows (ts : List Thg) (l : Lab) : List Cal → List Int → List Int
  | c :: cs, a :: as => if flow (getT ts c.run).lab l then a :: lows ts l cs as else lows ts l cs as
  | _, _ => []

/-- P83, P84: quiet calls leave what those of whom one may know leave, and answer them the same. -/
theorem runDo_low (l : Lab) (t0 : List Thg) : ∀ (cs : List Cal) {ts us : List Thg}, Same t0 ts → tabOk ts = true → tabOk us = true → VS l ts us → AllCan ts cs → Quiet t0 cs l →
    VS l (runDo ts cs).1 (runDo us (cs.filter (fun c => flow (getT t0 c.run).lab l))).1 ∧ (runDo us (cs.filter (fun c => flow (getT t0 c.run).lab l))).2 = lows t0 l cs (runDo ts cs).2
  | [], _, _, _, _, _, hv, _, _ => ⟨hv, rfl⟩
  | c :: cs, ts, us, hS, ht, hu, hv, hc, hq => by
    have hcc := hc c (by simp)
    have hlab : (getT ts c.run).lab = (getT t0 c.run).lab := hS.lab _ (by rw [← hS.ex]; exact hcc.ex)
    have hf := do2_fine hcc
    have hq' : Quiet t0 cs l := fun d hd => hq d (by simp [hd])
    by_cases hl : flow (getT t0 c.run).lab l = true
    · obtain ⟨h1, h2⟩ := step_low hcc hu hv (by rw [hlab]; exact hl)
      have := runDo_low l t0 cs (hS.trans hf.same) hf.tab (do2_fine (hv.can hu hcc)).tab h2 hc.tail hq'
      simp only [List.filter_cons, hl, if_true, runDo, lows]
      exact ⟨this.1, by rw [this.2, h1]⟩
    · have h9 : c.kind ≠ 9 := fun e => hl (hq c (by simp) e)
      have hl' : flow (getT ts c.run).lab l = false := by rw [hlab]; simpa using hl
      have h1 := step_high hcc hl' h9
      have := runDo_low l t0 cs (hS.trans hf.same) hf.tab hu (h1.symm.trans hv) hc.tail hq'
      simp only [List.filter_cons, hl, runDo, lows]
      exact this

/-- P85: from what looks the same comes what looks the same, call by call of those of whom one may know. -/
theorem runDo_same (l : Lab) (t0 : List Thg) : ∀ (cs : List Cal) {ts us : List Thg}, Same t0 ts → tabOk ts = true → tabOk us = true → VS l ts us → AllCan ts cs → Quiet t0 cs l →
    VS l (runDo ts cs).1 (runDo us cs).1 ∧ lows t0 l cs (runDo us cs).2 = lows t0 l cs (runDo ts cs).2
  | [], _, _, _, _, _, hv, _, _ => ⟨hv, rfl⟩
  | c :: cs, ts, us, hS, ht, hu, hv, hc, hq => by
    have hcc := hc c (by simp)
    have hlab : (getT ts c.run).lab = (getT t0 c.run).lab := hS.lab _ (by rw [← hS.ex]; exact hcc.ex)
    have hf := do2_fine hcc
    have hcu := hv.can hu hcc
    have hfu := do2_fine hcu
    have hq' : Quiet t0 cs l := fun d hd => hq d (by simp [hd])
    by_cases hl : flow (getT t0 c.run).lab l = true
    · obtain ⟨h1, h2⟩ := step_low hcc hu hv (by rw [hlab]; exact hl)
      have := runDo_same l t0 cs (hS.trans hf.same) hf.tab hfu.tab h2 hc.tail hq'
      simp only [runDo, lows, hl, if_true]
      exact ⟨this.1, by rw [this.2, h1]⟩
    · have h9 : c.kind ≠ 9 := fun e => hl (hq c (by simp) e)
      have hl' : flow (getT ts c.run).lab l = false := by rw [hlab]; simpa using hl
      have h1 := step_high hcc hl' h9
      have h2 := step_high hcu (by rw [hv.lab _ hcc.ex]; exact hl') h9
      have := runDo_same l t0 cs (hS.trans hf.same) hf.tab hfu.tab ((h1.symm.trans hv).trans h2) hc.tail hq'
      simp only [runDo, lows, hl]
      exact this

end Drw
