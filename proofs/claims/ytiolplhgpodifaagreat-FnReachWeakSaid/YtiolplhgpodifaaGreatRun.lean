/- Plain laws of what one of a label may know: low steps hang on what is known, high ones change nothing of it. Conditions: none. -/
import Derived.Test.YtiolplhgpodifaaGreatDo
set_option linter.unusedVariables false
set_option linter.unusedSimpArgs false
namespace Drw
open Go Go.RowKit

/-! ## Labels -/
theorem flow_trans {a b c : Lab} (h : flow a b = true) (k : flow b c = true) : flow a c = true := by
  simp only [flow, flow1, subM, Bool.and_eq_true, decide_eq_true_eq] at *
  obtain ⟨⟨a1, a2⟩, ⟨a3, a4⟩, a5, a6⟩ := h
  obtain ⟨⟨b1, b2⟩, ⟨b3, b4⟩, b5, b6⟩ := k
  exact ⟨⟨a1, b2⟩, ⟨Int.le_trans a3 b3, Int.le_trans a4 b4⟩, Int.le_trans b5 a5, Int.le_trans b6 a6⟩
theorem flow_ok {a b : Lab} (h : flow a b = true) : labOk a = true ∧ labOk b = true := by
  simp only [flow, Bool.and_eq_true] at h; exact h.1

/-- Two tables that look the same to one of a label. -/
structure VS (l : Lab) (ts us : List Thg) : Prop where
  len : us.length = ts.length
  kind : ∀ i, ex ts i = true → (getT us i).kind = (getT ts i).kind
  lab : ∀ i, ex ts i = true → (getT us i).lab = (getT ts i).lab
  to : ∀ i, ex ts i = true → (getT us i).to = (getT ts i).to
  low : ∀ i, ex ts i = true → flow (getT ts i).lab l = true → getT us i = getT ts i

theorem VS.refl (l : Lab) (ts : List Thg) : VS l ts ts := ⟨rfl, fun _ _ => rfl, fun _ _ => rfl, fun _ _ => rfl, fun _ _ _ => rfl⟩
theorem VS.exEq {l : Lab} {ts us : List Thg} (h : VS l ts us) (i : Int) : ex us i = ex ts i := by simp [ex, h.len]
theorem VS.symm {l : Lab} {ts us : List Thg} (h : VS l ts us) : VS l us ts :=
  ⟨h.len.symm, fun i hi => (h.kind i (by rw [← h.exEq]; exact hi)).symm, fun i hi => (h.lab i (by rw [← h.exEq]; exact hi)).symm, fun i hi => (h.to i (by rw [← h.exEq]; exact hi)).symm,
    fun i hi hl => (h.low i (by rw [← h.exEq]; exact hi) (by rw [← h.lab i (by rw [← h.exEq]; exact hi)]; exact hl)).symm⟩
theorem VS.trans {l : Lab} {a b c : List Thg} (h : VS l a b) (k : VS l b c) : VS l a c :=
  ⟨k.len.trans h.len, fun i hi => (k.kind i (by rw [h.exEq]; exact hi)).trans (h.kind i hi), fun i hi => (k.lab i (by rw [h.exEq]; exact hi)).trans (h.lab i hi), fun i hi => (k.to i (by rw [h.exEq]; exact hi)).trans (h.to i hi),
    fun i hi hl => (k.low i (by rw [h.exEq]; exact hi) (by rw [h.lab i hi]; exact hl)).trans (h.low i hi hl)⟩

/-- What only what is not known turns. -/
theorem VS.of_same {l : Lab} {ts us : List Thg} (h : Same ts us) (hl : ∀ i, ex ts i = true → flow (getT ts i).lab l = true → getT us i = getT ts i) : VS l ts us := ⟨h.len, h.kind, h.lab, h.to, hl⟩

theorem VS.can {l : Lab} {ts us : List Thg} (h : VS l ts us) (hu : tabOk us = true) {c : Cal} (hc : CanB ts c) : CanB us c := by
  rw [← canB]
  simp only [calCan, hu, hc.ok, kindAt, h.exEq, hc.ex, h.kind _ hc.ex, hc.kind]
  decide

/-- One and the same change of one thing in both. -/
theorem VS.set {l : Lab} {ts us : List Thg} (h : VS l ts us) {i : Int} (hi : ex ts i = true) {f g : Thg → Thg}
    (hk : ∀ t, (f t).kind = t.kind ∧ (f t).lab = t.lab ∧ (f t).to = t.to) (hk' : ∀ t, (g t).kind = t.kind ∧ (g t).lab = t.lab ∧ (g t).to = t.to)
    (hl : flow (getT ts i).lab l = true → f (getT ts i) = g (getT ts i)) : VS l (setT ts i f) (setT us i g) := by
  have hi' : ex us i = true := by rw [h.exEq]; exact hi
  refine ⟨by rw [setT_len, setT_len]; exact h.len, ?_, ?_, ?_, ?_⟩ <;> intro j hj <;> rw [ex_setT] at hj <;> rw [getT_setT f hi hj, getT_setT g hi' (by rw [h.exEq]; exact hj)] <;> split
  · rw [(hk _).1, (hk' _).1]; exact h.kind i hi
  · exact h.kind j hj
  · rw [(hk _).2.1, (hk' _).2.1]; exact h.lab i hi
  · exact h.lab j hj
  · rw [(hk _).2.2, (hk' _).2.2]; exact h.to i hi
  · exact h.to j hj
  · intro hf
    rw [(hk _).2.1] at hf
    rw [h.low i hi hf, hl hf]
  · exact h.low j hj

/-- A change of what is not known, in one of the two. -/
theorem VS.setHigh {l : Lab} {ts us : List Thg} (h : VS l ts us) {i : Int} (hi : ex ts i = true) {g : Thg → Thg} (hk' : ∀ t, (g t).kind = t.kind ∧ (g t).lab = t.lab ∧ (g t).to = t.to) (hl : flow (getT ts i).lab l = false) : VS l ts (setT us i g) := by
  have hi' : ex us i = true := by rw [h.exEq]; exact hi
  refine ⟨by rw [setT_len]; exact h.len, ?_, ?_, ?_, ?_⟩ <;> intro j hj <;> rw [getT_setT g hi' (by rw [h.exEq]; exact hj)] <;> split
  · rename_i e; subst e; rw [(hk' _).1]; exact h.kind j hi
  · exact h.kind j hj
  · rename_i e; subst e; rw [(hk' _).2.1]; exact h.lab j hi
  · exact h.lab j hj
  · rename_i e; subst e; rw [(hk' _).2.2]; exact h.to j hi
  · exact h.to j hj
  · rename_i e; subst e; intro hf; rw [hl] at hf; cases hf
  · exact h.low j hj

theorem keeps_setNum (n : Int) : ∀ t, (setNum n t).kind = t.kind ∧ (setNum n t).lab = t.lab ∧ (setNum n t).to = t.to := fun _ => ⟨rfl, rfl, rfl⟩
theorem keeps_setSlot (i : Int) (r : Rgt) : ∀ t, (setSlot i r t).kind = t.kind ∧ (setSlot i r t).lab = t.lab ∧ (setSlot i r t).to = t.to := fun _ => ⟨rfl, rfl, rfl⟩
theorem keeps_setQueue (q : List Int) : ∀ t, (setQueue q t).kind = t.kind ∧ (setQueue q t).lab = t.lab ∧ (setQueue q t).to = t.to := fun _ => ⟨rfl, rfl, rfl⟩
theorem keeps_renew : ∀ t, (renewT t).kind = t.kind ∧ (renewT t).lab = t.lab ∧ (renewT t).to = t.to := fun _ => ⟨rfl, rfl, rfl⟩

/-- A right to a gate is live. -/
theorem gate_live {ts : List Thg} (h : tabOk ts = true) {r : Rgt} (hr : rgtOk r = true) (hc : capOk ts r = true) (h0 : r.thing ≠ 0) (hk : (getT ts r.thing).kind = 5) : live ts r = true := by
  have he := cap_ex hc h0
  have hv := (thg_parts.1 (tab_thgOk h he)).2.2.1
  simp only [versOk, hk] at hv
  have hv : (getT ts r.thing).vers = 0 := by simpa using hv
  simp only [capOk, Bool.or_eq_true, beq_iff_eq, Bool.and_eq_true, decide_eq_true_eq] at hc
  have h2 := (hc.resolve_left h0).2
  simp only [rgtOk, if_neg h0, inR, Bool.and_eq_true, decide_eq_true_eq] at hr
  simp only [live, he, hv, Bool.true_and, beq_iff_eq]
  omega

/-- P72's core: who is high changes nothing that is known, but through a gate. -/
theorem step_high {l : Lab} {ts : List Thg} {c : Cal} (h : CanB ts c) (hl : flow (getT ts c.run).lab l = false) (h9 : c.kind ≠ 9) : VS l ts (do2 ts c).1 := by
  refine VS.of_same (do2_fine h).same fun i hi hf => ?_
  have h1 : i ≠ c.run := by intro e; subst e; rw [hl] at hf; cases hf
  by_cases h2 : i = (slotOf ts c).thing
  · rw [do2_ne h hi h1]
    by_cases h0 : check1 ts c = 0
    · by_cases h3 : c.kind = 3
      · rw [do1_copy h3]
        exact getT_ne _ (ex_iff.1 h.ex).1 (ex_iff.1 hi).1 h1
      · obtain ⟨z1, z2, z3, z4, z5⟩ := check_zero h0 h3
        have hno : needWr c.kind = false := by
          cases hw : needWr c.kind
          · rfl
          · have ht := (z4 hw).2
            unfold touches at ht
            rw [← h2] at ht
            have := flow_trans ht hf
            rw [hl] at this; cases this
        cases hv : live ts (slotOf ts c)
        · rw [do1_gone h0 h3 hv]
        · rw [do1_live h0 h3 hv]
          dsimp only
          have hk : c.kind = 1 ∨ c.kind = 4 := by
            simp only [needWr, Bool.not_eq_false', Bool.or_eq_true, beq_iff_eq] at hno; exact hno
          rcases hk with hk | hk
          · simp [act, hk]
          · simp only [act, hk, if_true, Int.reduceEq, if_false]
            exact getT_ne _ (ex_iff.1 h.ex).1 (ex_iff.1 hi).1 h1
    · rw [do1_bad h0]
  · exact law_touch h hi h1 h2 (fun e => absurd e h9)

/-- What is told ahead hangs on what is known. -/
theorem check_low {l : Lab} {ts us : List Thg} {c : Cal} (h : CanB ts c) (hv : VS l ts us) (hl : flow (getT ts c.run).lab l = true) : slotOf us c = slotOf ts c ∧ check1 us c = check1 ts c := by
  have hs : slotOf us c = slotOf ts c := by unfold slotOf; rw [hv.low _ h.ex hl]
  refine ⟨hs, ?_⟩
  unfold check1
  rw [hs]
  by_cases h3 : c.kind = 3
  · simp [h3]
  · by_cases h0 : (slotOf ts c).thing = 0
    · simp [h3, h0]
    · have he := cap_ex h.rCap h0
      have e1 := hv.kind _ he
      have e2 : sees us c.run (slotOf ts c).thing = sees ts c.run (slotOf ts c).thing := by unfold sees; rw [hv.lab _ he, hv.lab _ h.ex]
      have e3 : touches us c.run (slotOf ts c).thing = touches ts c.run (slotOf ts c).thing := by unfold touches; rw [hv.lab _ he, hv.lab _ h.ex]
      have e4 : sees ts c.run (slotOf ts c).thing = true → live us (slotOf ts c) = live ts (slotOf ts c) := by
        intro hs
        unfold live
        rw [hv.exEq, hv.low _ he (flow_trans hs hl)]
      dsimp only
      rw [e1, e2, e3]
      cases hss : sees ts c.run (slotOf ts c).thing
      · simp
      · rw [e4 hss]

/-- A call on what is not known, by one that is: nothing that is known hangs on it, but the page behind a gate. -/
theorem act_hidden {l : Lab} {ts us : List Thg} {c : Cal} (h : CanB ts c) (hu : tabOk us = true) (hv : VS l ts us) (h3 : c.kind ≠ 3) (hk : hasKind c.kind (getT ts (slotOf ts c).thing).kind = true) (he : ex ts (slotOf ts c).thing = true)
    (hh : flow (getT ts (slotOf ts c).thing).lab l = false) (hr : needRd c.kind = false) (h9 : c.kind ≠ 9) : VS l ts (act us c (slotOf ts c)).1 := by
  have hk' : (getT us (slotOf ts c).thing).kind = (getT ts (slotOf ts c).thing).kind := hv.kind _ he
  generalize slotOf ts c = r at *
  rcases kinds_of hk h.call h3 with ⟨e, k⟩ | ⟨e, k⟩ | ⟨e, k⟩ | ⟨e, k⟩ | ⟨e, k⟩ | ⟨e, k⟩ | ⟨e, k⟩ | ⟨e, k⟩ <;> simp only [act, e, if_true, Int.reduceEq, if_false]
  · simp [needRd, e] at hr
  · exact hv.setHigh he (keeps_setNum _) hh
  · simp [needRd, e] at hr
  · exact hv.setHigh he (keeps_setSlot _ _) hh
  · split
    · exact hv
    · exact hv.setHigh he (keeps_setQueue _) hh
  · simp [needRd, e] at hr
  · exact absurd e h9
  · split
    · exact hv
    · exact hv.setHigh he keeps_renew hh

/-- P73's core: what one does hangs on what one knows. -/
theorem step_low {l : Lab} {ts us : List Thg} {c : Cal} (h : CanB ts c) (hu : tabOk us = true) (hv : VS l ts us) (hl : flow (getT ts c.run).lab l = true) : (do2 us c).2 = (do2 ts c).2 ∧ VS l (do2 ts c).1 (do2 us c).1 := by
  have hcu := hv.can hu h
  obtain ⟨hs, hck⟩ := check_low h hv hl
  have key : (do1 us c).2 = (do1 ts c).2 ∧ VS l (do1 ts c).1 (do1 us c).1 := by
    by_cases h0 : check1 ts c = 0
    · have h0' : check1 us c = 0 := hck.trans h0
      by_cases h3 : c.kind = 3
      · rw [do1_copy h3, do1_copy h3, hs]
        exact ⟨by trivial, hv.set h.ex (keeps_setSlot _ _) (keeps_setSlot _ _) (fun _ => rfl)⟩
      · obtain ⟨z1, z2, z3, z4, z5⟩ := check_zero h0 h3
        have he := cap_ex h.rCap z1
        have hse : sees us c.run (slotOf ts c).thing = sees ts c.run (slotOf ts c).thing := by unfold sees; rw [hv.lab _ he, hv.lab _ h.ex]
        by_cases hlow : flow (getT ts (slotOf ts c).thing).lab l = true
        · -- the thing is known: it is the same in both
          have ht := hv.low _ he hlow
          have hli : live us (slotOf ts c) = live ts (slotOf ts c) := by unfold live; rw [hv.exEq, ht]
          cases hlv : live ts (slotOf ts c)
          · rw [do1_gone h0 h3 hlv, do1_gone h0' h3 (by rw [hs, hli]; exact hlv)]
            exact ⟨rfl, hv⟩
          · rw [do1_live h0 h3 hlv, do1_live h0' h3 (by rw [hs, hli]; exact hlv), hs, hse]
            have hrun := hv.low _ h.ex hl
            have hact : (act us c (slotOf ts c)).2 = (act ts c (slotOf ts c)).2 ∧ VS l (act ts c (slotOf ts c)).1 (act us c (slotOf ts c)).1 := by
              generalize slotOf ts c = r at *
              rcases kinds_of z2 h.call h3 with ⟨e, k⟩ | ⟨e, k⟩ | ⟨e, k⟩ | ⟨e, k⟩ | ⟨e, k⟩ | ⟨e, k⟩ | ⟨e, k⟩ | ⟨e, k⟩ <;> simp only [act, e, if_true, Int.reduceEq, if_false, ht, hrun]
              · exact ⟨by trivial, hv⟩
              · exact ⟨by trivial, hv.set he (keeps_setNum _) (keeps_setNum _) (fun _ => rfl)⟩
              · exact ⟨by trivial, hv.set h.ex (keeps_setSlot _ _) (keeps_setSlot _ _) (fun _ => rfl)⟩
              · exact ⟨by trivial, hv.set he (keeps_setSlot _ _) (keeps_setSlot _ _) (fun _ => rfl)⟩
              · split
                · exact ⟨rfl, hv⟩
                · exact ⟨by trivial, hv.set he (keeps_setQueue _) (keeps_setQueue _) (fun _ => rfl)⟩
              · split
                · exact ⟨rfl, hv⟩
                · exact ⟨by trivial, hv.set he (keeps_setQueue _) (keeps_setQueue _) (fun _ => rfl)⟩
              · have hg := gate_to h.tab he k
                refine ⟨by trivial, VS.set (hv.set hg.1 (keeps_setNum _) (keeps_setNum _) (fun _ => rfl)) (by rw [ex_setT]; exact he) (fun _ => ⟨rfl, rfl, rfl⟩) (fun _ => ⟨rfl, rfl, rfl⟩) (fun _ => rfl)⟩
              · split
                · exact ⟨rfl, hv⟩
                · exact ⟨by trivial, hv.set he keeps_renew keeps_renew (fun _ => rfl)⟩
            exact ⟨by rw [hact.1], hact.2⟩
        · -- it is not known
          have hlow : flow (getT ts (slotOf ts c).thing).lab l = false := by simpa using hlow
          have hns : sees ts c.run (slotOf ts c).thing = false := by
            cases hss : sees ts c.run (slotOf ts c).thing
            · rfl
            · have := flow_trans hss hl
              rw [hlow] at this; cases this
          have hnr : needRd c.kind = false := by
            cases hr : needRd c.kind
            · rfl
            · have := (z3 hr).2
              rw [hns] at this; cases this
          have hz2' : hasKind c.kind (getT us (slotOf ts c).thing).kind = true := by rw [hv.kind _ he]; exact z2
          have hheu : ex us (slotOf ts c).thing = true := by rw [hv.exEq]; exact he
          have hhu : flow (getT us (slotOf ts c).thing).lab l = false := by rw [hv.lab _ he]; exact hlow
          by_cases h9 : c.kind = 9
          · have hk5 : (getT ts (slotOf ts c).thing).kind = 5 := by
              rcases kinds_of z2 h.call h3 with h | h | h | h | h | h | h | h <;> omega
            have l1 := gate_live h.tab h.rOk h.rCap z1 hk5
            have l2 := gate_live hu hcu.rOk hcu.rCap (by rw [hs]; exact z1) (by rw [hs, hv.kind _ he]; exact hk5)
            rw [do1_live h0 h3 l1, do1_live h0' h3 l2, hs, hse, hns]
            refine ⟨rfl, ?_⟩
            generalize slotOf ts c = r at *
            have hg := gate_to h.tab he hk5
            simp only [act, h9, if_true, Int.reduceEq, if_false, hv.to _ he]
            exact VS.set (hv.set hg.1 (keeps_setNum _) (keeps_setNum _) (fun _ => rfl)) (by rw [ex_setT]; exact he) (fun _ => ⟨rfl, rfl, rfl⟩) (fun _ => ⟨rfl, rfl, rfl⟩) (fun _ => rfl)
          · -- each of the two goes on or stands, unseen
            have h1 : (do1 ts c).2 = 0 ∧ VS l ts (do1 ts c).1 := by
              cases hlv : live ts (slotOf ts c)
              · rw [do1_gone h0 h3 hlv]; exact ⟨rfl, VS.refl _ _⟩
              · rw [do1_live h0 h3 hlv, hns]
                exact ⟨rfl, act_hidden h h.tab (VS.refl _ _) h3 z2 he hlow hnr h9⟩
            have h2 : (do1 us c).2 = 0 ∧ VS l us (do1 us c).1 := by
              cases hlv : live us (slotOf us c)
              · rw [do1_gone h0' h3 hlv]; exact ⟨rfl, VS.refl _ _⟩
              · rw [do1_live h0' h3 hlv, hs, hse, hns]
                refine ⟨rfl, ?_⟩
                have := act_hidden (l := l) hcu hu (VS.refl l us) h3 (by rw [hs]; exact hz2') (by rw [hs]; exact hheu) (by rw [hs]; exact hhu) hnr h9
                rw [hs] at this; exact this
            exact ⟨h2.1.trans h1.1.symm, (h1.2.symm.trans hv).trans h2.2⟩
    · rw [do1_bad h0, do1_bad (by rw [hck]; exact h0), hck]
      exact ⟨rfl, hv⟩
  refine ⟨key.1, ?_⟩
  have e : (do2 us c).1 = setT (do1 us c).1 c.run (setNum (do1 ts c).2) := by rw [← key.1]; rfl
  rw [e]
  exact key.2.set (by rw [(do1_fine h).same.ex]; exact h.ex) (keeps_setNum _) (keeps_setNum _) (fun _ => rfl)

end Drw

/- Plain laws of calls, one behind the other. Conditions: none. -/
namespace Drw
open Go Go.RowKit

def runDo (ts : List Thg) : List Cal → List Thg × List Int
  | [] => (ts, [])
  | c :: cs => ((runDo (do2 ts c).1 cs).1, (do2 ts c).2 :: (runDo (do2 ts c).1 cs).2)
def runCan (ts : List Thg) (cs : List Cal) : Bool := tabOk ts && decide (cs.length ≤ 40) && cs.all (calCan ts)
def runAll (ts : List Thg) (cs : List Cal) : List Thg × List Int × Bool := if runCan ts cs then ((runDo ts cs).1, (runDo ts cs).2, true) else ([], [], false)
def runLow (ts : List Thg) (cs : List Cal) (l : Lab) : List Cal := if runCan ts cs && labOk l then cs.filter (fun c => flow (getT ts c.run).lab l) else []
def runQuiet (ts : List Thg) (cs : List Cal) (l : Lab) : Bool := runCan ts cs && labOk l && cs.all (fun c => c.kind != 9 || flow (getT ts c.run).lab l)

/-- All calls can be. -/
def AllCan (ts : List Thg) (cs : List Cal) : Prop := ∀ c ∈ cs, CanB ts c
theorem runCan_iff {ts : List Thg} {cs : List Cal} : runCan ts cs = true ↔ tabOk ts = true ∧ cs.length ≤ 40 ∧ AllCan ts cs := by
  simp only [runCan, Bool.and_eq_true, decide_eq_true_eq, List.all_eq_true, canB, and_assoc, AllCan]
theorem AllCan.after {ts us : List Thg} {cs : List Cal} (h : AllCan ts cs) (hs : Same ts us) (hu : tabOk us = true) : AllCan us cs :=
  fun c hc => can_after (h c hc) hs hu (h c hc).ok rfl
theorem AllCan.tail {ts : List Thg} {c : Cal} {cs : List Cal} (h : AllCan ts (c :: cs)) : AllCan (do2 ts c).1 cs := by
  have hf := do2_fine (h c (by simp))
  exact AllCan.after (fun d hd => h d (by simp [hd])) hf.same hf.tab

theorem runDo_fine : ∀ (cs : List Cal) {ts : List Thg}, tabOk ts = true → AllCan ts cs → tabOk (runDo ts cs).1 = true ∧ Same ts (runDo ts cs).1 ∧ (runDo ts cs).2.length = cs.length
  | [], ts, ht, _ => ⟨ht, Same.refl _, rfl⟩
  | c :: cs, ts, ht, h => by
    have hf := do2_fine (h c (by simp))
    obtain ⟨h1, h2, h3⟩ := runDo_fine cs hf.tab h.tail
    exact ⟨h1, hf.same.trans h2, by simp [runDo, h3]⟩

theorem runDo_append : ∀ (as bs : List Cal) (ts : List Thg), runDo ts (as ++ bs) = ((runDo (runDo ts as).1 bs).1, (runDo ts as).2 ++ (runDo (runDo ts as).1 bs).2)
  | [], bs, ts => rfl
  | a :: as, bs, ts => by
    simp only [List.cons_append, runDo]
    rw [runDo_append as bs]
theorem runDo_snoc (as : List Cal) (b : Cal) (ts : List Thg) : runDo ts (as ++ [b]) = ((do2 (runDo ts as).1 b).1, (runDo ts as).2 ++ [(do2 (runDo ts as).1 b).2]) := by
  rw [runDo_append]; rfl

/-- What holds at first, and behind each call, holds at the end. -/
theorem runDo_inv (P : List Thg → Prop) : ∀ (cs : List Cal) {ts : List Thg}, AllCan ts cs → P ts → (∀ us c, c ∈ cs → CanB us c → Same ts us → P us → P (do2 us c).1) → P (runDo ts cs).1
  | [], _, _, h, _ => h
  | c :: cs, ts, hc, h, hs => by
    have hf := do2_fine (hc c (by simp))
    exact runDo_inv P cs hc.tail (hs ts c (by simp) (hc c (by simp)) (Same.refl _) h) (fun us d hd hu hS hp => hs us d (by simp [hd]) hu (hf.same.trans hS) hp)

/-- P86. -/
def RgtOf (ts : List Thg) (r : Rgt) : Prop := r.thing = 0 ∨ ∃ n, ex ts n = true ∧ ∃ s ∈ (getT ts n).slots, s.thing = r.thing ∧ s.vers = r.vers ∧ (s.wr || !r.wr) = true ∧ (!s.wk || r.wk) = true
theorem rgtOf_in {ts : List Thg} {y s : Rgt} (h : rgtIn y s = true) (hs : RgtOf ts s) : RgtOf ts y := by
  simp only [rgtIn, Bool.and_eq_true, rgtIn1, Bool.or_eq_true, beq_iff_eq] at h
  rcases h.2 with h | ⟨⟨⟨⟨h1, h2⟩, h3⟩, h4⟩, h5⟩
  · exact .inl h
  · rcases hs with hs | ⟨n, hn, x, hx, e1, e2, e3, e4⟩
    · exact .inl (h1.trans hs)
    · refine .inr ⟨n, hn, x, hx, e1.trans h1.symm, e2.trans h2.symm, ?_, ?_⟩
      · revert h4 e3; cases x.wr <;> cases y.wr <;> cases s.wr <;> simp
      · revert h5 e4; cases x.wk <;> cases y.wk <;> cases s.wk <;> simp
theorem law_runRights {ts : List Thg} {cs : List Cal} (hc : AllCan ts cs) {i : Int} (hi : ex ts i = true) {r : Rgt} (hr : r ∈ (getT (runDo ts cs).1 i).slots) (ht : tabOk ts = true) : RgtOf ts r := by
  refine runDo_inv (fun us => ∀ i, ex ts i = true → ∀ r ∈ (getT us i).slots, RgtOf ts r) cs hc ?_ ?_ i hi r hr
  · intro i hi r hr
    refine .inr ⟨i, hi, r, hr, rfl, rfl, ?_, ?_⟩ <;> cases r.wr <;> cases r.wk <;> simp
  · intro us c _ hcu hS hP i hi r hr
    obtain ⟨k, hk⟩ := List.mem_iff_getElem?.1 hr
    have hiu : ex us i = true := by rw [hS.ex]; exact hi
    rcases law_rights hcu hiu hk with h | h | ⟨s, hs, h⟩ | ⟨-, h0, s, hs, h⟩
    · exact hP i hi r (List.mem_of_getElem? h)
    · subst h; exact .inl rfl
    · exact rgtOf_in h (hP c.run (by rw [← hS.ex]; exact hcu.ex) s hs)
    · exact rgtOf_in h (hP _ (by rw [← hS.ex]; exact cap_ex hcu.rCap h0) s hs)

/-- P95. -/
theorem law_writes1 {ts : List Thg} {c : Cal} (h : CanB ts c) {i : Int} (hi : ex ts i = true) (hk : (getT ts i).kind = 1) :
    (getT (do2 ts c).1 i).num = (getT ts i).num ∨ (getT (do2 ts c).1 i).num ≤ 1 ∨ (c.kind = 2 ∧ (getT (do2 ts c).1 i).num = c.n) := by
  have h1 : i ≠ c.run := by intro e; subst e; have := h.kind; omega
  rw [do2_ne h hi h1]
  by_cases h0 : check1 ts c = 0
  · by_cases h3 : c.kind = 3
    · rw [do1_copy h3]
      dsimp only
      rw [getT_ne _ (ex_iff.1 h.ex).1 (ex_iff.1 hi).1 h1]; exact .inl rfl
    · obtain ⟨z1, z2, -⟩ := check_zero h0 h3
      cases hl : live ts (slotOf ts c)
      · rw [do1_gone h0 h3 hl]; exact .inl rfl
      · rw [do1_live h0 h3 hl]
        dsimp only
        have he := live_ex hl
        generalize slotOf ts c = r at *
        have hn := h.n
        rcases kinds_of z2 h.call h3 with ⟨e, k⟩ | ⟨e, k⟩ | ⟨e, k⟩ | ⟨e, k⟩ | ⟨e, k⟩ | ⟨e, k⟩ | ⟨e, k⟩ | ⟨e, k⟩ <;> simp only [act, e, if_true, Int.reduceEq, if_false]
        · exact .inl (by trivial)
        · rw [getT_setT _ he hi]; split
          · exact .inr (.inr ⟨by trivial, rfl⟩)
          · exact .inl rfl
        · rw [getT_setT _ h.ex hi, if_neg h1]; exact .inl rfl
        · rw [getT_setT _ he hi]; split
          · rename_i e; subst e; exact .inl rfl
          · exact .inl rfl
        · split
          · exact .inl rfl
          · rw [getT_setT _ he hi]; split
            · rename_i e; subst e; exact .inl rfl
            · exact .inl rfl
        · split
          · exact .inl rfl
          · rw [getT_setT _ he hi]; split
            · rename_i e; subst e; exact .inl rfl
            · exact .inl rfl
        · have ht := gate_to h.tab he k
          have h2 : i ≠ r.thing := by intro e; subst e; omega
          rw [getT_ne _ (ex_iff.1 he).1 (ex_iff.1 hi).1 h2, getT_setT _ ht.1 hi]; split
          · refine .inr (.inl ?_); simp only [setNum]; omega
          · exact .inl rfl
        · split
          · exact .inl rfl
          · rw [getT_setT _ he hi]; split
            · exact .inr (.inl (by simp [renewT]))
            · exact .inl rfl
  · rw [do1_bad h0]; exact .inl rfl

theorem law_writes {ts : List Thg} {cs : List Cal} (hc : AllCan ts cs) {i : Int} (hi : ex ts i = true) (hk : (getT ts i).kind = 1) :
    (getT (runDo ts cs).1 i).num = (getT ts i).num ∨ (getT (runDo ts cs).1 i).num ≤ 1 ∨ ∃ c ∈ cs, c.kind = 2 ∧ c.n = (getT (runDo ts cs).1 i).num := by
  refine runDo_inv (fun us => (getT us i).num = (getT ts i).num ∨ (getT us i).num ≤ 1 ∨ ∃ c ∈ cs, c.kind = 2 ∧ c.n = (getT us i).num) cs hc (.inl rfl) ?_
  intro us c hcm hcu hS hP
  have hiu : ex us i = true := by rw [hS.ex]; exact hi
  rcases law_writes1 hcu hiu ((hS.kind i hi).trans hk) with h | h | ⟨h1, h2⟩
  · rw [h]; exact hP
  · exact .inr (.inl h)
  · exact .inr (.inr ⟨c, hcm, h1, h2.symm⟩)

/-- Quiet calls: high ones do not go through a gate. -/
def Quiet (ts : List Thg) (cs : List Cal) (l : Lab) : Prop := ∀ c ∈ cs, c.kind = 9 → flow (getT ts c.run).lab l = true
/-- The answers of those of whom one may know. -/
def lows (ts : List Thg) (l : Lab) : List Cal → List Int → List Int
  | c :: cs, a :: as => if flow (getT ts c.run).lab l then a :: lows ts l cs as else lows ts l cs as
  | _, _ => []

/-- P83, P84: quiet calls leave what those of whom one may know leave, and answer them the same. -/
theorem runDo_low (l : Lab) (t0 : List Thg) : ∀ (cs : List Cal) {ts us : List Thg}, Same t0 ts → tabOk ts = true → tabOk us = true → VS l ts us → AllCan ts cs → Quiet t0 cs l →
    VS l (runDo ts cs).1 (runDo us (cs.filter (fun c => flow (getT t0 c.run).lab l))).1 ∧ (runDo us (cs.filter (fun c => flow (getT t0 c.run).lab l))).2 = lows t0 l cs (runDo ts cs).2
  | [], _, _, _, _, _, hv, _, _ => ⟨hv, rfl⟩
  | c :: cs, ts, us, hS, ht, hu, hv, hc, hq => by
    have hcc := hc c (by simp)
    have hlab : (getT ts c.run).lab = (getT t0 c.run).lab := hS.lab _ (by rw [← hS.ex]; exact hcc.ex)
    have hf := do2_fine hcc
    have hq' : Quiet t0 cs l := fun d hd => hq d (by simp [hd])
    by_cases hl : flow (getT t0 c.run).lab l = true
    · obtain ⟨h1, h2⟩ := step_low hcc hu hv (by rw [hlab]; exact hl)
      have := runDo_low l t0 cs (hS.trans hf.same) hf.tab (do2_fine (hv.can hu hcc)).tab h2 hc.tail hq'
      simp only [List.filter_cons, hl, if_true, runDo, lows]
      exact ⟨this.1, by rw [this.2, h1]⟩
    · have h9 : c.kind ≠ 9 := fun e => hl (hq c (by simp) e)
      have hl' : flow (getT ts c.run).lab l = false := by rw [hlab]; simpa using hl
      have h1 := step_high hcc hl' h9
      have := runDo_low l t0 cs (hS.trans hf.same) hf.tab hu (h1.symm.trans hv) hc.tail hq'
      simp only [List.filter_cons, hl, runDo, lows]
      exact this

/-- P85: from what looks the same comes what looks the same, call by call of those of whom one may know. -/
theorem runDo_same (l : Lab) (t0 : List Thg) : ∀ (cs : List Cal) {ts us : List Thg}, Same t0 ts → tabOk ts = true → tabOk us = true → VS l ts us → AllCan ts cs → Quiet t0 cs l →
    VS l (runDo ts cs).1 (runDo us cs).1 ∧ lows t0 l cs (runDo us cs).2 = lows t0 l cs (runDo ts cs).2
  | [], _, _, _, _, _, hv, _, _ => ⟨hv, rfl⟩
  | c :: cs, ts, us, hS, ht, hu, hv, hc, hq => by
    have hcc := hc c (by simp)
    have hlab : (getT ts c.run).lab = (getT t0 c.run).lab := hS.lab _ (by rw [← hS.ex]; exact hcc.ex)
    have hf := do2_fine hcc
    have hcu := hv.can hu hcc
    have hfu := do2_fine hcu
    have hq' : Quiet t0 cs l := fun d hd => hq d (by simp [hd])
    by_cases hl : flow (getT t0 c.run).lab l = true
    · obtain ⟨h1, h2⟩ := step_low hcc hu hv (by rw [hlab]; exact hl)
      have := runDo_same l t0 cs (hS.trans hf.same) hf.tab hfu.tab h2 hc.tail hq'
      simp only [runDo, lows, hl, if_true]
      exact ⟨this.1, by rw [this.2, h1]⟩
    · have h9 : c.kind ≠ 9 := fun e => hl (hq c (by simp) e)
      have hl' : flow (getT ts c.run).lab l = false := by rw [hlab]; simpa using hl
      have h1 := step_high hcc hl' h9
      have h2 := step_high hcu (by rw [hv.lab _ hcc.ex]; exact hl') h9
      have := runDo_same l t0 cs (hS.trans hf.same) hf.tab hfu.tab ((h1.symm.trans hv).trans h2) hc.tail hq'
      simp only [runDo, lows, hl]
      exact this

end Drw
