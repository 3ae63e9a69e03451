/- Plain laws of what one of a label may know: low steps hang on what is known, high ones change nothing of it. Conditions: none. -/
import Derived.Test.YtiolplhgpodifaaGreatDo
set_option linter.unusedVariables false
set_option linter.unusedSimpArgs false
namespace Drw
open Go Go.RowKit

/-! ## Labels -/
theorem flow_trans {a b c : Lab} (h : flow a b = true) (k : flow b c = true) : flow a c = true := by
  simp only [flow, flow1, subM, Bool.and_eq_true, decide_eq_true_eq] at *
  obtain ⟨⟨a1, a2⟩, ⟨a3, a4⟩, a5, a6⟩ := h
  obtain ⟨⟨b1, b2⟩, ⟨b3, b4⟩, b5, b6⟩ := k
  exact ⟨⟨a1, b2⟩, ⟨Int.le_trans a3 b3, Int.le_trans a4 b4⟩, Int.le_trans b5 a5, Int.le_trans b6 a6⟩
theorem flow_ok {a b : Lab} (h : flow a b = true) : labOk a = true ∧ labOk b = true := by
  simp only [flow, Bool.and_eq_true] at h; exact h.1

/-- Two tables that look the same to one of a label. -/
structure VS (l : Lab) (ts us : List Thg) : Prop where
  len : us.length = ts.length
  kind : ∀ i, ex ts i = true → (getT us i).kind = (getT ts i).kind
  lab : ∀ i, ex ts i = true → (getT us i).lab = (getT ts i).lab
  to : ∀ i, ex ts i = true → (getT us i).to = (getT ts i).to
  low : ∀ i, ex ts i = true → flow (getT ts i).lab l = true → getT us i = getT ts i

theorem VS.refl (l : Lab) (ts : List Thg) : VS l ts ts := ⟨rfl, fun _ _ => rfl, fun _ _ => rfl, fun _ _ => rfl, fun _ _ _ => rfl⟩
theorem VS.exEq {l : Lab} {ts us : List Thg} (h : VS l ts us) (i : Int) : ex us i = ex ts i := by simp [ex, h.len]
theorem VS.symm {l : Lab} {ts us : List Thg} (h : VS l ts us) : VS l us ts :=
  ⟨h.len.symm, fun i hi => (h.kind i (by rw [← h.exEq]; exact hi)).symm, fun i hi => (h.lab i (by rw [← h.exEq]; exact hi)).symm, fun i hi => (h.to i (by rw [← h.exEq]; exact hi)).symm,
    fun i hi hl => (h.low i (by rw [← h.exEq]; exact hi) (by rw [← h.lab i (by rw [← h.exEq]; exact hi)]; exact hl)).symm⟩
theorem VS.trans {l : Lab} {a b c : List Thg} (h : VS l a b) (k : VS l b c) : VS l a c :=
  ⟨k.len.trans h.len, fun i hi => (k.kind i (by rw [h.exEq]; exact hi)).trans (h.kind i hi), fun i hi => (k.lab i (by rw [h.exEq]; exact hi)).trans (h.lab i hi), fun i hi => (k.to i (by rw [h.exEq]; exact hi)).trans (h.to i hi),
    fun i hi hl => (k.low i (by rw [h.exEq]; exact hi) (by rw [h.lab i hi]; exact hl)).trans (h.low i hi hl)⟩

/-- What only what is not known turns. -/
theorem VS.of_same {l : Lab} {ts us : List Thg} (h : Same ts us) (hl : ∀ i, ex ts i = true → flow (getT ts i).lab l = true → getT us i = getT ts i) : VS l ts us := ⟨h.len, h.kind, h.lab, h.to, hl⟩

theorem VS.can {l : Lab} {ts us : List Thg} (h : VS l ts us) (hu : tabOk us = true) {c : Cal} (hc : CanB ts c) : CanB us c := by
  rw [← canB]
  simp only [calCan, hu, hc.ok, kindAt, h.exEq, hc.ex, h.kind _ hc.ex, hc.kind]
  decide

/-- One and the same change of one thing in both. -/
theorem VS.set {l : Lab} {ts us : List Thg} (h : VS l ts us) {i : Int} (hi : ex ts i = true) {f g : Thg → Thg}
    (hk : ∀ t, (f t).kind = t.kind ∧ (f t).lab = t.lab ∧ (f t).to = t.to) (hk' : ∀ t, (g t).kind = t.kind ∧ (g t).lab = t.lab ∧ (g t).to = t.to)
    (hl : flow (getT ts i).lab l = true → f (getT ts i) = g (getT ts i)) : VS l (setT ts i f) (setT us i g) := by
  have hi' : ex us i = true := by rw [h.exEq]; exact hi
  refine ⟨by rw [setT_len, setT_len]; exact h.len, ?_, ?_, ?_, ?_⟩ <;> intro j hj <;> rw [ex_setT] at hj <;> rw [getT_setT f hi hj, getT_setT g hi' (by rw [h.exEq]; exact hj)] <;> split
  · rw [(hk _).1, (hk' _).1]; exact h.kind i hi
  · exact h.kind j hj
  · rw [(hk _).2.1, (hk' _).2.1]; exact h.lab i hi
  · exact h.lab j hj
  · rw [(hk _).2.2, (hk' _).2.2]; exact h.to i hi
  · exact h.to j hj
  · intro hf
    rw [(hk _).2.1] at hf
    rw [h.low i hi hf, hl hf]
  · exact h.low j hj

/-- A change of what is not known, in one of the two. -/
theorem VS.setHigh {l : Lab} {ts us : List Thg} (h : VS l ts us) {i : Int} (hi : ex ts i = true) {g : Thg → Thg} (hk' : ∀ t, (g t).kind = t.kind ∧ (g t).lab = t.lab ∧ (g t).to = t.to) (hl : flow (getT ts i).lab l = false) : VS l ts (setT us i g) := by
  have hi' : ex us i = true := by rw [h.exEq]; exact hi
  refine ⟨by rw [setT_len]; exact h.len, ?_, ?_, ?_, ?_⟩ <;> intro j hj <;> rw [getT_setT g hi' (by rw [h.exEq]; exact hj)] <;> split
  · rename_i e; subst e; rw [(hk' _).1]; exact h.kind j hi
  · exact h.kind j hj
  · rename_i e; subst e; rw [(hk' _).2.1]; exact h.lab j hi
  · exact h.lab j hj
  · rename_i e; subst e; rw [(hk' _).2.2]; exact h.to j hi
  · exact h.to j hj
  · rename_i e; subst e; intro hf; rw [hl] at hf; cases hf
  · exact h.low j hj

theorem keeps_setNum (n : Int) : ∀ t, (setNum n t).kind = t.kind ∧ (setNum n t).lab = t.lab ∧ (setNum n t).to = t.to := fun _ => ⟨rfl, rfl, rfl⟩
theorem keeps_setSlot (i : Int) (r : Rgt) : ∀ t, (setSlot i r t).kind = t.kind ∧ (setSlot i r t).lab = t.lab ∧ (setSlot i r t).to = t.to := fun _ => ⟨rfl, rfl, rfl⟩
theorem keeps_setQueue (q : List Int) : ∀ t, (setQueue q t).kind = t.kind ∧ (setQueue q t).lab = t.lab ∧ (setQueue q t).to = t.to := fun _ => ⟨rfl, rfl, rfl⟩
theorem keeps_renew : ∀ t, (renewT t).kind = t.kind ∧ (renewT t).lab = t.lab ∧ (renewT t).to = t.to := fun _ => ⟨rfl, rfl, rfl⟩

/-- A right to a gate is live. -/
theorem gate_live {ts : List Thg} (h : tabOk ts = true) {r : Rgt} (hr : rgtOk r = true) (hc : capOk ts r = true) (h0 : r.thing ≠ 0) (hk : (getT ts r.thing).kind = 5) : live ts r = true := by
  have he := cap_ex hc h0
  have hv := (thg_parts.1 (tab_thgOk h he)).2.2.1
  simp only [versOk, hk] at hv
  have hv : (getT ts r.thing).vers = 0 := by simpa using hv
  simp only [capOk, Bool.or_eq_true, beq_iff_eq, Bool.and_eq_true, decide_eq_true_eq] at hc
  have h2 := (hc.resolve_left h0).2
  simp only [rgtOk, if_neg h0, inR, Bool.and_eq_true, decide_eq_true_eq] at hr
  simp only [live, he, hv, Bool.true_and, beq_iff_eq]
  omega

/-- P72's core: who is high changes nothing that is known, but through a gate. -/
theorem step_high {l : Lab} {ts : List Thg} {c : Cal} (h : CanB ts c) (hl : flow (getT ts c.run).lab l = false) (h9 : c.kind ≠ 9) : VS l ts (do2 ts c).1 := by
  refine VS.of_same (do2_fine h).same fun i hi hf => ?_
  have h1 : i ≠ c.run := by intro e; subst e; rw [hl] at hf; cases hf
  by_cases h2 : i = (slotOf ts c).thing
  · rw [do2_ne h hi h1]
    by_cases h0 : check1 ts c = 0
    · by_cases h3 : c.kind = 3
      · rw [do1_copy h3]
        exact getT_ne _ (ex_iff.1 h.ex).1 (ex_iff.1 hi).1 h1
      · obtain ⟨z1, z2, z3, z4, z5⟩ := check_zero h0 h3
        have hno : needWr c.kind = false := by
          cases hw : needWr c.kind
          · rfl
          · have ht := (z4 hw).2
            unfold touches at ht
            rw [← h2] at ht
            have := flow_trans ht hf
            rw [hl] at this; cases this
        cases hv : live ts (slotOf ts c)
        · rw [do1_gone h0 h3 hv]
        · rw [do1_live h0 h3 hv]
          dsimp only
          have hk : c.kind = 1 ∨ c.kind = 4 := by
            simp only [needWr, Bool.not_eq_false', Bool.or_eq_true, beq_iff_eq] at hno; exact hno
          rcases hk with hk | hk
          · simp [act, hk]
          · simp only [act, hk, if_true, Int.reduceEq, if_false]
            exact getT_ne _ (ex_iff.1 h.ex).1 (ex_iff.1 hi).1 h1
    · rw [do1_bad h0]
  · exact law_touch h hi h1 h2 (fun e => absurd e h9)

/-- What is told ahead hangs on what is known. -/
theorem check_low {l : Lab} {ts us : List Thg} {c : Cal} (h : CanB ts c) (hv : VS l ts us) (hl : flow (getT ts c.run).lab l = true) : slotOf us c = slotOf ts c ∧ check1 us c = check1 ts c := by
  have hs : slotOf us c = slotOf ts c := by unfold slotOf; rw [hv.low _ h.ex hl]
  refine ⟨hs, ?_⟩
  unfold check1
  rw [hs]
  by_cases h3 : c.kind = 3
  · simp [h3]
  · by_cases h0 : (slotOf ts c).thing = 0
    · simp [h3, h0]
    · have he := cap_ex h.rCap h0
      have e1 := hv.kind _ he
      have e2 : sees us c.run (slotOf ts c).thing = sees ts c.run (slotOf ts c).thing := by unfold sees; rw [hv.lab _ he, hv.lab _ h.ex]
      have e3 : touches us c.run (slotOf ts c).thing = touches ts c.run (slotOf ts c).thing := by unfold touches; rw [hv.lab _ he, hv.lab _ h.ex]
      have e4 : sees ts c.run (slotOf ts c).thing = true → live us (slotOf ts c) = live ts (slotOf ts c) := by
        intro hs
        unfold live
        rw [hv.exEq, hv.low _ he (flow_trans hs hl)]
      dsimp only
      rw [e1, e2, e3]
      cases hss : sees ts c.run (slotOf ts c).thing
      · simp
      · rw [e4 hss]

/-- A call on what is not known, by one that is: nothing that is known hangs on it, but the page behind a gate. -/
theorem act_hidden {l : Lab} {ts us : List Thg} {c : Cal} (h : CanB ts c) (hu : tabOk us = true) (hv : VS l ts us) (h3 : c.kind ≠ 3) (hk : hasKind c.kind (getT ts (slotOf ts c).thing).kind = true) (he : ex ts (slotOf ts c).thing = true)
    (hh : flow (getT ts (slotOf ts c).thing).lab l = false) (hr : needRd c.kind = false) (h9 : c.kind ≠ 9) : VS l ts (act us c (slotOf ts c)).1 := by
  have hk' : (getT us (slotOf ts c).thing).kind = (getT ts (slotOf ts c).thing).kind := hv.kind _ he
  generalize slotOf ts c = r at *
  rcases kinds_of hk h.call h3 with ⟨e, k⟩ | ⟨e, k⟩ | ⟨e, k⟩ | ⟨e, k⟩ | ⟨e, k⟩ | ⟨e, k⟩ | ⟨e, k⟩ | ⟨e, k⟩ <;> simp only [act, e, if_true, Int.reduceEq, if_false]
  · simp [needRd, e] at hr
  · exact hv.setHigh he (keeps_setNum _) hh
  · simp [needRd, e] at hr
  · exact hv.setHigh he (keeps_setSlot _ _) hh
  · split
    · exact hv
    · exact hv.setHigh he (keeps_setQueue _) hh
  · simp [needRd, e] at hr
  · exact absurd e h9
  · split
    · exact hv
    · exact hv.setHigh he keeps_renew hh

/-- P73's core: what one does hangs on what one knows. -/
theorem step_low {l : Lab} {ts us : List Thg} {c : Cal} (h : CanB ts c) (hu : tabOk us = true) (hv : VS l ts us) (hl : flow (getT ts c.run).lab l = true) : (do2 us c).2 = (do2 ts c).2 ∧ VS l (do2 ts c).1 (do2 us c).1 := by
  have hcu := hv.can hu h
  obtain ⟨hs, hck⟩ := check_low h hv hl
  have key : (do1 us c).2 = (do1 ts c).2 ∧ VS l (do1 ts c).1 (do1 us c).1 := by
    by_cases h0 : check1 ts c = 0
    · have h0' : check1 us c = 0 := hck.trans h0
      by_cases h3 : c.kind = 3
      · rw [do1_copy h3, do1_copy h3, hs]
        exact ⟨by trivial, hv.set h.ex (keeps_setSlot _ _) (keeps_setSlot _ _) (fun _ => rfl)⟩
      · obtain ⟨z1, z2, z3, z4, z5⟩ := check_zero h0 h3
        have he := cap_ex h.rCap z1
        have hse : sees us c.run (slotOf ts c).thing = sees ts c.run (slotOf ts c).thing := by unfold sees; rw [hv.lab _ he, hv.lab _ h.ex]
        by_cases hlow : flow (getT ts (slotOf ts c).thing).lab l = true
        · -- the thing is known: it is the same in both
          have ht := hv.low _ he hlow
          have hli : live us (slotOf ts c) = live ts (slotOf ts c) := by unfold live; rw [hv.exEq, ht]
          cases hlv : live ts (slotOf ts c)
          · rw [do1_gone h0 h3 hlv, do1_gone h0' h3 (by rw [hs, hli]; exact hlv)]
            exact ⟨rfl, hv⟩
          · rw [do1_live h0 h3 hlv, do1_live h0' h3 (by rw [hs, hli]; exact hlv), hs, hse]
            have hrun := hv.low _ h.ex hl
            have hact : (act us c (slotOf ts c)).2 = (act ts c (slotOf ts c)).2 ∧ VS l (act ts c (slotOf ts c)).1 (act us c (slotOf ts c)).1 := by
              generalize slotOf ts c = r at *
              rcases kinds_of z2 h.call h3 with ⟨e, k⟩ | ⟨e, k⟩ | ⟨e, k⟩ | ⟨e, k⟩ | ⟨e, k⟩ | ⟨e, k⟩ | ⟨e, k⟩ | ⟨e, k⟩ <;> simp only [act, e, if_true, Int.reduceEq, if_false, ht, hrun]
              · exact ⟨by trivial, hv⟩
              · exact ⟨by trivial, hv.set he (keeps_setNum _) (keeps_setNum _) (fun _ => rfl)⟩
              · exact ⟨by trivial, hv.set h.ex (keeps_setSlot _ _) (keeps_setSlot _ _) (fun _ => rfl)⟩
              · exact ⟨by trivial, hv.set he (keeps_setSlot _ _) (keeps_setSlot _ _) (fun _ => rfl)⟩
              · split
                · exact ⟨rfl, hv⟩
                · exact ⟨by trivial, hv.set he (keeps_setQueue _) (keeps_setQueue _) (fun _ => rfl)⟩
              · split
                · exact ⟨rfl, hv⟩
                · exact ⟨by trivial, hv.set he (keeps_setQueue _) (keeps_setQueue _) (fun _ => rfl)⟩
              · have hg := gate_to h.tab he k
                refine ⟨by trivial, VS.set (hv.set hg.1 (keeps_setNum _) (keeps_setNum _) (fun _ => rfl)) (by rw [ex_setT]; exact he) (fun _ => ⟨rfl, rfl, rfl⟩) (fun _ => ⟨rfl, rfl, rfl⟩) (fun _ => rfl)⟩
              · split
                · exact ⟨rfl, hv⟩
                · exact ⟨by trivial, hv.set he keeps_renew keeps_renew (fun _ => rfl)⟩
            exact ⟨by rw [hact.1], hact.2⟩
        · -- it is not known
          have hlow : flow (getT ts (slotOf ts c).thing).lab l = false := by simpa using hlow
          have hns : sees ts c.run (slotOf ts c).thing = false := by
            cases hss : sees ts c.run (slotOf ts c).thing
            · rfl
            · have := flow_trans hss hl
              rw [hlow] at this; cases this
          have hnr : needRd c.kind = false := by
            cases hr : needRd c.kind
            · rfl
            · have := (z3 hr).2
              rw [hns] at this; cases this
          have hz2' : hasKind c.kind (getT us (slotOf ts c).thing).kind = true := by rw [hv.kind _ he]; exact z2
          have hheu : ex us (slotOf ts c).thing = true := by rw [hv.exEq]; exact he
          have hhu : flow (getT us (slotOf ts c).thing).lab l = false := by rw [hv.lab _ he]; exact hlow
          by_cases h9 : c.kind = 9
          · have hk5 : (getT ts (slotOf ts c).thing).kind = 5 := by
              rcases kinds_of z2 h.call h3 with h | h | h | h | h | h | h | h <;> omega
            have l1 := gate_live h.tab h.rOk h.rCap z1 hk5
            have l2 := gate_live hu hcu.rOk hcu.rCap (by rw [hs]; exact z1) (by rw [hs, hv.kind _ he]; exact hk5)
            rw [do1_live h0 h3 l1, do1_live h0' h3 l2, hs, hse, hns]
            refine ⟨rfl, ?_⟩
            generalize slotOf ts c = r at *
            have hg := gate_to h.tab he hk5
            simp only [act, h9, if_true, Int.reduceEq, if_false, hv.to _ he]
            exact VS.set (hv.set hg.1 (keeps_setNum _) (keeps_setNum _) (fun _ => rfl)) (by rw [ex_setT]; exact he) (fun _ => ⟨rfl, rfl, rfl⟩) (fun _ => ⟨rfl, rfl, rfl⟩) (fun _ => rfl)
          · -- each of the two goes on or stands, unseen
            have h1 : (do1 ts c).2 = 0 ∧ VS l ts (do1 ts c).1 := by
              cases hlv : live ts (slotOf ts c)
              · rw [do1_gone h0 h3 hlv]; exact ⟨rfl, VS.refl _ _⟩
              · rw [do1_live h0 h3 hlv, hns]
                exact ⟨rfl, act_hidden h h.tab (VS.refl _ _) h3 z2 he hlow hnr h9⟩
            have h2 : (do1 us c).2 = 0 ∧ VS l us (do1 us c).1 := by
              cases hlv : live us (slotOf us c)
              · rw [do1_gone h0' h3 hlv]; exact ⟨rfl, VS.refl _ _⟩
              · rw [do1_live h0' h3 hlv, hs, hse, hns]
                refine ⟨rfl, ?_⟩
                have := act_hidden (l := l) hcu hu (VS.refl l us) h3 (by rw [hs]; exact hz2') (by rw [hs]; exact hheu) (by rw [hs]; exact hhu) hnr h9
                rw [hs] at this; exact this
            exact ⟨h2.1.trans h1.1.symm, (h1.2.symm.trans hv).trans h2.2⟩
    · rw [do1_bad h0, do1_bad (by rw [hck]; exact h0), hck]
      exact ⟨rfl, hv⟩
  refine ⟨key.1, ?_⟩
  have e : (do2 us c).1 = setT (do1 us c).1 c.run (setNum (do1 ts c).2) := by rw [← key.1]; rfl
  rw [e]
  exact key.2.set (by rw [(do1_fine h).same.ex]; exact h.ex) (keeps_setNum _) (keeps_setNum _) (fun _ => rfl)

end Drw
