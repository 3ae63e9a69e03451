/- A right copied into an empty slot of its own runner gives nobody more. Conditions: none. -/
import Derived.Test.YtkbflnbjmpcjlaaGreatDoorRb
set_option linter.unusedVariables false
set_option linter.unusedSimpArgs false
namespace Drw
open Go Go.RowKit
theorem less1_all (r : Rgt) : less1 r true true true = r := by
  unfold less1
  split
  · rfl
  · simp
theorem IsReach.of_got {ts us : List Thg} {b : List (List Rgt)} (hl : us.length = ts.length) (hg : ∀ i r, Got us i r ↔ Got ts i r) (h : IsReach us b) : IsReach ts b := by
  refine ⟨by rw [h.len, hl], fun k hk r => ?_, h.ord⟩
  rw [h.mem k (by omega) r, hg]
  constructor
  · rintro ⟨h1, h2⟩
    exact ⟨h1, fun s hs => h2 s ((hg _ _).2 hs)⟩
  · rintro ⟨h1, h2⟩
    exact ⟨h1, fun s hs => h2 s ((hg _ _).1 hs)⟩
theorem copy_same {ts : List Thg} {c : Cal} (hc : CanB ts c) (h3 : c.kind = 3) (hb : c.b = 3) (hn : c.n = 7) (h0 : (getR (getT ts c.run) 3).thing = 0) {a b : List (List Rgt)} (ha : IsReach ts a) (hbb : IsReach (do2 ts c).1 b) : b = a := by
  have hf := do2_fine hc
  have hs := hf.same
  have hlaw := (law_copy hc h3).2
  have hod : less1 (slotOf ts c) (odd c.n) (odd (c.n / 2)) (odd (c.n / 4)) = slotOf ts c := by
    rw [hn]
    exact less1_all _
  rw [hod, hb] at hlaw
  have hne : ∀ i, ex ts i = true → i ≠ c.run → getT (do2 ts c).1 i = getT ts i := by
    intro i hi hn'
    rw [do2_ne hc hi hn', do1_copy h3]
    have := getT_setT (ts := ts) (i := c.run) (j := i) (setSlot c.b (less1 (slotOf ts c) (odd c.n) (odd (c.n / 2)) (odd (c.n / 4)))) hc.ex hi
    rw [if_neg hn'] at this
    exact this
  have hrv : (getT (do2 ts c).1 c.run).vers = (getT ts c.run).vers := by
    rw [do2_run hc, do1_copy h3]
    have := getT_setT (ts := ts) (i := c.run) (j := c.run) (setSlot c.b (less1 (slotOf ts c) (odd c.n) (odd (c.n / 2)) (odd (c.n / 4)))) hc.ex hc.ex
    rw [if_pos rfl] at this
    show (setNum _ _).vers = _
    simp only [setNum]
    rw [this]
    rfl
  have hv : ∀ i, ex ts i = true → (getT (do2 ts c).1 i).vers = (getT ts i).vers := by
    intro i hi
    by_cases hir : i = c.run
    · subst hir; exact hrv
    · rw [hne i hi hir]
  have hs' : Same (do2 ts c).1 ts := ⟨hs.len.symm, fun i hi => (hs.kind i (by rw [← hs.ex]; exact hi)).symm, fun i hi => (hs.lab i (by rw [← hs.ex]; exact hi)).symm, fun i hi => (hs.to i (by rw [← hs.ex]; exact hi)).symm, fun i hi => by rw [hv i (by rw [← hs.ex]; exact hi)]; exact Int.le_refl _⟩
  have hrr : (getT ts c.run).kind = 2 ∨ (getT ts c.run).kind = 3 := .inr hc.kind
  have hsl : (getT ts c.run).slots.length = 4 := slots_len hc.thg hrr
  have h12 : ∀ i, ex ts i = true → ∀ r ∈ (getT ts i).slots, r.thing ≠ 0 → Got (do2 ts c).1 i r := by
    intro i hi r hr hr0
    refine Got.own (by rw [hs.ex]; exact hi) ?_ hr0
    by_cases hir : i = c.run
    · subst hir
      rw [hlaw]
      obtain ⟨q, hq⟩ := List.mem_iff_getElem?.1 hr
      refine List.mem_iff_getElem?.2 ⟨q, ?_⟩
      rw [List.getElem?_set]
      by_cases hq3 : 3 = q
      · subst hq3
        exfalso
        apply hr0
        have : getR (getT ts c.run) 3 = r := by simp [getR, hq]
        rw [← this]; exact h0
      · rw [if_neg (by simpa using hq3)]; exact hq
    · rw [hne i hi hir]; exact hr
  have h21 : ∀ i, ex (do2 ts c).1 i = true → ∀ r ∈ (getT (do2 ts c).1 i).slots, r.thing ≠ 0 → Got ts i r := by
    intro i hi r hr hr0
    rw [hs.ex] at hi
    refine Got.own hi ?_ hr0
    by_cases hir : i = c.run
    · subst hir
      rw [hlaw] at hr
      rcases List.mem_or_eq_of_mem_set hr with h | h
      · exact h
      · rw [h]; exact hc.slot
    · rw [hne i hi hir] at hr; exact hr
  have hgot : ∀ i r, Got (do2 ts c).1 i r ↔ Got ts i r := fun i r => ⟨Got.more hs' (fun i hi => (hv i (by rw [← hs.ex]; exact hi)).symm) h21, Got.more hs hv h12⟩
  exact (hbb.of_got hs.len hgot).eq ha
end Drw
