/- Plain part of the law that no right comes of nothing. Conditions: none. -/
import Derived.Test.YthelfojlgcjgjaaGreatDoorTr
set_option linter.unusedVariables false
set_option linter.unusedSimpArgs false
namespace Go.Proofs.YthelfojlgcjgjaaGreatDoor
open Go.RowKit Drw

/-- The rights that a call could hand on. -/
def had (ts : List Thg) (c : Cal) : List Rgt := (getT ts c.run).slots ++ if c.kind = 4 ∧ (slotOf ts c).thing ≠ 0 then (getT ts (slotOf ts c).thing).slots else []

theorem slots_same {ts us : List Thg} (ht : tabOk ts = true) (hu : tabOk us = true) (hS : Same ts us) {i : Int} (hi : ex ts i = true) : (getT us i).slots.length = (getT ts i).slots.length := by
  have h1 := tab_thgOk ht hi
  have h2 := tab_thgOk hu (by rw [hS.ex]; exact hi)
  have hk := hS.kind i hi
  by_cases h : (getT ts i).kind = 2 ∨ (getT ts i).kind = 3
  · rw [slots_len h1 h, slots_len h2 (by rw [hk]; exact h)]
  · rw [slots_none h1 h, slots_none h2 (by rw [hk]; exact h)]

theorem get_of' {ts : List Thg} {i : Nat} (hi : i < ts.length) : ts[i]? = some (getT ts ((i : Int) + 1)) := by
  have := ex_get (ex_at (ts := ts) hi)
  rwa [show ((i : Int) + 1 - 1).toNat = i by omega] at this

theorem had_ok {ts : List Thg} {c : Cal} (h : CanB ts c) : ∀ s ∈ had ts c, rgtOk s = true := by
  intro s hs
  rcases List.mem_append.1 hs with h1 | h1
  · exact slot_ok h.thg h1
  · split at h1
    · rename_i h2
      exact slot_ok (tab_thgOk h.tab (cap_ex h.rCap h2.2)) h1
    · cases h1

theorem rights_facts {ts us : List Thg} {an : Int} {c : Cal} (hcan : calCan ts c = true) (hdo : callDo ts c = (us, an)) : us.length = ts.length ∧ ∀ i : Nat, i < ts.length → ∃ ti ui, ts[i]? = some ti ∧ us[i]? = some ui ∧ ui.slots.length = ti.slots.length ∧
    ∀ (k : Nat) (y : Rgt), ui.slots[k]? = some y → ∃ z, ti.slots[k]? = some z ∧ (y = z ∨ (rgtOk y = true ∧ (y.thing = 0 ∨ ∃ s ∈ had ts c, rgtIn y s = true))) := by
  have hB := canB.1 hcan
  have hf := do2_fine hB
  rw [callDo_can hB] at hdo
  rw [hdo] at hf
  have hlen : us.length = ts.length := hf.same.len
  refine ⟨hlen, fun i hi => ⟨_, _, get_of' hi, get_of' (by omega), slots_same hB.tab hf.tab hf.same (ex_at hi), fun k y hy => ?_⟩⟩
  have hl := slots_same hB.tab hf.tab hf.same (ex_at hi)
  have hk : k < (getT ts ((i : Int) + 1)).slots.length := by rw [← hl]; exact (List.getElem?_eq_some_iff.1 hy).1
  refine ⟨_, List.getElem?_eq_getElem hk, ?_⟩
  have hyo : rgtOk y = true := slot_ok (tab_thgOk hf.tab (ex_at (ts := us) (by omega))) (List.mem_of_getElem? hy)
  have hy' : (getT (do2 ts c).1 ((i : Int) + 1)).slots[k]? = some y := by rw [hdo]; exact hy
  rcases law_rights hB (ex_at hi) hy' with h1 | h1 | ⟨s, hs, h1⟩ | ⟨h4, h0, s, hs, h1⟩
  · left
    rw [List.getElem?_eq_getElem hk] at h1
    exact (Option.some.inj h1).symm
  · right; subst h1; exact ⟨hyo, .inl rfl⟩
  · right; exact ⟨hyo, .inr ⟨s, List.mem_append_left _ hs, h1⟩⟩
  · right; exact ⟨hyo, .inr ⟨s, List.mem_append_right _ (by rw [if_pos ⟨h4, h0⟩]; exact hs), h1⟩⟩
end Go.Proofs.YthelfojlgcjgjaaGreatDoor
