/- Plain part of the law on what is sent. Conditions: none. -/
import Derived.Test.YthelfojlgcjgjaaGreatDoorXr
set_option linter.unusedVariables false
set_option linter.unusedSimpArgs false
namespace Go.Proofs.YthelfojlgcjgjaaGreatDoor
open Go.RowKit Drw

theorem send_facts {ts us : List Thg} {an : Int} {c : Cal} (hcan : calCan ts c = true) (hdo : callDo ts c = (us, an)) (h6 : c.kind = 6) (h0 : check1 ts c = 0) :
    us.length = ts.length ∧ (slotOf ts c).thing ≠ 0 ∧ ∃ (x : Nat) (tx ux : Thg), (slotOf ts c).thing = (x : Int) + 1 ∧ ts[x]? = some tx ∧ us[x]? = some ux ∧ tx.queue.length ≤ 3 ∧
      ((live ts (slotOf ts c) = false ∨ tx.queue.length = 3) → ux = tx ∧ an = if sees ts c.run (slotOf ts c).thing then -4 else 0) ∧
      (live ts (slotOf ts c) = true → tx.queue.length ≠ 3 → ux.queue = tx.queue ++ [c.n] ∧ an = 0) := by
  have hB := canB.1 hcan
  have hf := do2_fine hB
  rw [callDo_can hB] at hdo
  have hl := law_send hB h6 h0
  rw [hdo] at hf hl
  have hlen : us.length = ts.length := hf.same.len
  obtain ⟨hex, hk, -, h1, h2⟩ := hl
  have hr := ex_iff.1 hex
  obtain ⟨x, hx⟩ : ∃ x : Nat, (slotOf ts c).thing = (x : Int) + 1 := ⟨((slotOf ts c).thing - 1).toNat, by omega⟩
  have hxl : x < ts.length := by omega
  rw [hx] at h1 h2 hk hex ⊢
  exact ⟨hlen, by omega, x, _, _, rfl, get_of' hxl, get_of' (by omega), (queue_bd (tab_thgOk hB.tab hex)).1, h1, h2⟩
end Go.Proofs.YthelfojlgcjgjaaGreatDoor
