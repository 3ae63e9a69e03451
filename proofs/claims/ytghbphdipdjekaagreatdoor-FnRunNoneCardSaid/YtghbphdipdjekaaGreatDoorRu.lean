/- What the laws of runs have in common. Conditions: the table and the calls lie where their cells say; errors.errorType is laid. -/
import Derived.Test.YtghbphdipdjekaaGreatDoorLg
import Derived.Test.YtghbphdipdjekaaGreatDoorQt
import Derived.Test.YtghbphdipdjekaaGreatDoorQe
set_option linter.unusedVariables false
set_option linter.unusedSimpArgs false
namespace Go.Proofs.YtghbphdipdjekaaGreatDoor
open Go.RowKit Drw

theorem srunAll_t {p : Option Addr} {cap : Nat} {ts : List Thg} {q : Option Addr} {c2 : Nat} {cs : List Cal} {us : List Thg} {zs : List Int} {rok : Bool} {w : World} (hT : TabAt w (.slice p ts.length cap) ts) (hC : CalsAt w (.slice q cs.length c2) cs) (h : runAll ts cs = (us, zs, rok)) :
    Calls Tryz.prog 24 #[.slice p ts.length cap, .slice q cs.length c2] w fun e w' => ∃ p' k p2 k2, e = .returned (.tuple #[.slice p' us.length k, .slice p2 zs.length k2, .bool rok]) ∧ TabAt w' (.slice p' us.length k) us ∧ IntsAt w' (.slice p2 zs.length k2) zs ∧ Below w.heap.size w w' := by
  have := srunAll_c p cap ts q c2 cs w hT hC
  rw [h] at this
  exact this

theorem runAll_t {p : Option Addr} {cap : Nat} {ts : List Thg} {q : Option Addr} {c2 : Nat} {cs : List Cal} {us : List Thg} {zs : List Int} {rok : Bool} {w : World} (hL : Laid w) (hT : TabAt w (.slice p ts.length cap) ts) (hC : CalsAt w (.slice q cs.length c2) cs) (h : runAll ts cs = (us, zs, rok)) :
    Calls Tryz.prog 21 #[.slice p ts.length cap, .slice q cs.length c2] w fun e w' => ∃ p' k p2 k2, e = .returned (.tuple #[.slice p' us.length k, .slice p2 zs.length k2, .bool rok]) ∧ TabAt w' (.slice p' us.length k) us ∧ IntsAt w' (.slice p2 zs.length k2) zs ∧ Below w.heap.size w w' := by
  unfold runAll at h
  cases hcan : runCan ts cs
  · rw [hcan] at h
    cases h
    refine (runAll_no p cap ts q c2 cs w hT hC hcan).mono ?_
    rintro e w' ⟨rfl, hb⟩
    exact ⟨_, _, _, _, rfl, ⟨[], rfl, ⟨_, 0, rfl, by simp, by simp, .inl rfl⟩, fun x hx => by cases hx⟩, ⟨_, 0, rfl, by simp, by simp, .inl rfl⟩, hb⟩
  · rw [hcan] at h
    cases h
    refine (runAll_yes p cap ts q c2 cs w hL hT hC hcan).mono ?_
    rintro e w' ⟨v, v2, rfl, ⟨xs, tag, hO, hx, ho⟩, hb⟩
    have hA := hO.at'
    rw [hx] at hA
    obtain ⟨q', k, rfl, -, -⟩ := hA.len
    obtain ⟨q2, k2, rfl⟩ := own_slice_n ho
    exact ⟨_, _, _, _, rfl, hA, Rows.of_own (flat_ints _) (by rw [List.length_map]; exact ho), hb⟩

theorem runAll_can {ts : List Thg} {cs : List Cal} {us : List Thg} {zs : List Int} (h : runAll ts cs = (us, zs, true)) : runCan ts cs = true := by
  unfold runAll at h
  cases hcan : runCan ts cs
  · rw [hcan] at h; cases h
  · rfl
theorem runAll_do {ts : List Thg} {cs : List Cal} {us : List Thg} {zs : List Int} (h : runAll ts cs = (us, zs, true)) : runDo ts cs = (us, zs) ∧ (tabOk us = true ∧ Same ts us ∧ zs.length = cs.length) := by
  have hcan := runAll_can h
  have hc := runCan_iff.1 hcan
  unfold runAll at h
  rw [hcan] at h
  have h1 : runDo ts cs = (us, zs) := by
    cases h
    rfl
  have h2 := runDo_fine cs hc.1 hc.2.2
  rw [h1] at h2
  exact ⟨h1, h2⟩
end Go.Proofs.YtghbphdipdjekaaGreatDoor
