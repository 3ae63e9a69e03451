/- The small functions on labels, rights and numbers return what their plain functions say. Conditions: none but the bounds that stand at each. -/
import Derived.Test.YtghbphdipdjekaaGreatDoorChecked
import Derived.Test.YtghbphdipdjekaaGreatDoorBase
import Derived.Deep.QuietTactic
import Derived.BigQuiet
set_option linter.unusedVariables false
set_option linter.unusedSimpArgs false
namespace Go.Proofs.YtghbphdipdjekaaGreatDoor
open Go.RowKit Drw
attribute [local go_sem] Lab.val Rgt.val Cal.val Thg.val

set_option maxHeartbeats 400000 in
theorem inRange_c (n lo hi : Int) (w : World) :
    Calls Tryz.prog 73 #[.int .i64 n, .int .i64 lo, .int .i64 hi] w fun e w' => e = .returned (.bool (inR n lo hi)) ∧ w = w' := by
  go_enter Tryz.func73, Tryz.ntmps73
  go_wp2
  all_goals (go_ret; exact ⟨ret_bool (by rw [Bool.eq_iff_iff]; simp [inR]; omega), rfl⟩)

set_option maxHeartbeats 400000 in
theorem l6In_c (n lo hi : Int) (w : World) :
    Calls Tryz.prog 62 #[.int .i64 n, .int .i64 lo, .int .i64 hi] w fun e w' => e = .returned (.bool (inR n lo hi)) ∧ w = w' := by
  go_enter Tryz.func62, Tryz.ntmps62
  go_wp2
  all_goals (go_ret; exact ⟨ret_bool (by rw [Bool.eq_iff_iff]; simp [inR]; omega), rfl⟩)

set_option maxHeartbeats 400000 in
theorem labelOk_c (l : Lab) (w : World) :
    Calls Tryz.prog 57 #[l.val] w fun e w' => e = .returned (.bool (labOk l)) ∧ Below w.heap.size w w' := by
  go_enter Tryz.func57, Tryz.ntmps57
  go_wp2
  all_goals (go_ret; exact ⟨ret_bool (by rw [Bool.eq_iff_iff]; simp [labOk, inR]; omega), (Below.refl _ _).alloc (Nat.le_refl _) _⟩)

set_option maxHeartbeats 400000 in
theorem slabelOk_c (l : Lab) (w : World) :
    Calls Tryz.prog 20 #[l.val] w fun e w' => e = .returned (.bool (labOk l)) ∧ Below w.heap.size w w' := by
  go_enter Tryz.func20, Tryz.ntmps20
  go_wp2_with (go_at_call 62; refine (l6In_c _ _ _ _).mono ?_; rintro e w' ⟨rfl, rfl⟩)
  all_goals (go_ret; exact ⟨ret_bool (by simp [labOk, *]), (Below.refl _ _).alloc (Nat.le_refl _) _⟩)

set_option maxHeartbeats 400000 in
theorem l1In_c (a b : Int) (w : World) (ha : 0 ≤ a) (hb : 0 ≤ b) (ha' : a ≤ 3) (hb' : b ≤ 3) :
    Calls Tryz.prog 93 #[.int .i64 a, .int .i64 b] w fun e w' => e = .returned (.bool (subM a b)) ∧ w = w' := by
  go_enter Tryz.func93, Tryz.ntmps93
  go_wp2
  all_goals (go_ret; exact ⟨ret_bool (by rw [Bool.eq_iff_iff]; simp [subM]; omega), rfl⟩)

theorem lab_bd {l : Lab} (h : labOk l = true) : 0 ≤ l.s ∧ l.s ≤ 3 ∧ 0 ≤ l.v ∧ l.v ≤ 3 := by simp [labOk, inR] at h; omega

set_option maxHeartbeats 400000 in
theorem l1Flow_c (a b : Lab) (w : World) (ha : labOk a = true) (hb : labOk b = true) :
    Calls Tryz.prog 60 #[a.val, b.val] w fun e w' => e = .returned (.bool (flow a b)) ∧ Below w.heap.size w w' := by
  have Ha := Lib.hid ha
  have Hb := Lib.hid hb
  obtain ⟨a1, a2, a3, a4⟩ := lab_bd ha
  obtain ⟨b1, b2, b3, b4⟩ := lab_bd hb
  clear ha hb
  go_enter Tryz.func60, Tryz.ntmps60
  go_wp2_with (go_at_call 93; refine (l1In_c _ _ _ (by assumption) (by assumption) (by assumption) (by assumption)).mono ?_; rintro e w' ⟨rfl, rfl⟩)
  all_goals (go_ret; exact ⟨ret_bool (by simp [flow, flow1, Ha.out, Hb.out, *]), ((Below.refl _ _).alloc (Nat.le_refl _) _).alloc (by simp) _⟩)

set_option maxHeartbeats 400000 in
theorem within_c (a b : Int) (w : World) (ha : 0 ≤ a) (hb : 0 ≤ b) (ha' : a ≤ 3) (hb' : b ≤ 3) :
    Calls Tryz.prog 98 #[.int .u64 a, .int .u64 b] w fun e w' => e = .returned (.bool (subM a b)) ∧ w = w' := by
  have h1 : a = 0 ∨ a = 1 ∨ a = 2 ∨ a = 3 := by omega
  have h2 : b = 0 ∨ b = 1 ∨ b = 2 ∨ b = 3 := by omega
  clear ha hb ha' hb'
  rcases h1 with rfl | rfl | rfl | rfl <;> rcases h2 with rfl | rfl | rfl | rfl
  all_goals
    go_enter Tryz.func98, Tryz.ntmps98
    go_wp2
    go_ret
    exact ⟨rfl, rfl⟩

set_option maxHeartbeats 400000 in
theorem labelSets_c (l : Lab) (w : World) (h1 : 0 ≤ l.s) (h2 : l.s ≤ 3) (h3 : 0 ≤ l.v) (h4 : l.v ≤ 3) :
    Calls Tryz.prog 97 #[l.val] w fun e w' => e = .returned (.tuple #[.int .u64 l.s, .int .u64 l.v]) ∧ Below w.heap.size w w' := by
  go_enter Tryz.func97, Tryz.ntmps97
  go_wp2
  go_quiet (fail)
  go_wp2
  go_ret2
  exact ⟨rfl, below_drewN ((Below.refl _ _).alloc (Nat.le_refl _) _) _⟩

set_option maxHeartbeats 400000 in
theorem labelFlow_c (a b : Lab) (w : World) :
    Calls Tryz.prog 66 #[a.val, b.val] w fun e w' => e = .returned (.bool (flow a b)) ∧ Below w.heap.size w w' := by
  by_cases ha : labOk a = true
  · by_cases hb : labOk b = true
    · have Ha := Lib.hid ha
      have Hb := Lib.hid hb
      obtain ⟨a1, a2, a3, a4⟩ := lab_bd ha
      obtain ⟨b1, b2, b3, b4⟩ := lab_bd hb
      go_enter Tryz.func66, Tryz.ntmps66
      go_wp2_with (first
        | (go_at_call 57; refine (labelOk_c ⟨_, _⟩ _).mono ?_; rintro e w1 ⟨rfl, hb1⟩; obtain ⟨hc1, hf1⟩ := bcell hb1; have hz0 : w.heap.size < w1.heap.size := (by have := hb1.size; (try simp at this); omega); have hz1 : w.heap.size + 1 < w1.heap.size := (by have := hb1.size; (try simp at this); omega))
        | (go_at_call 97; refine (labelSets_c ⟨_, _⟩ _ (by assumption) (by assumption) (by assumption) (by assumption)).mono ?_; rintro e w1 ⟨rfl, hb1⟩; obtain ⟨hc1, hf1⟩ := bcell hb1; have hz0 : w.heap.size < w1.heap.size := (by have := hb1.size; (try simp at this); omega); have hz1 : w.heap.size + 1 < w1.heap.size := (by have := hb1.size; (try simp at this); omega))
        | (go_at_call 98; refine (within_c _ _ _ (by assumption) (by assumption) (by assumption) (by assumption)).mono ?_; rintro e w1 ⟨rfl, rfl⟩))
      all_goals go_ret
      all_goals refine ⟨ret_bool ?_, (by (repeat (with_reducible first | exact Below.refl _ _ | refine Below.alloc ?_ ?_ _ | refine below_drewN ?_ _ | refine Below.drew ?_ | refine Below.setCell ?_ ?_ _ | refine Below.trans ?_ (Below.mono (by assumption) ?_))) <;> (first | omega | (simp; try omega)))⟩
      all_goals simp [flow, flow1, *]
    · go_enter Tryz.func66, Tryz.ntmps66
      go_wp2_with (first
        | (go_at_call 57; refine (labelOk_c ⟨_, _⟩ _).mono ?_; rintro e w1 ⟨rfl, hb1⟩; obtain ⟨hc1, hf1⟩ := bcell hb1; have hz0 : w.heap.size < w1.heap.size := (by have := hb1.size; (try simp at this); omega); have hz1 : w.heap.size + 1 < w1.heap.size := (by have := hb1.size; (try simp at this); omega)))
      all_goals go_ret
      all_goals refine ⟨ret_bool ?_, (by (repeat (with_reducible first | exact Below.refl _ _ | refine Below.alloc ?_ ?_ _ | refine below_drewN ?_ _ | refine Below.drew ?_ | refine Below.setCell ?_ ?_ _ | refine Below.trans ?_ (Below.mono (by assumption) ?_))) <;> (first | omega | (simp; try omega)))⟩
      all_goals simp [flow, *]
  · go_enter Tryz.func66, Tryz.ntmps66
    go_wp2_with (first
        | (go_at_call 57; refine (labelOk_c ⟨_, _⟩ _).mono ?_; rintro e w1 ⟨rfl, hb1⟩; obtain ⟨hc1, hf1⟩ := bcell hb1; have hz0 : w.heap.size < w1.heap.size := (by have := hb1.size; (try simp at this); omega); have hz1 : w.heap.size + 1 < w1.heap.size := (by have := hb1.size; (try simp at this); omega)))
    all_goals go_ret
    all_goals refine ⟨ret_bool ?_, (by (repeat (with_reducible first | exact Below.refl _ _ | refine Below.alloc ?_ ?_ _ | refine below_drewN ?_ _ | refine Below.drew ?_ | refine Below.setCell ?_ ?_ _ | refine Below.trans ?_ (Below.mono (by assumption) ?_))) <;> (first | omega | (simp; try omega)))⟩
    all_goals simp [flow, *]

end Go.Proofs.YtghbphdipdjekaaGreatDoor
