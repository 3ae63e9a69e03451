/- The small functions on labels, rights and numbers return what their plain functions say. Conditions: none but the bounds that stand at each. -/
import Derived.Test.YtiolplhgpodifaaGreatChecked
import Derived.Test.YtiolplhgpodifaaGreatBase
import Derived.Deep.QuietTactic
import Derived.BigQuiet
set_option linter.unusedVariables false
set_option linter.unusedSimpArgs false
namespace Go.Proofs.YtiolplhgpodifaaGreat
open Go.RowKit Drw
attribute [local go_sem] Lab.val Rgt.val Cal.val Thg.val

set_option maxHeartbeats 400000 in
theorem inRange_c (n lo hi : Int) (w : World) :
    Calls Tryz.prog 57 #[.int .i64 n, .int .i64 lo, .int .i64 hi] w fun e w' => e = .returned (.bool (inR n lo hi)) ∧ w = w' := by
  go_enter Tryz.func57, Tryz.ntmps57
  go_wp2
  all_goals (go_ret; exact ⟨ret_bool (by rw [Bool.eq_iff_iff]; simp [inR]; omega), rfl⟩)

set_option maxHeartbeats 400000 in
theorem l6In_c (n lo hi : Int) (w : World) :
    Calls Tryz.prog 39 #[.int .i64 n, .int .i64 lo, .int .i64 hi] w fun e w' => e = .returned (.bool (inR n lo hi)) ∧ w = w' := by
  go_enter Tryz.func39, Tryz.ntmps39
  go_wp2
  all_goals (go_ret; exact ⟨ret_bool (by rw [Bool.eq_iff_iff]; simp [inR]; omega), rfl⟩)

set_option maxHeartbeats 400000 in
theorem labelOk_c (l : Lab) (w : World) :
    Calls Tryz.prog 85 #[l.val] w fun e w' => e = .returned (.bool (labOk l)) ∧ Below w.heap.size w w' := by
  go_enter Tryz.func85, Tryz.ntmps85
  go_wp2
  all_goals (go_ret; exact ⟨ret_bool (by rw [Bool.eq_iff_iff]; simp [labOk, inR]; omega), (Below.refl _ _).alloc (Nat.le_refl _) _⟩)

set_option maxHeartbeats 400000 in
theorem slabelOk_c (l : Lab) (w : World) :
    Calls Tryz.prog 71 #[l.val] w fun e w' => e = .returned (.bool (labOk l)) ∧ Below w.heap.size w w' := by
  go_enter Tryz.func71, Tryz.ntmps71
  go_wp2_with (go_at_call 39; refine (l6In_c _ _ _ _).mono ?_; rintro e w' ⟨rfl, rfl⟩)
  all_goals (go_ret; exact ⟨ret_bool (by simp [labOk, *]), (Below.refl _ _).alloc (Nat.le_refl _) _⟩)

theorem lab_bd {l : Lab} (h : labOk l = true) : 0 ≤ l.s ∧ l.s ≤ 3 ∧ 0 ≤ l.v ∧ l.v ≤ 3 := by simp [labOk, inR] at h; omega

end Go.Proofs.YtiolplhgpodifaaGreat
