/- What is told of a call, by impl, continued. Conditions: the table lies where its cells say; errors.errorType is laid. -/
import Derived.Test.YtghbphdipdjekaaGreatDoorK
set_option linter.unusedVariables false
set_option linter.unusedSimpArgs false
namespace Go.Proofs.YtghbphdipdjekaaGreatDoor
open Go.RowKit Drw
attribute [local go_sem] Lab.val Rgt.val Cal.val Thg.val

set_option maxRecDepth 100000 in
set_option maxHeartbeats 1000000 in
theorem checkTouches_c (p : Option Addr) (cap : Nat) (ts : List Thg) (r i : Int) (w : World) (hT : TabAt w (.slice p ts.length cap) ts) :
    Calls Tryz.prog 37 #[.slice p ts.length cap, .int .i64 r, .int .i64 i] w fun e w' => e = .returned (.bool (tabOk ts && kindAt ts r 3 && ex ts i && touches ts r i)) ∧ Below w.heap.size w w' := by
  by_cases hr : ex ts r = true
  · by_cases hi : ex ts i = true
    · go_enter Tryz.func37, Tryz.ntmps37
      go_wp2_with (first
        | (go_at_call 27; refine (tableOk_c _ _ ts _ (hT.pure (by (repeat (with_reducible first | exact Below.refl _ _ | refine Below.alloc ?_ ?_ _ | refine below_drewN ?_ _ | refine Below.drew ?_ | refine Below.setCell ?_ ?_ _ | refine Below.trans ?_ (Below.mono (by assumption) ?_))) <;> (first | omega | (simp; try omega))))).mono ?_; rintro e w1 ⟨rfl, hb1⟩)
        | (go_at_call 75; refine (kindAt_c _ _ ts _ _ _ (hT.pure (by assumption))).mono ?_; rintro e w' ⟨rfl, rfl⟩)
        | (go_at_call 65; refine (thingExists_c _ _ _ _ _).mono ?_; rintro e w' ⟨rfl, rfl⟩)
        | (go_at_call 81; refine (labelTouches_c _ _ ts _ _ _ (hT.pure (by assumption)) hr hi).mono ?_; rintro e w2 ⟨rfl, hb2⟩))
      all_goals go_ret
      all_goals refine ⟨ret_bool ?_, by first | exact Below.refl _ _ | assumption | exact Below.trans (by assumption) (Below.mono (by assumption) (Below.size (by assumption)))⟩
      all_goals (first | (simp [*]; done) | (unfold ex at *; simp [*]; done) | grind [ex])
    · have hi' : inR i 1 ts.length = false := by simpa [ex] using hi
      go_enter Tryz.func37, Tryz.ntmps37
      go_wp2_with (first
        | (go_at_call 27; refine (tableOk_c _ _ ts _ (hT.pure (by (repeat (with_reducible first | exact Below.refl _ _ | refine Below.alloc ?_ ?_ _ | refine below_drewN ?_ _ | refine Below.drew ?_ | refine Below.setCell ?_ ?_ _ | refine Below.trans ?_ (Below.mono (by assumption) ?_))) <;> (first | omega | (simp; try omega))))).mono ?_; rintro e w1 ⟨rfl, hb1⟩)
        | (go_at_call 75; refine (kindAt_c _ _ ts _ _ _ (hT.pure (by assumption))).mono ?_; rintro e w' ⟨rfl, rfl⟩)
        | (go_at_call 65; refine (thingExists_c _ _ _ _ _).mono ?_; rintro e w' ⟨rfl, rfl⟩)
        | (go_at_call 81; refine (labelTouches_c _ _ ts _ _ _ (hT.pure (by assumption)) hr (by simp_all)).mono ?_; rintro e w2 ⟨rfl, hb2⟩))
      all_goals go_ret
      all_goals refine ⟨ret_bool ?_, by first | exact Below.refl _ _ | assumption | exact Below.trans (by assumption) (Below.mono (by assumption) (Below.size (by assumption)))⟩
      all_goals (first | (simp [*]; done) | (unfold ex at *; simp [*]; done) | grind [ex])
  · have hk' : kindAt ts r 3 = false := by simp [kindAt, hr]
    go_enter Tryz.func37, Tryz.ntmps37
    go_wp2_with (first
      | (go_at_call 27; refine (tableOk_c _ _ ts _ (hT.pure (by (repeat (with_reducible first | exact Below.refl _ _ | refine Below.alloc ?_ ?_ _ | refine below_drewN ?_ _ | refine Below.drew ?_ | refine Below.setCell ?_ ?_ _ | refine Below.trans ?_ (Below.mono (by assumption) ?_))) <;> (first | omega | (simp; try omega))))).mono ?_; rintro e w1 ⟨rfl, hb1⟩)
      | (go_at_call 75; refine (kindAt_c _ _ ts _ _ _ (hT.pure (by assumption))).mono ?_; rintro e w' ⟨rfl, rfl⟩)
      | (go_at_call 65; refine (thingExists_c _ _ _ _ _).mono ?_; rintro e w' ⟨rfl, rfl⟩)
      | (go_at_call 81; refine (labelTouches_c _ _ ts _ _ _ (hT.pure (by assumption)) (by simp_all) (by simp_all)).mono ?_; rintro e w2 ⟨rfl, hb2⟩))
    all_goals go_ret
    all_goals refine ⟨ret_bool ?_, by first | exact Below.refl _ _ | assumption | exact Below.trans (by assumption) (Below.mono (by assumption) (Below.size (by assumption)))⟩
    all_goals (first | (simp [*]; done) | (unfold ex at *; simp [*]; done) | grind [ex])

end Go.Proofs.YtghbphdipdjekaaGreatDoor
