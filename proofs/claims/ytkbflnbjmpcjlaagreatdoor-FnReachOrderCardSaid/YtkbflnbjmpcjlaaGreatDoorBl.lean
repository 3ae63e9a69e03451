/- What is not touched below a bound, found out where it is asked for. -/
import Derived.Test.YtkbflnbjmpcjlaaGreatDoorIv
set_option linter.unusedVariables false
set_option linter.unusedSimpArgs false
namespace Go.Proofs.YtkbflnbjmpcjlaaGreatDoor
open Go.RowKit Drw
theorem bel {B : Nat} {a w : Go.World} (h : Below B a w := by (repeat (with_reducible first | exact Below.refl _ _ | refine Below.alloc ?_ ?_ _ | refine below_drewN ?_ _ | refine Below.drew ?_ | refine Below.setCell ?_ ?_ _ | refine Below.trans ?_ (Below.mono (by assumption) ?_))) <;> (first | omega | (simp; try omega))) : Below B a w := h
end Go.Proofs.YtkbflnbjmpcjlaaGreatDoor
