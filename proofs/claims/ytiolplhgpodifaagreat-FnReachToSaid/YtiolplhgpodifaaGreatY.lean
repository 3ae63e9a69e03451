/- spec.l3Copy. Conditions: the table lies where its cells say; its rows are short. -/
import Derived.Test.YtiolplhgpodifaaGreatV
import Derived.Test.YtiolplhgpodifaaGreatAct
set_option linter.unusedVariables false
set_option linter.unusedSimpArgs false
namespace Go.Proofs.YtiolplhgpodifaaGreat
open Go.RowKit Drw
attribute [local go_sem] Lab.val Rgt.val Cal.val Thg.val

theorem own_lit {w : World} {B e s : Nat} (k : Nat) (hk : w.heap.size = k) (hB : B ≤ k) : (w.alloc (.cells #[] e)).ownsRow B e s (.slice (some ⟨k, 0, none⟩) 0 0) 0 [] := by
  subst hk
  exact World.ownsRow_made w #[] 0 hB (by simp [maxLen]) (by simp)

end Go.Proofs.YtiolplhgpodifaaGreat
