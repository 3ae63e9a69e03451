/- What the statements of the laws on what can be come to have share: the bytes that come in. Conditions: none. -/
import Derived.Test.YtiolplhgpodifaaGreatRows
import Derived.Test.YtiolplhgpodifaaGreatRb
import Derived.ChangeSame
import Derived.ChangeVars
import Derived.JoinedOf
import Derived.RowKit
import Derived.RowKitTokens
import Derived.LaidLaws
import Derived.LaidHandle
import Derived.WideKeyArgs
import Derived.ChangeSlices
import Derived.OpenShut
import Derived.Stop.Joined
set_option linter.unusedVariables false
set_option linter.unusedSimpArgs false
namespace Go.Proofs.YtiolplhgpodifaaGreat
open Go Go.ChangeShapes Go.WideShapes Go.RowKit Drw

theorem own : ownKnob Tryz.prog.godebug = none := by kernel_rfl
theorem lawLaidOut : laidOutB Tryz.prog = true := by kernel_rfl
theorem u8Cells : Tryz.prog.cellsOf 5 = 1 := by kernel_rfl
set_option maxRecDepth 100000 in
/-- A slice of bytes that came in. -/
theorem bytes_of {H : Type} {enc : TypeId × Value → H} {W : World} {base : Nat} {v : Value} {d : DataW H} {ps : List MemPlace} (hval : Value.okWide Tryz.prog W .any base 22 v) (h : DataW.Trod enc Tryz.prog W 0 (fun _ => true) true 22 v d ps) :
    ∃ q n cap, v = .slice q n cap ∧ n ≤ cap ∧ cap ≤ maxLen ∧ BytesIn W q n ∧ ∀ x ∈ ps, ∃ b o, x = .cell b o := by
  obtain ⟨q, n, cap, rfl⟩ := okWide_slice Tryz.underlying22 hval
  obtain ⟨fuel, hf⟩ := h
  rcases open_ints Tryz.underlying22 Tryz.underlying5 u8Cells hf with ⟨hcs, hx⟩ | ⟨a, len', cap', zs, hcs, -, hl, hm, hz, hx, hcell, hwz⟩
  · simp [Value.cells] at hcs
    obtain ⟨rfl, rfl, rfl⟩ := hcs
    simp only [Prod.mk.injEq] at hx
    obtain ⟨-, rfl⟩ := hx
    exact ⟨none, 0, 0, rfl, Nat.le_refl _, Nat.zero_le _, fun i hi => absurd hi (by omega), fun _ h => by cases h⟩
  · simp [Value.cells] at hcs
    obtain ⟨rfl, rfl, rfl⟩ := hcs
    simp only [if_true] at hz
    simp only [Prod.mk.injEq] at hx
    obtain ⟨-, rfl⟩ := hx
    refine ⟨_, _, _, rfl, hl, hm, fun i hi => ?_, fun x hx => by
      simp only [MemPlace.row, List.mem_map] at hx
      obtain ⟨i, _, rfl⟩ := hx
      exact ⟨_, _, rfl⟩⟩
    have hi2 : i < zs.length := by omega
    have hci := hcell i hi2
    obtain ⟨b, o, spot⟩ := a
    have hspot : spot = none := by simpa [Addr.add] using World.cell?_spot (hcell 0 (by omega))
    subst hspot
    rw [Addr.add_lit] at hci
    have hr := range_u8 hwz i
    rw [← List.getD_eq_getElem?_getD] at hr
    refine ⟨b, o, (zs.getD i 0).toNat, rfl, World.block_lt_of_cell? _ _ hci, ?_, by omega⟩
    rw [hci]
    congr 2
    omega
end Go.Proofs.YtiolplhgpodifaaGreat
