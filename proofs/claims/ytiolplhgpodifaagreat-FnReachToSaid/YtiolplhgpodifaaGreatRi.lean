/- A right among rights, by impl. Conditions: none but bounds as they stand. -/
import Derived.Test.YtiolplhgpodifaaGreatF
import Derived.Deep.RegionWith
set_option linter.unusedVariables false
set_option linter.unusedSimpArgs false
namespace Go.Proofs.YtiolplhgpodifaaGreat
open Go.RowKit Drw
attribute [local go_sem] Lab.val Rgt.val Cal.val Thg.val

theorem ta_ee (v : Value) (w : World) : (Instr.typeAssert (.iface 107 v) 67 107 true).run Tryz.prog w = .ok (.tuple #[v, .bool true]) w := by kernel_rfl
theorem ta_oo (v : Value) (w : World) : (Instr.typeAssert (.iface 109 v) 67 109 true).run Tryz.prog w = .ok (.tuple #[v, .bool true]) w := by kernel_rfl
theorem ta_oe (v : Value) (w : World) : (Instr.typeAssert (.iface 109 v) 67 107 true).run Tryz.prog w = .ok (.tuple #[.agg #[], .bool false]) w := by kernel_rfl
theorem ta_eo (v : Value) (w : World) : (Instr.typeAssert (.iface 107 v) 67 109 true).run Tryz.prog w = .ok (.tuple #[Rgt.null.val, .bool false]) w := by kernel_rfl
attribute [local go_sem] ta_ee ta_oo ta_oe ta_eo

set_option maxRecDepth 100000 in
set_option maxHeartbeats 4000000 in
theorem capabilityIn_c (a b : Rgt) (w : World) :
    Calls Tryz.prog 43 #[capV a, capV b] w fun e w' => e = .returned (.bool (rgtIn1 a b)) ∧ Below w.heap.size w w' := by
  by_cases ha : a.thing = 0
  · rw [capV_null ha, show rgtIn1 a b = true by simp [rgtIn1, ha]]
    clear ha
    by_cases hb : b.thing = 0
    · rw [capV_null hb]
      clear hb
      go_enter Tryz.func43, Tryz.ntmps43
      go_wp2
      go_ret
      exact ⟨rfl, (by (repeat (with_reducible first | exact Below.refl _ _ | refine Below.alloc ?_ ?_ _ | refine below_drewN ?_ _ | refine Below.drew ?_ | refine Below.setCell ?_ ?_ _ | refine Below.trans ?_ (Below.mono (by assumption) ?_))) <;> (first | omega | (simp; try omega)))⟩
    · rw [capV_obj hb]
      clear hb
      go_enter Tryz.func43, Tryz.ntmps43
      go_wp2
      go_ret
      exact ⟨rfl, (by (repeat (with_reducible first | exact Below.refl _ _ | refine Below.alloc ?_ ?_ _ | refine below_drewN ?_ _ | refine Below.drew ?_ | refine Below.setCell ?_ ?_ _ | refine Below.trans ?_ (Below.mono (by assumption) ?_))) <;> (first | omega | (simp; try omega)))⟩
  · by_cases hb : b.thing = 0
    · rw [capV_obj ha, capV_null hb, show rgtIn1 a b = false by simp [rgtIn1, ha, hb]]
      clear ha hb
      obtain ⟨a1, a2, a3, a4, a5⟩ := a
      dsimp only [Rgt.val]
      go_enter Tryz.func43, Tryz.ntmps43
      go_wp2
      go_ret
      exact ⟨rfl, (by (repeat (with_reducible first | exact Below.refl _ _ | refine Below.alloc ?_ ?_ _ | refine below_drewN ?_ _ | refine Below.drew ?_ | refine Below.setCell ?_ ?_ _ | refine Below.trans ?_ (Below.mono (by assumption) ?_))) <;> (first | omega | (simp; try omega)))⟩
    · rw [capV_obj ha, capV_obj hb]
      obtain ⟨v, hv⟩ : ∃ v, rgtIn1 a b = v := ⟨_, rfl⟩
      obtain ⟨a1, a2, a3, a4, a5⟩ := a
      obtain ⟨b1, b2, b3, b4, b5⟩ := b
      dsimp only at ha hb
      have Hv := Lib.hid hv
      rw [hv]
      clear hv
      dsimp only [Rgt.val]
      go_enter Tryz.func43, Tryz.ntmps43
      go_upto_region 11 with (fail)
      go_region
      all_goals go_wp2
      all_goals go_ret
      all_goals (refine ⟨ret_bool ?_, (by (repeat (with_reducible first | exact Below.refl _ _ | refine Below.alloc ?_ ?_ _ | refine below_drewN ?_ _ | refine Below.drew ?_ | refine Below.setCell ?_ ?_ _ | refine Below.trans ?_ (Below.mono (by assumption) ?_))) <;> (first | omega | (simp; try omega)))⟩; rw [← Hv.out]; grind [rgtIn1])

set_option maxRecDepth 100000 in
set_option maxHeartbeats 4000000 in
theorem rightIn_c (a b : Rgt) (w : World) :
    Calls Tryz.prog 17 #[a.val, b.val] w fun e w' => e = .returned (.bool (rgtIn a b)) ∧ Below w.heap.size w w' := by
  obtain ⟨va, hva⟩ : ∃ v, rgtOk a = v := ⟨_, rfl⟩
  obtain ⟨vb, hvb⟩ : ∃ v, rgtOk b = v := ⟨_, rfl⟩
  obtain ⟨vi, hvi⟩ : ∃ v, rgtIn1 a b = v := ⟨_, rfl⟩
  have hr : rgtIn a b = (va && vb && vi) := by simp [rgtIn, hva, hvb, hvi]
  rw [hr]
  have Ha := Lib.hid hva
  have Hb := Lib.hid hvb
  have Hi := Lib.hid (show ∀ w, Calls Tryz.prog 43 #[capV a, capV b] w fun e w' => e = .returned (.bool vi) ∧ Below w.heap.size w w' from fun w => by rw [← hvi]; exact capabilityIn_c a b w)
  obtain ⟨xa, hxa⟩ : ∃ x, capV a = x := ⟨_, rfl⟩
  obtain ⟨xb, hxb⟩ : ∃ x, capV b = x := ⟨_, rfl⟩
  rw [hxa, hxb] at Hi
  have Hxa := Lib.hid hxa
  have Hxb := Lib.hid hxb
  clear hva hvb hvi hr hxa hxb
  obtain ⟨a1, a2, a3, a4, a5⟩ := a
  obtain ⟨b1, b2, b3, b4, b5⟩ := b
  dsimp only [Rgt.val]
  go_enter Tryz.func17, Tryz.ntmps17
  go_upto_region 2 with (fail)
  generalize hwx : (w.alloc _).alloc _ = wx
  have hB0 : Below w.heap.size w wx := by rw [← hwx]; exact (by (repeat (with_reducible first | exact Below.refl _ _ | refine Below.alloc ?_ ?_ _ | refine below_drewN ?_ _ | refine Below.drew ?_ | refine Below.setCell ?_ ?_ _ | refine Below.trans ?_ (Below.mono (by assumption) ?_))) <;> (first | omega | (simp; try omega)))
  have g1 : wx.cell? ⟨w.heap.size, 0, none⟩ = some (.int .i64 a1) ∧ wx.cell? ⟨w.heap.size, 1, none⟩ = some (.int .i64 a2) ∧ wx.cell? ⟨w.heap.size, 2, none⟩ = some (.bool a3) ∧ wx.cell? ⟨w.heap.size, 3, none⟩ = some (.bool a4) ∧ wx.cell? ⟨w.heap.size, 4, none⟩ = some (.bool a5) := by rw [← hwx]; simp [go_sem]
  have g2 : wx.cell? ⟨w.heap.size + 1, 0, none⟩ = some (.int .i64 b1) ∧ wx.cell? ⟨w.heap.size + 1, 1, none⟩ = some (.int .i64 b2) ∧ wx.cell? ⟨w.heap.size + 1, 2, none⟩ = some (.bool b3) ∧ wx.cell? ⟨w.heap.size + 1, 3, none⟩ = some (.bool b4) ∧ wx.cell? ⟨w.heap.size + 1, 4, none⟩ = some (.bool b5) := by rw [← hwx]; simp [go_sem]
  have hs1 : w.heap.size + 1 < wx.heap.size := by rw [← hwx]; simp
  clear hwx
  have HS := Lib.hid (show ∀ w' : World, Below wx.heap.size wx w' → (Below wx.heap.size wx w' ∧ (w'.cell? ⟨w.heap.size, 0, none⟩ = some (.int .i64 a1) ∧ w'.cell? ⟨w.heap.size, 1, none⟩ = some (.int .i64 a2) ∧ w'.cell? ⟨w.heap.size, 2, none⟩ = some (.bool a3) ∧ w'.cell? ⟨w.heap.size, 3, none⟩ = some (.bool a4) ∧ w'.cell? ⟨w.heap.size, 4, none⟩ = some (.bool a5)) ∧ (w'.cell? ⟨w.heap.size + 1, 0, none⟩ = some (.int .i64 b1) ∧ w'.cell? ⟨w.heap.size + 1, 1, none⟩ = some (.int .i64 b2) ∧ w'.cell? ⟨w.heap.size + 1, 2, none⟩ = some (.bool b3) ∧ w'.cell? ⟨w.heap.size + 1, 3, none⟩ = some (.bool b4) ∧ w'.cell? ⟨w.heap.size + 1, 4, none⟩ = some (.bool b5))) from fun w' h => by
    obtain ⟨hc', -⟩ := bcell h
    have e1 : w.heap.size < wx.heap.size := by omega
    exact ⟨h, by simp only [hc' _ _ e1]; exact g1, by simp only [hc' _ _ hs1]; exact g2⟩)
  clear g1 g2
  have HS2 := Lib.hid (show ∀ wA w' : World, (Below wx.heap.size wx wA ∧ (wA.cell? ⟨w.heap.size, 0, none⟩ = some (.int .i64 a1) ∧ wA.cell? ⟨w.heap.size, 1, none⟩ = some (.int .i64 a2) ∧ wA.cell? ⟨w.heap.size, 2, none⟩ = some (.bool a3) ∧ wA.cell? ⟨w.heap.size, 3, none⟩ = some (.bool a4) ∧ wA.cell? ⟨w.heap.size, 4, none⟩ = some (.bool a5)) ∧ (wA.cell? ⟨w.heap.size + 1, 0, none⟩ = some (.int .i64 b1) ∧ wA.cell? ⟨w.heap.size + 1, 1, none⟩ = some (.int .i64 b2) ∧ wA.cell? ⟨w.heap.size + 1, 2, none⟩ = some (.bool b3) ∧ wA.cell? ⟨w.heap.size + 1, 3, none⟩ = some (.bool b4) ∧ wA.cell? ⟨w.heap.size + 1, 4, none⟩ = some (.bool b5))) → Below wA.heap.size wA w' → (Below wx.heap.size wx w' ∧ (w'.cell? ⟨w.heap.size, 0, none⟩ = some (.int .i64 a1) ∧ w'.cell? ⟨w.heap.size, 1, none⟩ = some (.int .i64 a2) ∧ w'.cell? ⟨w.heap.size, 2, none⟩ = some (.bool a3) ∧ w'.cell? ⟨w.heap.size, 3, none⟩ = some (.bool a4) ∧ w'.cell? ⟨w.heap.size, 4, none⟩ = some (.bool a5)) ∧ (w'.cell? ⟨w.heap.size + 1, 0, none⟩ = some (.int .i64 b1) ∧ w'.cell? ⟨w.heap.size + 1, 1, none⟩ = some (.int .i64 b2) ∧ w'.cell? ⟨w.heap.size + 1, 2, none⟩ = some (.bool b3) ∧ w'.cell? ⟨w.heap.size + 1, 3, none⟩ = some (.bool b4) ∧ w'.cell? ⟨w.heap.size + 1, 4, none⟩ = some (.bool b5))) from fun wA w' h hb => HS.out _ (h.1.trans (hb.mono h.1.size)))
  have HB := Lib.hid hB0
  clear hB0
  have H0 := HS.out _ (Below.drew (Below.refl _ _))
  cases va <;> cases vb
  all_goals
    go_region_with (first
        | (go_at_call 40; refine (rightOk_c ⟨_, _, _, _, _⟩ _).mono ?_; (first | rw [Ha.out] | rw [Hb.out]); rintro e w3 ⟨rfl, hb3⟩; have hX := HS2.out _ _ (by assumption) hb3)
        | (go_at_call 44; refine (capabilityOf_c ⟨_, _, _, _, _⟩ _).mono ?_; (first | rw [Hxa.out] | rw [Hxb.out]); rintro e w3 ⟨rfl, hb3⟩; have hX := HS2.out _ _ (by assumption) hb3)
        | (go_at_call 43; refine (Hi.out _).mono ?_; rintro e w3 ⟨rfl, hb3⟩; have hX := HS2.out _ _ (by assumption) hb3))
  all_goals go_wp2
  all_goals go_ret
  all_goals exact ⟨rfl, HB.out.trans ((And.left (by assumption : Below wx.heap.size wx _ ∧ _)).mono HB.out.size)⟩
end Go.Proofs.YtiolplhgpodifaaGreat
