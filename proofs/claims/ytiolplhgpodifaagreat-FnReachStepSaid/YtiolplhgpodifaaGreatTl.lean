/- impl.TableLive. Conditions: the table lies where its cells say. -/
import Derived.Test.YtiolplhgpodifaaGreatG
set_option linter.unusedVariables false
set_option linter.unusedSimpArgs false
namespace Go.Proofs.YtiolplhgpodifaaGreat
open Go.RowKit Drw
attribute [local go_sem] Lab.val Rgt.val Cal.val Thg.val

set_option maxRecDepth 100000 in
set_option maxHeartbeats 4000000 in
theorem tableLive_c (p : Option Addr) (cap : Nat) (ts : List Thg) (r : Rgt) (w : World) (hT : TabAt w (.slice p ts.length cap) ts) :
    Calls Tryz.prog 18 #[.slice p ts.length cap, r.val] w fun e w' => e = .returned (.bool (tabOk ts && rgtOk r && live ts r)) ∧ Below w.heap.size w w' := by
  obtain ⟨tok, htok⟩ : ∃ b, tabOk ts = b := ⟨_, rfl⟩
  obtain ⟨rok, hrok⟩ : ∃ b, rgtOk r = b := ⟨_, rfl⟩
  obtain ⟨lok, hlok⟩ : ∃ b, live ts r = b := ⟨_, rfl⟩
  rw [htok, hrok, hlok]
  have H1 := Lib.hid htok
  have H2 := Lib.hid hrok
  have H3 := Lib.hid hlok
  have HT := Lib.hid hT
  clear htok hrok hlok hT
  obtain ⟨r0, r1, r2, r3, r4⟩ := r
  cases tok
  · go_enter Tryz.func18, Tryz.ntmps18
    go_wp2_with (go_at_call 32; refine (tableOk_c p cap ts _ (HT.out.pure (by (repeat (with_reducible first | exact Below.refl _ _ | refine Below.alloc ?_ ?_ _ | refine below_drewN ?_ _ | refine Below.drew ?_ | refine Below.setCell ?_ ?_ _ | refine Below.trans ?_ (Below.mono (by assumption) ?_))) <;> (first | omega | (simp; try omega))))).mono ?_; rw [H1.out]; rintro e w1 ⟨rfl, hb1⟩; obtain ⟨hc1, hf1⟩ := bcell hb1; have hz0 : w.heap.size < w1.heap.size := (by have := hb1.size; (try simp at this); omega))
    go_ret
    exact ⟨rfl, (by (repeat (with_reducible first | exact Below.refl _ _ | refine Below.alloc ?_ ?_ _ | refine below_drewN ?_ _ | refine Below.drew ?_ | refine Below.setCell ?_ ?_ _ | refine Below.trans ?_ (Below.mono (by assumption) ?_))) <;> (first | omega | (simp; try omega)))⟩
  · cases rok
    · go_enter Tryz.func18, Tryz.ntmps18
      go_wp2_with (first
        | (go_at_call 40; refine (rightOk_c ⟨_, _, _, _, _⟩ _).mono ?_; rw [H2.out]; rintro e w2 ⟨rfl, hb2⟩; have hz2 : w.heap.size < w2.heap.size := (by have := hb2.size; have := hb1.size; simp at *; omega))
        | (go_at_call 32; refine (tableOk_c p cap ts _ (HT.out.pure (by (repeat (with_reducible first | exact Below.refl _ _ | refine Below.alloc ?_ ?_ _ | refine below_drewN ?_ _ | refine Below.drew ?_ | refine Below.setCell ?_ ?_ _ | refine Below.trans ?_ (Below.mono (by assumption) ?_))) <;> (first | omega | (simp; try omega))))).mono ?_; rw [H1.out]; rintro e w1 ⟨rfl, hb1⟩; obtain ⟨hc1, hf1⟩ := bcell hb1; have hz0 : w.heap.size < w1.heap.size := (by have := hb1.size; (try simp at this); omega)))
      go_ret
      exact ⟨rfl, (by (repeat (with_reducible first | exact Below.refl _ _ | refine Below.alloc ?_ ?_ _ | refine below_drewN ?_ _ | refine Below.drew ?_ | refine Below.setCell ?_ ?_ _ | refine Below.trans ?_ (Below.mono (by assumption) ?_))) <;> (first | omega | (simp; try omega)))⟩
    · go_enter Tryz.func18, Tryz.ntmps18
      go_wp2_with (first
        | (go_at_call 45; refine (rightLive_c p cap ts ⟨_, _, _, _, _⟩ _ (HT.out.pure (by (repeat (with_reducible first | exact Below.refl _ _ | refine Below.alloc ?_ ?_ _ | refine below_drewN ?_ _ | refine Below.drew ?_ | refine Below.setCell ?_ ?_ _ | refine Below.trans ?_ (Below.mono (by assumption) ?_))) <;> (first | omega | (simp; try omega))))).mono ?_; rw [H3.out]; rintro e w3 ⟨rfl, hb3⟩)
        | (go_at_call 40; refine (rightOk_c ⟨_, _, _, _, _⟩ _).mono ?_; rw [H2.out]; rintro e w2 ⟨rfl, hb2⟩; obtain ⟨hc2, hf2⟩ := bcell hb2; have hz2 : w.heap.size < w2.heap.size := (by have := hb2.size; have := hb1.size; simp at *; omega); have hz2' := hb2.size)
        | (go_at_call 32; refine (tableOk_c p cap ts _ (HT.out.pure (by (repeat (with_reducible first | exact Below.refl _ _ | refine Below.alloc ?_ ?_ _ | refine below_drewN ?_ _ | refine Below.drew ?_ | refine Below.setCell ?_ ?_ _ | refine Below.trans ?_ (Below.mono (by assumption) ?_))) <;> (first | omega | (simp; try omega))))).mono ?_; rw [H1.out]; rintro e w1 ⟨rfl, hb1⟩; obtain ⟨hc1, hf1⟩ := bcell hb1; have hz0 : w.heap.size < w1.heap.size := (by have := hb1.size; (try simp at this); omega)))
      go_ret
      exact ⟨rfl, (by (repeat (with_reducible first | exact Below.refl _ _ | refine Below.alloc ?_ ?_ _ | refine below_drewN ?_ _ | refine Below.drew ?_ | refine Below.setCell ?_ ?_ _ | refine Below.trans ?_ (Below.mono (by assumption) ?_))) <;> (first | omega | (simp; try omega)))⟩
end Go.Proofs.YtiolplhgpodifaaGreat
