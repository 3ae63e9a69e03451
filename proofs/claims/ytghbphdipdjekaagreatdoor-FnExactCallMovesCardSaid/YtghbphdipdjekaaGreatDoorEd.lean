/- The law that the program's CallDo returns what the reference's returns, and shares no memory, walked. Conditions: the things lie where their cells say; errors.errorType is laid. -/
import Derived.Test.YtghbphdipdjekaaGreatDoorHd
import Derived.Test.YtghbphdipdjekaaGreatDoorCw
import Derived.Test.YtghbphdipdjekaaGreatDoorQa
set_option linter.unusedVariables false
set_option linter.unusedSimpArgs false
namespace Drw
open Go Go.RowKit
/-- A table in memory of its own, its blocks between two bounds. -/
def OwnT (w : World) (lo hi : Nat) (v : Value) (ts : List Thg) : Prop := ∃ xs tag, OwnTab w (fun b => lo ≤ b ∧ b < hi) tag v xs ∧ xs.map (·.1) = ts
theorem OwnT.of {w : World} {lo : Nat} {tag : Nat → Nat} {v : Value} {xs : List Thx} {ts : List Thg} (h : OwnTab w (fun b => lo ≤ b) tag v xs) (hx : xs.map (·.1) = ts) : OwnT w lo w.heap.size v ts :=
  ⟨xs, tag, h.imp (fun b h1 h2 => ⟨⟨h1, h2⟩, rfl⟩), hx⟩
theorem OwnT.at' {w : World} {lo hi : Nat} {v : Value} {ts : List Thg} (h : OwnT w lo hi v ts) : TabAt w v ts := by
  obtain ⟨xs, tag, h1, rfl⟩ := h; exact h1.at'
theorem OwnT.chg {w w' : World} {S : Nat → Prop} {lo hi : Nat} {v : Value} {ts : List Thg} (h : OwnT w lo hi v ts) (hg : Chg S w w') (hS : ∀ b, lo ≤ b → b < hi → ¬ S b) : OwnT w' lo hi v ts := by
  obtain ⟨xs, tag, h1, h2⟩ := h
  exact ⟨xs, tag, h1.chg hg (fun b hb _ => hS b hb.1 hb.2), h2⟩
theorem OwnT.pure {w w' : World} {lo hi : Nat} {v : Value} {ts : List Thg} (h : OwnT w lo hi v ts) (hb : Below w.heap.size w w') : OwnT w' lo hi v ts := by
  obtain ⟨xs, tag, h1, h2⟩ := h
  exact ⟨xs, tag, h1.pure hb, h2⟩
/-- A table below a bound is kept by what changes blocks from the bound on. -/
theorem TabAt.low {w0 w w' : World} {B : Nat} {v : Value} {ts : List Thg} {S : Nat → Prop} (h : TabAt w0 v ts) (hb : Below w0.heap.size w0 w) (hg : Chg S w w') (hS : ∀ b, b < w0.heap.size → ¬ S b) : TabAt w' v ts :=
  h.pure (hb.trans (hg.below hb.size hS))
end Drw
namespace Go.Proofs.YtghbphdipdjekaaGreatDoor
open Go.RowKit Drw
attribute [local go_sem] Lab.val Rgt.val Cal.val Thg.val

theorem toThingS_o {p : Option Addr} {cap : Nat} {ts : List Thg} {w : World} (hT : TabAt w (.slice p ts.length cap) ts) (hF : Fits ts) :
    Calls Tryz.prog 40 #[.slice p ts.length cap] w fun e w' => ∃ q k, e = .returned (.slice q ts.length k) ∧ OwnT w' w.heap.size w'.heap.size (.slice q ts.length k) ts ∧ Below w.heap.size w w' := by
  refine (toThingS_c hT hF.1 hF.2).mono ?_
  rintro e w' ⟨q, k, xs, tag, rfl, hO, hx, hb⟩
  exact ⟨q, k, rfl, .of hO hx, hb⟩
theorem callDo_o {p : Option Addr} {cap : Nat} {ts us : List Thg} {c : Cal} {an : Int} {w : World} (hL : Laid w) (hT : TabAt w (.slice p ts.length cap) ts) (h : callDo ts c = (us, an)) :
    Calls Tryz.prog 26 #[.slice p ts.length cap, c.val] w fun e w' => ∃ q k, e = .returned (.tuple #[.slice q us.length k, .int .i64 an]) ∧ OwnT w' w.heap.size w'.heap.size (.slice q us.length k) us ∧ Below w.heap.size w w' := by
  refine (callDo_c p cap ts c w hL hT).mono ?_
  rintro e w' ⟨v, xs, tag, rfl, hO, hx, hb⟩
  rw [h] at hx
  have hA := hO.at'
  rw [hx] at hA
  obtain ⟨q, k, rfl, -, -⟩ := hA.len
  exact ⟨q, k, by rw [h], .of hO hx, hb⟩
theorem markThingS_o {p : Option Addr} {cap lo hi : Nat} {ts : List Thg} {w : World} (h : OwnT w lo hi (.slice p ts.length cap) ts) (hF : Fits ts) :
    Calls Tryz.prog 43 #[.slice p ts.length cap, .int .i64 1] w fun e w' => e = .returned (.int .i64 (nxTs 1 ts)) ∧ OwnT w' lo hi (.slice p ts.length cap) (mkTs 1 ts) ∧ Chg (fun b => lo ≤ b ∧ b < hi) w w' := by
  obtain ⟨xs, tag, hO, hx⟩ := h
  refine (markThingS_c 1 w hO hx (by omega) (by omega) hF.1 hF.2).mono ?_
  rintro e w' ⟨ys, rfl, hO', hy, hg⟩
  exact ⟨rfl, ⟨ys, tag, hO', hy⟩, hg⟩
theorem heldThingS_o {p : Option Addr} {cap : Nat} {ts : List Thg} {w : World} (h : TabAt w (.slice p ts.length cap) (mkTs 1 ts)) (hF : Fits ts) :
    Calls Tryz.prog 44 #[.slice p ts.length cap, .int .i64 1] w fun e w' => e = .returned (.int .i64 (nxTs 1 ts)) ∧ Below w.heap.size w w' :=
  heldThingS_c 1 w h (by omega) (by omega) hF.1 hF.2
theorem fits_small {us : List Thg} (h : tabOk us = true) : Fits us := by
  refine ⟨by have := (tab_iff.1 h).1; omega, fun t ht => ?_⟩
  have := short_of_tab h t ht
  omega
theorem fits_callDo {ts us : List Thg} {c : Cal} {an : Int} (h : callDo ts c = (us, an)) : Fits us := by
  unfold callDo at h
  split at h
  · rename_i hc
    have : us = (do2 ts c).1 := by rw [h]
    rw [this]
    exact fits_small (do2_fine (canB.1 hc)).tab
  · cases h; exact ⟨by simp, fun t ht => by cases ht⟩

theorem toCall_v (k0 k1 k2 k3 k4 : Int) (w : World) : Calls Tryz.prog 41 #[.agg #[.int .i64 k0, .int .i64 k1, .int .i64 k2, .int .i64 k3, .int .i64 k4]] w fun e w' => e = .returned (.agg #[.int .i64 k0, .int .i64 k1, .int .i64 k2, .int .i64 k3, .int .i64 k4]) ∧ Below w.heap.size w w' :=
  toCall_c ⟨k0, k1, k2, k3, k4⟩ w
set_option maxRecDepth 100000 in
theorem scallDo_v {p : Option Addr} {cap : Nat} {ts us : List Thg} {k0 k1 k2 k3 k4 an : Int} {w : World} (hT : TabAt w (.slice p ts.length cap) ts) (h : callDo ts ⟨k0, k1, k2, k3, k4⟩ = (us, an)) :
    Calls Tryz.prog 39 #[.slice p ts.length cap, .agg #[.int .i64 k0, .int .i64 k1, .int .i64 k2, .int .i64 k3, .int .i64 k4]] w fun e w' => ∃ q k, e = .returned (.tuple #[.slice q us.length k, .int .i64 an]) ∧ TabAt w' (.slice q us.length k) us ∧ Below w.heap.size w w' := scallDo_t (c := ⟨k0, k1, k2, k3, k4⟩) hT h
set_option maxRecDepth 100000 in
theorem callDo_v {p : Option Addr} {cap : Nat} {ts us : List Thg} {k0 k1 k2 k3 k4 an : Int} {w : World} (hL : Laid w) (hT : TabAt w (.slice p ts.length cap) ts) (h : callDo ts ⟨k0, k1, k2, k3, k4⟩ = (us, an)) :
    Calls Tryz.prog 26 #[.slice p ts.length cap, .agg #[.int .i64 k0, .int .i64 k1, .int .i64 k2, .int .i64 k3, .int .i64 k4]] w fun e w' => ∃ q k, e = .returned (.tuple #[.slice q us.length k, .int .i64 an]) ∧ OwnT w' w.heap.size w'.heap.size (.slice q us.length k) us ∧ Below w.heap.size w w' := callDo_o (c := ⟨k0, k1, k2, k3, k4⟩) hL hT h

set_option maxRecDepth 100000 in
set_option maxHeartbeats 8000000 in
theorem fnExactCallDo_c {p : Option Addr} {cap : Nat} {ts : List Thg} (k0 k1 k2 k3 k4 : Int) (w : World) (hL : Laid w) (hT : TabAt w (.slice p ts.length cap) ts) :
    Calls Tryz.prog 13 #[.slice p ts.length cap, .agg #[.int .i64 k0, .int .i64 k1, .int .i64 k2, .int .i64 k3, .int .i64 k4]] w fun e w' => e = .returned (.bool true) ∧ Below w.heap.size w w' := by
  obtain ⟨_, _, h1, hl1, hl2⟩ := hT.len
  cases h1
  unfold maxLen at hl2
  obtain ⟨us, an, hdo⟩ : ∃ us an, callDo ts ⟨k0, k1, k2, k3, k4⟩ = (us, an) := ⟨_, _, rfl⟩
  have Hdo := Lib.hid hdo
  have HFu := Lib.hid (fits_callDo hdo)
  have HL0 := Lib.hid hL
  have HT := Lib.hid hT
  clear hT hL hdo
  go_enter Tryz.func13, Tryz.ntmps13
  go_upto_region 3 with (go_at_call 38; refine (szThingS_c (HT.out.pure (by (repeat (with_reducible first | exact Below.refl _ _ | refine Below.alloc ?_ ?_ _ | refine below_drewN ?_ _ | refine Below.drew ?_ | refine Below.setCell ?_ ?_ _ | refine Below.trans ?_ (Below.mono (by assumption) ?_))) <;> (first | omega | (simp; try omega))))).mono ?_; rintro e w1 ⟨r, rfl, hr, hF, hb1⟩; have HF := Lib.hid hF; have HB1 := Lib.hid (show Below w.heap.size w w1 from (by (repeat (with_reducible first | exact Below.refl _ _ | refine Below.alloc ?_ ?_ _ | refine below_drewN ?_ _ | refine Below.drew ?_ | refine Below.setCell ?_ ?_ _ | refine Below.trans ?_ (Below.mono (by assumption) ?_))) <;> (first | omega | (simp; try omega)))); obtain ⟨hc1, hf1⟩ := bcell hb1; have hz1 : w.heap.size < w1.heap.size := (by have := hb1.size; (try simp at this); omega); clear hF hb1 hf1)
  have l0 : w1.cell? ⟨w.heap.size, 0, none⟩ = some (.int .i64 k0) := by rw [hc1 _ _ (by simp)]; simp [go_sem]
  have l1 : w1.cell? ⟨w.heap.size, 1, none⟩ = some (.int .i64 k1) := by rw [hc1 _ _ (by simp)]; simp [go_sem]
  have l2 : w1.cell? ⟨w.heap.size, 2, none⟩ = some (.int .i64 k2) := by rw [hc1 _ _ (by simp)]; simp [go_sem]
  have l3 : w1.cell? ⟨w.heap.size, 3, none⟩ = some (.int .i64 k3) := by rw [hc1 _ _ (by simp)]; simp [go_sem]
  have l4 : w1.cell? ⟨w.heap.size, 4, none⟩ = some (.int .i64 k4) := by rw [hc1 _ _ (by simp)]; simp [go_sem]
  have HC := Lib.hid (show ∀ w' : World, Below w1.heap.size w1 w' → (Below w1.heap.size w1 w' ∧ w'.cell? ⟨w.heap.size, 0, none⟩ = some (.int .i64 k0) ∧ w'.cell? ⟨w.heap.size, 1, none⟩ = some (.int .i64 k1) ∧ w'.cell? ⟨w.heap.size, 2, none⟩ = some (.int .i64 k2) ∧ w'.cell? ⟨w.heap.size, 3, none⟩ = some (.int .i64 k3) ∧ w'.cell? ⟨w.heap.size, 4, none⟩ = some (.int .i64 k4)) from fun w' h =>
    ⟨h, (h.cell hz1).trans l0, (h.cell hz1).trans l1, (h.cell hz1).trans l2, (h.cell hz1).trans l3, (h.cell hz1).trans l4⟩)
  clear hc1 l0 l1 l2 l3 l4
  by_cases hneg : r < 0
  · go_wp2
    go_ret
    exact ⟨rfl, HB1.out⟩
  · have HFt := Lib.hid (HF.out (by omega))
    go_upto_region 5 with (fail)
    go_cut [6, 7] (fun s6 s7 wz => ∃ q k, s6 = .slice q us.length k ∧ s7 = .int .i64 an ∧ TabAt wz (.slice q us.length k) us ∧ Below w1.heap.size w1 wz)
    case first =>
      first | (go_region_held3 (fun w' => Below w1.heap.size w1 w' ∧ w'.cell? ⟨w.heap.size, 0, none⟩ = some (.int .i64 k0) ∧ w'.cell? ⟨w.heap.size, 1, none⟩ = some (.int .i64 k1) ∧ w'.cell? ⟨w.heap.size, 2, none⟩ = some (.int .i64 k2) ∧ w'.cell? ⟨w.heap.size, 3, none⟩ = some (.int .i64 k3) ∧ w'.cell? ⟨w.heap.size, 4, none⟩ = some (.int .i64 k4)) (first | assumption | exact HC.out _ (Below.refl _ _) | exact HC.out _ (Below.drew (Below.refl _ _)) | (have hX := And.left (by assumption : Below w1.heap.size w1 _ ∧ _); first | exact HC.out _ (hX.trans (hb7.mono hX.size)) | exact HC.out _ (hX.trans (hb6.mono hX.size)) | exact HC.out _ (hX.trans (hb5.mono hX.size)))) (first
        | (go_at_call 40; with_reducible refine (toThingS_o (HT.out.pure (HB1.out.trans ((And.left (by assumption : Below w1.heap.size w1 _ ∧ _)).mono HB1.out.size))) HFt.out).mono ?_; rintro e w5 ⟨q5, c5, rfl, hO5, hb5⟩)
        | (go_at_call 41; with_reducible refine (toCall_v k0 k1 k2 k3 k4 _).mono ?_; rintro e w6 ⟨rfl, hb6⟩)
        | (go_at_call 39; with_reducible refine (scallDo_v (hO5.at'.pure (by (repeat (with_reducible first | exact Below.refl _ _ | refine Below.alloc ?_ ?_ _ | refine below_drewN ?_ _ | refine Below.drew ?_ | refine Below.setCell ?_ ?_ _ | refine Below.trans ?_ (Below.mono (by assumption) ?_))) <;> (first | omega | (simp; try omega)))) Hdo.out).mono ?_; rintro e w7 ⟨q7, c7, rfl, hT7, hb7⟩))) | fail
      all_goals go_wp2
      all_goals go_meet
      all_goals exact ⟨_, _, rfl, rfl, hT7.pure (by (repeat (with_reducible first | exact Below.refl _ _ | refine Below.alloc ?_ ?_ _ | refine below_drewN ?_ _ | refine Below.drew ?_ | refine Below.setCell ?_ ?_ _ | refine Below.trans ?_ (Below.mono (by assumption) ?_))) <;> (first | omega | (simp; try omega))), And.left (by assumption : Below w1.heap.size w1 _ ∧ _)⟩
    case rest =>
      obtain ⟨q0, cq0, rfl, rfl, hT0, hBz⟩ := hcut
      obtain ⟨wA, rfl⟩ : ∃ y : World, y = wc := ⟨_, rfl⟩
      have HT0 := Lib.hid hT0
      have HBz := Lib.hid hBz
      have HBA := Lib.hid (HB1.out.trans (hBz.mono HB1.out.size))
      have HX := Lib.hid (Below.refl wA.heap.size wA)
      clear hT0 hBz
      go_upto_region 7 with (go_at_call 40; refine (toThingS_o (HT.out.pure HBA.out) HFt.out).mono ?_; rintro e wB ⟨qx, cx, rfl, hOx, hbB⟩; have HOx := Lib.hid hOx; have HX := Lib.hid hbB; have hsB := hbB.size; obtain ⟨-, e0, e1, e2, e3, e4⟩ := HC.out _ (HBz.out.trans (hbB.mono HBz.out.size)); clear hOx hbB)
      go_upto_region 8 with (first
        | (go_at_call 41; refine (toCall_v k0 k1 k2 k3 k4 _).mono ?_; rintro e wC ⟨rfl, hbC⟩; have HOx := Lib.hid (HOx.out.pure hbC); have HX := Lib.hid (HX.out.trans (hbC.mono HX.out.size)); have hsC := hbC.size; clear hbC)
        | (go_at_call 26; refine (callDo_v (HL0.out.pure (HBA.out.trans (HX.out.mono HBA.out.size))) HOx.out.at' Hdo.out).mono ?_; rintro e wD ⟨qg, cg, rfl, hOg, hbD⟩; have HOx := Lib.hid (HOx.out.pure hbD); have HX := Lib.hid (HX.out.trans (hbD.mono HX.out.size)); have HOg := Lib.hid hOg; clear hbD hOg))
      clear e0 e1 e2 e3 e4
      go_upto_region 10 with (go_at_call 42; refine (eqThingS_s HOg.out.at' (HT0.out.pure HX.out)).mono ?_; rintro e wE ⟨rfl, hbE⟩; have HOx := Lib.hid (HOx.out.pure hbE); have HX := Lib.hid (HX.out.trans (hbE.mono HX.out.size)); have HOg := Lib.hid (HOg.out.pure hbE); clear hbE)
      go_upto_region 13 with (first
        | (go_at_call 40; refine (toThingS_o (HT.out.pure (HBA.out.trans (HX.out.mono HBA.out.size))) HFt.out).mono ?_; rintro e wF ⟨qf, cf, rfl, hOf, hbF⟩; have HTf := Lib.hid hOf.at'; have HOx := Lib.hid (HOx.out.pure hbF); have HX := Lib.hid (HX.out.trans (hbF.mono HX.out.size)); have HOg := Lib.hid (HOg.out.pure hbF); clear hOf hbF)
        | (go_at_call 42; refine (eqThingS_s HOx.out.at' HTf.out).mono ?_; rintro e wG ⟨rfl, hbG⟩; have HOx := Lib.hid (HOx.out.pure hbG); have HX := Lib.hid (HX.out.trans (hbG.mono HX.out.size)); have HOg := Lib.hid (HOg.out.pure hbG); clear hbG))
      have hkt : ¬ nxTs 1 ts < 0 := by have := (nxTs_bd ts 1 HFt.out.2).1; omega
      have hku : ¬ nxTs 1 us < 0 := by have := (nxTs_bd us 1 HFu.out.2).1; omega
      go_upto_region 14 with (go_at_call 43; refine (markThingS_o HOx.out HFt.out).mono ?_; rintro e wH ⟨rfl, hOx, hgH⟩; have HX := Lib.hid (HX.out.trans (hgH.below HX.out.size (fun b hb h => by omega))); have HOg := Lib.hid (HOg.out.chg hgH (fun b h1 h2 h => by omega)); clear hOx hgH)
      go_upto_region 17 with (go_at_call 42; refine (eqThingS_s HOg.out.at' (HT0.out.pure HX.out)).mono ?_; rintro e wI ⟨rfl, hbI⟩; have HX := Lib.hid (HX.out.trans (hbI.mono HX.out.size)); have HOg := Lib.hid (HOg.out.pure hbI); clear hbI)
      go_upto_region 19 with (go_at_call 43; refine (markThingS_o HOg.out HFu.out).mono ?_; rintro e wJ ⟨rfl, hOg, hgJ⟩; have HX := Lib.hid (HX.out.trans (hgJ.below HX.out.size (fun b hb h => by omega))); have HTg := Lib.hid hOg.at'; clear hOg hgJ)
      go_upto_region 24 with (go_at_call 44; refine (heldThingS_o HTg.out HFu.out).mono ?_; rintro e wK ⟨rfl, hbK⟩; have HX := Lib.hid (HX.out.trans (hbK.mono HX.out.size)); have HTg := Lib.hid (HTg.out.pure hbK); clear hbK)
      have HC2 := Lib.hid (show ∀ w' : World, Below wK.heap.size wK w' → (Below wK.heap.size wK w' ∧ w'.cell? ⟨w.heap.size, 0, none⟩ = some (.int .i64 k0) ∧ w'.cell? ⟨w.heap.size, 1, none⟩ = some (.int .i64 k1) ∧ w'.cell? ⟨w.heap.size, 2, none⟩ = some (.int .i64 k2) ∧ w'.cell? ⟨w.heap.size, 3, none⟩ = some (.int .i64 k3) ∧ w'.cell? ⟨w.heap.size, 4, none⟩ = some (.int .i64 k4)) from fun w' h => ⟨h, (HC.out _ ((HBz.out.trans (HX.out.mono HBz.out.size)).trans (h.mono (HBz.out.trans (HX.out.mono HBz.out.size)).size))).2⟩)
      go_cut [14, 15] (fun s14 s15 wz => ∃ q k, s14 = .slice q us.length k ∧ s15 = .int .i64 an ∧ TabAt wz (.slice q us.length k) us ∧ Below wK.heap.size wK wz)
      case first =>
        have HBK := Lib.hid (HBA.out.trans (HX.out.mono HBA.out.size))
        first | (go_region_held3 (fun w' => Below wK.heap.size wK w' ∧ w'.cell? ⟨w.heap.size, 0, none⟩ = some (.int .i64 k0) ∧ w'.cell? ⟨w.heap.size, 1, none⟩ = some (.int .i64 k1) ∧ w'.cell? ⟨w.heap.size, 2, none⟩ = some (.int .i64 k2) ∧ w'.cell? ⟨w.heap.size, 3, none⟩ = some (.int .i64 k3) ∧ w'.cell? ⟨w.heap.size, 4, none⟩ = some (.int .i64 k4)) (first | assumption | exact HC2.out _ (Below.refl _ _) | exact HC2.out _ (Below.drew (Below.refl _ _)) | (have hX := And.left (by assumption : Below wK.heap.size wK _ ∧ _); first | exact HC2.out _ (hX.trans (hb7.mono hX.size)) | exact HC2.out _ (hX.trans (hb6.mono hX.size)) | exact HC2.out _ (hX.trans (hb5.mono hX.size)))) (first
          | (go_at_call 40; with_reducible refine (toThingS_o (HT.out.pure (HBK.out.trans ((And.left (by assumption : Below wK.heap.size wK _ ∧ _)).mono HBK.out.size))) HFt.out).mono ?_; rintro e w5 ⟨q5, c5, rfl, hO5, hb5⟩)
          | (go_at_call 41; with_reducible refine (toCall_v k0 k1 k2 k3 k4 _).mono ?_; rintro e w6 ⟨rfl, hb6⟩)
          | (go_at_call 26; with_reducible refine (callDo_v (HL0.out.pure (HBK.out.trans ((And.left (by assumption : Below wK.heap.size wK _ ∧ _)).mono HBK.out.size))) (hO5.at'.pure (by (repeat (with_reducible first | exact Below.refl _ _ | refine Below.alloc ?_ ?_ _ | refine below_drewN ?_ _ | refine Below.drew ?_ | refine Below.setCell ?_ ?_ _ | refine Below.trans ?_ (Below.mono (by assumption) ?_))) <;> (first | omega | (simp; try omega)))) Hdo.out).mono ?_; rintro e w7 ⟨q7, c7, rfl, hO7, hb7⟩))) | fail
        all_goals go_wp2
        all_goals go_meet
        all_goals exact ⟨_, _, rfl, rfl, hO7.at'.pure (by (repeat (with_reducible first | exact Below.refl _ _ | refine Below.alloc ?_ ?_ _ | refine below_drewN ?_ _ | refine Below.drew ?_ | refine Below.setCell ?_ ?_ _ | refine Below.trans ?_ (Below.mono (by assumption) ?_))) <;> (first | omega | (simp; try omega))), And.left (by assumption : Below wK.heap.size wK _ ∧ _)⟩
      case rest =>
        obtain ⟨qh, ch, rfl, rfl, hTh, hBh⟩ := hcut
        obtain ⟨wL, rfl⟩ : ∃ y : World, y = wc := ⟨_, rfl⟩
        have HTh := Lib.hid hTh
        have HTg := Lib.hid (HTg.out.pure hBh)
        have HX := Lib.hid (HX.out.trans (hBh.mono HX.out.size))
        clear hTh hBh
        go_upto_region 27 with (go_at_call 42; refine (eqThingS_s HTh.out (HT0.out.pure HX.out)).mono ?_; rintro e wM ⟨rfl, hbM⟩; have HX := Lib.hid (HX.out.trans (hbM.mono HX.out.size)); have HTg := Lib.hid (HTg.out.pure hbM); clear hbM)
        go_wp2_with (go_at_call 44; refine (heldThingS_o HTg.out HFu.out).mono ?_; rintro e wN ⟨rfl, hbN⟩; have HX := Lib.hid (HX.out.trans (hbN.mono HX.out.size)); clear hbN)
        go_ret
        exact ⟨rfl, HBA.out.trans (HX.out.mono HBA.out.size)⟩

end Go.Proofs.YtghbphdipdjekaaGreatDoor
