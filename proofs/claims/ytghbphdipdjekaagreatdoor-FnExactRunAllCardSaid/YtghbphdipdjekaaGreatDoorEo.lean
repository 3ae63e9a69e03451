/- The law that the program's RunAll returns what the reference's returns, and shares no memory, walked. Conditions: the things and the calls lie where their cells say; errors.errorType is laid. -/
import Derived.Test.YtghbphdipdjekaaGreatDoorOi
set_option linter.unusedVariables false
set_option linter.unusedSimpArgs false
namespace Go.Proofs.YtghbphdipdjekaaGreatDoor
open Go.RowKit Drw
attribute [local go_sem] Lab.val Rgt.val Cal.val Thg.val

set_option maxRecDepth 100000 in
set_option maxHeartbeats 8000000 in
theorem fnExactRunAll_c {p : Option Addr} {cap : Nat} {ts : List Thg} {pc : Option Addr} {cc : Nat} {cs : List Cal} (w : World) (hL : Laid w) (hT : TabAt w (.slice p ts.length cap) ts) (hC : CalsAt w (.slice pc cs.length cc) cs) :
    Calls Tryz.prog 15 #[.slice p ts.length cap, .slice pc cs.length cc] w fun e w' => e = .returned (.bool true) ∧ Below w.heap.size w w' := by
  obtain ⟨_, _, h1, hl1, hl2⟩ := hT.len
  cases h1
  obtain ⟨_, _, h2, hl3, hl4⟩ := hC.len
  cases h2
  unfold maxLen at hl2 hl4
  obtain ⟨us, zs, rok, hdo⟩ : ∃ us zs rok, runAll ts cs = (us, zs, rok) := ⟨_, _, _, rfl⟩
  have hzl := (run_fits hdo).2
  have HFu := Lib.hid (run_fits hdo).1
  have Hdo := Lib.hid hdo
  have HL0 := Lib.hid hL
  have HT := Lib.hid hT
  have HC := Lib.hid hC
  clear hT hL hC hdo
  go_enter Tryz.func15, Tryz.ntmps15
  go_upto_region 3 with (go_at_call 38; refine (szThingS_c (HT.out.pure (by (repeat (with_reducible first | exact Below.refl _ _ | refine Below.alloc ?_ ?_ _ | refine below_drewN ?_ _ | refine Below.drew ?_ | refine Below.setCell ?_ ?_ _ | refine Below.trans ?_ (Below.mono (by assumption) ?_))) <;> (first | omega | (simp; try omega))))).mono ?_; rintro e w1 ⟨r, rfl, hr, hF, hb1⟩; have HF := Lib.hid hF; have HB1 := Lib.hid (show Below w.heap.size w w1 from (by (repeat (with_reducible first | exact Below.refl _ _ | refine Below.alloc ?_ ?_ _ | refine below_drewN ?_ _ | refine Below.drew ?_ | refine Below.setCell ?_ ?_ _ | refine Below.trans ?_ (Below.mono (by assumption) ?_))) <;> (first | omega | (simp; try omega)))); clear hF hb1)
  by_cases hneg : r < 0
  · go_wp2
    go_ret
    exact ⟨rfl, HB1.out⟩
  · have HFt := Lib.hid (HF.out (by omega))
    go_upto_region 6 with (go_at_call 48; refine (szCallS_c _ cs r _ (HC.out.pure HB1.out) (by omega) hr).mono ?_; rintro e w2 ⟨r2, rfl, hr2, hF2, hb2⟩; have HF2 := Lib.hid hF2; have HB2 := Lib.hid (HB1.out.trans (hb2.mono HB1.out.size)); clear hF2 hb2)
    by_cases hneg2 : r2 < 0
    · go_wp2
      go_ret
      exact ⟨rfl, HB2.out⟩
    · have hcl : cs.length ≤ 1048576 := HF2.out (by omega)
      go_upto_region 9 with (first
        | (go_at_call 40; refine (toThingS_o (HT.out.pure HB2.out) HFt.out).mono ?_; rintro e w3 ⟨q3, c3, rfl, hO3, hb3⟩; have HT3 := Lib.hid hO3.at'; have HB3 := Lib.hid (HB2.out.trans (hb3.mono HB2.out.size)); clear hO3 hb3)
        | (go_at_call 49; refine (toCallS_o (HC.out.pure HB3.out) hcl).mono ?_; rintro e w4 ⟨q4, c4, rfl, hO4, hb4⟩; have HT4 := Lib.hid (HT3.out.pure hb4); have HC4 := Lib.hid hO4.1; have HB4 := Lib.hid (HB3.out.trans (hb4.mono HB3.out.size)); clear hO4 hb4)
        | (go_at_call 24; refine (srunAll_v HT4.out HC4.out Hdo.out).mono ?_; rintro e wA ⟨q5, c5, q6, c6, rfl, hT5, hI5, hb5⟩; have HT0 := Lib.hid hT5; have HI0 := Lib.hid hI5; have HBA := Lib.hid (HB4.out.trans (hb5.mono HB4.out.size)); clear hT5 hI5 hb5))
      have HX := Lib.hid (Below.refl wA.heap.size wA)
      go_upto_region 10 with (go_at_call 40; refine (toThingS_o (HT.out.pure HBA.out) HFt.out).mono ?_; rintro e wB ⟨qx, cx, rfl, hOx, hbB⟩; have HOx := Lib.hid hOx; have HX := Lib.hid hbB; have hsB := hbB.size; clear hOx hbB)
      go_upto_region 11 with (go_at_call 49; refine (toCallS_o (HC.out.pure (HBA.out.trans (HX.out.mono HBA.out.size))) hcl).mono ?_; rintro e wC ⟨qy, cy, rfl, hOy, hbC⟩; have HOy := Lib.hid hOy; have HOx := Lib.hid (HOx.out.pure hbC); have HX := Lib.hid (HX.out.trans (hbC.mono HX.out.size)); have hsC := hbC.size; clear hOy hbC)
      go_upto_region 12 with (go_at_call 21; refine (runAll_v (HL0.out.pure (HBA.out.trans (HX.out.mono HBA.out.size))) HOx.out.at' HOy.out.1 Hdo.out).mono ?_; rintro e wD ⟨qg, cg, qh, ch, rfl, hOg, hOh, hbD⟩; have HOx := Lib.hid (HOx.out.pure hbD); have HOy := Lib.hid (HOy.out.pure hbD); have HX := Lib.hid (HX.out.trans (hbD.mono HX.out.size)); have HOg := Lib.hid hOg; have HOh := Lib.hid hOh; clear hbD hOg hOh)
      go_upto_region 14 with (first
        | (go_at_call 42; refine (eqThingS_s HOg.out.at' (HT0.out.pure HX.out)).mono ?_; rintro e wE ⟨rfl, hbE⟩; have HOx := Lib.hid (HOx.out.pure hbE); have HOy := Lib.hid (HOy.out.pure hbE); have HX := Lib.hid (HX.out.trans (hbE.mono HX.out.size)); have HOg := Lib.hid (HOg.out.pure hbE); have HOh := Lib.hid (HOh.out.pure hbE); clear hbE)
        | (go_at_call 45; refine (eqIntS_s zs _ _ _ HOh.out.1 (HI0.out.pure HX.out)).mono ?_; rintro e wE2 ⟨rfl, hbE⟩; have HOx := Lib.hid (HOx.out.pure hbE); have HOy := Lib.hid (HOy.out.pure hbE); have HX := Lib.hid (HX.out.trans (hbE.mono HX.out.size)); have HOg := Lib.hid (HOg.out.pure hbE); have HOh := Lib.hid (HOh.out.pure hbE); clear hbE))
      go_upto_region 16 with (first
        | (go_at_call 40; refine (toThingS_o (HT.out.pure (HBA.out.trans (HX.out.mono HBA.out.size))) HFt.out).mono ?_; rintro e wF ⟨qf, cf, rfl, hOf, hbF⟩; have HTf := Lib.hid hOf.at'; have HOx := Lib.hid (HOx.out.pure hbF); have HOy := Lib.hid (HOy.out.pure hbF); have HX := Lib.hid (HX.out.trans (hbF.mono HX.out.size)); have HOg := Lib.hid (HOg.out.pure hbF); have HOh := Lib.hid (HOh.out.pure hbF); clear hOf hbF)
        | (go_at_call 42; refine (eqThingS_s HOx.out.at' HTf.out).mono ?_; rintro e wG ⟨rfl, hbG⟩; have HOx := Lib.hid (HOx.out.pure hbG); have HOy := Lib.hid (HOy.out.pure hbG); have HX := Lib.hid (HX.out.trans (hbG.mono HX.out.size)); have HOg := Lib.hid (HOg.out.pure hbG); have HOh := Lib.hid (HOh.out.pure hbG); clear hbG))
      go_upto_region 19 with (first
        | (go_at_call 49; refine (toCallS_o (HC.out.pure (HBA.out.trans (HX.out.mono HBA.out.size))) hcl).mono ?_; rintro e wF2 ⟨qf2, cf2, rfl, hOf, hbF⟩; have HCf := Lib.hid hOf.1; have HOx := Lib.hid (HOx.out.pure hbF); have HOy := Lib.hid (HOy.out.pure hbF); have HX := Lib.hid (HX.out.trans (hbF.mono HX.out.size)); have HOg := Lib.hid (HOg.out.pure hbF); have HOh := Lib.hid (HOh.out.pure hbF); clear hOf hbF)
        | (go_at_call 50; refine (eqCallS_s cs _ _ _ HOy.out.1 HCf.out).mono ?_; rintro e wG2 ⟨rfl, hbG⟩; have HOx := Lib.hid (HOx.out.pure hbG); have HOy := Lib.hid (HOy.out.pure hbG); have HX := Lib.hid (HX.out.trans (hbG.mono HX.out.size)); have HOg := Lib.hid (HOg.out.pure hbG); have HOh := Lib.hid (HOh.out.pure hbG); clear hbG))
      have hkt0 := nxTs_bd ts 1 HFt.out.2
      have hku0 := nxTs_bd us 1 HFu.out.2
      have hktl := HFt.out.1
      have hkul := HFu.out.1
      have n1 : ¬ nxTs 1 ts + 5 * (cs.length : Int) < 0 := by omega
      have n2 : ¬ nxTs 1 us < 0 := by omega
      have n3 : ¬ nxTs 1 us + (zs.length : Int) < 0 := by omega
      go_upto_region 20 with (go_at_call 43; refine (markThingS_o HOx.out HFt.out).mono ?_; rintro e wH ⟨rfl, hOx, hgH⟩; have HX := Lib.hid (HX.out.trans (hgH.below HX.out.size (fun b hb h => by have := h.1; omega))); have HOy := Lib.hid (HOy.out.chgB hgH (fun b h1 h2 _ h => by have := h.1; omega)); have HOg := Lib.hid (HOg.out.chg hgH (fun b h1 h2 _ h => by have := h.1; omega)); have HOh := Lib.hid (HOh.out.chgB hgH (fun b h1 h2 _ h => by have := h.1; omega)); clear hOx hgH)
      go_upto_region 21 with (go_at_call 51; refine (markCallS_o HOy.out (by omega) (by omega) hcl).mono ?_; rintro e wH2 ⟨rfl, hgH⟩; have HX := Lib.hid (HX.out.trans (hgH.below HX.out.size (fun b hb h => by omega))); have HOg := Lib.hid (HOg.out.chg hgH (fun b h1 h2 _ h => by omega)); have HOh := Lib.hid (HOh.out.chgB hgH (fun b h1 h2 _ h => by omega)); clear hgH)
      go_upto_region 24 with (first
        | (go_at_call 42; refine (eqThingS_s HOg.out.at' (HT0.out.pure HX.out)).mono ?_; rintro e wI ⟨rfl, hbI⟩; have HX := Lib.hid (HX.out.trans (hbI.mono HX.out.size)); have HOg := Lib.hid (HOg.out.pure hbI); have HOh := Lib.hid (HOh.out.pure hbI); clear hbI)
        | (go_at_call 45; refine (eqIntS_s zs _ _ _ HOh.out.1 (HI0.out.pure HX.out)).mono ?_; rintro e wI2 ⟨rfl, hbI⟩; have HX := Lib.hid (HX.out.trans (hbI.mono HX.out.size)); have HOg := Lib.hid (HOg.out.pure hbI); have HOh := Lib.hid (HOh.out.pure hbI); clear hbI))
      go_upto_region 25 with (go_at_call 43; refine (markThingS_o HOg.out HFu.out).mono ?_; rintro e wJ ⟨rfl, hOg, hgJ⟩; have HX := Lib.hid (HX.out.trans (hgJ.below HX.out.size (fun b hb h => by have := h.1; omega))); have HOg := Lib.hid hOg; have HOh := Lib.hid (HOh.out.chgB hgJ (fun b h1 h2 h3 h => h.2 h3)); clear hOg hgJ)
      go_upto_region 27 with (go_at_call 46; refine (markIntS_o HOh.out (by omega) (by omega) (by omega)).mono ?_; rintro e wJ2 ⟨rfl, hIh, hgJ⟩; have HX := Lib.hid (HX.out.trans (hgJ.below HX.out.size (fun b hb h => by have := h.1; omega))); have HTg := Lib.hid (HOg.out.chg hgJ (fun b h1 h2 h3 h => h3 h.2)).at'; have HIh := Lib.hid hIh; clear hIh hgJ)
      go_upto_region 30 with (go_at_call 44; refine (heldThingS_o HTg.out HFu.out).mono ?_; rintro e wK ⟨rfl, hbK⟩; have HX := Lib.hid (HX.out.trans (hbK.mono HX.out.size)); have HTg := Lib.hid (HTg.out.pure hbK); have HIh := Lib.hid (HIh.out.pure hbK); clear hbK)
      go_upto_region 35 with (go_at_call 47; refine (heldIntS_c zs.length _ _ HIh.out (by omega) (by omega) (by omega)).mono ?_; rintro e wK2 ⟨rfl, hbK⟩; have HX := Lib.hid (HX.out.trans (hbK.mono HX.out.size)); have HTg := Lib.hid (HTg.out.pure hbK); have HIh := Lib.hid (HIh.out.pure hbK); clear hbK)
      go_upto_region 36 with (first
        | (go_at_call 40; refine (toThingS_o (HT.out.pure (HBA.out.trans (HX.out.mono HBA.out.size))) HFt.out).mono ?_; rintro e wL ⟨ql, cl, rfl, hOl, hbL⟩; have HTl := Lib.hid hOl.at'; have HTg := Lib.hid (HTg.out.pure hbL); have HIh := Lib.hid (HIh.out.pure hbL); have HX := Lib.hid (HX.out.trans (hbL.mono HX.out.size)); clear hOl hbL)
        | (go_at_call 49; refine (toCallS_o (HC.out.pure (HBA.out.trans (HX.out.mono HBA.out.size))) hcl).mono ?_; rintro e wL2 ⟨ql2, cl2, rfl, hOl, hbL⟩; have HTl := Lib.hid (HTl.out.pure hbL); have HCl := Lib.hid hOl.1; have HTg := Lib.hid (HTg.out.pure hbL); have HIh := Lib.hid (HIh.out.pure hbL); have HX := Lib.hid (HX.out.trans (hbL.mono HX.out.size)); clear hOl hbL)
        | (go_at_call 21; refine (runAll_v (HL0.out.pure (HBA.out.trans (HX.out.mono HBA.out.size))) HTl.out HCl.out Hdo.out).mono ?_; rintro e wM ⟨qm, cm, qn, cn, rfl, hOm, hOn, hbM⟩; have HTm := Lib.hid hOm.at'; have HIn := Lib.hid hOn.1; have HTg := Lib.hid (HTg.out.pure hbM); have HIh := Lib.hid (HIh.out.pure hbM); have HX := Lib.hid (HX.out.trans (hbM.mono HX.out.size)); clear hOm hOn hbM))
      go_upto_region 39 with (first
        | (go_at_call 42; refine (eqThingS_s HTm.out (HT0.out.pure HX.out)).mono ?_; rintro e wN ⟨rfl, hbN⟩; have HX := Lib.hid (HX.out.trans (hbN.mono HX.out.size)); have HTg := Lib.hid (HTg.out.pure hbN); have HIh := Lib.hid (HIh.out.pure hbN); have HIn := Lib.hid (Drw.Rows.pure HIn.out hbN); clear hbN)
        | (go_at_call 45; refine (eqIntS_s zs _ _ _ HIn.out (HI0.out.pure HX.out)).mono ?_; rintro e wN2 ⟨rfl, hbN⟩; have HX := Lib.hid (HX.out.trans (hbN.mono HX.out.size)); have HTg := Lib.hid (HTg.out.pure hbN); have HIh := Lib.hid (HIh.out.pure hbN); clear hbN))
      go_upto_region 42 with (go_at_call 44; refine (heldThingS_o HTg.out HFu.out).mono ?_; rintro e wO ⟨rfl, hbO⟩; have HX := Lib.hid (HX.out.trans (hbO.mono HX.out.size)); have HIh := Lib.hid (HIh.out.pure hbO); clear hbO)
      go_wp2_with (go_at_call 47; refine (heldIntS_c zs.length _ _ HIh.out (by omega) (by omega) (by omega)).mono ?_; rintro e wP ⟨rfl, hbP⟩; have HX := Lib.hid (HX.out.trans (hbP.mono HX.out.size)); clear hbP)
      go_ret
      exact ⟨rfl, HBA.out.trans (HX.out.mono HBA.out.size)⟩

end Go.Proofs.YtghbphdipdjekaaGreatDoor
