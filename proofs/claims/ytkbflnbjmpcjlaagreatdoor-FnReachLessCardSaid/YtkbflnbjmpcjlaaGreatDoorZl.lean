/- The law that what one can come to have does not grow, walked. Conditions: the bytes lie where their cells say; errors.errorType is laid. -/
import Derived.Test.YtkbflnbjmpcjlaaGreatDoorBl
import Derived.Test.YtkbflnbjmpcjlaaGreatDoorZc
import Derived.Deep.CutBlock
set_option linter.unusedVariables false
set_option linter.unusedSimpArgs false
namespace Go.Proofs.YtkbflnbjmpcjlaaGreatDoor
open Go.RowKit Drw
attribute [local go_sem] Lab.val Rgt.val Cal.val Thg.val

set_option maxRecDepth 100000 in
set_option maxHeartbeats 4000000 in
theorem fnReachLess_c (p : Option Addr) (n cap : Nat) (w : World) (hL : Laid w) (hc : n ≤ cap) (hb : BytesIn w p n) :
    Calls Tryz.prog 4 #[.slice p n cap] w fun e w' => e = .returned (.bool true) ∧ Below w.heap.size w w' := by
  by_cases hbig : n ≤ 1048576
  · have hle : ¬ (1048576 : Int) < (n : Int) := by omega
    have Hb := Lib.hid hb
    have HL := Lib.hid hL
    clear hb hL
    go_enter Tryz.func4, Tryz.ntmps4
    go_upto_region 4 with (go_at_call 13; refine (drawRunAll_c p n cap _ hc Hb.out (by omega)).mono ?_; rintro e w1 ⟨q, k, ts, q2, k2, cs, rfl, hT, hl3, hl8, hC, hcl, hb1⟩)
    obtain ⟨us, zs, rok, hrun⟩ : ∃ us zs rok, runAll ts cs = (us, zs, rok) := ⟨_, _, _, rfl⟩
    have Hrun := Lib.hid hrun
    have HT := Lib.hid hT
    have HC := Lib.hid hC
    have HB1 := Lib.hid hb1
    clear hrun hT hC hb1 Hb
    go_upto_region 6 with (first
      | (go_at_call 14; refine (srunAll_t HT.out HC.out Hrun.out).mono ?_; rintro e w2 ⟨pw, kw, pw2, kw2, rfl, hW, hWa, hb2⟩)
      | (go_at_call 15; refine (runAll_t (HL.out.pure (HB1.out.trans (hb2.mono HB1.out.size))) (HT.out.pure hb2) (HC.out.pure hb2) Hrun.out).mono ?_; rintro e w3 ⟨px, kx, px2, kx2, rfl, hX, hA, hb3⟩))
    have hb13 : Below w1.heap.size w1 w3 := hb2.trans (hb3.mono hb2.size)
    have hW3 := hW.pure hb3
    have hT3 := HT.out.pure hb13
    have hC3 := HC.out.pure hb13
    have hB3 := HB1.out.trans (hb13.mono HB1.out.size)
    have hL3 := HL.out.pure hB3
    have HB3 := Lib.hid hB3
    clear hW hWa hb2 hb3 hb13 HT HC HB1 hB3 HL
    cases rok
    · go_wp2_with (first
        | (go_at_call 16; refine (ldTable_s (hX.pure bel) (hW3.pure bel)).mono ?_; rintro e w4 ⟨rfl, hb4⟩; have hz4 := hb4.size)
        | (go_at_call 16; refine (ldTable_s (hX.pure bel) (hW3.pure bel)).mono ?_; rintro e w5 ⟨rfl, hb5⟩; have hz5 := hb5.size))
      go_ret
      exact ⟨rfl, HB3.out.trans (Below.mono (show Below w3.heap.size w3 _ from bel) HB3.out.size)⟩
    · go_upto_region 8 with (first
        | (go_at_call 16; refine (ldTable_s (hX.pure bel) (hW3.pure bel)).mono ?_; rintro e w4 ⟨rfl, hb4⟩; have hz4 := hb4.size))
      have hT := hT3.pure hb4
      have hC := hC3.pure hb4
      have hX := hX.pure hb4
      have hA := hA.pure hb4
      have hL := hL3.pure hb4
      have HB := Lib.hid (HB3.out.trans (hb4.mono HB3.out.size))
      clear hT3 hC3 hL3 HB3 hW3 hb4 hz4
      obtain ⟨wx, rfl⟩ : ∃ wx : World, wx = w4 := ⟨_, rfl⟩
      have hcan : runCan ts cs = true := runAll_can Hrun.out
      obtain ⟨hdo, hfine⟩ := runAll_do Hrun.out
      obtain ⟨hu, hsame, -⟩ := hfine
      have hul := hsame.len
      have h8 := (tab_iff.1 (runCan_iff.1 hcan).1).1
      have Hdo := Lib.hid hdo
      have Hcan := Lib.hid hcan
      have Htk := Lib.hid (runCan_iff.1 hcan).1
      have Hu := Lib.hid hu
      have HT := Lib.hid hT
      have HX := Lib.hid hX
      have hl8 : us.length ≤ 8 := by omega
      have Hul := Lib.hid hul
      clear hT hX hC hA hL hu hsame hdo hcan hul Hrun
      go_upto_region 9 with (first
        | (go_at_call 8; refine (reachAll_yes HT.out Htk.out).mono ?_; rintro e wa ⟨A, c, a, rfl, hI, hAt, hba⟩; have hza := hba.size; have HI := Lib.hid hI; have HA := Lib.hid hAt; have HXa := Lib.hid (HX.out.pure hba); have HBa := Lib.hid (HB.out.trans (hba.mono HB.out.size)); have Hac := Lib.hid hI.len; clear hI hAt hba))
      go_wp2_with (first
        | (go_at_call 8; refine (reachAll_yes HXa.out Hu.out).mono ?_; rintro e wc ⟨A2, c2, a2, rfl, hI, hAt, hbc⟩; have hzc := hbc.size; have HI2 := Lib.hid hI; have HA2 := Lib.hid hAt; have HAc := Lib.hid (HA.out.pure hbc); have HBc := Lib.hid (HBa.out.trans (hbc.mono HBa.out.size)); have Hac2 := Lib.hid hI.len; clear hI hAt hbc))
      go_loopw [13] (fun s13 wr => ∃ i : Nat, s13 = .int .i64 (i : Int) ∧ i ≤ a2.length ∧ Below wc.heap.size wc wr) (fun s13 _ => a2.length - (intOf s13).toNat)
      case atStart => exact ⟨0, rfl, by omega, Below.refl _ _⟩
      case round =>
        obtain ⟨i, rfl, hi, hB⟩ := hrel
        obtain ⟨wi, rfl⟩ : ∃ y : World, y = wr := ⟨_, rfl⟩
        have HBi := Lib.hid hB
        have hzi := hB.size
        by_cases hlt : i < a2.length
        · have hi0 : (0 : Int) ≤ (i : Int) := by omega
          have hin : (i : Int) < (a2.length : Int) := by omega
          have hit : i < ts.length := by have := Hul.out; have := Hac2.out; omega
          have hiu : i < us.length := by have := Hac2.out; omega
          have hiN : i < a.length := by have := Hac.out; omega
          have hia : (i : Int) < (a.length : Int) := by omega
          obtain ⟨qa, ca, g0, hG, hg1, hg2⟩ := all_at (HAc.out.pure hB) hiN
          obtain ⟨qb, cb, k0, hK, hk1, hk2⟩ := all_at (HA2.out.pure hB) hlt
          obtain ⟨l, hl⟩ : ∃ l, rowA a i = l := ⟨_, rfl⟩
          obtain ⟨l2, hl2⟩ : ∃ l, rowA a2 i = l := ⟨_, rfl⟩
          rw [hl] at g0 hG hg1
          rw [hl2] at k0 hK hk1
          have hll : l.length ≤ 384 := by rw [← hl]; exact reach_row_len Htk.out HI.out i hit
          have hll2 : l2.length ≤ 384 := by rw [← hl2]; exact reach_row_len Hu.out HI2.out i hiu
          unfold maxLen at hk2 hg2
          have HL := Lib.hid hl
          have HL2 := Lib.hid hl2
          have HK2 := Lib.hid hK
          have HG := Lib.hid hG
          have HC := Lib.hid (show ∀ w' : World, Below wi.heap.size wi w' → (w'.cell? ⟨A2, i, none⟩ = some (.slice qb l2.length cb) ∧ w'.cell? ⟨A, i, none⟩ = some (.slice qa l.length ca)) from fun w' h => ⟨(h.cell (cell_lt k0)).trans k0, (h.cell (cell_lt g0)).trans g0⟩)
          clear hl hl2 hK hG k0 g0 hB
          go_wp2
          go_loopw [14] (fun s14 wr => ∃ m : Nat, s14 = .int .i64 (m : Int) ∧ m ≤ l2.length ∧ Below wi.heap.size wi wr) (fun s14 _ => l2.length - (intOf s14).toNat)
          case atStart => exact ⟨0, rfl, by omega, Below.refl _ _⟩
          case round =>
            obtain ⟨m, rfl, hm, hB⟩ := hrel
            have HBm := Lib.hid hB
            have hzm := hB.size
            obtain ⟨c5, g0⟩ := HC.out _ hB
            by_cases hlt2 : m < l2.length
            · have hm0 : (0 : Int) ≤ (m : Int) := by omega
              have hmn : (m : Int) < (l2.length : Int) := by omega
              obtain ⟨x, hx⟩ : ∃ x, l2[m]? = some x := ⟨_, List.getElem?_eq_getElem hlt2⟩
              obtain ⟨sb, so, rfl, hsb, y0, y1, y2, y3, y4⟩ := (HK2.out.pure hB).at m x hx
              have hxm : x ∈ rowA a2 i := by rw [HL2.out]; exact List.mem_of_getElem? hx
              have hxok := (HI2.out.okR Hu.out hiu hxm).1
              have Hcov := Lib.hid (run_covG Hcan.out Hdo.out HI.out hit (HI2.out.got hiu hxm) hxok)
              have Hxok := Lib.hid hxok
              have HRow := Lib.hid (HI.out.rowOk Htk.out hit)
              rw [HL.out] at Hcov HRow
              clear hx hB hxm hxok
              obtain ⟨x0, x1, x2, x3, x4⟩ := x
              dsimp only at y0 y1 y2 y3 y4
              go_upto_region 16 with (fail)
              have hc5l := cell_lt c5
              have hg0l := cell_lt g0
              have HK := Lib.hid (show ∀ w' : World, Below wr.heap.size wr w' → (Below wr.heap.size wr w' ∧ w'.cell? ⟨A2, i, none⟩ = some (.slice (some ⟨sb, so, none⟩) l2.length cb) ∧ w'.cell? ⟨A, i, none⟩ = some (.slice qa l.length ca) ∧ w'.cell? ⟨sb, so + m * 5, none⟩ = some (.int .i64 x0) ∧ w'.cell? ⟨sb, so + m * 5 + 1, none⟩ = some (.int .i64 x1) ∧ w'.cell? ⟨sb, so + m * 5 + 2, none⟩ = some (.bool x2) ∧ w'.cell? ⟨sb, so + m * 5 + 3, none⟩ = some (.bool x3) ∧ w'.cell? ⟨sb, so + m * 5 + 4, none⟩ = some (.bool x4)) from fun w' h =>
                ⟨h, (h.cell hc5l).trans c5, (h.cell hg0l).trans g0, (h.cell hsb).trans y0, (h.cell hsb).trans y1, (h.cell hsb).trans y2, (h.cell hsb).trans y3, (h.cell hsb).trans y4⟩)
              clear c5 g0 y0 y1 y2 y3 y4
              go_cut [103] (fun s103 wz => s103 = .bool false ∧ Below wr.heap.size wr wz)
              case first =>
                first | (go_region_held3 (fun w' => Below wr.heap.size wr w' ∧ w'.cell? ⟨A2, i, none⟩ = some (.slice (some ⟨sb, so, none⟩) l2.length cb) ∧ w'.cell? ⟨A, i, none⟩ = some (.slice qa l.length ca) ∧ w'.cell? ⟨sb, so + m * 5, none⟩ = some (.int .i64 x0) ∧ w'.cell? ⟨sb, so + m * 5 + 1, none⟩ = some (.int .i64 x1) ∧ w'.cell? ⟨sb, so + m * 5 + 2, none⟩ = some (.bool x2) ∧ w'.cell? ⟨sb, so + m * 5 + 3, none⟩ = some (.bool x3) ∧ w'.cell? ⟨sb, so + m * 5 + 4, none⟩ = some (.bool x4)) (first | assumption | exact HK.out _ (Below.refl _ _) | exact HK.out _ (Below.drew (Below.refl _ _)) | (have hX := And.left (by assumption : Below wr.heap.size wr _ ∧ _); exact HK.out _ (hX.trans (hb5.mono hX.size)))) (first | (go_at_call 17; with_reducible refine (reachIn_u ((HG.out.pure HBm.out).pure (And.left (by assumption : Below wr.heap.size wr _ ∧ _))) HRow.out Hxok.out Hcov.out).mono ?_; rintro e w5 ⟨rfl, hb5⟩))) | fail
                all_goals go_wp2
                all_goals go_meet
                all_goals exact ⟨rfl, And.left (by assumption : Below wr.heap.size wr _ ∧ _)⟩
              case rest =>
                obtain ⟨rfl, hBz⟩ := hcut
                have HBz := Lib.hid (HBm.out.trans (hBz.mono hzm))
                clear hBz
                go_wp2
                exact ⟨⟨m + 1, by go_num, by omega, HBz.out⟩, by simp [intOf]; omega⟩
            · have hmn : ¬ (m : Int) < (l2.length : Int) := by omega
              clear hB
              go_wp2
              exact ⟨⟨i + 1, by go_num, by omega, HBi.out.trans (HBm.out.mono hzi)⟩, by simp [intOf]; omega⟩
        · have hin : ¬ (i : Int) < (a2.length : Int) := by omega
          have heq : ((a2.length : Int) == (a.length : Int)) = true := by have := Hac.out; have := Hac2.out; have := Hul.out; simp; omega
          clear hB
          go_wp2
          go_ret
          exact ⟨rfl, HBc.out.trans (HBi.out.mono HBc.out.size)⟩
  · have hgt : (1048576 : Int) < (n : Int) := by omega
    clear hbig hb hL
    go_enter Tryz.func4, Tryz.ntmps4
    go_wp2
    go_ret
    exact ⟨rfl, bel⟩
end Go.Proofs.YtkbflnbjmpcjlaaGreatDoor
