/- The law that rights are told in one order, walked. Conditions: the bytes lie where their cells say; errors.errorType is laid. -/
import Derived.Test.YtkbflnbjmpcjlaaGreatDoorBl
import Derived.Test.YtkbflnbjmpcjlaaGreatDoorZp
import Derived.Test.YtkbflnbjmpcjlaaGreatDoorQa
import Derived.Deep.CutBlock
set_option linter.unusedVariables false
set_option linter.unusedSimpArgs false
namespace Go.Proofs.YtkbflnbjmpcjlaaGreatDoor
open Go.RowKit Drw
attribute [local go_sem] Lab.val Rgt.val Cal.val Thg.val

theorem below_t {x0 x1 : Int} {x2 x3 x4 : Bool} {t : ByteArray} {w : World} (h : rgtOk ⟨x0, x1, x2, x3, x4⟩ = true) (h0 : ¬ x0 = 0) (ht : bs (rgtTxt ⟨x0, x1, x2, x3, x4⟩) = t) :
    Calls Tryz.prog 11 #[.agg #[.int .i64 x0, .int .i64 x1, .bool x2, .bool x3, .bool x4]] w fun e w' => e = .returned (.string t) ∧ Below w.heap.size w w' := (irightText_v h h0 ht).mono fun _ _ h => ⟨h.1, h.2.below⟩

set_option maxRecDepth 100000 in
set_option maxHeartbeats 4000000 in
theorem fnReachOrder_c (p : Option Addr) (n cap : Nat) (p2 : Option Addr) (n2 cap2 : Nat) (w : World) (hL : Laid w) (hc : n ≤ cap) (hb : BytesIn w p n) :
    Calls Tryz.prog 3 #[.slice p n cap, .slice p2 n2 cap2] w fun e w' => e = .returned (.bool true) ∧ Below w.heap.size w w' := by
  by_cases hbig : n ≤ 1048576 ∧ n2 ≤ 1048576
  · have hle : ¬ (1048576 : Int) < (n : Int) := by omega
    have hle2 : ¬ (1048576 : Int) < (n2 : Int) := by omega
    have hle3 : (n : Int) ≤ 1048576 := by omega
    have hle4 : (n2 : Int) ≤ 1048576 := by omega
    have Hb := Lib.hid hb
    have HL0 := Lib.hid hL
    clear hL
    clear hb
    go_enter Tryz.func3, Tryz.ntmps3
    go_upto_region 4 with (go_at_call 7; refine (drawReachAll_c p n cap _ hc Hb.out (by omega)).mono ?_; rintro e w1 ⟨q, k, ts, rfl, hT, hl3, hl8, hb1⟩)
    obtain ⟨tk, htk⟩ : ∃ b, tabOk ts = b := ⟨_, rfl⟩
    have Htk := Lib.hid htk
    have HT := Lib.hid hT
    have HB1 := Lib.hid hb1
    clear htk hT hb1 Hb
    cases tk
    · have hund : undef = Value.tuple #[] := rfl
      go_wp2_with (first
        | (go_at_call 8; refine (reachAll_no HT.out Htk.out).mono ?_; rintro e w2 ⟨q2, rfl, hb2⟩; have hz2 := hb2.size)
        | (go_at_call 9; refine (sreachAll_no (HT.out.pure hb2) Htk.out).mono ?_; rintro e w3 ⟨q3, rfl, hb3⟩; have hz3 := hb3.size)
        | (go_at_call 10; refine (stableOk_u (HT.out.pure (hb2.trans (hb3.mono hz2))) Htk.out).mono ?_; rintro e w4 ⟨rfl, hb4⟩; have hz4 := hb4.size))
      go_ret
      exact ⟨rfl, HB1.out.trans (Below.mono (show Below w1.heap.size w1 _ from hb2.trans ((hb3.trans (hb4.mono hz3)).mono hz2)) HB1.out.size)⟩
    · go_upto_region 6 with (first
        | (go_at_call 8; refine (reachAll_yes HT.out Htk.out).mono ?_; rintro e w2 ⟨A, c, a, rfl, hI, hA2, hb2⟩; have hz2 := hb2.size)
        | (go_at_call 9; refine (sreachAll_yes (HT.out.pure hb2) Htk.out).mono ?_; rintro e w3 ⟨A3, c3, a3, rfl, hI3, -, hb3⟩; have hz3 := hb3.size))
      obtain rfl : a3 = a := hI3.eq hI
      have hb13 : Below w1.heap.size w1 w3 := hb2.trans (hb3.mono hz2)
      have HT3 := Lib.hid (HT.out.pure hb13)
      have HA3 := Lib.hid (hA2.pure hb3)
      have HB3 := Lib.hid (HB1.out.trans (hb13.mono HB1.out.size))
      have HI := Lib.hid hI
      have hac := hI.len
      clear hI hI3 hA2 hb2 hb3 hb13 HT HB1
      go_upto_region 8 with (first
        | (go_at_call 10; refine (stableOk_u HT3.out Htk.out).mono ?_; rintro e wx ⟨rfl, hb4⟩; have hz4 := hb4.size))
      have hT := HT3.out.pure hb4
      have hA := HA3.out.pure hb4
      have HB := Lib.hid (HB3.out.trans (hb4.mono HB3.out.size))
      clear HT3 HA3 HB3 hb4 hz4 hz2 hz3
      have HT := Lib.hid hT
      have HA := Lib.hid hA
      clear hT hA
      go_wp2
      go_loopw [8] (fun s8 wr => ∃ i : Nat, s8 = .int .i64 (i : Int) ∧ i ≤ a3.length ∧ Below wx.heap.size wx wr) (fun s8 _ => a3.length - (intOf s8).toNat)
      case atStart => exact ⟨0, rfl, by omega, Below.refl _ _⟩
      case round =>
        obtain ⟨i, rfl, hi, hB⟩ := hrel
        obtain ⟨wi, rfl⟩ : ∃ y : World, y = wr := ⟨_, rfl⟩
        have HAi := Lib.hid (HA.out.pure hB)
        have HBi := Lib.hid hB
        have hzi := hB.size
        clear hB
        by_cases hlt : i < a3.length
        · have hi0 : (0 : Int) ≤ (i : Int) := by omega
          have hin : (i : Int) < (a3.length : Int) := by omega
          have hit : i < ts.length := by omega
          obtain ⟨qa, ca, g0, hG, hg1, hg2⟩ := all_at HAi.out hlt
          obtain ⟨l, hl⟩ : ∃ l, rowA a3 i = l := ⟨_, rfl⟩
          rw [hl] at g0 hG hg1
          have hll : l.length ≤ 384 := by rw [← hl]; exact reach_row_len Htk.out HI.out i hit
          unfold maxLen at hg2
          have HL := Lib.hid hl
          have HG := Lib.hid hG
          have HC := Lib.hid (show ∀ w' : World, Below wi.heap.size wi w' → w'.cell? ⟨A, i, none⟩ = some (.slice qa l.length ca) from fun w' h => (h.cell (cell_lt g0)).trans g0)
          clear hl hG g0
          go_wp2
          go_loopw [9] (fun s9 wr => ∃ m : Nat, s9 = .int .i64 ((m : Int) + 1) ∧ m ≤ l.length ∧ Below wi.heap.size wi wr) (fun s9 _ => l.length + 2 - (intOf s9).toNat)
          case atStart => exact ⟨0, rfl, by omega, Below.refl _ _⟩
          case round =>
            obtain ⟨m, rfl, hm, hB⟩ := hrel
            have HBm := Lib.hid hB
            have hzm := hB.size
            have g0 := HC.out _ hB
            have hw3 : IntKind.i64.wrap ((m : Int) + 1 + 1) = (m : Int) + 1 + 1 := IntWalk.i64_in _ (by omega)
            by_cases hlt2 : m + 1 < l.length
            · have hm0 : (0 : Int) ≤ (m : Int) := by omega
              have hm1 : (0 : Int) ≤ (m : Int) + 1 := by omega
              have hmn : (m : Int) + 1 < (l.length : Int) := by omega
              have hmn' : (m : Int) < (l.length : Int) := by omega
              have hw1 : IntKind.i64.wrap ((m : Int) + 1 - 1) = (m : Int) := by rw [show (m : Int) + 1 - 1 = m by omega]; exact IntWalk.i64_in _ (by omega)
              have hw2 : IntKind.i64.wrap (m : Int) = (m : Int) := IntWalk.i64_in _ (by omega)
              have htn : ((m : Int) + 1).toNat = m + 1 := by omega
              obtain ⟨x, hx⟩ : ∃ x, l[m]? = some x := ⟨_, List.getElem?_eq_getElem (by omega)⟩
              obtain ⟨y, hy⟩ : ∃ y, l[m + 1]? = some y := ⟨_, List.getElem?_eq_getElem hlt2⟩
              obtain ⟨sb, so, rfl, hsb, y0, y1, y2, y3, y4⟩ := (HG.out.pure hB).at m x hx
              obtain ⟨sb', so', e', -, z0, z1, z2, z3, z4⟩ := (HG.out.pure hB).at (m + 1) y hy
              cases e'
              have hxm : x ∈ rowA a3 i := by rw [HL.out]; exact List.mem_of_getElem? hx
              have hym : y ∈ rowA a3 i := by rw [HL.out]; exact List.mem_of_getElem? hy
              have hxo := HI.out.okR Htk.out hit hxm
              have hyo := HI.out.okR Htk.out hit hym
              obtain ⟨s, hs⟩ : ∃ s, bs (rgtTxt x) = s := ⟨_, rfl⟩
              obtain ⟨t, ht⟩ : ∃ t, bs (rgtTxt y) = t := ⟨_, rfl⟩
              have hkey : key x < key y := by
                have ho := HI.out.ord i
                rw [HL.out] at ho
                have e1 : l[m]'(by omega) = x := by simpa using (List.getElem?_eq_some_iff.1 hx).2
                have e2 : l[m + 1]'hlt2 = y := by simpa using (List.getElem?_eq_some_iff.1 hy).2
                have := List.pairwise_iff_getElem.1 ho m (m + 1) (by omega) hlt2 (by omega)
                rwa [e1, e2] at this
              have hless : Op.bytesLess s.toList t.toList = true := by rw [← hs, ← ht, bs_toList, bs_toList, txt_lt hxo.1 hyo.1 hxo.2 hyo.2]; simpa using hkey
              have Hxo := Lib.hid hxo
              have Hyo := Lib.hid hyo
              have Hs := Lib.hid hs
              have Ht := Lib.hid ht
              clear hx hy hB hxm hym hxo hyo hs ht hkey
              obtain ⟨x0, x1, x2, x3, x4⟩ := x
              obtain ⟨w0, w1', w2, w3, w4⟩ := y
              dsimp only at y0 y1 y2 y3 y4 z0 z1 z2 z3 z4
              go_upto_region 14 with (fail)
              have hg0l := cell_lt g0
              have HK := Lib.hid (show ∀ w' : World, Below wr.heap.size wr w' → (Below wr.heap.size wr w' ∧ w'.cell? ⟨A, i, none⟩ = some (.slice (some ⟨sb, so, none⟩) l.length ca) ∧ w'.cell? ⟨sb, so + m * 5, none⟩ = some (.int .i64 x0) ∧ w'.cell? ⟨sb, so + m * 5 + 1, none⟩ = some (.int .i64 x1) ∧ w'.cell? ⟨sb, so + m * 5 + 2, none⟩ = some (.bool x2) ∧ w'.cell? ⟨sb, so + m * 5 + 3, none⟩ = some (.bool x3) ∧ w'.cell? ⟨sb, so + m * 5 + 4, none⟩ = some (.bool x4) ∧ w'.cell? ⟨sb, so + (m + 1) * 5, none⟩ = some (.int .i64 w0) ∧ w'.cell? ⟨sb, so + (m + 1) * 5 + 1, none⟩ = some (.int .i64 w1') ∧ w'.cell? ⟨sb, so + (m + 1) * 5 + 2, none⟩ = some (.bool w2) ∧ w'.cell? ⟨sb, so + (m + 1) * 5 + 3, none⟩ = some (.bool w3) ∧ w'.cell? ⟨sb, so + (m + 1) * 5 + 4, none⟩ = some (.bool w4)) from fun w' h =>
                ⟨h, (h.cell hg0l).trans g0, (h.cell hsb).trans y0, (h.cell hsb).trans y1, (h.cell hsb).trans y2, (h.cell hsb).trans y3, (h.cell hsb).trans y4, (h.cell hsb).trans z0, (h.cell hsb).trans z1, (h.cell hsb).trans z2, (h.cell hsb).trans z3, (h.cell hsb).trans z4⟩)
              clear g0 y0 y1 y2 y3 y4 z0 z1 z2 z3 z4
              go_cut [77] (fun s77 wz => s77 = .bool false ∧ Below wr.heap.size wr wz)
              case first =>
                first | (go_region_held3 (fun w' => Below wr.heap.size wr w' ∧ w'.cell? ⟨A, i, none⟩ = some (.slice (some ⟨sb, so, none⟩) l.length ca) ∧ w'.cell? ⟨sb, so + m * 5, none⟩ = some (.int .i64 x0) ∧ w'.cell? ⟨sb, so + m * 5 + 1, none⟩ = some (.int .i64 x1) ∧ w'.cell? ⟨sb, so + m * 5 + 2, none⟩ = some (.bool x2) ∧ w'.cell? ⟨sb, so + m * 5 + 3, none⟩ = some (.bool x3) ∧ w'.cell? ⟨sb, so + m * 5 + 4, none⟩ = some (.bool x4) ∧ w'.cell? ⟨sb, so + (m + 1) * 5, none⟩ = some (.int .i64 w0) ∧ w'.cell? ⟨sb, so + (m + 1) * 5 + 1, none⟩ = some (.int .i64 w1') ∧ w'.cell? ⟨sb, so + (m + 1) * 5 + 2, none⟩ = some (.bool w2) ∧ w'.cell? ⟨sb, so + (m + 1) * 5 + 3, none⟩ = some (.bool w3) ∧ w'.cell? ⟨sb, so + (m + 1) * 5 + 4, none⟩ = some (.bool w4)) (first | assumption | exact HK.out _ (Below.refl _ _) | exact HK.out _ (Below.drew (Below.refl _ _)) | (have hX := And.left (by assumption : Below wr.heap.size wr _ ∧ _); exact HK.out _ (hX.trans (hb5.mono hX.size)))) (first | (go_at_call 11; with_reducible refine (below_t Hxo.out.1 Hxo.out.2 Hs.out).mono ?_; rintro e w5 ⟨rfl, hb5⟩) | (go_at_call 11; with_reducible refine (below_t Hyo.out.1 Hyo.out.2 Ht.out).mono ?_; rintro e w5 ⟨rfl, hb5⟩))) | fail
                all_goals go_wp2
                all_goals go_meet
                all_goals exact ⟨rfl, And.left (by assumption : Below wr.heap.size wr _ ∧ _)⟩
              case rest =>
                obtain ⟨rfl, hBz⟩ := hcut
                have HBz := Lib.hid (HBm.out.trans (hBz.mono hzm))
                clear hBz
                go_wp2
                exact ⟨⟨m + 1, by go_num, by omega, HBz.out⟩, by simp [intOf]; omega⟩
            · have hmn : ¬ (m : Int) + 1 < (l.length : Int) := by omega
              clear hB
              go_wp2
              exact ⟨⟨i + 1, by go_num, by omega, HBi.out.trans (HBm.out.mono hzi)⟩, by simp [intOf]; omega⟩
        · have hin : ¬ (i : Int) < (a3.length : Int) := by omega
          have HTi := Lib.hid (HT.out.pure HBi.out)
          have HB2 := Lib.hid (HB.out.trans (HBi.out.mono HB.out.size))
          have hl8 : ts.length ≤ 8 := ((tab_iff.1 Htk.out).1).2
          have HLi := Lib.hid (HL0.out.pure HB2.out)
          go_wp2
          go_loopw [10] (fun s10 wr => ∃ j : Nat, s10 = .int .i64 ((j : Int) + 1) ∧ j ≤ ts.length ∧ Below wi.heap.size wi wr) (fun s10 _ => ts.length + 2 - (intOf s10).toNat)
          case atStart => exact ⟨0, rfl, by omega, Below.refl _ _⟩
          case round =>
            clear hi hin hlt
            obtain ⟨j, rfl, hj, hB⟩ := hrel
            obtain ⟨wj, rfl⟩ : ∃ y : World, y = wr := ⟨_, rfl⟩
            have HBj := Lib.hid hB
            have hzj := hB.size
            have HTj := Lib.hid (HTi.out.pure hB)
            have HAj := Lib.hid (HAi.out.pure hB)
            have HLj := Lib.hid (HLi.out.pure hB)
            have hw3 : IntKind.i64.wrap ((j : Int) + 1 + 1) = (j : Int) + 1 + 1 := IntWalk.i64_in _ (by omega)
            by_cases hlt : j < ts.length
            · have hj0 : (0 : Int) ≤ (j : Int) := by omega
              have hjn : (j : Int) < (ts.length : Int) := by omega
              have hjn1 : (j : Int) + 1 ≤ (ts.length : Int) := by omega
              have hw1 := wrap1 (i := j) (by omega)
              have hw2 : IntKind.i64.wrap (j : Int) = (j : Int) := IntWalk.i64_in _ (by omega)
              obtain ⟨t, htt⟩ : ∃ t, ts[j]? = some t := ⟨_, List.getElem?_eq_getElem hlt⟩
              obtain ⟨b, o, ps, cs, rfl, hbl, hS, hs1, hs2, c0, c3, c5⟩ := row_at HTj.out htt
              have Htt := Lib.hid htt
              unfold maxLen at hs2
              clear hB c3
              cases hk3 : (t.kind == 3)
              · have nk3 : (t.kind != 3) = true := by simpa using hk3
                go_wp2
                exact ⟨⟨j + 1, by go_num, by omega, HBj.out⟩, by simp [intOf]; omega⟩
              · have ht3 : t.kind = 3 := by simpa using hk3
                have nk3 : (t.kind != 3) = false := by simp [ht3]
                have hs4 : t.slots.length = 4 := by
                  have h2 := tab_thgOk Htk.out (ex_at hlt)
                  rw [getT_nat htt] at h2
                  exact slots_len h2 (.inr ht3)
                obtain ⟨x, hx⟩ : ∃ x, t.slots[3]? = some x := ⟨_, List.getElem?_eq_getElem (by omega)⟩
                obtain ⟨sb, so, rfl, hsb, y0, y1, y2, y3, y4⟩ := hS.at 3 x hx
                have h34 : (3 : Int) < (t.slots.length : Int) := by omega
                clear ht3 htt hS
                by_cases hx0 : 0 < x.thing
                · go_wp2
                  exact ⟨⟨j + 1, by go_num, by omega, HBj.out⟩, by simp [intOf]; omega⟩
                · have hxz : x.thing = 0 := by
                    have := rgt_bounds (r := x) (slots_okT Htk.out Htt.out x (List.mem_of_getElem? hx))
                    by_cases h : x.thing = 0
                    · exact h
                    · have := this h; omega
                  obtain ⟨c, hc⟩ : ∃ c : Cal, c = ⟨3, (j : Int) + 1, (n2 : Int) % 3, 3, 7⟩ := ⟨_, rfl⟩
                  have hgt : getT ts ((j : Int) + 1) = t := getT_nat Htt.out
                  have hcan : CanB ts c := by
                    rw [hc]
                    refine canB.1 ?_
                    simp only [calCan, Htk.out, calOk, inR, kindAt, ex_at hlt, hgt, hk3, Bool.true_and, Bool.and_eq_true, decide_eq_true_eq, and_true]
                    omega
                  obtain ⟨us, an, hdo⟩ : ∃ us an, do2 ts c = (us, an) := ⟨_, _, rfl⟩
                  have hcd : callDo ts c = (us, an) := by rw [callDo_can hcan, hdo]
                  have hut : tabOk us = true := by have := (do2_fine hcan).tab; rwa [hdo] at this
                  have hul : us.length = ts.length := by have := (do2_fine hcan).same.len; rwa [hdo] at this
                  have hsame : ∀ b', IsReach us b' → b' = a3 := fun b' hb' => copy_same hcan (by rw [hc]) (by rw [hc]) (by rw [hc]) (by rw [hc]; simp only [hgt, getR]; rw [show ((3 : Int)).toNat = 3 from rfl, hx]; exact hxz) HI.out (by rw [hdo]; exact hb')
                  rw [hc] at hcd
                  have Hcd := Lib.hid hcd
                  have Hut := Lib.hid hut
                  have Hsame := Lib.hid hsame
                  have Hul := Lib.hid hul
                  clear hcd hut hsame hul hcan hdo hc hgt hxz
                  go_wp2_with (first
                    | (go_at_call 12; refine (callDo_t (c := ⟨3, (j : Int) + 1, (n2 : Int) % 3, 3, 7⟩) HLj.out HTj.out Hcd.out).mono ?_; rintro e w5 ⟨q5, k5, rfl, hT5, hb5⟩; have hz5 := hb5.size; have HT5 := Lib.hid hT5; have Hb5 := Lib.hid hb5; clear hT5 hb5)
                    | (go_at_call 8; refine (reachAll_yes HT5.out Hut.out).mono ?_; rintro e w6 ⟨A2, c2, b2, rfl, hI2, hA2, hb6⟩; obtain rfl : a3 = b2 := (Hsame.out _ hI2).symm; have hz6 := hb6.size; have HA2 := Lib.hid hA2; have HB6 := Lib.hid (HBj.out.trans ((Hb5.out.trans (hb6.mono hz5)).mono hzj)); have HAA := Lib.hid (HAj.out.pure (Hb5.out.trans (hb6.mono hz5))); clear hI2 hA2 hb6))
                  have hl8' : a3.length ≤ 8 := by omega
                  go_loopw [14] (fun s14 wr => ∃ i : Nat, s14 = .int .i64 (i : Int) ∧ i ≤ a3.length ∧ Below w6.heap.size w6 wr) (fun s14 _ => a3.length - (intOf s14).toNat)
                  case atStart => exact ⟨0, rfl, by omega, Below.refl _ _⟩
                  case round =>
                    obtain ⟨i, rfl, hi, hB⟩ := hrel
                    obtain ⟨wq, rfl⟩ : ∃ y : World, y = wr := ⟨_, rfl⟩
                    have HBq := Lib.hid hB
                    have hzq := hB.size
                    by_cases hlti : i < a3.length
                    · have hi0 : (0 : Int) ≤ (i : Int) := by omega
                      have hin : (i : Int) < (a3.length : Int) := by omega
                      have hit : i < ts.length := by omega
                      obtain ⟨qa, ca, g0, hG, hg1, hg2⟩ := all_at (HAA.out.pure hB) hlti
                      obtain ⟨qb, cb, k0, hK, hk1, hk2⟩ := all_at (HA2.out.pure hB) hlti
                      obtain ⟨l, hl⟩ : ∃ l, rowA a3 i = l := ⟨_, rfl⟩
                      rw [hl] at g0 hG hg1 k0 hK hk1
                      have hll : l.length ≤ 384 := by rw [← hl]; exact reach_row_len Htk.out HI.out i hit
                      unfold maxLen at hg2 hk2
                      have HG := Lib.hid hG
                      have HK2 := Lib.hid hK
                      have HC := Lib.hid (show ∀ w' : World, Below wq.heap.size wq w' → (w'.cell? ⟨A, i, none⟩ = some (.slice qa l.length ca) ∧ w'.cell? ⟨A2, i, none⟩ = some (.slice qb l.length cb)) from fun w' h => ⟨(h.cell (cell_lt g0)).trans g0, (h.cell (cell_lt k0)).trans k0⟩)
                      have hund : undef = Value.tuple #[] := rfl
                      clear hl hG hK hB
                      go_upto_region 25 with (fail)
                      clear hund
                      go_quiet (fail)
                      go_wp2
                      clear g0 k0
                      go_loopw [15] (fun s15 wr => ∃ m : Nat, s15 = .int .i64 (m : Int) ∧ m ≤ l.length ∧ Below wq.heap.size wq wr) (fun s15 _ => l.length - (intOf s15).toNat)
                      case atStart => exact ⟨0, rfl, by omega, by first | exact Below.refl _ _ | exact below_drewN (Below.refl _ _) _ | exact Below.drew (Below.refl _ _)⟩
                      case round =>
                        obtain ⟨m, rfl, hm, hB⟩ := hrel
                        have HBm := Lib.hid hB
                        obtain ⟨g0, k0⟩ := HC.out _ hB
                        by_cases hltm : m < l.length
                        · have hm0 : (0 : Int) ≤ (m : Int) := by omega
                          have hmn : (m : Int) < (l.length : Int) := by omega
                          obtain ⟨x, hx⟩ : ∃ x, l[m]? = some x := ⟨_, List.getElem?_eq_getElem hltm⟩
                          obtain ⟨sb1, so1, rfl, hsb1, y0, y1, y2, y3, y4⟩ := (HG.out.pure hB).at m x hx
                          obtain ⟨sb2, so2, rfl, hsb2, z0, z1, z2, z3, z4⟩ := (HK2.out.pure hB).at m x hx
                          clear hx hB
                          obtain ⟨x0, x1, x2, x3, x4⟩ := x
                          dsimp only at y0 y1 y2 y3 y4 z0 z1 z2 z3 z4
                          go_upto_region 30 with (fail)
                          go_quiet (fail)
                          go_wp2
                          refine ⟨⟨m + 1, by go_num, by omega, ?_⟩, by simp [intOf]; omega⟩
                          first | exact HBm.out | exact below_drewN HBm.out _ | exact Below.drew HBm.out
                        · have hmn : ¬ (m : Int) < (l.length : Int) := by omega
                          clear hB
                          go_wp2
                          exact ⟨⟨i + 1, by go_num, by omega, HBq.out.trans (HBm.out.mono hzq)⟩, by simp [intOf]; omega⟩
                    · have hin : ¬ (i : Int) < (a3.length : Int) := by omega
                      clear hB
                      go_wp2
                      exact ⟨⟨j + 1, by go_num, by omega, HB6.out.trans (HBq.out.mono HB6.out.size)⟩, by simp [intOf]; omega⟩
            · have hjn : ¬ (j : Int) + 1 ≤ (ts.length : Int) := by omega
              clear hB
              go_wp2
              go_ret
              exact ⟨rfl, HB2.out.trans (HBj.out.mono HB2.out.size)⟩
  · clear hb hL
    by_cases hgt : (1048576 : Int) < (n : Int)
    · clear hbig
      go_enter Tryz.func3, Tryz.ntmps3
      go_wp2
      go_ret
      exact ⟨rfl, bel⟩
    · have hgt2 : (1048576 : Int) < (n2 : Int) := by omega
      clear hbig
      go_enter Tryz.func3, Tryz.ntmps3
      go_wp2
      go_ret
      exact ⟨rfl, bel⟩
end Go.Proofs.YtkbflnbjmpcjlaaGreatDoor
