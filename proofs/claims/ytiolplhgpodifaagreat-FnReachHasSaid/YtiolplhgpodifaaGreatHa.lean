/- The law that a thing has what it has, walked. Conditions: the bytes lie where their cells say. -/
import Derived.Test.YtiolplhgpodifaaGreatRb
import Derived.Deep.CutBlock
set_option linter.unusedVariables false
set_option linter.unusedSimpArgs false
namespace Go.Proofs.YtiolplhgpodifaaGreat
open Go.RowKit Drw
attribute [local go_sem] Lab.val Rgt.val Cal.val Thg.val

set_option maxRecDepth 100000 in
set_option maxHeartbeats 4000000 in
theorem fnReachHas_c (p : Option Addr) (n cap : Nat) (w : World) (hc : n ≤ cap) (hb : BytesIn w p n) :
    Calls Tryz.prog 4 #[.slice p n cap] w fun e w' => e = .returned (.bool true) ∧ Below w.heap.size w w' := by
  by_cases hbig : n ≤ 1048576
  · have hle : ¬ (1048576 : Int) < (n : Int) := by omega
    have Hb := Lib.hid hb
    clear hb
    go_enter Tryz.func4, Tryz.ntmps4
    go_upto_region 4 with (go_at_call 12; refine (drawReachAll_c p n cap _ hc Hb.out (by omega)).mono ?_; rintro e w1 ⟨q, k, ts, rfl, hT, hl3, hl8, hb1⟩)
    obtain ⟨tk, htk⟩ : ∃ b, tabOk ts = b := ⟨_, rfl⟩
    have Htk := Lib.hid htk
    have HT := Lib.hid hT
    have HB1 := Lib.hid hb1
    clear htk hT hb1 Hb
    cases tk
    · have hund : undef = Value.tuple #[] := rfl
      go_wp2_with (first
        | (go_at_call 13; refine (reachAll_no HT.out Htk.out).mono ?_; rintro e w2 ⟨q2, rfl, hb2⟩; have hz2 := hb2.size)
        | (go_at_call 14; refine (sreachAll_no (HT.out.pure hb2) Htk.out).mono ?_; rintro e w3 ⟨q3, rfl, hb3⟩; have hz3 := hb3.size)
        | (go_at_call 15; refine (stableOk_u (HT.out.pure (hb2.trans (hb3.mono hz2))) Htk.out).mono ?_; rintro e w4 ⟨rfl, hb4⟩; have hz4 := hb4.size))
      go_ret
      exact ⟨rfl, HB1.out.trans (Below.mono (show Below w1.heap.size w1 _ from hb2.trans ((hb3.trans (hb4.mono hz3)).mono hz2)) HB1.out.size)⟩
    · go_upto_region 6 with (first
        | (go_at_call 13; refine (reachAll_yes HT.out Htk.out).mono ?_; rintro e w2 ⟨A, c, a, rfl, hI, hA2, hb2⟩; have hz2 := hb2.size)
        | (go_at_call 14; refine (sreachAll_yes (HT.out.pure hb2) Htk.out).mono ?_; rintro e w3 ⟨A3, c3, a3, rfl, hI3, -, hb3⟩; have hz3 := hb3.size))
      obtain rfl : a3 = a := hI3.eq hI
      have hb13 : Below w1.heap.size w1 w3 := hb2.trans (hb3.mono hz2)
      have HT3 := Lib.hid (HT.out.pure hb13)
      have HA3 := Lib.hid (hA2.pure hb3)
      have HB3 := Lib.hid (HB1.out.trans (hb13.mono HB1.out.size))
      have HI := Lib.hid hI
      have hac := hI.len
      clear hI hI3 hA2 hb2 hb3 hb13 HT HB1
      go_upto_region 8 with (first
        | (go_at_call 15; refine (stableOk_u HT3.out Htk.out).mono ?_; rintro e wx ⟨rfl, hb4⟩; have hz4 := hb4.size))
      have hT := HT3.out.pure hb4
      have hA := HA3.out.pure hb4
      have HB := Lib.hid (HB3.out.trans (hb4.mono HB3.out.size))
      clear HT3 HA3 HB3 hb4 hz4 hz2 hz3
      have HT := Lib.hid hT
      have HA := Lib.hid hA
      clear hT hA
      go_wp2
      go_loopw [6] (fun s6 wr => ∃ i : Nat, s6 = .int .i64 (i : Int) ∧ i ≤ ts.length ∧ Below wx.heap.size wx wr) (fun s6 _ => ts.length - (intOf s6).toNat)
      case atStart => exact ⟨0, rfl, by omega, Below.refl _ _⟩
      case round =>
        obtain ⟨i, rfl, hi, hB⟩ := hrel
        obtain ⟨wi, rfl⟩ : ∃ y : World, y = wr := ⟨_, rfl⟩
        have HTi := Lib.hid (HT.out.pure hB)
        have HAi := Lib.hid (HA.out.pure hB)
        have HBi := Lib.hid hB
        have hzi := hB.size
        clear hB
        by_cases hlt : i < ts.length
        · have hi0 : (0 : Int) ≤ (i : Int) := by omega
          have hin : (i : Int) < (ts.length : Int) := by omega
          have hia : (i : Int) < (a3.length : Int) := by omega
          obtain ⟨t, htt⟩ : ∃ t, ts[i]? = some t := ⟨_, List.getElem?_eq_getElem hlt⟩
          obtain ⟨b, o, ps, cs, rfl, hbl, hS, hs1, hs2, c0, c3, c5⟩ := row_at HTi.out htt
          obtain ⟨qa, ca, g0, hG, hg1, hg2⟩ := all_at HAi.out (show i < a3.length by omega)
          obtain ⟨l, hl⟩ : ∃ l, rowA a3 i = l := ⟨_, rfl⟩
          rw [hl] at g0 hG hg1
          have hll : l.length ≤ 384 := by rw [← hl]; exact reach_row_len Htk.out HI.out i hlt
          have hsl : t.slots.length ≤ 4 := slots4 Htk.out htt
          unfold maxLen at hs2 hg2
          have HL := Lib.hid hl
          have HS := Lib.hid hS
          have HG := Lib.hid hG
          have Htt := Lib.hid htt
          have HC := Lib.hid (show ∀ w' : World, Below wi.heap.size wi w' → (w'.cell? ⟨b, o + i * 8 + 5, none⟩ = some (.slice ps t.slots.length cs) ∧ w'.cell? ⟨A, i, none⟩ = some (.slice qa l.length ca)) from fun w' h => ⟨(h.cell hbl).trans c5, (h.cell (cell_lt g0)).trans g0⟩)
          clear htt hl hS hG c0 c3 c5 g0 hbl
          have hrow : l = rowA a3 i := HL.out.symm
          have Hrow := Lib.hid hrow
          clear hrow
          go_wp2
          go_loopw [7] (fun s7 wr => ∃ m : Nat, s7 = .int .i64 (m : Int) ∧ m ≤ t.slots.length ∧ Below wi.heap.size wi wr) (fun s7 _ => t.slots.length - (intOf s7).toNat)
          case atStart => exact ⟨0, rfl, by omega, Below.refl _ _⟩
          case round =>
            obtain ⟨m, rfl, hm, hB⟩ := hrel
            have HBm := Lib.hid hB
            have hzm := hB.size
            obtain ⟨c5, g0⟩ := HC.out _ hB
            by_cases hlt2 : m < t.slots.length
            · have hm0 : (0 : Int) ≤ (m : Int) := by omega
              have hmn : (m : Int) < (t.slots.length : Int) := by omega
              obtain ⟨x, hx⟩ : ∃ x, t.slots[m]? = some x := ⟨_, List.getElem?_eq_getElem hlt2⟩
              obtain ⟨sb, so, rfl, hsb, y0, y1, y2, y3, y4⟩ := (HS.out.pure hB).at m x hx
              have Hcov := Lib.hid (reach_has Htk.out HI.out Htt.out (List.mem_of_getElem? hx))
              have Hxok := Lib.hid (slots_okT Htk.out Htt.out x (List.mem_of_getElem? hx))
              have HRow := Lib.hid (HI.out.rowOk Htk.out hlt)
              rw [HL.out] at Hcov HRow
              clear hx hB
              obtain ⟨x0, x1, x2, x3, x4⟩ := x
              dsimp only at y0 y1 y2 y3 y4
              go_upto_region 14 with (fail)
              have hc5l := cell_lt c5
              have hg0l := cell_lt g0
              have HK := Lib.hid (show ∀ w' : World, Below wr.heap.size wr w' → (Below wr.heap.size wr w' ∧ w'.cell? ⟨b, o + i * 8 + 5, none⟩ = some (.slice (some ⟨sb, so, none⟩) t.slots.length cs) ∧ w'.cell? ⟨A, i, none⟩ = some (.slice qa l.length ca) ∧ w'.cell? ⟨sb, so + m * 5, none⟩ = some (.int .i64 x0) ∧ w'.cell? ⟨sb, so + m * 5 + 1, none⟩ = some (.int .i64 x1) ∧ w'.cell? ⟨sb, so + m * 5 + 2, none⟩ = some (.bool x2) ∧ w'.cell? ⟨sb, so + m * 5 + 3, none⟩ = some (.bool x3) ∧ w'.cell? ⟨sb, so + m * 5 + 4, none⟩ = some (.bool x4)) from fun w' h =>
                ⟨h, (h.cell hc5l).trans c5, (h.cell hg0l).trans g0, (h.cell hsb).trans y0, (h.cell hsb).trans y1, (h.cell hsb).trans y2, (h.cell hsb).trans y3, (h.cell hsb).trans y4⟩)
              clear c5 g0 y0 y1 y2 y3 y4
              go_cut [63] (fun s63 wz => s63 = .bool false ∧ Below wr.heap.size wr wz)
              case first =>
                first | (go_region_held3 (fun w' => Below wr.heap.size wr w' ∧ w'.cell? ⟨b, o + i * 8 + 5, none⟩ = some (.slice (some ⟨sb, so, none⟩) t.slots.length cs) ∧ w'.cell? ⟨A, i, none⟩ = some (.slice qa l.length ca) ∧ w'.cell? ⟨sb, so + m * 5, none⟩ = some (.int .i64 x0) ∧ w'.cell? ⟨sb, so + m * 5 + 1, none⟩ = some (.int .i64 x1) ∧ w'.cell? ⟨sb, so + m * 5 + 2, none⟩ = some (.bool x2) ∧ w'.cell? ⟨sb, so + m * 5 + 3, none⟩ = some (.bool x3) ∧ w'.cell? ⟨sb, so + m * 5 + 4, none⟩ = some (.bool x4)) (first | assumption | exact HK.out _ (Below.refl _ _) | exact HK.out _ (Below.drew (Below.refl _ _)) | (have hX := And.left (by assumption : Below wr.heap.size wr _ ∧ _); exact HK.out _ (hX.trans (hb5.mono hX.size)))) (first | (go_at_call 16; with_reducible refine (reachIn_u ((HG.out.pure HBm.out).pure (And.left (by assumption : Below wr.heap.size wr _ ∧ _))) HRow.out Hxok.out Hcov.out).mono ?_; rintro e w5 ⟨rfl, hb5⟩))) | fail
                all_goals go_wp2
                all_goals go_meet
                all_goals exact ⟨rfl, And.left (by assumption : Below wr.heap.size wr _ ∧ _)⟩
              case rest =>
                obtain ⟨rfl, hBz⟩ := hcut
                have HBz := Lib.hid (HBm.out.trans (hBz.mono hzm))
                clear hBz
                go_wp2
                exact ⟨⟨m + 1, by go_num, by omega, HBz.out⟩, by simp [intOf]; omega⟩
            · have hmn : ¬ (m : Int) < (t.slots.length : Int) := by omega
              obtain ⟨wj, rfl⟩ : ∃ y : World, y = wr := ⟨_, rfl⟩
              clear hB
              go_wp2
              clear c5 g0
              go_loopw [8] (fun s8 wr => ∃ m : Nat, s8 = .int .i64 (m : Int) ∧ m ≤ l.length ∧ Below wi.heap.size wi wr) (fun s8 _ => l.length - (intOf s8).toNat)
              case atStart => exact ⟨0, rfl, by omega, HBm.out⟩
              case round =>
                clear hm hmn
                obtain ⟨m, rfl, hm, hB⟩ := hrel
                obtain ⟨wk, rfl⟩ : ∃ y : World, y = wr := ⟨_, rfl⟩
                have HBk := Lib.hid hB
                have hzk := hB.size
                obtain ⟨c5, g0⟩ := HC.out _ hB
                by_cases hlt3 : m < l.length
                · have hm0 : (0 : Int) ≤ (m : Int) := by omega
                  have hmn : (m : Int) < (l.length : Int) := by omega
                  clear hB
                  go_wp2
                  clear c5 g0
                  go_loopw [9] (fun s9 wr => ∃ n : Nat, s9 = .int .i64 (n : Int) ∧ n ≤ l.length ∧ Below wi.heap.size wi wr) (fun s9 _ => l.length - (intOf s9).toNat)
                  case atStart => exact ⟨0, rfl, by omega, HBk.out⟩
                  case round =>
                    obtain ⟨n', rfl, hn', hB⟩ := hrel
                    have HBn := Lib.hid hB
                    have hzn := hB.size
                    obtain ⟨c5, g0⟩ := HC.out _ hB
                    by_cases hlt4 : n' < l.length
                    · have hn0 : (0 : Int) ≤ (n' : Int) := by omega
                      have hnn : (n' : Int) < (l.length : Int) := by omega
                      obtain ⟨x, hx⟩ : ∃ x, l[m]? = some x := ⟨_, List.getElem?_eq_getElem hlt3⟩
                      obtain ⟨y, hy⟩ : ∃ y, l[n']? = some y := ⟨_, List.getElem?_eq_getElem hlt4⟩
                      obtain ⟨sb, so, rfl, hsb, y0, y1, y2, y3, y4⟩ := (HG.out.pure hB).at m x hx
                      obtain ⟨sb', so', e', -, z0, z1, z2, z3, z4⟩ := (HG.out.pure hB).at n' y hy
                      cases e'
                      have hg0l := cell_lt g0
                      by_cases hnm : n' = m
                      · have hnm' : ((n' : Int) == (m : Int)) = true := by simp [hnm]
                        have hnm2 : ((n' : Int) != (m : Int)) = false := by simp [hnm]
                        have hund : undef = Value.tuple #[] := rfl
                        clear hx hy hB z0 z1 z2 z3 z4 y0 y1 y2 y3 y4 c5
                        go_upto_region 22 with (fail)
                        go_quiet (fail)
                        go_wp2
                        refine ⟨⟨n' + 1, by go_num, by omega, ?_⟩, by simp [intOf]; omega⟩
                        first | exact HBn.out | exact below_drewN HBn.out _ | (have hBq := HBn.out; exact (by (repeat (with_reducible first | exact Below.refl _ _ | refine Below.alloc ?_ ?_ _ | refine below_drewN ?_ _ | refine Below.drew ?_ | refine Below.setCell ?_ ?_ _ | refine Below.trans ?_ (Below.mono (by assumption) ?_))) <;> (first | omega | (simp; try omega))))
                      · have hin2 := reach_two HI.out hlt (m := m) (n := n') (x := x) (y := y) (by rw [HL.out]; exact hx) (by rw [HL.out]; exact hy) hnm
                        have Hin2 := Lib.hid hin2
                        have hne : ¬ ((n' : Int) = (m : Int)) := by omega
                        have hnm' : ((n' : Int) == (m : Int)) = false := by simpa using hne
                        have hnm2 : ((n' : Int) != (m : Int)) = true := by simpa using hne
                        clear hx hy hB hin2 c5
                        obtain ⟨x0, x1, x2, x3, x4⟩ := x
                        obtain ⟨w0, w1, w2, w3, w4⟩ := y
                        dsimp only at y0 y1 y2 y3 y4 z0 z1 z2 z3 z4
                        go_upto_region 22 with (fail)
                        have HK := Lib.hid (show ∀ w' : World, Below wr.heap.size wr w' → (Below wr.heap.size wr w' ∧ w'.cell? ⟨A, i, none⟩ = some (.slice (some ⟨sb, so, none⟩) l.length ca) ∧ w'.cell? ⟨sb, so + m * 5, none⟩ = some (.int .i64 x0) ∧ w'.cell? ⟨sb, so + m * 5 + 1, none⟩ = some (.int .i64 x1) ∧ w'.cell? ⟨sb, so + m * 5 + 2, none⟩ = some (.bool x2) ∧ w'.cell? ⟨sb, so + m * 5 + 3, none⟩ = some (.bool x3) ∧ w'.cell? ⟨sb, so + m * 5 + 4, none⟩ = some (.bool x4) ∧ w'.cell? ⟨sb, so + n' * 5, none⟩ = some (.int .i64 w0) ∧ w'.cell? ⟨sb, so + n' * 5 + 1, none⟩ = some (.int .i64 w1) ∧ w'.cell? ⟨sb, so + n' * 5 + 2, none⟩ = some (.bool w2) ∧ w'.cell? ⟨sb, so + n' * 5 + 3, none⟩ = some (.bool w3) ∧ w'.cell? ⟨sb, so + n' * 5 + 4, none⟩ = some (.bool w4)) from fun w' h =>
                          ⟨h, (h.cell hg0l).trans g0, (h.cell hsb).trans y0, (h.cell hsb).trans y1, (h.cell hsb).trans y2, (h.cell hsb).trans y3, (h.cell hsb).trans y4, (h.cell hsb).trans z0, (h.cell hsb).trans z1, (h.cell hsb).trans z2, (h.cell hsb).trans z3, (h.cell hsb).trans z4⟩)
                        clear g0 y0 y1 y2 y3 y4 z0 z1 z2 z3 z4
                        go_cut [101] (fun s101 wz => s101 = .bool false ∧ Below wr.heap.size wr wz)
                        case first =>
                          first | (go_region_held3 (fun w' => Below wr.heap.size wr w' ∧ w'.cell? ⟨A, i, none⟩ = some (.slice (some ⟨sb, so, none⟩) l.length ca) ∧ w'.cell? ⟨sb, so + m * 5, none⟩ = some (.int .i64 x0) ∧ w'.cell? ⟨sb, so + m * 5 + 1, none⟩ = some (.int .i64 x1) ∧ w'.cell? ⟨sb, so + m * 5 + 2, none⟩ = some (.bool x2) ∧ w'.cell? ⟨sb, so + m * 5 + 3, none⟩ = some (.bool x3) ∧ w'.cell? ⟨sb, so + m * 5 + 4, none⟩ = some (.bool x4) ∧ w'.cell? ⟨sb, so + n' * 5, none⟩ = some (.int .i64 w0) ∧ w'.cell? ⟨sb, so + n' * 5 + 1, none⟩ = some (.int .i64 w1) ∧ w'.cell? ⟨sb, so + n' * 5 + 2, none⟩ = some (.bool w2) ∧ w'.cell? ⟨sb, so + n' * 5 + 3, none⟩ = some (.bool w3) ∧ w'.cell? ⟨sb, so + n' * 5 + 4, none⟩ = some (.bool w4)) (first | assumption | exact HK.out _ (Below.refl _ _) | exact HK.out _ (Below.drew (Below.refl _ _)) | (have hX := And.left (by assumption : Below wr.heap.size wr _ ∧ _); exact HK.out _ (hX.trans (hb5.mono hX.size)))) (first | (go_at_call 17; with_reducible refine (rightIn_u Hin2.out).mono ?_; rintro e w5 ⟨rfl, hb5⟩))) | fail
                          all_goals go_wp2
                          all_goals go_meet
                          all_goals exact ⟨rfl, And.left (by assumption : Below wr.heap.size wr _ ∧ _)⟩
                        case rest =>
                          obtain ⟨rfl, hBz⟩ := hcut
                          have HBz := Lib.hid (HBn.out.trans (hBz.mono hzn))
                          clear hBz
                          go_wp2
                          exact ⟨⟨n' + 1, by go_num, by omega, HBz.out⟩, by simp [intOf]; omega⟩
                    · have hnn : ¬ (n' : Int) < (l.length : Int) := by omega
                      clear hB
                      go_wp2
                      exact ⟨⟨m + 1, by go_num, by omega, HBn.out⟩, by simp [intOf]; omega⟩
                · have hmn : ¬ (m : Int) < (l.length : Int) := by omega
                  clear hB
                  by_cases hs0 : t.slots.length = 0
                  · have hl0 : l = [] := by rw [← HL.out]; exact reach_none Htk.out HI.out Htt.out (List.eq_nil_of_length_eq_zero hs0)
                    have hl00 : l.length = 0 := by rw [hl0]; rfl
                    have hq : ((t.slots.length : Int) == 0) = true := by simp [hs0]
                    have hq2 : ¬ (0 : Int) < (l.length : Int) := by omega
                    go_wp2
                    exact ⟨⟨i + 1, by go_num, by omega, HBi.out.trans (HBk.out.mono hzi)⟩, by simp [intOf]; omega⟩
                  · have hs00 : ¬ ((t.slots.length : Int) = 0) := by omega
                    have hq : ((t.slots.length : Int) == 0) = false := by simpa using hs00
                    have hund : undef = Value.tuple #[] := rfl
                    go_wp2
                    exact ⟨⟨i + 1, by go_num, by omega, HBi.out.trans (HBk.out.mono hzi)⟩, by simp [intOf]; omega⟩
        · have hin : ¬ (i : Int) < (ts.length : Int) := by omega
          go_wp2
          go_ret
          exact ⟨rfl, HB.out.trans (HBi.out.mono HB.out.size)⟩
  · have hgt : (1048576 : Int) < (n : Int) := by omega
    clear hbig hb
    go_enter Tryz.func4, Tryz.ntmps4
    go_wp2
    go_ret
    exact ⟨rfl, (by (repeat (with_reducible first | exact Below.refl _ _ | refine Below.alloc ?_ ?_ _ | refine below_drewN ?_ _ | refine Below.drew ?_ | refine Below.setCell ?_ ?_ _ | refine Below.trans ?_ (Below.mono (by assumption) ?_))) <;> (first | omega | (simp; try omega)))⟩
end Go.Proofs.YtiolplhgpodifaaGreat
