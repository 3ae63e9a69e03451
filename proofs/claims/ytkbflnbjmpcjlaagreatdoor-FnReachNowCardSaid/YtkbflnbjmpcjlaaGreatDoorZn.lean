/- The law that what one cannot come to have one never has, walked. Conditions: the bytes lie where their cells say; errors.errorType is laid. -/
import Derived.Test.YtkbflnbjmpcjlaaGreatDoorBl
import Derived.Test.YtkbflnbjmpcjlaaGreatDoorZc
import Derived.Deep.CutBlock
set_option linter.unusedVariables false
set_option linter.unusedSimpArgs false
namespace Go.Proofs.YtkbflnbjmpcjlaaGreatDoor
open Go.RowKit Drw
attribute [local go_sem] Lab.val Rgt.val Cal.val Thg.val

set_option maxRecDepth 100000 in
set_option maxHeartbeats 4000000 in
theorem fnReachNow_c (p : Option Addr) (n cap : Nat) (w : World) (hL : Laid w) (hc : n ≤ cap) (hb : BytesIn w p n) :
    Calls Tryz.prog 6 #[.slice p n cap] w fun e w' => e = .returned (.bool true) ∧ Below w.heap.size w w' := by
  by_cases hbig : n ≤ 1048576
  · have hle : ¬ (1048576 : Int) < (n : Int) := by omega
    have Hb := Lib.hid hb
    have HL := Lib.hid hL
    clear hb hL
    go_enter Tryz.func6, Tryz.ntmps6
    go_upto_region 4 with (go_at_call 13; refine (drawRunAll_c p n cap _ hc Hb.out (by omega)).mono ?_; rintro e w1 ⟨q, k, ts, q2, k2, cs, rfl, hT, hl3, hl8, hC, hcl, hb1⟩)
    obtain ⟨us, zs, rok, hrun⟩ : ∃ us zs rok, runAll ts cs = (us, zs, rok) := ⟨_, _, _, rfl⟩
    have Hrun := Lib.hid hrun
    have HT := Lib.hid hT
    have HC := Lib.hid hC
    have HB1 := Lib.hid hb1
    clear hrun hT hC hb1 Hb
    go_upto_region 6 with (first
      | (go_at_call 14; refine (srunAll_t HT.out HC.out Hrun.out).mono ?_; rintro e w2 ⟨pw, kw, pw2, kw2, rfl, hW, hWa, hb2⟩)
      | (go_at_call 15; refine (runAll_t (HL.out.pure (HB1.out.trans (hb2.mono HB1.out.size))) (HT.out.pure hb2) (HC.out.pure hb2) Hrun.out).mono ?_; rintro e w3 ⟨px, kx, px2, kx2, rfl, hX, hA, hb3⟩))
    have hb13 : Below w1.heap.size w1 w3 := hb2.trans (hb3.mono hb2.size)
    have hW3 := hW.pure hb3
    have hT3 := HT.out.pure hb13
    have hC3 := HC.out.pure hb13
    have hB3 := HB1.out.trans (hb13.mono HB1.out.size)
    have hL3 := HL.out.pure hB3
    have HB3 := Lib.hid hB3
    clear hW hWa hb2 hb3 hb13 HT HC HB1 hB3 HL
    cases rok
    · go_wp2_with (first
        | (go_at_call 16; refine (ldTable_s (hX.pure bel) (hW3.pure bel)).mono ?_; rintro e w4 ⟨rfl, hb4⟩; have hz4 := hb4.size)
        | (go_at_call 16; refine (ldTable_s (hX.pure bel) (hW3.pure bel)).mono ?_; rintro e w5 ⟨rfl, hb5⟩; have hz5 := hb5.size))
      go_ret
      exact ⟨rfl, HB3.out.trans (Below.mono (show Below w3.heap.size w3 _ from bel) HB3.out.size)⟩
    · go_upto_region 8 with (first
        | (go_at_call 16; refine (ldTable_s (hX.pure bel) (hW3.pure bel)).mono ?_; rintro e w4 ⟨rfl, hb4⟩; have hz4 := hb4.size))
      have hT := hT3.pure hb4
      have hC := hC3.pure hb4
      have hX := hX.pure hb4
      have hA := hA.pure hb4
      have hL := hL3.pure hb4
      have HB := Lib.hid (HB3.out.trans (hb4.mono HB3.out.size))
      clear hT3 hC3 hL3 HB3 hW3 hb4 hz4
      obtain ⟨wx, rfl⟩ : ∃ wx : World, wx = w4 := ⟨_, rfl⟩
      have hcan : runCan ts cs = true := runAll_can Hrun.out
      obtain ⟨hdo, hfine⟩ := runAll_do Hrun.out
      obtain ⟨hu, hsame, -⟩ := hfine
      have hul := hsame.len
      have h8 := (tab_iff.1 (runCan_iff.1 hcan).1).1
      have Hdo := Lib.hid hdo
      have Hcan := Lib.hid hcan
      have Htk := Lib.hid (runCan_iff.1 hcan).1
      have Hu := Lib.hid hu
      have HT := Lib.hid hT
      have HX := Lib.hid hX
      have hl8 : us.length ≤ 8 := by omega
      have hl8t : ts.length ≤ 8 := by omega
      have Hul := Lib.hid hul
      clear hT hX hC hA hL hu hsame hdo hcan hul Hrun
      go_wp2
      go_loopw [11] (fun s11 wr => ∃ i : Nat, s11 = .int .i64 (i : Int) ∧ i ≤ ts.length ∧ Below wx.heap.size wx wr) (fun s11 _ => ts.length - (intOf s11).toNat)
      case atStart => exact ⟨0, rfl, by omega, Below.refl _ _⟩
      case round =>
        obtain ⟨i, rfl, hi, hB⟩ := hrel
        obtain ⟨wi, rfl⟩ : ∃ y : World, y = wr := ⟨_, rfl⟩
        have HBi := Lib.hid hB
        have hzi := hB.size
        by_cases hlt : i < ts.length
        · have hi0 : (0 : Int) ≤ (i : Int) := by omega
          have hin : (i : Int) < (ts.length : Int) := by omega
          have hiu : i < us.length := by have := Hul.out; omega
          have hiu2 : (i : Int) < (us.length : Int) := by omega
          have hw3 : IntKind.i64.wrap ((i : Int) + 1) = (i : Int) + 1 := IntWalk.i64_in _ (by omega)
          obtain ⟨t, htt⟩ : ∃ t, us[i]? = some t := ⟨_, List.getElem?_eq_getElem hiu⟩
          obtain ⟨b, o, ps, cs', rfl, hbl, hS, hs1, hs2, c0, c3, c5⟩ := row_at (HX.out.pure hB) htt
          have hsl : t.slots.length ≤ 4 := slots4 Hu.out htt
          unfold maxLen at hs2
          have HS := Lib.hid hS
          have Htt := Lib.hid htt
          have HC := Lib.hid (show ∀ w' : World, Below wi.heap.size wi w' → w'.cell? ⟨b, o + i * 8 + 5, none⟩ = some (.slice ps t.slots.length cs') from fun w' h => (h.cell hbl).trans c5)
          have HTi := Lib.hid (HT.out.pure hB)
          clear htt hS c0 c3 c5 hbl hB
          go_wp2
          go_loopw [12] (fun s12 wr => ∃ kk : Nat, s12 = .int .i64 (kk : Int) ∧ 1 ≤ kk ∧ kk ≤ ts.length + 1 ∧ Below wi.heap.size wi wr) (fun s12 _ => ts.length + 1 - (intOf s12).toNat)
          case atStart => exact ⟨1, rfl, by omega, by omega, Below.refl _ _⟩
          case round =>
            obtain ⟨kk, rfl, hk1, hk2, hB⟩ := hrel
            obtain ⟨wk, rfl⟩ : ∃ y : World, y = wr := ⟨_, rfl⟩
            have HBk := Lib.hid hB
            have hzk := hB.size
            have HTk := Lib.hid (HTi.out.pure hB)
            by_cases hlt2 : kk ≤ ts.length
            · have hkn : (kk : Int) ≤ (ts.length : Int) := by omega
              have hex : ex ts (kk : Int) = true := by rw [ex_iff]; omega
              clear hB
              go_wp2_with (first
                | (go_at_call 18; refine (reachTo_yes HTk.out Htk.out hlt hex).mono ?_; intro e w2 hto; obtain ⟨a, hI, he, hb2⟩ : ToldTo ts i (kk : Int) false wk e w2 := hto; subst he; obtain ⟨rv, hrv⟩ : ∃ v, reachB (rowA a i) (kk : Int) false = v := ⟨_, rfl⟩; rw [hrv]; obtain ⟨wv, hwv⟩ : ∃ v, reachB (rowA a i) (kk : Int) true = v := ⟨_, rfl⟩; have HI := Lib.hid hI; have Hrv := Lib.hid hrv; have Hwv := Lib.hid hwv; have hz2 := hb2.size; have Hb2 := Lib.hid hb2; clear hb2 hI hrv hwv)
                | (go_at_call 18; with_reducible refine (reachTo_n (HTk.out.pure Hb2.out) Htk.out hlt hex HI.out Hwv.out).mono ?_; rintro e w3 ⟨rfl, hb3⟩; have hz3 := hb3.size; have Hb3 := Lib.hid (HBk.out.trans ((Hb2.out.trans (hb3.mono hz2)).mono hzk)); clear hb3))
              go_loopw [15] (fun s15 wr => ∃ m : Nat, s15 = .int .i64 (m : Int) ∧ m ≤ t.slots.length ∧ Below wi.heap.size wi wr) (fun s15 _ => t.slots.length - (intOf s15).toNat)
              case atStart => exact ⟨0, rfl, by omega, Hb3.out⟩
              case round =>
                obtain ⟨m, rfl, hm, hB⟩ := hrel
                have HBm := Lib.hid hB
                have hzm := hB.size
                have c5 := HC.out _ hB
                by_cases hlt3 : m < t.slots.length
                · have hm0 : (0 : Int) ≤ (m : Int) := by omega
                  have hmn : (m : Int) < (t.slots.length : Int) := by omega
                  obtain ⟨x, hx⟩ : ∃ x, t.slots[m]? = some x := ⟨_, List.getElem?_eq_getElem hlt3⟩
                  obtain ⟨sb, so, rfl, hsb, y0, y1, y2, y3, y4⟩ := (HS.out.pure hB).at m x hx
                  have hcov := run_cov Hcan.out Hdo.out Hu.out Hul.out HI.out Htt.out (List.mem_of_getElem? hx)
                  have Hr := Lib.hid (show x.thing = (kk : Int) → x.rd = true → rv = true from fun e h => by rw [← Hrv.out, ← e]; exact reachB_cov hcov (by omega) false h)
                  have Hw := Lib.hid (show x.thing = (kk : Int) → x.wr = true → wv = true from fun e h => by rw [← Hwv.out, ← e]; exact reachB_cov hcov (by omega) true h)
                  have HBn := Lib.hid (show ∀ o' : Obj, Below wi.heap.size wi (wr.alloc o') from fun o' => HBm.out.alloc HBm.out.size _)
                  clear hx hB hcov
                  obtain ⟨x0, x1, x2, x3, x4⟩ := x
                  dsimp only at y0 y1 y2 y3 y4
                  cases hk1' : (x0 == (kk : Int))
                  · go_wp2
                    exact ⟨⟨m + 1, by go_num, by omega, HBn.out _⟩, by simp [intOf]; omega⟩
                  · have hxk : x0 = (kk : Int) := by simpa using hk1'
                    cases x2 <;> cases x3
                    · clear hxk
                      go_wp2
                      exact ⟨⟨m + 1, by go_num, by omega, HBn.out _⟩, by simp [intOf]; omega⟩
                    · obtain rfl : wv = true := Hw.out hxk rfl
                      clear hxk
                      go_wp2
                      exact ⟨⟨m + 1, by go_num, by omega, HBn.out _⟩, by simp [intOf]; omega⟩
                    · obtain rfl : rv = true := Hr.out hxk rfl
                      clear hxk
                      go_wp2
                      exact ⟨⟨m + 1, by go_num, by omega, HBn.out _⟩, by simp [intOf]; omega⟩
                    · obtain rfl : wv = true := Hw.out hxk rfl
                      obtain rfl : rv = true := Hr.out hxk rfl
                      clear hxk
                      go_wp2
                      exact ⟨⟨m + 1, by go_num, by omega, HBn.out _⟩, by simp [intOf]; omega⟩
                · have hmn : ¬ (m : Int) < (t.slots.length : Int) := by omega
                  clear hB
                  go_wp2
                  exact ⟨⟨kk + 1, by go_num, by omega, by omega, HBm.out⟩, by simp [intOf]; omega⟩
            · have hkn : ¬ (kk : Int) ≤ (ts.length : Int) := by omega
              clear hB
              go_wp2
              exact ⟨⟨i + 1, by go_num, by omega, HBi.out.trans (HBk.out.mono hzi)⟩, by simp [intOf]; omega⟩
        · have hin : ¬ (i : Int) < (ts.length : Int) := by omega
          clear hB
          go_wp2
          go_ret
          exact ⟨rfl, HB.out.trans (HBi.out.mono HB.out.size)⟩
  · have hgt : (1048576 : Int) < (n : Int) := by omega
    clear hbig hb hL
    go_enter Tryz.func6, Tryz.ntmps6
    go_wp2
    go_ret
    exact ⟨rfl, bel⟩
end Go.Proofs.YtkbflnbjmpcjlaaGreatDoor
