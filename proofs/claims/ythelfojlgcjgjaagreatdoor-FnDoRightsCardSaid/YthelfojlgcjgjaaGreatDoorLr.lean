/- The law that no right comes of nothing, walked. Conditions: the bytes lie where their cells say; errors.errorType is laid. -/
import Derived.Test.YthelfojlgcjgjaaGreatDoorLg
import Derived.Test.YthelfojlgcjgjaaGreatDoorRn
import Derived.Test.YthelfojlgcjgjaaGreatDoorXr
set_option linter.unusedVariables false
set_option linter.unusedSimpArgs false
namespace Go.Proofs.YthelfojlgcjgjaaGreatDoor
open Go.RowKit Drw
attribute [local go_sem] Lab.val Rgt.val Cal.val Thg.val
attribute [local go_sem 5000] eql_rgt neq_rgt

set_option maxRecDepth 100000 in
set_option maxHeartbeats 4000000 in
theorem fnDoRights_c (p : Option Addr) (n cap : Nat) (w : World) (hL : Laid w) (hc : n ≤ cap) (hb : BytesAt w p n) :
    Calls Tryz.prog 7 #[.slice p n cap] w fun e w' => e = .returned (.bool true) ∧ Below w.heap.size w w' := by
  by_cases hbig : n ≤ 1048576
  · have hle : ¬ (1048576 : Int) < (n : Int) := by omega
    have Hb := Lib.hid hb
    have HL := Lib.hid hL
    clear hb hL
    go_enter Tryz.func7, Tryz.ntmps7
    go_upto_region 3 with (fail)
    go_cut [3, 4] (fun s3 s4 wz => ∃ q k ts c B, s3 = .slice q ts.length k ∧ s4 = .pointer (some ⟨B, 0, none⟩) ∧ w.heap.size ≤ B ∧ CallIn wz B c ∧ TabAt wz (.slice q ts.length k) ts ∧ 3 ≤ ts.length ∧ ts.length ≤ 8 ∧ Below w.heap.size w wz)
    case first =>
      go_wp2_with (go_at_call 8; refine (drawCallDo_c p n cap _ hc Hb.out (by omega)).mono ?_; rintro e w1 ⟨q, k, ts, ⟨ck, cr, ca, cb, cn⟩, rfl, hT, h3, h8, -, hb1⟩)
      go_meet
      have hz1 := hb1.size
      exact ⟨q, k, ts, ⟨ck, cr, ca, cb, cn⟩, w1.heap.size, rfl, rfl, hb1.size, ⟨by simp [go_sem], fun j => by simp [go_sem]⟩, hT.pure (by (repeat (with_reducible first | exact Below.refl _ _ | refine Below.alloc ?_ ?_ _ | refine below_drewN ?_ _ | refine Below.drew ?_ | refine Below.setCell ?_ ?_ _ | refine Below.trans ?_ (Below.mono (by assumption) ?_))) <;> (first | omega | (simp; try omega))), h3, h8, (by (repeat (with_reducible first | exact Below.refl _ _ | refine Below.alloc ?_ ?_ _ | refine below_drewN ?_ _ | refine Below.drew ?_ | refine Below.setCell ?_ ?_ _ | refine Below.trans ?_ (Below.mono (by assumption) ?_))) <;> (first | omega | (simp; try omega)))⟩
    case rest =>
      obtain ⟨q, k, ts, ⟨ck, cr, ca, cb, cn⟩, B, rfl, rfl, hwB, hC, hT, hl3, hl8, hB1⟩ := hcut
      obtain ⟨wx, rfl⟩ : ∃ wx : World, wx = wc := ⟨_, rfl⟩
      have hL1 := HL.out.below hB1 HL.out.size
      obtain ⟨us, an, hdo⟩ : ∃ us an, callDo ts ⟨ck, cr, ca, cb, cn⟩ = (us, an) := ⟨_, _, rfl⟩
      obtain ⟨can, hcan⟩ : ∃ can, calCan ts ⟨ck, cr, ca, cb, cn⟩ = can := ⟨_, rfl⟩
      have Hdo := Lib.hid hdo
      have Hcan := Lib.hid hcan
      have HB1 := Lib.hid hB1
      have HC := Lib.hid hC
      clear hdo hcan HL Hb hB1 hwB
      obtain ⟨⟨q0, q1, q2, q3, q4⟩, -⟩ := hC
      dsimp only at q0 q1 q2 q3 q4
      have hBs := World.block_lt_of_cell? _ _ q0
      go_upto_region 6 with (first
        | (go_at_call 10; refine (callDo_t (hL1.pure hb1) (hT.pure hb1) Hdo.out).mono ?_; rintro e w2 ⟨p2', k2, rfl, hX, hb2⟩)
        | (go_at_call 9; refine (scallDo_t (c := ⟨_, _, _, _, _⟩) hT Hdo.out).mono ?_; rintro e w1 ⟨p1, k1, rfl, hW, hb1⟩; have q0 := (HC.out.pure hb1).1.1; have q1 := (HC.out.pure hb1).1.2.1; have q2 := (HC.out.pure hb1).1.2.2.1; have q3 := (HC.out.pure hb1).1.2.2.2.1; have q4 := (HC.out.pure hb1).1.2.2.2.2))
      have hT2 := (hT.pure hb1).pure hb2
      have hW2 := hW.pure hb2
      have hC2 := (HC.out.pure hb1).pure hb2
      have hL2 := (hL1.pure hb1).pure hb2
      have hB2 : Below w.heap.size w w2 := (HB1.out.trans (hb1.mono HB1.out.size)).trans (hb2.mono (Nat.le_trans HB1.out.size hb1.size))
      clear hT hW hL1 hb1 hb2 q0 q1 q2 q3 q4 hBs HC HB1
      have HB2 := Lib.hid hB2
      have HC2 := Lib.hid hC2
      obtain ⟨⟨q0, q1, q2, q3, q4⟩, -⟩ := hC2
      dsimp only at q0 q1 q2 q3 q4
      have hBs := World.block_lt_of_cell? _ _ q0
      clear hB2
      cases can
      · go_wp2_with (first
          | (go_at_call 12; refine (ldCan_t (hT2.pure (by (repeat (with_reducible first | exact Below.refl _ _ | refine Below.alloc ?_ ?_ _ | refine below_drewN ?_ _ | refine Below.drew ?_ | refine Below.setCell ?_ ?_ _ | refine Below.trans ?_ (Below.mono (by assumption) ?_))) <;> (first | omega | (simp; try omega)))) Hcan.out).mono ?_; rintro e w4 ⟨rfl, hb4⟩; have hz4 := hb4.size)
          | (go_at_call 11; refine (ldTable_s (hX.pure (by (repeat (with_reducible first | exact Below.refl _ _ | refine Below.alloc ?_ ?_ _ | refine below_drewN ?_ _ | refine Below.drew ?_ | refine Below.setCell ?_ ?_ _ | refine Below.trans ?_ (Below.mono (by assumption) ?_))) <;> (first | omega | (simp; try omega)))) (hW2.pure (by (repeat (with_reducible first | exact Below.refl _ _ | refine Below.alloc ?_ ?_ _ | refine below_drewN ?_ _ | refine Below.drew ?_ | refine Below.setCell ?_ ?_ _ | refine Below.trans ?_ (Below.mono (by assumption) ?_))) <;> (first | omega | (simp; try omega))))).mono ?_; rintro e w3 ⟨rfl, hb3⟩; have hz3 := hb3.size; have q0 := (HC2.out.pure hb3).1.1; have q1 := (HC2.out.pure hb3).1.2.1; have q2 := (HC2.out.pure hb3).1.2.2.1; have q3 := (HC2.out.pure hb3).1.2.2.2.1; have q4 := (HC2.out.pure hb3).1.2.2.2.2)
          | (go_at_call 11; refine (ldTable_s (hX.pure (by (repeat (with_reducible first | exact Below.refl _ _ | refine Below.alloc ?_ ?_ _ | refine below_drewN ?_ _ | refine Below.drew ?_ | refine Below.setCell ?_ ?_ _ | refine Below.trans ?_ (Below.mono (by assumption) ?_))) <;> (first | omega | (simp; try omega)))) (hW2.pure (by (repeat (with_reducible first | exact Below.refl _ _ | refine Below.alloc ?_ ?_ _ | refine below_drewN ?_ _ | refine Below.drew ?_ | refine Below.setCell ?_ ?_ _ | refine Below.trans ?_ (Below.mono (by assumption) ?_))) <;> (first | omega | (simp; try omega))))).mono ?_; rintro e w5 ⟨rfl, hb5⟩; have hz5 := hb5.size))
        go_ret
        have h2 := HB2.out.size
        exact ⟨rfl, HB2.out.trans (Below.mono (show Below w2.heap.size w2 _ from (by (repeat (with_reducible first | exact Below.refl _ _ | refine Below.alloc ?_ ?_ _ | refine below_drewN ?_ _ | refine Below.drew ?_ | refine Below.setCell ?_ ?_ _ | refine Below.trans ?_ (Below.mono (by assumption) ?_))) <;> (first | omega | (simp; try omega)))) h2)⟩
      · go_upto_region 8 with (first
          | (go_at_call 12; refine (ldCan_t (hT2.pure (by (repeat (with_reducible first | exact Below.refl _ _ | refine Below.alloc ?_ ?_ _ | refine below_drewN ?_ _ | refine Below.drew ?_ | refine Below.setCell ?_ ?_ _ | refine Below.trans ?_ (Below.mono (by assumption) ?_))) <;> (first | omega | (simp; try omega)))) Hcan.out).mono ?_; rintro e w4 ⟨rfl, hb4⟩; have hz4 := hb4.size)
          | (go_at_call 11; refine (ldTable_s (hX.pure (by (repeat (with_reducible first | exact Below.refl _ _ | refine Below.alloc ?_ ?_ _ | refine below_drewN ?_ _ | refine Below.drew ?_ | refine Below.setCell ?_ ?_ _ | refine Below.trans ?_ (Below.mono (by assumption) ?_))) <;> (first | omega | (simp; try omega)))) (hW2.pure (by (repeat (with_reducible first | exact Below.refl _ _ | refine Below.alloc ?_ ?_ _ | refine below_drewN ?_ _ | refine Below.drew ?_ | refine Below.setCell ?_ ?_ _ | refine Below.trans ?_ (Below.mono (by assumption) ?_))) <;> (first | omega | (simp; try omega))))).mono ?_; rintro e w3 ⟨rfl, hb3⟩; have hz3 := hb3.size; have q0 := (HC2.out.pure hb3).1.1; have q1 := (HC2.out.pure hb3).1.2.1; have q2 := (HC2.out.pure hb3).1.2.2.1; have q3 := (HC2.out.pure hb3).1.2.2.2.1; have q4 := (HC2.out.pure hb3).1.2.2.2.2))
        have hb5 : Below w2.heap.size w2 w4 := (by (repeat (with_reducible first | exact Below.refl _ _ | refine Below.alloc ?_ ?_ _ | refine below_drewN ?_ _ | refine Below.drew ?_ | refine Below.setCell ?_ ?_ _ | refine Below.trans ?_ (Below.mono (by assumption) ?_))) <;> (first | omega | (simp; try omega)))
        have hT4 := hT2.pure hb5
        have hX4 := hX.pure hb5
        have hL4 := hL2.pure hb5
        have hC4 := HC2.out.pure hb5
        have HB4 := Lib.hid (HB2.out.trans (hb5.mono HB2.out.size))
        have HC4 := Lib.hid hC4
        clear hT2 hX hL2 HC2 HB2 hb3 hb4 hz3 hz4 q0 q1 q2 q3 q4 hBs hW2 hb5
        obtain ⟨wx, rfl⟩ : ∃ wx : World, wx = w4 := ⟨_, rfl⟩
        obtain ⟨⟨q0, q1, q2, q3, q4⟩, -⟩ := hC4
        dsimp only at q0 q1 q2 q3 q4
        have hBs := World.block_lt_of_cell? _ _ q0
        obtain ⟨j, m, tr, r, hcan⟩ := can_of Hcan.out
        have hrun : cr = (j : Int) + 1 := hcan.run
        have hca : ca = (m : Int) := hcan.a
        have hcb := hcan.b
        have hcn := hcan.n
        dsimp only at hcb hcn
        have hrok := hcan.rOk
        have h4 := hcan.four
        have hm4 := hcan.m4
        have htr := hcan.tr_at
        have hmr := hcan.r_at
        have hcap := hcan.cap
        have hslot := hcan.slot
        clear hcan
        subst hrun hca
        have hj : j < ts.length := (List.getElem?_eq_some_iff.1 htr).1
        obtain ⟨b, o, sv, qv, rfl, hbl, hS, -, -, -, -, -, -, c5, -⟩ := hT4.at j tr htr
        obtain ⟨ps, cs, rfl, hs1, hs2⟩ := hS.len
        rw [h4] at c5 hs1 hS
        have hs1' : (4 : Nat) ≤ cs := hs1
        obtain ⟨bz, oz, rfl, hbz, r0, r1, r2, r3, r4⟩ := hS.at m r hmr
        have hx0 : (0 : Int) ≤ (j : Int) := by omega
        have hxn : (j : Int) < (ts.length : Int) := by omega
        have hm0 : (0 : Int) ≤ (m : Int) := by omega
        have hm4' : (m : Int) < 4 := by omega
        have hw1 : IntKind.i64.wrap ((j : Int) + 1 - 1) = (j : Int) := by rw [show (j : Int) + 1 - 1 = j by omega]; exact IntWalk.i64_in _ (by omega)
        have hw2 : IntKind.i64.wrap (j : Int) = (j : Int) := IntWalk.i64_in _ (by omega)
        obtain ⟨r0', r1', r2', r3', r4'⟩ := r
        dsimp only at r0 r1 r2 r3 r4
        obtain ⟨W0, rfl⟩ : ∃ W0 : World, W0 = wx := ⟨_, rfl⟩
        have HT0 := Lib.hid hT4
        have HX0 := Lib.hid hX4
        have HB0 := HB4
        have hslot' := hslot
        obtain ⟨hlen, hrf⟩ := rights_facts Hcan.out Hdo.out
        have hok := had_ok (canB.1 Hcan.out)
        have Hrf := Lib.hid hrf
        have Hok := Lib.hid hok
        have HS4 := Lib.hid hS
        have Hslot := Lib.hid hslot
        have Hlen := Lib.hid hlen
        have Htrg := Lib.hid (show getT ts ((j : Int) + 1) = tr from getT_at htr)
        clear hrf hok hslot hslot' hlen
        obtain ⟨i0, hi0, hz0, hz1', hz2'⟩ := info_parts info_rgt
        have hs4 : tr.slots.length ≤ 4 := by omega
        go_upto_region 9 with (first
          | (at_builtin; refine wpList_append_rows rfl (.tmp 57) (.tmp 64) 36 rfl W0.heap.size 33 i0 _ 5 24 Tryz.underlying36 hi0 hz0 hz1' hz2' rfl (by decide) (.slice (some ⟨W0.heap.size, 0, none⟩) 0 0) 0 [] rfl (own_lit W0.heap.size rfl (Nat.le_refl _)) _ (tr.slots.map Rgt.cells) rfl (flat_rgts _) (by simp only [List.length_map, h4] at *; exact Rows.pure HS4.out (by (repeat (with_reducible first | exact Below.refl _ _ | refine Below.alloc ?_ ?_ _ | refine below_drewN ?_ _ | refine Below.drew ?_ | refine Below.setCell ?_ ?_ _ | refine Below.trans ?_ (Below.mono (by assumption) ?_))) <;> (first | omega | (simp; try omega)))) (by simp [maxLen] <;> omega) (by simp <;> omega) (by simp <;> omega) ?_; intro v1 w1 ho1 hg1))
        simp only [Nat.zero_add, List.nil_append, List.length_map] at ho1
        have hb1 : Below W0.heap.size W0 w1 := ((Below.refl _ W0).alloc (Nat.le_refl _) _).grown hg1 (by simp) (fun k hk => by simp [Value.ownBlock] at hk; omega)
        rw [h4] at ho1
        obtain ⟨q1', c1', rfl⟩ := own_slice_n ho1
        have hT5 := hT4.pure hb1
        have hX5 := hX4.pure hb1
        have hL5 := hL4.pure hb1
        have hC5 := HC4.out.pure hb1
        have HB5 := Lib.hid (HB4.out.trans (hb1.mono HB4.out.size))
        obtain ⟨hc1, -⟩ := bcell hb1
        rw [← hc1 _ _ hBs] at q0 q1 q2 q3 q4
        rw [← hc1 _ _ hbl] at c5
        rw [← hc1 _ _ hbz] at r0 r1 r2 r3 r4
        have hS5 := HS4.out.pure hb1
        have HO := Lib.hid ho1
        have hBs1 := Nat.lt_of_lt_of_le hBs hb1.size
        have hbl1 := Nat.lt_of_lt_of_le hbl hb1.size
        have hbz1 := Nat.lt_of_lt_of_le hbz hb1.size
        have Hxw := Lib.hid hb1
        clear hT4 hX4 hL4 HC4 HB4 hc1 hg1 ho1 hb1 HS4 hBs hbl hbz
        have hT4 := hT5
        have hX4 := hX5
        have hL4 := hL5
        have HC4 := Lib.hid hC5
        have HB4 := HB5
        have hS := hS5
        have hBs := hBs1
        have hbl := hbl1
        have hbz := hbz1
        clear hT5 hX5 hL5 HB5 hS5 hC5 hBs1 hbl1 hbz1
        obtain ⟨wx, rfl⟩ : ∃ wx : World, wx = w1 := ⟨_, rfl⟩
        go_upto_region 9 with (fail)
        go_cut [10] (fun s9 wz => ∃ D, s9 = .pointer (some ⟨D, 0, none⟩) ∧ (wz.cell? ⟨D, 0, none⟩ = some (.int .i64 r0') ∧ wz.cell? ⟨D, 1, none⟩ = some (.int .i64 r1') ∧ wz.cell? ⟨D, 2, none⟩ = some (.bool r2') ∧ wz.cell? ⟨D, 3, none⟩ = some (.bool r3') ∧ wz.cell? ⟨D, 4, none⟩ = some (.bool r4')) ∧ Below wx.heap.size wx wz)
        case first =>
          go_region_held3 (fun w' => w'.cell? ⟨B, 1, none⟩ = some (.int .i64 ((j : Int) + 1)) ∧ w'.cell? ⟨B, 2, none⟩ = some (.int .i64 (m : Int)) ∧ w'.cell? ⟨b, o + j * 8 + 5, none⟩ = some (.slice (some ⟨bz, oz, none⟩) 4 cs) ∧ w'.cell? ⟨bz, oz + m * 5, none⟩ = some (.int .i64 r0') ∧ w'.cell? ⟨bz, oz + m * 5 + 1, none⟩ = some (.int .i64 r1') ∧ w'.cell? ⟨bz, oz + m * 5 + 2, none⟩ = some (.bool r2') ∧ w'.cell? ⟨bz, oz + m * 5 + 3, none⟩ = some (.bool r3') ∧ w'.cell? ⟨bz, oz + m * 5 + 4, none⟩ = some (.bool r4')) (go_keep) (fail)
          all_goals (go_wp2; go_meet)
          all_goals exact ⟨_, rfl, by simp [go_sem], (by (repeat (with_reducible first | exact Below.refl _ _ | refine Below.alloc ?_ ?_ _ | refine below_drewN ?_ _ | refine Below.drew ?_ | refine Below.setCell ?_ ?_ _ | refine Below.trans ?_ (Below.mono (by assumption) ?_))) <;> (first | omega | (simp; try omega)))⟩
        case rest =>
          obtain ⟨D, rfl, hD, hBy⟩ := hcut
          obtain ⟨wy, rfl⟩ : ∃ wy : World, wy = wc := ⟨_, rfl⟩
          have hzy := hBy.size
          have hTy := hT4.pure hBy
          have hXy := hX4.pure hBy
          have hCy := HC4.out.pure hBy
          have hLy := hL4.pure hBy
          have HBy := Lib.hid (HB4.out.trans (hBy.mono HB4.out.size))
          have HBxy := Lib.hid hBy
          clear q0 q1 q2 q3 q4 r0 r1 r2 r3 r4 c5 hS hT4 hX4 HC4 hBs hbl hbz hs1 hs2 hBy hL4 HB4
          obtain ⟨⟨q0, q1, q2, q3, q4⟩, -⟩ := id hCy
          dsimp only at q0 q1 q2 q3 q4
          obtain ⟨g0, g1, g2, g3, g4⟩ := hD
          have hBs := World.block_lt_of_cell? _ _ q0
          have hDs := World.block_lt_of_cell? _ _ g0
          have hown := own_below HO.out HBxy.out
          have hszxy := HBxy.out.size
          have hbW : Below W0.heap.size W0 wy := Hxw.out.trans (HBxy.out.mono Hxw.out.size)
          have hw0 : W0.heap.size ≤ wy.heap.size := hbW.size
          have HW := Lib.hid hbW
          clear hbW
          have HO2 := Lib.hid hown
          clear hown
          obtain ⟨dd, hdd⟩ : ∃ dd, (ck == 4 && decide (0 < r0')) = dd := ⟨_, rfl⟩
          have Hdd := Lib.hid hdd
          have HTy := Lib.hid hTy
          have HXy := Lib.hid hXy
          have Hcap := Lib.hid hcap
          have Hrok := Lib.hid hrok
          clear hdd hXy hcap hrok hmr htr
          go_upto_region 10 with (fail)
          go_cut [84] (fun s84 wz => s84 = .bool dd ∧ wz = wy)
          case first =>
            by_cases hk4 : ck = 4
            · subst hk4
              go_wp2
              go_meet
              exact ⟨by rw [← Hdd.out]; simp, rfl⟩
            · have hk4' : (ck == 4) = false := by simpa using hk4
              go_wp2
              go_meet
              exact ⟨by rw [← Hdd.out, hk4']; rfl, rfl⟩
          case rest =>
            obtain ⟨rfl, rfl⟩ := hcut
            obtain ⟨wy, rfl⟩ : ∃ wy : World, wy = wc := ⟨_, rfl⟩
            have hr00 : r0' ≠ 0 → 0 < r0' := by
              intro h
              obtain ⟨x, hxe, -⟩ := cap_thing Hcap.out h
              dsimp only at hxe
              omega
            have hhad : had ts ⟨ck, (j : Int) + 1, (m : Int), cb, cn⟩ = tr.slots ++ (if dd = true then (getT ts r0').slots else []) := by
              unfold had
              dsimp only
              rw [Htrg.out, Hslot.out]
              dsimp only
              congr 1
              rw [← Hdd.out]
              by_cases h0 : r0' = 0
              · subst h0; simp
              · have := hr00 h0
                simp [h0, this]
            have Hhad := Lib.hid hhad
            obtain ⟨hd, hhd⟩ : ∃ hd, had ts ⟨ck, (j : Int) + 1, (m : Int), cb, cn⟩ = hd := ⟨_, rfl⟩
            rw [hhd] at Hhad Hok
            have Hhd := Lib.hid (show ∀ (P : List Rgt → Prop), P (had ts ⟨ck, (j : Int) + 1, (m : Int), cb, cn⟩) → P hd from fun P h => by rw [← hhd]; exact h)
            have Hrf' := Lib.hid (hhd ▸ Hrf.out)
            clear hhad hhd hr00
            go_upto_if 84 with (fail)
            go_cut [9] (fun s9 wz => ∃ q c, s9 = .slice q hd.length c ∧ RgtsAt wz (.slice q hd.length c) hd ∧ Below W0.heap.size W0 wz)
            case first =>
              cases dd
              · have hh : hd = tr.slots := by rw [Hhad.out]; simp
                go_wp2
                go_meet
                have ho := HO2.out
                refine ⟨q1', c1', ?_, ?_, HW.out⟩
                · rw [hh, h4]
                · rw [hh, h4]
                  exact Rows.of_own (flat_rgts _) (by rw [List.length_map, h4]; exact ho)
              · have hd1 := Hdd.out
                simp only [Bool.and_eq_true, beq_iff_eq, decide_eq_true_eq] at hd1
                obtain ⟨x, hxe, htx, hex, -⟩ := cap_thing Hcap.out (show r0' ≠ 0 by omega)
                dsimp only at hxe htx hex
                subst hxe
                obtain ⟨tx, htxe⟩ : ∃ tx, getT ts ((x : Int) + 1) = tx := ⟨_, rfl⟩
                rw [htxe] at htx
                have hxl : x < ts.length := (List.getElem?_eq_some_iff.1 htx).1
                have htx4 : tx.slots.length ≤ 4 := by
                  have hto := tab_thgOk (canB.1 Hcan.out).tab hex
                  rw [htxe] at hto
                  by_cases h : tx.kind = 2 ∨ tx.kind = 3
                  · rw [slots_len hto h]; omega
                  · rw [slots_none hto h]; simp
                have hh : hd = tr.slots ++ tx.slots := by rw [Hhad.out, htxe]; simp
                obtain ⟨b1, o1, sv1, qv1, e1, hb1', hS1, -, -, -, -, -, -, d5, -⟩ := HTy.out.at x tx htx
                cases e1
                obtain ⟨ps1, cs1, rfl, -, -⟩ := hS1.len
                have HS1 := Lib.hid hS1
                have Hh := Lib.hid hh
                have hx00 : (0 : Int) ≤ (x : Int) := by omega
                have hxn0 : (x : Int) < (ts.length : Int) := by omega
                have hz1 : IntKind.i64.wrap ((x : Int) + 1 - 1) = (x : Int) := by rw [show (x : Int) + 1 - 1 = x by omega]; exact IntWalk.i64_in _ (by omega)
                have hz2 : IntKind.i64.wrap (x : Int) = (x : Int) := IntWalk.i64_in _ (by omega)
                have hn8 : 4 + tx.slots.length ≤ 8 := by omega
                clear hh hS1 htx htxe hex hd1
                go_wp2_with (first
                  | (at_builtin; refine wpList_append_rows rfl (.tmp 85) (.tmp 92) 36 rfl W0.heap.size 33 i0 _ 5 24 Tryz.underlying36 hi0 hz0 hz1' hz2' rfl (by decide) (.slice q1' 4 c1') 4 ((tr.slots.map Rgt.cells).flatten) rfl HO2.out _ (tx.slots.map Rgt.cells) rfl (flat_rgts _) (by simp only [List.length_map] at *; exact HS1.out) (by simp [maxLen] <;> omega) (by simp <;> omega) hw0 ?_; intro v1 w1 ho1 hg1))
                go_meet
                simp only [List.length_map] at ho1
                obtain ⟨q2', c2', rfl⟩ := own_slice_n ho1
                have hlen2 : hd.length = 4 + tx.slots.length := by rw [Hh.out, List.length_append, h4]
                refine ⟨q2', c2', ?_, ?_, ?_⟩
                · rw [hlen2]
                · rw [hlen2]
                  have := Rows.of_own (flat_rgts hd) (show w1.ownsRow W0.heap.size 33 5 (.slice q2' (4 + tx.slots.length) c2') (hd.map Rgt.cells).length (hd.map Rgt.cells).flatten by rw [List.length_map, hlen2, Hh.out, List.map_append, List.flatten_append]; exact ho1)
                  exact this
                · exact Below.grown HW.out hg1 hw0 (fun k hk => (HO2.out.lt k hk).1)
            case rest =>
              obtain ⟨qh, ch, rfl, hH, hBz⟩ := hcut
              obtain ⟨wz, rfl⟩ : ∃ wy : World, wy = wc := ⟨_, rfl⟩
              have HH := Lib.hid hH
              have HZ := Lib.hid hBz
              have HTz := Lib.hid (HT0.out.pure hBz)
              have HXz := Lib.hid (HX0.out.pure hBz)
              have hlu : us.length ≤ 8 := by rw [Hlen.out]; exact hl8
              have hlut : us.length = ts.length := Hlen.out
              have Hlut := Lib.hid hlut
              clear hH hBz hlut q0 q1 q2 q3 q4 g0 g1 g2 g3 g4 hBs hDs HTy HXy
              go_wp2
              go_loopw [11] (fun s11 wr => ∃ i : Nat, s11 = .int .i64 (i : Int) ∧ i ≤ us.length ∧ Below wz.heap.size wz wr) (fun s11 _ => us.length - (intOf s11).toNat)
              case atStart => exact ⟨0, rfl, by omega, Below.refl _ _⟩
              case round =>
                obtain ⟨i, rfl, hi, hBr⟩ := hrel
                obtain ⟨wr', rfl⟩ : ∃ wy : World, wy = wr := ⟨_, rfl⟩
                by_cases hlt : i < us.length
                · obtain ⟨ti, ui, hti, hui, hll, hf⟩ := Hrf.out i (by rw [← Hlut.out]; exact hlt)
                  obtain ⟨bt, ot, svt, qvt, et, hbt, hSt, -, -, -, -, -, -, t5, -⟩ := HTz.out.at i ti hti
                  cases et
                  obtain ⟨bu, ou, svu, qvu, eu, hbu, hSu, -, -, -, -, -, -, u5, -⟩ := HXz.out.at i ui hui
                  subst eu
                  obtain ⟨pst, cst, rfl, -, -⟩ := hSt.len
                  obtain ⟨psu, csu, rfl, hcu1, hcu2⟩ := hSu.len
                  unfold maxLen at hcu2
                  have hi0 : (0 : Int) ≤ (i : Int) := by omega
                  have hiu : (i : Int) < (us.length : Int) := by omega
                  have hit : (i : Int) < (ts.length : Int) := by have := Hlut.out; omega
                  have HSt := Lib.hid hSt
                  have HSu := Lib.hid hSu
                  have Hf := Lib.hid hf
                  have Hll := Lib.hid hll
                  have HBr := Lib.hid hBr
                  have U5 := Lib.hid u5
                  have T5 := Lib.hid t5
                  obtain ⟨hcr, -⟩ := bcell hBr
                  rw [← hcr _ _ hbu] at u5
                  clear hcr hSt hSu hf hti hui hll t5
                  go_wp2
                  go_loopw [12] (fun s12 wq => ∃ k : Nat, s12 = .int .i64 (k : Int) ∧ k ≤ ui.slots.length ∧ Below wz.heap.size wz wq) (fun s12 _ => ui.slots.length - (intOf s12).toNat)
                  case atStart => exact ⟨0, rfl, by omega, HBr.out⟩
                  case round =>
                    obtain ⟨k, rfl, hk, hBq⟩ := hrel
                    obtain ⟨wq', rfl⟩ : ∃ wy : World, wy = wr := ⟨_, rfl⟩
                    have HBq := Lib.hid hBq
                    obtain ⟨hcq, -⟩ := bcell hBq
                    have u5 := (hcq _ _ hbu).trans U5.out
                    have hbuq := Nat.lt_of_lt_of_le hbu hBq.size
                    clear hcq
                    by_cases hkl : k < ui.slots.length
                    · obtain ⟨y, hy⟩ : ∃ y, ui.slots[k]? = some y := ⟨_, List.getElem?_eq_getElem hkl⟩
                      obtain ⟨z, hz, hyz⟩ := Hf.out k y hy
                      obtain ⟨bY, oY, rfl, hbY, y0, y1, y2, y3, y4⟩ := (HSu.out.pure HBq.out).at k y hy
                      obtain ⟨bZ, oZ, rfl, hbZ, z0, z1, z2, z3, z4⟩ := (HSt.out.pure HBq.out).at k z hz
                      have hk0 : (0 : Int) ≤ (k : Int) := by omega
                      have hku : (k : Int) < (ui.slots.length : Int) := by omega
                      have hkt : (k : Int) < (ti.slots.length : Int) := by have := Hll.out; omega
                      have t5 := (bcell HBq.out).1 _ _ hbt |>.trans T5.out
                      have Hyz := Lib.hid hyz
                      have hbtq := Nat.lt_of_lt_of_le hbt HBq.out.size
                      obtain ⟨a0, a1, a2, a3, a4⟩ := y
                      obtain ⟨e0, e1, e2, e3, e4⟩ := z
                      dsimp only at y0 y1 y2 y3 y4 z0 z1 z2 z3 z4
                      clear hy hz hyz
                      go_upto_region 18 with (fail)
                      go_cut [13] (fun s13 wv => ∃ E, s13 = .pointer (some ⟨E, 0, none⟩) ∧ (wv.cell? ⟨E, 0, none⟩ = some (.int .i64 a0) ∧ wv.cell? ⟨E, 1, none⟩ = some (.int .i64 a1) ∧ wv.cell? ⟨E, 2, none⟩ = some (.bool a2) ∧ wv.cell? ⟨E, 3, none⟩ = some (.bool a3) ∧ wv.cell? ⟨E, 4, none⟩ = some (.bool a4)) ∧ Below wq'.heap.size wq' wv)
                      case first =>
                        go_wp2
                        go_meet
                        exact ⟨_, rfl, by simp [go_sem], (by (repeat (with_reducible first | exact Below.refl _ _ | refine Below.alloc ?_ ?_ _ | refine below_drewN ?_ _ | refine Below.drew ?_ | refine Below.setCell ?_ ?_ _ | refine Below.trans ?_ (Below.mono (by assumption) ?_))) <;> (first | omega | (simp; try omega)))⟩
                      case rest =>
                        obtain ⟨E, rfl, hE, hBv⟩ := hcut
                        obtain ⟨wv, rfl⟩ : ∃ wy : World, wy = wc := ⟨_, rfl⟩
                        obtain ⟨hcv, -⟩ := bcell hBv
                        have hEs := World.block_lt_of_cell? _ _ hE.1
                        have hbZv := Nat.lt_of_lt_of_le hbZ hBv.size
                        have hbtv := Nat.lt_of_lt_of_le hbtq hBv.size
                        rw [← hcv _ _ hbZ] at z0 z1 z2 z3 z4
                        rw [← hcv _ _ hbtq] at t5
                        have hBzv : Below wz.heap.size wz wv := HBq.out.trans (hBv.mono HBq.out.size)
                        have HBzv := Lib.hid hBzv
                        clear y0 y1 y2 y3 y4 u5 hcv hBv hBq hBzv
                        by_cases he : (⟨a0, a1, a2, a3, a4⟩ : Rgt) = ⟨e0, e1, e2, e3, e4⟩
                        · cases he
                          have hrr : rgtEq ⟨a0, a1, a2, a3, a4⟩ ⟨a0, a1, a2, a3, a4⟩ = true := rgtEq_iff.2 rfl
                          obtain ⟨h0, h1, h2, h3, h4'⟩ := hE
                          go_upto_region 19 with (fail)
                          go_quiet (fail)
                          go_wp2
                          go_roundw
                          case rel => exact ⟨k + 1, by go_num, by omega, (by first | exact HBzv.out | exact below_drewN HBzv.out _)⟩
                          case measure => simp [intOf]; omega
                        · have hrr : rgtEq ⟨a0, a1, a2, a3, a4⟩ ⟨e0, e1, e2, e3, e4⟩ = false := rgtEq_not.2 he
                          obtain ⟨hyo, hyx⟩ := Hyz.out.resolve_left he
                          have hyx' := Hhd.out (fun l => a0 = 0 ∨ ∃ s ∈ l, rgtIn ⟨a0, a1, a2, a3, a4⟩ s = true) hyx
                          have HI := Lib.hid (fun (w' : World) (hb : Below wv.heap.size wv w') => reachIn_c ⟨a0, a1, a2, a3, a4⟩ hd qh ch w' (HH.out.pure (HBzv.out.trans (hb.mono HBzv.out.size))) Hok.out hyo hyx')
                          have HS := Lib.hid (show ∀ w' : World, Below wv.heap.size wv w' → (Below wv.heap.size wv w' ∧ (w'.cell? ⟨E, 0, none⟩ = some (.int .i64 a0) ∧ w'.cell? ⟨E, 1, none⟩ = some (.int .i64 a1) ∧ w'.cell? ⟨E, 2, none⟩ = some (.bool a2) ∧ w'.cell? ⟨E, 3, none⟩ = some (.bool a3) ∧ w'.cell? ⟨E, 4, none⟩ = some (.bool a4)) ∧ w'.cell? ⟨b, o + i * 8 + 5, none⟩ = some (.slice (some ⟨bZ, oZ, none⟩) ti.slots.length cst) ∧ w'.cell? ⟨bZ, oZ + k * 5, none⟩ = some (.int .i64 e0) ∧ w'.cell? ⟨bZ, oZ + k * 5 + 1, none⟩ = some (.int .i64 e1) ∧ w'.cell? ⟨bZ, oZ + k * 5 + 2, none⟩ = some (.bool e2) ∧ w'.cell? ⟨bZ, oZ + k * 5 + 3, none⟩ = some (.bool e3) ∧ w'.cell? ⟨bZ, oZ + k * 5 + 4, none⟩ = some (.bool e4)) from
                            fun w' h => by
                              obtain ⟨hc', -⟩ := bcell h
                              exact ⟨h, ⟨(hc' _ _ hEs).trans hE.1, (hc' _ _ hEs).trans hE.2.1, (hc' _ _ hEs).trans hE.2.2.1, (hc' _ _ hEs).trans hE.2.2.2.1, (hc' _ _ hEs).trans hE.2.2.2.2⟩, (hc' _ _ hbtv).trans t5, (hc' _ _ hbZv).trans z0, (hc' _ _ hbZv).trans z1, (hc' _ _ hbZv).trans z2, (hc' _ _ hbZv).trans z3, (hc' _ _ hbZv).trans z4⟩)
                          clear hE t5 z0 z1 z2 z3 z4 hyo hyx hyx' he
                          go_upto_region 19 with (fail)
                          first | (go_region_held3 (fun w' => Below wv.heap.size wv w' ∧ (w'.cell? ⟨E, 0, none⟩ = some (.int .i64 a0) ∧ w'.cell? ⟨E, 1, none⟩ = some (.int .i64 a1) ∧ w'.cell? ⟨E, 2, none⟩ = some (.bool a2) ∧ w'.cell? ⟨E, 3, none⟩ = some (.bool a3) ∧ w'.cell? ⟨E, 4, none⟩ = some (.bool a4)) ∧ w'.cell? ⟨b, o + i * 8 + 5, none⟩ = some (.slice (some ⟨bZ, oZ, none⟩) ti.slots.length cst) ∧ w'.cell? ⟨bZ, oZ + k * 5, none⟩ = some (.int .i64 e0) ∧ w'.cell? ⟨bZ, oZ + k * 5 + 1, none⟩ = some (.int .i64 e1) ∧ w'.cell? ⟨bZ, oZ + k * 5 + 2, none⟩ = some (.bool e2) ∧ w'.cell? ⟨bZ, oZ + k * 5 + 3, none⟩ = some (.bool e3) ∧ w'.cell? ⟨bZ, oZ + k * 5 + 4, none⟩ = some (.bool e4))
                            (first | assumption | exact HS.out _ (Below.drew (Below.refl _ _)) | (have hX := And.left (by assumption : Below wv.heap.size wv _ ∧ _); exact HS.out _ (hX.trans (hb3.mono hX.size))))
                            (first | (go_at_call 20; have hX := And.left (by assumption : Below wv.heap.size wv _ ∧ _); refine (HI.out _ hX).mono ?_; rintro e w3 ⟨rfl, hb3⟩))) | fail
                          all_goals
                            have HX := Lib.hid (And.left (by assumption : Below wv.heap.size wv _ ∧ _))
                            go_wp2
                            go_roundw
                            case rel => exact ⟨k + 1, by go_num, by omega, HBzv.out.trans (HX.out.mono HBzv.out.size)⟩
                            case measure => simp [intOf]; omega
                    · go_wp2
                      go_roundw
                      case rel => exact ⟨i + 1, by go_num, by omega, HBq.out⟩
                      case measure => simp [intOf]; omega
                · go_wp2
                  go_ret
                  exact ⟨rfl, HB0.out.trans ((HZ.out.trans (hBr.mono HZ.out.size)).mono HB0.out.size)⟩
  · have hgt : (1048576 : Int) < (n : Int) := by omega
    clear hbig hb hL
    go_enter Tryz.func7, Tryz.ntmps7
    go_wp2
    go_ret
    exact ⟨rfl, (by (repeat (with_reducible first | exact Below.refl _ _ | refine Below.alloc ?_ ?_ _ | refine below_drewN ?_ _ | refine Below.drew ?_ | refine Below.setCell ?_ ?_ _ | refine Below.trans ?_ (Below.mono (by assumption) ?_))) <;> (first | omega | (simp; try omega)))⟩
end Go.Proofs.YthelfojlgcjgjaaGreatDoor
