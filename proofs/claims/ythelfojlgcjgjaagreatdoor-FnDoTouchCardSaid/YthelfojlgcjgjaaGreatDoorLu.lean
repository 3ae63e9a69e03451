/- The law on what a call may change, walked. Conditions: the bytes lie where their cells say; errors.errorType is laid. -/
import Derived.Test.YthelfojlgcjgjaaGreatDoorLg
import Derived.Test.YthelfojlgcjgjaaGreatDoorTr
import Derived.Test.YthelfojlgcjgjaaGreatDoorXu
set_option linter.unusedVariables false
set_option linter.unusedSimpArgs false
namespace Go.Proofs.YthelfojlgcjgjaaGreatDoor
open Go.RowKit Drw
attribute [local go_sem] Lab.val Rgt.val Cal.val Thg.val
attribute [local go_sem 5000] eql_rgt neq_rgt

set_option maxRecDepth 100000 in
set_option maxHeartbeats 4000000 in
theorem fnDoTouch_c (p : Option Addr) (n cap : Nat) (w : World) (hL : Laid w) (hc : n ≤ cap) (hb : BytesAt w p n) :
    Calls Tryz.prog 5 #[.slice p n cap] w fun e w' => e = .returned (.bool true) ∧ Below w.heap.size w w' := by
  by_cases hbig : n ≤ 1048576
  · have hle : ¬ (1048576 : Int) < (n : Int) := by omega
    have Hb := Lib.hid hb
    have HL := Lib.hid hL
    clear hb hL
    go_enter Tryz.func5, Tryz.ntmps5
    go_upto_region 3 with (fail)
    go_cut [3, 4] (fun s3 s4 wz => ∃ q k ts c B, s3 = .slice q ts.length k ∧ s4 = .pointer (some ⟨B, 0, none⟩) ∧ w.heap.size ≤ B ∧ CallIn wz B c ∧ TabAt wz (.slice q ts.length k) ts ∧ 3 ≤ ts.length ∧ ts.length ≤ 8 ∧ Below w.heap.size w wz)
    case first =>
      go_wp2_with (go_at_call 8; refine (drawCallDo_c p n cap _ hc Hb.out (by omega)).mono ?_; rintro e w1 ⟨q, k, ts, ⟨ck, cr, ca, cb, cn⟩, rfl, hT, h3, h8, -, hb1⟩)
      go_meet
      have hz1 := hb1.size
      exact ⟨q, k, ts, ⟨ck, cr, ca, cb, cn⟩, w1.heap.size, rfl, rfl, hb1.size, ⟨by simp [go_sem], fun j => by simp [go_sem]⟩, hT.pure (by (repeat (with_reducible first | exact Below.refl _ _ | refine Below.alloc ?_ ?_ _ | refine below_drewN ?_ _ | refine Below.drew ?_ | refine Below.setCell ?_ ?_ _ | refine Below.trans ?_ (Below.mono (by assumption) ?_))) <;> (first | omega | (simp; try omega))), h3, h8, (by (repeat (with_reducible first | exact Below.refl _ _ | refine Below.alloc ?_ ?_ _ | refine below_drewN ?_ _ | refine Below.drew ?_ | refine Below.setCell ?_ ?_ _ | refine Below.trans ?_ (Below.mono (by assumption) ?_))) <;> (first | omega | (simp; try omega)))⟩
    case rest =>
      obtain ⟨q, k, ts, ⟨ck, cr, ca, cb, cn⟩, B, rfl, rfl, hwB, hC, hT, hl3, hl8, hB1⟩ := hcut
      obtain ⟨wx, rfl⟩ : ∃ wx : World, wx = wc := ⟨_, rfl⟩
      have hL1 := HL.out.below hB1 HL.out.size
      obtain ⟨us, an, hdo⟩ : ∃ us an, callDo ts ⟨ck, cr, ca, cb, cn⟩ = (us, an) := ⟨_, _, rfl⟩
      obtain ⟨can, hcan⟩ : ∃ can, calCan ts ⟨ck, cr, ca, cb, cn⟩ = can := ⟨_, rfl⟩
      have Hdo := Lib.hid hdo
      have Hcan := Lib.hid hcan
      have HB1 := Lib.hid hB1
      have HC := Lib.hid hC
      clear hdo hcan HL Hb hB1 hwB
      obtain ⟨⟨q0, q1, q2, q3, q4⟩, -⟩ := hC
      dsimp only at q0 q1 q2 q3 q4
      have hBs := World.block_lt_of_cell? _ _ q0
      go_upto_region 6 with (first
        | (go_at_call 10; refine (callDo_t (hL1.pure hb1) (hT.pure hb1) Hdo.out).mono ?_; rintro e w2 ⟨p2', k2, rfl, hX, hb2⟩)
        | (go_at_call 9; refine (scallDo_t (c := ⟨_, _, _, _, _⟩) hT Hdo.out).mono ?_; rintro e w1 ⟨p1, k1, rfl, hW, hb1⟩; have q0 := (HC.out.pure hb1).1.1; have q1 := (HC.out.pure hb1).1.2.1; have q2 := (HC.out.pure hb1).1.2.2.1; have q3 := (HC.out.pure hb1).1.2.2.2.1; have q4 := (HC.out.pure hb1).1.2.2.2.2))
      have hT2 := (hT.pure hb1).pure hb2
      have hW2 := hW.pure hb2
      have hC2 := (HC.out.pure hb1).pure hb2
      have hL2 := (hL1.pure hb1).pure hb2
      have hB2 : Below w.heap.size w w2 := (HB1.out.trans (hb1.mono HB1.out.size)).trans (hb2.mono (Nat.le_trans HB1.out.size hb1.size))
      clear hT hW hL1 hb1 hb2 q0 q1 q2 q3 q4 hBs HC HB1
      have HB2 := Lib.hid hB2
      have HC2 := Lib.hid hC2
      obtain ⟨⟨q0, q1, q2, q3, q4⟩, -⟩ := hC2
      dsimp only at q0 q1 q2 q3 q4
      have hBs := World.block_lt_of_cell? _ _ q0
      clear hB2
      cases can
      · go_wp2_with (first
          | (go_at_call 12; refine (ldCan_t (hT2.pure (by (repeat (with_reducible first | exact Below.refl _ _ | refine Below.alloc ?_ ?_ _ | refine below_drewN ?_ _ | refine Below.drew ?_ | refine Below.setCell ?_ ?_ _ | refine Below.trans ?_ (Below.mono (by assumption) ?_))) <;> (first | omega | (simp; try omega)))) Hcan.out).mono ?_; rintro e w4 ⟨rfl, hb4⟩; have hz4 := hb4.size)
          | (go_at_call 11; refine (ldTable_s (hX.pure (by (repeat (with_reducible first | exact Below.refl _ _ | refine Below.alloc ?_ ?_ _ | refine below_drewN ?_ _ | refine Below.drew ?_ | refine Below.setCell ?_ ?_ _ | refine Below.trans ?_ (Below.mono (by assumption) ?_))) <;> (first | omega | (simp; try omega)))) (hW2.pure (by (repeat (with_reducible first | exact Below.refl _ _ | refine Below.alloc ?_ ?_ _ | refine below_drewN ?_ _ | refine Below.drew ?_ | refine Below.setCell ?_ ?_ _ | refine Below.trans ?_ (Below.mono (by assumption) ?_))) <;> (first | omega | (simp; try omega))))).mono ?_; rintro e w3 ⟨rfl, hb3⟩; have hz3 := hb3.size; have q0 := (HC2.out.pure hb3).1.1; have q1 := (HC2.out.pure hb3).1.2.1; have q2 := (HC2.out.pure hb3).1.2.2.1; have q3 := (HC2.out.pure hb3).1.2.2.2.1; have q4 := (HC2.out.pure hb3).1.2.2.2.2)
          | (go_at_call 11; refine (ldTable_s (hX.pure (by (repeat (with_reducible first | exact Below.refl _ _ | refine Below.alloc ?_ ?_ _ | refine below_drewN ?_ _ | refine Below.drew ?_ | refine Below.setCell ?_ ?_ _ | refine Below.trans ?_ (Below.mono (by assumption) ?_))) <;> (first | omega | (simp; try omega)))) (hW2.pure (by (repeat (with_reducible first | exact Below.refl _ _ | refine Below.alloc ?_ ?_ _ | refine below_drewN ?_ _ | refine Below.drew ?_ | refine Below.setCell ?_ ?_ _ | refine Below.trans ?_ (Below.mono (by assumption) ?_))) <;> (first | omega | (simp; try omega))))).mono ?_; rintro e w5 ⟨rfl, hb5⟩; have hz5 := hb5.size))
        go_ret
        have h2 := HB2.out.size
        exact ⟨rfl, HB2.out.trans (Below.mono (show Below w2.heap.size w2 _ from (by (repeat (with_reducible first | exact Below.refl _ _ | refine Below.alloc ?_ ?_ _ | refine below_drewN ?_ _ | refine Below.drew ?_ | refine Below.setCell ?_ ?_ _ | refine Below.trans ?_ (Below.mono (by assumption) ?_))) <;> (first | omega | (simp; try omega)))) h2)⟩
      · go_upto_region 8 with (first
          | (go_at_call 12; refine (ldCan_t (hT2.pure (by (repeat (with_reducible first | exact Below.refl _ _ | refine Below.alloc ?_ ?_ _ | refine below_drewN ?_ _ | refine Below.drew ?_ | refine Below.setCell ?_ ?_ _ | refine Below.trans ?_ (Below.mono (by assumption) ?_))) <;> (first | omega | (simp; try omega)))) Hcan.out).mono ?_; rintro e w4 ⟨rfl, hb4⟩; have hz4 := hb4.size)
          | (go_at_call 11; refine (ldTable_s (hX.pure (by (repeat (with_reducible first | exact Below.refl _ _ | refine Below.alloc ?_ ?_ _ | refine below_drewN ?_ _ | refine Below.drew ?_ | refine Below.setCell ?_ ?_ _ | refine Below.trans ?_ (Below.mono (by assumption) ?_))) <;> (first | omega | (simp; try omega)))) (hW2.pure (by (repeat (with_reducible first | exact Below.refl _ _ | refine Below.alloc ?_ ?_ _ | refine below_drewN ?_ _ | refine Below.drew ?_ | refine Below.setCell ?_ ?_ _ | refine Below.trans ?_ (Below.mono (by assumption) ?_))) <;> (first | omega | (simp; try omega))))).mono ?_; rintro e w3 ⟨rfl, hb3⟩; have hz3 := hb3.size; have q0 := (HC2.out.pure hb3).1.1; have q1 := (HC2.out.pure hb3).1.2.1; have q2 := (HC2.out.pure hb3).1.2.2.1; have q3 := (HC2.out.pure hb3).1.2.2.2.1; have q4 := (HC2.out.pure hb3).1.2.2.2.2))
        have hb5 : Below w2.heap.size w2 w4 := (by (repeat (with_reducible first | exact Below.refl _ _ | refine Below.alloc ?_ ?_ _ | refine below_drewN ?_ _ | refine Below.drew ?_ | refine Below.setCell ?_ ?_ _ | refine Below.trans ?_ (Below.mono (by assumption) ?_))) <;> (first | omega | (simp; try omega)))
        have hT4 := hT2.pure hb5
        have hX4 := hX.pure hb5
        have hL4 := hL2.pure hb5
        have hC4 := HC2.out.pure hb5
        have HB4 := Lib.hid (HB2.out.trans (hb5.mono HB2.out.size))
        have HC4 := Lib.hid hC4
        clear hT2 hX hL2 HC2 HB2 hb3 hb4 hz3 hz4 q0 q1 q2 q3 q4 hBs hW2 hb5
        obtain ⟨wx, rfl⟩ : ∃ wx : World, wx = w4 := ⟨_, rfl⟩
        obtain ⟨⟨q0, q1, q2, q3, q4⟩, -⟩ := hC4
        dsimp only at q0 q1 q2 q3 q4
        have hBs := World.block_lt_of_cell? _ _ q0
        obtain ⟨j, m, tr, r, hcan⟩ := can_of Hcan.out
        have hrun : cr = (j : Int) + 1 := hcan.run
        have hca : ca = (m : Int) := hcan.a
        have hcb := hcan.b
        have hcn := hcan.n
        dsimp only at hcb hcn
        have hrok := hcan.rOk
        have h4 := hcan.four
        have hm4 := hcan.m4
        have htr := hcan.tr_at
        have hmr := hcan.r_at
        have hcap := hcan.cap
        have hslot := hcan.slot
        clear hcan
        subst hrun hca
        have hj : j < ts.length := (List.getElem?_eq_some_iff.1 htr).1
        obtain ⟨b, o, sv, qv, rfl, hbl, hS, -, -, -, -, -, -, c5, -⟩ := hT4.at j tr htr
        obtain ⟨ps, cs, rfl, hs1, hs2⟩ := hS.len
        rw [h4] at c5 hs1 hS
        have hs1' : (4 : Nat) ≤ cs := hs1
        obtain ⟨bz, oz, rfl, hbz, r0, r1, r2, r3, r4⟩ := hS.at m r hmr
        have hx0 : (0 : Int) ≤ (j : Int) := by omega
        have hxn : (j : Int) < (ts.length : Int) := by omega
        have hm0 : (0 : Int) ≤ (m : Int) := by omega
        have hm4' : (m : Int) < 4 := by omega
        have hw1 : IntKind.i64.wrap ((j : Int) + 1 - 1) = (j : Int) := by rw [show (j : Int) + 1 - 1 = j by omega]; exact IntWalk.i64_in _ (by omega)
        have hw2 : IntKind.i64.wrap (j : Int) = (j : Int) := IntWalk.i64_in _ (by omega)
        obtain ⟨r0', r1', r2', r3', r4'⟩ := r
        dsimp only at r0 r1 r2 r3 r4
        go_upto_region 9 with (fail)
        go_cut [9] (fun s9 wz => ∃ D, s9 = .pointer (some ⟨D, 0, none⟩) ∧ (wz.cell? ⟨D, 0, none⟩ = some (.int .i64 r0') ∧ wz.cell? ⟨D, 1, none⟩ = some (.int .i64 r1') ∧ wz.cell? ⟨D, 2, none⟩ = some (.bool r2') ∧ wz.cell? ⟨D, 3, none⟩ = some (.bool r3') ∧ wz.cell? ⟨D, 4, none⟩ = some (.bool r4')) ∧ Below wx.heap.size wx wz)
        case first =>
          go_region_held3 (fun w' => w'.cell? ⟨B, 1, none⟩ = some (.int .i64 ((j : Int) + 1)) ∧ w'.cell? ⟨B, 2, none⟩ = some (.int .i64 (m : Int)) ∧ w'.cell? ⟨b, o + j * 8 + 5, none⟩ = some (.slice (some ⟨bz, oz, none⟩) 4 cs) ∧ w'.cell? ⟨bz, oz + m * 5, none⟩ = some (.int .i64 r0') ∧ w'.cell? ⟨bz, oz + m * 5 + 1, none⟩ = some (.int .i64 r1') ∧ w'.cell? ⟨bz, oz + m * 5 + 2, none⟩ = some (.bool r2') ∧ w'.cell? ⟨bz, oz + m * 5 + 3, none⟩ = some (.bool r3') ∧ w'.cell? ⟨bz, oz + m * 5 + 4, none⟩ = some (.bool r4')) (go_keep) (fail)
          all_goals (go_wp2; go_meet)
          all_goals exact ⟨_, rfl, by simp [go_sem], (by (repeat (with_reducible first | exact Below.refl _ _ | refine Below.alloc ?_ ?_ _ | refine below_drewN ?_ _ | refine Below.drew ?_ | refine Below.setCell ?_ ?_ _ | refine Below.trans ?_ (Below.mono (by assumption) ?_))) <;> (first | omega | (simp; try omega)))⟩
        case rest =>
          obtain ⟨D, rfl, hD, hBy⟩ := hcut
          obtain ⟨wy, rfl⟩ : ∃ wy : World, wy = wc := ⟨_, rfl⟩
          have hzy := hBy.size
          have hTy := hT4.pure hBy
          have hXy := hX4.pure hBy
          have hCy := HC4.out.pure hBy
          have hLy := hL4.pure hBy
          have HBy := Lib.hid (HB4.out.trans (hBy.mono HB4.out.size))
          clear q0 q1 q2 q3 q4 r0 r1 r2 r3 r4 c5 hS hT4 hX4 HC4 hBs hbl hbz hs1 hs2 hBy hL4 HB4
          obtain ⟨⟨q0, q1, q2, q3, q4⟩, -⟩ := id hCy
          dsimp only at q0 q1 q2 q3 q4
          obtain ⟨g0, g1, g2, g3, g4⟩ := hD
          have hBs := World.block_lt_of_cell? _ _ q0
          have hDs := World.block_lt_of_cell? _ _ g0
          have hthing : (slotOf ts ⟨ck, (j : Int) + 1, (m : Int), cb, cn⟩).thing = r0' := by rw [hslot]
          by_cases hG : ck = 9 ∧ r0' ≠ 0 ∧ (getT ts r0').kind = 5
          · obtain ⟨hk9, h0, hk5⟩ := hG
            subst hk9
            obtain ⟨hlen, g, tg, hto, hgl, htg, hbut⟩ := touch_gate Hcan.out Hdo.out (by rw [hthing]; exact h0) (by rw [hthing]; exact hk5)
            rw [hthing] at hto hbut
            obtain ⟨x, hxe, htx, hex, -⟩ := cap_thing hcap h0
            dsimp only at hxe htx hex
            subst hxe
            have hxl : x < ts.length := (List.getElem?_eq_some_iff.1 htx).1
            obtain ⟨tx, htxe⟩ : ∃ tx, getT ts ((x : Int) + 1) = tx := ⟨_, rfl⟩
            rw [htxe] at hk5 hto htx
            have Htx := Lib.hid htx
            have Htg := Lib.hid htg
            have Hlen := Lib.hid hlen
            have Hbut := Lib.hid hbut
            have HXy := Lib.hid hXy
            have HTy := Lib.hid hTy
            obtain ⟨b1, o1, sv1, qv1, e1, hb1, -, -, d0, -, -, -, -, -, -, d7⟩ := hTy.at x tx htx
            cases e1
            rw [hk5] at d0
            rw [hto] at d7
            obtain ⟨b2, o2, svg, qvg, e2, hb2, hSg, hQg, p0, p1, p2, p3, p4, p5, p6, p7⟩ := hTy.at g tg htg
            cases e2
            obtain ⟨xs, hxs, hTX⟩ := hXy
            have hxsl : xs.length = us.length := by rw [← hxs]; simp
            have hxs8 : xs.length ≤ 8 := by omega
            have hus0 : 0 < us.length := by omega
            have hgxs : g < xs.length := by omega
            obtain ⟨psg, csg, rfl, -, -⟩ := hSg.len
            obtain ⟨pqg, cqg, rfl, -, -⟩ := hQg.len
            have Q1 := Lib.hid q1
            have G0 := Lib.hid g0
            have hGX : ThxAt wy (tg, _, _) := ⟨hSg, hQg⟩
            have HTX := Lib.hid hTX
            have Hxs := Lib.hid hxs
            have Hxsl := Lib.hid hxsl
            have HGX := Lib.hid hGX
            obtain ⟨i2, hi2, hx0', hx1, hx2⟩ := info_parts info_thg
            have hx0 := hx0'
            have hlu : us.length = ts.length := hlen
            have h00 : (0 : Int) < (x : Int) + 1 := by omega
            have hx00 : (0 : Int) ≤ (x : Int) := by omega
            have hxn0 : (x : Int) < (ts.length : Int) := by omega
            have hg00 : (0 : Int) ≤ (g : Int) := by omega
            have hgn0 : (g : Int) < (ts.length : Int) := by omega
            have hgu0 : (g : Int) < (us.length : Int) := by omega
            have hz1 : IntKind.i64.wrap ((x : Int) + 1 - 1) = (x : Int) := by rw [show (x : Int) + 1 - 1 = x by omega]; exact IntWalk.i64_in _ (by omega)
            have hz2 : IntKind.i64.wrap ((g : Int) + 1 - 1) = (g : Int) := by rw [show (g : Int) + 1 - 1 = g by omega]; exact IntWalk.i64_in _ (by omega)
            clear htx htg hlen hbut htxe hthing hslot hrok hcap hTy hmr htr hex hto hk5 hTX hxs hGX hSg hQg hlu h0 hxsl hx0'
            go_upto_region 11 with (first
              | (at_builtin; refine wpList_append_rows rfl (.tmp 84) (.tmp 85) 23 rfl wy.heap.size 39 i2 _ 8 96 Tryz.underlying23 hi2 hx0 hx1 hx2 rfl (by decide) (.slice (some ⟨wy.heap.size, 0, none⟩) 0 0) 0 [] rfl (own_lit wy.heap.size rfl (Nat.le_refl _)) _ (xs.map Thx.cells) rfl (tabx_flat HTX.out) (by simp only [List.length_map, Hxsl.out] at *; exact Rows.pure HTX.out.1 (by (repeat (with_reducible first | exact Below.refl _ _ | refine Below.alloc ?_ ?_ _ | refine below_drewN ?_ _ | refine Below.drew ?_ | refine Below.setCell ?_ ?_ _ | refine Below.trans ?_ (Below.mono (by assumption) ?_))) <;> (first | omega | (simp; try omega)))) (by simp [maxLen] <;> omega) (by simp <;> omega) (by simp <;> omega) ?_; intro v1 w1 ho1 hg1))
            simp only [Nat.zero_add, List.nil_append, List.length_map] at ho1
            rw [Hxsl.out] at ho1
            obtain ⟨T, oT, cT, hoT, rfl, hT1, hT2, hT3, hT4, hfz⟩ := own_some0 ho1 (by omega)
            have hb1' : Below wy.heap.size wy w1 := ((Below.refl _ wy).alloc (Nat.le_refl _) _).grown hg1 (by simp) (fun k hk => by simp [Value.ownBlock] at hk; omega)
            have hTX1 : TabX w1 (.slice (some ⟨T, oT, none⟩) us.length cT) xs := ⟨Rows.of_own (tabx_flat HTX.out) (by rw [List.length_map, Hxsl.out]; exact ho1), fun x hx => (HTX.out.2 x hx).pure hb1'⟩
            obtain ⟨xg, hxg⟩ : ∃ xg, xs[g]? = some xg := ⟨_, List.getElem?_eq_getElem hgxs⟩
            obtain ⟨bT, o3, eT, -, t0, t1, t2, t3, t4, t5, t6, t7⟩ := hTX1.at g xg hxg
            cases eT
            obtain ⟨hc1, -⟩ := bcell hb1'
            have hzw1 := hb1'.size
            rw [← hc1 _ _ hb2] at p0 p1 p2 p3 p4 p5 p6 p7 d0 d7
            have hDs1 : D < wy.heap.size := hDs
            have hBs1 : B < wy.heap.size := hBs
            rw [← hc1 _ _ hDs] at g0 g1 g2 g3 g4
            rw [← hc1 _ _ hBs] at q0 q1 q2 q3 q4
            have hTne : T ≠ b := by omega
            have hTnB : T ≠ B := by omega
            have hTnD : T ≠ D := by omega
            have HTX1 := Lib.hid hTX1
            have HB1 := Lib.hid hb1'
            clear ho1 hg1 hc1 hxg hoT hTX1 hb1'
            go_upto_region 13 with (fail)
            have hTX2 := TabX.row HTX1.out (fun x hx => HTX.out.2 x hx) HB1.out hT1 hgxs HGX.out
            have hB2 := (((((((HB1.out.setCell (p := ⟨T, oT + g * 8, none⟩) hT1 (.int .i64 tg.kind)).setCell (p := ⟨T, oT + g * 8 + 1, none⟩) hT1 (.int .i64 tg.lab.s)).setCell (p := ⟨T, oT + g * 8 + 2, none⟩) hT1 (.int .i64 tg.lab.v)).setCell (p := ⟨T, oT + g * 8 + 3, none⟩) hT1 (.int .i64 tg.vers)).setCell (p := ⟨T, oT + g * 8 + 4, none⟩) hT1 (.int .i64 tg.num)).setCell (p := ⟨T, oT + g * 8 + 5, none⟩) hT1 (.slice psg tg.slots.length csg)).setCell (p := ⟨T, oT + g * 8 + 6, none⟩) hT1 (.slice pqg tg.queue.length cqg)).setCell (p := ⟨T, oT + g * 8 + 7, none⟩) hT1 (.int .i64 tg.to)
            generalize World.setCell _ _ _ = w2 at hTX2 hB2 ⊢
            clear g0 g1 g2 g3 g4 q0 q1 q2 q3 q4 p0 p1 p2 p3 p4 p5 p6 p7 d0 d7 t0 t1 t2 t3 t4 t5 t6 t7 hfz
            obtain ⟨hc2, -⟩ := bcell hB2
            have q1 := (hc2 _ _ hBs1).trans Q1.out
            have g0 := (hc2 _ _ hDs1).trans G0.out
            clear hc2
            have hset : (xs.set g (tg, Value.slice psg tg.slots.length csg, Value.slice pqg tg.queue.length cqg)).map (·.1) = us.set g tg := by rw [List.map_set, Hxs.out]
            have hY : TabAt w2 (.slice (some ⟨T, oT, none⟩) (us.set g tg).length cT) (us.set g tg) := by rw [List.length_set]; exact ⟨_, hset, hTX2⟩
            have hTz := HTy.out.pure hB2
            have hl9 : (us.set g tg).length = us.length := List.length_set
            have HY := Lib.hid hY
            have Hl9 := Lib.hid hl9
            clear hset hTX2 hY hl9
            have hz2 := hB2.size
            go_wp2_with (go_at_call 17; rw [← Hl9.out]; refine (ldBut_t (HY.out.pure (by (repeat (with_reducible first | exact Below.refl _ _ | refine Below.alloc ?_ ?_ _ | refine below_drewN ?_ _ | refine Below.drew ?_ | refine Below.setCell ?_ ?_ _ | refine Below.trans ?_ (Below.mono (by assumption) ?_))) <;> (first | omega | (simp; try omega)))) (hTz.pure (by (repeat (with_reducible first | exact Below.refl _ _ | refine Below.alloc ?_ ?_ _ | refine below_drewN ?_ _ | refine Below.drew ?_ | refine Below.setCell ?_ ?_ _ | refine Below.trans ?_ (Below.mono (by assumption) ?_))) <;> (first | omega | (simp; try omega)))) Hbut.out).mono ?_; rintro e w6 ⟨rfl, hb6⟩)
            go_ret
            exact ⟨rfl, HBy.out.trans (Below.mono (hB2.trans (hb6.mono hz2)) HBy.out.size)⟩
          · obtain ⟨hlen, hbut⟩ := touch_but Hcan.out Hdo.out (by rw [hthing]; exact hG)
            rw [hthing] at hbut
            have Hbut := Lib.hid hbut
            have HTy := Lib.hid hTy
            have HXy := Lib.hid hXy
            clear hbut hthing hslot hmr htr hrok hlen
            by_cases hk9 : ck = 9
            · subst hk9
              by_cases h0 : r0' = 0
              · subst h0
                clear hcap hG hTy hXy
                go_wp2_with (go_at_call 17; refine (ldBut_t (HXy.out.pure (by (repeat (with_reducible first | exact Below.refl _ _ | refine Below.alloc ?_ ?_ _ | refine below_drewN ?_ _ | refine Below.drew ?_ | refine Below.setCell ?_ ?_ _ | refine Below.trans ?_ (Below.mono (by assumption) ?_))) <;> (first | omega | (simp; try omega)))) (HTy.out.pure (by (repeat (with_reducible first | exact Below.refl _ _ | refine Below.alloc ?_ ?_ _ | refine below_drewN ?_ _ | refine Below.drew ?_ | refine Below.setCell ?_ ?_ _ | refine Below.trans ?_ (Below.mono (by assumption) ?_))) <;> (first | omega | (simp; try omega)))) Hbut.out).mono ?_; rintro e w6 ⟨rfl, hb6⟩)
                go_ret
                exact ⟨rfl, HBy.out.trans (Below.mono (show Below wy.heap.size wy _ from (by (repeat (with_reducible first | exact Below.refl _ _ | refine Below.alloc ?_ ?_ _ | refine below_drewN ?_ _ | refine Below.drew ?_ | refine Below.setCell ?_ ?_ _ | refine Below.trans ?_ (Below.mono (by assumption) ?_))) <;> (first | omega | (simp; try omega)))) HBy.out.size)⟩
              · obtain ⟨x, hxe, htx, hex, -⟩ := cap_thing hcap h0
                dsimp only at hxe htx hex
                subst hxe
                obtain ⟨b1, o1, sv1, qv1, e1, hb1, -, -, d0, -, -, -, -, -, -, -⟩ := hTy.at x _ htx
                cases e1
                have hxl : x < ts.length := (List.getElem?_eq_some_iff.1 htx).1
                obtain ⟨kx, hkx⟩ : ∃ kx, (getT ts ((x : Int) + 1)).kind = kx := ⟨_, rfl⟩
                rw [hkx] at d0
                have hk5 : (kx == 5) = false := by
                  have : kx ≠ 5 := fun h => hG ⟨rfl, h0, by rw [hkx, h]⟩
                  simpa using this
                have h00 : (0 : Int) < (x : Int) + 1 := by omega
                have hx00 : (0 : Int) ≤ (x : Int) := by omega
                have hxn0 : (x : Int) < (ts.length : Int) := by omega
                have hz1 : IntKind.i64.wrap ((x : Int) + 1 - 1) = (x : Int) := by rw [show (x : Int) + 1 - 1 = x by omega]; exact IntWalk.i64_in _ (by omega)
                have hz2 : IntKind.i64.wrap (x : Int) = (x : Int) := IntWalk.i64_in _ (by omega)
                clear hcap hG hTy hXy hkx htx hex h0 hxl
                go_wp2_with (go_at_call 17; refine (ldBut_t (HXy.out.pure (by (repeat (with_reducible first | exact Below.refl _ _ | refine Below.alloc ?_ ?_ _ | refine below_drewN ?_ _ | refine Below.drew ?_ | refine Below.setCell ?_ ?_ _ | refine Below.trans ?_ (Below.mono (by assumption) ?_))) <;> (first | omega | (simp; try omega)))) (HTy.out.pure (by (repeat (with_reducible first | exact Below.refl _ _ | refine Below.alloc ?_ ?_ _ | refine below_drewN ?_ _ | refine Below.drew ?_ | refine Below.setCell ?_ ?_ _ | refine Below.trans ?_ (Below.mono (by assumption) ?_))) <;> (first | omega | (simp; try omega)))) Hbut.out).mono ?_; rintro e w6 ⟨rfl, hb6⟩)
                go_ret
                exact ⟨rfl, HBy.out.trans (Below.mono (show Below wy.heap.size wy _ from (by (repeat (with_reducible first | exact Below.refl _ _ | refine Below.alloc ?_ ?_ _ | refine below_drewN ?_ _ | refine Below.drew ?_ | refine Below.setCell ?_ ?_ _ | refine Below.trans ?_ (Below.mono (by assumption) ?_))) <;> (first | omega | (simp; try omega)))) HBy.out.size)⟩
            · have hk9' : (ck == 9) = false := by simpa using hk9
              clear hcap hG hTy hXy hk9
              go_wp2_with (go_at_call 17; refine (ldBut_t (HXy.out.pure (by (repeat (with_reducible first | exact Below.refl _ _ | refine Below.alloc ?_ ?_ _ | refine below_drewN ?_ _ | refine Below.drew ?_ | refine Below.setCell ?_ ?_ _ | refine Below.trans ?_ (Below.mono (by assumption) ?_))) <;> (first | omega | (simp; try omega)))) (HTy.out.pure (by (repeat (with_reducible first | exact Below.refl _ _ | refine Below.alloc ?_ ?_ _ | refine below_drewN ?_ _ | refine Below.drew ?_ | refine Below.setCell ?_ ?_ _ | refine Below.trans ?_ (Below.mono (by assumption) ?_))) <;> (first | omega | (simp; try omega)))) Hbut.out).mono ?_; rintro e w6 ⟨rfl, hb6⟩)
              go_ret
              exact ⟨rfl, HBy.out.trans (Below.mono (show Below wy.heap.size wy _ from (by (repeat (with_reducible first | exact Below.refl _ _ | refine Below.alloc ?_ ?_ _ | refine below_drewN ?_ _ | refine Below.drew ?_ | refine Below.setCell ?_ ?_ _ | refine Below.trans ?_ (Below.mono (by assumption) ?_))) <;> (first | omega | (simp; try omega)))) HBy.out.size)⟩
  · have hgt : (1048576 : Int) < (n : Int) := by omega
    clear hbig hb hL
    go_enter Tryz.func5, Tryz.ntmps5
    go_wp2
    go_ret
    exact ⟨rfl, (by (repeat (with_reducible first | exact Below.refl _ _ | refine Below.alloc ?_ ?_ _ | refine below_drewN ?_ _ | refine Below.drew ?_ | refine Below.setCell ?_ ?_ _ | refine Below.trans ?_ (Below.mono (by assumption) ?_))) <;> (first | omega | (simp; try omega)))⟩
end Go.Proofs.YthelfojlgcjgjaaGreatDoor
