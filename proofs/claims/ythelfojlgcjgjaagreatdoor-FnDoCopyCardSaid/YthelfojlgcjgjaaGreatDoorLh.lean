/- The law of a copy, walked. Conditions: the bytes lie where their cells say; errors.errorType is laid. -/
import Derived.Test.YthelfojlgcjgjaaGreatDoorLg
set_option linter.unusedVariables false
set_option linter.unusedSimpArgs false
namespace Go.Proofs.YthelfojlgcjgjaaGreatDoor
open Go.RowKit Drw
attribute [local go_sem] Lab.val Rgt.val Cal.val Thg.val
attribute [local go_sem 5000] eql_rgt neq_rgt

/-- What a copy does, by index. -/
theorem copy_facts {ts us : List Thg} {an : Int} {cr ca cb cn : Int} {j m bb : Nat} {tr : Thg} {r : Rgt} (h : Can ts ⟨3, cr, ca, cb, cn⟩ j m tr r) (hcan : calCan ts ⟨3, cr, ca, cb, cn⟩ = true) (hdo : callDo ts ⟨3, cr, ca, cb, cn⟩ = (us, an)) (hb : cb = (bb : Int)) :
    an = 0 ∧ us.length = ts.length ∧ ∃ ur, us[j]? = some ur ∧ ur.slots = tr.slots.set bb (less1 r (odd cn) (odd (cn / 2)) (odd (cn / 4))) := by
  have hB := canB.1 hcan
  have hl := law_copy hB rfl
  have hf := do2_fine hB
  rw [callDo_can hB] at hdo
  rw [hdo] at hl hf
  have hr : cr = (j : Int) + 1 := h.run
  subst hr
  subst hb
  have hj : j < ts.length := (List.getElem?_eq_some_iff.1 h.tr_at).1
  have hlen : us.length = ts.length := hf.same.len
  have he : ex us ((j : Int) + 1) = true := ex_at (by omega)
  have h2 := ex_get he
  rw [show ((j : Int) + 1 - 1).toNat = j by omega] at h2
  refine ⟨hl.1, hlen, _, h2, ?_⟩
  have h3 := hl.2
  dsimp only at h3
  rw [h3, getT_at h.tr_at, h.slot]
  simp

set_option maxRecDepth 100000 in
set_option maxHeartbeats 4000000 in
theorem fnDoCopy_c (p : Option Addr) (n cap : Nat) (w : World) (hL : Laid w) (hc : n ≤ cap) (hb : BytesAt w p n) :
    Calls Tryz.prog 6 #[.slice p n cap] w fun e w' => e = .returned (.bool true) ∧ Below w.heap.size w w' := by
  by_cases hbig : n ≤ 1048576
  · have hle : ¬ (1048576 : Int) < (n : Int) := by omega
    have Hb := Lib.hid hb
    have HL := Lib.hid hL
    clear hb hL
    go_enter Tryz.func6, Tryz.ntmps6
    go_upto_region 3 with (fail)
    go_cut [3, 4] (fun s3 s4 wz => ∃ q k ts c B, s3 = .slice q ts.length k ∧ s4 = .pointer (some ⟨B, 0, none⟩) ∧ w.heap.size ≤ B ∧ CallIn wz B c ∧ TabAt wz (.slice q ts.length k) ts ∧ 3 ≤ ts.length ∧ ts.length ≤ 8 ∧ Below w.heap.size w wz)
    case first =>
      go_wp2_with (go_at_call 8; refine (drawCallDo_c p n cap _ hc Hb.out (by omega)).mono ?_; rintro e w1 ⟨q, k, ts, ⟨ck, cr, ca, cb, cn⟩, rfl, hT, h3, h8, -, hb1⟩)
      go_meet
      have hz1 := hb1.size
      exact ⟨q, k, ts, ⟨ck, cr, ca, cb, cn⟩, w1.heap.size, rfl, rfl, hb1.size, ⟨by simp [go_sem], fun j => by simp [go_sem]⟩, hT.pure (by (repeat (with_reducible first | exact Below.refl _ _ | refine Below.alloc ?_ ?_ _ | refine below_drewN ?_ _ | refine Below.drew ?_ | refine Below.setCell ?_ ?_ _ | refine Below.trans ?_ (Below.mono (by assumption) ?_))) <;> (first | omega | (simp; try omega))), h3, h8, (by (repeat (with_reducible first | exact Below.refl _ _ | refine Below.alloc ?_ ?_ _ | refine below_drewN ?_ _ | refine Below.drew ?_ | refine Below.setCell ?_ ?_ _ | refine Below.trans ?_ (Below.mono (by assumption) ?_))) <;> (first | omega | (simp; try omega)))⟩
    case rest =>
      obtain ⟨q, k, ts, ⟨ck, cr, ca, cb, cn⟩, B, rfl, rfl, hwB, hC, hT, hl3, hl8, hB1⟩ := hcut
      obtain ⟨wx, rfl⟩ : ∃ wx : World, wx = wc := ⟨_, rfl⟩
      have hL1 := HL.out.below hB1 HL.out.size
      obtain ⟨us, an, hdo⟩ : ∃ us an, callDo ts ⟨ck, cr, ca, cb, cn⟩ = (us, an) := ⟨_, _, rfl⟩
      obtain ⟨can, hcan⟩ : ∃ can, calCan ts ⟨ck, cr, ca, cb, cn⟩ = can := ⟨_, rfl⟩
      have Hdo := Lib.hid hdo
      have Hcan := Lib.hid hcan
      have HB1 := Lib.hid hB1
      have HC := Lib.hid hC
      clear hdo hcan HL Hb hB1 hwB
      obtain ⟨⟨q0, q1, q2, q3, q4⟩, -⟩ := hC
      dsimp only at q0 q1 q2 q3 q4
      have hBs := World.block_lt_of_cell? _ _ q0
      go_upto_region 6 with (first
        | (go_at_call 10; refine (callDo_t (hL1.pure hb1) (hT.pure hb1) Hdo.out).mono ?_; rintro e w2 ⟨p2, k2, rfl, hX, hb2⟩)
        | (go_at_call 9; refine (scallDo_t (c := ⟨_, _, _, _, _⟩) hT Hdo.out).mono ?_; rintro e w1 ⟨p1, k1, rfl, hW, hb1⟩; have q0 := (HC.out.pure hb1).1.1; have q1 := (HC.out.pure hb1).1.2.1; have q2 := (HC.out.pure hb1).1.2.2.1; have q3 := (HC.out.pure hb1).1.2.2.2.1; have q4 := (HC.out.pure hb1).1.2.2.2.2))
      have hT2 := (hT.pure hb1).pure hb2
      have hW2 := hW.pure hb2
      have hC2 := (HC.out.pure hb1).pure hb2
      have hL2 := (hL1.pure hb1).pure hb2
      have hB2 : Below w.heap.size w w2 := (HB1.out.trans (hb1.mono HB1.out.size)).trans (hb2.mono (Nat.le_trans HB1.out.size hb1.size))
      clear hT hW hL1 hb1 hb2 q0 q1 q2 q3 q4 hBs HC HB1
      have HB2 := Lib.hid hB2
      have HC2 := Lib.hid hC2
      obtain ⟨⟨q0, q1, q2, q3, q4⟩, -⟩ := hC2
      dsimp only at q0 q1 q2 q3 q4
      have hBs := World.block_lt_of_cell? _ _ q0
      clear hB2
      cases can
      · go_wp2_with (first
          | (go_at_call 12; refine (ldCan_t (hT2.pure (by (repeat (with_reducible first | exact Below.refl _ _ | refine Below.alloc ?_ ?_ _ | refine below_drewN ?_ _ | refine Below.drew ?_ | refine Below.setCell ?_ ?_ _ | refine Below.trans ?_ (Below.mono (by assumption) ?_))) <;> (first | omega | (simp; try omega)))) Hcan.out).mono ?_; rintro e w4 ⟨rfl, hb4⟩; have hz4 := hb4.size)
          | (go_at_call 11; refine (ldTable_s (hX.pure (by (repeat (with_reducible first | exact Below.refl _ _ | refine Below.alloc ?_ ?_ _ | refine below_drewN ?_ _ | refine Below.drew ?_ | refine Below.setCell ?_ ?_ _ | refine Below.trans ?_ (Below.mono (by assumption) ?_))) <;> (first | omega | (simp; try omega)))) (hW2.pure (by (repeat (with_reducible first | exact Below.refl _ _ | refine Below.alloc ?_ ?_ _ | refine below_drewN ?_ _ | refine Below.drew ?_ | refine Below.setCell ?_ ?_ _ | refine Below.trans ?_ (Below.mono (by assumption) ?_))) <;> (first | omega | (simp; try omega))))).mono ?_; rintro e w3 ⟨rfl, hb3⟩; have hz3 := hb3.size; have q0 := (HC2.out.pure hb3).1.1; have q1 := (HC2.out.pure hb3).1.2.1; have q2 := (HC2.out.pure hb3).1.2.2.1; have q3 := (HC2.out.pure hb3).1.2.2.2.1; have q4 := (HC2.out.pure hb3).1.2.2.2.2)
          | (go_at_call 11; refine (ldTable_s (hX.pure (by (repeat (with_reducible first | exact Below.refl _ _ | refine Below.alloc ?_ ?_ _ | refine below_drewN ?_ _ | refine Below.drew ?_ | refine Below.setCell ?_ ?_ _ | refine Below.trans ?_ (Below.mono (by assumption) ?_))) <;> (first | omega | (simp; try omega)))) (hW2.pure (by (repeat (with_reducible first | exact Below.refl _ _ | refine Below.alloc ?_ ?_ _ | refine below_drewN ?_ _ | refine Below.drew ?_ | refine Below.setCell ?_ ?_ _ | refine Below.trans ?_ (Below.mono (by assumption) ?_))) <;> (first | omega | (simp; try omega))))).mono ?_; rintro e w5 ⟨rfl, hb5⟩; have hz5 := hb5.size))
        go_ret
        have h2 := HB2.out.size
        exact ⟨rfl, HB2.out.trans (Below.mono (show Below w2.heap.size w2 _ from (by (repeat (with_reducible first | exact Below.refl _ _ | refine Below.alloc ?_ ?_ _ | refine below_drewN ?_ _ | refine Below.drew ?_ | refine Below.setCell ?_ ?_ _ | refine Below.trans ?_ (Below.mono (by assumption) ?_))) <;> (first | omega | (simp; try omega)))) h2)⟩
      · go_upto_region 8 with (first
          | (go_at_call 12; refine (ldCan_t (hT2.pure (by (repeat (with_reducible first | exact Below.refl _ _ | refine Below.alloc ?_ ?_ _ | refine below_drewN ?_ _ | refine Below.drew ?_ | refine Below.setCell ?_ ?_ _ | refine Below.trans ?_ (Below.mono (by assumption) ?_))) <;> (first | omega | (simp; try omega)))) Hcan.out).mono ?_; rintro e w4 ⟨rfl, hb4⟩; have hz4 := hb4.size)
          | (go_at_call 11; refine (ldTable_s (hX.pure (by (repeat (with_reducible first | exact Below.refl _ _ | refine Below.alloc ?_ ?_ _ | refine below_drewN ?_ _ | refine Below.drew ?_ | refine Below.setCell ?_ ?_ _ | refine Below.trans ?_ (Below.mono (by assumption) ?_))) <;> (first | omega | (simp; try omega)))) (hW2.pure (by (repeat (with_reducible first | exact Below.refl _ _ | refine Below.alloc ?_ ?_ _ | refine below_drewN ?_ _ | refine Below.drew ?_ | refine Below.setCell ?_ ?_ _ | refine Below.trans ?_ (Below.mono (by assumption) ?_))) <;> (first | omega | (simp; try omega))))).mono ?_; rintro e w3 ⟨rfl, hb3⟩; have hz3 := hb3.size; have q0 := (HC2.out.pure hb3).1.1; have q1 := (HC2.out.pure hb3).1.2.1; have q2 := (HC2.out.pure hb3).1.2.2.1; have q3 := (HC2.out.pure hb3).1.2.2.2.1; have q4 := (HC2.out.pure hb3).1.2.2.2.2))
        have hb5 : Below w2.heap.size w2 w4 := (by (repeat (with_reducible first | exact Below.refl _ _ | refine Below.alloc ?_ ?_ _ | refine below_drewN ?_ _ | refine Below.drew ?_ | refine Below.setCell ?_ ?_ _ | refine Below.trans ?_ (Below.mono (by assumption) ?_))) <;> (first | omega | (simp; try omega)))
        have hT4 := hT2.pure hb5
        have hX4 := hX.pure hb5
        have hL4 := hL2.pure hb5
        have hC4 := HC2.out.pure hb5
        have HB4 := Lib.hid (HB2.out.trans (hb5.mono HB2.out.size))
        have HC4 := Lib.hid hC4
        clear hT2 hX hL2 HC2 HB2 hb3 hb4 hz3 hz4 q0 q1 q2 q3 q4 hBs hW2 hb5
        obtain ⟨wx, rfl⟩ : ∃ wx : World, wx = w4 := ⟨_, rfl⟩
        obtain ⟨⟨q0, q1, q2, q3, q4⟩, -⟩ := hC4
        dsimp only at q0 q1 q2 q3 q4
        have hBs := World.block_lt_of_cell? _ _ q0
        by_cases hk : ck = 3
        · subst hk
          obtain ⟨j, m, tr, r, hcan⟩ := can_of Hcan.out
          have hrun : cr = (j : Int) + 1 := hcan.run
          have hca : ca = (m : Int) := hcan.a
          have hcb := hcan.b
          have hcn := hcan.n
          dsimp only at hcb hcn
          obtain ⟨bb, hbb⟩ : ∃ bb : Nat, cb = (bb : Int) := ⟨cb.toNat, by omega⟩
          obtain ⟨han, hlen, ur, hur, hurs⟩ := copy_facts hcan Hcan.out Hdo.out hbb
          have hrok := hcan.rOk
          have h4 := hcan.four
          have hm4 := hcan.m4
          have htr := hcan.tr_at
          have hmr := hcan.r_at
          clear Hdo Hcan hcan
          subst hrun hca hbb han
          have hj : j < ts.length := (List.getElem?_eq_some_iff.1 htr).1
          obtain ⟨b, o, sv, qv, rfl, hbl, hS, -, -, -, -, -, -, c5, -⟩ := hT4.at j tr htr
          obtain ⟨ps, cs, rfl, hs1, hs2⟩ := hS.len
          rw [h4] at c5 hs1 hS
          have hs1' : (4 : Nat) ≤ cs := hs1
          obtain ⟨bz, oz, rfl, hbz, r0, r1, r2, r3, r4⟩ := hS.at m r hmr
          have hx0 : (0 : Int) ≤ (j : Int) := by omega
          have hxn : (j : Int) < (ts.length : Int) := by omega
          have hm0 : (0 : Int) ≤ (m : Int) := by omega
          have hm4' : (m : Int) < 4 := by omega
          have hw1 : IntKind.i64.wrap ((j : Int) + 1 - 1) = (j : Int) := by rw [show (j : Int) + 1 - 1 = j by omega]; exact IntWalk.i64_in _ (by omega)
          obtain ⟨r0', r1', r2', r3', r4'⟩ := r
          dsimp only at r0 r1 r2 r3 r4
          have hw2 : IntKind.i64.wrap (j : Int) = (j : Int) := IntWalk.i64_in _ (by omega)
          have Hlen := Lib.hid hlen
          clear hL4 hlen
          go_upto_region 10 with (fail)
          go_cut [9] (fun s9 wz => ∃ D, s9 = .pointer (some ⟨D, 0, none⟩) ∧ (wz.cell? ⟨D, 0, none⟩ = some (.int .i64 r0') ∧ wz.cell? ⟨D, 1, none⟩ = some (.int .i64 r1') ∧ wz.cell? ⟨D, 2, none⟩ = some (.bool r2') ∧ wz.cell? ⟨D, 3, none⟩ = some (.bool r3') ∧ wz.cell? ⟨D, 4, none⟩ = some (.bool r4')) ∧ Below wx.heap.size wx wz)
          case first =>
            go_region_held3 (fun w' => w'.cell? ⟨B, 1, none⟩ = some (.int .i64 ((j : Int) + 1)) ∧ w'.cell? ⟨B, 2, none⟩ = some (.int .i64 (m : Int)) ∧ w'.cell? ⟨b, o + j * 8 + 5, none⟩ = some (.slice (some ⟨bz, oz, none⟩) 4 cs) ∧ w'.cell? ⟨bz, oz + m * 5, none⟩ = some (.int .i64 r0') ∧ w'.cell? ⟨bz, oz + m * 5 + 1, none⟩ = some (.int .i64 r1') ∧ w'.cell? ⟨bz, oz + m * 5 + 2, none⟩ = some (.bool r2') ∧ w'.cell? ⟨bz, oz + m * 5 + 3, none⟩ = some (.bool r3') ∧ w'.cell? ⟨bz, oz + m * 5 + 4, none⟩ = some (.bool r4')) (go_keep) (fail)
            all_goals (go_wp2; go_meet)
            all_goals exact ⟨_, rfl, by simp [go_sem], (by (repeat (with_reducible first | exact Below.refl _ _ | refine Below.alloc ?_ ?_ _ | refine below_drewN ?_ _ | refine Below.drew ?_ | refine Below.setCell ?_ ?_ _ | refine Below.trans ?_ (Below.mono (by assumption) ?_))) <;> (first | omega | (simp; try omega)))⟩
          case rest =>
            obtain ⟨D, rfl, hD, hBy⟩ := hcut
            obtain ⟨wy, rfl⟩ : ∃ wy : World, wy = wc := ⟨_, rfl⟩
            have hzy := hBy.size
            have hTy := hT4.pure hBy
            have hXy := hX4.pure hBy
            have hCy := HC4.out.pure hBy
            have HBy := Lib.hid hBy
            clear q0 q1 q2 q3 q4 r0 r1 r2 r3 r4 c5 hS hT4 hX4 HC4 hBs hbl hbz hs1 hs2
            have hur4 : ur.slots.length = 4 := by rw [hurs]; simp [h4]
            have HTy := Lib.hid hTy
            have HXy := Lib.hid hXy
            have HCy := Lib.hid hCy
            have HD := Lib.hid hD
            have Hur := Lib.hid hur
            have Htr := Lib.hid htr
            have Hurs := Lib.hid hurs
            clear hTy hXy hCy hD hBy hur htr hurs hmr
            go_wp2
            go_loopw [10] (fun s10 wr => ∃ i : Nat, s10 = .int .i64 (i : Int) ∧ i ≤ 4 ∧ Below wy.heap.size wy wr) (fun s10 _ => 4 - (intOf s10).toNat)
            case atStart => exact ⟨0, rfl, by omega, Below.refl _ _⟩
            case round =>
              obtain ⟨i, rfl, hi, hBr⟩ := hrel
              obtain ⟨wr', rfl⟩ : ∃ wy : World, wy = wr := ⟨_, rfl⟩
              have hzr := hBr.size
              have hCr := HCy.out.pure hBr
              obtain ⟨⟨q0, q1, q2, q3, q4⟩, -⟩ := hCr
              dsimp only at q0 q1 q2 q3 q4
              by_cases hlt : i < 4
              · have hi0 : (0 : Int) ≤ (i : Int) := by omega
                have hi4 : (i : Int) < 4 := by omega
                by_cases hib : i = bb
                · subst hib
                  go_upto_region 14 with (fail)
                  go_quiet (fail)
                  go_wp2
                  exact ⟨⟨i + 1, by go_num, by omega, (by (repeat (with_reducible first | exact Below.refl _ _ | refine Below.alloc ?_ ?_ _ | refine below_drewN ?_ _ | refine Below.drew ?_ | refine Below.setCell ?_ ?_ _ | refine Below.trans ?_ (Below.mono (by assumption) ?_))) <;> (first | omega | (simp; try omega)))⟩, by simp [intOf]; omega⟩
                · have hne : ((i : Int) != (bb : Int)) = true := by simp; omega
                  obtain ⟨ri, hri⟩ : ∃ ri, tr.slots[i]? = some ri := ⟨_, List.getElem?_eq_getElem (by omega)⟩
                  have hui : ur.slots[i]? = some ri := by rw [Hurs.out, List.getElem?_set_ne (by omega)]; exact hri
                  obtain ⟨ba, oa, sva, qva, ea, hba, hSa, -, -, -, -, -, -, ca5, -⟩ := (HTy.out.pure hBr).at j tr Htr.out
                  cases ea
                  obtain ⟨pa, ka, rfl, ha1, ha2⟩ := hSa.len
                  obtain ⟨bb2, ob, svb, qvb, eb, hbb2, hSb, -, -, -, -, -, -, cb5, -⟩ := (HXy.out.pure hBr).at j ur Hur.out
                  subst eb
                  obtain ⟨pb, kb, rfl, hb1, hb2⟩ := hSb.len
                  rw [h4] at ca5 ha1 hSa
                  rw [hur4] at cb5 hb1 hSb
                  obtain ⟨be, oe, rfl, hbe, e0, e1, e2, e3, e4⟩ := hSa.at i ri hri
                  obtain ⟨bf, of, rfl, hbf, f0, f1, f2, f3, f4⟩ := hSb.at i ri hui
                  obtain ⟨s0, s1, s2, s3, s4⟩ := ri
                  dsimp only at e0 e1 e2 e3 e4 f0 f1 f2 f3 f4
                  have hrr : rgtEq ⟨s0, s1, s2, s3, s4⟩ ⟨s0, s1, s2, s3, s4⟩ = true := rgtEq_iff.2 rfl
                  have hxu : (j : Int) < (us.length : Int) := by rw [Hlen.out]; exact hxn
                  clear hri hui hSa hSb
                  go_upto_region 14 with (fail)
                  go_quiet (fail)
                  go_wp2
                  exact ⟨⟨i + 1, by go_num, by omega, (by (repeat (with_reducible first | exact Below.refl _ _ | refine Below.alloc ?_ ?_ _ | refine below_drewN ?_ _ | refine Below.drew ?_ | refine Below.setCell ?_ ?_ _ | refine Below.trans ?_ (Below.mono (by assumption) ?_))) <;> (first | omega | (simp; try omega)))⟩, by simp [intOf]; omega⟩
              · have hi4 : i = 4 := by omega
                subst hi4
                obtain ⟨y, hy⟩ : ∃ y, less1 ⟨r0', r1', r2', r3', r4'⟩ (odd cn) (odd (cn / 2)) (odd (cn / 4)) = y := ⟨_, rfl⟩
                have hyu : ur.slots[bb]? = some y := by rw [Hurs.out, hy, List.getElem?_set_self (by omega)]
                have hyl : less ⟨r0', r1', r2', r3', r4'⟩ (odd cn) (odd (cn / 2)) (odd (cn / 4)) = y := by rw [less, if_pos hrok]; exact hy
                have hyi : rgtIn y ⟨r0', r1', r2', r3', r4'⟩ = true := by
                  rw [← hy]; simp only [rgtIn, less1_ok hrok, hrok, less1_in, Bool.and_self]
                obtain ⟨a0, ha0⟩ : ∃ a, cn % 2 = a := ⟨_, rfl⟩
                obtain ⟨q2', hq2'⟩ : ∃ a, cn / 2 = a := ⟨_, rfl⟩
                obtain ⟨q4', hq4'⟩ : ∃ a, cn / 4 = a := ⟨_, rfl⟩
                obtain ⟨a1, ha1⟩ : ∃ a, q2' % 2 = a := ⟨_, rfl⟩
                obtain ⟨a2, ha2⟩ : ∃ a, q4' % 2 = a := ⟨_, rfl⟩
                have u0 : cn.tmod 2 = a0 := by rw [Int.tmod_eq_emod_of_nonneg hcn.1]; exact ha0
                have u1 : IntKind.i64.wrap a0 = a0 := IntWalk.i64_in _ (by omega)
                have u2 : cn.tdiv 2 = q2' := by rw [Int.tdiv_eq_ediv_of_nonneg hcn.1]; exact hq2'
                have u3 : IntKind.i64.wrap q2' = q2' := IntWalk.i64_in _ (by omega)
                have u4 : cn.tdiv 4 = q4' := by rw [Int.tdiv_eq_ediv_of_nonneg hcn.1]; exact hq4'
                have u5 : IntKind.i64.wrap q4' = q4' := IntWalk.i64_in _ (by omega)
                have u6 : q2'.tmod 2 = a1 := by rw [Int.tmod_eq_emod_of_nonneg (by omega)]; exact ha1
                have u7 : IntKind.i64.wrap a1 = a1 := IntWalk.i64_in _ (by omega)
                have u8 : q4'.tmod 2 = a2 := by rw [Int.tmod_eq_emod_of_nonneg (by omega)]; exact ha2
                have u9 : IntKind.i64.wrap a2 = a2 := IntWalk.i64_in _ (by omega)
                unfold odd at hyl
                rw [hq2', hq4', ha0, ha1, ha2] at hyl
                have Hyl := Lib.hid hyl
                have Hyi := Lib.hid hyi
                have Hcn := Lib.hid hcn
                obtain ⟨bb2, ob, svb, qvb, eb, hbb2, hSb, -, -, -, -, -, -, cb5, -⟩ := (HXy.out.pure hBr).at j ur Hur.out
                subst eb
                obtain ⟨pb, kb, rfl, hb1, hb2⟩ := hSb.len
                rw [hur4] at cb5 hb1 hSb
                obtain ⟨bf, of, rfl, hbf, f0, f1, f2, f3, f4⟩ := hSb.at bb y hyu
                obtain ⟨y0, y1, y2, y3, y4⟩ := y
                dsimp only at f0 f1 f2 f3 f4
                have hyy : rgtEq ⟨y0, y1, y2, y3, y4⟩ ⟨y0, y1, y2, y3, y4⟩ = true := rgtEq_iff.2 rfl
                have hxu : (j : Int) < (us.length : Int) := by rw [Hlen.out]; exact hxn
                have hbb0 : (0 : Int) ≤ (bb : Int) := by omega
                have hbb4 : (bb : Int) < 4 := by omega
                have hkb : 4 ≤ kb := hb1
                clear hyl hyi hcn ha0 hq2' hq4' ha1 ha2 hyu hy hSb hb1 hb2 hcb
                obtain ⟨wz', rfl⟩ : ∃ wy : World, wy = wr' := ⟨_, rfl⟩
                have HDz := HD.out
                have hcD := bcell hBr
                have hDs := World.block_lt_of_cell? _ _ HDz.1
                have g0 := (hcD.1 _ _ hDs).trans HDz.1
                have g1 := (hcD.1 _ _ hDs).trans HDz.2.1
                have g2 := (hcD.1 _ _ hDs).trans HDz.2.2.1
                have g3 := (hcD.1 _ _ hDs).trans HDz.2.2.2.1
                have g4 := (hcD.1 _ _ hDs).trans HDz.2.2.2.2
                clear HDz hcD hDs
                go_upto_region 16 with (fail)
                go_cut [11] (fun s11 wz => ∃ E, s11 = .pointer (some ⟨E, 0, none⟩) ∧ (wz.cell? ⟨E, 0, none⟩ = some (.int .i64 y0) ∧ wz.cell? ⟨E, 1, none⟩ = some (.int .i64 y1) ∧ wz.cell? ⟨E, 2, none⟩ = some (.bool y2) ∧ wz.cell? ⟨E, 3, none⟩ = some (.bool y3) ∧ wz.cell? ⟨E, 4, none⟩ = some (.bool y4)) ∧ Below wz'.heap.size wz' wz)
                case first =>
                  go_region_held3 (fun w' => w'.cell? ⟨B, 1, none⟩ = some (.int .i64 ((j : Int) + 1)) ∧ w'.cell? ⟨B, 3, none⟩ = some (.int .i64 (bb : Int)) ∧ w'.cell? ⟨bb2, ob + j * 8 + 5, none⟩ = some (.slice (some ⟨bf, of, none⟩) 4 kb) ∧ w'.cell? ⟨bf, of + bb * 5, none⟩ = some (.int .i64 y0) ∧ w'.cell? ⟨bf, of + bb * 5 + 1, none⟩ = some (.int .i64 y1) ∧ w'.cell? ⟨bf, of + bb * 5 + 2, none⟩ = some (.bool y2) ∧ w'.cell? ⟨bf, of + bb * 5 + 3, none⟩ = some (.bool y3) ∧ w'.cell? ⟨bf, of + bb * 5 + 4, none⟩ = some (.bool y4)) (go_keep) (fail)
                  all_goals (go_wp2; go_meet)
                  all_goals exact ⟨_, rfl, by simp [go_sem], (by (repeat (with_reducible first | exact Below.refl _ _ | refine Below.alloc ?_ ?_ _ | refine below_drewN ?_ _ | refine Below.drew ?_ | refine Below.setCell ?_ ?_ _ | refine Below.trans ?_ (Below.mono (by assumption) ?_))) <;> (first | omega | (simp; try omega)))⟩
                case rest =>
                  obtain ⟨E, rfl, hE, hBz⟩ := hcut
                  obtain ⟨wv, rfl⟩ : ∃ wy : World, wy = wc := ⟨_, rfl⟩
                  obtain ⟨hcz, -⟩ := bcell hBz
                  have hDs := World.block_lt_of_cell? _ _ g0
                  have hBs := World.block_lt_of_cell? _ _ q0
                  have hEs := World.block_lt_of_cell? _ _ hE.1
                  have hDv : D < wv.heap.size := Nat.lt_of_lt_of_le hDs hBz.size
                  have hBv : B < wv.heap.size := Nat.lt_of_lt_of_le hBs hBz.size
                  have g5 : wv.cell? ⟨D, 0, none⟩ = some (.int .i64 r0') ∧ wv.cell? ⟨D, 1, none⟩ = some (.int .i64 r1') ∧ wv.cell? ⟨D, 2, none⟩ = some (.bool r2') ∧ wv.cell? ⟨D, 3, none⟩ = some (.bool r3') ∧ wv.cell? ⟨D, 4, none⟩ = some (.bool r4') := ⟨(hcz _ _ hDs).trans g0, (hcz _ _ hDs).trans g1, (hcz _ _ hDs).trans g2, (hcz _ _ hDs).trans g3, (hcz _ _ hDs).trans g4⟩
                  have g6 : wv.cell? ⟨B, 4, none⟩ = some (.int .i64 cn) := (hcz _ _ hBs).trans q4
                  have HS := Lib.hid (show ∀ w' : World, Below wv.heap.size wv w' → (Below wv.heap.size wv w' ∧ (w'.cell? ⟨E, 0, none⟩ = some (.int .i64 y0) ∧ w'.cell? ⟨E, 1, none⟩ = some (.int .i64 y1) ∧ w'.cell? ⟨E, 2, none⟩ = some (.bool y2) ∧ w'.cell? ⟨E, 3, none⟩ = some (.bool y3) ∧ w'.cell? ⟨E, 4, none⟩ = some (.bool y4)) ∧ (w'.cell? ⟨D, 0, none⟩ = some (.int .i64 r0') ∧ w'.cell? ⟨D, 1, none⟩ = some (.int .i64 r1') ∧ w'.cell? ⟨D, 2, none⟩ = some (.bool r2') ∧ w'.cell? ⟨D, 3, none⟩ = some (.bool r3') ∧ w'.cell? ⟨D, 4, none⟩ = some (.bool r4')) ∧ w'.cell? ⟨B, 4, none⟩ = some (.int .i64 cn)) from fun w' h => by
                    obtain ⟨hc', -⟩ := bcell h
                    exact ⟨h, by simp only [hc' _ _ hEs]; exact hE, by simp only [hc' _ _ hDv]; exact g5, by simp only [hc' _ _ hBv]; exact g6⟩)
                  have HS2 := Lib.hid (show ∀ wA w' : World, (Below wv.heap.size wv wA ∧ (wA.cell? ⟨E, 0, none⟩ = some (.int .i64 y0) ∧ wA.cell? ⟨E, 1, none⟩ = some (.int .i64 y1) ∧ wA.cell? ⟨E, 2, none⟩ = some (.bool y2) ∧ wA.cell? ⟨E, 3, none⟩ = some (.bool y3) ∧ wA.cell? ⟨E, 4, none⟩ = some (.bool y4)) ∧ (wA.cell? ⟨D, 0, none⟩ = some (.int .i64 r0') ∧ wA.cell? ⟨D, 1, none⟩ = some (.int .i64 r1') ∧ wA.cell? ⟨D, 2, none⟩ = some (.bool r2') ∧ wA.cell? ⟨D, 3, none⟩ = some (.bool r3') ∧ wA.cell? ⟨D, 4, none⟩ = some (.bool r4')) ∧ wA.cell? ⟨B, 4, none⟩ = some (.int .i64 cn)) → Below wA.heap.size wA w' → (Below wv.heap.size wv w' ∧ (w'.cell? ⟨E, 0, none⟩ = some (.int .i64 y0) ∧ w'.cell? ⟨E, 1, none⟩ = some (.int .i64 y1) ∧ w'.cell? ⟨E, 2, none⟩ = some (.bool y2) ∧ w'.cell? ⟨E, 3, none⟩ = some (.bool y3) ∧ w'.cell? ⟨E, 4, none⟩ = some (.bool y4)) ∧ (w'.cell? ⟨D, 0, none⟩ = some (.int .i64 r0') ∧ w'.cell? ⟨D, 1, none⟩ = some (.int .i64 r1') ∧ w'.cell? ⟨D, 2, none⟩ = some (.bool r2') ∧ w'.cell? ⟨D, 3, none⟩ = some (.bool r3') ∧ w'.cell? ⟨D, 4, none⟩ = some (.bool r4')) ∧ w'.cell? ⟨B, 4, none⟩ = some (.int .i64 cn)) from fun wA w' h hb => HS.out _ (h.1.trans (hb.mono h.1.size)))
                  have HBf := Lib.hid (HB4.out.trans (((HBy.out.trans (hBr.mono HBy.out.size)).trans (hBz.mono (Nat.le_trans HBy.out.size hBr.size))).mono HB4.out.size))
                  clear g0 g1 g2 g3 g4 g5 g6 q0 q1 q2 q3 q4 hE hcz HTy HXy HCy HD f0 f1 f2 f3 f4 cb5 hbf hbb2 hBz hBr hDs hBs hEs hDv hBv
                  go_upto_region 17 with (fail)
                  first | (go_region_held3 (fun w' => Below wv.heap.size wv w' ∧ (w'.cell? ⟨E, 0, none⟩ = some (.int .i64 y0) ∧ w'.cell? ⟨E, 1, none⟩ = some (.int .i64 y1) ∧ w'.cell? ⟨E, 2, none⟩ = some (.bool y2) ∧ w'.cell? ⟨E, 3, none⟩ = some (.bool y3) ∧ w'.cell? ⟨E, 4, none⟩ = some (.bool y4)) ∧ (w'.cell? ⟨D, 0, none⟩ = some (.int .i64 r0') ∧ w'.cell? ⟨D, 1, none⟩ = some (.int .i64 r1') ∧ w'.cell? ⟨D, 2, none⟩ = some (.bool r2') ∧ w'.cell? ⟨D, 3, none⟩ = some (.bool r3') ∧ w'.cell? ⟨D, 4, none⟩ = some (.bool r4')) ∧ w'.cell? ⟨B, 4, none⟩ = some (.int .i64 cn))
                    (first | assumption | exact HS.out _ (Below.drew (Below.refl _ _)) | exact HS2.out _ _ (HS.out _ (Below.drew (Below.refl _ _))) hb3 | exact HS2.out _ _ (by assumption) hb3)
                    (first
                      | (go_at_call 18; refine (rightLess_c ⟨_, _, _, _, _⟩ _ _ _ _).mono ?_; rw [Hyl.out]; rintro e w3 ⟨rfl, hb3⟩)
                      | (go_at_call 19; refine (rightIn_c ⟨_, _, _, _, _⟩ ⟨_, _, _, _, _⟩ _).mono ?_; rw [Hyi.out]; rintro e w3 ⟨rfl, hb3⟩))) | fail
                  all_goals go_wp2
                  all_goals go_ret
                  all_goals exact ⟨rfl, HBf.out.trans ((And.left (by assumption : Below wv.heap.size wv _ ∧ _)).mono HBf.out.size)⟩
        · have hk' : (ck != 3) = true := by simpa using hk
          clear hT4 hX4 hL4 HC4 Hdo Hcan q1 q2 q3 q4
          go_wp2
          go_ret
          exact ⟨rfl, HB4.out.trans (Below.mono (show Below wx.heap.size wx _ from (by (repeat (with_reducible first | exact Below.refl _ _ | refine Below.alloc ?_ ?_ _ | refine below_drewN ?_ _ | refine Below.drew ?_ | refine Below.setCell ?_ ?_ _ | refine Below.trans ?_ (Below.mono (by assumption) ?_))) <;> (first | omega | (simp; try omega)))) HB4.out.size)⟩
  · have hgt : (1048576 : Int) < (n : Int) := by omega
    clear hb hL
    go_enter Tryz.func6, Tryz.ntmps6
    go_wp2
    go_ret
    exact ⟨rfl, (by (repeat (with_reducible first | exact Below.refl _ _ | refine Below.alloc ?_ ?_ _ | refine below_drewN ?_ _ | refine Below.drew ?_ | refine Below.setCell ?_ ?_ _ | refine Below.trans ?_ (Below.mono (by assumption) ?_))) <;> (first | omega | (simp; try omega)))⟩
end Go.Proofs.YthelfojlgcjgjaaGreatDoor
