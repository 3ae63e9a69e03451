/- The law on what is sent, walked. Conditions: the bytes lie where their cells say; errors.errorType is laid. -/
import Derived.Test.YthelfojlgcjgjaaGreatDoorLg
import Derived.Test.YthelfojlgcjgjaaGreatDoorTl
import Derived.Test.YthelfojlgcjgjaaGreatDoorL
import Derived.Test.YthelfojlgcjgjaaGreatDoorXs
import Derived.StillTailTactics
set_option linter.unusedVariables false
set_option linter.unusedSimpArgs false
namespace Go.Proofs.YthelfojlgcjgjaaGreatDoor
open Go.RowKit Drw
attribute [local go_sem] Lab.val Rgt.val Cal.val Thg.val
attribute [local go_sem 5000] eql_rgt neq_rgt

theorem tableLive_u {p : Option Addr} {cap : Nat} {ts : List Thg} {r : Rgt} {v : Bool} {w : World} (hT : TabAt w (.slice p ts.length cap) ts) (h : (tabOk ts && rgtOk r && live ts r) = v) :
    Calls Tryz.prog 13 #[.slice p ts.length cap, r.val] w fun e w' => e = .returned (.bool v) ∧ Below w.heap.size w w' := by
  rw [← h]; exact tableLive_c p cap ts r w hT
theorem checkSees_t {p : Option Addr} {cap : Nat} {ts : List Thg} {r i : Int} {v : Bool} {w : World} (hT : TabAt w (.slice p ts.length cap) ts) (h : (tabOk ts && kindAt ts r 3 && ex ts i && sees ts r i) = v) :
    Calls Tryz.prog 15 #[.slice p ts.length cap, .int .i64 r, .int .i64 i] w fun e w' => e = .returned (.bool v) ∧ Below w.heap.size w w' := by
  rw [← h]; exact checkSees_c p cap ts r i w hT
theorem checkCall_t {p : Option Addr} {cap : Nat} {ts : List Thg} {c : Cal} {v : Int} {w : World} (hL : Laid w) (hT : TabAt w (.slice p ts.length cap) ts) (h : check ts c = v) :
    Calls Tryz.prog 14 #[.slice p ts.length cap, c.val] w fun e w' => e = .returned (.int .i64 v) ∧ Below w.heap.size w w' := by
  rw [← h]; exact checkCall_c p cap ts c w hL hT
theorem ldThing_t {ta tb : Thg} {sva qva svb qvb : Value} {v : Bool} {w : World} (hsa : RgtsAt w sva ta.slots) (hqa : IntsAt w qva ta.queue) (hsb : RgtsAt w svb tb.slots) (hqb : IntsAt w qvb tb.queue) (h : decide (ta = tb) = v) :
    Calls Tryz.prog 16 #[ta.val sva qva, tb.val svb qvb] w fun e w' => e = .returned (.bool v) ∧ Below w.heap.size w w' := by
  rw [← h]; exact ldThing_c ta tb sva qva svb qvb w hsa hqa hsb hqb

set_option maxRecDepth 100000 in
set_option maxHeartbeats 4000000 in
theorem fnDoSend_c (p : Option Addr) (n cap : Nat) (w : World) (hL : Laid w) (hc : n ≤ cap) (hb : BytesAt w p n) :
    Calls Tryz.prog 4 #[.slice p n cap] w fun e w' => e = .returned (.bool true) ∧ Below w.heap.size w w' := by
  by_cases hbig : n ≤ 1048576
  · have hle : ¬ (1048576 : Int) < (n : Int) := by omega
    have Hb := Lib.hid hb
    have HL := Lib.hid hL
    clear hb hL
    go_enter Tryz.func4, Tryz.ntmps4
    go_upto_region 3 with (fail)
    go_cut [3, 4] (fun s3 s4 wz => ∃ q k ts c B, s3 = .slice q ts.length k ∧ s4 = .pointer (some ⟨B, 0, none⟩) ∧ w.heap.size ≤ B ∧ CallIn wz B c ∧ TabAt wz (.slice q ts.length k) ts ∧ 3 ≤ ts.length ∧ ts.length ≤ 8 ∧ Below w.heap.size w wz)
    case first =>
      go_wp2_with (go_at_call 8; refine (drawCallDo_c p n cap _ hc Hb.out (by omega)).mono ?_; rintro e w1 ⟨q, k, ts, ⟨ck, cr, ca, cb, cn⟩, rfl, hT, h3, h8, -, hb1⟩)
      go_meet
      have hz1 := hb1.size
      exact ⟨q, k, ts, ⟨ck, cr, ca, cb, cn⟩, w1.heap.size, rfl, rfl, hb1.size, ⟨by simp [go_sem], fun j => by simp [go_sem]⟩, hT.pure (by (repeat (with_reducible first | exact Below.refl _ _ | refine Below.alloc ?_ ?_ _ | refine below_drewN ?_ _ | refine Below.drew ?_ | refine Below.setCell ?_ ?_ _ | refine Below.trans ?_ (Below.mono (by assumption) ?_))) <;> (first | omega | (simp; try omega))), h3, h8, (by (repeat (with_reducible first | exact Below.refl _ _ | refine Below.alloc ?_ ?_ _ | refine below_drewN ?_ _ | refine Below.drew ?_ | refine Below.setCell ?_ ?_ _ | refine Below.trans ?_ (Below.mono (by assumption) ?_))) <;> (first | omega | (simp; try omega)))⟩
    case rest =>
      obtain ⟨q, k, ts, ⟨ck, cr, ca, cb, cn⟩, B, rfl, rfl, hwB, hC, hT, hl3, hl8, hB1⟩ := hcut
      obtain ⟨wx, rfl⟩ : ∃ wx : World, wx = wc := ⟨_, rfl⟩
      have hL1 := HL.out.below hB1 HL.out.size
      obtain ⟨us, an, hdo⟩ : ∃ us an, callDo ts ⟨ck, cr, ca, cb, cn⟩ = (us, an) := ⟨_, _, rfl⟩
      obtain ⟨can, hcan⟩ : ∃ can, calCan ts ⟨ck, cr, ca, cb, cn⟩ = can := ⟨_, rfl⟩
      have Hdo := Lib.hid hdo
      have Hcan := Lib.hid hcan
      have HB1 := Lib.hid hB1
      have HC := Lib.hid hC
      clear hdo hcan HL Hb hB1 hwB
      obtain ⟨⟨q0, q1, q2, q3, q4⟩, -⟩ := hC
      dsimp only at q0 q1 q2 q3 q4
      have hBs := World.block_lt_of_cell? _ _ q0
      go_upto_region 6 with (first
        | (go_at_call 10; refine (callDo_t (hL1.pure hb1) (hT.pure hb1) Hdo.out).mono ?_; rintro e w2 ⟨p2', k2, rfl, hX, hb2⟩)
        | (go_at_call 9; refine (scallDo_t (c := ⟨_, _, _, _, _⟩) hT Hdo.out).mono ?_; rintro e w1 ⟨p1, k1, rfl, hW, hb1⟩; have q0 := (HC.out.pure hb1).1.1; have q1 := (HC.out.pure hb1).1.2.1; have q2 := (HC.out.pure hb1).1.2.2.1; have q3 := (HC.out.pure hb1).1.2.2.2.1; have q4 := (HC.out.pure hb1).1.2.2.2.2))
      have hT2 := (hT.pure hb1).pure hb2
      have hW2 := hW.pure hb2
      have hC2 := (HC.out.pure hb1).pure hb2
      have hL2 := (hL1.pure hb1).pure hb2
      have hB2 : Below w.heap.size w w2 := (HB1.out.trans (hb1.mono HB1.out.size)).trans (hb2.mono (Nat.le_trans HB1.out.size hb1.size))
      clear hT hW hL1 hb1 hb2 q0 q1 q2 q3 q4 hBs HC HB1
      have HB2 := Lib.hid hB2
      have HC2 := Lib.hid hC2
      obtain ⟨⟨q0, q1, q2, q3, q4⟩, -⟩ := hC2
      dsimp only at q0 q1 q2 q3 q4
      have hBs := World.block_lt_of_cell? _ _ q0
      clear hB2
      cases can
      · go_wp2_with (first
          | (go_at_call 12; refine (ldCan_t (hT2.pure (by (repeat (with_reducible first | exact Below.refl _ _ | refine Below.alloc ?_ ?_ _ | refine below_drewN ?_ _ | refine Below.drew ?_ | refine Below.setCell ?_ ?_ _ | refine Below.trans ?_ (Below.mono (by assumption) ?_))) <;> (first | omega | (simp; try omega)))) Hcan.out).mono ?_; rintro e w4 ⟨rfl, hb4⟩; have hz4 := hb4.size)
          | (go_at_call 11; refine (ldTable_s (hX.pure (by (repeat (with_reducible first | exact Below.refl _ _ | refine Below.alloc ?_ ?_ _ | refine below_drewN ?_ _ | refine Below.drew ?_ | refine Below.setCell ?_ ?_ _ | refine Below.trans ?_ (Below.mono (by assumption) ?_))) <;> (first | omega | (simp; try omega)))) (hW2.pure (by (repeat (with_reducible first | exact Below.refl _ _ | refine Below.alloc ?_ ?_ _ | refine below_drewN ?_ _ | refine Below.drew ?_ | refine Below.setCell ?_ ?_ _ | refine Below.trans ?_ (Below.mono (by assumption) ?_))) <;> (first | omega | (simp; try omega))))).mono ?_; rintro e w3 ⟨rfl, hb3⟩; have hz3 := hb3.size; have q0 := (HC2.out.pure hb3).1.1; have q1 := (HC2.out.pure hb3).1.2.1; have q2 := (HC2.out.pure hb3).1.2.2.1; have q3 := (HC2.out.pure hb3).1.2.2.2.1; have q4 := (HC2.out.pure hb3).1.2.2.2.2)
          | (go_at_call 11; refine (ldTable_s (hX.pure (by (repeat (with_reducible first | exact Below.refl _ _ | refine Below.alloc ?_ ?_ _ | refine below_drewN ?_ _ | refine Below.drew ?_ | refine Below.setCell ?_ ?_ _ | refine Below.trans ?_ (Below.mono (by assumption) ?_))) <;> (first | omega | (simp; try omega)))) (hW2.pure (by (repeat (with_reducible first | exact Below.refl _ _ | refine Below.alloc ?_ ?_ _ | refine below_drewN ?_ _ | refine Below.drew ?_ | refine Below.setCell ?_ ?_ _ | refine Below.trans ?_ (Below.mono (by assumption) ?_))) <;> (first | omega | (simp; try omega))))).mono ?_; rintro e w5 ⟨rfl, hb5⟩; have hz5 := hb5.size))
        go_ret
        have h2 := HB2.out.size
        exact ⟨rfl, HB2.out.trans (Below.mono (show Below w2.heap.size w2 _ from (by (repeat (with_reducible first | exact Below.refl _ _ | refine Below.alloc ?_ ?_ _ | refine below_drewN ?_ _ | refine Below.drew ?_ | refine Below.setCell ?_ ?_ _ | refine Below.trans ?_ (Below.mono (by assumption) ?_))) <;> (first | omega | (simp; try omega)))) h2)⟩
      · go_upto_region 8 with (first
          | (go_at_call 12; refine (ldCan_t (hT2.pure (by (repeat (with_reducible first | exact Below.refl _ _ | refine Below.alloc ?_ ?_ _ | refine below_drewN ?_ _ | refine Below.drew ?_ | refine Below.setCell ?_ ?_ _ | refine Below.trans ?_ (Below.mono (by assumption) ?_))) <;> (first | omega | (simp; try omega)))) Hcan.out).mono ?_; rintro e w4 ⟨rfl, hb4⟩; have hz4 := hb4.size)
          | (go_at_call 11; refine (ldTable_s (hX.pure (by (repeat (with_reducible first | exact Below.refl _ _ | refine Below.alloc ?_ ?_ _ | refine below_drewN ?_ _ | refine Below.drew ?_ | refine Below.setCell ?_ ?_ _ | refine Below.trans ?_ (Below.mono (by assumption) ?_))) <;> (first | omega | (simp; try omega)))) (hW2.pure (by (repeat (with_reducible first | exact Below.refl _ _ | refine Below.alloc ?_ ?_ _ | refine below_drewN ?_ _ | refine Below.drew ?_ | refine Below.setCell ?_ ?_ _ | refine Below.trans ?_ (Below.mono (by assumption) ?_))) <;> (first | omega | (simp; try omega))))).mono ?_; rintro e w3 ⟨rfl, hb3⟩; have hz3 := hb3.size; have q0 := (HC2.out.pure hb3).1.1; have q1 := (HC2.out.pure hb3).1.2.1; have q2 := (HC2.out.pure hb3).1.2.2.1; have q3 := (HC2.out.pure hb3).1.2.2.2.1; have q4 := (HC2.out.pure hb3).1.2.2.2.2))
        have hb5 : Below w2.heap.size w2 w4 := (by (repeat (with_reducible first | exact Below.refl _ _ | refine Below.alloc ?_ ?_ _ | refine below_drewN ?_ _ | refine Below.drew ?_ | refine Below.setCell ?_ ?_ _ | refine Below.trans ?_ (Below.mono (by assumption) ?_))) <;> (first | omega | (simp; try omega)))
        have hT4 := hT2.pure hb5
        have hX4 := hX.pure hb5
        have hL4 := hL2.pure hb5
        have hC4 := HC2.out.pure hb5
        have HB4 := Lib.hid (HB2.out.trans (hb5.mono HB2.out.size))
        have HC4 := Lib.hid hC4
        clear hT2 hX hL2 HC2 HB2 hb3 hb4 hz3 hz4 q0 q1 q2 q3 q4 hBs hW2 hb5
        obtain ⟨wx, rfl⟩ : ∃ wx : World, wx = w4 := ⟨_, rfl⟩
        obtain ⟨⟨q0, q1, q2, q3, q4⟩, -⟩ := hC4
        dsimp only at q0 q1 q2 q3 q4
        have hBs := World.block_lt_of_cell? _ _ q0
        by_cases hk : ck = 6
        · subst hk
          obtain ⟨k0, hk0⟩ : ∃ k0, check ts ⟨6, cr, ca, cb, cn⟩ = k0 := ⟨_, rfl⟩
          have Hk0 := Lib.hid hk0
          have hcheck : check1 ts ⟨6, cr, ca, cb, cn⟩ = k0 := by rw [← hk0, check_yes Hcan.out]
          have hrange : k0 = 0 ∨ k0 < 0 := by have := check_range ts ⟨6, cr, ca, cb, cn⟩; rw [hcheck] at this; omega
          have Hcheck := Lib.hid hcheck
          clear hk0 hcheck
          rcases hrange with rfl | hneg
          · go_upto_region 10 with (first
              | (go_at_call 14; refine (checkCall_t (hL4.pure (by (repeat (with_reducible first | exact Below.refl _ _ | refine Below.alloc ?_ ?_ _ | refine below_drewN ?_ _ | refine Below.drew ?_ | refine Below.setCell ?_ ?_ _ | refine Below.trans ?_ (Below.mono (by assumption) ?_))) <;> (first | omega | (simp; try omega)))) (hT4.pure (by (repeat (with_reducible first | exact Below.refl _ _ | refine Below.alloc ?_ ?_ _ | refine below_drewN ?_ _ | refine Below.drew ?_ | refine Below.setCell ?_ ?_ _ | refine Below.trans ?_ (Below.mono (by assumption) ?_))) <;> (first | omega | (simp; try omega)))) Hk0.out).mono ?_; rintro e w5 ⟨rfl, hb5⟩))
            have hT5 := hT4.pure hb5
            have hX5 := hX4.pure hb5
            have hL5 := hL4.pure hb5
            have hC5 := HC4.out.pure hb5
            have HB5 := Lib.hid (HB4.out.trans (hb5.mono HB4.out.size))
            clear hT4 hX4 hL4 HC4 HB4 hb5 q0 q1 q2 q3 q4 hBs
            have hT4 := hT5
            have hX4 := hX5
            have hL4 := hL5
            have HC4 := Lib.hid hC5
            have HB4 := HB5
            clear hT5 hX5 hL5 HB5
            obtain ⟨wx, rfl⟩ : ∃ wx : World, wx = w5 := ⟨_, rfl⟩
            obtain ⟨⟨q0, q1, q2, q3, q4⟩, -⟩ := hC5
            dsimp only at q0 q1 q2 q3 q4
            have hBs := World.block_lt_of_cell? _ _ q0
            obtain ⟨j, m, tr, r, hcan⟩ := can_of Hcan.out
            have hrun : cr = (j : Int) + 1 := hcan.run
            have hca : ca = (m : Int) := hcan.a
            have hcb := hcan.b
            have hcn := hcan.n
            dsimp only at hcb hcn
            have hrok := hcan.rOk
            have h4 := hcan.four
            have hm4 := hcan.m4
            have htr := hcan.tr_at
            have hmr := hcan.r_at
            have hcap := hcan.cap
            have hslot := hcan.slot
            clear hcan
            subst hrun hca
            have hj : j < ts.length := (List.getElem?_eq_some_iff.1 htr).1
            obtain ⟨b, o, sv, qv, rfl, hbl, hS, -, -, -, -, -, -, c5, -⟩ := hT4.at j tr htr
            obtain ⟨ps, cs, rfl, hs1, hs2⟩ := hS.len
            rw [h4] at c5 hs1 hS
            have hs1' : (4 : Nat) ≤ cs := hs1
            obtain ⟨bz, oz, rfl, hbz, r0, r1, r2, r3, r4⟩ := hS.at m r hmr
            have hx0 : (0 : Int) ≤ (j : Int) := by omega
            have hxn : (j : Int) < (ts.length : Int) := by omega
            have hm0 : (0 : Int) ≤ (m : Int) := by omega
            have hm4' : (m : Int) < 4 := by omega
            have hw1 : IntKind.i64.wrap ((j : Int) + 1 - 1) = (j : Int) := by rw [show (j : Int) + 1 - 1 = j by omega]; exact IntWalk.i64_in _ (by omega)
            have hw2 : IntKind.i64.wrap (j : Int) = (j : Int) := IntWalk.i64_in _ (by omega)
            obtain ⟨r0', r1', r2', r3', r4'⟩ := r
            dsimp only at r0 r1 r2 r3 r4
            go_upto_region 10 with (fail)
            go_cut [9] (fun s9 wz => ∃ D, s9 = .pointer (some ⟨D, 0, none⟩) ∧ (wz.cell? ⟨D, 0, none⟩ = some (.int .i64 r0') ∧ wz.cell? ⟨D, 1, none⟩ = some (.int .i64 r1') ∧ wz.cell? ⟨D, 2, none⟩ = some (.bool r2') ∧ wz.cell? ⟨D, 3, none⟩ = some (.bool r3') ∧ wz.cell? ⟨D, 4, none⟩ = some (.bool r4')) ∧ Below wx.heap.size wx wz)
            case first =>
              go_region_held3 (fun w' => w'.cell? ⟨B, 1, none⟩ = some (.int .i64 ((j : Int) + 1)) ∧ w'.cell? ⟨B, 2, none⟩ = some (.int .i64 (m : Int)) ∧ w'.cell? ⟨b, o + j * 8 + 5, none⟩ = some (.slice (some ⟨bz, oz, none⟩) 4 cs) ∧ w'.cell? ⟨bz, oz + m * 5, none⟩ = some (.int .i64 r0') ∧ w'.cell? ⟨bz, oz + m * 5 + 1, none⟩ = some (.int .i64 r1') ∧ w'.cell? ⟨bz, oz + m * 5 + 2, none⟩ = some (.bool r2') ∧ w'.cell? ⟨bz, oz + m * 5 + 3, none⟩ = some (.bool r3') ∧ w'.cell? ⟨bz, oz + m * 5 + 4, none⟩ = some (.bool r4')) (go_keep) (fail)
              all_goals (go_wp2; go_meet)
              all_goals exact ⟨_, rfl, by simp [go_sem], (by (repeat (with_reducible first | exact Below.refl _ _ | refine Below.alloc ?_ ?_ _ | refine below_drewN ?_ _ | refine Below.drew ?_ | refine Below.setCell ?_ ?_ _ | refine Below.trans ?_ (Below.mono (by assumption) ?_))) <;> (first | omega | (simp; try omega)))⟩
            case rest =>
              obtain ⟨D, rfl, hD, hBy⟩ := hcut
              obtain ⟨wy, rfl⟩ : ∃ wy : World, wy = wc := ⟨_, rfl⟩
              have hzy := hBy.size
              have hTy := hT4.pure hBy
              have hXy := hX4.pure hBy
              have hCy := HC4.out.pure hBy
              have hLy := hL4.pure hBy
              have HBy := Lib.hid (HB4.out.trans (hBy.mono HB4.out.size))
              have HBxy := Lib.hid hBy
              clear q0 q1 q2 q3 q4 r0 r1 r2 r3 r4 c5 hS hT4 hX4 HC4 hBs hbl hbz hs1 hs2 hBy hL4 HB4
              obtain ⟨⟨q0, q1, q2, q3, q4⟩, -⟩ := id hCy
              dsimp only at q0 q1 q2 q3 q4
              obtain ⟨g0, g1, g2, g3, g4⟩ := hD
              have hBs := World.block_lt_of_cell? _ _ q0
              have hDs := World.block_lt_of_cell? _ _ g0
              have hthing : slotOf ts ⟨6, (j : Int) + 1, (m : Int), cb, cn⟩ = ⟨r0', r1', r2', r3', r4'⟩ := hslot
              obtain ⟨hlen, h0, x, tx, ux, hxe, htx, hux, hq3, hf1, hf2⟩ := send_facts Hcan.out Hdo.out rfl Hcheck.out
              rw [hthing] at h0 hxe hf1 hf2
              dsimp only at h0 hxe hf1 hf2
              subst hxe
              have hcB := canB.1 Hcan.out
              have hxl : x < ts.length := (List.getElem?_eq_some_iff.1 htx).1
              have hexx : ex ts ((x : Int) + 1) = true := ex_at hxl
              obtain ⟨se, hse⟩ : ∃ se, sees ts ((j : Int) + 1) ((x : Int) + 1) = se := ⟨_, rfl⟩
              obtain ⟨li, hli⟩ : ∃ li, live ts ⟨(x : Int) + 1, r1', r2', r3', r4'⟩ = li := ⟨_, rfl⟩
              rw [hse, hli] at hf1
              rw [hli] at hf2
              have Hse := Lib.hid (show (tabOk ts && kindAt ts ((j : Int) + 1) 3 && ex ts ((x : Int) + 1) && sees ts ((j : Int) + 1) ((x : Int) + 1)) = se by
                have h1 : kindAt ts ((j : Int) + 1) 3 = true := by
                  have h2 := hcB.ex
                  have h3 := hcB.kind
                  dsimp only at h2 h3
                  simp [kindAt, h2, h3]
                rw [hcB.tab, h1, hexx, hse]; rfl)
              have Hli := Lib.hid (show (tabOk ts && rgtOk ⟨(x : Int) + 1, r1', r2', r3', r4'⟩ && live ts ⟨(x : Int) + 1, r1', r2', r3', r4'⟩) = li by rw [hcB.tab, hrok, hli]; rfl)
              obtain ⟨b1, o1, sv1, qv1, e1, hb1', hS1, hQ1, d0, d1, d2, d3, d4, d5, d6, d7⟩ := hTy.at x tx htx
              cases e1
              obtain ⟨bu, ou, svu, qvu, eu, hbu, hSu, hQu, p0, p1, p2, p3, p4, p5, p6, p7⟩ := hXy.at x ux hux
              subst eu
              obtain ⟨ps1, cs1, rfl, -, -⟩ := hS1.len
              obtain ⟨pq1, cq1, rfl, -, -⟩ := hQ1.len
              obtain ⟨psu, csu, rfl, -, -⟩ := hSu.len
              obtain ⟨pqu, cqu, rfl, -, -⟩ := hQu.len
              have hx00 : (0 : Int) ≤ (x : Int) := by omega
              have hxn0 : (x : Int) < (ts.length : Int) := by omega
              have hxu0 : (x : Int) < (us.length : Int) := by omega
              have hz1 : IntKind.i64.wrap ((x : Int) + 1 - 1) = (x : Int) := by rw [show (x : Int) + 1 - 1 = x by omega]; exact IntWalk.i64_in _ (by omega)
              have hz2 : IntKind.i64.wrap (x : Int) = (x : Int) := IntWalk.i64_in _ (by omega)
              have HTy := Lib.hid hTy
              have HXy := Lib.hid hXy
              have Hf1 := Lib.hid hf1
              have Hf2 := Lib.hid hf2
              have hS1 := Lib.hid hS1
              have hQ1 := Lib.hid hQ1
              have hSu := Lib.hid hSu
              have hQu := Lib.hid hQu
              have HS := Lib.hid (show ∀ w' : World, Below wy.heap.size wy w' → (Below wy.heap.size wy w' ∧ w'.cell? ⟨B, 4, none⟩ = some (.int .i64 cn) ∧ w'.cell? ⟨D, 0, none⟩ = some (.int .i64 ((x : Int) + 1)) ∧ w'.cell? ⟨b, o + x * 8, none⟩ = some (.int .i64 tx.kind) ∧ w'.cell? ⟨b, o + x * 8 + 1, none⟩ = some (.int .i64 tx.lab.s) ∧ w'.cell? ⟨b, o + x * 8 + 2, none⟩ = some (.int .i64 tx.lab.v) ∧ w'.cell? ⟨b, o + x * 8 + 3, none⟩ = some (.int .i64 tx.vers) ∧ w'.cell? ⟨b, o + x * 8 + 4, none⟩ = some (.int .i64 tx.num) ∧ w'.cell? ⟨b, o + x * 8 + 5, none⟩ = some (.slice ps1 tx.slots.length cs1) ∧ w'.cell? ⟨b, o + x * 8 + 6, none⟩ = some (.slice pq1 tx.queue.length cq1) ∧ w'.cell? ⟨b, o + x * 8 + 7, none⟩ = some (.int .i64 tx.to) ∧ w'.cell? ⟨bu, ou + x * 8, none⟩ = some (.int .i64 ux.kind) ∧ w'.cell? ⟨bu, ou + x * 8 + 1, none⟩ = some (.int .i64 ux.lab.s) ∧ w'.cell? ⟨bu, ou + x * 8 + 2, none⟩ = some (.int .i64 ux.lab.v) ∧ w'.cell? ⟨bu, ou + x * 8 + 3, none⟩ = some (.int .i64 ux.vers) ∧ w'.cell? ⟨bu, ou + x * 8 + 4, none⟩ = some (.int .i64 ux.num) ∧ w'.cell? ⟨bu, ou + x * 8 + 5, none⟩ = some (.slice psu ux.slots.length csu) ∧ w'.cell? ⟨bu, ou + x * 8 + 6, none⟩ = some (.slice pqu ux.queue.length cqu) ∧ w'.cell? ⟨bu, ou + x * 8 + 7, none⟩ = some (.int .i64 ux.to)) from
                fun w' h => by
                  obtain ⟨hc', -⟩ := bcell h
                  exact ⟨h, (hc' _ _ hBs).trans q4, (hc' _ _ hDs).trans g0, (hc' _ _ hb1').trans d0, (hc' _ _ hb1').trans d1, (hc' _ _ hb1').trans d2, (hc' _ _ hb1').trans d3, (hc' _ _ hb1').trans d4, (hc' _ _ hb1').trans d5, (hc' _ _ hb1').trans d6, (hc' _ _ hb1').trans d7, (hc' _ _ hbu).trans p0, (hc' _ _ hbu).trans p1, (hc' _ _ hbu).trans p2, (hc' _ _ hbu).trans p3, (hc' _ _ hbu).trans p4, (hc' _ _ hbu).trans p5, (hc' _ _ hbu).trans p6, (hc' _ _ hbu).trans p7⟩)
              clear hf1 hf2 hTy hXy htx hux hcB hexx hse hli hthing h0 hslot hmr htr hrok hcap hlen
              by_cases hA : li = false ∨ tx.queue.length = 3
              · obtain ⟨hut, han⟩ := Hf1.out hA
                have Hut := Lib.hid hut
                have Han := Lib.hid han
                have HA := Lib.hid hA
                clear hut han hA p0 p1 p2 p3 p4 p5 p7 d0 d1 d2 d3 d4 d5 d7
                go_upto_region 14 with (first
                  | (go_at_call 15; refine (checkSees_t (HTy.out.pure (by (repeat (with_reducible first | exact Below.refl _ _ | refine Below.alloc ?_ ?_ _ | refine below_drewN ?_ _ | refine Below.drew ?_ | refine Below.setCell ?_ ?_ _ | refine Below.trans ?_ (Below.mono (by assumption) ?_))) <;> (first | omega | (simp; try omega)))) Hse.out).mono ?_; rintro e w6 ⟨rfl, hb6⟩))
                obtain ⟨hc6, -⟩ := bcell hb6
                rw [← hc6 _ _ hDs] at g0 g1 g2 g3 g4
                have hDs6 := Nat.lt_of_lt_of_le hDs hb6.size
                have hz6 := hb6.size
                have HB6 := Lib.hid hb6
                clear hc6
                go_cut [105] (fun s105 wz => s105 = .bool true ∧ Below wy.heap.size wy wz)
                case first =>
                  cases li
                  · go_wp2_with (first
                      | (go_at_call 13; refine (tableLive_u (r := ⟨_, _, _, _, _⟩) (HTy.out.pure (by (repeat (with_reducible first | exact Below.refl _ _ | refine Below.alloc ?_ ?_ _ | refine below_drewN ?_ _ | refine Below.drew ?_ | refine Below.setCell ?_ ?_ _ | refine Below.trans ?_ (Below.mono (by assumption) ?_))) <;> (first | omega | (simp; try omega)))) Hli.out).mono ?_; rintro e w7 ⟨rfl, hb7⟩))
                    go_meet
                    exact ⟨rfl, HB6.out.trans (hb7.mono hz6)⟩
                  · have hl3 : ((tx.queue.length : Int) == 3) = true := by
                      rcases HA.out with h | h
                      · cases h
                      · rw [h]; rfl
                    go_wp2_with (first
                      | (go_at_call 13; refine (tableLive_u (r := ⟨_, _, _, _, _⟩) (HTy.out.pure (by (repeat (with_reducible first | exact Below.refl _ _ | refine Below.alloc ?_ ?_ _ | refine below_drewN ?_ _ | refine Below.drew ?_ | refine Below.setCell ?_ ?_ _ | refine Below.trans ?_ (Below.mono (by assumption) ?_))) <;> (first | omega | (simp; try omega)))) Hli.out).mono ?_; rintro e w7 ⟨rfl, hb7⟩))
                    go_meet
                    exact ⟨rfl, HB6.out.trans (hb7.mono hz6)⟩
                case rest =>
                  obtain ⟨rfl, hBz⟩ := hcut
                  obtain ⟨wz', rfl⟩ : ∃ wy : World, wy = wc := ⟨_, rfl⟩
                  clear g0 g1 g2 g3 g4 d6 p6 hDs6 hb6
                  go_upto_region 15 with (fail)
                  cases se
                  · obtain rfl : an = 0 := by simpa using Han.out
                    clear Han
                    have hBd : Below wy.heap.size wy wz'.drew := Below.drew hBz
                    obtain ⟨-, -, x0, x1, x2, x3, x4, x5, x6, x7, x8, y1, y2, y3, y4, y5, y6, y7, y8⟩ := HS.out wz' hBz
                    go_still_tail 12, (by kernel_rfl)
                    change wpList _ _ _ _ _ wz'.drew
                    generalize wz'.drew = w2 at hBd ⊢
                    clear x0 x1 x2 x3 x4 x5 x6 x7 x8 y1 y2 y3 y4 y5 y6 y7 y8
                    have hz2 := hBd.size
                    go_wp2_with (first
                      | (go_at_call 16; refine (ldThing_t (ta := ux) (tb := tx) (v := true) (hSu.out.pure hBd) (hQu.out.pure hBd) (hS1.out.pure hBd) (hQ1.out.pure hBd) (decide_eq_true Hut.out)).mono ?_; rintro e w3 ⟨rfl, hb3⟩))
                    go_ret
                    exact ⟨rfl, HBy.out.trans ((hBd.trans (hb3.mono hz2)).mono HBy.out.size)⟩
                  · obtain rfl : an = -4 := by simpa using Han.out
                    clear Han
                    have hund : undef = Value.tuple #[] := rfl
                    have hBd : Below wy.heap.size wy wz'.drew := Below.drew hBz
                    obtain ⟨-, -, x0, x1, x2, x3, x4, x5, x6, x7, x8, y1, y2, y3, y4, y5, y6, y7, y8⟩ := HS.out wz' hBz
                    go_still_tail 12, (by kernel_rfl)
                    change wpList _ _ _ _ _ wz'.drew
                    generalize wz'.drew = w2 at hBd ⊢
                    clear x0 x1 x2 x3 x4 x5 x6 x7 x8 y1 y2 y3 y4 y5 y6 y7 y8
                    have hz2 := hBd.size
                    go_wp2_with (first
                      | (go_at_call 16; refine (ldThing_t (ta := ux) (tb := tx) (v := true) (hSu.out.pure hBd) (hQu.out.pure hBd) (hS1.out.pure hBd) (hQ1.out.pure hBd) (decide_eq_true Hut.out)).mono ?_; rintro e w3 ⟨rfl, hb3⟩))
                    go_ret
                    exact ⟨rfl, HBy.out.trans ((hBd.trans (hb3.mono hz2)).mono HBy.out.size)⟩
              · have hli : li = true := by
                  cases li
                  · exact absurd (.inl rfl) hA
                  · rfl
                subst hli
                have hl3' : tx.queue.length ≠ 3 := fun h => hA (.inr h)
                obtain ⟨hqu, han⟩ := Hf2.out rfl hl3'
                subst han
                have hl3 : ((tx.queue.length : Int) == 3) = false := by simp; omega
                have hql : ux.queue.length = tx.queue.length + 1 := by rw [hqu]; simp
                have hq1 : ((ux.queue.length : Int) == (tx.queue.length : Int) + 1) = true := by simp; omega
                have hq2 : (tx.queue.length : Int) < (ux.queue.length : Int) := by omega
                have hq0 : (0 : Int) ≤ (tx.queue.length : Int) := by omega
                have hw9 : IntKind.i64.wrap ((tx.queue.length : Int) + 1) = (tx.queue.length : Int) + 1 := IntWalk.i64_in _ (by omega)
                have Hqu := Lib.hid hqu
                have Hql := Lib.hid hql
                have Hq1 := Lib.hid hq1
                have Hw9 := Lib.hid hw9
                clear hqu hql hA hl3' hq1 hw9 p0 p1 p2 p3 p4 p5 p7 d0 d1 d2 d3 d4 d5 d7
                go_upto_region 14 with (first
                  | (go_at_call 15; refine (checkSees_t (HTy.out.pure (by (repeat (with_reducible first | exact Below.refl _ _ | refine Below.alloc ?_ ?_ _ | refine below_drewN ?_ _ | refine Below.drew ?_ | refine Below.setCell ?_ ?_ _ | refine Below.trans ?_ (Below.mono (by assumption) ?_))) <;> (first | omega | (simp; try omega)))) Hse.out).mono ?_; rintro e w6 ⟨rfl, hb6⟩))
                obtain ⟨hc6, -⟩ := bcell hb6
                rw [← hc6 _ _ hDs] at g0 g1 g2 g3 g4
                have hDs6 := Nat.lt_of_lt_of_le hDs hb6.size
                have hz6 := hb6.size
                have HB6 := Lib.hid hb6
                clear hc6
                go_upto_region 16 with (first
                  | (go_at_call 13; refine (tableLive_u (r := ⟨_, _, _, _, _⟩) (HTy.out.pure (by (repeat (with_reducible first | exact Below.refl _ _ | refine Below.alloc ?_ ?_ _ | refine below_drewN ?_ _ | refine Below.drew ?_ | refine Below.setCell ?_ ?_ _ | refine Below.trans ?_ (Below.mono (by assumption) ?_))) <;> (first | omega | (simp; try omega)))) Hli.out).mono ?_; rintro e w7 ⟨rfl, hb7⟩))
                have hB7 : Below wy.heap.size wy w7 := HB6.out.trans (hb7.mono hz6)
                clear g0 g1 g2 g3 g4 d6 p6 hDs6 hb6 hb7 hl3
                go_wp2
                go_loopw [13] (fun s13 wr => ∃ i : Nat, s13 = .int .i64 (i : Int) ∧ i ≤ tx.queue.length ∧ Below wy.heap.size wy wr) (fun s13 _ => tx.queue.length - (intOf s13).toNat)
                case atStart => exact ⟨0, rfl, by omega, hB7⟩
                case round =>
                  obtain ⟨i, rfl, hi, hBr⟩ := hrel
                  obtain ⟨wr', rfl⟩ : ∃ wy : World, wy = wr := ⟨_, rfl⟩
                  have hBr' := Lib.hid hBr
                  by_cases hlt : i < tx.queue.length
                  · obtain ⟨y, hy⟩ : ∃ y, tx.queue[i]? = some y := ⟨_, List.getElem?_eq_getElem hlt⟩
                    have hyu : ux.queue[i]? = some y := by rw [Hqu.out, List.getElem?_append_left hlt]; exact hy
                    obtain ⟨bq, oq, rfl, hbq, a0⟩ := (hQ1.out.pure hBr).at i y hy
                    obtain ⟨bv, ov, rfl, hbv, a1⟩ := (hQu.out.pure hBr).at i y hyu
                    have hi0 : (0 : Int) ≤ (i : Int) := by omega
                    have hi1 : (i : Int) < (tx.queue.length : Int) := by omega
                    have hi2 : (i : Int) < (ux.queue.length : Int) := by omega
                    clear hy hyu
                    go_upto_region 19 with (fail)
                    go_quiet (fail)
                    go_wp2
                    exact ⟨⟨i + 1, by go_num, by omega, (by first | exact hBr'.out | exact below_drewN hBr'.out _)⟩, by simp [intOf]; omega⟩
                  · have hil : i = tx.queue.length := by omega
                    have hyu : ux.queue[tx.queue.length]? = some cn := by rw [Hqu.out]; simp
                    obtain ⟨bv, ov, rfl, hbv, a1⟩ := (hQu.out.pure hBr).at _ _ hyu
                    have q4' := ((bcell hBr).1 _ _ hBs).trans q4
                    have hBsr := Nat.lt_of_lt_of_le hBs hBr.size
                    have hi1 : ¬ (i : Int) < (tx.queue.length : Int) := by omega
                    have hq1 := Hq1.out
                    have hw9 := Hw9.out
                    clear hyu hil hlt
                    go_upto_region 21 with (fail)
                    go_quiet (fail)
                    go_wp2
                    go_ret
                    exact ⟨rfl, HBy.out.trans (Below.mono (by first | exact hBr'.out | exact below_drewN hBr'.out _) HBy.out.size)⟩
          · go_wp2_with (first
              | (go_at_call 14; refine (checkCall_t (hL4.pure (by (repeat (with_reducible first | exact Below.refl _ _ | refine Below.alloc ?_ ?_ _ | refine below_drewN ?_ _ | refine Below.drew ?_ | refine Below.setCell ?_ ?_ _ | refine Below.trans ?_ (Below.mono (by assumption) ?_))) <;> (first | omega | (simp; try omega)))) (hT4.pure (by (repeat (with_reducible first | exact Below.refl _ _ | refine Below.alloc ?_ ?_ _ | refine below_drewN ?_ _ | refine Below.drew ?_ | refine Below.setCell ?_ ?_ _ | refine Below.trans ?_ (Below.mono (by assumption) ?_))) <;> (first | omega | (simp; try omega)))) Hk0.out).mono ?_; rintro e w5 ⟨rfl, hb5⟩))
            go_ret
            exact ⟨rfl, HB4.out.trans (Below.mono (show Below wx.heap.size wx _ from (by (repeat (with_reducible first | exact Below.refl _ _ | refine Below.alloc ?_ ?_ _ | refine below_drewN ?_ _ | refine Below.drew ?_ | refine Below.setCell ?_ ?_ _ | refine Below.trans ?_ (Below.mono (by assumption) ?_))) <;> (first | omega | (simp; try omega)))) HB4.out.size)⟩
        · have hk' : (ck != 6) = true := by simpa using hk
          clear hT4 hX4 hL4 HC4 Hdo Hcan q1 q2 q3 q4
          go_wp2
          go_ret
          exact ⟨rfl, HB4.out.trans (Below.mono (show Below wx.heap.size wx _ from (by (repeat (with_reducible first | exact Below.refl _ _ | refine Below.alloc ?_ ?_ _ | refine below_drewN ?_ _ | refine Below.drew ?_ | refine Below.setCell ?_ ?_ _ | refine Below.trans ?_ (Below.mono (by assumption) ?_))) <;> (first | omega | (simp; try omega)))) HB4.out.size)⟩
  · have hgt : (1048576 : Int) < (n : Int) := by omega
    clear hbig hb hL
    go_enter Tryz.func4, Tryz.ntmps4
    go_wp2
    go_ret
    exact ⟨rfl, (by (repeat (with_reducible first | exact Below.refl _ _ | refine Below.alloc ?_ ?_ _ | refine below_drewN ?_ _ | refine Below.drew ?_ | refine Below.setCell ?_ ?_ _ | refine Below.trans ?_ (Below.mono (by assumption) ?_))) <;> (first | omega | (simp; try omega)))⟩
end Go.Proofs.YthelfojlgcjgjaaGreatDoor
