/- The law on what is written and read, walked. Conditions: the bytes lie where their cells say; errors.errorType is laid. -/
import Derived.Test.YthelfojlgcjgjaaGreatDoorLg
import Derived.Test.YthelfojlgcjgjaaGreatDoorTl
set_option linter.unusedVariables false
set_option linter.unusedSimpArgs false
namespace Go.Proofs.YthelfojlgcjgjaaGreatDoor
open Go.RowKit Drw
attribute [local go_sem] Lab.val Rgt.val Cal.val Thg.val
attribute [local go_sem 5000] eql_rgt neq_rgt

/-- Whether two labels are the same; closed, so that the walk keeps it in one piece. -/
def labEq (a b : Lab) : Bool := decide (a = b)
theorem labEq_iff {a b : Lab} : labEq a b = true ↔ a = b := by simp [labEq]
theorem neq_lab (a1 a2 b1 b2 : Int) (w : World) : (binOp .neq 35 (.agg #[.int .i64 a1, .int .i64 a2]) (.agg #[.int .i64 b1, .int .i64 b2])).run Tryz.prog w = .ok (.bool (!labEq ⟨a1, a2⟩ ⟨b1, b2⟩)) w := by
  simp [go_sem, labEq]
  by_cases h1 : a1 = b1 <;> by_cases h2 : a2 = b2 <;> simp [h1, h2]
attribute [local go_sem 5000] neq_lab

theorem tableLive_t {p : Option Addr} {cap : Nat} {ts : List Thg} {r : Rgt} {v : Bool} {w : World} (hT : TabAt w (.slice p ts.length cap) ts) (h : (tabOk ts && rgtOk r && live ts r) = v) :
    Calls Tryz.prog 13 #[.slice p ts.length cap, r.val] w fun e w' => e = .returned (.bool v) ∧ Below w.heap.size w w' := by
  rw [← h]; exact tableLive_c p cap ts r w hT

theorem mod100 {n : Nat} : ((n : Int).tmod 100 = ((n % 100 : Nat) : Int)) ∧ IntKind.i64.wrap (((n % 100 : Nat) : Int)) = ((n % 100 : Nat) : Int) := by
  refine ⟨by rw [Int.tmod_eq_emod_of_nonneg (by omega)]; omega, IntWalk.i64_in _ (by omega)⟩

set_option maxRecDepth 100000 in
set_option maxHeartbeats 4000000 in
theorem fnWriteRead_c (p : Option Addr) (n cap : Nat) (p2 : Option Addr) (n2 cap2 : Nat) (w : World) (hL : Laid w) (hc : n ≤ cap) (hb : BytesAt w p n) :
    Calls Tryz.prog 3 #[.slice p n cap, .slice p2 n2 cap2] w fun e w' => e = .returned (.bool true) ∧ Below w.heap.size w w' := by
  by_cases hbig : n ≤ 1048576 ∧ n2 ≤ 1048576
  · have hle : ¬ (1048576 : Int) < (n : Int) := by omega
    have hle2 : ¬ (1048576 : Int) < (n2 : Int) := by omega
    have hle3 : (n : Int) ≤ 1048576 := by omega
    have hle4 : (n2 : Int) ≤ 1048576 := by omega
    have Hb := Lib.hid hb
    have HL := Lib.hid hL
    clear hb hL
    go_enter Tryz.func3, Tryz.ntmps3
    go_upto_region 3 with (fail)
    go_cut [5, 6] (fun s3 s4 wz => ∃ q k ts c B, s3 = .slice q ts.length k ∧ s4 = .pointer (some ⟨B, 0, none⟩) ∧ w.heap.size ≤ B ∧ CallIn wz B c ∧ TabAt wz (.slice q ts.length k) ts ∧ 3 ≤ ts.length ∧ ts.length ≤ 8 ∧ Below w.heap.size w wz)
    case first =>
      go_wp2_with (go_at_call 8; refine (drawCallDo_c p n cap _ hc Hb.out (by omega)).mono ?_; rintro e w1 ⟨q, k, ts, ⟨ck, cr, ca, cb, cn⟩, rfl, hT, h3, h8, -, hb1⟩)
      go_meet
      have hz1 := hb1.size
      exact ⟨q, k, ts, ⟨ck, cr, ca, cb, cn⟩, w1.heap.size, rfl, rfl, hb1.size, ⟨by simp [go_sem], fun j => by simp [go_sem]⟩, hT.pure (by (repeat (with_reducible first | exact Below.refl _ _ | refine Below.alloc ?_ ?_ _ | refine below_drewN ?_ _ | refine Below.drew ?_ | refine Below.setCell ?_ ?_ _ | refine Below.trans ?_ (Below.mono (by assumption) ?_))) <;> (first | omega | (simp; try omega))), h3, h8, (by (repeat (with_reducible first | exact Below.refl _ _ | refine Below.alloc ?_ ?_ _ | refine below_drewN ?_ _ | refine Below.drew ?_ | refine Below.setCell ?_ ?_ _ | refine Below.trans ?_ (Below.mono (by assumption) ?_))) <;> (first | omega | (simp; try omega)))⟩
    case rest =>
      obtain ⟨q, k, ts, ⟨ck, cr, ca, cb, cn⟩, B, rfl, rfl, hwB, hC, hT, hl3, hl8, hB1⟩ := hcut
      obtain ⟨wx, rfl⟩ : ∃ wx : World, wx = wc := ⟨_, rfl⟩
      have hL1 := HL.out.below hB1 HL.out.size
      obtain ⟨us, an, hdo⟩ : ∃ us an, callDo ts ⟨ck, cr, ca, cb, cn⟩ = (us, an) := ⟨_, _, rfl⟩
      obtain ⟨can, hcan⟩ : ∃ can, calCan ts ⟨ck, cr, ca, cb, cn⟩ = can := ⟨_, rfl⟩
      have Hdo := Lib.hid hdo
      have Hcan := Lib.hid hcan
      have HB1 := Lib.hid hB1
      have HC := Lib.hid hC
      clear hdo hcan HL Hb hB1 hwB
      obtain ⟨⟨q0, q1, q2, q3, q4⟩, -⟩ := hC
      dsimp only at q0 q1 q2 q3 q4
      have hBs := World.block_lt_of_cell? _ _ q0
      go_upto_region 6 with (first
        | (go_at_call 10; refine (callDo_t (hL1.pure hb1) (hT.pure hb1) Hdo.out).mono ?_; rintro e w2 ⟨p2', k2, rfl, hX, hb2⟩)
        | (go_at_call 9; refine (scallDo_t (c := ⟨_, _, _, _, _⟩) hT Hdo.out).mono ?_; rintro e w1 ⟨p1, k1, rfl, hW, hb1⟩; have q0 := (HC.out.pure hb1).1.1; have q1 := (HC.out.pure hb1).1.2.1; have q2 := (HC.out.pure hb1).1.2.2.1; have q3 := (HC.out.pure hb1).1.2.2.2.1; have q4 := (HC.out.pure hb1).1.2.2.2.2))
      have hT2 := (hT.pure hb1).pure hb2
      have hW2 := hW.pure hb2
      have hC2 := (HC.out.pure hb1).pure hb2
      have hL2 := (hL1.pure hb1).pure hb2
      have hB2 : Below w.heap.size w w2 := (HB1.out.trans (hb1.mono HB1.out.size)).trans (hb2.mono (Nat.le_trans HB1.out.size hb1.size))
      clear hT hW hL1 hb1 hb2 q0 q1 q2 q3 q4 hBs HC HB1
      have HB2 := Lib.hid hB2
      have HC2 := Lib.hid hC2
      obtain ⟨⟨q0, q1, q2, q3, q4⟩, -⟩ := hC2
      dsimp only at q0 q1 q2 q3 q4
      have hBs := World.block_lt_of_cell? _ _ q0
      clear hB2
      cases can
      · go_wp2_with (first
          | (go_at_call 12; refine (ldCan_t (hT2.pure (by (repeat (with_reducible first | exact Below.refl _ _ | refine Below.alloc ?_ ?_ _ | refine below_drewN ?_ _ | refine Below.drew ?_ | refine Below.setCell ?_ ?_ _ | refine Below.trans ?_ (Below.mono (by assumption) ?_))) <;> (first | omega | (simp; try omega)))) Hcan.out).mono ?_; rintro e w4 ⟨rfl, hb4⟩; have hz4 := hb4.size)
          | (go_at_call 11; refine (ldTable_s (hX.pure (by (repeat (with_reducible first | exact Below.refl _ _ | refine Below.alloc ?_ ?_ _ | refine below_drewN ?_ _ | refine Below.drew ?_ | refine Below.setCell ?_ ?_ _ | refine Below.trans ?_ (Below.mono (by assumption) ?_))) <;> (first | omega | (simp; try omega)))) (hW2.pure (by (repeat (with_reducible first | exact Below.refl _ _ | refine Below.alloc ?_ ?_ _ | refine below_drewN ?_ _ | refine Below.drew ?_ | refine Below.setCell ?_ ?_ _ | refine Below.trans ?_ (Below.mono (by assumption) ?_))) <;> (first | omega | (simp; try omega))))).mono ?_; rintro e w3 ⟨rfl, hb3⟩; have hz3 := hb3.size; have q0 := (HC2.out.pure hb3).1.1; have q1 := (HC2.out.pure hb3).1.2.1; have q2 := (HC2.out.pure hb3).1.2.2.1; have q3 := (HC2.out.pure hb3).1.2.2.2.1; have q4 := (HC2.out.pure hb3).1.2.2.2.2)
          | (go_at_call 11; refine (ldTable_s (hX.pure (by (repeat (with_reducible first | exact Below.refl _ _ | refine Below.alloc ?_ ?_ _ | refine below_drewN ?_ _ | refine Below.drew ?_ | refine Below.setCell ?_ ?_ _ | refine Below.trans ?_ (Below.mono (by assumption) ?_))) <;> (first | omega | (simp; try omega)))) (hW2.pure (by (repeat (with_reducible first | exact Below.refl _ _ | refine Below.alloc ?_ ?_ _ | refine below_drewN ?_ _ | refine Below.drew ?_ | refine Below.setCell ?_ ?_ _ | refine Below.trans ?_ (Below.mono (by assumption) ?_))) <;> (first | omega | (simp; try omega))))).mono ?_; rintro e w5 ⟨rfl, hb5⟩; have hz5 := hb5.size))
        go_ret
        have h2 := HB2.out.size
        exact ⟨rfl, HB2.out.trans (Below.mono (show Below w2.heap.size w2 _ from (by (repeat (with_reducible first | exact Below.refl _ _ | refine Below.alloc ?_ ?_ _ | refine below_drewN ?_ _ | refine Below.drew ?_ | refine Below.setCell ?_ ?_ _ | refine Below.trans ?_ (Below.mono (by assumption) ?_))) <;> (first | omega | (simp; try omega)))) h2)⟩
      · go_upto_region 8 with (first
          | (go_at_call 12; refine (ldCan_t (hT2.pure (by (repeat (with_reducible first | exact Below.refl _ _ | refine Below.alloc ?_ ?_ _ | refine below_drewN ?_ _ | refine Below.drew ?_ | refine Below.setCell ?_ ?_ _ | refine Below.trans ?_ (Below.mono (by assumption) ?_))) <;> (first | omega | (simp; try omega)))) Hcan.out).mono ?_; rintro e w4 ⟨rfl, hb4⟩; have hz4 := hb4.size)
          | (go_at_call 11; refine (ldTable_s (hX.pure (by (repeat (with_reducible first | exact Below.refl _ _ | refine Below.alloc ?_ ?_ _ | refine below_drewN ?_ _ | refine Below.drew ?_ | refine Below.setCell ?_ ?_ _ | refine Below.trans ?_ (Below.mono (by assumption) ?_))) <;> (first | omega | (simp; try omega)))) (hW2.pure (by (repeat (with_reducible first | exact Below.refl _ _ | refine Below.alloc ?_ ?_ _ | refine below_drewN ?_ _ | refine Below.drew ?_ | refine Below.setCell ?_ ?_ _ | refine Below.trans ?_ (Below.mono (by assumption) ?_))) <;> (first | omega | (simp; try omega))))).mono ?_; rintro e w3 ⟨rfl, hb3⟩; have hz3 := hb3.size; have q0 := (HC2.out.pure hb3).1.1; have q1 := (HC2.out.pure hb3).1.2.1; have q2 := (HC2.out.pure hb3).1.2.2.1; have q3 := (HC2.out.pure hb3).1.2.2.2.1; have q4 := (HC2.out.pure hb3).1.2.2.2.2))
        have hb5 : Below w2.heap.size w2 w4 := (by (repeat (with_reducible first | exact Below.refl _ _ | refine Below.alloc ?_ ?_ _ | refine below_drewN ?_ _ | refine Below.drew ?_ | refine Below.setCell ?_ ?_ _ | refine Below.trans ?_ (Below.mono (by assumption) ?_))) <;> (first | omega | (simp; try omega)))
        have hT4 := hT2.pure hb5
        have hX4 := hX.pure hb5
        have hL4 := hL2.pure hb5
        have hC4 := HC2.out.pure hb5
        have HB4 := Lib.hid (HB2.out.trans (hb5.mono HB2.out.size))
        have HC4 := Lib.hid hC4
        clear hT2 hX hL2 HC2 HB2 hb3 hb4 hz3 hz4 q0 q1 q2 q3 q4 hBs hW2 hb5
        obtain ⟨wx, rfl⟩ : ∃ wx : World, wx = w4 := ⟨_, rfl⟩
        obtain ⟨⟨q0, q1, q2, q3, q4⟩, -⟩ := hC4
        dsimp only at q0 q1 q2 q3 q4
        have hBs := World.block_lt_of_cell? _ _ q0
        obtain ⟨j, m, tr, r, hcan⟩ := can_of Hcan.out
        have hrun : cr = (j : Int) + 1 := hcan.run
        have hca : ca = (m : Int) := hcan.a
        have hcb := hcan.b
        have hcn := hcan.n
        dsimp only at hcb hcn
        have hrok := hcan.rOk
        have h4 := hcan.four
        have hm4 := hcan.m4
        have htr := hcan.tr_at
        have hmr := hcan.r_at
        have hcap := hcan.cap
        have hslot := hcan.slot
        clear hcan
        subst hrun hca
        have hj : j < ts.length := (List.getElem?_eq_some_iff.1 htr).1
        obtain ⟨b, o, sv, qv, rfl, hbl, hS, -, -, -, -, -, -, c5, -⟩ := hT4.at j tr htr
        obtain ⟨ps, cs, rfl, hs1, hs2⟩ := hS.len
        rw [h4] at c5 hs1 hS
        have hs1' : (4 : Nat) ≤ cs := hs1
        obtain ⟨bz, oz, rfl, hbz, r0, r1, r2, r3, r4⟩ := hS.at m r hmr
        have hx0 : (0 : Int) ≤ (j : Int) := by omega
        have hxn : (j : Int) < (ts.length : Int) := by omega
        have hm0 : (0 : Int) ≤ (m : Int) := by omega
        have hm4' : (m : Int) < 4 := by omega
        have hw1 : IntKind.i64.wrap ((j : Int) + 1 - 1) = (j : Int) := by rw [show (j : Int) + 1 - 1 = j by omega]; exact IntWalk.i64_in _ (by omega)
        have hw2 : IntKind.i64.wrap (j : Int) = (j : Int) := IntWalk.i64_in _ (by omega)
        obtain ⟨r0', r1', r2', r3', r4'⟩ := r
        dsimp only at r0 r1 r2 r3 r4
        go_upto_region 8 with (fail)
        go_cut [11] (fun s9 wz => ∃ D, s9 = .pointer (some ⟨D, 0, none⟩) ∧ (wz.cell? ⟨D, 0, none⟩ = some (.int .i64 r0') ∧ wz.cell? ⟨D, 1, none⟩ = some (.int .i64 r1') ∧ wz.cell? ⟨D, 2, none⟩ = some (.bool r2') ∧ wz.cell? ⟨D, 3, none⟩ = some (.bool r3') ∧ wz.cell? ⟨D, 4, none⟩ = some (.bool r4')) ∧ Below wx.heap.size wx wz)
        case first =>
          go_region_held3 (fun w' => w'.cell? ⟨B, 1, none⟩ = some (.int .i64 ((j : Int) + 1)) ∧ w'.cell? ⟨B, 2, none⟩ = some (.int .i64 (m : Int)) ∧ w'.cell? ⟨b, o + j * 8 + 5, none⟩ = some (.slice (some ⟨bz, oz, none⟩) 4 cs) ∧ w'.cell? ⟨bz, oz + m * 5, none⟩ = some (.int .i64 r0') ∧ w'.cell? ⟨bz, oz + m * 5 + 1, none⟩ = some (.int .i64 r1') ∧ w'.cell? ⟨bz, oz + m * 5 + 2, none⟩ = some (.bool r2') ∧ w'.cell? ⟨bz, oz + m * 5 + 3, none⟩ = some (.bool r3') ∧ w'.cell? ⟨bz, oz + m * 5 + 4, none⟩ = some (.bool r4')) (go_keep) (fail)
          all_goals (go_wp2; go_meet)
          all_goals exact ⟨_, rfl, by simp [go_sem], (by (repeat (with_reducible first | exact Below.refl _ _ | refine Below.alloc ?_ ?_ _ | refine below_drewN ?_ _ | refine Below.drew ?_ | refine Below.setCell ?_ ?_ _ | refine Below.trans ?_ (Below.mono (by assumption) ?_))) <;> (first | omega | (simp; try omega)))⟩
        case rest =>
          obtain ⟨D, rfl, hD, hBy⟩ := hcut
          obtain ⟨wy, rfl⟩ : ∃ wy : World, wy = wc := ⟨_, rfl⟩
          have hzy := hBy.size
          have hTy := hT4.pure hBy
          have hXy := hX4.pure hBy
          have hCy := HC4.out.pure hBy
          have hLy := hL4.pure hBy
          have HBy := Lib.hid (HB4.out.trans (hBy.mono HB4.out.size))
          clear q0 q1 q2 q3 q4 r0 r1 r2 r3 r4 c5 hS hT4 hX4 HC4 hBs hbl hbz hs1 hs2 hBy hL4 HB4
          obtain ⟨⟨q0, q1, q2, q3, q4⟩, -⟩ := id hCy
          dsimp only at q0 q1 q2 q3 q4
          obtain ⟨g0, g1, g2, g3, g4⟩ := hD
          have hBs := World.block_lt_of_cell? _ _ q0
          have hDs := World.block_lt_of_cell? _ _ g0
          have htab : tabOk ts = true := (canB.1 Hcan.out).tab
          obtain ⟨li, hli⟩ : ∃ b, live ts ⟨r0', r1', r2', r3', r4'⟩ = b := ⟨_, rfl⟩
          have Hli := Lib.hid (show (tabOk ts && rgtOk ⟨r0', r1', r2', r3', r4'⟩ && live ts ⟨r0', r1', r2', r3', r4'⟩) = li by rw [htab, hrok, hli]; rfl)
          have Hslot := Lib.hid hslot
          obtain ⟨bad, hbad⟩ : ∃ bad, (r0' == 0 || (getT ts r0').kind != 1 || !r2' || !r3' || !labEq (getT ts r0').lab tr.lab || !li) = bad := ⟨_, rfl⟩
          have Hbad := Lib.hid hbad
          have HTy := Lib.hid hTy
          have HLy := Lib.hid hLy
          have htrg : getT ts ((j : Int) + 1) = tr := getT_at htr
          have Htrg := Lib.hid htrg
          clear htrg hli htab hslot hXy hmr hbad
          go_upto_region 9 with (fail)
          go_cut [121] (fun s121 wz => s121 = .bool bad ∧ Below wy.heap.size wy wz)
          case first =>
            by_cases h0 : r0' = 0
            · subst h0
              have hb1 : bad = true := by rw [← Hbad.out]; rfl
              subst hb1
              clear hTy hcap htr hrok hcb hcn
              go_quiet (fail)
              go_wp2
              go_meet
              exact ⟨rfl, (by (repeat (with_reducible first | exact Below.refl _ _ | refine Below.alloc ?_ ?_ _ | refine below_drewN ?_ _ | refine Below.drew ?_ | refine Below.setCell ?_ ?_ _ | refine Below.trans ?_ (Below.mono (by assumption) ?_))) <;> (first | omega | (simp; try omega)))⟩
            · obtain ⟨x, hxe, htx, hex, -⟩ := cap_thing hcap h0
              dsimp only at hxe htx hex
              subst hxe
              obtain ⟨tx, htxe⟩ : ∃ tx, getT ts ((x : Int) + 1) = tx := ⟨_, rfl⟩
              rw [htxe] at htx
              have hxl : x < ts.length := (List.getElem?_eq_some_iff.1 htx).1
              obtain ⟨b1, o1, sv1, qv1, e1, hb1', -, -, d0, d1, d2, -, -, -, -, -⟩ := hTy.at x tx htx
              cases e1
              obtain ⟨b2, o2, sv2, qv2, e2, hb2, -, -, c0, c1, c2, -, -, -, -, -⟩ := hTy.at j tr htr
              cases e2
              have h00 : (((x : Int) + 1) == 0) = false := by simp; omega
              have hx00 : (0 : Int) ≤ (x : Int) := by omega
              have hxn0 : (x : Int) < (ts.length : Int) := by omega
              have hz1 : IntKind.i64.wrap ((x : Int) + 1 - 1) = (x : Int) := by rw [show (x : Int) + 1 - 1 = x by omega]; exact IntWalk.i64_in _ (by omega)
              have hz2 : IntKind.i64.wrap (x : Int) = (x : Int) := IntWalk.i64_in _ (by omega)
              have Hb := Lib.hid (show (tx.kind != 1 || !r2' || !r3' || !labEq tx.lab tr.lab || !li) = bad by rw [← Hbad.out, h00, htxe]; rfl)
              clear hTy hcap htr hrok hcb hcn htx htxe hex Hbad hxl h0 c0
              obtain ⟨tk, ⟨tls, tlv⟩, tv, tn, tsl, tqu, tto⟩ := tx
              obtain ⟨rk, ⟨rls, rlv⟩, rv, rn, rsl, rqu, rto⟩ := tr
              dsimp only at d0 d1 d2 c1 c2
              by_cases hk1 : tk = 1
              · subst hk1
                cases r2'
                · have hb1 : bad = true := by rw [← Hb.out]; rfl
                  subst hb1
                  go_quiet (fail)
                  go_wp2
                  go_meet
                  exact ⟨rfl, (by (repeat (with_reducible first | exact Below.refl _ _ | refine Below.alloc ?_ ?_ _ | refine below_drewN ?_ _ | refine Below.drew ?_ | refine Below.setCell ?_ ?_ _ | refine Below.trans ?_ (Below.mono (by assumption) ?_))) <;> (first | omega | (simp; try omega)))⟩
                · cases r3'
                  · have hb1 : bad = true := by rw [← Hb.out]; rfl
                    subst hb1
                    go_quiet (fail)
                    go_wp2
                    go_meet
                    exact ⟨rfl, (by (repeat (with_reducible first | exact Below.refl _ _ | refine Below.alloc ?_ ?_ _ | refine below_drewN ?_ _ | refine Below.drew ?_ | refine Below.setCell ?_ ?_ _ | refine Below.trans ?_ (Below.mono (by assumption) ?_))) <;> (first | omega | (simp; try omega)))⟩
                  · obtain ⟨le, hle⟩ : ∃ le, labEq ⟨tls, tlv⟩ ⟨rls, rlv⟩ = le := ⟨_, rfl⟩
                    cases le
                    · have hb1 : bad = true := by rw [← Hb.out]; simp [hle]
                      subst hb1
                      go_quiet (fail)
                      go_wp2
                      go_meet
                      exact ⟨rfl, (by (repeat (with_reducible first | exact Below.refl _ _ | refine Below.alloc ?_ ?_ _ | refine below_drewN ?_ _ | refine Below.drew ?_ | refine Below.setCell ?_ ?_ _ | refine Below.trans ?_ (Below.mono (by assumption) ?_))) <;> (first | omega | (simp; try omega)))⟩
                    · have hb1 : bad = !li := by rw [← Hb.out]; simp [hle]
                      subst hb1
                      have hll := labEq_iff.1 hle
                      cases hll
                      have HS := Lib.hid (show ∀ w' : World, Below wy.heap.size wy w' → (Below wy.heap.size wy w' ∧ w'.cell? ⟨B, 1, none⟩ = some (.int .i64 ((j : Int) + 1)) ∧ (w'.cell? ⟨D, 0, none⟩ = some (.int .i64 ((x : Int) + 1)) ∧ w'.cell? ⟨D, 1, none⟩ = some (.int .i64 r1') ∧ w'.cell? ⟨D, 2, none⟩ = some (.bool true) ∧ w'.cell? ⟨D, 3, none⟩ = some (.bool true) ∧ w'.cell? ⟨D, 4, none⟩ = some (.bool r4')) ∧ w'.cell? ⟨b, o + x * 8, none⟩ = some (.int .i64 1) ∧ w'.cell? ⟨b, o + x * 8 + 1, none⟩ = some (.int .i64 tls) ∧ w'.cell? ⟨b, o + x * 8 + 2, none⟩ = some (.int .i64 tlv) ∧ w'.cell? ⟨b, o + j * 8 + 1, none⟩ = some (.int .i64 tls) ∧ w'.cell? ⟨b, o + j * 8 + 2, none⟩ = some (.int .i64 tlv)) from
                        fun w' h => by
                          obtain ⟨hc', -⟩ := bcell h
                          exact ⟨h, (hc' _ _ hBs).trans q1, ⟨(hc' _ _ hDs).trans g0, (hc' _ _ hDs).trans g1, (hc' _ _ hDs).trans g2, (hc' _ _ hDs).trans g3, (hc' _ _ hDs).trans g4⟩, (hc' _ _ hb1').trans d0, (hc' _ _ hb1').trans d1, (hc' _ _ hb1').trans d2, (hc' _ _ hb1').trans c1, (hc' _ _ hb1').trans c2⟩)
                      clear q0 q1 q2 q3 q4 g0 g1 g2 g3 g4 d0 d1 d2 c1 c2
                      go_region_held3 (fun w' => Below wy.heap.size wy w' ∧ w'.cell? ⟨B, 1, none⟩ = some (.int .i64 ((j : Int) + 1)) ∧ (w'.cell? ⟨D, 0, none⟩ = some (.int .i64 ((x : Int) + 1)) ∧ w'.cell? ⟨D, 1, none⟩ = some (.int .i64 r1') ∧ w'.cell? ⟨D, 2, none⟩ = some (.bool true) ∧ w'.cell? ⟨D, 3, none⟩ = some (.bool true) ∧ w'.cell? ⟨D, 4, none⟩ = some (.bool r4')) ∧ w'.cell? ⟨b, o + x * 8, none⟩ = some (.int .i64 1) ∧ w'.cell? ⟨b, o + x * 8 + 1, none⟩ = some (.int .i64 tls) ∧ w'.cell? ⟨b, o + x * 8 + 2, none⟩ = some (.int .i64 tlv) ∧ w'.cell? ⟨b, o + j * 8 + 1, none⟩ = some (.int .i64 tls) ∧ w'.cell? ⟨b, o + j * 8 + 2, none⟩ = some (.int .i64 tlv))
                        (first | exact HS.out _ (Below.drew (Below.refl _ _)) | (have hX := And.left (by assumption : Below wy.heap.size wy _ ∧ _); exact HS.out _ (hX.trans (hb3.mono hX.size))))
                        (first | (go_at_call 13; refine (tableLive_t (r := ⟨_, _, _, _, _⟩) (HTy.out.pure (And.left (by assumption : Below wy.heap.size wy _ ∧ _))) Hli.out).mono ?_; rintro e w3 ⟨rfl, hb3⟩))
                      all_goals (go_wp2; go_meet; exact ⟨rfl, And.left (by assumption : Below wy.heap.size wy _ ∧ _)⟩)
              · have hk1' : (tk != 1) = true := by simpa using hk1
                have hb1 : bad = true := by rw [← Hb.out]; simp [hk1]
                subst hb1
                go_quiet (fail)
                go_wp2
                go_meet
                exact ⟨rfl, (by (repeat (with_reducible first | exact Below.refl _ _ | refine Below.alloc ?_ ?_ _ | refine below_drewN ?_ _ | refine Below.drew ?_ | refine Below.setCell ?_ ?_ _ | refine Below.trans ?_ (Below.mono (by assumption) ?_))) <;> (first | omega | (simp; try omega)))⟩
          case rest =>
            obtain ⟨rfl, hBz⟩ := hcut
            obtain ⟨wz', rfl⟩ : ∃ wy : World, wy = wc := ⟨_, rfl⟩
            cases bad
            · have hb := Hbad.out
              simp only [Bool.or_eq_false_iff, Bool.not_eq_false', bne_eq_false_iff_eq, beq_eq_false_iff_ne] at hb
              obtain ⟨⟨⟨⟨⟨h0, hk1⟩, hrd⟩, hwr⟩, hle⟩, hli⟩ := hb
              subst hli
              have hcB := canB.1 Hcan.out
              have hsl := Hslot.out
              have hli2 := Hli.out
              simp only [Bool.and_eq_true] at hli2
              have hlaw := law_writeRead hcB (by rw [hsl]; exact h0) (by rw [hsl]; exact hk1) (by rw [hsl]; exact hrd) (by rw [hsl]; exact hwr) (by rw [hsl]; dsimp only; rw [Htrg.out]; exact labEq_iff.1 hle) (by rw [hsl]; exact hli2.2) ((n2 % 100 : Nat) : Int) (by omega)
              dsimp only at hlaw
              obtain ⟨ys, a1, hd1⟩ : ∃ ys a1, callDo ts ⟨2, (j : Int) + 1, (m : Int), 0, ((n2 % 100 : Nat) : Int)⟩ = (ys, a1) := ⟨_, _, rfl⟩
              rw [hd1] at hlaw
              obtain ⟨ha1, hlaw⟩ := hlaw
              dsimp only at ha1 hlaw
              subst ha1
              obtain ⟨zs, a2, hd2⟩ : ∃ zs a2, callDo ys ⟨1, (j : Int) + 1, (m : Int), 0, 0⟩ = (zs, a2) := ⟨_, _, rfl⟩
              rw [hd2] at hlaw
              dsimp only at hlaw
              subst hlaw
              have Hd1 := Lib.hid hd1
              have Hd2 := Lib.hid hd2
              have hTz := HTy.out.pure hBz
              have hLz := HLy.out.pure hBz
              obtain ⟨hc', -⟩ := bcell hBz
              have q1' := (hc' _ _ hBs).trans q1
              have q2' := (hc' _ _ hBs).trans q2
              have hBs' := Nat.lt_of_lt_of_le hBs hBz.size
              obtain ⟨mm, hmm⟩ : ∃ mm : Nat, n2 % 100 = mm := ⟨_, rfl⟩
              have hm100 := mod100 (n := n2)
              rw [hmm] at hm100 Hd1 Hd2
              obtain ⟨u1, u2⟩ := hm100
              have hn20 : (0 : Int) ≤ (n2 : Int) := by omega
              have u3 : (n2 : Int) % 100 = (mm : Int) := by omega
              clear hd1 hd2 hc' hcB hsl hli2 h0 hk1 hrd hwr hle q0 q1 q2 q3 q4 g0 g1 g2 g3 g4 htr hcap hTy hcb hcn hrok hmm
              have hzz := hBz.size
              go_upto_region 13 with (first
                | (go_at_call 10; refine (callDo_t (hLz.pure (by (repeat (with_reducible first | exact Below.refl _ _ | refine Below.alloc ?_ ?_ _ | refine below_drewN ?_ _ | refine Below.drew ?_ | refine Below.setCell ?_ ?_ _ | refine Below.trans ?_ (Below.mono (by assumption) ?_))) <;> (first | omega | (simp; try omega)))) (hTz.pure (by (repeat (with_reducible first | exact Below.refl _ _ | refine Below.alloc ?_ ?_ _ | refine below_drewN ?_ _ | refine Below.drew ?_ | refine Below.setCell ?_ ?_ _ | refine Below.trans ?_ (Below.mono (by assumption) ?_))) <;> (first | omega | (simp; try omega)))) Hd1.out).mono ?_; rintro e w6 ⟨p6, k6, rfl, hY6, hb6⟩))
              obtain ⟨hc6, -⟩ := bcell hb6
              have s1 := (hc6 _ _ hBs').trans q1'
              have s2 := (hc6 _ _ hBs').trans q2'
              have hL6 := hLz.pure hb6
              have hz6 := hb6.size
              have HBz := Lib.hid hBz
              have Hb6 := Lib.hid hb6
              clear hc6 q1' q2' hBz hb6 hLz
              go_wp2_with (first
                | (go_at_call 10; refine (callDo_t (hL6.pure (by (repeat (with_reducible first | exact Below.refl _ _ | refine Below.alloc ?_ ?_ _ | refine below_drewN ?_ _ | refine Below.drew ?_ | refine Below.setCell ?_ ?_ _ | refine Below.trans ?_ (Below.mono (by assumption) ?_))) <;> (first | omega | (simp; try omega)))) (hY6.pure (by (repeat (with_reducible first | exact Below.refl _ _ | refine Below.alloc ?_ ?_ _ | refine below_drewN ?_ _ | refine Below.drew ?_ | refine Below.setCell ?_ ?_ _ | refine Below.trans ?_ (Below.mono (by assumption) ?_))) <;> (first | omega | (simp; try omega)))) Hd2.out).mono ?_; rintro e w7 ⟨p7, k7, rfl, hY7, hb7⟩))
              go_ret
              exact ⟨rfl, HBy.out.trans (Below.mono (HBz.out.trans ((Hb6.out.trans (hb7.mono hz6)).mono hzz)) HBy.out.size)⟩
            · go_wp2
              go_ret
              exact ⟨rfl, HBy.out.trans (Below.mono hBz HBy.out.size)⟩
  · clear hb hL
    by_cases hgt : (1048576 : Int) < (n : Int)
    · clear hbig
      go_enter Tryz.func3, Tryz.ntmps3
      go_wp2
      go_ret
      exact ⟨rfl, (by (repeat (with_reducible first | exact Below.refl _ _ | refine Below.alloc ?_ ?_ _ | refine below_drewN ?_ _ | refine Below.drew ?_ | refine Below.setCell ?_ ?_ _ | refine Below.trans ?_ (Below.mono (by assumption) ?_))) <;> (first | omega | (simp; try omega)))⟩
    · have hgt2 : (1048576 : Int) < (n2 : Int) := by omega
      clear hbig
      go_enter Tryz.func3, Tryz.ntmps3
      go_wp2
      go_ret
      exact ⟨rfl, (by (repeat (with_reducible first | exact Below.refl _ _ | refine Below.alloc ?_ ?_ _ | refine below_drewN ?_ _ | refine Below.drew ?_ | refine Below.setCell ?_ ?_ _ | refine Below.trans ?_ (Below.mono (by assumption) ?_))) <;> (first | omega | (simp; try omega)))⟩
end Go.Proofs.YthelfojlgcjgjaaGreatDoor
