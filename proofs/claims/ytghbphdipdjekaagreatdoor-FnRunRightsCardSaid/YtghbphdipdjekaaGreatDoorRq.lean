/- The law that no right comes of nothing ever, walked. Conditions: the bytes lie where their cells say; errors.errorType is laid. -/
import Derived.Test.YtghbphdipdjekaaGreatDoorLg
import Derived.Test.YtghbphdipdjekaaGreatDoorRu
set_option linter.unusedVariables false
set_option linter.unusedSimpArgs false
namespace Go.Proofs.YtghbphdipdjekaaGreatDoor
open Go.RowKit Drw
attribute [local go_sem] Lab.val Rgt.val Cal.val Thg.val

/-- Whether a right could come of that one. -/
def okR (r s : Rgt) : Bool := s.thing == r.thing && s.vers == r.vers && (s.wr || !r.wr) && (!s.wk || r.wk)
/-- Whether it could come of one that the first things have. -/
def seenN (ts : List Thg) (r : Rgt) (n : Nat) : Bool := r.thing == 0 || (ts.take n).any (fun t => t.slots.any (okR r))
def seenK (ts : List Thg) (r : Rgt) (n : Nat) (t : Thg) (k : Nat) : Bool := seenN ts r n || (t.slots.take k).any (okR r)
theorem seenK_zero (ts : List Thg) (r : Rgt) (n : Nat) (t : Thg) : seenK ts r n t 0 = seenN ts r n := by simp [seenK]
theorem seenK_next {ts : List Thg} {r : Rgt} {n : Nat} {t : Thg} {k : Nat} {s : Rgt} (h : t.slots[k]? = some s) : seenK ts r n t (k + 1) = (seenK ts r n t k || okR r s) := by
  unfold seenK
  rw [List.take_add_one, h]
  simp [Bool.or_assoc]
theorem seenN_next {ts : List Thg} {r : Rgt} {n : Nat} {t : Thg} (h : ts[n]? = some t) {k : Nat} (hk : t.slots.length ≤ k) : seenN ts r (n + 1) = seenK ts r n t k := by
  unfold seenK seenN
  rw [List.take_add_one, h, List.take_of_length_le hk]
  simp [Bool.or_assoc]
/-- At one place of what calls leave. -/
theorem rights_at {ts us : List Thg} {cs : List Cal} {zs : List Int} (hc : runCan ts cs = true) (hd : runDo ts cs = (us, zs)) (hs : Same ts us) {j k : Nat} {u : Thg} {r : Rgt} (hu : us[j]? = some u) (hr : u.slots[k]? = some r) :
    seenN ts r ts.length = true := by
  have hl := hs.len
  have hlt := (List.getElem?_eq_some_iff.1 hu).1
  have hx : ex ts ((j : Int) + 1) = true := by simp [ex, inR]; omega
  have h5 := law_runRights (runCan_iff.1 hc).2.2 hx (r := r) (by rw [hd]; dsimp only; rw [getT_at hu]; exact List.mem_of_getElem? hr) (runCan_iff.1 hc).1
  unfold seenN
  rw [List.take_length, Bool.or_eq_true]
  rcases h5 with h | ⟨n, hn, s, hs, e1, e2, e3, e4⟩
  · exact .inl (by simp [h])
  · refine .inr ?_
    obtain ⟨x, hxn, rfl⟩ : ∃ x : Nat, x < ts.length ∧ n = (x : Int) + 1 := by
      simp [ex, inR] at hn
      exact ⟨(n - 1).toNat, by omega, by omega⟩
    obtain ⟨t, ht⟩ : ∃ t, ts[x]? = some t := ⟨_, List.getElem?_eq_getElem hxn⟩
    rw [getT_at ht] at hs
    rw [List.any_eq_true]
    refine ⟨t, List.mem_of_getElem? ht, ?_⟩
    rw [List.any_eq_true]
    exact ⟨s, hs, by simp only [okR, e1, e2, e3, e4, beq_self_eq_true, Bool.and_self]⟩

set_option maxRecDepth 100000 in
set_option maxHeartbeats 4000000 in
theorem fnRunRights_c (p : Option Addr) (n cap : Nat) (w : World) (hL : Laid w) (hc : n ≤ cap) (hb : BytesAt w p n) :
    Calls Tryz.prog 6 #[.slice p n cap] w fun e w' => e = .returned (.bool true) ∧ Below w.heap.size w w' := by
  by_cases hbig : n ≤ 1048576
  · have hle : ¬ (1048576 : Int) < (n : Int) := by omega
    have Hb := Lib.hid hb
    have HL := Lib.hid hL
    clear hb hL
    go_enter Tryz.func6, Tryz.ntmps6
    go_upto_region 4 with (go_at_call 23; refine (drawRunAll_c p n cap _ hc Hb.out (by omega)).mono ?_; rintro e w1 ⟨q, k, ts, q2, k2, cs, rfl, hT, hl3, hl8, hC, hcl, hb1⟩)
    obtain ⟨us, zs, rok, hrun⟩ : ∃ us zs rok, runAll ts cs = (us, zs, rok) := ⟨_, _, _, rfl⟩
    have Hrun := Lib.hid hrun
    have HT := Lib.hid hT
    have HC := Lib.hid hC
    have HB1 := Lib.hid hb1
    clear hrun hT hC hb1 Hb
    go_upto_region 6 with (first
      | (go_at_call 24; refine (srunAll_t HT.out HC.out Hrun.out).mono ?_; rintro e w2 ⟨pw, kw, pw2, kw2, rfl, hW, hWa, hb2⟩)
      | (go_at_call 21; refine (runAll_t (HL.out.pure (HB1.out.trans (hb2.mono HB1.out.size))) (HT.out.pure hb2) (HC.out.pure hb2) Hrun.out).mono ?_; rintro e w3 ⟨px, kx, px2, kx2, rfl, hX, hA, hb3⟩))
    have hb13 : Below w1.heap.size w1 w3 := hb2.trans (hb3.mono hb2.size)
    have hW3 := hW.pure hb3
    have hT3 := HT.out.pure hb13
    have hC3 := HC.out.pure hb13
    have hB3 := HB1.out.trans (hb13.mono HB1.out.size)
    have hL3 := HL.out.pure hB3
    have HB3 := Lib.hid hB3
    clear hW hWa hb2 hb3 hb13 HT HC HB1 hB3 HL
    cases rok
    · go_wp2_with (first
        | (go_at_call 25; refine (ldTable_s (hX.pure (by (repeat (with_reducible first | exact Below.refl _ _ | refine Below.alloc ?_ ?_ _ | refine below_drewN ?_ _ | refine Below.drew ?_ | refine Below.setCell ?_ ?_ _ | refine Below.trans ?_ (Below.mono (by assumption) ?_))) <;> (first | omega | (simp; try omega)))) (hW3.pure (by (repeat (with_reducible first | exact Below.refl _ _ | refine Below.alloc ?_ ?_ _ | refine below_drewN ?_ _ | refine Below.drew ?_ | refine Below.setCell ?_ ?_ _ | refine Below.trans ?_ (Below.mono (by assumption) ?_))) <;> (first | omega | (simp; try omega))))).mono ?_; rintro e w4 ⟨rfl, hb4⟩; have hz4 := hb4.size)
        | (go_at_call 25; refine (ldTable_s (hX.pure (by (repeat (with_reducible first | exact Below.refl _ _ | refine Below.alloc ?_ ?_ _ | refine below_drewN ?_ _ | refine Below.drew ?_ | refine Below.setCell ?_ ?_ _ | refine Below.trans ?_ (Below.mono (by assumption) ?_))) <;> (first | omega | (simp; try omega)))) (hW3.pure (by (repeat (with_reducible first | exact Below.refl _ _ | refine Below.alloc ?_ ?_ _ | refine below_drewN ?_ _ | refine Below.drew ?_ | refine Below.setCell ?_ ?_ _ | refine Below.trans ?_ (Below.mono (by assumption) ?_))) <;> (first | omega | (simp; try omega))))).mono ?_; rintro e w5 ⟨rfl, hb5⟩; have hz5 := hb5.size))
      go_ret
      exact ⟨rfl, HB3.out.trans (Below.mono (show Below w3.heap.size w3 _ from (by (repeat (with_reducible first | exact Below.refl _ _ | refine Below.alloc ?_ ?_ _ | refine below_drewN ?_ _ | refine Below.drew ?_ | refine Below.setCell ?_ ?_ _ | refine Below.trans ?_ (Below.mono (by assumption) ?_))) <;> (first | omega | (simp; try omega)))) HB3.out.size)⟩
    · go_upto_region 8 with (first
        | (go_at_call 25; refine (ldTable_s (hX.pure (by (repeat (with_reducible first | exact Below.refl _ _ | refine Below.alloc ?_ ?_ _ | refine below_drewN ?_ _ | refine Below.drew ?_ | refine Below.setCell ?_ ?_ _ | refine Below.trans ?_ (Below.mono (by assumption) ?_))) <;> (first | omega | (simp; try omega)))) (hW3.pure (by (repeat (with_reducible first | exact Below.refl _ _ | refine Below.alloc ?_ ?_ _ | refine below_drewN ?_ _ | refine Below.drew ?_ | refine Below.setCell ?_ ?_ _ | refine Below.trans ?_ (Below.mono (by assumption) ?_))) <;> (first | omega | (simp; try omega))))).mono ?_; rintro e w4 ⟨rfl, hb4⟩; have hz4 := hb4.size))
      have hT := hT3.pure hb4
      have hC := hC3.pure hb4
      have hX := hX.pure hb4
      have hA := hA.pure hb4
      have hL := hL3.pure hb4
      have HB := Lib.hid (HB3.out.trans (hb4.mono HB3.out.size))
      clear hT3 hC3 hL3 HB3 hW3 hb4 hz4
      obtain ⟨wx, rfl⟩ : ∃ wx : World, wx = w4 := ⟨_, rfl⟩
      have hcan : runCan ts cs = true := runAll_can Hrun.out
      obtain ⟨hdo, hfine⟩ := runAll_do Hrun.out
      have Hw := Lib.hid (fun (j k : Nat) (u : Thg) (r : Rgt) (hu : us[j]? = some u) (hr : u.slots[k]? = some r) => rights_at hcan hdo hfine.2.1 hu hr)
      have Htok := Lib.hid hfine.1
      obtain ⟨_, _, he2, hk1, hk2⟩ := hX.len
      cases he2
      unfold maxLen at hk2
      have HX := Lib.hid hX
      have HT := Lib.hid hT
      clear hcan hdo hfine hC hA hX hT
      go_wp2
      go_loopw [11] (fun s11 wr => ∃ i : Nat, s11 = .int .i64 (i : Int) ∧ i ≤ us.length ∧ Below wx.heap.size wx wr) (fun s11 _ => us.length - (intOf s11).toNat)
      case atStart => exact ⟨0, rfl, by omega, Below.refl _ _⟩
      case round =>
        obtain ⟨i, rfl, hi, hB⟩ := hrel
        obtain ⟨wr', rfl⟩ : ∃ wy : World, wy = wr := ⟨_, rfl⟩
        have hz := hB.size
        have HBr := Lib.hid hB
        by_cases hlt : i < us.length
        · obtain ⟨u, hu⟩ : ∃ u, us[i]? = some u := ⟨_, List.getElem?_eq_getElem hlt⟩
          obtain ⟨b2, o2, sv2, qv2, rfl, hb2', hS2, -, -, -, -, -, -, d5, -, -⟩ := (HX.out.pure hB).at i u hu
          obtain ⟨ps, pc, rfl, hs1, hs2⟩ := hS2.len
          unfold maxLen at hs2
          have HTr := Lib.hid (HT.out.pure hB)
          have HS2 := Lib.hid hS2
          have Hu := Lib.hid hu
          have D5 := Lib.hid d5
          have hxu0 : (i : Int) < (us.length : Int) := by omega
          have hx00 : (0 : Int) ≤ (i : Int) := by omega
          clear hB hu hS2
          go_wp2
          clear d5
          go_loopw [12] (fun s12 wq => ∃ k : Nat, s12 = .int .i64 (k : Int) ∧ k ≤ u.slots.length ∧ Below wr'.heap.size wr' wq) (fun s12 _ => u.slots.length - (intOf s12).toNat)
          case atStart => exact ⟨0, rfl, by omega, Below.refl _ _⟩
          case round =>
            obtain ⟨k, rfl, hk, hBq⟩ := hrel
            obtain ⟨wq, rfl⟩ : ∃ wy : World, wy = wr := ⟨_, rfl⟩
            have d5q := ((bcell hBq).1 _ _ hb2').trans D5.out
            have HBq := Lib.hid hBq
            have hzq := hBq.size
            by_cases hkl : k < u.slots.length
            · obtain ⟨r, hr⟩ : ∃ r, u.slots[k]? = some r := ⟨_, List.getElem?_eq_getElem hkl⟩
              have Hsn := Lib.hid (Hw.out i k u r Hu.out hr)
              obtain ⟨bs, os, rfl, hbs, e0, e1, e2, e3, e4⟩ := (HS2.out.pure hBq).at k r hr
              have hk00 : (0 : Int) ≤ (k : Int) := by omega
              have hkn0 : (k : Int) < (u.slots.length : Int) := by omega
              have HTq := Lib.hid (HTr.out.pure hBq)
              obtain ⟨r0', r1', r2', r3', r4'⟩ := r
              dsimp only at e0 e1 e2 e3 e4
              clear hBq hr
              go_upto_region 14 with (fail)
              go_cut [13] (fun s13 wz => ∃ D, s13 = .pointer (some ⟨D, 0, none⟩) ∧ (wz.cell? ⟨D, 0, none⟩ = some (.int .i64 r0') ∧ wz.cell? ⟨D, 1, none⟩ = some (.int .i64 r1') ∧ wz.cell? ⟨D, 2, none⟩ = some (.bool r2') ∧ wz.cell? ⟨D, 3, none⟩ = some (.bool r3') ∧ wz.cell? ⟨D, 4, none⟩ = some (.bool r4')) ∧ Below wq.heap.size wq wz)
              case first =>
                go_wp2
                go_meet
                exact ⟨_, rfl, by simp [go_sem], (by (repeat (with_reducible first | exact Below.refl _ _ | refine Below.alloc ?_ ?_ _ | refine below_drewN ?_ _ | refine Below.drew ?_ | refine Below.setCell ?_ ?_ _ | refine Below.trans ?_ (Below.mono (by assumption) ?_))) <;> (first | omega | (simp; try omega)))⟩
              case rest =>
                obtain ⟨D, rfl, ⟨g0, g1, g2, g3, g4⟩, hBz⟩ := hcut
                obtain ⟨wz, rfl⟩ : ∃ wy : World, wy = wc := ⟨_, rfl⟩
                have hDs := World.block_lt_of_cell? _ _ g0
                have hzz := hBz.size
                have HTz := Lib.hid (HTq.out.pure hBz)
                have HBz := Lib.hid hBz
                have HG := Lib.hid (show ∀ w', Below wz.heap.size wz w' → (w'.cell? ⟨D, 0, none⟩ = some (.int .i64 r0') ∧ w'.cell? ⟨D, 1, none⟩ = some (.int .i64 r1') ∧ w'.cell? ⟨D, 2, none⟩ = some (.bool r2') ∧ w'.cell? ⟨D, 3, none⟩ = some (.bool r3') ∧ w'.cell? ⟨D, 4, none⟩ = some (.bool r4')) from fun w' h => by
                  obtain ⟨hc', -⟩ := bcell h
                  exact ⟨(hc' _ _ hDs).trans g0, (hc' _ _ hDs).trans g1, (hc' _ _ hDs).trans g2, (hc' _ _ hDs).trans g3, (hc' _ _ hDs).trans g4⟩)
                clear e0 e1 e2 e3 e4 d5q hBz hbs
                go_wp2
                clear g0 g1 g2 g3 g4
                go_loopw [14, 15] (fun s14 s15 wq => ∃ n : Nat, s15 = .int .i64 (n : Int) ∧ n ≤ ts.length ∧ s14 = .bool (seenN ts ⟨r0', r1', r2', r3', r4'⟩ n) ∧ Below wz.heap.size wz wq) (fun _ s15 _ => ts.length - (intOf s15).toNat)
                case atStart => exact ⟨0, rfl, by omega, by simp [seenN], Below.refl _ _⟩
                case round =>
                  obtain ⟨n, rfl, hn, rfl, hBn⟩ := hrel
                  obtain ⟨wn, rfl⟩ : ∃ wy : World, wy = wr := ⟨_, rfl⟩
                  obtain ⟨fo, hfo⟩ : ∃ fo, seenN ts ⟨r0', r1', r2', r3', r4'⟩ n = fo := ⟨_, rfl⟩
                  rw [hfo]
                  have Hfo := Lib.hid hfo
                  have HBn := Lib.hid hBn
                  have hzn := hBn.size
                  clear hfo
                  by_cases hnl : n < ts.length
                  · obtain ⟨t, ht⟩ : ∃ t, ts[n]? = some t := ⟨_, List.getElem?_eq_getElem hnl⟩
                    obtain ⟨b1, o1, sv1, qv1, rfl, hb1', hS1, -, -, -, -, -, -, c5, -, -⟩ := (HTz.out.pure hBn).at n t ht
                    obtain ⟨ps1, pc1, rfl, hs11, hs12⟩ := hS1.len
                    unfold maxLen at hs12
                    have HS1 := Lib.hid hS1
                    have Ht := Lib.hid ht
                    have C5 := Lib.hid c5
                    have hn00 : (0 : Int) ≤ (n : Int) := by omega
                    have hnn0 : (n : Int) < (ts.length : Int) := by omega
                    clear hBn ht hS1
                    go_wp2
                    clear c5
                    go_loopw [14, 16] (fun s14 s16 wq => ∃ m : Nat, s16 = .int .i64 (m : Int) ∧ m ≤ t.slots.length ∧ s14 = .bool (seenK ts ⟨r0', r1', r2', r3', r4'⟩ n t m) ∧ Below wn.heap.size wn wq) (fun _ s16 _ => t.slots.length - (intOf s16).toNat)
                    case atStart => exact ⟨0, rfl, by omega, by rw [seenK_zero, Hfo.out], Below.refl _ _⟩
                    case round =>
                      obtain ⟨m, rfl, hm, rfl, hBm⟩ := hrel
                      obtain ⟨wm, rfl⟩ : ∃ wy : World, wy = wr := ⟨_, rfl⟩
                      obtain ⟨fk, hfk⟩ : ∃ fk, seenK ts ⟨r0', r1', r2', r3', r4'⟩ n t m = fk := ⟨_, rfl⟩
                      rw [hfk]
                      have Hfk := Lib.hid hfk
                      have HBm := Lib.hid hBm
                      have hzm := hBm.size
                      have c5q := ((bcell hBm).1 _ _ hb1').trans C5.out
                      clear hfk
                      by_cases hml : m < t.slots.length
                      · obtain ⟨s, hs⟩ : ∃ s, t.slots[m]? = some s := ⟨_, List.getElem?_eq_getElem hml⟩
                        have hnx := seenK_next (ts := ts) (r := ⟨r0', r1', r2', r3', r4'⟩) (n := n) hs
                        rw [Hfk.out] at hnx
                        have Hnx := Lib.hid hnx
                        obtain ⟨be, oe, rfl, hbe, e0, e1, e2, e3, e4⟩ := (HS1.out.pure hBm).at m s hs
                        have hm00 : (0 : Int) ≤ (m : Int) := by omega
                        have hmn0 : (m : Int) < (t.slots.length : Int) := by omega
                        obtain ⟨s0', s1', s2', s3', s4'⟩ := s
                        dsimp only at e0 e1 e2 e3 e4
                        clear hBm hs hnx
                        go_upto_region 22 with (fail)
                        go_cut [17] (fun s17 wz => ∃ E, s17 = .pointer (some ⟨E, 0, none⟩) ∧ (wz.cell? ⟨E, 0, none⟩ = some (.int .i64 s0') ∧ wz.cell? ⟨E, 1, none⟩ = some (.int .i64 s1') ∧ wz.cell? ⟨E, 2, none⟩ = some (.bool s2') ∧ wz.cell? ⟨E, 3, none⟩ = some (.bool s3') ∧ wz.cell? ⟨E, 4, none⟩ = some (.bool s4')) ∧ Below wm.heap.size wm wz)
                        case first =>
                          go_wp2
                          go_meet
                          exact ⟨_, rfl, by simp [go_sem], (by (repeat (with_reducible first | exact Below.refl _ _ | refine Below.alloc ?_ ?_ _ | refine below_drewN ?_ _ | refine Below.drew ?_ | refine Below.setCell ?_ ?_ _ | refine Below.trans ?_ (Below.mono (by assumption) ?_))) <;> (first | omega | (simp; try omega)))⟩
                        case rest =>
                          obtain ⟨E, rfl, ⟨f0, f1, f2, f3, f4⟩, hBe⟩ := hcut
                          obtain ⟨we, rfl⟩ : ∃ wy : World, wy = wc := ⟨_, rfl⟩
                          obtain ⟨g0, g1, g2, g3, g4⟩ := HG.out we (HBn.out.trans ((HBm.out.trans (hBe.mono hzm)).mono hzn))
                          have HBf := Lib.hid (HBm.out.trans (hBe.mono hzm))
                          clear e0 e1 e2 e3 e4 c5q hBe hbe
                          cases fk
                          · by_cases k0 : s0' = r0'
                            · subst k0
                              by_cases k1 : s1' = r1'
                              · subst k1
                                cases s3' <;> cases r3' <;> cases s4' <;> cases r4'
                                all_goals (go_wp2; exact ⟨⟨m + 1, by go_num, by omega, by rw [Hnx.out]; simp [okR], HBf.out⟩, by simp [intOf]; omega⟩)
                              · go_wp2
                                exact ⟨⟨m + 1, by go_num, by omega, by rw [Hnx.out]; simp [okR, k1], HBf.out⟩, by simp [intOf]; omega⟩
                            · go_wp2
                              exact ⟨⟨m + 1, by go_num, by omega, by rw [Hnx.out]; simp [okR, k0], HBf.out⟩, by simp [intOf]; omega⟩
                          · go_wp2
                            exact ⟨⟨m + 1, by go_num, by omega, by rw [Hnx.out]; simp, HBf.out⟩, by simp [intOf]; omega⟩
                      · have hnml : ¬ (m : Int) < (t.slots.length : Int) := by omega
                        have hnn := seenN_next (r := ⟨r0', r1', r2', r3', r4'⟩) Ht.out (k := m) (by omega)
                        rw [Hfk.out] at hnn
                        have Hnn := Lib.hid hnn
                        clear hnn hBm
                        go_wp2
                        exact ⟨⟨n + 1, by go_num, by omega, by rw [Hnn.out], HBn.out.trans (HBm.out.mono hzn)⟩, by simp [intOf]; omega⟩
                  · have hnnl : ¬ (n : Int) < (ts.length : Int) := by omega
                    have hfo := Hfo.out
                    rw [show n = ts.length by omega, Hsn.out] at hfo
                    subst hfo
                    clear hBn
                    go_wp2
                    exact ⟨⟨k + 1, by go_num, by omega, HBq.out.trans ((HBz.out.trans (HBn.out.mono hzz)).mono hzq)⟩, by simp [intOf]; omega⟩
            · have hnkl : ¬ (k : Int) < (u.slots.length : Int) := by omega
              clear hBq
              go_wp2
              exact ⟨⟨i + 1, by go_num, by omega, HBr.out.trans (HBq.out.mono hz)⟩, by simp [intOf]; omega⟩
        · have hnl : ¬ (i : Int) < (us.length : Int) := by omega
          have hXr := HX.out.pure hB
          clear hB
          go_wp2_with (go_at_call 27; refine (tableOk_t (hXr.pure (by (repeat (with_reducible first | exact Below.refl _ _ | refine Below.alloc ?_ ?_ _ | refine below_drewN ?_ _ | refine Below.drew ?_ | refine Below.setCell ?_ ?_ _ | refine Below.trans ?_ (Below.mono (by assumption) ?_))) <;> (first | omega | (simp; try omega)))) Htok.out).mono ?_; rintro e w6 ⟨rfl, hb6⟩)
          go_ret
          exact ⟨rfl, HB.out.trans ((HBr.out.trans (hb6.mono hz)).mono HB.out.size)⟩
  · have hgt : (1048576 : Int) < (n : Int) := by omega
    clear hbig hb hL
    go_enter Tryz.func6, Tryz.ntmps6
    go_wp2
    go_ret
    exact ⟨rfl, (by (repeat (with_reducible first | exact Below.refl _ _ | refine Below.alloc ?_ ?_ _ | refine below_drewN ?_ _ | refine Below.drew ?_ | refine Below.setCell ?_ ?_ _ | refine Below.trans ?_ (Below.mono (by assumption) ?_))) <;> (first | omega | (simp; try omega)))⟩
end Go.Proofs.YtghbphdipdjekaaGreatDoor
