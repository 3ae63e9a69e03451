/- The law that what is renewed stays so, walked. Conditions: the bytes lie where their cells say; errors.errorType is laid. -/
import Derived.Test.YtghbphdipdjekaaGreatDoorLg
import Derived.Test.YtghbphdipdjekaaGreatDoorRu
set_option linter.unusedVariables false
set_option linter.unusedSimpArgs false
namespace Go.Proofs.YtghbphdipdjekaaGreatDoor
open Go.RowKit Drw
attribute [local go_sem] Lab.val Rgt.val Cal.val Thg.val
attribute [local go_sem 5000] eql_rgt neq_rgt

theorem neq_lab_no (a1 a2 : Int) (w : World) : (binOp .neq 26 (.agg #[.int .i64 a1, .int .i64 a2]) (.agg #[.int .i64 a1, .int .i64 a2])).run Tryz.prog w = .ok (.bool false) w := by
  simp [go_sem]
attribute [local go_sem 5000] neq_lab_no

theorem tab_queue {ts : List Thg} {j : Nat} {t : Thg} (h : tabOk ts = true) (hj : ts[j]? = some t) : t.queue.length ≤ 3 := by
  have h1 := tab_thgOk h (i := (j : Int) + 1) (by simp [ex, inR]; have := (List.getElem?_eq_some_iff.1 hj).1; omega)
  rw [getT_at hj] at h1
  exact (queue_bd h1).1
/-- What a table that is the same but for what changes has at one place. -/
theorem same_at {ts us : List Thg} (hs : Same ts us) {j : Nat} {t : Thg} (hj : ts[j]? = some t) : ∃ u, us[j]? = some u ∧ t.vers ≤ u.vers ∧ u.kind = t.kind ∧ u.lab = t.lab := by
  have hl := hs.len
  have hlt := (List.getElem?_eq_some_iff.1 hj).1
  obtain ⟨u, hu⟩ : ∃ u, us[j]? = some u := ⟨_, List.getElem?_eq_getElem (by omega)⟩
  have hx : ex ts ((j : Int) + 1) = true := by simp [ex, inR]; omega
  have h1 := hs.vers _ hx
  have h2 := hs.kind _ hx
  have h3 := hs.lab _ hx
  rw [getT_at hj, getT_at hu] at h1 h2 h3
  exact ⟨u, hu, h1, h2, h3⟩

set_option maxRecDepth 100000 in
set_option maxHeartbeats 4000000 in
theorem fnRunVers_c (p : Option Addr) (n cap : Nat) (w : World) (hL : Laid w) (hc : n ≤ cap) (hb : BytesAt w p n) :
    Calls Tryz.prog 7 #[.slice p n cap] w fun e w' => e = .returned (.bool true) ∧ Below w.heap.size w w' := by
  by_cases hbig : n ≤ 1048576
  · have hle : ¬ (1048576 : Int) < (n : Int) := by omega
    have Hb := Lib.hid hb
    have HL := Lib.hid hL
    clear hb hL
    go_enter Tryz.func7, Tryz.ntmps7
    go_upto_region 4 with (go_at_call 23; refine (drawRunAll_c p n cap _ hc Hb.out (by omega)).mono ?_; rintro e w1 ⟨q, k, ts, q2, k2, cs, rfl, hT, hl3, hl8, hC, hcl, hb1⟩)
    obtain ⟨us, zs, rok, hrun⟩ : ∃ us zs rok, runAll ts cs = (us, zs, rok) := ⟨_, _, _, rfl⟩
    have Hrun := Lib.hid hrun
    have HT := Lib.hid hT
    have HC := Lib.hid hC
    have HB1 := Lib.hid hb1
    clear hrun hT hC hb1 Hb
    go_upto_region 6 with (first
      | (go_at_call 24; refine (srunAll_t HT.out HC.out Hrun.out).mono ?_; rintro e w2 ⟨pw, kw, pw2, kw2, rfl, hW, hWa, hb2⟩)
      | (go_at_call 21; refine (runAll_t (HL.out.pure (HB1.out.trans (hb2.mono HB1.out.size))) (HT.out.pure hb2) (HC.out.pure hb2) Hrun.out).mono ?_; rintro e w3 ⟨px, kx, px2, kx2, rfl, hX, hA, hb3⟩))
    have hb13 : Below w1.heap.size w1 w3 := hb2.trans (hb3.mono hb2.size)
    have hW3 := hW.pure hb3
    have hT3 := HT.out.pure hb13
    have hC3 := HC.out.pure hb13
    have hB3 := HB1.out.trans (hb13.mono HB1.out.size)
    have hL3 := HL.out.pure hB3
    have HB3 := Lib.hid hB3
    clear hW hWa hb2 hb3 hb13 HT HC HB1 hB3 HL
    cases rok
    · go_wp2_with (first
        | (go_at_call 25; refine (ldTable_s (hX.pure (by (repeat (with_reducible first | exact Below.refl _ _ | refine Below.alloc ?_ ?_ _ | refine below_drewN ?_ _ | refine Below.drew ?_ | refine Below.setCell ?_ ?_ _ | refine Below.trans ?_ (Below.mono (by assumption) ?_))) <;> (first | omega | (simp; try omega)))) (hW3.pure (by (repeat (with_reducible first | exact Below.refl _ _ | refine Below.alloc ?_ ?_ _ | refine below_drewN ?_ _ | refine Below.drew ?_ | refine Below.setCell ?_ ?_ _ | refine Below.trans ?_ (Below.mono (by assumption) ?_))) <;> (first | omega | (simp; try omega))))).mono ?_; rintro e w4 ⟨rfl, hb4⟩; have hz4 := hb4.size)
        | (go_at_call 25; refine (ldTable_s (hX.pure (by (repeat (with_reducible first | exact Below.refl _ _ | refine Below.alloc ?_ ?_ _ | refine below_drewN ?_ _ | refine Below.drew ?_ | refine Below.setCell ?_ ?_ _ | refine Below.trans ?_ (Below.mono (by assumption) ?_))) <;> (first | omega | (simp; try omega)))) (hW3.pure (by (repeat (with_reducible first | exact Below.refl _ _ | refine Below.alloc ?_ ?_ _ | refine below_drewN ?_ _ | refine Below.drew ?_ | refine Below.setCell ?_ ?_ _ | refine Below.trans ?_ (Below.mono (by assumption) ?_))) <;> (first | omega | (simp; try omega))))).mono ?_; rintro e w5 ⟨rfl, hb5⟩; have hz5 := hb5.size))
      go_ret
      exact ⟨rfl, HB3.out.trans (Below.mono (show Below w3.heap.size w3 _ from (by (repeat (with_reducible first | exact Below.refl _ _ | refine Below.alloc ?_ ?_ _ | refine below_drewN ?_ _ | refine Below.drew ?_ | refine Below.setCell ?_ ?_ _ | refine Below.trans ?_ (Below.mono (by assumption) ?_))) <;> (first | omega | (simp; try omega)))) HB3.out.size)⟩
    · go_upto_region 8 with (first
        | (go_at_call 25; refine (ldTable_s (hX.pure (by (repeat (with_reducible first | exact Below.refl _ _ | refine Below.alloc ?_ ?_ _ | refine below_drewN ?_ _ | refine Below.drew ?_ | refine Below.setCell ?_ ?_ _ | refine Below.trans ?_ (Below.mono (by assumption) ?_))) <;> (first | omega | (simp; try omega)))) (hW3.pure (by (repeat (with_reducible first | exact Below.refl _ _ | refine Below.alloc ?_ ?_ _ | refine below_drewN ?_ _ | refine Below.drew ?_ | refine Below.setCell ?_ ?_ _ | refine Below.trans ?_ (Below.mono (by assumption) ?_))) <;> (first | omega | (simp; try omega))))).mono ?_; rintro e w4 ⟨rfl, hb4⟩; have hz4 := hb4.size))
      have hT := hT3.pure hb4
      have hC := hC3.pure hb4
      have hX := hX.pure hb4
      have hA := hA.pure hb4
      have hL := hL3.pure hb4
      have HB := Lib.hid (HB3.out.trans (hb4.mono HB3.out.size))
      clear hT3 hC3 hL3 HB3 hW3 hb4 hz4
      obtain ⟨wx, rfl⟩ : ∃ wx : World, wx = w4 := ⟨_, rfl⟩
      have hcan : runCan ts cs = true := runAll_can Hrun.out
      obtain ⟨hdo, hfine⟩ := runAll_do Hrun.out
      go_wp2
      go_loopw [11] (fun s11 wr => ∃ i : Nat, s11 = .int .i64 (i : Int) ∧ i ≤ ts.length ∧ Below wx.heap.size wx wr) (fun s11 _ => ts.length - (intOf s11).toNat)
      case atStart => exact ⟨0, rfl, by omega, Below.refl _ _⟩
      case round =>
        obtain ⟨i, rfl, hi, hB⟩ := hrel
        have hz := hB.size
        have HBr := Lib.hid hB
        by_cases hlt : i < ts.length
        · obtain ⟨t, ht⟩ : ∃ t, ts[i]? = some t := ⟨_, List.getElem?_eq_getElem hlt⟩
          obtain ⟨u, hu, hv, hk, hll⟩ := same_at hfine.2.1 ht
          have hq := tab_queue hfine.1 hu
          obtain ⟨b1, o1, sv1, qv1, rfl, hb1', -, -, c0, c1, c2, c3, -, -, -, -⟩ := (hT.pure hB).at i t ht
          obtain ⟨b2, o2, sv2, qv2, rfl, hb2', -, hQ2, d0, d1, d2, d3, -, -, d6, -⟩ := (hX.pure hB).at i u hu
          obtain ⟨pq, cq, rfl, -, -⟩ := hQ2.len
          rw [hk] at d0
          rw [hll] at d1 d2
          have hxn0 : (i : Int) < (ts.length : Int) := by omega
          have hul : us.length = ts.length := hfine.2.1.len
          have hxu0 : (i : Int) < (us.length : Int) := by omega
          have hx00 : (0 : Int) ≤ (i : Int) := by omega
          have hq3 : ¬ (3 : Int) < (u.queue.length : Int) := by omega
          have hv' : ¬ u.vers < t.vers := by omega
          clear hu ht hll hk hQ2 hB hfine hul
          go_upto_region 11 with (fail)
          go_quiet (fail)
          go_wp2
          exact ⟨⟨i + 1, by go_num, by omega, (by first | exact HBr.out | exact below_drewN HBr.out _)⟩, by simp [intOf]; omega⟩
        · have hnl : ¬ (i : Int) < (ts.length : Int) := by omega
          have hle : zs.length = cs.length := hfine.2.2
          have Htok := Lib.hid hfine.1
          have hXr := hX.pure hB
          clear hB
          go_wp2_with (go_at_call 27; refine (tableOk_t (hXr.pure (by (repeat (with_reducible first | exact Below.refl _ _ | refine Below.alloc ?_ ?_ _ | refine below_drewN ?_ _ | refine Below.drew ?_ | refine Below.setCell ?_ ?_ _ | refine Below.trans ?_ (Below.mono (by assumption) ?_))) <;> (first | omega | (simp; try omega)))) Htok.out).mono ?_; rintro e w6 ⟨rfl, hb6⟩)
          go_ret
          exact ⟨by simp [hle], HB.out.trans ((HBr.out.trans (hb6.mono hz)).mono HB.out.size)⟩
  · have hgt : (1048576 : Int) < (n : Int) := by omega
    clear hbig hb hL
    go_enter Tryz.func7, Tryz.ntmps7
    go_wp2
    go_ret
    exact ⟨rfl, (by (repeat (with_reducible first | exact Below.refl _ _ | refine Below.alloc ?_ ?_ _ | refine below_drewN ?_ _ | refine Below.drew ?_ | refine Below.setCell ?_ ?_ _ | refine Below.trans ?_ (Below.mono (by assumption) ?_))) <;> (first | omega | (simp; try omega)))⟩
end Go.Proofs.YtghbphdipdjekaaGreatDoor
