/- The law that what is kept was written, walked. Conditions: the bytes lie where their cells say; errors.errorType is laid. -/
import Derived.Test.YtghbphdipdjekaaGreatDoorLg
import Derived.Test.YtghbphdipdjekaaGreatDoorRu
set_option linter.unusedVariables false
set_option linter.unusedSimpArgs false
namespace Go.Proofs.YtghbphdipdjekaaGreatDoor
open Go.RowKit Drw
attribute [local go_sem] Lab.val Rgt.val Cal.val Thg.val

/-- Whether a call of these wrote this. -/
def wrote (cs : List Cal) (n : Int) : Bool := cs.any (fun c => c.kind == 2 && c.n == n)
theorem wrote_zero (cs : List Cal) (n : Int) : wrote (cs.take 0) n = false := rfl
theorem wrote_next {cs : List Cal} {i : Nat} {c : Cal} (h : cs[i]? = some c) (n : Int) : wrote (cs.take (i + 1)) n = (wrote (cs.take i) n || (c.kind == 2 && c.n == n)) := by
  rw [List.take_add_one, h]
  simp [wrote]
/-- At one place of what calls leave. -/
theorem writes_at {ts us : List Thg} {cs : List Cal} {zs : List Int} (hc : runCan ts cs = true) (hd : runDo ts cs = (us, zs)) (hs : Same ts us) {j : Nat} {u : Thg} (hu : us[j]? = some u) :
    ∃ t, ts[j]? = some t ∧ (u.kind = 1 → u.num ≠ t.num → ¬ u.num ≤ 1 → wrote cs u.num = true) := by
  have hl := hs.len
  have hlt := (List.getElem?_eq_some_iff.1 hu).1
  obtain ⟨t, ht⟩ : ∃ t, ts[j]? = some t := ⟨_, List.getElem?_eq_getElem (by omega)⟩
  have hx : ex ts ((j : Int) + 1) = true := by simp [ex, inR]; omega
  refine ⟨t, ht, fun h1 h2 h3 => ?_⟩
  have h4 := hs.kind _ hx
  rw [getT_at ht, getT_at hu, h1] at h4
  have h5 := law_writes (runCan_iff.1 hc).2.2 hx (by rw [getT_at ht]; exact h4.symm)
  rw [hd] at h5
  dsimp only at h5
  rw [getT_at ht, getT_at hu] at h5
  rcases h5 with h | h | ⟨c, hm, e1, e2⟩
  · exact absurd h h2
  · exact absurd h h3
  · simp only [wrote, List.any_eq_true, Bool.and_eq_true, beq_iff_eq]
    exact ⟨c, hm, e1, e2⟩

set_option maxRecDepth 100000 in
set_option maxHeartbeats 4000000 in
theorem fnRunWrites_c (p : Option Addr) (n cap : Nat) (w : World) (hL : Laid w) (hc : n ≤ cap) (hb : BytesAt w p n) :
    Calls Tryz.prog 8 #[.slice p n cap] w fun e w' => e = .returned (.bool true) ∧ Below w.heap.size w w' := by
  by_cases hbig : n ≤ 1048576
  · have hle : ¬ (1048576 : Int) < (n : Int) := by omega
    have Hb := Lib.hid hb
    have HL := Lib.hid hL
    clear hb hL
    go_enter Tryz.func8, Tryz.ntmps8
    go_upto_region 4 with (go_at_call 23; refine (drawRunAll_c p n cap _ hc Hb.out (by omega)).mono ?_; rintro e w1 ⟨q, k, ts, q2, k2, cs, rfl, hT, hl3, hl8, hC, hcl, hb1⟩)
    obtain ⟨us, zs, rok, hrun⟩ : ∃ us zs rok, runAll ts cs = (us, zs, rok) := ⟨_, _, _, rfl⟩
    have Hrun := Lib.hid hrun
    have HT := Lib.hid hT
    have HC := Lib.hid hC
    have HB1 := Lib.hid hb1
    clear hrun hT hC hb1 Hb
    go_upto_region 6 with (first
      | (go_at_call 24; refine (srunAll_t HT.out HC.out Hrun.out).mono ?_; rintro e w2 ⟨pw, kw, pw2, kw2, rfl, hW, hWa, hb2⟩)
      | (go_at_call 21; refine (runAll_t (HL.out.pure (HB1.out.trans (hb2.mono HB1.out.size))) (HT.out.pure hb2) (HC.out.pure hb2) Hrun.out).mono ?_; rintro e w3 ⟨px, kx, px2, kx2, rfl, hX, hA, hb3⟩))
    have hb13 : Below w1.heap.size w1 w3 := hb2.trans (hb3.mono hb2.size)
    have hW3 := hW.pure hb3
    have hT3 := HT.out.pure hb13
    have hC3 := HC.out.pure hb13
    have hB3 := HB1.out.trans (hb13.mono HB1.out.size)
    have hL3 := HL.out.pure hB3
    have HB3 := Lib.hid hB3
    clear hW hWa hb2 hb3 hb13 HT HC HB1 hB3 HL
    cases rok
    · go_wp2_with (first
        | (go_at_call 25; refine (ldTable_s (hX.pure (by (repeat (with_reducible first | exact Below.refl _ _ | refine Below.alloc ?_ ?_ _ | refine below_drewN ?_ _ | refine Below.drew ?_ | refine Below.setCell ?_ ?_ _ | refine Below.trans ?_ (Below.mono (by assumption) ?_))) <;> (first | omega | (simp; try omega)))) (hW3.pure (by (repeat (with_reducible first | exact Below.refl _ _ | refine Below.alloc ?_ ?_ _ | refine below_drewN ?_ _ | refine Below.drew ?_ | refine Below.setCell ?_ ?_ _ | refine Below.trans ?_ (Below.mono (by assumption) ?_))) <;> (first | omega | (simp; try omega))))).mono ?_; rintro e w4 ⟨rfl, hb4⟩; have hz4 := hb4.size)
        | (go_at_call 25; refine (ldTable_s (hX.pure (by (repeat (with_reducible first | exact Below.refl _ _ | refine Below.alloc ?_ ?_ _ | refine below_drewN ?_ _ | refine Below.drew ?_ | refine Below.setCell ?_ ?_ _ | refine Below.trans ?_ (Below.mono (by assumption) ?_))) <;> (first | omega | (simp; try omega)))) (hW3.pure (by (repeat (with_reducible first | exact Below.refl _ _ | refine Below.alloc ?_ ?_ _ | refine below_drewN ?_ _ | refine Below.drew ?_ | refine Below.setCell ?_ ?_ _ | refine Below.trans ?_ (Below.mono (by assumption) ?_))) <;> (first | omega | (simp; try omega))))).mono ?_; rintro e w5 ⟨rfl, hb5⟩; have hz5 := hb5.size))
      go_ret
      exact ⟨rfl, HB3.out.trans (Below.mono (show Below w3.heap.size w3 _ from (by (repeat (with_reducible first | exact Below.refl _ _ | refine Below.alloc ?_ ?_ _ | refine below_drewN ?_ _ | refine Below.drew ?_ | refine Below.setCell ?_ ?_ _ | refine Below.trans ?_ (Below.mono (by assumption) ?_))) <;> (first | omega | (simp; try omega)))) HB3.out.size)⟩
    · go_upto_region 8 with (first
        | (go_at_call 25; refine (ldTable_s (hX.pure (by (repeat (with_reducible first | exact Below.refl _ _ | refine Below.alloc ?_ ?_ _ | refine below_drewN ?_ _ | refine Below.drew ?_ | refine Below.setCell ?_ ?_ _ | refine Below.trans ?_ (Below.mono (by assumption) ?_))) <;> (first | omega | (simp; try omega)))) (hW3.pure (by (repeat (with_reducible first | exact Below.refl _ _ | refine Below.alloc ?_ ?_ _ | refine below_drewN ?_ _ | refine Below.drew ?_ | refine Below.setCell ?_ ?_ _ | refine Below.trans ?_ (Below.mono (by assumption) ?_))) <;> (first | omega | (simp; try omega))))).mono ?_; rintro e w4 ⟨rfl, hb4⟩; have hz4 := hb4.size))
      have hT := hT3.pure hb4
      have hC := hC3.pure hb4
      have hX := hX.pure hb4
      have hA := hA.pure hb4
      have hL := hL3.pure hb4
      have HB := Lib.hid (HB3.out.trans (hb4.mono HB3.out.size))
      clear hT3 hC3 hL3 HB3 hW3 hb4 hz4
      obtain ⟨wx, rfl⟩ : ∃ wx : World, wx = w4 := ⟨_, rfl⟩
      have hcan : runCan ts cs = true := runAll_can Hrun.out
      obtain ⟨hdo, hfine⟩ := runAll_do Hrun.out
      obtain ⟨_, _, he, hl1, hl2⟩ := hC.len
      cases he
      unfold maxLen at hl2
      have hul : us.length = ts.length := hfine.2.1.len
      have Hw := Lib.hid (fun (j : Nat) (u : Thg) (hu : us[j]? = some u) => writes_at hcan hdo hfine.2.1 hu)
      obtain ⟨_, _, he2, hk1, hk2⟩ := hX.len
      cases he2
      unfold maxLen at hk2
      have Hz := Lib.hid hfine
      clear hcan hdo hfine
      go_wp2
      go_loopw [11] (fun s11 wr => ∃ i : Nat, s11 = .int .i64 (i : Int) ∧ i ≤ us.length ∧ Below wx.heap.size wx wr) (fun s11 _ => us.length - (intOf s11).toNat)
      case atStart => exact ⟨0, rfl, by omega, Below.refl _ _⟩
      case round =>
        obtain ⟨i, rfl, hi, hB⟩ := hrel
        have hz := hB.size
        have HBr := Lib.hid hB
        by_cases hlt : i < us.length
        · obtain ⟨u, hu⟩ : ∃ u, us[i]? = some u := ⟨_, List.getElem?_eq_getElem hlt⟩
          obtain ⟨t, ht, hw⟩ := Hw.out i u hu
          obtain ⟨b1, o1, sv1, qv1, rfl, hb1', -, -, -, -, -, -, c4, -, -, -⟩ := (hT.pure hB).at i t ht
          obtain ⟨b2, o2, sv2, qv2, rfl, hb2', -, -, d0, -, -, -, d4, -, -, -⟩ := (hX.pure hB).at i u hu
          have hxn0 : (i : Int) < (ts.length : Int) := by omega
          have hxu0 : (i : Int) < (us.length : Int) := by omega
          have hx00 : (0 : Int) ≤ (i : Int) := by omega
          have Hwr := Lib.hid hw
          have hCr := hC.pure hB
          clear hu ht hB hw
          obtain ⟨uk, ul, uv, un, usl, uqu, uto⟩ := u
          obtain ⟨tk, tl, tv, tn, tsl, tqu, tto⟩ := t
          dsimp only at d0 d4 c4
          by_cases h1 : uk = 1
          · subst h1
            by_cases h2 : un = tn
            · subst h2
              go_wp2
              exact ⟨⟨i + 1, by go_num, by omega, (by first | exact HBr.out | exact below_drewN HBr.out _)⟩, by simp [intOf]; omega⟩
            · by_cases h3 : un ≤ 1
              · go_wp2
                exact ⟨⟨i + 1, by go_num, by omega, (by first | exact HBr.out | exact below_drewN HBr.out _)⟩, by simp [intOf]; omega⟩
              · have hall := Hwr.out rfl h2 (by first | exact h3 | exact Int.not_le.1 h3)
                dsimp only at hall
                have Hall := Lib.hid hall
                clear hall
                go_wp2
                clear c4 d0 d4
                go_loopw [13, 14] (fun s13 s14 wq => ∃ k : Nat, s14 = .int .i64 (k : Int) ∧ k ≤ cs.length ∧ s13 = .bool (wrote (cs.take k) un) ∧ Below wr.heap.size wr wq) (fun _ s14 _ => cs.length - (intOf s14).toNat)
                case atStart => exact ⟨0, rfl, by omega, rfl, (by (repeat (with_reducible first | exact Below.refl _ _ | refine Below.alloc ?_ ?_ _ | refine below_drewN ?_ _ | refine Below.drew ?_ | refine Below.setCell ?_ ?_ _ | refine Below.trans ?_ (Below.mono (by assumption) ?_))) <;> (first | omega | (simp; try omega)))⟩
                case round =>
                  obtain ⟨k, rfl, hk, rfl, hBk⟩ := hrel
                  obtain ⟨fo, hfo⟩ : ∃ fo, wrote (cs.take k) un = fo := ⟨_, rfl⟩
                  have Hfo := Lib.hid hfo
                  have Hbk := Lib.hid hBk
                  rw [hfo]
                  clear hfo
                  by_cases hkl : k < cs.length
                  · obtain ⟨c, hcc⟩ : ∃ c, cs[k]? = some c := ⟨_, List.getElem?_eq_getElem hkl⟩
                    obtain ⟨b, o, rfl, hb, c0, -, -, -, c4⟩ := (hCr.pure hBk).at k c hcc
                    have hk00 : (0 : Int) ≤ (k : Int) := by omega
                    have hkn0 : (k : Int) < (cs.length : Int) := by omega
                    have hnx := wrote_next hcc un
                    rw [Hfo.out] at hnx
                    have Hnx := Lib.hid hnx
                    clear hnx hcc hBk
                    obtain ⟨k0, k1, k2, k3, k4⟩ := c
                    dsimp only at c0 c4
                    cases fo
                    · by_cases e2 : k0 = 2
                      · subst e2
                        by_cases e4 : k4 = un
                        · subst e4
                          go_wp2
                          exact ⟨⟨k + 1, by go_num, by omega, by rw [Hnx.out]; simp, Hbk.out⟩, by simp [intOf]; omega⟩
                        · go_wp2
                          exact ⟨⟨k + 1, by go_num, by omega, by rw [Hnx.out]; simp [e4], Hbk.out⟩, by simp [intOf]; omega⟩
                      · go_wp2
                        exact ⟨⟨k + 1, by go_num, by omega, by rw [Hnx.out]; simp [e2], Hbk.out⟩, by simp [intOf]; omega⟩
                    · go_wp2
                      exact ⟨⟨k + 1, by go_num, by omega, by rw [Hnx.out]; simp, Hbk.out⟩, by simp [intOf]; omega⟩
                  · have hnkl : ¬ (k : Int) < (cs.length : Int) := by omega
                    have hfo := Hfo.out
                    rw [List.take_of_length_le (by omega), Hall.out] at hfo
                    subst hfo
                    clear hBk
                    go_wp2
                    exact ⟨⟨i + 1, by go_num, by omega, HBr.out.trans (Hbk.out.mono hz)⟩, by simp [intOf]; omega⟩
          · go_wp2
            exact ⟨⟨i + 1, by go_num, by omega, (by first | exact HBr.out | exact below_drewN HBr.out _)⟩, by simp [intOf]; omega⟩
        · have hnl : ¬ (i : Int) < (us.length : Int) := by omega
          go_wp2
          go_ret
          exact ⟨rfl, HB.out.trans (Below.mono (show Below wx.heap.size wx _ from HBr.out) HB.out.size)⟩
  · have hgt : (1048576 : Int) < (n : Int) := by omega
    clear hbig hb hL
    go_enter Tryz.func8, Tryz.ntmps8
    go_wp2
    go_ret
    exact ⟨rfl, (by (repeat (with_reducible first | exact Below.refl _ _ | refine Below.alloc ?_ ?_ _ | refine below_drewN ?_ _ | refine Below.drew ?_ | refine Below.setCell ?_ ?_ _ | refine Below.trans ?_ (Below.mono (by assumption) ?_))) <;> (first | omega | (simp; try omega)))⟩
end Go.Proofs.YtghbphdipdjekaaGreatDoor
