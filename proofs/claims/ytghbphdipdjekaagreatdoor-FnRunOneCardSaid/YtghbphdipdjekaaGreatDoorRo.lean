/- The law that one call is a run, walked. Conditions: the bytes lie where their cells say; errors.errorType is laid. -/
import Derived.Test.YtghbphdipdjekaaGreatDoorLg
import Derived.Test.YtghbphdipdjekaaGreatDoorRu
set_option linter.unusedVariables false
set_option linter.unusedSimpArgs false
namespace Go.Proofs.YtghbphdipdjekaaGreatDoor
open Go.RowKit Drw
attribute [local go_sem] Lab.val Rgt.val Cal.val Thg.val

theorem nil_cals (w : World) : CalsAt w (.slice none 0 0) [] := ⟨none, 0, rfl, by simp, by simp, .inl rfl⟩
theorem cals_take {w : World} {p : Option Addr} {n k : Nat} {cs : List Cal} (h : CalsAt w (.slice p n k) cs) (m : Nat) (hm : m ≤ cs.length) : CalsAt w (.slice p m k) (cs.take m) := by
  obtain ⟨p', cap, he, h1, h2, h3⟩ := h
  cases he
  simp only [List.length_map] at h1
  refine ⟨p, k, by simp; omega, by simp; omega, h2, ?_⟩
  rcases h3 with h3 | ⟨b, o, rfl, hc⟩
  · left
    simp at h3
    simp [h3]
  · refine .inr ⟨b, o, rfl, fun i c hi => hc i c ?_⟩
    rw [List.map_take, List.getElem?_take] at hi
    split at hi
    · exact hi
    · cases hi

theorem runAll_none {p : Option Addr} {cap : Nat} {ts : List Thg} {w : World} (hL : Laid w) (hT : TabAt w (.slice p ts.length cap) ts) (ht : tabOk ts = true) :
    Calls Tryz.prog 21 #[.slice p ts.length cap, .slice none 0 0] w fun e w' => ∃ p' k p2 k2, e = .returned (.tuple #[.slice p' ts.length k, .slice p2 0 k2, .bool true]) ∧ TabAt w' (.slice p' ts.length k) ts ∧ Below w.heap.size w w' := by
  refine (runAll_t (cs := []) (us := ts) (zs := []) (rok := true) hL hT (nil_cals w) (by simp [runAll, runCan, ht, runDo])).mono ?_
  rintro e w' ⟨p', k, p2, k2, rfl, h1, -, h2⟩
  exact ⟨p', k, p2, k2, rfl, h1, h2⟩
theorem runAll_one {p : Option Addr} {cap : Nat} {ts us : List Thg} {c : Cal} {an : Int} {q : Option Addr} {k c2 : Nat} {cs : List Cal} {w : World} (hL : Laid w) (hT : TabAt w (.slice p ts.length cap) ts) (hC : CalsAt w (.slice q k c2) (c :: cs)) (hc : runCan ts (c :: cs) = true) (h : do2 ts c = (us, an)) :
    Calls Tryz.prog 21 #[.slice p ts.length cap, .slice q 1 c2] w fun e w' => ∃ p' k p2 k2, e = .returned (.tuple #[.slice p' us.length k, .slice p2 1 k2, .bool true]) ∧ TabAt w' (.slice p' us.length k) us ∧ IntsAt w' (.slice p2 1 k2) [an] ∧ Below w.heap.size w w' := by
  have h1 := runCan_iff.1 hc
  have h2 : runCan ts [c] = true := runCan_iff.2 ⟨h1.1, by simp, fun d hd => h1.2.2 d (by simp at hd; simp [hd])⟩
  exact runAll_t (cs := [c]) (us := us) (zs := [an]) (rok := true) hL hT (cals_take hC 1 (by simp)) (by simp [runAll, h2, runDo, h])

set_option maxRecDepth 100000 in
set_option maxHeartbeats 4000000 in
theorem fnRunOne_c (p : Option Addr) (n cap : Nat) (w : World) (hL : Laid w) (hc : n ≤ cap) (hb : BytesAt w p n) :
    Calls Tryz.prog 5 #[.slice p n cap] w fun e w' => e = .returned (.bool true) ∧ Below w.heap.size w w' := by
  by_cases hbig : n ≤ 1048576
  · have hle : ¬ (1048576 : Int) < (n : Int) := by omega
    have Hb := Lib.hid hb
    have HL := Lib.hid hL
    clear hb hL
    go_enter Tryz.func5, Tryz.ntmps5
    go_upto_region 4 with (go_at_call 23; refine (drawRunAll_c p n cap _ hc Hb.out (by omega)).mono ?_; rintro e w1 ⟨q, k, ts, q2, k2, cs, rfl, hT, hl3, hl8, hC, hcl, hb1⟩)
    obtain ⟨us, zs, rok, hrun⟩ : ∃ us zs rok, runAll ts cs = (us, zs, rok) := ⟨_, _, _, rfl⟩
    have Hrun := Lib.hid hrun
    have HT := Lib.hid hT
    have HC := Lib.hid hC
    have HB1 := Lib.hid hb1
    clear hrun hT hC hb1 Hb
    go_upto_region 6 with (first
      | (go_at_call 24; refine (srunAll_t HT.out HC.out Hrun.out).mono ?_; rintro e w2 ⟨pw, kw, pw2, kw2, rfl, hW, hWa, hb2⟩)
      | (go_at_call 21; refine (runAll_t (HL.out.pure (HB1.out.trans (hb2.mono HB1.out.size))) (HT.out.pure hb2) (HC.out.pure hb2) Hrun.out).mono ?_; rintro e w3 ⟨px, kx, px2, kx2, rfl, hX, hA, hb3⟩))
    have hb13 : Below w1.heap.size w1 w3 := hb2.trans (hb3.mono hb2.size)
    have hW3 := hW.pure hb3
    have hT3 := HT.out.pure hb13
    have hC3 := HC.out.pure hb13
    have hB3 := HB1.out.trans (hb13.mono HB1.out.size)
    have hL3 := HL.out.pure hB3
    have HB3 := Lib.hid hB3
    clear hW hWa hb2 hb3 hb13 HT HC HB1 hB3 HL
    cases rok
    · go_wp2_with (first
        | (go_at_call 25; refine (ldTable_s (hX.pure (by (repeat (with_reducible first | exact Below.refl _ _ | refine Below.alloc ?_ ?_ _ | refine below_drewN ?_ _ | refine Below.drew ?_ | refine Below.setCell ?_ ?_ _ | refine Below.trans ?_ (Below.mono (by assumption) ?_))) <;> (first | omega | (simp; try omega)))) (hW3.pure (by (repeat (with_reducible first | exact Below.refl _ _ | refine Below.alloc ?_ ?_ _ | refine below_drewN ?_ _ | refine Below.drew ?_ | refine Below.setCell ?_ ?_ _ | refine Below.trans ?_ (Below.mono (by assumption) ?_))) <;> (first | omega | (simp; try omega))))).mono ?_; rintro e w4 ⟨rfl, hb4⟩; have hz4 := hb4.size)
        | (go_at_call 25; refine (ldTable_s (hX.pure (by (repeat (with_reducible first | exact Below.refl _ _ | refine Below.alloc ?_ ?_ _ | refine below_drewN ?_ _ | refine Below.drew ?_ | refine Below.setCell ?_ ?_ _ | refine Below.trans ?_ (Below.mono (by assumption) ?_))) <;> (first | omega | (simp; try omega)))) (hW3.pure (by (repeat (with_reducible first | exact Below.refl _ _ | refine Below.alloc ?_ ?_ _ | refine below_drewN ?_ _ | refine Below.drew ?_ | refine Below.setCell ?_ ?_ _ | refine Below.trans ?_ (Below.mono (by assumption) ?_))) <;> (first | omega | (simp; try omega))))).mono ?_; rintro e w5 ⟨rfl, hb5⟩; have hz5 := hb5.size))
      go_ret
      exact ⟨rfl, HB3.out.trans (Below.mono (show Below w3.heap.size w3 _ from (by (repeat (with_reducible first | exact Below.refl _ _ | refine Below.alloc ?_ ?_ _ | refine below_drewN ?_ _ | refine Below.drew ?_ | refine Below.setCell ?_ ?_ _ | refine Below.trans ?_ (Below.mono (by assumption) ?_))) <;> (first | omega | (simp; try omega)))) HB3.out.size)⟩
    · go_upto_region 8 with (first
        | (go_at_call 25; refine (ldTable_s (hX.pure (by (repeat (with_reducible first | exact Below.refl _ _ | refine Below.alloc ?_ ?_ _ | refine below_drewN ?_ _ | refine Below.drew ?_ | refine Below.setCell ?_ ?_ _ | refine Below.trans ?_ (Below.mono (by assumption) ?_))) <;> (first | omega | (simp; try omega)))) (hW3.pure (by (repeat (with_reducible first | exact Below.refl _ _ | refine Below.alloc ?_ ?_ _ | refine below_drewN ?_ _ | refine Below.drew ?_ | refine Below.setCell ?_ ?_ _ | refine Below.trans ?_ (Below.mono (by assumption) ?_))) <;> (first | omega | (simp; try omega))))).mono ?_; rintro e w4 ⟨rfl, hb4⟩; have hz4 := hb4.size))
      have hT := hT3.pure hb4
      have hC := hC3.pure hb4
      have hX := hX.pure hb4
      have hA := hA.pure hb4
      have hL := hL3.pure hb4
      have HB := Lib.hid (HB3.out.trans (hb4.mono HB3.out.size))
      clear hT3 hC3 hL3 HB3 hW3 hb4 hz4
      obtain ⟨wx, rfl⟩ : ∃ wx : World, wx = w4 := ⟨_, rfl⟩
      have hcan : runCan ts cs = true := runAll_can Hrun.out
      obtain ⟨hdo, hfine⟩ := runAll_do Hrun.out
      have htok := (runCan_iff.1 hcan).1
      have hz := HB.out.size
      go_upto_region 9 with (first
        | (go_at_call 21; refine (runAll_none (hL.pure (by (repeat (with_reducible first | exact Below.refl _ _ | refine Below.alloc ?_ ?_ _ | refine below_drewN ?_ _ | refine Below.drew ?_ | refine Below.setCell ?_ ?_ _ | refine Below.trans ?_ (Below.mono (by assumption) ?_))) <;> (first | omega | (simp; try omega)))) (hT.pure (by (repeat (with_reducible first | exact Below.refl _ _ | refine Below.alloc ?_ ?_ _ | refine below_drewN ?_ _ | refine Below.drew ?_ | refine Below.setCell ?_ ?_ _ | refine Below.trans ?_ (Below.mono (by assumption) ?_))) <;> (first | omega | (simp; try omega)))) htok).mono ?_; rintro e w6 ⟨p6, k6, q6, m6, rfl, hN, hb6⟩))
      have hT := hT.pure hb6
      have hC := hC.pure hb6
      have hX := hX.pure hb6
      have hL := hL.pure hb6
      have hz6 := hb6.size
      have HB := Lib.hid (HB.out.trans (hb6.mono hz))
      clear hb6
      obtain ⟨wy, rfl⟩ : ∃ wy : World, wy = w6 := ⟨_, rfl⟩
      have Hcan := Lib.hid hcan
      have Hdo := Lib.hid hdo
      clear hcan hdo
      cases cs with
      | nil =>
        have hd := Hdo.out
        cases hd
        simp only [List.length_nil] at *
        clear hfine
        go_wp2_with (first
          | (go_at_call 25; refine (ldTable_s (hN.pure (by (repeat (with_reducible first | exact Below.refl _ _ | refine Below.alloc ?_ ?_ _ | refine below_drewN ?_ _ | refine Below.drew ?_ | refine Below.setCell ?_ ?_ _ | refine Below.trans ?_ (Below.mono (by assumption) ?_))) <;> (first | omega | (simp; try omega)))) (hX.pure (by (repeat (with_reducible first | exact Below.refl _ _ | refine Below.alloc ?_ ?_ _ | refine below_drewN ?_ _ | refine Below.drew ?_ | refine Below.setCell ?_ ?_ _ | refine Below.trans ?_ (Below.mono (by assumption) ?_))) <;> (first | omega | (simp; try omega))))).mono ?_; rintro e w7 ⟨rfl, hb7⟩))
        go_ret
        exact ⟨rfl, HB.out.trans (hb7.mono HB.out.size)⟩
      | cons c cs =>
        have hcc := (runCan_iff.1 Hcan.out).2.2 c (by simp)
        obtain ⟨ys, an, hd⟩ : ∃ ys an, do2 ts c = (ys, an) := ⟨_, _, rfl⟩
        have hcd : callDo ts c = (ys, an) := by rw [callDo_can hcc]; exact hd
        obtain ⟨b, o, rfl, hb, c0, c1, c2', c3, c4⟩ := hC.at 0 c rfl
        obtain ⟨_, _, he, hl1, hl2⟩ := hC.len
        cases he
        have hlen : (c :: cs).length = cs.length + 1 := rfl
        have Hd := Lib.hid hd
        have Hcd := Lib.hid hcd
        have HC := Lib.hid hC
        simp only [Nat.zero_mul, Nat.add_zero] at c0 c1 c2' c3 c4
        have Hc := Lib.hid (show ∀ w', Below wy.heap.size wy w' → (w'.cell? ⟨b, o, none⟩ = some (.int .i64 c.kind) ∧ w'.cell? ⟨b, o + 1, none⟩ = some (.int .i64 c.run) ∧ w'.cell? ⟨b, o + 2, none⟩ = some (.int .i64 c.a) ∧ w'.cell? ⟨b, o + 3, none⟩ = some (.int .i64 c.b) ∧ w'.cell? ⟨b, o + 4, none⟩ = some (.int .i64 c.n)) from fun w' h => by
          obtain ⟨hc', -⟩ := bcell h
          exact ⟨(hc' _ _ hb).trans c0, (hc' _ _ hb).trans c1, (hc' _ _ hb).trans c2', (hc' _ _ hb).trans c3, (hc' _ _ hb).trans c4⟩)
        clear hd hcd hC c0 c1 c2' c3 c4 hfine hcc
        simp only [hlen] at *
        clear hlen
        have hn0 : ¬ ((cs.length : Int) + 1 = 0) := by omega
        go_upto_region 12 with (first
          | (go_at_call 21; refine (runAll_one (hL.pure (by (repeat (with_reducible first | exact Below.refl _ _ | refine Below.alloc ?_ ?_ _ | refine below_drewN ?_ _ | refine Below.drew ?_ | refine Below.setCell ?_ ?_ _ | refine Below.trans ?_ (Below.mono (by assumption) ?_))) <;> (first | omega | (simp; try omega)))) (hT.pure (by (repeat (with_reducible first | exact Below.refl _ _ | refine Below.alloc ?_ ?_ _ | refine below_drewN ?_ _ | refine Below.drew ?_ | refine Below.setCell ?_ ?_ _ | refine Below.trans ?_ (Below.mono (by assumption) ?_))) <;> (first | omega | (simp; try omega)))) (HC.out.pure (by (repeat (with_reducible first | exact Below.refl _ _ | refine Below.alloc ?_ ?_ _ | refine below_drewN ?_ _ | refine Below.drew ?_ | refine Below.setCell ?_ ?_ _ | refine Below.trans ?_ (Below.mono (by assumption) ?_))) <;> (first | omega | (simp; try omega)))) Hcan.out Hd.out).mono ?_; rintro e w7 ⟨p7, k7, q7, m7, rfl, hY, hYa, hb7⟩))
        obtain ⟨d0, d1, d2, d3, d4⟩ := Hc.out _ hb7
        have hz7 := hb7.size
        obtain ⟨b9, o9, rfl, hb9, g0⟩ := hYa.at 0 an rfl
        simp only [Nat.add_zero] at g0
        have HN := Lib.hid (hN.pure hb7)
        have HT := Lib.hid (hT.pure hb7)
        have HL := Lib.hid (hL.pure hb7)
        have HB := Lib.hid (HB.out.trans (hb7.mono HB.out.size))
        clear hX hYa hT hN hL Hc
        obtain ⟨k0, k1, k2, k3, k4⟩ := c
        dsimp only at d0 d1 d2 d3 d4
        go_upto_region 13 with (first
          | (go_at_call 26; refine (callDo_t (c := ⟨_, _, _, _, _⟩) (HL.out.pure (by (repeat (with_reducible first | exact Below.refl _ _ | refine Below.alloc ?_ ?_ _ | refine below_drewN ?_ _ | refine Below.drew ?_ | refine Below.setCell ?_ ?_ _ | refine Below.trans ?_ (Below.mono (by assumption) ?_))) <;> (first | omega | (simp; try omega)))) (HT.out.pure (by (repeat (with_reducible first | exact Below.refl _ _ | refine Below.alloc ?_ ?_ _ | refine below_drewN ?_ _ | refine Below.drew ?_ | refine Below.setCell ?_ ?_ _ | refine Below.trans ?_ (Below.mono (by assumption) ?_))) <;> (first | omega | (simp; try omega)))) Hcd.out).mono ?_; rintro e w8 ⟨p8, k8, rfl, hY8, hb8⟩))
        obtain ⟨hc8, -⟩ := bcell hb8
        have g1 := (hc8 _ _ hb9).trans g0
        have hz8 := hb8.size
        have hb99 := Nat.lt_of_lt_of_le hb9 hz8
        clear hc8 g0 d0 d1 d2 d3 d4
        have HG := Lib.hid (show ∀ w', Below w8.heap.size w8 w' → w'.cell? ⟨b9, o9, none⟩ = some (.int .i64 an) from fun w' h => ((bcell h).1 _ _ hb99).trans g1)
        go_wp2_with (first
          | (go_at_call 25; with_reducible refine (ldTable_s (HN.out.pure (by (repeat (with_reducible first | exact Below.refl _ _ | refine Below.alloc ?_ ?_ _ | refine below_drewN ?_ _ | refine Below.drew ?_ | refine Below.setCell ?_ ?_ _ | refine Below.trans ?_ (Below.mono (by assumption) ?_))) <;> (first | omega | (simp; try omega)))) (HT.out.pure (by (repeat (with_reducible first | exact Below.refl _ _ | refine Below.alloc ?_ ?_ _ | refine below_drewN ?_ _ | refine Below.drew ?_ | refine Below.setCell ?_ ?_ _ | refine Below.trans ?_ (Below.mono (by assumption) ?_))) <;> (first | omega | (simp; try omega))))).mono ?_; rintro e w9 ⟨rfl, hb91⟩; have hz9 := hb91.size)
          | (go_at_call 25; with_reducible refine (ldTable_s (hY.pure (by (repeat (with_reducible first | exact Below.refl _ _ | refine Below.alloc ?_ ?_ _ | refine below_drewN ?_ _ | refine Below.drew ?_ | refine Below.setCell ?_ ?_ _ | refine Below.trans ?_ (Below.mono (by assumption) ?_))) <;> (first | omega | (simp; try omega)))) (hY8.pure (by (repeat (with_reducible first | exact Below.refl _ _ | refine Below.alloc ?_ ?_ _ | refine below_drewN ?_ _ | refine Below.drew ?_ | refine Below.setCell ?_ ?_ _ | refine Below.trans ?_ (Below.mono (by assumption) ?_))) <;> (first | omega | (simp; try omega))))).mono ?_; rintro e w10 ⟨rfl, hb10⟩; have g2 := HG.out _ (hb91.trans (hb10.mono hz9)); have hz10 := hb10.size))
        go_ret
        exact ⟨rfl, HB.out.trans (Below.mono (hb8.trans (Below.mono (hb91.trans (hb10.mono hz9)) hz8)) HB.out.size)⟩
  · have hgt : (1048576 : Int) < (n : Int) := by omega
    clear hbig hb hL
    go_enter Tryz.func5, Tryz.ntmps5
    go_wp2
    go_ret
    exact ⟨rfl, (by (repeat (with_reducible first | exact Below.refl _ _ | refine Below.alloc ?_ ?_ _ | refine below_drewN ?_ _ | refine Below.drew ?_ | refine Below.setCell ?_ ?_ _ | refine Below.trans ?_ (Below.mono (by assumption) ?_))) <;> (first | omega | (simp; try omega)))⟩
end Go.Proofs.YtghbphdipdjekaaGreatDoor
