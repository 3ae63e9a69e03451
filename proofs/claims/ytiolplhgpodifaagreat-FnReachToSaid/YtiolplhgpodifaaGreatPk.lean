/- The reader of drawn bytes: a number from 0 to n-1, whatever the bytes are. Conditions: few numbers were drawn so far. -/
import Derived.Test.YtiolplhgpodifaaGreatRd
import Derived.Test.YtiolplhgpodifaaGreatChecked
import Derived.Deep.QuietTactic
import Derived.BigQuiet
import Derived.IntWalk
import Derived.Deep.DeepCutAuto
set_option linter.unusedVariables false
set_option linter.unusedSimpArgs false
namespace Go.Proofs.YtiolplhgpodifaaGreat
open Go.RowKit Drw

def Picked (w : World) (R N : Nat) (m : Int) (e : Ending) (w' : World) : Prop := ∃ k : Int, e = .returned (.int .i64 k) ∧ 0 ≤ k ∧ (1 ≤ m → k < m) ∧ (m < 1 → k = 0) ∧ Rd w' R (N + 1) ∧ Chg (fun b => b = R) w w'

set_option maxRecDepth 100000 in
set_option maxHeartbeats 4000000 in
theorem pick_c (R N : Nat) (m : Int) (w : World) (h : Rd w R N) (hN : N ≤ 1000000) :
    Calls Tryz.prog 48 #[.pointer (some ⟨R, 0, none⟩), .int .i64 m] w (Picked w R N m) := by
  obtain ⟨q, n, cap, p, h0, h1, hp, hn, hf, hb⟩ := h
  have hR := World.block_lt_of_cell? w _ h0
  have hrd : Rd (w.setCell ⟨R, 1, none⟩ (.int .i64 ((p : Int) + 1))) R (N + 1) := Rd.set (p := p + 1) ⟨q, n, cap, p, h0, h1, hp, hn, hf, hb⟩ (by simp) (by omega)
  have hch : Chg (fun b => b = R) w (w.setCell ⟨R, 1, none⟩ (.int .i64 ((p : Int) + 1))) := Chg.setCell (S := fun b => b = R) (p := ⟨R, 1, none⟩) (Chg.refl _ _) rfl _
  have Hrd := Lib.hid hrd
  have Hch := Lib.hid hch
  have hw1 : IntKind.i64.wrap ((p : Int) + 1) = (p : Int) + 1 := IntWalk.i64_in _ (by omega)
  have hw2 : IntKind.i64.wrap ((p : Int) + 1 - 1) = (p : Int) := by rw [show (p : Int) + 1 - 1 = p by omega]; exact IntWalk.i64_in _ (by omega)
  have hp0 : (0 : Int) ≤ (p : Int) := by omega
  clear hrd hch
  by_cases hm : m < 1
  · go_enter Tryz.func48, Tryz.ntmps48
    go_wp2
    go_ret
    exact ⟨0, rfl, by omega, fun h => by omega, fun _ => rfl, Hrd.out, Hch.out⟩
  · by_cases hn0 : n = 0
    · subst hn0
      go_enter Tryz.func48, Tryz.ntmps48
      go_wp2
      go_ret
      exact ⟨0, rfl, by omega, fun h => by omega, fun _ => rfl, Hrd.out, Hch.out⟩
    · have hnb : ((n : Int) == 0) = false := by simp; exact hn0
      by_cases hpn : p < n
      · obtain ⟨b, o, x, rfl, hbR, hx, hx2⟩ := hb p hpn
        have hpi : (p : Int) < (n : Int) := by omega
        have hne : ¬ R = b := by omega
        have hm1 : (1 : Int) ≤ m := by omega
        clear hb
        go_enter Tryz.func48, Tryz.ntmps48
        go_wp2
        go_ret
        exact ⟨(x : Int) % m, rfl, Int.emod_nonneg _ (by omega), fun _ => Int.emod_lt_of_pos _ (by omega), fun h => by omega, Hrd.out, Hch.out⟩
      · have hn1 : 0 < n := by omega
        obtain ⟨i1, hi1⟩ : ∃ i, p % n = i := ⟨_, rfl⟩
        obtain ⟨i2, hi2⟩ : ∃ i, (p * 7 + 3) % n = i := ⟨_, rfl⟩
        obtain ⟨qd, hqd⟩ : ∃ i, p / n = i := ⟨_, rfl⟩
        have hi1n : i1 < n := by rw [← hi1]; exact Nat.mod_lt _ hn1
        have hi2n : i2 < n := by rw [← hi2]; exact Nat.mod_lt _ hn1
        have hqdp : qd ≤ p := by rw [← hqd]; exact Nat.div_le_self _ _
        obtain ⟨b, o, x1, rfl, hbR, hx1, hx1b⟩ := hb i1 hi1n
        obtain ⟨_, _, x2, e, -, hx2, hx2b⟩ := hb i2 hi2n
        cases e
        have hpi : ¬ (p : Int) < (n : Int) := by omega
        have hne : ¬ R = b := by omega
        have hm1 : (1 : Int) ≤ m := by omega
        have t1 : ((p : Nat) : Int).tmod (n : Int) = (i1 : Int) := by rw [Int.tmod_eq_emod_of_nonneg (by omega), ← hi1]; rfl
        have t2 : IntKind.i64.wrap (i1 : Int) = (i1 : Int) := IntWalk.i64_in _ (by omega)
        have t3 : IntKind.i64.wrap ((p : Int) * 7) = (p : Int) * 7 := IntWalk.i64_in _ (by omega)
        have t4 : IntKind.i64.wrap ((p : Int) * 7 + 3) = (p : Int) * 7 + 3 := IntWalk.i64_in _ (by omega)
        have t5 : ((p : Int) * 7 + 3).tmod (n : Int) = (i2 : Int) := by rw [Int.tmod_eq_emod_of_nonneg (by omega), ← hi2]; norm_cast
        have t6 : IntKind.i64.wrap (i2 : Int) = (i2 : Int) := IntWalk.i64_in _ (by omega)
        have t7 : ((p : Nat) : Int).tdiv (n : Int) = (qd : Int) := by rw [Int.tdiv_eq_ediv_of_nonneg (by omega), ← hqd]; rfl
        have t8 : IntKind.i64.wrap (qd : Int) = (qd : Int) := IntWalk.i64_in _ (by omega)
        obtain ⟨Y, hY⟩ : ∃ Y : Nat, x1 * 131 + x2 * 1117 + p * 29 + qd * 53 = Y := ⟨_, rfl⟩
        have a1 : IntKind.i64.wrap ((x1 : Int) * 131) = (x1 : Int) * 131 := IntWalk.i64_in _ (by omega)
        have a2 : IntKind.i64.wrap ((x2 : Int) * 1117) = (x2 : Int) * 1117 := IntWalk.i64_in _ (by omega)
        have a3 : IntKind.i64.wrap ((x1 : Int) * 131 + (x2 : Int) * 1117) = (x1 : Int) * 131 + (x2 : Int) * 1117 := IntWalk.i64_in _ (by omega)
        have a4 : IntKind.i64.wrap ((p : Int) * 29) = (p : Int) * 29 := IntWalk.i64_in _ (by omega)
        have a5 : IntKind.i64.wrap ((x1 : Int) * 131 + (x2 : Int) * 1117 + (p : Int) * 29) = (x1 : Int) * 131 + (x2 : Int) * 1117 + (p : Int) * 29 := IntWalk.i64_in _ (by omega)
        have a6 : IntKind.i64.wrap ((qd : Int) * 53) = (qd : Int) * 53 := IntWalk.i64_in _ (by omega)
        have a7 : (x1 : Int) * 131 + (x2 : Int) * 1117 + (p : Int) * 29 + (qd : Int) * 53 = (Y : Int) := by omega
        have a8 : IntKind.i64.wrap (Y : Int) = (Y : Int) := IntWalk.i64_in _ (by omega)
        have hYb : Y < 2 ^ 62 := by omega
        obtain ⟨Z, hZ⟩ : ∃ Z : Nat, Y / 64 = Z := ⟨_, rfl⟩
        have b1 : ((Y : Nat) : Int).tdiv 64 = (Z : Int) := by rw [Int.tdiv_eq_ediv_of_nonneg (by omega), ← hZ]; rfl
        have b1' : ((Y : Nat) : Int) / 64 = (Z : Int) := by omega
        have hZb : Z < 2 ^ 62 := by omega
        have b2 : IntKind.i64.wrap (Z : Int) = (Z : Int) := IntWalk.i64_in _ (by omega)
        obtain ⟨hx, hxb⟩ := xor_i64 Y Z hYb hZb
        obtain ⟨V, hV⟩ : ∃ V : Nat, Y ^^^ Z = V := ⟨_, rfl⟩
        rw [hV] at hx hxb
        have b3 : IntKind.i64.wrap (V : Int) = (V : Int) := IntWalk.i64_in _ (by omega)
        have hl1 : (i1 : Int) < (n : Int) := by omega
        have hl2 : (i2 : Int) < (n : Int) := by omega
        have hl3 : (0 : Int) ≤ (i1 : Int) := by omega
        have hl4 : (0 : Int) ≤ (i2 : Int) := by omega
        have hn2 : (0 : Int) < (n : Int) := by omega
        have hn3 : ¬ ((n : Int) = 0) := by omega
        clear hb hi1 hi2 hqd hY hV hZ hYb hZb hpn
        go_enter Tryz.func48, Tryz.ntmps48
        go_upto_region 7 with (fail)
        go_quiet (fail)
        go_wp2
        go_ret
        exact ⟨(V : Int) % m, rfl, Int.emod_nonneg _ (by omega), fun _ => Int.emod_lt_of_pos _ (by omega), fun h => by omega, Hrd.out.pure (below_drewN (Below.refl _ _) _), (Hch.out).drewN nq⟩

/-- How the reader begins: the bytes that came in, cut at 2000. -/
theorem open_c (p : Option Addr) (n cap : Nat) (w : World) (hc : n ≤ cap) (hb : ∀ i, i < n → ∃ b o, ∃ x : Nat, p = some ⟨b, o, none⟩ ∧ b < w.heap.size ∧ w.cell? ⟨b, o + i, none⟩ = some (.int .u8 (x : Int)) ∧ x < 256) (hn : n ≤ 2 ^ 40) :
    Calls Tryz.prog 31 #[.slice p n cap] w fun e w' => e = .returned (.pointer (some ⟨w.heap.size, 0, none⟩)) ∧ Rd w' w.heap.size 0 ∧ Below w.heap.size w w' := by
  by_cases h2 : n ≤ 2000
  · go_enter Tryz.func31, Tryz.ntmps31
    go_wp2
    go_ret
    refine ⟨rfl, ⟨p, n, cap, 0, by simp [go_sem], by simp [go_sem], Nat.le_refl _, h2, fun j => by simp [go_sem], fun i hi => ?_⟩, (by (repeat (with_reducible first | exact Below.refl _ _ | refine Below.alloc ?_ ?_ _ | refine below_drewN ?_ _ | refine Below.drew ?_ | refine Below.setCell ?_ ?_ _ | refine Below.trans ?_ (Below.mono (by assumption) ?_))) <;> (first | omega | (simp; try omega)))⟩
    obtain ⟨b, o, x, e, hbl, hx, hx2⟩ := hb i hi
    exact ⟨b, o, x, e, hbl, by rw [World.cell?_alloc_lt]; exact hx; exact hbl, hx2⟩
  · have h3 : 2000 ≤ cap := by omega
    go_enter Tryz.func31, Tryz.ntmps31
    go_wp2
    go_ret
    refine ⟨rfl, ⟨p, 2000, cap, 0, by simp [go_sem], by simp [go_sem], Nat.le_refl _, Nat.le_refl _, fun j => by simp [go_sem], fun i hi => ?_⟩, (by (repeat (with_reducible first | exact Below.refl _ _ | refine Below.alloc ?_ ?_ _ | refine below_drewN ?_ _ | refine Below.drew ?_ | refine Below.setCell ?_ ?_ _ | refine Below.trans ?_ (Below.mono (by assumption) ?_))) <;> (first | omega | (simp; try omega)))⟩
    obtain ⟨b, o, x, e, hbl, hx, hx2⟩ := hb i (by omega)
    exact ⟨b, o, x, e, hbl, by rw [World.cell?_alloc_lt]; exact hx; exact hbl, hx2⟩

/-- A pick out of some. -/
theorem pick_p (R N : Nat) (m : Int) (w : World) (h : Rd w R N) (hN : N ≤ 1000000) (hm : 1 ≤ m) :
    Calls Tryz.prog 48 #[.pointer (some ⟨R, 0, none⟩), .int .i64 m] w fun e w' => ∃ k : Int, e = .returned (.int .i64 k) ∧ 0 ≤ k ∧ k < m ∧ Rd w' R (N + 1) ∧ Chg (fun b => b = R) w w' :=
  (pick_c R N m w h hN).mono fun e w' ⟨k, h1, h2, h3, _, h5, h6⟩ => ⟨k, h1, h2, h3 hm, h5, h6⟩

end Go.Proofs.YtiolplhgpodifaaGreat
