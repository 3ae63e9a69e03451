/- Drawn rights: whatever the bytes are, there is one. Conditions: few numbers were drawn so far. -/
import Derived.Test.YtiolplhgpodifaaGreatDl
set_option linter.unusedVariables false
set_option linter.unusedSimpArgs false
namespace Go.Proofs.YtiolplhgpodifaaGreat
open Go.RowKit Drw

def RgtP (w wa : World) (R : Nat) (v : Value) : Prop := ∃ b, ∃ r : Rgt, v = .pointer (some ⟨b, 0, none⟩) ∧ b ≠ R ∧ wa.heap.size ≤ b ∧ (w.cell? ⟨b, 0, none⟩ = some (.int .i64 r.thing) ∧ w.cell? ⟨b, 1, none⟩ = some (.int .i64 r.vers) ∧ w.cell? ⟨b, 2, none⟩ = some (.bool r.rd) ∧ w.cell? ⟨b, 3, none⟩ = some (.bool r.wr) ∧ w.cell? ⟨b, 4, none⟩ = some (.bool r.wk)) ∧ (∀ j, w.frozen? ⟨b, j, none⟩ = false) ∧ -1 ≤ r.thing ∧ r.thing ≤ 9

theorem lit_at {w w' : World} {R k n : Nat} {cs : Array Value} {t : TypeId} {lo hi : Int} (hR : R < w.heap.size) (hg : Chg (fun b => b = R) (w.alloc (.cells cs t)) w') (h : ∀ k, k < n → ∃ x, cs[k]? = some (.int .i64 x) ∧ lo ≤ x ∧ x ≤ hi) (hk : k < n) :
    ∃ x, w'.cell? ⟨w.heap.size, k, none⟩ = some (.int .i64 x) ∧ lo ≤ x ∧ x ≤ hi := by
  obtain ⟨x, h1, h2⟩ := h k hk
  refine ⟨x, hg.cell ?_ (by show ¬ w.heap.size = R; omega), h2⟩
  rw [World.cell?_alloc_new]
  simpa using h1
theorem lit3a : ∀ k, k < 3 → ∃ x, (#[Value.int .i64 0, .int .i64 9, .int .i64 (-1)] : Array Value)[k]? = some (.int .i64 x) ∧ -1 ≤ x ∧ x ≤ 9 := by
  intro k hk
  have : k = 0 ∨ k = 1 ∨ k = 2 := by omega
  rcases this with rfl | rfl | rfl <;> exact ⟨_, rfl, by decide, by decide⟩
theorem lit3b : ∀ k, k < 3 → ∃ x, (#[Value.int .i64 (-1), .int .i64 5, .int .i64 6] : Array Value)[k]? = some (.int .i64 x) ∧ -1 ≤ x ∧ x ≤ 9 := by
  intro k hk
  have : k = 0 ∨ k = 1 ∨ k = 2 := by omega
  rcases this with rfl | rfl | rfl <;> exact ⟨_, rfl, by decide, by decide⟩

set_option maxRecDepth 100000 in
set_option maxHeartbeats 4000000 in
theorem l71Right_c (R N : Nat) (w : World) (h : Rd w R N) (hN : N ≤ 900000) :
    Calls Tryz.prog 84 #[.pointer (some ⟨R, 0, none⟩)] w fun e w' => ∃ r : Rgt, e = .returned r.val ∧ -1 ≤ r.thing ∧ r.thing ≤ 9 ∧ Rd w' R (N + 9) ∧ Chg (fun b => b = R) w w' := by
  have hR := h.lt
  go_enter Tryz.func84, Tryz.ntmps84
  go_upto_region 1 with (fail)
  have hrd1 : Rd (w.alloc (.cells #[.int .i64 0, .int .i64 0, .bool false, .bool false, .bool false] 35)) R N := h.pure (by (repeat (with_reducible first | exact Below.refl _ _ | refine Below.alloc ?_ ?_ _ | refine below_drewN ?_ _ | refine Below.drew ?_ | refine Below.setCell ?_ ?_ _ | refine Below.trans ?_ (Below.mono (by assumption) ?_))) <;> (first | omega | (simp; try omega)))
  have hch1 : Chg (fun b => b = R) w (w.alloc (.cells #[.int .i64 0, .int .i64 0, .bool false, .bool false, .bool false] 35)) := (by (repeat (with_reducible first | exact Chg.refl _ _ | refine Chg.alloc ?_ _ | refine Chg.drew ?_ | refine Chg.drewN ?_ _ | refine Chg.setCell ?_ ?_ _ | refine Chg.trans ?_ (Chg.of_pure (by assumption)))) <;> (first | omega | (simp; done) | (simp; omega)))
  obtain ⟨wa, hwa⟩ : ∃ wa : World, wa = w.alloc (.cells #[.int .i64 0, .int .i64 0, .bool false, .bool false, .bool false] 35) := ⟨_, rfl⟩
  rw [← hwa] at hrd1 hch1 ⊢
  have hRa : R < wa.heap.size := hrd1.lt
  have g0 : wa.cell? ⟨w.heap.size, 0, none⟩ = some (.int .i64 0) := by rw [hwa]; simp [go_sem]
  have g1 : wa.cell? ⟨w.heap.size, 1, none⟩ = some (.int .i64 0) := by rw [hwa]; simp [go_sem]
  have g2 : wa.cell? ⟨w.heap.size, 2, none⟩ = some (.bool false) := by rw [hwa]; simp [go_sem]
  have g3 : wa.cell? ⟨w.heap.size, 3, none⟩ = some (.bool false) := by rw [hwa]; simp [go_sem]
  have g4 : wa.cell? ⟨w.heap.size, 4, none⟩ = some (.bool false) := by rw [hwa]; simp [go_sem]
  have gf : ∀ j, wa.frozen? ⟨w.heap.size, j, none⟩ = false := by intro j; rw [hwa]; simp [go_sem]
  have gl : w.heap.size < wa.heap.size := by rw [hwa]; simp
  have hL : w.heap.size ≠ R := by omega
  clear hwa
  go_upto_region 3 with (go_at_call 48; refine (pick_p R _ _ _ hrd1 (by omega) (by omega)).mono ?_; rintro e w1 ⟨k1, rfl, hk0, hk1, hr1, hg1⟩; have n0 := hg1.cell g0 hL; have n1 := hg1.cell g1 hL; have n2 := hg1.cell g2 hL; have n3 := hg1.cell g3 hL; have n4 := hg1.cell g4 hL; have nf := Chg_frozen hg1 gl hL gf)
  · go_wp2
    exact bodyPost_ret (v := Rgt.null.val) (by simp [results, Tryz.results84, go_sem, Rgt.val, Rgt.null, *]) rfl ⟨Rgt.null, rfl, by decide, by decide, (Rd.setNew (Rd.setNew (Rd.setNew (Rd.setNew (Rd.setNew hr1 hR _) hR _) hR _) hR _) hR _).mono (by omega), Chg.setNew (Chg.setNew (Chg.setNew (Chg.setNew (Chg.setNew (hch1.trans hg1) (Nat.le_refl _) _) (Nat.le_refl _) _) (Nat.le_refl _) _) (Nat.le_refl _) _) (Nat.le_refl _) _⟩
  · clear n0 n1 n2 n3 n4 nf
    go_cut [3] (fun s3 wz => RgtP wz w1 R s3 ∧ Chg (fun b => b = R) w1 wz ∧ Rd wz R (N + 5))
    case first =>
      go_wp2_with (first
        | (go_at_call 48; refine (pick_p R _ _ _ (hr1) (by omega) (by omega)).mono ?_; rintro e w2 ⟨k2, rfl, h2a, h2b, hr2, hg2⟩)
        | (go_at_call 48; refine (pick_p R _ _ _ (hr2) (by omega) (by omega)).mono ?_; rintro e w3 ⟨k3, rfl, h3a, h3b, hr3, hg3⟩)
        | (go_at_call 48; refine (pick_p R _ _ _ (hr3) (by omega) (by omega)).mono ?_; rintro e w4 ⟨k4, rfl, h4a, h4b, hr4, hg4⟩)
        | (go_at_call 48; refine (pick_p R _ _ _ (hr4) (by omega) (by omega)).mono ?_; rintro e w5 ⟨k5, rfl, h5a, h5b, hr5, hg5⟩))
      go_meet
      refine ⟨⟨w5.heap.size, ⟨1 + k2, k3, decide (0 < k4), k5 == 0, false⟩, rfl, ?_, ?_, by simp [go_sem], fun j => by simp [go_sem], by show -1 ≤ 1 + k2; omega, by show 1 + k2 ≤ 9; omega⟩, Chg.alloc (((hg2.trans hg3).trans hg4).trans hg5) _, Rd.pure hr5 (by (repeat (with_reducible first | exact Below.refl _ _ | refine Below.alloc ?_ ?_ _ | refine below_drewN ?_ _ | refine Below.drew ?_ | refine Below.setCell ?_ ?_ _ | refine Below.trans ?_ (Below.mono (by assumption) ?_))) <;> (first | omega | (simp; try omega)))⟩
      · have := hr5.lt; omega
      · have := (((hg2.trans hg3).trans hg4).trans hg5).size; omega
    case rest =>
      obtain ⟨⟨b, r, rfl, hbR, hbl, ⟨c0, c1, c2, c3, c4⟩, fz, hlo, hhi⟩, hch2, hrd2⟩ := hcut
      obtain ⟨wx, rfl⟩ : ∃ wx : World, wx = wc := ⟨_, rfl⟩
      obtain ⟨rt, rv, rr, rw, rk⟩ := r
      have hbs := World.block_lt_of_cell? _ _ c0
      have hRb : R < b := by have := hr1.lt; omega
      go_upto_if 22 with (fail)
      go_cut [] (fun wz => RgtP wz w1 R (.pointer (some ⟨b, 0, none⟩)) ∧ Chg (fun b => b = R) w1 wz ∧ Rd wz R (N + 6))
      case first =>
        cases rw
        · go_wp2_with (go_at_call 48; refine (pick_p R _ _ _ (hrd2) (by omega) (by omega)).mono ?_; rintro e w2 ⟨k2, rfl, h2a, h2b, hr2, hg2⟩; have c0 := hg2.cell c0 hbR; have c1 := hg2.cell c1 hbR; have c2 := hg2.cell c2 hbR; have c3 := hg2.cell c3 hbR; have c4 := hg2.cell c4 hbR; have fz := Chg_frozen hg2 hbs hbR fz; have hbs := (World.block_lt_of_cell? _ _ c0))
          go_meet
          exact ⟨⟨b, ⟨rt, rv, rr, false, k2 == 0⟩, rfl, hbR, hbl, by simp [cell_set, c0, c1, c2, c3, c4], fun j => by simp [fz], hlo, hhi⟩, Chg.setNew (hch2.trans hg2) hbl _, Rd.setNew hr2 hRb _⟩
        · go_wp2
          go_meet
          exact ⟨⟨b, ⟨rt, rv, rr, true, rk⟩, rfl, hbR, hbl, ⟨c0, c1, c2, c3, c4⟩, fz, hlo, hhi⟩, hch2, hrd2.mono (by omega)⟩
      case rest =>
        clear c0 c1 c2 c3 c4 fz hlo hhi hch2 hrd2
        obtain ⟨⟨b', r, e, hbR', hbl', ⟨c0, c1, c2, c3, c4⟩, fz, hlo, hhi⟩, hch2, hrd2⟩ := hcut
        cases e
        clear hbR' hbl' hbs
        obtain ⟨rt, rv, rr, rw, rk⟩ := r
        obtain ⟨wy, rfl⟩ : ∃ wx : World, wx = wc := ⟨_, rfl⟩
        have hbs := World.block_lt_of_cell? _ _ c0
        have hch3 := (hch1.trans hg1).trans hch2
        have hL1 : w.heap.size < wy.heap.size := by have := (hg1.trans hch2).size; omega
        have n0 := (hg1.trans hch2).cell g0 hL
        have n1 := (hg1.trans hch2).cell g1 hL
        have n2 := (hg1.trans hch2).cell g2 hL
        have n3 := (hg1.trans hch2).cell g3 hL
        have n4 := (hg1.trans hch2).cell g4 hL
        have nf := Chg_frozen (hg1.trans hch2) gl hL gf
        have hLb : ¬ w.heap.size = b := by have := hg1.size; omega
        have hbw : w.heap.size ≤ b := by have := hch1.size; have := hg1.size; omega
        have hbL : ¬ b = w.heap.size := fun e => hLb e.symm
        clear g0 g1 g2 g3 g4 gf
        go_upto_region 7 with (go_at_call 48; refine (pick_p R _ _ _ (hrd2) (by omega) (by omega)).mono ?_; rintro e w2 ⟨k2, rfl, h2a, h2b, hr2, hg2⟩; have c0 := hg2.cell c0 hbR; have c1 := hg2.cell c1 hbR; have c2 := hg2.cell c2 hbR; have c3 := hg2.cell c3 hbR; have c4 := hg2.cell c4 hbR; have fz := Chg_frozen hg2 hbs hbR fz; have n0 := hg2.cell n0 hL; have n1 := hg2.cell n1 hL; have n2 := hg2.cell n2 hL; have n3 := hg2.cell n3 hL; have n4 := hg2.cell n4 hL; have nf := Chg_frozen hg2 hL1 hL nf)
        have hks : k2 = 0 ∨ k2 = 1 ∨ k2 = 2 ∨ 3 ≤ k2 := by omega
        rcases hks with rfl | rfl | rfl | hks
        · go_wp2
          exact bodyPost_ret (v := (Rgt.mk rt rv rr rw true).val) (by simp [results, Tryz.results84, go_sem, Rgt.val, cell_set, *]) rfl ⟨⟨rt, rv, rr, rw, true⟩, rfl, by assumption, by assumption, by (repeat refine Rd.setNew ?_ ?_ _) <;> first | exact Rd.mono hr2 (by omega) | (simp; done) | (simp; omega), by (repeat refine Chg.setNew ?_ ?_ _) <;> first | exact (hch3.trans hg2) | (simp; done) | (simp; omega)⟩
        · have hbl3 : Below w2.heap.size w2 (w2.alloc (.cells #[.int .i64 0, .int .i64 9, .int .i64 (-1)] 3)) := (by (repeat (with_reducible first | exact Below.refl _ _ | refine Below.alloc ?_ ?_ _ | refine below_drewN ?_ _ | refine Below.drew ?_ | refine Below.setCell ?_ ?_ _ | refine Below.trans ?_ (Below.mono (by assumption) ?_))) <;> (first | omega | (simp; try omega)))
          have hgA : Chg (fun b => b = R) w2 (w2.alloc (.cells #[.int .i64 0, .int .i64 9, .int .i64 (-1)] 3)) := Chg.of_pure hbl3
          have hA2 : w2.heap.size ≠ R := by have := hr2.lt; omega
          have hA3 : w.heap.size < w2.heap.size := by have := hg2.size; omega
          have hA4 : b < w2.heap.size := by have := hg2.size; omega
          go_wp2_with (go_at_call 48; refine (pick_p R _ _ _ (hr2.pure hbl3) (by omega) (by omega)).mono ?_; rintro e w3 ⟨k3, rfl, h3a, h3b, hr3, hg3⟩; have hgB := hgA.trans hg3; have c0 := hgB.cell c0 hbR; have c1 := hgB.cell c1 hbR; have c2 := hgB.cell c2 hbR; have c3 := hgB.cell c3 hbR; have c4 := hgB.cell c4 hbR; have fz := Chg_frozen hgB hA4 hbR fz; have n0 := hgB.cell n0 hL; have n1 := hgB.cell n1 hL; have n2 := hgB.cell n2 hL; have n3 := hgB.cell n3 hL; have n4 := hgB.cell n4 hL; have nf := Chg_frozen hgB hA3 hL nf; obtain ⟨k3, rfl⟩ : ∃ n : Nat, k3 = (n : Int) := ⟨k3.toNat, by omega⟩; have h3n : k3 < 3 := (by omega); obtain ⟨x3, hx3, hx3a, hx3b⟩ := lit_at (n := 3) (w := w2) (by have := hr2.lt; omega) hg3 lit3a h3n; have hch4 := hch3.trans (hg2.trans hgB); clear hgB hg3 hg2 hgA hch3 hbl3)
          exact bodyPost_ret (v := (Rgt.mk x3 rv rr rw rk).val) (by simp [results, Tryz.results84, go_sem, Rgt.val, cell_set, *]) rfl ⟨⟨x3, rv, rr, rw, rk⟩, rfl, by assumption, by assumption, by (repeat refine Rd.setNew ?_ ?_ _) <;> first | exact Rd.mono hr3 (by omega) | (simp; done) | (simp; omega), by (repeat refine Chg.setNew ?_ ?_ _) <;> first | exact hch4 | (simp; done) | (simp; omega)⟩
        · have hbl3 : Below w2.heap.size w2 (w2.alloc (.cells #[.int .i64 (-1), .int .i64 5, .int .i64 6] 3)) := (by (repeat (with_reducible first | exact Below.refl _ _ | refine Below.alloc ?_ ?_ _ | refine below_drewN ?_ _ | refine Below.drew ?_ | refine Below.setCell ?_ ?_ _ | refine Below.trans ?_ (Below.mono (by assumption) ?_))) <;> (first | omega | (simp; try omega)))
          have hgA : Chg (fun b => b = R) w2 (w2.alloc (.cells #[.int .i64 (-1), .int .i64 5, .int .i64 6] 3)) := Chg.of_pure hbl3
          have hA2 : w2.heap.size ≠ R := by have := hr2.lt; omega
          have hA3 : w.heap.size < w2.heap.size := by have := hg2.size; omega
          have hA4 : b < w2.heap.size := by have := hg2.size; omega
          go_wp2_with (go_at_call 48; refine (pick_p R _ _ _ (hr2.pure hbl3) (by omega) (by omega)).mono ?_; rintro e w3 ⟨k3, rfl, h3a, h3b, hr3, hg3⟩; have hgB := hgA.trans hg3; have c0 := hgB.cell c0 hbR; have c1 := hgB.cell c1 hbR; have c2 := hgB.cell c2 hbR; have c3 := hgB.cell c3 hbR; have c4 := hgB.cell c4 hbR; have fz := Chg_frozen hgB hA4 hbR fz; have n0 := hgB.cell n0 hL; have n1 := hgB.cell n1 hL; have n2 := hgB.cell n2 hL; have n3 := hgB.cell n3 hL; have n4 := hgB.cell n4 hL; have nf := Chg_frozen hgB hA3 hL nf; obtain ⟨k3, rfl⟩ : ∃ n : Nat, k3 = (n : Int) := ⟨k3.toNat, by omega⟩; have h3n : k3 < 3 := (by omega); obtain ⟨x3, hx3, hx3a, hx3b⟩ := lit_at (n := 3) (w := w2) (by have := hr2.lt; omega) hg3 lit3b h3n; have hch4 := hch3.trans (hg2.trans hgB); clear hgB hg3 hg2 hgA hch3 hbl3)
          exact bodyPost_ret (v := (Rgt.mk rt x3 rr rw rk).val) (by simp [results, Tryz.results84, go_sem, Rgt.val, cell_set, *]) rfl ⟨⟨rt, x3, rr, rw, rk⟩, rfl, by assumption, by assumption, by (repeat refine Rd.setNew ?_ ?_ _) <;> first | exact Rd.mono hr3 (by omega) | (simp; done) | (simp; omega), by (repeat refine Chg.setNew ?_ ?_ _) <;> first | exact hch4 | (simp; done) | (simp; omega)⟩
        · have m0 : ¬ k2 = 0 := by omega
          have m1 : ¬ k2 = 1 := by omega
          have m2 : ¬ k2 = 2 := by omega
          go_wp2
          exact bodyPost_ret (v := (Rgt.mk rt rv rr rw rk).val) (by simp [results, Tryz.results84, go_sem, Rgt.val, cell_set, *]) rfl ⟨⟨rt, rv, rr, rw, rk⟩, rfl, by assumption, by assumption, by (repeat refine Rd.setNew ?_ ?_ _) <;> first | exact Rd.mono hr2 (by omega) | (simp; done) | (simp; omega), by (repeat refine Chg.setNew ?_ ?_ _) <;> first | exact (hch3.trans hg2) | (simp; done) | (simp; omega)⟩
end Go.Proofs.YtiolplhgpodifaaGreat
