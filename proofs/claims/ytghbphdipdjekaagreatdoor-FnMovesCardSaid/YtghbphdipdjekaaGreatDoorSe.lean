/- spec.CallDo. Conditions: the table lies where its cells say. -/
import Derived.Test.YtghbphdipdjekaaGreatDoorSd
import Derived.Test.YtghbphdipdjekaaGreatDoorY
set_option linter.unusedVariables false
set_option linter.unusedSimpArgs false
namespace Go.Proofs.YtghbphdipdjekaaGreatDoor
open Go.RowKit Drw
attribute [local go_sem] Lab.val Rgt.val Cal.val Thg.val
attribute [local go_sem] drewN_alloc drewN_setCell

set_option maxRecDepth 100000 in
set_option maxHeartbeats 2000000 in
theorem scallDo_no (p : Option Addr) (cap : Nat) (ts : List Thg) (c : Cal) (w : World) (hT : TabAt w (.slice p ts.length cap) ts) (hno : calCan ts c = false) :
    Calls Tryz.prog 39 #[.slice p ts.length cap, c.val] w fun e w' => ∃ q, e = .returned (.tuple #[.slice q 0 0, .int .i64 (-1)]) ∧ Below w.heap.size w w' := by
  obtain ⟨k, r, a, b, n⟩ := c
  obtain ⟨t1, h1⟩ : ∃ x, tabOk ts = x := ⟨_, rfl⟩
  obtain ⟨t2, h2⟩ : ∃ x, calOk ⟨k, r, a, b, n⟩ = x := ⟨_, rfl⟩
  obtain ⟨t3, h3⟩ : ∃ x, kindAt ts r 3 = x := ⟨_, rfl⟩
  have hx : (t1 && t2 && t3) = false := by rw [← hno, ← h1, ← h2, ← h3]; rfl
  have H1 := Lib.hid h1
  have H2 := Lib.hid h2
  have H3 := Lib.hid h3
  clear h1 h2 h3 hno
  have key : ∀ x y z : Bool, (x && y && z) = false → x = false ∨ (x = true ∧ y = false) ∨ (x = true ∧ y = true ∧ z = false) := by decide
  rcases key _ _ _ hx with rfl | ⟨rfl, rfl⟩ | ⟨rfl, rfl, rfl⟩
  all_goals
    clear hx key
    go_enter Tryz.func39, Tryz.ntmps39
    go_wp2_with (first
      | (go_at_call 19; refine (stableOk_c _ _ ts _ (hT.pure (by (repeat (with_reducible first | exact Below.refl _ _ | refine Below.alloc ?_ ?_ _ | refine below_drewN ?_ _ | refine Below.drew ?_ | refine Below.setCell ?_ ?_ _ | refine Below.trans ?_ (Below.mono (by assumption) ?_))) <;> (first | omega | (simp; try omega))))).mono ?_; rw [H1.out]; rintro e w1 ⟨rfl, hb1⟩; obtain ⟨hc1, hf1⟩ := bcell hb1; have hz0 : w.heap.size < w1.heap.size := (by have := hb1.size; (try simp at this); omega))
      | (go_at_call 83; refine (scallOk_c ⟨_, _, _, _, _⟩ _).mono ?_; rw [H2.out]; rintro e w2 ⟨rfl, hb2⟩; obtain ⟨hc2, hf2⟩ := bcell hb2; have hz2 : w.heap.size < w2.heap.size := (by have := hb2.size; omega))
      | (go_at_call 84; refine (l11Run_c _ _ ts _ _ (hT.pure (by (repeat (with_reducible first | exact Below.refl _ _ | refine Below.alloc ?_ ?_ _ | refine below_drewN ?_ _ | refine Below.drew ?_ | refine Below.setCell ?_ ?_ _ | refine Below.trans ?_ (Below.mono (by assumption) ?_))) <;> (first | omega | (simp; try omega))))).mono ?_; rw [H3.out]; rintro e w' ⟨rfl, rfl⟩))
    go_ret2
    exact ⟨_, rfl, (by (repeat (with_reducible first | exact Below.refl _ _ | refine Below.alloc ?_ ?_ _ | refine below_drewN ?_ _ | refine Below.drew ?_ | refine Below.setCell ?_ ?_ _ | refine Below.trans ?_ (Below.mono (by assumption) ?_))) <;> (first | omega | (simp; try omega)))⟩

set_option maxRecDepth 100000 in
set_option maxHeartbeats 4000000 in
theorem scallDo_yes (p : Option Addr) (cap : Nat) (ts : List Thg) (c : Cal) (w : World) (hT : TabAt w (.slice p ts.length cap) ts) (hyes : calCan ts c = true) :
    Calls Tryz.prog 39 #[.slice p ts.length cap, c.val] w fun e w' => ∃ v xs tag, e = .returned (.tuple #[v, .int .i64 (do2 ts c).2]) ∧ OwnTab w' (fun b => w.heap.size ≤ b) tag v xs ∧ xs.map (·.1) = (do2 ts c).1 ∧ Below w.heap.size w w' := by
  have hcB := canB.1 hyes
  have hlen8 := (tab_iff.1 hcB.tab).1
  have hkr : kindAt ts c.run 3 = true := by simp [kindAt, hcB.ex, hcB.kind]
  have H1 := Lib.hid hcB.tab
  have H2 := Lib.hid hcB.ok
  have H3 := Lib.hid hkr
  have HcB := Lib.hid hcB
  have Hsh := Lib.hid (short_of_tab hcB.tab)
  clear hyes hcB hkr
  obtain ⟨k, r, a, b, n⟩ := c
  dsimp only at H3
  go_enter Tryz.func39, Tryz.ntmps39
  go_upto_region 3 with (first
    | (go_at_call 19; refine (stableOk_c _ _ ts _ (hT.pure (by (repeat (with_reducible first | exact Below.refl _ _ | refine Below.alloc ?_ ?_ _ | refine below_drewN ?_ _ | refine Below.drew ?_ | refine Below.setCell ?_ ?_ _ | refine Below.trans ?_ (Below.mono (by assumption) ?_))) <;> (first | omega | (simp; try omega))))).mono ?_; rw [H1.out]; rintro e w1 ⟨rfl, hb1⟩; obtain ⟨hc1, hf1⟩ := bcell hb1; have hz0 : w.heap.size < w1.heap.size := (by have := hb1.size; (try simp at this); omega))
    | (go_at_call 83; refine (scallOk_c ⟨_, _, _, _, _⟩ _).mono ?_; rw [H2.out]; rintro e w2 ⟨rfl, hb2⟩; obtain ⟨hc2, hf2⟩ := bcell hb2; have hz2 : w.heap.size < w2.heap.size := (by have := hb2.size; omega))
    | (go_at_call 84; refine (l11Run_c _ _ ts _ _ (hT.pure (by (repeat (with_reducible first | exact Below.refl _ _ | refine Below.alloc ?_ ?_ _ | refine below_drewN ?_ _ | refine Below.drew ?_ | refine Below.setCell ?_ ?_ _ | refine Below.trans ?_ (Below.mono (by assumption) ?_))) <;> (first | omega | (simp; try omega))))).mono ?_; rw [H3.out]; rintro e w' ⟨rfl, rfl⟩))
  have k0 : w2.cell? ⟨w.heap.size, 0, none⟩ = some (.int .i64 k) := by rw [hc2 _ _ hz0, hc1 _ _ (by simp)]; simp [go_sem]
  have k1 : w2.cell? ⟨w.heap.size, 1, none⟩ = some (.int .i64 r) := by rw [hc2 _ _ hz0, hc1 _ _ (by simp)]; simp [go_sem]
  have k2 : w2.cell? ⟨w.heap.size, 2, none⟩ = some (.int .i64 a) := by rw [hc2 _ _ hz0, hc1 _ _ (by simp)]; simp [go_sem]
  have k3 : w2.cell? ⟨w.heap.size, 3, none⟩ = some (.int .i64 b) := by rw [hc2 _ _ hz0, hc1 _ _ (by simp)]; simp [go_sem]
  have k4 : w2.cell? ⟨w.heap.size, 4, none⟩ = some (.int .i64 n) := by rw [hc2 _ _ hz0, hc1 _ _ (by simp)]; simp [go_sem]
  have hB2 : Below w.heap.size w w2 := (by (repeat (with_reducible first | exact Below.refl _ _ | refine Below.alloc ?_ ?_ _ | refine below_drewN ?_ _ | refine Below.drew ?_ | refine Below.setCell ?_ ?_ _ | refine Below.trans ?_ (Below.mono (by assumption) ?_))) <;> (first | omega | (simp; try omega)))
  have hT2 : TabAt w2 (.slice p ts.length cap) ts := hT.pure hB2
  obtain ⟨wy, rfl⟩ : ∃ wy : World, wy = w2 := ⟨_, rfl⟩
  clear hc1 hf1 hc2 hf2
  have hlo : w.heap.size < wy.heap.size := hz2
  have hTd : ∀ W : World, Below wy.heap.size wy W → TabAt W (.slice p ts.length cap) ts := fun W h => hT2.pure h
  have HTd := Lib.hid hTd
  clear hTd
  go_region_held3 (fun w' => Below w.heap.size w w' ∧ wy.heap.size ≤ w'.heap.size ∧ w'.cell? ⟨w.heap.size, 0, none⟩ = some (.int .i64 k) ∧ w'.cell? ⟨w.heap.size, 1, none⟩ = some (.int .i64 r) ∧ w'.cell? ⟨w.heap.size, 2, none⟩ = some (.int .i64 a) ∧ w'.cell? ⟨w.heap.size, 3, none⟩ = some (.int .i64 b) ∧ w'.cell? ⟨w.heap.size, 4, none⟩ = some (.int .i64 n))
    (first | exact ⟨hB2.drew, Nat.le_refl _, k0, k1, k2, k3, k4⟩ | exact ⟨hb4, hs4, r0, r1, r2, r3, r4⟩ | exact ⟨hb3', hs3, q0, q1, q2, q3, q4⟩)
    (first
      | (go_at_call 68; refine (l12Do_c (c := ⟨_, _, _, _, _⟩) hO (fun b h => Nat.le_trans hs3 h) (by omega) (by rw [hxs]; exact HcB.out)).mono ?_; rintro e w4 ⟨rfl, xs4, tag4, hO4, hxs4, hg4⟩; have nP : ¬ wy.heap.size ≤ w.heap.size := (by omega); have hb4 : Below w.heap.size w w4 := hb3'.trans (Chg.below hg4 (by omega) (fun k hk h => by have h' : wy.heap.size ≤ k := h; omega)); have hs4 : wy.heap.size ≤ w4.heap.size := (by have := hg4.size; omega); have r0 := hg4.cell q0 nP; have r1 := hg4.cell q1 nP; have r2 := hg4.cell q2 nP; have r3 := hg4.cell q3 nP; have r4 := hg4.cell q4 nP)
      | (go_at_call 67; refine (l3Copy_c p cap ts _ (HTd.out _ (by (repeat (with_reducible first | exact Below.refl _ _ | refine Below.alloc ?_ ?_ _ | refine below_drewN ?_ _ | refine Below.drew ?_ | refine Below.setCell ?_ ?_ _ | refine Below.trans ?_ (Below.mono (by assumption) ?_))) <;> (first | omega | (simp; try omega)))) (by omega) Hsh.out).mono ?_; rintro e w3 ⟨v, xs, tag, rfl, hO, hxs, hb3⟩; obtain ⟨T, o, cap', rfl⟩ := own_some hO hxs (by omega); obtain ⟨hc3, hf3⟩ := bcell hb3; have hb3' : Below w.heap.size w w3 := (by (repeat (with_reducible first | exact Below.refl _ _ | refine Below.alloc ?_ ?_ _ | refine below_drewN ?_ _ | refine Below.drew ?_ | refine Below.setCell ?_ ?_ _ | refine Below.trans ?_ (Below.mono (by assumption) ?_))) <;> (first | omega | (simp; try omega))); have hs3 : wy.heap.size ≤ w3.heap.size := hb3.size; have q0 := (hc3 w.heap.size 0 hlo).trans k0; have q1 := (hc3 w.heap.size 1 hlo).trans k1; have q2 := (hc3 w.heap.size 2 hlo).trans k2; have q3 := (hc3 w.heap.size 3 hlo).trans k3; have q4 := (hc3 w.heap.size 4 hlo).trans k4))
  all_goals
    go_wp2
    go_ret2
    rw [hxs] at *
    exact ⟨_, xs4, tag4, rfl, hO4.imp (fun b h _ => ⟨by have h' : wy.heap.size ≤ b := h; omega, rfl⟩), hxs4, hb4⟩

theorem own_nil' (w : World) (q : Option Addr) (P : Nat → Prop) (tag : Nat → Nat) : OwnTab w P tag (.slice q 0 0) [] :=
  ⟨⟨⟨q, 0, rfl, by simp, by simp, .inl rfl⟩, fun x hx => by cases hx⟩, Held.nil, fun i x hx => by simp at hx, fun i x hx => by simp at hx⟩
theorem scallDo_c (p : Option Addr) (cap : Nat) (ts : List Thg) (c : Cal) (w : World) (hT : TabAt w (.slice p ts.length cap) ts) :
    Calls Tryz.prog 39 #[.slice p ts.length cap, c.val] w fun e w' => ∃ v xs tag, e = .returned (.tuple #[v, .int .i64 (callDo ts c).2]) ∧ OwnTab w' (fun b => w.heap.size ≤ b) tag v xs ∧ xs.map (·.1) = (callDo ts c).1 ∧ Below w.heap.size w w' := by
  cases h : calCan ts c
  · refine (scallDo_no p cap ts c w hT h).mono ?_
    rintro e w' ⟨q, rfl, hb⟩
    refine ⟨.slice q 0 0, [], fun _ => 0, by simp [callDo, h], own_nil' _ _ _ _, by simp [callDo, h], hb⟩
  · have := scallDo_yes p cap ts c w hT h
    simpa [callDo, h] using this

end Go.Proofs.YtghbphdipdjekaaGreatDoor
