/- impl.ThingNew. Conditions: none. -/
import Derived.Test.YtghbphdipdjekaaGreatDoorV
import Derived.Test.YtghbphdipdjekaaGreatDoorC
set_option linter.unusedVariables false
set_option linter.unusedSimpArgs false
namespace Go.Proofs.YtghbphdipdjekaaGreatDoor
open Go.RowKit Drw
attribute [local go_sem] Lab.val Rgt.val Cal.val Thg.val

def arr4 : Value := .agg #[.int .i64 0, .int .i64 0, .bool false, .bool false, .bool false, .int .i64 0, .int .i64 0, .bool false, .bool false, .bool false, .int .i64 0, .int .i64 0, .bool false, .bool false, .bool false, .int .i64 0, .int .i64 0, .bool false, .bool false, .bool false]

set_option maxRecDepth 100000 in
set_option maxHeartbeats 1000000 in
theorem arrList_c (w : World) :
    Calls Tryz.prog 167 #[arr4] w fun e w' => ∃ v, e = .returned v ∧ RgtsAt w' v [Rgt.null, Rgt.null, Rgt.null, Rgt.null] ∧ HeldB w' w.heap.size v ∧ Below w.heap.size w w' := by
  have hR : RgtsAt (w.alloc (.cells arr4.cells 170)) (.slice (some ⟨w.heap.size, 0, none⟩) 4 4) [Rgt.null, Rgt.null, Rgt.null, Rgt.null] := by
    refine ⟨_, 4, rfl, by simp, by simp [maxLen], .inr ⟨w.heap.size, 0, rfl, fun k c hk j u hj => ?_⟩⟩
    have hk4 : k < 4 := by simpa using (List.getElem?_eq_some_iff.1 hk).1
    rw [World.cell?_alloc_new]
    have : k = 0 ∨ k = 1 ∨ k = 2 ∨ k = 3 := by omega
    rcases this with rfl | rfl | rfl | rfl
    all_goals
      simp at hk
      subst hk
      rcases j with _ | _ | _ | _ | _ | j
      all_goals simp [Rgt.cells, Rgt.null] at hj
      all_goals subst hj
      all_goals rfl
  unfold arr4 at *
  go_enter Tryz.func167, Tryz.ntmps167
  go_wp2_with (go_at_call 132; go_loud (refine (copyRgts_c _ [Rgt.null, Rgt.null, Rgt.null, Rgt.null] _ hR (by simp)).mono ?_); rintro e w1 ⟨v, rfl, hS, hH, hb1⟩)
  go_ret
  exact ⟨_, rfl, hS, hH.retag (fun b _ h _ => ⟨by simp at h; omega, rfl⟩), (by (repeat (with_reducible first | exact Below.refl _ _ | refine Below.alloc ?_ ?_ _ | refine below_drewN ?_ _ | refine Below.drew ?_ | refine Below.setCell ?_ ?_ _ | refine Below.trans ?_ (Below.mono (by assumption) ?_))) <;> (first | omega | (simp; try omega)))⟩

set_option maxRecDepth 100000 in
set_option maxHeartbeats 2000000 in
theorem thingNew_slots (k : Int) (l : Lab) (tg : Int) (w : World) (hk : k = 2 ∨ k = 3) (hok : thgOk (thgNew0 k l tg) = true) :
    Calls Tryz.prog 162 #[.int .i64 k, l.val, .int .i64 tg] w fun e w' => ∃ sv, e = .returned (.tuple #[(thgNew0 k l tg).val sv (.slice none 0 0), .bool true]) ∧ RgtsAt w' sv (thgNew0 k l tg).slots ∧ HeldB w' w.heap.size sv ∧ Below w.heap.size w w' := by
  obtain ⟨s, v⟩ := l
  have e0 : thgNew0 k ⟨s, v⟩ tg = ⟨k, ⟨s, v⟩, 0, 0, [Rgt.null, Rgt.null, Rgt.null, Rgt.null], [], tg⟩ := by simp [thgNew0, hk]
  rw [e0] at hok ⊢
  have Hok := Lib.hid hok
  clear hok e0
  dsimp only [Thg.val]
  rcases hk with rfl | rfl
  · go_enter Tryz.func162, Tryz.ntmps162
    go_wp2_with (first
      | (go_at_call 167; refine (arrList_c _).mono ?_; rintro e w1 ⟨sv, rfl, hS, hH, hb1⟩; obtain ⟨sp, scap, rfl, hsl1, hsl2⟩ := hS.len; obtain ⟨hc1, hf1⟩ := bcell hb1; have hz1 : w.heap.size + 2 < w1.heap.size := (by have := hb1.size; (try simp at this); omega); have hz1b : w.heap.size + 1 < w1.heap.size := (by omega); have hz1c : w.heap.size < w1.heap.size := (by omega); have d4 := World.cell?_setCell_same' w1 ⟨w.heap.size + 2, 5, none⟩ (.slice sp 4 scap) (by rw [hc1 _ _ (by simp)]; simp [go_sem]); have hH2 : HeldB w1 (w.heap.size + 3) (.slice sp 4 scap) := hH.retag (fun b _ h _ => ⟨by simp at h; omega, rfl⟩); have hS2 : RgtsAt (w1.setCell ⟨w.heap.size + 2, 5, none⟩ (.slice sp 4 scap)) (.slice sp 4 scap) [Rgt.null, Rgt.null, Rgt.null, Rgt.null] := Rows.held hS hH2 (S := fun b => b = w.heap.size + 2) (Chg.setCell (S := fun b => b = w.heap.size + 2) (Chg.refl _ _) rfl _) (fun b _ h _ e => by omega))
      | (go_at_call 74; refine (thingOk_c ⟨_, ⟨_, _⟩, _, _, [Rgt.null, Rgt.null, Rgt.null, Rgt.null], [], _⟩ _ _ _ hS2 ⟨none, 0, rfl, by simp, by simp, .inl rfl⟩).mono ?_; rw [Hok.out]; rintro e w2 ⟨rfl, hb2⟩; obtain ⟨hc2, hf2⟩ := bcell hb2; have hz2 : w.heap.size + 2 < w2.heap.size := (by have := hb2.size; (try simp [World.setCell] at this); omega); have hz2b : w.heap.size + 1 < w2.heap.size := (by omega)))
    have hg12 : Chg (fun b => b ≤ w.heap.size + 2) w1 w2 := (Chg.setCell (S := fun b => b ≤ w.heap.size + 2) (Chg.refl _ w1) (by simp) _).trans (Chg.of_pure hb2)
    refine bodyPost_ret (v := .tuple #[.agg #[.int .i64 2, .int .i64 s, .int .i64 v, .int .i64 0, .int .i64 0, .slice sp 4 scap, .slice none 0 0, .int .i64 tg], .bool true]) ?_ rfl ⟨_, rfl, ?_, ?_, (by (repeat (with_reducible first | exact Below.refl _ _ | refine Below.alloc ?_ ?_ _ | refine below_drewN ?_ _ | refine Below.drew ?_ | refine Below.setCell ?_ ?_ _ | refine Below.trans ?_ (Below.mono (by assumption) ?_))) <;> (first | omega | (simp; try omega)))⟩
    · simp [results, Tryz.results162, go_sem, *]
    · exact Rows.held hS hH2 (S := fun b => b ≤ w.heap.size + 2) (by (repeat (with_reducible first | exact Chg.refl _ _ | refine Chg.alloc ?_ _ | refine Chg.drew ?_ | refine Chg.drewN ?_ _ | refine Chg.setCell ?_ ?_ _ | refine Chg.trans ?_ (Chg.of_pure (by assumption)))) <;> (first | omega | (simp; done) | (simp; omega))) (fun b _ h _ => by omega)
    · exact (hH2.chg (S := fun b => b ≤ w.heap.size + 2) (by (repeat (with_reducible first | exact Chg.refl _ _ | refine Chg.alloc ?_ _ | refine Chg.drew ?_ | refine Chg.drewN ?_ _ | refine Chg.setCell ?_ ?_ _ | refine Chg.trans ?_ (Chg.of_pure (by assumption)))) <;> (first | omega | (simp; done) | (simp; omega))) (fun b _ h _ => by omega)).retag (fun b _ h _ => ⟨by omega, rfl⟩)
  · go_enter Tryz.func162, Tryz.ntmps162
    go_wp2_with (first
      | (go_at_call 167; refine (arrList_c _).mono ?_; rintro e w1 ⟨sv, rfl, hS, hH, hb1⟩; obtain ⟨sp, scap, rfl, hsl1, hsl2⟩ := hS.len; obtain ⟨hc1, hf1⟩ := bcell hb1; have hz1 : w.heap.size + 2 < w1.heap.size := (by have := hb1.size; (try simp at this); omega); have hz1b : w.heap.size + 1 < w1.heap.size := (by omega); have hz1c : w.heap.size < w1.heap.size := (by omega); have d4 := World.cell?_setCell_same' w1 ⟨w.heap.size + 2, 5, none⟩ (.slice sp 4 scap) (by rw [hc1 _ _ (by simp)]; simp [go_sem]); have hH2 : HeldB w1 (w.heap.size + 3) (.slice sp 4 scap) := hH.retag (fun b _ h _ => ⟨by simp at h; omega, rfl⟩); have hS2 : RgtsAt (w1.setCell ⟨w.heap.size + 2, 5, none⟩ (.slice sp 4 scap)) (.slice sp 4 scap) [Rgt.null, Rgt.null, Rgt.null, Rgt.null] := Rows.held hS hH2 (S := fun b => b = w.heap.size + 2) (Chg.setCell (S := fun b => b = w.heap.size + 2) (Chg.refl _ _) rfl _) (fun b _ h _ e => by omega))
      | (go_at_call 74; refine (thingOk_c ⟨_, ⟨_, _⟩, _, _, [Rgt.null, Rgt.null, Rgt.null, Rgt.null], [], _⟩ _ _ _ hS2 ⟨none, 0, rfl, by simp, by simp, .inl rfl⟩).mono ?_; rw [Hok.out]; rintro e w2 ⟨rfl, hb2⟩; obtain ⟨hc2, hf2⟩ := bcell hb2; have hz2 : w.heap.size + 2 < w2.heap.size := (by have := hb2.size; (try simp [World.setCell] at this); omega); have hz2b : w.heap.size + 1 < w2.heap.size := (by omega)))
    have hg12 : Chg (fun b => b ≤ w.heap.size + 2) w1 w2 := (Chg.setCell (S := fun b => b ≤ w.heap.size + 2) (Chg.refl _ w1) (by simp) _).trans (Chg.of_pure hb2)
    refine bodyPost_ret (v := .tuple #[.agg #[.int .i64 3, .int .i64 s, .int .i64 v, .int .i64 0, .int .i64 0, .slice sp 4 scap, .slice none 0 0, .int .i64 tg], .bool true]) ?_ rfl ⟨_, rfl, ?_, ?_, (by (repeat (with_reducible first | exact Below.refl _ _ | refine Below.alloc ?_ ?_ _ | refine below_drewN ?_ _ | refine Below.drew ?_ | refine Below.setCell ?_ ?_ _ | refine Below.trans ?_ (Below.mono (by assumption) ?_))) <;> (first | omega | (simp; try omega)))⟩
    · simp [results, Tryz.results162, go_sem, *]
    · exact Rows.held hS hH2 (S := fun b => b ≤ w.heap.size + 2) (by (repeat (with_reducible first | exact Chg.refl _ _ | refine Chg.alloc ?_ _ | refine Chg.drew ?_ | refine Chg.drewN ?_ _ | refine Chg.setCell ?_ ?_ _ | refine Chg.trans ?_ (Chg.of_pure (by assumption)))) <;> (first | omega | (simp; done) | (simp; omega))) (fun b _ h _ => by omega)
    · exact (hH2.chg (S := fun b => b ≤ w.heap.size + 2) (by (repeat (with_reducible first | exact Chg.refl _ _ | refine Chg.alloc ?_ _ | refine Chg.drew ?_ | refine Chg.drewN ?_ _ | refine Chg.setCell ?_ ?_ _ | refine Chg.trans ?_ (Chg.of_pure (by assumption)))) <;> (first | omega | (simp; done) | (simp; omega))) (fun b _ h _ => by omega)).retag (fun b _ h _ => ⟨by omega, rfl⟩)

set_option maxRecDepth 100000 in
set_option maxHeartbeats 2000000 in
theorem thingNew_none (k : Int) (l : Lab) (tg : Int) (w : World) (hk : ¬ (k = 2 ∨ k = 3)) (hok : thgOk (thgNew0 k l tg) = true) :
    Calls Tryz.prog 162 #[.int .i64 k, l.val, .int .i64 tg] w fun e w' => ∃ sv, e = .returned (.tuple #[(thgNew0 k l tg).val sv (.slice none 0 0), .bool true]) ∧ RgtsAt w' sv (thgNew0 k l tg).slots ∧ HeldB w' w.heap.size sv ∧ Below w.heap.size w w' := by
  obtain ⟨s, v⟩ := l
  have e0 : thgNew0 k ⟨s, v⟩ tg = ⟨k, ⟨s, v⟩, 0, 0, [], [], tg⟩ := by simp [thgNew0, hk]
  have hk2 : (k == 2) = false := by simp at hk ⊢; exact hk.1
  have hk3 : (k == 3) = false := by simp at hk ⊢; exact hk.2
  rw [e0] at hok ⊢
  have Hok := Lib.hid hok
  clear hok e0 hk
  dsimp only [Thg.val]
  go_enter Tryz.func162, Tryz.ntmps162
  go_wp2_with (go_at_call 74; refine (thingOk_c ⟨_, ⟨_, _⟩, _, _, [], [], _⟩ _ _ _ ⟨none, 0, rfl, by simp, by simp, .inl rfl⟩ ⟨none, 0, rfl, by simp, by simp, .inl rfl⟩).mono ?_; rw [Hok.out]; rintro e w2 ⟨rfl, hb2⟩; obtain ⟨hc2, hf2⟩ := bcell hb2; have hz2 : w.heap.size + 2 < w2.heap.size := (by have := hb2.size; (try simp at this); omega); have hz2b : w.heap.size + 1 < w2.heap.size := (by omega))
  refine bodyPost_ret (v := .tuple #[.agg #[.int .i64 k, .int .i64 s, .int .i64 v, .int .i64 0, .int .i64 0, .slice none 0 0, .slice none 0 0, .int .i64 tg], .bool true]) ?_ rfl ⟨_, rfl, ⟨none, 0, rfl, by simp, by simp, .inl rfl⟩, Held.nil, (by (repeat (with_reducible first | exact Below.refl _ _ | refine Below.alloc ?_ ?_ _ | refine below_drewN ?_ _ | refine Below.drew ?_ | refine Below.setCell ?_ ?_ _ | refine Below.trans ?_ (Below.mono (by assumption) ?_))) <;> (first | omega | (simp; try omega)))⟩
  simp [results, Tryz.results162, go_sem, *]

theorem thingNew_c (k : Int) (l : Lab) (tg : Int) (w : World) (hok : thgOk (thgNew0 k l tg) = true) :
    Calls Tryz.prog 162 #[.int .i64 k, l.val, .int .i64 tg] w fun e w' => ∃ sv, e = .returned (.tuple #[(thgNew0 k l tg).val sv (.slice none 0 0), .bool true]) ∧ RgtsAt w' sv (thgNew0 k l tg).slots ∧ HeldB w' w.heap.size sv ∧ Below w.heap.size w w' := by
  by_cases hk : k = 2 ∨ k = 3
  · exact thingNew_slots k l tg w hk hok
  · exact thingNew_none k l tg w hk hok

end Go.Proofs.YtghbphdipdjekaaGreatDoor
