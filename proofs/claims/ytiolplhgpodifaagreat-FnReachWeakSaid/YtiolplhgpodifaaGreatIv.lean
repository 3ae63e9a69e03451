/- The functions on one thing return what their plain functions say. Conditions: the thing's rights and numbers lie where its cells say. -/
import Derived.Test.YtiolplhgpodifaaGreatB
import Derived.Deep.DeepCutAuto
import Derived.LoopTactic
import Derived.Deep.MidRow
import Derived.Deep.RegionHeld3
import Derived.IntWalk
import Derived.WalkKit
import Derived.RegionTactic
import Derived.Orders
set_option linter.unusedVariables false
set_option linter.unusedSimpArgs false
namespace Go.Proofs.YtiolplhgpodifaaGreat
open Go.RowKit Drw
attribute [local go_sem] Lab.val Rgt.val Cal.val Thg.val

set_option maxHeartbeats 400000 in
theorem numOk_c (t : Thg) (sv qv : Value) (w : World) :
    Calls Tryz.prog 87 #[t.val sv qv] w fun e w' => e = .returned (.bool (numOk t)) ∧ Below w.heap.size w w' := by
  obtain ⟨k, ⟨s, v⟩, ve, nu, sl, qu, tg⟩ := t
  go_enter Tryz.func87, Tryz.ntmps87
  go_wp2_with (go_at_call 57; refine (inRange_c _ _ _ _).mono ?_; rintro e w' ⟨rfl, rfl⟩)
  all_goals go_ret
  all_goals refine ⟨ret_bool ?_, (by (repeat (with_reducible first | exact Below.refl _ _ | refine Below.alloc ?_ ?_ _ | refine below_drewN ?_ _ | refine Below.drew ?_ | refine Below.setCell ?_ ?_ _ | refine Below.trans ?_ (Below.mono (by assumption) ?_))) <;> (first | omega | (simp; try omega)))⟩
  all_goals grind [numOk]

set_option maxHeartbeats 400000 in
theorem versOk_c (t : Thg) (sv qv : Value) (w : World) :
    Calls Tryz.prog 86 #[t.val sv qv] w fun e w' => e = .returned (.bool (versOk t)) ∧ Below w.heap.size w w' := by
  obtain ⟨k, ⟨s, v⟩, ve, nu, sl, qu, tg⟩ := t
  go_enter Tryz.func86, Tryz.ntmps86
  go_wp2_with (go_at_call 57; refine (inRange_c _ _ _ _).mono ?_; rintro e w' ⟨rfl, rfl⟩)
  all_goals go_ret
  all_goals refine ⟨ret_bool ?_, (by (repeat (with_reducible first | exact Below.refl _ _ | refine Below.alloc ?_ ?_ _ | refine below_drewN ?_ _ | refine Below.drew ?_ | refine Below.setCell ?_ ?_ _ | refine Below.trans ?_ (Below.mono (by assumption) ?_))) <;> (first | omega | (simp; try omega)))⟩
  all_goals grind [versOk]

set_option maxHeartbeats 400000 in
theorem targetOk_c (t : Thg) (sv qv : Value) (w : World) :
    Calls Tryz.prog 90 #[t.val sv qv] w fun e w' => e = .returned (.bool (targetOk t)) ∧ Below w.heap.size w w' := by
  obtain ⟨k, ⟨s, v⟩, ve, nu, sl, qu, tg⟩ := t
  go_enter Tryz.func90, Tryz.ntmps90
  go_wp2_with (go_at_call 57; refine (inRange_c _ _ _ _).mono ?_; rintro e w' ⟨rfl, rfl⟩)
  all_goals go_ret
  all_goals refine ⟨ret_bool ?_, (by (repeat (with_reducible first | exact Below.refl _ _ | refine Below.alloc ?_ ?_ _ | refine below_drewN ?_ _ | refine Below.drew ?_ | refine Below.setCell ?_ ?_ _ | refine Below.trans ?_ (Below.mono (by assumption) ?_))) <;> (first | omega | (simp; try omega)))⟩
  all_goals grind [targetOk]

theorem all_take_succ {α : Type} (p : α → Bool) (xs : List α) (k : Nat) (h : k < xs.length) : (xs.take (k + 1)).all p = ((xs.take k).all p && p xs[k]) := by
  rw [List.take_succ_eq_append_getElem h, List.all_append]; simp

set_option maxHeartbeats 1000000 in
theorem queueOk_c (t : Thg) (sv qv : Value) (w : World) (hq : IntsAt w qv t.queue) :
    Calls Tryz.prog 89 #[t.val sv qv] w fun e w' => e = .returned (.bool (queueOk t)) ∧ Below w.heap.size w w' := by
  obtain ⟨k, ⟨s, v⟩, ve, nu, sl, qu, tg⟩ := t
  dsimp only [Thg.val] at hq ⊢
  obtain ⟨p, cap, rfl, hl1, hl2⟩ := hq.len
  unfold maxLen at hl2
  by_cases h4 : k = 4
  · by_cases h3 : qu.length ≤ 3
    · subst h4
      go_enter Tryz.func89, Tryz.ntmps89
      go_wp2
      go_loop [4, 19] (fun _ i => ∃ j : Nat, j ≤ qu.length ∧ i = .int .i64 j ∧ (qu.take j).all (fun n => inR n 0 99) = true) (fun _ i => qu.length - (intOf i).toNat)
      case atStart => exact ⟨0, Nat.zero_le _, rfl, by simp⟩
      case round =>
        obtain ⟨j, hj, rfl, hall⟩ := hrel
        have Hall := Lib.hid hall
        clear hall
        by_cases hlt : j < qu.length
        · obtain ⟨b, o, rfl, hbk, hc⟩ := hq.at j qu[j] (by simp [hlt])
          go_wp2_with (go_at_call 57; refine (inRange_c _ _ _ _).mono ?_; rintro e w' ⟨rfl, rfl⟩)
          · go_ret
            refine ⟨ret_bool ?_, (by (repeat (with_reducible first | exact Below.refl _ _ | refine Below.alloc ?_ ?_ _ | refine below_drewN ?_ _ | refine Below.drew ?_ | refine Below.setCell ?_ ?_ _ | refine Below.trans ?_ (Below.mono (by assumption) ?_))) <;> (first | omega | (simp; try omega)))⟩
            have hb : (!inR qu[j] 0 99) = true := by assumption
            simp [queueOk, h3]
            exact ⟨qu[j], by simp, by simpa using hb⟩
          · go_round
            case rel =>
              have hb : (!inR qu[j] 0 99) = false := by assumption
              exact ⟨j + 1, by omega, by go_num, by rw [all_take_succ _ _ _ hlt, Hall.out]; simpa using hb⟩
            case measure => simp [intOf]; omega
        · go_wp2
          go_ret
          refine ⟨ret_bool ?_, (by (repeat (with_reducible first | exact Below.refl _ _ | refine Below.alloc ?_ ?_ _ | refine below_drewN ?_ _ | refine Below.drew ?_ | refine Below.setCell ?_ ?_ _ | refine Below.trans ?_ (Below.mono (by assumption) ?_))) <;> (first | omega | (simp; try omega)))⟩
          have e : j = qu.length := by omega
          have := Hall.out
          rw [e, List.take_of_length_le (Nat.le_refl _)] at this
          simp [queueOk, h3, this]
    · go_enter Tryz.func89, Tryz.ntmps89
      go_wp2
      go_ret
      refine ⟨ret_bool ?_, (by (repeat (with_reducible first | exact Below.refl _ _ | refine Below.alloc ?_ ?_ _ | refine below_drewN ?_ _ | refine Below.drew ?_ | refine Below.setCell ?_ ?_ _ | refine Below.trans ?_ (Below.mono (by assumption) ?_))) <;> (first | omega | (simp; try omega)))⟩
      simp [queueOk, h3, h4]
  · go_enter Tryz.func89, Tryz.ntmps89
    go_wp2
    go_ret
    refine ⟨ret_bool ?_, (by (repeat (with_reducible first | exact Below.refl _ _ | refine Below.alloc ?_ ?_ _ | refine below_drewN ?_ _ | refine Below.drew ?_ | refine Below.setCell ?_ ?_ _ | refine Below.trans ?_ (Below.mono (by assumption) ?_))) <;> (first | omega | (simp; try omega)))⟩
    rw [Bool.eq_iff_iff]
    simp [queueOk, h4]

theorem four {α : Type} {l : List α} (h : l.length = 4) : ∃ a b c d, l = [a, b, c, d] := by
  match l, h with
  | [a, b, c, d], _ => exact ⟨a, b, c, d, rfl⟩

theorem arrayAt4 (w : World) (a : Addr) (c : Nat) : (Instr.arrayAt 134 (.slice (some a) 4 c)).run Tryz.prog w = .ok (.pointer (some a)) w := by
  simp [Instr.arrayAt, run_underlying Tryz.underlying134]

set_option maxRecDepth 100000 in
set_option maxHeartbeats 1000000 in
theorem slotsOk_yes (t : Thg) (sv qv : Value) (w : World) (hs : RgtsAt w sv t.slots) (hk : t.kind = 2 ∨ t.kind = 3) (h4 : t.slots.length = 4) :
    Calls Tryz.prog 88 #[t.val sv qv] w fun e w' => e = .returned (.bool (slotsOk t)) ∧ Below w.heap.size w w' := by
  obtain ⟨k, ⟨s, v⟩, ve, nu, sl, qu, tg⟩ := t
  dsimp only [Thg.val] at hs hk h4 ⊢
  obtain ⟨r0, r1, r2, r3, rfl⟩ := four h4
  obtain ⟨p, cap, rfl, hl1, hl2⟩ := hs.len
  unfold maxLen at hl2
  simp only [List.length_cons, List.length_nil] at hl1 h4
  obtain ⟨b, o, rfl, hbk, c0, c1, c2, c3, c4⟩ := hs.at 0 r0 rfl
  obtain ⟨b', o', h', _, c5, c6, c7, c8, c9⟩ := hs.at 1 r1 rfl
  cases h'
  obtain ⟨b', o', h', _, d0, d1, d2, d3, d4⟩ := hs.at 2 r2 rfl
  cases h'
  obtain ⟨b', o', h', _, d5, d6, d7, d8, d9⟩ := hs.at 3 r3 rfl
  cases h'
  simp only [Nat.reduceMul, Nat.add_zero, Nat.add_assoc, Nat.reduceAdd] at c0 c1 c2 c3 c4 c5 c6 c7 c8 c9 d0 d1 d2 d3 d4 d5 d6 d7 d8 d9
  clear h4
  have hlen : (4 : Nat) ≤ cap := hl1
  have hrg : w.rangeAt b o [.int .i64 r0.thing, .int .i64 r0.vers, .bool r0.rd, .bool r0.wr, .bool r0.wk, .int .i64 r1.thing, .int .i64 r1.vers, .bool r1.rd, .bool r1.wr, .bool r1.wk, .int .i64 r2.thing, .int .i64 r2.vers, .bool r2.rd, .bool r2.wr, .bool r2.wk, .int .i64 r3.thing, .int .i64 r3.vers, .bool r3.rd, .bool r3.wr, .bool r3.wk] := by
    intro j v hj
    have hj' : j < 20 := (List.getElem?_eq_some_iff.1 hj).1
    have : j = 0 ∨ j = 1 ∨ j = 2 ∨ j = 3 ∨ j = 4 ∨ j = 5 ∨ j = 6 ∨ j = 7 ∨ j = 8 ∨ j = 9 ∨ j = 10 ∨ j = 11 ∨ j = 12 ∨ j = 13 ∨ j = 14 ∨ j = 15 ∨ j = 16 ∨ j = 17 ∨ j = 18 ∨ j = 19 := by omega
    rcases this with rfl | rfl | rfl | rfl | rfl | rfl | rfl | rfl | rfl | rfl | rfl | rfl | rfl | rfl | rfl | rfl | rfl | rfl | rfl | rfl <;> (cases hj; assumption)
  clear c0 c1 c2 c3 c4 c5 c6 c7 c8 c9 d0 d1 d2 d3 d4 d5 d6 d7 d8 d9
  have ha := arrayAt4
  have i0 : ∀ (w : World), (Instr.index 134 (.agg #[.int .i64 r0.thing, .int .i64 r0.vers, .bool r0.rd, .bool r0.wr, .bool r0.wk, .int .i64 r1.thing, .int .i64 r1.vers, .bool r1.rd, .bool r1.wr, .bool r1.wk, .int .i64 r2.thing, .int .i64 r2.vers, .bool r2.rd, .bool r2.wr, .bool r2.wk, .int .i64 r3.thing, .int .i64 r3.vers, .bool r3.rd, .bool r3.wr, .bool r3.wk]) (.int .i64 0)).run Tryz.prog w = .ok (.agg #[.int .i64 r0.thing, .int .i64 r0.vers, .bool r0.rd, .bool r0.wr, .bool r0.wk]) w := fun _ => by kernel_rfl
  have i1 : ∀ (w : World), (Instr.index 134 (.agg #[.int .i64 r0.thing, .int .i64 r0.vers, .bool r0.rd, .bool r0.wr, .bool r0.wk, .int .i64 r1.thing, .int .i64 r1.vers, .bool r1.rd, .bool r1.wr, .bool r1.wk, .int .i64 r2.thing, .int .i64 r2.vers, .bool r2.rd, .bool r2.wr, .bool r2.wk, .int .i64 r3.thing, .int .i64 r3.vers, .bool r3.rd, .bool r3.wr, .bool r3.wk]) (.int .i64 1)).run Tryz.prog w = .ok (.agg #[.int .i64 r1.thing, .int .i64 r1.vers, .bool r1.rd, .bool r1.wr, .bool r1.wk]) w := fun _ => by kernel_rfl
  have i2 : ∀ (w : World), (Instr.index 134 (.agg #[.int .i64 r0.thing, .int .i64 r0.vers, .bool r0.rd, .bool r0.wr, .bool r0.wk, .int .i64 r1.thing, .int .i64 r1.vers, .bool r1.rd, .bool r1.wr, .bool r1.wk, .int .i64 r2.thing, .int .i64 r2.vers, .bool r2.rd, .bool r2.wr, .bool r2.wk, .int .i64 r3.thing, .int .i64 r3.vers, .bool r3.rd, .bool r3.wr, .bool r3.wk]) (.int .i64 2)).run Tryz.prog w = .ok (.agg #[.int .i64 r2.thing, .int .i64 r2.vers, .bool r2.rd, .bool r2.wr, .bool r2.wk]) w := fun _ => by kernel_rfl
  have i3 : ∀ (w : World), (Instr.index 134 (.agg #[.int .i64 r0.thing, .int .i64 r0.vers, .bool r0.rd, .bool r0.wr, .bool r0.wk, .int .i64 r1.thing, .int .i64 r1.vers, .bool r1.rd, .bool r1.wr, .bool r1.wk, .int .i64 r2.thing, .int .i64 r2.vers, .bool r2.rd, .bool r2.wr, .bool r2.wk, .int .i64 r3.thing, .int .i64 r3.vers, .bool r3.rd, .bool r3.wr, .bool r3.wk]) (.int .i64 3)).run Tryz.prog w = .ok (.agg #[.int .i64 r3.thing, .int .i64 r3.vers, .bool r3.rd, .bool r3.wr, .bool r3.wk]) w := fun _ => by kernel_rfl
  rcases hk with rfl | rfl
  all_goals
    go_enter Tryz.func88, Tryz.ntmps88
    go_wp2_with (refine wpList_load_mid rfl 134 _ rfl b o rfl [.int .i64 r0.thing, .int .i64 r0.vers, .bool r0.rd, .bool r0.wr, .bool r0.wk, .int .i64 r1.thing, .int .i64 r1.vers, .bool r1.rd, .bool r1.wr, .bool r1.wk, .int .i64 r2.thing, .int .i64 r2.vers, .bool r2.rd, .bool r2.wr, .bool r2.wk, .int .i64 r3.thing, .int .i64 r3.vers, .bool r3.rd, .bool r3.wr, .bool r3.wk] _ (World.rangeAt_alloc hrg _) Tryz.underlying134 rfl (by kernel_rfl) ?_)
    go_loopw [25] (fun i wr => ∃ j : Nat, j ≤ 4 ∧ i = .int .i64 j ∧ Below w.heap.size w wr ∧ ([r0, r1, r2, r3].take j).all rgtOk = true) (fun i _ => 4 - (intOf i).toNat)
    case atStart => exact ⟨0, by omega, rfl, (by (repeat (with_reducible first | exact Below.refl _ _ | refine Below.alloc ?_ ?_ _ | refine below_drewN ?_ _ | refine Below.drew ?_ | refine Below.setCell ?_ ?_ _ | refine Below.trans ?_ (Below.mono (by assumption) ?_))) <;> (first | omega | (simp; try omega))), rfl⟩
    case round =>
      obtain ⟨j, hj, rfl, hB, hall⟩ := hrel
      have Hall := Lib.hid hall
      clear hall
      have hj : j = 0 ∨ j = 1 ∨ j = 2 ∨ j = 3 ∨ j = 4 := by omega
      have hle := hB.size
      rcases hj with rfl | rfl | rfl | rfl | rfl
      · go_wp2_with (go_at_call 40; refine (rightOk_c ⟨_, _, _, _, _⟩ _).mono ?_; rintro e w1 ⟨rfl, hb1⟩)
        · go_ret
          have hb : rgtOk r0 = false := by have h := ‹(!rgtOk _) = true›; simpa using h
          exact ⟨ret_bool (by simp [slotsOk, hb]), (by (repeat (with_reducible first | exact Below.refl _ _ | refine Below.alloc ?_ ?_ _ | refine below_drewN ?_ _ | refine Below.drew ?_ | refine Below.setCell ?_ ?_ _ | refine Below.trans ?_ (Below.mono (by assumption) ?_))) <;> (first | omega | (simp; try omega)))⟩
        · have hb : rgtOk r0 = true := by have h := ‹(!rgtOk _) = false›; simpa using h
          exact ⟨⟨1, by omega, rfl, (by (repeat (with_reducible first | exact Below.refl _ _ | refine Below.alloc ?_ ?_ _ | refine below_drewN ?_ _ | refine Below.drew ?_ | refine Below.setCell ?_ ?_ _ | refine Below.trans ?_ (Below.mono (by assumption) ?_))) <;> (first | omega | (simp; try omega))), by simp [hb]⟩, by simp [intOf]⟩
      · go_wp2_with (go_at_call 40; refine (rightOk_c ⟨_, _, _, _, _⟩ _).mono ?_; rintro e w1 ⟨rfl, hb1⟩)
        · go_ret
          have hb : rgtOk r1 = false := by have h := ‹(!rgtOk _) = true›; simpa using h
          exact ⟨ret_bool (by simp [slotsOk, hb]), (by (repeat (with_reducible first | exact Below.refl _ _ | refine Below.alloc ?_ ?_ _ | refine below_drewN ?_ _ | refine Below.drew ?_ | refine Below.setCell ?_ ?_ _ | refine Below.trans ?_ (Below.mono (by assumption) ?_))) <;> (first | omega | (simp; try omega)))⟩
        · have hb : rgtOk r1 = true := by have h := ‹(!rgtOk _) = false›; simpa using h
          have := Hall.out
          exact ⟨⟨2, by omega, rfl, (by (repeat (with_reducible first | exact Below.refl _ _ | refine Below.alloc ?_ ?_ _ | refine below_drewN ?_ _ | refine Below.drew ?_ | refine Below.setCell ?_ ?_ _ | refine Below.trans ?_ (Below.mono (by assumption) ?_))) <;> (first | omega | (simp; try omega))), by simpa [hb] using this⟩, by simp [intOf]⟩
      · go_wp2_with (go_at_call 40; refine (rightOk_c ⟨_, _, _, _, _⟩ _).mono ?_; rintro e w1 ⟨rfl, hb1⟩)
        · go_ret
          have hb : rgtOk r2 = false := by have h := ‹(!rgtOk _) = true›; simpa using h
          exact ⟨ret_bool (by simp [slotsOk, hb]), (by (repeat (with_reducible first | exact Below.refl _ _ | refine Below.alloc ?_ ?_ _ | refine below_drewN ?_ _ | refine Below.drew ?_ | refine Below.setCell ?_ ?_ _ | refine Below.trans ?_ (Below.mono (by assumption) ?_))) <;> (first | omega | (simp; try omega)))⟩
        · have hb : rgtOk r2 = true := by have h := ‹(!rgtOk _) = false›; simpa using h
          have := Hall.out
          exact ⟨⟨3, by omega, rfl, (by (repeat (with_reducible first | exact Below.refl _ _ | refine Below.alloc ?_ ?_ _ | refine below_drewN ?_ _ | refine Below.drew ?_ | refine Below.setCell ?_ ?_ _ | refine Below.trans ?_ (Below.mono (by assumption) ?_))) <;> (first | omega | (simp; try omega))), by simpa [hb] using this⟩, by simp [intOf]⟩
      · go_wp2_with (go_at_call 40; refine (rightOk_c ⟨_, _, _, _, _⟩ _).mono ?_; rintro e w1 ⟨rfl, hb1⟩)
        · go_ret
          have hb : rgtOk r3 = false := by have h := ‹(!rgtOk _) = true›; simpa using h
          exact ⟨ret_bool (by simp [slotsOk, hb]), (by (repeat (with_reducible first | exact Below.refl _ _ | refine Below.alloc ?_ ?_ _ | refine below_drewN ?_ _ | refine Below.drew ?_ | refine Below.setCell ?_ ?_ _ | refine Below.trans ?_ (Below.mono (by assumption) ?_))) <;> (first | omega | (simp; try omega)))⟩
        · have hb : rgtOk r3 = true := by have h := ‹(!rgtOk _) = false›; simpa using h
          have := Hall.out
          exact ⟨⟨4, by omega, rfl, (by (repeat (with_reducible first | exact Below.refl _ _ | refine Below.alloc ?_ ?_ _ | refine below_drewN ?_ _ | refine Below.drew ?_ | refine Below.setCell ?_ ?_ _ | refine Below.trans ?_ (Below.mono (by assumption) ?_))) <;> (first | omega | (simp; try omega))), by simpa [hb] using this⟩, by simp [intOf]⟩
      · go_wp2
        go_ret
        have := Hall.out
        exact ⟨ret_bool (by simpa [slotsOk] using this), hB⟩

set_option maxRecDepth 100000 in
set_option maxHeartbeats 1000000 in
theorem slotsOk_no (t : Thg) (sv qv : Value) (w : World) (hs : RgtsAt w sv t.slots) (h : ¬ ((t.kind = 2 ∨ t.kind = 3) ∧ t.slots.length = 4)) :
    Calls Tryz.prog 88 #[t.val sv qv] w fun e w' => e = .returned (.bool (slotsOk t)) ∧ Below w.heap.size w w' := by
  obtain ⟨k, ⟨s, v⟩, ve, nu, sl, qu, tg⟩ := t
  dsimp only [Thg.val] at hs h ⊢
  obtain ⟨p, cap, rfl, hl1, hl2⟩ := hs.len
  unfold maxLen at hl2
  by_cases hk : k = 2 ∨ k = 3
  · have h4 : ((sl.length : Int) != 4) = true := by have : ¬ sl.length = 4 := fun e => h ⟨hk, e⟩; simp; omega
    have h4' : ¬ sl.length = 4 := fun e => h ⟨hk, e⟩
    clear h
    rcases hk with rfl | rfl
    all_goals
      go_enter Tryz.func88, Tryz.ntmps88
      go_wp2
      all_goals go_ret
      all_goals refine ⟨ret_bool ?_, (by (repeat (with_reducible first | exact Below.refl _ _ | refine Below.alloc ?_ ?_ _ | refine below_drewN ?_ _ | refine Below.drew ?_ | refine Below.setCell ?_ ?_ _ | refine Below.trans ?_ (Below.mono (by assumption) ?_))) <;> (first | omega | (simp; try omega)))⟩
      all_goals (simp [slotsOk, h4'])
  · have h2 : (k != 2) = true := by simp; omega
    have h3 : (k != 3) = true := by simp; omega
    have hk2 : ¬ k = 2 := by omega
    have hk3 : ¬ k = 3 := by omega
    clear h
    go_enter Tryz.func88, Tryz.ntmps88
    go_wp2
    all_goals go_ret
    all_goals refine ⟨ret_bool ?_, (by (repeat (with_reducible first | exact Below.refl _ _ | refine Below.alloc ?_ ?_ _ | refine below_drewN ?_ _ | refine Below.drew ?_ | refine Below.setCell ?_ ?_ _ | refine Below.trans ?_ (Below.mono (by assumption) ?_))) <;> (first | omega | (simp; try omega)))⟩
    all_goals (rw [Bool.eq_iff_iff]; simp [slotsOk, hk2, hk3])

theorem slotsOk_c (t : Thg) (sv qv : Value) (w : World) (hs : RgtsAt w sv t.slots) :
    Calls Tryz.prog 88 #[t.val sv qv] w fun e w' => e = .returned (.bool (slotsOk t)) ∧ Below w.heap.size w w' := by
  by_cases h : (t.kind = 2 ∨ t.kind = 3) ∧ t.slots.length = 4
  · exact slotsOk_yes t sv qv w hs h.1 h.2
  · exact slotsOk_no t sv qv w hs h

set_option maxRecDepth 100000 in
set_option maxHeartbeats 1000000 in
theorem thingOk_c (t : Thg) (sv qv : Value) (w : World) (hs : RgtsAt w sv t.slots) (hq : IntsAt w qv t.queue) :
    Calls Tryz.prog 58 #[t.val sv qv] w fun e w' => e = .returned (.bool (thgOk t)) ∧ Below w.heap.size w w' := by
  obtain ⟨k, ⟨s, v⟩, ve, nu, sl, qu, tg⟩ := t
  dsimp only [Thg.val] at hs hq ⊢
  go_enter Tryz.func58, Tryz.ntmps58
  go_wp2_with (first
    | (go_at_call 57; refine (inRange_c _ _ _ _).mono ?_; rintro e w' ⟨rfl, rfl⟩)
    | (go_at_call 85; refine (labelOk_c ⟨_, _⟩ _).mono ?_; rintro e w1 ⟨rfl, hb1⟩; obtain ⟨hc1, hf1⟩ := bcell hb1; have hz0 : w.heap.size < w1.heap.size := (by have := hb1.size; (try simp at this); omega))
    | (go_at_call 86; refine (versOk_c ⟨_, ⟨_, _⟩, _, _, sl, qu, _⟩ _ _ _).mono ?_; rintro e w1 ⟨rfl, hb1⟩; obtain ⟨hc1, hf1⟩ := bcell hb1; have hz0 : w.heap.size < w1.heap.size := (by have := hb1.size; (try simp at this); omega))
    | (go_at_call 87; refine (numOk_c ⟨_, ⟨_, _⟩, _, _, sl, qu, _⟩ _ _ _).mono ?_; rintro e w1 ⟨rfl, hb1⟩; obtain ⟨hc1, hf1⟩ := bcell hb1; have hz0 : w.heap.size < w1.heap.size := (by have := hb1.size; (try simp at this); omega))
    | (go_at_call 88; refine (slotsOk_c ⟨_, ⟨_, _⟩, _, _, sl, qu, _⟩ _ _ _ (hs.pure (by (repeat (with_reducible first | exact Below.refl _ _ | refine Below.alloc ?_ ?_ _ | refine below_drewN ?_ _ | refine Below.drew ?_ | refine Below.setCell ?_ ?_ _ | refine Below.trans ?_ (Below.mono (by assumption) ?_))) <;> (first | omega | (simp; try omega))))).mono ?_; rintro e w1 ⟨rfl, hb1⟩; obtain ⟨hc1, hf1⟩ := bcell hb1; have hz0 : w.heap.size < w1.heap.size := (by have := hb1.size; (try simp at this); omega))
    | (go_at_call 89; refine (queueOk_c ⟨_, ⟨_, _⟩, _, _, sl, qu, _⟩ _ _ _ (hq.pure (by (repeat (with_reducible first | exact Below.refl _ _ | refine Below.alloc ?_ ?_ _ | refine below_drewN ?_ _ | refine Below.drew ?_ | refine Below.setCell ?_ ?_ _ | refine Below.trans ?_ (Below.mono (by assumption) ?_))) <;> (first | omega | (simp; try omega))))).mono ?_; rintro e w1 ⟨rfl, hb1⟩; obtain ⟨hc1, hf1⟩ := bcell hb1; have hz0 : w.heap.size < w1.heap.size := (by have := hb1.size; (try simp at this); omega))
    | (go_at_call 90; refine (targetOk_c ⟨_, ⟨_, _⟩, _, _, sl, qu, _⟩ _ _ _).mono ?_; rintro e w1 ⟨rfl, hb1⟩; obtain ⟨hc1, hf1⟩ := bcell hb1; have hz0 : w.heap.size < w1.heap.size := (by have := hb1.size; (try simp at this); omega)))
  all_goals go_ret
  all_goals refine ⟨ret_bool ?_, (by (repeat (with_reducible first | exact Below.refl _ _ | refine Below.alloc ?_ ?_ _ | refine below_drewN ?_ _ | refine Below.drew ?_ | refine Below.setCell ?_ ?_ _ | refine Below.trans ?_ (Below.mono (by assumption) ?_))) <;> (first | omega | (simp; try omega)))⟩
  all_goals simp [thgOk, *]

end Go.Proofs.YtiolplhgpodifaaGreat

/- The small questions about a table are answered as the plain functions say. Conditions: the table lies where its cells say; bounds as they stand. -/
namespace Go.Proofs.YtiolplhgpodifaaGreat
open Go.RowKit Drw
attribute [local go_sem] Lab.val Rgt.val Cal.val Thg.val

theorem ex_idx {ts : List Thg} {i : Int} (h : ex ts i = true) : ∃ k : Nat, i = (k : Int) + 1 ∧ ts[k]? = some (getT ts i) := by
  simp [ex, inR] at h
  obtain ⟨k, hk⟩ := Int.eq_ofNat_of_zero_le (show 0 ≤ i - 1 by omega)
  refine ⟨k, by omega, ?_⟩
  have hlt : k < ts.length := by omega
  simp [getT, hk, hlt]

set_option maxHeartbeats 400000 in
theorem thingExists_c (p : Option Addr) (n cap : Nat) (i : Int) (w : World) :
    Calls Tryz.prog 46 #[.slice p n cap, .int .i64 i] w fun e w' => e = .returned (.bool (inR i 1 n)) ∧ w = w' := by
  go_enter Tryz.func46, Tryz.ntmps46
  go_wp2_with (go_at_call 57; refine (inRange_c _ _ _ _).mono ?_; rintro e w' ⟨rfl, rfl⟩)
  go_ret
  exact ⟨rfl, rfl⟩

set_option maxHeartbeats 400000 in
theorem kindAt_c (p : Option Addr) (cap : Nat) (ts : List Thg) (i k : Int) (w : World) (hT : TabAt w (.slice p ts.length cap) ts) :
    Calls Tryz.prog 59 #[.slice p ts.length cap, .int .i64 i, .int .i64 k] w fun e w' => e = .returned (.bool (kindAt ts i k)) ∧ w = w' := by
  obtain ⟨_, _, h1, hl1, hl2⟩ := hT.len
  cases h1
  unfold maxLen at hl2
  by_cases h : ex ts i = true
  · obtain ⟨j, rfl, hj⟩ := ex_idx h
    obtain ⟨b, o, sv, qv, rfl, hbk, hS, hQ, c0, -⟩ := hT.at j _ hj
    have hlt : j < ts.length := (List.getElem?_eq_some_iff.1 hj).1
    have H := Lib.hid h
    have Hr := Lib.hid (show inR ((j : Int) + 1) 1 ts.length = true from h)
    clear h hj
    go_enter Tryz.func59, Tryz.ntmps59
    go_wp2_with (go_at_call 46; refine (thingExists_c _ _ _ _ _).mono ?_; rw [Hr.out]; rintro e w' ⟨rfl, rfl⟩)
    go_ret
    exact ⟨ret_bool (by simp [kindAt, H.out]), rfl⟩
  · have h' : ex ts i = false := by simpa using h
    have H := Lib.hid h'
    have Hr := Lib.hid (show inR i 1 ts.length = false from h')
    clear h h'
    go_enter Tryz.func59, Tryz.ntmps59
    go_wp2_with (go_at_call 46; refine (thingExists_c _ _ _ _ _).mono ?_; rw [Hr.out]; rintro e w' ⟨rfl, rfl⟩)
    go_ret
    exact ⟨ret_bool (by simp [kindAt, H.out]), rfl⟩

theorem thingExists_q (p : Option Addr) (n cap : Nat) (i : Int) (w : World) {v : Bool} (h : inR i 1 n = v) :
    Calls Tryz.prog 46 #[.slice p n cap, .int .i64 i] w fun e w' => e = .returned (.bool v) ∧ w' = w :=
  (thingExists_c p n cap i w).mono fun _ _ h' => ⟨by rw [h'.1, h], h'.2.symm⟩
theorem l6In_q (n lo hi : Int) (w : World) {v : Bool} (h : inR n lo hi = v) :
    Calls Tryz.prog 39 #[.int .i64 n, .int .i64 lo, .int .i64 hi] w fun e w' => e = .returned (.bool v) ∧ w' = w :=
  (l6In_c n lo hi w).mono fun _ _ h' => ⟨by rw [h'.1, h], h'.2.symm⟩

set_option maxHeartbeats 400000 in
theorem rightLive_c (p : Option Addr) (cap : Nat) (ts : List Thg) (r : Rgt) (w : World) (hT : TabAt w (.slice p ts.length cap) ts) :
    Calls Tryz.prog 45 #[.slice p ts.length cap, r.val] w fun e w' => e = .returned (.bool (live ts r)) ∧ Below w.heap.size w w' := by
  obtain ⟨th, ve, rd, wr, wk⟩ := r
  obtain ⟨_, _, h1, hl1, hl2⟩ := hT.len
  cases h1
  unfold maxLen at hl2
  by_cases h : ex ts th = true
  · obtain ⟨j, rfl, hj⟩ := ex_idx h
    obtain ⟨b, o, sv, qv, rfl, hbk, hS, hQ, c0, c1, c2, c3, -⟩ := hT.at j _ hj
    have hlt : j < ts.length := (List.getElem?_eq_some_iff.1 hj).1
    have H := Lib.hid h
    have Hr := Lib.hid (show inR ((j : Int) + 1) 1 ts.length = true from h)
    clear h hj
    go_enter Tryz.func45, Tryz.ntmps45
    go_wp2
    go_quiet ((go_at_call 46; refine Calls.quiet_of_same (thingExists_q _ _ _ _ _ Hr.out)))
    go_wp2
    go_ret
    exact ⟨ret_bool (by simp [live, H.out]), (by (repeat (with_reducible first | exact Below.refl _ _ | refine Below.alloc ?_ ?_ _ | refine below_drewN ?_ _ | refine Below.drew ?_ | refine Below.setCell ?_ ?_ _ | refine Below.trans ?_ (Below.mono (by assumption) ?_))) <;> (first | omega | (simp; try omega)))⟩
  · have h' : ex ts th = false := by simpa using h
    have H := Lib.hid h'
    have Hr := Lib.hid (show inR th 1 ts.length = false from h')
    clear h h'
    go_enter Tryz.func45, Tryz.ntmps45
    go_wp2
    go_quiet ((go_at_call 46; refine Calls.quiet_of_same (thingExists_q _ _ _ _ _ Hr.out)))
    go_wp2
    go_ret
    exact ⟨ret_bool (by simp [live, H.out]), (by (repeat (with_reducible first | exact Below.refl _ _ | refine Below.alloc ?_ ?_ _ | refine below_drewN ?_ _ | refine Below.drew ?_ | refine Below.setCell ?_ ?_ _ | refine Below.trans ?_ (Below.mono (by assumption) ?_))) <;> (first | omega | (simp; try omega)))⟩

end Go.Proofs.YtiolplhgpodifaaGreat

/- A region that draws its order, by an invariant: whichever operations have come up so far, each that may come next keeps it. So a region is walked once an operation, whatever the number of its orders. Conditions: the edges lead back. -/
namespace Go

theorem count_set_true : ∀ (l : List Bool) (i : Nat), l[i]? = some false → (l.set i true).count false + 1 = l.count false
  | [], i, h => by simp at h
  | x :: l, 0, h => by
    have : x = false := by simpa using h
    subst this
    simp
  | x :: l, i + 1, h => by
    have := count_set_true l i (by simpa using h)
    simp only [List.set_cons_succ, List.count_cons]
    omega

section
variable {P : Program} {ops : Array Oper} {Q : Exit → Act → World → Prop} {md : Region.Mode}

theorem ready_done {listed : Array Bool} (hs : listed.size = ops.size) (hback : ∀ (i : Nat) (o : Oper), ops[i]? = some o → ∀ e ∈ o.after, e.on < i) (hr : Region.ready md ops listed = []) : ∀ n i, i < n → i < ops.size → listed.getD i false = true := by
  intro n
  induction n with
  | zero => intro i h; omega
  | succ n ih =>
    intro i hi hlt
    apply Classical.byContradiction
    intro hf
    have hmem : i ∈ Region.ready md ops listed := by
      refine mem_ready.2 ⟨?_, ops[i], by simp [hlt], fun e he _ => ?_⟩
      · have h2 : i < listed.size := by omega
        simp only [Array.getD_eq_getD_getElem?, Array.getElem?_eq_getElem h2, Option.getD_some] at hf ⊢
        simpa using hf
      · have hb := hback i _ (by simp [hlt]) e he
        exact ih e.on (by omega) (by omega)
    rw [hr] at hmem
    cases hmem

theorem wpAny_inv {I : (Nat → Bool) → Act → World → Prop} (hback : ∀ (i : Nat) (o : Oper), ops[i]? = some o → ∀ e ∈ o.after, e.on < i)
    (step : ∀ (d : Nat → Bool) (i : Nat) (o : Oper) (a : Act) (w : World), ops[i]? = some o → d i = false → (∀ e ∈ o.after, Region.binds md e = true → d e.on = true) → I d a w → wpOp P ops Q i (fun a' w' => I (fun j => d j || decide (j = i)) a' w') a w)
    (fin : ∀ d a w, (∀ i, i < ops.size → d i = true) → I d a w → Q .normal a w) :
    ∀ (fuel : Nat) (listed : Array Bool) (a : Act) (w : World), listed.size = ops.size → listed.toList.count false ≤ fuel → I (fun j => listed.getD j false) a w → wpAny P md ops Q fuel listed a w
  | 0, listed, a, w, hs, hc, hI => by
    have hall : ∀ i, i < ops.size → listed.getD i false = true := by
      intro i hi
      have h0 : listed.toList.count false = 0 := by omega
      rw [List.count_eq_zero] at h0
      have h2 : i < listed.size := by omega
      simp only [Array.getD_eq_getD_getElem?, Array.getElem?_eq_getElem h2, Option.getD_some]
      cases hv : listed[i] with
      | true => rfl
      | false => exact absurd (by rw [← hv]; exact Array.getElem_mem_toList ..) h0
    refine ⟨?_, fin _ _ _ hall hI⟩
    apply List.eq_nil_iff_forall_not_mem.2
    intro i hi
    obtain ⟨h1, o, ho, -⟩ := mem_ready.1 hi
    have hlt : i < ops.size := (Array.getElem?_eq_some_iff.1 ho).1
    have h2 : i < listed.size := by omega
    have := hall i hlt
    simp only [Array.getD_eq_getD_getElem?, Array.getElem?_eq_getElem h2, Option.getD_some] at this h1
    rw [h1] at this; cases this
  | fuel + 1, listed, a, w, hs, hc, hI => by
    refine ⟨fun hr => fin _ _ _ (fun i hi => ready_done hs hback hr (i + 1) i (by omega) hi) hI, fun i hi => ?_⟩
    obtain ⟨h1, o, ho, h3⟩ := mem_ready.1 hi
    have hlt : i < ops.size := (Array.getElem?_eq_some_iff.1 ho).1
    have h2 : i < listed.size := by omega
    have hf : listed[i]? = some false := by
      simp only [Array.getD_eq_getD_getElem?, Array.getElem?_eq_getElem h2, Option.getD_some] at h1 ⊢
      rw [h1]
    refine wpOp_mono (fun a' w' h => ?_) (step (fun j => listed.getD j false) i o a w ho (by simp [Array.getD_eq_getD_getElem?, hf]) h3 hI)
    refine wpAny_inv hback step fin fuel _ a' w' (by simpa using hs) ?_ ?_
    · have := count_set_true listed.toList i (by simpa using hf)
      simp only [Array.toList_setIfInBounds]
      omega
    · have e : (fun j => (listed.setIfInBounds i true).getD j false) = (fun j => listed.getD j false || decide (j = i)) := by
        funext j
        simp only [Array.getD_eq_getD_getElem?, Array.getElem?_setIfInBounds]
        by_cases hj : i = j
        · subst hj; simp [h2]
        · have hj' : ¬ j = i := fun e => hj e.symm
          simp [hj, hj']
      rw [e]; exact h

/-- One step an operation, in the order of the text. -/
def OpSteps (P : Program) (md : Region.Mode) (ops : Array Oper) (Q : Exit → Act → World → Prop) (I : (Nat → Bool) → Act → World → Prop) : Nat → List Oper → Prop
  | _, [] => True
  | k, o :: l => (∀ d a w, d k = false → (∀ e ∈ o.after, Region.binds md e = true → d e.on = true) → I d a w → ∀ K : Act → World → Prop, (∀ a' w', I (fun j => d j || decide (j = k)) a' w' → K a' w') →
      if Region.wanted o (yielded ops a.tmps) = true then Oper.wp P o a w K Q else K (a.put o.dst undef) w) ∧ OpSteps P md ops Q I (k + 1) l
theorem OpSteps.at {I : (Nat → Bool) → Act → World → Prop} : ∀ (l : List Oper) (k i : Nat) (o : Oper), OpSteps P md ops Q I k l → l[i]? = some o → ∀ d a w, d (k + i) = false → (∀ e ∈ o.after, Region.binds md e = true → d e.on = true) → I d a w → ∀ K : Act → World → Prop, (∀ a' w', I (fun j => d j || decide (j = k + i)) a' w' → K a' w') →
      if Region.wanted o (yielded ops a.tmps) = true then Oper.wp P o a w K Q else K (a.put o.dst undef) w
  | [], _, _, _, _, h => by simp at h
  | x :: l, k, 0, o, hS, h => by
    have : x = o := by simpa using h
    subst this
    exact hS.1
  | x :: l, k, i + 1, o, hS, h => by
    have := OpSteps.at l (k + 1) i o hS.2 (by simpa using h)
    rw [show k + 1 + i = k + (i + 1) by omega] at this
    exact this

/-- Each operation waits only for such as stand ahead of it. -/
def backB : Nat → List Oper → Bool
  | _, [] => true
  | k, o :: l => o.after.all (fun e => decide (e.on < k)) && backB (k + 1) l
theorem backB_at : ∀ (l : List Oper) (k i : Nat) (o : Oper), backB k l = true → l[i]? = some o → ∀ e ∈ o.after, e.on < k + i
  | [], _, _, _, _, h => by simp at h
  | x :: l, k, 0, o, hb, h => by
    have : x = o := by simpa using h
    subst this
    simp only [backB, Bool.and_eq_true, Array.all_eq_true_iff_forall_mem, decide_eq_true_eq] at hb
    exact hb.1
  | x :: l, k, i + 1, o, hb, h => by
    simp only [backB, Bool.and_eq_true] at hb
    have := backB_at l (k + 1) i o hb.2 (by simpa using h)
    intro e he
    have := this e he
    omega

theorem wp_region_inv {id : Nat} {l : List Oper} {a : Act} {w : World} (I : (Nat → Bool) → Act → World → Prop) (hm : P.follows .mixedOrders = true) (hb : backB 0 l = true)
    (h0 : I (fun _ => false) a w.drew) (step : OpSteps P .any l.toArray Q I 0 l) (fin : ∀ d a w, (∀ i, i < l.length → d i = true) → I d a w → Q .normal a w) : (Code.region id l.toArray true).wp P Q a w := by
  refine wp_region_any hm ?_
  refine wpAny_inv (I := I) (fun i o ho e he => by have := backB_at l 0 i o hb (by simpa using ho) e he; omega) (fun d i o a w ho hd hdep hI => wpOp_step ho fun K hK => ?_) (fun d a w hd hI => fin d a w (by simpa using hd) hI) _ _ _ _ (by simp) (by simp) ?_
  · have := OpSteps.at l 0 i o step (by simpa using ho) d a w (by simpa using hd) hdep hI K
    simp only [Nat.zero_add] at this
    exact this hK
  · have e : (fun j => (Array.replicate l.toArray.size false).getD j false) = (fun _ => false) := by
      funext j
      simp only [Array.getD_eq_getD_getElem?, Array.getElem?_replicate]
      split <;> rfl
    rw [e]; exact h0
end
end Go
