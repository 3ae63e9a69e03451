/- The functions on one thing return what their plain functions say. Conditions: the thing's rights and numbers lie where its cells say. -/
import Derived.Test.YtiolplhgpodifaaGreatB
import Derived.Deep.DeepCutAuto
import Derived.LoopTactic
import Derived.Deep.MidRow
set_option linter.unusedVariables false
set_option linter.unusedSimpArgs false
namespace Go.Proofs.YtiolplhgpodifaaGreat
open Go.RowKit Drw
attribute [local go_sem] Lab.val Rgt.val Cal.val Thg.val

set_option maxHeartbeats 400000 in
theorem numOk_c (t : Thg) (sv qv : Value) (w : World) :
    Calls Tryz.prog 87 #[t.val sv qv] w fun e w' => e = .returned (.bool (numOk t)) ∧ Below w.heap.size w w' := by
  obtain ⟨k, ⟨s, v⟩, ve, nu, sl, qu, tg⟩ := t
  go_enter Tryz.func87, Tryz.ntmps87
  go_wp2_with (go_at_call 57; refine (inRange_c _ _ _ _).mono ?_; rintro e w' ⟨rfl, rfl⟩)
  all_goals go_ret
  all_goals refine ⟨ret_bool ?_, (by (repeat (with_reducible first | exact Below.refl _ _ | refine Below.alloc ?_ ?_ _ | refine below_drewN ?_ _ | refine Below.drew ?_ | refine Below.setCell ?_ ?_ _ | refine Below.trans ?_ (Below.mono (by assumption) ?_))) <;> (first | omega | (simp; try omega)))⟩
  all_goals grind [numOk]

set_option maxHeartbeats 400000 in
theorem versOk_c (t : Thg) (sv qv : Value) (w : World) :
    Calls Tryz.prog 86 #[t.val sv qv] w fun e w' => e = .returned (.bool (versOk t)) ∧ Below w.heap.size w w' := by
  obtain ⟨k, ⟨s, v⟩, ve, nu, sl, qu, tg⟩ := t
  go_enter Tryz.func86, Tryz.ntmps86
  go_wp2_with (go_at_call 57; refine (inRange_c _ _ _ _).mono ?_; rintro e w' ⟨rfl, rfl⟩)
  all_goals go_ret
  all_goals refine ⟨ret_bool ?_, (by (repeat (with_reducible first | exact Below.refl _ _ | refine Below.alloc ?_ ?_ _ | refine below_drewN ?_ _ | refine Below.drew ?_ | refine Below.setCell ?_ ?_ _ | refine Below.trans ?_ (Below.mono (by assumption) ?_))) <;> (first | omega | (simp; try omega)))⟩
  all_goals grind [versOk]

set_option maxHeartbeats 400000 in
theorem targetOk_c (t : Thg) (sv qv : Value) (w : World) :
    Calls Tryz.prog 90 #[t.val sv qv] w fun e w' => e = .returned (.bool (targetOk t)) ∧ Below w.heap.size w w' := by
  obtain ⟨k, ⟨s, v⟩, ve, nu, sl, qu, tg⟩ := t
  go_enter Tryz.func90, Tryz.ntmps90
  go_wp2_with (go_at_call 57; refine (inRange_c _ _ _ _).mono ?_; rintro e w' ⟨rfl, rfl⟩)
  all_goals go_ret
  all_goals refine ⟨ret_bool ?_, (by (repeat (with_reducible first | exact Below.refl _ _ | refine Below.alloc ?_ ?_ _ | refine below_drewN ?_ _ | refine Below.drew ?_ | refine Below.setCell ?_ ?_ _ | refine Below.trans ?_ (Below.mono (by assumption) ?_))) <;> (first | omega | (simp; try omega)))⟩
  all_goals grind [targetOk]

theorem all_take_succ {α : Type} (p : α → Bool) (xs : List α) (k : Nat) (h : k < xs.length) : (xs.take (k + 1)).all p = ((xs.take k).all p && p xs[k]) := by
  rw [List.take_succ_eq_append_getElem h, List.all_append]; simp

set_option maxHeartbeats 1000000 in
theorem queueOk_c (t : Thg) (sv qv : Value) (w : World) (hq : IntsAt w qv t.queue) :
    Calls Tryz.prog 89 #[t.val sv qv] w fun e w' => e = .returned (.bool (queueOk t)) ∧ Below w.heap.size w w' := by
  obtain ⟨k, ⟨s, v⟩, ve, nu, sl, qu, tg⟩ := t
  dsimp only [Thg.val] at hq ⊢
  obtain ⟨p, cap, rfl, hl1, hl2⟩ := hq.len
  unfold maxLen at hl2
  by_cases h4 : k = 4
  · by_cases h3 : qu.length ≤ 3
    · subst h4
      go_enter Tryz.func89, Tryz.ntmps89
      go_wp2
      go_loop [4, 19] (fun _ i => ∃ j : Nat, j ≤ qu.length ∧ i = .int .i64 j ∧ (qu.take j).all (fun n => inR n 0 99) = true) (fun _ i => qu.length - (intOf i).toNat)
      case atStart => exact ⟨0, Nat.zero_le _, rfl, by simp⟩
      case round =>
        obtain ⟨j, hj, rfl, hall⟩ := hrel
        have Hall := Lib.hid hall
        clear hall
        by_cases hlt : j < qu.length
        · obtain ⟨b, o, rfl, hbk, hc⟩ := hq.at j qu[j] (by simp [hlt])
          go_wp2_with (go_at_call 57; refine (inRange_c _ _ _ _).mono ?_; rintro e w' ⟨rfl, rfl⟩)
          · go_ret
            refine ⟨ret_bool ?_, (by (repeat (with_reducible first | exact Below.refl _ _ | refine Below.alloc ?_ ?_ _ | refine below_drewN ?_ _ | refine Below.drew ?_ | refine Below.setCell ?_ ?_ _ | refine Below.trans ?_ (Below.mono (by assumption) ?_))) <;> (first | omega | (simp; try omega)))⟩
            have hb : (!inR qu[j] 0 99) = true := by assumption
            simp [queueOk, h3]
            exact ⟨qu[j], by simp, by simpa using hb⟩
          · go_round
            case rel =>
              have hb : (!inR qu[j] 0 99) = false := by assumption
              exact ⟨j + 1, by omega, by go_num, by rw [all_take_succ _ _ _ hlt, Hall.out]; simpa using hb⟩
            case measure => simp [intOf]; omega
        · go_wp2
          go_ret
          refine ⟨ret_bool ?_, (by (repeat (with_reducible first | exact Below.refl _ _ | refine Below.alloc ?_ ?_ _ | refine below_drewN ?_ _ | refine Below.drew ?_ | refine Below.setCell ?_ ?_ _ | refine Below.trans ?_ (Below.mono (by assumption) ?_))) <;> (first | omega | (simp; try omega)))⟩
          have e : j = qu.length := by omega
          have := Hall.out
          rw [e, List.take_of_length_le (Nat.le_refl _)] at this
          simp [queueOk, h3, this]
    · go_enter Tryz.func89, Tryz.ntmps89
      go_wp2
      go_ret
      refine ⟨ret_bool ?_, (by (repeat (with_reducible first | exact Below.refl _ _ | refine Below.alloc ?_ ?_ _ | refine below_drewN ?_ _ | refine Below.drew ?_ | refine Below.setCell ?_ ?_ _ | refine Below.trans ?_ (Below.mono (by assumption) ?_))) <;> (first | omega | (simp; try omega)))⟩
      simp [queueOk, h3, h4]
  · go_enter Tryz.func89, Tryz.ntmps89
    go_wp2
    go_ret
    refine ⟨ret_bool ?_, (by (repeat (with_reducible first | exact Below.refl _ _ | refine Below.alloc ?_ ?_ _ | refine below_drewN ?_ _ | refine Below.drew ?_ | refine Below.setCell ?_ ?_ _ | refine Below.trans ?_ (Below.mono (by assumption) ?_))) <;> (first | omega | (simp; try omega)))⟩
    rw [Bool.eq_iff_iff]
    simp [queueOk, h4]

theorem four {α : Type} {l : List α} (h : l.length = 4) : ∃ a b c d, l = [a, b, c, d] := by
  match l, h with
  | [a, b, c, d], _ => exact ⟨a, b, c, d, rfl⟩

theorem arrayAt4 (w : World) (a : Addr) (c : Nat) : (Instr.arrayAt 134 (.slice (some a) 4 c)).run Tryz.prog w = .ok (.pointer (some a)) w := by
  simp [Instr.arrayAt, run_underlying Tryz.underlying134]

set_option maxRecDepth 100000 in
set_option maxHeartbeats 1000000 in
theorem slotsOk_yes (t : Thg) (sv qv : Value) (w : World) (hs : RgtsAt w sv t.slots) (hk : t.kind = 2 ∨ t.kind = 3) (h4 : t.slots.length = 4) :
    Calls Tryz.prog 88 #[t.val sv qv] w fun e w' => e = .returned (.bool (slotsOk t)) ∧ Below w.heap.size w w' := by
  obtain ⟨k, ⟨s, v⟩, ve, nu, sl, qu, tg⟩ := t
  dsimp only [Thg.val] at hs hk h4 ⊢
  obtain ⟨r0, r1, r2, r3, rfl⟩ := four h4
  obtain ⟨p, cap, rfl, hl1, hl2⟩ := hs.len
  unfold maxLen at hl2
  simp only [List.length_cons, List.length_nil] at hl1 h4
  obtain ⟨b, o, rfl, hbk, c0, c1, c2, c3, c4⟩ := hs.at 0 r0 rfl
  obtain ⟨b', o', h', _, c5, c6, c7, c8, c9⟩ := hs.at 1 r1 rfl
  cases h'
  obtain ⟨b', o', h', _, d0, d1, d2, d3, d4⟩ := hs.at 2 r2 rfl
  cases h'
  obtain ⟨b', o', h', _, d5, d6, d7, d8, d9⟩ := hs.at 3 r3 rfl
  cases h'
  simp only [Nat.reduceMul, Nat.add_zero, Nat.add_assoc, Nat.reduceAdd] at c0 c1 c2 c3 c4 c5 c6 c7 c8 c9 d0 d1 d2 d3 d4 d5 d6 d7 d8 d9
  clear h4
  have hlen : (4 : Nat) ≤ cap := hl1
  have hrg : w.rangeAt b o [.int .i64 r0.thing, .int .i64 r0.vers, .bool r0.rd, .bool r0.wr, .bool r0.wk, .int .i64 r1.thing, .int .i64 r1.vers, .bool r1.rd, .bool r1.wr, .bool r1.wk, .int .i64 r2.thing, .int .i64 r2.vers, .bool r2.rd, .bool r2.wr, .bool r2.wk, .int .i64 r3.thing, .int .i64 r3.vers, .bool r3.rd, .bool r3.wr, .bool r3.wk] := by
    intro j v hj
    have hj' : j < 20 := (List.getElem?_eq_some_iff.1 hj).1
    have : j = 0 ∨ j = 1 ∨ j = 2 ∨ j = 3 ∨ j = 4 ∨ j = 5 ∨ j = 6 ∨ j = 7 ∨ j = 8 ∨ j = 9 ∨ j = 10 ∨ j = 11 ∨ j = 12 ∨ j = 13 ∨ j = 14 ∨ j = 15 ∨ j = 16 ∨ j = 17 ∨ j = 18 ∨ j = 19 := by omega
    rcases this with rfl | rfl | rfl | rfl | rfl | rfl | rfl | rfl | rfl | rfl | rfl | rfl | rfl | rfl | rfl | rfl | rfl | rfl | rfl | rfl <;> (cases hj; assumption)
  clear c0 c1 c2 c3 c4 c5 c6 c7 c8 c9 d0 d1 d2 d3 d4 d5 d6 d7 d8 d9
  have ha := arrayAt4
  have i0 : ∀ (w : World), (Instr.index 134 (.agg #[.int .i64 r0.thing, .int .i64 r0.vers, .bool r0.rd, .bool r0.wr, .bool r0.wk, .int .i64 r1.thing, .int .i64 r1.vers, .bool r1.rd, .bool r1.wr, .bool r1.wk, .int .i64 r2.thing, .int .i64 r2.vers, .bool r2.rd, .bool r2.wr, .bool r2.wk, .int .i64 r3.thing, .int .i64 r3.vers, .bool r3.rd, .bool r3.wr, .bool r3.wk]) (.int .i64 0)).run Tryz.prog w = .ok (.agg #[.int .i64 r0.thing, .int .i64 r0.vers, .bool r0.rd, .bool r0.wr, .bool r0.wk]) w := fun _ => by kernel_rfl
  have i1 : ∀ (w : World), (Instr.index 134 (.agg #[.int .i64 r0.thing, .int .i64 r0.vers, .bool r0.rd, .bool r0.wr, .bool r0.wk, .int .i64 r1.thing, .int .i64 r1.vers, .bool r1.rd, .bool r1.wr, .bool r1.wk, .int .i64 r2.thing, .int .i64 r2.vers, .bool r2.rd, .bool r2.wr, .bool r2.wk, .int .i64 r3.thing, .int .i64 r3.vers, .bool r3.rd, .bool r3.wr, .bool r3.wk]) (.int .i64 1)).run Tryz.prog w = .ok (.agg #[.int .i64 r1.thing, .int .i64 r1.vers, .bool r1.rd, .bool r1.wr, .bool r1.wk]) w := fun _ => by kernel_rfl
  have i2 : ∀ (w : World), (Instr.index 134 (.agg #[.int .i64 r0.thing, .int .i64 r0.vers, .bool r0.rd, .bool r0.wr, .bool r0.wk, .int .i64 r1.thing, .int .i64 r1.vers, .bool r1.rd, .bool r1.wr, .bool r1.wk, .int .i64 r2.thing, .int .i64 r2.vers, .bool r2.rd, .bool r2.wr, .bool r2.wk, .int .i64 r3.thing, .int .i64 r3.vers, .bool r3.rd, .bool r3.wr, .bool r3.wk]) (.int .i64 2)).run Tryz.prog w = .ok (.agg #[.int .i64 r2.thing, .int .i64 r2.vers, .bool r2.rd, .bool r2.wr, .bool r2.wk]) w := fun _ => by kernel_rfl
  have i3 : ∀ (w : World), (Instr.index 134 (.agg #[.int .i64 r0.thing, .int .i64 r0.vers, .bool r0.rd, .bool r0.wr, .bool r0.wk, .int .i64 r1.thing, .int .i64 r1.vers, .bool r1.rd, .bool r1.wr, .bool r1.wk, .int .i64 r2.thing, .int .i64 r2.vers, .bool r2.rd, .bool r2.wr, .bool r2.wk, .int .i64 r3.thing, .int .i64 r3.vers, .bool r3.rd, .bool r3.wr, .bool r3.wk]) (.int .i64 3)).run Tryz.prog w = .ok (.agg #[.int .i64 r3.thing, .int .i64 r3.vers, .bool r3.rd, .bool r3.wr, .bool r3.wk]) w := fun _ => by kernel_rfl
  rcases hk with rfl | rfl
  all_goals
    go_enter Tryz.func88, Tryz.ntmps88
    go_wp2_with (refine wpList_load_mid rfl 134 _ rfl b o rfl [.int .i64 r0.thing, .int .i64 r0.vers, .bool r0.rd, .bool r0.wr, .bool r0.wk, .int .i64 r1.thing, .int .i64 r1.vers, .bool r1.rd, .bool r1.wr, .bool r1.wk, .int .i64 r2.thing, .int .i64 r2.vers, .bool r2.rd, .bool r2.wr, .bool r2.wk, .int .i64 r3.thing, .int .i64 r3.vers, .bool r3.rd, .bool r3.wr, .bool r3.wk] _ (World.rangeAt_alloc hrg _) Tryz.underlying134 rfl (by kernel_rfl) ?_)
    go_loopw [25] (fun i wr => ∃ j : Nat, j ≤ 4 ∧ i = .int .i64 j ∧ Below w.heap.size w wr ∧ ([r0, r1, r2, r3].take j).all rgtOk = true) (fun i _ => 4 - (intOf i).toNat)
    case atStart => exact ⟨0, by omega, rfl, (by (repeat (with_reducible first | exact Below.refl _ _ | refine Below.alloc ?_ ?_ _ | refine below_drewN ?_ _ | refine Below.drew ?_ | refine Below.setCell ?_ ?_ _ | refine Below.trans ?_ (Below.mono (by assumption) ?_))) <;> (first | omega | (simp; try omega))), rfl⟩
    case round =>
      obtain ⟨j, hj, rfl, hB, hall⟩ := hrel
      have Hall := Lib.hid hall
      clear hall
      have hj : j = 0 ∨ j = 1 ∨ j = 2 ∨ j = 3 ∨ j = 4 := by omega
      have hle := hB.size
      rcases hj with rfl | rfl | rfl | rfl | rfl
      · go_wp2_with (go_at_call 40; refine (rightOk_c ⟨_, _, _, _, _⟩ _).mono ?_; rintro e w1 ⟨rfl, hb1⟩)
        · go_ret
          have hb : rgtOk r0 = false := by have h := ‹(!rgtOk _) = true›; simpa using h
          exact ⟨ret_bool (by simp [slotsOk, hb]), (by (repeat (with_reducible first | exact Below.refl _ _ | refine Below.alloc ?_ ?_ _ | refine below_drewN ?_ _ | refine Below.drew ?_ | refine Below.setCell ?_ ?_ _ | refine Below.trans ?_ (Below.mono (by assumption) ?_))) <;> (first | omega | (simp; try omega)))⟩
        · have hb : rgtOk r0 = true := by have h := ‹(!rgtOk _) = false›; simpa using h
          exact ⟨⟨1, by omega, rfl, (by (repeat (with_reducible first | exact Below.refl _ _ | refine Below.alloc ?_ ?_ _ | refine below_drewN ?_ _ | refine Below.drew ?_ | refine Below.setCell ?_ ?_ _ | refine Below.trans ?_ (Below.mono (by assumption) ?_))) <;> (first | omega | (simp; try omega))), by simp [hb]⟩, by simp [intOf]⟩
      · go_wp2_with (go_at_call 40; refine (rightOk_c ⟨_, _, _, _, _⟩ _).mono ?_; rintro e w1 ⟨rfl, hb1⟩)
        · go_ret
          have hb : rgtOk r1 = false := by have h := ‹(!rgtOk _) = true›; simpa using h
          exact ⟨ret_bool (by simp [slotsOk, hb]), (by (repeat (with_reducible first | exact Below.refl _ _ | refine Below.alloc ?_ ?_ _ | refine below_drewN ?_ _ | refine Below.drew ?_ | refine Below.setCell ?_ ?_ _ | refine Below.trans ?_ (Below.mono (by assumption) ?_))) <;> (first | omega | (simp; try omega)))⟩
        · have hb : rgtOk r1 = true := by have h := ‹(!rgtOk _) = false›; simpa using h
          have := Hall.out
          exact ⟨⟨2, by omega, rfl, (by (repeat (with_reducible first | exact Below.refl _ _ | refine Below.alloc ?_ ?_ _ | refine below_drewN ?_ _ | refine Below.drew ?_ | refine Below.setCell ?_ ?_ _ | refine Below.trans ?_ (Below.mono (by assumption) ?_))) <;> (first | omega | (simp; try omega))), by simpa [hb] using this⟩, by simp [intOf]⟩
      · go_wp2_with (go_at_call 40; refine (rightOk_c ⟨_, _, _, _, _⟩ _).mono ?_; rintro e w1 ⟨rfl, hb1⟩)
        · go_ret
          have hb : rgtOk r2 = false := by have h := ‹(!rgtOk _) = true›; simpa using h
          exact ⟨ret_bool (by simp [slotsOk, hb]), (by (repeat (with_reducible first | exact Below.refl _ _ | refine Below.alloc ?_ ?_ _ | refine below_drewN ?_ _ | refine Below.drew ?_ | refine Below.setCell ?_ ?_ _ | refine Below.trans ?_ (Below.mono (by assumption) ?_))) <;> (first | omega | (simp; try omega)))⟩
        · have hb : rgtOk r2 = true := by have h := ‹(!rgtOk _) = false›; simpa using h
          have := Hall.out
          exact ⟨⟨3, by omega, rfl, (by (repeat (with_reducible first | exact Below.refl _ _ | refine Below.alloc ?_ ?_ _ | refine below_drewN ?_ _ | refine Below.drew ?_ | refine Below.setCell ?_ ?_ _ | refine Below.trans ?_ (Below.mono (by assumption) ?_))) <;> (first | omega | (simp; try omega))), by simpa [hb] using this⟩, by simp [intOf]⟩
      · go_wp2_with (go_at_call 40; refine (rightOk_c ⟨_, _, _, _, _⟩ _).mono ?_; rintro e w1 ⟨rfl, hb1⟩)
        · go_ret
          have hb : rgtOk r3 = false := by have h := ‹(!rgtOk _) = true›; simpa using h
          exact ⟨ret_bool (by simp [slotsOk, hb]), (by (repeat (with_reducible first | exact Below.refl _ _ | refine Below.alloc ?_ ?_ _ | refine below_drewN ?_ _ | refine Below.drew ?_ | refine Below.setCell ?_ ?_ _ | refine Below.trans ?_ (Below.mono (by assumption) ?_))) <;> (first | omega | (simp; try omega)))⟩
        · have hb : rgtOk r3 = true := by have h := ‹(!rgtOk _) = false›; simpa using h
          have := Hall.out
          exact ⟨⟨4, by omega, rfl, (by (repeat (with_reducible first | exact Below.refl _ _ | refine Below.alloc ?_ ?_ _ | refine below_drewN ?_ _ | refine Below.drew ?_ | refine Below.setCell ?_ ?_ _ | refine Below.trans ?_ (Below.mono (by assumption) ?_))) <;> (first | omega | (simp; try omega))), by simpa [hb] using this⟩, by simp [intOf]⟩
      · go_wp2
        go_ret
        have := Hall.out
        exact ⟨ret_bool (by simpa [slotsOk] using this), hB⟩

set_option maxRecDepth 100000 in
set_option maxHeartbeats 1000000 in
theorem slotsOk_no (t : Thg) (sv qv : Value) (w : World) (hs : RgtsAt w sv t.slots) (h : ¬ ((t.kind = 2 ∨ t.kind = 3) ∧ t.slots.length = 4)) :
    Calls Tryz.prog 88 #[t.val sv qv] w fun e w' => e = .returned (.bool (slotsOk t)) ∧ Below w.heap.size w w' := by
  obtain ⟨k, ⟨s, v⟩, ve, nu, sl, qu, tg⟩ := t
  dsimp only [Thg.val] at hs h ⊢
  obtain ⟨p, cap, rfl, hl1, hl2⟩ := hs.len
  unfold maxLen at hl2
  by_cases hk : k = 2 ∨ k = 3
  · have h4 : ((sl.length : Int) != 4) = true := by have : ¬ sl.length = 4 := fun e => h ⟨hk, e⟩; simp; omega
    have h4' : ¬ sl.length = 4 := fun e => h ⟨hk, e⟩
    clear h
    rcases hk with rfl | rfl
    all_goals
      go_enter Tryz.func88, Tryz.ntmps88
      go_wp2
      all_goals go_ret
      all_goals refine ⟨ret_bool ?_, (by (repeat (with_reducible first | exact Below.refl _ _ | refine Below.alloc ?_ ?_ _ | refine below_drewN ?_ _ | refine Below.drew ?_ | refine Below.setCell ?_ ?_ _ | refine Below.trans ?_ (Below.mono (by assumption) ?_))) <;> (first | omega | (simp; try omega)))⟩
      all_goals (simp [slotsOk, h4'])
  · have h2 : (k != 2) = true := by simp; omega
    have h3 : (k != 3) = true := by simp; omega
    have hk2 : ¬ k = 2 := by omega
    have hk3 : ¬ k = 3 := by omega
    clear h
    go_enter Tryz.func88, Tryz.ntmps88
    go_wp2
    all_goals go_ret
    all_goals refine ⟨ret_bool ?_, (by (repeat (with_reducible first | exact Below.refl _ _ | refine Below.alloc ?_ ?_ _ | refine below_drewN ?_ _ | refine Below.drew ?_ | refine Below.setCell ?_ ?_ _ | refine Below.trans ?_ (Below.mono (by assumption) ?_))) <;> (first | omega | (simp; try omega)))⟩
    all_goals (rw [Bool.eq_iff_iff]; simp [slotsOk, hk2, hk3])

theorem slotsOk_c (t : Thg) (sv qv : Value) (w : World) (hs : RgtsAt w sv t.slots) :
    Calls Tryz.prog 88 #[t.val sv qv] w fun e w' => e = .returned (.bool (slotsOk t)) ∧ Below w.heap.size w w' := by
  by_cases h : (t.kind = 2 ∨ t.kind = 3) ∧ t.slots.length = 4
  · exact slotsOk_yes t sv qv w hs h.1 h.2
  · exact slotsOk_no t sv qv w hs h

set_option maxRecDepth 100000 in
set_option maxHeartbeats 1000000 in
theorem thingOk_c (t : Thg) (sv qv : Value) (w : World) (hs : RgtsAt w sv t.slots) (hq : IntsAt w qv t.queue) :
    Calls Tryz.prog 58 #[t.val sv qv] w fun e w' => e = .returned (.bool (thgOk t)) ∧ Below w.heap.size w w' := by
  obtain ⟨k, ⟨s, v⟩, ve, nu, sl, qu, tg⟩ := t
  dsimp only [Thg.val] at hs hq ⊢
  go_enter Tryz.func58, Tryz.ntmps58
  go_wp2_with (first
    | (go_at_call 57; refine (inRange_c _ _ _ _).mono ?_; rintro e w' ⟨rfl, rfl⟩)
    | (go_at_call 85; refine (labelOk_c ⟨_, _⟩ _).mono ?_; rintro e w1 ⟨rfl, hb1⟩; obtain ⟨hc1, hf1⟩ := bcell hb1; have hz0 : w.heap.size < w1.heap.size := (by have := hb1.size; (try simp at this); omega))
    | (go_at_call 86; refine (versOk_c ⟨_, ⟨_, _⟩, _, _, sl, qu, _⟩ _ _ _).mono ?_; rintro e w1 ⟨rfl, hb1⟩; obtain ⟨hc1, hf1⟩ := bcell hb1; have hz0 : w.heap.size < w1.heap.size := (by have := hb1.size; (try simp at this); omega))
    | (go_at_call 87; refine (numOk_c ⟨_, ⟨_, _⟩, _, _, sl, qu, _⟩ _ _ _).mono ?_; rintro e w1 ⟨rfl, hb1⟩; obtain ⟨hc1, hf1⟩ := bcell hb1; have hz0 : w.heap.size < w1.heap.size := (by have := hb1.size; (try simp at this); omega))
    | (go_at_call 88; refine (slotsOk_c ⟨_, ⟨_, _⟩, _, _, sl, qu, _⟩ _ _ _ (hs.pure (by (repeat (with_reducible first | exact Below.refl _ _ | refine Below.alloc ?_ ?_ _ | refine below_drewN ?_ _ | refine Below.drew ?_ | refine Below.setCell ?_ ?_ _ | refine Below.trans ?_ (Below.mono (by assumption) ?_))) <;> (first | omega | (simp; try omega))))).mono ?_; rintro e w1 ⟨rfl, hb1⟩; obtain ⟨hc1, hf1⟩ := bcell hb1; have hz0 : w.heap.size < w1.heap.size := (by have := hb1.size; (try simp at this); omega))
    | (go_at_call 89; refine (queueOk_c ⟨_, ⟨_, _⟩, _, _, sl, qu, _⟩ _ _ _ (hq.pure (by (repeat (with_reducible first | exact Below.refl _ _ | refine Below.alloc ?_ ?_ _ | refine below_drewN ?_ _ | refine Below.drew ?_ | refine Below.setCell ?_ ?_ _ | refine Below.trans ?_ (Below.mono (by assumption) ?_))) <;> (first | omega | (simp; try omega))))).mono ?_; rintro e w1 ⟨rfl, hb1⟩; obtain ⟨hc1, hf1⟩ := bcell hb1; have hz0 : w.heap.size < w1.heap.size := (by have := hb1.size; (try simp at this); omega))
    | (go_at_call 90; refine (targetOk_c ⟨_, ⟨_, _⟩, _, _, sl, qu, _⟩ _ _ _).mono ?_; rintro e w1 ⟨rfl, hb1⟩; obtain ⟨hc1, hf1⟩ := bcell hb1; have hz0 : w.heap.size < w1.heap.size := (by have := hb1.size; (try simp at this); omega)))
  all_goals go_ret
  all_goals refine ⟨ret_bool ?_, (by (repeat (with_reducible first | exact Below.refl _ _ | refine Below.alloc ?_ ?_ _ | refine below_drewN ?_ _ | refine Below.drew ?_ | refine Below.setCell ?_ ?_ _ | refine Below.trans ?_ (Below.mono (by assumption) ?_))) <;> (first | omega | (simp; try omega)))⟩
  all_goals simp [thgOk, *]

end Go.Proofs.YtiolplhgpodifaaGreat
