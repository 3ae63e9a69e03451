/- impl's ring: a queue of at most three numbers. Conditions: the ring's cells are as said. -/
import Derived.Test.YtghbphdipdjekaaGreatDoorV
import Derived.Deep.RegionHeld3
import Derived.Deep.QuietTactic
import Derived.BigQuiet
import Derived.Deep.DeepCutAuto
import Derived.IntWalk
set_option linter.unusedVariables false
set_option linter.unusedSimpArgs false
namespace Go.Proofs.YtghbphdipdjekaaGreatDoor
open Go.RowKit Drw
attribute [local go_sem] Lab.val Rgt.val Cal.val Thg.val

/-- Three numbers, the first, and how many. -/
def RingAt (w : World) (R : Nat) (u0 u1 u2 f s : Int) : Prop := (w.cell? ⟨R, 0, none⟩ = some (.int .i64 u0) ∧ w.cell? ⟨R, 1, none⟩ = some (.int .i64 u1) ∧ w.cell? ⟨R, 2, none⟩ = some (.int .i64 u2) ∧ w.cell? ⟨R, 3, none⟩ = some (.int .i64 f) ∧ w.cell? ⟨R, 4, none⟩ = some (.int .i64 s)) ∧ ∀ j, w.frozen? ⟨R, j, none⟩ = false
theorem RingAt.chg {w w' : World} {S : Nat → Prop} {R : Nat} {u0 u1 u2 f s : Int} (h : RingAt w R u0 u1 u2 f s) (hg : Chg S w w') (hS : ¬ S R) : RingAt w' R u0 u1 u2 f s := by
  obtain ⟨⟨h0, h1, h2, h3, h4⟩, hf⟩ := h
  exact ⟨⟨hg.cell h0 hS, hg.cell h1 hS, hg.cell h2 hS, hg.cell h3 hS, hg.cell h4 hS⟩, fun j => (World.frozen?_of_block (w := w) (hg.block R (World.block_lt_of_cell? w _ h0) hS)).trans (hf j)⟩

set_option maxHeartbeats 400000 in
theorem push_full (R : Nat) (u0 u1 u2 f k : Int) (w : World) (h : RingAt w R u0 u1 u2 f 3) :
    Calls Tryz.prog 159 #[.pointer (some ⟨R, 0, none⟩), .int .i64 k] w fun e w' => e = .returned (.bool false) ∧ w' = w := by
  obtain ⟨⟨h0, h1, h2, h3, h4⟩, hf⟩ := h
  go_enter Tryz.func159, Tryz.ntmps159
  go_wp2
  go_ret
  exact ⟨rfl, rfl⟩

set_option maxRecDepth 100000 in
set_option maxHeartbeats 1000000 in
theorem push_room0 (R : Nat) (u0 u1 u2 k : Int) (w : World) (h : RingAt w R u0 u1 u2 0 0) :
    Calls Tryz.prog 159 #[.pointer (some ⟨R, 0, none⟩), .int .i64 k] w fun e w' => e = .returned (.bool true) ∧ RingAt w' R k u1 u2 0 1 ∧ Chg (fun b => b = R) w w' := by
  obtain ⟨⟨h0, h1, h2, h3, h4⟩, hf⟩ := h
  go_enter Tryz.func159, Tryz.ntmps159
  go_wp2
  go_region
  all_goals go_wp2
  all_goals go_ret
  all_goals refine ⟨rfl, ⟨?_, ?_⟩, (by (repeat (with_reducible first | exact Chg.refl _ _ | refine Chg.alloc ?_ _ | refine Chg.drew ?_ | refine Chg.drewN ?_ _ | refine Chg.setCell ?_ ?_ _ | refine Chg.trans ?_ (Chg.of_pure (by assumption)))) <;> (first | omega | (simp; done) | (simp; omega)))⟩
  · simp [cell_set, *]
  · intro j; simp [hf]

set_option maxRecDepth 100000 in
set_option maxHeartbeats 1000000 in
theorem push_room1 (R : Nat) (u0 u1 u2 k : Int) (w : World) (h : RingAt w R u0 u1 u2 0 1) :
    Calls Tryz.prog 159 #[.pointer (some ⟨R, 0, none⟩), .int .i64 k] w fun e w' => e = .returned (.bool true) ∧ RingAt w' R u0 k u2 0 2 ∧ Chg (fun b => b = R) w w' := by
  obtain ⟨⟨h0, h1, h2, h3, h4⟩, hf⟩ := h
  go_enter Tryz.func159, Tryz.ntmps159
  go_wp2
  go_region
  all_goals go_wp2
  all_goals go_ret
  all_goals refine ⟨rfl, ⟨?_, ?_⟩, (by (repeat (with_reducible first | exact Chg.refl _ _ | refine Chg.alloc ?_ _ | refine Chg.drew ?_ | refine Chg.drewN ?_ _ | refine Chg.setCell ?_ ?_ _ | refine Chg.trans ?_ (Chg.of_pure (by assumption)))) <;> (first | omega | (simp; done) | (simp; omega)))⟩
  · simp [cell_set, *]
  · intro j; simp [hf]

set_option maxRecDepth 100000 in
set_option maxHeartbeats 1000000 in
theorem push_room2 (R : Nat) (u0 u1 u2 k : Int) (w : World) (h : RingAt w R u0 u1 u2 0 2) :
    Calls Tryz.prog 159 #[.pointer (some ⟨R, 0, none⟩), .int .i64 k] w fun e w' => e = .returned (.bool true) ∧ RingAt w' R u0 u1 k 0 3 ∧ Chg (fun b => b = R) w w' := by
  obtain ⟨⟨h0, h1, h2, h3, h4⟩, hf⟩ := h
  go_enter Tryz.func159, Tryz.ntmps159
  go_wp2
  go_region
  all_goals go_wp2
  all_goals go_ret
  all_goals refine ⟨rfl, ⟨?_, ?_⟩, (by (repeat (with_reducible first | exact Chg.refl _ _ | refine Chg.alloc ?_ _ | refine Chg.drew ?_ | refine Chg.drewN ?_ _ | refine Chg.setCell ?_ ?_ _ | refine Chg.trans ?_ (Chg.of_pure (by assumption)))) <;> (first | omega | (simp; done) | (simp; omega)))⟩
  · simp [cell_set, *]
  · intro j; simp [hf]

/-- The numbers of a ring that begins at its first cell. -/
def RingL (w : World) (R : Nat) (l : List Int) : Prop := ∃ u0 u1 u2 : Int, RingAt w R u0 u1 u2 0 l.length ∧ [u0, u1, u2].take l.length = l
/-- The same, of one that begins at its second cell. -/
def RingM (w : World) (R : Nat) (l : List Int) : Prop := ∃ u0 u1 u2 : Int, RingAt w R u0 u1 u2 1 l.length ∧ [u1, u2].take l.length = l
theorem RingL.chg {w w' : World} {S : Nat → Prop} {R : Nat} {l : List Int} (h : RingL w R l) (hg : Chg S w w') (hS : ¬ S R) : RingL w' R l := by
  obtain ⟨u0, u1, u2, h1, h2⟩ := h
  exact ⟨u0, u1, u2, h1.chg hg hS, h2⟩
theorem RingM.chg {w w' : World} {S : Nat → Prop} {R : Nat} {l : List Int} (h : RingM w R l) (hg : Chg S w w') (hS : ¬ S R) : RingM w' R l := by
  obtain ⟨u0, u1, u2, h1, h2⟩ := h
  exact ⟨u0, u1, u2, h1.chg hg hS, h2⟩

theorem push_c (R : Nat) (l : List Int) (k : Int) (w : World) (h : RingL w R l) (hl : l.length < 3) :
    Calls Tryz.prog 159 #[.pointer (some ⟨R, 0, none⟩), .int .i64 k] w fun e w' => e = .returned (.bool true) ∧ RingL w' R (l ++ [k]) ∧ Chg (fun b => b = R) w w' := by
  obtain ⟨u0, u1, u2, h1, h2⟩ := h
  match l, hl with
  | [], _ => exact (push_room0 R u0 u1 u2 k w h1).mono fun e w' ⟨a, b, c⟩ => ⟨a, ⟨_, _, _, b, rfl⟩, c⟩
  | [a], _ =>
    simp at h2; subst h2
    exact (push_room1 R _ u1 u2 k w h1).mono fun e w' ⟨a, b, c⟩ => ⟨a, ⟨_, _, _, b, rfl⟩, c⟩
  | [a, b], _ =>
    simp at h2; obtain ⟨rfl, rfl⟩ := h2
    exact (push_room2 R _ _ u2 k w h1).mono fun e w' ⟨a, b, c⟩ => ⟨a, ⟨_, _, _, b, rfl⟩, c⟩
theorem push_no (R : Nat) (l : List Int) (k : Int) (w : World) (h : RingL w R l) (hl : l.length = 3) :
    Calls Tryz.prog 159 #[.pointer (some ⟨R, 0, none⟩), .int .i64 k] w fun e w' => e = .returned (.bool false) ∧ w' = w := by
  obtain ⟨u0, u1, u2, h1, h2⟩ := h
  rw [hl] at h1
  exact push_full R u0 u1 u2 0 k w h1

set_option maxRecDepth 100000 in
set_option maxHeartbeats 1000000 in
theorem ringOf_c (p : Option Addr) (cap : Nat) (q : List Int) (w : World) (hQ : IntsAt w (.slice p q.length cap) q) (hq : q.length ≤ 3) :
    Calls Tryz.prog 158 #[.slice p q.length cap] w fun e w' => ∃ R, e = .returned (.pointer (some ⟨R, 0, none⟩)) ∧ w.heap.size ≤ R ∧ RingL w' R q ∧ Below w.heap.size w w' := by
  obtain ⟨_, _, h1, hl1, hl2⟩ := hQ.len
  cases h1
  unfold maxLen at hl2
  go_enter Tryz.func158, Tryz.ntmps158
  go_wp2
  go_loopw [10] (fun i wr => ∃ j : Nat, j ≤ q.length ∧ i = .int .i64 j ∧ Below w.heap.size w wr ∧ w.heap.size < wr.heap.size ∧ RingL wr w.heap.size (q.take j)) (fun i _ => q.length - (intOf i).toNat)
  case atStart =>
    refine ⟨0, Nat.zero_le _, rfl, (by (repeat (with_reducible first | exact Below.refl _ _ | refine Below.alloc ?_ ?_ _ | refine below_drewN ?_ _ | refine Below.drew ?_ | refine Below.setCell ?_ ?_ _ | refine Below.trans ?_ (Below.mono (by assumption) ?_))) <;> (first | omega | (simp; try omega))), by simp, 0, 0, 0, ⟨?_, ?_⟩, by simp⟩
    · simp [cell_set]
    · intro j; simp [go_sem]
  case round =>
    obtain ⟨j, hj, rfl, hB, hz, hI⟩ := hrel
    by_cases hlt : j < q.length
    · obtain ⟨t, ht⟩ : ∃ t, q[j]? = some t := ⟨q[j], by simp [hlt]⟩
      obtain ⟨b, o, rfl, hbk, c0⟩ := (hQ.pure hB).at j t ht
      have Ht := Lib.hid ht
      clear ht
      have htl : (q.take j).length < 3 := by simp; omega
      go_wp2_with (go_at_call 159; refine (push_c _ _ _ _ hI htl).mono ?_; rintro e w1 ⟨rfl, hI1, hg1⟩)
      go_roundw
      case rel => exact ⟨j + 1, by omega, by go_num, hB.trans (hg1.below hB.size (fun k hk e => by omega)), Nat.lt_of_lt_of_le hz hg1.size, by rw [take_one Ht.out]; exact hI1⟩
      case measure => simp [intOf]; omega
    · have e : j = q.length := by omega
      subst e
      rw [List.take_length] at hI
      go_wp2
      go_ret
      exact ⟨_, rfl, Nat.le_refl _, hI, hB⟩

set_option maxHeartbeats 400000 in
theorem pop_no (R : Nat) (w : World) (h : RingL w R []) :
    Calls Tryz.prog 161 #[.pointer (some ⟨R, 0, none⟩)] w fun e w' => e = .returned (.tuple #[.int .i64 0, .bool false]) ∧ w' = w := by
  obtain ⟨u0, u1, u2, ⟨⟨h0, h1, h2, h3, h4⟩, hf⟩, -⟩ := h
  go_enter Tryz.func161, Tryz.ntmps161
  go_wp2
  go_ret2
  exact ⟨rfl, rfl⟩

set_option maxRecDepth 100000 in
set_option maxHeartbeats 1000000 in
theorem pop_at (R : Nat) (u0 u1 u2 s : Int) (w : World) (h : RingAt w R u0 u1 u2 0 s) (h1 : 1 ≤ s) (h9 : s ≤ 3) :
    Calls Tryz.prog 161 #[.pointer (some ⟨R, 0, none⟩)] w fun e w' => e = .returned (.tuple #[.int .i64 u0, .bool true]) ∧ RingAt w' R u0 u1 u2 1 (s - 1) ∧ Chg (fun b => b = R) w w' := by
  obtain ⟨⟨h0, h1', h2, h3, h4⟩, hf⟩ := h
  go_enter Tryz.func161, Tryz.ntmps161
  go_wp2
  go_quiet (fail)
  go_wp2
  go_ret2
  refine ⟨rfl, ⟨?_, ?_⟩, (by (repeat (with_reducible first | exact Chg.refl _ _ | refine Chg.alloc ?_ _ | refine Chg.drew ?_ | refine Chg.drewN ?_ _ | refine Chg.setCell ?_ ?_ _ | refine Chg.trans ?_ (Chg.of_pure (by assumption)))) <;> (first | omega | (simp; done) | (simp; omega)))⟩
  · simp [cell_set, *]
  · intro j; simp [hf]

theorem pop_c (R : Nat) (x : Int) (l : List Int) (w : World) (h : RingL w R (x :: l)) (hl : l.length < 3) :
    Calls Tryz.prog 161 #[.pointer (some ⟨R, 0, none⟩)] w fun e w' => e = .returned (.tuple #[.int .i64 x, .bool true]) ∧ RingM w' R l ∧ Chg (fun b => b = R) w w' := by
  obtain ⟨u0, u1, u2, h1, h2⟩ := h
  simp only [List.length_cons, List.take_succ_cons, List.cons.injEq] at h1 h2
  obtain ⟨rfl, h2⟩ := h2
  refine (pop_at R _ u1 u2 _ w h1 (by omega) (by omega)).mono fun e w' ⟨a, b, c⟩ => ⟨a, ⟨u0, u1, u2, ?_, h2⟩, c⟩
  have e : ((l.length + 1 : Nat) : Int) - 1 = (l.length : Int) := by omega
  rw [e] at b
  exact b

/-- The j-th number of a ring whose first cell is f. -/
def nth3 (u0 u1 u2 : Int) (f j : Nat) : Int := if (f + j) % 3 = 0 then u0 else if (f + j) % 3 = 1 then u1 else u2

set_option maxRecDepth 100000 in
set_option maxHeartbeats 2000000 in
theorem list_at (R : Nat) (u0 u1 u2 : Int) (f s : Nat) (l : List Int) (w : World) (h : RingAt w R u0 u1 u2 f s) (hf3 : f ≤ 1) (hs3 : s ≤ 3) (hl : l.length = s) (hn : ∀ j x, l[j]? = some x → x = nth3 u0 u1 u2 f j) :
    Calls Tryz.prog 160 #[.pointer (some ⟨R, 0, none⟩)] w fun e w' => ∃ v, e = .returned v ∧ IntsAt w' v l ∧ HeldB w' w.heap.size v ∧ Below w.heap.size w w' := by
  obtain ⟨i0, hi, hz0, hz1, hz2⟩ := info_parts info_int
  obtain ⟨⟨h0, h1, h2, h3, h4⟩, hf⟩ := h
  have Hl := Lib.hid hl
  clear hl
  go_enter Tryz.func160, Tryz.ntmps160
  go_wp2
  go_loopw [3, 9] (fun v i wr => ∃ j : Nat, j ≤ s ∧ i = .int .i64 j ∧ wr.ownsRow w.heap.size 3 1 v j (((l.take j).map intCells).flatten) ∧ Below w.heap.size w wr) (fun _ i _ => s - (intOf i).toNat)
  case atStart => exact ⟨0, Nat.zero_le _, rfl, by simpa using World.ownsRow_nil _ _ _ _, Below.refl _ _⟩
  case round =>
    obtain ⟨j, hj, rfl, hown, hB⟩ := hrel
    by_cases hlt : j < s
    · obtain ⟨hcr, -⟩ := bcell hB
      have hRl : R < w.heap.size := World.block_lt_of_cell? w _ h0
      rw [← hcr _ _ hRl] at h0 h1 h2 h3 h4
      obtain ⟨y, hy⟩ : ∃ y, l[j]? = some y := ⟨l[j]'(by rw [Hl.out]; exact hlt), by simp [Hl.out, hlt]⟩
      have hyn := hn j y hy
      have Hy := Lib.hid hy
      have hlj : (l.take j).length = j := by simp [Hl.out]; omega
      have Hlj := Lib.hid hlj
      obtain ⟨g, hg⟩ : ∃ g : Nat, (f + j) % 3 = g := ⟨_, rfl⟩
      have hg3 : g < 3 := by omega
      have s1 : IntKind.i64.wrap ((f : Int) + (j : Int)) = (f : Int) + (j : Int) := IntWalk.i64_in _ (by omega)
      have s2 : ((f : Int) + (j : Int)).tmod 3 = (g : Int) := by rw [Int.tmod_eq_emod_of_nonneg (by omega)]; omega
      have s3 : IntKind.i64.wrap (g : Int) = (g : Int) := IntWalk.i64_in _ (by omega)
      have g0 : (0 : Int) ≤ (g : Int) := by omega
      have g3 : (g : Int) < 3 := by omega
      have hcell : wr.cell? ⟨R, g, none⟩ = some (.int .i64 y) := by
        rw [hyn]
        unfold nth3
        rw [hg]
        have : g = 0 ∨ g = 1 ∨ g = 2 := by omega
        rcases this with rfl | rfl | rfl
        · exact h0
        · exact h1
        · exact h2
      have hRr : R < wr.heap.size := by have := hB.size; omega
      clear hyn hy hlj hg h0 h1 h2 hcr hn hf
      go_upto_region 5 with (fail)
      go_region_held3 (fun w' => w'.cell? ⟨R, 3, none⟩ = some (.int .i64 (f : Int)) ∧ w'.cell? ⟨R, g, none⟩ = some (.int .i64 y)) (go_keep)
        (first | (refine step_append_rows rfl (.tmp 12) (.tmp 25) 32 rfl w.heap.size 3 i0 _ 1 8 Tryz.underlying32 hi hz0 hz1 hz2 rfl (by decide) _ j _ rfl (hown.alloc _) (.slice (some ⟨wr.heap.size, 0, none⟩) 1 1) [intCells y] rfl (flat_ints [y]) (Rows.one (by intro i u hu; rcases i with _ | i; (simp [intCells] at hu; subst hu; simp [go_sem]); (simp [intCells] at hu))) (by simp [maxLen]; omega) (by simp; omega) (by simp; have := hB.size; omega) ?_; intro v1 w1 hown1 hg1; have hcR := fun o => World.cell?_of_block (a := ⟨R, o, none⟩) (hg1.block R (by simp; omega) (by intro e; have := (hown.lt _ e.symm).1; omega))))
      all_goals
        go_wp2
        go_roundw
        case rel =>
          refine ⟨j + 1, by omega, by go_num, ?_, ?_⟩
          · rw [take_one Hy.out, List.map_append, List.flatten_append]; exact hown1
          · exact (Below.drew (hB.alloc hB.size _)).grown hg1 (by simp; have := hB.size; omega) (fun k hk => (hown.lt k hk).1)
        case measure => simp [intOf]; omega
    · have e : j = s := by omega
      subst e
      have hw := Lib.hid hown
      clear hown
      go_wp2
      go_ret
      have ho := hw.out
      rw [List.take_of_length_le (by rw [Hl.out]; exact Nat.le_refl _)] at ho
      rw [← Hl.out, show l.length = (l.map intCells).length by simp] at ho
      exact ⟨_, rfl, Rows.of_own (flat_ints l) ho, Held.of_own ho (fun b hb => ⟨(ho.lt b hb).1, rfl⟩), hB⟩

theorem listL_c (R : Nat) (l : List Int) (w : World) (h : RingL w R l) (hl : l.length ≤ 3) :
    Calls Tryz.prog 160 #[.pointer (some ⟨R, 0, none⟩)] w fun e w' => ∃ v, e = .returned v ∧ IntsAt w' v l ∧ HeldB w' w.heap.size v ∧ Below w.heap.size w w' := by
  obtain ⟨u0, u1, u2, h1, h2⟩ := h
  refine list_at R u0 u1 u2 0 l.length l w h1 (by omega) hl rfl (fun j x hx => ?_)
  have hjl := (List.getElem?_eq_some_iff.1 hx).1
  rw [← h2, List.getElem?_take, if_pos hjl] at hx
  have : j = 0 ∨ j = 1 ∨ j = 2 := by omega
  rcases this with rfl | rfl | rfl <;> simp at hx <;> simp [nth3, hx]
theorem listM_c (R : Nat) (l : List Int) (w : World) (h : RingM w R l) (hl : l.length ≤ 2) :
    Calls Tryz.prog 160 #[.pointer (some ⟨R, 0, none⟩)] w fun e w' => ∃ v, e = .returned v ∧ IntsAt w' v l ∧ HeldB w' w.heap.size v ∧ Below w.heap.size w w' := by
  obtain ⟨u0, u1, u2, h1, h2⟩ := h
  refine list_at R u0 u1 u2 1 l.length l w h1 (by omega) (by omega) rfl (fun j x hx => ?_)
  have hjl := (List.getElem?_eq_some_iff.1 hx).1
  rw [← h2, List.getElem?_take, if_pos hjl] at hx
  have : j = 0 ∨ j = 1 := by omega
  rcases this with rfl | rfl <;> simp at hx <;> simp [nth3, hx]

end Go.Proofs.YtghbphdipdjekaaGreatDoor
