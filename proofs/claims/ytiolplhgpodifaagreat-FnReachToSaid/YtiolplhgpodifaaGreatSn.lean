/- spec.ThingNew, whatever the arguments. Conditions: none. -/
import Derived.Test.YtiolplhgpodifaaGreatD
import Derived.Test.YtiolplhgpodifaaGreatAct
import Derived.Test.YtiolplhgpodifaaGreatY
set_option linter.unusedVariables false
set_option linter.unusedSimpArgs false
namespace Go.Proofs.YtiolplhgpodifaaGreat
open Go.RowKit Drw
attribute [local go_sem] Lab.val Rgt.val Cal.val Thg.val

def NewPost (k : Int) (l : Lab) (tg : Int) (w : World) (e : Ending) (w' : World) : Prop := ∃ sv qv, e = .returned (.tuple #[(thgNew k l tg).val sv qv, .bool (thgOk (thgNew0 k l tg))]) ∧ RgtsAt w' sv (thgNew k l tg).slots ∧ IntsAt w' qv (thgNew k l tg).queue ∧ HeldB w' w.heap.size sv ∧ HeldB w' w.heap.size qv ∧ Below w.heap.size w w'

/-- The same, and the lists are own. -/
def NewOwn (k : Int) (l : Lab) (tg : Int) (w : World) (e : Ending) (w' : World) : Prop := ∃ sv qv, e = .returned (.tuple #[(thgNew k l tg).val sv qv, .bool (thgOk (thgNew0 k l tg))]) ∧ w'.ownsRow w.heap.size 35 5 sv (thgNew k l tg).slots.length (((thgNew k l tg).slots.map Rgt.cells).flatten) ∧ w'.ownsRow w.heap.size 3 1 qv (thgNew k l tg).queue.length (((thgNew k l tg).queue.map intCells).flatten) ∧ Below w.heap.size w w'
theorem NewOwn.post {k : Int} {l : Lab} {tg : Int} {w : World} {e : Ending} {w' : World} (h : NewOwn k l tg w e w') : NewPost k l tg w e w' := by
  obtain ⟨sv, qv, h1, h2, h3, h4⟩ := h
  have h2' := h2
  have h3' := h3
  rw [show (thgNew k l tg).slots.length = ((thgNew k l tg).slots.map Rgt.cells).length by simp] at h2'
  rw [show (thgNew k l tg).queue.length = ((thgNew k l tg).queue.map intCells).length by simp] at h3'
  exact ⟨sv, qv, h1, Rows.of_own (flat_rgts _) h2', Rows.of_own (flat_ints _) h3', Held.of_own h2' (fun b hb => ⟨(h2'.lt b hb).1, rfl⟩), Held.of_own h3' (fun b hb => ⟨(h3'.lt b hb).1, rfl⟩), h4⟩

theorem heap_push (w : World) (o : Obj) (k : Nat) : (w.alloc o).heap[k]? = if k = w.heap.size then some o else w.heap[k]? := by
  show (w.heap.push o)[k]? = _
  rw [Array.getElem?_push]
theorem heap_setC (w : World) (p : Addr) (u : Value) (k : Nat) (h : p.block ≠ k) : (w.setCell p u).heap[k]? = w.heap[k]? := Below.heap_setCell _ _ _ _ (Ne.symm h)
theorem own_at {w : World} {B e s k n : Nat} {cur : Array Value} (h : w.heap[k]? = some (.cells cur e (0, 0))) (hB : B ≤ k) (hm : n ≤ maxLen) (hs : cur.size = n * s) : w.ownsRow B e s (.slice (some ⟨k, 0, none⟩) n n) n cur.toList :=
  ⟨by simpa using hs, .inr ⟨k, n, cur, rfl, hB, h, Nat.le_refl _, hm, hs, by rw [List.take_of_length_le (by simp [hs])]⟩⟩
theorem makeRgts4 (w : World) : (Instr.makeSlice 30 (.int .i64 4) (.int .i64 4)).run Tryz.prog w = .ok (.slice (some ⟨w.heap.size, 0, none⟩) 4 4) (w.alloc (.cells #[.int .i64 0, .int .i64 0, .bool false, .bool false, .bool false, .int .i64 0, .int .i64 0, .bool false, .bool false, .bool false, .int .i64 0, .int .i64 0, .bool false, .bool false, .bool false, .int .i64 0, .int .i64 0, .bool false, .bool false, .bool false] 35)) := by kernel_rfl

theorem nil_rgts (w : World) (p : Option Addr) : RgtsAt w (.slice p 0 0) [] := ⟨p, 0, rfl, by simp, by simp, .inl rfl⟩
theorem nil_ints (w : World) (p : Option Addr) : IntsAt w (.slice p 0 0) [] := ⟨p, 0, rfl, by simp, by simp, .inl rfl⟩

set_option maxRecDepth 100000 in
set_option maxHeartbeats 2000000 in
theorem sthingNew_none (k : Int) (l : Lab) (tg : Int) (w : World) (hk : ¬ (k = 2 ∨ k = 3)) : Calls Tryz.prog 100 #[.int .i64 k, l.val, .int .i64 tg] w (NewOwn k l tg w) := by
  obtain ⟨s, v⟩ := l
  have e0 : thgNew0 k ⟨s, v⟩ tg = ⟨k, ⟨s, v⟩, 0, 0, [], [], tg⟩ := by simp [thgNew0, hk]
  have hk2 : (k == 2 || k == 3) = false := by simp at hk ⊢; exact hk
  obtain ⟨b, hb⟩ : ∃ b, thgOk ⟨k, ⟨s, v⟩, 0, 0, [], [], tg⟩ = b := ⟨_, rfl⟩
  have Hb := Lib.hid hb
  have Hk2 := Lib.hid hk2
  have E0 := Lib.hid e0
  clear hb hk hk2 e0
  cases b
  · go_enter Tryz.func100, Tryz.ntmps100
    go_wp2_with (first
      | (go_at_call 73; refine (l3Slots_c _ _).mono ?_; rw [Hk2.out]; rintro e w' ⟨rfl, rfl⟩)
      | (go_at_call 38; refine (sthingOk_c ⟨_, ⟨_, _⟩, _, _, [], [], _⟩ _ _ _ (nil_rgts _ _) (nil_ints _ _)).mono ?_; rw [Hb.out]; rintro e w2 ⟨rfl, hb2⟩; obtain ⟨hc2, hf2⟩ := bcell hb2; have hz2 : w.heap.size + 4 < w2.heap.size := (by have := hb2.size; (try simp at this); omega); have hz2b : w.heap.size + 1 < w2.heap.size := (by omega)))
    refine bodyPost_ret (v := .tuple #[.agg #[.int .i64 0, .int .i64 0, .int .i64 0, .int .i64 0, .int .i64 0, .slice none 0 0, .slice none 0 0, .int .i64 0], .bool false]) ?_ rfl ?_
    · simp [results, Tryz.results100, go_sem, *]
    · unfold NewOwn thgNew
      rw [E0.out, Hb.out, if_neg (by decide)]
      exact ⟨_, _, rfl, World.ownsRow_nil _ _ _ _, World.ownsRow_nil _ _ _ _, (by (repeat (with_reducible first | exact Below.refl _ _ | refine Below.alloc ?_ ?_ _ | refine below_drewN ?_ _ | refine Below.drew ?_ | refine Below.setCell ?_ ?_ _ | refine Below.trans ?_ (Below.mono (by assumption) ?_))) <;> (first | omega | (simp; try omega)))⟩
  · go_enter Tryz.func100, Tryz.ntmps100
    go_wp2_with (first
      | (go_at_call 73; refine (l3Slots_c _ _).mono ?_; rw [Hk2.out]; rintro e w' ⟨rfl, rfl⟩)
      | (go_at_call 38; refine (sthingOk_c ⟨_, ⟨_, _⟩, _, _, [], [], _⟩ _ _ _ (nil_rgts _ _) (nil_ints _ _)).mono ?_; rw [Hb.out]; rintro e w2 ⟨rfl, hb2⟩; obtain ⟨hc2, hf2⟩ := bcell hb2; have hz2 : w.heap.size + 4 < w2.heap.size := (by have := hb2.size; (try simp at this); omega); have hz2b : w.heap.size + 1 < w2.heap.size := (by omega)))
    refine bodyPost_ret (v := .tuple #[.agg #[.int .i64 k, .int .i64 s, .int .i64 v, .int .i64 0, .int .i64 0, .slice (some ⟨w.heap.size + 2, 0, none⟩) 0 0, .slice (some ⟨w.heap.size + 3, 0, none⟩) 0 0, .int .i64 tg], .bool true]) ?_ rfl ?_
    · simp [results, Tryz.results100, go_sem, *]
    · unfold NewOwn thgNew
      rw [E0.out, Hb.out, if_pos rfl]
      have hk2 : w2.heap[w.heap.size + 2]? = some (.cells #[] 35 (0, 0)) := (hb2.block _ (by simp [World.setCell]; try omega)).trans (by repeat (first | rw [heap_setC _ _ _ _ (by simp [World.setCell])] | rw [heap_push, if_neg (by first | (simp [World.setCell]; done) | (exfalso; fail))] | rw [heap_push, if_pos (by first | (simp [World.setCell]; done) | (exfalso; fail))]))
      have hk3 : w2.heap[w.heap.size + 3]? = some (.cells #[] 3 (0, 0)) := (hb2.block _ (by simp [World.setCell]; try omega)).trans (by repeat (first | rw [heap_setC _ _ _ _ (by simp [World.setCell])] | rw [heap_push, if_neg (by first | (simp [World.setCell]; done) | (exfalso; fail))] | rw [heap_push, if_pos (by first | (simp [World.setCell]; done) | (exfalso; fail))]))
      exact ⟨_, _, rfl, own_at (cur := #[]) (by (repeat rw [heap_setC _ _ _ _ (by simp [World.setCell])]); exact hk2) (by omega) (by simp [maxLen]) rfl, own_at (cur := #[]) (by (repeat rw [heap_setC _ _ _ _ (by simp [World.setCell])]); exact hk3) (by omega) (by simp [maxLen]) rfl, (by (repeat (with_reducible first | exact Below.refl _ _ | refine Below.alloc ?_ ?_ _ | refine below_drewN ?_ _ | refine Below.drew ?_ | refine Below.setCell ?_ ?_ _ | refine Below.trans ?_ (Below.mono (by assumption) ?_))) <;> (first | omega | (simp; try omega)))⟩

set_option maxRecDepth 100000 in
set_option maxHeartbeats 4000000 in
theorem sthingNew_slots (k : Int) (l : Lab) (tg : Int) (w : World) (hk : k = 2 ∨ k = 3) : Calls Tryz.prog 100 #[.int .i64 k, l.val, .int .i64 tg] w (NewOwn k l tg w) := by
  obtain ⟨s, v⟩ := l
  have e0 : thgNew0 k ⟨s, v⟩ tg = ⟨k, ⟨s, v⟩, 0, 0, [Rgt.null, Rgt.null, Rgt.null, Rgt.null], [], tg⟩ := by simp [thgNew0, hk]
  have hk2 : (k == 2 || k == 3) = true := by simp; exact hk
  obtain ⟨b, hb⟩ : ∃ b, thgOk ⟨k, ⟨s, v⟩, 0, 0, [Rgt.null, Rgt.null, Rgt.null, Rgt.null], [], tg⟩ = b := ⟨_, rfl⟩
  have Hb := Lib.hid hb
  have Hk2 := Lib.hid hk2
  have E0 := Lib.hid e0
  have hmk := makeRgts4
  have hS4 : ∀ w' : World, Below (w.heap.size + 6) (((((((w.alloc (.cells #[.int .i64 s, .int .i64 v] 29)).alloc (.cells #[.int .i64 0, .int .i64 0, .int .i64 0, .int .i64 0, .int .i64 0, .slice none 0 0, .slice none 0 0, .int .i64 0] 33)).alloc (.cells #[] 35)).alloc (.cells #[] 3)).alloc (.cells #[.int .i64 k, .int .i64 s, .int .i64 v, .int .i64 0, .int .i64 0, .slice (some ⟨w.heap.size + 2, 0, none⟩) 0 0, .slice (some ⟨w.heap.size + 3, 0, none⟩) 0 0, .int .i64 tg] 33)).alloc (.cells #[.int .i64 0, .int .i64 0, .bool false, .bool false, .bool false, .int .i64 0, .int .i64 0, .bool false, .bool false, .bool false, .int .i64 0, .int .i64 0, .bool false, .bool false, .bool false, .int .i64 0, .int .i64 0, .bool false, .bool false, .bool false] 35))) w' → True := fun _ _ => trivial
  clear hb hk hk2 e0 hS4
  cases b
  all_goals
    go_enter Tryz.func100, Tryz.ntmps100
    go_wp2_with (first
      | (go_at_call 73; refine (l3Slots_c _ _).mono ?_; rw [Hk2.out]; rintro e w' ⟨rfl, rfl⟩)
      | (go_at_call 38; refine (sthingOk_c ⟨_, ⟨_, _⟩, _, _, [Rgt.null, Rgt.null, Rgt.null, Rgt.null], [], _⟩ _ _ _ ⟨_, 4, rfl, by simp, by simp [maxLen], .inr ⟨_, _, rfl, by intro k c hk j u hj; rcases k with _ | _ | _ | _ | k <;> simp at hk <;> subst hk <;> rcases j with _ | _ | _ | _ | _ | j <;> simp [Rgt.cells, Rgt.null] at hj <;> subst hj <;> simp [go_sem]⟩⟩ (nil_ints _ _)).mono ?_; rw [Hb.out]; rintro e w2 ⟨rfl, hb2⟩; obtain ⟨hc2, hf2⟩ := bcell hb2; have hz2 : w.heap.size + 5 < w2.heap.size := (by have := hb2.size; (try simp [World.setCell] at this); omega); have hz2c : w.heap.size + 4 < w2.heap.size := (by omega); have hz2b : w.heap.size + 1 < w2.heap.size := (by omega)))
  · refine bodyPost_ret (v := .tuple #[.agg #[.int .i64 0, .int .i64 0, .int .i64 0, .int .i64 0, .int .i64 0, .slice none 0 0, .slice none 0 0, .int .i64 0], .bool false]) ?_ rfl ?_
    · simp [results, Tryz.results100, go_sem, *]
    · unfold NewOwn thgNew
      rw [E0.out, Hb.out, if_neg (by decide)]
      exact ⟨_, _, rfl, World.ownsRow_nil _ _ _ _, World.ownsRow_nil _ _ _ _, (by (repeat (with_reducible first | exact Below.refl _ _ | refine Below.alloc ?_ ?_ _ | refine below_drewN ?_ _ | refine Below.drew ?_ | refine Below.setCell ?_ ?_ _ | refine Below.trans ?_ (Below.mono (by assumption) ?_))) <;> (first | omega | (simp; try omega)))⟩
  · refine bodyPost_ret (v := .tuple #[.agg #[.int .i64 k, .int .i64 s, .int .i64 v, .int .i64 0, .int .i64 0, .slice (some ⟨w.heap.size + 5, 0, none⟩) 4 4, .slice (some ⟨w.heap.size + 3, 0, none⟩) 0 0, .int .i64 tg], .bool true]) ?_ rfl ?_
    · simp [results, Tryz.results100, go_sem, *]
    · unfold NewOwn thgNew
      rw [E0.out, Hb.out, if_pos rfl]
      have hk5 : w2.heap[w.heap.size + 5]? = some (.cells #[.int .i64 0, .int .i64 0, .bool false, .bool false, .bool false, .int .i64 0, .int .i64 0, .bool false, .bool false, .bool false, .int .i64 0, .int .i64 0, .bool false, .bool false, .bool false, .int .i64 0, .int .i64 0, .bool false, .bool false, .bool false] 35 (0, 0)) := (hb2.block _ (by simp [World.setCell]; try omega)).trans (by repeat (first | rw [heap_setC _ _ _ _ (by simp [World.setCell])] | rw [heap_push, if_neg (by first | (simp [World.setCell]; done) | (exfalso; fail))] | rw [heap_push, if_pos (by first | (simp [World.setCell]; done) | (exfalso; fail))]))
      have hk3 : w2.heap[w.heap.size + 3]? = some (.cells #[] 3 (0, 0)) := (hb2.block _ (by simp [World.setCell]; try omega)).trans (by repeat (first | rw [heap_setC _ _ _ _ (by simp [World.setCell])] | rw [heap_push, if_neg (by first | (simp [World.setCell]; done) | (exfalso; fail))] | rw [heap_push, if_pos (by first | (simp [World.setCell]; done) | (exfalso; fail))]))
      exact ⟨_, _, rfl, own_at (cur := #[.int .i64 0, .int .i64 0, .bool false, .bool false, .bool false, .int .i64 0, .int .i64 0, .bool false, .bool false, .bool false, .int .i64 0, .int .i64 0, .bool false, .bool false, .bool false, .int .i64 0, .int .i64 0, .bool false, .bool false, .bool false]) (n := 4) (by (repeat rw [heap_setC _ _ _ _ (by simp [World.setCell])]); exact hk5) (by omega) (by simp [maxLen]) rfl, own_at (cur := #[]) (by (repeat rw [heap_setC _ _ _ _ (by simp [World.setCell])]); exact hk3) (by omega) (by simp [maxLen]) rfl, (by (repeat (with_reducible first | exact Below.refl _ _ | refine Below.alloc ?_ ?_ _ | refine below_drewN ?_ _ | refine Below.drew ?_ | refine Below.setCell ?_ ?_ _ | refine Below.trans ?_ (Below.mono (by assumption) ?_))) <;> (first | omega | (simp; try omega)))⟩

theorem sthingNew_o (k : Int) (l : Lab) (tg : Int) (w : World) : Calls Tryz.prog 100 #[.int .i64 k, l.val, .int .i64 tg] w (NewOwn k l tg w) := by
  by_cases hk : k = 2 ∨ k = 3
  · exact sthingNew_slots k l tg w hk
  · exact sthingNew_none k l tg w hk
theorem sthingNew_c (k : Int) (l : Lab) (tg : Int) (w : World) : Calls Tryz.prog 100 #[.int .i64 k, l.val, .int .i64 tg] w (NewPost k l tg w) :=
  (sthingNew_o k l tg w).mono fun _ _ h => h.post

end Go.Proofs.YtiolplhgpodifaaGreat
