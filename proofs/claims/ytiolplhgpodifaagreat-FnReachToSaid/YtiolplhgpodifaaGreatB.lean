/- The functions on rights return what their plain functions say. Conditions: none. -/
import Derived.Test.YtiolplhgpodifaaGreatA
import Derived.RegionTactic
import Derived.ChangeAlike
set_option linter.unusedVariables false
set_option linter.unusedSimpArgs false
namespace Go.Proofs.YtiolplhgpodifaaGreat
open Go.RowKit Drw
attribute [local go_sem] Lab.val Rgt.val Cal.val Thg.val

set_option maxHeartbeats 400000 in
theorem rightOk_c (r : Rgt) (w : World) :
    Calls Tryz.prog 40 #[r.val] w fun e w' => e = .returned (.bool (rgtOk r)) ∧ Below w.heap.size w w' := by
  obtain ⟨a, b, c, d, f⟩ := r
  go_enter Tryz.func40, Tryz.ntmps40
  go_wp2
  all_goals go_ret
  all_goals refine ⟨ret_bool ?_, (by (repeat (with_reducible first | exact Below.refl _ _ | refine Below.alloc ?_ ?_ _ | refine below_drewN ?_ _ | refine Below.drew ?_ | refine Below.setCell ?_ ?_ _ | refine Below.trans ?_ (Below.mono (by assumption) ?_))) <;> (first | omega | (simp; try omega)))⟩
  all_goals grind [rgtOk, inR, Rgt.null]

set_option maxHeartbeats 400000 in
theorem srightOk_c (r : Rgt) (w : World) :
    Calls Tryz.prog 72 #[r.val] w fun e w' => e = .returned (.bool (rgtOk r)) ∧ Below w.heap.size w w' := by
  obtain ⟨a, b, c, d, f⟩ := r
  go_enter Tryz.func72, Tryz.ntmps72
  go_wp2_with (go_at_call 39; refine (l6In_c _ _ _ _).mono ?_; rintro e w' ⟨rfl, rfl⟩)
  all_goals go_ret
  all_goals refine ⟨ret_bool ?_, (by (repeat (with_reducible first | exact Below.refl _ _ | refine Below.alloc ?_ ?_ _ | refine below_drewN ?_ _ | refine Below.drew ?_ | refine Below.setCell ?_ ?_ _ | refine Below.trans ?_ (Below.mono (by assumption) ?_))) <;> (first | omega | (simp; try omega)))⟩
  all_goals grind [rgtOk, Rgt.null]

theorem less1_null {r : Rgt} (h : r.thing = 0) (rd wr st : Bool) : less1 r rd wr st = r := by simp [less1, h]
theorem less1_obj {r : Rgt} (h : ¬ r.thing = 0) (rd wr st : Bool) : less1 r rd wr st = ⟨r.thing, r.vers, r.rd && rd, r.wr && wr && st, r.wk || !st⟩ := by simp [less1, h]

set_option maxHeartbeats 400000 in
theorem l2Less_c (r : Rgt) (rd wr st : Bool) (w : World) :
    Calls Tryz.prog 96 #[r.val, .bool rd, .bool wr, .bool st] w fun e w' => e = .returned (less1 r rd wr st).val ∧ Below w.heap.size w w' := by
  obtain ⟨a, b, c, d, f⟩ := r
  by_cases h : a = 0
  · rw [less1_null h]
    go_enter Tryz.func96, Tryz.ntmps96
    go_wp2
    all_goals refine bodyPost_ret (v := Rgt.val ⟨a, b, c, d, f⟩) ?_ rfl ⟨rfl, (by (repeat (with_reducible first | exact Below.refl _ _ | refine Below.alloc ?_ ?_ _ | refine below_drewN ?_ _ | refine Below.drew ?_ | refine Below.setCell ?_ ?_ _ | refine Below.trans ?_ (Below.mono (by assumption) ?_))) <;> (first | omega | (simp; try omega)))⟩
    all_goals simp [results, Tryz.results96, go_sem, *]
  · rw [less1_obj h]
    go_enter Tryz.func96, Tryz.ntmps96
    go_wp2
    all_goals refine bodyPost_ret (v := Rgt.val ⟨a, b, c && rd, d && wr && st, f || !st⟩) ?_ rfl ⟨rfl, (by (repeat (with_reducible first | exact Below.refl _ _ | refine Below.alloc ?_ ?_ _ | refine below_drewN ?_ _ | refine Below.drew ?_ | refine Below.setCell ?_ ?_ _ | refine Below.trans ?_ (Below.mono (by assumption) ?_))) <;> (first | omega | (simp; try omega)))⟩
    all_goals simp [results, Tryz.results96, go_sem, *]

set_option maxHeartbeats 400000 in
theorem objLess_c (r : Rgt) (rd wr st : Bool) (w : World) (hr : ¬ r.thing = 0) :
    Calls Tryz.prog 142 #[r.val, .bool rd, .bool wr, .bool st] w fun e w' => e = .returned (less1 r rd wr st).val ∧ Below w.heap.size w w' := by
  rw [less1_obj hr]
  clear hr
  obtain ⟨a, b, c, d, f⟩ := r
  go_enter Tryz.func142, Tryz.ntmps142
  go_wp2
  all_goals refine bodyPost_ret (v := Rgt.val ⟨a, b, c && rd, d && wr && st, f || !st⟩) ?_ rfl ⟨rfl, (by (repeat (with_reducible first | exact Below.refl _ _ | refine Below.alloc ?_ ?_ _ | refine below_drewN ?_ _ | refine Below.drew ?_ | refine Below.setCell ?_ ?_ _ | refine Below.trans ?_ (Below.mono (by assumption) ?_))) <;> (first | omega | (simp; try omega)))⟩
  all_goals simp [results, Tryz.results142, go_sem, *]

set_option maxHeartbeats 400000 in
theorem emptyLess_c (rd wr st : Bool) (w : World) :
    Calls Tryz.prog 140 #[.agg #[], .bool rd, .bool wr, .bool st] w fun e w' => e = .returned Rgt.null.val ∧ Below w.heap.size w w' := by
  go_enter Tryz.func140, Tryz.ntmps140
  go_wp2
  all_goals refine bodyPost_ret (v := Rgt.null.val) ?_ rfl ⟨rfl, (by (repeat (with_reducible first | exact Below.refl _ _ | refine Below.alloc ?_ ?_ _ | refine below_drewN ?_ _ | refine Below.drew ?_ | refine Below.setCell ?_ ?_ _ | refine Below.trans ?_ (Below.mono (by assumption) ?_))) <;> (first | omega | (simp; try omega)))⟩
  all_goals (simp [results, Tryz.results140, go_sem, Rgt.null])

def capV (r : Rgt) : Value := if r.thing = 0 then .iface 107 (.agg #[]) else .iface 109 r.val

set_option maxHeartbeats 400000 in
theorem capabilityOf_c (r : Rgt) (w : World) :
    Calls Tryz.prog 44 #[r.val] w fun e w' => e = .returned (capV r) ∧ Below w.heap.size w w' := by
  obtain ⟨a, b, c, d, f⟩ := r
  by_cases h : a = 0
  · go_enter Tryz.func44, Tryz.ntmps44
    go_wp2
    all_goals go_ret
    all_goals refine ⟨?_, (by (repeat (with_reducible first | exact Below.refl _ _ | refine Below.alloc ?_ ?_ _ | refine below_drewN ?_ _ | refine Below.drew ?_ | refine Below.setCell ?_ ?_ _ | refine Below.trans ?_ (Below.mono (by assumption) ?_))) <;> (first | omega | (simp; try omega)))⟩
    all_goals simp [capV, h]
  · go_enter Tryz.func44, Tryz.ntmps44
    go_wp2
    all_goals go_ret
    all_goals refine ⟨?_, (by (repeat (with_reducible first | exact Below.refl _ _ | refine Below.alloc ?_ ?_ _ | refine below_drewN ?_ _ | refine Below.drew ?_ | refine Below.setCell ?_ ?_ _ | refine Below.trans ?_ (Below.mono (by assumption) ?_))) <;> (first | omega | (simp; try omega)))⟩
    all_goals simp [capV, h, Rgt.val]

theorem capV_null {r : Rgt} (h : r.thing = 0) : capV r = .iface 107 (.agg #[]) := by simp [capV, h]
theorem capV_obj {r : Rgt} (h : ¬ r.thing = 0) : capV r = .iface 109 r.val := by simp [capV, h]

set_option maxHeartbeats 400000 in
theorem rightLess_no (r : Rgt) (rd wr st : Bool) (w : World) (h : ¬ rgtOk r = true) :
    Calls Tryz.prog 19 #[r.val, .bool rd, .bool wr, .bool st] w fun e w' => e = .returned (less r rd wr st).val ∧ Below w.heap.size w w' := by
  rw [show less r rd wr st = Rgt.null from by simp [less, h]]
  go_enter Tryz.func19, Tryz.ntmps19
  go_wp2_with (first
    | (go_at_call 40; refine (rightOk_c ⟨_, _, _, _, _⟩ _).mono ?_; rintro e w1 ⟨rfl, hb1⟩; obtain ⟨hc1, hf1⟩ := bcell hb1; have hz0 : w.heap.size < w1.heap.size := (by have := hb1.size; (try simp at this); omega); have hz1 : w.heap.size + 1 < w1.heap.size := (by have := hb1.size; (try simp at this); omega)))
  refine bodyPost_ret (v := Rgt.val Rgt.null) ?_ rfl ⟨rfl, (by (repeat (with_reducible first | exact Below.refl _ _ | refine Below.alloc ?_ ?_ _ | refine below_drewN ?_ _ | refine Below.drew ?_ | refine Below.setCell ?_ ?_ _ | refine Below.trans ?_ (Below.mono (by assumption) ?_))) <;> (first | omega | (simp; try omega)))⟩
  simp [results, Tryz.results19, go_sem, *, Rgt.null]

set_option maxHeartbeats 400000 in
theorem rightLess_null (r : Rgt) (rd wr st : Bool) (w : World) (h : rgtOk r = true) (h0 : r.thing = 0) :
    Calls Tryz.prog 19 #[r.val, .bool rd, .bool wr, .bool st] w fun e w' => e = .returned (less r rd wr st).val ∧ Below w.heap.size w w' := by
  have hr : r = Rgt.null := by simpa [rgtOk, h0] using h
  rw [show less r rd wr st = Rgt.null from by rw [hr]; simp [less, less1, Rgt.null]]
  have Hv := Lib.hid (capV_null (r := ⟨r.thing, r.vers, r.rd, r.wr, r.wk⟩) h0)
  clear h0 hr
  have hm : ∀ w, (method 289 107 (.agg #[]) "loop.example/drawbar/impl.less").run Tryz.prog w = .ok (140, .agg #[]) w := fun _ => by kernel_rfl
  have hn : ∀ w, (nilAhead 289 107 (.agg #[]) "loop.example/drawbar/impl.less").run Tryz.prog w = .ok (some false) w := fun _ => by kernel_rfl
  go_enter Tryz.func19, Tryz.ntmps19
  go_wp2_with (first
    | (go_at_call 40; refine (rightOk_c ⟨_, _, _, _, _⟩ _).mono ?_; rintro e w1 ⟨rfl, hb1⟩; obtain ⟨hc1, hf1⟩ := bcell hb1; have hz0 : w.heap.size < w1.heap.size := (by have := hb1.size; (try simp at this); omega); have hz1 : w.heap.size + 1 < w1.heap.size := (by have := hb1.size; (try simp at this); omega))
    | (go_at_call 44; refine (capabilityOf_c ⟨_, _, _, _, _⟩ _).mono ?_; rintro e w1 ⟨rfl, hb1⟩; rw [Hv.out]; obtain ⟨hc1, hf1⟩ := bcell hb1; have hz0 : w.heap.size < w1.heap.size := (by have := hb1.size; (try simp at this); omega); have hz1 : w.heap.size + 1 < w1.heap.size := (by have := hb1.size; (try simp at this); omega))
    | (go_at_call 140; refine (emptyLess_c _ _ _ _).mono ?_; rintro e w1 ⟨rfl, hb1⟩; obtain ⟨hc1, hf1⟩ := bcell hb1; have hz0 : w.heap.size < w1.heap.size := (by have := hb1.size; (try simp at this); omega); have hz1 : w.heap.size + 1 < w1.heap.size := (by have := hb1.size; (try simp at this); omega)))
  refine bodyPost_ret (v := Rgt.val Rgt.null) ?_ rfl ⟨rfl, (by (repeat (with_reducible first | exact Below.refl _ _ | refine Below.alloc ?_ ?_ _ | refine below_drewN ?_ _ | refine Below.drew ?_ | refine Below.setCell ?_ ?_ _ | refine Below.trans ?_ (Below.mono (by assumption) ?_))) <;> (first | omega | (simp; try omega)))⟩
  simp [results, Tryz.results19, go_sem, *, Rgt.null]

set_option maxHeartbeats 400000 in
theorem rightLess_obj (r : Rgt) (rd wr st : Bool) (w : World) (h : rgtOk r = true) (h0 : ¬ r.thing = 0) :
    Calls Tryz.prog 19 #[r.val, .bool rd, .bool wr, .bool st] w fun e w' => e = .returned (less r rd wr st).val ∧ Below w.heap.size w w' := by
  rw [show less r rd wr st = less1 r rd wr st from by simp [less, h]]
  have Hv := Lib.hid (capV_obj (r := ⟨r.thing, r.vers, r.rd, r.wr, r.wk⟩) h0)
  have hm : ∀ w, (method 289 109 (.agg #[.int .i64 r.thing, .int .i64 r.vers, .bool r.rd, .bool r.wr, .bool r.wk]) "loop.example/drawbar/impl.less").run Tryz.prog w = .ok (142, .agg #[.int .i64 r.thing, .int .i64 r.vers, .bool r.rd, .bool r.wr, .bool r.wk]) w := fun _ => by kernel_rfl
  have hn : ∀ w, (nilAhead 289 109 (.agg #[.int .i64 r.thing, .int .i64 r.vers, .bool r.rd, .bool r.wr, .bool r.wk]) "loop.example/drawbar/impl.less").run Tryz.prog w = .ok (some false) w := fun _ => by kernel_rfl
  go_enter Tryz.func19, Tryz.ntmps19
  go_wp2_with (first
    | (go_at_call 40; refine (rightOk_c ⟨_, _, _, _, _⟩ _).mono ?_; rintro e w1 ⟨rfl, hb1⟩; obtain ⟨hc1, hf1⟩ := bcell hb1; have hz0 : w.heap.size < w1.heap.size := (by have := hb1.size; (try simp at this); omega); have hz1 : w.heap.size + 1 < w1.heap.size := (by have := hb1.size; (try simp at this); omega))
    | (go_at_call 44; refine (capabilityOf_c ⟨_, _, _, _, _⟩ _).mono ?_; rintro e w1 ⟨rfl, hb1⟩; rw [Hv.out]; obtain ⟨hc1, hf1⟩ := bcell hb1; have hz0 : w.heap.size < w1.heap.size := (by have := hb1.size; (try simp at this); omega); have hz1 : w.heap.size + 1 < w1.heap.size := (by have := hb1.size; (try simp at this); omega))
    | (go_at_call 142; refine (objLess_c ⟨_, _, _, _, _⟩ _ _ _ _ (by assumption)).mono ?_; rintro e w1 ⟨rfl, hb1⟩; obtain ⟨hc1, hf1⟩ := bcell hb1; have hz0 : w.heap.size < w1.heap.size := (by have := hb1.size; (try simp at this); omega); have hz1 : w.heap.size + 1 < w1.heap.size := (by have := hb1.size; (try simp at this); omega)))
  refine bodyPost_ret (v := Rgt.val (less1 r rd wr st)) ?_ rfl ⟨rfl, (by (repeat (with_reducible first | exact Below.refl _ _ | refine Below.alloc ?_ ?_ _ | refine below_drewN ?_ _ | refine Below.drew ?_ | refine Below.setCell ?_ ?_ _ | refine Below.trans ?_ (Below.mono (by assumption) ?_))) <;> (first | omega | (simp; try omega)))⟩
  simp [results, Tryz.results19, go_sem, *]

theorem rightLess_c (r : Rgt) (rd wr st : Bool) (w : World) :
    Calls Tryz.prog 19 #[r.val, .bool rd, .bool wr, .bool st] w fun e w' => e = .returned (less r rd wr st).val ∧ Below w.heap.size w w' := by
  by_cases h : rgtOk r = true
  · by_cases h0 : r.thing = 0
    · exact rightLess_null r rd wr st w h h0
    · exact rightLess_obj r rd wr st w h h0
  · exact rightLess_no r rd wr st w h

end Go.Proofs.YtiolplhgpodifaaGreat
