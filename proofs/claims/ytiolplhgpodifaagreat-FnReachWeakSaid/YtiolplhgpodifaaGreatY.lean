/- impl.copyList, copyThing, copyTable: a table anew, in memory of its own. Conditions: the table lies where its cells say; its rows are short. -/
import Derived.Test.YtiolplhgpodifaaGreatChecked
import Derived.Test.YtiolplhgpodifaaGreatAct
import Derived.WalkLawsBesides
import Derived.LoopTactic
import Derived.Laws.MakeOwn
set_option linter.unusedVariables false
set_option linter.unusedSimpArgs false
namespace Go.Proofs.YtiolplhgpodifaaGreat
open Go.RowKit Drw
attribute [local go_sem] Lab.val Rgt.val Cal.val Thg.val

theorem info_rgt : (Tryz.prog.info? 35).map (fun i => (i.zero, i.size, i.bytes)) = some (some (.agg #[.int .i64 0, .int .i64 0, .bool false, .bool false, .bool false]), 5, 24) := by kernel_rfl
theorem info_int : (Tryz.prog.info? 3).map (fun i => (i.zero, i.size, i.bytes)) = some (some (.int .i64 0), 1, 8) := by kernel_rfl

theorem info_thg : (Tryz.prog.info? 33).map (fun i => (i.zero, i.size, i.bytes)) = some (some (.agg #[.int .i64 0, .int .i64 0, .int .i64 0, .int .i64 0, .int .i64 0, .slice none 0 0, .slice none 0 0, .int .i64 0]), 8, 96) := by kernel_rfl
theorem makeThgs (n : Nat) (hn : n ≤ 65536) (w : World) : (Instr.makeSlice 23 (.int .i64 (n : Int)) (.int .i64 (n : Int))).run Tryz.prog w = .ok (.slice (some ⟨w.heap.size, 0, none⟩) n n) (w.alloc (.cells (madeCells (Value.agg #[.int .i64 0, .int .i64 0, .int .i64 0, .int .i64 0, .int .i64 0, .slice none 0 0, .slice none 0 0, .int .i64 0]).cells (n * 8)) 33)) := by
  obtain ⟨i0, hi, hz0, hz1, hz2⟩ := info_parts info_thg
  have := run_make (P := Tryz.prog) w 23 33 i0 _ Tryz.underlying23 hi hz0 .i64 .i64 (n : Int) (n : Int) (by omega) (by omega) (by rw [hz2]; omega) (by omega)
  rw [hz1] at this
  simpa using this

/-- All rows of a table's things are short. -/
def Short (ts : List Thg) : Prop := ∀ t ∈ ts, t.slots.length ≤ 65536 ∧ t.queue.length ≤ 65536
theorem short_of_tab {ts : List Thg} (h : tabOk ts = true) : Short ts := fun t ht => by
  obtain ⟨i, hi, rfl⟩ := mem_getT ht
  have ho := tab_thgOk h hi
  have hq := (queue_bd ho).1
  refine ⟨?_, by omega⟩
  by_cases hk : (getT ts i).kind = 2 ∨ (getT ts i).kind = 3
  · rw [slots_len ho hk]; omega
  · rw [slots_none ho hk]; simp

end Go.Proofs.YtiolplhgpodifaaGreat

/- spec.l3Copy. Conditions: the table lies where its cells say; its rows are short. -/
namespace Go.Proofs.YtiolplhgpodifaaGreat
open Go.RowKit Drw
attribute [local go_sem] Lab.val Rgt.val Cal.val Thg.val

theorem own_lit {w : World} {B e s : Nat} (k : Nat) (hk : w.heap.size = k) (hB : B ≤ k) : (w.alloc (.cells #[] e)).ownsRow B e s (.slice (some ⟨k, 0, none⟩) 0 0) 0 [] := by
  subst hk
  exact World.ownsRow_made w #[] 0 hB (by simp [maxLen]) (by simp)

end Go.Proofs.YtiolplhgpodifaaGreat
