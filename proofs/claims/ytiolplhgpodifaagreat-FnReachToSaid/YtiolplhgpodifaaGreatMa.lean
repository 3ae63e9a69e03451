/- Sets of rights as the program holds them: a pointer to a struct of one map. -/
import Derived.Test.YtiolplhgpodifaaGreatSb
import Derived.Maps.OwnSet
import Derived.Maps.Views
import Derived.DeepKeys4
set_option linter.unusedVariables false
set_option linter.unusedSimpArgs false

namespace Go.Proofs.YtiolplhgpodifaaGreat
open Go.RowKit Drw
attribute [local go_sem] Lab.val Rgt.val Cal.val Thg.val

theorem rgtKeyed : Go.Maps.Keyed Tryz.prog 35 :=
  .of_law (deep_law_laid (show laidOutB Tryz.prog = true by kernel_rfl) (m := 2) (by omega) (of_decide_eq_true (by kernel_rfl)) (by kernel_rfl) (by kernel_rfl))
/-- What a right reads as, as a key. -/
def kR (r : Rgt) : Lit := .string (keyBytes [.int .i64 r.thing, .int .i64 r.vers, .bool r.rd, .bool r.wr, .bool r.wk])
/-- A right whose numbers are numbers of the machine. -/
def RgtW (r : Rgt) : Prop := (Lit.int .i64 r.thing).wf = true ∧ (Lit.int .i64 r.vers).wf = true
theorem rgtKeyType : Tryz.prog.keyType 35 = true := by kernel_rfl
theorem rgtCellsOf : Tryz.prog.cellsOf 35 = 5 := by kernel_rfl
theorem rgtI64 : Tryz.prog.cellsOf 3 = 1 := by kernel_rfl
theorem rgtBool : Tryz.prog.cellsOf 4 = 1 := by kernel_rfl
theorem kLitsR (D : Nat) {r : Rgt} (h : RgtW r) : Tryz.prog.keyLits (D + 2) 35 r.val.cells.toList = some [.int .i64 r.thing, .int .i64 r.vers, .bool r.rd, .bool r.wr, .bool r.wk] := by
  unfold Program.keyLits
  simp [Tryz.underlying35, rgtCellsOf, Rgt.val, Value.cells, rgtI64, rgtBool, Program.keyLits, Tryz.underlying3, Tryz.underlying4, h.1, h.2]
theorem keyR {r : Rgt} (h : RgtW r) : keyOf Tryz.prog 35 r.val = some (kR r) := by
  have hf : r.val.formed Tryz.prog 35 = true := by simp [Rgt.val, Value.formed, Tryz.underlying35, rgtCellsOf]
  simp [keyOf, Tryz.underlying35, rgtKeyType, hf, kR]
  exact ⟨_, kLitsR _ h, rfl⟩
theorem kR_inj {r s : Rgt} (hr : RgtW r) (hs : RgtW s) (h : kR r = kR s) : r = s := by
  have := rgtKeyed.inj (keyR hr) (by rw [h]; exact keyR hs)
  obtain ⟨r1, r2, r3, r4, r5⟩ := r
  obtain ⟨s1, s2, s3, s4, s5⟩ := s
  simpa [Rgt.val] using this
theorem kR_key (r : Rgt) : WideAt.IsKeyLit (kR r) := trivial

/-- A set of rights: a struct of one map; S tells its rights, each once. -/
structure SetAt (w : World) (s b : Nat) (S : List Rgt) : Prop where
  cell : w.cell? ⟨s, 0, none⟩ = some (.map (some b))
  map : ∃ D, w.ownsMap Tryz.prog 35 (unitElem (H := Unit)) b S.length D ∧ ∀ r, RgtW r → (Maps.has D (kR r) = true ↔ r ∈ S)
  wide : ∀ r ∈ S, RgtW r
  nodup : S.Nodup

set_option maxRecDepth 100000 in
theorem newSet_c (w : World) :
    Calls Tryz.prog 61 #[] w fun e w' => ∃ s b, e = .returned (.pointer (some ⟨s, 0, none⟩)) ∧ w.heap.size ≤ s ∧ w.heap.size ≤ b ∧ s ≠ b ∧ SetAt w' s b [] ∧ Below w.heap.size w w' := by
  have hmm := @run_makeMap Tryz.prog
  go_enter Tryz.func61, Tryz.ntmps61
  go_wp2
  go_ret
  refine ⟨w.heap.size + 1, w.heap.size, rfl, by omega, by omega, by omega, ⟨by simp [go_sem], ⟨.map [], ?_, fun r _ => ?_⟩, by simp, by simp⟩, (by (repeat (with_reducible first | exact Below.refl _ _ | refine Below.alloc ?_ ?_ _ | refine below_drewN ?_ _ | refine Below.drew ?_ | refine Below.setCell ?_ ?_ _ | refine Below.trans ?_ (Below.mono (by assumption) ?_))) <;> (first | omega | (simp; try omega)))⟩
  · exact (World.ownsMap_made w _ _ _).alloc _
  · simp [Maps.has_eq]
theorem SetAt.same {w w' : World} {s b : Nat} {S : List Rgt} (h : SetAt w s b S) (e1 : w'.heap[s]? = w.heap[s]?) (e2 : w'.heap[b]? = w.heap[b]?) : SetAt w' s b S := by
  obtain ⟨hc, ⟨D, ⟨es, clock, hb, F, hs, hD⟩, hm⟩, hw, hn⟩ := h
  exact ⟨(World.cell?_of_block (w := w) e1).trans hc, ⟨D, ⟨es, clock, e2.trans hb, F, hs, hD⟩, hm⟩, hw, hn⟩
theorem SetAt.lt {w : World} {s b : Nat} {S : List Rgt} (h : SetAt w s b S) : s < w.heap.size ∧ b < w.heap.size := by
  obtain ⟨hc, ⟨D, hD, hm⟩, hw, hn⟩ := h
  refine ⟨?_, hD.lt⟩
  rcases Nat.lt_or_ge s w.heap.size with h | h
  · exact h
  · simp [World.cell?, Array.getElem?_eq_none h] at hc
theorem SetAt.pure {w w' : World} {s b : Nat} {S : List Rgt} (h : SetAt w s b S) (hb : Below w.heap.size w w') : SetAt w' s b S :=
  h.same (hb.block s h.lt.1) (hb.block b h.lt.2)

theorem mapUnder : Tryz.prog.underlying 119 = some (.map 35 106) := by kernel_rfl
theorem unitZero (w : World) : (zeroValue 106).run Tryz.prog w = .ok (.agg #[]) w := by kernel_rfl

end Go.Proofs.YtiolplhgpodifaaGreat
