/- A key of a set of rights is a right. -/
import Derived.Test.YtiolplhgpodifaaGreatMb
set_option linter.unusedVariables false
set_option linter.unusedSimpArgs false
namespace Go.Proofs.YtiolplhgpodifaaGreat
open Go.RowKit Drw
theorem kLitI_inv {D : Nat} {v : Value} {l : List Lit} (h : Tryz.prog.keyLits D 3 [v] = some l) : ∃ n, v = .int .i64 n ∧ (Lit.int .i64 n).wf = true := by
  cases D with
  | zero => simp [Program.keyLits] at h
  | succ D =>
    unfold Program.keyLits at h
    cases v <;> simp [Tryz.underlying3] at h
    obtain ⟨⟨rfl, hw⟩, -⟩ := h
    exact ⟨_, rfl, hw⟩
theorem kLitB_inv {D : Nat} {v : Value} {l : List Lit} (h : Tryz.prog.keyLits D 4 [v] = some l) : ∃ b, v = .bool b := by
  cases D with
  | zero => simp [Program.keyLits] at h
  | succ D =>
    unfold Program.keyLits at h
    cases v <;> simp [Tryz.underlying4] at h
    exact ⟨_, rfl⟩
theorem kLitsR_inv {D : Nat} {a b c d e : Value} {l : List Lit} (h : Tryz.prog.keyLits (D + 1) 35 [a, b, c, d, e] = some l) : ∃ r, RgtW r ∧ #[a, b, c, d, e] = #[.int .i64 r.thing, .int .i64 r.vers, .bool r.rd, .bool r.wr, .bool r.wk] := by
  unfold Program.keyLits at h
  simp [Tryz.underlying35, rgtCellsOf, rgtI64, rgtBool] at h
  cases ha : Tryz.prog.keyLits D 3 [a] with
  | none => simp [ha] at h
  | some la =>
  cases hb : Tryz.prog.keyLits D 3 [b] with
  | none => simp [ha, hb] at h
  | some lb =>
  cases hc : Tryz.prog.keyLits D 4 [c] with
  | none => simp [ha, hb, hc] at h
  | some lc =>
  cases hd : Tryz.prog.keyLits D 4 [d] with
  | none => simp [ha, hb, hc, hd] at h
  | some ld =>
  cases he : Tryz.prog.keyLits D 4 [e] with
  | none => simp [ha, hb, hc, hd, he] at h
  | some le =>
  obtain ⟨n, rfl, hn⟩ := kLitI_inv ha
  obtain ⟨m, rfl, hm⟩ := kLitI_inv hb
  obtain ⟨x, rfl⟩ := kLitB_inv hc
  obtain ⟨y, rfl⟩ := kLitB_inv hd
  obtain ⟨z, rfl⟩ := kLitB_inv he
  exact ⟨⟨n, m, x, y, z⟩, ⟨hn, hm⟩, rfl⟩
theorem keyR_inv {v : Value} {l : Lit} (h : keyOf Tryz.prog 35 v = some l) : ∃ r, RgtW r ∧ v = r.val := by
  cases v <;> simp [keyOf, Tryz.underlying35, Value.formed, rgtCellsOf] at h
  rename_i xs
  obtain ⟨⟨-, h5⟩, ls, hl, -⟩ := h
  obtain ⟨a, b, c, d, e, rfl⟩ : ∃ a b c d e, xs = #[a, b, c, d, e] := by
    obtain ⟨xs⟩ := xs
    rcases xs with _ | ⟨a, _ | ⟨b, _ | ⟨c, _ | ⟨d, _ | ⟨e, _ | ⟨f, t⟩⟩⟩⟩⟩⟩ <;> simp at h5
    exact ⟨a, b, c, d, e, rfl⟩
  obtain ⟨r, hr, he⟩ := kLitsR_inv (by simpa [Value.cells] using hl)
  exact ⟨r, hr, by rw [he]; rfl⟩
theorem rgtW_ok {r : Rgt} (h : rgtOk r = true) : RgtW r := by
  have h1 := h
  simp only [rgtOk] at h1
  have hw : ∀ n : Int, 0 ≤ n → n ≤ 8 → (Lit.int .i64 n).wf = true := by
    intro n h0 h8
    obtain ⟨m, rfl⟩ : ∃ m : Nat, n = m := ⟨n.toNat, by omega⟩
    have : m ≤ 8 := by omega
    have hm : m = 0 ∨ m = 1 ∨ m = 2 ∨ m = 3 ∨ m = 4 ∨ m = 5 ∨ m = 6 ∨ m = 7 ∨ m = 8 := by omega
    rcases hm with rfl | rfl | rfl | rfl | rfl | rfl | rfl | rfl | rfl <;> decide
  split at h1
  · have e : r = Rgt.null := by simpa using h1
    subst e
    exact ⟨hw 0 (by decide) (by decide), hw 0 (by decide) (by decide)⟩
  · simp only [Bool.and_eq_true, inR, decide_eq_true_eq] at h1
    exact ⟨hw _ (by omega) (by omega), hw _ (by omega) (by omega)⟩
theorem unit_inv (v : Value) (y : DataW Unit × List MemPlace) (h : unitElem v = some y) : ∃ _ : Unit, v = .agg #[] := ⟨(), (unitElem_inv h).1⟩

/-- The rights of a set that a loop over it has still to come to. -/
def leftOf22 (left : Lit → Bool) (S : List Rgt) : List Rgt := S.filter (fun r => left (kR r))
end Go.Proofs.YtiolplhgpodifaaGreat
