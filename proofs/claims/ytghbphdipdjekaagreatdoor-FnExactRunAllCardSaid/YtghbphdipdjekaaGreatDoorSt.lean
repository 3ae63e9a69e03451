/- The reference's finding of what can be come to have: a step. Conditions: what is read lies where its cells say. -/
import Derived.Test.YtghbphdipdjekaaGreatDoorSr
set_option linter.unusedVariables false
set_option linter.unusedSimpArgs false

namespace Go.Proofs.YtghbphdipdjekaaGreatDoor
open Go.RowKit Drw
attribute [local go_sem] Lab.val Rgt.val Cal.val Thg.val

/-- Rows of rights, in a block of their own. -/
structure AllAt (w : World) (A o : Nat) (a : List (List Rgt)) : Prop where
  lt : A < w.heap.size
  fr : ∀ j, w.frozen? ⟨A, j, none⟩ = false
  row : ∀ (k : Nat) (l : List Rgt), a[k]? = some l → ∃ q c, w.cell? ⟨A, o + k, none⟩ = some (.slice q l.length c) ∧ RgtsAt w (.slice q l.length c) l ∧ (Value.slice q l.length c).ownBlock ≠ some A
theorem AllAt.pure {w w' : World} {A o : Nat} {a : List (List Rgt)} (h : AllAt w A o a) (hb : Below w.heap.size w w') : AllAt w' A o a := by
  obtain ⟨hc, hf⟩ := bcell hb
  refine ⟨Nat.lt_of_lt_of_le h.lt hb.size, fun j => (hf _ _ h.lt).trans (h.fr j), fun k l hk => ?_⟩
  obtain ⟨q, c, h1, h2, h3⟩ := h.row k l hk
  exact ⟨q, c, (hc _ _ h.lt).trans h1, h2.pure hb, h3⟩
theorem rgts_far {w : World} {q : Option Addr} {n c A : Nat} {l : List Rgt} (h : RgtsAt w (.slice q n c) l) (hA : (Value.slice q n c).ownBlock ≠ some A) (p : Addr) (hp : p.block = A) (u : Value) : RgtsAt (w.setCell p u) (.slice q n c) l :=
  Rows.kept h ((Chg.refl (fun b => b = A) w).setCell hp u) (.inr fun k hk e => hA (by rw [hk, e]))
theorem AllAt.put {w : World} {A o : Nat} {a : List (List Rgt)} (h : AllAt w A o a) {i : Nat} (hi : i < a.length) {q : Option Addr} {c : Nat} {l : List Rgt} (hl : RgtsAt w (.slice q l.length c) l) (hA : (Value.slice q l.length c).ownBlock ≠ some A) :
    AllAt (w.setCell ⟨A, o + i, none⟩ (.slice q l.length c)) A o (a.set i l) := by
  have hch : Chg (fun b => b = A) w (w.setCell ⟨A, o + i, none⟩ (.slice q l.length c)) := (Chg.refl (fun b => b = A) w).setCell (S := fun b => b = A) (p := ⟨A, o + i, none⟩) rfl _
  refine ⟨Nat.lt_of_lt_of_le h.lt hch.size, fun j => by simp [h.fr j], fun k l' hk => ?_⟩
  rw [List.getElem?_set] at hk
  by_cases hki : i = k
  · subst hki
    rw [if_pos rfl, if_pos hi] at hk
    cases hk
    obtain ⟨q0, c0, h1, -, -⟩ := h.row i _ (List.getElem?_eq_getElem hi)
    exact ⟨q, c, by simp [cell_set, h1, h.fr], rgts_far hl hA _ rfl _, hA⟩
  · rw [if_neg hki] at hk
    obtain ⟨q0, c0, h1, h2, h3⟩ := h.row k l' hk
    exact ⟨q0, c0, by simp [cell_set, h1], rgts_far h2 h3 _ rfl _, h3⟩
theorem AllAt.at' {w : World} {A o : Nat} {a : List (List Rgt)} (h : AllAt w A o a) {i : Nat} (hi : i < a.length) : ∃ q c, w.cell? ⟨A, o + i, none⟩ = some (.slice q (rowA a i).length c) ∧ RgtsAt w (.slice q (rowA a i).length c) (rowA a i) ∧ (Value.slice q (rowA a i).length c).ownBlock ≠ some A := by
  have e : a[i]? = some (rowA a i) := by simp [rowA, List.getElem?_eq_getElem hi]
  exact h.row i _ e
end Go.Proofs.YtghbphdipdjekaaGreatDoor
