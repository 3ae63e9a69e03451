/- A table whose rows of rights and numbers lie elsewhere: one row written anew. And what is owned, by its block. Conditions: none. -/
import Derived.Test.YthelfojlgcjgjaaGreatDoorAct
set_option linter.unusedVariables false
set_option linter.unusedSimpArgs false
namespace Go.Proofs.YthelfojlgcjgjaaGreatDoor
open Go.RowKit Drw

theorem own_some0 {w : World} {B e s n : Nat} {v : Value} {xs : List Value} (h : w.ownsRow B e s v n xs) (hn : 0 < n) : ∃ T o cap, o = 0 ∧ v = .slice (some ⟨T, o, none⟩) n cap ∧ B ≤ T ∧ T < w.heap.size ∧ n ≤ cap ∧ cap ≤ maxLen ∧ ∀ j, w.frozen? ⟨T, j, none⟩ = false := by
  have hh : Held w (fun b => B ≤ b) (fun _ => 0) 0 v := Held.of_own h fun b hb => ⟨(h.lt b hb).1, rfl⟩
  rcases h.2 with ⟨rfl, h0⟩ | ⟨g, cap, cur, rfl, hb, hg, hc, hm, hs, ht⟩
  · omega
  · obtain ⟨h1, -, h3, h4⟩ := hh g 0 n cap rfl hn
    exact ⟨g, 0, cap, rfl, rfl, h1, h3, hc, hm, h4⟩

theorem tabx_flat {w : World} {v : Value} {xs : List Thx} (h : TabX w v xs) : Flat 8 (xs.map Thx.cells) := flat_thx xs fun x hx => by
  obtain ⟨p, c, e, -, -⟩ := (h.2 x hx).1.len
  obtain ⟨q, d, e', -, -⟩ := (h.2 x hx).2.len
  exact ⟨⟨p, _, c, e⟩, q, _, d, e'⟩

/-- A row written. -/
theorem TabX.row {w0 w : World} {T o n cap : Nat} {xs : List Thx} (h : TabX w (.slice (some ⟨T, o, none⟩) n cap) xs) (h0 : ∀ x ∈ xs, ThxAt w0 x) (hb : Below w0.heap.size w0 w) (hT : w0.heap.size ≤ T) {i : Nat} (hi : i < xs.length) {t' : Thg} {sv qv : Value} (hx : ThxAt w0 (t', sv, qv)) :
    TabX ((((((((w.setCell ⟨T, o + i * 8, none⟩ (.int .i64 t'.kind)).setCell ⟨T, o + i * 8 + 1, none⟩ (.int .i64 t'.lab.s)).setCell ⟨T, o + i * 8 + 2, none⟩ (.int .i64 t'.lab.v)).setCell ⟨T, o + i * 8 + 3, none⟩ (.int .i64 t'.vers)).setCell ⟨T, o + i * 8 + 4, none⟩ (.int .i64 t'.num)).setCell ⟨T, o + i * 8 + 5, none⟩ sv).setCell ⟨T, o + i * 8 + 6, none⟩ qv).setCell ⟨T, o + i * 8 + 7, none⟩ (.int .i64 t'.to)) (.slice (some ⟨T, o, none⟩) n cap) (xs.set i (t', sv, qv)) := by
  obtain ⟨x, hxi⟩ : ∃ x, xs[i]? = some x := ⟨_, List.getElem?_eq_getElem hi⟩
  obtain ⟨b, o', e, c0, c1, c2, c3, c4, c5, c6, c7⟩ := h.at i x hxi
  cases e
  have hB : Below w0.heap.size w0 ((((((((w.setCell ⟨T, o + i * 8, none⟩ (.int .i64 t'.kind)).setCell ⟨T, o + i * 8 + 1, none⟩ (.int .i64 t'.lab.s)).setCell ⟨T, o + i * 8 + 2, none⟩ (.int .i64 t'.lab.v)).setCell ⟨T, o + i * 8 + 3, none⟩ (.int .i64 t'.vers)).setCell ⟨T, o + i * 8 + 4, none⟩ (.int .i64 t'.num)).setCell ⟨T, o + i * 8 + 5, none⟩ sv).setCell ⟨T, o + i * 8 + 6, none⟩ qv).setCell ⟨T, o + i * 8 + 7, none⟩ (.int .i64 t'.to)) :=
    (((((((hb.setCell hT _).setCell hT _).setCell hT _).setCell hT _).setCell hT _).setCell hT _).setCell hT _).setCell hT _
  have hcl : ∀ c ∈ xs.map Thx.cells, c.length ≤ 8 := fun c hc => Nat.le_of_eq ((tabx_flat h) c hc).1
  refine ⟨?_, fun y hy => ?_⟩
  · rw [List.map_set]
    refine h.1.put hcl ?_ ?_
    · intro j u hu
      rcases j with _ | _ | _ | _ | _ | _ | _ | _ | j
      all_goals (simp [Thx.cells, Thg.cells] at hu)
      all_goals (try subst hu)
      all_goals (simp [cell_set, c0, c1, c2, c3, c4, c5, c6, c7]; done)
    · intro off hoff
      repeat (rw [cell_set, if_neg (by intro e; simp only [Addr.mk.injEq] at e; omega)])
  · rcases List.mem_or_eq_of_mem_set hy with h1 | h1
    · exact (h0 y h1).pure hB
    · subst h1; exact hx.pure hB
end Go.Proofs.YthelfojlgcjgjaaGreatDoor
