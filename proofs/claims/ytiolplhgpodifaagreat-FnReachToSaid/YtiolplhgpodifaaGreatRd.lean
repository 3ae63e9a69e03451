/- The reader of drawn bytes, as it lies in memory; no program is named. Conditions: none. -/
import Derived.Test.YtiolplhgpodifaaGreatAct
import Derived.Laws.BitsAllLaws
set_option linter.unusedVariables false
set_option linter.unusedSimpArgs false

namespace Drw
open Go Go.RowKit

/-- The reader at R has done no more than N picks; its bytes lie below it. -/
def Rd (w : World) (R N : Nat) : Prop := ∃ q n cap p, w.cell? ⟨R, 0, none⟩ = some (.slice q n cap) ∧ w.cell? ⟨R, 1, none⟩ = some (.int .i64 ((p : Nat) : Int)) ∧ p ≤ N ∧ n ≤ 2000 ∧ (∀ j, w.frozen? ⟨R, j, none⟩ = false) ∧
  ∀ i, i < n → ∃ b o, ∃ x : Nat, q = some ⟨b, o, none⟩ ∧ b < R ∧ w.cell? ⟨b, o + i, none⟩ = some (.int .u8 (x : Int)) ∧ x < 256

theorem Rd.lt {w : World} {R N : Nat} (h : Rd w R N) : R < w.heap.size := by
  obtain ⟨q, n, cap, p, h0, -⟩ := h
  exact World.block_lt_of_cell? w _ h0
theorem Rd.mono {w : World} {R N M : Nat} (h : Rd w R N) (hM : N ≤ M) : Rd w R M := by
  obtain ⟨q, n, cap, p, h0, h1, h2, h3⟩ := h
  exact ⟨q, n, cap, p, h0, h1, by omega, h3⟩
theorem Rd.chg {w w' : World} {R N : Nat} {S : Nat → Prop} (h : Rd w R N) (hg : Chg S w w') (hS : ∀ b, b ≤ R → ¬ S b) : Rd w' R N := by
  have hR := h.lt
  obtain ⟨q, n, cap, p, h0, h1, h2, h3, hf, h4⟩ := h
  refine ⟨q, n, cap, p, hg.cell h0 (hS _ (Nat.le_refl _)), hg.cell h1 (hS _ (Nat.le_refl _)), h2, h3, fun j => ?_, fun i hi => ?_⟩
  · rw [← hf j]; exact World.frozen?_of_block (w := w) (hg.block R hR (hS R (Nat.le_refl _)))
  · obtain ⟨b, o, x, e, hb, hc, hx⟩ := h4 i hi
    exact ⟨b, o, x, e, hb, hg.cell hc (hS _ (by show b ≤ R; omega)), hx⟩
theorem Rd.pure {w w' : World} {R N : Nat} (h : Rd w R N) (hg : Below w.heap.size w w') : Rd w' R N := h.chg (S := fun _ => False) (Chg.of_pure hg) (fun _ _ => id)
theorem Rd.set {w : World} {R N : Nat} {p : Nat} (h : Rd w R N) {v : Value} (hv : v = .int .i64 ((p : Nat) : Int)) (hp : p ≤ N + 1) : Rd (w.setCell ⟨R, 1, none⟩ v) R (N + 1) := by
  subst hv
  obtain ⟨q, n, cap, p', h0, h1, h2, h3, hf, h4⟩ := h
  refine ⟨q, n, cap, p, ?_, ?_, hp, h3, fun j => by simp [hf], fun i hi => ?_⟩
  · rw [cell_set, if_neg (by simp)]; exact h0
  · rw [cell_set, if_pos rfl, h1]; rfl
  · obtain ⟨b, o, x, e, hb, hc, hx⟩ := h4 i hi
    exact ⟨b, o, x, e, hb, by rw [cell_set, if_neg (by intro e; simp only [Addr.mk.injEq] at e; omega)]; exact hc, hx⟩

theorem xor_i64 (a b : Nat) (ha : a < 2 ^ 62) (hb : b < 2 ^ 62) : bits .xor .i64 (a : Int) (b : Int) = ((a ^^^ b : Nat) : Int) ∧ a ^^^ b < 2 ^ 62 := by
  have hx : a ^^^ b < 2 ^ 62 := Nat.xor_lt_two_pow ha hb
  refine ⟨?_, hx⟩
  have h1 : (BitVec.ofInt 64 (a : Int)).toNat = a := by
    rw [BitVec.toNat_ofInt]; omega
  have h2 : (BitVec.ofInt 64 (b : Int)).toNat = b := by
    rw [BitVec.toNat_ofInt]; omega
  show IntKind.i64.wrap (((BitVec.ofInt 64 (a : Int)) ^^^ (BitVec.ofInt 64 (b : Int))).toNat : Int) = _
  rw [BitVec.toNat_xor, h1, h2]
  exact IntWalk.i64_in _ (by omega)

theorem Chg.setNew {S : Nat → Prop} {a w : World} (h : Chg S a w) {p : Addr} (hp : a.heap.size ≤ p.block) (u : Value) : Chg S a (w.setCell p u) := by
  have g : Chg (fun b => b = p.block) w (w.setCell p u) := Chg.setCell (S := fun b => b = p.block) (Chg.refl _ _) rfl u
  exact ⟨g.os.trans h.os, g.tape.trans h.tape, g.output.trans h.output, Nat.le_trans h.size g.size, fun k hk hs => (g.block k (Nat.lt_of_lt_of_le hk h.size) (by omega)).trans (h.block k hk hs)⟩
theorem Rd.setNew {w : World} {R N : Nat} (h : Rd w R N) {p : Addr} (hp : R < p.block) (u : Value) : Rd (w.setCell p u) R N :=
  h.chg (S := fun b => b = p.block) (Chg.setCell (S := fun b => b = p.block) (Chg.refl _ _) rfl u) (fun b hb => by omega)

end Drw

/- A table made by appends, of drawn things: what a round has come to. Conditions: none; no program is named. -/
namespace Drw
open Go Go.RowKit

theorem SCopy.stepC {S : Nat → Prop} {B E E1 E2 j : Nat} {v v' : Value} {ts : List Thg} {wr w2 w3 : World} {t : Thg} {sv qv : Value} {xs : List Thx} {tag : Nat → Nat} (h1 : xs.map (·.1) = ts.take j) (h2 : wr.ownsRow B E 8 v j ((xs.map Thx.cells).flatten)) (h3 : SRows B E1 E2 xs tag wr) (h01 : E1 ≠ E) (h02 : E2 ≠ E) (h12 : E1 ≠ E2) (ht : ts[j]? = some t) (hb : Chg S wr w2) (hSB : ∀ b, B ≤ b → b < wr.heap.size → ¬ S b) (hB : B ≤ wr.heap.size)
    (hs : w2.ownsRow wr.heap.size E1 5 sv t.slots.length ((t.slots.map Rgt.cells).flatten)) (hq : w2.ownsRow wr.heap.size E2 1 qv t.queue.length ((t.queue.map intCells).flatten))
    (happ : w3.ownsRow B E 8 v' (j + 1) ((xs.map Thx.cells).flatten ++ Thg.cells t sv qv)) (hg : w2.grownBy w3 v.ownBlock) : SCopy B E E1 E2 v' ts (j + 1) w3 := by
  have hj : xs.length = j := by
    have := congrArg List.length h1
    have := (List.getElem?_eq_some_iff.1 ht).1
    simp at *; omega
  have h2' := own_chg h2 hb hSB
  refine ⟨xs ++ [(t, sv, qv)], fun b => if b < wr.heap.size then tag b else if sv.ownBlock = some b then 2 * j + 1 else 2 * j + 2, ?_, ?_, ?_⟩
  · rw [List.map_append, h1, take_one ht]; rfl
  · simpa [Thx.cells] using happ
  · have low : ∀ {b : Nat}, wr.heap.size ≤ b → ∀ (P : Prop), b < wr.heap.size → P := fun h P h' => absurd h' (by omega)
    intro i x hx
    rw [List.getElem?_append] at hx
    split at hx
    · obtain ⟨⟨a1, a2⟩, a3, a4⟩ := h3 i x hx
      have b1 := own_chg a1 hb hSB
      have b3 := own_chg a3 hb hSB
      refine ⟨⟨b1.kept hg (own_ne b1 h2' h01), fun b e => ?_⟩, b3.kept hg (own_ne b3 h2' h02), fun b e => ?_⟩
      · dsimp only; rw [if_pos (a1.lt b e).2]; exact a2 b e
      · dsimp only; rw [if_pos (a3.lt b e).2]; exact a4 b e
    · have hi : i - xs.length = 0 := by
        have := (List.getElem?_eq_some_iff.1 hx).1
        simp at this; omega
      rw [hi] at hx
      simp only [List.getElem?_cons_zero, Option.some.injEq] at hx
      subst hx
      have hij : i = j := by omega
      subst hij
      have mono : ∀ {e s n : Nat} {u : Value} {l : List Value}, w3.ownsRow wr.heap.size e s u n l → w3.ownsRow B e s u n l := by
        intro e s n u l h
        refine ⟨h.1, ?_⟩
        rcases h.2 with h | ⟨g, cap, cur, q1, q2, q3⟩
        · exact .inl h
        · exact .inr ⟨g, cap, cur, q1, Nat.le_trans hB q2, q3⟩
      refine ⟨⟨mono (hs.kept hg (own_ne hs h2' h01)), fun b e => ?_⟩, mono (hq.kept hg (own_ne hq h2' h02)), fun b e => ?_⟩
      · have := (hs.lt b e).1
        dsimp only; rw [if_neg (by omega), if_pos e]
      · have := (hq.lt b e).1
        dsimp only; rw [if_neg (by omega), if_neg]
        intro e2
        rcases own_ne hs hq h12 with h | h
        · rw [h] at e2; cases e2
        · exact h (e2.trans e.symm)


theorem own_keep {w w' : World} {S : Nat → Prop} {B e s n : Nat} {v : Value} {xs : List Value} (h : w.ownsRow B e s v n xs) (hg : Chg S w w') (hS : ∀ k, v.ownBlock = some k → ¬ S k) : w'.ownsRow B e s v n xs := by
  refine ⟨h.1, ?_⟩
  rcases h.2 with h1 | ⟨g, cap, cur, rfl, q1, q2, q3⟩
  · exact .inl h1
  · have hlt : g < w.heap.size := (h.lt g rfl).2
    exact .inr ⟨g, cap, cur, rfl, q1, by rw [hg.block g hlt (hS g rfl)]; exact q2, q3⟩
theorem typeAt_chg {w w' : World} {S : Nat → Prop} (hg : Chg S w w') {b e : Nat} (h : typeAt w b = some e) (hS : ¬ S b) : typeAt w' b = some e := by
  have hb : b < w.heap.size := by
    apply Classical.byContradiction
    intro hn
    simp [typeAt, Array.getElem?_eq_none (Nat.le_of_not_lt hn)] at h
  unfold typeAt
  rw [hg.block b hb hS]
  exact h
theorem typeAt_setCell (w : World) (p : Addr) (u : Value) (b : Nat) : typeAt (w.setCell p u) b = typeAt w b := by
  have e : ∃ f : Obj → Obj, (∀ o, (match f o with | .cells _ e _ => some e | _ => (none : Option Nat)) = (match o with | .cells _ e _ => some e | _ => none)) ∧ (w.setCell p u).heap[b]? = if p.block = b then (w.heap[b]?).map f else w.heap[b]? := by
    refine ⟨_, ?_, by simp only [World.setCell, Array.getElem?_modify]; rfl⟩
    intro o
    cases o <;> rfl
  obtain ⟨f, hf, e⟩ := e
  unfold typeAt
  rw [e]
  by_cases hp : p.block = b
  · rw [if_pos hp]
    cases ho : w.heap[b]? with
    | none => rfl
    | some o =>
      have h1 := hf o
      simp only [Option.map_some]
      generalize f o = y at h1 ⊢
      cases o <;> cases y <;> exact h1
  · rw [if_neg hp]
theorem typeAt_new (w : World) (cs : Array Value) (e : Nat) : typeAt (w.alloc (.cells cs e)) w.heap.size = some e := by
  unfold typeAt; rw [heap_alloc_new]
theorem own_block_ne {w : World} {B e e' s n b : Nat} {v : Value} {xs : List Value} (h : w.ownsRow B e s v n xs) (hb : typeAt w b = some e') (he : e ≠ e') : ∀ k, v.ownBlock = some k → k ≠ b := by
  intro k hk e1
  subst e1
  rw [own_type h hk] at hb
  exact he (by simpa using hb)

theorem Chg.grownNew {S : Nat → Prop} {a w w' : World} {row : Option Nat} (h : Chg S a w) (hg : w.grownBy w' row) (hn : ∀ k, row = some k → a.heap.size ≤ k) : Chg S a w' := by
  have g := Chg.of_grown hg
  exact ⟨g.os.trans h.os, g.tape.trans h.tape, g.output.trans h.output, Nat.le_trans h.size g.size, fun k hk hs => (g.block k (Nat.lt_of_lt_of_le hk h.size) (fun e => by have := hn k e.symm; omega)).trans (h.block k hk hs)⟩
theorem own_ne' {w : World} {B B' e e' s s' n n' : Nat} {v v' : Value} {xs xs' : List Value} (h : w.ownsRow B e s v n xs) (h' : w.ownsRow B' e' s' v' n' xs') (he : e ≠ e') : ∀ k, v.ownBlock = some k → ¬ some k = v'.ownBlock := by
  intro k hk e1
  rcases own_ne h h' he with h1 | h1
  · rw [h1] at hk; cases hk
  · exact h1 (hk.trans e1)

end Drw
