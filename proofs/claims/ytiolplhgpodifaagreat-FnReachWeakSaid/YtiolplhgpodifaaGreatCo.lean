/- A table copied row by row, and a right written into it. Conditions: they lie where their cells say. -/
import Derived.Test.YtiolplhgpodifaaGreatRb
set_option linter.unusedVariables false
set_option linter.unusedSimpArgs false
namespace Go.Proofs.YtiolplhgpodifaaGreat
open Go.RowKit Drw
attribute [local go_sem] Lab.val Rgt.val Cal.val Thg.val

/-- Rows of things in a block of their own. -/
structure CopyAt (w : World) (g c : Nat) (xs : List Thx) : Prop where
  le : xs.length ≤ c
  max : c ≤ maxLen
  lt : g < w.heap.size
  fr : ∀ o, w.frozen? ⟨g, o, none⟩ = false
  cell : ∀ k x, xs[k]? = some x → ∀ j u, x.cells[j]? = some u → w.cell? ⟨g, k * 8 + j, none⟩ = some u
  th : ∀ x ∈ xs, ThxAt w x ∧ (x.1.slots = [] ∨ x.2.1.ownBlock ≠ some g) ∧ (x.1.queue = [] ∨ x.2.2.ownBlock ≠ some g)
theorem CopyAt.tab {w : World} {g c : Nat} {xs : List Thx} (h : CopyAt w g c xs) : TabAt w (.slice (some ⟨g, 0, none⟩) (xs.map (·.1)).length c) (xs.map (·.1)) := by
  refine ⟨xs, rfl, ⟨some ⟨g, 0, none⟩, c, by simp, by simpa using h.le, h.max, .inr ⟨g, 0, rfl, fun k cs hk j u hu => ?_⟩⟩, fun x hx => (h.th x hx).1⟩
  rw [List.getElem?_map] at hk
  obtain ⟨x, hx, rfl⟩ := Option.map_eq_some_iff.1 hk
  rw [Nat.zero_add]
  exact h.cell k x hx j u hu
theorem CopyAt.pure {w w' : World} {g c : Nat} {xs : List Thx} (h : CopyAt w g c xs) (hb : Below w.heap.size w w') : CopyAt w' g c xs :=
  ⟨h.le, h.max, Nat.lt_of_lt_of_le h.lt hb.size, fun o => ((bcell hb).2 _ _ h.lt).trans (h.fr o), fun k x hx j u hu => (hb.cell h.lt).trans (h.cell k x hx j u hu),
    fun x hx => ⟨⟨RgtsAt.pure (h.th x hx).1.1 hb, Rows.pure (h.th x hx).1.2 hb⟩, (h.th x hx).2⟩⟩
/-- The rights of one thing are put anew. -/
theorem CopyAt.put {w : World} {g c : Nat} {xs : List Thx} {i : Nat} {x : Thx} {rs : List Rgt} {q : Option Addr} {cc : Nat} (h : CopyAt w g c xs) (hx : xs[i]? = some x) (hR : RgtsAt w (.slice q rs.length cc) rs) (ho : (Value.slice q rs.length cc).ownBlock ≠ some g) :
    CopyAt (w.setCell ⟨g, i * 8 + 5, none⟩ (.slice q rs.length cc)) g c (xs.set i ({ x.1 with slots := rs }, .slice q rs.length cc, x.2.2)) := by
  have hch : Chg (fun b => b = g) w (w.setCell ⟨g, i * 8 + 5, none⟩ (.slice q rs.length cc)) := Chg.setCell (S := fun b => b = g) (Chg.refl _ _) (p := ⟨g, i * 8 + 5, none⟩) rfl _
  have hth : ∀ y, ThxAt w y → (y.1.slots = [] ∨ y.2.1.ownBlock ≠ some g) → (y.1.queue = [] ∨ y.2.2.ownBlock ≠ some g) → ThxAt (w.setCell ⟨g, i * 8 + 5, none⟩ (.slice q rs.length cc)) y := fun y h1 h2 h3 =>
    ⟨Rows.kept h1.1 hch (h2.imp (fun e => by rw [e]; rfl) (fun e k hk e' => e (by rw [hk, e']))), Rows.kept h1.2 hch (h3.imp (fun e => by rw [e]; rfl) (fun e k hk e' => e (by rw [hk, e'])))⟩
  have hxm := List.mem_of_getElem? hx
  refine ⟨by simpa using h.le, h.max, by simpa using h.lt, fun o => by simp [h.fr o], fun k y hk j u hu => ?_, fun y hy => ?_⟩
  · rw [List.getElem?_set] at hk
    by_cases hik : i = k
    · subst hik
      rw [if_pos rfl, if_pos ((List.getElem?_eq_some_iff.1 hx).1)] at hk
      cases hk
      by_cases hj : j = 5
      · subst hj
        have hu' : Value.slice q rs.length cc = u := by simpa [Thx.cells, Thg.cells] using hu
        have h5 : w.cell? ⟨g, i * 8 + 5, none⟩ = some x.2.1 := h.cell i x hx 5 _ (by simp [Thx.cells, Thg.cells])
        subst hu'
        simp [cell_set, h5, h.fr]
      · have : x.cells[j]? = some u := by
          rw [← hu]
          rcases j with _ | _ | _ | _ | _ | _ | _ | _ | j <;> first | rfl | exact absurd rfl hj | simp [Thx.cells, Thg.cells]
        have h1 := h.cell i x hx j u this
        have hne : ¬ (⟨g, i * 8 + j, none⟩ : Addr) = ⟨g, i * 8 + 5, none⟩ := fun e => hj (by injection e with _ e _; omega)
        simp [cell_set, h1, hne]
    · rw [if_neg hik] at hk
      have h1 := h.cell k y hk j u hu
      have hj8 : j < 8 := by
        have := (List.getElem?_eq_some_iff.1 hu).1
        simpa [Thx.cells, Thg.cells] using this
      have hne : ¬ (k * 8 + j = i * 8 + 5) := by omega
      simp [cell_set, h1, hne]
  · rcases List.mem_or_eq_of_mem_set hy with hy | rfl
    · exact ⟨hth y (h.th y hy).1 (h.th y hy).2.1 (h.th y hy).2.2, (h.th y hy).2⟩
    · exact ⟨⟨Rows.kept hR hch (.inr fun k hk e => ho (by rw [hk, e])), (hth x (h.th x hxm).1 (h.th x hxm).2.1 (h.th x hxm).2.2).2⟩, .inr ho, (h.th x hxm).2.2⟩
/-- The rights that one thing of the copy shows are written anew, in their own block. -/
theorem rgts_blk {w : World} {v : Value} {rs : List Rgt} {h : Nat} (hR : RgtsAt w v rs) (hh : w.heap.size ≤ h) : rs = [] ∨ v.ownBlock ≠ some h := by
  obtain ⟨p, cap, rfl, h1, h2⟩ := hR.len
  cases rs with
  | nil => exact .inl rfl
  | cons r rs =>
    right
    obtain ⟨b, o, rfl, hb, -⟩ := hR.at 0 r rfl
    intro e
    have e2 : b = h := by simpa [Value.ownBlock] using e
    omega
theorem ints_blk {w : World} {v : Value} {rs : List Int} {h : Nat} (hR : IntsAt w v rs) (hh : w.heap.size ≤ h) : rs = [] ∨ v.ownBlock ≠ some h := by
  obtain ⟨p, cap, rfl, h1, h2⟩ := hR.len
  cases rs with
  | nil => exact .inl rfl
  | cons r rs =>
    right
    obtain ⟨b, o, rfl, hb, -⟩ := hR.at 0 r rfl
    intro e
    have e2 : b = h := by simpa [Value.ownBlock] using e
    omega
theorem CopyAt.row {w w' : World} {g c h : Nat} {xs : List Thx} {i : Nat} {x : Thx} {rs : List Rgt} (H : CopyAt w g c xs) (hx : xs[i]? = some x) (hch : Chg (fun b => b = h) w w') (hgh : g ≠ h)
    (hoth : ∀ k y, k ≠ i → xs[k]? = some y → (y.1.slots = [] ∨ y.2.1.ownBlock ≠ some h) ∧ (y.1.queue = [] ∨ y.2.2.ownBlock ≠ some h)) (hq : x.1.queue = [] ∨ x.2.2.ownBlock ≠ some h)
    (hR : RgtsAt w' x.2.1 rs) (hxg : x.2.1.ownBlock ≠ some g) : CopyAt w' g c (xs.set i ({ x.1 with slots := rs }, x.2.1, x.2.2)) := by
  have hblk := hch.block g H.lt hgh
  have hx' := H.th x (List.mem_of_getElem? hx)
  refine ⟨by simpa using H.le, H.max, Nat.lt_of_lt_of_le H.lt hch.size, fun o => (World.frozen?_of_block (a := ⟨g, o, none⟩) hblk).trans (H.fr o), fun k y hk j u hu => ?_, fun y hy => ?_⟩
  · have hc : w.cell? ⟨g, k * 8 + j, none⟩ = some u := by
      rw [List.getElem?_set] at hk
      by_cases e : i = k
      · subst e
        rw [if_pos rfl, if_pos ((List.getElem?_eq_some_iff.1 hx).1)] at hk
        cases hk
        exact H.cell i x hx j u (by simpa [Thx.cells, Thg.cells] using hu)
      · rw [if_neg e] at hk
        exact H.cell k y hk j u hu
    exact (World.cell?_of_block (a := ⟨g, k * 8 + j, none⟩) hblk).trans hc
  · obtain ⟨k, hk⟩ := List.mem_iff_getElem?.1 hy
    rw [List.getElem?_set] at hk
    by_cases e : i = k
    · subst e
      rw [if_pos rfl, if_pos ((List.getElem?_eq_some_iff.1 hx).1)] at hk
      cases hk
      refine ⟨⟨hR, ?_⟩, .inr hxg, hx'.2.2⟩
      exact Rows.kept hx'.1.2 hch (hq.imp (fun e => by show List.map _ x.1.queue = []; rw [e]; rfl) (fun e k hk e' => e (by rw [hk, e'])))
    · rw [if_neg e] at hk
      have hy' := H.th y (List.mem_of_getElem? hk)
      obtain ⟨o1, o2⟩ := hoth k y (fun e' => e e'.symm) hk
      exact ⟨⟨Rows.kept hy'.1.1 hch (o1.imp (fun e => by rw [e]; rfl) (fun e k hk e' => e (by rw [hk, e']))), Rows.kept hy'.1.2 hch (o2.imp (fun e => by rw [e]; rfl) (fun e k hk e' => e (by rw [hk, e'])))⟩, hy'.2⟩
/-- What an append to an empty row makes of a table. -/
theorem CopyAt.of_own {w0 w : World} {B e n : Nat} {v : Value} {xs : List Thx} (hn : xs.length = n) (h1 : 1 ≤ n) (hX : ∀ x ∈ xs, ThxAt w0 x) (hb : Below w0.heap.size w0 w) (hB : w0.heap.size ≤ B) (hown : w.ownsRow B e 8 v n ((xs.map Thx.cells).flatten)) :
    ∃ g c, v = .slice (some ⟨g, 0, none⟩) n c ∧ B ≤ g ∧ CopyAt w g c xs := by
  have hsl : ∀ x ∈ xs, (∃ p n c, x.2.1 = .slice p n c) ∧ ∃ p n c, x.2.2 = .slice p n c := fun x hx => by
    obtain ⟨p, c, e, -, -⟩ := RgtsAt.len (hX x hx).1
    obtain ⟨p2, c2, e2, -, -⟩ := (show IntsAt w0 x.2.2 x.1.queue from (hX x hx).2).len
    exact ⟨⟨_, _, _, e⟩, ⟨_, _, _, e2⟩⟩
  have hfl := flat_thx xs hsl
  have hrow := Rows.of_own hfl (by simpa [hn] using hown)
  obtain ⟨hlen, ⟨rfl, h0⟩ | ⟨g, cap, cur, rfl, hg, hheap, hnc, hcap, hcs, htk⟩⟩ := hown
  · omega
  · refine ⟨g, cap, rfl, hg, by omega, hcap, ?_, fun o => by simp [World.frozen?, hheap], fun k x hx j u hu => ?_, fun x hx => ?_⟩
    · rcases Nat.lt_or_ge g w.heap.size with h | h
      · exact h
      · rw [Array.getElem?_eq_none h] at hheap; cases hheap
    · obtain ⟨p', c', e, -, -, h | ⟨b, o, e2, hc⟩⟩ := hrow
      · exfalso
        have : xs = [] := by simpa using h
        rw [this] at hx; cases hx
      · rw [List.length_map, hn] at e
        cases e
        cases e2
        have := hc k _ (by rw [List.getElem?_map, hx]; rfl) j u hu
        rwa [Nat.zero_add] at this
    · have hx0 := hX x hx
      have key : ∀ {s : Nat} {v : Value} {cs : List (List Value)}, Drw.Rows w0 v s cs → (∀ c ∈ cs, c ≠ []) → cs = [] ∨ v.ownBlock ≠ some g := by
        intro s v cs hr hne
        obtain ⟨p', c', e, -, -, h | ⟨b, o, e2, hc⟩⟩ := hr
        · exact .inl h
        · cases cs with
          | nil => exact .inl rfl
          | cons c0 cs =>
            refine .inr fun e' => ?_
            obtain ⟨u, hu⟩ : ∃ u, c0[0]? = some u := by
              cases c0 with
              | nil => exact absurd rfl (hne [] (by simp))
              | cons a l => exact ⟨a, rfl⟩
            have := cell_lt (hc 0 c0 rfl 0 u hu)
            subst e2
            rw [e] at e'
            injection e' with e'
            have : g = b := e'.symm
            omega
      refine ⟨⟨RgtsAt.pure hx0.1 hb, Rows.pure hx0.2 hb⟩, ?_, ?_⟩
      · exact (key hx0.1 (fun c hc => by obtain ⟨r, -, rfl⟩ := List.mem_map.1 hc; simp [Rgt.cells])).imp (fun e => by simpa using e) id
      · exact (key hx0.2 (fun c hc => by obtain ⟨r, -, rfl⟩ := List.mem_map.1 hc; simp [intCells])).imp (fun e => by simpa using e) id
end Go.Proofs.YtiolplhgpodifaaGreat
