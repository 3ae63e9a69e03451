/- The list of a set's rights: the loop over its map, under a contract of the sort that ends it. -/
import Derived.Test.YtiolplhgpodifaaGreatMc
import Derived.Maps.RangeWalk
set_option linter.unusedVariables false
set_option linter.unusedSimpArgs false
namespace Go.Proofs.YtiolplhgpodifaaGreat
open Go.RowKit Drw
attribute [local go_sem] Lab.val Rgt.val Cal.val Thg.val

set_option maxRecDepth 100000 in
theorem setList_w {s b : Nat} {S : List Rgt} {fv : Value} {R : Value → World → Prop} {w : World} (h : SetAt w s b S) (hn : S.length ≤ 400)
    (hsort : ∀ (L : List Rgt) (v : Value) (w' : World), L.Nodup → L.length ≤ S.length → (∀ r, r ∈ L ↔ r ∈ S) → Below w.heap.size w w' → w'.ownsRow (w.heap.size + 1) 35 5 v L.length ((L.map Rgt.cells).flatten) → Calls Tryz.prog 93 #[v, fv] w' fun e w'' => e = .returned (.tuple #[]) ∧ R v w'') :
    Calls Tryz.prog 66 #[.pointer (some ⟨s, 0, none⟩), fv] w fun e w' => ∃ v, e = .returned v ∧ R v w' := by
  have HSo := Lib.hid hsort
  have Hw := Lib.hid h.wide
  clear hsort
  have hs0 := h.cell
  obtain ⟨D, hD, hm⟩ := h.map
  have hlt := h.lt
  have hsl := hlt.1
  obtain ⟨i0, hi0, hz0, hz1, hz2⟩ := info_parts info_rgt
  go_enter Tryz.func66, Tryz.ntmps66
  go_wp2_with (first
    | (at_range; refine wpList_range_own _ rfl _ _ rfl 35 106 rgtKeyed mapUnder (unitElem (H := Unit)) b S.length D rfl hD ?_; intro w1 hrg hgr hsz)
    | go_in)
  go_frame
  go_loopw [5] (fun v wr => ∃ (L : List Rgt) (left : Lit → Bool) (cnt : Nat), wr.ownsRow (w.heap.size + 1) 35 5 v L.length ((L.map Rgt.cells).flatten) ∧ wr.ranges Tryz.prog 35 (unitElem (H := Unit)) b w.heap.size S.length D left cnt ∧ (∀ r, RgtW r → (left (kR r) = true ↔ r ∈ S ∧ r ∉ L)) ∧ L.Nodup ∧ L.length + cnt ≤ S.length ∧ (∀ r ∈ L, r ∈ S) ∧ Below w.heap.size w wr ∧ w.heap.size + 1 ≤ wr.heap.size) (fun _ wr => wr.rangeLeft b w.heap.size)
  case atStart => exact ⟨[], _, _, World.ownsRow_nil _ _ _ _, hrg, fun r hr => by simp [hm r hr], by simp, by simpa using hD.size_le, by simp, (Below.refl _ _).grown hgr (by simp) (fun j hj => by cases hj), by omega⟩
  case round =>
    obtain ⟨L, left, cnt, hown, hrg, hl, hnd, hlc, hsub, hB, hz⟩ := hrel
    obtain ⟨q, c, rfl⟩ := own_slice_n hown
    have Hl := Lib.hid hl
    have Hnd := Lib.hid hnd
    have Hsub := Lib.hid hsub
    have Hown := Lib.hid hown
    have HB := Lib.hid hB
    have HM := Lib.hid hm
    clear hl hnd hsub hown hB hm hs0
    go_wp2_with (first
      | (at_next; refine wpList_next_ranges _ rfl _ rfl 35 rgtKeyed (unitElem (H := Unit)) (fun r : Rgt => r.val) (fun _ : Unit => .agg #[]) (fun key kl hk => let ⟨r, _, e⟩ := keyR_inv hk; ⟨r, e⟩) unit_inv b w.heap.size S.length D left cnt rfl hrg ?_ ?_)
      | go_in)
    · intro hc0 hl0
      have Hl0 := Lib.hid hl0
      have HC := Lib.hid (HSo.out L (.slice q L.length c) wr Hnd.out (by omega) (fun r => ⟨Hsub.out r, fun hr => by
        by_cases hi : r ∈ L
        · exact hi
        · have := (Hl.out r (Hw.out r hr)).2 ⟨hr, hi⟩
          rw [Hl0.out] at this; cases this⟩) HB.out Hown.out)
      clear hl0 hrg hc0
      go_wp2_with (go_at_call 93; refine HC.out.mono ?_; rintro e w3 ⟨rfl, hR⟩)
      go_ret
      exact ⟨_, rfl, hR⟩
    · intro x kl ya yb w2 cnt2 hkx hlx hy hat hrg2 hlt2 hg2 hs2 hen
      have hkx' : keyOf Tryz.prog 35 x.val = some kl := hkx
      have hxr : RgtW x := by
        obtain ⟨r, hr, e⟩ := keyR_inv hkx'
        have : x = r := by
          obtain ⟨x1, x2, x3, x4, x5⟩ := x
          obtain ⟨r1, r2, r3, r4, r5⟩ := r
          simpa [Rgt.val] using e
        rw [this]; exact hr
      have hkl : kl = kR x := by have h1 := keyR hxr; rw [hkx'] at h1; exact Option.some.inj h1
      subst hkl
      have hxL := (Hl.out x hxr).1 hlx
      have hown2 := Hown.out.kept hg2 (Or.inr (fun e => by have := (Hown.out.lt _ e).1; omega))
      have hB2 := HB.out.grown hg2 HB.out.size (fun j hj => by cases hj; exact Nat.le_refl _)
      have HB2 := Lib.hid hB2
      have Hown2 := Lib.hid hown2
      have HxL := Lib.hid hxL
      have Hrg2 := Lib.hid hrg2
      have Hrg := Lib.hid hrg
      have Hxr := Lib.hid hxr
      clear hB2 hown2 hxL hrg2 hat hxr hlx hy hkx hkx' hrg
      obtain ⟨x1, x2, x3, x4, x5⟩ := x
      go_wp2_with (first
        | (at_builtin; refine wpList_append_rows rfl (.tmp 16) (.tmp 18) 30 rfl (w.heap.size + 1) 35 i0 _ 5 24 Tryz.underlying30 hi0 hz0 hz1 hz2 rfl (by decide) (.slice q L.length c) L.length ((L.map Rgt.cells).flatten) rfl (own_below Hown2.out (by (repeat (with_reducible first | exact Below.refl _ _ | refine Below.alloc ?_ ?_ _ | refine below_drewN ?_ _ | refine Below.drew ?_ | refine Below.setCell ?_ ?_ _ | refine Below.trans ?_ (Below.mono (by assumption) ?_))) <;> (first | omega | (simp; try omega)))) (.slice (some ⟨wr.heap.size + 1, 0, none⟩) 1 1) [Rgt.cells ⟨x1, x2, x3, x4, x5⟩] rfl (flat_rgts [⟨x1, x2, x3, x4, x5⟩]) (Rows.one (by intro i u hu; rcases i with _ | _ | _ | _ | _ | i <;> simp [Rgt.cells] at hu <;> (try subst hu) <;> simp [go_sem, hs2])) (by simp [maxLen] <;> omega) (by simp <;> omega) (by simp <;> omega) ?_; intro v4 w4 ho4 hg4)
        | go_in)
      have hzz := HB2.out.size
      have hrg4 : w4.ranges Tryz.prog 35 (unitElem (H := Unit)) b w.heap.size S.length D (fun z => left z && !z.sameKey (kR ⟨x1, x2, x3, x4, x5⟩)) cnt2 :=
        ((Hrg2.out.alloc _).alloc _).kept hg4 (fun e => by have := (Hown2.out.lt _ e.symm).1; omega) (fun e => by have := (Hown2.out.lt _ e.symm).1; omega)
      refine ⟨⟨L ++ [⟨x1, x2, x3, x4, x5⟩], _, cnt2, by simpa using ho4, hrg4, ?_, ?_, by simp; omega, ?_, ?_, ?_⟩, by rw [hrg4.left_eq, Hrg.out.left_eq]; exact hlt2⟩
      · intro r hr
        have h1 := Hl.out r hr
        by_cases e : r = ⟨x1, x2, x3, x4, x5⟩
        · subst e
          simp [Go.WideAt.sameKey_self (kR_key _)]
        · have hne : (kR r).sameKey (kR ⟨x1, x2, x3, x4, x5⟩) = false := by
            refine Maps.sameKey_ne (fun h => e (kR_inj hr Hxr.out h))
          simp [hne, h1, e]
      · refine List.nodup_append.2 ⟨Hnd.out, by simp, ?_⟩
        intro y hy z hz' e
        have : z = ⟨x1, x2, x3, x4, x5⟩ := by simpa using hz'
        rw [e, this] at hy
        exact HxL.out.2 hy
      · intro r hr
        rcases List.mem_append.1 hr with h' | h'
        · exact Hsub.out r h'
        · have : r = ⟨x1, x2, x3, x4, x5⟩ := by simpa using h'
          rw [this]; exact HxL.out.1
      · exact ((HB2.out.alloc HB2.out.size _).alloc (by simp; omega) _).grown hg4 (by simp; omega) (fun k hk => by have := (Hown2.out.lt k hk).1; omega)
      · have := hg4.size; simp at this; omega
end Go.Proofs.YtiolplhgpodifaaGreat
