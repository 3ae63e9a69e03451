/- spec.l3Copy. Conditions: the table lies where its cells say; its rows are short. -/
import Derived.Test.YtghbphdipdjekaaGreatDoorV
import Derived.Test.YtghbphdipdjekaaGreatDoorAct
set_option linter.unusedVariables false
set_option linter.unusedSimpArgs false
namespace Go.Proofs.YtghbphdipdjekaaGreatDoor
open Go.RowKit Drw
attribute [local go_sem] Lab.val Rgt.val Cal.val Thg.val

theorem own_lit {w : World} {B e s : Nat} (k : Nat) (hk : w.heap.size = k) (hB : B ≤ k) : (w.alloc (.cells #[] e)).ownsRow B e s (.slice (some ⟨k, 0, none⟩) 0 0) 0 [] := by
  subst hk
  exact World.ownsRow_made w #[] 0 hB (by simp [maxLen]) (by simp)

set_option maxRecDepth 100000 in
set_option maxHeartbeats 4000000 in
theorem l3Copy_c (p : Option Addr) (cap : Nat) (ts : List Thg) (w : World) (hT : TabAt w (.slice p ts.length cap) ts) (hn : ts.length ≤ 65536) (hS : Short ts) :
    Calls Tryz.prog 67 #[.slice p ts.length cap] w fun e w' => ∃ v xs tag, e = .returned v ∧ OwnTab w' (fun b => w.heap.size ≤ b) tag v xs ∧ xs.map (·.1) = ts ∧ Below w.heap.size w w' := by
  obtain ⟨_, _, h1, hl1, hl2⟩ := hT.len
  cases h1
  unfold maxLen at hl2
  obtain ⟨i0, hi, hz0, hz1, hz2⟩ := info_parts info_rgt
  obtain ⟨i1, hi1, hy0, hy1, hy2⟩ := info_parts info_int
  obtain ⟨i2, hi2, hx0, hx1, hx2⟩ := info_parts info_thg
  have HS := Lib.hid hS
  clear hS
  go_enter Tryz.func67, Tryz.ntmps67
  go_wp2
  go_loopw [3, 4] (fun v i wr => ∃ j : Nat, j ≤ ts.length ∧ i = .int .i64 j ∧ Below w.heap.size w wr ∧ (∃ q c, v = .slice q j c) ∧ SCopy w.heap.size 47 49 3 v ts j wr) (fun _ i _ => ts.length - (intOf i).toNat)
  case atStart => exact ⟨0, Nat.zero_le _, rfl, (by (repeat (with_reducible first | exact Below.refl _ _ | refine Below.alloc ?_ ?_ _ | refine below_drewN ?_ _ | refine Below.drew ?_ | refine Below.setCell ?_ ?_ _ | refine Below.trans ?_ (Below.mono (by assumption) ?_))) <;> (first | omega | (simp; try omega))), ⟨_, _, rfl⟩, SCopy.zero (own_lit _ rfl (Nat.le_refl _))⟩
  case round =>
    obtain ⟨j, hj, rfl, hB, ⟨vq, vc, rfl⟩, hI⟩ := hrel
    by_cases hlt : j < ts.length
    · obtain ⟨t, ht⟩ : ∃ t, ts[j]? = some t := ⟨ts[j], by simp [hlt]⟩
      obtain ⟨b, o, sv, qv, rfl, hbk, hS, hQ, c0, c1, c2, c3, c4, c5, c6, c7⟩ := (hT.pure hB).at j t ht
      have Ht := Lib.hid ht
      have hm := HS.out t (List.mem_of_getElem? ht)
      clear ht
      obtain ⟨_, _, rfl, -, -⟩ := hS.len
      obtain ⟨_, _, rfl, -, -⟩ := hQ.len
      obtain ⟨hms, hmq⟩ := hm
      have hszB := hB.size
      obtain ⟨xs0, tag0, he1, he2, he3⟩ := hI
      have Hxs := Lib.hid he1
      have Hrows := Lib.hid he3
      clear he1 he3
      go_wp2_with (first
        | (at_builtin; refine wpList_append_rows rfl (.tmp 17) (.tmp 19) 45 rfl (wr.heap.size + 1) 49 i0 _ 5 24 Tryz.underlying45 hi hz0 hz1 hz2 rfl (by decide) (.slice (some ⟨wr.heap.size + 1, 0, none⟩) 0 0) 0 [] rfl (own_lit (wr.heap.size + 1) (by simp) (by omega)) _ (t.slots.map Rgt.cells) rfl (flat_rgts _) (Rows.pure hS (by (repeat (with_reducible first | exact Below.refl _ _ | refine Below.alloc ?_ ?_ _ | refine below_drewN ?_ _ | refine Below.drew ?_ | refine Below.setCell ?_ ?_ _ | refine Below.trans ?_ (Below.mono (by assumption) ?_))) <;> (first | omega | (simp; try omega)))) (by simp [maxLen] <;> omega) (by simp <;> omega) (by simp <;> omega) ?_; intro v1 w1 ho1 hg1; obtain ⟨q1, n1, k1, rfl⟩ := own_slice ho1; have hc1 := (fun o => World.cell?_of_block (a := ⟨wr.heap.size, o, none⟩) (hg1.block wr.heap.size (by simp <;> omega) (by simp [Value.ownBlock] <;> omega))); have hf1 := (fun o => World.frozen?_of_block (a := ⟨wr.heap.size, o, none⟩) (hg1.block wr.heap.size (by simp <;> omega) (by simp [Value.ownBlock] <;> omega))); have hb1 : Below wr.heap.size wr w1 := (((Below.refl _ wr).alloc (Nat.le_refl _) _).alloc (by simp) _).grown hg1 (by simp <;> omega) (fun k hk => by simp [Value.ownBlock] at hk; omega); have hs1 : wr.heap.size + 2 ≤ w1.heap.size := (by have := hg1.size; simpa using this); have hs1b : wr.heap.size < w1.heap.size := (by omega); have hs1c : ¬ w1.heap.size = wr.heap.size := (by omega); have d5 := World.cell?_setCell_same' w1 ⟨wr.heap.size, 5, none⟩ (.slice q1 n1 k1) (by rw [hc1]; simp [go_sem]))
        | (at_builtin; (refine wpList_append_rows rfl (.tmp 22) (.tmp 24) 32 rfl w1.heap.size 3 i1 _ 1 8 Tryz.underlying32 hi1 hy0 hy1 hy2 rfl (by decide) (.slice (some ⟨w1.heap.size, 0, none⟩) 0 0) 0 [] rfl (own_lit w1.heap.size (by simp [World.setCell]) (by omega)) _ (t.queue.map intCells) rfl (flat_ints _) (Rows.pure hQ (by (repeat (with_reducible first | exact Below.refl _ _ | refine Below.alloc ?_ ?_ _ | refine below_drewN ?_ _ | refine Below.drew ?_ | refine Below.setCell ?_ ?_ _ | refine Below.trans ?_ (Below.mono (by assumption) ?_))) <;> (first | omega | (simp; try omega)))) (by simp [maxLen] <;> omega) (by simp <;> omega) (by simp [World.setCell]) ?_); intro v2 w2 ho2 hg2; obtain ⟨q2, n2, k2, rfl⟩ := own_slice ho2; go_loud (have hc2 := (fun o => World.cell?_of_block (a := ⟨wr.heap.size, o, none⟩) (hg2.block wr.heap.size (by simp [World.setCell] <;> omega) (by simp [Value.ownBlock] <;> omega)))); go_loud (have hf2 := (fun o => World.frozen?_of_block (a := ⟨wr.heap.size, o, none⟩) (hg2.block wr.heap.size (by simp [World.setCell] <;> omega) (by simp [Value.ownBlock] <;> omega)))); have hb2 : Below wr.heap.size wr w2 := (((hb1.setCell (p := ⟨wr.heap.size, 5, none⟩) (Nat.le_refl _) _).alloc (by simp [World.setCell] <;> omega) _).grown hg2 (by simp [World.setCell] <;> omega) (fun k hk => by simp [Value.ownBlock] at hk; omega)); have hs2 : w1.heap.size + 1 ≤ w2.heap.size := (by have := hg2.size; simpa [World.setCell] using this); have hs2b : wr.heap.size < w2.heap.size := (by omega); have hs2c : ¬ w2.heap.size = wr.heap.size := (by omega); go_loud (have d6 := World.cell?_setCell_same' w2 ⟨wr.heap.size, 6, none⟩ (.slice q2 n2 k2) (by rw [hc2]; simp [go_sem, hc1, hs1b])))
        | (at_builtin; refine wpList_append_rows rfl (.tmp 27) (.tmp 29) 23 rfl w.heap.size 47 i2 _ 8 96 Tryz.underlying23 hi2 hx0 hx1 hx2 rfl (by decide) (.slice vq j vc) j ((xs0.map Thx.cells).flatten) rfl (own_below he2 (by (repeat (with_reducible first | exact Below.refl _ _ | refine Below.alloc ?_ ?_ _ | refine below_drewN ?_ _ | refine Below.drew ?_ | refine Below.setCell ?_ ?_ _ | refine Below.trans ?_ (Below.mono (by assumption) ?_))) <;> (first | omega | (simp; try omega)))) (.slice (some ⟨w2.heap.size, 0, none⟩) 1 1) [Thg.cells t (.slice q1 n1 k1) (.slice q2 n2 k2)] rfl (flat_thg _ _ _ _ _ _ _) (Rows.one (by intro i u hu; rcases i with _ | _ | _ | _ | _ | _ | _ | _ | i <;> simp [Thg.cells] at hu <;> (try subst hu) <;> simp [go_sem])) (by simp [maxLen] <;> omega) (by simp <;> omega) (by simp [World.setCell] <;> omega) ?_; intro v3 w3 ho3 hg3))
      have hgA : Chg (fun b => b = wr.heap.size ∨ w1.heap.size ≤ b) w1 w2 := (Chg.alloc (Chg.setCell (S := fun b => b = wr.heap.size ∨ w1.heap.size ≤ b) (Chg.refl _ w1) (.inl rfl) _) _).trans ((Chg.of_grown hg2).mono (fun k _ e => .inr (by simp [Value.ownBlock] at e; omega)))
      have ho1' : w1.ownsRow (wr.heap.size + 1) 49 5 (.slice q1 n1 k1) t.slots.length ((t.slots.map Rgt.cells).flatten) := by simpa using ho1
      have ho2' : w2.ownsRow w1.heap.size 3 1 (.slice q2 n2 k2) t.queue.length ((t.queue.map intCells).flatten) := by simpa using ho2
      have ho3' : w3.ownsRow w.heap.size 47 8 v3 (j + 1) ((xs0.map Thx.cells).flatten ++ Thg.cells t (.slice q1 n1 k1) (.slice q2 n2 k2)) := by simpa using ho3
      have fin : SCopy w.heap.size 47 49 3 v3 ts (j + 1) w3 := by
        refine SCopy.step Hxs.out he2 Hrows.out (by decide) (by decide) (by decide) Ht.out ?_ hszB ?_ ?_ ho3' hg3
        · exact (by (repeat (with_reducible first | exact Below.refl _ _ | refine Below.alloc ?_ ?_ _ | refine below_drewN ?_ _ | refine Below.drew ?_ | refine Below.setCell ?_ ?_ _ | refine Below.trans ?_ (Below.mono (by assumption) ?_))) <;> (first | omega | (simp; try omega)))
        · exact own_mono (own_chg ho1' (hgA.trans (Chg.alloc (Chg.setCell (S := fun b => b = wr.heap.size ∨ w1.heap.size ≤ b) (Chg.refl _ w2) (.inl rfl) _) _)) (fun b h1 h2 h3 => by rcases h3 with h | h <;> omega)) (by omega)
        · exact own_mono (own_chg ho2' (Chg.alloc (Chg.setCell (S := fun b => b = wr.heap.size) (Chg.refl _ w2) rfl _) _) (fun b h1 h2 h3 => by omega)) (by omega)
      have fin2 : Below w.heap.size w w3 := by
        refine Below.grown (((hB.trans (hb2.mono hszB)).setCell (p := ⟨wr.heap.size, 6, none⟩) hszB _).alloc (by simp [World.setCell] <;> omega) _) hg3 (by simp [World.setCell] <;> omega) (fun k hk => (he2.lt k hk).1)
      have fin3 := own_slice_n ho3'
      have Fin := Lib.hid fin
      have Fin3 := Lib.hid fin3
      clear fin fin3 ho1 ho2 ho3 ho1' ho2' ho3' he2 hgA
      go_wp2
      go_roundw
      case rel => exact ⟨j + 1, by omega, by go_num, fin2, Fin3.out, Fin.out⟩
      case measure => simp [intOf]; omega
    · have e : j = ts.length := by omega
      subst e
      obtain ⟨xs, tag, hO, hxs⟩ := hI.done (by decide) (by decide)
      go_wp2
      go_ret
      exact ⟨_, xs, tag, rfl, hO, hxs, hB⟩

end Go.Proofs.YtghbphdipdjekaaGreatDoor
