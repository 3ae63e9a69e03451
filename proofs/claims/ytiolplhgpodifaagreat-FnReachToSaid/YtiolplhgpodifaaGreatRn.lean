/- impl.ReachIn, where it says yes. Conditions: the rights lie where their cells say, and are rights. -/
import Derived.Test.YtiolplhgpodifaaGreatRi
import Derived.Shelf.Abstract
set_option linter.unusedVariables false
set_option linter.unusedSimpArgs false
namespace Go.Proofs.YtiolplhgpodifaaGreat
open Go.RowKit Drw
attribute [local go_sem] Lab.val Rgt.val Cal.val Thg.val

set_option maxRecDepth 100000 in
set_option maxHeartbeats 4000000 in
theorem pred_c (C : Nat) (r s : Rgt) (w : World) (h : w.cell? ⟨C, 0, none⟩ = some (.int .i64 r.thing) ∧ w.cell? ⟨C, 1, none⟩ = some (.int .i64 r.vers) ∧ w.cell? ⟨C, 2, none⟩ = some (.bool r.rd) ∧ w.cell? ⟨C, 3, none⟩ = some (.bool r.wr) ∧ w.cell? ⟨C, 4, none⟩ = some (.bool r.wk)) :
    Calls Tryz.prog 42 #[s.val, .pointer (some ⟨C, 0, none⟩)] w fun e w' => e = .returned (.bool (rgtIn r s)) ∧ Below w.heap.size w w' := by
  obtain ⟨v, hv⟩ : ∃ v, rgtIn r s = v := ⟨_, rfl⟩
  have Hv := Lib.hid hv
  rw [hv]
  clear hv
  obtain ⟨r0, r1, r2, r3, r4⟩ := r
  obtain ⟨s0, s1, s2, s3, s4⟩ := s
  dsimp only at h
  obtain ⟨h0, h1, h2, h3, h4⟩ := h
  have hC := World.block_lt_of_cell? _ _ h0
  go_enter Tryz.func42, Tryz.ntmps42
  go_wp2_with (go_at_call 17; refine (rightIn_c ⟨_, _, _, _, _⟩ ⟨_, _, _, _, _⟩ _).mono ?_; rw [Hv.out]; rintro e w1 ⟨rfl, hb1⟩)
  go_ret
  exact ⟨rfl, (by (repeat (with_reducible first | exact Below.refl _ _ | refine Below.alloc ?_ ?_ _ | refine below_drewN ?_ _ | refine Below.drew ?_ | refine Below.setCell ?_ ?_ _ | refine Below.trans ?_ (Below.mono (by assumption) ?_))) <;> (first | omega | (simp; try omega)))⟩

set_option maxRecDepth 100000 in
set_option maxHeartbeats 4000000 in
theorem indexFunc_c (C : Nat) (r : Rgt) (rs : List Rgt) (p : Option Addr) (cap : Nat) (w : World) (h : w.cell? ⟨C, 0, none⟩ = some (.int .i64 r.thing) ∧ w.cell? ⟨C, 1, none⟩ = some (.int .i64 r.vers) ∧ w.cell? ⟨C, 2, none⟩ = some (.bool r.rd) ∧ w.cell? ⟨C, 3, none⟩ = some (.bool r.wr) ∧ w.cell? ⟨C, 4, none⟩ = some (.bool r.wk)) (hR : RgtsAt w (.slice p rs.length cap) rs) (hx : ∃ s ∈ rs, rgtIn r s = true) :
    Calls Tryz.prog 74 #[.slice p rs.length cap, .func (.func 42) #[] #[.pointer (some ⟨C, 0, none⟩)]] w fun e w' => (∃ i : Nat, e = .returned (.int .i64 (i : Int))) ∧ Below w.heap.size w w' := by
  obtain ⟨p', cap', he, hl1, hl2⟩ := hR.len
  cases he
  unfold maxLen at hl2
  have hC := World.block_lt_of_cell? _ _ h.1
  have eg : ∀ args w, (callFunc 42 args).run Tryz.prog w = .ok (.enter 42 args) w := fun _ _ => by kernel_rfl
  have HR := Lib.hid hR
  have HX := Lib.hid hx
  have HH := Lib.hid h
  clear hR hx h
  go_enter Tryz.func74, Tryz.ntmps74
  go_wp2
  go_loopw [5, 8] (fun s5 s8 wr => ∃ k : Nat, s8 = .int .i64 (k : Int) ∧ k ≤ rs.length ∧ (∀ j s, j < k → rs[j]? = some s → rgtIn r s = false) ∧ Below w.heap.size w wr) (fun _ s8 _ => rs.length - (intOf s8).toNat)
  case atStart => exact ⟨0, rfl, by omega, fun j s h => absurd h (by omega), Below.refl _ _⟩
  case round =>
    obtain ⟨k, rfl, hk, hno, hB⟩ := hrel
    have Hno := Lib.hid hno
    clear hno
    by_cases hlt : k < rs.length
    · have hk0 : (0 : Int) ≤ (k : Int) := by omega
      have hkn : (k : Int) < (rs.length : Int) := by omega
      obtain ⟨s, hs⟩ : ∃ s, rs[k]? = some s := ⟨_, List.getElem?_eq_getElem hlt⟩
      have Hs := Lib.hid hs
      obtain ⟨b, o, rfl, hb, c0, c1, c2, c3, c4⟩ := (HR.out.pure hB).at k s hs
      clear hs
      have hzB := hB.size
      obtain ⟨hcB, -⟩ := bcell hB
      have HP := Lib.hid (show wr.cell? ⟨C, 0, none⟩ = some (.int .i64 r.thing) ∧ wr.cell? ⟨C, 1, none⟩ = some (.int .i64 r.vers) ∧ wr.cell? ⟨C, 2, none⟩ = some (.bool r.rd) ∧ wr.cell? ⟨C, 3, none⟩ = some (.bool r.wr) ∧ wr.cell? ⟨C, 4, none⟩ = some (.bool r.wk) from ⟨(hcB _ _ hC).trans HH.out.1, (hcB _ _ hC).trans HH.out.2.1, (hcB _ _ hC).trans HH.out.2.2.1, (hcB _ _ hC).trans HH.out.2.2.2.1, (hcB _ _ hC).trans HH.out.2.2.2.2⟩)
      clear hcB
      obtain ⟨v, hv⟩ : ∃ v, rgtIn r s = v := ⟨_, rfl⟩
      have Hv := Lib.hid hv
      clear hv
      obtain ⟨s0, s1, s2, s3, s4⟩ := s
      dsimp only at c0 c1 c2 c3 c4
      cases v
      · go_wp2_with (go_at_fn 42; refine (pred_c C r ⟨_, _, _, _, _⟩ _ HP.out).mono ?_; rw [Hv.out]; rintro e w1 ⟨rfl, hb1⟩)
        refine ⟨⟨k + 1, by go_num, by omega, fun j s hj hs => ?_, (by (repeat (with_reducible first | exact Below.refl _ _ | refine Below.alloc ?_ ?_ _ | refine below_drewN ?_ _ | refine Below.drew ?_ | refine Below.setCell ?_ ?_ _ | refine Below.trans ?_ (Below.mono (by assumption) ?_))) <;> (first | omega | (simp; try omega)))⟩, by simp [intOf]; omega⟩
        by_cases hjk : j < k
        · exact Hno.out j s hjk hs
        · obtain rfl : j = k := by omega
          rw [Hs.out] at hs
          cases hs
          exact Hv.out
      · go_wp2_with (go_at_fn 42; refine (pred_c C r ⟨_, _, _, _, _⟩ _ HP.out).mono ?_; rw [Hv.out]; rintro e w1 ⟨rfl, hb1⟩)
        go_ret
        exact ⟨⟨k, rfl⟩, (by (repeat (with_reducible first | exact Below.refl _ _ | refine Below.alloc ?_ ?_ _ | refine below_drewN ?_ _ | refine Below.drew ?_ | refine Below.setCell ?_ ?_ _ | refine Below.trans ?_ (Below.mono (by assumption) ?_))) <;> (first | omega | (simp; try omega)))⟩
    · exfalso
      obtain ⟨s, hs, hin⟩ := HX.out
      obtain ⟨j, hj, rfl⟩ := List.mem_iff_getElem.1 hs
      have := Hno.out j _ (by omega) (List.getElem?_eq_getElem hj)
      rw [hin] at this
      cases this

set_option maxRecDepth 100000 in
set_option maxHeartbeats 4000000 in
theorem containsFunc_c (C : Nat) (r : Rgt) (rs : List Rgt) (p : Option Addr) (cap : Nat) (w : World) (h : w.cell? ⟨C, 0, none⟩ = some (.int .i64 r.thing) ∧ w.cell? ⟨C, 1, none⟩ = some (.int .i64 r.vers) ∧ w.cell? ⟨C, 2, none⟩ = some (.bool r.rd) ∧ w.cell? ⟨C, 3, none⟩ = some (.bool r.wr) ∧ w.cell? ⟨C, 4, none⟩ = some (.bool r.wk)) (hR : RgtsAt w (.slice p rs.length cap) rs) (hx : ∃ s ∈ rs, rgtIn r s = true) :
    Calls Tryz.prog 41 #[.slice p rs.length cap, .func (.func 42) #[] #[.pointer (some ⟨C, 0, none⟩)]] w fun e w' => e = .returned (.bool true) ∧ Below w.heap.size w w' := by
  have HI := Lib.hid (indexFunc_c C r rs p cap w h hR hx)
  clear h hR hx
  go_enter Tryz.func41, Tryz.ntmps41
  go_wp2_with (go_at_call 74; refine HI.out.mono ?_; rintro e w1 ⟨⟨i, rfl⟩, hb1⟩; have hi : (0 : Int) ≤ (i : Int) := by omega)
  go_ret
  exact ⟨rfl, (by (repeat (with_reducible first | exact Below.refl _ _ | refine Below.alloc ?_ ?_ _ | refine below_drewN ?_ _ | refine Below.drew ?_ | refine Below.setCell ?_ ?_ _ | refine Below.trans ?_ (Below.mono (by assumption) ?_))) <;> (first | omega | (simp; try omega)))⟩

set_option maxRecDepth 100000 in
set_option maxHeartbeats 4000000 in
theorem reachIn_c (r : Rgt) (rs : List Rgt) (p : Option Addr) (cap : Nat) (w : World) (hR : RgtsAt w (.slice p rs.length cap) rs) (hall : ∀ s ∈ rs, rgtOk s = true) (hr : rgtOk r = true) (hx : r.thing = 0 ∨ ∃ s ∈ rs, rgtIn r s = true) :
    Calls Tryz.prog 16 #[.slice p rs.length cap, r.val] w fun e w' => e = .returned (.bool true) ∧ Below w.heap.size w w' := by
  obtain ⟨p', cap', he, hl1, hl2⟩ := hR.len
  cases he
  unfold maxLen at hl2
  have HR := Lib.hid hR
  have HA := Lib.hid hall
  have Hr := Lib.hid hr
  have HX := Lib.hid hx
  clear hR hall hr hx
  obtain ⟨r0, r1, r2, r3, r4⟩ := r
  go_enter Tryz.func16, Tryz.ntmps16
  go_upto_region 1 with (fail)
  generalize hwa : World.alloc _ _ = wa
  have hB0 : Below w.heap.size w wa := by rw [← hwa]; exact (by (repeat (with_reducible first | exact Below.refl _ _ | refine Below.alloc ?_ ?_ _ | refine below_drewN ?_ _ | refine Below.drew ?_ | refine Below.setCell ?_ ?_ _ | refine Below.trans ?_ (Below.mono (by assumption) ?_))) <;> (first | omega | (simp; try omega)))
  have hza : w.heap.size < wa.heap.size := by rw [← hwa]; simp
  have gc : wa.cell? ⟨w.heap.size, 0, none⟩ = some (.int .i64 r0) ∧ wa.cell? ⟨w.heap.size, 1, none⟩ = some (.int .i64 r1) ∧ wa.cell? ⟨w.heap.size, 2, none⟩ = some (.bool r2) ∧ wa.cell? ⟨w.heap.size, 3, none⟩ = some (.bool r3) ∧ wa.cell? ⟨w.heap.size, 4, none⟩ = some (.bool r4) := by rw [← hwa]; simp [go_sem]
  have Hgc := Lib.hid gc
  obtain ⟨g0, g1, g2, g3, g4⟩ := gc
  clear hwa
  go_upto_region 3 with (go_at_call 40; refine (rightOk_c ⟨_, _, _, _, _⟩ _).mono ?_; rw [Hr.out]; rintro e w1 ⟨rfl, hb1⟩)
  clear g0 g1 g2 g3 g4
  have hz1 := hb1.size
  go_wp2
  go_loopw [12] (fun s12 wr => ∃ k : Nat, s12 = .int .i64 (k : Int) ∧ k ≤ rs.length ∧ Below wa.heap.size wa wr) (fun s12 _ => rs.length - (intOf s12).toNat)
  case atStart => exact ⟨0, rfl, by omega, hb1⟩
  case round =>
    obtain ⟨k, rfl, hk, hB⟩ := hrel
    have hBw : Below w.heap.size w wr := hB0.trans (hB.mono hB0.size)
    have hzw := hB.size
    by_cases hlt : k < rs.length
    · have hk0 : (0 : Int) ≤ (k : Int) := by omega
      have hkn : (k : Int) < (rs.length : Int) := by omega
      obtain ⟨s, hs⟩ : ∃ s, rs[k]? = some s := ⟨_, List.getElem?_eq_getElem hlt⟩
      have hok := HA.out s (List.mem_of_getElem? hs)
      have Hok := Lib.hid hok
      obtain ⟨b, o, rfl, hb, c0, c1, c2, c3, c4⟩ := (HR.out.pure hBw).at k s hs
      clear hs hok
      obtain ⟨s0, s1, s2, s3, s4⟩ := s
      dsimp only at c0 c1 c2 c3 c4
      go_wp2_with (go_at_call 40; refine (rightOk_c ⟨_, _, _, _, _⟩ _).mono ?_; rw [Hok.out]; rintro e w2 ⟨rfl, hb2⟩; have hz2 := hb2.size)
      refine ⟨⟨k + 1, by go_num, by omega, ?_⟩, by simp [intOf]; omega⟩
      refine Below.trans hB (Below.mono (show Below wr.heap.size wr w2 from ?_) hzw)
      exact (by (repeat (with_reducible first | exact Below.refl _ _ | refine Below.alloc ?_ ?_ _ | refine below_drewN ?_ _ | refine Below.drew ?_ | refine Below.setCell ?_ ?_ _ | refine Below.trans ?_ (Below.mono (by assumption) ?_))) <;> (first | omega | (simp; try omega)))
    · obtain ⟨hc', -⟩ := bcell hB
      have g0 := (hc' _ _ hza).trans Hgc.out.1
      have g1 := (hc' _ _ hza).trans Hgc.out.2.1
      have g2 := (hc' _ _ hza).trans Hgc.out.2.2.1
      have g3 := (hc' _ _ hza).trans Hgc.out.2.2.2.1
      have g4 := (hc' _ _ hza).trans Hgc.out.2.2.2.2
      clear hc'
      have hkn : ¬ (k : Int) < (rs.length : Int) := by omega
      by_cases h0 : r0 = 0
      · subst h0
        go_wp2
        go_ret
        exact ⟨rfl, (by (repeat (with_reducible first | exact Below.refl _ _ | refine Below.alloc ?_ ?_ _ | refine below_drewN ?_ _ | refine Below.drew ?_ | refine Below.setCell ?_ ?_ _ | refine Below.trans ?_ (Below.mono (by assumption) ?_))) <;> (first | omega | (simp; try omega)))⟩
      · have hx : ∃ s ∈ rs, rgtIn ⟨r0, r1, r2, r3, r4⟩ s = true := HX.out.resolve_left h0
        have HI := Lib.hid (containsFunc_c w.heap.size ⟨r0, r1, r2, r3, r4⟩ rs _ _ wr ⟨g0, g1, g2, g3, g4⟩ (HR.out.pure hBw) hx)
        clear hx
        go_wp2_with (go_at_call 41; refine HI.out.mono ?_; rintro e w3 ⟨rfl, hb3⟩)
        go_ret
        exact ⟨rfl, hBw.trans (hb3.mono hBw.size)⟩
end Go.Proofs.YtiolplhgpodifaaGreat
