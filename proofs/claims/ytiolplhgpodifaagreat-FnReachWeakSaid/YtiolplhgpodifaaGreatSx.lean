/- The program's texts of rights, and the order that they give. Conditions: the rights are rights. -/
import Derived.Test.YtiolplhgpodifaaGreatOr
import Derived.Test.YtiolplhgpodifaaGreatGs
import Derived.Sort.Grow
import Derived.Lib.SmallJoins
import Derived.Test.YtiolplhgpodifaaGreatChecked
import Derived.Shelf.SlLaysF0
import Derived.Shelf.SlSortCmp.NoneTotal
import Derived.Shelf.Abstract
set_option linter.unusedVariables false
set_option linter.unusedSimpArgs false
namespace Drw
open Go Go.RowKit
/-- What a call may do that changes nothing that was there. -/
structure Gw (w w' : World) : Prop where
  below : Below w.heap.size w w'
  drawn : w.drawn ≤ w'.drawn
theorem drawn_set (w : World) (a : Addr) (v : Value) : (w.setCell a v).drawn = w.drawn := by unfold World.setCell; split <;> rfl
theorem drawn_alloc (w : World) (o : Obj) : (w.alloc o).drawn = w.drawn := rfl
theorem drawn_drew (w : World) : w.drew.drawn = w.drawn + 1 := rfl
theorem Gw.refl (w : World) : Gw w w := ⟨Below.refl _ _, Nat.le_refl _⟩
theorem Gw.trans {a b c : World} (h : Gw a b) (k : Gw b c) : Gw a c := ⟨h.below.trans (k.below.mono h.below.size), Nat.le_trans h.drawn k.drawn⟩
theorem Gw.grow {w w' : World} (h : Gw w w') : ∃ q os, w' = Go.Sort.grow (w.drewN q) os := by
  refine ⟨w'.drawn - w.drawn, w'.heap.extract w.heap.size w'.heap.size, ?_⟩
  have hh : w'.heap = w.heap ++ w'.heap.extract w.heap.size w'.heap.size := by
    apply Array.ext_getElem?
    intro i
    rw [Array.getElem?_append]
    split
    · rename_i hi; exact h.below.block i hi
    · rename_i hi
      rw [Array.getElem?_extract]
      have := h.below.size
      split
      · rw [show w.heap.size + (i - w.heap.size) = i by omega]
      · rw [Array.getElem?_eq_none (by omega)]
  obtain ⟨heap, tape, drawn, os, output⟩ := w'
  obtain ⟨heap0, tape0, drawn0, os0, output0⟩ := w
  have h1 := h.below.os
  have h2 := h.below.tape
  have h3 := h.below.output
  have h4 := h.drawn
  simp only [Go.Sort.grow, World.drewN] at *
  subst h1 h2 h3
  rw [← hh, Nat.add_sub_cancel' h4]
end Drw

namespace Go.Proofs.YtiolplhgpodifaaGreat
open Go.RowKit Drw
attribute [local go_sem] Lab.val Rgt.val Cal.val Thg.val

set_option maxRecDepth 100000 in
set_option maxHeartbeats 4000000 in
theorem itoa_c {n : Int} {w : World} (h0 : 0 ≤ n) (h9 : n ≤ 9) :
    Calls Tryz.prog 144 #[.int .i64 n] w fun e w' => e = .returned (.string (bs [dig n])) ∧ w' = w := by
  have hc : n = 0 ∨ n = 1 ∨ n = 2 ∨ n = 3 ∨ n = 4 ∨ n = 5 ∨ n = 6 ∨ n = 7 ∨ n = 8 ∨ n = 9 := by omega
  clear h0 h9
  rcases hc with rfl | rfl | rfl | rfl | rfl | rfl | rfl | rfl | rfl | rfl
  all_goals
    go_enter Tryz.func144, Tryz.ntmps144
    go_wp2
    go_ret
    exact ⟨rfl, rfl⟩

set_option maxHeartbeats 400000 in
theorem rightOk_g (r : Rgt) (w : World) :
    Calls Tryz.prog 40 #[r.val] w fun e w' => e = .returned (.bool (rgtOk r)) ∧ Gw w w' := by
  obtain ⟨a, b, c, d, f⟩ := r
  go_enter Tryz.func40, Tryz.ntmps40
  go_wp2
  all_goals go_ret
  all_goals refine ⟨ret_bool ?_, ⟨(by (repeat (with_reducible first | exact Below.refl _ _ | refine Below.alloc ?_ ?_ _ | refine below_drewN ?_ _ | refine Below.drew ?_ | refine Below.setCell ?_ ?_ _ | refine Below.trans ?_ (Below.mono (by assumption) ?_))) <;> (first | omega | (simp; try omega))), Nat.le_refl _⟩⟩
  all_goals grind [rgtOk, inR, Rgt.null]

set_option maxHeartbeats 400000 in
theorem capabilityOf_g (r : Rgt) (w : World) (h : ¬ r.thing = 0) :
    Calls Tryz.prog 44 #[r.val] w fun e w' => e = .returned (.iface 109 r.val) ∧ Gw w w' := by
  obtain ⟨a, b, c, d, f⟩ := r
  have h' : ¬ a = 0 := h
  clear h
  go_enter Tryz.func44, Tryz.ntmps44
  go_wp2
  all_goals go_ret
  all_goals exact ⟨rfl, ⟨(by (repeat (with_reducible first | exact Below.refl _ _ | refine Below.alloc ?_ ?_ _ | refine below_drewN ?_ _ | refine Below.drew ?_ | refine Below.setCell ?_ ?_ _ | refine Below.trans ?_ (Below.mono (by assumption) ?_))) <;> (first | omega | (simp; try omega))), Nat.le_refl _⟩⟩

/-- The letters of a right, put one behind the other. -/
def letsW (wa : World) (k : Nat) (c d f : Bool) : World :=
  let w1 := if c then wa.setCell ⟨k, 0, none⟩ (.int .u8 114) else wa
  let w2 := if d then w1.setCell ⟨k, 1, none⟩ (.int .u8 119) else w1
  if f then w2.setCell ⟨k, 2, none⟩ (.int .u8 107) else w2
theorem letsW_f {wa : World} {k : Nat} (c d f : Bool) (l0 : wa.cell? ⟨k, 0, none⟩ = some (.int .u8 45)) (l1 : wa.cell? ⟨k, 1, none⟩ = some (.int .u8 45)) (l2 : wa.cell? ⟨k, 2, none⟩ = some (.int .u8 45)) (f0 : wa.frozen? ⟨k, 0, none⟩ = false) (f1 : wa.frozen? ⟨k, 1, none⟩ = false) (f2 : wa.frozen? ⟨k, 2, none⟩ = false) :
    (letsW wa k c d f).drawn = wa.drawn ∧ Chg (fun b => b = k) wa (letsW wa k c d f) ∧ (letsW wa k c d f).cell? ⟨k, 0, none⟩ = some (.int .u8 ((flagB c 114).toNat : Int)) ∧ (letsW wa k c d f).cell? ⟨k, 1, none⟩ = some (.int .u8 ((flagB d 119).toNat : Int)) ∧ (letsW wa k c d f).cell? ⟨k, 2, none⟩ = some (.int .u8 ((flagB f 107).toNat : Int)) := by
  have hs : ∀ (o : Nat) (u : Value) (x : World), Chg (fun b => b = k) wa x → Chg (fun b => b = k) wa (x.setCell ⟨k, o, none⟩ u) := fun o u x h => h.setCell (p := ⟨k, o, none⟩) rfl u
  cases c <;> cases d <;> cases f
  all_goals
    simp only [letsW, if_true, Bool.false_eq_true, if_false]
    refine ⟨?_, ?_, ?_, ?_, ?_⟩
    · simp only [drawn_set]
    · repeat (with_reducible first | exact Chg.refl _ _ | refine hs _ _ _ ?_)
    all_goals simp [cell_set, l0, l1, l2, f0, f1, f2, flagB]

set_option maxRecDepth 100000 in
set_option maxHeartbeats 4000000 in
theorem objText_c (r : Rgt) (w : World) (hr : rgtOk r = true) (h0 : ¬ r.thing = 0) :
    Calls Tryz.prog 143 #[r.val] w fun e w' => e = .returned (.string (bs (rgtTxt r))) ∧ Gw w w' := by
  obtain ⟨x1, x2, x3, x4⟩ := rgt_bounds hr h0
  obtain ⟨a, b, c, d, f⟩ := r
  dsimp only at x1 x2 x3 x4 h0
  have a1 : 0 ≤ a := by omega
  have a2 : a ≤ 9 := by omega
  have b1 : 0 ≤ b := by omega
  have b2 : b ≤ 9 := by omega
  have Ht := Lib.hid (show rgtTxt ⟨a, b, c, d, f⟩ = (([dig a] ++ [46]) ++ [dig b]) ++ [flagB c 114, flagB d 119, flagB f 107] by simp [rgtTxt, h0])
  obtain ⟨u1, e1, c1⟩ := add_ex Tryz.prog (s := bs [dig a]) (t := ⟨#[46]⟩) rfl (show _ = bs [46] from rfl) (by simp)
  obtain ⟨u2, e2, c2⟩ := add_ex Tryz.prog e1 (show bs [dig b] = _ from rfl) (by simp)
  obtain ⟨u3, e3, c3⟩ := add_ex Tryz.prog e2 (show bs [flagB c 114, flagB d 119, flagB f 107] = _ from rfl) (by simp)
  have E3 := Lib.hid e3
  clear e1 e2 e3 hr x1 x2 x3 x4 h0
  have hcv := Go.Joins.run_convert_bytes_const_at (P := Tryz.prog) (w.alloc (.cells #[.int .i64 a, .int .i64 b, .bool c, .bool d, .bool f] 109)) 22 5 #[.int .u8 45, .int .u8 45, .int .u8 45] 3 3 (w.heap.size + 1) (by simp) Tryz.underlying22 Tryz.underlying5
  go_enter Tryz.func143, Tryz.ntmps143
  go_upto_region 2 with (fail)
  generalize hwa : World.alloc _ _ = wa
  have hB : Below w.heap.size w wa := by rw [← hwa]; exact (by (repeat (with_reducible first | exact Below.refl _ _ | refine Below.alloc ?_ ?_ _ | refine below_drewN ?_ _ | refine Below.drew ?_ | refine Below.setCell ?_ ?_ _ | refine Below.trans ?_ (Below.mono (by assumption) ?_))) <;> (first | omega | (simp; try omega)))
  have hD : w.drawn = wa.drawn := by rw [← hwa]; rfl
  have gc : wa.cell? ⟨w.heap.size, 0, none⟩ = some (.int .i64 a) ∧ wa.cell? ⟨w.heap.size, 1, none⟩ = some (.int .i64 b) ∧ wa.cell? ⟨w.heap.size, 2, none⟩ = some (.bool c) ∧ wa.cell? ⟨w.heap.size, 3, none⟩ = some (.bool d) ∧ wa.cell? ⟨w.heap.size, 4, none⟩ = some (.bool f) := by rw [← hwa]; simp [go_sem]
  have gl : wa.cell? ⟨w.heap.size + 1, 0, none⟩ = some (.int .u8 45) ∧ wa.cell? ⟨w.heap.size + 1, 1, none⟩ = some (.int .u8 45) ∧ wa.cell? ⟨w.heap.size + 1, 2, none⟩ = some (.int .u8 45) := by
    refine ⟨?_, ?_, ?_⟩ <;> (rw [← hwa, Go.Joins.cell_alloc_mark_at _ _ _ _ _ _ (by simp)]; rfl)
  have gf : wa.frozen? ⟨w.heap.size + 1, 0, none⟩ = false ∧ wa.frozen? ⟨w.heap.size + 1, 1, none⟩ = false ∧ wa.frozen? ⟨w.heap.size + 1, 2, none⟩ = false := by
    have hfr : ∀ j, wa.frozen? ⟨w.heap.size + 1, j, none⟩ = (decide (3 ≤ j) && decide (j < 4)) := fun j => by
      have := World.frozen?_alloc_mark (w.alloc (.cells #[.int .i64 a, .int .i64 b, .bool c, .bool d, .bool f] 109)) #[.int .u8 45, .int .u8 45, .int .u8 45] 5 3 4 j
      rw [World.size_alloc] at this
      rw [← hwa]; exact this
    exact ⟨hfr 0, hfr 1, hfr 2⟩
  have hz : w.heap.size + 1 < wa.heap.size := by rw [← hwa]; simp
  obtain ⟨g0, g1, g2, g3, g4⟩ := gc
  obtain ⟨l0, l1, l2⟩ := gl
  obtain ⟨f0, f1, f2⟩ := gf
  clear hwa hcv
  cases c <;> cases d <;> cases f
  all_goals go_upto_region 8 with (fail)
  · obtain ⟨wb, hwb⟩ : ∃ wb, letsW wa (w.heap.size + 1) false false false = wb := ⟨_, rfl⟩
    obtain rfl : wa = wb := hwb
    have hwb : letsW wa (w.heap.size + 1) false false false = wa := rfl
    obtain ⟨d1, ch, m0, m1, m2⟩ := letsW_f (wa := wa) (k := w.heap.size + 1) false false false l0 l1 l2 f0 f1 f2
    rw [hwb] at d1 ch m0 m1 m2
    have k0 := ch.cell g0 (fun e => Nat.succ_ne_self _ e.symm)
    have k1 := ch.cell g1 (fun e => Nat.succ_ne_self _ e.symm)
    have hG : Gw w wa := ⟨hB.trans (ch.below (B := w.heap.size) hB.size (fun k hk e => by omega)), by omega⟩
    have hzb : w.heap.size + 1 < wa.heap.size := Nat.lt_of_lt_of_le hz ch.size
    have HS := Lib.hid (show ∀ w' : World, Gw wa w' → (Gw wa w' ∧ w'.cell? ⟨w.heap.size, 0, none⟩ = some (.int .i64 a) ∧ w'.cell? ⟨w.heap.size, 1, none⟩ = some (.int .i64 b) ∧ (convert 22 9 (.slice (some ⟨w.heap.size + 1, 0, none⟩) 3 3)).run Tryz.prog w' = .ok (.string (bs [flagB false 114, flagB false 119, flagB false 107])) w') from fun w' h => by
      have hcl : ∀ {b o : Nat} {u : Value}, b < wa.heap.size → wa.cell? ⟨b, o, none⟩ = some u → w'.cell? ⟨b, o, none⟩ = some u := fun hb hc => (h.below.cell hb).trans hc
      refine ⟨h, hcl (by omega) k0, hcl (by omega) k1, ?_⟩
      refine run_convert_bytes_back _ _ _ 5 ⟨w.heap.size + 1, 0, none⟩ 3 [flagB false 114, flagB false 119, flagB false 107] Tryz.underlying22 Tryz.underlying5 Tryz.underlying9 (fun j hj => ?_)
      rcases j with _ | _ | _ | j
      · exact hcl hzb m0
      · exact hcl hzb m1
      · exact hcl hzb m2
      · exact absurd hj (by simp))
    have HG := Lib.hid hG
    clear hwb d1 ch m0 m1 m2 k0 k1 g0 g1 g2 g3 g4 l0 l1 l2 f0 f1 f2 hB hD hG
    first | (go_region_held3 (fun w' => Gw wa w' ∧ w'.cell? ⟨w.heap.size, 0, none⟩ = some (.int .i64 a) ∧ w'.cell? ⟨w.heap.size, 1, none⟩ = some (.int .i64 b) ∧ (convert 22 9 (.slice (some ⟨w.heap.size + 1, 0, none⟩) 3 3)).run Tryz.prog w' = .ok (.string (bs [flagB false 114, flagB false 119, flagB false 107])) w')
      (first | assumption | exact HS.out _ (Gw.refl _) | exact HS.out _ ⟨Below.drew (Below.refl _ _), Nat.le_succ _⟩)
      (first
        | (go_at_call 144; with_reducible refine (itoa_c a1 a2).mono ?_; rintro e w3 ⟨rfl, rfl⟩)
        | (go_at_call 144; with_reducible refine (itoa_c b1 b2).mono ?_; rintro e w3 ⟨rfl, rfl⟩))) | fail
    all_goals go_wp2
    all_goals go_ret
    all_goals exact ⟨by rw [Ht.out, ← E3.out]; rfl, HG.out.trans (And.left (by assumption : Gw wa _ ∧ _))⟩
  · generalize hwb : World.setCell _ _ _ = wb
    replace hwb : letsW wa (w.heap.size + 1) false false true = wb := hwb
    obtain ⟨d1, ch, m0, m1, m2⟩ := letsW_f (wa := wa) (k := w.heap.size + 1) false false true l0 l1 l2 f0 f1 f2
    rw [hwb] at d1 ch m0 m1 m2
    have k0 := ch.cell g0 (fun e => Nat.succ_ne_self _ e.symm)
    have k1 := ch.cell g1 (fun e => Nat.succ_ne_self _ e.symm)
    have hG : Gw w wb := ⟨hB.trans (ch.below (B := w.heap.size) hB.size (fun k hk e => by omega)), by omega⟩
    have hzb : w.heap.size + 1 < wb.heap.size := Nat.lt_of_lt_of_le hz ch.size
    have HS := Lib.hid (show ∀ w' : World, Gw wb w' → (Gw wb w' ∧ w'.cell? ⟨w.heap.size, 0, none⟩ = some (.int .i64 a) ∧ w'.cell? ⟨w.heap.size, 1, none⟩ = some (.int .i64 b) ∧ (convert 22 9 (.slice (some ⟨w.heap.size + 1, 0, none⟩) 3 3)).run Tryz.prog w' = .ok (.string (bs [flagB false 114, flagB false 119, flagB true 107])) w') from fun w' h => by
      have hcl : ∀ {b o : Nat} {u : Value}, b < wb.heap.size → wb.cell? ⟨b, o, none⟩ = some u → w'.cell? ⟨b, o, none⟩ = some u := fun hb hc => (h.below.cell hb).trans hc
      refine ⟨h, hcl (by omega) k0, hcl (by omega) k1, ?_⟩
      refine run_convert_bytes_back _ _ _ 5 ⟨w.heap.size + 1, 0, none⟩ 3 [flagB false 114, flagB false 119, flagB true 107] Tryz.underlying22 Tryz.underlying5 Tryz.underlying9 (fun j hj => ?_)
      rcases j with _ | _ | _ | j
      · exact hcl hzb m0
      · exact hcl hzb m1
      · exact hcl hzb m2
      · exact absurd hj (by simp))
    have HG := Lib.hid hG
    clear hwb d1 ch m0 m1 m2 k0 k1 g0 g1 g2 g3 g4 l0 l1 l2 f0 f1 f2 hB hD hG
    first | (go_region_held3 (fun w' => Gw wb w' ∧ w'.cell? ⟨w.heap.size, 0, none⟩ = some (.int .i64 a) ∧ w'.cell? ⟨w.heap.size, 1, none⟩ = some (.int .i64 b) ∧ (convert 22 9 (.slice (some ⟨w.heap.size + 1, 0, none⟩) 3 3)).run Tryz.prog w' = .ok (.string (bs [flagB false 114, flagB false 119, flagB true 107])) w')
      (first | assumption | exact HS.out _ (Gw.refl _) | exact HS.out _ ⟨Below.drew (Below.refl _ _), Nat.le_succ _⟩)
      (first
        | (go_at_call 144; with_reducible refine (itoa_c a1 a2).mono ?_; rintro e w3 ⟨rfl, rfl⟩)
        | (go_at_call 144; with_reducible refine (itoa_c b1 b2).mono ?_; rintro e w3 ⟨rfl, rfl⟩))) | fail
    all_goals go_wp2
    all_goals go_ret
    all_goals exact ⟨by rw [Ht.out, ← E3.out]; rfl, HG.out.trans (And.left (by assumption : Gw wb _ ∧ _))⟩
  · generalize hwb : World.setCell _ _ _ = wb
    replace hwb : letsW wa (w.heap.size + 1) false true false = wb := hwb
    obtain ⟨d1, ch, m0, m1, m2⟩ := letsW_f (wa := wa) (k := w.heap.size + 1) false true false l0 l1 l2 f0 f1 f2
    rw [hwb] at d1 ch m0 m1 m2
    have k0 := ch.cell g0 (fun e => Nat.succ_ne_self _ e.symm)
    have k1 := ch.cell g1 (fun e => Nat.succ_ne_self _ e.symm)
    have hG : Gw w wb := ⟨hB.trans (ch.below (B := w.heap.size) hB.size (fun k hk e => by omega)), by omega⟩
    have hzb : w.heap.size + 1 < wb.heap.size := Nat.lt_of_lt_of_le hz ch.size
    have HS := Lib.hid (show ∀ w' : World, Gw wb w' → (Gw wb w' ∧ w'.cell? ⟨w.heap.size, 0, none⟩ = some (.int .i64 a) ∧ w'.cell? ⟨w.heap.size, 1, none⟩ = some (.int .i64 b) ∧ (convert 22 9 (.slice (some ⟨w.heap.size + 1, 0, none⟩) 3 3)).run Tryz.prog w' = .ok (.string (bs [flagB false 114, flagB true 119, flagB false 107])) w') from fun w' h => by
      have hcl : ∀ {b o : Nat} {u : Value}, b < wb.heap.size → wb.cell? ⟨b, o, none⟩ = some u → w'.cell? ⟨b, o, none⟩ = some u := fun hb hc => (h.below.cell hb).trans hc
      refine ⟨h, hcl (by omega) k0, hcl (by omega) k1, ?_⟩
      refine run_convert_bytes_back _ _ _ 5 ⟨w.heap.size + 1, 0, none⟩ 3 [flagB false 114, flagB true 119, flagB false 107] Tryz.underlying22 Tryz.underlying5 Tryz.underlying9 (fun j hj => ?_)
      rcases j with _ | _ | _ | j
      · exact hcl hzb m0
      · exact hcl hzb m1
      · exact hcl hzb m2
      · exact absurd hj (by simp))
    have HG := Lib.hid hG
    clear hwb d1 ch m0 m1 m2 k0 k1 g0 g1 g2 g3 g4 l0 l1 l2 f0 f1 f2 hB hD hG
    first | (go_region_held3 (fun w' => Gw wb w' ∧ w'.cell? ⟨w.heap.size, 0, none⟩ = some (.int .i64 a) ∧ w'.cell? ⟨w.heap.size, 1, none⟩ = some (.int .i64 b) ∧ (convert 22 9 (.slice (some ⟨w.heap.size + 1, 0, none⟩) 3 3)).run Tryz.prog w' = .ok (.string (bs [flagB false 114, flagB true 119, flagB false 107])) w')
      (first | assumption | exact HS.out _ (Gw.refl _) | exact HS.out _ ⟨Below.drew (Below.refl _ _), Nat.le_succ _⟩)
      (first
        | (go_at_call 144; with_reducible refine (itoa_c a1 a2).mono ?_; rintro e w3 ⟨rfl, rfl⟩)
        | (go_at_call 144; with_reducible refine (itoa_c b1 b2).mono ?_; rintro e w3 ⟨rfl, rfl⟩))) | fail
    all_goals go_wp2
    all_goals go_ret
    all_goals exact ⟨by rw [Ht.out, ← E3.out]; rfl, HG.out.trans (And.left (by assumption : Gw wb _ ∧ _))⟩
  · generalize hwb : World.setCell _ _ _ = wb
    replace hwb : letsW wa (w.heap.size + 1) false true true = wb := hwb
    obtain ⟨d1, ch, m0, m1, m2⟩ := letsW_f (wa := wa) (k := w.heap.size + 1) false true true l0 l1 l2 f0 f1 f2
    rw [hwb] at d1 ch m0 m1 m2
    have k0 := ch.cell g0 (fun e => Nat.succ_ne_self _ e.symm)
    have k1 := ch.cell g1 (fun e => Nat.succ_ne_self _ e.symm)
    have hG : Gw w wb := ⟨hB.trans (ch.below (B := w.heap.size) hB.size (fun k hk e => by omega)), by omega⟩
    have hzb : w.heap.size + 1 < wb.heap.size := Nat.lt_of_lt_of_le hz ch.size
    have HS := Lib.hid (show ∀ w' : World, Gw wb w' → (Gw wb w' ∧ w'.cell? ⟨w.heap.size, 0, none⟩ = some (.int .i64 a) ∧ w'.cell? ⟨w.heap.size, 1, none⟩ = some (.int .i64 b) ∧ (convert 22 9 (.slice (some ⟨w.heap.size + 1, 0, none⟩) 3 3)).run Tryz.prog w' = .ok (.string (bs [flagB false 114, flagB true 119, flagB true 107])) w') from fun w' h => by
      have hcl : ∀ {b o : Nat} {u : Value}, b < wb.heap.size → wb.cell? ⟨b, o, none⟩ = some u → w'.cell? ⟨b, o, none⟩ = some u := fun hb hc => (h.below.cell hb).trans hc
      refine ⟨h, hcl (by omega) k0, hcl (by omega) k1, ?_⟩
      refine run_convert_bytes_back _ _ _ 5 ⟨w.heap.size + 1, 0, none⟩ 3 [flagB false 114, flagB true 119, flagB true 107] Tryz.underlying22 Tryz.underlying5 Tryz.underlying9 (fun j hj => ?_)
      rcases j with _ | _ | _ | j
      · exact hcl hzb m0
      · exact hcl hzb m1
      · exact hcl hzb m2
      · exact absurd hj (by simp))
    have HG := Lib.hid hG
    clear hwb d1 ch m0 m1 m2 k0 k1 g0 g1 g2 g3 g4 l0 l1 l2 f0 f1 f2 hB hD hG
    first | (go_region_held3 (fun w' => Gw wb w' ∧ w'.cell? ⟨w.heap.size, 0, none⟩ = some (.int .i64 a) ∧ w'.cell? ⟨w.heap.size, 1, none⟩ = some (.int .i64 b) ∧ (convert 22 9 (.slice (some ⟨w.heap.size + 1, 0, none⟩) 3 3)).run Tryz.prog w' = .ok (.string (bs [flagB false 114, flagB true 119, flagB true 107])) w')
      (first | assumption | exact HS.out _ (Gw.refl _) | exact HS.out _ ⟨Below.drew (Below.refl _ _), Nat.le_succ _⟩)
      (first
        | (go_at_call 144; with_reducible refine (itoa_c a1 a2).mono ?_; rintro e w3 ⟨rfl, rfl⟩)
        | (go_at_call 144; with_reducible refine (itoa_c b1 b2).mono ?_; rintro e w3 ⟨rfl, rfl⟩))) | fail
    all_goals go_wp2
    all_goals go_ret
    all_goals exact ⟨by rw [Ht.out, ← E3.out]; rfl, HG.out.trans (And.left (by assumption : Gw wb _ ∧ _))⟩
  · generalize hwb : World.setCell _ _ _ = wb
    replace hwb : letsW wa (w.heap.size + 1) true false false = wb := hwb
    obtain ⟨d1, ch, m0, m1, m2⟩ := letsW_f (wa := wa) (k := w.heap.size + 1) true false false l0 l1 l2 f0 f1 f2
    rw [hwb] at d1 ch m0 m1 m2
    have k0 := ch.cell g0 (fun e => Nat.succ_ne_self _ e.symm)
    have k1 := ch.cell g1 (fun e => Nat.succ_ne_self _ e.symm)
    have hG : Gw w wb := ⟨hB.trans (ch.below (B := w.heap.size) hB.size (fun k hk e => by omega)), by omega⟩
    have hzb : w.heap.size + 1 < wb.heap.size := Nat.lt_of_lt_of_le hz ch.size
    have HS := Lib.hid (show ∀ w' : World, Gw wb w' → (Gw wb w' ∧ w'.cell? ⟨w.heap.size, 0, none⟩ = some (.int .i64 a) ∧ w'.cell? ⟨w.heap.size, 1, none⟩ = some (.int .i64 b) ∧ (convert 22 9 (.slice (some ⟨w.heap.size + 1, 0, none⟩) 3 3)).run Tryz.prog w' = .ok (.string (bs [flagB true 114, flagB false 119, flagB false 107])) w') from fun w' h => by
      have hcl : ∀ {b o : Nat} {u : Value}, b < wb.heap.size → wb.cell? ⟨b, o, none⟩ = some u → w'.cell? ⟨b, o, none⟩ = some u := fun hb hc => (h.below.cell hb).trans hc
      refine ⟨h, hcl (by omega) k0, hcl (by omega) k1, ?_⟩
      refine run_convert_bytes_back _ _ _ 5 ⟨w.heap.size + 1, 0, none⟩ 3 [flagB true 114, flagB false 119, flagB false 107] Tryz.underlying22 Tryz.underlying5 Tryz.underlying9 (fun j hj => ?_)
      rcases j with _ | _ | _ | j
      · exact hcl hzb m0
      · exact hcl hzb m1
      · exact hcl hzb m2
      · exact absurd hj (by simp))
    have HG := Lib.hid hG
    clear hwb d1 ch m0 m1 m2 k0 k1 g0 g1 g2 g3 g4 l0 l1 l2 f0 f1 f2 hB hD hG
    first | (go_region_held3 (fun w' => Gw wb w' ∧ w'.cell? ⟨w.heap.size, 0, none⟩ = some (.int .i64 a) ∧ w'.cell? ⟨w.heap.size, 1, none⟩ = some (.int .i64 b) ∧ (convert 22 9 (.slice (some ⟨w.heap.size + 1, 0, none⟩) 3 3)).run Tryz.prog w' = .ok (.string (bs [flagB true 114, flagB false 119, flagB false 107])) w')
      (first | assumption | exact HS.out _ (Gw.refl _) | exact HS.out _ ⟨Below.drew (Below.refl _ _), Nat.le_succ _⟩)
      (first
        | (go_at_call 144; with_reducible refine (itoa_c a1 a2).mono ?_; rintro e w3 ⟨rfl, rfl⟩)
        | (go_at_call 144; with_reducible refine (itoa_c b1 b2).mono ?_; rintro e w3 ⟨rfl, rfl⟩))) | fail
    all_goals go_wp2
    all_goals go_ret
    all_goals exact ⟨by rw [Ht.out, ← E3.out]; rfl, HG.out.trans (And.left (by assumption : Gw wb _ ∧ _))⟩
  · generalize hwb : World.setCell _ _ _ = wb
    replace hwb : letsW wa (w.heap.size + 1) true false true = wb := hwb
    obtain ⟨d1, ch, m0, m1, m2⟩ := letsW_f (wa := wa) (k := w.heap.size + 1) true false true l0 l1 l2 f0 f1 f2
    rw [hwb] at d1 ch m0 m1 m2
    have k0 := ch.cell g0 (fun e => Nat.succ_ne_self _ e.symm)
    have k1 := ch.cell g1 (fun e => Nat.succ_ne_self _ e.symm)
    have hG : Gw w wb := ⟨hB.trans (ch.below (B := w.heap.size) hB.size (fun k hk e => by omega)), by omega⟩
    have hzb : w.heap.size + 1 < wb.heap.size := Nat.lt_of_lt_of_le hz ch.size
    have HS := Lib.hid (show ∀ w' : World, Gw wb w' → (Gw wb w' ∧ w'.cell? ⟨w.heap.size, 0, none⟩ = some (.int .i64 a) ∧ w'.cell? ⟨w.heap.size, 1, none⟩ = some (.int .i64 b) ∧ (convert 22 9 (.slice (some ⟨w.heap.size + 1, 0, none⟩) 3 3)).run Tryz.prog w' = .ok (.string (bs [flagB true 114, flagB false 119, flagB true 107])) w') from fun w' h => by
      have hcl : ∀ {b o : Nat} {u : Value}, b < wb.heap.size → wb.cell? ⟨b, o, none⟩ = some u → w'.cell? ⟨b, o, none⟩ = some u := fun hb hc => (h.below.cell hb).trans hc
      refine ⟨h, hcl (by omega) k0, hcl (by omega) k1, ?_⟩
      refine run_convert_bytes_back _ _ _ 5 ⟨w.heap.size + 1, 0, none⟩ 3 [flagB true 114, flagB false 119, flagB true 107] Tryz.underlying22 Tryz.underlying5 Tryz.underlying9 (fun j hj => ?_)
      rcases j with _ | _ | _ | j
      · exact hcl hzb m0
      · exact hcl hzb m1
      · exact hcl hzb m2
      · exact absurd hj (by simp))
    have HG := Lib.hid hG
    clear hwb d1 ch m0 m1 m2 k0 k1 g0 g1 g2 g3 g4 l0 l1 l2 f0 f1 f2 hB hD hG
    first | (go_region_held3 (fun w' => Gw wb w' ∧ w'.cell? ⟨w.heap.size, 0, none⟩ = some (.int .i64 a) ∧ w'.cell? ⟨w.heap.size, 1, none⟩ = some (.int .i64 b) ∧ (convert 22 9 (.slice (some ⟨w.heap.size + 1, 0, none⟩) 3 3)).run Tryz.prog w' = .ok (.string (bs [flagB true 114, flagB false 119, flagB true 107])) w')
      (first | assumption | exact HS.out _ (Gw.refl _) | exact HS.out _ ⟨Below.drew (Below.refl _ _), Nat.le_succ _⟩)
      (first
        | (go_at_call 144; with_reducible refine (itoa_c a1 a2).mono ?_; rintro e w3 ⟨rfl, rfl⟩)
        | (go_at_call 144; with_reducible refine (itoa_c b1 b2).mono ?_; rintro e w3 ⟨rfl, rfl⟩))) | fail
    all_goals go_wp2
    all_goals go_ret
    all_goals exact ⟨by rw [Ht.out, ← E3.out]; rfl, HG.out.trans (And.left (by assumption : Gw wb _ ∧ _))⟩
  · generalize hwb : World.setCell _ _ _ = wb
    replace hwb : letsW wa (w.heap.size + 1) true true false = wb := hwb
    obtain ⟨d1, ch, m0, m1, m2⟩ := letsW_f (wa := wa) (k := w.heap.size + 1) true true false l0 l1 l2 f0 f1 f2
    rw [hwb] at d1 ch m0 m1 m2
    have k0 := ch.cell g0 (fun e => Nat.succ_ne_self _ e.symm)
    have k1 := ch.cell g1 (fun e => Nat.succ_ne_self _ e.symm)
    have hG : Gw w wb := ⟨hB.trans (ch.below (B := w.heap.size) hB.size (fun k hk e => by omega)), by omega⟩
    have hzb : w.heap.size + 1 < wb.heap.size := Nat.lt_of_lt_of_le hz ch.size
    have HS := Lib.hid (show ∀ w' : World, Gw wb w' → (Gw wb w' ∧ w'.cell? ⟨w.heap.size, 0, none⟩ = some (.int .i64 a) ∧ w'.cell? ⟨w.heap.size, 1, none⟩ = some (.int .i64 b) ∧ (convert 22 9 (.slice (some ⟨w.heap.size + 1, 0, none⟩) 3 3)).run Tryz.prog w' = .ok (.string (bs [flagB true 114, flagB true 119, flagB false 107])) w') from fun w' h => by
      have hcl : ∀ {b o : Nat} {u : Value}, b < wb.heap.size → wb.cell? ⟨b, o, none⟩ = some u → w'.cell? ⟨b, o, none⟩ = some u := fun hb hc => (h.below.cell hb).trans hc
      refine ⟨h, hcl (by omega) k0, hcl (by omega) k1, ?_⟩
      refine run_convert_bytes_back _ _ _ 5 ⟨w.heap.size + 1, 0, none⟩ 3 [flagB true 114, flagB true 119, flagB false 107] Tryz.underlying22 Tryz.underlying5 Tryz.underlying9 (fun j hj => ?_)
      rcases j with _ | _ | _ | j
      · exact hcl hzb m0
      · exact hcl hzb m1
      · exact hcl hzb m2
      · exact absurd hj (by simp))
    have HG := Lib.hid hG
    clear hwb d1 ch m0 m1 m2 k0 k1 g0 g1 g2 g3 g4 l0 l1 l2 f0 f1 f2 hB hD hG
    first | (go_region_held3 (fun w' => Gw wb w' ∧ w'.cell? ⟨w.heap.size, 0, none⟩ = some (.int .i64 a) ∧ w'.cell? ⟨w.heap.size, 1, none⟩ = some (.int .i64 b) ∧ (convert 22 9 (.slice (some ⟨w.heap.size + 1, 0, none⟩) 3 3)).run Tryz.prog w' = .ok (.string (bs [flagB true 114, flagB true 119, flagB false 107])) w')
      (first | assumption | exact HS.out _ (Gw.refl _) | exact HS.out _ ⟨Below.drew (Below.refl _ _), Nat.le_succ _⟩)
      (first
        | (go_at_call 144; with_reducible refine (itoa_c a1 a2).mono ?_; rintro e w3 ⟨rfl, rfl⟩)
        | (go_at_call 144; with_reducible refine (itoa_c b1 b2).mono ?_; rintro e w3 ⟨rfl, rfl⟩))) | fail
    all_goals go_wp2
    all_goals go_ret
    all_goals exact ⟨by rw [Ht.out, ← E3.out]; rfl, HG.out.trans (And.left (by assumption : Gw wb _ ∧ _))⟩
  · generalize hwb : World.setCell _ _ _ = wb
    replace hwb : letsW wa (w.heap.size + 1) true true true = wb := hwb
    obtain ⟨d1, ch, m0, m1, m2⟩ := letsW_f (wa := wa) (k := w.heap.size + 1) true true true l0 l1 l2 f0 f1 f2
    rw [hwb] at d1 ch m0 m1 m2
    have k0 := ch.cell g0 (fun e => Nat.succ_ne_self _ e.symm)
    have k1 := ch.cell g1 (fun e => Nat.succ_ne_self _ e.symm)
    have hG : Gw w wb := ⟨hB.trans (ch.below (B := w.heap.size) hB.size (fun k hk e => by omega)), by omega⟩
    have hzb : w.heap.size + 1 < wb.heap.size := Nat.lt_of_lt_of_le hz ch.size
    have HS := Lib.hid (show ∀ w' : World, Gw wb w' → (Gw wb w' ∧ w'.cell? ⟨w.heap.size, 0, none⟩ = some (.int .i64 a) ∧ w'.cell? ⟨w.heap.size, 1, none⟩ = some (.int .i64 b) ∧ (convert 22 9 (.slice (some ⟨w.heap.size + 1, 0, none⟩) 3 3)).run Tryz.prog w' = .ok (.string (bs [flagB true 114, flagB true 119, flagB true 107])) w') from fun w' h => by
      have hcl : ∀ {b o : Nat} {u : Value}, b < wb.heap.size → wb.cell? ⟨b, o, none⟩ = some u → w'.cell? ⟨b, o, none⟩ = some u := fun hb hc => (h.below.cell hb).trans hc
      refine ⟨h, hcl (by omega) k0, hcl (by omega) k1, ?_⟩
      refine run_convert_bytes_back _ _ _ 5 ⟨w.heap.size + 1, 0, none⟩ 3 [flagB true 114, flagB true 119, flagB true 107] Tryz.underlying22 Tryz.underlying5 Tryz.underlying9 (fun j hj => ?_)
      rcases j with _ | _ | _ | j
      · exact hcl hzb m0
      · exact hcl hzb m1
      · exact hcl hzb m2
      · exact absurd hj (by simp))
    have HG := Lib.hid hG
    clear hwb d1 ch m0 m1 m2 k0 k1 g0 g1 g2 g3 g4 l0 l1 l2 f0 f1 f2 hB hD hG
    first | (go_region_held3 (fun w' => Gw wb w' ∧ w'.cell? ⟨w.heap.size, 0, none⟩ = some (.int .i64 a) ∧ w'.cell? ⟨w.heap.size, 1, none⟩ = some (.int .i64 b) ∧ (convert 22 9 (.slice (some ⟨w.heap.size + 1, 0, none⟩) 3 3)).run Tryz.prog w' = .ok (.string (bs [flagB true 114, flagB true 119, flagB true 107])) w')
      (first | assumption | exact HS.out _ (Gw.refl _) | exact HS.out _ ⟨Below.drew (Below.refl _ _), Nat.le_succ _⟩)
      (first
        | (go_at_call 144; with_reducible refine (itoa_c a1 a2).mono ?_; rintro e w3 ⟨rfl, rfl⟩)
        | (go_at_call 144; with_reducible refine (itoa_c b1 b2).mono ?_; rintro e w3 ⟨rfl, rfl⟩))) | fail
    all_goals go_wp2
    all_goals go_ret
    all_goals exact ⟨by rw [Ht.out, ← E3.out]; rfl, HG.out.trans (And.left (by assumption : Gw wb _ ∧ _))⟩

set_option maxRecDepth 100000 in
set_option maxHeartbeats 4000000 in
theorem irightText_c (r : Rgt) (w : World) (h : rgtOk r = true) (h0 : ¬ r.thing = 0) :
    Calls Tryz.prog 95 #[r.val] w fun e w' => e = .returned (.string (bs (rgtTxt r))) ∧ Gw w w' := by
  have Hr := Lib.hid h
  have H0 := Lib.hid h0
  obtain ⟨t, ht⟩ : ∃ t, t = bs (rgtTxt r) := ⟨_, rfl⟩
  rw [← ht]
  have Ht := Lib.hid ht
  obtain ⟨r0, r1, r2, r3, r4⟩ := r
  have hm : ∀ w, (method 289 109 (.agg #[.int .i64 r0, .int .i64 r1, .bool r2, .bool r3, .bool r4]) "loop.example/drawbar/impl.text").run Tryz.prog w = .ok (143, .agg #[.int .i64 r0, .int .i64 r1, .bool r2, .bool r3, .bool r4]) w := fun _ => by kernel_rfl
  have hn : ∀ w, (nilAhead 289 109 (.agg #[.int .i64 r0, .int .i64 r1, .bool r2, .bool r3, .bool r4]) "loop.example/drawbar/impl.text").run Tryz.prog w = .ok (some false) w := fun _ => by kernel_rfl
  clear h h0 ht
  go_enter Tryz.func95, Tryz.ntmps95
  go_upto_region 1 with (fail)
  generalize hwa : World.alloc _ _ = wa
  have hG : Gw w wa := by rw [← hwa]; exact ⟨(by (repeat (with_reducible first | exact Below.refl _ _ | refine Below.alloc ?_ ?_ _ | refine below_drewN ?_ _ | refine Below.drew ?_ | refine Below.setCell ?_ ?_ _ | refine Below.trans ?_ (Below.mono (by assumption) ?_))) <;> (first | omega | (simp; try omega))), Nat.le_refl _⟩
  have hz : w.heap.size < wa.heap.size := by rw [← hwa]; simp
  have gc : wa.cell? ⟨w.heap.size, 0, none⟩ = some (.int .i64 r0) ∧ wa.cell? ⟨w.heap.size, 1, none⟩ = some (.int .i64 r1) ∧ wa.cell? ⟨w.heap.size, 2, none⟩ = some (.bool r2) ∧ wa.cell? ⟨w.heap.size, 3, none⟩ = some (.bool r3) ∧ wa.cell? ⟨w.heap.size, 4, none⟩ = some (.bool r4) := by rw [← hwa]; simp [go_sem]
  have HS := Lib.hid (show ∀ w' : World, Gw wa w' → (Gw wa w' ∧ w'.cell? ⟨w.heap.size, 0, none⟩ = some (.int .i64 r0) ∧ w'.cell? ⟨w.heap.size, 1, none⟩ = some (.int .i64 r1) ∧ w'.cell? ⟨w.heap.size, 2, none⟩ = some (.bool r2) ∧ w'.cell? ⟨w.heap.size, 3, none⟩ = some (.bool r3) ∧ w'.cell? ⟨w.heap.size, 4, none⟩ = some (.bool r4)) from fun w' h =>
    ⟨h, (h.below.cell hz).trans gc.1, (h.below.cell hz).trans gc.2.1, (h.below.cell hz).trans gc.2.2.1, (h.below.cell hz).trans gc.2.2.2.1, (h.below.cell hz).trans gc.2.2.2.2⟩)
  have HG := Lib.hid hG
  obtain ⟨g0, g1, g2, g3, g4⟩ := gc
  clear hwa hG
  go_wp2_with (first
    | (go_at_call 40; refine (rightOk_g ⟨_, _, _, _, _⟩ _).mono ?_; rw [Hr.out]; rintro e w1 ⟨rfl, hg1⟩; obtain ⟨-, g0, g1, g2, g3, g4⟩ := HS.out _ hg1; have Hg1 := Lib.hid hg1)
    | (go_at_call 44; refine (capabilityOf_g ⟨_, _, _, _, _⟩ _ H0.out).mono ?_; rintro e w2 ⟨rfl, hg2⟩; have Hg2 := Lib.hid hg2)
    | (go_at_call 143; refine (objText_c ⟨_, _, _, _, _⟩ _ Hr.out H0.out).mono ?_; rw [← Ht.out]; rintro e w3 ⟨rfl, hg3⟩; have Hg3 := Lib.hid hg3))
  go_ret
  exact ⟨rfl, HG.out.trans (Hg1.out.trans (Hg2.out.trans Hg3.out))⟩

theorem irightText_t {r : Rgt} {t : ByteArray} {w : World} (h : rgtOk r = true) (h0 : ¬ r.thing = 0) (ht : bs (rgtTxt r) = t) :
    Calls Tryz.prog 95 #[r.val] w fun e w' => e = .returned (.string t) ∧ Gw w w' := by
  rw [← ht]; exact irightText_c r w h h0

set_option maxRecDepth 100000 in
set_option maxHeartbeats 4000000 in
theorem cmpStr_c {s t : ByteArray} {b d : Bool} {w : World} (h : Op.bytesLess s.toList t.toList = b) (h' : (s.toList == t.toList) = d) :
    Calls Tryz.prog 94 #[.string s, .string t] w fun e w' => e = .returned (.int .i64 (if b then -1 else if d then 0 else 1)) ∧ w' = w := by
  cases b
  · cases d
    · go_enter Tryz.func94, Tryz.ntmps94
      go_wp2
      go_ret
      exact ⟨rfl, rfl⟩
    · go_enter Tryz.func94, Tryz.ntmps94
      go_wp2
      go_ret
      exact ⟨rfl, rfl⟩
  · go_enter Tryz.func94, Tryz.ntmps94
    go_wp2
    go_ret
    exact ⟨rfl, rfl⟩
end Go.Proofs.YtiolplhgpodifaaGreat

/- The sort of the library, laid at rights. -/
namespace Go.Proofs.YtiolplhgpodifaaGreat
open Go.Shelf Go.Proofs
def rgtSort_ren : Go.Shelf.Ren := ⟨fun | 6 => 93 | 15 => 103 | 14 => 102 | 28 => 117 | 29 => 118 | 20 => 109 | 21 => 110 | 22 => 111 | 23 => 112 | 24 => 113 | 25 => 114 | 26 => 115 | 27 => 116 | 46 => 119 | 47 => 120 | 48 => 121 | 49 => 122 | 50 => 123 | 57 => 124 | n => n, fun | 22 => 30 | 24 => 35 | 25 => 100 | 3 => 3 | 39 => 137 | 0 => 0 | 53 => 151 | 55 => 153 | 4 => 4 | 46 => 144 | 45 => 143 | 50 => 148 | 5 => 5 | 9 => 9 | 66 => 154 | 70 => 158 | 76 => 160 | 77 => 161 | n => n, fun | n => n⟩
theorem rgtSort : Go.Proofs.SlLaysF0.n6 Tryz.prog rgtSort_ren := {
    mixed := by kernel_rfl,
    f6 := ⟨Tryz.f93.name, by decide, Tryz.func93.trans (congrArg some (by kernel_rfl))⟩,
    f14 := ⟨Tryz.f102.name, by decide, Tryz.func102.trans (congrArg some (by kernel_rfl))⟩,
    f15 := Tryz.func103.trans (congrArg some (by kernel_rfl)),
    f20 := ⟨Tryz.f109.name, by decide, Tryz.func109.trans (congrArg some (by kernel_rfl))⟩,
    f21 := ⟨Tryz.f110.name, by decide, Tryz.func110.trans (congrArg some (by kernel_rfl))⟩,
    f22 := ⟨Tryz.f111.name, by decide, Tryz.func111.trans (congrArg some (by kernel_rfl))⟩,
    f23 := ⟨Tryz.f112.name, by decide, Tryz.func112.trans (congrArg some (by kernel_rfl))⟩,
    f24 := ⟨Tryz.f113.name, by decide, Tryz.func113.trans (congrArg some (by kernel_rfl))⟩,
    f25 := ⟨Tryz.f114.name, by decide, Tryz.func114.trans (congrArg some (by kernel_rfl))⟩,
    f26 := ⟨Tryz.f115.name, by decide, Tryz.func115.trans (congrArg some (by kernel_rfl))⟩,
    f27 := ⟨Tryz.f116.name, by decide, Tryz.func116.trans (congrArg some (by kernel_rfl))⟩,
    f28 := Tryz.func117.trans (congrArg some (by kernel_rfl)),
    f29 := Tryz.func118.trans (congrArg some (by kernel_rfl)),
    f46 := ⟨Tryz.f119.name, by decide, Tryz.func119.trans (congrArg some (by kernel_rfl))⟩,
    f47 := Tryz.func120.trans (congrArg some (by kernel_rfl)),
    f48 := Tryz.func121.trans (congrArg some (by kernel_rfl)),
    f49 := ⟨Tryz.f122.name, by decide, Tryz.func122.trans (congrArg some (by kernel_rfl))⟩,
    f50 := ⟨Tryz.f123.name, by decide, Tryz.func123.trans (congrArg some (by kernel_rfl))⟩,
    f57 := ⟨Tryz.f124.name, by decide, Tryz.func124.trans (congrArg some (by kernel_rfl))⟩,
    t0 := Tryz.underlying0,
    a0 := Tryz.isAgg0,
    z0 := Tryz.sizeOf0,
    v0 := Tryz.zeroValue0,
    t3 := Tryz.underlying3,
    a3 := Tryz.isAgg3,
    z3 := Tryz.sizeOf3,
    v3 := Tryz.zeroValue3,
    t4 := Tryz.underlying4,
    a4 := Tryz.isAgg4,
    z4 := Tryz.sizeOf4,
    v4 := Tryz.zeroValue4,
    t5 := Tryz.underlying5,
    a5 := Tryz.isAgg5,
    z5 := Tryz.sizeOf5,
    v5 := Tryz.zeroValue5,
    t9 := Tryz.underlying9,
    a9 := Tryz.isAgg9,
    z9 := Tryz.sizeOf9,
    v9 := Tryz.zeroValue9,
    t22 := Tryz.underlying30,
    a22 := Tryz.isAgg30,
    z22 := Tryz.sizeOf30,
    v22 := Tryz.zeroValue30,
    t25 := Tryz.underlying100,
    a25 := Tryz.isAgg100,
    z25 := Tryz.sizeOf100,
    v25 := Tryz.zeroValue100,
    t39 := Tryz.underlying137,
    a39 := Tryz.isAgg137,
    z39 := Tryz.sizeOf137,
    v39 := Tryz.zeroValue137,
    t45 := Tryz.underlying143,
    a45 := Tryz.isAgg143,
    z45 := Tryz.sizeOf143,
    v45 := Tryz.zeroValue143,
    t46 := Tryz.underlying144,
    a46 := Tryz.isAgg144,
    z46 := Tryz.sizeOf144,
    v46 := Tryz.zeroValue144,
    t50 := Tryz.underlying148,
    a50 := Tryz.isAgg148,
    z50 := Tryz.sizeOf148,
    v50 := Tryz.zeroValue148,
    t53 := Tryz.underlying151,
    a53 := Tryz.isAgg151,
    z53 := Tryz.sizeOf151,
    v53 := Tryz.zeroValue151,
    t55 := Tryz.underlying153,
    a55 := Tryz.isAgg153,
    z55 := Tryz.sizeOf153,
    v55 := Tryz.zeroValue153,
    t66 := Tryz.underlying154,
    a66 := Tryz.isAgg154,
    z66 := Tryz.sizeOf154,
    v66 := Tryz.zeroValue154,
    t70 := Tryz.underlying158,
    a70 := Tryz.isAgg158,
    z70 := Tryz.sizeOf158,
    v70 := Tryz.zeroValue158,
    t76 := Tryz.underlying160,
    a76 := Tryz.isAgg160,
    z76 := Tryz.sizeOf160,
    v76 := Tryz.zeroValue160,
    t77 := Tryz.underlying161,
    a77 := Tryz.isAgg161,
    z77 := Tryz.sizeOf161,
    v77 := Tryz.zeroValue161 }
end Go.Proofs.YtiolplhgpodifaaGreat

/- The rights of a thing, in order: a set's list, sorted. Conditions: the gathered sets lie where their cells say. -/
namespace Go.Proofs.YtiolplhgpodifaaGreat
open Go.RowKit Drw Go.Sort
attribute [local go_sem] Lab.val Rgt.val Cal.val Thg.val

/-- A right to a thing. -/
abbrev Rok := { r : Rgt // rgtOk r = true ∧ r.thing ≠ 0 }
instance : Inhabited Rok := ⟨⟨⟨1, 0, false, false, false⟩, by decide, by decide⟩⟩
def encR (x : Rok) : List Value := x.1.cells
def cfR (x y : Rok) : Int := if key x.1 < key y.1 then -1 else if key y.1 < key x.1 then 1 else 0
theorem ltR (x y : Rok) : ltOf cfR x y = decide (key x.1 < key y.1) := by
  unfold ltOf cfR
  by_cases h1 : key x.1 < key y.1
  · simp [h1]
  · by_cases h2 : key y.1 < key x.1 <;> simp [h1, h2]
theorem swoR : SWO (ltOf cfR) where
  irrefl x := by rw [ltR]; simp
  trans x y z h1 h2 := by rw [ltR] at *; simp at *; omega
  ntrans x y z h1 h2 := by rw [ltR] at *; simp at *; omega

theorem irightText_v {x0 x1 : Int} {x2 x3 x4 : Bool} {t : ByteArray} {w : World} (h : rgtOk ⟨x0, x1, x2, x3, x4⟩ = true) (h0 : ¬ x0 = 0) (ht : bs (rgtTxt ⟨x0, x1, x2, x3, x4⟩) = t) :
    Calls Tryz.prog 95 #[.agg #[.int .i64 x0, .int .i64 x1, .bool x2, .bool x3, .bool x4]] w fun e w' => e = .returned (.string t) ∧ Gw w w' := irightText_t (r := ⟨x0, x1, x2, x3, x4⟩) h h0 ht
theorem cf_txt (x y : Rok) : cfR x y = if decide (key x.1 < key y.1) then -1 else if rgtTxt x.1 == rgtTxt y.1 then 0 else 1 := by
  unfold cfR
  by_cases h1 : key x.1 < key y.1
  · simp [h1]
  · by_cases h2 : key y.1 < key x.1
    · have hne : ¬ rgtTxt x.1 = rgtTxt y.1 := fun e => by
        have := rgtTxt_inj x.2.1 y.2.1 e
        rw [this] at h2; exact Nat.lt_irrefl _ h2
      simp [h1, h2, hne]
    · have : x.1 = y.1 := key_inj x.2.1 y.2.1 x.2.2 y.2.2 (by omega)
      simp [this]

set_option maxRecDepth 100000 in
set_option maxHeartbeats 4000000 in
theorem compareR_c (x y : Rok) (w : World) :
    Calls Tryz.prog 67 #[.agg (encR x).toArray, .agg (encR y).toArray] w fun e w' => e = .returned (.int .i64 (cfR x y)) ∧ Gw w w' := by
  obtain ⟨⟨x0, x1, x2, x3, x4⟩, hx, hx0⟩ := x
  obtain ⟨⟨y0, y1, y2, y3, y4⟩, hy, hy0⟩ := y
  obtain ⟨s, hs⟩ : ∃ s, bs (rgtTxt ⟨x0, x1, x2, x3, x4⟩) = s := ⟨_, rfl⟩
  obtain ⟨t, ht⟩ : ∃ t, bs (rgtTxt ⟨y0, y1, y2, y3, y4⟩) = t := ⟨_, rfl⟩
  obtain ⟨k, hk⟩ : ∃ k, cfR ⟨⟨x0, x1, x2, x3, x4⟩, hx, hx0⟩ ⟨⟨y0, y1, y2, y3, y4⟩, hy, hy0⟩ = k := ⟨_, rfl⟩
  rw [hk]
  have HC := Lib.hid (show ∀ w : World, Calls Tryz.prog 94 #[.string s, .string t] w fun e w' => e = .returned (.int .i64 k) ∧ w' = w from fun w => by
    rw [← hk, cf_txt]
    refine cmpStr_c ?_ ?_
    · rw [← hs, ← ht, bs_toList, bs_toList, txt_lt hx hy hx0 hy0]
    · rw [← hs, ← ht, bs_toList, bs_toList])
  have Hx := Lib.hid hx
  have Hx0 := Lib.hid hx0
  have Hy := Lib.hid hy
  have Hy0 := Lib.hid hy0
  have Hs := Lib.hid hs
  have Ht := Lib.hid ht
  clear hk hs ht
  show Calls Tryz.prog 67 #[.agg #[.int .i64 x0, .int .i64 x1, .bool x2, .bool x3, .bool x4], .agg #[.int .i64 y0, .int .i64 y1, .bool y2, .bool y3, .bool y4]] w _
  clear hx hx0 hy hy0
  go_enter Tryz.func67, Tryz.ntmps67
  go_upto_region 1 with (fail)
  generalize hwa : World.alloc _ _ = wa
  have hG : Gw w wa := by rw [← hwa]; exact ⟨(by (repeat (with_reducible first | exact Below.refl _ _ | refine Below.alloc ?_ ?_ _ | refine below_drewN ?_ _ | refine Below.drew ?_ | refine Below.setCell ?_ ?_ _ | refine Below.trans ?_ (Below.mono (by assumption) ?_))) <;> (first | omega | (simp; try omega))), Nat.le_refl _⟩
  have hz : w.heap.size + 1 < wa.heap.size := by rw [← hwa]; simp
  have gc : wa.cell? ⟨w.heap.size, 0, none⟩ = some (.int .i64 x0) ∧ wa.cell? ⟨w.heap.size, 1, none⟩ = some (.int .i64 x1) ∧ wa.cell? ⟨w.heap.size, 2, none⟩ = some (.bool x2) ∧ wa.cell? ⟨w.heap.size, 3, none⟩ = some (.bool x3) ∧ wa.cell? ⟨w.heap.size, 4, none⟩ = some (.bool x4) := by rw [← hwa]; simp [go_sem]
  have gd : wa.cell? ⟨w.heap.size + 1, 0, none⟩ = some (.int .i64 y0) ∧ wa.cell? ⟨w.heap.size + 1, 1, none⟩ = some (.int .i64 y1) ∧ wa.cell? ⟨w.heap.size + 1, 2, none⟩ = some (.bool y2) ∧ wa.cell? ⟨w.heap.size + 1, 3, none⟩ = some (.bool y3) ∧ wa.cell? ⟨w.heap.size + 1, 4, none⟩ = some (.bool y4) := by rw [← hwa]; simp [go_sem]
  have HS := Lib.hid (show ∀ w' : World, Gw wa w' → (Gw wa w' ∧ w'.cell? ⟨w.heap.size, 0, none⟩ = some (.int .i64 x0) ∧ w'.cell? ⟨w.heap.size, 1, none⟩ = some (.int .i64 x1) ∧ w'.cell? ⟨w.heap.size, 2, none⟩ = some (.bool x2) ∧ w'.cell? ⟨w.heap.size, 3, none⟩ = some (.bool x3) ∧ w'.cell? ⟨w.heap.size, 4, none⟩ = some (.bool x4) ∧ w'.cell? ⟨w.heap.size + 1, 0, none⟩ = some (.int .i64 y0) ∧ w'.cell? ⟨w.heap.size + 1, 1, none⟩ = some (.int .i64 y1) ∧ w'.cell? ⟨w.heap.size + 1, 2, none⟩ = some (.bool y2) ∧ w'.cell? ⟨w.heap.size + 1, 3, none⟩ = some (.bool y3) ∧ w'.cell? ⟨w.heap.size + 1, 4, none⟩ = some (.bool y4)) from fun w' h => by
    have hcl : ∀ {b o : Nat} {u : Value}, b < wa.heap.size → wa.cell? ⟨b, o, none⟩ = some u → w'.cell? ⟨b, o, none⟩ = some u := fun hb hc => (h.below.cell hb).trans hc
    exact ⟨h, hcl (by omega) gc.1, hcl (by omega) gc.2.1, hcl (by omega) gc.2.2.1, hcl (by omega) gc.2.2.2.1, hcl (by omega) gc.2.2.2.2, hcl hz gd.1, hcl hz gd.2.1, hcl hz gd.2.2.1, hcl hz gd.2.2.2.1, hcl hz gd.2.2.2.2⟩)
  have HG := Lib.hid hG
  clear hwa hG gc gd
  first | (go_region_held3 (fun w' => Gw wa w' ∧ w'.cell? ⟨w.heap.size, 0, none⟩ = some (.int .i64 x0) ∧ w'.cell? ⟨w.heap.size, 1, none⟩ = some (.int .i64 x1) ∧ w'.cell? ⟨w.heap.size, 2, none⟩ = some (.bool x2) ∧ w'.cell? ⟨w.heap.size, 3, none⟩ = some (.bool x3) ∧ w'.cell? ⟨w.heap.size, 4, none⟩ = some (.bool x4) ∧ w'.cell? ⟨w.heap.size + 1, 0, none⟩ = some (.int .i64 y0) ∧ w'.cell? ⟨w.heap.size + 1, 1, none⟩ = some (.int .i64 y1) ∧ w'.cell? ⟨w.heap.size + 1, 2, none⟩ = some (.bool y2) ∧ w'.cell? ⟨w.heap.size + 1, 3, none⟩ = some (.bool y3) ∧ w'.cell? ⟨w.heap.size + 1, 4, none⟩ = some (.bool y4)) (first | assumption | exact HS.out _ (Gw.refl _) | exact HS.out _ ⟨Below.drew (Below.refl _ _), Nat.le_succ _⟩ | (have hX := And.left (by assumption : Gw wa _ ∧ _); exact HS.out _ (hX.trans hg3))) (first | (go_at_call 95; with_reducible refine (irightText_v Hx.out Hx0.out Hs.out).mono ?_; rintro e w3 ⟨rfl, hg3⟩) | (go_at_call 95; with_reducible refine (irightText_v Hy.out Hy0.out Ht.out).mono ?_; rintro e w3 ⟨rfl, hg3⟩) | (go_at_call 94; with_reducible refine (HC.out _).mono ?_; rintro e w3 ⟨rfl, rfl⟩))) | fail
  all_goals go_wp2
  all_goals go_ret
  all_goals exact ⟨rfl, HG.out.trans (And.left (by assumption : Gw wa _ ∧ _))⟩

theorem cmpLaysR (blk off size : Nat) (w : World) : CmpLays Tryz.prog 67 #[] encR 5 cfR blk off size w :=
  fun _ _ _ _ x y => (compareR_c x y _).mono fun _ _ h => ⟨h.1, h.2.grow⟩

/-- The rights of a row, sorted: what is told. -/
structure SortedAt (B : Nat) (w w' : World) (v : Value) (S : List Rgt) : Prop where
  row : ∃ (L : List Rgt) (q : Option Addr) (c : Nat), v = .slice q L.length c ∧ RgtsAt w' v L ∧ Ord L ∧ ∀ r, r ∈ L ↔ r ∈ S
  new : ∀ k, v.ownBlock = some k → B ≤ k
  below : Below B w w'

theorem sortedR_perm {d : List Rok} (hn : (d.map (·.1)).Nodup) : Ord ((d.mergeSort fun x y => !(ltOf cfR) y x).map (·.1)) ∧ ∀ r, r ∈ (d.mergeSort fun x y => !(ltOf cfR) y x).map (·.1) ↔ r ∈ d.map (·.1) := by
  have hp := List.mergeSort_perm d (fun x y => !(ltOf cfR) y x)
  have hp1 := hp.map (·.1)
  refine ⟨?_, fun r => hp1.mem_iff⟩
  have hnd : ((d.mergeSort fun x y => !(ltOf cfR) y x).map (·.1)).Nodup := hp1.nodup_iff.2 hn
  have hs : (d.mergeSort fun x y => !(ltOf cfR) y x).Pairwise (fun x y => (!(ltOf cfR) y x) = true) := List.pairwise_mergeSort (fun a b c h1 h2 => by
    rw [ltR] at *; simp at *; omega) (fun a b => by rw [ltR, ltR]; simp; omega) d
  show List.Pairwise (fun a b => key a < key b) _
  rw [List.pairwise_map]
  rw [List.Nodup, List.pairwise_map] at hnd
  refine List.Pairwise.imp₂ ?_ hs hnd
  intro x y h1 h2
  rw [ltR] at h1
  have h3 : ¬ key y.1 < key x.1 := by simpa using h1
  have h4 : key x.1 ≠ key y.1 := fun e => h2 (key_inj x.2.1 y.2.1 x.2.2 y.2.2 e)
  omega

theorem sortWorldK_below {α : Type} [Inhabited α] (enc : α → List Value) (k : Nat) (w : World) (g off n : Nat) (d : Array α) (os : Array Obj) {B : Nat} (hB : B ≤ g) (hg : g < w.heap.size) : Below B w (sortWorldK enc k w g off n d os) := by
  unfold sortWorldK Go.Sort.grow putRowK putRow mapBlock Go.Sort.ahead
  refine ⟨rfl, rfl, rfl, by simp, fun j hj => ?_⟩
  simp only [Array.getElem?_append, Array.size_modify, Array.getElem?_modify]
  rw [if_pos (by omega), if_neg (by omega)]

theorem sortR_c {B : Nat} {v : Value} {L : List Rgt} {w : World} (hw : w.ownsRow B 35 5 v L.length ((L.map Rgt.cells).flatten)) (hn : L.Nodup) (hl : L.length ≤ 400) (hok : ∀ r ∈ L, rgtOk r = true ∧ r.thing ≠ 0) :
    Calls Tryz.prog 93 #[v, .func (.func 67) #[] #[]] w fun e w' => e = .returned (.tuple #[]) ∧ SortedAt B w w' v L := by
  have hrow := Rows.of_own (flat_rgts L) (by simpa using hw)
  obtain ⟨hlen, ⟨rfl, h0⟩ | ⟨g, cap, cur, rfl, hg, hheap, hnc, hcap, hcs, htk⟩⟩ := hw
  · have hL : L = [] := List.eq_nil_of_length_eq_zero h0
    subst hL
    refine (AnyF.slices_SortFunc_none rgtSort none 0 _ w).mono ?_
    rintro e w' ⟨rfl, rfl⟩
    exact ⟨rfl, ⟨[], none, 0, rfl, hrow, List.Pairwise.nil, fun r => Iff.rfl⟩, fun k hk => by simp [Value.ownBlock] at hk, Below.refl _ _⟩
  · have hgl : g < w.heap.size := by
      rcases Nat.lt_or_ge g w.heap.size with h | h
      · exact h
      · rw [Array.getElem?_eq_none h] at hheap; cases hheap
    obtain ⟨d, hd⟩ : ∃ d : List Rok, d = L.pmap (fun r h => (⟨r, h⟩ : Rok)) hok := ⟨_, rfl⟩
    have hdm : d.map (·.1) = L := by rw [hd, List.map_pmap]; simp
    have hdl : d.length = L.length := by rw [← hdm]; simp
    have hds : d.toArray.size = L.length := by simpa using hdl
    have hget : ∀ i (hi : i < L.length), (d.toArray[i]!).1 = L[i] := by
      intro i hi
      rw [getElem!_pos d.toArray i (by rw [hds]; exact hi)]
      have : (d.map (·.1))[i]'(by simpa [hdl] using hi) = L[i] := by simp [hdm]
      simpa using this
    have hH : HoldsK encR 5 w g 0 d.toArray := by
      intro j hj
      rw [size_flatK, hds] at hj
      have hk : j / 5 < L.length := by omega
      rw [get_flatK _ _ _ _ (by rw [hds]; exact hj)]
      obtain ⟨p', c', e, -, -, h | ⟨b, o, e2, hc⟩⟩ := hrow
      · exfalso
        have : L = [] := by simpa using h
        rw [this] at hk; simp at hk
      · rw [List.length_map] at e
        cases e
        cases e2
        have hc5 : (L[j / 5].cells)[j % 5]? = some ((L[j / 5].cells)[j % 5]!) := by
          have : j % 5 < (L[j / 5].cells).length := by simp only [Rgt.cells, List.length_cons, List.length_nil]; omega
          rw [List.getElem?_eq_getElem this, getElem!_pos (L[j / 5].cells) (j % 5) this]
        have := hc (j / 5) _ (by simp [hk]) (j % 5) _ hc5
        rw [show 0 + j / 5 * 5 + j % 5 = 0 + j by omega] at this
        refine ⟨?_, by simp [World.frozen?, hheap]⟩
        show w.cell? ⟨g, 0 + j, none⟩ = some ((encR d.toArray[j / 5]!)[j % 5]!)
        rw [this]
        show _ = some ((d.toArray[j / 5]!).1.cells[j % 5]!)
        rw [hget _ hk]
    have eg : ∀ args w, (callFunc 67 args).run Tryz.prog w = .ok (.enter 67 args) w := fun _ _ => by kernel_rfl
    have hT : ∀ x y : Rok, (ltOf cfR) x y = false → (ltOf cfR) y x = false → x = y := by
      intro x y h1 h2
      rw [ltR] at h1 h2
      simp at h1 h2
      exact Subtype.ext (key_inj x.2.1 y.2.1 x.2.2 y.2.2 (by omega))
    have hcon := AnyQ.slices_SortFunc_total rgtSort 5 Tryz.isAgg35 Tryz.sizeOf35 encR (fun _ => rfl) (fun x v hv => by simp [encR, Rgt.cells] at hv; rcases hv with rfl | rfl | rfl | rfl | rfl <;> rfl) cfR swoR 67 #[] g 0 cap d.toArray w eg (cmpLaysR g 0 _ w) hH hgl (by rw [hds]; omega) hT
    rw [hds] at hcon
    refine Calls.mono hcon ?_
    rintro e w' ⟨rfl, n, os, rfl⟩
    obtain ⟨ho, hm⟩ := sortedR_perm (d := d) (by rw [hdm]; exact hn)
    obtain ⟨D', hD'⟩ : ∃ D', D' = (d.mergeSort fun x y => !(ltOf cfR) y x) := ⟨_, rfl⟩
    rw [← hD'] at ho hm
    have hDl : D'.length = L.length := by rw [hD', List.length_mergeSort, hdl]
    simp only [List.toList_toArray]
    rw [← hD']
    have hH' : HoldsK encR 5 (sortWorldK encR 5 w g 0 n D'.toArray os) g 0 D'.toArray := by
      refine holdsK_grow encR 5 _ os g 0 _ ?_ (holdsK_putRowK encR 5 _ g 0 d.toArray _ hH (by simp [hDl, hdl]))
      simpa [putRowK, putRow, mapBlock, Go.Sort.ahead] using hgl
    refine ⟨trivial, ⟨D'.map (·.1), some ⟨g, 0, none⟩, cap, by simp [hDl], ?_, ho, fun r => by rw [hm r, hdm]⟩, fun k hk => by cases hk; exact hg, sortWorldK_below _ _ _ _ _ _ _ _ hg hgl⟩
    refine ⟨some ⟨g, 0, none⟩, cap, by simp [hDl], by simpa [hDl] using hnc, hcap, .inr ⟨g, 0, rfl, fun k c hk j u hu => ?_⟩⟩
    obtain ⟨x, hx, rfl⟩ : ∃ x, D'[k]? = some x ∧ x.1.cells = c := by
      simp only [List.map_map, List.getElem?_map, Option.map_eq_some_iff] at hk
      obtain ⟨x, h1, h2⟩ := hk
      exact ⟨x, h1, h2⟩
    have hkl : k < D'.toArray.size := by simpa using (List.getElem?_eq_some_iff.1 hx).1
    have hjl : j < 5 := (List.getElem?_eq_some_iff.1 hu).1
    have h1 := (hH'.cell hkl hjl).1
    rw [h1]
    have h2 : D'.toArray[k]! = x := by
      rw [getElem!_pos D'.toArray k hkl]
      have := (List.getElem?_eq_some_iff.1 hx).2
      simpa using this
    rw [h2]
    show some (x.1.cells[j]!) = some u
    obtain ⟨h3, h4⟩ := List.getElem?_eq_some_iff.1 hu
    rw [getElem!_pos x.1.cells j h3, h4]

/-- A sorted list of rights, in memory of its own. -/
def Listed (w : World) (S : List Rgt) (e : Ending) (w' : World) : Prop := ∃ (q : Option Addr) (c : Nat) (L : List Rgt), e = .returned (.slice q L.length c) ∧ RgtsAt w' (.slice q L.length c) L ∧ Drw.Ord L ∧ (∀ r, r ∈ L ↔ r ∈ S) ∧ (∀ k, (Value.slice q L.length c).ownBlock = some k → w.heap.size ≤ k) ∧ Below w.heap.size w w'
theorem setList_c {s b : Nat} {S : List Rgt} {w : World} (h : SetAt w s b S) (hn : S.length ≤ 400) (hok : ∀ r ∈ S, rgtOk r = true ∧ r.thing ≠ 0) :
    Calls Tryz.prog 66 #[.pointer (some ⟨s, 0, none⟩), .func (.func 67) #[] #[]] w (Listed w S) := by
  refine (setList_w (R := fun v w'' => ∃ w', Below w.heap.size w w' ∧ SortedAt (w.heap.size + 1) w' w'' v S) h hn (fun L v w' hnd hl hm hb ho => ?_)).mono ?_
  · refine (sortR_c ho hnd (by omega) (fun r hr => hok r ((hm r).1 hr))).mono ?_
    rintro e w2 ⟨h1, ⟨L', q, c, h2, h3, h4, h5⟩, h6, h7⟩
    exact ⟨h1, w', hb, ⟨L', q, c, h2, h3, h4, fun r => (h5 r).trans (hm r)⟩, h6, h7⟩
  · rintro e w2 ⟨v, rfl, w', hb, ⟨L, q, c, rfl, h3, h4, h5⟩, h6, h7⟩
    exact ⟨q, c, L, rfl, h3, h4, h5, fun k hk => by have := h6 k hk; omega, hb.trans (h7.mono (by omega))⟩

set_option maxRecDepth 100000 in
set_option maxHeartbeats 4000000 in
theorem rights_c {w0 w : World} {R H hc : Nat} {p : Option Addr} {cap : Nat} {ts : List Thg} {sp bp : Nat → Nat} {a : List (List Rgt)} {i : Nat} (h : RchAt w0 w R H hc p cap ts sp bp a) (hi : i < ts.length) :
    Calls Tryz.prog 36 #[.pointer (some ⟨R, 0, none⟩), .int .i64 ((i : Int) + 1)] w (Listed w (rowA a i)) := by
  have HC := Lib.hid (setList_c (h.set i hi) (by have := h.gat.row_len h.ok i; omega) (fun r hr => h.gat.ok h.ok hr))
  have hl8 := h.len8.2
  have hw1 := wrap1 (i := i) (by omega)
  have hi0 : (0 : Int) ≤ (i : Int) := by omega
  have hiu : (i : Int) < (ts.length : Int) := by omega
  have g1 := h.held
  have g2 := h.ptr i hi
  clear h
  go_enter Tryz.func36, Tryz.ntmps36
  go_wp2_with (go_at_call 66; refine HC.out.mono ?_; rintro e w1 ⟨q, c, L, rfl, h1, h2, h3, h4, h5⟩; have H1 := Lib.hid h1; have H2 := Lib.hid h2; have H3 := Lib.hid h3; have H4 := Lib.hid h4; have H5 := Lib.hid h5; clear h1 h2 h3 h4 h5)
  go_ret
  exact ⟨q, c, L, rfl, H1.out, H2.out, H3.out, H4.out, H5.out⟩
end Go.Proofs.YtiolplhgpodifaaGreat
