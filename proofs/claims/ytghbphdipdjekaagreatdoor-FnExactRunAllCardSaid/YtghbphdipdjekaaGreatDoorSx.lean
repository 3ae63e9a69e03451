/- The program's texts of rights, and the order that they give. Conditions: the rights are rights. -/
import Derived.Test.YtghbphdipdjekaaGreatDoorOr
import Derived.Test.YtghbphdipdjekaaGreatDoorGs
import Derived.Sort.Grow
import Derived.Lib.SmallJoins
import Derived.Test.YtghbphdipdjekaaGreatDoorChecked
import Derived.Shelf.SlLaysF0
import Derived.Shelf.SlSortCmp.NoneTotal
import Derived.Shelf.Abstract
set_option linter.unusedVariables false
set_option linter.unusedSimpArgs false
namespace Drw
open Go Go.RowKit
/-- What a call may do that changes nothing that was there. -/
structure Gw (w w' : World) : Prop where
  below : Below w.heap.size w w'
  drawn : w.drawn ≤ w'.drawn
theorem drawn_set (w : World) (a : Addr) (v : Value) : (w.setCell a v).drawn = w.drawn := by unfold World.setCell; split <;> rfl
theorem drawn_alloc (w : World) (o : Obj) : (w.alloc o).drawn = w.drawn := rfl
theorem drawn_drew (w : World) : w.drew.drawn = w.drawn + 1 := rfl
theorem Gw.refl (w : World) : Gw w w := ⟨Below.refl _ _, Nat.le_refl _⟩
theorem Gw.trans {a b c : World} (h : Gw a b) (k : Gw b c) : Gw a c := ⟨h.below.trans (k.below.mono h.below.size), Nat.le_trans h.drawn k.drawn⟩
theorem Gw.grow {w w' : World} (h : Gw w w') : ∃ q os, w' = Go.Sort.grow (w.drewN q) os := by
  refine ⟨w'.drawn - w.drawn, w'.heap.extract w.heap.size w'.heap.size, ?_⟩
  have hh : w'.heap = w.heap ++ w'.heap.extract w.heap.size w'.heap.size := by
    apply Array.ext_getElem?
    intro i
    rw [Array.getElem?_append]
    split
    · rename_i hi; exact h.below.block i hi
    · rename_i hi
      rw [Array.getElem?_extract]
      have := h.below.size
      split
      · rw [show w.heap.size + (i - w.heap.size) = i by omega]
      · rw [Array.getElem?_eq_none (by omega)]
  obtain ⟨heap, tape, drawn, os, output⟩ := w'
  obtain ⟨heap0, tape0, drawn0, os0, output0⟩ := w
  have h1 := h.below.os
  have h2 := h.below.tape
  have h3 := h.below.output
  have h4 := h.drawn
  simp only [Go.Sort.grow, World.drewN] at *
  subst h1 h2 h3
  rw [← hh, Nat.add_sub_cancel' h4]
end Drw

namespace Go.Proofs.YtghbphdipdjekaaGreatDoor
open Go.RowKit Drw
attribute [local go_sem] Lab.val Rgt.val Cal.val Thg.val

set_option maxHeartbeats 400000 in
theorem rightOk_g (r : Rgt) (w : World) :
    Calls Tryz.prog 152 #[r.val] w fun e w' => e = .returned (.bool (rgtOk r)) ∧ Gw w w' := by
  obtain ⟨a, b, c, d, f⟩ := r
  go_enter Tryz.func152, Tryz.ntmps152
  go_wp2
  all_goals go_ret
  all_goals refine ⟨ret_bool ?_, ⟨(by (repeat (with_reducible first | exact Below.refl _ _ | refine Below.alloc ?_ ?_ _ | refine below_drewN ?_ _ | refine Below.drew ?_ | refine Below.setCell ?_ ?_ _ | refine Below.trans ?_ (Below.mono (by assumption) ?_))) <;> (first | omega | (simp; try omega))), Nat.le_refl _⟩⟩
  all_goals grind [rgtOk, inR, Rgt.null]

set_option maxHeartbeats 400000 in
theorem capabilityOf_g (r : Rgt) (w : World) (h : ¬ r.thing = 0) :
    Calls Tryz.prog 166 #[r.val] w fun e w' => e = .returned (.iface 206 r.val) ∧ Gw w w' := by
  obtain ⟨a, b, c, d, f⟩ := r
  have h' : ¬ a = 0 := h
  clear h
  go_enter Tryz.func166, Tryz.ntmps166
  go_wp2
  all_goals go_ret
  all_goals exact ⟨rfl, ⟨(by (repeat (with_reducible first | exact Below.refl _ _ | refine Below.alloc ?_ ?_ _ | refine below_drewN ?_ _ | refine Below.drew ?_ | refine Below.setCell ?_ ?_ _ | refine Below.trans ?_ (Below.mono (by assumption) ?_))) <;> (first | omega | (simp; try omega))), Nat.le_refl _⟩⟩

/-- The letters of a right, put one behind the other. -/
def letsW (wa : World) (k : Nat) (c d f : Bool) : World :=
  let w1 := if c then wa.setCell ⟨k, 0, none⟩ (.int .u8 114) else wa
  let w2 := if d then w1.setCell ⟨k, 1, none⟩ (.int .u8 119) else w1
  if f then w2.setCell ⟨k, 2, none⟩ (.int .u8 107) else w2
theorem letsW_f {wa : World} {k : Nat} (c d f : Bool) (l0 : wa.cell? ⟨k, 0, none⟩ = some (.int .u8 45)) (l1 : wa.cell? ⟨k, 1, none⟩ = some (.int .u8 45)) (l2 : wa.cell? ⟨k, 2, none⟩ = some (.int .u8 45)) (f0 : wa.frozen? ⟨k, 0, none⟩ = false) (f1 : wa.frozen? ⟨k, 1, none⟩ = false) (f2 : wa.frozen? ⟨k, 2, none⟩ = false) :
    (letsW wa k c d f).drawn = wa.drawn ∧ Chg (fun b => b = k) wa (letsW wa k c d f) ∧ (letsW wa k c d f).cell? ⟨k, 0, none⟩ = some (.int .u8 ((flagB c 114).toNat : Int)) ∧ (letsW wa k c d f).cell? ⟨k, 1, none⟩ = some (.int .u8 ((flagB d 119).toNat : Int)) ∧ (letsW wa k c d f).cell? ⟨k, 2, none⟩ = some (.int .u8 ((flagB f 107).toNat : Int)) := by
  have hs : ∀ (o : Nat) (u : Value) (x : World), Chg (fun b => b = k) wa x → Chg (fun b => b = k) wa (x.setCell ⟨k, o, none⟩ u) := fun o u x h => h.setCell (p := ⟨k, o, none⟩) rfl u
  cases c <;> cases d <;> cases f
  all_goals
    simp only [letsW, if_true, Bool.false_eq_true, if_false]
    refine ⟨?_, ?_, ?_, ?_, ?_⟩
    · simp only [drawn_set]
    · repeat (with_reducible first | exact Chg.refl _ _ | refine hs _ _ _ ?_)
    all_goals simp [cell_set, l0, l1, l2, f0, f1, f2, flagB]

end Go.Proofs.YtghbphdipdjekaaGreatDoor

/- The sort of the library, laid at rights. -/
namespace Go.Proofs.YtghbphdipdjekaaGreatDoor
open Go.Shelf Go.Proofs
end Go.Proofs.YtghbphdipdjekaaGreatDoor

/- The rights of a thing, in order: a set's list, sorted. Conditions: the gathered sets lie where their cells say. -/
namespace Go.Proofs.YtghbphdipdjekaaGreatDoor
open Go.RowKit Drw Go.Sort
attribute [local go_sem] Lab.val Rgt.val Cal.val Thg.val

/-- A right to a thing. -/
abbrev Rok := { r : Rgt // rgtOk r = true ∧ r.thing ≠ 0 }
instance : Inhabited Rok := ⟨⟨⟨1, 0, false, false, false⟩, by decide, by decide⟩⟩
def encR (x : Rok) : List Value := x.1.cells
def cfR (x y : Rok) : Int := if key x.1 < key y.1 then -1 else if key y.1 < key x.1 then 1 else 0
theorem ltR (x y : Rok) : ltOf cfR x y = decide (key x.1 < key y.1) := by
  unfold ltOf cfR
  by_cases h1 : key x.1 < key y.1
  · simp [h1]
  · by_cases h2 : key y.1 < key x.1 <;> simp [h1, h2]
theorem swoR : SWO (ltOf cfR) where
  irrefl x := by rw [ltR]; simp
  trans x y z h1 h2 := by rw [ltR] at *; simp at *; omega
  ntrans x y z h1 h2 := by rw [ltR] at *; simp at *; omega

theorem cf_txt (x y : Rok) : cfR x y = if decide (key x.1 < key y.1) then -1 else if rgtTxt x.1 == rgtTxt y.1 then 0 else 1 := by
  unfold cfR
  by_cases h1 : key x.1 < key y.1
  · simp [h1]
  · by_cases h2 : key y.1 < key x.1
    · have hne : ¬ rgtTxt x.1 = rgtTxt y.1 := fun e => by
        have := rgtTxt_inj x.2.1 y.2.1 e
        rw [this] at h2; exact Nat.lt_irrefl _ h2
      simp [h1, h2, hne]
    · have : x.1 = y.1 := key_inj x.2.1 y.2.1 x.2.2 y.2.2 (by omega)
      simp [this]

/-- The rights of a row, sorted: what is told. -/
structure SortedAt (B : Nat) (w w' : World) (v : Value) (S : List Rgt) : Prop where
  row : ∃ (L : List Rgt) (q : Option Addr) (c : Nat), v = .slice q L.length c ∧ RgtsAt w' v L ∧ Ord L ∧ ∀ r, r ∈ L ↔ r ∈ S
  new : ∀ k, v.ownBlock = some k → B ≤ k
  below : Below B w w'

theorem sortedR_perm {d : List Rok} (hn : (d.map (·.1)).Nodup) : Ord ((d.mergeSort fun x y => !(ltOf cfR) y x).map (·.1)) ∧ ∀ r, r ∈ (d.mergeSort fun x y => !(ltOf cfR) y x).map (·.1) ↔ r ∈ d.map (·.1) := by
  have hp := List.mergeSort_perm d (fun x y => !(ltOf cfR) y x)
  have hp1 := hp.map (·.1)
  refine ⟨?_, fun r => hp1.mem_iff⟩
  have hnd : ((d.mergeSort fun x y => !(ltOf cfR) y x).map (·.1)).Nodup := hp1.nodup_iff.2 hn
  have hs : (d.mergeSort fun x y => !(ltOf cfR) y x).Pairwise (fun x y => (!(ltOf cfR) y x) = true) := List.pairwise_mergeSort (fun a b c h1 h2 => by
    rw [ltR] at *; simp at *; omega) (fun a b => by rw [ltR, ltR]; simp; omega) d
  show List.Pairwise (fun a b => key a < key b) _
  rw [List.pairwise_map]
  rw [List.Nodup, List.pairwise_map] at hnd
  refine List.Pairwise.imp₂ ?_ hs hnd
  intro x y h1 h2
  rw [ltR] at h1
  have h3 : ¬ key y.1 < key x.1 := by simpa using h1
  have h4 : key x.1 ≠ key y.1 := fun e => h2 (key_inj x.2.1 y.2.1 x.2.2 y.2.2 e)
  omega

theorem sortWorldK_below {α : Type} [Inhabited α] (enc : α → List Value) (k : Nat) (w : World) (g off n : Nat) (d : Array α) (os : Array Obj) {B : Nat} (hB : B ≤ g) (hg : g < w.heap.size) : Below B w (sortWorldK enc k w g off n d os) := by
  unfold sortWorldK Go.Sort.grow putRowK putRow mapBlock Go.Sort.ahead
  refine ⟨rfl, rfl, rfl, by simp, fun j hj => ?_⟩
  simp only [Array.getElem?_append, Array.size_modify, Array.getElem?_modify]
  rw [if_pos (by omega), if_neg (by omega)]

/-- A sorted list of rights, in memory of its own. -/
def Listed (w : World) (S : List Rgt) (e : Ending) (w' : World) : Prop := ∃ (q : Option Addr) (c : Nat) (L : List Rgt), e = .returned (.slice q L.length c) ∧ RgtsAt w' (.slice q L.length c) L ∧ Drw.Ord L ∧ (∀ r, r ∈ L ↔ r ∈ S) ∧ (∀ k, (Value.slice q L.length c).ownBlock = some k → w.heap.size ≤ k) ∧ Below w.heap.size w w'
end Go.Proofs.YtghbphdipdjekaaGreatDoor
