/- Calls: what is asked of one ahead of it, both sides. Conditions: the table lies where its cells say. -/
import Derived.Test.YtghbphdipdjekaaGreatDoorG
import Derived.Test.YtghbphdipdjekaaGreatDoorH
set_option linter.unusedVariables false
set_option linter.unusedSimpArgs false
namespace Go.Proofs.YtghbphdipdjekaaGreatDoor
open Go.RowKit Drw
attribute [local go_sem] Lab.val Rgt.val Cal.val Thg.val

set_option maxRecDepth 100000 in
set_option maxHeartbeats 1000000 in
theorem callOk_c (c : Cal) (w : World) :
    Calls Tryz.prog 80 #[c.val] w fun e w' => e = .returned (.bool (calOk c)) ∧ Below w.heap.size w w' := by
  obtain ⟨k, r, a, b, n⟩ := c
  go_enter Tryz.func80, Tryz.ntmps80
  go_wp2_with (go_at_call 73; refine (inRange_c _ _ _ _).mono ?_; rintro e w' ⟨rfl, rfl⟩)
  all_goals (go_ret; exact ⟨ret_bool (by simp [calOk, *]), (by (repeat (with_reducible first | exact Below.refl _ _ | refine Below.alloc ?_ ?_ _ | refine below_drewN ?_ _ | refine Below.drew ?_ | refine Below.setCell ?_ ?_ _ | refine Below.trans ?_ (Below.mono (by assumption) ?_))) <;> (first | omega | (simp; try omega)))⟩)

set_option maxRecDepth 100000 in
set_option maxHeartbeats 1000000 in
theorem scallOk_c (c : Cal) (w : World) :
    Calls Tryz.prog 83 #[c.val] w fun e w' => e = .returned (.bool (calOk c)) ∧ Below w.heap.size w w' := by
  obtain ⟨k, r, a, b, n⟩ := c
  go_enter Tryz.func83, Tryz.ntmps83
  go_wp2_with (go_at_call 62; refine (l6In_c _ _ _ _).mono ?_; rintro e w' ⟨rfl, rfl⟩)
  all_goals (go_ret; exact ⟨ret_bool (by simp [calOk, *]), (by (repeat (with_reducible first | exact Below.refl _ _ | refine Below.alloc ?_ ?_ _ | refine below_drewN ?_ _ | refine Below.drew ?_ | refine Below.setCell ?_ ?_ _ | refine Below.trans ?_ (Below.mono (by assumption) ?_))) <;> (first | omega | (simp; try omega)))⟩)

set_option maxRecDepth 100000 in
set_option maxHeartbeats 1000000 in
theorem callPossible_c (p : Option Addr) (cap : Nat) (ts : List Thg) (c : Cal) (w : World) (hT : TabAt w (.slice p ts.length cap) ts) :
    Calls Tryz.prog 69 #[.slice p ts.length cap, c.val] w fun e w' => e = .returned (.bool (calCan ts c)) ∧ Below w.heap.size w w' := by
  obtain ⟨k, r, a, b, n⟩ := c
  go_enter Tryz.func69, Tryz.ntmps69
  go_wp2_with (first
    | (go_at_call 27; refine (tableOk_c _ _ ts _ (hT.pure (by (repeat (with_reducible first | exact Below.refl _ _ | refine Below.alloc ?_ ?_ _ | refine below_drewN ?_ _ | refine Below.drew ?_ | refine Below.setCell ?_ ?_ _ | refine Below.trans ?_ (Below.mono (by assumption) ?_))) <;> (first | omega | (simp; try omega))))).mono ?_; rintro e w1 ⟨rfl, hb1⟩; obtain ⟨hc1, hf1⟩ := bcell hb1; have hz0 : w.heap.size < w1.heap.size := (by have := hb1.size; (try simp at this); omega))
    | (go_at_call 80; refine (callOk_c ⟨_, _, _, _, _⟩ _).mono ?_; rintro e w2 ⟨rfl, hb2⟩; obtain ⟨hc2, hf2⟩ := bcell hb2; have hz2 : w.heap.size < w2.heap.size := (by have := hb2.size; omega))
    | (go_at_call 75; refine (kindAt_c _ _ ts _ _ _ (hT.pure (by (repeat (with_reducible first | exact Below.refl _ _ | refine Below.alloc ?_ ?_ _ | refine below_drewN ?_ _ | refine Below.drew ?_ | refine Below.setCell ?_ ?_ _ | refine Below.trans ?_ (Below.mono (by assumption) ?_))) <;> (first | omega | (simp; try omega))))).mono ?_; rintro e w' ⟨rfl, rfl⟩))
  all_goals (go_ret; exact ⟨ret_bool (by simp [calCan, *]), (by (repeat (with_reducible first | exact Below.refl _ _ | refine Below.alloc ?_ ?_ _ | refine below_drewN ?_ _ | refine Below.drew ?_ | refine Below.setCell ?_ ?_ _ | refine Below.trans ?_ (Below.mono (by assumption) ?_))) <;> (first | omega | (simp; try omega)))⟩)

def reqKinds (k : Int) : List Int := if k = 1 ∨ k = 2 then [1] else if k = 4 ∨ k = 5 then [2] else if k = 6 ∨ k = 7 then [4] else if k = 9 then [5] else [1, 2, 4]
theorem hasKind_req (k x : Int) : hasKind k x = (reqKinds k).any (fun y => y == x) := by
  unfold hasKind reqKinds
  repeat' split
  all_goals (rw [Bool.eq_iff_iff]; simp; try omega)

set_option maxRecDepth 100000 in
set_option maxHeartbeats 1000000 in
theorem hasKind_c (ca : Int) (ks : List Int) (b1 b2 b3 b4 : Bool) (p : Option Addr) (cap : Nat) (x : Int) (w : World) (hK : IntsAt w (.slice p ks.length cap) ks) :
    Calls Tryz.prog 151 #[.agg #[.int .i64 ca, .slice p ks.length cap, .bool b1, .bool b2, .bool b3, .bool b4], .int .i64 x] w fun e w' => e = .returned (.bool (ks.any (fun y => y == x))) ∧ Below w.heap.size w w' := by
  obtain ⟨_, _, h1, hl1, hl2⟩ := hK.len
  cases h1
  unfold maxLen at hl2
  go_enter Tryz.func151, Tryz.ntmps151
  go_wp2
  go_loop [10] (fun i => ∃ j : Nat, j ≤ ks.length ∧ i = .int .i64 j ∧ (ks.take j).any (fun y => y == x) = false) (fun i => ks.length - (intOf i).toNat)
  case atStart => exact ⟨0, Nat.zero_le _, rfl, by simp⟩
  case round =>
    obtain ⟨j, hj, rfl, hall⟩ := hrel
    have Hall := Lib.hid hall
    clear hall
    by_cases hlt : j < ks.length
    · obtain ⟨y, hy⟩ : ∃ y, ks[j]? = some y := ⟨ks[j], by simp [hlt]⟩
      obtain ⟨b, o, rfl, hbk, hc⟩ := hK.at j _ hy
      have Hy := Lib.hid hy
      clear hy
      go_wp2
      · go_ret
        have hm : y ∈ ks := List.mem_of_getElem? Hy.out
        exact ⟨ret_bool (by symm; rw [List.any_eq_true]; exact ⟨y, hm, by first | assumption | simpa using ‹y = x›⟩), (by (repeat (with_reducible first | exact Below.refl _ _ | refine Below.alloc ?_ ?_ _ | refine below_drewN ?_ _ | refine Below.drew ?_ | refine Below.setCell ?_ ?_ _ | refine Below.trans ?_ (Below.mono (by assumption) ?_))) <;> (first | omega | (simp; try omega)))⟩
      · go_round
        case rel => exact ⟨j + 1, by omega, by go_num, by rw [take_snoc' _ _ _ Hy.out, List.any_append, Hall.out]; simpa using ‹(y == x) = false›⟩
        case measure => simp [intOf]; omega
    · have e : j = ks.length := by omega
      have HQ := Hall.out
      rw [e, List.take_of_length_le (Nat.le_refl _)] at HQ
      have HQ' := Lib.hid HQ
      clear Hall HQ e
      go_wp2
      go_ret
      exact ⟨ret_bool (by rw [HQ'.out]), (by (repeat (with_reducible first | exact Below.refl _ _ | refine Below.alloc ?_ ?_ _ | refine below_drewN ?_ _ | refine Below.drew ?_ | refine Below.setCell ?_ ?_ _ | refine Below.trans ?_ (Below.mono (by assumption) ?_))) <;> (first | omega | (simp; try omega)))⟩

end Go.Proofs.YtghbphdipdjekaaGreatDoor
