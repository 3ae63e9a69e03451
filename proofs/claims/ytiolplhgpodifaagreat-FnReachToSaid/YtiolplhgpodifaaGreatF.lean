/- The small questions about a table are answered as the plain functions say. Conditions: the table lies where its cells say; bounds as they stand. -/
import Derived.Test.YtiolplhgpodifaaGreatC
import Derived.Deep.RegionHeld3
import Derived.IntWalk
set_option linter.unusedVariables false
set_option linter.unusedSimpArgs false
namespace Go.Proofs.YtiolplhgpodifaaGreat
open Go.RowKit Drw
attribute [local go_sem] Lab.val Rgt.val Cal.val Thg.val

theorem ex_idx {ts : List Thg} {i : Int} (h : ex ts i = true) : ∃ k : Nat, i = (k : Int) + 1 ∧ ts[k]? = some (getT ts i) := by
  simp [ex, inR] at h
  obtain ⟨k, hk⟩ := Int.eq_ofNat_of_zero_le (show 0 ≤ i - 1 by omega)
  refine ⟨k, by omega, ?_⟩
  have hlt : k < ts.length := by omega
  simp [getT, hk, hlt]

set_option maxHeartbeats 400000 in
theorem thingExists_c (p : Option Addr) (n cap : Nat) (i : Int) (w : World) :
    Calls Tryz.prog 46 #[.slice p n cap, .int .i64 i] w fun e w' => e = .returned (.bool (inR i 1 n)) ∧ w = w' := by
  go_enter Tryz.func46, Tryz.ntmps46
  go_wp2_with (go_at_call 57; refine (inRange_c _ _ _ _).mono ?_; rintro e w' ⟨rfl, rfl⟩)
  go_ret
  exact ⟨rfl, rfl⟩

set_option maxHeartbeats 400000 in
theorem kindAt_c (p : Option Addr) (cap : Nat) (ts : List Thg) (i k : Int) (w : World) (hT : TabAt w (.slice p ts.length cap) ts) :
    Calls Tryz.prog 59 #[.slice p ts.length cap, .int .i64 i, .int .i64 k] w fun e w' => e = .returned (.bool (kindAt ts i k)) ∧ w = w' := by
  obtain ⟨_, _, h1, hl1, hl2⟩ := hT.len
  cases h1
  unfold maxLen at hl2
  by_cases h : ex ts i = true
  · obtain ⟨j, rfl, hj⟩ := ex_idx h
    obtain ⟨b, o, sv, qv, rfl, hbk, hS, hQ, c0, -⟩ := hT.at j _ hj
    have hlt : j < ts.length := (List.getElem?_eq_some_iff.1 hj).1
    have H := Lib.hid h
    have Hr := Lib.hid (show inR ((j : Int) + 1) 1 ts.length = true from h)
    clear h hj
    go_enter Tryz.func59, Tryz.ntmps59
    go_wp2_with (go_at_call 46; refine (thingExists_c _ _ _ _ _).mono ?_; rw [Hr.out]; rintro e w' ⟨rfl, rfl⟩)
    go_ret
    exact ⟨ret_bool (by simp [kindAt, H.out]), rfl⟩
  · have h' : ex ts i = false := by simpa using h
    have H := Lib.hid h'
    have Hr := Lib.hid (show inR i 1 ts.length = false from h')
    clear h h'
    go_enter Tryz.func59, Tryz.ntmps59
    go_wp2_with (go_at_call 46; refine (thingExists_c _ _ _ _ _).mono ?_; rw [Hr.out]; rintro e w' ⟨rfl, rfl⟩)
    go_ret
    exact ⟨ret_bool (by simp [kindAt, H.out]), rfl⟩

theorem thingExists_q (p : Option Addr) (n cap : Nat) (i : Int) (w : World) {v : Bool} (h : inR i 1 n = v) :
    Calls Tryz.prog 46 #[.slice p n cap, .int .i64 i] w fun e w' => e = .returned (.bool v) ∧ w' = w :=
  (thingExists_c p n cap i w).mono fun _ _ h' => ⟨by rw [h'.1, h], h'.2.symm⟩
theorem l6In_q (n lo hi : Int) (w : World) {v : Bool} (h : inR n lo hi = v) :
    Calls Tryz.prog 39 #[.int .i64 n, .int .i64 lo, .int .i64 hi] w fun e w' => e = .returned (.bool v) ∧ w' = w :=
  (l6In_c n lo hi w).mono fun _ _ h' => ⟨by rw [h'.1, h], h'.2.symm⟩

set_option maxHeartbeats 400000 in
theorem rightLive_c (p : Option Addr) (cap : Nat) (ts : List Thg) (r : Rgt) (w : World) (hT : TabAt w (.slice p ts.length cap) ts) :
    Calls Tryz.prog 45 #[.slice p ts.length cap, r.val] w fun e w' => e = .returned (.bool (live ts r)) ∧ Below w.heap.size w w' := by
  obtain ⟨th, ve, rd, wr, wk⟩ := r
  obtain ⟨_, _, h1, hl1, hl2⟩ := hT.len
  cases h1
  unfold maxLen at hl2
  by_cases h : ex ts th = true
  · obtain ⟨j, rfl, hj⟩ := ex_idx h
    obtain ⟨b, o, sv, qv, rfl, hbk, hS, hQ, c0, c1, c2, c3, -⟩ := hT.at j _ hj
    have hlt : j < ts.length := (List.getElem?_eq_some_iff.1 hj).1
    have H := Lib.hid h
    have Hr := Lib.hid (show inR ((j : Int) + 1) 1 ts.length = true from h)
    clear h hj
    go_enter Tryz.func45, Tryz.ntmps45
    go_wp2
    go_quiet ((go_at_call 46; refine Calls.quiet_of_same (thingExists_q _ _ _ _ _ Hr.out)))
    go_wp2
    go_ret
    exact ⟨ret_bool (by simp [live, H.out]), (by (repeat (with_reducible first | exact Below.refl _ _ | refine Below.alloc ?_ ?_ _ | refine below_drewN ?_ _ | refine Below.drew ?_ | refine Below.setCell ?_ ?_ _ | refine Below.trans ?_ (Below.mono (by assumption) ?_))) <;> (first | omega | (simp; try omega)))⟩
  · have h' : ex ts th = false := by simpa using h
    have H := Lib.hid h'
    have Hr := Lib.hid (show inR th 1 ts.length = false from h')
    clear h h'
    go_enter Tryz.func45, Tryz.ntmps45
    go_wp2
    go_quiet ((go_at_call 46; refine Calls.quiet_of_same (thingExists_q _ _ _ _ _ Hr.out)))
    go_wp2
    go_ret
    exact ⟨ret_bool (by simp [live, H.out]), (by (repeat (with_reducible first | exact Below.refl _ _ | refine Below.alloc ?_ ?_ _ | refine below_drewN ?_ _ | refine Below.drew ?_ | refine Below.setCell ?_ ?_ _ | refine Below.trans ?_ (Below.mono (by assumption) ?_))) <;> (first | omega | (simp; try omega)))⟩

end Go.Proofs.YtiolplhgpodifaaGreat
