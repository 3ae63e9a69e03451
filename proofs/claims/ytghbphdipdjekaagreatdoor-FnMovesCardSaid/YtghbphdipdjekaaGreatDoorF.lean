/- The small questions about a table are answered as the plain functions say. Conditions: the table lies where its cells say; bounds as they stand. -/
import Derived.Test.YtghbphdipdjekaaGreatDoorC
import Derived.Deep.RegionHeld3
import Derived.IntWalk
set_option linter.unusedVariables false
set_option linter.unusedSimpArgs false
namespace Go.Proofs.YtghbphdipdjekaaGreatDoor
open Go.RowKit Drw
attribute [local go_sem] Lab.val Rgt.val Cal.val Thg.val

theorem ex_idx {ts : List Thg} {i : Int} (h : ex ts i = true) : ∃ k : Nat, i = (k : Int) + 1 ∧ ts[k]? = some (getT ts i) := by
  simp [ex, inR] at h
  obtain ⟨k, hk⟩ := Int.eq_ofNat_of_zero_le (show 0 ≤ i - 1 by omega)
  refine ⟨k, by omega, ?_⟩
  have hlt : k < ts.length := by omega
  simp [getT, hk, hlt]

set_option maxHeartbeats 400000 in
theorem thingExists_c (p : Option Addr) (n cap : Nat) (i : Int) (w : World) :
    Calls Tryz.prog 65 #[.slice p n cap, .int .i64 i] w fun e w' => e = .returned (.bool (inR i 1 n)) ∧ w = w' := by
  go_enter Tryz.func65, Tryz.ntmps65
  go_wp2_with (go_at_call 73; refine (inRange_c _ _ _ _).mono ?_; rintro e w' ⟨rfl, rfl⟩)
  go_ret
  exact ⟨rfl, rfl⟩

set_option maxHeartbeats 400000 in
theorem kindAt_c (p : Option Addr) (cap : Nat) (ts : List Thg) (i k : Int) (w : World) (hT : TabAt w (.slice p ts.length cap) ts) :
    Calls Tryz.prog 75 #[.slice p ts.length cap, .int .i64 i, .int .i64 k] w fun e w' => e = .returned (.bool (kindAt ts i k)) ∧ w = w' := by
  obtain ⟨_, _, h1, hl1, hl2⟩ := hT.len
  cases h1
  unfold maxLen at hl2
  by_cases h : ex ts i = true
  · obtain ⟨j, rfl, hj⟩ := ex_idx h
    obtain ⟨b, o, sv, qv, rfl, hbk, hS, hQ, c0, -⟩ := hT.at j _ hj
    have hlt : j < ts.length := (List.getElem?_eq_some_iff.1 hj).1
    have H := Lib.hid h
    have Hr := Lib.hid (show inR ((j : Int) + 1) 1 ts.length = true from h)
    clear h hj
    go_enter Tryz.func75, Tryz.ntmps75
    go_wp2_with (go_at_call 65; refine (thingExists_c _ _ _ _ _).mono ?_; rw [Hr.out]; rintro e w' ⟨rfl, rfl⟩)
    go_ret
    exact ⟨ret_bool (by simp [kindAt, H.out]), rfl⟩
  · have h' : ex ts i = false := by simpa using h
    have H := Lib.hid h'
    have Hr := Lib.hid (show inR i 1 ts.length = false from h')
    clear h h'
    go_enter Tryz.func75, Tryz.ntmps75
    go_wp2_with (go_at_call 65; refine (thingExists_c _ _ _ _ _).mono ?_; rw [Hr.out]; rintro e w' ⟨rfl, rfl⟩)
    go_ret
    exact ⟨ret_bool (by simp [kindAt, H.out]), rfl⟩

set_option maxHeartbeats 400000 in
theorem l11Run_c (p : Option Addr) (cap : Nat) (ts : List Thg) (i : Int) (w : World) (hT : TabAt w (.slice p ts.length cap) ts) :
    Calls Tryz.prog 84 #[.slice p ts.length cap, .int .i64 i] w fun e w' => e = .returned (.bool (kindAt ts i 3)) ∧ w = w' := by
  obtain ⟨_, _, h1, hl1, hl2⟩ := hT.len
  cases h1
  unfold maxLen at hl2
  by_cases h : ex ts i = true
  · obtain ⟨j, rfl, hj⟩ := ex_idx h
    obtain ⟨b, o, sv, qv, rfl, hbk, hS, hQ, c0, -⟩ := hT.at j _ hj
    have hlt : j < ts.length := (List.getElem?_eq_some_iff.1 hj).1
    have H := Lib.hid h
    have Hr := Lib.hid (show inR ((j : Int) + 1) 1 ts.length = true from h)
    clear h hj
    go_enter Tryz.func84, Tryz.ntmps84
    go_wp2_with (go_at_call 62; refine (l6In_c _ _ _ _).mono ?_; rw [Hr.out]; rintro e w' ⟨rfl, rfl⟩)
    go_ret
    exact ⟨ret_bool (by simp [kindAt, H.out]), rfl⟩
  · have h' : ex ts i = false := by simpa using h
    have H := Lib.hid h'
    have Hr := Lib.hid (show inR i 1 ts.length = false from h')
    clear h h'
    go_enter Tryz.func84, Tryz.ntmps84
    go_wp2_with (go_at_call 62; refine (l6In_c _ _ _ _).mono ?_; rw [Hr.out]; rintro e w' ⟨rfl, rfl⟩)
    go_ret
    exact ⟨ret_bool (by simp [kindAt, H.out]), rfl⟩

theorem thingExists_q (p : Option Addr) (n cap : Nat) (i : Int) (w : World) {v : Bool} (h : inR i 1 n = v) :
    Calls Tryz.prog 65 #[.slice p n cap, .int .i64 i] w fun e w' => e = .returned (.bool v) ∧ w' = w :=
  (thingExists_c p n cap i w).mono fun _ _ h' => ⟨by rw [h'.1, h], h'.2.symm⟩
theorem l6In_q (n lo hi : Int) (w : World) {v : Bool} (h : inR n lo hi = v) :
    Calls Tryz.prog 62 #[.int .i64 n, .int .i64 lo, .int .i64 hi] w fun e w' => e = .returned (.bool v) ∧ w' = w :=
  (l6In_c n lo hi w).mono fun _ _ h' => ⟨by rw [h'.1, h], h'.2.symm⟩

set_option maxHeartbeats 400000 in
theorem rightLive_c (p : Option Addr) (cap : Nat) (ts : List Thg) (r : Rgt) (w : World) (hT : TabAt w (.slice p ts.length cap) ts) :
    Calls Tryz.prog 105 #[.slice p ts.length cap, r.val] w fun e w' => e = .returned (.bool (live ts r)) ∧ Below w.heap.size w w' := by
  obtain ⟨th, ve, rd, wr, wk⟩ := r
  obtain ⟨_, _, h1, hl1, hl2⟩ := hT.len
  cases h1
  unfold maxLen at hl2
  by_cases h : ex ts th = true
  · obtain ⟨j, rfl, hj⟩ := ex_idx h
    obtain ⟨b, o, sv, qv, rfl, hbk, hS, hQ, c0, c1, c2, c3, -⟩ := hT.at j _ hj
    have hlt : j < ts.length := (List.getElem?_eq_some_iff.1 hj).1
    have H := Lib.hid h
    have Hr := Lib.hid (show inR ((j : Int) + 1) 1 ts.length = true from h)
    clear h hj
    go_enter Tryz.func105, Tryz.ntmps105
    go_wp2
    go_quiet ((go_at_call 65; refine Calls.quiet_of_same (thingExists_q _ _ _ _ _ Hr.out)))
    go_wp2
    go_ret
    exact ⟨ret_bool (by simp [live, H.out]), (by (repeat (with_reducible first | exact Below.refl _ _ | refine Below.alloc ?_ ?_ _ | refine below_drewN ?_ _ | refine Below.drew ?_ | refine Below.setCell ?_ ?_ _ | refine Below.trans ?_ (Below.mono (by assumption) ?_))) <;> (first | omega | (simp; try omega)))⟩
  · have h' : ex ts th = false := by simpa using h
    have H := Lib.hid h'
    have Hr := Lib.hid (show inR th 1 ts.length = false from h')
    clear h h'
    go_enter Tryz.func105, Tryz.ntmps105
    go_wp2
    go_quiet ((go_at_call 65; refine Calls.quiet_of_same (thingExists_q _ _ _ _ _ Hr.out)))
    go_wp2
    go_ret
    exact ⟨ret_bool (by simp [live, H.out]), (by (repeat (with_reducible first | exact Below.refl _ _ | refine Below.alloc ?_ ?_ _ | refine below_drewN ?_ _ | refine Below.drew ?_ | refine Below.setCell ?_ ?_ _ | refine Below.trans ?_ (Below.mono (by assumption) ?_))) <;> (first | omega | (simp; try omega)))⟩

set_option maxHeartbeats 400000 in
theorem l3Live_c (p : Option Addr) (cap : Nat) (ts : List Thg) (r : Rgt) (w : World) (hT : TabAt w (.slice p ts.length cap) ts) :
    Calls Tryz.prog 101 #[.slice p ts.length cap, r.val] w fun e w' => e = .returned (.bool (live ts r)) ∧ Below w.heap.size w w' := by
  obtain ⟨th, ve, rd, wr, wk⟩ := r
  obtain ⟨_, _, h1, hl1, hl2⟩ := hT.len
  cases h1
  unfold maxLen at hl2
  by_cases h : ex ts th = true
  · obtain ⟨j, rfl, hj⟩ := ex_idx h
    obtain ⟨b, o, sv, qv, rfl, hbk, hS, hQ, c0, c1, c2, c3, -⟩ := hT.at j _ hj
    have hlt : j < ts.length := (List.getElem?_eq_some_iff.1 hj).1
    have H := Lib.hid h
    have Hr := Lib.hid (show inR ((j : Int) + 1) 1 ts.length = true from h)
    clear h hj
    go_enter Tryz.func101, Tryz.ntmps101
    go_wp2
    go_quiet ((go_at_call 62; refine Calls.quiet_of_same (l6In_q _ _ _ _ Hr.out)))
    go_wp2
    go_ret
    exact ⟨ret_bool (by simp [live, H.out]), (by (repeat (with_reducible first | exact Below.refl _ _ | refine Below.alloc ?_ ?_ _ | refine below_drewN ?_ _ | refine Below.drew ?_ | refine Below.setCell ?_ ?_ _ | refine Below.trans ?_ (Below.mono (by assumption) ?_))) <;> (first | omega | (simp; try omega)))⟩
  · have h' : ex ts th = false := by simpa using h
    have H := Lib.hid h'
    have Hr := Lib.hid (show inR th 1 ts.length = false from h')
    clear h h'
    go_enter Tryz.func101, Tryz.ntmps101
    go_wp2
    go_quiet ((go_at_call 62; refine Calls.quiet_of_same (l6In_q _ _ _ _ Hr.out)))
    go_wp2
    go_ret
    exact ⟨ret_bool (by simp [live, H.out]), (by (repeat (with_reducible first | exact Below.refl _ _ | refine Below.alloc ?_ ?_ _ | refine below_drewN ?_ _ | refine Below.drew ?_ | refine Below.setCell ?_ ?_ _ | refine Below.trans ?_ (Below.mono (by assumption) ?_))) <;> (first | omega | (simp; try omega)))⟩

set_option maxHeartbeats 1000000 in
theorem labelSees_c (p : Option Addr) (cap : Nat) (ts : List Thg) (run thing : Int) (w : World) (hT : TabAt w (.slice p ts.length cap) ts) (hr : ex ts run = true) (ht : ex ts thing = true) :
    Calls Tryz.prog 106 #[.slice p ts.length cap, .int .i64 run, .int .i64 thing] w fun e w' => e = .returned (.bool (sees ts run thing)) ∧ Below w.heap.size w w' := by
  obtain ⟨_, _, h1, hl1, hl2⟩ := hT.len
  cases h1
  unfold maxLen at hl2
  obtain ⟨j, rfl, hj⟩ := ex_idx hr
  obtain ⟨k, rfl, hk⟩ := ex_idx ht
  obtain ⟨b, o, sv, qv, rfl, hbk, hS, hQ, c0, c1, c2, -⟩ := hT.at j _ hj
  obtain ⟨b', o', sv', qv', hp, -, hS', hQ', d0, d1, d2, -⟩ := hT.at k _ hk
  cases hp
  have hlt : j < ts.length := (List.getElem?_eq_some_iff.1 hj).1
  have hlt' : k < ts.length := (List.getElem?_eq_some_iff.1 hk).1
  have e0 : (0 : Int) ≤ (j : Int) := by omega
  have e1 : (j : Int) < (ts.length : Int) := by omega
  have e2 : (0 : Int) ≤ (k : Int) := by omega
  have e3 : (k : Int) < (ts.length : Int) := by omega
  have s1 : IntKind.i64.wrap (j : Int) = (j : Int) := IntWalk.i64_in _ (by omega)
  have s2 : IntKind.i64.wrap (k : Int) = (k : Int) := IntWalk.i64_in _ (by omega)
  clear hj hk hr ht
  go_enter Tryz.func106, Tryz.ntmps106
  go_wp2
  go_region_held3 (fun w' => w'.cell? ⟨b, o + j * 8 + 1, none⟩ = some (.int .i64 (getT ts ((j : Int) + 1)).lab.s) ∧ w'.cell? ⟨b, o + j * 8 + 2, none⟩ = some (.int .i64 (getT ts ((j : Int) + 1)).lab.v) ∧ w'.cell? ⟨b, o + k * 8 + 1, none⟩ = some (.int .i64 (getT ts ((k : Int) + 1)).lab.s) ∧ w'.cell? ⟨b, o + k * 8 + 2, none⟩ = some (.int .i64 (getT ts ((k : Int) + 1)).lab.v) ∧ b < w'.heap.size)
    (first | go_keep | (go_split_ands; refine ⟨?_, ?_, ?_, ?_, ?_⟩ <;> first | omega | (rw [hc1 _ _ (by omega)]; assumption)))
    (first | (go_at_call 66; refine (labelFlow_c ⟨_, _⟩ ⟨_, _⟩ _).mono ?_; rintro e w1 ⟨rfl, hb1⟩; obtain ⟨hc1, hf1⟩ := bcell hb1; have hz := hb1.size))
  all_goals go_wp2
  all_goals go_ret
  all_goals exact ⟨rfl, (by (repeat (with_reducible first | exact Below.refl _ _ | refine Below.alloc ?_ ?_ _ | refine below_drewN ?_ _ | refine Below.drew ?_ | refine Below.setCell ?_ ?_ _ | refine Below.trans ?_ (Below.mono (by assumption) ?_))) <;> (first | omega | (simp; try omega)))⟩

set_option maxHeartbeats 1000000 in
theorem labelTouches_c (p : Option Addr) (cap : Nat) (ts : List Thg) (run thing : Int) (w : World) (hT : TabAt w (.slice p ts.length cap) ts) (hr : ex ts run = true) (ht : ex ts thing = true) :
    Calls Tryz.prog 81 #[.slice p ts.length cap, .int .i64 run, .int .i64 thing] w fun e w' => e = .returned (.bool (touches ts run thing)) ∧ Below w.heap.size w w' := by
  obtain ⟨_, _, h1, hl1, hl2⟩ := hT.len
  cases h1
  unfold maxLen at hl2
  obtain ⟨j, rfl, hj⟩ := ex_idx hr
  obtain ⟨k, rfl, hk⟩ := ex_idx ht
  obtain ⟨b, o, sv, qv, rfl, hbk, hS, hQ, c0, c1, c2, -⟩ := hT.at j _ hj
  obtain ⟨b', o', sv', qv', hp, -, hS', hQ', d0, d1, d2, -⟩ := hT.at k _ hk
  cases hp
  have hlt : j < ts.length := (List.getElem?_eq_some_iff.1 hj).1
  have hlt' : k < ts.length := (List.getElem?_eq_some_iff.1 hk).1
  have e0 : (0 : Int) ≤ (j : Int) := by omega
  have e1 : (j : Int) < (ts.length : Int) := by omega
  have e2 : (0 : Int) ≤ (k : Int) := by omega
  have e3 : (k : Int) < (ts.length : Int) := by omega
  have s1 : IntKind.i64.wrap (j : Int) = (j : Int) := IntWalk.i64_in _ (by omega)
  have s2 : IntKind.i64.wrap (k : Int) = (k : Int) := IntWalk.i64_in _ (by omega)
  clear hj hk hr ht
  go_enter Tryz.func81, Tryz.ntmps81
  go_wp2
  go_region_held3 (fun w' => w'.cell? ⟨b, o + j * 8 + 1, none⟩ = some (.int .i64 (getT ts ((j : Int) + 1)).lab.s) ∧ w'.cell? ⟨b, o + j * 8 + 2, none⟩ = some (.int .i64 (getT ts ((j : Int) + 1)).lab.v) ∧ w'.cell? ⟨b, o + k * 8 + 1, none⟩ = some (.int .i64 (getT ts ((k : Int) + 1)).lab.s) ∧ w'.cell? ⟨b, o + k * 8 + 2, none⟩ = some (.int .i64 (getT ts ((k : Int) + 1)).lab.v) ∧ b < w'.heap.size)
    (first | go_keep | (go_split_ands; refine ⟨?_, ?_, ?_, ?_, ?_⟩ <;> first | omega | (rw [hc1 _ _ (by omega)]; assumption)))
    (first | (go_at_call 66; refine (labelFlow_c ⟨_, _⟩ ⟨_, _⟩ _).mono ?_; rintro e w1 ⟨rfl, hb1⟩; obtain ⟨hc1, hf1⟩ := bcell hb1; have hz := hb1.size))
  all_goals go_wp2
  all_goals go_ret
  all_goals exact ⟨rfl, (by (repeat (with_reducible first | exact Below.refl _ _ | refine Below.alloc ?_ ?_ _ | refine below_drewN ?_ _ | refine Below.drew ?_ | refine Below.setCell ?_ ?_ _ | refine Below.trans ?_ (Below.mono (by assumption) ?_))) <;> (first | omega | (simp; try omega)))⟩

set_option maxHeartbeats 1000000 in
theorem l11Sees_c (p : Option Addr) (cap : Nat) (ts : List Thg) (run thing : Int) (w : World) (hT : TabAt w (.slice p ts.length cap) ts) (hr : ex ts run = true) (ht : ex ts thing = true) (hl3 : labOk (getT ts run).lab = true) (hl4 : labOk (getT ts thing).lab = true) :
    Calls Tryz.prog 103 #[.slice p ts.length cap, .int .i64 run, .int .i64 thing] w fun e w' => e = .returned (.bool (sees ts run thing)) ∧ Below w.heap.size w w' := by
  obtain ⟨_, _, h1, hl1, hl2⟩ := hT.len
  cases h1
  unfold maxLen at hl2
  obtain ⟨j, rfl, hj⟩ := ex_idx hr
  obtain ⟨k, rfl, hk⟩ := ex_idx ht
  obtain ⟨b, o, sv, qv, rfl, hbk, hS, hQ, c0, c1, c2, -⟩ := hT.at j _ hj
  obtain ⟨b', o', sv', qv', hp, -, hS', hQ', d0, d1, d2, -⟩ := hT.at k _ hk
  cases hp
  have hlt : j < ts.length := (List.getElem?_eq_some_iff.1 hj).1
  have hlt' : k < ts.length := (List.getElem?_eq_some_iff.1 hk).1
  have e0 : (0 : Int) ≤ (j : Int) := by omega
  have e1 : (j : Int) < (ts.length : Int) := by omega
  have e2 : (0 : Int) ≤ (k : Int) := by omega
  have e3 : (k : Int) < (ts.length : Int) := by omega
  have s1 : IntKind.i64.wrap (j : Int) = (j : Int) := IntWalk.i64_in _ (by omega)
  have s2 : IntKind.i64.wrap (k : Int) = (k : Int) := IntWalk.i64_in _ (by omega)
  have H3 := Lib.hid hl3
  have H4 := Lib.hid hl4
  clear hj hk hr ht hl3 hl4
  go_enter Tryz.func103, Tryz.ntmps103
  go_wp2
  go_region_held3 (fun w' => w'.cell? ⟨b, o + j * 8 + 1, none⟩ = some (.int .i64 (getT ts ((j : Int) + 1)).lab.s) ∧ w'.cell? ⟨b, o + j * 8 + 2, none⟩ = some (.int .i64 (getT ts ((j : Int) + 1)).lab.v) ∧ w'.cell? ⟨b, o + k * 8 + 1, none⟩ = some (.int .i64 (getT ts ((k : Int) + 1)).lab.s) ∧ w'.cell? ⟨b, o + k * 8 + 2, none⟩ = some (.int .i64 (getT ts ((k : Int) + 1)).lab.v) ∧ b < w'.heap.size)
    (first | go_keep | (go_split_ands; refine ⟨?_, ?_, ?_, ?_, ?_⟩ <;> first | omega | (rw [hc1 _ _ (by omega)]; assumption)))
    (first | (go_at_call 60; refine (l1Flow_c (getT ts ((k : Int) + 1)).lab (getT ts ((j : Int) + 1)).lab _ H4.out H3.out).mono ?_; rintro e w1 ⟨rfl, hb1⟩; obtain ⟨hc1, hf1⟩ := bcell hb1; have hz := hb1.size))
  all_goals go_wp2
  all_goals go_ret
  all_goals exact ⟨rfl, (by (repeat (with_reducible first | exact Below.refl _ _ | refine Below.alloc ?_ ?_ _ | refine below_drewN ?_ _ | refine Below.drew ?_ | refine Below.setCell ?_ ?_ _ | refine Below.trans ?_ (Below.mono (by assumption) ?_))) <;> (first | omega | (simp; try omega)))⟩

set_option maxHeartbeats 1000000 in
theorem l11Touches_c (p : Option Addr) (cap : Nat) (ts : List Thg) (run thing : Int) (w : World) (hT : TabAt w (.slice p ts.length cap) ts) (hr : ex ts run = true) (ht : ex ts thing = true) (hl3 : labOk (getT ts run).lab = true) (hl4 : labOk (getT ts thing).lab = true) :
    Calls Tryz.prog 135 #[.slice p ts.length cap, .int .i64 run, .int .i64 thing] w fun e w' => e = .returned (.bool (touches ts run thing)) ∧ Below w.heap.size w w' := by
  obtain ⟨_, _, h1, hl1, hl2⟩ := hT.len
  cases h1
  unfold maxLen at hl2
  obtain ⟨j, rfl, hj⟩ := ex_idx hr
  obtain ⟨k, rfl, hk⟩ := ex_idx ht
  obtain ⟨b, o, sv, qv, rfl, hbk, hS, hQ, c0, c1, c2, -⟩ := hT.at j _ hj
  obtain ⟨b', o', sv', qv', hp, -, hS', hQ', d0, d1, d2, -⟩ := hT.at k _ hk
  cases hp
  have hlt : j < ts.length := (List.getElem?_eq_some_iff.1 hj).1
  have hlt' : k < ts.length := (List.getElem?_eq_some_iff.1 hk).1
  have e0 : (0 : Int) ≤ (j : Int) := by omega
  have e1 : (j : Int) < (ts.length : Int) := by omega
  have e2 : (0 : Int) ≤ (k : Int) := by omega
  have e3 : (k : Int) < (ts.length : Int) := by omega
  have s1 : IntKind.i64.wrap (j : Int) = (j : Int) := IntWalk.i64_in _ (by omega)
  have s2 : IntKind.i64.wrap (k : Int) = (k : Int) := IntWalk.i64_in _ (by omega)
  have H3 := Lib.hid hl3
  have H4 := Lib.hid hl4
  clear hj hk hr ht hl3 hl4
  go_enter Tryz.func135, Tryz.ntmps135
  go_wp2
  go_region_held3 (fun w' => w'.cell? ⟨b, o + j * 8 + 1, none⟩ = some (.int .i64 (getT ts ((j : Int) + 1)).lab.s) ∧ w'.cell? ⟨b, o + j * 8 + 2, none⟩ = some (.int .i64 (getT ts ((j : Int) + 1)).lab.v) ∧ w'.cell? ⟨b, o + k * 8 + 1, none⟩ = some (.int .i64 (getT ts ((k : Int) + 1)).lab.s) ∧ w'.cell? ⟨b, o + k * 8 + 2, none⟩ = some (.int .i64 (getT ts ((k : Int) + 1)).lab.v) ∧ b < w'.heap.size)
    (first | go_keep | (go_split_ands; refine ⟨?_, ?_, ?_, ?_, ?_⟩ <;> first | omega | (rw [hc1 _ _ (by omega)]; assumption)))
    (first | (go_at_call 60; refine (l1Flow_c (getT ts ((j : Int) + 1)).lab (getT ts ((k : Int) + 1)).lab _ H3.out H4.out).mono ?_; rintro e w1 ⟨rfl, hb1⟩; obtain ⟨hc1, hf1⟩ := bcell hb1; have hz := hb1.size))
  all_goals go_wp2
  all_goals go_ret
  all_goals exact ⟨rfl, (by (repeat (with_reducible first | exact Below.refl _ _ | refine Below.alloc ?_ ?_ _ | refine below_drewN ?_ _ | refine Below.drew ?_ | refine Below.setCell ?_ ?_ _ | refine Below.trans ?_ (Below.mono (by assumption) ?_))) <;> (first | omega | (simp; try omega)))⟩

end Go.Proofs.YtghbphdipdjekaaGreatDoor
