/- The reference's check of a call. Conditions: the table lies where its cells say; the call is one that can be. -/
import Derived.Test.YtghbphdipdjekaaGreatDoorS
import Derived.Test.YtghbphdipdjekaaGreatDoorMa
import Derived.Test.YtghbphdipdjekaaGreatDoorAct
set_option linter.unusedVariables false
set_option linter.unusedSimpArgs false
namespace Go.Proofs.YtghbphdipdjekaaGreatDoor
open Go.RowKit Drw
attribute [local go_sem] Lab.val Rgt.val Cal.val Thg.val

set_option maxHeartbeats 1000000 in
theorem l11Kind_c (c k : Int) (w : World) :
    Calls Tryz.prog 131 #[.int .i64 c, .int .i64 k] w fun e w' => e = .returned (.bool (hasKind c k)) ∧ w' = w := by
  go_enter Tryz.func131, Tryz.ntmps131
  go_wp2
  all_goals (go_ret; exact ⟨ret_bool (by unfold hasKind; grind), rfl⟩)

set_option maxHeartbeats 400000 in
theorem l11Needs_c (c : Int) (w : World) :
    Calls Tryz.prog 134 #[.int .i64 c] w fun e w' => e = .returned (.slice (some ⟨w.heap.size, 0, none⟩) 4 4) ∧ w' = w.alloc (.cells #[.bool (needRd c), .bool (needWr c), .bool (needRd c), .bool (needWr c)] 4) := by
  go_enter Tryz.func134, Tryz.ntmps134
  go_wp2
  all_goals go_ret
  all_goals exact ⟨rfl, by simp [needRd, needWr, *]⟩

set_option maxHeartbeats 400000 in
theorem l11Check_copy (p : Option Addr) (cap : Nat) (ts : List Thg) (c : Cal) (w : World) (h3 : c.kind = 3) :
    Calls Tryz.prog 99 #[.slice p ts.length cap, c.val] w fun e w' => e = .returned (.int .i64 (check1 ts c)) ∧ Below w.heap.size w w' := by
  have hc : check1 ts c = 0 := by simp [check1, h3]
  rw [hc]
  clear hc
  obtain ⟨k, r, a, b, n⟩ := c
  dsimp only at h3
  subst h3
  go_enter Tryz.func99, Tryz.ntmps99
  go_wp2
  go_ret
  exact ⟨rfl, (by (repeat (with_reducible first | exact Below.refl _ _ | refine Below.alloc ?_ ?_ _ | refine below_drewN ?_ _ | refine Below.drew ?_ | refine Below.setCell ?_ ?_ _ | refine Below.trans ?_ (Below.mono (by assumption) ?_))) <;> (first | omega | (simp; try omega)))⟩

set_option maxRecDepth 100000 in
set_option maxHeartbeats 8000000 in
theorem l11Check_far (p : Option Addr) (cap : Nat) (ts : List Thg) (c : Cal) (w : World) (hT : TabAt w (.slice p ts.length cap) ts) (hyes : calCan ts c = true) (h3 : ¬ c.kind = 3) :
    Calls Tryz.prog 99 #[.slice p ts.length cap, c.val] w fun e w' => e = .returned (.int .i64 (check1 ts c)) ∧ Below w.heap.size w w' := by
  obtain ⟨j, m, tr, r, hcan⟩ := can_of hyes
  have Hyes := Lib.hid hyes
  have hB0 := canB.1 hyes
  clear hyes
  obtain ⟨_, _, h1, hl1, hl2⟩ := hT.len
  cases h1
  unfold maxLen at hl2
  obtain ⟨b, o, sv, qv, rfl, hbk, hS, hQ, c0, c1, c2, c3, c4, c5, c6, c7⟩ := hT.at j tr hcan.tr_at
  obtain ⟨p', cap', rfl, hl1', hl2'⟩ := hS.len
  rw [hcan.four] at hl1'
  obtain ⟨b', o', rfl, hbk', r0, r1, r2, r3, r4⟩ := hS.at m r hcan.r_at
  have hj : j < ts.length := (List.getElem?_eq_some_iff.1 hcan.tr_at).1
  have hm4 := hcan.m4
  have hrun := hcan.run
  have ha := hcan.a
  rw [hcan.four] at c5
  have Hcan := Lib.hid hcan
  have hk3 : (c.kind == 3) = false := by simpa using h3
  have hexr := hB0.ex
  have hlabr : labOk (getT ts c.run).lab = true := (thg_parts.1 hB0.thg).2.1
  have htab := hB0.tab
  clear hcan h3 hB0
  obtain ⟨k, rn, a, bb, n⟩ := c
  dsimp only at hrun ha hk3 hexr hlabr
  subst hrun
  subst ha
  have hw1 : IntKind.i64.wrap ((j : Int) + 1 - 1) = (j : Int) := by rw [show (j : Int) + 1 - 1 = j by omega]; exact IntWalk.i64_in _ (by omega)
  have hw2 : IntKind.i64.wrap (j : Int) = (j : Int) := IntWalk.i64_in _ (by omega)
  have hj0 : (0 : Int) ≤ (j : Int) := by omega
  have hjl : (j : Int) < (ts.length : Int) := by omega
  have hm0 : (0 : Int) ≤ (m : Int) := by omega
  have hml : (m : Int) < 4 := by omega
  have Hexr := Lib.hid hexr
  have Hlabr := Lib.hid hlabr
  have Htab := Lib.hid htab
  clear c0 c1 c2 c3 c4 c6 c7 hexr hlabr htab
  go_enter Tryz.func99, Tryz.ntmps99
  go_upto_region 3 with (fail)
  go_cut [5] (fun s5 wx => s5 = .pointer (some ⟨w.heap.size + 1, 0, none⟩) ∧ Below w.heap.size w wx ∧ wx.heap.size = w.heap.size + 2 ∧ (wx.cell? ⟨w.heap.size + 1, 0, none⟩ = some (.int .i64 r.thing) ∧ wx.cell? ⟨w.heap.size + 1, 1, none⟩ = some (.int .i64 r.vers) ∧ wx.cell? ⟨w.heap.size + 1, 2, none⟩ = some (.bool r.rd) ∧ wx.cell? ⟨w.heap.size + 1, 3, none⟩ = some (.bool r.wr) ∧ wx.cell? ⟨w.heap.size + 1, 4, none⟩ = some (.bool r.wk)) ∧ (wx.cell? ⟨w.heap.size, 0, none⟩ = some (.int .i64 k) ∧ wx.cell? ⟨w.heap.size, 1, none⟩ = some (.int .i64 ((j : Int) + 1)) ∧ wx.cell? ⟨w.heap.size, 2, none⟩ = some (.int .i64 (m : Int)) ∧ wx.cell? ⟨w.heap.size, 3, none⟩ = some (.int .i64 bb) ∧ wx.cell? ⟨w.heap.size, 4, none⟩ = some (.int .i64 n)))
  case first =>
    go_region_held3 (fun w' => w'.cell? ⟨w.heap.size, 1, none⟩ = some (.int .i64 ((j : Int) + 1)) ∧ w'.cell? ⟨w.heap.size, 2, none⟩ = some (.int .i64 (m : Int)) ∧ w'.cell? ⟨b, o + j * 8 + 5, none⟩ = some (.slice (some ⟨b', o', none⟩) 4 cap') ∧ w'.cell? ⟨b', o' + m * 5, none⟩ = some (.int .i64 r.thing) ∧ w'.cell? ⟨b', o' + m * 5 + 1, none⟩ = some (.int .i64 r.vers) ∧ w'.cell? ⟨b', o' + m * 5 + 2, none⟩ = some (.bool r.rd) ∧ w'.cell? ⟨b', o' + m * 5 + 3, none⟩ = some (.bool r.wr) ∧ w'.cell? ⟨b', o' + m * 5 + 4, none⟩ = some (.bool r.wk)) ((simp [*, cell_set, World.cell?_alloc_some])) (fail)
    all_goals
      go_wp2
      go_meet
      refine ⟨rfl, (by (repeat (with_reducible first | exact Below.refl _ _ | refine Below.alloc ?_ ?_ _ | refine below_drewN ?_ _ | refine Below.drew ?_ | refine Below.setCell ?_ ?_ _ | refine Below.trans ?_ (Below.mono (by assumption) ?_))) <;> (first | omega | (simp; try omega))), by simp [World.setCell], ?_, ?_⟩
      · simp [cell_set]
      · simp [cell_set]
  case rest =>
    obtain ⟨rfl, hBw, hzx, ⟨q0, q1, q2, q3, q4⟩, ⟨k0, k1, k2, k3, k4⟩⟩ := hcut
    clear r0 r1 r2 r3 r4 c5
    obtain ⟨wx, rfl⟩ : ∃ wx : World, wx = wc := ⟨_, rfl⟩
    have hz0 : w.heap.size < wx.heap.size := by omega
    have hz1 : w.heap.size + 1 < wx.heap.size := by omega
    have Hzx := Lib.hid hzx
    clear hzx
    by_cases h0 : r.thing = 0
    · rw [h0] at q0
      have hc : check1 ts ⟨k, (j : Int) + 1, (m : Int), bb, n⟩ = -1 := by
        have hs := Hcan.out.slot
        simp at hk3
        simp [check1, hk3, hs, h0]
      have Hc := Lib.hid hc
      clear hc
      go_upto_region 5 with (go_at_call 134; refine (l11Needs_c _ _).mono ?_; rintro e w' ⟨rfl, rfl⟩)
      go_quiet (fail)
      go_wp2
      go_ret
      exact ⟨ret_int (by rw [Hc.out]), (by (repeat (with_reducible first | exact Below.refl _ _ | refine Below.alloc ?_ ?_ _ | refine below_drewN ?_ _ | refine Below.drew ?_ | refine Below.setCell ?_ ?_ _ | refine Below.trans ?_ (Below.mono (by assumption) ?_))) <;> (first | omega | (simp; try omega)))⟩
    · obtain ⟨x, hx, htx, hex, hvx⟩ := cap_thing Hcan.out.cap h0
      have hcx : (slotOf ts ⟨k, (j : Int) + 1, (m : Int), bb, n⟩) = r := Hcan.out.slot
      have hck := check1_chk (ts := ts) (c := ⟨k, (j : Int) + 1, (m : Int), bb, n⟩) hk3 (by rw [hcx]; exact h0)
      rw [hcx] at hck
      obtain ⟨rt, rv, rrd, rwr, rwk⟩ := r
      dsimp only at hx htx hex hvx hck q0 q1 q2 q3 q4
      subst hx
      have hlabx : labOk (getT ts ((x : Int) + 1)).lab = true := (thg_parts.1 (tab_thgOk Htab.out hex)).2.1
      obtain ⟨b2, o2, sv2, qv2, hp2, hbk2, hS2, hQ2, d0, -⟩ := (hT.pure hBw).at x _ htx
      cases hp2
      have hxl : x < ts.length := (List.getElem?_eq_some_iff.1 htx).1
      obtain ⟨hk, hhk⟩ : ∃ hk, hasKind k (getT ts ((x : Int) + 1)).kind = hk := ⟨_, rfl⟩
      obtain ⟨se, hse⟩ : ∃ se, sees ts ((j : Int) + 1) ((x : Int) + 1) = se := ⟨_, rfl⟩
      obtain ⟨tu, htu⟩ : ∃ tu, touches ts ((j : Int) + 1) ((x : Int) + 1) = tu := ⟨_, rfl⟩
      obtain ⟨li, hli⟩ : ∃ li, live ts ⟨(x : Int) + 1, rv, rrd, rwr, rwk⟩ = li := ⟨_, rfl⟩
      obtain ⟨nr, hnr⟩ : ∃ nr, needRd k = nr := ⟨_, rfl⟩
      obtain ⟨nw, hnw⟩ : ∃ nw, needWr k = nw := ⟨_, rfl⟩
      rw [hhk, hse, htu, hli, hnr, hnw] at hck
      have Hhk := Lib.hid hhk
      have Hse := Lib.hid hse
      have Htu := Lib.hid htu
      have Hli := Lib.hid (show ∀ a b c, live ts ⟨(x : Int) + 1, rv, a, b, c⟩ = li from fun _ _ _ => hli)
      have Hck := Lib.hid hck
      have Hex := Lib.hid hex
      have Hlabx := Lib.hid hlabx
      have Hnr := Lib.hid hnr
      have Hnw := Lib.hid hnw
      have h00 : (((x : Int) + 1) == 0) = false := by simp; omega
      have e2 : (0 : Int) ≤ (x : Int) := by omega
      have e3 : (x : Int) < (ts.length : Int) := by omega
      have s2 : IntKind.i64.wrap (x : Int) = (x : Int) := IntWalk.i64_in _ (by omega)
      have s3 : IntKind.i64.wrap ((x : Int) + 1 - 1) = (x : Int) := by rw [show (x : Int) + 1 - 1 = x by omega]; exact IntWalk.i64_in _ (by omega)
      clear hhk hse htu hli hck hcx hex htx h0 hvx hnr hnw hlabx hS2 hQ2
      go_upto_region 5 with (go_at_call 134; refine (l11Needs_c _ _).mono ?_; rw [Hnr.out, Hnw.out]; rintro e w' ⟨rfl, rfl⟩)
      go_cut [60] (fun s60 wy => s60 = .bool (!hk || (nr && !rrd) || (nw && !rwr)) ∧ ∃ m, wy = (wx.alloc (.cells #[.bool nr, .bool nw, .bool nr, .bool nw] 4)).drewN m)
      case first =>
        cases hk with
        | false =>
          go_quiet ((go_at_call 131; exact Calls.quiet_of_same ((l11Kind_c _ _ _).mono (fun e w' h => by rw [Hhk.out] at h; exact h))))
          go_wp2
          go_meet
          exact ⟨rfl, _, rfl⟩
        | true =>
          cases nr <;> cases rrd <;> cases nw <;> cases rwr
          all_goals
            go_quiet ((go_at_call 131; exact Calls.quiet_of_same ((l11Kind_c _ _ _).mono (fun e w' h => by rw [Hhk.out] at h; exact h))))
            go_wp2
            go_meet
            exact ⟨rfl, _, rfl⟩
      case rest =>
        obtain ⟨rfl, mm, hwy⟩ := hcut
        obtain ⟨wy, rfl⟩ : ∃ wy : World, wy = wc := ⟨_, rfl⟩
        have hBy : Below wx.heap.size wx wy := by rw [hwy]; exact (by (repeat (with_reducible first | exact Below.refl _ _ | refine Below.alloc ?_ ?_ _ | refine below_drewN ?_ _ | refine Below.drew ?_ | refine Below.setCell ?_ ?_ _ | refine Below.trans ?_ (Below.mono (by assumption) ?_))) <;> (first | omega | (simp; try omega)))
        have hcy := (bcell hBy).1
        rw [← hcy _ _ hz1] at q0 q1 q2 q3 q4
        rw [← hcy _ _ hz0] at k0 k1 k2 k3 k4
        have n2 : wy.cell? ⟨wx.heap.size, 2, none⟩ = some (.bool nr) := by rw [hwy]; simp [go_sem]
        have n3 : wy.cell? ⟨wx.heap.size, 3, none⟩ = some (.bool nw) := by rw [hwy]; simp [go_sem]
        have hTy : TabAt wy (.slice (some ⟨b, o, none⟩) ts.length cap) ts := hT.pure (hBw.trans (hBy.mono hBw.size))
        have hBwy : Below w.heap.size w wy := hBw.trans (hBy.mono hBw.size)
        have hsw := hBwy.size
        have hBxy : w.heap.size + 1 < wy.heap.size := by have := hBy.size; omega
        have hzy : wx.heap.size < wy.heap.size := World.block_lt_of_cell? wy _ n2
        have hzwy : w.heap.size < wy.heap.size := by omega
        have Hwy := Lib.hid hwy
        clear hcy hT d0 hwy
        go_wp2_with (first
          | (go_at_call 103; refine (l11Sees_c _ _ ts _ _ _ (hTy.pure (by (repeat (with_reducible first | exact Below.refl _ _ | refine Below.alloc ?_ ?_ _ | refine below_drewN ?_ _ | refine Below.drew ?_ | refine Below.setCell ?_ ?_ _ | refine Below.trans ?_ (Below.mono (by assumption) ?_))) <;> (first | omega | (simp; try omega)))) Hexr.out Hex.out Hlabr.out Hlabx.out).mono ?_; rw [Hse.out]; rintro e w4 ⟨rfl, hb4⟩; obtain ⟨hc4, hf4⟩ := bcell hb4; have hz4 : w.heap.size + 1 < w4.heap.size ∧ wx.heap.size < w4.heap.size ∧ w.heap.size < w4.heap.size := (by have := hb4.size; omega); obtain ⟨hz4a, hz4b, hz4c⟩ := hz4; have hy4 := hb4.size)
          | (go_at_call 135; refine (l11Touches_c _ _ ts _ _ _ (hTy.pure (by (repeat (with_reducible first | exact Below.refl _ _ | refine Below.alloc ?_ ?_ _ | refine below_drewN ?_ _ | refine Below.drew ?_ | refine Below.setCell ?_ ?_ _ | refine Below.trans ?_ (Below.mono (by assumption) ?_))) <;> (first | omega | (simp; try omega)))) Hexr.out Hex.out Hlabr.out Hlabx.out).mono ?_; rw [Htu.out]; rintro e w5 ⟨rfl, hb5⟩; obtain ⟨hc5, hf5⟩ := bcell hb5; have hz5 : w.heap.size + 1 < w5.heap.size ∧ wx.heap.size < w5.heap.size ∧ w.heap.size < w5.heap.size := (by have := hb5.size; omega); obtain ⟨hz5a, hz5b, hz5c⟩ := hz5; have hy5 := hb5.size)
          | (go_at_call 101; refine (l3Live_c _ _ ts ⟨_, _, _, _, _⟩ _ (hTy.pure (by (repeat (with_reducible first | exact Below.refl _ _ | refine Below.alloc ?_ ?_ _ | refine below_drewN ?_ _ | refine Below.drew ?_ | refine Below.setCell ?_ ?_ _ | refine Below.trans ?_ (Below.mono (by assumption) ?_))) <;> (first | omega | (simp; try omega))))).mono ?_; rw [Hli.out _ _ _]; rintro e w6 ⟨rfl, hb6⟩; obtain ⟨hc6, hf6⟩ := bcell hb6; have hy6 := hb6.size))
        all_goals
          go_ret
          refine ⟨ret_int ?_, (by (repeat (with_reducible first | exact Below.refl _ _ | refine Below.alloc ?_ ?_ _ | refine below_drewN ?_ _ | refine Below.drew ?_ | refine Below.setCell ?_ ?_ _ | refine Below.trans ?_ (Below.mono (by assumption) ?_))) <;> (first | omega | (simp; try omega)))⟩
          rw [Hck.out]
          grind [chk]

theorem l11Check_c (p : Option Addr) (cap : Nat) (ts : List Thg) (c : Cal) (w : World) (hT : TabAt w (.slice p ts.length cap) ts) (hyes : calCan ts c = true) :
    Calls Tryz.prog 99 #[.slice p ts.length cap, c.val] w fun e w' => e = .returned (.int .i64 (check1 ts c)) ∧ Below w.heap.size w w' := by
  by_cases h3 : c.kind = 3
  · exact l11Check_copy p cap ts c w h3
  · exact l11Check_far p cap ts c w hT hyes h3

end Go.Proofs.YtghbphdipdjekaaGreatDoor
