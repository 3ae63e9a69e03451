/- Drawn tables that are fine, most often; a drawn runner. Conditions: few numbers were drawn so far. -/
import Derived.Test.YtiolplhgpodifaaGreatDb
import Derived.Test.YtiolplhgpodifaaGreatMa
import Derived.Test.YtiolplhgpodifaaGreatG
import Derived.Shelf.Abstract
import Derived.Test.YtiolplhgpodifaaGreatAl
set_option linter.unusedVariables false
set_option linter.unusedSimpArgs false
namespace Go.Proofs.YtiolplhgpodifaaGreat
open Go.RowKit Drw
attribute [local go_sem] Lab.val Rgt.val Cal.val Thg.val

theorem TabI.up {w w1 wr : World} {R N n : Nat} {v : Value} (h : TabI w1 wr R N v n) (hg : Chg (fun b => b = R) w w1) (M : Nat) (hM : N ≤ M) : TabI w wr R M v n := by
  obtain ⟨xs, tag, h1, h2, h3, h4, h5⟩ := h
  exact ⟨xs, tag, h1.imp (fun b hb _ => ⟨Nat.le_trans hg.size hb, rfl⟩), h2, h3, hg.trans h4, h5.mono hM⟩
theorem TabI.ext {w wr wz : World} {R N n M : Nat} {v : Value} (h : TabI w wr R N v n) (hg : Chg (fun b => b = R) wr wz) (hR : R < w.heap.size) (hr : Rd wz R M) : TabI w wz R M v n := by
  obtain ⟨xs, tag, h1, h2, h3, h4, h5⟩ := h
  exact ⟨xs, tag, h1.chg hg (fun b hb _ e => by omega), h2, h3, h4.trans hg, hr⟩
/-- As a list of things. -/
theorem TabI.tab {w wr : World} {R N n : Nat} {v : Value} (h : TabI w wr R N v n) (hR : R < w.heap.size) : ∃ ts p cap, ts.length = n ∧ v = .slice p ts.length cap ∧ (∀ wz : World, Chg (fun b => b = R) wr wz → TabAt wz (.slice p ts.length cap) ts) ∧ Short ts ∧ Chg (fun b => b = R) w wr ∧ Rd wr R N := by
  obtain ⟨xs, tag, h1, h2, h3, h4, h5⟩ := h
  obtain ⟨p, cap, e, -, -⟩ := h1.at'.len
  refine ⟨xs.map (·.1), p, cap, by simp [h2], e, fun wz hg => by rw [← e]; exact (h1.chg hg (fun b hb _ e => by omega)).at', ?_, h4, h5⟩
  intro t ht
  obtain ⟨x, hx, rfl⟩ := List.mem_map.1 ht
  have := h3 x hx
  omega

set_option maxRecDepth 100000 in
set_option maxHeartbeats 4000000 in
theorem l71Fine_c (R N : Nat) (w : World) (h : Rd w R N) (hN : N ≤ 790000) :
    Calls Tryz.prog 30 #[.pointer (some ⟨R, 0, none⟩)] w fun e w' => ∃ v n, e = .returned v ∧ 3 ≤ n ∧ n ≤ 8 ∧ TabI w w' R (N + 6000) v n := by
  have hR := h.lt
  go_enter Tryz.func30, Tryz.ntmps30
  go_wp2_with (go_at_call 56; refine (l71Table_c R _ _ h (by omega)).mono ?_; rintro e w1 ⟨v1, n1, rfl, hn3, hn8, hT1⟩)
  go_loopw [3, 4] (fun s3 s4 wr => ∃ a n : Nat, s4 = .int .i64 (a : Int) ∧ a ≤ 4 ∧ 3 ≤ n ∧ n ≤ 8 ∧ TabI w wr R (N + 1000 + 1010 * a) s3 n) (fun _ s4 _ => 4 - (intOf s4).toNat)
  case atStart => exact ⟨0, n1, rfl, by omega, hn3, hn8, hT1⟩
  case round =>
    clear hT1 hn3 hn8
    obtain ⟨a, n, rfl, ha4, hn3, hn8, hT⟩ := hrel
    obtain ⟨ts, p, cap, hl, rfl, hTab, -, hch, hrd⟩ := hT.tab hR
    by_cases hlt : a < 4
    · have hlt2 : (a : Int) < 4 := by omega
      obtain ⟨ok, hok⟩ : ∃ ok, tabOk ts = ok := ⟨_, rfl⟩
      have Hok := Lib.hid hok
      have Hl := Lib.hid hl
      have HTab := Lib.hid hTab
      clear hok hl hTab
      go_upto_region 3 with (fail)
      go_cut [18] (fun s18 wz => ∃ b, s18 = .bool b ∧ Chg (fun b => b = R) wr wz ∧ Rd wz R (N + 1000 + 1010 * a + 1))
      case first =>
        go_wp2_with (first
          | (go_at_call 48; refine (pick_p R _ _ _ hrd (by omega) (by omega)).mono ?_; rintro e w2 ⟨k2, rfl, h2a, h2b, hr2, hg2⟩)
          | (go_at_call 15; refine (stableOk_c p cap ts _ (HTab.out _ hg2)).mono ?_; rw [Hok.out]; rintro e w3 ⟨rfl, hb3⟩))
        all_goals go_meet
        · exact ⟨_, rfl, hg2.trans (Chg.of_pure hb3), (hr2.pure hb3).mono (by omega)⟩
        · exact ⟨_, rfl, hg2, hr2.mono (by omega)⟩
      case rest =>
        obtain ⟨b, rfl, hg, hr⟩ := hcut
        have hT2 := hT.ext hg hR hr
        have HT2 := Lib.hid hT2
        clear hT hT2 hg hrd hch
        cases b
        · go_wp2
          go_ret
          exact ⟨_, n, rfl, hn3, hn8, HT2.out.up (Chg.refl _ _) _ (by omega)⟩
        · have hch2 : Chg (fun b => b = R) w wc := by obtain ⟨xs, tag, -, -, -, h4, -⟩ := HT2.out; exact h4
          go_wp2_with (go_at_call 56; refine (l71Table_c R _ _ hr (by omega)).mono ?_; rintro e w2 ⟨v2, n2, rfl, hm3, hm8, hT3⟩)
          go_roundw
          case rel => exact ⟨a + 1, n2, by go_num, by omega, hm3, hm8, hT3.up hch2 _ (by omega)⟩
          case measure => simp [intOf]; omega
    · have ha : a = 4 := by omega
      subst ha
      have HT := Lib.hid hT
      clear hT
      go_wp2
      go_ret
      exact ⟨_, n, rfl, hn3, hn8, HT.out.up (Chg.refl _ _) _ (by omega)⟩

set_option maxRecDepth 100000 in
set_option maxHeartbeats 4000000 in
theorem l71Run_c (R N : Nat) (p : Option Addr) (cap : Nat) (ts : List Thg) (w : World) (h : Rd w R N) (hN : N ≤ 900000) (hT : ∀ wz : World, Chg (fun b => b = R) w wz → TabAt wz (.slice p ts.length cap) ts) (h1 : 1 ≤ ts.length) (h8 : ts.length ≤ 65536) :
    Calls Tryz.prog 47 #[.pointer (some ⟨R, 0, none⟩), .slice p ts.length cap] w fun e w' => ∃ k : Nat, e = .returned (.int .i64 ((k : Int) + 1)) ∧ k < ts.length ∧ Chg (fun b => b = R) w w' ∧ Rd w' R (N + 13) := by
  have hR := h.lt
  have HT := Lib.hid hT
  clear hT
  have hlen : (1 : Int) ≤ (ts.length : Int) := by omega
  go_enter Tryz.func47, Tryz.ntmps47
  go_wp2
  go_loopw [5, 6] (fun s5 s6 wr => ∃ a : Nat, s5 = .int .i64 (a : Int) ∧ a ≤ 6 ∧ Chg (fun b => b = R) w wr ∧ Rd wr R (N + 2 * a)) (fun s5 _ _ => 6 - (intOf s5).toNat)
  case atStart => exact ⟨0, rfl, by omega, Chg.refl _ _, h⟩
  case round =>
    obtain ⟨a, rfl, ha, hch, hrd⟩ := hrel
    by_cases hlt : a < 6
    · have hlt2 : (a : Int) < 6 := by omega
      go_wp2_with (first
        | (go_at_call 48; refine (pick_p R _ _ _ hrd (by omega) (by omega)).mono ?_; rintro e w2 ⟨k2, rfl, h2a, h2b, hr2, hg2⟩)
        | (go_at_call 48; refine (pick_p R _ _ _ hr2 (by omega) (by omega)).mono ?_; rintro e w3 ⟨k3, rfl, h3a, h3b, hr3, hg3⟩; obtain ⟨k3, rfl⟩ : ∃ n : Nat, k3 = (n : Int) := ⟨k3.toNat, by omega⟩; have h3n : k3 < ts.length := (by omega); obtain ⟨b3, o3, sv3, qv3, e3, -, -, -, c3, -⟩ := (HT.out _ ((hch.trans hg2).trans hg3)).at k3 ts[k3] (by simp [h3n]); subst e3))
      · go_ret
        exact ⟨k3, ret_int (by omega), h3n, (hch.trans hg2).trans hg3, hr3.mono (by omega)⟩
      · go_roundw
        case rel => exact ⟨a + 1, by go_num, by omega, (hch.trans hg2).trans hg3, hr3.mono (by omega)⟩
        case measure => simp [intOf]; omega
      · go_ret
        exact ⟨k3, ret_int (by omega), h3n, (hch.trans hg2).trans hg3, hr3.mono (by omega)⟩
    · have ha : a = 6 := by omega
      subst ha
      go_wp2_with (go_at_call 48; refine (pick_p R _ _ _ hrd (by omega) (by omega)).mono ?_; rintro e w2 ⟨k2, rfl, h2a, h2b, hr2, hg2⟩; obtain ⟨k2, rfl⟩ : ∃ n : Nat, k2 = (n : Int) := ⟨k2.toNat, by omega⟩)
      go_ret
      exact ⟨k2, ret_int (by omega), by omega, hch.trans hg2, hr2.mono (by omega)⟩
end Go.Proofs.YtiolplhgpodifaaGreat

/- What is drawn for the laws on what can be come to have. Conditions: the bytes lie where their cells say. -/
namespace Go.Proofs.YtiolplhgpodifaaGreat
open Go.RowKit Drw
attribute [local go_sem] Lab.val Rgt.val Cal.val Thg.val

/-- What is drawn: a table. -/
def DrawnTab (w : World) (e : Ending) (w' : World) : Prop := ∃ (q : Option Addr) (k : Nat) (ts : List Thg), e = .returned (.slice q ts.length k) ∧ TabAt w' (.slice q ts.length k) ts ∧ 3 ≤ ts.length ∧ ts.length ≤ 8 ∧ Below w.heap.size w w'
set_option maxRecDepth 100000 in
set_option maxHeartbeats 4000000 in
theorem drawReachAll_c (p : Option Addr) (n cap : Nat) (w : World) (hc : n ≤ cap) (hb : ∀ i, i < n → ∃ b o, ∃ x : Nat, p = some ⟨b, o, none⟩ ∧ b < w.heap.size ∧ w.cell? ⟨b, o + i, none⟩ = some (.int .u8 (x : Int)) ∧ x < 256) (hn : n ≤ 2 ^ 40) :
    Calls Tryz.prog 12 #[.slice p n cap] w (DrawnTab w) := by
  have Hb := Lib.hid hb
  clear hb
  obtain ⟨R, hRe⟩ : ∃ R, w.heap.size = R := ⟨_, rfl⟩
  have HRe := Lib.hid hRe
  go_enter Tryz.func12, Tryz.ntmps12
  go_wp2_with (first
    | (go_at_call 31; refine (open_c p n cap _ hc Hb.out hn).mono ?_; rintro e w1 ⟨rfl, hr1, hb1⟩; rw [hRe] at hr1 ⊢; have Hb1 := Lib.hid hb1; have Hr1 := Lib.hid hr1; clear hb1 hr1)
    | (go_at_call 30; refine (l71Fine_c R 0 _ Hr1.out (by omega)).mono ?_; rintro e w2 ⟨v, m, rfl, hm3, hm8, hT⟩; obtain ⟨ts, q, k, hl, rfl, hTab, hS, hg2, hr2⟩ := hT.tab Hr1.out.lt; subst hl; have HT := Lib.hid hTab; have Hg2 := Lib.hid hg2; clear hT hTab hS hg2 hr2))
  go_ret
  exact ⟨q, k, ts, rfl, HT.out _ (Chg.refl _ _), hm3, hm8, Hb1.out.trans (Hg2.out.below (B := w.heap.size) Hb1.out.size (fun j hj e => by have := HRe.out; omega))⟩
end Go.Proofs.YtiolplhgpodifaaGreat

/- impl.ReachIn, where it says yes. Conditions: the rights lie where their cells say, and are rights. -/
namespace Go.Proofs.YtiolplhgpodifaaGreat
open Go.RowKit Drw
attribute [local go_sem] Lab.val Rgt.val Cal.val Thg.val

set_option maxRecDepth 100000 in
set_option maxHeartbeats 4000000 in
theorem pred_c (C : Nat) (r s : Rgt) (w : World) (h : w.cell? ⟨C, 0, none⟩ = some (.int .i64 r.thing) ∧ w.cell? ⟨C, 1, none⟩ = some (.int .i64 r.vers) ∧ w.cell? ⟨C, 2, none⟩ = some (.bool r.rd) ∧ w.cell? ⟨C, 3, none⟩ = some (.bool r.wr) ∧ w.cell? ⟨C, 4, none⟩ = some (.bool r.wk)) :
    Calls Tryz.prog 42 #[s.val, .pointer (some ⟨C, 0, none⟩)] w fun e w' => e = .returned (.bool (rgtIn r s)) ∧ Below w.heap.size w w' := by
  obtain ⟨v, hv⟩ : ∃ v, rgtIn r s = v := ⟨_, rfl⟩
  have Hv := Lib.hid hv
  rw [hv]
  clear hv
  obtain ⟨r0, r1, r2, r3, r4⟩ := r
  obtain ⟨s0, s1, s2, s3, s4⟩ := s
  dsimp only at h
  obtain ⟨h0, h1, h2, h3, h4⟩ := h
  have hC := World.block_lt_of_cell? _ _ h0
  go_enter Tryz.func42, Tryz.ntmps42
  go_wp2_with (go_at_call 17; refine (rightIn_c ⟨_, _, _, _, _⟩ ⟨_, _, _, _, _⟩ _).mono ?_; rw [Hv.out]; rintro e w1 ⟨rfl, hb1⟩)
  go_ret
  exact ⟨rfl, (by (repeat (with_reducible first | exact Below.refl _ _ | refine Below.alloc ?_ ?_ _ | refine below_drewN ?_ _ | refine Below.drew ?_ | refine Below.setCell ?_ ?_ _ | refine Below.trans ?_ (Below.mono (by assumption) ?_))) <;> (first | omega | (simp; try omega)))⟩

set_option maxRecDepth 100000 in
set_option maxHeartbeats 4000000 in
theorem indexFunc_c (C : Nat) (r : Rgt) (rs : List Rgt) (p : Option Addr) (cap : Nat) (w : World) (h : w.cell? ⟨C, 0, none⟩ = some (.int .i64 r.thing) ∧ w.cell? ⟨C, 1, none⟩ = some (.int .i64 r.vers) ∧ w.cell? ⟨C, 2, none⟩ = some (.bool r.rd) ∧ w.cell? ⟨C, 3, none⟩ = some (.bool r.wr) ∧ w.cell? ⟨C, 4, none⟩ = some (.bool r.wk)) (hR : RgtsAt w (.slice p rs.length cap) rs) (hx : ∃ s ∈ rs, rgtIn r s = true) :
    Calls Tryz.prog 74 #[.slice p rs.length cap, .func (.func 42) #[] #[.pointer (some ⟨C, 0, none⟩)]] w fun e w' => (∃ i : Nat, e = .returned (.int .i64 (i : Int))) ∧ Below w.heap.size w w' := by
  obtain ⟨p', cap', he, hl1, hl2⟩ := hR.len
  cases he
  unfold maxLen at hl2
  have hC := World.block_lt_of_cell? _ _ h.1
  have eg : ∀ args w, (callFunc 42 args).run Tryz.prog w = .ok (.enter 42 args) w := fun _ _ => by kernel_rfl
  have HR := Lib.hid hR
  have HX := Lib.hid hx
  have HH := Lib.hid h
  clear hR hx h
  go_enter Tryz.func74, Tryz.ntmps74
  go_wp2
  go_loopw [5, 8] (fun s5 s8 wr => ∃ k : Nat, s8 = .int .i64 (k : Int) ∧ k ≤ rs.length ∧ (∀ j s, j < k → rs[j]? = some s → rgtIn r s = false) ∧ Below w.heap.size w wr) (fun _ s8 _ => rs.length - (intOf s8).toNat)
  case atStart => exact ⟨0, rfl, by omega, fun j s h => absurd h (by omega), Below.refl _ _⟩
  case round =>
    obtain ⟨k, rfl, hk, hno, hB⟩ := hrel
    have Hno := Lib.hid hno
    clear hno
    by_cases hlt : k < rs.length
    · have hk0 : (0 : Int) ≤ (k : Int) := by omega
      have hkn : (k : Int) < (rs.length : Int) := by omega
      obtain ⟨s, hs⟩ : ∃ s, rs[k]? = some s := ⟨_, List.getElem?_eq_getElem hlt⟩
      have Hs := Lib.hid hs
      obtain ⟨b, o, rfl, hb, c0, c1, c2, c3, c4⟩ := (HR.out.pure hB).at k s hs
      clear hs
      have hzB := hB.size
      obtain ⟨hcB, -⟩ := bcell hB
      have HP := Lib.hid (show wr.cell? ⟨C, 0, none⟩ = some (.int .i64 r.thing) ∧ wr.cell? ⟨C, 1, none⟩ = some (.int .i64 r.vers) ∧ wr.cell? ⟨C, 2, none⟩ = some (.bool r.rd) ∧ wr.cell? ⟨C, 3, none⟩ = some (.bool r.wr) ∧ wr.cell? ⟨C, 4, none⟩ = some (.bool r.wk) from ⟨(hcB _ _ hC).trans HH.out.1, (hcB _ _ hC).trans HH.out.2.1, (hcB _ _ hC).trans HH.out.2.2.1, (hcB _ _ hC).trans HH.out.2.2.2.1, (hcB _ _ hC).trans HH.out.2.2.2.2⟩)
      clear hcB
      obtain ⟨v, hv⟩ : ∃ v, rgtIn r s = v := ⟨_, rfl⟩
      have Hv := Lib.hid hv
      clear hv
      obtain ⟨s0, s1, s2, s3, s4⟩ := s
      dsimp only at c0 c1 c2 c3 c4
      cases v
      · go_wp2_with (go_at_fn 42; refine (pred_c C r ⟨_, _, _, _, _⟩ _ HP.out).mono ?_; rw [Hv.out]; rintro e w1 ⟨rfl, hb1⟩)
        refine ⟨⟨k + 1, by go_num, by omega, fun j s hj hs => ?_, (by (repeat (with_reducible first | exact Below.refl _ _ | refine Below.alloc ?_ ?_ _ | refine below_drewN ?_ _ | refine Below.drew ?_ | refine Below.setCell ?_ ?_ _ | refine Below.trans ?_ (Below.mono (by assumption) ?_))) <;> (first | omega | (simp; try omega)))⟩, by simp [intOf]; omega⟩
        by_cases hjk : j < k
        · exact Hno.out j s hjk hs
        · obtain rfl : j = k := by omega
          rw [Hs.out] at hs
          cases hs
          exact Hv.out
      · go_wp2_with (go_at_fn 42; refine (pred_c C r ⟨_, _, _, _, _⟩ _ HP.out).mono ?_; rw [Hv.out]; rintro e w1 ⟨rfl, hb1⟩)
        go_ret
        exact ⟨⟨k, rfl⟩, (by (repeat (with_reducible first | exact Below.refl _ _ | refine Below.alloc ?_ ?_ _ | refine below_drewN ?_ _ | refine Below.drew ?_ | refine Below.setCell ?_ ?_ _ | refine Below.trans ?_ (Below.mono (by assumption) ?_))) <;> (first | omega | (simp; try omega)))⟩
    · exfalso
      obtain ⟨s, hs, hin⟩ := HX.out
      obtain ⟨j, hj, rfl⟩ := List.mem_iff_getElem.1 hs
      have := Hno.out j _ (by omega) (List.getElem?_eq_getElem hj)
      rw [hin] at this
      cases this

set_option maxRecDepth 100000 in
set_option maxHeartbeats 4000000 in
theorem containsFunc_c (C : Nat) (r : Rgt) (rs : List Rgt) (p : Option Addr) (cap : Nat) (w : World) (h : w.cell? ⟨C, 0, none⟩ = some (.int .i64 r.thing) ∧ w.cell? ⟨C, 1, none⟩ = some (.int .i64 r.vers) ∧ w.cell? ⟨C, 2, none⟩ = some (.bool r.rd) ∧ w.cell? ⟨C, 3, none⟩ = some (.bool r.wr) ∧ w.cell? ⟨C, 4, none⟩ = some (.bool r.wk)) (hR : RgtsAt w (.slice p rs.length cap) rs) (hx : ∃ s ∈ rs, rgtIn r s = true) :
    Calls Tryz.prog 41 #[.slice p rs.length cap, .func (.func 42) #[] #[.pointer (some ⟨C, 0, none⟩)]] w fun e w' => e = .returned (.bool true) ∧ Below w.heap.size w w' := by
  have HI := Lib.hid (indexFunc_c C r rs p cap w h hR hx)
  clear h hR hx
  go_enter Tryz.func41, Tryz.ntmps41
  go_wp2_with (go_at_call 74; refine HI.out.mono ?_; rintro e w1 ⟨⟨i, rfl⟩, hb1⟩; have hi : (0 : Int) ≤ (i : Int) := by omega)
  go_ret
  exact ⟨rfl, (by (repeat (with_reducible first | exact Below.refl _ _ | refine Below.alloc ?_ ?_ _ | refine below_drewN ?_ _ | refine Below.drew ?_ | refine Below.setCell ?_ ?_ _ | refine Below.trans ?_ (Below.mono (by assumption) ?_))) <;> (first | omega | (simp; try omega)))⟩

set_option maxRecDepth 100000 in
set_option maxHeartbeats 4000000 in
theorem reachIn_c (r : Rgt) (rs : List Rgt) (p : Option Addr) (cap : Nat) (w : World) (hR : RgtsAt w (.slice p rs.length cap) rs) (hall : ∀ s ∈ rs, rgtOk s = true) (hr : rgtOk r = true) (hx : r.thing = 0 ∨ ∃ s ∈ rs, rgtIn r s = true) :
    Calls Tryz.prog 16 #[.slice p rs.length cap, r.val] w fun e w' => e = .returned (.bool true) ∧ Below w.heap.size w w' := by
  obtain ⟨p', cap', he, hl1, hl2⟩ := hR.len
  cases he
  unfold maxLen at hl2
  have HR := Lib.hid hR
  have HA := Lib.hid hall
  have Hr := Lib.hid hr
  have HX := Lib.hid hx
  clear hR hall hr hx
  obtain ⟨r0, r1, r2, r3, r4⟩ := r
  go_enter Tryz.func16, Tryz.ntmps16
  go_upto_region 1 with (fail)
  generalize hwa : World.alloc _ _ = wa
  have hB0 : Below w.heap.size w wa := by rw [← hwa]; exact (by (repeat (with_reducible first | exact Below.refl _ _ | refine Below.alloc ?_ ?_ _ | refine below_drewN ?_ _ | refine Below.drew ?_ | refine Below.setCell ?_ ?_ _ | refine Below.trans ?_ (Below.mono (by assumption) ?_))) <;> (first | omega | (simp; try omega)))
  have hza : w.heap.size < wa.heap.size := by rw [← hwa]; simp
  have gc : wa.cell? ⟨w.heap.size, 0, none⟩ = some (.int .i64 r0) ∧ wa.cell? ⟨w.heap.size, 1, none⟩ = some (.int .i64 r1) ∧ wa.cell? ⟨w.heap.size, 2, none⟩ = some (.bool r2) ∧ wa.cell? ⟨w.heap.size, 3, none⟩ = some (.bool r3) ∧ wa.cell? ⟨w.heap.size, 4, none⟩ = some (.bool r4) := by rw [← hwa]; simp [go_sem]
  have Hgc := Lib.hid gc
  obtain ⟨g0, g1, g2, g3, g4⟩ := gc
  clear hwa
  go_upto_region 3 with (go_at_call 40; refine (rightOk_c ⟨_, _, _, _, _⟩ _).mono ?_; rw [Hr.out]; rintro e w1 ⟨rfl, hb1⟩)
  clear g0 g1 g2 g3 g4
  have hz1 := hb1.size
  go_wp2
  go_loopw [12] (fun s12 wr => ∃ k : Nat, s12 = .int .i64 (k : Int) ∧ k ≤ rs.length ∧ Below wa.heap.size wa wr) (fun s12 _ => rs.length - (intOf s12).toNat)
  case atStart => exact ⟨0, rfl, by omega, hb1⟩
  case round =>
    obtain ⟨k, rfl, hk, hB⟩ := hrel
    have hBw : Below w.heap.size w wr := hB0.trans (hB.mono hB0.size)
    have hzw := hB.size
    by_cases hlt : k < rs.length
    · have hk0 : (0 : Int) ≤ (k : Int) := by omega
      have hkn : (k : Int) < (rs.length : Int) := by omega
      obtain ⟨s, hs⟩ : ∃ s, rs[k]? = some s := ⟨_, List.getElem?_eq_getElem hlt⟩
      have hok := HA.out s (List.mem_of_getElem? hs)
      have Hok := Lib.hid hok
      obtain ⟨b, o, rfl, hb, c0, c1, c2, c3, c4⟩ := (HR.out.pure hBw).at k s hs
      clear hs hok
      obtain ⟨s0, s1, s2, s3, s4⟩ := s
      dsimp only at c0 c1 c2 c3 c4
      go_wp2_with (go_at_call 40; refine (rightOk_c ⟨_, _, _, _, _⟩ _).mono ?_; rw [Hok.out]; rintro e w2 ⟨rfl, hb2⟩; have hz2 := hb2.size)
      refine ⟨⟨k + 1, by go_num, by omega, ?_⟩, by simp [intOf]; omega⟩
      refine Below.trans hB (Below.mono (show Below wr.heap.size wr w2 from ?_) hzw)
      exact (by (repeat (with_reducible first | exact Below.refl _ _ | refine Below.alloc ?_ ?_ _ | refine below_drewN ?_ _ | refine Below.drew ?_ | refine Below.setCell ?_ ?_ _ | refine Below.trans ?_ (Below.mono (by assumption) ?_))) <;> (first | omega | (simp; try omega)))
    · obtain ⟨hc', -⟩ := bcell hB
      have g0 := (hc' _ _ hza).trans Hgc.out.1
      have g1 := (hc' _ _ hza).trans Hgc.out.2.1
      have g2 := (hc' _ _ hza).trans Hgc.out.2.2.1
      have g3 := (hc' _ _ hza).trans Hgc.out.2.2.2.1
      have g4 := (hc' _ _ hza).trans Hgc.out.2.2.2.2
      clear hc'
      have hkn : ¬ (k : Int) < (rs.length : Int) := by omega
      by_cases h0 : r0 = 0
      · subst h0
        go_wp2
        go_ret
        exact ⟨rfl, (by (repeat (with_reducible first | exact Below.refl _ _ | refine Below.alloc ?_ ?_ _ | refine below_drewN ?_ _ | refine Below.drew ?_ | refine Below.setCell ?_ ?_ _ | refine Below.trans ?_ (Below.mono (by assumption) ?_))) <;> (first | omega | (simp; try omega)))⟩
      · have hx : ∃ s ∈ rs, rgtIn ⟨r0, r1, r2, r3, r4⟩ s = true := HX.out.resolve_left h0
        have HI := Lib.hid (containsFunc_c w.heap.size ⟨r0, r1, r2, r3, r4⟩ rs _ _ wr ⟨g0, g1, g2, g3, g4⟩ (HR.out.pure hBw) hx)
        clear hx
        go_wp2_with (go_at_call 41; refine HI.out.mono ?_; rintro e w3 ⟨rfl, hb3⟩)
        go_ret
        exact ⟨rfl, hBw.trans (hb3.mono hBw.size)⟩
end Go.Proofs.YtiolplhgpodifaaGreat

/- Common facts of the laws on what can be come to have: rows of a table and of all that can be come to have, read behind calls that change nothing. Conditions: they lie where their cells say. -/
namespace Go.Proofs.YtiolplhgpodifaaGreat
open Go.RowKit Drw
attribute [local go_sem] Lab.val Rgt.val Cal.val Thg.val

/-- The bytes that come in. -/
def BytesIn (w : World) (p : Option Addr) (n : Nat) : Prop := ∀ i, i < n → ∃ b o, ∃ x : Nat, p = some ⟨b, o, none⟩ ∧ b < w.heap.size ∧ w.cell? ⟨b, o + i, none⟩ = some (.int .u8 (x : Int)) ∧ x < 256
/-- A thing of a table: where its rights lie, in whatever world that keeps the table. -/
theorem row_at {wx : World} {q : Option Addr} {k : Nat} {ts : List Thg} {i : Nat} {t : Thg} (h : TabAt wx (.slice q ts.length k) ts) (hi : ts[i]? = some t) :
    ∃ b o ps cs, q = some ⟨b, o, none⟩ ∧ b < wx.heap.size ∧ RgtsAt wx (.slice ps t.slots.length cs) t.slots ∧ t.slots.length ≤ cs ∧ cs ≤ maxLen ∧ wx.cell? ⟨b, o + i * 8, none⟩ = some (.int .i64 t.kind) ∧ wx.cell? ⟨b, o + i * 8 + 3, none⟩ = some (.int .i64 t.vers) ∧ wx.cell? ⟨b, o + i * 8 + 5, none⟩ = some (.slice ps t.slots.length cs) := by
  obtain ⟨b, o, sv, qv, e, hb, hS, hQ, c0, c1, c2, c3, c4, c5, c6, c7⟩ := h.at i t hi
  obtain ⟨ps, cs, rfl, h1, h2⟩ := hS.len
  exact ⟨b, o, ps, cs, e, hb, hS, h1, h2, c0, c3, c5⟩
/-- A row of all that can be come to have. -/
theorem all_at {wx : World} {A : Nat} {a : List (List Rgt)} {i : Nat} (h : AllAt wx A 0 a) (hi : i < a.length) :
    ∃ q c, wx.cell? ⟨A, i, none⟩ = some (.slice q (rowA a i).length c) ∧ RgtsAt wx (.slice q (rowA a i).length c) (rowA a i) ∧ (rowA a i).length ≤ c ∧ c ≤ maxLen := by
  obtain ⟨q, c, h1, h2, -⟩ := h.row i (rowA a i) (by rw [rowA, List.getElem?_eq_getElem hi]; rfl)
  rw [Nat.zero_add] at h1
  obtain ⟨p', c', e, h3, h4⟩ := h2.len
  cases e
  exact ⟨q, c, h1, h2, h3, h4⟩
theorem slots4 {ts : List Thg} (ht : tabOk ts = true) {i : Nat} {t : Thg} (hi : ts[i]? = some t) : t.slots.length ≤ 4 := by
  have h2 := tab_thgOk ht (ex_at (nat_lt hi))
  rw [getT_nat hi] at h2
  by_cases h3 : t.kind = 2 ∨ t.kind = 3
  · rw [slots_len h2 h3]; omega
  · rw [slots_none h2 h3]; simp
theorem thing_at {ts : List Thg} (ht : tabOk ts = true) {i : Nat} {t : Thg} (hi : ts[i]? = some t) {r : Rgt} (hr : r ∈ t.slots) (h0 : 0 < r.thing) : ∃ (j : Nat) (u : Thg), r.thing = (j : Int) + 1 ∧ ts[j]? = some u := by
  have hc := tab_caps ht (ex_at (nat_lt hi)) (by rw [getT_nat hi]; exact hr)
  have hx := cap_ex hc (by omega)
  rw [ex_iff] at hx
  obtain ⟨u, hu⟩ : ∃ u, ts[(r.thing - 1).toNat]? = some u := ⟨_, List.getElem?_eq_getElem (by omega)⟩
  exact ⟨(r.thing - 1).toNat, u, by omega, hu⟩
theorem reachIn_u {x0 x1 : Int} {x2 x3 x4 : Bool} {rs : List Rgt} {p : Option Addr} {cap : Nat} {w : World} (hR : RgtsAt w (.slice p rs.length cap) rs) (hall : ∀ s ∈ rs, rgtOk s = true) (hr : rgtOk ⟨x0, x1, x2, x3, x4⟩ = true) (hx : x0 = 0 ∨ ∃ s ∈ rs, rgtIn ⟨x0, x1, x2, x3, x4⟩ s = true) :
    Calls Tryz.prog 16 #[.slice p rs.length cap, .agg #[.int .i64 x0, .int .i64 x1, .bool x2, .bool x3, .bool x4]] w fun e w' => e = .returned (.bool true) ∧ Below w.heap.size w w' := reachIn_c ⟨x0, x1, x2, x3, x4⟩ rs p cap w hR hall hr hx
theorem rightIn_u {x0 x1 y0 y1 : Int} {x2 x3 x4 y2 y3 y4 v : Bool} {w : World} (h : rgtIn ⟨x0, x1, x2, x3, x4⟩ ⟨y0, y1, y2, y3, y4⟩ = v) :
    Calls Tryz.prog 17 #[.agg #[.int .i64 x0, .int .i64 x1, .bool x2, .bool x3, .bool x4], .agg #[.int .i64 y0, .int .i64 y1, .bool y2, .bool y3, .bool y4]] w fun e w' => e = .returned (.bool v) ∧ Below w.heap.size w w' := by
  rw [← h]; exact rightIn_c ⟨x0, x1, x2, x3, x4⟩ ⟨y0, y1, y2, y3, y4⟩ w
end Go.Proofs.YtiolplhgpodifaaGreat
