/- Drawn tables that are fine, most often; a drawn runner. Conditions: few numbers were drawn so far. -/
import Derived.Test.YtghbphdipdjekaaGreatDoorDb
import Derived.Test.YtghbphdipdjekaaGreatDoorMa
import Derived.Test.YtghbphdipdjekaaGreatDoorG
import Derived.Shelf.Abstract
import Derived.Test.YtghbphdipdjekaaGreatDoorAl
set_option linter.unusedVariables false
set_option linter.unusedSimpArgs false
namespace Go.Proofs.YtghbphdipdjekaaGreatDoor
open Go.RowKit Drw
attribute [local go_sem] Lab.val Rgt.val Cal.val Thg.val

theorem TabI.up {w w1 wr : World} {R N n : Nat} {v : Value} (h : TabI w1 wr R N v n) (hg : Chg (fun b => b = R) w w1) (M : Nat) (hM : N ≤ M) : TabI w wr R M v n := by
  obtain ⟨xs, tag, h1, h2, h3, h4, h5⟩ := h
  exact ⟨xs, tag, h1.imp (fun b hb _ => ⟨Nat.le_trans hg.size hb, rfl⟩), h2, h3, hg.trans h4, h5.mono hM⟩
theorem TabI.ext {w wr wz : World} {R N n M : Nat} {v : Value} (h : TabI w wr R N v n) (hg : Chg (fun b => b = R) wr wz) (hR : R < w.heap.size) (hr : Rd wz R M) : TabI w wz R M v n := by
  obtain ⟨xs, tag, h1, h2, h3, h4, h5⟩ := h
  exact ⟨xs, tag, h1.chg hg (fun b hb _ e => by omega), h2, h3, h4.trans hg, hr⟩
/-- As a list of things. -/
theorem TabI.tab {w wr : World} {R N n : Nat} {v : Value} (h : TabI w wr R N v n) (hR : R < w.heap.size) : ∃ ts p cap, ts.length = n ∧ v = .slice p ts.length cap ∧ (∀ wz : World, Chg (fun b => b = R) wr wz → TabAt wz (.slice p ts.length cap) ts) ∧ Short ts ∧ Chg (fun b => b = R) w wr ∧ Rd wr R N := by
  obtain ⟨xs, tag, h1, h2, h3, h4, h5⟩ := h
  obtain ⟨p, cap, e, -, -⟩ := h1.at'.len
  refine ⟨xs.map (·.1), p, cap, by simp [h2], e, fun wz hg => by rw [← e]; exact (h1.chg hg (fun b hb _ e => by omega)).at', ?_, h4, h5⟩
  intro t ht
  obtain ⟨x, hx, rfl⟩ := List.mem_map.1 ht
  have := h3 x hx
  omega

set_option maxRecDepth 100000 in
set_option maxHeartbeats 4000000 in
theorem l71Fine_c (R N : Nat) (w : World) (h : Rd w R N) (hN : N ≤ 790000) :
    Calls Tryz.prog 53 #[.pointer (some ⟨R, 0, none⟩)] w fun e w' => ∃ v n, e = .returned v ∧ 3 ≤ n ∧ n ≤ 8 ∧ TabI w w' R (N + 6000) v n := by
  have hR := h.lt
  go_enter Tryz.func53, Tryz.ntmps53
  go_wp2_with (go_at_call 90; refine (l71Table_c R _ _ h (by omega)).mono ?_; rintro e w1 ⟨v1, n1, rfl, hn3, hn8, hT1⟩)
  go_loopw [3, 4] (fun s3 s4 wr => ∃ a n : Nat, s4 = .int .i64 (a : Int) ∧ a ≤ 4 ∧ 3 ≤ n ∧ n ≤ 8 ∧ TabI w wr R (N + 1000 + 1010 * a) s3 n) (fun _ s4 _ => 4 - (intOf s4).toNat)
  case atStart => exact ⟨0, n1, rfl, by omega, hn3, hn8, hT1⟩
  case round =>
    clear hT1 hn3 hn8
    obtain ⟨a, n, rfl, ha4, hn3, hn8, hT⟩ := hrel
    obtain ⟨ts, p, cap, hl, rfl, hTab, -, hch, hrd⟩ := hT.tab hR
    by_cases hlt : a < 4
    · have hlt2 : (a : Int) < 4 := by omega
      obtain ⟨ok, hok⟩ : ∃ ok, tabOk ts = ok := ⟨_, rfl⟩
      have Hok := Lib.hid hok
      have Hl := Lib.hid hl
      have HTab := Lib.hid hTab
      clear hok hl hTab
      go_upto_region 3 with (fail)
      go_cut [18] (fun s18 wz => ∃ b, s18 = .bool b ∧ Chg (fun b => b = R) wr wz ∧ Rd wz R (N + 1000 + 1010 * a + 1))
      case first =>
        go_wp2_with (first
          | (go_at_call 91; refine (pick_p R _ _ _ hrd (by omega) (by omega)).mono ?_; rintro e w2 ⟨k2, rfl, h2a, h2b, hr2, hg2⟩)
          | (go_at_call 19; refine (stableOk_c p cap ts _ (HTab.out _ hg2)).mono ?_; rw [Hok.out]; rintro e w3 ⟨rfl, hb3⟩))
        all_goals go_meet
        · exact ⟨_, rfl, hg2.trans (Chg.of_pure hb3), (hr2.pure hb3).mono (by omega)⟩
        · exact ⟨_, rfl, hg2, hr2.mono (by omega)⟩
      case rest =>
        obtain ⟨b, rfl, hg, hr⟩ := hcut
        have hT2 := hT.ext hg hR hr
        have HT2 := Lib.hid hT2
        clear hT hT2 hg hrd hch
        cases b
        · go_wp2
          go_ret
          exact ⟨_, n, rfl, hn3, hn8, HT2.out.up (Chg.refl _ _) _ (by omega)⟩
        · have hch2 : Chg (fun b => b = R) w wc := by obtain ⟨xs, tag, -, -, -, h4, -⟩ := HT2.out; exact h4
          go_wp2_with (go_at_call 90; refine (l71Table_c R _ _ hr (by omega)).mono ?_; rintro e w2 ⟨v2, n2, rfl, hm3, hm8, hT3⟩)
          go_roundw
          case rel => exact ⟨a + 1, n2, by go_num, by omega, hm3, hm8, hT3.up hch2 _ (by omega)⟩
          case measure => simp [intOf]; omega
    · have ha : a = 4 := by omega
      subst ha
      have HT := Lib.hid hT
      clear hT
      go_wp2
      go_ret
      exact ⟨_, n, rfl, hn3, hn8, HT.out.up (Chg.refl _ _) _ (by omega)⟩

set_option maxRecDepth 100000 in
set_option maxHeartbeats 4000000 in
theorem l71Run_c (R N : Nat) (p : Option Addr) (cap : Nat) (ts : List Thg) (w : World) (h : Rd w R N) (hN : N ≤ 900000) (hT : ∀ wz : World, Chg (fun b => b = R) w wz → TabAt wz (.slice p ts.length cap) ts) (h1 : 1 ≤ ts.length) (h8 : ts.length ≤ 65536) :
    Calls Tryz.prog 130 #[.pointer (some ⟨R, 0, none⟩), .slice p ts.length cap] w fun e w' => ∃ k : Nat, e = .returned (.int .i64 ((k : Int) + 1)) ∧ k < ts.length ∧ Chg (fun b => b = R) w w' ∧ Rd w' R (N + 13) := by
  have hR := h.lt
  have HT := Lib.hid hT
  clear hT
  have hlen : (1 : Int) ≤ (ts.length : Int) := by omega
  go_enter Tryz.func130, Tryz.ntmps130
  go_wp2
  go_loopw [5, 6] (fun s5 s6 wr => ∃ a : Nat, s5 = .int .i64 (a : Int) ∧ a ≤ 6 ∧ Chg (fun b => b = R) w wr ∧ Rd wr R (N + 2 * a)) (fun s5 _ _ => 6 - (intOf s5).toNat)
  case atStart => exact ⟨0, rfl, by omega, Chg.refl _ _, h⟩
  case round =>
    obtain ⟨a, rfl, ha, hch, hrd⟩ := hrel
    by_cases hlt : a < 6
    · have hlt2 : (a : Int) < 6 := by omega
      go_wp2_with (first
        | (go_at_call 91; refine (pick_p R _ _ _ hrd (by omega) (by omega)).mono ?_; rintro e w2 ⟨k2, rfl, h2a, h2b, hr2, hg2⟩)
        | (go_at_call 91; refine (pick_p R _ _ _ hr2 (by omega) (by omega)).mono ?_; rintro e w3 ⟨k3, rfl, h3a, h3b, hr3, hg3⟩; obtain ⟨k3, rfl⟩ : ∃ n : Nat, k3 = (n : Int) := ⟨k3.toNat, by omega⟩; have h3n : k3 < ts.length := (by omega); obtain ⟨b3, o3, sv3, qv3, e3, -, -, -, c3, -⟩ := (HT.out _ ((hch.trans hg2).trans hg3)).at k3 ts[k3] (by simp [h3n]); subst e3))
      · go_ret
        exact ⟨k3, ret_int (by omega), h3n, (hch.trans hg2).trans hg3, hr3.mono (by omega)⟩
      · go_roundw
        case rel => exact ⟨a + 1, by go_num, by omega, (hch.trans hg2).trans hg3, hr3.mono (by omega)⟩
        case measure => simp [intOf]; omega
      · go_ret
        exact ⟨k3, ret_int (by omega), h3n, (hch.trans hg2).trans hg3, hr3.mono (by omega)⟩
    · have ha : a = 6 := by omega
      subst ha
      go_wp2_with (go_at_call 91; refine (pick_p R _ _ _ hrd (by omega) (by omega)).mono ?_; rintro e w2 ⟨k2, rfl, h2a, h2b, hr2, hg2⟩; obtain ⟨k2, rfl⟩ : ∃ n : Nat, k2 = (n : Int) := ⟨k2.toNat, by omega⟩)
      go_ret
      exact ⟨k2, ret_int (by omega), by omega, hch.trans hg2, hr2.mono (by omega)⟩
end Go.Proofs.YtghbphdipdjekaaGreatDoor

/- What is drawn for the laws on what can be come to have. Conditions: the bytes lie where their cells say. -/
namespace Go.Proofs.YtghbphdipdjekaaGreatDoor
open Go.RowKit Drw
attribute [local go_sem] Lab.val Rgt.val Cal.val Thg.val

/-- What is drawn: a table. -/
def DrawnTab (w : World) (e : Ending) (w' : World) : Prop := ∃ (q : Option Addr) (k : Nat) (ts : List Thg), e = .returned (.slice q ts.length k) ∧ TabAt w' (.slice q ts.length k) ts ∧ 3 ≤ ts.length ∧ ts.length ≤ 8 ∧ Below w.heap.size w w'
end Go.Proofs.YtghbphdipdjekaaGreatDoor

/- impl.ReachIn, where it says yes. Conditions: the rights lie where their cells say, and are rights. -/
namespace Go.Proofs.YtghbphdipdjekaaGreatDoor
open Go.RowKit Drw
attribute [local go_sem] Lab.val Rgt.val Cal.val Thg.val

end Go.Proofs.YtghbphdipdjekaaGreatDoor

/- Common facts of the laws on what can be come to have: rows of a table and of all that can be come to have, read behind calls that change nothing. Conditions: they lie where their cells say. -/
namespace Go.Proofs.YtghbphdipdjekaaGreatDoor
open Go.RowKit Drw
attribute [local go_sem] Lab.val Rgt.val Cal.val Thg.val

/-- The bytes that come in. -/
def BytesIn (w : World) (p : Option Addr) (n : Nat) : Prop := ∀ i, i < n → ∃ b o, ∃ x : Nat, p = some ⟨b, o, none⟩ ∧ b < w.heap.size ∧ w.cell? ⟨b, o + i, none⟩ = some (.int .u8 (x : Int)) ∧ x < 256
/-- A thing of a table: where its rights lie, in whatever world that keeps the table. -/
theorem row_at {wx : World} {q : Option Addr} {k : Nat} {ts : List Thg} {i : Nat} {t : Thg} (h : TabAt wx (.slice q ts.length k) ts) (hi : ts[i]? = some t) :
    ∃ b o ps cs, q = some ⟨b, o, none⟩ ∧ b < wx.heap.size ∧ RgtsAt wx (.slice ps t.slots.length cs) t.slots ∧ t.slots.length ≤ cs ∧ cs ≤ maxLen ∧ wx.cell? ⟨b, o + i * 8, none⟩ = some (.int .i64 t.kind) ∧ wx.cell? ⟨b, o + i * 8 + 3, none⟩ = some (.int .i64 t.vers) ∧ wx.cell? ⟨b, o + i * 8 + 5, none⟩ = some (.slice ps t.slots.length cs) := by
  obtain ⟨b, o, sv, qv, e, hb, hS, hQ, c0, c1, c2, c3, c4, c5, c6, c7⟩ := h.at i t hi
  obtain ⟨ps, cs, rfl, h1, h2⟩ := hS.len
  exact ⟨b, o, ps, cs, e, hb, hS, h1, h2, c0, c3, c5⟩
/-- A row of all that can be come to have. -/
theorem all_at {wx : World} {A : Nat} {a : List (List Rgt)} {i : Nat} (h : AllAt wx A 0 a) (hi : i < a.length) :
    ∃ q c, wx.cell? ⟨A, i, none⟩ = some (.slice q (rowA a i).length c) ∧ RgtsAt wx (.slice q (rowA a i).length c) (rowA a i) ∧ (rowA a i).length ≤ c ∧ c ≤ maxLen := by
  obtain ⟨q, c, h1, h2, -⟩ := h.row i (rowA a i) (by rw [rowA, List.getElem?_eq_getElem hi]; rfl)
  rw [Nat.zero_add] at h1
  obtain ⟨p', c', e, h3, h4⟩ := h2.len
  cases e
  exact ⟨q, c, h1, h2, h3, h4⟩
theorem slots4 {ts : List Thg} (ht : tabOk ts = true) {i : Nat} {t : Thg} (hi : ts[i]? = some t) : t.slots.length ≤ 4 := by
  have h2 := tab_thgOk ht (ex_at (nat_lt hi))
  rw [getT_nat hi] at h2
  by_cases h3 : t.kind = 2 ∨ t.kind = 3
  · rw [slots_len h2 h3]; omega
  · rw [slots_none h2 h3]; simp
theorem thing_at {ts : List Thg} (ht : tabOk ts = true) {i : Nat} {t : Thg} (hi : ts[i]? = some t) {r : Rgt} (hr : r ∈ t.slots) (h0 : 0 < r.thing) : ∃ (j : Nat) (u : Thg), r.thing = (j : Int) + 1 ∧ ts[j]? = some u := by
  have hc := tab_caps ht (ex_at (nat_lt hi)) (by rw [getT_nat hi]; exact hr)
  have hx := cap_ex hc (by omega)
  rw [ex_iff] at hx
  obtain ⟨u, hu⟩ : ∃ u, ts[(r.thing - 1).toNat]? = some u := ⟨_, List.getElem?_eq_getElem (by omega)⟩
  exact ⟨(r.thing - 1).toNat, u, by omega, hu⟩
end Go.Proofs.YtghbphdipdjekaaGreatDoor
