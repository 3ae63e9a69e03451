/- What is drawn for the law on who can come to have a right. Conditions: the bytes lie where their cells say. -/
import Derived.Test.YtiolplhgpodifaaGreatDw
set_option linter.unusedVariables false
set_option linter.unusedSimpArgs false
namespace Go.Proofs.YtiolplhgpodifaaGreat
open Go.RowKit Drw
attribute [local go_sem] Lab.val Rgt.val Cal.val Thg.val

/-- What is drawn: a table, two things, and whether it is to write. -/
def DrawnTo (w : World) (e : Ending) (w' : World) : Prop := ∃ (q : Option Addr) (k : Nat) (ts : List Thg) (j : Nat) (m : Int) (wt : Bool), e = .returned (.tuple #[.slice q ts.length k, .int .i64 ((j : Int) + 1), .int .i64 m, .bool wt]) ∧ TabAt w' (.slice q ts.length k) ts ∧ 3 ≤ ts.length ∧ ts.length ≤ 8 ∧ j < ts.length ∧ 1 ≤ m ∧ m ≤ 100 ∧ Below w.heap.size w w'
set_option maxRecDepth 100000 in
set_option maxHeartbeats 4000000 in
theorem drawReachTo_c (p : Option Addr) (n cap : Nat) (w : World) (hc : n ≤ cap) (hb : ∀ i, i < n → ∃ b o, ∃ x : Nat, p = some ⟨b, o, none⟩ ∧ b < w.heap.size ∧ w.cell? ⟨b, o + i, none⟩ = some (.int .u8 (x : Int)) ∧ x < 256) (hn : n ≤ 2 ^ 40) :
    Calls Tryz.prog 21 #[.slice p n cap] w (DrawnTo w) := by
  have Hb := Lib.hid hb
  clear hb
  obtain ⟨R, hRe⟩ : ∃ R, w.heap.size = R := ⟨_, rfl⟩
  have HRe := Lib.hid hRe
  go_enter Tryz.func21, Tryz.ntmps21
  go_upto_region 3 with (first
    | (go_at_call 31; refine (open_c p n cap _ hc Hb.out hn).mono ?_; rintro e w1 ⟨rfl, hr1, hb1⟩; rw [hRe] at hr1 ⊢; have Hb1 := Lib.hid hb1; have Hr1 := Lib.hid hr1; clear hb1 hr1)
    | (go_at_call 30; refine (l71Fine_c R 0 _ Hr1.out (by omega)).mono ?_; rintro e w2 ⟨v, m, rfl, hm3, hm8, hT⟩; obtain ⟨ts, q, k, hl, rfl, hTab, hS, hg2, hr2⟩ := hT.tab Hr1.out.lt; subst hl; have HT := Lib.hid hTab; have Hg2 := Lib.hid hg2; have Hr2 := Lib.hid hr2; clear hT hTab hS hg2 hr2))
  have hlz : (1 : Int) ≤ (ts.length : Int) := by omega
  go_wp2_with (first
    | (go_at_call 47; refine (l71Run_c R _ q k ts _ Hr2.out (by omega) HT.out (by omega) (by omega)).mono ?_; rintro e w3 ⟨j, rfl, hj, hg3, hr3⟩; have Hg3 := Lib.hid hg3; have Hr3 := Lib.hid hr3; clear hg3 hr3)
    | (go_at_call 48; with_reducible refine (pick_p R _ (ts.length : Int) _ Hr3.out (by omega) hlz).mono ?_; rintro e w4 ⟨k1, rfl, k1a, k1b, hr4, hg4⟩; have Hg4 := Lib.hid hg4; have Hr4 := Lib.hid hr4; have ha1 : IntKind.i64.wrap (1 + k1) = 1 + k1 := IntWalk.i64_in _ (by omega); clear hg4 hr4)
    | (go_at_call 48; with_reducible refine (pick_p R _ 24 _ Hr4.out (by omega) (by omega)).mono ?_; rintro e w5 ⟨k2, rfl, k2a, k2b, hr5, hg5⟩; have Hg5 := Lib.hid hg5; have Hr5 := Lib.hid hr5; clear hg5 hr5)
    | (go_at_call 48; with_reducible refine (pick_p R _ 2 _ Hr5.out (by omega) (by omega)).mono ?_; rintro e w6 ⟨k3, rfl, k3a, k3b, hr6, hg6⟩; have Hg6 := Lib.hid hg6; clear hg6 hr6))
  have hch : Chg (fun b => b = R) w2 w6 := Hg3.out.trans (Hg4.out.trans (Hg5.out.trans Hg6.out))
  exact bodyPost_ret (v := .tuple #[.slice q ts.length k, .int .i64 ((j : Int) + 1), .int .i64 (1 + k1 + k2 / 23 * 8), .bool (k3 == 0)]) (by simp [results, Tryz.results21, go_sem]) rfl ⟨q, k, ts, j, _, _, rfl, HT.out _ hch, hm3, hm8, hj, by omega, by omega, Hb1.out.trans ((Hg2.out.trans hch).below (B := w.heap.size) Hb1.out.size (fun j hj e => by have := HRe.out; omega))⟩
end Go.Proofs.YtiolplhgpodifaaGreat
