/- What is drawn for the laws on what can be come to have. Conditions: the bytes lie where their cells say. -/
import Derived.Test.YtiolplhgpodifaaGreatDi
set_option linter.unusedVariables false
set_option linter.unusedSimpArgs false
namespace Go.Proofs.YtiolplhgpodifaaGreat
open Go.RowKit Drw
attribute [local go_sem] Lab.val Rgt.val Cal.val Thg.val

/-- What is drawn: a table. -/
def DrawnTab (w : World) (e : Ending) (w' : World) : Prop := ∃ (q : Option Addr) (k : Nat) (ts : List Thg), e = .returned (.slice q ts.length k) ∧ TabAt w' (.slice q ts.length k) ts ∧ 3 ≤ ts.length ∧ ts.length ≤ 8 ∧ Below w.heap.size w w'
set_option maxRecDepth 100000 in
set_option maxHeartbeats 4000000 in
theorem drawReachAll_c (p : Option Addr) (n cap : Nat) (w : World) (hc : n ≤ cap) (hb : ∀ i, i < n → ∃ b o, ∃ x : Nat, p = some ⟨b, o, none⟩ ∧ b < w.heap.size ∧ w.cell? ⟨b, o + i, none⟩ = some (.int .u8 (x : Int)) ∧ x < 256) (hn : n ≤ 2 ^ 40) :
    Calls Tryz.prog 12 #[.slice p n cap] w (DrawnTab w) := by
  have Hb := Lib.hid hb
  clear hb
  obtain ⟨R, hRe⟩ : ∃ R, w.heap.size = R := ⟨_, rfl⟩
  have HRe := Lib.hid hRe
  go_enter Tryz.func12, Tryz.ntmps12
  go_wp2_with (first
    | (go_at_call 31; refine (open_c p n cap _ hc Hb.out hn).mono ?_; rintro e w1 ⟨rfl, hr1, hb1⟩; rw [hRe] at hr1 ⊢; have Hb1 := Lib.hid hb1; have Hr1 := Lib.hid hr1; clear hb1 hr1)
    | (go_at_call 30; refine (l71Fine_c R 0 _ Hr1.out (by omega)).mono ?_; rintro e w2 ⟨v, m, rfl, hm3, hm8, hT⟩; obtain ⟨ts, q, k, hl, rfl, hTab, hS, hg2, hr2⟩ := hT.tab Hr1.out.lt; subst hl; have HT := Lib.hid hTab; have Hg2 := Lib.hid hg2; clear hT hTab hS hg2 hr2))
  go_ret
  exact ⟨q, k, ts, rfl, HT.out _ (Chg.refl _ _), hm3, hm8, Hb1.out.trans (Hg2.out.below (B := w.heap.size) Hb1.out.size (fun j hj e => by have := HRe.out; omega))⟩
end Go.Proofs.YtiolplhgpodifaaGreat
