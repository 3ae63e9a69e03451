/- The law that the program's ReachTo returns what the reference's returns, walked. Conditions: the things lie where their cells say. -/
import Derived.Test.YtiolplhgpodifaaGreatAl
import Derived.Test.YtiolplhgpodifaaGreatMa
import Derived.Test.YtiolplhgpodifaaGreatCv
import Derived.Test.YtiolplhgpodifaaGreatEq
set_option linter.unusedVariables false
set_option linter.unusedSimpArgs false
namespace Go.Proofs.YtiolplhgpodifaaGreat
open Go.RowKit Drw
attribute [local go_sem] Lab.val Rgt.val Cal.val Thg.val

/-- What both of ReachTo return. -/
def RTo (ts : List Thg) (h k : Int) (wt : Bool) (v : Bool) : Prop :=
  ((tabOk ts && ex ts h && ex ts k) = false ∧ v = false) ∨ (tabOk ts = true ∧ ex ts k = true ∧ ∃ (j : Nat) (a : List (List Rgt)), h = (j : Int) + 1 ∧ j < ts.length ∧ IsReach ts a ∧ v = reachB (rowA a j) k wt)
theorem RTo.eq {ts : List Thg} {h k : Int} {wt v v' : Bool} (a : RTo ts h k wt v) (b : RTo ts h k wt v') : v = v' := by
  rcases a with ⟨a1, rfl⟩ | ⟨a1, a2, j, x, rfl, a3, a4, rfl⟩
  · rcases b with ⟨-, rfl⟩ | ⟨b1, b2, j, x, rfl, b3, b4, rfl⟩
    · rfl
    · rw [b1, b2, ex_at b3] at a1; cases a1
  · rcases b with ⟨b1, rfl⟩ | ⟨b1, b2, j', x', e, b3, b4, rfl⟩
    · rw [a1, a2, ex_at a3] at b1; cases b1
    · obtain rfl : j = j' := by omega
      rw [a4.eq b4]
theorem to_cases (ts : List Thg) (h k : Int) : (tabOk ts && ex ts h && ex ts k) = false ∨ (tabOk ts = true ∧ ex ts k = true ∧ ∃ j : Nat, h = (j : Int) + 1 ∧ j < ts.length) := by
  cases h1 : tabOk ts
  · exact .inl rfl
  · cases h2 : ex ts h
    · exact .inl rfl
    · cases h3 : ex ts k
      · exact .inl rfl
      · right
        refine ⟨rfl, rfl, (h - 1).toNat, ?_⟩
        unfold ex inR at h2
        simp at h2
        omega
theorem reachTo_b {p : Option Addr} {cap : Nat} {ts : List Thg} (h k : Int) (wt : Bool) {w : World} (hT : TabAt w (.slice p ts.length cap) ts) :
    Calls Tryz.prog 20 #[.slice p ts.length cap, .int .i64 h, .int .i64 k, .bool wt] w fun e w' => ∃ v, RTo ts h k wt v ∧ e = .returned (.bool v) ∧ Below w.heap.size w w' := by
  rcases to_cases ts h k with hc | ⟨h1, h2, j, rfl, h3⟩
  · exact (reachTo_no hT hc).mono fun e w' ⟨he, hb⟩ => ⟨false, .inl ⟨hc, rfl⟩, he, hb⟩
  · exact (reachTo_yes hT h1 h3 h2).mono fun e w' ⟨a, hI, he, hb⟩ => ⟨_, .inr ⟨h1, h2, j, a, rfl, h3, hI, rfl⟩, he, hb⟩
theorem sreachTo_b {p : Option Addr} {cap : Nat} {ts : List Thg} (h k : Int) (wt : Bool) {w : World} (hT : TabAt w (.slice p ts.length cap) ts) :
    Calls Tryz.prog 22 #[.slice p ts.length cap, .int .i64 h, .int .i64 k, .bool wt] w fun e w' => ∃ v, RTo ts h k wt v ∧ e = .returned (.bool v) ∧ Below w.heap.size w w' := by
  rcases to_cases ts h k with hc | ⟨h1, h2, j, rfl, h3⟩
  · exact (sreachTo_no hT hc).mono fun e w' ⟨he, hb⟩ => ⟨false, .inl ⟨hc, rfl⟩, he, hb⟩
  · exact (sreachTo_yes hT h1 h3 h2).mono fun e w' ⟨a, hI, he, hb⟩ => ⟨_, .inr ⟨h1, h2, j, a, rfl, h3, hI, rfl⟩, he, hb⟩

set_option maxRecDepth 100000 in
set_option maxHeartbeats 4000000 in
theorem fnExactReachTo_c {p : Option Addr} {cap : Nat} {ts : List Thg} (h k : Int) (wt : Bool) (w : World) (hT : TabAt w (.slice p ts.length cap) ts) :
    Calls Tryz.prog 10 #[.slice p ts.length cap, .int .i64 h, .int .i64 k, .bool wt] w fun e w' => e = .returned (.bool true) ∧ Below w.heap.size w w' := by
  obtain ⟨_, _, h1, hl1, hl2⟩ := hT.len
  cases h1
  unfold maxLen at hl2
  have HT := Lib.hid hT
  clear hT
  go_enter Tryz.func10, Tryz.ntmps10
  go_upto_region 3 with (go_at_call 23; refine (szThingS_c HT.out).mono ?_; rintro e w1 ⟨r, rfl, hr, hF, hb1⟩; have HF := Lib.hid hF; have HB1 := Lib.hid hb1; clear hF hb1)
  by_cases hneg : r < 0
  · go_wp2
    go_ret
    exact ⟨rfl, HB1.out⟩
  · have hfit := Lib.hid (HF.out (by omega))
    go_upto_region 6 with (first
      | (go_at_call 24; refine (toThingS_c (HT.out.pure HB1.out) hfit.out.1 hfit.out.2).mono ?_; rintro e w2 ⟨q2, k2, xs2, tag2, rfl, hO2, hx2, hb2⟩; have hT2 := hx2 ▸ hO2.at'; have HT2 := Lib.hid hT2; have HB2 := Lib.hid (HB1.out.trans (hb2.mono HB1.out.size)); clear hO2 hx2 hb2 hT2)
      | (go_at_call 22; refine (sreachTo_b h k wt HT2.out).mono ?_; rintro e w3 ⟨v3, hv3, rfl, hb3⟩; have HV3 := Lib.hid hv3; have HB3 := Lib.hid (HB2.out.trans (hb3.mono HB2.out.size)); clear hv3 hb3))
    go_upto_region 7 with (go_at_call 24; refine (toThingS_c (HT.out.pure HB3.out) hfit.out.1 hfit.out.2).mono ?_; rintro e w4 ⟨q4, k4, xs4, tag4, rfl, hO4, hx4, hb4⟩; have hT4 := hx4 ▸ hO4.at'; have HT4 := Lib.hid hT4; have HB4 := Lib.hid (HB3.out.trans (hb4.mono HB3.out.size)); clear hO4 hx4 hb4 hT4)
    go_upto_region 8 with (go_at_call 20; refine (reachTo_b h k wt HT4.out).mono ?_; rintro e w5 ⟨v5, hv5, rfl, hb5⟩; have HT5 := Lib.hid (HT4.out.pure hb5); have HB5 := Lib.hid (HB4.out.trans (hb5.mono HB4.out.size)); have hvv := hv5.eq HV3.out; subst hvv; clear hv5 hb5)
    go_wp2_with (first
      | (go_at_call 24; refine (toThingS_c (HT.out.pure HB5.out) hfit.out.1 hfit.out.2).mono ?_; rintro e w6 ⟨q6, k6, xs6, tag6, rfl, hO6, hx6, hb6⟩; have hT6 := hx6 ▸ hO6.at'; have HT6 := Lib.hid hT6; have HT56 := Lib.hid (HT5.out.pure hb6); have HB6 := Lib.hid (HB5.out.trans (hb6.mono HB5.out.size)); clear hO6 hx6 hb6 hT6)
      | (go_at_call 25; refine (eqThingS_s HT56.out HT6.out).mono ?_; rintro e w7 ⟨rfl, hb7⟩; have HB7 := Lib.hid (HB6.out.trans (hb7.mono HB6.out.size)); clear hb7))
    go_ret
    exact ⟨rfl, HB7.out⟩

end Go.Proofs.YtiolplhgpodifaaGreat
