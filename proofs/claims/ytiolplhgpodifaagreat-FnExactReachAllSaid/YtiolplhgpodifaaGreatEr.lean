/- The law that the program's ReachAll returns what the reference's returns, and shares no memory, walked. Conditions: the things lie where their cells say. -/
import Derived.Test.YtiolplhgpodifaaGreatSs
import Derived.Test.YtiolplhgpodifaaGreatCv
set_option linter.unusedVariables false
set_option linter.unusedSimpArgs false
namespace Drw
open Go Go.RowKit
/-- A table in memory of its own, its blocks between two bounds. -/
def OwnT (w : World) (lo hi : Nat) (v : Value) (ts : List Thg) : Prop := ∃ xs tag, OwnTab w (fun b => lo ≤ b ∧ b < hi) tag v xs ∧ xs.map (·.1) = ts
theorem OwnT.of {w : World} {lo : Nat} {tag : Nat → Nat} {v : Value} {xs : List Thx} {ts : List Thg} (h : OwnTab w (fun b => lo ≤ b) tag v xs) (hx : xs.map (·.1) = ts) : OwnT w lo w.heap.size v ts :=
  ⟨xs, tag, h.imp (fun b h1 h2 => ⟨⟨h1, h2⟩, rfl⟩), hx⟩
theorem OwnT.at' {w : World} {lo hi : Nat} {v : Value} {ts : List Thg} (h : OwnT w lo hi v ts) : TabAt w v ts := by
  obtain ⟨xs, tag, h1, rfl⟩ := h; exact h1.at'
theorem OwnT.pure {w w' : World} {lo hi : Nat} {v : Value} {ts : List Thg} (h : OwnT w lo hi v ts) (hb : Below w.heap.size w w') : OwnT w' lo hi v ts := by
  obtain ⟨xs, tag, h1, h2⟩ := h
  exact ⟨xs, tag, h1.pure hb, h2⟩
end Drw
namespace Go.Proofs.YtiolplhgpodifaaGreat
open Go.RowKit Drw
attribute [local go_sem] Lab.val Rgt.val Cal.val Thg.val

theorem toThingS_o {p : Option Addr} {cap : Nat} {ts : List Thg} {w : World} (hT : TabAt w (.slice p ts.length cap) ts) (hF : Fits ts) :
    Calls Tryz.prog 24 #[.slice p ts.length cap] w fun e w' => ∃ q k, e = .returned (.slice q ts.length k) ∧ OwnT w' w.heap.size w'.heap.size (.slice q ts.length k) ts ∧ Below w.heap.size w w' := by
  refine (toThingS_c hT hF.1 hF.2).mono ?_
  rintro e w' ⟨q, k, xs, tag, rfl, hO, hx, hb⟩
  exact ⟨q, k, rfl, .of hO hx, hb⟩
theorem markThingS_o {p : Option Addr} {cap lo hi : Nat} {ts : List Thg} {w : World} (h : OwnT w lo hi (.slice p ts.length cap) ts) (hF : Fits ts) :
    Calls Tryz.prog 27 #[.slice p ts.length cap, .int .i64 1] w fun e w' => e = .returned (.int .i64 (nxTs 1 ts)) ∧ Chg (fun b => lo ≤ b ∧ b < hi) w w' := by
  obtain ⟨xs, tag, hO, hx⟩ := h
  refine (markThingS_c 1 w hO hx (by omega) (by omega) hF.1 hF.2).mono ?_
  rintro e w' ⟨ys, rfl, hO', hy, hg⟩
  exact ⟨rfl, hg⟩
/-- What both of ReachAll return. -/
def RA (ts : List Thg) (a : List (List Rgt)) : Prop := (tabOk ts = false ∧ a = []) ∨ (tabOk ts = true ∧ IsReach ts a)
theorem RA.eq {ts : List Thg} {a b : List (List Rgt)} (h : RA ts a) (k : RA ts b) : a = b := by
  rcases h with ⟨h1, rfl⟩ | ⟨h1, h2⟩
  · rcases k with ⟨-, rfl⟩ | ⟨k1, -⟩
    · rfl
    · rw [h1] at k1; cases k1
  · rcases k with ⟨k1, -⟩ | ⟨-, k2⟩
    · rw [h1] at k1; cases k1
    · exact h2.eq k2
theorem RA.len {ts : List Thg} {a : List (List Rgt)} (h : RA ts a) : a.length ≤ 8 ∧ ∀ l ∈ a, l.length ≤ 400 := by
  rcases h with ⟨-, rfl⟩ | ⟨h1, h2⟩
  · exact ⟨by simp, fun l hl => by cases hl⟩
  · have h8 := (tab_iff.1 h1).1
    have hl := h2.len
    refine ⟨by omega, fun l hm => ?_⟩
    obtain ⟨i, hi⟩ := List.mem_iff_getElem?.1 hm
    have hil : i < ts.length := by have := (List.getElem?_eq_some_iff.1 hi).1; omega
    have := reach_row_len h1 h2 i hil
    have e : rowA a i = l := by simp [rowA, hi]
    rw [e] at this
    omega
theorem reachAll_o {p : Option Addr} {cap : Nat} {ts : List Thg} {w : World} (hT : TabAt w (.slice p ts.length cap) ts) :
    Calls Tryz.prog 13 #[.slice p ts.length cap] w fun e w' => ∃ q c a tag, e = .returned (.slice q a.length c) ∧ RA ts a ∧ OwnSS w' (fun b => w.heap.size ≤ b ∧ b < w'.heap.size) tag q a ∧ Below w.heap.size w w' := by
  cases ht : tabOk ts
  · refine (reachAll_no hT ht).mono ?_
    rintro e w' ⟨q, rfl, hb⟩
    exact ⟨q, 0, [], fun _ => 0, rfl, .inl ⟨ht, rfl⟩, .inl rfl, hb⟩
  · refine (reachAll_own hT ht).mono ?_
    intro e w' h
    obtain ⟨A, c, a, tag, rfl, hI, hO, hA, hb⟩ : AllToldO ts w e w' := h
    exact ⟨_, c, a, tag, rfl, .inr ⟨ht, hI⟩, .inr ⟨A, rfl, ⟨hA, hO.lt⟩, hO.imp fun b h1 h2 => ⟨h1, h2⟩⟩, hb⟩
theorem sreachAll_o {p : Option Addr} {cap : Nat} {ts : List Thg} {w : World} (hT : TabAt w (.slice p ts.length cap) ts) :
    Calls Tryz.prog 14 #[.slice p ts.length cap] w fun e w' => ∃ q c a, e = .returned (.slice q a.length c) ∧ RA ts a ∧ SSAt w' q a ∧ Below w.heap.size w w' := by
  cases ht : tabOk ts
  · refine (sreachAll_no hT ht).mono ?_
    rintro e w' ⟨q, rfl, hb⟩
    exact ⟨q, 0, [], rfl, .inl ⟨ht, rfl⟩, .inl rfl, hb⟩
  · refine (sreachAll_yes hT ht).mono ?_
    rintro e w' ⟨A, c, a, rfl, hI, hA, hb⟩
    refine ⟨_, c, a, rfl, .inr ⟨ht, hI⟩, .inr ⟨A, rfl, hA.lt, fun k l hk => ?_⟩, hb⟩
    obtain ⟨q, c, h1, h2, -⟩ := hA.row k l hk
    rw [Nat.zero_add] at h1
    exact ⟨q, c, h1, h2⟩

set_option maxRecDepth 100000 in
set_option maxHeartbeats 8000000 in
theorem fnExactReachAll_c {p : Option Addr} {cap : Nat} {ts : List Thg} (w : World) (hT : TabAt w (.slice p ts.length cap) ts) :
    Calls Tryz.prog 11 #[.slice p ts.length cap] w fun e w' => e = .returned (.bool true) ∧ Below w.heap.size w w' := by
  obtain ⟨_, _, h1, hl1, hl2⟩ := hT.len
  cases h1
  unfold maxLen at hl2
  have HT := Lib.hid hT
  clear hT
  go_enter Tryz.func11, Tryz.ntmps11
  go_upto_region 3 with (go_at_call 23; refine (szThingS_c HT.out).mono ?_; rintro e w1 ⟨r, rfl, hr, hF, hb1⟩; have HF := Lib.hid hF; have HB1 := Lib.hid hb1; clear hF hb1)
  by_cases hneg : r < 0
  · go_wp2
    go_ret
    exact ⟨rfl, HB1.out⟩
  · have HFt := Lib.hid (HF.out (by omega))
    go_upto_region 6 with (first
      | (go_at_call 24; refine (toThingS_o (HT.out.pure HB1.out) HFt.out).mono ?_; rintro e w2 ⟨q2, c2, rfl, hO2, hb2⟩; have HT2 := Lib.hid hO2.at'; have HB2 := Lib.hid (HB1.out.trans (hb2.mono HB1.out.size)); clear hO2 hb2)
      | (go_at_call 14; refine (sreachAll_o HT2.out).mono ?_; rintro e wA ⟨q0, c0, a, rfl, hRA, hS0, hb3⟩; have HRA := Lib.hid hRA; have HS0 := Lib.hid hS0; have HBA := Lib.hid (HB2.out.trans (hb3.mono HB2.out.size)); clear hRA hS0 hb3))
    have HX := Lib.hid (Below.refl wA.heap.size wA)
    have hal := HRA.out.len.1
    have Har := Lib.hid HRA.out.len.2
    go_upto_region 7 with (go_at_call 24; refine (toThingS_o (HT.out.pure HBA.out) HFt.out).mono ?_; rintro e wB ⟨qx, cx, rfl, hOx, hbB⟩; have HOx := Lib.hid hOx; have HX := Lib.hid hbB; have hsB := hbB.size; clear hOx hbB)
    go_upto_region 8 with (go_at_call 13; refine (reachAll_o HOx.out.at').mono ?_; rintro e wD ⟨qg, cg, a2, tg, rfl, hRA, hOg, hbD⟩; obtain rfl := hRA.eq HRA.out; have HOx := Lib.hid (HOx.out.pure hbD); have HX := Lib.hid (HX.out.trans (hbD.mono HX.out.size)); have HOg := Lib.hid hOg; clear hbD hOg hRA)
    go_upto_region 10 with (go_at_call 26; refine (eqRightSS_s HOg.out.at' (HS0.out.pure HX.out) (by omega)).mono ?_; rintro e wE ⟨rfl, hbE⟩; have HOx := Lib.hid (HOx.out.pure hbE); have HX := Lib.hid (HX.out.trans (hbE.mono HX.out.size)); have HOg := Lib.hid (HOg.out.pure hbE); clear hbE)
    go_upto_region 13 with (first
      | (go_at_call 24; refine (toThingS_o (HT.out.pure (HBA.out.trans (HX.out.mono HBA.out.size))) HFt.out).mono ?_; rintro e wF ⟨qf, cf, rfl, hOf, hbF⟩; have HTf := Lib.hid hOf.at'; have HOx := Lib.hid (HOx.out.pure hbF); have HX := Lib.hid (HX.out.trans (hbF.mono HX.out.size)); have HOg := Lib.hid (HOg.out.pure hbF); clear hOf hbF)
      | (go_at_call 25; refine (eqThingS_s HOx.out.at' HTf.out).mono ?_; rintro e wG ⟨rfl, hbG⟩; have HOx := Lib.hid (HOx.out.pure hbG); have HX := Lib.hid (HX.out.trans (hbG.mono HX.out.size)); have HOg := Lib.hid (HOg.out.pure hbG); clear hbG))
    have hkt : ¬ nxTs 1 ts < 0 := by have := (nxTs_bd ts 1 HFt.out.2).1; omega
    go_upto_region 14 with (go_at_call 27; refine (markThingS_o HOx.out HFt.out).mono ?_; rintro e wH ⟨rfl, hgH⟩; have HX := Lib.hid (HX.out.trans (hgH.below HX.out.size (fun b hb h => by omega))); have HOg := Lib.hid (HOg.out.chg hgH (fun b h1 h => by omega)); clear hgH)
    have hku : ¬ nxSS 1 a2 < 0 := by have := (nxSS_bd a2 1 Har.out).1; omega
    go_upto_region 17 with (go_at_call 26; refine (eqRightSS_s HOg.out.at' (HS0.out.pure HX.out) (by omega)).mono ?_; rintro e wI ⟨rfl, hbI⟩; have HX := Lib.hid (HX.out.trans (hbI.mono HX.out.size)); have HOg := Lib.hid (HOg.out.pure hbI); clear hbI)
    go_upto_region 19 with (go_at_call 28; refine (markRightSS_c HOg.out hal Har.out).mono ?_; rintro e wJ ⟨rfl, hOg, hgJ⟩; have HX := Lib.hid (HX.out.trans (hgJ.below HX.out.size (fun b hb h => by omega))); have HTg := Lib.hid hOg.at'; clear hOg hgJ)
    go_upto_region 24 with (go_at_call 29; refine (heldRightSS_c HTg.out hal Har.out).mono ?_; rintro e wK ⟨rfl, hbK⟩; have HX := Lib.hid (HX.out.trans (hbK.mono HX.out.size)); have HTg := Lib.hid (HTg.out.pure hbK); clear hbK)
    go_upto_region 25 with (first
      | (go_at_call 24; refine (toThingS_o (HT.out.pure (HBA.out.trans (HX.out.mono HBA.out.size))) HFt.out).mono ?_; rintro e wL ⟨ql, cl, rfl, hOl, hbL⟩; have HTl := Lib.hid hOl.at'; have HTg := Lib.hid (HTg.out.pure hbL); have HX := Lib.hid (HX.out.trans (hbL.mono HX.out.size)); clear hOl hbL)
      | (go_at_call 13; refine (reachAll_o HTl.out).mono ?_; rintro e wM ⟨qm, cm, a3, tm, rfl, hRA, hOm, hbM⟩; have hvv := hRA.eq HRA.out; subst hvv; have HSm := Lib.hid hOm.at'; have HTg := Lib.hid (HTg.out.pure hbM); have HX := Lib.hid (HX.out.trans (hbM.mono HX.out.size)); clear hbM hOm hRA))
    go_upto_region 27 with (go_at_call 26; refine (eqRightSS_s HSm.out (HS0.out.pure HX.out) (by omega)).mono ?_; rintro e wN ⟨rfl, hbN⟩; have HX := Lib.hid (HX.out.trans (hbN.mono HX.out.size)); have HTg := Lib.hid (HTg.out.pure hbN); clear hbN)
    go_wp2_with (go_at_call 29; refine (heldRightSS_c HTg.out hal Har.out).mono ?_; rintro e wO ⟨rfl, hbO⟩; have HX := Lib.hid (HX.out.trans (hbO.mono HX.out.size)); clear hbO)
    go_ret
    exact ⟨rfl, HBA.out.trans (HX.out.mono HBA.out.size)⟩

end Go.Proofs.YtiolplhgpodifaaGreat
