/- The law that who can come to have a right has it among all, walked. Conditions: the bytes lie where their cells say. -/
import Derived.Test.YtiolplhgpodifaaGreatKd
import Derived.Test.YtiolplhgpodifaaGreatDv
set_option linter.unusedVariables false
set_option linter.unusedSimpArgs false
namespace Go.Proofs.YtiolplhgpodifaaGreat
open Go.RowKit Drw
attribute [local go_sem] Lab.val Rgt.val Cal.val Thg.val

theorem sreachTo_t {p : Option Addr} {cap : Nat} {ts : List Thg} {j : Nat} {k : Int} {wt v : Bool} {a : List (List Rgt)} {w : World} (hT : TabAt w (.slice p ts.length cap) ts) (ht : tabOk ts = true) (hj : j < ts.length) (hk : ex ts k = true) (hI : IsReach ts a) (h : reachB (rowA a j) k wt = v) :
    Calls Tryz.prog 22 #[.slice p ts.length cap, .int .i64 ((j : Int) + 1), .int .i64 k, .bool wt] w fun e w' => e = .returned (.bool v) ∧ Below w.heap.size w w' := by
  refine (sreachTo_yes hT ht hj hk).mono ?_
  rintro e w' ⟨a', hI', rfl, hb⟩
  rw [hI'.eq hI, h]
  exact ⟨rfl, hb⟩

set_option maxRecDepth 100000 in
set_option maxHeartbeats 4000000 in
theorem fnReachTo_c (p : Option Addr) (n cap : Nat) (w : World) (hc : n ≤ cap) (hb : BytesIn w p n) :
    Calls Tryz.prog 9 #[.slice p n cap] w fun e w' => e = .returned (.bool true) ∧ Below w.heap.size w w' := by
  by_cases hbig : n ≤ 1048576
  · have hle : ¬ (1048576 : Int) < (n : Int) := by omega
    have Hb := Lib.hid hb
    clear hb
    go_enter Tryz.func9, Tryz.ntmps9
    go_upto_region 4 with (go_at_call 21; refine (drawReachTo_c p n cap _ hc Hb.out (by omega)).mono ?_; rintro e w1 ⟨q, k, ts, j, m, wt, rfl, hT, hl3, hl8, hj, hm1, hm2, hb1⟩)
    obtain ⟨tk, htk⟩ : ∃ b, tabOk ts = b := ⟨_, rfl⟩
    have Htk := Lib.hid htk
    have HT := Lib.hid hT
    have HB1 := Lib.hid hb1
    have hex : ex ts ((j : Int) + 1) = true := ex_at hj
    clear htk hT hb1 Hb
    by_cases hok : tk = true ∧ m ≤ (ts.length : Int)
    · obtain ⟨rfl, hml⟩ := hok
      have hek : ex ts m = true := by rw [ex_iff]; omega
      have hnm : ¬ (ts.length : Int) < m := by omega
      go_upto_region 7 with (first
        | (go_at_call 20; refine (reachTo_yes HT.out Htk.out hj hek).mono ?_; intro e w2 hto; obtain ⟨a, hI, he, hb2⟩ : ToldTo ts j m wt w1 e w2 := hto; subst he; obtain ⟨v, hv⟩ : ∃ v, reachB (rowA a j) m wt = v := ⟨_, rfl⟩; rw [hv]; have Hv := Lib.hid hv; have HI := Lib.hid hI; have hz2 := hb2.size; have Hb2 := Lib.hid hb2; clear hb2 hv hI)
        | (go_at_call 22; with_reducible refine (sreachTo_t (HT.out.pure Hb2.out) Htk.out hj hek HI.out Hv.out).mono ?_; rintro e w3 ⟨rfl, hb3⟩; have hz3 := hb3.size; have Hb3 := Lib.hid hb3; clear hb3)
        | (go_at_call 15; refine (stableOk_u (HT.out.pure (Hb2.out.trans (Hb3.out.mono hz2))) Htk.out).mono ?_; rintro e w4 ⟨rfl, hb4⟩; have hz4 := hb4.size; have Hb4 := Lib.hid hb4; clear hb4))
      have hB4 : Below w1.heap.size w1 w4 := Hb2.out.trans ((Hb3.out.trans (Hb4.out.mono hz3)).mono hz2)
      have HT4 := Lib.hid (HT.out.pure hB4)
      have HB4 := Lib.hid (HB1.out.trans (hB4.mono HB1.out.size))
      have hw1 := wrap1 (i := j) (by omega)
      have hw2 : IntKind.i64.wrap (j : Int) = (j : Int) := IntWalk.i64_in _ (by omega)
      have hj0 : (0 : Int) ≤ (j : Int) := by omega
      have hac := HI.out.len
      clear hB4 hnm
      go_wp2_with (go_at_call 13; refine (reachAll_yes HT4.out Htk.out).mono ?_; rintro e w5 ⟨A, c, a', rfl, hI', hA, hb5⟩; obtain rfl : a' = a := hI'.eq HI.out; have hja : (j : Int) < (a'.length : Int) := (by omega); obtain ⟨l, hl⟩ : ∃ l, rowA a' j = l := ⟨_, rfl⟩; obtain ⟨qa, ca, g0, hG, hg1, hg2⟩ := all_at hA (show j < a'.length by omega); rw [hl] at g0 hG hg1; have hll : l.length ≤ 384 := (by rw [← hl]; exact reach_row_len Htk.out hI' j hj); have HG := Lib.hid hG; have HL := Lib.hid hl; have HB5 := Lib.hid (HB4.out.trans (hb5.mono HB4.out.size)); clear hl hI' hA hb5 hG)
      unfold maxLen at hg2
      clear g0
      go_loopw [9, 10] (fun s9 s10 wr => ∃ i : Nat, s10 = .int .i64 (i : Int) ∧ s9 = .bool (reachB (l.take i) m wt) ∧ i ≤ l.length ∧ Below w5.heap.size w5 wr) (fun _ s10 _ => l.length - (intOf s10).toNat)
      case atStart => exact ⟨0, rfl, rfl, by omega, Below.refl _ _⟩
      case round =>
        obtain ⟨i, rfl, rfl, hi, hB⟩ := hrel
        have HB := Lib.hid hB
        by_cases hlt : i < l.length
        · have hi0 : (0 : Int) ≤ (i : Int) := by omega
          have hiu : (i : Int) < (l.length : Int) := by omega
          obtain ⟨r, hr⟩ : ∃ r, l[i]? = some r := ⟨_, List.getElem?_eq_getElem hlt⟩
          obtain ⟨b, o, rfl, hbl, y0, y1, y2, y3, y4⟩ := (HG.out.pure hB).at i r hr
          have Hn := Lib.hid (reach_next hr m wt)
          obtain ⟨cc, hcc⟩ : ∃ cc, reachB (l.take i) m wt = cc := ⟨_, rfl⟩
          rw [hcc] at Hn ⊢
          clear hr hB hcc
          obtain ⟨r1, r2, r3, r4, r5⟩ := r
          dsimp only at y0 y1 y2 y3 y4 Hn
          cases cc
          · cases hk1 : (r1 == m)
            · rw [hk1] at Hn
              go_wp2
              exact ⟨⟨i + 1, by go_num, by rw [Hn.out]; rfl, by omega, HB.out⟩, by simp [intOf]; omega⟩
            · rw [hk1] at Hn
              cases wt
              · cases r3
                · go_wp2
                  exact ⟨⟨i + 1, by go_num, by rw [Hn.out]; rfl, by omega, HB.out⟩, by simp [intOf]; omega⟩
                · go_wp2
                  exact ⟨⟨i + 1, by go_num, by rw [Hn.out]; rfl, by omega, HB.out⟩, by simp [intOf]; omega⟩
              · cases r4
                · go_wp2
                  exact ⟨⟨i + 1, by go_num, by rw [Hn.out]; rfl, by omega, HB.out⟩, by simp [intOf]; omega⟩
                · go_wp2
                  exact ⟨⟨i + 1, by go_num, by rw [Hn.out]; rfl, by omega, HB.out⟩, by simp [intOf]; omega⟩
          · go_wp2
            exact ⟨⟨i + 1, by go_num, by rw [Hn.out]; rfl, by omega, HB.out⟩, by simp [intOf]; omega⟩
        · have hnl : ¬ (i : Int) < (l.length : Int) := by omega
          obtain rfl : i = l.length := by omega
          have hvv : reachB (l.take l.length) m wt = v := by rw [List.take_length, ← HL.out]; exact Hv.out
          rw [hvv]
          clear hvv hB
          cases v
          · go_wp2
            go_ret
            exact ⟨rfl, HB5.out.trans (HB.out.mono HB5.out.size)⟩
          · go_wp2
            go_ret
            exact ⟨rfl, HB5.out.trans (HB.out.mono HB5.out.size)⟩
    · have hno : (tabOk ts && ex ts ((j : Int) + 1) && ex ts m) = false := by
        rw [Htk.out, hex, Bool.and_true]
        cases tk
        · rfl
        · have h2 : ¬ m ≤ (ts.length : Int) := fun h => hok ⟨rfl, h⟩
          cases he : ex ts m
          · rfl
          · have := ex_iff.1 he; omega
      cases tk
      · go_wp2_with (first
          | (go_at_call 20; with_reducible refine (reachTo_no HT.out hno).mono ?_; rintro e w2 ⟨rfl, hb2⟩; have hz2 := hb2.size; have Hb2 := Lib.hid hb2; clear hb2)
          | (go_at_call 22; with_reducible refine (sreachTo_no (HT.out.pure Hb2.out) hno).mono ?_; rintro e w3 ⟨rfl, hb3⟩; have hz3 := hb3.size; have Hb3 := Lib.hid (Hb2.out.trans (hb3.mono hz2)); clear hb3)
          | (go_at_call 15; refine (stableOk_u (HT.out.pure Hb3.out) Htk.out).mono ?_; rintro e w4 ⟨rfl, hb4⟩; have hz4 := hb4.size; have Hb4 := Lib.hid (Hb3.out.trans (hb4.mono Hb3.out.size)); clear hb4)
          | (go_at_call 22; with_reducible refine (sreachTo_no (HT.out.pure Hb4.out) hno).mono ?_; rintro e w5 ⟨rfl, hb5⟩; have Hb5 := Lib.hid (Hb4.out.trans (hb5.mono Hb4.out.size)); clear hb5))
        go_ret
        exact ⟨rfl, HB1.out.trans (Hb5.out.mono HB1.out.size)⟩
      · have hgt : (ts.length : Int) < m := by
          have h2 : ¬ m ≤ (ts.length : Int) := fun h => hok ⟨rfl, h⟩
          omega
        clear hok
        go_wp2_with (first
          | (go_at_call 20; with_reducible refine (reachTo_no HT.out hno).mono ?_; rintro e w2 ⟨rfl, hb2⟩; have hz2 := hb2.size; have Hb2 := Lib.hid hb2; clear hb2)
          | (go_at_call 22; with_reducible refine (sreachTo_no (HT.out.pure Hb2.out) hno).mono ?_; rintro e w3 ⟨rfl, hb3⟩; have hz3 := hb3.size; have Hb3 := Lib.hid (Hb2.out.trans (hb3.mono hz2)); clear hb3)
          | (go_at_call 15; refine (stableOk_u (HT.out.pure Hb3.out) Htk.out).mono ?_; rintro e w4 ⟨rfl, hb4⟩; have hz4 := hb4.size; have Hb4 := Lib.hid (Hb3.out.trans (hb4.mono Hb3.out.size)); clear hb4)
          | (go_at_call 22; with_reducible refine (sreachTo_no (HT.out.pure Hb4.out) hno).mono ?_; rintro e w5 ⟨rfl, hb5⟩; have Hb5 := Lib.hid (Hb4.out.trans (hb5.mono Hb4.out.size)); clear hb5))
        go_ret
        exact ⟨rfl, HB1.out.trans (Hb5.out.mono HB1.out.size)⟩
  · have hgt : (1048576 : Int) < (n : Int) := by omega
    clear hbig hb
    go_enter Tryz.func9, Tryz.ntmps9
    go_wp2
    go_ret
    exact ⟨rfl, (by (repeat (with_reducible first | exact Below.refl _ _ | refine Below.alloc ?_ ?_ _ | refine below_drewN ?_ _ | refine Below.drew ?_ | refine Below.setCell ?_ ?_ _ | refine Below.trans ?_ (Below.mono (by assumption) ?_))) <;> (first | omega | (simp; try omega)))⟩
end Go.Proofs.YtiolplhgpodifaaGreat
