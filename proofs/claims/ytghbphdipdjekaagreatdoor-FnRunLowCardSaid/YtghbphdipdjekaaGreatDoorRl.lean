/- The law that just those of whom one may know are left, walked. Conditions: the bytes lie where their cells say; errors.errorType is laid. -/
import Derived.Test.YtghbphdipdjekaaGreatDoorLg
import Derived.Test.YtghbphdipdjekaaGreatDoorRu
import Derived.Test.YtghbphdipdjekaaGreatDoorVh
set_option linter.unusedVariables false
set_option linter.unusedSimpArgs false
namespace Go.Proofs.YtghbphdipdjekaaGreatDoor
open Go.RowKit Drw
attribute [local go_sem] Lab.val Rgt.val Cal.val Thg.val

theorem neq_cal_no (a b c d e : Int) (w : World) : (binOp .neq 37 (.agg #[.int .i64 a, .int .i64 b, .int .i64 c, .int .i64 d, .int .i64 e]) (.agg #[.int .i64 a, .int .i64 b, .int .i64 c, .int .i64 d, .int .i64 e])).run Tryz.prog w = .ok (.bool false) w := by
  simp [go_sem]
attribute [local go_sem 5000] neq_cal_no

theorem filter_at {α : Type} {f : α → Bool} {l : List α} {i : Nat} {x : α} (hx : l[i]? = some x) (hf : f x = true) : (l.filter f)[((l.take i).filter f).length]? = some x := by
  have h := List.take_append_drop i l
  have hd : l.drop i = x :: l.drop (i + 1) := by
    obtain ⟨h1, h2⟩ := List.getElem?_eq_some_iff.1 hx
    rw [List.drop_eq_getElem_cons h1, h2]
  have e : l.filter f = (l.take i).filter f ++ (x :: l.drop (i + 1)).filter f := by rw [← hd, ← List.filter_append, h]
  rw [e, List.getElem?_append_right (Nat.le_refl _), Nat.sub_self, List.filter_cons, if_pos hf]
  rfl
theorem runLow_yes {ts : List Thg} {cs : List Cal} {l : Lab} (hc : runCan ts cs = true) (hl : labOk l = true) : runLow ts cs l = cs.filter (fun c => flow (getT ts c.run).lab l) := by simp [runLow, hc, hl]
theorem runLow_no {ts : List Thg} {cs : List Cal} {l : Lab} (hc : runCan ts cs = false) : runLow ts cs l = [] := by simp [runLow, hc]
theorem runLow_max {ts : List Thg} {cs : List Cal} (hc : runCan ts cs = true) : runLow ts cs ⟨3, 0⟩ = cs := by
  rw [runLow_yes hc (by decide), List.filter_eq_self]
  intro c hm
  have h1 := runCan_iff.1 hc
  have h2 := tab_thgOk h1.1 (h1.2.2 c hm).ex
  simp only [thgOk, Bool.and_eq_true] at h2
  have h3 := h2.1.1.1.1.1.2
  simp only [labOk, inR, Bool.and_eq_true, decide_eq_true_eq] at h3
  simp only [flow, flow1, subM, labOk, inR, Bool.and_eq_true, decide_eq_true_eq]
  omega

theorem runLow_t {p : Option Addr} {cap : Nat} {ts : List Thg} {q : Option Addr} {c2 : Nat} {cs ls : List Cal} {l : Lab} {w : World} (hT : TabAt w (.slice p ts.length cap) ts) (hC : CalsAt w (.slice q cs.length c2) cs) (h : runLow ts cs l = ls) :
    Calls Tryz.prog 17 #[.slice p ts.length cap, .slice q cs.length c2, l.val] w fun e w' => ∃ q' k, e = .returned (.slice q' ls.length k) ∧ CalsAt w' (.slice q' ls.length k) ls ∧ Below w.heap.size w w' := by
  subst h; exact runLow_c p cap ts q c2 cs l w hT hC
theorem srunLow_t {p : Option Addr} {cap : Nat} {ts : List Thg} {q : Option Addr} {c2 : Nat} {cs ls : List Cal} {l : Lab} {w : World} (hT : TabAt w (.slice p ts.length cap) ts) (hC : CalsAt w (.slice q cs.length c2) cs) (h : runLow ts cs l = ls) :
    Calls Tryz.prog 18 #[.slice p ts.length cap, .slice q cs.length c2, l.val] w fun e w' => ∃ q' k, e = .returned (.slice q' ls.length k) ∧ Below w.heap.size w w' := by
  subst h
  refine (srunLow_c p cap ts q c2 cs l w hT hC).mono ?_
  rintro e w' ⟨q', k, rfl, -, h⟩
  exact ⟨q', k, rfl, h⟩
set_option maxRecDepth 100000 in
set_option maxHeartbeats 4000000 in
theorem fnRunLow_c (p : Option Addr) (n cap : Nat) (w : World) (hL : Laid w) (hc : n ≤ cap) (hb : BytesAt w p n) :
    Calls Tryz.prog 3 #[.slice p n cap] w fun e w' => e = .returned (.bool true) ∧ Below w.heap.size w w' := by
  by_cases hbig : n ≤ 1048576
  · have hle : ¬ (1048576 : Int) < (n : Int) := by omega
    have Hb := Lib.hid hb
    have HL := Lib.hid hL
    clear hb hL
    go_enter Tryz.func3, Tryz.ntmps3
    go_upto_region 3 with (fail)
    go_cut [3, 4, 5] (fun s3 s4 s5 wz => ∃ (q : Option Addr) (k : Nat) (ts : List Thg) (q2 : Option Addr) (k2 : Nat) (cs : List Cal) (ls lv : Int) (D : Nat), s3 = .slice q ts.length k ∧ s4 = .slice q2 cs.length k2 ∧ s5 = .pointer (some ⟨D, 0, none⟩) ∧ (wz.cell? ⟨D, 0, none⟩ = some (.int .i64 ls) ∧ wz.cell? ⟨D, 1, none⟩ = some (.int .i64 lv)) ∧ TabAt wz (.slice q ts.length k) ts ∧ CalsAt wz (.slice q2 cs.length k2) cs ∧ 3 ≤ ts.length ∧ ts.length ≤ 8 ∧ cs.length ≤ 25 ∧ Below w.heap.size w wz)
    case first =>
      go_wp2_with (go_at_call 16; refine (drawRunLow_c p n cap _ hc Hb.out (by omega)).mono ?_; rintro e w1 ⟨q, k, ts, q2, k2, cs, ⟨ls, lv⟩, rfl, hTC, hl3, hl8, hcl, hb1⟩)
      go_meet
      obtain ⟨hT, hC⟩ := hTC (fun _ => False) w1 (Chg.refl _ _) (fun _ _ h => h)
      have hz1 := hb1.size
      exact ⟨q, k, ts, q2, k2, cs, ls, lv, _, rfl, rfl, rfl, by simp [go_sem], hT.pure (by (repeat (with_reducible first | exact Below.refl _ _ | refine Below.alloc ?_ ?_ _ | refine below_drewN ?_ _ | refine Below.drew ?_ | refine Below.setCell ?_ ?_ _ | refine Below.trans ?_ (Below.mono (by assumption) ?_))) <;> (first | omega | (simp; try omega))), hC.pure (by (repeat (with_reducible first | exact Below.refl _ _ | refine Below.alloc ?_ ?_ _ | refine below_drewN ?_ _ | refine Below.drew ?_ | refine Below.setCell ?_ ?_ _ | refine Below.trans ?_ (Below.mono (by assumption) ?_))) <;> (first | omega | (simp; try omega))), hl3, hl8, hcl, (by (repeat (with_reducible first | exact Below.refl _ _ | refine Below.alloc ?_ ?_ _ | refine below_drewN ?_ _ | refine Below.drew ?_ | refine Below.setCell ?_ ?_ _ | refine Below.trans ?_ (Below.mono (by assumption) ?_))) <;> (first | omega | (simp; try omega)))⟩
    case rest =>
      obtain ⟨q, k, ts, q2, k2, cs, ls, lv, D, rfl, rfl, rfl, ⟨g0, g1⟩, hT, hC, hl3, hl8, hcl, hB⟩ := hcut
      obtain ⟨wa, rfl⟩ : ∃ wy : World, wy = wc := ⟨_, rfl⟩
      have hDs := World.block_lt_of_cell? _ _ g0
      have hL := HL.out.pure hB
      have HB := Lib.hid hB
      have hz0 := hB.size
      have HG := Lib.hid (show ∀ w', Below wa.heap.size wa w' → (w'.cell? ⟨D, 0, none⟩ = some (.int .i64 ls) ∧ w'.cell? ⟨D, 1, none⟩ = some (.int .i64 lv)) from fun w' h => by
        obtain ⟨hc', -⟩ := bcell h
        exact ⟨(hc' _ _ hDs).trans g0, (hc' _ _ hDs).trans g1⟩)
      obtain ⟨li, hli⟩ : ∃ li, runLow ts cs ⟨ls, lv⟩ = li := ⟨_, rfl⟩
      have Hli := Lib.hid hli
      have HT := Lib.hid hT
      have HC := Lib.hid hC
      have HLa := Lib.hid hL
      clear hli hT hC hL hB HL Hb
      go_upto_region 5 with (first
        | (go_at_call 17; refine (runLow_t (l := ⟨_, _⟩) (HT.out.pure (by (repeat (with_reducible first | exact Below.refl _ _ | refine Below.alloc ?_ ?_ _ | refine below_drewN ?_ _ | refine Below.drew ?_ | refine Below.setCell ?_ ?_ _ | refine Below.trans ?_ (Below.mono (by assumption) ?_))) <;> (first | omega | (simp; try omega)))) (HC.out.pure (by (repeat (with_reducible first | exact Below.refl _ _ | refine Below.alloc ?_ ?_ _ | refine below_drewN ?_ _ | refine Below.drew ?_ | refine Below.setCell ?_ ?_ _ | refine Below.trans ?_ (Below.mono (by assumption) ?_))) <;> (first | omega | (simp; try omega)))) Hli.out).mono ?_; rintro e w2 ⟨pi, ki, rfl, hI, hb2⟩))
      have hz2 := hb2.size
      obtain ⟨g0', g1'⟩ := HG.out _ hb2
      have HI := Lib.hid hI
      have Hb2 := Lib.hid hb2
      clear g0 g1 hI
      go_upto_region 6 with (first
        | (go_at_call 18; refine (srunLow_t (l := ⟨_, _⟩) (HT.out.pure (by (repeat (with_reducible first | exact Below.refl _ _ | refine Below.alloc ?_ ?_ _ | refine below_drewN ?_ _ | refine Below.drew ?_ | refine Below.setCell ?_ ?_ _ | refine Below.trans ?_ (Below.mono (by assumption) ?_))) <;> (first | omega | (simp; try omega)))) (HC.out.pure (by (repeat (with_reducible first | exact Below.refl _ _ | refine Below.alloc ?_ ?_ _ | refine below_drewN ?_ _ | refine Below.drew ?_ | refine Below.setCell ?_ ?_ _ | refine Below.trans ?_ (Below.mono (by assumption) ?_))) <;> (first | omega | (simp; try omega)))) Hli.out).mono ?_; rintro e w3 ⟨pw, kw, rfl, hb3⟩))
      have hb13 := Hb2.out.trans (hb3.mono hz2)
      obtain ⟨g0, g1⟩ := HG.out _ hb13
      have HI3 := Lib.hid (HI.out.pure hb3)
      have hz3 := hb13.size
      have Hb3 := Lib.hid hb13
      have HB3 := Lib.hid (HB.out.trans (hb13.mono hz0))
      have HT3 := Lib.hid (HT.out.pure hb13)
      have HC3 := Lib.hid (HC.out.pure hb13)
      have HL3 := Lib.hid (HLa.out.pure hb13)
      have hz03 := HB3.out.size
      have HG3 := Lib.hid (show ∀ w', Below w3.heap.size w3 w' → (w'.cell? ⟨D, 0, none⟩ = some (.int .i64 ls) ∧ w'.cell? ⟨D, 1, none⟩ = some (.int .i64 lv)) from fun w' h => HG.out _ (Hb3.out.trans (h.mono hz3)))
      clear g0' g1' hb2 hb3 hb13 hz2 HI HB HT HC HLa
      obtain ⟨tok, htok⟩ : ∃ b, tabOk ts = b := ⟨_, rfl⟩
      obtain ⟨lok, hlok⟩ : ∃ b, labOk ⟨ls, lv⟩ = b := ⟨_, rfl⟩
      have Htok := Lib.hid htok
      have Hlok := Lib.hid hlok
      clear htok hlok
      cases tok
      · go_wp2_with (first
          | (go_at_call 19; refine (stableOk_t (HT3.out.pure (by (repeat (with_reducible first | exact Below.refl _ _ | refine Below.alloc ?_ ?_ _ | refine below_drewN ?_ _ | refine Below.drew ?_ | refine Below.setCell ?_ ?_ _ | refine Below.trans ?_ (Below.mono (by assumption) ?_))) <;> (first | omega | (simp; try omega)))) Htok.out).mono ?_; rintro e w4 ⟨rfl, hb4⟩))
        go_ret
        exact ⟨rfl, HB3.out.trans (Below.mono (show Below w3.heap.size w3 _ from (by (repeat (with_reducible first | exact Below.refl _ _ | refine Below.alloc ?_ ?_ _ | refine below_drewN ?_ _ | refine Below.drew ?_ | refine Below.setCell ?_ ?_ _ | refine Below.trans ?_ (Below.mono (by assumption) ?_))) <;> (first | omega | (simp; try omega)))) hz03)⟩
      · cases lok
        · go_wp2_with (first
            | (go_at_call 19; refine (stableOk_t (HT3.out.pure (by (repeat (with_reducible first | exact Below.refl _ _ | refine Below.alloc ?_ ?_ _ | refine below_drewN ?_ _ | refine Below.drew ?_ | refine Below.setCell ?_ ?_ _ | refine Below.trans ?_ (Below.mono (by assumption) ?_))) <;> (first | omega | (simp; try omega)))) Htok.out).mono ?_; rintro e w4 ⟨rfl, hb4⟩; have hz4 := hb4.size; obtain ⟨f0, f1⟩ := HG3.out _ hb4)
            | (go_at_call 20; refine (slabelOk_t (l := ⟨_, _⟩) Hlok.out).mono ?_; rintro e w5 ⟨rfl, hb5⟩))
          go_ret
          exact ⟨rfl, HB3.out.trans (Below.mono (show Below w3.heap.size w3 _ from (by (repeat (with_reducible first | exact Below.refl _ _ | refine Below.alloc ?_ ?_ _ | refine below_drewN ?_ _ | refine Below.drew ?_ | refine Below.setCell ?_ ?_ _ | refine Below.trans ?_ (Below.mono (by assumption) ?_))) <;> (first | omega | (simp; try omega)))) hz03)⟩
        · obtain ⟨us, zs, rok, hrun⟩ : ∃ us zs rok, runAll ts cs = (us, zs, rok) := ⟨_, _, _, rfl⟩
          have Hrun := Lib.hid hrun
          have hrc : runCan ts cs = rok := by
            unfold runAll at hrun
            split at hrun
            · cases hrun; assumption
            · cases hrun; rename_i h; simpa using h
          clear hrun
          go_upto_region 8 with (first
            | (go_at_call 19; refine (stableOk_t (HT3.out.pure (by (repeat (with_reducible first | exact Below.refl _ _ | refine Below.alloc ?_ ?_ _ | refine below_drewN ?_ _ | refine Below.drew ?_ | refine Below.setCell ?_ ?_ _ | refine Below.trans ?_ (Below.mono (by assumption) ?_))) <;> (first | omega | (simp; try omega)))) Htok.out).mono ?_; rintro e w4 ⟨rfl, hb4⟩; have hz4 := hb4.size; obtain ⟨f0, f1⟩ := HG3.out _ hb4)
            | (go_at_call 20; refine (slabelOk_t (l := ⟨_, _⟩) Hlok.out).mono ?_; rintro e w5 ⟨rfl, hb5⟩; have hz5 := hb5.size))
          have hb35 : Below w3.heap.size w3 w5 := hb4.trans (hb5.mono hz4)
          have Hb35 := Lib.hid hb35
          have hz35 := hb35.size
          clear hb4 hb5 hz4 hz5 f0 f1 g0 g1
          cases rok
          · have hli : li = [] := by rw [← Hli.out]; exact runLow_no hrc
            subst hli
            go_wp2_with (first
              | (go_at_call 21; refine (runAll_t (HL3.out.pure (by (repeat (with_reducible first | exact Below.refl _ _ | refine Below.alloc ?_ ?_ _ | refine below_drewN ?_ _ | refine Below.drew ?_ | refine Below.setCell ?_ ?_ _ | refine Below.trans ?_ (Below.mono (by assumption) ?_))) <;> (first | omega | (simp; try omega)))) (HT3.out.pure (by (repeat (with_reducible first | exact Below.refl _ _ | refine Below.alloc ?_ ?_ _ | refine below_drewN ?_ _ | refine Below.drew ?_ | refine Below.setCell ?_ ?_ _ | refine Below.trans ?_ (Below.mono (by assumption) ?_))) <;> (first | omega | (simp; try omega)))) (HC3.out.pure (by (repeat (with_reducible first | exact Below.refl _ _ | refine Below.alloc ?_ ?_ _ | refine below_drewN ?_ _ | refine Below.drew ?_ | refine Below.setCell ?_ ?_ _ | refine Below.trans ?_ (Below.mono (by assumption) ?_))) <;> (first | omega | (simp; try omega)))) Hrun.out).mono ?_; rintro e w6 ⟨px, kx, px2, kx2, rfl, -, -, hb6⟩))
            go_ret
            exact ⟨rfl, HB3.out.trans (Below.mono (Hb35.out.trans (hb6.mono hz35)) hz03)⟩
          · have hlr : labOk ⟨ls, lv⟩ = true := Hlok.out
            have hfi : cs.filter (fun c => flow (getT ts c.run).lab ⟨ls, lv⟩) = li := by rw [← Hli.out]; exact (runLow_yes hrc hlr).symm
            have Hfi := Lib.hid hfi
            have Hrc := Lib.hid hrc
            clear hfi hrc hlr
            go_upto_region 9 with (first
              | (go_at_call 21; refine (runAll_t (HL3.out.pure (by (repeat (with_reducible first | exact Below.refl _ _ | refine Below.alloc ?_ ?_ _ | refine below_drewN ?_ _ | refine Below.drew ?_ | refine Below.setCell ?_ ?_ _ | refine Below.trans ?_ (Below.mono (by assumption) ?_))) <;> (first | omega | (simp; try omega)))) (HT3.out.pure (by (repeat (with_reducible first | exact Below.refl _ _ | refine Below.alloc ?_ ?_ _ | refine below_drewN ?_ _ | refine Below.drew ?_ | refine Below.setCell ?_ ?_ _ | refine Below.trans ?_ (Below.mono (by assumption) ?_))) <;> (first | omega | (simp; try omega)))) (HC3.out.pure (by (repeat (with_reducible first | exact Below.refl _ _ | refine Below.alloc ?_ ?_ _ | refine below_drewN ?_ _ | refine Below.drew ?_ | refine Below.setCell ?_ ?_ _ | refine Below.trans ?_ (Below.mono (by assumption) ?_))) <;> (first | omega | (simp; try omega)))) Hrun.out).mono ?_; rintro e w6 ⟨px, kx, px2, kx2, rfl, -, -, hb6⟩))
            have hb36 : Below w3.heap.size w3 w6 := Hb35.out.trans (hb6.mono hz35)
            obtain ⟨wx, rfl⟩ : ∃ wy : World, wy = w6 := ⟨_, rfl⟩
            have HB6 := Lib.hid (HB3.out.trans (hb36.mono hz03))
            have HT6 := Lib.hid (HT3.out.pure hb36)
            have HC6 := Lib.hid (HC3.out.pure hb36)
            have HI6 := Lib.hid (HI3.out.pure hb36)
            have hz6 := HB6.out.size
            obtain ⟨m0, m1⟩ := HG3.out _ hb36
            have hDx := Nat.lt_of_lt_of_le (Nat.lt_of_lt_of_le hDs hz3) hb36.size
            have HG6 := Lib.hid (show ∀ w', Below wx.heap.size wx w' → (w'.cell? ⟨D, 0, none⟩ = some (.int .i64 ls) ∧ w'.cell? ⟨D, 1, none⟩ = some (.int .i64 lv)) from fun w' h => by
              obtain ⟨hc', -⟩ := bcell h
              exact ⟨(hc' _ _ hDx).trans m0, (hc' _ _ hDx).trans m1⟩)
            clear hb6 hb36 m0 m1
            go_wp2
            go_loopw [11, 12] (fun s11 s12 wr => ∃ i : Nat, s12 = .int .i64 (i : Int) ∧ i ≤ cs.length ∧ s11 = .int .i64 ((((cs.take i).filter (fun c => flow (getT ts c.run).lab ⟨ls, lv⟩)).length : Nat) : Int) ∧ Below wx.heap.size wx wr) (fun _ s12 _ => cs.length - (intOf s12).toNat)
            case atStart => exact ⟨0, rfl, by omega, by simp, Below.refl _ _⟩
            case round =>
              obtain ⟨i, rfl, hi, rfl, hBr⟩ := hrel
              obtain ⟨wr', rfl⟩ : ∃ wy : World, wy = wr := ⟨_, rfl⟩
              obtain ⟨k11, hk11⟩ : ∃ k11, ((cs.take i).filter (fun c => flow (getT ts c.run).lab ⟨ls, lv⟩)).length = k11 := ⟨_, rfl⟩
              rw [hk11]
              have Hk := Lib.hid hk11
              have HBr := Lib.hid hBr
              have hzr := hBr.size
              clear hk11
              by_cases hlt : i < cs.length
              · obtain ⟨c, hc⟩ : ∃ c, cs[i]? = some c := ⟨_, List.getElem?_eq_getElem hlt⟩
                obtain ⟨b, o, rfl, hb, c0, c1, c2', c3, c4⟩ := (HC6.out.pure HBr.out).at i c hc
                obtain ⟨v, hv⟩ : ∃ v, flow (getT ts c.run).lab ⟨ls, lv⟩ = v := ⟨_, rfl⟩
                have Hex := Lib.hid (((runCan_iff.1 Hrc.out).2.2 c (List.mem_of_getElem? hc)).ex)
                have hn : ((cs.take (i + 1)).filter (fun c => flow (getT ts c.run).lab ⟨ls, lv⟩)).length = if v then k11 + 1 else k11 := by
                  rw [filter_take hc, List.length_append, Hk.out]
                  simp only [hv]
                  cases v <;> rfl
                have hat : v = true → li[k11]? = some c := by
                  intro h
                  have := filter_at (f := fun c => flow (getT ts c.run).lab ⟨ls, lv⟩) hc (by simp only [hv, h])
                  rwa [Hk.out, Hfi.out] at this
                have hk25 : k11 ≤ i := by rw [← Hk.out]; exact filter_le' _ cs i
                have Hn := Lib.hid hn
                have Hat := Lib.hid hat
                have Hv := Lib.hid hv
                have hj0 : (0 : Int) ≤ (i : Int) := by omega
                have hju : (i : Int) < (cs.length : Int) := by omega
                obtain ⟨k0, k1, k2, k3, k4⟩ := c
                dsimp only at c0 c1 c2' c3 c4
                clear hv hc hBr hn hat
                obtain ⟨m0, m1⟩ := HG6.out _ HBr.out
                have hDr := Nat.lt_of_lt_of_le hDx hzr
                have HS := Lib.hid (show ∀ w' : World, Below wr'.heap.size wr' w' → (Below wr'.heap.size wr' w' ∧ w'.cell? ⟨b, o + i * 5 + 1, none⟩ = some (.int .i64 k1) ∧ w'.cell? ⟨D, 0, none⟩ = some (.int .i64 ls) ∧ w'.cell? ⟨D, 1, none⟩ = some (.int .i64 lv)) from
                  fun w' h => by
                    obtain ⟨hc', -⟩ := bcell h
                    exact ⟨h, (hc' _ _ hb).trans c1, (hc' _ _ hDr).trans m0, (hc' _ _ hDr).trans m1⟩)
                have HT7 := Lib.hid (HT6.out.pure HBr.out)
                have HC7 := Lib.hid (show ∀ w' : World, Below wr'.heap.size wr' w' → (w'.cell? ⟨b, o + i * 5, none⟩ = some (.int .i64 k0) ∧ w'.cell? ⟨b, o + i * 5 + 1, none⟩ = some (.int .i64 k1) ∧ w'.cell? ⟨b, o + i * 5 + 2, none⟩ = some (.int .i64 k2) ∧ w'.cell? ⟨b, o + i * 5 + 3, none⟩ = some (.int .i64 k3) ∧ w'.cell? ⟨b, o + i * 5 + 4, none⟩ = some (.int .i64 k4)) from
                  fun w' h => by
                    obtain ⟨hc', -⟩ := bcell h
                    exact ⟨(hc' _ _ hb).trans c0, (hc' _ _ hb).trans c1, (hc' _ _ hb).trans c2', (hc' _ _ hb).trans c3, (hc' _ _ hb).trans c4⟩)
                clear c0 c1 c2' c3 c4 m0 m1
                go_upto_region 15 with (fail)
                go_cut [75] (fun s75 wz => s75 = .bool (!v) ∧ Below wr'.heap.size wr' wz)
                case first =>
                  first | (go_region_held3 (fun w' => Below wr'.heap.size wr' w' ∧ w'.cell? ⟨b, o + i * 5 + 1, none⟩ = some (.int .i64 k1) ∧ w'.cell? ⟨D, 0, none⟩ = some (.int .i64 ls) ∧ w'.cell? ⟨D, 1, none⟩ = some (.int .i64 lv))
                    (first | assumption | exact HS.out _ (Below.refl _ _) | exact HS.out _ (Below.drew (Below.refl _ _)) | (have hX := And.left (by assumption : Below wr'.heap.size wr' _ ∧ _); exact HS.out _ (hX.trans (hb3.mono hX.size))))
                    (first
                      | (go_at_call 22; refine (viewHigh_t (l := ⟨_, _⟩) (HT7.out.pure (And.left (by assumption : Below wr'.heap.size wr' _ ∧ _))) Htok.out Hlok.out Hex.out Hv.out).mono ?_; rintro e w1 ⟨rfl, hb3⟩))) | fail
                  all_goals (go_wp2; go_meet; exact ⟨rfl, And.left (by assumption : Below wr'.heap.size wr' _ ∧ _)⟩)
                case rest =>
                  obtain ⟨rfl, hBz⟩ := hcut
                  obtain ⟨wz, rfl⟩ : ∃ wy : World, wy = wc := ⟨_, rfl⟩
                  have HBz := Lib.hid (HBr.out.trans (hBz.mono hzr))
                  have hzz := hBz.size
                  cases v
                  · clear hBz
                    go_wp2
                    exact ⟨⟨i + 1, by go_num, by omega, by rw [Hn.out]; rfl, HBz.out⟩, by simp [intOf]; omega⟩
                  · have hat := Hat.out rfl
                    have hkl := (List.getElem?_eq_some_iff.1 hat).1
                    obtain ⟨bi, oi, rfl, hbi, d0, d1, d2, d3, d4⟩ := (HI6.out.pure HBz.out).at k11 _ hat
                    obtain ⟨c0, c1, c2', c3, c4⟩ := HC7.out _ hBz
                    dsimp only at d0 d1 d2 d3 d4
                    have hkk0 : (0 : Int) ≤ (k11 : Int) := by omega
                    have hkku : (k11 : Int) < (li.length : Int) := by omega
                    have hkku' : ¬ (li.length : Int) ≤ (k11 : Int) := by omega
                    clear hat hBz
                    go_upto_region 16 with (fail)
                    go_quiet (fail)
                    go_wp2
                    exact ⟨⟨i + 1, by go_num, by omega, by rw [Hn.out]; first | rfl | go_num, (by first | exact HBz.out | exact below_drewN HBz.out _)⟩, by simp [intOf]; omega⟩
              · have hnl : ¬ (i : Int) < (cs.length : Int) := by omega
                have hk := Hk.out
                rw [show i = cs.length by omega, List.take_length, Hfi.out] at hk
                have HTr := Lib.hid (HT6.out.pure HBr.out)
                have HCr := Lib.hid (HC6.out.pure HBr.out)
                have Hmax := Lib.hid (runLow_max Hrc.out)
                subst hk
                clear hBr
                go_wp2_with (first
                  | (go_at_call 17; refine (runLow_t (l := ⟨_, _⟩) (HTr.out.pure (by (repeat (with_reducible first | exact Below.refl _ _ | refine Below.alloc ?_ ?_ _ | refine below_drewN ?_ _ | refine Below.drew ?_ | refine Below.setCell ?_ ?_ _ | refine Below.trans ?_ (Below.mono (by assumption) ?_))) <;> (first | omega | (simp; try omega)))) (HCr.out.pure (by (repeat (with_reducible first | exact Below.refl _ _ | refine Below.alloc ?_ ?_ _ | refine below_drewN ?_ _ | refine Below.drew ?_ | refine Below.setCell ?_ ?_ _ | refine Below.trans ?_ (Below.mono (by assumption) ?_))) <;> (first | omega | (simp; try omega)))) Hmax.out).mono ?_; rintro e w9 ⟨p9, k9, rfl, -, hb9⟩))
                go_ret
                exact ⟨rfl, HB6.out.trans (Below.mono (HBr.out.trans (hb9.mono hzr)) hz6)⟩
  · have hgt : (1048576 : Int) < (n : Int) := by omega
    clear hbig hb hL
    go_enter Tryz.func3, Tryz.ntmps3
    go_wp2
    go_ret
    exact ⟨rfl, (by (repeat (with_reducible first | exact Below.refl _ _ | refine Below.alloc ?_ ?_ _ | refine below_drewN ?_ _ | refine Below.drew ?_ | refine Below.setCell ?_ ?_ _ | refine Below.trans ?_ (Below.mono (by assumption) ?_))) <;> (first | omega | (simp; try omega)))⟩
end Go.Proofs.YtghbphdipdjekaaGreatDoor
