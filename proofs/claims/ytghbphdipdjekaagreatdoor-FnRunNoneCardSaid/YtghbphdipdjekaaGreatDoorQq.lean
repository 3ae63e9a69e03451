/- The reference's question whether calls are quiet. Conditions: the table and the calls lie where their cells say. -/
import Derived.Test.YtghbphdipdjekaaGreatDoorQb
set_option linter.unusedVariables false
set_option linter.unusedSimpArgs false
namespace Go.Proofs.YtghbphdipdjekaaGreatDoor
open Go.RowKit Drw
attribute [local go_sem] Lab.val Rgt.val Cal.val Thg.val

set_option maxRecDepth 100000 in
set_option maxHeartbeats 4000000 in
theorem srunQuiet_c (p : Option Addr) (cap : Nat) (ts : List Thg) (q : Option Addr) (c2 : Nat) (cs : List Cal) (l : Lab) (w : World) (hT : TabAt w (.slice p ts.length cap) ts) (hC : CalsAt w (.slice q cs.length c2) cs) :
    Calls Tryz.prog 30 #[.slice p ts.length cap, .slice q cs.length c2, l.val] w fun e w' => e = .returned (.bool (runQuiet ts cs l)) ∧ Below w.heap.size w w' := by
  obtain ⟨_, _, h1, hl1, hl2⟩ := hC.len
  cases h1
  unfold maxLen at hl2
  obtain ⟨_, _, h2, hm1, hm2⟩ := hT.len
  cases h2
  unfold maxLen at hm2
  obtain ⟨ls, lv⟩ := l
  obtain ⟨tok, htok⟩ : ∃ b, tabOk ts = b := ⟨_, rfl⟩
  obtain ⟨cok, hcok⟩ : ∃ b, l21 ts cs = b := ⟨_, rfl⟩
  obtain ⟨lok, hlok⟩ : ∃ b, labOk ⟨ls, lv⟩ = b := ⟨_, rfl⟩
  have Htok := Lib.hid htok
  have Hcok := Lib.hid hcok
  have Hlok := Lib.hid hlok
  have Hrun := Lib.hid (show runCan ts cs = (tok && cok) by rw [l21_run, htok, hcok])
  have HT := Lib.hid hT
  have HC := Lib.hid hC
  clear hT hC htok hcok hlok
  by_cases hall : tok = true ∧ cok = true ∧ lok = true
  · obtain ⟨rfl, rfl, rfl⟩ := hall
    have hcan := runCan_iff.1 Hrun.out
    have hr : runQuiet ts cs ⟨ls, lv⟩ = cs.all (quietOne ts ⟨ls, lv⟩) := by unfold runQuiet quietOne; rw [Hrun.out, Hlok.out]; rfl
    rw [hr]
    clear hr
    have h40 : cs.length ≤ 40 := hcan.2.1
    have Hcan := Lib.hid hcan.2.2
    clear hcan
    go_enter Tryz.func30, Tryz.ntmps30
    go_upto_region 1 with (fail)
    generalize hwa : World.alloc _ _ = wa
    have hB0 : Below w.heap.size w wa := by rw [← hwa]; exact (by (repeat (with_reducible first | exact Below.refl _ _ | refine Below.alloc ?_ ?_ _ | refine below_drewN ?_ _ | refine Below.drew ?_ | refine Below.setCell ?_ ?_ _ | refine Below.trans ?_ (Below.mono (by assumption) ?_))) <;> (first | omega | (simp; try omega)))
    have hza' : w.heap.size < wa.heap.size := by rw [← hwa]; simp
    have l0 : wa.cell? ⟨w.heap.size, 0, none⟩ = some (.int .i64 ls) := by rw [← hwa]; simp [go_sem]
    have l1 : wa.cell? ⟨w.heap.size, 1, none⟩ = some (.int .i64 lv) := by rw [← hwa]; simp [go_sem]
    have L0 := Lib.hid l0
    have L1 := Lib.hid l1
    have HB0 := Lib.hid hB0
    clear hwa
    go_upto_region 3 with (first
      | (go_at_call 19; refine (stableOk_t (HT.out.pure HB0.out) Htok.out).mono ?_; rintro e w1 ⟨rfl, hb1⟩; obtain ⟨hc1, hf1⟩ := bcell hb1; have hz1' := hb1.size; have hz1a : w.heap.size < w1.heap.size := (by omega))
      | (go_at_call 59; refine (l21Calls_t ((HT.out.pure HB0.out).pure hb1) ((HC.out.pure HB0.out).pure hb1) Hcok.out).mono ?_; rintro e w2 ⟨rfl, hb2⟩; obtain ⟨hc2, hf2⟩ := bcell hb2; have hz2' := hb2.size)
      | (go_at_call 20; refine (slabelOk_t (l := ⟨_, _⟩) Hlok.out).mono ?_; rintro e w3 ⟨rfl, hb3⟩))
    have hB2 : Below wa.heap.size wa w3 := (hb1.trans (hb2.mono hz1')).trans (hb3.mono (Nat.le_trans hz1' hz2'))
    have HB2 := Lib.hid hB2
    clear l0 l1 hc1 hf1 hb1 hb2 hc2 hf2 hb3 hB2
    go_wp2
    go_loopw [7] (fun s7 wr => ∃ i : Nat, s7 = .int .i64 (i : Int) ∧ i ≤ cs.length ∧ (cs.take i).all (quietOne ts ⟨ls, lv⟩) = true ∧ Below wa.heap.size wa wr) (fun s7 _ => cs.length - (intOf s7).toNat)
    case atStart => exact ⟨0, rfl, by omega, by simp, HB2.out⟩
    case round =>
      obtain ⟨i, rfl, hi, hall, hB⟩ := hrel
      have Hall := Lib.hid hall
      have HB := Lib.hid hB
      clear hall
      have l0 := ((bcell hB).1 _ _ hza').trans L0.out
      have l1 := ((bcell hB).1 _ _ hza').trans L1.out
      have hBw : Below w.heap.size w wr := HB0.out.trans (hB.mono (by omega))
      have HBw := Lib.hid hBw
      have hzr : wa.heap.size ≤ wr.heap.size := hB.size
      have hzwr : w.heap.size < wr.heap.size := by omega
      obtain ⟨wr', rfl⟩ : ∃ wy : World, wy = wr := ⟨_, rfl⟩
      by_cases hlt : i < cs.length
      · obtain ⟨c, hc⟩ : ∃ c, cs[i]? = some c := ⟨_, List.getElem?_eq_getElem hlt⟩
        obtain ⟨b, o, rfl, hb, c0, c1, c2', c3, c4⟩ := (HC.out.pure hBw).at i c hc
        have hcB := Hcan.out c (List.mem_of_getElem? hc)
        obtain ⟨j, hjr, hj⟩ := ex_idx hcB.ex
        obtain ⟨bt, ot, svt, qvt, et, hbt, -, -, -, t1, t2, -⟩ := (HT.out.pure hBw).at j _ hj
        subst et
        have hjl : j < ts.length := (List.getElem?_eq_some_iff.1 hj).1
        obtain ⟨v, hv⟩ : ∃ v, flow (getT ts c.run).lab ⟨ls, lv⟩ = v := ⟨_, rfl⟩
        have hla : labOk (getT ts c.run).lab = true := (thg_parts.1 hcB.thg).2.1
        obtain ⟨⟨a1, a2⟩, ha⟩ : ∃ a, (getT ts c.run).lab = a := ⟨_, rfl⟩
        have Hv := Lib.hid hv
        have Hv2 := Lib.hid (show flow ⟨a1, a2⟩ ⟨ls, lv⟩ = v by rw [← ha]; exact hv)
        have Hla := Lib.hid (show labOk ⟨a1, a2⟩ = true by rw [← ha]; exact hla)
        rw [ha] at t1 t2
        dsimp only at t1 t2
        have Hc := Lib.hid hc
        obtain ⟨k0, k1, k2, k3, k4⟩ := c
        dsimp only at c0 c1 c2' c3 c4 hjr
        subst hjr
        have hj0 : (0 : Int) ≤ (i : Int) := by omega
        have hju : (i : Int) < (cs.length : Int) := by omega
        have hx0 : (0 : Int) ≤ (j : Int) := by omega
        have hxn : (j : Int) < (ts.length : Int) := by omega
        have hw1 : IntKind.i64.wrap ((j : Int) + 1 - 1) = (j : Int) := by rw [show (j : Int) + 1 - 1 = j by omega]; exact IntWalk.i64_in _ (by omega)
        have hw2 : IntKind.i64.wrap (j : Int) = (j : Int) := IntWalk.i64_in _ (by omega)
        by_cases hk9 : k0 = 9
        · subst hk9
          have HS := Lib.hid (show ∀ w' : World, Below wr'.heap.size wr' w' → (Below wr'.heap.size wr' w' ∧ w'.cell? ⟨b, o + i * 5, none⟩ = some (.int .i64 9) ∧ w'.cell? ⟨b, o + i * 5 + 1, none⟩ = some (.int .i64 ((j : Int) + 1)) ∧ w'.cell? ⟨bt, ot + j * 8 + 1, none⟩ = some (.int .i64 a1) ∧ w'.cell? ⟨bt, ot + j * 8 + 2, none⟩ = some (.int .i64 a2) ∧ w'.cell? ⟨w.heap.size, 0, none⟩ = some (.int .i64 ls) ∧ w'.cell? ⟨w.heap.size, 1, none⟩ = some (.int .i64 lv)) from
            fun w' h => by
              obtain ⟨hc', -⟩ := bcell h
              exact ⟨h, (hc' _ _ hb).trans c0, (hc' _ _ hb).trans c1, (hc' _ _ hbt).trans t1, (hc' _ _ hbt).trans t2, (hc' _ _ hzwr).trans l0, (hc' _ _ hzwr).trans l1⟩)
          clear hv hc hcB hj ha hla
          clear hBw hB
          go_upto_region 6 with (fail)
          go_cut [48] (fun s48 wz => s48 = .bool (!v) ∧ Below wr'.heap.size wr' wz)
          case first =>
            first | (go_region_held3 (fun w' => Below wr'.heap.size wr' w' ∧ w'.cell? ⟨b, o + i * 5, none⟩ = some (.int .i64 9) ∧ w'.cell? ⟨b, o + i * 5 + 1, none⟩ = some (.int .i64 ((j : Int) + 1)) ∧ w'.cell? ⟨bt, ot + j * 8 + 1, none⟩ = some (.int .i64 a1) ∧ w'.cell? ⟨bt, ot + j * 8 + 2, none⟩ = some (.int .i64 a2) ∧ w'.cell? ⟨w.heap.size, 0, none⟩ = some (.int .i64 ls) ∧ w'.cell? ⟨w.heap.size, 1, none⟩ = some (.int .i64 lv))
              (first | assumption | exact HS.out _ (Below.drew (Below.refl _ _)) | (have hX := And.left (by assumption : Below wr'.heap.size wr' _ ∧ _); exact HS.out _ (hX.trans (hb3.mono hX.size))))
              (first | (go_at_call 60; refine (l1Flow_t (a := ⟨_, _⟩) (b := ⟨_, _⟩) Hla.out Hlok.out Hv2.out).mono ?_; rintro e w3 ⟨rfl, hb3⟩))) | fail
            all_goals (go_wp2; go_meet; exact ⟨rfl, And.left (by assumption : Below wr'.heap.size wr' _ ∧ _)⟩)
          case rest =>
            obtain ⟨rfl, hBz⟩ := hcut
            obtain ⟨wz, rfl⟩ : ∃ wy : World, wy = wc := ⟨_, rfl⟩
            clear t1 t2 l0 l1 c0 c1 c2' c3 c4
            have hv := Hv.out
            have Hq : Hid (quietOne ts ⟨ls, lv⟩ ⟨9, (j : Int) + 1, k2, k3, k4⟩ = v) := Lib.hid (by simp only [quietOne, hv]; rfl)
            clear hv
            cases v
            · go_wp2
              go_ret
              exact ⟨ret_bool (by rw [all_bad Hc.out Hq.out]), HBw.out.trans (hBz.mono HBw.out.size)⟩
            · go_wp2
              exact ⟨⟨i + 1, by go_num, by omega, all_take Hall.out Hc.out Hq.out, HB.out.trans (hBz.mono hzr)⟩, by simp [intOf]; omega⟩
        · have hk9' : (k0 == 9) = false := by simpa using hk9
          clear hv hc hcB hj ha hla hBw hB t1 t2 l0 l1
          go_upto_region 6 with (fail)
          go_quiet (fail)
          go_wp2
          exact ⟨⟨i + 1, by go_num, by omega, all_take Hall.out Hc.out (by simp [quietOne, hk9]), HB.out.trans (Below.mono (show Below wr'.heap.size wr' _ from (by (repeat (with_reducible first | exact Below.refl _ _ | refine Below.alloc ?_ ?_ _ | refine below_drewN ?_ _ | refine Below.drew ?_ | refine Below.setCell ?_ ?_ _ | refine Below.trans ?_ (Below.mono (by assumption) ?_))) <;> (first | omega | (simp; try omega)))) hzr)⟩, by simp [intOf]; omega⟩
      · have hil : i = cs.length := by omega
        have Hil := Lib.hid hil
        clear hil
        go_wp2
        go_ret
        have h := Hall.out
        rw [Hil.out, List.take_length] at h
        exact ⟨ret_bool h.symm, HBw.out⟩
  · have hr : runQuiet ts cs ⟨ls, lv⟩ = false := by
      unfold runQuiet
      rw [Hrun.out, Hlok.out]
      cases tok <;> cases cok <;> cases lok <;> simp at hall ⊢
    rw [hr]
    clear hr
    cases tok
    · go_enter Tryz.func30, Tryz.ntmps30
      go_wp2_with (first
      | (go_at_call 19; refine (stableOk_t (HT.out.pure (by (repeat (with_reducible first | exact Below.refl _ _ | refine Below.alloc ?_ ?_ _ | refine below_drewN ?_ _ | refine Below.drew ?_ | refine Below.setCell ?_ ?_ _ | refine Below.trans ?_ (Below.mono (by assumption) ?_))) <;> (first | omega | (simp; try omega)))) Htok.out).mono ?_; rintro e w1 ⟨rfl, hb1⟩; obtain ⟨hc1, hf1⟩ := bcell hb1; have hz1 : w.heap.size < w1.heap.size := (by have := hb1.size; simp at this; omega))
      | (go_at_call 59; refine (l21Calls_t (HT.out.pure (by (repeat (with_reducible first | exact Below.refl _ _ | refine Below.alloc ?_ ?_ _ | refine below_drewN ?_ _ | refine Below.drew ?_ | refine Below.setCell ?_ ?_ _ | refine Below.trans ?_ (Below.mono (by assumption) ?_))) <;> (first | omega | (simp; try omega)))) (HC.out.pure (by (repeat (with_reducible first | exact Below.refl _ _ | refine Below.alloc ?_ ?_ _ | refine below_drewN ?_ _ | refine Below.drew ?_ | refine Below.setCell ?_ ?_ _ | refine Below.trans ?_ (Below.mono (by assumption) ?_))) <;> (first | omega | (simp; try omega)))) Hcok.out).mono ?_; rintro e w2 ⟨rfl, hb2⟩; obtain ⟨hc2, hf2⟩ := bcell hb2; have hz2 : w.heap.size < w2.heap.size := (by have := hb2.size; omega))
      | (go_at_call 20; refine (slabelOk_t (l := ⟨_, _⟩) Hlok.out).mono ?_; rintro e w3 ⟨rfl, hb3⟩))
      go_ret
      exact ⟨rfl, (by (repeat (with_reducible first | exact Below.refl _ _ | refine Below.alloc ?_ ?_ _ | refine below_drewN ?_ _ | refine Below.drew ?_ | refine Below.setCell ?_ ?_ _ | refine Below.trans ?_ (Below.mono (by assumption) ?_))) <;> (first | omega | (simp; try omega)))⟩
    · cases cok
      · go_enter Tryz.func30, Tryz.ntmps30
        go_wp2_with (first
      | (go_at_call 19; refine (stableOk_t (HT.out.pure (by (repeat (with_reducible first | exact Below.refl _ _ | refine Below.alloc ?_ ?_ _ | refine below_drewN ?_ _ | refine Below.drew ?_ | refine Below.setCell ?_ ?_ _ | refine Below.trans ?_ (Below.mono (by assumption) ?_))) <;> (first | omega | (simp; try omega)))) Htok.out).mono ?_; rintro e w1 ⟨rfl, hb1⟩; obtain ⟨hc1, hf1⟩ := bcell hb1; have hz1 : w.heap.size < w1.heap.size := (by have := hb1.size; simp at this; omega))
      | (go_at_call 59; refine (l21Calls_t (HT.out.pure (by (repeat (with_reducible first | exact Below.refl _ _ | refine Below.alloc ?_ ?_ _ | refine below_drewN ?_ _ | refine Below.drew ?_ | refine Below.setCell ?_ ?_ _ | refine Below.trans ?_ (Below.mono (by assumption) ?_))) <;> (first | omega | (simp; try omega)))) (HC.out.pure (by (repeat (with_reducible first | exact Below.refl _ _ | refine Below.alloc ?_ ?_ _ | refine below_drewN ?_ _ | refine Below.drew ?_ | refine Below.setCell ?_ ?_ _ | refine Below.trans ?_ (Below.mono (by assumption) ?_))) <;> (first | omega | (simp; try omega)))) Hcok.out).mono ?_; rintro e w2 ⟨rfl, hb2⟩; obtain ⟨hc2, hf2⟩ := bcell hb2; have hz2 : w.heap.size < w2.heap.size := (by have := hb2.size; omega))
      | (go_at_call 20; refine (slabelOk_t (l := ⟨_, _⟩) Hlok.out).mono ?_; rintro e w3 ⟨rfl, hb3⟩))
        go_ret
        exact ⟨rfl, (by (repeat (with_reducible first | exact Below.refl _ _ | refine Below.alloc ?_ ?_ _ | refine below_drewN ?_ _ | refine Below.drew ?_ | refine Below.setCell ?_ ?_ _ | refine Below.trans ?_ (Below.mono (by assumption) ?_))) <;> (first | omega | (simp; try omega)))⟩
      · have hl : lok = false := by
          cases lok
          · rfl
          · exact absurd ⟨rfl, rfl, rfl⟩ hall
        subst hl
        go_enter Tryz.func30, Tryz.ntmps30
        go_wp2_with (first
      | (go_at_call 19; refine (stableOk_t (HT.out.pure (by (repeat (with_reducible first | exact Below.refl _ _ | refine Below.alloc ?_ ?_ _ | refine below_drewN ?_ _ | refine Below.drew ?_ | refine Below.setCell ?_ ?_ _ | refine Below.trans ?_ (Below.mono (by assumption) ?_))) <;> (first | omega | (simp; try omega)))) Htok.out).mono ?_; rintro e w1 ⟨rfl, hb1⟩; obtain ⟨hc1, hf1⟩ := bcell hb1; have hz1 : w.heap.size < w1.heap.size := (by have := hb1.size; simp at this; omega))
      | (go_at_call 59; refine (l21Calls_t (HT.out.pure (by (repeat (with_reducible first | exact Below.refl _ _ | refine Below.alloc ?_ ?_ _ | refine below_drewN ?_ _ | refine Below.drew ?_ | refine Below.setCell ?_ ?_ _ | refine Below.trans ?_ (Below.mono (by assumption) ?_))) <;> (first | omega | (simp; try omega)))) (HC.out.pure (by (repeat (with_reducible first | exact Below.refl _ _ | refine Below.alloc ?_ ?_ _ | refine below_drewN ?_ _ | refine Below.drew ?_ | refine Below.setCell ?_ ?_ _ | refine Below.trans ?_ (Below.mono (by assumption) ?_))) <;> (first | omega | (simp; try omega)))) Hcok.out).mono ?_; rintro e w2 ⟨rfl, hb2⟩; obtain ⟨hc2, hf2⟩ := bcell hb2; have hz2 : w.heap.size < w2.heap.size := (by have := hb2.size; omega))
      | (go_at_call 20; refine (slabelOk_t (l := ⟨_, _⟩) Hlok.out).mono ?_; rintro e w3 ⟨rfl, hb3⟩))
        go_ret
        exact ⟨rfl, (by (repeat (with_reducible first | exact Below.refl _ _ | refine Below.alloc ?_ ?_ _ | refine below_drewN ?_ _ | refine Below.drew ?_ | refine Below.setCell ?_ ?_ _ | refine Below.trans ?_ (Below.mono (by assumption) ?_))) <;> (first | omega | (simp; try omega)))⟩
end Go.Proofs.YtghbphdipdjekaaGreatDoor
