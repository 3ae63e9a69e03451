/- The reference's scripts of calls: whether they are such, the low ones, and whether they are quiet. Conditions: the table and the calls lie where their cells say. -/
import Derived.Test.YtghbphdipdjekaaGreatDoorQa
import Derived.Test.YtghbphdipdjekaaGreatDoorMa
import Derived.Test.YtghbphdipdjekaaGreatDoorY
import Derived.Test.YtghbphdipdjekaaGreatDoorSe
import Derived.Maps.AppendAt
set_option linter.unusedVariables false
set_option linter.unusedSimpArgs false
namespace Go.Proofs.YtghbphdipdjekaaGreatDoor
open Go.RowKit Drw
attribute [local go_sem] Lab.val Rgt.val Cal.val Thg.val

theorem stableOk_t {p : Option Addr} {cap : Nat} {ts : List Thg} {w : World} {v : Bool} (hT : TabAt w (.slice p ts.length cap) ts) (h : tabOk ts = v) :
    Calls Tryz.prog 19 #[.slice p ts.length cap] w fun e w' => e = .returned (.bool v) ∧ Below w.heap.size w w' := by
  rw [← h]; exact stableOk_c p cap ts w hT
theorem scallOk_t {c : Cal} {w : World} {v : Bool} (h : calOk c = v) : Calls Tryz.prog 83 #[c.val] w fun e w' => e = .returned (.bool v) ∧ Below w.heap.size w w' := by
  rw [← h]; exact scallOk_c c w
theorem slabelOk_t {l : Lab} {w : World} {v : Bool} (h : labOk l = v) : Calls Tryz.prog 20 #[l.val] w fun e w' => e = .returned (.bool v) ∧ Below w.heap.size w w' := by
  rw [← h]; exact slabelOk_c l w
theorem l11Run_t {p : Option Addr} {cap : Nat} {ts : List Thg} {i : Int} {w : World} {v : Bool} (hT : TabAt w (.slice p ts.length cap) ts) (h : kindAt ts i 3 = v) :
    Calls Tryz.prog 84 #[.slice p ts.length cap, .int .i64 i] w fun e w' => e = .returned (.bool v) ∧ w = w' := by
  rw [← h]; exact l11Run_c p cap ts i w hT
theorem l1Flow_t {a b : Lab} {w : World} {v : Bool} (ha : labOk a = true) (hb : labOk b = true) (h : flow a b = v) :
    Calls Tryz.prog 60 #[a.val, b.val] w fun e w' => e = .returned (.bool v) ∧ Below w.heap.size w w' := by
  rw [← h]; exact l1Flow_c a b w ha hb

def cal1 (ts : List Thg) (c : Cal) : Bool := calOk c && kindAt ts c.run 3
def l21 (ts : List Thg) (cs : List Cal) : Bool := cs.all (cal1 ts) && decide (cs.length ≤ 40)
theorem l21_run (ts : List Thg) (cs : List Cal) : runCan ts cs = (tabOk ts && l21 ts cs) := by
  unfold runCan l21
  cases h : tabOk ts
  · simp
  · have : cs.all (calCan ts) = cs.all (cal1 ts) := by
      congr 1
      funext c
      simp [calCan, cal1, h]
    rw [this]
    simp [Bool.and_comm]

set_option maxRecDepth 100000 in
set_option maxHeartbeats 4000000 in
theorem l21Calls_c (p : Option Addr) (cap : Nat) (ts : List Thg) (q : Option Addr) (c2 : Nat) (cs : List Cal) (w : World) (hT : TabAt w (.slice p ts.length cap) ts) (hC : CalsAt w (.slice q cs.length c2) cs) :
    Calls Tryz.prog 59 #[.slice p ts.length cap, .slice q cs.length c2] w fun e w' => e = .returned (.bool (l21 ts cs)) ∧ Below w.heap.size w w' := by
  obtain ⟨_, _, h1, hl1, hl2⟩ := hC.len
  cases h1
  unfold maxLen at hl2
  have HT := Lib.hid hT
  have HC := Lib.hid hC
  clear hT hC
  go_enter Tryz.func59, Tryz.ntmps59
  go_wp2
  go_loopw [5] (fun s5 wr => ∃ i : Nat, s5 = .int .i64 (i : Int) ∧ i ≤ cs.length ∧ (cs.take i).all (cal1 ts) = true ∧ Below w.heap.size w wr) (fun s5 _ => cs.length - (intOf s5).toNat)
  case atStart => exact ⟨0, rfl, by omega, by simp, Below.refl _ _⟩
  case round =>
    obtain ⟨i, rfl, hi, hall, hB⟩ := hrel
    have Hall := Lib.hid hall
    clear hall
    by_cases hlt : i < cs.length
    · obtain ⟨c, hc⟩ : ∃ c, cs[i]? = some c := ⟨_, List.getElem?_eq_getElem hlt⟩
      obtain ⟨b, o, rfl, hb, c0, c1, c2', c3, c4⟩ := (HC.out.pure hB).at i c hc
      obtain ⟨v, hv⟩ : ∃ v, calOk c = v := ⟨_, rfl⟩
      obtain ⟨u, hu⟩ : ∃ u, kindAt ts c.run 3 = u := ⟨_, rfl⟩
      have Hv := Lib.hid hv
      have Hu := Lib.hid hu
      have Hc := Lib.hid hc
      have hi0 : (0 : Int) ≤ (i : Int) := by omega
      have hiu : (i : Int) < (cs.length : Int) := by omega
      have hzB := hB.size
      obtain ⟨k0, k1, k2, k3, k4⟩ := c
      dsimp only at c0 c1 c2' c3 c4
      clear hv hc hu
      cases v
      · go_wp2_with (go_at_call 83; refine (scallOk_t (c := ⟨_, _, _, _, _⟩) Hv.out).mono ?_; rintro e w2 ⟨rfl, hb2⟩)
        go_ret
        exact ⟨ret_bool (by simp only [l21, all_bad Hc.out (show cal1 ts _ = false by simp [cal1, Hv.out]), Bool.false_and]), (by (repeat (with_reducible first | exact Below.refl _ _ | refine Below.alloc ?_ ?_ _ | refine below_drewN ?_ _ | refine Below.drew ?_ | refine Below.setCell ?_ ?_ _ | refine Below.trans ?_ (Below.mono (by assumption) ?_))) <;> (first | omega | (simp; try omega)))⟩
      · cases u
        · go_wp2_with (first
            | (go_at_call 83; refine (scallOk_t (c := ⟨_, _, _, _, _⟩) Hv.out).mono ?_; rintro e w2 ⟨rfl, hb2⟩; obtain ⟨hc2, hf2⟩ := bcell hb2)
            | (go_at_call 84; refine (l11Run_t (HT.out.pure (by (repeat (with_reducible first | exact Below.refl _ _ | refine Below.alloc ?_ ?_ _ | refine below_drewN ?_ _ | refine Below.drew ?_ | refine Below.setCell ?_ ?_ _ | refine Below.trans ?_ (Below.mono (by assumption) ?_))) <;> (first | omega | (simp; try omega)))) Hu.out).mono ?_; rintro e w3 ⟨rfl, rfl⟩))
          go_ret
          exact ⟨ret_bool (by simp only [l21, all_bad Hc.out (show cal1 ts _ = false by simp [cal1, Hu.out]), Bool.false_and]), (by (repeat (with_reducible first | exact Below.refl _ _ | refine Below.alloc ?_ ?_ _ | refine below_drewN ?_ _ | refine Below.drew ?_ | refine Below.setCell ?_ ?_ _ | refine Below.trans ?_ (Below.mono (by assumption) ?_))) <;> (first | omega | (simp; try omega)))⟩
        · go_wp2_with (first
            | (go_at_call 83; refine (scallOk_t (c := ⟨_, _, _, _, _⟩) Hv.out).mono ?_; rintro e w2 ⟨rfl, hb2⟩; obtain ⟨hc2, hf2⟩ := bcell hb2)
            | (go_at_call 84; refine (l11Run_t (HT.out.pure (by (repeat (with_reducible first | exact Below.refl _ _ | refine Below.alloc ?_ ?_ _ | refine below_drewN ?_ _ | refine Below.drew ?_ | refine Below.setCell ?_ ?_ _ | refine Below.trans ?_ (Below.mono (by assumption) ?_))) <;> (first | omega | (simp; try omega)))) Hu.out).mono ?_; rintro e w3 ⟨rfl, rfl⟩))
          exact ⟨⟨i + 1, by go_num, by omega, all_take Hall.out Hc.out (by simp [cal1, Hv.out, Hu.out]), (by (repeat (with_reducible first | exact Below.refl _ _ | refine Below.alloc ?_ ?_ _ | refine below_drewN ?_ _ | refine Below.drew ?_ | refine Below.setCell ?_ ?_ _ | refine Below.trans ?_ (Below.mono (by assumption) ?_))) <;> (first | omega | (simp; try omega)))⟩, by simp [intOf]; omega⟩
    · have hil : i = cs.length := by omega
      have Hil := Lib.hid hil
      clear hil
      go_wp2
      go_ret
      have h := Hall.out
      rw [Hil.out, List.take_length] at h
      refine ⟨ret_bool ?_, hB⟩
      simp only [l21, h, Bool.true_and]
      simp <;> omega
theorem l21Calls_t {p : Option Addr} {cap : Nat} {ts : List Thg} {q : Option Addr} {c2 : Nat} {cs : List Cal} {w : World} {v : Bool} (hT : TabAt w (.slice p ts.length cap) ts) (hC : CalsAt w (.slice q cs.length c2) cs) (h : l21 ts cs = v) :
    Calls Tryz.prog 59 #[.slice p ts.length cap, .slice q cs.length c2] w fun e w' => e = .returned (.bool v) ∧ Below w.heap.size w w' := by
  rw [← h]; exact l21Calls_c p cap ts q c2 cs w hT hC

set_option maxRecDepth 100000 in
set_option maxHeartbeats 4000000 in
theorem srunLow_c (p : Option Addr) (cap : Nat) (ts : List Thg) (q : Option Addr) (c2 : Nat) (cs : List Cal) (l : Lab) (w : World) (hT : TabAt w (.slice p ts.length cap) ts) (hC : CalsAt w (.slice q cs.length c2) cs) :
    Calls Tryz.prog 18 #[.slice p ts.length cap, .slice q cs.length c2, l.val] w fun e w' => ∃ q' k, e = .returned (.slice q' (runLow ts cs l).length k) ∧ CalsAt w' (.slice q' (runLow ts cs l).length k) (runLow ts cs l) ∧ Below w.heap.size w w' := by
  obtain ⟨_, _, h1, hl1, hl2⟩ := hC.len
  cases h1
  unfold maxLen at hl2
  obtain ⟨_, _, h2, hm1, hm2⟩ := hT.len
  cases h2
  unfold maxLen at hm2
  obtain ⟨ls, lv⟩ := l
  obtain ⟨tok, htok⟩ : ∃ b, tabOk ts = b := ⟨_, rfl⟩
  obtain ⟨cok, hcok⟩ : ∃ b, l21 ts cs = b := ⟨_, rfl⟩
  obtain ⟨lok, hlok⟩ : ∃ b, labOk ⟨ls, lv⟩ = b := ⟨_, rfl⟩
  have Htok := Lib.hid htok
  have Hcok := Lib.hid hcok
  have Hlok := Lib.hid hlok
  have Hrun := Lib.hid (show runCan ts cs = (tok && cok) by rw [l21_run, htok, hcok])
  have HT := Lib.hid hT
  have HC := Lib.hid hC
  clear hT hC htok hcok hlok
  by_cases hall : tok = true ∧ cok = true ∧ lok = true
  · obtain ⟨rfl, rfl, rfl⟩ := hall
    have hcan := runCan_iff.1 Hrun.out
    have hr : runLow ts cs ⟨ls, lv⟩ = cs.filter (fun c => flow (getT ts c.run).lab ⟨ls, lv⟩) := by simp [runLow, Hrun.out, Hlok.out]
    rw [hr]
    clear hr
    obtain ⟨i0, hi0, hz0, hz1, hz2⟩ := info_parts info_cal
    have h40 : cs.length ≤ 40 := hcan.2.1
    have Hcan := Lib.hid hcan.2.2
    clear hcan
    go_enter Tryz.func18, Tryz.ntmps18
    go_upto_region 2 with (fail)
    generalize hwa : World.alloc _ _ = wa
    have hB0 : Below w.heap.size w wa := by rw [← hwa]; exact (by (repeat (with_reducible first | exact Below.refl _ _ | refine Below.alloc ?_ ?_ _ | refine below_drewN ?_ _ | refine Below.drew ?_ | refine Below.setCell ?_ ?_ _ | refine Below.trans ?_ (Below.mono (by assumption) ?_))) <;> (first | omega | (simp; try omega)))
    have hza : w.heap.size + 1 < wa.heap.size := by rw [← hwa]; simp
    have hza' : w.heap.size < wa.heap.size := by omega
    have l0 : wa.cell? ⟨w.heap.size, 0, none⟩ = some (.int .i64 ls) := by rw [← hwa]; simp [go_sem]
    have l1 : wa.cell? ⟨w.heap.size, 1, none⟩ = some (.int .i64 lv) := by rw [← hwa]; simp [go_sem]
    have hlit : wa.ownsRow (w.heap.size + 1) 37 5 (.slice (some ⟨w.heap.size + 1, 0, none⟩) 0 0) 0 [] := by rw [← hwa]; exact own_lit (w.heap.size + 1) (by simp) (Nat.le_refl _)
    have L0 := Lib.hid l0
    have L1 := Lib.hid l1
    have HB0 := Lib.hid hB0
    have Hlit := Lib.hid hlit
    clear hwa hlit
    go_upto_region 4 with (first
      | (go_at_call 19; refine (stableOk_t (HT.out.pure HB0.out) Htok.out).mono ?_; rintro e w1 ⟨rfl, hb1⟩; obtain ⟨hc1, hf1⟩ := bcell hb1; have hz1' := hb1.size; have hz1a : w.heap.size < w1.heap.size := (by omega))
      | (go_at_call 59; refine (l21Calls_t ((HT.out.pure HB0.out).pure hb1) ((HC.out.pure HB0.out).pure hb1) Hcok.out).mono ?_; rintro e w2 ⟨rfl, hb2⟩; obtain ⟨hc2, hf2⟩ := bcell hb2; have hz2' := hb2.size)
      | (go_at_call 20; refine (slabelOk_t (l := ⟨_, _⟩) Hlok.out).mono ?_; rintro e w3 ⟨rfl, hb3⟩))
    have hB2 : Below wa.heap.size wa w3 := (hb1.trans (hb2.mono hz1')).trans (hb3.mono (Nat.le_trans hz1' hz2'))
    have hown0 := own_below Hlit.out hB2
    have Hown0 := Lib.hid hown0
    have HB2 := Lib.hid hB2
    clear l0 l1 hc1 hf1 hb1 hb2 hc2 hf2 hb3 hown0 hB2
    go_wp2
    go_loopw [7, 8] (fun s7 s8 wr => ∃ i : Nat, s8 = .int .i64 (i : Int) ∧ i ≤ cs.length ∧ wr.ownsRow (w.heap.size + 1) 37 5 s7 ((cs.take i).filter (fun c => flow (getT ts c.run).lab ⟨ls, lv⟩)).length ((((cs.take i).filter (fun c => flow (getT ts c.run).lab ⟨ls, lv⟩)).map Cal.cells).flatten) ∧ Below (w.heap.size + 1) wa wr) (fun _ s8 _ => cs.length - (intOf s8).toNat)
    case atStart => exact ⟨0, rfl, by omega, by simpa using Hown0.out, HB2.out.mono (by omega)⟩
    case round =>
      obtain ⟨i, rfl, hi, hown, hB⟩ := hrel
      have hle := filter_le' (fun c => flow (getT ts c.run).lab ⟨ls, lv⟩) cs i
      obtain ⟨fl, hfl⟩ : ∃ fl, (cs.take i).filter (fun c => flow (getT ts c.run).lab ⟨ls, lv⟩) = fl := ⟨_, rfl⟩
      rw [hfl] at hown hle
      have Hfl := Lib.hid hfl
      have Hown := Lib.hid hown
      have HB := Lib.hid hB
      obtain ⟨q7, c7, rfl⟩ := own_slice_n hown
      clear hfl hown
      have l0 := (hB.cell (p := ⟨w.heap.size, 0, none⟩) (Nat.lt_succ_self _)).trans L0.out
      have l1 := (hB.cell (p := ⟨w.heap.size, 1, none⟩) (Nat.lt_succ_self _)).trans L1.out
      have hBw : Below w.heap.size w wr := HB0.out.trans (hB.mono (by omega))
      have HBw := Lib.hid hBw
      have hzr : w.heap.size + 1 ≤ wr.heap.size := by have := hB.size; omega
      have hzwr : w.heap.size < wr.heap.size := by omega
      obtain ⟨wr', rfl⟩ : ∃ wy : World, wy = wr := ⟨_, rfl⟩
      by_cases hlt : i < cs.length
      · obtain ⟨c, hc⟩ : ∃ c, cs[i]? = some c := ⟨_, List.getElem?_eq_getElem hlt⟩
        obtain ⟨b, o, rfl, hb, c0, c1, c2', c3, c4⟩ := (HC.out.pure hBw).at i c hc
        have hcB := Hcan.out c (List.mem_of_getElem? hc)
        obtain ⟨j, hjr, hj⟩ := ex_idx hcB.ex
        obtain ⟨bt, ot, svt, qvt, et, hbt, -, -, -, t1, t2, -⟩ := (HT.out.pure hBw).at j _ hj
        subst et
        have hjl : j < ts.length := (List.getElem?_eq_some_iff.1 hj).1
        obtain ⟨v, hv⟩ : ∃ v, flow (getT ts c.run).lab ⟨ls, lv⟩ = v := ⟨_, rfl⟩
        have hla : labOk (getT ts c.run).lab = true := (thg_parts.1 hcB.thg).2.1
        obtain ⟨⟨a1, a2⟩, ha⟩ : ∃ a, (getT ts c.run).lab = a := ⟨_, rfl⟩
        have Hv := Lib.hid hv
        have Hv2 := Lib.hid (show flow ⟨a1, a2⟩ ⟨ls, lv⟩ = v by rw [← ha]; exact hv)
        have Hla := Lib.hid (show labOk ⟨a1, a2⟩ = true by rw [← ha]; exact hla)
        rw [ha] at t1 t2
        dsimp only at t1 t2
        have Hc := Lib.hid hc
        obtain ⟨k0, k1, k2, k3, k4⟩ := c
        dsimp only at c0 c1 c2' c3 c4 hjr
        subst hjr
        have hj0 : (0 : Int) ≤ (i : Int) := by omega
        have hju : (i : Int) < (cs.length : Int) := by omega
        have hx0 : (0 : Int) ≤ (j : Int) := by omega
        have hxn : (j : Int) < (ts.length : Int) := by omega
        have hw1 : IntKind.i64.wrap ((j : Int) + 1 - 1) = (j : Int) := by rw [show (j : Int) + 1 - 1 = j by omega]; exact IntWalk.i64_in _ (by omega)
        have hw2 : IntKind.i64.wrap (j : Int) = (j : Int) := IntWalk.i64_in _ (by omega)
        have HS := Lib.hid (show ∀ w' : World, Below wr'.heap.size wr' w' → (Below wr'.heap.size wr' w' ∧ w'.cell? ⟨b, o + i * 5 + 1, none⟩ = some (.int .i64 ((j : Int) + 1)) ∧ w'.cell? ⟨bt, ot + j * 8 + 1, none⟩ = some (.int .i64 a1) ∧ w'.cell? ⟨bt, ot + j * 8 + 2, none⟩ = some (.int .i64 a2) ∧ w'.cell? ⟨w.heap.size, 0, none⟩ = some (.int .i64 ls) ∧ w'.cell? ⟨w.heap.size, 1, none⟩ = some (.int .i64 lv)) from
          fun w' h => by
            obtain ⟨hc', -⟩ := bcell h
            exact ⟨h, (hc' _ _ hb).trans c1, (hc' _ _ hbt).trans t1, (hc' _ _ hbt).trans t2, (hc' _ _ hzwr).trans l0, (hc' _ _ hzwr).trans l1⟩)
        clear hv hc hcB hj ha hla
        clear hBw hB
        go_upto_region 7 with (fail)
        go_cut [42] (fun s42 wz => s42 = .bool v ∧ Below wr'.heap.size wr' wz)
        case first =>
          first | (go_region_held3 (fun w' => Below wr'.heap.size wr' w' ∧ w'.cell? ⟨b, o + i * 5 + 1, none⟩ = some (.int .i64 ((j : Int) + 1)) ∧ w'.cell? ⟨bt, ot + j * 8 + 1, none⟩ = some (.int .i64 a1) ∧ w'.cell? ⟨bt, ot + j * 8 + 2, none⟩ = some (.int .i64 a2) ∧ w'.cell? ⟨w.heap.size, 0, none⟩ = some (.int .i64 ls) ∧ w'.cell? ⟨w.heap.size, 1, none⟩ = some (.int .i64 lv))
            (first | assumption | exact HS.out _ (Below.drew (Below.refl _ _)) | (have hX := And.left (by assumption : Below wr'.heap.size wr' _ ∧ _); exact HS.out _ (hX.trans (hb3.mono hX.size))))
            (first | (go_at_call 60; refine (l1Flow_t (a := ⟨_, _⟩) (b := ⟨_, _⟩) Hla.out Hlok.out Hv2.out).mono ?_; rintro e w3 ⟨rfl, hb3⟩))) | fail
          all_goals (go_wp2; go_meet; exact ⟨rfl, And.left (by assumption : Below wr'.heap.size wr' _ ∧ _)⟩)
        case rest =>
          obtain ⟨rfl, hBz⟩ := hcut
          obtain ⟨wz, rfl⟩ : ∃ wy : World, wy = wc := ⟨_, rfl⟩
          have HBz := Lib.hid hBz
          obtain ⟨hcz, -⟩ := bcell hBz
          rw [← hcz _ _ hb] at c0 c1 c2' c3 c4
          have hbz := Nat.lt_of_lt_of_le hb hBz.size
          have hzz : wr'.heap.size ≤ wz.heap.size := hBz.size
          clear t1 t2 l0 l1 hcz hBz
          cases v
          · go_wp2
            refine ⟨⟨i + 1, by go_num, by omega, ?_, HB.out.trans (HBz.out.mono hzr)⟩, by simp [intOf]; omega⟩
            rw [filter_take Hc.out, Hv.out, Hfl.out]
            simpa using own_below Hown.out HBz.out
          · have hfl8 : fl.length ≤ 40 := by omega
            have hz3' : w.heap.size + 1 ≤ wz.heap.size := by omega
            go_wp2_with (first | (at_builtin; refine wpList_append_rows rfl (.tmp 43) (.tmp 48) 24 rfl (w.heap.size + 1) 37 i0 _ 5 40 Tryz.underlying24 hi0 hz0 hz1 hz2 rfl (by decide) (.slice q7 fl.length c7) fl.length ((fl.map Cal.cells).flatten) rfl (own_below (own_below Hown.out HBz.out) (by (repeat (with_reducible first | exact Below.refl _ _ | refine Below.alloc ?_ ?_ _ | refine below_drewN ?_ _ | refine Below.drew ?_ | refine Below.setCell ?_ ?_ _ | refine Below.trans ?_ (Below.mono (by assumption) ?_))) <;> (first | omega | (simp; try omega)))) (.slice (some ⟨wz.heap.size, 0, none⟩) 1 1) [Cal.cells ⟨k0, (j : Int) + 1, k2, k3, k4⟩] rfl (flat_cals [⟨k0, (j : Int) + 1, k2, k3, k4⟩]) (Rows.one (by intro i u hu; rcases i with _ | _ | _ | _ | _ | i <;> simp [Cal.cells] at hu <;> (try subst hu) <;> simp [go_sem])) (by simp [maxLen] <;> omega) (by simp <;> omega) (by simp <;> omega) ?_; intro v4 w4 ho4 hg4))
            have hB4 : Below (w.heap.size + 1) wa w4 := Below.grown ((HB.out.trans (HBz.out.mono hzr)).alloc hz3' _) hg4 (by simp <;> omega) (fun k hk => (Hown.out.lt k hk).1)
            have fin : w4.ownsRow (w.heap.size + 1) 37 5 v4 (((cs.take (i + 1)).filter (fun c => flow (getT ts c.run).lab ⟨ls, lv⟩))).length ((((cs.take (i + 1)).filter (fun c => flow (getT ts c.run).lab ⟨ls, lv⟩)).map Cal.cells).flatten) := by
              rw [filter_take Hc.out, Hv.out, Hfl.out]
              simpa using ho4
            have Fin := Lib.hid fin
            clear fin ho4 hg4
            go_wp2
            exact ⟨⟨i + 1, by go_num, by omega, Fin.out, hB4⟩, by simp [intOf]; omega⟩
      · have hil : i = cs.length := by omega
        have hown := Hown.out
        have hflc := Hfl.out
        rw [hil, List.take_length] at hflc
        subst hflc
        clear Hfl hown hil
        go_wp2
        go_ret
        exact ⟨_, _, rfl, Rows.of_own (flat_cals _) (by rw [List.length_map]; exact Hown.out), HBw.out⟩
  · have hr : runLow ts cs ⟨ls, lv⟩ = [] := by
      unfold runLow
      rw [Hrun.out, Hlok.out]
      rw [if_neg]
      simp only [Bool.and_eq_true]
      intro h
      exact hall ⟨h.1.1, h.1.2, h.2⟩
    rw [hr]
    clear hr
    obtain ⟨x, y, hxy⟩ : ∃ x y : Unit, x = y := ⟨(), (), rfl⟩
    clear x y hxy
    cases tok
    · go_enter Tryz.func18, Tryz.ntmps18
      go_wp2_with (first
      | (go_at_call 19; refine (stableOk_t (HT.out.pure (by (repeat (with_reducible first | exact Below.refl _ _ | refine Below.alloc ?_ ?_ _ | refine below_drewN ?_ _ | refine Below.drew ?_ | refine Below.setCell ?_ ?_ _ | refine Below.trans ?_ (Below.mono (by assumption) ?_))) <;> (first | omega | (simp; try omega)))) Htok.out).mono ?_; rintro e w1 ⟨rfl, hb1⟩; obtain ⟨hc1, hf1⟩ := bcell hb1; have hz1 : w.heap.size < w1.heap.size := (by have := hb1.size; simp at this; omega))
      | (go_at_call 59; refine (l21Calls_t (HT.out.pure (by (repeat (with_reducible first | exact Below.refl _ _ | refine Below.alloc ?_ ?_ _ | refine below_drewN ?_ _ | refine Below.drew ?_ | refine Below.setCell ?_ ?_ _ | refine Below.trans ?_ (Below.mono (by assumption) ?_))) <;> (first | omega | (simp; try omega)))) (HC.out.pure (by (repeat (with_reducible first | exact Below.refl _ _ | refine Below.alloc ?_ ?_ _ | refine below_drewN ?_ _ | refine Below.drew ?_ | refine Below.setCell ?_ ?_ _ | refine Below.trans ?_ (Below.mono (by assumption) ?_))) <;> (first | omega | (simp; try omega)))) Hcok.out).mono ?_; rintro e w2 ⟨rfl, hb2⟩; obtain ⟨hc2, hf2⟩ := bcell hb2; have hz2 : w.heap.size < w2.heap.size := (by have := hb2.size; omega))
      | (go_at_call 20; refine (slabelOk_t (l := ⟨_, _⟩) Hlok.out).mono ?_; rintro e w3 ⟨rfl, hb3⟩))
      go_ret
      exact ⟨_, _, rfl, ⟨_, 0, rfl, by simp, by simp, .inl rfl⟩, (by (repeat (with_reducible first | exact Below.refl _ _ | refine Below.alloc ?_ ?_ _ | refine below_drewN ?_ _ | refine Below.drew ?_ | refine Below.setCell ?_ ?_ _ | refine Below.trans ?_ (Below.mono (by assumption) ?_))) <;> (first | omega | (simp; try omega)))⟩
    · cases cok
      · go_enter Tryz.func18, Tryz.ntmps18
        go_wp2_with (first
      | (go_at_call 19; refine (stableOk_t (HT.out.pure (by (repeat (with_reducible first | exact Below.refl _ _ | refine Below.alloc ?_ ?_ _ | refine below_drewN ?_ _ | refine Below.drew ?_ | refine Below.setCell ?_ ?_ _ | refine Below.trans ?_ (Below.mono (by assumption) ?_))) <;> (first | omega | (simp; try omega)))) Htok.out).mono ?_; rintro e w1 ⟨rfl, hb1⟩; obtain ⟨hc1, hf1⟩ := bcell hb1; have hz1 : w.heap.size < w1.heap.size := (by have := hb1.size; simp at this; omega))
      | (go_at_call 59; refine (l21Calls_t (HT.out.pure (by (repeat (with_reducible first | exact Below.refl _ _ | refine Below.alloc ?_ ?_ _ | refine below_drewN ?_ _ | refine Below.drew ?_ | refine Below.setCell ?_ ?_ _ | refine Below.trans ?_ (Below.mono (by assumption) ?_))) <;> (first | omega | (simp; try omega)))) (HC.out.pure (by (repeat (with_reducible first | exact Below.refl _ _ | refine Below.alloc ?_ ?_ _ | refine below_drewN ?_ _ | refine Below.drew ?_ | refine Below.setCell ?_ ?_ _ | refine Below.trans ?_ (Below.mono (by assumption) ?_))) <;> (first | omega | (simp; try omega)))) Hcok.out).mono ?_; rintro e w2 ⟨rfl, hb2⟩; obtain ⟨hc2, hf2⟩ := bcell hb2; have hz2 : w.heap.size < w2.heap.size := (by have := hb2.size; omega))
      | (go_at_call 20; refine (slabelOk_t (l := ⟨_, _⟩) Hlok.out).mono ?_; rintro e w3 ⟨rfl, hb3⟩))
        go_ret
        exact ⟨_, _, rfl, ⟨_, 0, rfl, by simp, by simp, .inl rfl⟩, (by (repeat (with_reducible first | exact Below.refl _ _ | refine Below.alloc ?_ ?_ _ | refine below_drewN ?_ _ | refine Below.drew ?_ | refine Below.setCell ?_ ?_ _ | refine Below.trans ?_ (Below.mono (by assumption) ?_))) <;> (first | omega | (simp; try omega)))⟩
      · have hl : lok = false := by
          cases lok
          · rfl
          · exact absurd ⟨rfl, rfl, rfl⟩ hall
        subst hl
        go_enter Tryz.func18, Tryz.ntmps18
        go_wp2_with (first
      | (go_at_call 19; refine (stableOk_t (HT.out.pure (by (repeat (with_reducible first | exact Below.refl _ _ | refine Below.alloc ?_ ?_ _ | refine below_drewN ?_ _ | refine Below.drew ?_ | refine Below.setCell ?_ ?_ _ | refine Below.trans ?_ (Below.mono (by assumption) ?_))) <;> (first | omega | (simp; try omega)))) Htok.out).mono ?_; rintro e w1 ⟨rfl, hb1⟩; obtain ⟨hc1, hf1⟩ := bcell hb1; have hz1 : w.heap.size < w1.heap.size := (by have := hb1.size; simp at this; omega))
      | (go_at_call 59; refine (l21Calls_t (HT.out.pure (by (repeat (with_reducible first | exact Below.refl _ _ | refine Below.alloc ?_ ?_ _ | refine below_drewN ?_ _ | refine Below.drew ?_ | refine Below.setCell ?_ ?_ _ | refine Below.trans ?_ (Below.mono (by assumption) ?_))) <;> (first | omega | (simp; try omega)))) (HC.out.pure (by (repeat (with_reducible first | exact Below.refl _ _ | refine Below.alloc ?_ ?_ _ | refine below_drewN ?_ _ | refine Below.drew ?_ | refine Below.setCell ?_ ?_ _ | refine Below.trans ?_ (Below.mono (by assumption) ?_))) <;> (first | omega | (simp; try omega)))) Hcok.out).mono ?_; rintro e w2 ⟨rfl, hb2⟩; obtain ⟨hc2, hf2⟩ := bcell hb2; have hz2 : w.heap.size < w2.heap.size := (by have := hb2.size; omega))
      | (go_at_call 20; refine (slabelOk_t (l := ⟨_, _⟩) Hlok.out).mono ?_; rintro e w3 ⟨rfl, hb3⟩))
        go_ret
        exact ⟨_, _, rfl, ⟨_, 0, rfl, by simp, by simp, .inl rfl⟩, (by (repeat (with_reducible first | exact Below.refl _ _ | refine Below.alloc ?_ ?_ _ | refine below_drewN ?_ _ | refine Below.drew ?_ | refine Below.setCell ?_ ?_ _ | refine Below.trans ?_ (Below.mono (by assumption) ?_))) <;> (first | omega | (simp; try omega)))⟩
end Go.Proofs.YtghbphdipdjekaaGreatDoor

/- The reference's doing of calls, one behind the other. Conditions: the table and the calls lie where their cells say. -/
namespace Go.Proofs.YtghbphdipdjekaaGreatDoor
open Go.RowKit Drw
attribute [local go_sem] Lab.val Rgt.val Cal.val Thg.val

theorem own_keepS {w w' : World} {S : Nat → Prop} {B e s n : Nat} {v : Value} {xs : List Value} (h : w.ownsRow B e s v n xs) (hg : Chg S w w') (hS : ∀ b, v.ownBlock = some b → ¬ S b) : w'.ownsRow B e s v n xs := by
  rcases h with ⟨hl, h | ⟨g, cap, cur, rfl, hb, hh, hc, hm, hs, ht⟩⟩
  · exact ⟨hl, .inl h⟩
  · refine ⟨hl, .inr ⟨g, cap, cur, rfl, hb, ?_, hc, hm, hs, ht⟩⟩
    rw [hg.block g (Array.getElem?_eq_some_iff.1 hh).1 (hS g rfl)]
    exact hh

theorem run_at {ts : List Thg} {cs : List Cal} (ht : tabOk ts = true) (hc : AllCan ts cs) {i : Nat} {c : Cal} (hi : cs[i]? = some c) : tabOk (runDo ts (cs.take i)).1 = true ∧ (runDo ts (cs.take i)).1.length = ts.length ∧ CanB (runDo ts (cs.take i)).1 c ∧ runDo ts (cs.take (i + 1)) = ((do2 (runDo ts (cs.take i)).1 c).1, (runDo ts (cs.take i)).2 ++ [(do2 (runDo ts (cs.take i)).1 c).2]) := by
  have h1 : AllCan ts (cs.take i) := fun d hd => hc d (List.mem_of_mem_take hd)
  obtain ⟨h2, h3, -⟩ := runDo_fine (cs.take i) ht h1
  refine ⟨h2, h3.len, ?_, by rw [take_one hi, runDo_snoc]⟩
  have h4 : AllCan ts [c] := fun d hd => by
    rw [List.mem_singleton] at hd
    subst hd
    exact hc d (List.mem_of_getElem? hi)
  exact (h4.after h3 h2) c (by simp)

/-- The table of a run, and its answers, in memory: no part of the one is one of the other. -/
def RunI (B : Nat) (v : Value) (ts : List Thg) (s8 : Value) (zs : List Int) (w : World) : Prop :=
  ∃ xs tag, OwnTab w (fun b => B ≤ b ∧ s8.ownBlock ≠ some b) tag v xs ∧ xs.map (·.1) = ts ∧ w.ownsRow B 3 1 s8 zs.length ((zs.map intCells).flatten)

theorem RunI.chg {B : Nat} {v : Value} {ts : List Thg} {s8 : Value} {zs : List Int} {w w' : World} (h : RunI B v ts s8 zs w) (hb : Below w.heap.size w w') : RunI B v ts s8 zs w' := by
  obtain ⟨xs, tag, hO, hx, ho⟩ := h
  exact ⟨xs, tag, hO.pure hb, hx, own_below ho hb⟩

/-- One call more. -/
theorem RunI.act {B : Nat} {v : Value} {us : List Thg} {s8 : Value} {zs : List Int} {w w' : World} (hown : w.ownsRow B 3 1 s8 zs.length ((zs.map intCells).flatten)) (h : ActPost w w' (fun b => B ≤ b ∧ s8.ownBlock ≠ some b) v us) (hB : B ≤ w.heap.size) : RunI B v us s8 zs w' ∧ Below B w w' := by
  obtain ⟨xs, tag, hO, hx, hg⟩ := h
  exact ⟨⟨xs, tag, hO, hx, own_keepS hown hg (fun b hb h => h.2 hb)⟩, hg.below hB (fun k hk h => by have := h.1; omega)⟩

/-- One answer more. -/
theorem RunI.put {B : Nat} {v : Value} {ts : List Thg} {s8 v' : Value} {zs : List Int} {a : Int} {w w' : World} (h : RunI B v ts s8 zs w) (hown : w'.ownsRow B 3 1 v' (zs.length + 1) ((zs.map intCells).flatten ++ [.int .i64 a])) (hg : w.grownBy w' s8.ownBlock) (hv : v'.ownBlock = s8.ownBlock ∨ v'.ownBlock = some w.heap.size) :
    RunI B v ts v' (zs ++ [a]) w' := by
  obtain ⟨xs, tag, hO, hx, -⟩ := h
  refine ⟨xs, tag, ?_, hx, by simpa [intCells] using hown⟩
  have h1 : OwnTab w (fun b => (B ≤ b ∧ s8.ownBlock ≠ some b) ∧ b < w.heap.size) tag v xs := hO.imp fun b hb hl => ⟨⟨hb, hl⟩, rfl⟩
  have h2 := h1.chg (Chg.of_grown hg) (fun b hb _ h => hb.1.2 h.symm)
  refine h2.imp fun b hb _ => ⟨⟨hb.1.1, fun e => ?_⟩, rfl⟩
  rcases hv with h | h
  · exact hb.1.2 (h ▸ e)
  · rw [h] at e
    have := Option.some.inj e
    omega

set_option maxRecDepth 100000 in
set_option maxHeartbeats 4000000 in
theorem srunAll_c (p : Option Addr) (cap : Nat) (ts : List Thg) (q : Option Addr) (c2 : Nat) (cs : List Cal) (w : World) (hT : TabAt w (.slice p ts.length cap) ts) (hC : CalsAt w (.slice q cs.length c2) cs) :
    Calls Tryz.prog 24 #[.slice p ts.length cap, .slice q cs.length c2] w fun e w' => ∃ p' k p2 k2, e = .returned (.tuple #[.slice p' (runAll ts cs).1.length k, .slice p2 (runAll ts cs).2.1.length k2, .bool (runAll ts cs).2.2]) ∧ TabAt w' (.slice p' (runAll ts cs).1.length k) (runAll ts cs).1 ∧ IntsAt w' (.slice p2 (runAll ts cs).2.1.length k2) (runAll ts cs).2.1 ∧ Below w.heap.size w w' := by
  obtain ⟨_, _, h1, hl1, hl2⟩ := hC.len
  cases h1
  unfold maxLen at hl2
  obtain ⟨tok, htok⟩ : ∃ b, tabOk ts = b := ⟨_, rfl⟩
  obtain ⟨cok, hcok⟩ : ∃ b, l21 ts cs = b := ⟨_, rfl⟩
  have Htok := Lib.hid htok
  have Hcok := Lib.hid hcok
  have Hrun := Lib.hid (show runCan ts cs = (tok && cok) by rw [l21_run, htok, hcok])
  have HT := Lib.hid hT
  have HC := Lib.hid hC
  clear hT hC htok hcok
  by_cases hall : tok = true ∧ cok = true
  · obtain ⟨rfl, rfl⟩ := hall
    have hcan := runCan_iff.1 Hrun.out
    have hr : runAll ts cs = ((runDo ts cs).1, (runDo ts cs).2, true) := by unfold runAll; rw [if_pos (show runCan ts cs = true from Hrun.out)]
    have h40 : cs.length ≤ 40 := hcan.2.1
    have Hcan := Lib.hid hcan.2.2
    have hfin := runDo_fine cs hcan.1 hcan.2.2
    have hts := (tab_iff.1 hcan.1).1
    have ht8 : ts.length ≤ 65536 := by omega
    have HSh := Lib.hid (short_of_tab hcan.1)
    have Hfin := Lib.hid hfin
    have Hts := Lib.hid hts
    rw [hr]
    dsimp only
    obtain ⟨i0, hi0, hz0, hz1, hz2⟩ := info_parts info_int
    clear hcan hr hfin hts
    go_enter Tryz.func24, Tryz.ntmps24
    go_upto_region 4 with (first
      | (go_at_call 19; refine (stableOk_t (HT.out.pure (by (repeat (with_reducible first | exact Below.refl _ _ | refine Below.alloc ?_ ?_ _ | refine below_drewN ?_ _ | refine Below.drew ?_ | refine Below.setCell ?_ ?_ _ | refine Below.trans ?_ (Below.mono (by assumption) ?_))) <;> (first | omega | (simp; try omega)))) Htok.out).mono ?_; rintro e w1 ⟨rfl, hb1⟩; have hz1' := hb1.size)
      | (go_at_call 59; refine (l21Calls_t (HT.out.pure hb1) (HC.out.pure hb1) Hcok.out).mono ?_; rintro e w2 ⟨rfl, hb2⟩; have hz2' := hb2.size)
      | (go_at_call 67; refine (l3Copy_c p cap ts _ ((HT.out.pure hb1).pure hb2) ht8 HSh.out).mono ?_; rintro e w3 ⟨v, xs, tag, rfl, hO, hxs, hb3⟩))
    have hb12 : Below w.heap.size w w2 := hb1.trans (hb2.mono hz1')
    have hB3 : Below w.heap.size w w3 := hb12.trans (hb3.mono hb12.size)
    have hO' := hO.imp (Q := fun b => w.heap.size ≤ b ∧ b < w3.heap.size) (tag' := tag) (fun b hb hl => ⟨⟨Nat.le_trans hb12.size hb, hl⟩, rfl⟩)
    have hxl : xs.length = ts.length := by rw [← hxs]; simp
    obtain ⟨T, o, cp, rfl⟩ := own_some hO' hxs (by have := Hts.out; omega)
    have HO := Lib.hid hO'
    have Hxs := Lib.hid hxs
    have HB3 := Lib.hid hB3
    have hzw3 : w.heap.size ≤ w3.heap.size := hB3.size
    clear hb1 hb2 hb3 hz1' hz2' hO hO' hxs hb12 hB3 hxl
    go_wp2
    go_loopw [7, 8, 9] (fun s7 s8 s9 wr => ∃ i : Nat, s7 = .slice (some ⟨T, o, none⟩) ts.length cp ∧ s9 = .int .i64 (i : Int) ∧ i ≤ cs.length ∧ RunI w.heap.size (.slice (some ⟨T, o, none⟩) ts.length cp) (runDo ts (cs.take i)).1 s8 (runDo ts (cs.take i)).2 wr ∧ (runDo ts (cs.take i)).2.length = i ∧ Below w.heap.size w wr) (fun _ _ s9 _ => cs.length - (intOf s9).toNat)
    case atStart =>
      refine ⟨0, rfl, rfl, by omega, ?_, rfl, HB3.out.trans (Below.mono (show Below w3.heap.size w3 _ from (by (repeat (with_reducible first | exact Below.refl _ _ | refine Below.alloc ?_ ?_ _ | refine below_drewN ?_ _ | refine Below.drew ?_ | refine Below.setCell ?_ ?_ _ | refine Below.trans ?_ (Below.mono (by assumption) ?_))) <;> (first | omega | (simp; try omega)))) hzw3)⟩
      refine ⟨xs, tag, ?_, Hxs.out, own_lit w3.heap.size rfl hzw3⟩
      refine (HO.out.pure (show Below w3.heap.size w3 _ from (by (repeat (with_reducible first | exact Below.refl _ _ | refine Below.alloc ?_ ?_ _ | refine below_drewN ?_ _ | refine Below.drew ?_ | refine Below.setCell ?_ ?_ _ | refine Below.trans ?_ (Below.mono (by assumption) ?_))) <;> (first | omega | (simp; try omega))))).imp fun b hb _ => ⟨⟨hb.1, fun e => ?_⟩, rfl⟩
      simp [Value.ownBlock] at e
      omega
    case round =>
      obtain ⟨i, rfl, rfl, hi, hR, hlen, hB⟩ := hrel
      have hzB := hB.size
      obtain ⟨us, hus⟩ : ∃ us, (runDo ts (cs.take i)).1 = us := ⟨_, rfl⟩
      obtain ⟨zs, hzs⟩ : ∃ zs, (runDo ts (cs.take i)).2 = zs := ⟨_, rfl⟩
      rw [hus, hzs] at hR
      rw [hzs] at hlen
      have Hus := Lib.hid hus
      have Hzs := Lib.hid hzs
      have Hlen := Lib.hid hlen
      have HR := Lib.hid hR
      have HB := Lib.hid hB
      clear hus hzs hlen hR
      obtain ⟨xs1, tag1, hO1, hx1, ho1⟩ := HR.out
      obtain ⟨q8, c8, rfl⟩ := own_slice_n ho1
      by_cases hlt : i < cs.length
      · obtain ⟨c, hc⟩ : ∃ c, cs[i]? = some c := ⟨_, List.getElem?_eq_getElem hlt⟩
        obtain ⟨b, o', rfl, hb, c0, c1, c2', c3, c4⟩ := (HC.out.pure hB).at i c hc
        obtain ⟨hr1, hr2, hr3, hr4⟩ := run_at (runCan_iff.1 Hrun.out).1 Hcan.out hc
        rw [Hus.out] at hr1 hr2 hr3 hr4
        rw [Hzs.out] at hr4
        have hup : ∀ b, wr.heap.size ≤ b → w.heap.size ≤ b ∧ (Value.slice q8 zs.length c8).ownBlock ≠ some b := fun b h => ⟨by omega, fun e => by have := (ho1.lt b e).2; omega⟩
        have hD := l12Do_c (c := c) hO1 hup ht8 (by rw [hx1]; exact hr3)
        rw [hx1] at hD
        obtain ⟨us', a', hd2⟩ : ∃ us' a', do2 us c = (us', a') := ⟨_, _, rfl⟩
        rw [hd2] at hD hr4
        dsimp only at hD hr4
        have HD := Lib.hid hD
        have Hr4 := Lib.hid hr4
        have Ho1 := Lib.hid ho1
        have hj0 : (0 : Int) ≤ (i : Int) := by omega
        have hju : (i : Int) < (cs.length : Int) := by omega
        have hzl : zs.length ≤ 40 := by rw [Hlen.out]; omega
        obtain ⟨k0, k1, k2, k3, k4⟩ := c
        dsimp only at c0 c1 c2' c3 c4
        clear hc hr1 hr2 hr3 hr4 hD hd2 hup hO1 hx1 ho1
        go_upto_region 10 with (go_at_call 68; refine HD.out.mono ?_; rintro e w4 ⟨rfl, hA⟩)
        obtain ⟨hR4, hB4⟩ := RunI.act Ho1.out hA hzB
        have hz4 : wr.heap.size ≤ w4.heap.size := by obtain ⟨_, _, _, _, h⟩ := hA; exact h.size
        have hown4 : w4.ownsRow w.heap.size 3 1 (.slice q8 zs.length c8) zs.length ((zs.map intCells).flatten) := by obtain ⟨_, _, _, _, h⟩ := hR4; exact h
        have HR4 := Lib.hid hR4
        have Hown4 := Lib.hid hown4
        have HB4 := Lib.hid hB4
        have hzw4 : w.heap.size ≤ w4.heap.size := by omega
        clear hA hR4 hown4 hB4 c0 c1 c2' c3 c4
        go_wp2_with (first | (at_builtin; refine wpList_append_own_at _ rfl (.tmp 42) (.tmp 44) 32 rfl w.heap.size 3 i0 _ 1 8 Tryz.underlying32 hi0 hz0 hz1 hz2 rfl (by decide) (.slice q8 zs.length c8) zs.length ((zs.map intCells).flatten) rfl (own_below Hown4.out (by (repeat (with_reducible first | exact Below.refl _ _ | refine Below.alloc ?_ ?_ _ | refine below_drewN ?_ _ | refine Below.drew ?_ | refine Below.setCell ?_ ?_ _ | refine Below.trans ?_ (Below.mono (by assumption) ?_))) <;> (first | omega | (simp; try omega)))) ⟨w4.heap.size, 0, none⟩ 1 1 [.int .i64 a'] rfl rfl (cell_one_new _ _ _) (by intro u hu; rw [List.mem_singleton] at hu; subst hu; rfl) (by unfold maxLen; omega) (by omega) (by simp; omega) ?_; intro v5 w5 ho5 hg5 _ hat5))
        have hR5 := RunI.put (HR4.out.chg (show Below w4.heap.size w4 _ from (by (repeat (with_reducible first | exact Below.refl _ _ | refine Below.alloc ?_ ?_ _ | refine below_drewN ?_ _ | refine Below.drew ?_ | refine Below.setCell ?_ ?_ _ | refine Below.trans ?_ (Below.mono (by assumption) ?_))) <;> (first | omega | (simp; try omega))))) ho5 hg5 hat5
        have hB5 : Below w.heap.size w w5 := Below.grown ((HB.out.trans (HB4.out.mono (Nat.le_refl _))).alloc hzw4 _) hg5 (by simp <;> omega) (fun k hk => (Hown4.out.lt k hk).1)
        have fin : RunI w.heap.size (.slice (some ⟨T, o, none⟩) ts.length cp) (runDo ts (cs.take (i + 1))).1 v5 (runDo ts (cs.take (i + 1))).2 w5 ∧ (runDo ts (cs.take (i + 1))).2.length = i + 1 := by
          rw [Hr4.out]
          exact ⟨hR5, by simp [Hlen.out]⟩
        have Fin := Lib.hid fin
        clear fin hR5 ho5 hg5 hat5
        go_wp2
        exact ⟨⟨i + 1, rfl, by go_num, by omega, Fin.out.1, Fin.out.2, hB5⟩, by simp [intOf]; omega⟩
      · have hil : i = cs.length := by omega
        have h1 := Hus.out
        have h2 := Hzs.out
        rw [hil, List.take_length] at h1 h2
        have hA := hO1.at'
        rw [hx1] at hA
        have hul : us.length = ts.length := by rw [← h1]; exact Hfin.out.2.1.len
        have hI : IntsAt wr (.slice q8 zs.length c8) zs := Rows.of_own (flat_ints zs) (by rw [List.length_map]; exact ho1)
        have Fin := Lib.hid (show ∃ p' k p2 k2, Ending.returned (.tuple #[.slice (some ⟨T, o, none⟩) ts.length cp, .slice q8 zs.length c8, .bool true]) = Ending.returned (.tuple #[.slice p' (runDo ts cs).1.length k, .slice p2 (runDo ts cs).2.length k2, .bool true]) ∧ TabAt wr (.slice p' (runDo ts cs).1.length k) (runDo ts cs).1 ∧ IntsAt wr (.slice p2 (runDo ts cs).2.length k2) (runDo ts cs).2 ∧ Below w.heap.size w wr from by
          rw [h1, h2, hul]
          exact ⟨_, _, _, _, rfl, hA, hI, HB.out⟩)
        clear h1 h2 hA hul ho1 hO1 hx1 hil hI
        go_wp2
        go_ret3
        exact Fin.out
  · have hr : runAll ts cs = ([], [], false) := by
      unfold runAll
      rw [Hrun.out]
      cases tok <;> cases cok <;> simp at hall ⊢
    rw [hr]
    clear hr
    dsimp only
    cases tok
    · go_enter Tryz.func24, Tryz.ntmps24
      go_wp2_with (first
      | (go_at_call 19; refine (stableOk_t (HT.out.pure (by (repeat (with_reducible first | exact Below.refl _ _ | refine Below.alloc ?_ ?_ _ | refine below_drewN ?_ _ | refine Below.drew ?_ | refine Below.setCell ?_ ?_ _ | refine Below.trans ?_ (Below.mono (by assumption) ?_))) <;> (first | omega | (simp; try omega)))) Htok.out).mono ?_; rintro e w1 ⟨rfl, hb1⟩; have hz1' := hb1.size)
      | (go_at_call 59; refine (l21Calls_t (HT.out.pure (by (repeat (with_reducible first | exact Below.refl _ _ | refine Below.alloc ?_ ?_ _ | refine below_drewN ?_ _ | refine Below.drew ?_ | refine Below.setCell ?_ ?_ _ | refine Below.trans ?_ (Below.mono (by assumption) ?_))) <;> (first | omega | (simp; try omega)))) (HC.out.pure (by (repeat (with_reducible first | exact Below.refl _ _ | refine Below.alloc ?_ ?_ _ | refine below_drewN ?_ _ | refine Below.drew ?_ | refine Below.setCell ?_ ?_ _ | refine Below.trans ?_ (Below.mono (by assumption) ?_))) <;> (first | omega | (simp; try omega)))) Hcok.out).mono ?_; rintro e w2 ⟨rfl, hb2⟩; have hz2' := hb2.size))
      go_ret3
      exact ⟨_, _, _, _, rfl, ⟨[], rfl, ⟨_, 0, rfl, by simp, by simp, .inl rfl⟩, fun x hx => by cases hx⟩, ⟨_, 0, rfl, by simp, by simp, .inl rfl⟩, (by (repeat (with_reducible first | exact Below.refl _ _ | refine Below.alloc ?_ ?_ _ | refine below_drewN ?_ _ | refine Below.drew ?_ | refine Below.setCell ?_ ?_ _ | refine Below.trans ?_ (Below.mono (by assumption) ?_))) <;> (first | omega | (simp; try omega)))⟩
    · have hl : cok = false := by
        cases cok
        · rfl
        · exact absurd ⟨rfl, rfl⟩ hall
      subst hl
      go_enter Tryz.func24, Tryz.ntmps24
      go_wp2_with (first
      | (go_at_call 19; refine (stableOk_t (HT.out.pure (by (repeat (with_reducible first | exact Below.refl _ _ | refine Below.alloc ?_ ?_ _ | refine below_drewN ?_ _ | refine Below.drew ?_ | refine Below.setCell ?_ ?_ _ | refine Below.trans ?_ (Below.mono (by assumption) ?_))) <;> (first | omega | (simp; try omega)))) Htok.out).mono ?_; rintro e w1 ⟨rfl, hb1⟩; have hz1' := hb1.size)
      | (go_at_call 59; refine (l21Calls_t (HT.out.pure (by (repeat (with_reducible first | exact Below.refl _ _ | refine Below.alloc ?_ ?_ _ | refine below_drewN ?_ _ | refine Below.drew ?_ | refine Below.setCell ?_ ?_ _ | refine Below.trans ?_ (Below.mono (by assumption) ?_))) <;> (first | omega | (simp; try omega)))) (HC.out.pure (by (repeat (with_reducible first | exact Below.refl _ _ | refine Below.alloc ?_ ?_ _ | refine below_drewN ?_ _ | refine Below.drew ?_ | refine Below.setCell ?_ ?_ _ | refine Below.trans ?_ (Below.mono (by assumption) ?_))) <;> (first | omega | (simp; try omega)))) Hcok.out).mono ?_; rintro e w2 ⟨rfl, hb2⟩; have hz2' := hb2.size))
      go_ret3
      exact ⟨_, _, _, _, rfl, ⟨[], rfl, ⟨_, 0, rfl, by simp, by simp, .inl rfl⟩, fun x hx => by cases hx⟩, ⟨_, 0, rfl, by simp, by simp, .inl rfl⟩, (by (repeat (with_reducible first | exact Below.refl _ _ | refine Below.alloc ?_ ?_ _ | refine below_drewN ?_ _ | refine Below.drew ?_ | refine Below.setCell ?_ ?_ _ | refine Below.trans ?_ (Below.mono (by assumption) ?_))) <;> (first | omega | (simp; try omega)))⟩
end Go.Proofs.YtghbphdipdjekaaGreatDoor
