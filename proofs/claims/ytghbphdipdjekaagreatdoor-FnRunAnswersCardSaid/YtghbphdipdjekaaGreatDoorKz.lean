/- The law that who is low is answered the same, whatever high ones do, walked. Conditions: the bytes lie where their cells say; errors.errorType is laid. -/
import Derived.Test.YtghbphdipdjekaaGreatDoorLg
import Derived.Test.YtghbphdipdjekaaGreatDoorRu
import Derived.Test.YtghbphdipdjekaaGreatDoorVh
import Derived.Test.YtghbphdipdjekaaGreatDoorQq
import Derived.Test.YtghbphdipdjekaaGreatDoorKa
import Derived.Test.YtghbphdipdjekaaGreatDoorCards
import Derived.Test.YtghbphdipdjekaaGreatDoorTie
import Derived.SevenTiedAt
import Derived.Deep.Frames
set_option linter.unusedVariables false
set_option linter.unusedSimpArgs false
namespace Go.Proofs.YtghbphdipdjekaaGreatDoor
open Go.RowKit Drw
attribute [local go_sem] Lab.val Rgt.val Cal.val Thg.val

/-- A call that goes through no gate from above. -/
def still1 (ts : List Thg) (l : Lab) (c : Cal) : Bool := c.kind != 9 || flow (getT ts c.run).lab l
theorem runQuiet_yes {ts : List Thg} {cs : List Cal} {l : Lab} (hc : runCan ts cs = true) (hl : labOk l = true) : runQuiet ts cs l = cs.all (still1 ts l) := by
  simp only [runQuiet, hc, hl, Bool.true_and]; rfl
theorem runQuiet_no {ts : List Thg} {cs : List Cal} {l : Lab} (hc : runCan ts cs = false) : runQuiet ts cs l = false := by simp [runQuiet, hc]
theorem runQuiet_low {ts : List Thg} {cs : List Cal} {l : Lab} (hc : runCan ts cs = true) (hl : labOk l = true) : runQuiet ts (runLow ts cs l) l = true := by
  have h1 := runCan_iff.1 hc
  have e : runLow ts cs l = cs.filter (fun c => flow (getT ts c.run).lab l) := by simp [runLow, hc, hl]
  have h2 : runCan ts (runLow ts cs l) = true := by
    rw [e]
    exact runCan_iff.2 ⟨h1.1, Nat.le_trans (List.length_filter_le _ _) h1.2.1, fun d hd => h1.2.2 d (List.mem_filter.1 hd).1⟩
  rw [runQuiet_yes h2 hl, List.all_eq_true]
  intro d hd
  rw [e] at hd
  simp only [still1, (List.mem_filter.1 hd).2, Bool.or_true]
theorem all_next {cs : List Cal} {i : Nat} {c : Cal} (h : cs[i]? = some c) (f : Cal → Bool) : (cs.take (i + 1)).all f = ((cs.take i).all f && f c) := by
  rw [List.take_add_one, h]
  simp

theorem runLow_t {p : Option Addr} {cap : Nat} {ts : List Thg} {q : Option Addr} {c2 : Nat} {cs ls : List Cal} {l : Lab} {w : World} (hT : TabAt w (.slice p ts.length cap) ts) (hC : CalsAt w (.slice q cs.length c2) cs) (h : runLow ts cs l = ls) :
    Calls Tryz.prog 17 #[.slice p ts.length cap, .slice q cs.length c2, l.val] w fun e w' => ∃ q' k, e = .returned (.slice q' ls.length k) ∧ CalsAt w' (.slice q' ls.length k) ls ∧ Below w.heap.size w w' := by
  subst h; exact runLow_c p cap ts q c2 cs l w hT hC
theorem runQuiet_t {p : Option Addr} {cap : Nat} {ts : List Thg} {q : Option Addr} {c2 : Nat} {cs : List Cal} {l : Lab} {w : World} {v : Bool} (hT : TabAt w (.slice p ts.length cap) ts) (hC : CalsAt w (.slice q cs.length c2) cs) (h : runQuiet ts cs l = v) :
    Calls Tryz.prog 29 #[.slice p ts.length cap, .slice q cs.length c2, l.val] w fun e w' => e = .returned (.bool v) ∧ Below w.heap.size w w' := by
  subst h; exact runQuiet_c p cap ts q c2 cs l w hT hC
theorem srunQuiet_t {p : Option Addr} {cap : Nat} {ts : List Thg} {q : Option Addr} {c2 : Nat} {cs : List Cal} {l : Lab} {w : World} {v : Bool} (hT : TabAt w (.slice p ts.length cap) ts) (hC : CalsAt w (.slice q cs.length c2) cs) (h : runQuiet ts cs l = v) :
    Calls Tryz.prog 30 #[.slice p ts.length cap, .slice q cs.length c2, l.val] w fun e w' => e = .returned (.bool v) ∧ Below w.heap.size w w' := by
  subst h; exact srunQuiet_c p cap ts q c2 cs l w hT hC

theorem lows_len {ts : List Thg} {l : Lab} : ∀ (cs : List Cal) (zs : List Int), zs.length = cs.length → (lows ts l cs zs).length = (cs.filter (fun c => flow (getT ts c.run).lab l)).length
  | [], zs, _ => by simp [lows]
  | d :: cs, [], h => by simp at h
  | d :: cs, a :: zs, h => by
    have ih := lows_len (ts := ts) (l := l) cs zs (by simpa using h)
    simp only [lows, List.filter_cons]
    split
    · rename_i hf; simp [hf, ih]
    · rename_i hf; simp [hf, ih]
theorem lows_at {ts : List Thg} {l : Lab} : ∀ (cs : List Cal) (zs : List Int) (i : Nat) (c : Cal), zs.length = cs.length → cs[i]? = some c → flow (getT ts c.run).lab l = true → (lows ts l cs zs)[((cs.take i).filter (fun c => flow (getT ts c.run).lab l)).length]? = zs[i]?
  | [], _, _, _, _, h, _ => by simp at h
  | d :: cs, [], _, _, h, _, _ => by simp at h
  | d :: cs, a :: zs, 0, c, h, hi, hf => by
    simp at hi
    subst hi
    simp [lows, hf]
  | d :: cs, a :: zs, i + 1, c, h, hi, hf => by
    have ih := lows_at (ts := ts) (l := l) cs zs i c (by simpa using h) (by simpa using hi) hf
    simp only [lows, List.take_succ_cons, List.filter_cons]
    split
    · rename_i hd; simp [ih]
    · rename_i hd; simp [ih]
theorem quiet_facts {ts : List Thg} {cs : List Cal} {l : Lab} (h : runQuiet ts cs l = true) :
    ∃ us zs xs az, runAll ts cs = (us, zs, true) ∧ runAll ts (runLow ts cs l) = (xs, az, true) ∧ zs.length = cs.length ∧ az = lows ts l cs zs ∧ runCan ts cs = true ∧ labOk l = true ∧ tabOk ts = true := by
  simp only [runQuiet, Bool.and_eq_true] at h
  obtain ⟨⟨hc, hl⟩, ha⟩ := h
  have h1 := runCan_iff.1 hc
  have e : runLow ts cs l = cs.filter (fun c => flow (getT ts c.run).lab l) := by simp [runLow, hc, hl]
  have h2 : runCan ts (cs.filter (fun c => flow (getT ts c.run).lab l)) = true :=
    runCan_iff.2 ⟨h1.1, Nat.le_trans (List.length_filter_le _ _) h1.2.1, fun d hd => h1.2.2 d (List.mem_filter.1 hd).1⟩
  have hq : Quiet ts cs l := by
    intro c hm h9
    have := List.all_eq_true.1 ha c hm
    simpa [h9] using this
  have h3 := runDo_low l ts cs (Same.refl ts) h1.1 h1.1 (VS.refl l ts) h1.2.2 hq
  refine ⟨(runDo ts cs).1, (runDo ts cs).2, (runDo ts (cs.filter (fun c => flow (getT ts c.run).lab l))).1, (runDo ts (cs.filter (fun c => flow (getT ts c.run).lab l))).2, by simp only [runAll, hc, if_true], by rw [e]; simp only [runAll, h2, if_true], (runDo_fine cs h1.1 h1.2.2).2.2, h3.2, hc, hl, h1.1⟩

set_option maxRecDepth 100000 in
set_option maxHeartbeats 4000000 in
theorem fnRunAnswers_c (p : Option Addr) (n cap : Nat) (w : World) (hL : Laid w) (hc : n ≤ cap) (hb : BytesAt w p n) :
    Calls Tryz.prog 10 #[.slice p n cap] w fun e w' => e = .returned (.bool true) ∧ Below w.heap.size w w' := by
  by_cases hbig : n ≤ 1048576
  · have hle : ¬ (1048576 : Int) < (n : Int) := by omega
    have Hb := Lib.hid hb
    have HL := Lib.hid hL
    clear hb hL
    go_enter Tryz.func10, Tryz.ntmps10
    go_upto_region 3 with (fail)
    go_cut [3, 4, 5] (fun s3 s4 s5 wz => ∃ (q : Option Addr) (k : Nat) (ts : List Thg) (q2 : Option Addr) (k2 : Nat) (cs : List Cal) (ls lv : Int) (D : Nat), s3 = .slice q ts.length k ∧ s4 = .slice q2 cs.length k2 ∧ s5 = .pointer (some ⟨D, 0, none⟩) ∧ (wz.cell? ⟨D, 0, none⟩ = some (.int .i64 ls) ∧ wz.cell? ⟨D, 1, none⟩ = some (.int .i64 lv)) ∧ TabAt wz (.slice q ts.length k) ts ∧ CalsAt wz (.slice q2 cs.length k2) cs ∧ 3 ≤ ts.length ∧ ts.length ≤ 8 ∧ cs.length ≤ 25 ∧ Below w.heap.size w wz)
    case first =>
      go_wp2_with (go_at_call 28; refine (drawRunQuiet_c p n cap _ hc Hb.out (by omega)).mono ?_; rintro e w1 ⟨q, k, ts, q2, k2, cs, ⟨ls, lv⟩, rfl, hTC, hl3, hl8, hcl, hb1⟩)
      go_meet
      obtain ⟨hT, hC⟩ := hTC (fun _ => False) w1 (Chg.refl _ _) (fun _ _ h => h)
      have hz1 := hb1.size
      exact ⟨q, k, ts, q2, k2, cs, ls, lv, _, rfl, rfl, rfl, by simp [go_sem], hT.pure (by (repeat (with_reducible first | exact Below.refl _ _ | refine Below.alloc ?_ ?_ _ | refine below_drewN ?_ _ | refine Below.drew ?_ | refine Below.setCell ?_ ?_ _ | refine Below.trans ?_ (Below.mono (by assumption) ?_))) <;> (first | omega | (simp; try omega))), hC.pure (by (repeat (with_reducible first | exact Below.refl _ _ | refine Below.alloc ?_ ?_ _ | refine below_drewN ?_ _ | refine Below.drew ?_ | refine Below.setCell ?_ ?_ _ | refine Below.trans ?_ (Below.mono (by assumption) ?_))) <;> (first | omega | (simp; try omega))), hl3, hl8, hcl, (by (repeat (with_reducible first | exact Below.refl _ _ | refine Below.alloc ?_ ?_ _ | refine below_drewN ?_ _ | refine Below.drew ?_ | refine Below.setCell ?_ ?_ _ | refine Below.trans ?_ (Below.mono (by assumption) ?_))) <;> (first | omega | (simp; try omega)))⟩
    case rest =>
      obtain ⟨q, k, ts, q2, k2, cs, ls, lv, D, rfl, rfl, rfl, ⟨g0, g1⟩, hT, hC, hl3, hl8, hcl, hB⟩ := hcut
      obtain ⟨wa, rfl⟩ : ∃ wy : World, wy = wc := ⟨_, rfl⟩
      have hDs := World.block_lt_of_cell? _ _ g0
      have hL := HL.out.pure hB
      have HB := Lib.hid hB
      have hz0 := hB.size
      have HG := Lib.hid (show ∀ w', Below wa.heap.size wa w' → (w'.cell? ⟨D, 0, none⟩ = some (.int .i64 ls) ∧ w'.cell? ⟨D, 1, none⟩ = some (.int .i64 lv)) from fun w' h => by
        obtain ⟨hc', -⟩ := bcell h
        exact ⟨(hc' _ _ hDs).trans g0, (hc' _ _ hDs).trans g1⟩)
      obtain ⟨qo, hqo⟩ : ∃ qo, runQuiet ts cs ⟨ls, lv⟩ = qo := ⟨_, rfl⟩
      have Hqo := Lib.hid hqo
      have HT := Lib.hid hT
      have HC := Lib.hid hC
      have HLa := Lib.hid hL
      clear hqo hT hC hL hB HL Hb
      go_upto_region 5 with (first
        | (go_at_call 29; refine (runQuiet_t (l := ⟨_, _⟩) (HT.out.pure (by (repeat (with_reducible first | exact Below.refl _ _ | refine Below.alloc ?_ ?_ _ | refine below_drewN ?_ _ | refine Below.drew ?_ | refine Below.setCell ?_ ?_ _ | refine Below.trans ?_ (Below.mono (by assumption) ?_))) <;> (first | omega | (simp; try omega)))) (HC.out.pure (by (repeat (with_reducible first | exact Below.refl _ _ | refine Below.alloc ?_ ?_ _ | refine below_drewN ?_ _ | refine Below.drew ?_ | refine Below.setCell ?_ ?_ _ | refine Below.trans ?_ (Below.mono (by assumption) ?_))) <;> (first | omega | (simp; try omega)))) Hqo.out).mono ?_; rintro e w3 ⟨rfl, hb13⟩))
      obtain ⟨g0', g1'⟩ := HG.out _ hb13
      have hz3 := hb13.size
      have Hb3 := Lib.hid hb13
      have HB3 := Lib.hid (HB.out.trans (hb13.mono hz0))
      have HT3 := Lib.hid (HT.out.pure hb13)
      have HC3 := Lib.hid (HC.out.pure hb13)
      have HL3 := Lib.hid (HLa.out.pure hb13)
      have hz03 := HB3.out.size
      have HG3 := Lib.hid (show ∀ w', Below w3.heap.size w3 w' → (w'.cell? ⟨D, 0, none⟩ = some (.int .i64 ls) ∧ w'.cell? ⟨D, 1, none⟩ = some (.int .i64 lv)) from fun w' h => HG.out _ (Hb3.out.trans (h.mono hz3)))
      clear g0 g1 hb13 HB HT HC HLa
      cases qo
      · go_upto_region 6 with (first
          | (go_at_call 30; refine (srunQuiet_t (l := ⟨_, _⟩) (HT3.out.pure (by (repeat (with_reducible first | exact Below.refl _ _ | refine Below.alloc ?_ ?_ _ | refine below_drewN ?_ _ | refine Below.drew ?_ | refine Below.setCell ?_ ?_ _ | refine Below.trans ?_ (Below.mono (by assumption) ?_))) <;> (first | omega | (simp; try omega)))) (HC3.out.pure (by (repeat (with_reducible first | exact Below.refl _ _ | refine Below.alloc ?_ ?_ _ | refine below_drewN ?_ _ | refine Below.drew ?_ | refine Below.setCell ?_ ?_ _ | refine Below.trans ?_ (Below.mono (by assumption) ?_))) <;> (first | omega | (simp; try omega)))) Hqo.out).mono ?_; rintro e w4 ⟨rfl, hb34⟩))
        obtain ⟨y0, y1⟩ := HG3.out _ hb34
        have hz34 := hb34.size
        go_wp2_with (first
          | (go_at_call 30; refine (srunQuiet_t (l := ⟨_, _⟩) ((HT3.out.pure hb34).pure (by (repeat (with_reducible first | exact Below.refl _ _ | refine Below.alloc ?_ ?_ _ | refine below_drewN ?_ _ | refine Below.drew ?_ | refine Below.setCell ?_ ?_ _ | refine Below.trans ?_ (Below.mono (by assumption) ?_))) <;> (first | omega | (simp; try omega)))) ((HC3.out.pure hb34).pure (by (repeat (with_reducible first | exact Below.refl _ _ | refine Below.alloc ?_ ?_ _ | refine below_drewN ?_ _ | refine Below.drew ?_ | refine Below.setCell ?_ ?_ _ | refine Below.trans ?_ (Below.mono (by assumption) ?_))) <;> (first | omega | (simp; try omega)))) Hqo.out).mono ?_; rintro e w9 ⟨rfl, hb9⟩))
        go_ret
        exact ⟨rfl, HB3.out.trans (Below.mono (hb34.trans (hb9.mono hz34)) hz03)⟩
      · obtain ⟨us, zs, xs, az, hr1, hr2, hzl, haz, hrc, hlok, htok⟩ := quiet_facts Hqo.out
        obtain ⟨li, hli⟩ : ∃ li, runLow ts cs ⟨ls, lv⟩ = li := ⟨_, rfl⟩
        rw [hli] at hr2
        have Hli := Lib.hid hli
        have Hr1 := Lib.hid hr1
        have Hr2 := Lib.hid hr2
        have Haz := Lib.hid haz
        have Hrc := Lib.hid hrc
        have Hlok := Lib.hid hlok
        have Htok := Lib.hid htok
        have Hzl := Lib.hid hzl
        clear hli hr1 hr2 haz hrc hlok htok hzl
        go_upto_region 8 with (first
          | (go_at_call 30; refine (srunQuiet_t (l := ⟨_, _⟩) (HT3.out.pure (by (repeat (with_reducible first | exact Below.refl _ _ | refine Below.alloc ?_ ?_ _ | refine below_drewN ?_ _ | refine Below.drew ?_ | refine Below.setCell ?_ ?_ _ | refine Below.trans ?_ (Below.mono (by assumption) ?_))) <;> (first | omega | (simp; try omega)))) (HC3.out.pure (by (repeat (with_reducible first | exact Below.refl _ _ | refine Below.alloc ?_ ?_ _ | refine below_drewN ?_ _ | refine Below.drew ?_ | refine Below.setCell ?_ ?_ _ | refine Below.trans ?_ (Below.mono (by assumption) ?_))) <;> (first | omega | (simp; try omega)))) Hqo.out).mono ?_; rintro e w4 ⟨rfl, hb4⟩; have hz4 := hb4.size)
          | (go_at_call 21; refine (runAll_t (HL3.out.pure (by (repeat (with_reducible first | exact Below.refl _ _ | refine Below.alloc ?_ ?_ _ | refine below_drewN ?_ _ | refine Below.drew ?_ | refine Below.setCell ?_ ?_ _ | refine Below.trans ?_ (Below.mono (by assumption) ?_))) <;> (first | omega | (simp; try omega)))) (HT3.out.pure (by (repeat (with_reducible first | exact Below.refl _ _ | refine Below.alloc ?_ ?_ _ | refine below_drewN ?_ _ | refine Below.drew ?_ | refine Below.setCell ?_ ?_ _ | refine Below.trans ?_ (Below.mono (by assumption) ?_))) <;> (first | omega | (simp; try omega)))) (HC3.out.pure (by (repeat (with_reducible first | exact Below.refl _ _ | refine Below.alloc ?_ ?_ _ | refine below_drewN ?_ _ | refine Below.drew ?_ | refine Below.setCell ?_ ?_ _ | refine Below.trans ?_ (Below.mono (by assumption) ?_))) <;> (first | omega | (simp; try omega)))) Hr1.out).mono ?_; rintro e w5 ⟨px, kx, px2, kx2, rfl, -, hZ, hb5⟩))
        have hb35 : Below w3.heap.size w3 w5 := hb4.trans (hb5.mono hz4)
        have Hb35 := Lib.hid hb35
        have hz35 := hb35.size
        obtain ⟨y0, y1⟩ := HG3.out _ hb35
        have HZ := Lib.hid hZ
        have HT5 := Lib.hid (HT3.out.pure hb35)
        have HC5 := Lib.hid (HC3.out.pure hb35)
        have HL5 := Lib.hid (HL3.out.pure hb35)
        clear hb4 hb5 hz4 g0' g1' hb35 hZ
        go_upto_region 9 with (first
          | (go_at_call 17; refine (runLow_t (l := ⟨_, _⟩) (HT5.out.pure (by (repeat (with_reducible first | exact Below.refl _ _ | refine Below.alloc ?_ ?_ _ | refine below_drewN ?_ _ | refine Below.drew ?_ | refine Below.setCell ?_ ?_ _ | refine Below.trans ?_ (Below.mono (by assumption) ?_))) <;> (first | omega | (simp; try omega)))) (HC5.out.pure (by (repeat (with_reducible first | exact Below.refl _ _ | refine Below.alloc ?_ ?_ _ | refine below_drewN ?_ _ | refine Below.drew ?_ | refine Below.setCell ?_ ?_ _ | refine Below.trans ?_ (Below.mono (by assumption) ?_))) <;> (first | omega | (simp; try omega)))) Hli.out).mono ?_; rintro e w7 ⟨p7, k7, rfl, hI, hb7⟩; have hz7 := hb7.size)
          | (go_at_call 21; refine (runAll_t (HL5.out.pure (by (repeat (with_reducible first | exact Below.refl _ _ | refine Below.alloc ?_ ?_ _ | refine below_drewN ?_ _ | refine Below.drew ?_ | refine Below.setCell ?_ ?_ _ | refine Below.trans ?_ (Below.mono (by assumption) ?_))) <;> (first | omega | (simp; try omega)))) (HT5.out.pure (by (repeat (with_reducible first | exact Below.refl _ _ | refine Below.alloc ?_ ?_ _ | refine below_drewN ?_ _ | refine Below.drew ?_ | refine Below.setCell ?_ ?_ _ | refine Below.trans ?_ (Below.mono (by assumption) ?_))) <;> (first | omega | (simp; try omega)))) (hI.pure (by (repeat (with_reducible first | exact Below.refl _ _ | refine Below.alloc ?_ ?_ _ | refine below_drewN ?_ _ | refine Below.drew ?_ | refine Below.setCell ?_ ?_ _ | refine Below.trans ?_ (Below.mono (by assumption) ?_))) <;> (first | omega | (simp; try omega)))) Hr2.out).mono ?_; rintro e w6 ⟨qx, jx, qx2, jx2, rfl, -, hA2, hb6⟩))
        have hb56 : Below w5.heap.size w5 w6 := hb7.trans (hb6.mono hz7)
        have hb36 : Below w3.heap.size w3 w6 := Hb35.out.trans (hb56.mono hz35)
        obtain ⟨wx, rfl⟩ : ∃ wy : World, wy = w6 := ⟨_, rfl⟩
        have HZ6 := Lib.hid (HZ.out.pure hb56)
        have HA6 := Lib.hid hA2
        have HB6 := Lib.hid (HB3.out.trans (hb36.mono hz03))
        have HT6 := Lib.hid (HT3.out.pure hb36)
        have HC6 := Lib.hid (HC3.out.pure hb36)
        have hz6 := HB6.out.size
        obtain ⟨m0, m1⟩ := HG3.out _ hb36
        have hDx := Nat.lt_of_lt_of_le (Nat.lt_of_lt_of_le hDs hz3) hb36.size
        have HG6 := Lib.hid (show ∀ w', Below wx.heap.size wx w' → (w'.cell? ⟨D, 0, none⟩ = some (.int .i64 ls) ∧ w'.cell? ⟨D, 1, none⟩ = some (.int .i64 lv)) from fun w' h => by
          obtain ⟨hc', -⟩ := bcell h
          exact ⟨(hc' _ _ hDx).trans m0, (hc' _ _ hDx).trans m1⟩)
        clear hb6 hb7 hI hA2 hb56 hb36 m0 m1 y0 y1
        go_wp2
        go_loopw [13, 14] (fun s13 s14 wr => ∃ i : Nat, s14 = .int .i64 (i : Int) ∧ i ≤ cs.length ∧ s13 = .int .i64 ((((cs.take i).filter (fun c => flow (getT ts c.run).lab ⟨ls, lv⟩)).length : Nat) : Int) ∧ Below wx.heap.size wx wr) (fun _ s14 _ => cs.length - (intOf s14).toNat)
        case atStart => exact ⟨0, rfl, by omega, by simp, Below.refl _ _⟩
        case round =>
          obtain ⟨i, rfl, hi, rfl, hBr⟩ := hrel
          obtain ⟨wr', rfl⟩ : ∃ wy : World, wy = wr := ⟨_, rfl⟩
          obtain ⟨k11, hk11⟩ : ∃ k11, ((cs.take i).filter (fun c => flow (getT ts c.run).lab ⟨ls, lv⟩)).length = k11 := ⟨_, rfl⟩
          rw [hk11]
          have Hk := Lib.hid hk11
          have HBr := Lib.hid hBr
          have hzr := hBr.size
          clear hk11
          by_cases hlt : i < cs.length
          · obtain ⟨c, hc⟩ : ∃ c, cs[i]? = some c := ⟨_, List.getElem?_eq_getElem hlt⟩
            obtain ⟨b, o, rfl, hb, c0, c1, c2', c3, c4⟩ := (HC6.out.pure HBr.out).at i c hc
            obtain ⟨v, hv⟩ : ∃ v, flow (getT ts c.run).lab ⟨ls, lv⟩ = v := ⟨_, rfl⟩
            have Hex := Lib.hid (((runCan_iff.1 Hrc.out).2.2 c (List.mem_of_getElem? hc)).ex)
            have hn : ((cs.take (i + 1)).filter (fun c => flow (getT ts c.run).lab ⟨ls, lv⟩)).length = if v then k11 + 1 else k11 := by
              rw [filter_take hc, List.length_append, Hk.out]
              simp only [hv]
              cases v <;> rfl
            obtain ⟨a, haz⟩ : ∃ a, zs[i]? = some a := ⟨_, List.getElem?_eq_getElem (by rw [Hzl.out]; exact hlt)⟩
            have hat : v = true → az[k11]? = some a := by
              intro h
              have := lows_at (ts := ts) (l := ⟨ls, lv⟩) cs zs i c Hzl.out hc (by rw [hv, h])
              rwa [Hk.out, ← Haz.out, haz] at this
            have hk25 : k11 ≤ i := by rw [← Hk.out]; exact filter_le' _ cs i
            have hzi : i < zs.length := (List.getElem?_eq_some_iff.1 haz).1
            have Hn := Lib.hid hn
            have Hat := Lib.hid hat
            have Hza := Lib.hid haz
            have Hv := Lib.hid hv
            have hj0 : (0 : Int) ≤ (i : Int) := by omega
            have hju : (i : Int) < (cs.length : Int) := by omega
            have hjz : (i : Int) < (zs.length : Int) := by omega
            obtain ⟨k0, k1, k2, k3, k4⟩ := c
            dsimp only at c1
            clear hv hc hBr hn hat haz c0 c2' c3 c4
            obtain ⟨m0, m1⟩ := HG6.out _ HBr.out
            have hDr := Nat.lt_of_lt_of_le hDx hzr
            have HS := Lib.hid (show ∀ w' : World, Below wr'.heap.size wr' w' → (Below wr'.heap.size wr' w' ∧ w'.cell? ⟨b, o + i * 5 + 1, none⟩ = some (.int .i64 k1) ∧ w'.cell? ⟨D, 0, none⟩ = some (.int .i64 ls) ∧ w'.cell? ⟨D, 1, none⟩ = some (.int .i64 lv)) from
              fun w' h => by
                obtain ⟨hc', -⟩ := bcell h
                exact ⟨h, (hc' _ _ hb).trans c1, (hc' _ _ hDr).trans m0, (hc' _ _ hDr).trans m1⟩)
            have HT7 := Lib.hid (HT6.out.pure HBr.out)
            clear c1 m0 m1
            go_upto_region 13 with (fail)
            go_cut [74] (fun s74 wz => s74 = .bool (!v) ∧ Below wr'.heap.size wr' wz)
            case first =>
              first | (go_region_held3 (fun w' => Below wr'.heap.size wr' w' ∧ w'.cell? ⟨b, o + i * 5 + 1, none⟩ = some (.int .i64 k1) ∧ w'.cell? ⟨D, 0, none⟩ = some (.int .i64 ls) ∧ w'.cell? ⟨D, 1, none⟩ = some (.int .i64 lv))
                (first | assumption | exact HS.out _ (Below.refl _ _) | exact HS.out _ (Below.drew (Below.refl _ _)) | (have hX := And.left (by assumption : Below wr'.heap.size wr' _ ∧ _); exact HS.out _ (hX.trans (hb3.mono hX.size))))
                (first
                  | (go_at_call 22; refine (viewHigh_t (l := ⟨_, _⟩) (HT7.out.pure (And.left (by assumption : Below wr'.heap.size wr' _ ∧ _))) Htok.out Hlok.out Hex.out Hv.out).mono ?_; rintro e w1 ⟨rfl, hb3⟩))) | fail
              all_goals (go_wp2; go_meet; exact ⟨rfl, And.left (by assumption : Below wr'.heap.size wr' _ ∧ _)⟩)
            case rest =>
              obtain ⟨rfl, hBz⟩ := hcut
              obtain ⟨wz, rfl⟩ : ∃ wy : World, wy = wc := ⟨_, rfl⟩
              have HBz := Lib.hid (HBr.out.trans (hBz.mono hzr))
              cases v
              · clear hBz
                go_wp2
                exact ⟨⟨i + 1, by go_num, by omega, by rw [Hn.out]; rfl, HBz.out⟩, by simp [intOf]; omega⟩
              · have hat := Hat.out rfl
                have hkl := (List.getElem?_eq_some_iff.1 hat).1
                obtain ⟨bi, oi, rfl, hbi, d0⟩ := (HA6.out.pure HBz.out).at k11 _ hat
                obtain ⟨bj, oj, rfl, hbj, f0⟩ := (HZ6.out.pure HBz.out).at i _ Hza.out
                have hkk0 : (0 : Int) ≤ (k11 : Int) := by omega
                have hkku : (k11 : Int) < (az.length : Int) := by omega
                have hkku' : ¬ (az.length : Int) ≤ (k11 : Int) := by omega
                clear hat hBz
                go_upto_region 14 with (fail)
                go_quiet (fail)
                go_wp2
                exact ⟨⟨i + 1, by go_num, by omega, by rw [Hn.out]; first | rfl | go_num, (by first | exact HBz.out | exact below_drewN HBz.out _)⟩, by simp [intOf]; omega⟩
          · have hnl : ¬ (i : Int) < (cs.length : Int) := by omega
            have hk := Hk.out
            have hlen := lows_len (ts := ts) (l := ⟨ls, lv⟩) cs zs Hzl.out
            rw [show i = cs.length by omega, List.take_length, ← hlen, ← Haz.out] at hk
            subst hk
            clear hBr hlen
            go_wp2
            go_ret
            exact ⟨rfl, HB6.out.trans (Below.mono HBr.out hz6)⟩
  · have hgt : (1048576 : Int) < (n : Int) := by omega
    clear hbig hb hL
    go_enter Tryz.func10, Tryz.ntmps10
    go_wp2
    go_ret
    exact ⟨rfl, (by (repeat (with_reducible first | exact Below.refl _ _ | refine Below.alloc ?_ ?_ _ | refine below_drewN ?_ _ | refine Below.drew ?_ | refine Below.setCell ?_ ?_ _ | refine Below.trans ?_ (Below.mono (by assumption) ?_))) <;> (first | omega | (simp; try omega)))⟩
end Go.Proofs.YtghbphdipdjekaaGreatDoor


/- The law that who is low is answered the same, as its row says it. Conditions: those of its row; its listed variable is tied to the program's text. -/
namespace Go.Proofs.YtghbphdipdjekaaGreatDoor
open Go Go.ChangeShapes Go.WideShapes Go.RowKit Drw

set_option maxRecDepth 100000 in
theorem fnRunAnswers_lifted (os : Os) (started : os.Started) (H : Type) (enc : TypeId × Value → H) :
    ReturnsInHanded {} Tryz.checked os 10 .any (fun w args => (Rows.fnRunAnswersSpec.pre enc Tryz.prog Tryz.f10 [] false w args ∧ laidMetH Tryz.prog Rows.fnRunAnswersRow.laid w) ∧ sizedMet enc Tryz.prog Tryz.f10 (OpenSpec.ofChange Rows.fnRunAnswersSpec) false w args)
      (Rows.fnRunAnswersSpec.post enc Tryz.prog Tryz.f10 false true false false) := by
  refine returnsInHanded_of_change_and (C := Tryz.checked) (X := fun w _ => laidMetH Tryz.prog Rows.fnRunAnswersRow.laid w) (fun _ _ _ hh h => h.of_heap hh) own started (by kernel_rfl) Tryz.func10
    (ChangeSpec.witness_at (enc := enc) (C := Tryz.checked) (os := os) (X := fun w _ => laidMetH Tryz.prog Rows.fnRunAnswersRow.laid w) false (laidWorld os) #[.slice none 0 0] 8 rfl (by kernel_rfl) (by kernel_rfl) (by kernel_rfl) (by kernel_rfl) (by kernel_rfl) (laidWorld_met os _)) ?_
  intro W base args ds gs before hval0 hW _ _ hL _
  have hval : ∀ (j : Nat) t v, Tryz.f10.params[j]? = some t → args[j]? = some v → Value.okWide Tryz.prog W .any base t v := hval0
  have hW' := hW
  obtain ⟨p, q, hA0, hV0, rfl, hfz, hnd⟩ := hW
  have hA : DataW.TrodAll enc Tryz.prog W 0 (fun _ => true) true Tryz.f10.params.toList args.toList ds p := hA0
  have hV : DataW.TrodVars enc Tryz.prog W (fun _ => true) [] gs q := hV0
  rw [Tryz.params10] at hA hval
  obtain ⟨v0, d0, rfl, rfl, h0⟩ := trodAll_one hA
  have hlt : ∀ x ∈ p, x.block < W.heap.size := fun x hx => hW'.lt x (List.mem_append_left _ hx)
  obtain ⟨a, n, cap, rfl, hn, hm, hB, hcl⟩ := bytes_of (hval 0 22 v0 rfl rfl) h0
  have hl := laid_of_met hL
  obtain ⟨rfl, rfl⟩ : gs = [] ∧ q = [] := by
    cases gs with
    | nil => exact ⟨rfl, hV⟩
    | cons g r => exact absurd hV (by intro h; cases h)
  have e1 : Rows.fnRunAnswersSpec.fn H ([d0] ++ []) = { results := [.lit (.bool true)], args := [d0] } := by simp [Rows.fnRunAnswersSpec]
  refine (fnRunAnswers_c a n cap W hl hn hB).mono fun e W' ⟨he, hw⟩ => ?_
  subst he
  refine ⟨_, rfl, _, _, _, [], p, [], hW', ?_, ?_, ?_, hw.frame _, fun h => by cases h⟩
  · rw [e1]; exact trodAll_mk1 (shut_bool Tryz.underlying4 true)
  · rw [e1]; exact trodAll_mk1 (WideElems.Trod_stays lawLaidOut (by kernel_rfl) (of_decide_eq_true (by kernel_rfl)) h0 (fun x hx => World.keptBut.sameAt (hw.frame (fun _ => False)) (hlt x hx) (fun h => h) (fun b e => by obtain ⟨b', o', e'⟩ := hcl x hx; rw [e'] at e; cases e)) (fun x hx => by simpa using hlt x hx))
  · rw [e1]; rfl

theorem fnRunAnswers_said : Rows.FnRunAnswersSaid :=
  OpenClaim.holds_of_wide 10 Tryz.f10 rfl rfl rfl rfl rfl rfl rfl ⟨rfl, rfl, rfl, rfl, rfl⟩ rfl rfl rfl rfl rfl (by kernel_rfl) Tryz.func10 (by kernel_rfl)
    (of_decide_eq_true (by kernel_rfl)) (by unfold Func.isWrapper; rw [if_neg (of_decide_eq_false (by kernel_rfl))]; exact ⟨rfl, rfl⟩)
    (fun os started H enc _ => fnRunAnswers_lifted os started H enc)

theorem fnRunAnswers_holds : Rows.FnRunAnswersCardSaid :=
  Claim7.holds_tied_plain_at .later [] [.handle] true (true, "b377f68cbe446cb376d1c97b912f005ea04d6597e96568119fb4aad1cbba6cb6") true
    fnRunAnswers_said (fun _ h => by cases h) (by kernel_rfl) (fun _ h => by cases h) fnRunAnswers_row_tie rfl ⟨rfl, rfl⟩ (by kernel_rfl) rfl
    (fun f fn hf hfn => by
      obtain rfl : f = 10 := Option.some.inj ((show Tryz.prog.funcNamed "loop.example/drawbar/laws.FnRunAnswers" = some 10 by kernel_rfl).symm.trans hf) |>.symm
      obtain rfl : fn = Tryz.f10 := (Option.some.inj (Tryz.func10.symm.trans hfn)).symm
      exact ⟨by kernel_rfl, fun j t ht => by
        rw [Tryz.params10] at ht
        have h3 : t = 22 := by
          rcases j with _ | j
          · simpa using ht.symm
          · simp at ht
        subst h3
        exact (show Tryz.prog.wantsStandIn 22 = false by kernel_rfl)⟩)
    (by kernel_rfl)
#print axioms fnRunAnswers_holds
end Go.Proofs.YtghbphdipdjekaaGreatDoor
