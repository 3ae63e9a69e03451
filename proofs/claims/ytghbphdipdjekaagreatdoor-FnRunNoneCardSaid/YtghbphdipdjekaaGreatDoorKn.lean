/- The law that who does nothing is quiet, walked. Conditions: the bytes lie where their cells say; errors.errorType is laid. -/
import Derived.Test.YtghbphdipdjekaaGreatDoorLg
import Derived.Test.YtghbphdipdjekaaGreatDoorRu
import Derived.Test.YtghbphdipdjekaaGreatDoorVh
import Derived.Test.YtghbphdipdjekaaGreatDoorQq
import Derived.Test.YtghbphdipdjekaaGreatDoorKa
import Derived.Test.YtghbphdipdjekaaGreatDoorCards
import Derived.Test.YtghbphdipdjekaaGreatDoorTie
import Derived.SevenTiedAt
import Derived.Deep.Frames
set_option linter.unusedVariables false
set_option linter.unusedSimpArgs false
namespace Go.Proofs.YtghbphdipdjekaaGreatDoor
open Go.RowKit Drw
attribute [local go_sem] Lab.val Rgt.val Cal.val Thg.val

theorem runQuiet_none {ts : List Thg} {l : Lab} (ht : tabOk ts = true) (hl : labOk l = true) : runQuiet ts [] l = true := by
  have h : runCan ts [] = true := runCan_iff.2 ⟨ht, by simp, fun d hd => by cases hd⟩
  simp [runQuiet, h, hl]
theorem runLow_none (ts : List Thg) (l : Lab) : runLow ts [] l = [] := by simp [runLow]
def noGate (c : Cal) : Bool := c.kind != 9
theorem runQuiet_less {ts : List Thg} {cs : List Cal} {l : Lab} (hc : runCan ts cs = true) (hl : labOk l = true) : runQuiet ts (cs.filter noGate) l = true := by
  have h1 := runCan_iff.1 hc
  have h2 : runCan ts (cs.filter noGate) = true := runCan_iff.2 ⟨h1.1, Nat.le_trans (List.length_filter_le _ _) h1.2.1, fun d hd => h1.2.2 d (List.mem_filter.1 hd).1⟩
  simp only [runQuiet, h2, hl, Bool.true_and, List.all_eq_true]
  intro d hd
  have := (List.mem_filter.1 hd).2
  simp only [noGate] at this
  rw [this]
  rfl

theorem runLow_n {p : Option Addr} {cap : Nat} {ts : List Thg} {q : Option Addr} {c2 n : Nat} {cs : List Cal} {l : Lab} {w : World} (hT : TabAt w (.slice p ts.length cap) ts) (hC : CalsAt w (.slice q n c2) cs) (hn : n = cs.length) (h : runLow ts cs l = []) :
    Calls Tryz.prog 17 #[.slice p ts.length cap, .slice q n c2, l.val] w fun e w' => ∃ q' k, e = .returned (.slice q' 0 k) ∧ Below w.heap.size w w' := by
  subst hn
  have := runLow_c p cap ts q c2 cs l w hT hC
  rw [h] at this
  exact this.mono fun e w' ⟨q', k, h1, _, h3⟩ => ⟨q', k, h1, h3⟩
theorem runQuiet_n {p : Option Addr} {cap : Nat} {ts : List Thg} {q : Option Addr} {c2 n : Nat} {cs : List Cal} {l : Lab} {w : World} {v : Bool} (hT : TabAt w (.slice p ts.length cap) ts) (hC : CalsAt w (.slice q n c2) cs) (hn : n = cs.length) (h : runQuiet ts cs l = v) :
    Calls Tryz.prog 29 #[.slice p ts.length cap, .slice q n c2, l.val] w fun e w' => e = .returned (.bool v) ∧ Below w.heap.size w w' := by
  subst hn; subst h; exact runQuiet_c p cap ts q c2 cs l w hT hC
theorem runQuiet_t {p : Option Addr} {cap : Nat} {ts : List Thg} {q : Option Addr} {c2 : Nat} {cs : List Cal} {l : Lab} {w : World} {v : Bool} (hT : TabAt w (.slice p ts.length cap) ts) (hC : CalsAt w (.slice q cs.length c2) cs) (h : runQuiet ts cs l = v) :
    Calls Tryz.prog 29 #[.slice p ts.length cap, .slice q cs.length c2, l.val] w fun e w' => e = .returned (.bool v) ∧ Below w.heap.size w w' := by
  subst h; exact runQuiet_c p cap ts q c2 cs l w hT hC
theorem srunQuiet_t {p : Option Addr} {cap : Nat} {ts : List Thg} {q : Option Addr} {c2 : Nat} {cs : List Cal} {l : Lab} {w : World} {v : Bool} (hT : TabAt w (.slice p ts.length cap) ts) (hC : CalsAt w (.slice q cs.length c2) cs) (h : runQuiet ts cs l = v) :
    Calls Tryz.prog 30 #[.slice p ts.length cap, .slice q cs.length c2, l.val] w fun e w' => e = .returned (.bool v) ∧ Below w.heap.size w w' := by
  subst h; exact srunQuiet_c p cap ts q c2 cs l w hT hC

set_option maxRecDepth 100000 in
set_option maxHeartbeats 8000000 in
theorem fnRunNone_c (p : Option Addr) (n cap : Nat) (w : World) (hL : Laid w) (hc : n ≤ cap) (hb : BytesAt w p n) :
    Calls Tryz.prog 9 #[.slice p n cap] w fun e w' => e = .returned (.bool true) ∧ Below w.heap.size w w' := by
  by_cases hbig : n ≤ 1048576
  · have hle : ¬ (1048576 : Int) < (n : Int) := by omega
    have Hb := Lib.hid hb
    have HL := Lib.hid hL
    clear hb hL
    go_enter Tryz.func9, Tryz.ntmps9
    go_upto_region 3 with (fail)
    go_cut [3, 4, 5] (fun s3 s4 s5 wz => ∃ (q : Option Addr) (k : Nat) (ts : List Thg) (q2 : Option Addr) (k2 : Nat) (cs : List Cal) (ls lv : Int) (D : Nat), s3 = .slice q ts.length k ∧ s4 = .slice q2 cs.length k2 ∧ s5 = .pointer (some ⟨D, 0, none⟩) ∧ (wz.cell? ⟨D, 0, none⟩ = some (.int .i64 ls) ∧ wz.cell? ⟨D, 1, none⟩ = some (.int .i64 lv)) ∧ TabAt wz (.slice q ts.length k) ts ∧ CalsAt wz (.slice q2 cs.length k2) cs ∧ 3 ≤ ts.length ∧ ts.length ≤ 8 ∧ cs.length ≤ 25 ∧ Below w.heap.size w wz)
    case first =>
      go_wp2_with (go_at_call 28; refine (drawRunQuiet_c p n cap _ hc Hb.out (by omega)).mono ?_; rintro e w1 ⟨q, k, ts, q2, k2, cs, ⟨ls, lv⟩, rfl, hTC, hl3, hl8, hcl, hb1⟩)
      go_meet
      obtain ⟨hT, hC⟩ := hTC (fun _ => False) w1 (Chg.refl _ _) (fun _ _ h => h)
      have hz1 := hb1.size
      exact ⟨q, k, ts, q2, k2, cs, ls, lv, _, rfl, rfl, rfl, by simp [go_sem], hT.pure (by (repeat (with_reducible first | exact Below.refl _ _ | refine Below.alloc ?_ ?_ _ | refine below_drewN ?_ _ | refine Below.drew ?_ | refine Below.setCell ?_ ?_ _ | refine Below.trans ?_ (Below.mono (by assumption) ?_))) <;> (first | omega | (simp; try omega))), hC.pure (by (repeat (with_reducible first | exact Below.refl _ _ | refine Below.alloc ?_ ?_ _ | refine below_drewN ?_ _ | refine Below.drew ?_ | refine Below.setCell ?_ ?_ _ | refine Below.trans ?_ (Below.mono (by assumption) ?_))) <;> (first | omega | (simp; try omega))), hl3, hl8, hcl, (by (repeat (with_reducible first | exact Below.refl _ _ | refine Below.alloc ?_ ?_ _ | refine below_drewN ?_ _ | refine Below.drew ?_ | refine Below.setCell ?_ ?_ _ | refine Below.trans ?_ (Below.mono (by assumption) ?_))) <;> (first | omega | (simp; try omega)))⟩
    case rest =>
      obtain ⟨q, k, ts, q2, k2, cs, ls, lv, D, rfl, rfl, rfl, ⟨g0, g1⟩, hT, hC, hl3, hl8, hcl, hB⟩ := hcut
      obtain ⟨wa, rfl⟩ : ∃ wy : World, wy = wc := ⟨_, rfl⟩
      have hDs := World.block_lt_of_cell? _ _ g0
      have hL := HL.out.pure hB
      have HB := Lib.hid hB
      have hz0 := hB.size
      have HG := Lib.hid (show ∀ w', Below wa.heap.size wa w' → (w'.cell? ⟨D, 0, none⟩ = some (.int .i64 ls) ∧ w'.cell? ⟨D, 1, none⟩ = some (.int .i64 lv)) from fun w' h => by
        obtain ⟨hc', -⟩ := bcell h
        exact ⟨(hc' _ _ hDs).trans g0, (hc' _ _ hDs).trans g1⟩)
      obtain ⟨qo, hqo⟩ : ∃ qo, runQuiet ts cs ⟨ls, lv⟩ = qo := ⟨_, rfl⟩
      have Hqo := Lib.hid hqo
      have HT := Lib.hid hT
      have HC := Lib.hid hC
      have HLa := Lib.hid hL
      clear hqo hT hC hL hB HL Hb
      go_upto_region 5 with (first
        | (go_at_call 29; refine (runQuiet_t (l := ⟨_, _⟩) (HT.out.pure (by (repeat (with_reducible first | exact Below.refl _ _ | refine Below.alloc ?_ ?_ _ | refine below_drewN ?_ _ | refine Below.drew ?_ | refine Below.setCell ?_ ?_ _ | refine Below.trans ?_ (Below.mono (by assumption) ?_))) <;> (first | omega | (simp; try omega)))) (HC.out.pure (by (repeat (with_reducible first | exact Below.refl _ _ | refine Below.alloc ?_ ?_ _ | refine below_drewN ?_ _ | refine Below.drew ?_ | refine Below.setCell ?_ ?_ _ | refine Below.trans ?_ (Below.mono (by assumption) ?_))) <;> (first | omega | (simp; try omega)))) Hqo.out).mono ?_; rintro e w3 ⟨rfl, hb13⟩))
      obtain ⟨g0', g1'⟩ := HG.out _ hb13
      have hz3 := hb13.size
      have Hb3 := Lib.hid hb13
      have HB3 := Lib.hid (HB.out.trans (hb13.mono hz0))
      have HT3 := Lib.hid (HT.out.pure hb13)
      have HC3 := Lib.hid (HC.out.pure hb13)
      have HL3 := Lib.hid (HLa.out.pure hb13)
      have hz03 := HB3.out.size
      have HG3 := Lib.hid (show ∀ w', Below w3.heap.size w3 w' → (w'.cell? ⟨D, 0, none⟩ = some (.int .i64 ls) ∧ w'.cell? ⟨D, 1, none⟩ = some (.int .i64 lv)) from fun w' h => HG.out _ (Hb3.out.trans (h.mono hz3)))
      clear g0 g1 hb13 HB HT HC HLa
      obtain ⟨tok, htok⟩ : ∃ b, tabOk ts = b := ⟨_, rfl⟩
      obtain ⟨lok, hlok⟩ : ∃ b, labOk ⟨ls, lv⟩ = b := ⟨_, rfl⟩
      have Htok := Lib.hid htok
      have Hlok := Lib.hid hlok
      clear htok hlok
      cases tok
      · go_upto_region 6 with (first
          | (go_at_call 30; refine (srunQuiet_t (l := ⟨_, _⟩) (HT3.out.pure (by (repeat (with_reducible first | exact Below.refl _ _ | refine Below.alloc ?_ ?_ _ | refine below_drewN ?_ _ | refine Below.drew ?_ | refine Below.setCell ?_ ?_ _ | refine Below.trans ?_ (Below.mono (by assumption) ?_))) <;> (first | omega | (simp; try omega)))) (HC3.out.pure (by (repeat (with_reducible first | exact Below.refl _ _ | refine Below.alloc ?_ ?_ _ | refine below_drewN ?_ _ | refine Below.drew ?_ | refine Below.setCell ?_ ?_ _ | refine Below.trans ?_ (Below.mono (by assumption) ?_))) <;> (first | omega | (simp; try omega)))) Hqo.out).mono ?_; rintro e w8 ⟨rfl, hb8⟩; have hz8 := hb8.size)
          | (go_at_call 19; refine (stableOk_t (HT3.out.pure (by (repeat (with_reducible first | exact Below.refl _ _ | refine Below.alloc ?_ ?_ _ | refine below_drewN ?_ _ | refine Below.drew ?_ | refine Below.setCell ?_ ?_ _ | refine Below.trans ?_ (Below.mono (by assumption) ?_))) <;> (first | omega | (simp; try omega)))) Htok.out).mono ?_; rintro e w4 ⟨rfl, hb4⟩; have hz4 := hb4.size))
        have hb34 : Below w3.heap.size w3 w4 := hb8.trans (hb4.mono hz8)
        obtain ⟨y0, y1⟩ := HG3.out _ hb34
        have hz34 := hb34.size
        clear hb8 hb4 hz8 hz4
        go_wp2_with (first
          | (go_at_call 30; refine (srunQuiet_t (l := ⟨_, _⟩) ((HT3.out.pure hb34).pure (by (repeat (with_reducible first | exact Below.refl _ _ | refine Below.alloc ?_ ?_ _ | refine below_drewN ?_ _ | refine Below.drew ?_ | refine Below.setCell ?_ ?_ _ | refine Below.trans ?_ (Below.mono (by assumption) ?_))) <;> (first | omega | (simp; try omega)))) ((HC3.out.pure hb34).pure (by (repeat (with_reducible first | exact Below.refl _ _ | refine Below.alloc ?_ ?_ _ | refine below_drewN ?_ _ | refine Below.drew ?_ | refine Below.setCell ?_ ?_ _ | refine Below.trans ?_ (Below.mono (by assumption) ?_))) <;> (first | omega | (simp; try omega)))) Hqo.out).mono ?_; rintro e w9 ⟨rfl, hb9⟩))
        go_ret
        exact ⟨by cases qo <;> rfl, HB3.out.trans (Below.mono (hb34.trans (hb9.mono hz34)) hz03)⟩
      · cases lok
        · go_upto_region 6 with (first
            | (go_at_call 30; refine (srunQuiet_t (l := ⟨_, _⟩) (HT3.out.pure (by (repeat (with_reducible first | exact Below.refl _ _ | refine Below.alloc ?_ ?_ _ | refine below_drewN ?_ _ | refine Below.drew ?_ | refine Below.setCell ?_ ?_ _ | refine Below.trans ?_ (Below.mono (by assumption) ?_))) <;> (first | omega | (simp; try omega)))) (HC3.out.pure (by (repeat (with_reducible first | exact Below.refl _ _ | refine Below.alloc ?_ ?_ _ | refine below_drewN ?_ _ | refine Below.drew ?_ | refine Below.setCell ?_ ?_ _ | refine Below.trans ?_ (Below.mono (by assumption) ?_))) <;> (first | omega | (simp; try omega)))) Hqo.out).mono ?_; rintro e w8 ⟨rfl, hb8⟩; have hz8 := hb8.size)
            | (go_at_call 19; refine (stableOk_t (HT3.out.pure (by (repeat (with_reducible first | exact Below.refl _ _ | refine Below.alloc ?_ ?_ _ | refine below_drewN ?_ _ | refine Below.drew ?_ | refine Below.setCell ?_ ?_ _ | refine Below.trans ?_ (Below.mono (by assumption) ?_))) <;> (first | omega | (simp; try omega)))) Htok.out).mono ?_; rintro e w4 ⟨rfl, hb4⟩; have hz4 := hb4.size; obtain ⟨y0, y1⟩ := HG3.out _ (hb8.trans (hb4.mono hz8)))
            | (go_at_call 20; refine (slabelOk_t (l := ⟨_, _⟩) Hlok.out).mono ?_; rintro e w5 ⟨rfl, hb5⟩; have hz5 := hb5.size))
          have hb34 : Below w3.heap.size w3 w5 := hb8.trans (Below.mono (hb4.trans (hb5.mono hz4)) hz8)
          clear y0 y1
          obtain ⟨y0, y1⟩ := HG3.out _ hb34
          have hz34 := hb34.size
          clear hb8 hb4 hz8 hz4 hb5 hz5
          go_wp2_with (first
            | (go_at_call 30; refine (srunQuiet_t (l := ⟨_, _⟩) ((HT3.out.pure hb34).pure (by (repeat (with_reducible first | exact Below.refl _ _ | refine Below.alloc ?_ ?_ _ | refine below_drewN ?_ _ | refine Below.drew ?_ | refine Below.setCell ?_ ?_ _ | refine Below.trans ?_ (Below.mono (by assumption) ?_))) <;> (first | omega | (simp; try omega)))) ((HC3.out.pure hb34).pure (by (repeat (with_reducible first | exact Below.refl _ _ | refine Below.alloc ?_ ?_ _ | refine below_drewN ?_ _ | refine Below.drew ?_ | refine Below.setCell ?_ ?_ _ | refine Below.trans ?_ (Below.mono (by assumption) ?_))) <;> (first | omega | (simp; try omega)))) Hqo.out).mono ?_; rintro e w9 ⟨rfl, hb9⟩))
          go_ret
          exact ⟨by cases qo <;> rfl, HB3.out.trans (Below.mono (hb34.trans (hb9.mono hz34)) hz03)⟩
        · obtain ⟨us, zs, rok, hrun⟩ : ∃ us zs rok, runAll ts cs = (us, zs, rok) := ⟨_, _, _, rfl⟩
          have Hrun := Lib.hid hrun
          have hrc : runCan ts cs = rok := by
            unfold runAll at hrun
            split at hrun
            · cases hrun; assumption
            · cases hrun; rename_i h; simpa using h
          clear hrun
          go_upto_region 7 with (first
            | (go_at_call 30; refine (srunQuiet_t (l := ⟨_, _⟩) (HT3.out.pure (by (repeat (with_reducible first | exact Below.refl _ _ | refine Below.alloc ?_ ?_ _ | refine below_drewN ?_ _ | refine Below.drew ?_ | refine Below.setCell ?_ ?_ _ | refine Below.trans ?_ (Below.mono (by assumption) ?_))) <;> (first | omega | (simp; try omega)))) (HC3.out.pure (by (repeat (with_reducible first | exact Below.refl _ _ | refine Below.alloc ?_ ?_ _ | refine below_drewN ?_ _ | refine Below.drew ?_ | refine Below.setCell ?_ ?_ _ | refine Below.trans ?_ (Below.mono (by assumption) ?_))) <;> (first | omega | (simp; try omega)))) Hqo.out).mono ?_; rintro e w8 ⟨rfl, hb8⟩; have hz8 := hb8.size)
            | (go_at_call 19; refine (stableOk_t (HT3.out.pure (by (repeat (with_reducible first | exact Below.refl _ _ | refine Below.alloc ?_ ?_ _ | refine below_drewN ?_ _ | refine Below.drew ?_ | refine Below.setCell ?_ ?_ _ | refine Below.trans ?_ (Below.mono (by assumption) ?_))) <;> (first | omega | (simp; try omega)))) Htok.out).mono ?_; rintro e w4 ⟨rfl, hb4⟩; have hz4 := hb4.size; obtain ⟨y0, y1⟩ := HG3.out _ (hb8.trans (hb4.mono hz8)))
            | (go_at_call 20; refine (slabelOk_t (l := ⟨_, _⟩) Hlok.out).mono ?_; rintro e w5 ⟨rfl, hb5⟩; have hz5 := hb5.size))
          have hb35 : Below w3.heap.size w3 w5 := hb8.trans (Below.mono (hb4.trans (hb5.mono hz4)) hz8)
          have Hb35 := Lib.hid hb35
          have hz35 := hb35.size
          clear y0 y1 hb8 hb4 hz8 hz4 hb5 hz5 g0' g1'
          have hlr : labOk ⟨ls, lv⟩ = true := Hlok.out
          have htr : tabOk ts = true := Htok.out
          obtain ⟨i0, hi0, hzz0, hzz1, hzz2⟩ := info_parts info_cal
          have Hrc := Lib.hid hrc
          have Hqn := Lib.hid (runQuiet_none htr hlr)
          have Hln := Lib.hid (runLow_none ts ⟨ls, lv⟩)
          clear hrc hlr htr
          go_upto_region 8 with (first
            | (go_at_call 21; refine (runAll_t (HL3.out.pure (by (repeat (with_reducible first | exact Below.refl _ _ | refine Below.alloc ?_ ?_ _ | refine below_drewN ?_ _ | refine Below.drew ?_ | refine Below.setCell ?_ ?_ _ | refine Below.trans ?_ (Below.mono (by assumption) ?_))) <;> (first | omega | (simp; try omega)))) (HT3.out.pure (by (repeat (with_reducible first | exact Below.refl _ _ | refine Below.alloc ?_ ?_ _ | refine below_drewN ?_ _ | refine Below.drew ?_ | refine Below.setCell ?_ ?_ _ | refine Below.trans ?_ (Below.mono (by assumption) ?_))) <;> (first | omega | (simp; try omega)))) (HC3.out.pure (by (repeat (with_reducible first | exact Below.refl _ _ | refine Below.alloc ?_ ?_ _ | refine below_drewN ?_ _ | refine Below.drew ?_ | refine Below.setCell ?_ ?_ _ | refine Below.trans ?_ (Below.mono (by assumption) ?_))) <;> (first | omega | (simp; try omega)))) Hrun.out).mono ?_; rintro e w6 ⟨px, kx, px2, kx2, rfl, -, -, hb6⟩))
          have hb36 : Below w3.heap.size w3 w6 := Hb35.out.trans (hb6.mono hz35)
          obtain ⟨wx, rfl⟩ : ∃ wy : World, wy = w6 := ⟨_, rfl⟩
          have HB6 := Lib.hid (HB3.out.trans (hb36.mono hz03))
          have HT6 := Lib.hid (HT3.out.pure hb36)
          have HC6 := Lib.hid (HC3.out.pure hb36)
          have hz6 := HB6.out.size
          obtain ⟨m0, m1⟩ := HG3.out _ hb36
          have hDx := Nat.lt_of_lt_of_le (Nat.lt_of_lt_of_le hDs hz3) hb36.size
          have HG6 := Lib.hid (show ∀ w', Below wx.heap.size wx w' → (w'.cell? ⟨D, 0, none⟩ = some (.int .i64 ls) ∧ w'.cell? ⟨D, 1, none⟩ = some (.int .i64 lv)) from fun w' h => by
            obtain ⟨hc', -⟩ := bcell h
            exact ⟨(hc' _ _ hDx).trans m0, (hc' _ _ hDx).trans m1⟩)
          have hlit : (wx.alloc (.cells #[] 37)).ownsRow wx.heap.size 37 5 (.slice (some ⟨wx.heap.size, 0, none⟩) 0 0) 0 [] := own_lit wx.heap.size rfl (Nat.le_refl _)
          have Hlit := Lib.hid hlit
          clear hb6 hb36 m0 m1 hlit
          go_wp2
          go_loopw [10, 11] (fun s10 s11 wr => ∃ i : Nat, s11 = .int .i64 (i : Int) ∧ i ≤ cs.length ∧ (rok = false → i = 0) ∧ wr.ownsRow wx.heap.size 37 5 s10 ((cs.take i).filter noGate).length ((((cs.take i).filter noGate).map Cal.cells).flatten) ∧ Below wx.heap.size wx wr) (fun _ s11 _ => cs.length - (intOf s11).toNat)
          case atStart => exact ⟨0, rfl, by omega, fun _ => rfl, by simpa using Hlit.out, (by (repeat (with_reducible first | exact Below.refl _ _ | refine Below.alloc ?_ ?_ _ | refine below_drewN ?_ _ | refine Below.drew ?_ | refine Below.setCell ?_ ?_ _ | refine Below.trans ?_ (Below.mono (by assumption) ?_))) <;> (first | omega | (simp; try omega)))⟩
          case round =>
            obtain ⟨i, rfl, hi, hz0, hown, hBr⟩ := hrel
            have hle := filter_le' noGate cs i
            obtain ⟨fl, hfl⟩ : ∃ fl, (cs.take i).filter noGate = fl := ⟨_, rfl⟩
            rw [hfl] at hown hle
            have Hfl := Lib.hid hfl
            have Hown := Lib.hid hown
            obtain ⟨q7, c7, rfl⟩ := own_slice_n hown
            obtain ⟨wr', rfl⟩ : ∃ wy : World, wy = wr := ⟨_, rfl⟩
            have HBr := Lib.hid hBr
            have hzr := hBr.size
            clear hfl hown hBr
            cases rok
            · obtain rfl : i = 0 := hz0 rfl
              obtain rfl : fl = [] := by rw [← Hfl.out]; rfl
              have hls : CalsAt wr' (.slice q7 0 c7) [] := Rows.of_own (flat_cals []) Hown.out
              have hlq := Hqn.out
              clear hz0
              have HTr := Lib.hid (HT6.out.pure HBr.out)
              have HLs := Lib.hid hls
              have Hlq := Lib.hid hlq
              obtain ⟨y0, y1⟩ := HG6.out _ HBr.out
              have hDr := Nat.lt_of_lt_of_le hDx hzr
              have HG7 := Lib.hid (show ∀ w', Below wr'.heap.size wr' w' → (w'.cell? ⟨D, 0, none⟩ = some (.int .i64 ls) ∧ w'.cell? ⟨D, 1, none⟩ = some (.int .i64 lv)) from fun w' h => by
                obtain ⟨hc', -⟩ := bcell h
                exact ⟨(hc' _ _ hDr).trans y0, (hc' _ _ hDr).trans y1⟩)
              have HE := Lib.hid (show CalsAt wr' (.slice none 0 0) [] from ⟨none, 0, rfl, by simp, by simp, .inl rfl⟩)
              clear hls hlq
              go_wp2_with (first
                | (go_at_call 17; refine (runLow_n (cs := []) (l := ⟨_, _⟩) (HTr.out.pure ha12) (HE.out.pure ha12) rfl Hln.out).mono ?_; rintro e wa3 ⟨q9, k9, rfl, ha3⟩)
                | (go_at_call 29; refine (runQuiet_n (cs := []) (l := ⟨_, _⟩) (HTr.out.pure ha1) (HLs.out.pure ha1) rfl Hlq.out).mono ?_; rintro e wa2 ⟨rfl, ha2⟩; have hza2 := ha2.size; have ha12 : Below wr'.heap.size wr' wa2 := ha1.trans (ha2.mono hza1); obtain ⟨z2, z3⟩ := HG7.out _ ha12)
                | (go_at_call 29; refine (runQuiet_n (cs := []) (l := ⟨_, _⟩) HTr.out HE.out rfl Hqn.out).mono ?_; rintro e wa1 ⟨rfl, ha1⟩; have hza1 := ha1.size; obtain ⟨z0, z1⟩ := HG7.out _ ha1))
              go_ret
              exact ⟨rfl, HB6.out.trans (Below.mono (HBr.out.trans (Below.mono (ha12.trans (ha3.mono (Nat.le_trans hza1 hza2))) hzr)) hz6)⟩
            · clear hz0
              have hcn := runCan_iff.1 Hrc.out
              have h40 : cs.length ≤ 40 := hcn.2.1
              clear hcn
              by_cases hlt : i < cs.length
              · obtain ⟨c, hc⟩ : ∃ c, cs[i]? = some c := ⟨_, List.getElem?_eq_getElem hlt⟩
                obtain ⟨b, o, rfl, hb, c0, c1, c2', c3, c4⟩ := (HC6.out.pure HBr.out).at i c hc
                have Hc := Lib.hid hc
                have hj0 : (0 : Int) ≤ (i : Int) := by omega
                have hju : (i : Int) < (cs.length : Int) := by omega
                obtain ⟨k0, k1, k2, k3, k4⟩ := c
                dsimp only at c0 c1 c2' c3 c4
                clear hc
                by_cases hk : k0 = 9
                · subst hk
                  go_wp2
                  refine ⟨⟨i + 1, by go_num, by omega, (fun h => by cases h), ?_, HBr.out⟩, by simp [intOf]; omega⟩
                  rw [filter_take Hc.out, Hfl.out]
                  simpa [noGate] using Hown.out
                · have hg : noGate ⟨k0, k1, k2, k3, k4⟩ = true := by simpa [noGate] using hk
                  have Hg := Lib.hid hg
                  clear hg
                  go_wp2_with (first | (at_builtin; refine wpList_append_rows rfl (.tmp 70) (.tmp 75) 24 rfl wx.heap.size 37 i0 _ 5 40 Tryz.underlying24 hi0 hzz0 hzz1 hzz2 rfl (by decide) (.slice q7 fl.length c7) fl.length ((fl.map Cal.cells).flatten) rfl (own_below Hown.out (by (repeat (with_reducible first | exact Below.refl _ _ | refine Below.alloc ?_ ?_ _ | refine below_drewN ?_ _ | refine Below.drew ?_ | refine Below.setCell ?_ ?_ _ | refine Below.trans ?_ (Below.mono (by assumption) ?_))) <;> (first | omega | (simp; try omega)))) (.slice (some ⟨wr'.heap.size, 0, none⟩) 1 1) [Cal.cells ⟨k0, k1, k2, k3, k4⟩] rfl (flat_cals [⟨k0, k1, k2, k3, k4⟩]) (Rows.one (by intro i u hu; rcases i with _ | _ | _ | _ | _ | i <;> simp [Cal.cells] at hu <;> (try subst hu) <;> simp [go_sem])) (by simp [maxLen] <;> omega) (by simp <;> omega) (by simp <;> omega) ?_; intro v4 w4 ho4 hg4))
                  have hB4 : Below wx.heap.size wx w4 := Below.grown (HBr.out.alloc hzr _) hg4 (by simp <;> omega) (fun k hk => (Hown.out.lt k hk).1)
                  have fin : w4.ownsRow wx.heap.size 37 5 v4 ((cs.take (i + 1)).filter noGate).length ((((cs.take (i + 1)).filter noGate).map Cal.cells).flatten) := by
                    rw [filter_take Hc.out, Hg.out, Hfl.out]
                    simpa using ho4
                  have Fin := Lib.hid fin
                  clear fin ho4 hg4
                  go_wp2
                  exact ⟨⟨i + 1, by go_num, by omega, (fun h => by cases h), Fin.out, hB4⟩, by simp [intOf]; omega⟩
              · have hnl : ¬ (i : Int) < (cs.length : Int) := by omega
                have hil : i = cs.length := by omega
                have hflc := Hfl.out
                rw [hil, List.take_length] at hflc
                have hls : CalsAt wr' (.slice q7 fl.length c7) fl := Rows.of_own (flat_cals _) (by rw [List.length_map]; exact Hown.out)
                have hlq : runQuiet ts fl ⟨ls, lv⟩ = true := by rw [← hflc]; exact runQuiet_less Hrc.out Hlok.out
                clear hil hflc
                have HTr := Lib.hid (HT6.out.pure HBr.out)
                have HLs := Lib.hid hls
                have Hlq := Lib.hid hlq
                obtain ⟨y0, y1⟩ := HG6.out _ HBr.out
                have hDr := Nat.lt_of_lt_of_le hDx hzr
                have HG7 := Lib.hid (show ∀ w', Below wr'.heap.size wr' w' → (w'.cell? ⟨D, 0, none⟩ = some (.int .i64 ls) ∧ w'.cell? ⟨D, 1, none⟩ = some (.int .i64 lv)) from fun w' h => by
                  obtain ⟨hc', -⟩ := bcell h
                  exact ⟨(hc' _ _ hDr).trans y0, (hc' _ _ hDr).trans y1⟩)
                have HE := Lib.hid (show CalsAt wr' (.slice none 0 0) [] from ⟨none, 0, rfl, by simp, by simp, .inl rfl⟩)
                clear hls hlq
                go_wp2_with (first
                  | (go_at_call 17; refine (runLow_n (cs := []) (l := ⟨_, _⟩) (HTr.out.pure ha12) (HE.out.pure ha12) rfl Hln.out).mono ?_; rintro e wa3 ⟨q9, k9, rfl, ha3⟩)
                  | (go_at_call 29; refine (runQuiet_n (cs := fl) (l := ⟨_, _⟩) (HTr.out.pure ha1) (HLs.out.pure ha1) rfl Hlq.out).mono ?_; rintro e wa2 ⟨rfl, ha2⟩; have hza2 := ha2.size; have ha12 : Below wr'.heap.size wr' wa2 := ha1.trans (ha2.mono hza1); obtain ⟨z2, z3⟩ := HG7.out _ ha12)
                  | (go_at_call 29; refine (runQuiet_n (cs := []) (l := ⟨_, _⟩) HTr.out HE.out rfl Hqn.out).mono ?_; rintro e wa1 ⟨rfl, ha1⟩; have hza1 := ha1.size; obtain ⟨z0, z1⟩ := HG7.out _ ha1))
                go_ret
                exact ⟨rfl, HB6.out.trans (Below.mono (HBr.out.trans (Below.mono (ha12.trans (ha3.mono (Nat.le_trans hza1 hza2))) hzr)) hz6)⟩
  · have hgt : (1048576 : Int) < (n : Int) := by omega
    clear hbig hb hL
    go_enter Tryz.func9, Tryz.ntmps9
    go_wp2
    go_ret
    exact ⟨rfl, (by (repeat (with_reducible first | exact Below.refl _ _ | refine Below.alloc ?_ ?_ _ | refine below_drewN ?_ _ | refine Below.drew ?_ | refine Below.setCell ?_ ?_ _ | refine Below.trans ?_ (Below.mono (by assumption) ?_))) <;> (first | omega | (simp; try omega)))⟩
end Go.Proofs.YtghbphdipdjekaaGreatDoor

/- The law that calls are quiet if nothing goes through a gate from above, as its row says it. Conditions: those of its row; its listed variable is tied to the program's text. -/
namespace Go.Proofs.YtghbphdipdjekaaGreatDoor
open Go Go.ChangeShapes Go.WideShapes Go.RowKit Drw

set_option maxRecDepth 100000 in
theorem fnRunNone_lifted (os : Os) (started : os.Started) (H : Type) (enc : TypeId × Value → H) :
    ReturnsInHanded {} Tryz.checked os 9 .any (fun w args => (Rows.fnRunNoneSpec.pre enc Tryz.prog Tryz.f9 [] false w args ∧ laidMetH Tryz.prog Rows.fnRunNoneRow.laid w) ∧ sizedMet enc Tryz.prog Tryz.f9 (OpenSpec.ofChange Rows.fnRunNoneSpec) false w args)
      (Rows.fnRunNoneSpec.post enc Tryz.prog Tryz.f9 false true false false) := by
  refine returnsInHanded_of_change_and (C := Tryz.checked) (X := fun w _ => laidMetH Tryz.prog Rows.fnRunNoneRow.laid w) (fun _ _ _ hh h => h.of_heap hh) own started (by kernel_rfl) Tryz.func9
    (ChangeSpec.witness_at (enc := enc) (C := Tryz.checked) (os := os) (X := fun w _ => laidMetH Tryz.prog Rows.fnRunNoneRow.laid w) false (laidWorld os) #[.slice none 0 0] 8 rfl (by kernel_rfl) (by kernel_rfl) (by kernel_rfl) (by kernel_rfl) (by kernel_rfl) (laidWorld_met os _)) ?_
  intro W base args ds gs before hval0 hW _ _ hL _
  have hval : ∀ (j : Nat) t v, Tryz.f9.params[j]? = some t → args[j]? = some v → Value.okWide Tryz.prog W .any base t v := hval0
  have hW' := hW
  obtain ⟨p, q, hA0, hV0, rfl, hfz, hnd⟩ := hW
  have hA : DataW.TrodAll enc Tryz.prog W 0 (fun _ => true) true Tryz.f9.params.toList args.toList ds p := hA0
  have hV : DataW.TrodVars enc Tryz.prog W (fun _ => true) [] gs q := hV0
  rw [Tryz.params9] at hA hval
  obtain ⟨v0, d0, rfl, rfl, h0⟩ := trodAll_one hA
  have hlt : ∀ x ∈ p, x.block < W.heap.size := fun x hx => hW'.lt x (List.mem_append_left _ hx)
  obtain ⟨a, n, cap, rfl, hn, hm, hB, hcl⟩ := bytes_of (hval 0 22 v0 rfl rfl) h0
  have hl := laid_of_met hL
  obtain ⟨rfl, rfl⟩ : gs = [] ∧ q = [] := by
    cases gs with
    | nil => exact ⟨rfl, hV⟩
    | cons g r => exact absurd hV (by intro h; cases h)
  have e1 : Rows.fnRunNoneSpec.fn H ([d0] ++ []) = { results := [.lit (.bool true)], args := [d0] } := by simp [Rows.fnRunNoneSpec]
  refine (fnRunNone_c a n cap W hl hn hB).mono fun e W' ⟨he, hw⟩ => ?_
  subst he
  refine ⟨_, rfl, _, _, _, [], p, [], hW', ?_, ?_, ?_, hw.frame _, fun h => by cases h⟩
  · rw [e1]; exact trodAll_mk1 (shut_bool Tryz.underlying4 true)
  · rw [e1]; exact trodAll_mk1 (WideElems.Trod_stays lawLaidOut (by kernel_rfl) (of_decide_eq_true (by kernel_rfl)) h0 (fun x hx => World.keptBut.sameAt (hw.frame (fun _ => False)) (hlt x hx) (fun h => h) (fun b e => by obtain ⟨b', o', e'⟩ := hcl x hx; rw [e'] at e; cases e)) (fun x hx => by simpa using hlt x hx))
  · rw [e1]; rfl

theorem fnRunNone_said : Rows.FnRunNoneSaid :=
  OpenClaim.holds_of_wide 9 Tryz.f9 rfl rfl rfl rfl rfl rfl rfl ⟨rfl, rfl, rfl, rfl, rfl⟩ rfl rfl rfl rfl rfl (by kernel_rfl) Tryz.func9 (by kernel_rfl)
    (of_decide_eq_true (by kernel_rfl)) (by unfold Func.isWrapper; rw [if_neg (of_decide_eq_false (by kernel_rfl))]; exact ⟨rfl, rfl⟩)
    (fun os started H enc _ => fnRunNone_lifted os started H enc)

theorem fnRunNone_holds : Rows.FnRunNoneCardSaid :=
  Claim7.holds_tied_plain_at .later [] [.handle] true (true, "b377f68cbe446cb376d1c97b912f005ea04d6597e96568119fb4aad1cbba6cb6") true
    fnRunNone_said (fun _ h => by cases h) (by kernel_rfl) (fun _ h => by cases h) fnRunNone_row_tie rfl ⟨rfl, rfl⟩ (by kernel_rfl) rfl
    (fun f fn hf hfn => by
      obtain rfl : f = 9 := Option.some.inj ((show Tryz.prog.funcNamed "loop.example/drawbar/laws.FnRunNone" = some 9 by kernel_rfl).symm.trans hf) |>.symm
      obtain rfl : fn = Tryz.f9 := (Option.some.inj (Tryz.func9.symm.trans hfn)).symm
      exact ⟨by kernel_rfl, fun j t ht => by
        rw [Tryz.params9] at ht
        have h3 : t = 22 := by
          rcases j with _ | j
          · simpa using ht.symm
          · simp at ht
        subst h3
        exact (show Tryz.prog.wantsStandIn 22 = false by kernel_rfl)⟩)
    (by kernel_rfl)
#print axioms fnRunNone_holds
end Go.Proofs.YtghbphdipdjekaaGreatDoor
