/- The law that the program's CallMoves returns what the reference's returns, and shares no memory, walked. Conditions: the things lie where their cells say; errors.errorType is laid. -/
import Derived.Test.YtghbphdipdjekaaGreatDoorEd
import Derived.Test.YtghbphdipdjekaaGreatDoorCm
set_option linter.unusedVariables false
set_option linter.unusedSimpArgs false
namespace Drw
open Go Go.RowKit
/-- Numbers in memory of their own, their block between two bounds. -/
def OwnI (w : World) (lo hi : Nat) (v : Value) (xs : List Int) : Prop := IntsAt w v xs ∧ ∀ b, v.ownBlock = some b → 0 < xs.length → lo ≤ b ∧ b < hi ∧ b < w.heap.size ∧ ∀ o, w.frozen? ⟨b, o, none⟩ = false
theorem OwnI.chg {w w' : World} {S : Nat → Prop} {lo hi : Nat} {v : Value} {xs : List Int} (h : OwnI w lo hi v xs) (hg : Chg S w w') (hS : ∀ b, lo ≤ b → b < hi → ¬ S b) : OwnI w' lo hi v xs := by
  refine ⟨?_, fun b hb hn => ?_⟩
  · by_cases hn : 0 < xs.length
    · exact Drw.Rows.kept h.1 hg (.inr fun k hk => hS k (h.2 k hk hn).1 (h.2 k hk hn).2.1)
    · exact Drw.Rows.kept h.1 hg (.inl (by have : xs = [] := List.eq_nil_of_length_eq_zero (by omega); rw [this]; rfl))
  · obtain ⟨h1, h2, h3, h4⟩ := h.2 b hb hn
    exact ⟨h1, h2, Nat.lt_of_lt_of_le h3 hg.size, fun o => (World.frozen?_of_block (a := ⟨b, o, none⟩) (hg.block b h3 (hS b h1 h2))).trans (h4 o)⟩
theorem OwnI.pure {w w' : World} {lo hi : Nat} {v : Value} {xs : List Int} (h : OwnI w lo hi v xs) (hb : Below w.heap.size w w') : OwnI w' lo hi v xs :=
  h.chg (S := fun _ => False) (Chg.of_pure hb) (fun _ _ _ h => h)
theorem OwnI.of {w : World} {B e : Nat} {v : Value} {xs : List Int} (h : w.ownsRow B e 1 v xs.length ((xs.map intCells).flatten)) : OwnI w B w.heap.size v xs := by
  have hr : IntsAt w v xs := Rows.of_own (flat_ints _) (by rw [List.length_map]; exact h)
  have hh : Held w (fun b => B ≤ b) (fun _ => 0) 0 v := Held.of_own h (fun b hb => ⟨(h.lt b hb).1, rfl⟩)
  refine ⟨hr, fun b hb hn => ?_⟩
  obtain ⟨p, cap, rfl, -, -⟩ := hr.len
  obtain ⟨h1, -, h3⟩ := Held.blk hh hr (by simpa using hn) hb
  have hq := hr
  obtain ⟨x, hx⟩ : ∃ x, xs[0]? = some x := ⟨_, List.getElem?_eq_getElem hn⟩
  obtain ⟨b', o', rfl, -, -⟩ := hq.at 0 x hx
  cases hb
  have h4 := hh b' o' _ cap rfl hn
  exact ⟨h1, h4.2.2.1, h4.2.2.1, h4.2.2.2⟩
end Drw
namespace Go.Proofs.YtghbphdipdjekaaGreatDoor
open Go.RowKit Drw
attribute [local go_sem] Lab.val Rgt.val Cal.val Thg.val

theorem moves_len (ts : List Thg) (c : Cal) : (movesD ts c).length ≤ 8 := by
  unfold movesD
  split
  · rename_i h
    have h8 := (tab_iff.1 (canB.1 h).tab).1
    have := diffs_len (do2 ts c).1 ts ts.length
    omega
  · simp
set_option maxRecDepth 100000 in
theorem callMoves_v {p : Option Addr} {cap : Nat} {ts : List Thg} {ms : List Int} {k0 k1 k2 k3 k4 : Int} {w : World} (hL : Laid w) (hT : TabAt w (.slice p ts.length cap) ts) (h : movesD ts ⟨k0, k1, k2, k3, k4⟩ = ms) :
    Calls Tryz.prog 32 #[.slice p ts.length cap, .agg #[.int .i64 k0, .int .i64 k1, .int .i64 k2, .int .i64 k3, .int .i64 k4]] w fun e w' => ∃ q k, e = .returned (.slice q ms.length k) ∧ OwnI w' w.heap.size w'.heap.size (.slice q ms.length k) ms ∧ Below w.heap.size w w' := by
  subst h
  refine (callMoves_own p cap ts ⟨k0, k1, k2, k3, k4⟩ w hL hT).mono ?_
  rintro e w' ⟨q, k, rfl, ho, hb⟩
  exact ⟨q, k, rfl, OwnI.of ho, hb⟩
set_option maxRecDepth 100000 in
theorem scallMoves_v {p : Option Addr} {cap : Nat} {ts : List Thg} {ms : List Int} {k0 k1 k2 k3 k4 : Int} {w : World} (hT : TabAt w (.slice p ts.length cap) ts) (h : movesD ts ⟨k0, k1, k2, k3, k4⟩ = ms) :
    Calls Tryz.prog 33 #[.slice p ts.length cap, .agg #[.int .i64 k0, .int .i64 k1, .int .i64 k2, .int .i64 k3, .int .i64 k4]] w fun e w' => ∃ q k, e = .returned (.slice q ms.length k) ∧ IntsAt w' (.slice q ms.length k) ms ∧ Below w.heap.size w w' := by
  subst h; exact scallMoves_c p cap ts ⟨k0, k1, k2, k3, k4⟩ w hT
theorem markIntS_o {q : Option Addr} {k lo hi : Nat} {xs : List Int} {m : Int} {w : World} (h : OwnI w lo hi (.slice q xs.length k) xs) (hm0 : 0 ≤ m) (hm : m ≤ 35184372088832) (hl : xs.length ≤ 1048576) :
    Calls Tryz.prog 46 #[.slice q xs.length k, .int .i64 m] w fun e w' => e = .returned (.int .i64 (m + (xs.length : Int))) ∧ OwnI w' lo hi (.slice q xs.length k) (mkIs m xs.length) ∧ Chg (fun b => lo ≤ b ∧ b < hi) w w' := by
  refine (markIntS_c xs m w h.1 (fun b hb hn => (h.2 b hb hn).2.2.2) hm0 hm hl).mono ?_
  rintro e w' ⟨rfl, hI, hg, hf⟩
  refine ⟨rfl, ⟨hI, fun b hb hn => ?_⟩, hg.mono fun b _ hb => ⟨(h.2 b hb.2 hb.1).1, (h.2 b hb.2 hb.1).2.1⟩⟩
  rw [mkIs_len] at hn
  obtain ⟨h1, h2, h3, h4⟩ := h.2 b hb hn
  exact ⟨h1, h2, Nat.lt_of_lt_of_le h3 hg.size, fun o => (hf b o).trans (h4 o)⟩

set_option maxRecDepth 100000 in
set_option maxHeartbeats 8000000 in
theorem fnExactCallMoves_c {p : Option Addr} {cap : Nat} {ts : List Thg} (k0 k1 k2 k3 k4 : Int) (w : World) (hL : Laid w) (hT : TabAt w (.slice p ts.length cap) ts) :
    Calls Tryz.prog 14 #[.slice p ts.length cap, .agg #[.int .i64 k0, .int .i64 k1, .int .i64 k2, .int .i64 k3, .int .i64 k4]] w fun e w' => e = .returned (.bool true) ∧ Below w.heap.size w w' := by
  obtain ⟨_, _, h1, hl1, hl2⟩ := hT.len
  cases h1
  unfold maxLen at hl2
  obtain ⟨us, hdo⟩ : ∃ us, movesD ts ⟨k0, k1, k2, k3, k4⟩ = us := ⟨_, rfl⟩
  have hul : us.length ≤ 8 := by rw [← hdo]; exact moves_len _ _
  have Hdo := Lib.hid hdo
  have HL0 := Lib.hid hL
  have HT := Lib.hid hT
  clear hT hL hdo
  go_enter Tryz.func14, Tryz.ntmps14
  go_upto_region 3 with (go_at_call 38; refine (szThingS_c (HT.out.pure (by (repeat (with_reducible first | exact Below.refl _ _ | refine Below.alloc ?_ ?_ _ | refine below_drewN ?_ _ | refine Below.drew ?_ | refine Below.setCell ?_ ?_ _ | refine Below.trans ?_ (Below.mono (by assumption) ?_))) <;> (first | omega | (simp; try omega))))).mono ?_; rintro e w1 ⟨r, rfl, hr, hF, hb1⟩; have HF := Lib.hid hF; have HB1 := Lib.hid (show Below w.heap.size w w1 from (by (repeat (with_reducible first | exact Below.refl _ _ | refine Below.alloc ?_ ?_ _ | refine below_drewN ?_ _ | refine Below.drew ?_ | refine Below.setCell ?_ ?_ _ | refine Below.trans ?_ (Below.mono (by assumption) ?_))) <;> (first | omega | (simp; try omega)))); obtain ⟨hc1, hf1⟩ := bcell hb1; have hz1 : w.heap.size < w1.heap.size := (by have := hb1.size; (try simp at this); omega); clear hF hb1 hf1)
  have l0 : w1.cell? ⟨w.heap.size, 0, none⟩ = some (.int .i64 k0) := by rw [hc1 _ _ (by simp)]; simp [go_sem]
  have l1 : w1.cell? ⟨w.heap.size, 1, none⟩ = some (.int .i64 k1) := by rw [hc1 _ _ (by simp)]; simp [go_sem]
  have l2 : w1.cell? ⟨w.heap.size, 2, none⟩ = some (.int .i64 k2) := by rw [hc1 _ _ (by simp)]; simp [go_sem]
  have l3 : w1.cell? ⟨w.heap.size, 3, none⟩ = some (.int .i64 k3) := by rw [hc1 _ _ (by simp)]; simp [go_sem]
  have l4 : w1.cell? ⟨w.heap.size, 4, none⟩ = some (.int .i64 k4) := by rw [hc1 _ _ (by simp)]; simp [go_sem]
  have HC := Lib.hid (show ∀ w' : World, Below w1.heap.size w1 w' → (Below w1.heap.size w1 w' ∧ w'.cell? ⟨w.heap.size, 0, none⟩ = some (.int .i64 k0) ∧ w'.cell? ⟨w.heap.size, 1, none⟩ = some (.int .i64 k1) ∧ w'.cell? ⟨w.heap.size, 2, none⟩ = some (.int .i64 k2) ∧ w'.cell? ⟨w.heap.size, 3, none⟩ = some (.int .i64 k3) ∧ w'.cell? ⟨w.heap.size, 4, none⟩ = some (.int .i64 k4)) from fun w' h =>
    ⟨h, (h.cell hz1).trans l0, (h.cell hz1).trans l1, (h.cell hz1).trans l2, (h.cell hz1).trans l3, (h.cell hz1).trans l4⟩)
  clear hc1 l0 l1 l2 l3 l4
  by_cases hneg : r < 0
  · go_wp2
    go_ret
    exact ⟨rfl, HB1.out⟩
  · have HFt := Lib.hid (HF.out (by omega))
    go_upto_region 5 with (fail)
    go_cut [6] (fun s6 wz => ∃ q k, s6 = .slice q us.length k ∧ IntsAt wz (.slice q us.length k) us ∧ Below w1.heap.size w1 wz)
    case first =>
      first | (go_region_held3 (fun w' => Below w1.heap.size w1 w' ∧ w'.cell? ⟨w.heap.size, 0, none⟩ = some (.int .i64 k0) ∧ w'.cell? ⟨w.heap.size, 1, none⟩ = some (.int .i64 k1) ∧ w'.cell? ⟨w.heap.size, 2, none⟩ = some (.int .i64 k2) ∧ w'.cell? ⟨w.heap.size, 3, none⟩ = some (.int .i64 k3) ∧ w'.cell? ⟨w.heap.size, 4, none⟩ = some (.int .i64 k4)) (first | assumption | exact HC.out _ (Below.refl _ _) | exact HC.out _ (Below.drew (Below.refl _ _)) | (have hX := And.left (by assumption : Below w1.heap.size w1 _ ∧ _); first | exact HC.out _ (hX.trans (hb7.mono hX.size)) | exact HC.out _ (hX.trans (hb6.mono hX.size)) | exact HC.out _ (hX.trans (hb5.mono hX.size)))) (first
        | (go_at_call 40; with_reducible refine (toThingS_o (HT.out.pure (HB1.out.trans ((And.left (by assumption : Below w1.heap.size w1 _ ∧ _)).mono HB1.out.size))) HFt.out).mono ?_; rintro e w5 ⟨q5, c5, rfl, hO5, hb5⟩)
        | (go_at_call 41; with_reducible refine (toCall_v k0 k1 k2 k3 k4 _).mono ?_; rintro e w6 ⟨rfl, hb6⟩)
        | (go_at_call 33; with_reducible refine (scallMoves_v (hO5.at'.pure (by (repeat (with_reducible first | exact Below.refl _ _ | refine Below.alloc ?_ ?_ _ | refine below_drewN ?_ _ | refine Below.drew ?_ | refine Below.setCell ?_ ?_ _ | refine Below.trans ?_ (Below.mono (by assumption) ?_))) <;> (first | omega | (simp; try omega)))) Hdo.out).mono ?_; rintro e w7 ⟨q7, c7, rfl, hT7, hb7⟩))) | fail
      all_goals go_wp2
      all_goals go_meet
      all_goals exact ⟨_, _, rfl, hT7.pure (by (repeat (with_reducible first | exact Below.refl _ _ | refine Below.alloc ?_ ?_ _ | refine below_drewN ?_ _ | refine Below.drew ?_ | refine Below.setCell ?_ ?_ _ | refine Below.trans ?_ (Below.mono (by assumption) ?_))) <;> (first | omega | (simp; try omega))), And.left (by assumption : Below w1.heap.size w1 _ ∧ _)⟩
    case rest =>
      obtain ⟨q0, cq0, rfl, hT0, hBz⟩ := hcut
      obtain ⟨wA, rfl⟩ : ∃ y : World, y = wc := ⟨_, rfl⟩
      have HT0 := Lib.hid hT0
      have HBz := Lib.hid hBz
      have HBA := Lib.hid (HB1.out.trans (hBz.mono HB1.out.size))
      have HX := Lib.hid (Below.refl wA.heap.size wA)
      clear hT0 hBz
      go_upto_region 7 with (go_at_call 40; refine (toThingS_o (HT.out.pure HBA.out) HFt.out).mono ?_; rintro e wB ⟨qx, cx, rfl, hOx, hbB⟩; have HOx := Lib.hid hOx; have HX := Lib.hid hbB; have hsB := hbB.size; obtain ⟨-, e0, e1, e2, e3, e4⟩ := HC.out _ (HBz.out.trans (hbB.mono HBz.out.size)); clear hOx hbB)
      go_upto_region 8 with (first
        | (go_at_call 41; refine (toCall_v k0 k1 k2 k3 k4 _).mono ?_; rintro e wC ⟨rfl, hbC⟩; have HOx := Lib.hid (HOx.out.pure hbC); have HX := Lib.hid (HX.out.trans (hbC.mono HX.out.size)); have hsC := hbC.size; clear hbC)
        | (go_at_call 32; refine (callMoves_v (HL0.out.pure (HBA.out.trans (HX.out.mono HBA.out.size))) HOx.out.at' Hdo.out).mono ?_; rintro e wD ⟨qg, cg, rfl, hOg, hbD⟩; have HOx := Lib.hid (HOx.out.pure hbD); have HX := Lib.hid (HX.out.trans (hbD.mono HX.out.size)); have HOg := Lib.hid hOg; clear hbD hOg))
      clear e0 e1 e2 e3 e4
      go_upto_region 10 with (go_at_call 45; refine (eqIntS_s us _ _ _ HOg.out.1 (HT0.out.pure HX.out)).mono ?_; rintro e wE ⟨rfl, hbE⟩; have HOx := Lib.hid (HOx.out.pure hbE); have HX := Lib.hid (HX.out.trans (hbE.mono HX.out.size)); have HOg := Lib.hid (HOg.out.pure hbE); clear hbE)
      go_upto_region 13 with (first
        | (go_at_call 40; refine (toThingS_o (HT.out.pure (HBA.out.trans (HX.out.mono HBA.out.size))) HFt.out).mono ?_; rintro e wF ⟨qf, cf, rfl, hOf, hbF⟩; have HTf := Lib.hid hOf.at'; have HOx := Lib.hid (HOx.out.pure hbF); have HX := Lib.hid (HX.out.trans (hbF.mono HX.out.size)); have HOg := Lib.hid (HOg.out.pure hbF); clear hOf hbF)
        | (go_at_call 42; refine (eqThingS_s HOx.out.at' HTf.out).mono ?_; rintro e wG ⟨rfl, hbG⟩; have HOx := Lib.hid (HOx.out.pure hbG); have HX := Lib.hid (HX.out.trans (hbG.mono HX.out.size)); have HOg := Lib.hid (HOg.out.pure hbG); clear hbG))
      have hkt : ¬ nxTs 1 ts < 0 := by have := (nxTs_bd ts 1 HFt.out.2).1; omega
      have hku : ¬ (1 : Int) + (us.length : Int) < 0 := by omega
      go_upto_region 14 with (go_at_call 43; refine (markThingS_o HOx.out HFt.out).mono ?_; rintro e wH ⟨rfl, hOx, hgH⟩; have HX := Lib.hid (HX.out.trans (hgH.below HX.out.size (fun b hb h => by omega))); have HOg := Lib.hid (HOg.out.chg hgH (fun b h1 h2 h => by omega)); clear hOx hgH)
      go_upto_region 17 with (go_at_call 45; refine (eqIntS_s us _ _ _ HOg.out.1 (HT0.out.pure HX.out)).mono ?_; rintro e wI ⟨rfl, hbI⟩; have HX := Lib.hid (HX.out.trans (hbI.mono HX.out.size)); have HOg := Lib.hid (HOg.out.pure hbI); clear hbI)
      go_upto_region 19 with (go_at_call 46; refine (markIntS_o HOg.out (by omega) (by omega) (by omega)).mono ?_; rintro e wJ ⟨rfl, hOg, hgJ⟩; have HX := Lib.hid (HX.out.trans (hgJ.below HX.out.size (fun b hb h => by omega))); have HTg := Lib.hid hOg.1; clear hOg hgJ)
      go_upto_region 24 with (go_at_call 47; refine (heldIntS_c us.length 1 _ HTg.out (by omega) (by omega) (by omega)).mono ?_; rintro e wK ⟨rfl, hbK⟩; have HX := Lib.hid (HX.out.trans (hbK.mono HX.out.size)); have HTg := Lib.hid (HTg.out.pure hbK); clear hbK)
      have HC2 := Lib.hid (show ∀ w' : World, Below wK.heap.size wK w' → (Below wK.heap.size wK w' ∧ w'.cell? ⟨w.heap.size, 0, none⟩ = some (.int .i64 k0) ∧ w'.cell? ⟨w.heap.size, 1, none⟩ = some (.int .i64 k1) ∧ w'.cell? ⟨w.heap.size, 2, none⟩ = some (.int .i64 k2) ∧ w'.cell? ⟨w.heap.size, 3, none⟩ = some (.int .i64 k3) ∧ w'.cell? ⟨w.heap.size, 4, none⟩ = some (.int .i64 k4)) from fun w' h => ⟨h, (HC.out _ ((HBz.out.trans (HX.out.mono HBz.out.size)).trans (h.mono (HBz.out.trans (HX.out.mono HBz.out.size)).size))).2⟩)
      go_cut [12] (fun s14 wz => ∃ q k, s14 = .slice q us.length k ∧ IntsAt wz (.slice q us.length k) us ∧ Below wK.heap.size wK wz)
      case first =>
        have HBK := Lib.hid (HBA.out.trans (HX.out.mono HBA.out.size))
        first | (go_region_held3 (fun w' => Below wK.heap.size wK w' ∧ w'.cell? ⟨w.heap.size, 0, none⟩ = some (.int .i64 k0) ∧ w'.cell? ⟨w.heap.size, 1, none⟩ = some (.int .i64 k1) ∧ w'.cell? ⟨w.heap.size, 2, none⟩ = some (.int .i64 k2) ∧ w'.cell? ⟨w.heap.size, 3, none⟩ = some (.int .i64 k3) ∧ w'.cell? ⟨w.heap.size, 4, none⟩ = some (.int .i64 k4)) (first | assumption | exact HC2.out _ (Below.refl _ _) | exact HC2.out _ (Below.drew (Below.refl _ _)) | (have hX := And.left (by assumption : Below wK.heap.size wK _ ∧ _); first | exact HC2.out _ (hX.trans (hb7.mono hX.size)) | exact HC2.out _ (hX.trans (hb6.mono hX.size)) | exact HC2.out _ (hX.trans (hb5.mono hX.size)))) (first
          | (go_at_call 40; with_reducible refine (toThingS_o (HT.out.pure (HBK.out.trans ((And.left (by assumption : Below wK.heap.size wK _ ∧ _)).mono HBK.out.size))) HFt.out).mono ?_; rintro e w5 ⟨q5, c5, rfl, hO5, hb5⟩)
          | (go_at_call 41; with_reducible refine (toCall_v k0 k1 k2 k3 k4 _).mono ?_; rintro e w6 ⟨rfl, hb6⟩)
          | (go_at_call 32; with_reducible refine (callMoves_v (HL0.out.pure (HBK.out.trans ((And.left (by assumption : Below wK.heap.size wK _ ∧ _)).mono HBK.out.size))) (hO5.at'.pure (by (repeat (with_reducible first | exact Below.refl _ _ | refine Below.alloc ?_ ?_ _ | refine below_drewN ?_ _ | refine Below.drew ?_ | refine Below.setCell ?_ ?_ _ | refine Below.trans ?_ (Below.mono (by assumption) ?_))) <;> (first | omega | (simp; try omega)))) Hdo.out).mono ?_; rintro e w7 ⟨q7, c7, rfl, hO7, hb7⟩))) | fail
        all_goals go_wp2
        all_goals go_meet
        all_goals exact ⟨_, _, rfl, hO7.1.pure (by (repeat (with_reducible first | exact Below.refl _ _ | refine Below.alloc ?_ ?_ _ | refine below_drewN ?_ _ | refine Below.drew ?_ | refine Below.setCell ?_ ?_ _ | refine Below.trans ?_ (Below.mono (by assumption) ?_))) <;> (first | omega | (simp; try omega))), And.left (by assumption : Below wK.heap.size wK _ ∧ _)⟩
      case rest =>
        obtain ⟨qh, ch, rfl, hTh, hBh⟩ := hcut
        obtain ⟨wL, rfl⟩ : ∃ y : World, y = wc := ⟨_, rfl⟩
        have HTh := Lib.hid hTh
        have HTg := Lib.hid (HTg.out.pure hBh)
        have HX := Lib.hid (HX.out.trans (hBh.mono HX.out.size))
        clear hTh hBh
        go_upto_region 27 with (go_at_call 45; refine (eqIntS_s us _ _ _ HTh.out (HT0.out.pure HX.out)).mono ?_; rintro e wM ⟨rfl, hbM⟩; have HX := Lib.hid (HX.out.trans (hbM.mono HX.out.size)); have HTg := Lib.hid (HTg.out.pure hbM); clear hbM)
        go_wp2_with (go_at_call 47; refine (heldIntS_c us.length 1 _ HTg.out (by omega) (by omega) (by omega)).mono ?_; rintro e wN ⟨rfl, hbN⟩; have HX := Lib.hid (HX.out.trans (hbN.mono HX.out.size)); clear hbN)
        go_ret
        exact ⟨rfl, HBA.out.trans (HX.out.mono HBA.out.size)⟩

end Go.Proofs.YtghbphdipdjekaaGreatDoor
