/- The statements' own comparing of the program's things (laws.eqThingS and what it calls), where they are alike. Conditions: what is compared lies where its cells say. -/
import Derived.Test.YtiolplhgpodifaaGreatY
import Derived.Deep.CutBlock
import Derived.BigQuiet
import Derived.Deep.RegionHeld3
import Derived.Deep.DeepCutAuto
set_option linter.unusedVariables false
set_option linter.unusedSimpArgs false
namespace Go.Proofs.YtiolplhgpodifaaGreat
open Go.RowKit Drw
attribute [local go_sem] Lab.val Rgt.val Cal.val Thg.val

set_option maxRecDepth 100000 in
set_option maxHeartbeats 1000000 in
theorem eqLabel_s (s v : Int) (w : World) : Calls Tryz.prog 80 #[.agg #[.int .i64 s, .int .i64 v], .agg #[.int .i64 s, .int .i64 v]] w fun e w' => e = .returned (.bool true) ∧ Below w.heap.size w w' := by
  go_enter Tryz.func80, Tryz.ntmps80
  go_wp2
  go_ret
  exact ⟨rfl, (by (repeat (with_reducible first | exact Below.refl _ _ | refine Below.alloc ?_ ?_ _ | refine below_drewN ?_ _ | refine Below.drew ?_ | refine Below.setCell ?_ ?_ _ | refine Below.trans ?_ (Below.mono (by assumption) ?_))) <;> (first | omega | (simp; try omega)))⟩

set_option maxRecDepth 100000 in
set_option maxHeartbeats 1000000 in
theorem eqRight_s (a b : Int) (c d e : Bool) (w : World) : Calls Tryz.prog 82 #[.agg #[.int .i64 a, .int .i64 b, .bool c, .bool d, .bool e], .agg #[.int .i64 a, .int .i64 b, .bool c, .bool d, .bool e]] w fun e w' => e = .returned (.bool true) ∧ Below w.heap.size w w' := by
  go_enter Tryz.func82, Tryz.ntmps82
  go_wp2
  go_ret
  exact ⟨rfl, (by (repeat (with_reducible first | exact Below.refl _ _ | refine Below.alloc ?_ ?_ _ | refine below_drewN ?_ _ | refine Below.drew ?_ | refine Below.setCell ?_ ?_ _ | refine Below.trans ?_ (Below.mono (by assumption) ?_))) <;> (first | omega | (simp; try omega)))⟩

set_option maxRecDepth 100000 in
set_option maxHeartbeats 2000000 in
theorem eqIntS_s (xs : List Int) (va vb : Value) (w : World) (ha : IntsAt w va xs) (hb : IntsAt w vb xs) :
    Calls Tryz.prog 81 #[va, vb] w fun e w' => e = .returned (.bool true) ∧ Below w.heap.size w w' := by
  obtain ⟨pa, ca, rfl, hla, hma⟩ := ha.len
  obtain ⟨pb, cb, rfl, hlb, hmb⟩ := hb.len
  unfold maxLen at hma hmb
  have Ha := Lib.hid ha
  have Hb := Lib.hid hb
  clear ha hb
  go_enter Tryz.func81, Tryz.ntmps81
  go_wp2
  go_loopw [5] (fun s5 wr => ∃ j : Nat, s5 = .int .i64 (j : Int) ∧ j ≤ xs.length ∧ Below w.heap.size w wr) (fun s5 _ => xs.length - (intOf s5).toNat)
  case atStart => exact ⟨0, rfl, by omega, Below.refl _ _⟩
  case round =>
    obtain ⟨j, rfl, hj, hB⟩ := hrel
    by_cases hlt : j < xs.length
    · have h0 : (0 : Int) ≤ (j : Int) := by omega
      have hin : (j : Int) < (xs.length : Int) := by omega
      obtain ⟨x, hx⟩ : ∃ x, xs[j]? = some x := ⟨_, List.getElem?_eq_getElem hlt⟩
      obtain ⟨b1, o1, rfl, hb1, p0⟩ := (Ha.out.pure hB).at j x hx
      obtain ⟨b2, o2, rfl, hb2, q0⟩ := (Hb.out.pure hB).at j x hx
      have HB := Lib.hid hB
      clear hx hB
      go_upto_region 6 with (fail)
      go_quiet (fail)
      go_wp2
      refine ⟨⟨j + 1, by go_num, by omega, ?_⟩, by simp [intOf]; omega⟩
      first | exact HB.out | exact below_drewN HB.out _ | (have hB := HB.out; exact (by (repeat (with_reducible first | exact Below.refl _ _ | refine Below.alloc ?_ ?_ _ | refine below_drewN ?_ _ | refine Below.drew ?_ | refine Below.setCell ?_ ?_ _ | refine Below.trans ?_ (Below.mono (by assumption) ?_))) <;> (first | omega | (simp; try omega))))
    · have hin : ¬ (j : Int) < (xs.length : Int) := by omega
      go_wp2
      go_ret
      exact ⟨rfl, hB⟩

set_option maxRecDepth 100000 in
set_option maxHeartbeats 2000000 in
theorem eqRightS_s (xs : List Rgt) (va vb : Value) (w : World) (ha : RgtsAt w va xs) (hb : RgtsAt w vb xs) :
    Calls Tryz.prog 52 #[va, vb] w fun e w' => e = .returned (.bool true) ∧ Below w.heap.size w w' := by
  obtain ⟨pa, ca, rfl, hla, hma⟩ := ha.len
  obtain ⟨pb, cb, rfl, hlb, hmb⟩ := hb.len
  unfold maxLen at hma hmb
  have Ha := Lib.hid ha
  have Hb := Lib.hid hb
  clear ha hb
  go_enter Tryz.func52, Tryz.ntmps52
  go_wp2
  go_loopw [5] (fun s5 wr => ∃ j : Nat, s5 = .int .i64 (j : Int) ∧ j ≤ xs.length ∧ Below w.heap.size w wr) (fun s5 _ => xs.length - (intOf s5).toNat)
  case atStart => exact ⟨0, rfl, by omega, Below.refl _ _⟩
  case round =>
    obtain ⟨j, rfl, hj, hB⟩ := hrel
    by_cases hlt : j < xs.length
    · have h0 : (0 : Int) ≤ (j : Int) := by omega
      have hin : (j : Int) < (xs.length : Int) := by omega
      obtain ⟨x, hx⟩ : ∃ x, xs[j]? = some x := ⟨_, List.getElem?_eq_getElem hlt⟩
      obtain ⟨b1, o1, rfl, hb1, p0, p1, p2, p3, p4⟩ := (Ha.out.pure hB).at j x hx
      obtain ⟨b2, o2, rfl, hb2, q0, q1, q2, q3, q4⟩ := (Hb.out.pure hB).at j x hx
      have HB := Lib.hid hB
      have hzr := hB.size
      clear hx hB
      obtain ⟨x0, x1, x2, x3, x4⟩ := x
      dsimp only at p0 p1 p2 p3 p4 q0 q1 q2 q3 q4
      go_upto_region 6 with (fail)
      have HK := Lib.hid (show ∀ w' : World, Below wr.heap.size wr w' → (Below wr.heap.size wr w' ∧ w'.cell? ⟨b1, o1 + j * 5, none⟩ = some (.int .i64 x0) ∧ w'.cell? ⟨b1, o1 + j * 5 + 1, none⟩ = some (.int .i64 x1) ∧ w'.cell? ⟨b1, o1 + j * 5 + 2, none⟩ = some (.bool x2) ∧ w'.cell? ⟨b1, o1 + j * 5 + 3, none⟩ = some (.bool x3) ∧ w'.cell? ⟨b1, o1 + j * 5 + 4, none⟩ = some (.bool x4) ∧ w'.cell? ⟨b2, o2 + j * 5, none⟩ = some (.int .i64 x0) ∧ w'.cell? ⟨b2, o2 + j * 5 + 1, none⟩ = some (.int .i64 x1) ∧ w'.cell? ⟨b2, o2 + j * 5 + 2, none⟩ = some (.bool x2) ∧ w'.cell? ⟨b2, o2 + j * 5 + 3, none⟩ = some (.bool x3) ∧ w'.cell? ⟨b2, o2 + j * 5 + 4, none⟩ = some (.bool x4)) from fun w' h =>
        ⟨h, (h.cell hb1).trans p0, (h.cell hb1).trans p1, (h.cell hb1).trans p2, (h.cell hb1).trans p3, (h.cell hb1).trans p4, (h.cell hb2).trans q0, (h.cell hb2).trans q1, (h.cell hb2).trans q2, (h.cell hb2).trans q3, (h.cell hb2).trans q4⟩)
      clear p0 p1 p2 p3 p4 q0 q1 q2 q3 q4
      go_cut [26] (fun s26 wz => s26 = .bool false ∧ Below wr.heap.size wr wz)
      case first =>
        first | (go_region_held3 (fun w' => Below wr.heap.size wr w' ∧ w'.cell? ⟨b1, o1 + j * 5, none⟩ = some (.int .i64 x0) ∧ w'.cell? ⟨b1, o1 + j * 5 + 1, none⟩ = some (.int .i64 x1) ∧ w'.cell? ⟨b1, o1 + j * 5 + 2, none⟩ = some (.bool x2) ∧ w'.cell? ⟨b1, o1 + j * 5 + 3, none⟩ = some (.bool x3) ∧ w'.cell? ⟨b1, o1 + j * 5 + 4, none⟩ = some (.bool x4) ∧ w'.cell? ⟨b2, o2 + j * 5, none⟩ = some (.int .i64 x0) ∧ w'.cell? ⟨b2, o2 + j * 5 + 1, none⟩ = some (.int .i64 x1) ∧ w'.cell? ⟨b2, o2 + j * 5 + 2, none⟩ = some (.bool x2) ∧ w'.cell? ⟨b2, o2 + j * 5 + 3, none⟩ = some (.bool x3) ∧ w'.cell? ⟨b2, o2 + j * 5 + 4, none⟩ = some (.bool x4)) (first | assumption | exact HK.out _ (Below.refl _ _) | exact HK.out _ (Below.drew (Below.refl _ _)) | (have hX := And.left (by assumption : Below wr.heap.size wr _ ∧ _); exact HK.out _ (hX.trans (hb5.mono hX.size)))) (first | (go_at_call 82; with_reducible refine (eqRight_s x0 x1 x2 x3 x4 _).mono ?_; rintro e w5 ⟨rfl, hb5⟩))) | fail
        all_goals go_wp2
        all_goals go_meet
        all_goals exact ⟨rfl, And.left (by assumption : Below wr.heap.size wr _ ∧ _)⟩
      case rest =>
        obtain ⟨rfl, hBz⟩ := hcut
        have HBz := Lib.hid (HB.out.trans (hBz.mono hzr))
        clear hBz
        go_wp2
        exact ⟨⟨j + 1, by go_num, by omega, HBz.out⟩, by simp [intOf]; omega⟩
    · have hin : ¬ (j : Int) < (xs.length : Int) := by omega
      go_wp2
      go_ret
      exact ⟨rfl, hB⟩

set_option maxRecDepth 100000 in
set_option maxHeartbeats 2000000 in
theorem eqThing_s (k s v ve nu tg : Int) (rs : List Rgt) (xs : List Int) (pa pb qa qb : Option Addr) (ca cb da db : Nat) (w : World) (ha : RgtsAt w (.slice pa rs.length ca) rs) (hb : RgtsAt w (.slice pb rs.length cb) rs) (hqa : IntsAt w (.slice qa xs.length da) xs) (hqb : IntsAt w (.slice qb xs.length db) xs) :
    Calls Tryz.prog 51 #[.agg #[.int .i64 k, .int .i64 s, .int .i64 v, .int .i64 ve, .int .i64 nu, .slice pa rs.length ca, .slice qa xs.length da, .int .i64 tg], .agg #[.int .i64 k, .int .i64 s, .int .i64 v, .int .i64 ve, .int .i64 nu, .slice pb rs.length cb, .slice qb xs.length db, .int .i64 tg]] w fun e w' => e = .returned (.bool true) ∧ Below w.heap.size w w' := by
  go_enter Tryz.func51, Tryz.ntmps51
  go_wp2_with (first
    | (go_at_call 80; refine (eqLabel_s s v _).mono ?_; rintro e w0 ⟨rfl, hb0⟩; obtain ⟨hc0, hf0⟩ := bcell hb0; have hy1 : w.heap.size + 1 < w0.heap.size := (by have := hb0.size; (try simp at this); omega); have hy2 : w.heap.size < w0.heap.size := (by omega))
    | (go_at_call 52; refine (eqRightS_s rs _ _ _ (ha.pure (by (repeat (with_reducible first | exact Below.refl _ _ | refine Below.alloc ?_ ?_ _ | refine below_drewN ?_ _ | refine Below.drew ?_ | refine Below.setCell ?_ ?_ _ | refine Below.trans ?_ (Below.mono (by assumption) ?_))) <;> (first | omega | (simp; try omega)))) (hb.pure (by (repeat (with_reducible first | exact Below.refl _ _ | refine Below.alloc ?_ ?_ _ | refine below_drewN ?_ _ | refine Below.drew ?_ | refine Below.setCell ?_ ?_ _ | refine Below.trans ?_ (Below.mono (by assumption) ?_))) <;> (first | omega | (simp; try omega))))).mono ?_; rintro e w1 ⟨rfl, hb1⟩; obtain ⟨hc1, hf1⟩ := bcell hb1; have hz1 : w.heap.size + 1 < w1.heap.size := (by have := hb1.size; (try simp at this); omega); have hz2 : w.heap.size < w1.heap.size := (by omega))
    | (go_at_call 81; refine (eqIntS_s xs _ _ _ (hqa.pure (by (repeat (with_reducible first | exact Below.refl _ _ | refine Below.alloc ?_ ?_ _ | refine below_drewN ?_ _ | refine Below.drew ?_ | refine Below.setCell ?_ ?_ _ | refine Below.trans ?_ (Below.mono (by assumption) ?_))) <;> (first | omega | (simp; try omega)))) (hqb.pure (by (repeat (with_reducible first | exact Below.refl _ _ | refine Below.alloc ?_ ?_ _ | refine below_drewN ?_ _ | refine Below.drew ?_ | refine Below.setCell ?_ ?_ _ | refine Below.trans ?_ (Below.mono (by assumption) ?_))) <;> (first | omega | (simp; try omega))))).mono ?_; rintro e w2 ⟨rfl, hb2⟩; obtain ⟨hc2, hf2⟩ := bcell hb2; have hz3 : w.heap.size + 1 < w2.heap.size := (by have := hb2.size; (try simp at this); omega); have hz4 : w.heap.size < w2.heap.size := (by omega)))
  go_ret
  exact ⟨rfl, (by (repeat (with_reducible first | exact Below.refl _ _ | refine Below.alloc ?_ ?_ _ | refine below_drewN ?_ _ | refine Below.drew ?_ | refine Below.setCell ?_ ?_ _ | refine Below.trans ?_ (Below.mono (by assumption) ?_))) <;> (first | omega | (simp; try omega)))⟩

set_option maxRecDepth 100000 in
set_option maxHeartbeats 4000000 in
theorem eqThingS_s {p q : Option Addr} {cp cq : Nat} {ts : List Thg} {w : World} (ha : TabAt w (.slice p ts.length cp) ts) (hb : TabAt w (.slice q ts.length cq) ts) :
    Calls Tryz.prog 25 #[.slice p ts.length cp, .slice q ts.length cq] w fun e w' => e = .returned (.bool true) ∧ Below w.heap.size w w' := by
  obtain ⟨_, _, h1, hl1, hl2⟩ := ha.len
  cases h1
  unfold maxLen at hl2
  have Ha := Lib.hid ha
  have Hb := Lib.hid hb
  clear ha hb
  go_enter Tryz.func25, Tryz.ntmps25
  go_wp2
  go_loopw [5] (fun s5 wr => ∃ j : Nat, s5 = .int .i64 (j : Int) ∧ j ≤ ts.length ∧ Below w.heap.size w wr) (fun s5 _ => ts.length - (intOf s5).toNat)
  case atStart => exact ⟨0, rfl, by omega, Below.refl _ _⟩
  case round =>
    obtain ⟨j, rfl, hj, hB⟩ := hrel
    by_cases hlt : j < ts.length
    · have h0 : (0 : Int) ≤ (j : Int) := by omega
      have hin : (j : Int) < (ts.length : Int) := by omega
      obtain ⟨x, hx⟩ : ∃ x, ts[j]? = some x := ⟨_, List.getElem?_eq_getElem hlt⟩
      obtain ⟨b1, o1, sv1, qv1, rfl, hb1, hS1, hQ1, p0, p1, p2, p3, p4, p5, p6, p7⟩ := (Ha.out.pure hB).at j x hx
      obtain ⟨b2, o2, sv2, qv2, rfl, hb2, hS2, hQ2, q0, q1, q2, q3, q4, q5, q6, q7⟩ := (Hb.out.pure hB).at j x hx
      obtain ⟨u1, v1, rfl, -, -⟩ := hS1.len
      obtain ⟨u2, v2, rfl, -, -⟩ := hQ1.len
      obtain ⟨u3, v3, rfl, -, -⟩ := hS2.len
      obtain ⟨u4, v4, rfl, -, -⟩ := hQ2.len
      have HB := Lib.hid hB
      have hzr := hB.size
      clear hx hB
      obtain ⟨x0, ⟨x1, x2⟩, x3, x4, x5, x6, x7⟩ := x
      dsimp only at p0 p1 p2 p3 p4 p5 p6 p7 q0 q1 q2 q3 q4 q5 q6 q7 hS1 hQ1 hS2 hQ2
      go_upto_region 6 with (fail)
      have HK := Lib.hid (show ∀ w' : World, Below wr.heap.size wr w' → (Below wr.heap.size wr w' ∧ w'.cell? ⟨b1, o1 + j * 8, none⟩ = some (.int .i64 x0) ∧ w'.cell? ⟨b1, o1 + j * 8 + 1, none⟩ = some (.int .i64 x1) ∧ w'.cell? ⟨b1, o1 + j * 8 + 2, none⟩ = some (.int .i64 x2) ∧ w'.cell? ⟨b1, o1 + j * 8 + 3, none⟩ = some (.int .i64 x3) ∧ w'.cell? ⟨b1, o1 + j * 8 + 4, none⟩ = some (.int .i64 x4) ∧ w'.cell? ⟨b1, o1 + j * 8 + 5, none⟩ = some (.slice u1 x5.length v1) ∧ w'.cell? ⟨b1, o1 + j * 8 + 6, none⟩ = some (.slice u2 x6.length v2) ∧ w'.cell? ⟨b1, o1 + j * 8 + 7, none⟩ = some (.int .i64 x7) ∧ w'.cell? ⟨b2, o2 + j * 8, none⟩ = some (.int .i64 x0) ∧ w'.cell? ⟨b2, o2 + j * 8 + 1, none⟩ = some (.int .i64 x1) ∧ w'.cell? ⟨b2, o2 + j * 8 + 2, none⟩ = some (.int .i64 x2) ∧ w'.cell? ⟨b2, o2 + j * 8 + 3, none⟩ = some (.int .i64 x3) ∧ w'.cell? ⟨b2, o2 + j * 8 + 4, none⟩ = some (.int .i64 x4) ∧ w'.cell? ⟨b2, o2 + j * 8 + 5, none⟩ = some (.slice u3 x5.length v3) ∧ w'.cell? ⟨b2, o2 + j * 8 + 6, none⟩ = some (.slice u4 x6.length v4) ∧ w'.cell? ⟨b2, o2 + j * 8 + 7, none⟩ = some (.int .i64 x7)) from fun w' h =>
        ⟨h, (h.cell hb1).trans p0, (h.cell hb1).trans p1, (h.cell hb1).trans p2, (h.cell hb1).trans p3, (h.cell hb1).trans p4, (h.cell hb1).trans p5, (h.cell hb1).trans p6, (h.cell hb1).trans p7, (h.cell hb2).trans q0, (h.cell hb2).trans q1, (h.cell hb2).trans q2, (h.cell hb2).trans q3, (h.cell hb2).trans q4, (h.cell hb2).trans q5, (h.cell hb2).trans q6, (h.cell hb2).trans q7⟩)
      have HS1 := Lib.hid hS1
      have HQ1 := Lib.hid hQ1
      have HS2 := Lib.hid hS2
      have HQ2 := Lib.hid hQ2
      clear p0 p1 p2 p3 p4 p5 p6 p7 q0 q1 q2 q3 q4 q5 q6 q7 hS1 hQ1 hS2 hQ2
      go_cut [26] (fun s26 wz => s26 = .bool false ∧ Below wr.heap.size wr wz)
      case first =>
        first | (go_region_held3 (fun w' => Below wr.heap.size wr w' ∧ w'.cell? ⟨b1, o1 + j * 8, none⟩ = some (.int .i64 x0) ∧ w'.cell? ⟨b1, o1 + j * 8 + 1, none⟩ = some (.int .i64 x1) ∧ w'.cell? ⟨b1, o1 + j * 8 + 2, none⟩ = some (.int .i64 x2) ∧ w'.cell? ⟨b1, o1 + j * 8 + 3, none⟩ = some (.int .i64 x3) ∧ w'.cell? ⟨b1, o1 + j * 8 + 4, none⟩ = some (.int .i64 x4) ∧ w'.cell? ⟨b1, o1 + j * 8 + 5, none⟩ = some (.slice u1 x5.length v1) ∧ w'.cell? ⟨b1, o1 + j * 8 + 6, none⟩ = some (.slice u2 x6.length v2) ∧ w'.cell? ⟨b1, o1 + j * 8 + 7, none⟩ = some (.int .i64 x7) ∧ w'.cell? ⟨b2, o2 + j * 8, none⟩ = some (.int .i64 x0) ∧ w'.cell? ⟨b2, o2 + j * 8 + 1, none⟩ = some (.int .i64 x1) ∧ w'.cell? ⟨b2, o2 + j * 8 + 2, none⟩ = some (.int .i64 x2) ∧ w'.cell? ⟨b2, o2 + j * 8 + 3, none⟩ = some (.int .i64 x3) ∧ w'.cell? ⟨b2, o2 + j * 8 + 4, none⟩ = some (.int .i64 x4) ∧ w'.cell? ⟨b2, o2 + j * 8 + 5, none⟩ = some (.slice u3 x5.length v3) ∧ w'.cell? ⟨b2, o2 + j * 8 + 6, none⟩ = some (.slice u4 x6.length v4) ∧ w'.cell? ⟨b2, o2 + j * 8 + 7, none⟩ = some (.int .i64 x7)) (first | assumption | exact HK.out _ (Below.refl _ _) | exact HK.out _ (Below.drew (Below.refl _ _)) | (have hX := And.left (by assumption : Below wr.heap.size wr _ ∧ _); exact HK.out _ (hX.trans (hb5.mono hX.size)))) (first | (go_at_call 51; with_reducible refine (eqThing_s x0 x1 x2 x3 x4 x7 x5 x6 _ _ _ _ _ _ _ _ _ (HS1.out.pure (And.left (by assumption : Below wr.heap.size wr _ ∧ _))) (HS2.out.pure (And.left (by assumption : Below wr.heap.size wr _ ∧ _))) (HQ1.out.pure (And.left (by assumption : Below wr.heap.size wr _ ∧ _))) (HQ2.out.pure (And.left (by assumption : Below wr.heap.size wr _ ∧ _)))).mono ?_; rintro e w5 ⟨rfl, hb5⟩))) | fail
        all_goals go_wp2
        all_goals go_meet
        all_goals exact ⟨rfl, And.left (by assumption : Below wr.heap.size wr _ ∧ _)⟩
      case rest =>
        obtain ⟨rfl, hBz⟩ := hcut
        have HBz := Lib.hid (HB.out.trans (hBz.mono hzr))
        clear hBz
        go_wp2
        exact ⟨⟨j + 1, by go_num, by omega, HBz.out⟩, by simp [intOf]; omega⟩
    · have hin : ¬ (j : Int) < (ts.length : Int) := by omega
      go_wp2
      go_ret
      exact ⟨rfl, hB⟩

end Go.Proofs.YtiolplhgpodifaaGreat
