/- The statements' own turning, comparing, marking of calls (laws.toCallS and its like). Conditions: what is turned lies where its cells say; its lengths are bounded. -/
import Derived.Test.YtghbphdipdjekaaGreatDoorCv
import Derived.Test.YtghbphdipdjekaaGreatDoorEq
import Derived.Test.YtghbphdipdjekaaGreatDoorMk
set_option linter.unusedVariables false
set_option linter.unusedSimpArgs false
namespace Go.Proofs.YtghbphdipdjekaaGreatDoor
open Go.RowKit Drw
attribute [local go_sem] Lab.val Rgt.val Cal.val Thg.val

theorem info_cal : (Tryz.prog.info? 37).map (fun i => (i.zero, i.size, i.bytes)) = some (some (.agg #[.int .i64 0, .int .i64 0, .int .i64 0, .int .i64 0, .int .i64 0]), 5, 40) := by kernel_rfl
theorem makeCals (n : Nat) (hn : n ≤ 1048576) (w : World) : (Instr.makeSlice 24 (.int .i64 (n : Int)) (.int .i64 (n : Int))).run Tryz.prog w = .ok (.slice (some ⟨w.heap.size, 0, none⟩) n n) (w.alloc (.cells (madeCells (Value.agg #[.int .i64 0, .int .i64 0, .int .i64 0, .int .i64 0, .int .i64 0]).cells (n * 5)) 37)) := by
  obtain ⟨i0, hi, hz0, hz1, hz2⟩ := info_parts info_cal
  have := run_make (P := Tryz.prog) w 24 37 i0 _ Tryz.underlying24 hi hz0 .i64 .i64 (n : Int) (n : Int) (by omega) (by omega) (by rw [hz2]; omega) (by omega)
  rw [hz1] at this
  simpa using this

set_option maxRecDepth 100000 in
set_option maxHeartbeats 1000000 in
theorem toCall_c (r : Cal) (w : World) : Calls Tryz.prog 41 #[r.val] w fun e w' => e = .returned r.val ∧ Below w.heap.size w w' := by
  obtain ⟨a, b, c, d, e⟩ := r
  dsimp only [Cal.val]
  go_enter Tryz.func41, Tryz.ntmps41
  go_wp2
  refine bodyPost_ret (v := .agg #[.int .i64 a, .int .i64 b, .int .i64 c, .int .i64 d, .int .i64 e]) ?_ rfl ⟨rfl, (by (repeat (with_reducible first | exact Below.refl _ _ | refine Below.alloc ?_ ?_ _ | refine below_drewN ?_ _ | refine Below.drew ?_ | refine Below.setCell ?_ ?_ _ | refine Below.trans ?_ (Below.mono (by assumption) ?_))) <;> (first | omega | (simp; try omega)))⟩
  simp [results, Tryz.results41, go_sem, *]

set_option maxRecDepth 100000 in
set_option maxHeartbeats 2000000 in
theorem toCallS_c (v : Value) (rs : List Cal) (w : World) (h : CalsAt w v rs) (hl : rs.length ≤ 1048576) :
    Calls Tryz.prog 49 #[v] w fun e w' => ∃ v', e = .returned v' ∧ CalsAt w' v' rs ∧ HeldB w' w.heap.size v' ∧ Below w.heap.size w w' := by
  obtain ⟨p, cap, rfl, h1, h2⟩ := h.len
  unfold maxLen at h2
  have hmk := makeCals rs.length hl
  have H := Lib.hid h
  clear h
  go_enter Tryz.func49, Tryz.ntmps49
  go_wp2
  go_loopw [4] (fun s4 wr => ∃ j : Nat, s4 = .int .i64 (j : Int) ∧ j ≤ rs.length ∧ Below w.heap.size w wr ∧ RowI wr w.heap.size rs.length 5 (rs.map Cal.cells) j) (fun s4 _ => rs.length - (intOf s4).toNat)
  case atStart => exact ⟨0, rfl, by omega, (by (repeat (with_reducible first | exact Below.refl _ _ | refine Below.alloc ?_ ?_ _ | refine below_drewN ?_ _ | refine Below.drew ?_ | refine Below.setCell ?_ ?_ _ | refine Below.trans ?_ (Below.mono (by assumption) ?_))) <;> (first | omega | (simp; try omega))), RowI.made w _ 5 _ _ (by unfold maxLen; omega) rfl⟩
  case round =>
    obtain ⟨j, rfl, hj, hB, hI⟩ := hrel
    by_cases hlt : j < rs.length
    · have h0 : (0 : Int) ≤ (j : Int) := by omega
      have hin : (j : Int) < (rs.length : Int) := by omega
      obtain ⟨x, hx⟩ : ∃ x, rs[j]? = some x := ⟨_, List.getElem?_eq_getElem hlt⟩
      obtain ⟨b, o, rfl, hb, c0, c1, c2, c3, c4⟩ := (H.out.pure hB).at j x hx
      have hlt' := hI.lt
      have Hx := Lib.hid hx
      have HI := Lib.hid hI
      clear hx hI
      go_wp2_with (go_at_call 41; refine (toCall_c x _).mono ?_; rintro e w1 ⟨rfl, hb1⟩; have hI1 := HI.out.pure hb1; have hz1 := hb1.size; have hlt1 := hI1.lt; obtain ⟨u0, d0⟩ := hI1.cell (k := j) (i := 0) hlt (by omega); obtain ⟨u1, d1⟩ := hI1.cell (k := j) (i := 1) hlt (by omega); obtain ⟨u2, d2⟩ := hI1.cell (k := j) (i := 2) hlt (by omega); obtain ⟨u3, d3⟩ := hI1.cell (k := j) (i := 3) hlt (by omega); obtain ⟨u4, d4⟩ := hI1.cell (k := j) (i := 4) hlt (by omega); simp only [Nat.add_zero] at d0; have f0 := hI1.fr)
      refine ⟨⟨j + 1, by go_num, by omega, (by (repeat (with_reducible first | exact Below.refl _ _ | refine Below.alloc ?_ ?_ _ | refine below_drewN ?_ _ | refine Below.drew ?_ | refine Below.setCell ?_ ?_ _ | refine Below.trans ?_ (Below.mono (by assumption) ?_))) <;> (first | omega | (simp; try omega))), hI1.step hlt (c := x.cells) (by simp [Hx.out]) rfl (by simp [World.setCell]) (fun o => by simp) ?_ ?_⟩, by simp [intOf]; omega⟩
      · intro i u hu
        rcases i with _ | _ | _ | _ | _ | i
        all_goals (simp [Cal.cells] at hu)
        all_goals (try subst hu)
        all_goals (simp [cell_set, d0, d1, d2, d3, d4]; done)
      · intro off hoff
        repeat (rw [cell_set, if_neg (by intro e; simp only [Addr.mk.injEq] at e; omega)])
    · obtain rfl : j = rs.length := by omega
      go_wp2
      go_ret
      obtain ⟨q1, q2⟩ := hI.done (by simp)
      exact ⟨_, rfl, q1, RowI.held q2 (Nat.le_refl _), hB⟩

set_option maxRecDepth 100000 in
theorem szCallS_c (v : Value) (rs : List Cal) (k : Int) (w : World) (h : CalsAt w v rs) (hk0 : 0 ≤ k) (hk : k ≤ 1048576) :
    Calls Tryz.prog 48 #[v, .int .i64 k] w fun e w' => ∃ r : Int, e = .returned (.int .i64 r) ∧ r ≤ 1048576 ∧ (0 ≤ r → rs.length ≤ 1048576) ∧ Below w.heap.size w w' := by
  obtain ⟨p, cap, rfl, h1, h2⟩ := h.len
  unfold maxLen at h2
  have hw : IntKind.i64.wrap (k - (rs.length : Int)) = k - (rs.length : Int) := IntWalk.i64_in _ (by omega)
  by_cases hneg : k - (rs.length : Int) < 0
  · go_enter Tryz.func48, Tryz.ntmps48
    go_wp2
    go_ret
    exact ⟨_, rfl, by omega, fun h => absurd h (by omega), (by (repeat (with_reducible first | exact Below.refl _ _ | refine Below.alloc ?_ ?_ _ | refine below_drewN ?_ _ | refine Below.drew ?_ | refine Below.setCell ?_ ?_ _ | refine Below.trans ?_ (Below.mono (by assumption) ?_))) <;> (first | omega | (simp; try omega)))⟩
  · go_enter Tryz.func48, Tryz.ntmps48
    go_wp2
    go_ret
    exact ⟨_, rfl, by omega, fun h => by omega, (by (repeat (with_reducible first | exact Below.refl _ _ | refine Below.alloc ?_ ?_ _ | refine below_drewN ?_ _ | refine Below.drew ?_ | refine Below.setCell ?_ ?_ _ | refine Below.trans ?_ (Below.mono (by assumption) ?_))) <;> (first | omega | (simp; try omega)))⟩

set_option maxRecDepth 100000 in
set_option maxHeartbeats 1000000 in
theorem eqCall_s (a b c d e : Int) (w : World) : Calls Tryz.prog 89 #[.agg #[.int .i64 a, .int .i64 b, .int .i64 c, .int .i64 d, .int .i64 e], .agg #[.int .i64 a, .int .i64 b, .int .i64 c, .int .i64 d, .int .i64 e]] w fun e w' => e = .returned (.bool true) ∧ Below w.heap.size w w' := by
  go_enter Tryz.func89, Tryz.ntmps89
  go_wp2
  go_ret
  exact ⟨rfl, (by (repeat (with_reducible first | exact Below.refl _ _ | refine Below.alloc ?_ ?_ _ | refine below_drewN ?_ _ | refine Below.drew ?_ | refine Below.setCell ?_ ?_ _ | refine Below.trans ?_ (Below.mono (by assumption) ?_))) <;> (first | omega | (simp; try omega)))⟩

set_option maxRecDepth 100000 in
set_option maxHeartbeats 2000000 in
theorem eqCallS_s (xs : List Cal) (va vb : Value) (w : World) (ha : CalsAt w va xs) (hb : CalsAt w vb xs) :
    Calls Tryz.prog 50 #[va, vb] w fun e w' => e = .returned (.bool true) ∧ Below w.heap.size w w' := by
  obtain ⟨pa, ca, rfl, hla, hma⟩ := ha.len
  obtain ⟨pb, cb, rfl, hlb, hmb⟩ := hb.len
  unfold maxLen at hma hmb
  have Ha := Lib.hid ha
  have Hb := Lib.hid hb
  clear ha hb
  go_enter Tryz.func50, Tryz.ntmps50
  go_wp2
  go_loopw [5] (fun s5 wr => ∃ j : Nat, s5 = .int .i64 (j : Int) ∧ j ≤ xs.length ∧ Below w.heap.size w wr) (fun s5 _ => xs.length - (intOf s5).toNat)
  case atStart => exact ⟨0, rfl, by omega, Below.refl _ _⟩
  case round =>
    obtain ⟨j, rfl, hj, hB⟩ := hrel
    by_cases hlt : j < xs.length
    · have h0 : (0 : Int) ≤ (j : Int) := by omega
      have hin : (j : Int) < (xs.length : Int) := by omega
      obtain ⟨x, hx⟩ : ∃ x, xs[j]? = some x := ⟨_, List.getElem?_eq_getElem hlt⟩
      obtain ⟨b1, o1, rfl, hb1, p0, p1, p2, p3, p4⟩ := (Ha.out.pure hB).at j x hx
      obtain ⟨b2, o2, rfl, hb2, q0, q1, q2, q3, q4⟩ := (Hb.out.pure hB).at j x hx
      have HB := Lib.hid hB
      have hzr := hB.size
      clear hx hB
      obtain ⟨x0, x1, x2, x3, x4⟩ := x
      dsimp only at p0 p1 p2 p3 p4 q0 q1 q2 q3 q4
      go_upto_region 6 with (fail)
      have HK := Lib.hid (show ∀ w' : World, Below wr.heap.size wr w' → (Below wr.heap.size wr w' ∧ w'.cell? ⟨b1, o1 + j * 5, none⟩ = some (.int .i64 x0) ∧ w'.cell? ⟨b1, o1 + j * 5 + 1, none⟩ = some (.int .i64 x1) ∧ w'.cell? ⟨b1, o1 + j * 5 + 2, none⟩ = some (.int .i64 x2) ∧ w'.cell? ⟨b1, o1 + j * 5 + 3, none⟩ = some (.int .i64 x3) ∧ w'.cell? ⟨b1, o1 + j * 5 + 4, none⟩ = some (.int .i64 x4) ∧ w'.cell? ⟨b2, o2 + j * 5, none⟩ = some (.int .i64 x0) ∧ w'.cell? ⟨b2, o2 + j * 5 + 1, none⟩ = some (.int .i64 x1) ∧ w'.cell? ⟨b2, o2 + j * 5 + 2, none⟩ = some (.int .i64 x2) ∧ w'.cell? ⟨b2, o2 + j * 5 + 3, none⟩ = some (.int .i64 x3) ∧ w'.cell? ⟨b2, o2 + j * 5 + 4, none⟩ = some (.int .i64 x4)) from fun w' h =>
        ⟨h, (h.cell hb1).trans p0, (h.cell hb1).trans p1, (h.cell hb1).trans p2, (h.cell hb1).trans p3, (h.cell hb1).trans p4, (h.cell hb2).trans q0, (h.cell hb2).trans q1, (h.cell hb2).trans q2, (h.cell hb2).trans q3, (h.cell hb2).trans q4⟩)
      clear p0 p1 p2 p3 p4 q0 q1 q2 q3 q4
      go_cut [26] (fun s26 wz => s26 = .bool false ∧ Below wr.heap.size wr wz)
      case first =>
        first | (go_region_held3 (fun w' => Below wr.heap.size wr w' ∧ w'.cell? ⟨b1, o1 + j * 5, none⟩ = some (.int .i64 x0) ∧ w'.cell? ⟨b1, o1 + j * 5 + 1, none⟩ = some (.int .i64 x1) ∧ w'.cell? ⟨b1, o1 + j * 5 + 2, none⟩ = some (.int .i64 x2) ∧ w'.cell? ⟨b1, o1 + j * 5 + 3, none⟩ = some (.int .i64 x3) ∧ w'.cell? ⟨b1, o1 + j * 5 + 4, none⟩ = some (.int .i64 x4) ∧ w'.cell? ⟨b2, o2 + j * 5, none⟩ = some (.int .i64 x0) ∧ w'.cell? ⟨b2, o2 + j * 5 + 1, none⟩ = some (.int .i64 x1) ∧ w'.cell? ⟨b2, o2 + j * 5 + 2, none⟩ = some (.int .i64 x2) ∧ w'.cell? ⟨b2, o2 + j * 5 + 3, none⟩ = some (.int .i64 x3) ∧ w'.cell? ⟨b2, o2 + j * 5 + 4, none⟩ = some (.int .i64 x4)) (first | assumption | exact HK.out _ (Below.refl _ _) | exact HK.out _ (Below.drew (Below.refl _ _)) | (have hX := And.left (by assumption : Below wr.heap.size wr _ ∧ _); exact HK.out _ (hX.trans (hb5.mono hX.size)))) (first | (go_at_call 89; with_reducible refine (eqCall_s x0 x1 x2 x3 x4 _).mono ?_; rintro e w5 ⟨rfl, hb5⟩))) | fail
        all_goals go_wp2
        all_goals go_meet
        all_goals exact ⟨rfl, And.left (by assumption : Below wr.heap.size wr _ ∧ _)⟩
      case rest =>
        obtain ⟨rfl, hBz⟩ := hcut
        have HBz := Lib.hid (HB.out.trans (hBz.mono hzr))
        clear hBz
        go_wp2
        exact ⟨⟨j + 1, by go_num, by omega, HBz.out⟩, by simp [intOf]; omega⟩
    · have hin : ¬ (j : Int) < (xs.length : Int) := by omega
      go_wp2
      go_ret
      exact ⟨rfl, hB⟩

end Go.Proofs.YtghbphdipdjekaaGreatDoor
namespace Drw
open Go Go.RowKit
/-- What the marks of calls are. -/
def mkC (k : Int) : Cal := ⟨k, k + 1, k + 2, k + 3, k + 4⟩
def mkCs (k : Int) : Nat → List Cal
  | 0 => []
  | n + 1 => mkC k :: mkCs (k + 5) n
@[simp] theorem mkCs_len : ∀ (n : Nat) (k : Int), (mkCs k n).length = n
  | 0, _ => rfl
  | n + 1, k => by simp [mkCs, mkCs_len n]
theorem mkCs_at : ∀ (n : Nat) (k : Int) (j : Nat), j < n → (mkCs k n)[j]? = some (mkC (k + 5 * (j : Int)))
  | 0, _, _, h => by omega
  | n + 1, k, 0, _ => by simp [mkCs]
  | n + 1, k, j + 1, h => by
    rw [mkCs, List.getElem?_cons_succ, mkCs_at n _ j (by omega)]
    congr 2; omega
end Drw
namespace Go.Proofs.YtghbphdipdjekaaGreatDoor
open Go.RowKit Drw
attribute [local go_sem] Lab.val Rgt.val Cal.val Thg.val

set_option maxRecDepth 100000 in
set_option maxHeartbeats 4000000 in
theorem markCallS_c {v : Value} (xs : List Cal) (k : Int) (w : World) (h : CalsAt w v xs) (hf : Free w xs.length v) (hk0 : 0 ≤ k) (hk : k ≤ 35184372088832) (hl : xs.length ≤ 1048576) :
    Calls Tryz.prog 51 #[v, .int .i64 k] w fun e w' => e = .returned (.int .i64 (k + 5 * (xs.length : Int))) ∧ CalsAt w' v (mkCs k xs.length) ∧ Chg (fun b => 0 < xs.length ∧ v.ownBlock = some b) w w' ∧ ∀ b o, w'.frozen? ⟨b, o, none⟩ = w.frozen? ⟨b, o, none⟩ := by
  obtain ⟨p, cap, rfl, h1, h2⟩ := h.len
  unfold maxLen at h2
  have H := Lib.hid h
  have Hf := Lib.hid hf
  clear h hf
  go_enter Tryz.func51, Tryz.ntmps51
  go_wp2
  go_loopw [1, 5] (fun s1 s5 wr => ∃ (j : Nat) (K : Int) (ys : List Cal), s5 = .int .i64 (j : Int) ∧ j ≤ xs.length ∧ s1 = .int .i64 K ∧ K = k + 5 * (j : Int) ∧ ys.length = xs.length ∧ (∀ i, i < j → ys[i]? = some (mkC (k + 5 * (i : Int)))) ∧ CalsAt wr (.slice p xs.length cap) ys ∧ Chg (fun b => 0 < xs.length ∧ (Value.slice p xs.length cap).ownBlock = some b) w wr ∧ ∀ b o, wr.frozen? ⟨b, o, none⟩ = w.frozen? ⟨b, o, none⟩) (fun _ s5 _ => xs.length - (intOf s5).toNat)
  case atStart => exact ⟨0, k, xs, rfl, by omega, rfl, by simp, rfl, fun i h => absurd h (by omega), H.out, Chg.refl _ _, fun _ _ => rfl⟩
  case round =>
    obtain ⟨j, K, ys, rfl, hj, rfl, hK, hyl, hys, hI, hC, hF⟩ := hrel
    have HK := Lib.hid hK
    have Hyl := Lib.hid hyl
    have Hys := Lib.hid hys
    have HI := Lib.hid hI
    have HC := Lib.hid hC
    have HF := Lib.hid hF
    by_cases hlt : j < xs.length
    · have h0 : (0 : Int) ≤ (j : Int) := by omega
      have hin : (j : Int) < (xs.length : Int) := by omega
      have hK0 : 0 ≤ K := by omega
      have hK1 : K ≤ 35184377331712 := by omega
      obtain ⟨x, hx⟩ : ∃ x, ys[j]? = some x := ⟨_, List.getElem?_eq_getElem (by omega)⟩
      obtain ⟨b, o, rfl, hb, c0, c1, c2, c3, c4⟩ := hI.at j x hx
      have f0 : ∀ o, wr.frozen? ⟨b, o, none⟩ = false := fun o => (hF b o).trans (Hf.out b rfl (by omega) _)
      have w1 : IntKind.i64.wrap (K + 1) = K + 1 := IntWalk.i64_in _ (by omega)
      have w2 : IntKind.i64.wrap (K + 1 + 1) = K + 1 + 1 := IntWalk.i64_in _ (by omega)
      have w3 : IntKind.i64.wrap (K + 1 + 1 + 1) = K + 1 + 1 + 1 := IntWalk.i64_in _ (by omega)
      have w4 : IntKind.i64.wrap (K + 1 + 1 + 1 + 1) = K + 1 + 1 + 1 + 1 := IntWalk.i64_in _ (by omega)
      have w5 : IntKind.i64.wrap (K + 1 + 1 + 1 + 1 + 1) = K + 1 + 1 + 1 + 1 + 1 := IntWalk.i64_in _ (by omega)
      clear hyl hys hI hC hF hx hK
      go_wp2
      have hS : ∀ q : Nat, 0 < xs.length ∧ some b = some b := fun _ => ⟨by omega, rfl⟩
      refine ⟨⟨j + 1, _, ys.set j (mkC K), by go_num, by omega, rfl, by have := HK.out; omega, by simpa using Hyl.out, fun i hi => ?_, ?_, ((((HC.out.setCell (p := ⟨b, _, none⟩) (hS 0) _).setCell (p := ⟨b, _, none⟩) (hS 0) _).setCell (p := ⟨b, _, none⟩) (hS 0) _).setCell (p := ⟨b, _, none⟩) (hS 0) _).setCell (p := ⟨b, _, none⟩) (hS 0) _, fun b' o' => by simpa using HF.out b' o'⟩, by simp [intOf]; omega⟩
      · rw [List.getElem?_set]
        by_cases e : j = i
        · subst e; simp [Hyl.out, hlt, HK.out]
        · rw [if_neg e]; exact Hys.out i (by omega)
      · unfold CalsAt
        rw [List.map_set]
        refine Drw.Rows.put HI.out (fun c hc => ?_) (fun i u hu => ?_) (fun off ho => ?_)
        · rw [List.mem_map] at hc; obtain ⟨y, -, rfl⟩ := hc; simp [Cal.cells]
        · have e2 : K + 1 + 1 = K + 2 := by omega
          have e3 : K + 1 + 1 + 1 = K + 3 := by omega
          have e4 : K + 1 + 1 + 1 + 1 = K + 4 := by omega
          rw [e4, e3, e2]
          rcases i with _ | _ | _ | _ | _ | i
          all_goals (simp [Cal.cells, mkC] at hu)
          all_goals (try subst hu)
          all_goals (simp [cell_set, c0, c1, c2, c3, c4]; done)
        · repeat (rw [cell_set, if_neg (by intro e; simp only [Addr.mk.injEq] at e; omega)])
    · obtain rfl : j = xs.length := by omega
      clear hyl hys hI hC hF hK
      go_wp2
      go_ret
      refine ⟨by rw [HK.out]; rfl, ?_, HC.out, HF.out⟩
      have : ys = mkCs k xs.length := by
        apply List.ext_getElem?
        intro i
        by_cases hi : i < xs.length
        · rw [Hys.out i hi, mkCs_at _ _ _ hi]
        · rw [List.getElem?_eq_none (by rw [Hyl.out]; omega), List.getElem?_eq_none (by simp; omega)]
      rw [← this]; exact HI.out

end Go.Proofs.YtghbphdipdjekaaGreatDoor
