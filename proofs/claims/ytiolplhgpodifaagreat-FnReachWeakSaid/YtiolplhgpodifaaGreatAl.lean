/- What a runner gets by its rights. Conditions: the gathered sets lie where their cells say. -/
import Derived.Test.YtiolplhgpodifaaGreatEx
import Derived.Test.YtiolplhgpodifaaGreatGs
import Derived.Maps.AppendAt
import Derived.Test.YtiolplhgpodifaaGreatG
set_option linter.unusedVariables false
set_option linter.unusedSimpArgs false
namespace Go.Proofs.YtiolplhgpodifaaGreat
open Go.RowKit Drw
attribute [local go_sem] Lab.val Rgt.val Cal.val Thg.val

theorem kindAt_t {p : Option Addr} {cap : Nat} {ts : List Thg} {i k : Int} {v : Bool} {w : World} (hT : TabAt w (.slice p ts.length cap) ts) (h : kindAt ts i k = v) :
    Calls Tryz.prog 59 #[.slice p ts.length cap, .int .i64 i, .int .i64 k] w fun e w' => e = .returned (.bool v) ∧ w' = w := by
  rw [← h]; exact (kindAt_c p cap ts i k w hT).mono fun _ _ h => ⟨h.1, h.2.symm⟩
theorem rightLive_v {p : Option Addr} {cap : Nat} {ts : List Thg} {x0 x1 : Int} {x2 x3 x4 v : Bool} {w : World} (hT : TabAt w (.slice p ts.length cap) ts) (h : live ts ⟨x0, x1, x2, x3, x4⟩ = v) :
    Calls Tryz.prog 45 #[.slice p ts.length cap, .agg #[.int .i64 x0, .int .i64 x1, .bool x2, .bool x3, .bool x4]] w fun e w' => e = .returned (.bool v) ∧ Below w.heap.size w w' := by
  rw [← h]; exact rightLive_c p cap ts ⟨x0, x1, x2, x3, x4⟩ w hT

set_option maxRecDepth 100000 in
set_option maxHeartbeats 4000000 in
theorem visitRun_c {w0 w : World} {R H hc : Nat} {p : Option Addr} {cap : Nat} {ts : List Thg} {sp bp : Nat → Nat} {a : List (List Rgt)} {i : Nat} (h : RchAt w0 w R H hc p cap ts sp bp a) (hi : i < ts.length) (hk : kindAt ts ((i : Int) + 1) 3 = true) :
    Calls Tryz.prog 64 #[.pointer (some ⟨R, 0, none⟩), .int .i64 ((i : Int) + 1)] w (Grown w0 w R H hc p cap ts sp bp a (Drw.Shut ts a i)) := by
  have Hk := Lib.hid hk
  have H0 := Lib.hid h
  have HRt := Lib.hid (rights_c h hi)
  clear hk h
  go_enter Tryz.func64, Tryz.ntmps64
  go_wp2_with (first
    | (go_at_call 36; refine HRt.out.mono ?_; rintro e w1 ⟨q, c, L, rfl, hL, hO, hM, hW, hb1⟩))
  have hlen : L.length ≤ maxLen := by
    obtain ⟨p', c', e, h1, h2⟩ := hL.len
    omega
  have HR1 := Lib.hid (H0.out.pure hb1)
  have HL := Lib.hid hL
  have HM := Lib.hid hM
  have HW := Lib.hid hW
  have Hb1 := Lib.hid hb1
  have hz1 := hb1.size
  unfold maxLen at hlen
  clear hL hO hM hW hb1
  go_loopw [12, 5] (fun s12 s5 wr => ∃ (k : Nat) (a' : List (List Rgt)) (ch : Bool), s12 = .int .i64 (k : Int) ∧ s5 = .bool ch ∧ k ≤ L.length ∧ RchAt w0 wr R H hc p cap ts sp bp a' ∧ Chg (Mp ts.length bp) w1 wr ∧ Inc a a' ch ∧ (ch = false → ∀ x ∈ L.take k, Shut1 ts a i x)) (fun s12 _ _ => L.length - (intOf s12).toNat)
  case atStart => exact ⟨0, a, false, rfl, rfl, by omega, HR1.out, Chg.refl _ _, Inc.refl _, fun _ x hx => by simp at hx⟩
  case round =>
    obtain ⟨k, a', ch, rfl, rfl, hk, hR, hG, hI, hX⟩ := hrel
    have HR := Lib.hid hR
    have HG := Lib.hid hG
    have HI := Lib.hid hI
    have HX := Lib.hid hX
    clear hR hG hI hX
    by_cases hlt : k < L.length
    · have hk0 : (0 : Int) ≤ (k : Int) := by omega
      have hkn : (k : Int) < (L.length : Int) := by omega
      obtain ⟨x, hx⟩ : ∃ x, L[k]? = some x := ⟨_, List.getElem?_eq_getElem hlt⟩
      have Hx := Lib.hid hx
      have hgx : Got ts ((i : Int) + 1) x := H0.out.gat.got i _ ((HM.out _).1 (List.mem_of_getElem? hx))
      have Hgx := Lib.hid hgx
      obtain ⟨lb, lo, rfl, hlb, c0, c1, c2, c3, c4⟩ := (listed_keep H0.out HL.out HW.out HG.out).at k x hx
      have hzr := HG.out.size
      clear hx hgx
      have hend : ∀ (P : Prop), (P → Shut1 ts a i x) → (P → ch = false) → P → ∀ z ∈ L.take (k + 1), Shut1 ts a i z := by
        intro P h1 h2 hp z hz
        rw [List.take_add_one, Hx.out] at hz
        rcases List.mem_append.1 hz with h | h
        · exact HX.out (h2 hp) z h
        · have : z = x := by simpa using h
          rw [this]; exact h1 hp
      have Hend := Lib.hid hend
      clear hend
      obtain ⟨kn, hkn'⟩ : ∃ v, kindAt ts x.thing 2 = v := ⟨_, rfl⟩
      obtain ⟨lv, hlv⟩ : ∃ v, live ts x = v := ⟨_, rfl⟩
      have Hkn := Lib.hid hkn'
      have Hlv := Lib.hid hlv
      clear hkn' hlv
      obtain ⟨x0, x1, x2, x3, x4⟩ := x
      dsimp only at c0 c1 c2 c3 c4
      go_upto_region 5 with (fail)
      generalize hwy : World.alloc _ _ = wy
      have hBy : Below wr.heap.size wr wy := by rw [← hwy]; exact (by (repeat (with_reducible first | exact Below.refl _ _ | refine Below.alloc ?_ ?_ _ | refine below_drewN ?_ _ | refine Below.drew ?_ | refine Below.setCell ?_ ?_ _ | refine Below.trans ?_ (Below.mono (by assumption) ?_))) <;> (first | omega | (simp; try omega)))
      have hzy : wr.heap.size < wy.heap.size := by rw [← hwy]; simp
      have gy : wy.cell? ⟨wr.heap.size, 0, none⟩ = some (.int .i64 x0) ∧ wy.cell? ⟨wr.heap.size, 1, none⟩ = some (.int .i64 x1) ∧ wy.cell? ⟨wr.heap.size, 2, none⟩ = some (.bool x2) ∧ wy.cell? ⟨wr.heap.size, 3, none⟩ = some (.bool x3) ∧ wy.cell? ⟨wr.heap.size, 4, none⟩ = some (.bool x4) := by rw [← hwy]; simp [go_sem]
      have HRy := Lib.hid (HR.out.pure hBy)
      have HBy := Lib.hid hBy
      have HS := Lib.hid (show ∀ w' : World, Below wy.heap.size wy w' → (Below wy.heap.size wy w' ∧ w'.cell? ⟨R, 0, none⟩ = some (.slice p ts.length cap) ∧ w'.cell? ⟨wr.heap.size, 0, none⟩ = some (.int .i64 x0) ∧ w'.cell? ⟨wr.heap.size, 1, none⟩ = some (.int .i64 x1) ∧ w'.cell? ⟨wr.heap.size, 2, none⟩ = some (.bool x2) ∧ w'.cell? ⟨wr.heap.size, 3, none⟩ = some (.bool x3) ∧ w'.cell? ⟨wr.heap.size, 4, none⟩ = some (.bool x4)) from fun w' h =>
        ⟨h, (h.cell (cell_lt HRy.out.tab)).trans HRy.out.tab, (h.cell hzy).trans gy.1, (h.cell hzy).trans gy.2.1, (h.cell hzy).trans gy.2.2.1, (h.cell hzy).trans gy.2.2.2.1, (h.cell hzy).trans gy.2.2.2.2⟩)
      clear hwy hBy gy c0 c1 c2 c3 c4
      go_cut [30] (fun s30 wz => s30 = .bool (kn && lv) ∧ Below wy.heap.size wy wz)
      case first =>
        cases kn
        · have hund : undef = Value.tuple #[] := rfl
          have g0 := HRy.out.tab
          obtain ⟨-, -, g1, g2, g3, g4, g5⟩ := HS.out wy (Below.refl _ _)
          go_quiet ((go_at_call 59; refine Calls.quiet_of_same (kindAt_t (by first | exact HRy.out.table | exact (HRy.out.pure (Below.drew (Below.refl _ _))).table) Hkn.out)))
          go_wp2
          go_meet
          exact ⟨rfl, (by (repeat (with_reducible first | exact Below.refl _ _ | refine Below.alloc ?_ ?_ _ | refine below_drewN ?_ _ | refine Below.drew ?_ | refine Below.setCell ?_ ?_ _ | refine Below.trans ?_ (Below.mono (by assumption) ?_))) <;> (first | omega | (simp; try omega)))⟩
        · first | (go_region_held3 (fun w' => Below wy.heap.size wy w' ∧ w'.cell? ⟨R, 0, none⟩ = some (.slice p ts.length cap) ∧ w'.cell? ⟨wr.heap.size, 0, none⟩ = some (.int .i64 x0) ∧ w'.cell? ⟨wr.heap.size, 1, none⟩ = some (.int .i64 x1) ∧ w'.cell? ⟨wr.heap.size, 2, none⟩ = some (.bool x2) ∧ w'.cell? ⟨wr.heap.size, 3, none⟩ = some (.bool x3) ∧ w'.cell? ⟨wr.heap.size, 4, none⟩ = some (.bool x4)) (first | assumption | exact HS.out _ (Below.refl _ _) | exact HS.out _ (Below.drew (Below.refl _ _)) | (have hX := And.left (by assumption : Below wy.heap.size wy _ ∧ _); exact HS.out _ (hX.trans (hb3.mono hX.size)))) (first | (go_at_call 59; with_reducible refine (kindAt_t (HRy.out.pure (And.left (by assumption : Below wy.heap.size wy _ ∧ _))).table Hkn.out).mono ?_; rintro e w3 ⟨rfl, rfl⟩) | (go_at_call 45; with_reducible refine (rightLive_v (HRy.out.pure (And.left (by assumption : Below wy.heap.size wy _ ∧ _))).table Hlv.out).mono ?_; rintro e w3 ⟨rfl, hb3⟩))) | fail
          all_goals go_wp2
          all_goals go_meet
          all_goals exact ⟨rfl, And.left (by assumption : Below wy.heap.size wy _ ∧ _)⟩
      case rest =>
        obtain ⟨rfl, hBz⟩ := hcut
        obtain ⟨wz, rfl⟩ : ∃ y : World, y = wc := ⟨_, rfl⟩
        obtain ⟨-, -, g0, g1, g2, g3, g4⟩ := HS.out wz hBz
        have HRz := Lib.hid (HRy.out.pure hBz)
        have HBz := Lib.hid (HBy.out.trans (hBz.mono HBy.out.size))
        clear hBz
        cases hq : (kn && lv)
        · clear g0 g1 g2 g3 g4
          have Hq := Lib.hid hq
          clear hq
          go_wp2
          refine ⟨⟨k + 1, a', ch, by go_num, rfl, by omega, HRz.out, HG.out.trans (Chg.of_pure HBz.out), HI.out, fun e => Hend.out (ch = false) (fun _ h1 h2 => ?_) id e⟩, by simp [intOf]; omega⟩
          have hq := Hq.out
          rw [← Hkn.out, ← Hlv.out, h1, h2] at hq
          cases hq
        · obtain ⟨h1, h2⟩ : kn = true ∧ lv = true := by simpa using hq
          have HEx := Lib.hid (exchange_c (b := ⟨x0, x1, x2, x3, x4⟩) HRz.out hi Hk.out Hgx.out (Hkn.out.trans h1) (Hlv.out.trans h2))
          clear hq h1 h2
          go_wp2_with (first
            | (go_at_call 92; refine HEx.out.mono ?_; rintro e w3 ⟨a2, c2, rfl, h1, h2, h3, h4⟩; have E1 := Lib.hid h1; have E2 := Lib.hid h2; have E3 := Lib.hid h3; have E4 := Lib.hid h4; clear h1 h2 h3 h4; cases c2))
          · refine ⟨⟨k + 1, a2, ch, by go_num, rfl, by omega, E1.out, HG.out.trans ((Chg.of_pure HBz.out).trans E2.out), by simpa using HI.out.trans E3.out, fun e => Hend.out (ch = false) (fun e => ?_) id e⟩, by simp [intOf]; omega⟩
            have := HI.out.same e
            rw [← this]; exact E4.out (by trivial)
          · exact ⟨⟨k + 1, a2, true, by go_num, rfl, by omega, E1.out, HG.out.trans ((Chg.of_pure HBz.out).trans E2.out), by simpa using HI.out.trans E3.out, fun e => by cases e⟩, by simp [intOf]; omega⟩
    · have hkn : ¬ (k : Int) < (L.length : Int) := by omega
      have hkl : k = L.length := by omega
      go_wp2
      go_ret
      refine ⟨a', ch, rfl, HR.out, (Chg.of_pure Hb1.out).trans HG.out, HI.out, fun e x hx => HX.out e x ?_⟩
      rw [hkl, List.take_length]
      exact (HM.out x).2 hx
end Go.Proofs.YtiolplhgpodifaaGreat

/- The work list of the runners, and its end: no right gives anything new. Conditions: the gathered sets lie where their cells say. -/
namespace Go.Proofs.YtiolplhgpodifaaGreat
open Go.RowKit Drw
attribute [local go_sem] Lab.val Rgt.val Cal.val Thg.val

/-- A chain of entries, each with a number. -/
def ChainAt (w : World) (M : Nat → Prop) : Option Addr → List Int → Prop
  | q, [] => q = none
  | q, x :: l => ∃ b nx, q = some ⟨b, 0, none⟩ ∧ ¬ M b ∧ w.cell? ⟨b, 0, none⟩ = some (.int .i64 x) ∧ w.cell? ⟨b, 1, none⟩ = some (.pointer nx) ∧ ChainAt w M nx l
theorem ChainAt.chg {w w' : World} {M : Nat → Prop} (hg : Chg M w w') : ∀ {l : List Int} {q : Option Addr}, ChainAt w M q l → ChainAt w' M q l
  | [], _, h => h
  | _ :: _, _, ⟨b, nx, h1, h2, h3, h4, h5⟩ => ⟨b, nx, h1, h2, hg.cell h3 h2, hg.cell h4 h2, ChainAt.chg hg h5⟩
/-- The runners that a chain holds. -/
structure Runs (ts : List Thg) (l : List Int) : Prop where
  ok : ∀ x ∈ l, ∃ i : Nat, i < ts.length ∧ x = (i : Int) + 1 ∧ kindAt ts x 3 = true
  len : l.length ≤ ts.length
/-- What is told of the list of all runners. -/
def AllRuns (w : World) (M : Nat → Prop) (ts : List Thg) (e : Ending) (w' : World) : Prop :=
  ∃ q l, e = .returned (.pointer q) ∧ ChainAt w' M q l ∧ Runs ts l ∧ (∀ i : Nat, i < ts.length → kindAt ts ((i : Int) + 1) 3 = true → ((i : Int) + 1) ∈ l) ∧ Below w.heap.size w w'

set_option maxRecDepth 100000 in
set_option maxHeartbeats 4000000 in
theorem allRuns_c {w0 w : World} {R H hc : Nat} {p : Option Addr} {cap : Nat} {ts : List Thg} {sp bp : Nat → Nat} {a : List (List Rgt)} (h : RchAt w0 w R H hc p cap ts sp bp a) :
    Calls Tryz.prog 63 #[.pointer (some ⟨R, 0, none⟩)] w (AllRuns w (Mp ts.length bp) ts) := by
  have H0 := Lib.hid h
  have hl8 := h.len8
  have g0 := h.tab
  clear h
  go_enter Tryz.func63, Tryz.ntmps63
  go_wp2
  clear g0
  go_loopw [3, 4] (fun s3 s4 wr => ∃ (k : Nat) (q : Option Addr) (l : List Int), s4 = .int .i64 (k : Int) ∧ s3 = .pointer q ∧ k ≤ ts.length ∧ ChainAt wr (Mp ts.length bp) q l ∧ Runs ts l ∧ l.length + k ≤ ts.length ∧ (∀ i : Nat, k ≤ i → i < ts.length → kindAt ts ((i : Int) + 1) 3 = true → ((i : Int) + 1) ∈ l) ∧ Below w.heap.size w wr) (fun _ s4 _ => (intOf s4).toNat)
  case atStart => exact ⟨ts.length, none, [], rfl, rfl, by omega, rfl, ⟨fun x hx => absurd hx (by simp), by simp⟩, by simp, fun i h1 h2 => by omega, Below.refl _ _⟩
  case round =>
    obtain ⟨k, q, l, rfl, rfl, hk, hC, hR, hln, hA, hB⟩ := hrel
    have HC := Lib.hid hC
    have HRu := Lib.hid hR
    have HA := Lib.hid hA
    have HB := Lib.hid hB
    have HRw := Lib.hid (H0.out.pure hB)
    clear hC hR hA hB
    cases k with
    | zero =>
      have hno : ¬ (1 : Int) ≤ ((0 : Nat) : Int) := by omega
      go_wp2
      go_ret
      exact ⟨q, l, rfl, HC.out, HRu.out, fun i hi hka => HA.out i (Nat.zero_le _) hi hka, HB.out⟩
    | succ k =>
      rw [show (((k + 1 : Nat) : Int)) = (k : Int) + 1 by omega]
      have hyes : (1 : Int) ≤ (k : Int) + 1 := by omega
      have g0 := HRw.out.tab
      have hw1 : IntKind.i64.wrap ((k : Int) + 1 - 1) = (k : Int) := by rw [show (k : Int) + 1 - 1 = k by omega]; exact IntWalk.i64_in _ (by omega)
      have hw2 : IntKind.i64.wrap (k : Int) = (k : Int) := IntWalk.i64_in _ (by omega)
      obtain ⟨v, hv⟩ : ∃ v, kindAt ts ((k : Int) + 1) 3 = v := ⟨_, rfl⟩
      have Hv := Lib.hid hv
      clear hv
      cases v
      · go_wp2_with (first
          | (go_at_call 59; with_reducible refine (kindAt_t HRw.out.table Hv.out).mono ?_; rintro e w3 ⟨rfl, rfl⟩))
        refine ⟨⟨k, q, l, by go_num, rfl, by omega, HC.out, HRu.out, by omega, fun i h1 h2 h3 => ?_, HB.out⟩, by simp [intOf]; try omega⟩
        rcases Nat.lt_or_ge k i with h | h
        · exact HA.out i h h2 h3
        · obtain rfl : i = k := by omega
          rw [Hv.out] at h3
          cases h3
      · go_wp2_with (first
          | (go_at_call 59; with_reducible refine (kindAt_t HRw.out.table Hv.out).mono ?_; rintro e w3 ⟨rfl, rfl⟩))
        refine ⟨⟨k, _, ((k : Int) + 1) :: l, by go_num, rfl, by omega, ⟨_, q, rfl, fun hm => ?_, by simp [go_sem], by simp [go_sem], HC.out.chg ((Chg.refl _ _).alloc _)⟩, ⟨fun x hx => ?_, by simp; omega⟩, by simp; omega, fun i h1 h2 h3 => ?_, HB.out.alloc HB.out.size _⟩, by simp [intOf]; try omega⟩
        · have := Mp.lt HRw.out hm; omega
        · rcases List.mem_cons.1 hx with rfl | hx
          · exact ⟨k, by omega, rfl, Hv.out⟩
          · exact HRu.out.ok x hx
        · rcases Nat.lt_or_ge k i with h | h
          · exact List.mem_cons_of_mem _ (HA.out i h h2 h3)
          · obtain rfl : i = k := by omega
            exact List.mem_cons.2 (.inl rfl)

set_option maxRecDepth 100000 in
set_option maxHeartbeats 4000000 in
theorem settle_c {w0 w : World} {R H hc : Nat} {p : Option Addr} {cap : Nat} {ts : List Thg} {sp bp : Nat → Nat} {a : List (List Rgt)} (h : RchAt w0 w R H hc p cap ts sp bp a) :
    Calls Tryz.prog 34 #[.pointer (some ⟨R, 0, none⟩)] w fun e w' => e = .returned (.tuple #[]) ∧ ∃ a', RchAt w0 w' R H hc p cap ts sp bp a' ∧ Chg (Mp ts.length bp) w w' ∧ ∀ i : Nat, i < ts.length → kindAt ts ((i : Int) + 1) 3 = true → Drw.Shut ts a' i := by
  have H0 := Lib.hid h
  have hl8 := h.len8
  clear h
  go_enter Tryz.func34, Tryz.ntmps34
  go_wp2_with (first
    | (go_at_call 63; refine (allRuns_c H0.out).mono ?_; rintro e w1 ⟨q, l, rfl, hC, hR, hA, hb1⟩))
  have H1 := Lib.hid (H0.out.pure hb1)
  have HB1 := Lib.hid hb1
  go_loopg [2] ((ts.length * 384 - tot List.length a) * 9 + l.length) (fun gk s2 wr => ∃ (q : Option Addr) (l : List Int) (a' : List (List Rgt)), s2 = .pointer q ∧ gk = (ts.length * 384 - tot List.length a') * 9 + l.length ∧ ChainAt wr (Mp ts.length bp) q l ∧ Runs ts l ∧ RchAt w0 wr R H hc p cap ts sp bp a' ∧ Chg (Mp ts.length bp) w1 wr ∧ ∀ i : Nat, i < ts.length → kindAt ts ((i : Int) + 1) 3 = true → ((i : Int) + 1) ∈ l ∨ Drw.Shut ts a' i)
  case atStart => exact ⟨q, l, a, rfl, rfl, hC, hR, H1.out, Chg.refl _ _, fun i hi hk => .inl (hA i hi hk)⟩
  case round =>
    clear hC hR hA hb1
    obtain ⟨q', l', a', rfl, hgk, hC, hR, hRc, hG, hS⟩ := hrel
    have HG := Lib.hid hG
    have HS := Lib.hid hS
    have HRu := Lib.hid hR
    have HR := Lib.hid hRc
    have Hgk := Lib.hid hgk
    clear hR hRc hG hS hgk
    cases l' with
    | nil =>
      obtain rfl : q' = none := hC
      go_wp2
      go_end0
      exact ⟨rfl, a', HR.out, (Chg.of_pure HB1.out).trans HG.out, fun i hi hk => (HS.out i hi hk).resolve_left (fun h => by cases h)⟩
    | cons x l' =>
      obtain ⟨b, nx, rfl, hnb, c0, c1, hC⟩ := hC
      obtain ⟨i, hi, hxi, hki⟩ := HRu.out.ok x (by simp)
      subst hxi
      have HC := Lib.hid hC
      have Hki := Lib.hid hki
      have hlt := HRu.out.len
      simp only [List.length_cons] at hlt
      clear hC hki
      go_wp2_with (first
        | (go_at_call 64; refine (visitRun_c HR.out hi Hki.out).mono ?_; rintro e w3 ⟨a2, c2, rfl, h1, h2, h3, h4⟩; have E1 := Lib.hid h1; have E2 := Lib.hid h2; have E3 := Lib.hid h3; have E4 := Lib.hid h4; clear h1 h2 h3 h4; cases c2)
        | (go_at_call 63; refine (allRuns_c E1.out).mono ?_; rintro e w4 ⟨q4, l4, rfl, hC4, hR4, hA4, hb4⟩))
      · go_roundg ((ts.length * 384 - tot List.length a2) * 9 + l'.length)
        case measure =>
          rw [Hgk.out, E3.out.same rfl]
          simp
        case rel =>
          refine ⟨nx, l', a2, rfl, rfl, HC.out.chg E2.out, ⟨fun x hx => HRu.out.ok x (List.mem_cons_of_mem _ hx), by omega⟩, E1.out, HG.out.trans E2.out, fun j hj hk => ?_⟩
          have e := E3.out.same rfl
          by_cases hji : j = i
          · subst hji
            rw [e]; exact .inr (E4.out (by trivial))
          · rcases HS.out j hj hk with h | h
            · rcases List.mem_cons.1 h with h | h
              · exact absurd h (by omega)
              · exact .inl h
            · rw [e]; exact .inr h
      · go_roundg ((ts.length * 384 - tot List.length a2) * 9 + l4.length)
        case measure =>
          have h1 := E3.out.more rfl
          have h2 := E1.out.gat.tot HR.out.ok
          have h3 := hR4.len
          rw [Hgk.out]
          simp only [List.length_cons]
          omega
        case rel =>
          exact ⟨q4, l4, a2, rfl, rfl, hC4, hR4, E1.out.pure hb4, HG.out.trans (E2.out.trans (Chg.of_pure hb4)), fun j hj hk => .inl (hA4 j hj hk)⟩
end Go.Proofs.YtiolplhgpodifaaGreat

/- The sets at the beginning: what each thing has. Conditions: the table lies where its cells say, and is one. -/
namespace Go.Proofs.YtiolplhgpodifaaGreat
open Go.RowKit Drw
attribute [local go_sem] Lab.val Rgt.val Cal.val Thg.val

theorem RgtsAt.keep {w w' : World} {q : Option Addr} {n c : Nat} {L : List Rgt} {M : Nat → Prop} (hr : RgtsAt w (.slice q n c) L) (hg : Chg M w w') (ho : ∀ k, (Value.slice q n c).ownBlock = some k → ¬ M k) : RgtsAt w' (.slice q n c) L :=
  Rows.kept hr hg (.inr fun k hk hm => ho k hk hm)
theorem info_setp : (Tryz.prog.info? 92).map (fun i => (i.zero, i.size, i.bytes)) = some (some (.pointer none), 1, 8) := by kernel_rfl
def ptrV (s : Nat) : Value := .pointer (some ⟨s, 0, none⟩)
/-- The sets of the first things, under way. -/
structure NewI (w wr : World) (R : Nat) (p : Option Addr) (cap : Nat) (ts : List Thg) (k : Nat) (v : Value) (sp bp : Nat → Nat) (a : List (List Rgt)) : Prop where
  tab : wr.cell? ⟨R, 0, none⟩ = some (.slice p ts.length cap)
  held : wr.cell? ⟨R, 1, none⟩ = some v
  fr : ∀ o, wr.frozen? ⟨R, o, none⟩ = false
  row : wr.ownsRow (R + 1) 92 1 v k ((List.range k).map fun i => ptrV (sp i))
  set : ∀ i, i < k → SetAt wr (sp i) (bp i) (rowA a i)
  inj : ∀ i j, i < k → j < k → bp i = bp j → i = j
  far : ∀ i, i < k → R < bp i ∧ v.ownBlock ≠ some (bp i) ∧ R < sp i ∧ v.ownBlock ≠ some (sp i) ∧ ∀ j, j < k → bp i ≠ sp j
  len : a.length = k
  got : ∀ i, ∀ r ∈ rowA a i, Got ts ((i : Int) + 1) r
  own : ∀ i, i < k → ∀ r ∈ (getT ts ((i : Int) + 1)).slots, r.thing ≠ 0 → r ∈ rowA a i
  below : Below w.heap.size w wr
  ge : w.heap.size ≤ R
theorem NewI.start {w : World} {p : Option Addr} {cap : Nat} {ts : List Thg} {wr : World} {R : Nat} (h0 : wr.cell? ⟨R, 0, none⟩ = some (.slice p ts.length cap)) (h1 : wr.cell? ⟨R, 1, none⟩ = some (.slice none 0 0)) (h2 : ∀ o, wr.frozen? ⟨R, o, none⟩ = false) (hb : Below w.heap.size w wr) (hR : w.heap.size ≤ R) : NewI w wr R p cap ts 0 (.slice none 0 0) (fun _ => 0) (fun _ => 0) [] :=
  ⟨h0, h1, h2, World.ownsRow_nil _ _ _ _, fun i h => absurd h (Nat.not_lt_zero _), fun i j h => absurd h (Nat.not_lt_zero _), fun i h => absurd h (Nat.not_lt_zero _), rfl, fun i r hr => by simp [rowA] at hr, fun i h => absurd h (Nat.not_lt_zero _), hb, hR⟩
theorem frz_chg {S : Nat → Prop} {w w' : World} (h : Chg S w w') {b : Nat} (hb : b < w.heap.size) (hs : ¬ S b) (o : Nat) : w'.frozen? ⟨b, o, none⟩ = w.frozen? ⟨b, o, none⟩ := by
  simp [World.frozen?, h.block b hb hs]
/-- A set of its own is put behind the others. -/
theorem NewI.push {w wr w1 w5 : World} {R : Nat} {p : Option Addr} {cap : Nat} {ts : List Thg} {k : Nat} {v v5 : Value} {sp bp : Nat → Nat} {a : List (List Rgt)} {s b : Nat} {S : List Rgt} (h : NewI w wr R p cap ts k v sp bp a)
    (hc : Chg (fun x => x = b) wr w1) (hs0 : wr.heap.size ≤ s) (hb0 : wr.heap.size ≤ b) (hsb : s ≠ b) (hS : SetAt w1 s b S)
    (ho : w5.ownsRow (R + 1) 92 1 v5 (k + 1) ((List.range (k + 1)).map fun i => ptrV (if i = k then s else sp i)))
    (hg : w1.grownBy w5 v.ownBlock) (hat : v5.ownBlock = v.ownBlock ∨ v5.ownBlock = some w1.heap.size) (hw : w1.heap.size ≤ w5.heap.size)
    (hgot : ∀ r ∈ S, Got ts ((k : Int) + 1) r) (hown : ∀ r ∈ (getT ts ((k : Int) + 1)).slots, r.thing ≠ 0 → r ∈ S) :
    NewI w (w5.setCell ⟨R, 1, none⟩ v5) R p cap ts (k + 1) v5 (fun i => if i = k then s else sp i) (fun i => if i = k then b else bp i) (a ++ [S]) := by
  have hRlt := cell_lt h.tab
  have hB1 : Below wr.heap.size wr w1 := hc.below (Nat.le_refl _) (fun k hk e => by omega)
  have hz1 := hB1.size
  have hvb : ∀ x, v.ownBlock = some x → R < x ∧ x < wr.heap.size := fun x hx => by have := h.row.lt x hx; omega
  have hg' : Chg (fun x => some x = v.ownBlock) w1 w5 := Chg.of_grown hg
  have hch : Chg (fun x => x = R ∨ some x = v.ownBlock) w1 (w5.setCell ⟨R, 1, none⟩ v5) := Chg.setCell (S := fun x => x = R ∨ some x = v.ownBlock) (hg'.mono (fun _ _ h => Or.inr h)) (p := ⟨R, 1, none⟩) (Or.inl rfl) v5
  have hSl := hS.lt
  have hsl : ∀ i, i < k → sp i < wr.heap.size ∧ bp i < wr.heap.size := fun i hi => (h.set i hi).lt
  have hnR : ∀ x, R < x → v.ownBlock ≠ some x → ¬ (x = R ∨ some x = v.ownBlock) := fun x h1 h2 h3 => by
    rcases h3 with h3 | h3
    · omega
    · exact h2 h3.symm
  have hvn : ∀ x, wr.heap.size ≤ x → v.ownBlock ≠ some x := fun x hx e => by have := hvb x e; omega
  have hv5 : ∀ x, x < w1.heap.size → v.ownBlock ≠ some x → v5.ownBlock ≠ some x := fun x hx h2 e => by
    rcases hat with h3 | h3
    · exact h2 (h3 ▸ e)
    · rw [h3] at e; injection e with e; omega
  refine ⟨?_, ?_, ?_, ?_, ?_, ?_, ?_, by simp [h.len], ?_, ?_, ?_, h.ge⟩
  · have h0 : w5.cell? ⟨R, 0, none⟩ = some (.slice p ts.length cap) := hg'.cell ((hB1.cell hRlt).trans h.tab) (fun e => by have := hvb R e.symm; omega)
    simp [cell_set, h0]
  · have h0 : w5.cell? ⟨R, 1, none⟩ = some v := hg'.cell ((hB1.cell hRlt).trans h.held) (fun e => by have := hvb R e.symm; omega)
    have hf : w5.frozen? ⟨R, 1, none⟩ = false := (frz_chg hg' (b := R) (by omega) (fun e => by have := hvb R e.symm; omega) 1).trans (((bcell hB1).2 _ _ hRlt).trans (h.fr 1))
    simp [cell_set, h0, hf]
  · intro o
    have hf := (frz_chg hg' (b := R) (by omega) (fun e => by have := hvb R e.symm; omega) o).trans (((bcell hB1).2 _ _ hRlt).trans (h.fr o))
    simpa using hf
  · refine own_chg ho (S := fun x => x = R) (Chg.setCell (S := fun x => x = R) (Chg.refl _ _) (p := ⟨R, 1, none⟩) rfl v5) (fun x h1 _ e => by omega)
  · intro i hi
    by_cases hik : i = k
    · subst hik
      have : rowA (a ++ [S]) i = S := by simp [rowA, h.len]
      rw [this]
      simp only [if_true]
      exact hS.chg hch (hnR _ (by omega) (hvn _ hs0)) (hnR _ (by omega) (hvn _ hb0))
    · have hi' : i < k := by omega
      have : rowA (a ++ [S]) i = rowA a i := by simp [rowA, List.getElem?_append_left (show i < a.length by rw [h.len]; exact hi')]
      rw [this]
      simp only [if_neg hik]
      obtain ⟨f1, f2, f3, f4, f5⟩ := h.far i hi'
      exact ((h.set i hi').pure hB1).chg hch (hnR _ f3 f4) (hnR _ f1 f2)
  · intro i j hi hj e
    have l1 := fun (h' : i < k) => (hsl i h').2
    have l2 := fun (h' : j < k) => (hsl j h').2
    by_cases hik : i = k <;> by_cases hjk : j = k
    · omega
    · rw [if_pos hik, if_neg hjk] at e
      have := l2 (by omega); omega
    · rw [if_neg hik, if_pos hjk] at e
      have := l1 (by omega); omega
    · rw [if_neg hik, if_neg hjk] at e
      exact h.inj i j (by omega) (by omega) e
  · intro i hi
    by_cases hik : i = k
    · simp only [if_pos hik]
      refine ⟨by omega, hv5 _ hSl.2 (hvn _ hb0), by omega, hv5 _ hSl.1 (hvn _ hs0), fun j hj => ?_⟩
      by_cases hjk : j = k
      · rw [if_pos hjk]; exact fun e => hsb e.symm
      · rw [if_neg hjk]
        have := (hsl j (by omega)).1
        omega
    · simp only [if_neg hik]
      obtain ⟨f1, f2, f3, f4, f5⟩ := h.far i (by omega)
      have hl := hsl i (by omega)
      refine ⟨f1, hv5 _ (by omega) f2, f3, hv5 _ (by omega) f4, fun j hj => ?_⟩
      by_cases hjk : j = k
      · rw [if_pos hjk]; omega
      · rw [if_neg hjk]; exact f5 j (by omega)
  · intro i r hr
    rcases Nat.lt_trichotomy i k with hik | hik | hik
    · have : rowA (a ++ [S]) i = rowA a i := by simp [rowA, List.getElem?_append_left (show i < a.length by rw [h.len]; exact hik)]
      rw [this] at hr
      exact h.got i r hr
    · subst hik
      have : rowA (a ++ [S]) i = S := by simp [rowA, h.len]
      rw [this] at hr
      exact hgot r hr
    · have : rowA (a ++ [S]) i = [] := by simp [rowA, List.getElem?_eq_none (show (a ++ [S]).length ≤ i by simp [h.len]; omega)]
      rw [this] at hr; cases hr
  · intro i hi r hr h0
    by_cases hik : i = k
    · subst hik
      have : rowA (a ++ [S]) i = S := by simp [rowA, h.len]
      rw [this]; exact hown r hr h0
    · have : rowA (a ++ [S]) i = rowA a i := by simp [rowA, List.getElem?_append_left (show i < a.length by rw [h.len]; omega)]
      rw [this]; exact h.own i (by omega) r hr h0
  · have hge := h.ge
    have hbs := h.below.size
    exact h.below.trans ((hB1.mono hbs).trans (hch.below (B := w.heap.size) (by omega) (fun x hx e => by
      rcases e with e | e
      · omega
      · have := hvb x e.symm; omega)))
theorem NewI.done {w wr : World} {R : Nat} {p : Option Addr} {cap : Nat} {ts : List Thg} {v : Value} {sp bp : Nat → Nat} {a : List (List Rgt)} (h : NewI w wr R p cap ts ts.length v sp bp a) (ht : tabOk ts = true) (hT : TabAt w (.slice p ts.length cap) ts) : ∃ H hc, RchAt w wr R H hc p cap ts sp bp a := by
  have h1 : 1 ≤ ts.length := ((tab_iff.1 ht).1).1
  obtain ⟨hlen, ⟨rfl, h0⟩ | ⟨g, hc, cur, rfl, hg, hheap, hnc, hcap, hcs, htk⟩⟩ := h.row
  · omega
  · refine ⟨g, hc, ht, ⟨h.len, h.got, fun k => ?_⟩, h.own, hT, h.below, h.tab, h.held, fun i hi => ?_, h.set, h.inj, fun i hi => ?_⟩
    · by_cases hk : k < ts.length
      · exact (h.set k hk).nodup
      · have : rowA a k = [] := by simp [rowA, List.getElem?_eq_none (show a.length ≤ k by rw [h.len]; omega)]
        rw [this]; exact List.Pairwise.nil
    · have e : cur.toList[i]? = some (ptrV (sp i)) := by
        have : (cur.toList.take (ts.length * 1))[i]? = some (ptrV (sp i)) := by rw [htk]; simp [hi]
        rw [List.getElem?_take] at this
        split at this
        · exact this
        · cases this
      have e' : cur[i]? = some (ptrV (sp i)) := by simpa using e
      simp [World.cell?, hheap, e']
      rfl
    · obtain ⟨f1, f2, f3, f4, f5⟩ := h.far i hi
      have hge := h.ge
      exact ⟨by omega, by omega, fun e => f2 (by rw [e]; rfl), f5⟩

set_option maxRecDepth 100000 in
set_option maxHeartbeats 4000000 in
theorem newReach_c {p : Option Addr} {cap : Nat} {ts : List Thg} {w : World} (hT : TabAt w (.slice p ts.length cap) ts) (ht : tabOk ts = true) :
    Calls Tryz.prog 33 #[.slice p ts.length cap] w fun e w' => ∃ R, e = .returned (.pointer (some ⟨R, 0, none⟩)) ∧ ∃ H hc sp bp a, RchAt w w' R H hc p cap ts sp bp a := by
  obtain ⟨i0, hi0, hy0, hy1, hy2⟩ := info_parts info_setp
  have h8 := (tab_iff.1 ht).1
  have HT := Lib.hid hT
  have Ht := Lib.hid ht
  obtain ⟨_, _, h1, hl1, hl2⟩ := hT.len
  cases h1
  unfold maxLen at hl2
  clear hT ht
  go_enter Tryz.func33, Tryz.ntmps33
  go_wp2
  go_loopw [14] (fun s14 wr => ∃ (k : Nat) (v : Value) (sp bp : Nat → Nat) (a : List (List Rgt)), s14 = .int .i64 (k : Int) ∧ k ≤ ts.length ∧ NewI w wr w.heap.size p cap ts k v sp bp a) (fun s14 _ => ts.length - (intOf s14).toNat)
  case atStart =>
    exact ⟨0, _, _, _, _, rfl, by omega, NewI.start (by simp [go_sem]) (by simp [go_sem]) (by intro o; simp [go_sem]) (by (repeat (with_reducible first | exact Below.refl _ _ | refine Below.alloc ?_ ?_ _ | refine below_drewN ?_ _ | refine Below.drew ?_ | refine Below.setCell ?_ ?_ _ | refine Below.trans ?_ (Below.mono (by assumption) ?_))) <;> (first | omega | (simp; try omega))) (Nat.le_refl _)⟩
  case round =>
    obtain ⟨k, v, sp, bp, a, rfl, hk, hN⟩ := hrel
    obtain ⟨wo, rfl⟩ : ∃ y : World, y = wr := ⟨_, rfl⟩
    have HN := Lib.hid hN
    clear hN
    by_cases hlt : k < ts.length
    · have hk0 : (0 : Int) ≤ (k : Int) := by omega
      have hkn : (k : Int) < (ts.length : Int) := by omega
      obtain ⟨t, htt⟩ : ∃ t, ts[k]? = some t := ⟨_, List.getElem?_eq_getElem hlt⟩
      obtain ⟨b, o, sv, qv, rfl, hb, hS, hQ, c0, c1, c2, c3, c4, c5, c6, c7⟩ := (HT.out.pure HN.out.below).at k t htt
      obtain ⟨ps, cs, rfl, hs1, hs2⟩ := hS.len
      obtain ⟨qs, qc, rfl, hq1, hq2⟩ := hQ.len
      unfold maxLen at hs2 hq2
      have HS := Lib.hid hS
      have Htt := Lib.hid htt
      have Hs2 := Lib.hid hs2
      have g0 := HN.out.held
      have hRl := cell_lt g0
      clear htt hS hQ
      go_upto_region 5 with (fail)
      generalize hwy : World.alloc _ _ = wy
      have hBy : Below wo.heap.size wo wy := by rw [← hwy]; exact (by (repeat (with_reducible first | exact Below.refl _ _ | refine Below.alloc ?_ ?_ _ | refine below_drewN ?_ _ | refine Below.drew ?_ | refine Below.setCell ?_ ?_ _ | refine Below.trans ?_ (Below.mono (by assumption) ?_))) <;> (first | omega | (simp; try omega)))
      have hzy : wo.heap.size < wy.heap.size := by rw [← hwy]; simp
      have gy : wy.cell? ⟨wo.heap.size, 5, none⟩ = some (.slice ps t.slots.length cs) := by rw [← hwy]; simp [go_sem]
      have gz : wy.cell? ⟨wo.heap.size, 4, none⟩ = some (.int .i64 t.num) := by rw [← hwy]; simp [go_sem]
      have HBy := Lib.hid hBy
      have Gy := Lib.hid gy
      clear hwy hBy gy gz c0 c1 c2 c3 c4 c5 c6 c7 g0
      go_upto_region 6 with (first
        | (go_at_call 61; refine (newSet_c _).mono ?_; rintro e w1 ⟨ss, bb, rfl, hss, hbb, hsb, hS1, hb1⟩))
      have hz1 := hb1.size
      have hzy' := HBy.out.size
      have hTw : Below wo.heap.size wo w1 := HBy.out.trans (hb1.mono hzy')
      have g5 := (hb1.cell hzy).trans Gy.out
      have HS1 := Lib.hid (HS.out.pure hTw)
      have HTw := Lib.hid hTw
      have HSet := Lib.hid hS1
      have hSl := hS1.lt
      clear hb1 hTw hS1
      go_wp2
      clear g5
      go_loopw [22] (fun s22 wr => ∃ (m : Nat) (S : List Rgt), s22 = .int .i64 (m : Int) ∧ m ≤ t.slots.length ∧ SetAt wr ss bb S ∧ Chg (fun x => x = bb) w1 wr ∧ S.length ≤ m ∧ ∀ r, r ∈ S ↔ r ∈ t.slots.take m ∧ r.thing ≠ 0) (fun s22 _ => t.slots.length - (intOf s22).toNat)
      case atStart => exact ⟨0, [], rfl, by omega, HSet.out, Chg.refl _ _, by simp, fun r => by simp⟩
      case round =>
        obtain ⟨m, S, rfl, hm, hSA, hC, hSm, hSr⟩ := hrel
        have HSA := Lib.hid hSA
        have HC := Lib.hid hC
        have HSr := Lib.hid hSr
        clear hSA hC hSr
        have hsl4 : t.slots.length ≤ 4 := by
          have h2 := tab_thgOk Ht.out (ex_at (nat_lt Htt.out))
          rw [getT_nat Htt.out] at h2
          by_cases h3 : t.kind = 2 ∨ t.kind = 3
          · rw [slots_len h2 h3]; omega
          · rw [slots_none h2 h3]; simp
        by_cases hlt2 : m < t.slots.length
        · have hm0 : (0 : Int) ≤ (m : Int) := by omega
          have hmn : (m : Int) < (t.slots.length : Int) := by omega
          obtain ⟨x, hx⟩ : ∃ x, t.slots[m]? = some x := ⟨_, List.getElem?_eq_getElem hlt2⟩
          have Hx := Lib.hid hx
          obtain ⟨lb, lo, rfl, hlb, d0, d1, d2, d3, d4⟩ := HS.out.at m x hx
          have hCz : Chg (fun x => x = bb) wo wr := (Chg.of_pure HTw.out).trans HC.out
          have hnb : ¬ lb = bb := by omega
          replace d0 := hCz.cell d0 hnb
          replace d1 := hCz.cell d1 hnb
          replace d2 := hCz.cell d2 hnb
          replace d3 := hCz.cell d3 hnb
          replace d4 := hCz.cell d4 hnb
          have hlbr := cell_lt d0
          have hxok := slots_okT Ht.out Htt.out x (List.mem_of_getElem? hx)
          have Hxw := Lib.hid (rgtW_ok hxok)
          have hzr := HC.out.size
          clear hx hnb hxok hCz
          obtain ⟨x0, x1, x2, x3, x4⟩ := x
          dsimp only at d0 d1 d2 d3 d4
          have hnext : ∀ S' : List Rgt, (∀ r, r ∈ S' ↔ r ∈ S ∨ (r = ⟨x0, x1, x2, x3, x4⟩ ∧ x0 ≠ 0)) → ∀ r, r ∈ S' ↔ r ∈ t.slots.take (m + 1) ∧ r.thing ≠ 0 := by
            intro S' h r
            rw [h r, HSr.out r, List.take_add_one, Hx.out]
            simp only [Option.toList_some, List.mem_append, List.mem_singleton]
            constructor
            · rintro (⟨h1, h2⟩ | ⟨rfl, h2⟩)
              · exact ⟨.inl h1, h2⟩
              · exact ⟨.inr rfl, h2⟩
            · rintro ⟨h1 | rfl, h2⟩
              · exact .inl ⟨h1, h2⟩
              · exact .inr ⟨rfl, h2⟩
          have Hnext := Lib.hid hnext
          clear hnext
          by_cases h0 : x0 = 0
          · subst h0
            go_wp2
            exact ⟨⟨m + 1, S, by go_num, by omega, HSA.out.pure (by (repeat (with_reducible first | exact Below.refl _ _ | refine Below.alloc ?_ ?_ _ | refine below_drewN ?_ _ | refine Below.drew ?_ | refine Below.setCell ?_ ?_ _ | refine Below.trans ?_ (Below.mono (by assumption) ?_))) <;> (first | omega | (simp; try omega))), HC.out.alloc _, by omega, Hnext.out S (fun r => by simp)⟩, by simp [intOf]; omega⟩
          · have H00 := Lib.hid h0
            go_wp2_with (first
              | (go_at_call 62; refine (setAdd_c (r := ⟨_, _, _, _, _⟩) (HSA.out.pure (by (repeat (with_reducible first | exact Below.refl _ _ | refine Below.alloc ?_ ?_ _ | refine below_drewN ?_ _ | refine Below.drew ?_ | refine Below.setCell ?_ ?_ _ | refine Below.trans ?_ (Below.mono (by assumption) ?_))) <;> (first | omega | (simp; try omega)))) Hxw.out (by unfold maxLen; omega) hsb).mono ?_; rintro e w5 ⟨rfl, h1, h2⟩; have E1 := Lib.hid h1; have E2 := Lib.hid h2; clear h1 h2))
            refine ⟨⟨m + 1, _, by go_num, by omega, E1.out, (HC.out.alloc _).trans E2.out, by (split <;> (try simp) <;> omega), Hnext.out _ (fun r => ?_)⟩, by simp [intOf]; omega⟩
            split
            · rename_i hin
              constructor
              · exact .inl
              · rintro (h | ⟨rfl, -⟩)
                · exact h
                · exact hin
            · simp [H00.out]
        · have hmn : ¬ (m : Int) < (t.slots.length : Int) := by omega
          obtain rfl : m = t.slots.length := by omega
          obtain ⟨wz, rfl⟩ : ∃ y : World, y = wr := ⟨_, rfl⟩
          have hCz : Chg (fun x => x = bb) wo wz := (Chg.of_pure HTw.out).trans HC.out
          have HCz := Lib.hid hCz
          have hzz := HC.out.size
          have hbr : ¬ w.heap.size = bb := by omega
          have g1 := hCz.cell HN.out.held hbr
          have f1 : wz.frozen? ⟨w.heap.size, 1, none⟩ = false := (frz_chg hCz hRl hbr 1).trans (HN.out.fr 1)
          obtain ⟨qv, cv, rfl⟩ := own_slice_n HN.out.row
          have hvb : ∀ x, (Value.slice qv k cv).ownBlock = some x → w.heap.size < x ∧ x < wo.heap.size := fun x hx => by have := HN.out.row.lt x hx; omega
          have Hvb := Lib.hid hvb
          have hown := own_chg (S := fun x => x = bb) HN.out.row hCz (fun x _ h e => by omega)
          have Hown := Lib.hid hown
          clear hCz hbr hvb hown
          have hzw : w.heap.size < wz.heap.size := by omega
          have hAl : Below wz.heap.size wz (wz.alloc (.cells #[.pointer (some ⟨ss, 0, none⟩)] 92)) := (Below.refl _ wz).alloc (Nat.le_refl _) _
          go_wp2_with (first
            | (at_builtin; refine wpList_append_own_at _ rfl (.tmp 37) (.tmp 39) 89 rfl (w.heap.size + 1) 92 i0 _ 1 8 Tryz.underlying89 hi0 hy0 hy1 hy2 rfl (by decide) (.slice qv k cv) k _ rfl (own_below Hown.out (by (repeat (with_reducible first | exact Below.refl _ _ | refine Below.alloc ?_ ?_ _ | refine below_drewN ?_ _ | refine Below.drew ?_ | refine Below.setCell ?_ ?_ _ | refine Below.trans ?_ (Below.mono (by assumption) ?_))) <;> (first | omega | (simp; try omega)))) ⟨wz.heap.size, 0, none⟩ 1 1 [.pointer (some ⟨ss, 0, none⟩)] rfl rfl (cell_one_new _ _ _) (by intro u hu; rw [List.mem_singleton] at hu; subst hu; rfl) (by unfold maxLen; omega) (by omega) (by simp; omega) ?_; intro v5 w5 ho5 hg5 _ hat5; obtain ⟨q5, cc5, rfl⟩ := own_slice_n ho5; have hch5 := Chg.of_grown hg5; have hnr5 : ¬ some w.heap.size = (Value.slice qv k cv).ownBlock := (fun e => by have := Hvb.out _ e.symm; omega); have g5 := hch5.cell ((hAl.cell hzw).trans g1) hnr5; have f5 := (frz_chg hch5 (by simp; omega) hnr5 1).trans (((bcell hAl).2 _ _ hzw).trans f1); have Hg5 := Lib.hid hg5; have Ho5 := Lib.hid ho5; have Hat5 := Lib.hid hat5; clear hch5 hnr5 hg5 ho5 hat5))
          have hSt : ∀ (sv : Value), Chg (fun x => x = bb) wo (wz.alloc (.cells #[sv] 92)) := fun sv => HCz.out.alloc _
          refine ⟨⟨k + 1, _, _, _, _, by go_num, by omega, HN.out.push (hSt _) (by omega) (by omega) hsb (HSA.out.pure hAl) ?_ Hg5.out Hat5.out Hg5.out.size (fun r hr => ?_) (fun r hr h0 => ?_)⟩, by simp [intOf]; omega⟩
          · have hr : (List.range (k + 1)).map (fun i => ptrV (if i = k then ss else sp i)) = (List.range k).map (fun i => ptrV (sp i)) ++ [.pointer (some ⟨ss, 0, none⟩)] := by
              rw [List.range_succ, List.map_append]
              congr 1
              · apply List.map_congr_left
                intro i hi
                rw [if_neg (by have := List.mem_range.1 hi; omega)]
              · simp [ptrV]
            rw [hr]; exact Ho5.out
          · have h2 := (HSr.out r).1 hr
            rw [List.take_length] at h2
            exact Got.own (ex_at (nat_lt Htt.out)) (by rw [getT_nat Htt.out]; exact h2.1) h2.2
          · rw [getT_nat Htt.out] at hr
            refine (HSr.out r).2 ⟨?_, h0⟩
            rw [List.take_length]; exact hr
    · have hkn : ¬ (k : Int) < (ts.length : Int) := by omega
      obtain rfl : k = ts.length := by omega
      go_wp2
      go_ret
      obtain ⟨H, hc, h⟩ := HN.out.done Ht.out HT.out
      exact ⟨_, rfl, H, hc, sp, bp, a, h⟩
end Go.Proofs.YtiolplhgpodifaaGreat

/- The greatest rights of a list. Conditions: the rights lie where their cells say. -/
namespace Go.Proofs.YtiolplhgpodifaaGreat
open Go.RowKit Drw
attribute [local go_sem] Lab.val Rgt.val Cal.val Thg.val

def grP (r o : Rgt) : Bool := (o != r) && rgtIn r o
set_option maxRecDepth 100000 in
set_option maxHeartbeats 4000000 in
theorem gpred_c (C : Nat) (r s : Rgt) (w : World) (h : w.cell? ⟨C, 0, none⟩ = some (.int .i64 r.thing) ∧ w.cell? ⟨C, 1, none⟩ = some (.int .i64 r.vers) ∧ w.cell? ⟨C, 2, none⟩ = some (.bool r.rd) ∧ w.cell? ⟨C, 3, none⟩ = some (.bool r.wr) ∧ w.cell? ⟨C, 4, none⟩ = some (.bool r.wk)) :
    Calls Tryz.prog 65 #[s.val, .pointer (some ⟨C, 0, none⟩)] w fun e w' => e = .returned (.bool (grP r s)) ∧ Below w.heap.size w w' := by
  obtain ⟨r0, r1, r2, r3, r4⟩ := r
  obtain ⟨s0, s1, s2, s3, s4⟩ := s
  obtain ⟨h0, h1, h2, h3, h4⟩ := h
  dsimp only at h0 h1 h2 h3 h4
  have hC := World.block_lt_of_cell? _ _ h0
  have hund : undef = Value.tuple #[] := rfl
  go_enter Tryz.func65, Tryz.ntmps65
  go_wp2_with (go_at_call 17; refine (rightIn_c ⟨_, _, _, _, _⟩ ⟨_, _, _, _, _⟩ _).mono ?_; rintro e w1 ⟨rfl, hb1⟩)
  all_goals go_ret
  all_goals refine ⟨ret_bool ?_, (by (repeat (with_reducible first | exact Below.refl _ _ | refine Below.alloc ?_ ?_ _ | refine below_drewN ?_ _ | refine Below.drew ?_ | refine Below.setCell ?_ ?_ _ | refine Below.trans ?_ (Below.mono (by assumption) ?_))) <;> (first | omega | (simp; try omega)))⟩
  all_goals clear h0 h1 h2 h3 h4 hC
  all_goals (simp only [grP]; grind)

/-- What is told of where a greater right lies. -/
def IdxG (rs : List Rgt) (r : Rgt) (w : World) (e : Ending) (w' : World) : Prop := ∃ i : Int, e = .returned (.int .i64 i) ∧ (rs.any (grP r) = true → 0 ≤ i) ∧ (rs.any (grP r) = false → i < 0) ∧ Below w.heap.size w w'

set_option maxRecDepth 100000 in
set_option maxHeartbeats 4000000 in
theorem indexFunc_g (C : Nat) (r : Rgt) (rs : List Rgt) (p : Option Addr) (cap : Nat) (w : World) (h : w.cell? ⟨C, 0, none⟩ = some (.int .i64 r.thing) ∧ w.cell? ⟨C, 1, none⟩ = some (.int .i64 r.vers) ∧ w.cell? ⟨C, 2, none⟩ = some (.bool r.rd) ∧ w.cell? ⟨C, 3, none⟩ = some (.bool r.wr) ∧ w.cell? ⟨C, 4, none⟩ = some (.bool r.wk)) (hR : RgtsAt w (.slice p rs.length cap) rs) :
    Calls Tryz.prog 74 #[.slice p rs.length cap, .func (.func 65) #[] #[.pointer (some ⟨C, 0, none⟩)]] w (IdxG rs r w) := by
  obtain ⟨p', cap', he, hl1, hl2⟩ := hR.len
  cases he
  unfold maxLen at hl2
  have hC := World.block_lt_of_cell? _ _ h.1
  have eg : ∀ args w, (callFunc 65 args).run Tryz.prog w = .ok (.enter 65 args) w := fun _ _ => by kernel_rfl
  have HR := Lib.hid hR
  have HH := Lib.hid h
  clear hR h
  go_enter Tryz.func74, Tryz.ntmps74
  go_wp2
  go_loopw [5, 8] (fun s5 s8 wr => ∃ k : Nat, s8 = .int .i64 (k : Int) ∧ k ≤ rs.length ∧ (∀ j s, j < k → rs[j]? = some s → grP r s = false) ∧ Below w.heap.size w wr) (fun _ s8 _ => rs.length - (intOf s8).toNat)
  case atStart => exact ⟨0, rfl, by omega, fun j s h => absurd h (by omega), Below.refl _ _⟩
  case round =>
    obtain ⟨k, rfl, hk, hno, hB⟩ := hrel
    have Hno := Lib.hid hno
    clear hno
    by_cases hlt : k < rs.length
    · have hk0 : (0 : Int) ≤ (k : Int) := by omega
      have hkn : (k : Int) < (rs.length : Int) := by omega
      obtain ⟨s, hs⟩ : ∃ s, rs[k]? = some s := ⟨_, List.getElem?_eq_getElem hlt⟩
      have Hs := Lib.hid hs
      obtain ⟨b, o, rfl, hb, c0, c1, c2, c3, c4⟩ := (HR.out.pure hB).at k s hs
      clear hs
      have hzB := hB.size
      obtain ⟨hcB, -⟩ := bcell hB
      have HP := Lib.hid (show wr.cell? ⟨C, 0, none⟩ = some (.int .i64 r.thing) ∧ wr.cell? ⟨C, 1, none⟩ = some (.int .i64 r.vers) ∧ wr.cell? ⟨C, 2, none⟩ = some (.bool r.rd) ∧ wr.cell? ⟨C, 3, none⟩ = some (.bool r.wr) ∧ wr.cell? ⟨C, 4, none⟩ = some (.bool r.wk) from ⟨(hcB _ _ hC).trans HH.out.1, (hcB _ _ hC).trans HH.out.2.1, (hcB _ _ hC).trans HH.out.2.2.1, (hcB _ _ hC).trans HH.out.2.2.2.1, (hcB _ _ hC).trans HH.out.2.2.2.2⟩)
      clear hcB
      obtain ⟨v, hv⟩ : ∃ v, grP r s = v := ⟨_, rfl⟩
      have Hv := Lib.hid hv
      clear hv
      obtain ⟨s0, s1, s2, s3, s4⟩ := s
      dsimp only at c0 c1 c2 c3 c4
      cases v
      · go_wp2_with (go_at_fn 65; refine (gpred_c C r ⟨_, _, _, _, _⟩ _ HP.out).mono ?_; rw [Hv.out]; rintro e w1 ⟨rfl, hb1⟩)
        refine ⟨⟨k + 1, by go_num, by omega, fun j s hj hs => ?_, (by (repeat (with_reducible first | exact Below.refl _ _ | refine Below.alloc ?_ ?_ _ | refine below_drewN ?_ _ | refine Below.drew ?_ | refine Below.setCell ?_ ?_ _ | refine Below.trans ?_ (Below.mono (by assumption) ?_))) <;> (first | omega | (simp; try omega)))⟩, by simp [intOf]; omega⟩
        by_cases hjk : j < k
        · exact Hno.out j s hjk hs
        · obtain rfl : j = k := by omega
          rw [Hs.out] at hs
          cases hs
          exact Hv.out
      · have Hany := Lib.hid (show rs.any (grP r) = true from List.any_eq_true.2 ⟨_, List.mem_of_getElem? Hs.out, Hv.out⟩)
        go_wp2_with (go_at_fn 65; refine (gpred_c C r ⟨_, _, _, _, _⟩ _ HP.out).mono ?_; rw [Hv.out]; rintro e w1 ⟨rfl, hb1⟩)
        go_ret
        exact ⟨k, rfl, fun _ => hk0, fun e => (by rw [Hany.out] at e; cases e), (by (repeat (with_reducible first | exact Below.refl _ _ | refine Below.alloc ?_ ?_ _ | refine below_drewN ?_ _ | refine Below.drew ?_ | refine Below.setCell ?_ ?_ _ | refine Below.trans ?_ (Below.mono (by assumption) ?_))) <;> (first | omega | (simp; try omega)))⟩
    · have hkn : ¬ (k : Int) < (rs.length : Int) := by omega
      have Hany := Lib.hid (show rs.any (grP r) = false from List.any_eq_false.2 fun s hs => by
        obtain ⟨j, hj⟩ := List.mem_iff_getElem?.1 hs
        have := nat_lt hj
        simp [Hno.out j s (by omega) hj])
      go_wp2
      go_ret
      exact ⟨-1, rfl, fun e => (by rw [Hany.out] at e; cases e), fun _ => (by omega), (by (repeat (with_reducible first | exact Below.refl _ _ | refine Below.alloc ?_ ?_ _ | refine below_drewN ?_ _ | refine Below.drew ?_ | refine Below.setCell ?_ ?_ _ | refine Below.trans ?_ (Below.mono (by assumption) ?_))) <;> (first | omega | (simp; try omega)))⟩

set_option maxRecDepth 100000 in
set_option maxHeartbeats 4000000 in
theorem containsFunc_g {C : Nat} {r : Rgt} {rs : List Rgt} {p : Option Addr} {cap : Nat} {w : World} {v : Bool} (h : w.cell? ⟨C, 0, none⟩ = some (.int .i64 r.thing) ∧ w.cell? ⟨C, 1, none⟩ = some (.int .i64 r.vers) ∧ w.cell? ⟨C, 2, none⟩ = some (.bool r.rd) ∧ w.cell? ⟨C, 3, none⟩ = some (.bool r.wr) ∧ w.cell? ⟨C, 4, none⟩ = some (.bool r.wk)) (hR : RgtsAt w (.slice p rs.length cap) rs) (hv : rs.any (grP r) = v) :
    Calls Tryz.prog 41 #[.slice p rs.length cap, .func (.func 65) #[] #[.pointer (some ⟨C, 0, none⟩)]] w fun e w' => e = .returned (.bool v) ∧ Below w.heap.size w w' := by
  have HI := Lib.hid (indexFunc_g C r rs p cap w h hR)
  have Hv := Lib.hid hv
  clear h hR hv
  cases v
  · go_enter Tryz.func41, Tryz.ntmps41
    go_wp2_with (go_at_call 74; refine HI.out.mono ?_; rintro e w1 ⟨i, rfl, h1, h2, hb1⟩; have hi := h2 Hv.out; have hi' : ¬ (0 : Int) ≤ i := (by omega); clear h1 h2)
    go_ret
    exact ⟨ret_bool (by simpa using hi'), (by (repeat (with_reducible first | exact Below.refl _ _ | refine Below.alloc ?_ ?_ _ | refine below_drewN ?_ _ | refine Below.drew ?_ | refine Below.setCell ?_ ?_ _ | refine Below.trans ?_ (Below.mono (by assumption) ?_))) <;> (first | omega | (simp; try omega)))⟩
  · go_enter Tryz.func41, Tryz.ntmps41
    go_wp2_with (go_at_call 74; refine HI.out.mono ?_; rintro e w1 ⟨i, rfl, h1, h2, hb1⟩; have hi := h1 Hv.out; clear h1 h2)
    go_ret
    exact ⟨rfl, (by (repeat (with_reducible first | exact Below.refl _ _ | refine Below.alloc ?_ ?_ _ | refine below_drewN ?_ _ | refine Below.drew ?_ | refine Below.setCell ?_ ?_ _ | refine Below.trans ?_ (Below.mono (by assumption) ?_))) <;> (first | omega | (simp; try omega)))⟩

theorem great_next {L : List Rgt} {k : Nat} {x : Rgt} {v : Bool} (hx : L[k]? = some x) (hv : L.any (grP x) = v) : (L.take (k + 1)).filter (fun r => !L.any (grP r)) = (L.take k).filter (fun r => !L.any (grP r)) ++ (if v then [] else [x]) := by
  rw [List.take_add_one, hx, List.filter_append]
  congr 1
  cases v <;> simp [hv]

set_option maxRecDepth 100000 in
set_option maxHeartbeats 4000000 in
theorem greatest_c {p : Option Addr} {cap : Nat} {L : List Rgt} {w : World} (hR : RgtsAt w (.slice p L.length cap) L) (hl : L.length ≤ 400) :
    Calls Tryz.prog 35 #[.slice p L.length cap] w fun e w' => ∃ q c, e = .returned (.slice q (great L).length c) ∧ RgtsAt w' (.slice q (great L).length c) (great L) ∧ (∀ k, (Value.slice q (great L).length c).ownBlock = some k → w.heap.size ≤ k) ∧ Below w.heap.size w w' := by
  obtain ⟨i0, hi0, hz0, hz1, hz2⟩ := info_parts info_rgt
  obtain ⟨p', cap', he, hl1, hl2⟩ := hR.len
  cases he
  unfold maxLen at hl2
  have HR := Lib.hid hR
  clear hR
  go_enter Tryz.func35, Tryz.ntmps35
  go_wp2
  go_loopw [3, 9] (fun s3 s9 wr => ∃ (k : Nat) (G : List Rgt), s9 = .int .i64 (k : Int) ∧ k ≤ L.length ∧ G = (L.take k).filter (fun r => !L.any (grP r)) ∧ G.length ≤ k ∧ wr.ownsRow w.heap.size 35 5 s3 G.length ((G.map Rgt.cells).flatten) ∧ Below w.heap.size w wr) (fun _ s9 _ => L.length - (intOf s9).toNat)
  case atStart => exact ⟨0, [], rfl, by omega, by simp, by simp, World.ownsRow_nil _ _ _ _, Below.refl _ _⟩
  case round =>
    obtain ⟨k, G, rfl, hk, hG, hGl, hown, hB⟩ := hrel
    obtain ⟨q3, c3, rfl⟩ := own_slice_n hown
    have HG := Lib.hid hG
    have Hown := Lib.hid hown
    have HB := Lib.hid hB
    clear hG hown hB
    by_cases hlt : k < L.length
    · have hk0 : (0 : Int) ≤ (k : Int) := by omega
      have hkn : (k : Int) < (L.length : Int) := by omega
      obtain ⟨x, hx⟩ : ∃ x, L[k]? = some x := ⟨_, List.getElem?_eq_getElem hlt⟩
      obtain ⟨v, hv⟩ : ∃ v, L.any (grP x) = v := ⟨_, rfl⟩
      have Hnx := Lib.hid (great_next hx hv)
      have Hv := Lib.hid hv
      obtain ⟨lb, lo, rfl, hlb, c0, c1, c2, c3', c4⟩ := (HR.out.pure HB.out).at k x hx
      clear hx hv
      obtain ⟨x0, x1, x2, x3, x4⟩ := x
      dsimp only at c0 c1 c2 c3' c4
      go_upto_region 5 with (fail)
      generalize hwy : World.alloc _ _ = wy
      have hBy : Below wr.heap.size wr wy := by rw [← hwy]; exact (by (repeat (with_reducible first | exact Below.refl _ _ | refine Below.alloc ?_ ?_ _ | refine below_drewN ?_ _ | refine Below.drew ?_ | refine Below.setCell ?_ ?_ _ | refine Below.trans ?_ (Below.mono (by assumption) ?_))) <;> (first | omega | (simp; try omega)))
      have hzy : wr.heap.size < wy.heap.size := by rw [← hwy]; simp
      have gy : wy.cell? ⟨wr.heap.size, 0, none⟩ = some (.int .i64 x0) ∧ wy.cell? ⟨wr.heap.size, 1, none⟩ = some (.int .i64 x1) ∧ wy.cell? ⟨wr.heap.size, 2, none⟩ = some (.bool x2) ∧ wy.cell? ⟨wr.heap.size, 3, none⟩ = some (.bool x3) ∧ wy.cell? ⟨wr.heap.size, 4, none⟩ = some (.bool x4) := by rw [← hwy]; simp [go_sem]
      have HBy := Lib.hid hBy
      have Gy := Lib.hid gy
      have hz := HB.out.size
      clear hwy hBy gy c0 c1 c2 c3' c4
      cases v
      · go_upto_region 7 with (first
          | (go_at_call 41; refine (containsFunc_g (r := ⟨x0, x1, x2, x3, x4⟩) Gy.out (HR.out.pure (HB.out.trans (HBy.out.mono HB.out.size))) Hv.out).mono ?_; rintro e w2 ⟨rfl, hb2⟩))
        have hz2' := hb2.size
        have g0 := (hb2.cell hzy).trans Gy.out.1
        have g1 := (hb2.cell hzy).trans Gy.out.2.1
        have g2 := (hb2.cell hzy).trans Gy.out.2.2.1
        have g3 := (hb2.cell hzy).trans Gy.out.2.2.2.1
        have g4 := (hb2.cell hzy).trans Gy.out.2.2.2.2
        have hBz : Below wr.heap.size wr w2 := HBy.out.trans (hb2.mono HBy.out.size)
        have HBz := Lib.hid hBz
        have hzz := hBz.size
        clear hb2 hBz
        go_wp2_with (first
          | (at_builtin; refine wpList_append_rows rfl (.tmp 18) (.tmp 20) 30 rfl w.heap.size 35 i0 _ 5 24 Tryz.underlying30 hi0 hz0 hz1 hz2 rfl (by decide) (.slice q3 G.length c3) G.length ((G.map Rgt.cells).flatten) rfl (own_below (own_below Hown.out HBz.out) (by (repeat (with_reducible first | exact Below.refl _ _ | refine Below.alloc ?_ ?_ _ | refine below_drewN ?_ _ | refine Below.drew ?_ | refine Below.setCell ?_ ?_ _ | refine Below.trans ?_ (Below.mono (by assumption) ?_))) <;> (first | omega | (simp; try omega)))) (.slice (some ⟨w2.heap.size, 0, none⟩) 1 1) [Rgt.cells ⟨x0, x1, x2, x3, x4⟩] rfl (flat_rgts [⟨x0, x1, x2, x3, x4⟩]) (Rows.one (by intro i u hu; rcases i with _ | _ | _ | _ | _ | i <;> simp [Rgt.cells] at hu <;> (try subst hu) <;> simp [go_sem])) (by simp [maxLen] <;> omega) (by simp <;> omega) (by simp <;> omega) ?_; intro v4 w4 ho4 hg4)
          | go_in)
        refine ⟨⟨k + 1, G ++ [⟨x0, x1, x2, x3, x4⟩], by go_num, by omega, by rw [Hnx.out, HG.out]; simp, by simp; omega, by simpa using ho4, ?_⟩, by simp [intOf]; omega⟩
        exact (((HB.out.trans (HBz.out.mono hz))).alloc (by omega) _).grown hg4 (by simp; omega) (fun k hk => by have := (Hown.out.lt k hk).1; omega)
      · go_wp2_with (first
          | (go_at_call 41; refine (containsFunc_g (r := ⟨x0, x1, x2, x3, x4⟩) Gy.out (HR.out.pure (HB.out.trans (HBy.out.mono HB.out.size))) Hv.out).mono ?_; rintro e w2 ⟨rfl, hb2⟩))
        have hBz : Below wr.heap.size wr w2 := HBy.out.trans (hb2.mono HBy.out.size)
        exact ⟨⟨k + 1, G, by go_num, by omega, by rw [Hnx.out, HG.out]; simp, by omega, own_below Hown.out hBz, HB.out.trans (hBz.mono hz)⟩, by simp [intOf]; omega⟩
    · have hkn : ¬ (k : Int) < (L.length : Int) := by omega
      obtain rfl : k = L.length := by omega
      have hGe : G = great L := by rw [HG.out, List.take_length]; rfl
      subst hGe
      go_wp2
      go_ret
      exact ⟨q3, c3, rfl, Rows.of_own (flat_rgts _) (by simpa using Hown.out), fun k hk => (Hown.out.lt k hk).1, HB.out⟩
end Go.Proofs.YtiolplhgpodifaaGreat

/- The program's two answers on what can be come to have. Conditions: the table lies where its cells say. -/
namespace Go.Proofs.YtiolplhgpodifaaGreat
open Go.RowKit Drw
attribute [local go_sem] Lab.val Rgt.val Cal.val Thg.val

theorem tableOk_u {p : Option Addr} {cap : Nat} {ts : List Thg} {v : Bool} {w : World} (hT : TabAt w (.slice p ts.length cap) ts) (h : tabOk ts = v) :
    Calls Tryz.prog 32 #[.slice p ts.length cap] w fun e w' => e = .returned (.bool v) ∧ Below w.heap.size w w' := by
  rw [← h]; exact tableOk_c p cap ts w hT
set_option maxRecDepth 100000 in
theorem reachAll_no {p : Option Addr} {cap : Nat} {ts : List Thg} {w : World} (hT : TabAt w (.slice p ts.length cap) ts) (ht : tabOk ts = false) :
    Calls Tryz.prog 13 #[.slice p ts.length cap] w fun e w' => ∃ q, e = .returned (.slice q 0 0) ∧ Below w.heap.size w w' := by
  have HT := Lib.hid hT
  have Ht := Lib.hid ht
  clear hT ht
  go_enter Tryz.func13, Tryz.ntmps13
  go_wp2_with (go_at_call 32; refine (tableOk_u HT.out Ht.out).mono ?_; rintro e w1 ⟨rfl, hb1⟩; have hz1 := hb1.size)
  go_ret
  exact ⟨_, rfl, (by (repeat (with_reducible first | exact Below.refl _ _ | refine Below.alloc ?_ ?_ _ | refine below_drewN ?_ _ | refine Below.drew ?_ | refine Below.setCell ?_ ?_ _ | refine Below.trans ?_ (Below.mono (by assumption) ?_))) <;> (first | omega | (simp; try omega)))⟩

/-- Rows, the first of them told. -/
structure Told (wm wr : World) (A : Nat) (ts : List Thg) (a : List (List Rgt)) (k : Nat) (c : List (List Rgt)) : Prop where
  at' : AllAt wr A 0 c
  len : c.length = ts.length
  row : ∀ i, i < k → ∃ L, rowA c i = great L ∧ Drw.Ord L ∧ ∀ r, r ∈ L ↔ r ∈ rowA a i
  below : Below wm.heap.size wm wr
/-- What is told of all that can be come to have. -/
def AllTold (ts : List Thg) (w : World) (e : Ending) (w' : World) : Prop := ∃ A c a, e = .returned (.slice (some ⟨A, 0, none⟩) a.length c) ∧ IsReach ts a ∧ AllAt w' A 0 a ∧ Below w.heap.size w w'

theorem listed_len {w0 w : World} {R H hc : Nat} {p : Option Addr} {cap : Nat} {ts : List Thg} {sp bp : Nat → Nat} {a : List (List Rgt)} {i : Nat} (h : RchAt w0 w R H hc p cap ts sp bp a) {L : List Rgt} (hO : Drw.Ord L) (hM : ∀ r, r ∈ L ↔ r ∈ rowA a i) : L.length ≤ 400 := by
  have hn : L.Pairwise (· ≠ ·) := hO.imp (fun {a b} h e => by rw [e] at h; exact Nat.lt_irrefl _ h)
  have := nodup_len1 (u := uni) hn (fun x hx => mem_uni (h.gat.ok h.ok ((hM x).1 hx)).1 (h.gat.ok h.ok ((hM x).1 hx)).2)
  rw [uni_len] at this
  omega
theorem told_next {wm wr w3 : World} {A : Nat} {ts : List Thg} {a : List (List Rgt)} {k : Nat} {c : List (List Rgt)} {L : List Rgt} {q : Option Addr} {cc : Nat} (h : Told wm wr A ts a k c) (hk : k < ts.length) (hA : A = wm.heap.size) (hb : Below wr.heap.size wr w3)
    (hR : RgtsAt w3 (.slice q (great L).length cc) (great L)) (hq : (Value.slice q (great L).length cc).ownBlock ≠ some A) (ho : Drw.Ord L) (hm : ∀ r, r ∈ L ↔ r ∈ rowA a k) :
    Told wm (w3.setCell ⟨A, k, none⟩ (.slice q (great L).length cc)) A ts a (k + 1) (c.set k (great L)) := by
  have hkc : k < c.length := by rw [h.len]; exact hk
  refine ⟨?_, by simpa using h.len, fun i hi => ?_, ?_⟩
  · have := AllAt.put (h.at'.pure hb) hkc hR hq
    rwa [Nat.zero_add] at this
  · rw [rowA_set hkc]
    split
    · rename_i e; subst e; exact ⟨L, rfl, ho, hm⟩
    · exact h.row i (by omega)
  · have := h.below.trans (hb.mono h.below.size)
    exact this.setCell (p := ⟨A, k, none⟩) (by show wm.heap.size ≤ A; omega) _

theorem makeRows (n : Nat) (hn : n ≤ 65536) (w : World) : (Instr.makeSlice 25 (.int .i64 (n : Int)) (.int .i64 (n : Int))).run Tryz.prog w = .ok (.slice (some ⟨w.heap.size, 0, none⟩) n n) (w.alloc (.cells (madeCells #[.slice none 0 0] n) 30)) := by
  obtain ⟨i0, hi, hz0, hz1, hz2⟩ := info_parts info_rgts
  have := run_make (P := Tryz.prog) w 25 30 i0 _ Tryz.underlying25 hi hz0 .i64 .i64 (n : Int) (n : Int) (by omega) (by omega) (by rw [hz2]; omega) (by omega)
  rw [hz1] at this
  simpa [Value.cells] using this
theorem told_start {wm : World} {ts : List Thg} {a : List (List Rgt)} : Told wm (wm.alloc (.cells (madeCells #[.slice none 0 0] ts.length) 30)) wm.heap.size ts a 0 (List.replicate ts.length []) := by
  refine ⟨⟨by simp, fun j => by simp [go_sem], fun k l hk => ?_⟩, by simp, fun i hi => absurd hi (Nat.not_lt_zero _), (Below.refl _ _).alloc (Nat.le_refl _) _⟩
  have hkn : k < ts.length := by simpa using nat_lt hk
  have hl : l = [] := by
    obtain ⟨h1, h2⟩ := List.getElem?_eq_some_iff.1 hk
    simpa using h2.symm
  subst hl
  refine ⟨none, 0, ?_, ⟨none, 0, rfl, by simp, by simp [maxLen], .inl rfl⟩, by simp [Value.ownBlock]⟩
  have hc : (madeCells #[.slice none 0 0] ts.length)[k]? = some (.slice none 0 0) := by
    have := toList_madeCells_one (.slice none 0 0) ts.length
    rw [← Array.getElem?_toList, this, List.getElem?_replicate, if_pos hkn]
  rw [Nat.zero_add]
  exact (Go.Joins.cell_alloc_mark_at _ _ _ _ _ _ rfl).trans hc

set_option maxRecDepth 100000 in
set_option maxHeartbeats 4000000 in
theorem reachAll_yes {p : Option Addr} {cap : Nat} {ts : List Thg} {w : World} (hT : TabAt w (.slice p ts.length cap) ts) (ht : tabOk ts = true) :
    Calls Tryz.prog 13 #[.slice p ts.length cap] w (AllTold ts w) := by
  have h8 := (tab_iff.1 ht).1
  have HT := Lib.hid hT
  have Ht := Lib.hid ht
  obtain ⟨_, _, h1, hl1, hl2⟩ := hT.len
  cases h1
  unfold maxLen at hl2
  clear hT ht
  go_enter Tryz.func13, Tryz.ntmps13
  go_upto_region 5 with (first
    | (go_at_call 32; refine (tableOk_u HT.out Ht.out).mono ?_; rintro e w1 ⟨rfl, hb1⟩; have hz1 := hb1.size; have Hb1 := Lib.hid hb1; clear hb1)
    | (go_at_call 33; refine (newReach_c (HT.out.pure Hb1.out) Ht.out).mono ?_; rintro e w2 ⟨R, rfl, H, hc, sp, bp, a0, hR0⟩; have HR0 := Lib.hid hR0; clear hR0)
    | (go_at_call 34; refine (settle_c HR0.out).mono ?_; rintro e w3 ⟨rfl, a, hR, hG, hS⟩; have HR := Lib.hid hR; have HS := Lib.hid hS; clear hR hG hS))
  have hmk := makeRows ts.length (by omega)
  have hb3 := HR.out.base
  have hz3 := hb3.size
  go_wp2
  clear hmk
  obtain ⟨wm, rfl⟩ : ∃ y : World, y = w3 := ⟨_, rfl⟩
  go_loopw [18] (fun s18 wr => ∃ (k : Nat) (c : List (List Rgt)), s18 = .int .i64 (k : Int) ∧ k ≤ ts.length ∧ Told wm wr wm.heap.size ts a k c) (fun s18 _ => ts.length - (intOf s18).toNat)
  case atStart => exact ⟨0, _, rfl, by omega, told_start⟩
  case round =>
    obtain ⟨k, c, rfl, hk, hT⟩ := hrel
    have HTo := Lib.hid hT
    have HRr := Lib.hid (HR.out.pure hT.below)
    have hzr := hT.below.size
    have hzA := hT.at'.lt
    clear hT
    by_cases hlt : k < ts.length
    · have hk0 : (0 : Int) ≤ (k : Int) := by omega
      have hkn : (k : Int) < (ts.length : Int) := by omega
      have hw1 : IntKind.i64.wrap ((k : Int) + 1) = (k : Int) + 1 := IntWalk.i64_in _ (by omega)
      have hck : k < c.length := by rw [HTo.out.len]; exact hlt
      obtain ⟨q0, c0, hq0, -, -⟩ := HTo.out.at'.row k _ (List.getElem?_eq_getElem hck)
      rw [Nat.zero_add] at hq0
      have Hq0 := Lib.hid hq0
      have hf0 := HTo.out.at'.fr k
      have Hf0 := Lib.hid hf0
      clear hq0 hf0
      have HRt := Lib.hid (rights_c HRr.out hlt)
      go_wp2_with (first
        | (go_at_call 36; refine HRt.out.mono ?_; rintro e w4 ⟨q, cq, L, rfl, hL, hO, hM, hW, hb4⟩; have hLl : L.length ≤ 400 := listed_len HRr.out hO hM; have HL := Lib.hid hL; have HO := Lib.hid hO; have HM := Lib.hid hM; have Hb4 := Lib.hid hb4; have hz4 := hb4.size; clear hL hO hM hW hb4)
        | (go_at_call 35; refine (greatest_c HL.out hLl).mono ?_; rintro e w5 ⟨q5, c5, rfl, hR5, hW5, hb5⟩; have HR5 := Lib.hid hR5; have HW5 := Lib.hid hW5; have hB5 := Hb4.out.trans (hb5.mono hz4); have g5 := (hB5.cell hzA).trans Hq0.out; have f5 := ((bcell hB5).2 _ _ hzA).trans Hf0.out; have HB5 := Lib.hid hB5; clear hR5 hW5 hb5 hB5))
      exact ⟨⟨k + 1, _, by go_num, by omega, told_next HTo.out hlt rfl HB5.out HR5.out (fun e => by have := HW5.out _ e; omega) HO.out HM.out⟩, by simp [intOf]; omega⟩
    · have hkn : ¬ (k : Int) < (ts.length : Int) := by omega
      obtain rfl : k = ts.length := by omega
      go_wp2
      go_ret
      have hlc := HTo.out.len
      refine ⟨wm.heap.size, ts.length, c, by rw [hlc]; rfl, ?_, HTo.out.at', (Hb1.out.trans (hb3.mono hz1)).trans (HTo.out.below.mono (by omega))⟩
      refine reach_of_sets Ht.out HR.out.gat (fun i r hg => ?_) hlc HTo.out.row
      have := shut_got HR.out.own HS.out hg
      rwa [show ((i : Int) + 1 - 1).toNat = i by omega] at this

set_option maxRecDepth 100000 in
set_option maxHeartbeats 4000000 in
theorem reachTo_no {p : Option Addr} {cap : Nat} {ts : List Thg} {h k : Int} {wr : Bool} {w : World} (hT : TabAt w (.slice p ts.length cap) ts) (hno : (tabOk ts && ex ts h && ex ts k) = false) :
    Calls Tryz.prog 20 #[.slice p ts.length cap, .int .i64 h, .int .i64 k, .bool wr] w fun e w' => e = .returned (.bool false) ∧ Below w.heap.size w w' := by
  have HT := Lib.hid hT
  obtain ⟨t1, ht1⟩ : ∃ b, tabOk ts = b := ⟨_, rfl⟩
  obtain ⟨t2, ht2⟩ : ∃ b, inR h 1 ts.length = b := ⟨_, rfl⟩
  obtain ⟨t3, ht3⟩ : ∃ b, inR k 1 ts.length = b := ⟨_, rfl⟩
  have hno' : (t1 && t2 && t3) = false := by rw [← hno, ← ht1, ← ht2, ← ht3]; rfl
  have Ht1 := Lib.hid ht1
  have Ht2 := Lib.hid ht2
  have Ht3 := Lib.hid ht3
  have hund : undef = Value.tuple #[] := rfl
  clear hT hno ht1 ht2 ht3
  cases t1
  · go_enter Tryz.func20, Tryz.ntmps20
    go_wp2_with (go_at_call 32; refine (tableOk_u HT.out Ht1.out).mono ?_; rintro e w1 ⟨rfl, hb1⟩)
    go_ret
    exact ⟨rfl, (by (repeat (with_reducible first | exact Below.refl _ _ | refine Below.alloc ?_ ?_ _ | refine below_drewN ?_ _ | refine Below.drew ?_ | refine Below.setCell ?_ ?_ _ | refine Below.trans ?_ (Below.mono (by assumption) ?_))) <;> (first | omega | (simp; try omega)))⟩
  · cases t2
    · go_enter Tryz.func20, Tryz.ntmps20
      go_wp2_with (first
        | (go_at_call 32; refine (tableOk_u HT.out Ht1.out).mono ?_; rintro e w1 ⟨rfl, hb1⟩)
        | (go_at_call 46; with_reducible refine (thingExists_q _ _ _ h _ Ht2.out).mono ?_; rintro e w2 ⟨rfl, rfl⟩))
      go_ret
      exact ⟨rfl, (by (repeat (with_reducible first | exact Below.refl _ _ | refine Below.alloc ?_ ?_ _ | refine below_drewN ?_ _ | refine Below.drew ?_ | refine Below.setCell ?_ ?_ _ | refine Below.trans ?_ (Below.mono (by assumption) ?_))) <;> (first | omega | (simp; try omega)))⟩
    · obtain rfl : t3 = false := by simpa using hno'
      go_enter Tryz.func20, Tryz.ntmps20
      go_wp2_with (first
        | (go_at_call 32; refine (tableOk_u HT.out Ht1.out).mono ?_; rintro e w1 ⟨rfl, hb1⟩)
        | (go_at_call 46; with_reducible refine (thingExists_q _ _ _ h _ Ht2.out).mono ?_; rintro e w2 ⟨rfl, rfl⟩)
        | (go_at_call 46; with_reducible refine (thingExists_q _ _ _ k _ Ht3.out).mono ?_; rintro e w3 ⟨rfl, rfl⟩))
      go_ret
      exact ⟨rfl, (by (repeat (with_reducible first | exact Below.refl _ _ | refine Below.alloc ?_ ?_ _ | refine below_drewN ?_ _ | refine Below.drew ?_ | refine Below.setCell ?_ ?_ _ | refine Below.trans ?_ (Below.mono (by assumption) ?_))) <;> (first | omega | (simp; try omega)))⟩

/-- What is told of whether a thing can come to have a right. -/
def ToldTo (ts : List Thg) (j : Nat) (k : Int) (wt : Bool) (w : World) (e : Ending) (w' : World) : Prop := ∃ a, IsReach ts a ∧ e = .returned (.bool (reachB (rowA a j) k wt)) ∧ Below w.heap.size w w'
set_option maxRecDepth 100000 in
set_option maxHeartbeats 4000000 in
theorem reachTo_yes {p : Option Addr} {cap : Nat} {ts : List Thg} {j : Nat} {k : Int} {wt : Bool} {w : World} (hT : TabAt w (.slice p ts.length cap) ts) (ht : tabOk ts = true) (hj : j < ts.length) (hk : ex ts k = true) :
    Calls Tryz.prog 20 #[.slice p ts.length cap, .int .i64 ((j : Int) + 1), .int .i64 k, .bool wt] w (ToldTo ts j k wt w) := by
  have hl8 : ts.length ≤ 8 := ((tab_iff.1 ht).1).2
  have HT := Lib.hid hT
  have Ht := Lib.hid ht
  have H2 := Lib.hid (show inR ((j : Int) + 1) 1 ts.length = true by simp [inR]; omega)
  have H3 := Lib.hid (show inR k 1 ts.length = true from hk)
  have hw1 := wrap1 (i := j) (by omega)
  have hw2 : IntKind.i64.wrap (j : Int) = (j : Int) := IntWalk.i64_in _ (by omega)
  have hj0 : (0 : Int) ≤ (j : Int) := by omega
  clear hT ht hk
  go_enter Tryz.func20, Tryz.ntmps20
  go_upto_region 3 with (first
    | (go_at_call 32; refine (tableOk_u HT.out Ht.out).mono ?_; rintro e w1 ⟨rfl, hb1⟩; have Hb1 := Lib.hid hb1; clear hb1)
    | (go_at_call 46; with_reducible refine (thingExists_q _ _ _ ((j : Int) + 1) _ H2.out).mono ?_; rintro e w2 ⟨rfl, rfl⟩)
    | (go_at_call 46; with_reducible refine (thingExists_q _ _ _ k _ H3.out).mono ?_; rintro e w3 ⟨rfl, rfl⟩))
  go_wp2_with (go_at_call 13; refine (reachAll_yes (HT.out.pure Hb1.out) Ht.out).mono ?_; rintro e w4 ⟨A, c, a, rfl, hI, hA, hb4⟩; have hia : (j : Int) < (a.length : Int) := (by have := hI.len; omega); obtain ⟨l, hl⟩ : ∃ l, rowA a j = l := ⟨_, rfl⟩; obtain ⟨q, c', cc, hR, -⟩ := hA.row j l (by rw [← hl, rowA, List.getElem?_eq_getElem (show j < a.length by omega)]; rfl); rw [Nat.zero_add] at cc; have HL := Lib.hid hl; have HI := Lib.hid hI; have HR := Lib.hid hR; have HB4 := Lib.hid (Hb1.out.trans (hb4.mono Hb1.out.size)); have hl3 := reach_row_len Ht.out hI j hj; rw [hl] at hl3; clear hl hI hA hR hb4)
  go_loopw [34] (fun s34 wr' => ∃ i : Nat, s34 = .int .i64 (i : Int) ∧ i ≤ l.length ∧ reachB (l.take i) k wt = false ∧ Below w4.heap.size w4 wr') (fun s34 _ => l.length - (intOf s34).toNat)
  case atStart => exact ⟨0, rfl, by omega, rfl, Below.refl _ _⟩
  case round =>
    obtain ⟨i, rfl, hi, hno, hB⟩ := hrel
    have Hno := Lib.hid hno
    have HB := Lib.hid hB
    have hzr := hB.size
    have hz4 := HB4.out.size
    by_cases hlt : i < l.length
    · obtain ⟨r, hr⟩ : ∃ r, l[i]? = some r := ⟨_, List.getElem?_eq_getElem hlt⟩
      obtain ⟨b, o, rfl, hb, y0, y1, y2, y3, y4⟩ := (HR.out.pure hB).at i r hr
      have hn := reach_next hr k wt
      rw [hno, Bool.false_or] at hn
      have Hn := Lib.hid hn
      have Hr := Lib.hid hr
      have hi0 : (0 : Int) ≤ (i : Int) := by omega
      have hiu : (i : Int) < (l.length : Int) := by omega
      obtain ⟨r1, r2, r3, r4, r5⟩ := r
      dsimp only at y0 y1 y2 y3 y4
      have hund : undef = Value.tuple #[] := rfl
      have hfound : (r1 == k && (if wt then r4 else r3)) = true → reachB l k wt = true := fun e => List.any_eq_true.2 ⟨_, List.mem_of_getElem? Hr.out, e⟩
      have Hfound := Lib.hid hfound
      have HBn := Lib.hid (show ∀ o' : Obj, Below w4.heap.size w4 (wr.alloc o') from fun o' => HB.out.alloc HB.out.size _)
      clear hno hr hn hfound hB
      cases hk1 : (r1 == k)
      · rw [hk1, Bool.false_and] at Hn
        cases wt
        · go_wp2
          exact ⟨⟨i + 1, by go_num, by omega, Hn.out, HBn.out _⟩, by simp [intOf]; omega⟩
        · go_wp2
          exact ⟨⟨i + 1, by go_num, by omega, Hn.out, HBn.out _⟩, by simp [intOf]; omega⟩
      · rw [hk1, Bool.true_and] at Hn Hfound
        cases wt
        · cases r3
          · go_wp2
            exact ⟨⟨i + 1, by go_num, by omega, Hn.out, HBn.out _⟩, by simp [intOf]; omega⟩
          · go_wp2
            go_ret
            exact ⟨a, HI.out, by rw [HL.out, Hfound.out rfl]; rfl, HB4.out.trans ((HBn.out _).mono hz4)⟩
        · cases r4
          · go_wp2
            exact ⟨⟨i + 1, by go_num, by omega, Hn.out, HBn.out _⟩, by simp [intOf]; omega⟩
          · go_wp2
            go_ret
            exact ⟨a, HI.out, by rw [HL.out, Hfound.out rfl]; rfl, HB4.out.trans ((HBn.out _).mono hz4)⟩
    · have hnl : ¬ (i : Int) < (l.length : Int) := by omega
      have hil : i = l.length := by omega
      have hn := Hno.out
      rw [hil, List.take_length] at hn
      have Hn := Lib.hid hn
      clear hno hil hn hB
      go_wp2
      go_ret
      exact ⟨a, HI.out, by rw [HL.out, Hn.out]; rfl, HB4.out.trans (HB.out.mono hz4)⟩
end Go.Proofs.YtiolplhgpodifaaGreat
