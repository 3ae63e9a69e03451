/- What a runner and a node get by a right. Conditions: the gathered sets lie where their cells say. -/
import Derived.Test.YtiolplhgpodifaaGreatSx
import Derived.Test.YtiolplhgpodifaaGreatMb
import Derived.Deep.CutBlock
import Derived.Deep.LoopGhost
set_option linter.unusedVariables false
set_option linter.unusedSimpArgs false
namespace Go.Proofs.YtiolplhgpodifaaGreat
open Go.RowKit Drw
attribute [local go_sem] Lab.val Rgt.val Cal.val Thg.val

theorem Mp.lt {w0 w : World} {R H hc : Nat} {p : Option Addr} {cap : Nat} {ts : List Thg} {sp bp : Nat → Nat} {a : List (List Rgt)} (h : RchAt w0 w R H hc p cap ts sp bp a) {k : Nat} (hk : Mp ts.length bp k) : k < w.heap.size := by
  obtain ⟨i, hi, rfl⟩ := hk
  exact (h.set i hi).lt.2
/-- A list made later than the sets stays as it is while they grow. -/
theorem listed_keep {w0 w w1 w2 : World} {R H hc : Nat} {p : Option Addr} {cap : Nat} {ts : List Thg} {sp bp : Nat → Nat} {a : List (List Rgt)} (h : RchAt w0 w R H hc p cap ts sp bp a) {q : Option Addr} {c n : Nat} {L : List Rgt} (hr : RgtsAt w1 (.slice q n c) L)
    (ho : ∀ k, (Value.slice q n c).ownBlock = some k → w.heap.size ≤ k) (hg : Chg (Mp ts.length bp) w1 w2) : RgtsAt w2 (.slice q n c) L :=
  Rows.kept hr hg (.inr fun k hk hm => by have := ho k hk; have := Mp.lt h hm; omega)

/-- The sets behind a step: whether they grew, and what holds where they did not. -/
def Grown (w0 w : World) (R H hc : Nat) (p : Option Addr) (cap : Nat) (ts : List Thg) (sp bp : Nat → Nat) (a : List (List Rgt)) (Pr : Prop) (e : Ending) (w' : World) : Prop :=
  ∃ a' ch, e = .returned (.bool ch) ∧ RchAt w0 w' R H hc p cap ts sp bp a' ∧ Chg (Mp ts.length bp) w w' ∧ Inc a a' ch ∧ (ch = false → Pr)

/-- A right's cells, in a block of their own. -/
def RB5 (w : World) (b : Nat) (r : Rgt) : Prop := w.cell? ⟨b, 0, none⟩ = some (.int .i64 r.thing) ∧ w.cell? ⟨b, 1, none⟩ = some (.int .i64 r.vers) ∧ w.cell? ⟨b, 2, none⟩ = some (.bool r.rd) ∧ w.cell? ⟨b, 3, none⟩ = some (.bool r.wr) ∧ w.cell? ⟨b, 4, none⟩ = some (.bool r.wk)

theorem grow_take {L : List Rgt} {k i : Nat} {f : Rgt → Rgt} {x y : Rgt} {a : List (List Rgt)} (hx : L[k]? = some x) (hX : ∀ z ∈ L.take k, f z ∈ rowA a i) (hy : f x = y) (hi : i < a.length) : ∀ z ∈ L.take (k + 1), f z ∈ rowA (addA a i y) i := by
  intro z hz
  rw [List.take_add_one, hx] at hz
  rcases List.mem_append.1 hz with h | h
  · exact (inc_add hi y).sub _ _ (hX z h)
  · have : z = x := by simpa using h
    rw [this, hy]; exact addA_mem hi y

theorem dk {d : Nat → Bool} {i j : Nat} (h : (d j || decide (j = i)) = true) (hn : decide (j = i) = false := by decide) : d j = true := by
  rw [hn, Bool.or_false] at h; exact h
theorem df {d : Nat → Bool} {i j : Nat} (h : (d j || decide (j = i)) = false) : d j = false := (Bool.or_eq_false_iff.1 h).1

structure ExA0 (R H hc n i s C : Nat) (t0 y0 y1 : Int) (y2 y3 y4 ch : Bool) (Post : World → Prop) (w0 : World) (d : Nat → Bool) (w : World) (v7 v27 v28 v29 v30 v31 v32 v33 v34 v35 v36 v37 v38 v39 : Value) : Prop where
  chg : Below 0 w0 w
  p0 : d 0 = true → v27 = .pointer (some ⟨R, 0, none⟩)
  p1 : d 1 = true → v28 = .pointer (some ⟨R, 0, none⟩)
  p2 : d 2 = true → v29 = .pointer (some ⟨R, 1, none⟩)
  p3 : d 3 = true → v30 = .slice (some ⟨H, 0, none⟩) n hc
  p4 : d 4 = true → v31 = .int .i64 t0
  p5 : d 5 = true → v32 = .int .i64 (i : Int)
  p6 : d 6 = true → v33 = .pointer (some ⟨H, i, none⟩)
  p7 : d 7 = true → v34 = .pointer (some ⟨s, 0, none⟩)
  p8 : d 8 = true → v35 = .agg #[.int .i64 y0, .int .i64 y1, .bool y2, .bool y3, .bool y4]
  p9 : d 9 = true → v36 = .bool true
  p10 : d 10 = true → v37 = .bool true
  p12 : d 12 = true → v39 = .bool true
  p13 : d 13 = true → v7 = .bool true
  x0 : d 9 = false → Below w0.heap.size w0 w
  x1 : d 9 = true → Post w
  x7 : d 13 = false → v7 = .bool ch
  z13 : d 13 = true → d 11 = true
  z6 : d 6 = true → d 3 = true
  z7 : d 7 = true → d 3 = true
  z9 : d 9 = true → d 3 = true ∧ d 7 = true ∧ d 8 = true

structure ExA1 (R H hc n i s C : Nat) (t0 y0 y1 : Int) (y2 y3 y4 ch : Bool) (Post : World → Prop) (w0 : World) (d : Nat → Bool) (w : World) (v7 v27 v28 v29 v30 v31 v32 v33 v34 v35 v36 v37 v38 v39 : Value) : Prop where
  chg : Below 0 w0 w
  p0 : d 0 = true → v27 = .pointer (some ⟨R, 0, none⟩)
  p1 : d 1 = true → v28 = .pointer (some ⟨R, 0, none⟩)
  p2 : d 2 = true → v29 = .pointer (some ⟨R, 1, none⟩)
  p3 : d 3 = true → v30 = .slice (some ⟨H, 0, none⟩) n hc
  p4 : d 4 = true → v31 = .int .i64 t0
  p5 : d 5 = true → v32 = .int .i64 (i : Int)
  p6 : d 6 = true → v33 = .pointer (some ⟨H, i, none⟩)
  p7 : d 7 = true → v34 = .pointer (some ⟨s, 0, none⟩)
  p8 : d 8 = true → v35 = .agg #[.int .i64 y0, .int .i64 y1, .bool y2, .bool y3, .bool y4]
  p9 : d 9 = true → v36 = .bool false
  p10 : d 10 = true → v37 = .bool false
  p11 : d 11 = true → v38 = .bool ch
  p12 : d 12 = true → v39 = .bool ch
  p13 : d 13 = true → v7 = .bool ch
  x0 : d 9 = false → Below w0.heap.size w0 w
  x1 : d 9 = true → Post w
  x7 : d 13 = false → v7 = .bool ch
  z13 : d 13 = true → d 11 = true
  z6 : d 6 = true → d 3 = true
  z7 : d 7 = true → d 3 = true
  z9 : d 9 = true → d 3 = true ∧ d 7 = true ∧ d 8 = true

structure ExB0 (K0 R H hc n i s C : Nat) (t0 y0 y1 : Int) (y2 y3 y4 ch : Bool) (Post : World → Prop) (w0 : World) (d : Nat → Bool) (w : World) (v7 v51 v52 v53 v54 v55 v56 v57 v58 v59 v60 v61 v62 v63 v64 : Value) : Prop where
  chg : Below 0 w0 w
  p0 : d 0 = true → v51 = .pointer (some ⟨R, 0, none⟩)
  p1 : d 1 = true → v52 = .pointer (some ⟨R, 0, none⟩)
  p2 : d 2 = true → v53 = .pointer (some ⟨R, 1, none⟩)
  p3 : d 3 = true → v54 = .slice (some ⟨H, 0, none⟩) n hc
  p4 : d 4 = true → v55 = .pointer (some ⟨K0, 0, none⟩)
  p5 : d 5 = true → v56 = .int .i64 t0
  p6 : d 6 = true → v57 = .int .i64 (i : Int)
  p7 : d 7 = true → v58 = .pointer (some ⟨H, i, none⟩)
  p8 : d 8 = true → v59 = .pointer (some ⟨s, 0, none⟩)
  p9 : d 9 = true → v60 = .agg #[.int .i64 y0, .int .i64 y1, .bool y2, .bool y3, .bool y4]
  p10 : d 10 = true → v61 = .bool true
  p11 : d 11 = true → v62 = .bool true
  p13 : d 13 = true → v64 = .bool true
  p14 : d 14 = true → v7 = .bool true
  x0 : d 10 = false → Below w0.heap.size w0 w
  x1 : d 10 = true → Post w
  x7 : d 14 = false → v7 = .bool ch
  z13 : d 14 = true → d 12 = true
  z5 : d 6 = true → d 5 = true
  z6 : d 7 = true → d 3 = true ∧ d 5 = true
  z7 : d 8 = true → d 3 = true ∧ d 5 = true
  z9 : d 10 = true → d 3 = true ∧ d 5 = true ∧ d 8 = true ∧ d 9 = true

structure ExB1 (K0 R H hc n i s C : Nat) (t0 y0 y1 : Int) (y2 y3 y4 ch : Bool) (Post : World → Prop) (w0 : World) (d : Nat → Bool) (w : World) (v7 v51 v52 v53 v54 v55 v56 v57 v58 v59 v60 v61 v62 v63 v64 : Value) : Prop where
  chg : Below 0 w0 w
  p0 : d 0 = true → v51 = .pointer (some ⟨R, 0, none⟩)
  p1 : d 1 = true → v52 = .pointer (some ⟨R, 0, none⟩)
  p2 : d 2 = true → v53 = .pointer (some ⟨R, 1, none⟩)
  p3 : d 3 = true → v54 = .slice (some ⟨H, 0, none⟩) n hc
  p4 : d 4 = true → v55 = .pointer (some ⟨K0, 0, none⟩)
  p5 : d 5 = true → v56 = .int .i64 t0
  p6 : d 6 = true → v57 = .int .i64 (i : Int)
  p7 : d 7 = true → v58 = .pointer (some ⟨H, i, none⟩)
  p8 : d 8 = true → v59 = .pointer (some ⟨s, 0, none⟩)
  p9 : d 9 = true → v60 = .agg #[.int .i64 y0, .int .i64 y1, .bool y2, .bool y3, .bool y4]
  p10 : d 10 = true → v61 = .bool false
  p11 : d 11 = true → v62 = .bool false
  p12 : d 12 = true → v63 = .bool ch
  p13 : d 13 = true → v64 = .bool ch
  p14 : d 14 = true → v7 = .bool ch
  x0 : d 10 = false → Below w0.heap.size w0 w
  x1 : d 10 = true → Post w
  x7 : d 14 = false → v7 = .bool ch
  z13 : d 14 = true → d 12 = true
  z5 : d 6 = true → d 5 = true
  z6 : d 7 = true → d 3 = true ∧ d 5 = true
  z7 : d 8 = true → d 3 = true ∧ d 5 = true
  z9 : d 10 = true → d 3 = true ∧ d 5 = true ∧ d 8 = true ∧ d 9 = true

set_option maxRecDepth 100000 in
set_option maxHeartbeats 4000000 in
theorem exchange_c {w0 w : World} {R H hc : Nat} {p : Option Addr} {cap : Nat} {ts : List Thg} {sp bp : Nat → Nat} {a : List (List Rgt)} {i : Nat} {b : Rgt} (h : RchAt w0 w R H hc p cap ts sp bp a) (hi : i < ts.length) (hk : kindAt ts ((i : Int) + 1) 3 = true) (hb : Got ts ((i : Int) + 1) b) (hn : kindAt ts b.thing 2 = true) (hl : live ts b = true) :
    Calls Tryz.prog 92 #[.pointer (some ⟨R, 0, none⟩), .int .i64 ((i : Int) + 1), b.val] w (Grown w0 w R H hc p cap ts sp bp a (Shut1 ts a i b)) := by
  obtain ⟨j, hj, hbj⟩ : ∃ j, j < ts.length ∧ b.thing = (j : Int) + 1 := by
    have hx := (kindAt_ex hn).1
    rw [ex_iff] at hx
    exact ⟨(b.thing - 1).toNat, by omega, by omega⟩
  have Hb := Lib.hid hb
  have Hk := Lib.hid hk
  have Hn := Lib.hid hn
  have Hl := Lib.hid hl
  have H0 := Lib.hid h
  obtain ⟨b0, b1, b2, b3, b4⟩ := b
  dsimp only at hbj
  subst hbj
  clear hb hk hn hl h
  go_enter Tryz.func92, Tryz.ntmps92
  go_upto_region 1 with (fail)
  generalize hwa : World.alloc _ _ = wa
  have hBa : Below w.heap.size w wa := by rw [← hwa]; exact (by (repeat (with_reducible first | exact Below.refl _ _ | refine Below.alloc ?_ ?_ _ | refine below_drewN ?_ _ | refine Below.drew ?_ | refine Below.setCell ?_ ?_ _ | refine Below.trans ?_ (Below.mono (by assumption) ?_))) <;> (first | omega | (simp; try omega)))
  have hza : w.heap.size < wa.heap.size := by rw [← hwa]; simp
  have gc : wa.cell? ⟨w.heap.size, 0, none⟩ = some (.int .i64 ((j : Int) + 1)) ∧ wa.cell? ⟨w.heap.size, 1, none⟩ = some (.int .i64 b1) ∧ wa.cell? ⟨w.heap.size, 2, none⟩ = some (.bool b2) ∧ wa.cell? ⟨w.heap.size, 3, none⟩ = some (.bool b3) ∧ wa.cell? ⟨w.heap.size, 4, none⟩ = some (.bool b4) := by rw [← hwa]; simp [go_sem]
  have hR0 := H0.out.pure hBa
  have HRa := Lib.hid hR0
  have HBa := Lib.hid hBa
  have Gc := Lib.hid gc
  obtain ⟨g0, g1, g2, g3, g4⟩ := gc
  clear hwa hBa hR0
  go_upto_if 13 with (fail)
  go_cut [7] (fun s7 wz => ∃ a' ch, s7 = .bool ch ∧ RchAt w0 wz R H hc p cap ts sp bp a' ∧ Chg (Mp ts.length bp) wa wz ∧ Inc a a' ch ∧ (b2 = true → ∀ x ∈ rowA a j, fet ⟨(j : Int) + 1, b1, b2, b3, b4⟩ x ∈ rowA a' i))
  case first =>
    cases b2
    · go_wp2
      go_meet
      exact ⟨a, false, rfl, HRa.out, Chg.refl _ _, Inc.refl _, fun e => by cases e⟩
    · have HRt := Lib.hid (rights_c HRa.out hj)
      go_wp2_with (first
        | (go_at_call 36; refine HRt.out.mono ?_; rintro e w1 ⟨q, c, L, rfl, hL, hO, hM, hW, hb1⟩))
      have hR1 := HRa.out.pure hb1
      have hlen : L.length ≤ maxLen := by
        obtain ⟨p', c', e, h1, h2⟩ := hL.len
        omega
      have HL := Lib.hid hL
      have HM := Lib.hid hM
      have HW := Lib.hid hW
      have Hb1 := Lib.hid hb1
      have HR1 := Lib.hid hR1
      have hz1 := hb1.size
      unfold maxLen at hlen
      clear hL hO hM hW hb1 hR1 g0 g1 g2 g3 g4
      go_loopw [19, 7] (fun s19 s7 wr => ∃ (k : Nat) (a' : List (List Rgt)) (ch : Bool), s19 = .int .i64 (k : Int) ∧ s7 = .bool ch ∧ k ≤ L.length ∧ RchAt w0 wr R H hc p cap ts sp bp a' ∧ Chg (Mp ts.length bp) w1 wr ∧ Inc a a' ch ∧ ∀ x ∈ L.take k, fet ⟨(j : Int) + 1, b1, true, b3, b4⟩ x ∈ rowA a' i) (fun s19 _ _ => L.length - (intOf s19).toNat)
      case atStart => exact ⟨0, a, false, rfl, rfl, by omega, HR1.out, Chg.refl _ _, Inc.refl _, fun x hx => by simp at hx⟩
      case round =>
        obtain ⟨k, a', ch, rfl, rfl, hk, hR, hG, hI, hX⟩ := hrel
        have HR := Lib.hid hR
        have HG := Lib.hid hG
        have HI := Lib.hid hI
        have HX := Lib.hid hX
        clear hR hG hI hX
        by_cases hlt : k < L.length
        · have hk0 : (0 : Int) ≤ (k : Int) := by omega
          have hkn : (k : Int) < (L.length : Int) := by omega
          obtain ⟨x, hx⟩ : ∃ x, L[k]? = some x := ⟨_, List.getElem?_eq_getElem hlt⟩
          have Hx := Lib.hid hx
          obtain ⟨lb, lo, rfl, hlb, c0, c1, c2, c3, c4⟩ := (listed_keep HRa.out HL.out HW.out HG.out).at k x hx
          have hMw : ¬ Mp ts.length bp w.heap.size := fun h => by have := Mp.lt H0.out h; omega
          have g0 := HG.out.cell (Hb1.out.cell hza |>.trans Gc.out.1) hMw
          have g1 := HG.out.cell (Hb1.out.cell hza |>.trans Gc.out.2.1) hMw
          have g2 := HG.out.cell (Hb1.out.cell hza |>.trans Gc.out.2.2.1) hMw
          have g3 := HG.out.cell (Hb1.out.cell hza |>.trans Gc.out.2.2.2.1) hMw
          have g4 := HG.out.cell (Hb1.out.cell hza |>.trans Gc.out.2.2.2.2) hMw
          have hzr := HG.out.size
          have hzw : w.heap.size < wr.heap.size := by omega
          clear hx hMw
          obtain ⟨x0, x1, x2, x3, x4⟩ := x
          dsimp only at c0 c1 c2 c3 c4
          go_upto_region 6 with (fail)
          generalize hwy : World.alloc _ _ = wy
          have hBy : Below wr.heap.size wr wy := by rw [← hwy]; exact (by (repeat (with_reducible first | exact Below.refl _ _ | refine Below.alloc ?_ ?_ _ | refine below_drewN ?_ _ | refine Below.drew ?_ | refine Below.setCell ?_ ?_ _ | refine Below.trans ?_ (Below.mono (by assumption) ?_))) <;> (first | omega | (simp; try omega)))
          have hzy : wr.heap.size < wy.heap.size := by rw [← hwy]; simp
          have gy : wy.cell? ⟨wr.heap.size, 0, none⟩ = some (.int .i64 x0) ∧ wy.cell? ⟨wr.heap.size, 1, none⟩ = some (.int .i64 x1) ∧ wy.cell? ⟨wr.heap.size, 2, none⟩ = some (.bool x2) ∧ wy.cell? ⟨wr.heap.size, 3, none⟩ = some (.bool x3) ∧ wy.cell? ⟨wr.heap.size, 4, none⟩ = some (.bool x4) := by rw [← hwy]; simp [go_sem]
          have fy : ∀ o, wy.frozen? ⟨wr.heap.size, o, none⟩ = false := by intro o; rw [← hwy]; simp [go_sem]
          replace g4 := (hBy.cell hzw).trans g4
          have HBy := Lib.hid hBy
          have G3 := Lib.hid ((hBy.cell hzw).trans g3)
          have Gy := Lib.hid gy
          have Fy := Lib.hid fy
          clear hwy hBy g0 g1 g2 g3 c0 c1 c2 c3 c4 gy fy
          go_upto_if 24 with (fail)
          go_cut [7] (fun s7 wz => s7 = .bool ch ∧ Below wr.heap.size wr wz ∧ wr.heap.size < wz.heap.size ∧ RB5 wz wr.heap.size (fet ⟨(j : Int) + 1, b1, true, b3, b4⟩ ⟨x0, x1, x2, x3, x4⟩))
          case first =>
            cases b4
            · go_wp2
              go_meet
              exact ⟨rfl, HBy.out, hzy, Gy.out⟩
            · obtain ⟨y, hy⟩ : ∃ y, less ⟨x0, x1, x2, x3, x4⟩ true false false = y := ⟨_, rfl⟩
              have Hy := Lib.hid hy
              clear hy
              obtain ⟨y0, y1, y2, y3, y4⟩ := y
              obtain ⟨p0, p1, p2, p3, p4⟩ := Gy.out
              go_wp2_with (first
                | (go_at_call 19; refine (rightLess_c ⟨_, _, _, _, _⟩ _ _ _ _).mono ?_; rw [Hy.out]; rintro e w3 ⟨rfl, hb3⟩; have hz3 := hb3.size; have p0 := (hb3.cell hzy).trans p0; have p1 := (hb3.cell hzy).trans p1; have p2 := (hb3.cell hzy).trans p2; have p3 := (hb3.cell hzy).trans p3; have p4 := (hb3.cell hzy).trans p4; have fy : ∀ o, w3.frozen? ⟨wr.heap.size, o, none⟩ = false := fun o => ((bcell hb3).2 _ _ hzy).trans (Fy.out o); have Hb3 := Lib.hid hb3; clear hb3))
              go_meet
              have hz3' : wr.heap.size < w3.heap.size := by omega
              have hS : ∀ (o : Nat) (u : Value) (x : World), Below wr.heap.size wr x → Below wr.heap.size wr (x.setCell ⟨wr.heap.size, o, none⟩ u) := fun o u x h => h.setCell (p := ⟨wr.heap.size, o, none⟩) (Nat.le_refl _) u
              refine ⟨rfl, hS _ _ _ (hS _ _ _ (hS _ _ _ (hS _ _ _ (hS _ _ _ (HBy.out.trans (Hb3.out.mono HBy.out.size)))))), by simpa using hz3', ?_⟩
              have e : fet ⟨(j : Int) + 1, b1, true, b3, true⟩ ⟨x0, x1, x2, x3, x4⟩ = ⟨y0, y1, y2, y3, y4⟩ := by
                rw [← Hy.out]
                have := (HR.out.gat.ok HR.out.ok (HI.out.sub _ _ ((HM.out _).1 (List.mem_of_getElem? Hx.out)))).1
                simp [fet, less, this]
              rw [e]
              simp [RB5, cell_set, p0, p1, p2, p3, p4, fy]
          case rest =>
            obtain ⟨rfl, hBz, hzz, hcz⟩ := hcut
            obtain ⟨wz, rfl⟩ : ∃ x : World, x = wc := ⟨_, rfl⟩
            obtain ⟨y, hy⟩ : ∃ y, fet ⟨(j : Int) + 1, b1, true, b3, b4⟩ ⟨x0, x1, x2, x3, x4⟩ = y := ⟨_, rfl⟩
            rw [hy] at hcz
            have hgy : Got ts ((i : Int) + 1) y := by rw [← hy]; exact Got.fetch Hk.out Hb.out Hn.out Hl.out rfl (HR.out.gat.got j _ (HI.out.sub _ _ ((HM.out _).1 (List.mem_of_getElem? Hx.out))))
            have Hy := Lib.hid hy
            have hRz := HR.out.pure hBz
            have hMw : ¬ Mp ts.length bp w.heap.size := fun h => by have := Mp.lt H0.out h; omega
            have gk := (hBz.cell hzw).trans (HG.out.cell (Hb1.out.cell hza |>.trans Gc.out.1) hMw)
            have HRz := Lib.hid hRz
            have HBz := Lib.hid hBz
            have hw1 := wrap1 (i := i) (by have := HRz.out.len8.2; omega)
            have hw2 : IntKind.i64.wrap (i : Int) = (i : Int) := IntWalk.i64_in _ (by have := HRz.out.len8.2; omega)
            have hi0 : (0 : Int) ≤ (i : Int) := by omega
            have hiu : (i : Int) < (ts.length : Int) := by omega
            have hzw' : w.heap.size < wz.heap.size := by have := hBz.size; omega
            clear hy hRz hBz hMw g4
            obtain ⟨y0, y1, y2, y3, y4⟩ := y
            have HF := Lib.hid (show ∀ w', Below wz.heap.size wz w' → (w'.cell? ⟨R, 1, none⟩ = some (.slice (some ⟨H, 0, none⟩) ts.length hc) ∧ w'.cell? ⟨H, i, none⟩ = some (.pointer (some ⟨sp i, 0, none⟩)) ∧ w'.cell? ⟨wr.heap.size, 0, none⟩ = some (.int .i64 y0) ∧ w'.cell? ⟨wr.heap.size, 1, none⟩ = some (.int .i64 y1) ∧ w'.cell? ⟨wr.heap.size, 2, none⟩ = some (.bool y2) ∧ w'.cell? ⟨wr.heap.size, 3, none⟩ = some (.bool y3) ∧ w'.cell? ⟨wr.heap.size, 4, none⟩ = some (.bool y4) ∧ w'.cell? ⟨w.heap.size, 0, none⟩ = some (.int .i64 ((j : Int) + 1))) from fun w' h =>
              ⟨(h.cell (cell_lt HRz.out.held)).trans HRz.out.held, (h.cell (cell_lt (HRz.out.ptr i hi))).trans (HRz.out.ptr i hi), (h.cell hzz).trans hcz.1, (h.cell hzz).trans hcz.2.1, (h.cell hzz).trans hcz.2.2.1, (h.cell hzz).trans hcz.2.2.2.1, (h.cell hzz).trans hcz.2.2.2.2, (h.cell hzw').trans gk⟩)
            obtain ⟨Po, hPo⟩ : ∃ Po : World → Prop, Po = fun x => RchAt w0 x R H hc p cap ts sp bp (addA a' i ⟨y0, y1, y2, y3, y4⟩) ∧ Chg (Mp ts.length bp) wz x := ⟨_, rfl⟩
            have HPo := Lib.hid hPo
            clear hPo gk hcz
            go_upto_region 8 with (fail)
            by_cases hin : (⟨y0, y1, y2, y3, y4⟩ : Rgt) ∈ rowA a' i
            · clear hkn
              have HADD := Lib.hid (show ∀ w', Below wz.heap.size wz w' → Calls Tryz.prog 62 #[.pointer (some ⟨sp i, 0, none⟩), .agg #[.int .i64 y0, .int .i64 y1, .bool y2, .bool y3, .bool y4]] w' fun e w'' => e = .returned (.bool false) ∧ Po w'' ∧ Chg (Mp ts.length bp) w' w'' from fun w' h => by
                refine (rchAdd_c (r := ⟨y0, y1, y2, y3, y4⟩) (HRz.out.pure h) hi hgy).mono ?_
                rintro e w'' ⟨rfl, h1, h2⟩
                exact ⟨by simp [hin], by rw [HPo.out]; exact ⟨h1, (Chg.of_pure h).trans h2⟩, h2⟩)
              refine wp_region_invB (fun d a w' => ∃ v7 v27 v28 v29 v30 v31 v32 v33 v34 v35 v36 v37 v38 v39, a = { tmps := #[.pointer (some ⟨R, 0, none⟩), .int .i64 ((i : Int) + 1), .agg #[.int .i64 ((j : Int) + 1), .int .i64 b1, .bool true, .bool b3, .bool b4], undef, undef, .pointer (some ⟨w.heap.size, 0, none⟩), .bool false, v7, undef, .pointer (some ⟨wr.heap.size, 0, none⟩), undef, undef, .pointer (some ⟨w.heap.size, 2, none⟩), .bool true, .pointer (some ⟨R, 0, none⟩), .pointer (some ⟨w.heap.size, 0, none⟩), .int .i64 ((j : Int) + 1), .slice (some ⟨lb, lo, none⟩) L.length c, .int .i64 (L.length : Int), .int .i64 (k : Int), u20, u21, u22, u23, u24, u25, u26, v27, v28, v29, v30, v31, v32, v33, v34, v35, v36, v37, v38, v39, u40, undef, undef, undef, undef, undef, undef, undef, undef, undef, undef, undef, undef, undef, undef, undef, undef, undef, undef, undef, undef, undef, undef, undef, undef, undef, undef], defers := [] } ∧ ExA1 R H hc ts.length i (sp i) wr.heap.size ((i : Int) + 1) y0 y1 y2 y3 y4 ch Po wz d w' v7 v27 v28 v29 v30 v31 v32 v33 v34 v35 v36 v37 v38 v39) (by kernel_rfl) (by kernel_rfl) ?_ ?_ ?_
              · refine ⟨_, _, _, _, _, _, _, _, _, _, _, _, _, _, rfl, ?_⟩
                constructor
                · exact Below.drew (Below.refl _ _)
                · intro hj; exact absurd hj (by decide)
                · intro hj; exact absurd hj (by decide)
                · intro hj; exact absurd hj (by decide)
                · intro hj; exact absurd hj (by decide)
                · intro hj; exact absurd hj (by decide)
                · intro hj; exact absurd hj (by decide)
                · intro hj; exact absurd hj (by decide)
                · intro hj; exact absurd hj (by decide)
                · intro hj; exact absurd hj (by decide)
                · intro hj; exact absurd hj (by decide)
                · intro hj; exact absurd hj (by decide)
                · intro hj; exact absurd hj (by decide)
                · intro hj; exact absurd hj (by decide)
                · intro hj; exact absurd hj (by decide)
                · exact fun _ => Below.drew (Below.refl _ _)
                · exact fun h => absurd h (by decide)
                · exact fun _ => rfl
                · exact fun h => absurd h (by decide)
                · exact fun h => absurd h (by decide)
                · exact fun h => absurd h (by decide)
                · exact fun h => absurd h (by decide)
              · refine ⟨?_, ?_, ?_, ?_, ?_, ?_, ?_, ?_, ?_, ?_, ?_, ?_, ?_, ?_, trivial⟩
                · rintro d a w' hd hdep ⟨v7, v27, v28, v29, v30, v31, v32, v33, v34, v35, v36, v37, v38, v39, rfl, H⟩ K hK
                  clear hdep
                  go_simp
                  have hg : Below w'.heap.size w' w' := Below.refl _ _
                  exact hK _ _ ⟨_, _, _, _, _, _, _, _, _, _, _, _, _, _, rfl, ⟨H.chg.trans (hg.mono (Nat.zero_le _)), fun _ => rfl, fun h => H.p1 (dk h), fun h => H.p2 (dk h), fun h => H.p3 (dk h), fun h => H.p4 (dk h), fun h => H.p5 (dk h), fun h => H.p6 (dk h), fun h => H.p7 (dk h), fun h => H.p8 (dk h), fun h => H.p9 (dk h), fun h => H.p10 (dk h), fun h => H.p11 (dk h), fun h => H.p12 (dk h), fun h => H.p13 (dk h), fun h => H.x0 (df h), fun h => H.x1 (dk h), fun h => H.x7 (df h), fun h => by have := H.z13 (dk h); simp [this], fun h => by have := H.z6 (dk h); simp [this], fun h => by have := H.z7 (dk h); simp [this], fun h => by have := H.z9 (dk h); simp [this]⟩⟩
                · rintro d a w' hd hdep ⟨v7, v27, v28, v29, v30, v31, v32, v33, v34, v35, v36, v37, v38, v39, rfl, H⟩ K hK
                  have d0 : d 0 = true := hdep ⟨0, .data⟩ (by simp) rfl
                  clear hdep
                  have e0 := H.p0 d0
                  subst e0
                  go_simp
                  have hg : Below w'.heap.size w' w' := Below.refl _ _
                  exact hK _ _ ⟨_, _, _, _, _, _, _, _, _, _, _, _, _, _, rfl, ⟨H.chg.trans (hg.mono (Nat.zero_le _)), fun h => H.p0 (dk h), fun _ => rfl, fun h => H.p2 (dk h), fun h => H.p3 (dk h), fun h => H.p4 (dk h), fun h => H.p5 (dk h), fun h => H.p6 (dk h), fun h => H.p7 (dk h), fun h => H.p8 (dk h), fun h => H.p9 (dk h), fun h => H.p10 (dk h), fun h => H.p11 (dk h), fun h => H.p12 (dk h), fun h => H.p13 (dk h), fun h => H.x0 (df h), fun h => H.x1 (dk h), fun h => H.x7 (df h), fun h => by have := H.z13 (dk h); simp [this], fun h => by have := H.z6 (dk h); simp [this], fun h => by have := H.z7 (dk h); simp [this], fun h => by have := H.z9 (dk h); simp [this]⟩⟩
                · rintro d a w' hd hdep ⟨v7, v27, v28, v29, v30, v31, v32, v33, v34, v35, v36, v37, v38, v39, rfl, H⟩ K hK
                  have d1 : d 1 = true := hdep ⟨1, .data⟩ (by simp) rfl
                  clear hdep
                  have e1 := H.p1 d1
                  subst e1
                  go_simp
                  have hg : Below w'.heap.size w' w' := Below.refl _ _
                  exact hK _ _ ⟨_, _, _, _, _, _, _, _, _, _, _, _, _, _, rfl, ⟨H.chg.trans (hg.mono (Nat.zero_le _)), fun h => H.p0 (dk h), fun h => H.p1 (dk h), fun _ => rfl, fun h => H.p3 (dk h), fun h => H.p4 (dk h), fun h => H.p5 (dk h), fun h => H.p6 (dk h), fun h => H.p7 (dk h), fun h => H.p8 (dk h), fun h => H.p9 (dk h), fun h => H.p10 (dk h), fun h => H.p11 (dk h), fun h => H.p12 (dk h), fun h => H.p13 (dk h), fun h => H.x0 (df h), fun h => H.x1 (dk h), fun h => H.x7 (df h), fun h => by have := H.z13 (dk h); simp [this], fun h => by have := H.z6 (dk h); simp [this], fun h => by have := H.z7 (dk h); simp [this], fun h => by have := H.z9 (dk h); simp [this]⟩⟩
                · rintro d a w' hd hdep ⟨v7, v27, v28, v29, v30, v31, v32, v33, v34, v35, v36, v37, v38, v39, rfl, H⟩ K hK
                  have d2 : d 2 = true := hdep ⟨2, .data⟩ (by simp) rfl
                  clear hdep
                  have e2 := H.p2 d2
                  subst e2
                  have hB9 := H.x0 (Bool.eq_false_iff.2 (fun h9 => by have := H.z9 h9; simp [hd] at this))
                  obtain ⟨f1, f2, f3, f4, f5, f6, f7, f8⟩ := HF.out _ hB9
                  go_simp
                  have hg : Below w'.heap.size w' w' := Below.refl _ _
                  exact hK _ _ ⟨_, _, _, _, _, _, _, _, _, _, _, _, _, _, rfl, ⟨H.chg.trans (hg.mono (Nat.zero_le _)), fun h => H.p0 (dk h), fun h => H.p1 (dk h), fun h => H.p2 (dk h), fun _ => rfl, fun h => H.p4 (dk h), fun h => H.p5 (dk h), fun h => H.p6 (dk h), fun h => H.p7 (dk h), fun h => H.p8 (dk h), fun h => H.p9 (dk h), fun h => H.p10 (dk h), fun h => H.p11 (dk h), fun h => H.p12 (dk h), fun h => H.p13 (dk h), fun h => H.x0 (df h), fun h => H.x1 (dk h), fun h => H.x7 (df h), fun h => by have := H.z13 (dk h); simp [this], fun h => by have := H.z6 (dk h); simp [this], fun h => by have := H.z7 (dk h); simp [this], fun h => by have := H.z9 (dk h); simp [this]⟩⟩
                · rintro d a w' hd hdep ⟨v7, v27, v28, v29, v30, v31, v32, v33, v34, v35, v36, v37, v38, v39, rfl, H⟩ K hK
                  clear hdep
                  go_simp
                  have hg : Below w'.heap.size w' w' := Below.refl _ _
                  exact hK _ _ ⟨_, _, _, _, _, _, _, _, _, _, _, _, _, _, rfl, ⟨H.chg.trans (hg.mono (Nat.zero_le _)), fun h => H.p0 (dk h), fun h => H.p1 (dk h), fun h => H.p2 (dk h), fun h => H.p3 (dk h), fun _ => rfl, fun h => H.p5 (dk h), fun h => H.p6 (dk h), fun h => H.p7 (dk h), fun h => H.p8 (dk h), fun h => H.p9 (dk h), fun h => H.p10 (dk h), fun h => H.p11 (dk h), fun h => H.p12 (dk h), fun h => H.p13 (dk h), fun h => H.x0 (df h), fun h => H.x1 (dk h), fun h => H.x7 (df h), fun h => by have := H.z13 (dk h); simp [this], fun h => by have := H.z6 (dk h); simp [this], fun h => by have := H.z7 (dk h); simp [this], fun h => by have := H.z9 (dk h); simp [this]⟩⟩
                · rintro d a w' hd hdep ⟨v7, v27, v28, v29, v30, v31, v32, v33, v34, v35, v36, v37, v38, v39, rfl, H⟩ K hK
                  have d4 : d 4 = true := hdep ⟨4, .data⟩ (by simp) rfl
                  clear hdep
                  have e4 := H.p4 d4
                  subst e4
                  go_simp
                  have hg : Below w'.heap.size w' w' := Below.refl _ _
                  exact hK _ _ ⟨_, _, _, _, _, _, _, _, _, _, _, _, _, _, rfl, ⟨H.chg.trans (hg.mono (Nat.zero_le _)), fun h => H.p0 (dk h), fun h => H.p1 (dk h), fun h => H.p2 (dk h), fun h => H.p3 (dk h), fun h => H.p4 (dk h), fun _ => rfl, fun h => H.p6 (dk h), fun h => H.p7 (dk h), fun h => H.p8 (dk h), fun h => H.p9 (dk h), fun h => H.p10 (dk h), fun h => H.p11 (dk h), fun h => H.p12 (dk h), fun h => H.p13 (dk h), fun h => H.x0 (df h), fun h => H.x1 (dk h), fun h => H.x7 (df h), fun h => by have := H.z13 (dk h); simp [this], fun h => by have := H.z6 (dk h); simp [this], fun h => by have := H.z7 (dk h); simp [this], fun h => by have := H.z9 (dk h); simp [this]⟩⟩
                · rintro d a w' hd hdep ⟨v7, v27, v28, v29, v30, v31, v32, v33, v34, v35, v36, v37, v38, v39, rfl, H⟩ K hK
                  have d3 : d 3 = true := hdep ⟨3, .data⟩ (by simp) rfl
                  have d5 : d 5 = true := hdep ⟨5, .data⟩ (by simp) rfl
                  clear hdep
                  have e3 := H.p3 d3
                  subst e3
                  have e5 := H.p5 d5
                  subst e5
                  go_simp
                  have hg : Below w'.heap.size w' w' := Below.refl _ _
                  exact hK _ _ ⟨_, _, _, _, _, _, _, _, _, _, _, _, _, _, rfl, ⟨H.chg.trans (hg.mono (Nat.zero_le _)), fun h => H.p0 (dk h), fun h => H.p1 (dk h), fun h => H.p2 (dk h), fun h => H.p3 (dk h), fun h => H.p4 (dk h), fun h => H.p5 (dk h), fun _ => rfl, fun h => H.p7 (dk h), fun h => H.p8 (dk h), fun h => H.p9 (dk h), fun h => H.p10 (dk h), fun h => H.p11 (dk h), fun h => H.p12 (dk h), fun h => H.p13 (dk h), fun h => H.x0 (df h), fun h => H.x1 (dk h), fun h => H.x7 (df h), fun h => by have := H.z13 (dk h); simp [this], fun _ => by simp [d3], fun h => by have := H.z7 (dk h); simp [this], fun h => by have := H.z9 (dk h); simp [this]⟩⟩
                · rintro d a w' hd hdep ⟨v7, v27, v28, v29, v30, v31, v32, v33, v34, v35, v36, v37, v38, v39, rfl, H⟩ K hK
                  have d6 : d 6 = true := hdep ⟨6, .data⟩ (by simp) rfl
                  clear hdep
                  have e6 := H.p6 d6
                  subst e6
                  have hB9 := H.x0 (Bool.eq_false_iff.2 (fun h9 => by have := H.z9 h9; simp [hd] at this))
                  obtain ⟨f1, f2, f3, f4, f5, f6, f7, f8⟩ := HF.out _ hB9
                  go_simp
                  have hg : Below w'.heap.size w' w' := Below.refl _ _
                  exact hK _ _ ⟨_, _, _, _, _, _, _, _, _, _, _, _, _, _, rfl, ⟨H.chg.trans (hg.mono (Nat.zero_le _)), fun h => H.p0 (dk h), fun h => H.p1 (dk h), fun h => H.p2 (dk h), fun h => H.p3 (dk h), fun h => H.p4 (dk h), fun h => H.p5 (dk h), fun h => H.p6 (dk h), fun _ => rfl, fun h => H.p8 (dk h), fun h => H.p9 (dk h), fun h => H.p10 (dk h), fun h => H.p11 (dk h), fun h => H.p12 (dk h), fun h => H.p13 (dk h), fun h => H.x0 (df h), fun h => H.x1 (dk h), fun h => H.x7 (df h), fun h => by have := H.z13 (dk h); simp [this], fun h => by have := H.z6 (dk h); simp [this], fun _ => by have := H.z6 d6; simp [this], fun h => by have := H.z9 (dk h); simp [this]⟩⟩
                · rintro d a w' hd hdep ⟨v7, v27, v28, v29, v30, v31, v32, v33, v34, v35, v36, v37, v38, v39, rfl, H⟩ K hK
                  clear hdep
                  have hB9 := H.x0 (Bool.eq_false_iff.2 (fun h9 => by have := H.z9 h9; simp [hd] at this))
                  obtain ⟨f1, f2, f3, f4, f5, f6, f7, f8⟩ := HF.out _ hB9
                  go_simp
                  have hg : Below w'.heap.size w' w' := Below.refl _ _
                  exact hK _ _ ⟨_, _, _, _, _, _, _, _, _, _, _, _, _, _, rfl, ⟨H.chg.trans (hg.mono (Nat.zero_le _)), fun h => H.p0 (dk h), fun h => H.p1 (dk h), fun h => H.p2 (dk h), fun h => H.p3 (dk h), fun h => H.p4 (dk h), fun h => H.p5 (dk h), fun h => H.p6 (dk h), fun h => H.p7 (dk h), fun _ => rfl, fun h => H.p9 (dk h), fun h => H.p10 (dk h), fun h => H.p11 (dk h), fun h => H.p12 (dk h), fun h => H.p13 (dk h), fun h => H.x0 (df h), fun h => H.x1 (dk h), fun h => H.x7 (df h), fun h => by have := H.z13 (dk h); simp [this], fun h => by have := H.z6 (dk h); simp [this], fun h => by have := H.z7 (dk h); simp [this], fun h => by have := H.z9 (dk h); simp [this]⟩⟩
                · rintro d a w' hd hdep ⟨v7, v27, v28, v29, v30, v31, v32, v33, v34, v35, v36, v37, v38, v39, rfl, H⟩ K hK
                  have d7 : d 7 = true := hdep ⟨7, .data⟩ (by simp) rfl
                  have d8 : d 8 = true := hdep ⟨8, .data⟩ (by simp) rfl
                  clear hdep
                  have e7 := H.p7 d7
                  subst e7
                  have e8 := H.p8 d8
                  subst e8
                  have hB9 := H.x0 hd
                  go_simp
                  go_at_call 62
                  refine (HADD.out _ hB9).mono ?_
                  rintro e w'' ⟨rfl, hpo, hgc⟩
                  have hg : Below 0 w' w'' := ⟨hgc.os, hgc.tape, hgc.output, hgc.size, fun k hk => absurd hk (Nat.not_lt_zero k)⟩
                  exact hK _ _ ⟨_, _, _, _, _, _, _, _, _, _, _, _, _, _, rfl, ⟨H.chg.trans (hg.mono (Nat.zero_le _)), fun h => H.p0 (dk h), fun h => H.p1 (dk h), fun h => H.p2 (dk h), fun h => H.p3 (dk h), fun h => H.p4 (dk h), fun h => H.p5 (dk h), fun h => H.p6 (dk h), fun h => H.p7 (dk h), fun h => H.p8 (dk h), fun _ => rfl, fun h => H.p10 (dk h), fun h => H.p11 (dk h), fun h => H.p12 (dk h), fun h => H.p13 (dk h), fun h => absurd h (by simp), fun _ => hpo, fun h => H.x7 (df h), fun h => by have := H.z13 (dk h); simp [this], fun h => by have := H.z6 (dk h); simp [this], fun h => by have := H.z7 (dk h); simp [this], fun _ => by have h1 := H.z7 d7; simp [h1, d7, d8]⟩⟩
                · rintro d a w' hd hdep ⟨v7, v27, v28, v29, v30, v31, v32, v33, v34, v35, v36, v37, v38, v39, rfl, H⟩ K hK
                  have d9 : d 9 = true := hdep ⟨9, .data⟩ (by simp) rfl
                  clear hdep
                  have e9 := H.p9 d9
                  subst e9
                  go_simp
                  have hg : Below w'.heap.size w' w' := Below.refl _ _
                  exact hK _ _ ⟨_, _, _, _, _, _, _, _, _, _, _, _, _, _, rfl, ⟨H.chg.trans (hg.mono (Nat.zero_le _)), fun h => H.p0 (dk h), fun h => H.p1 (dk h), fun h => H.p2 (dk h), fun h => H.p3 (dk h), fun h => H.p4 (dk h), fun h => H.p5 (dk h), fun h => H.p6 (dk h), fun h => H.p7 (dk h), fun h => H.p8 (dk h), fun h => H.p9 (dk h), fun _ => rfl, fun h => H.p11 (dk h), fun h => H.p12 (dk h), fun h => H.p13 (dk h), fun h => H.x0 (df h), fun h => H.x1 (dk h), fun h => H.x7 (df h), fun h => by have := H.z13 (dk h); simp [this], fun h => by have := H.z6 (dk h); simp [this], fun h => by have := H.z7 (dk h); simp [this], fun h => by have := H.z9 (dk h); simp [this]⟩⟩
                · rintro d a w' hd hdep ⟨v7, v27, v28, v29, v30, v31, v32, v33, v34, v35, v36, v37, v38, v39, rfl, H⟩ K hK
                  have d10 : d 10 = true := hdep ⟨10, .guard⟩ (by simp) rfl
                  clear hdep
                  have e10 := H.p10 d10
                  subst e10
                  have e7 := H.x7 (Bool.eq_false_iff.2 (fun h9 => by have := H.z13 h9; simp [hd] at this))
                  subst e7
                  go_simp
                  have hg : Below w'.heap.size w' w' := Below.refl _ _
                  exact hK _ _ ⟨_, _, _, _, _, _, _, _, _, _, _, _, _, _, rfl, ⟨H.chg.trans (hg.mono (Nat.zero_le _)), fun h => H.p0 (dk h), fun h => H.p1 (dk h), fun h => H.p2 (dk h), fun h => H.p3 (dk h), fun h => H.p4 (dk h), fun h => H.p5 (dk h), fun h => H.p6 (dk h), fun h => H.p7 (dk h), fun h => H.p8 (dk h), fun h => H.p9 (dk h), fun h => H.p10 (dk h), fun _ => rfl, fun h => H.p12 (dk h), fun h => H.p13 (dk h), fun h => H.x0 (df h), fun h => H.x1 (dk h), fun h => H.x7 (df h), fun h => by have := H.z13 (dk h); simp [this], fun h => by have := H.z6 (dk h); simp [this], fun h => by have := H.z7 (dk h); simp [this], fun h => by have := H.z9 (dk h); simp [this]⟩⟩
                · rintro d a w' hd hdep ⟨v7, v27, v28, v29, v30, v31, v32, v33, v34, v35, v36, v37, v38, v39, rfl, H⟩ K hK
                  have d10 : d 10 = true := hdep ⟨10, .data⟩ (by simp) rfl
                  have d11 : d 11 = true := hdep ⟨11, .data⟩ (by simp) rfl
                  clear hdep
                  have e10 := H.p10 d10
                  subst e10
                  have e11 := H.p11 d11
                  subst e11
                  go_simp
                  have hg : Below w'.heap.size w' w' := Below.refl _ _
                  exact hK _ _ ⟨_, _, _, _, _, _, _, _, _, _, _, _, _, _, rfl, ⟨H.chg.trans (hg.mono (Nat.zero_le _)), fun h => H.p0 (dk h), fun h => H.p1 (dk h), fun h => H.p2 (dk h), fun h => H.p3 (dk h), fun h => H.p4 (dk h), fun h => H.p5 (dk h), fun h => H.p6 (dk h), fun h => H.p7 (dk h), fun h => H.p8 (dk h), fun h => H.p9 (dk h), fun h => H.p10 (dk h), fun h => H.p11 (dk h), fun _ => rfl, fun h => H.p13 (dk h), fun h => H.x0 (df h), fun h => H.x1 (dk h), fun h => H.x7 (df h), fun h => by have := H.z13 (dk h); simp [this], fun h => by have := H.z6 (dk h); simp [this], fun h => by have := H.z7 (dk h); simp [this], fun h => by have := H.z9 (dk h); simp [this]⟩⟩
                · rintro d a w' hd hdep ⟨v7, v27, v28, v29, v30, v31, v32, v33, v34, v35, v36, v37, v38, v39, rfl, H⟩ K hK
                  have d12 : d 12 = true := hdep ⟨12, .data⟩ (by simp) rfl
                  have d11 : d 11 = true := hdep ⟨11, .phase⟩ (by simp) rfl
                  clear hdep
                  have e12 := H.p12 d12
                  subst e12
                  go_simp
                  have hg : Below w'.heap.size w' w' := Below.refl _ _
                  exact hK _ _ ⟨_, _, _, _, _, _, _, _, _, _, _, _, _, _, rfl, ⟨H.chg.trans (hg.mono (Nat.zero_le _)), fun h => H.p0 (dk h), fun h => H.p1 (dk h), fun h => H.p2 (dk h), fun h => H.p3 (dk h), fun h => H.p4 (dk h), fun h => H.p5 (dk h), fun h => H.p6 (dk h), fun h => H.p7 (dk h), fun h => H.p8 (dk h), fun h => H.p9 (dk h), fun h => H.p10 (dk h), fun h => H.p11 (dk h), fun h => H.p12 (dk h), fun _ => rfl, fun h => H.x0 (df h), fun h => H.x1 (dk h), fun h => absurd h (by simp), fun _ => by simp [d11], fun h => by have := H.z6 (dk h); simp [this], fun h => by have := H.z7 (dk h); simp [this], fun h => by have := H.z9 (dk h); simp [this]⟩⟩
              · rintro d a w' hall ⟨v7, v27, v28, v29, v30, v31, v32, v33, v34, v35, v36, v37, v38, v39, rfl, H⟩
                have e13 := H.p13 (hall 13 (by decide))
                subst e13
                have hx1 := H.x1 (hall 9 (by decide))
                rw [HPo.out] at hx1
                have HX1 := Lib.hid hx1
                clear H hall hx1
                go_wp2
                refine ⟨⟨k + 1, addA a' i ⟨y0, y1, y2, y3, y4⟩, ch, by go_num, rfl, by omega, HX1.out.1, HG.out.trans ((Chg.of_pure HBz.out).trans HX1.out.2), ?_, ?_⟩, by simp [intOf]; omega⟩
                · have := HI.out.trans (inc_add (a := a') (i := i) (by have := HR.out.gat.len; omega) ⟨y0, y1, y2, y3, y4⟩)
                  simpa [hin] using this
                · exact grow_take Hx.out HX.out Hy.out (by have := HR.out.gat.len; omega)
            · clear hkn
              have HADD := Lib.hid (show ∀ w', Below wz.heap.size wz w' → Calls Tryz.prog 62 #[.pointer (some ⟨sp i, 0, none⟩), .agg #[.int .i64 y0, .int .i64 y1, .bool y2, .bool y3, .bool y4]] w' fun e w'' => e = .returned (.bool true) ∧ Po w'' ∧ Chg (Mp ts.length bp) w' w'' from fun w' h => by
                refine (rchAdd_c (r := ⟨y0, y1, y2, y3, y4⟩) (HRz.out.pure h) hi hgy).mono ?_
                rintro e w'' ⟨rfl, h1, h2⟩
                exact ⟨by simp [hin], by rw [HPo.out]; exact ⟨h1, (Chg.of_pure h).trans h2⟩, h2⟩)
              refine wp_region_invB (fun d a w' => ∃ v7 v27 v28 v29 v30 v31 v32 v33 v34 v35 v36 v37 v38 v39, a = { tmps := #[.pointer (some ⟨R, 0, none⟩), .int .i64 ((i : Int) + 1), .agg #[.int .i64 ((j : Int) + 1), .int .i64 b1, .bool true, .bool b3, .bool b4], undef, undef, .pointer (some ⟨w.heap.size, 0, none⟩), .bool false, v7, undef, .pointer (some ⟨wr.heap.size, 0, none⟩), undef, undef, .pointer (some ⟨w.heap.size, 2, none⟩), .bool true, .pointer (some ⟨R, 0, none⟩), .pointer (some ⟨w.heap.size, 0, none⟩), .int .i64 ((j : Int) + 1), .slice (some ⟨lb, lo, none⟩) L.length c, .int .i64 (L.length : Int), .int .i64 (k : Int), u20, u21, u22, u23, u24, u25, u26, v27, v28, v29, v30, v31, v32, v33, v34, v35, v36, v37, v38, v39, u40, undef, undef, undef, undef, undef, undef, undef, undef, undef, undef, undef, undef, undef, undef, undef, undef, undef, undef, undef, undef, undef, undef, undef, undef, undef, undef], defers := [] } ∧ ExA0 R H hc ts.length i (sp i) wr.heap.size ((i : Int) + 1) y0 y1 y2 y3 y4 ch Po wz d w' v7 v27 v28 v29 v30 v31 v32 v33 v34 v35 v36 v37 v38 v39) (by kernel_rfl) (by kernel_rfl) ?_ ?_ ?_
              · refine ⟨_, _, _, _, _, _, _, _, _, _, _, _, _, _, rfl, ?_⟩
                constructor
                · exact Below.drew (Below.refl _ _)
                · intro hj; exact absurd hj (by decide)
                · intro hj; exact absurd hj (by decide)
                · intro hj; exact absurd hj (by decide)
                · intro hj; exact absurd hj (by decide)
                · intro hj; exact absurd hj (by decide)
                · intro hj; exact absurd hj (by decide)
                · intro hj; exact absurd hj (by decide)
                · intro hj; exact absurd hj (by decide)
                · intro hj; exact absurd hj (by decide)
                · intro hj; exact absurd hj (by decide)
                · intro hj; exact absurd hj (by decide)
                · intro hj; exact absurd hj (by decide)
                · intro hj; exact absurd hj (by decide)
                · exact fun _ => Below.drew (Below.refl _ _)
                · exact fun h => absurd h (by decide)
                · exact fun _ => rfl
                · exact fun h => absurd h (by decide)
                · exact fun h => absurd h (by decide)
                · exact fun h => absurd h (by decide)
                · exact fun h => absurd h (by decide)
              · refine ⟨?_, ?_, ?_, ?_, ?_, ?_, ?_, ?_, ?_, ?_, ?_, ?_, ?_, ?_, trivial⟩
                · rintro d a w' hd hdep ⟨v7, v27, v28, v29, v30, v31, v32, v33, v34, v35, v36, v37, v38, v39, rfl, H⟩ K hK
                  clear hdep
                  go_simp
                  have hg : Below w'.heap.size w' w' := Below.refl _ _
                  exact hK _ _ ⟨_, _, _, _, _, _, _, _, _, _, _, _, _, _, rfl, ⟨H.chg.trans (hg.mono (Nat.zero_le _)), fun _ => rfl, fun h => H.p1 (dk h), fun h => H.p2 (dk h), fun h => H.p3 (dk h), fun h => H.p4 (dk h), fun h => H.p5 (dk h), fun h => H.p6 (dk h), fun h => H.p7 (dk h), fun h => H.p8 (dk h), fun h => H.p9 (dk h), fun h => H.p10 (dk h), fun h => H.p12 (dk h), fun h => H.p13 (dk h), fun h => H.x0 (df h), fun h => H.x1 (dk h), fun h => H.x7 (df h), fun h => by have := H.z13 (dk h); simp [this], fun h => by have := H.z6 (dk h); simp [this], fun h => by have := H.z7 (dk h); simp [this], fun h => by have := H.z9 (dk h); simp [this]⟩⟩
                · rintro d a w' hd hdep ⟨v7, v27, v28, v29, v30, v31, v32, v33, v34, v35, v36, v37, v38, v39, rfl, H⟩ K hK
                  have d0 : d 0 = true := hdep ⟨0, .data⟩ (by simp) rfl
                  clear hdep
                  have e0 := H.p0 d0
                  subst e0
                  go_simp
                  have hg : Below w'.heap.size w' w' := Below.refl _ _
                  exact hK _ _ ⟨_, _, _, _, _, _, _, _, _, _, _, _, _, _, rfl, ⟨H.chg.trans (hg.mono (Nat.zero_le _)), fun h => H.p0 (dk h), fun _ => rfl, fun h => H.p2 (dk h), fun h => H.p3 (dk h), fun h => H.p4 (dk h), fun h => H.p5 (dk h), fun h => H.p6 (dk h), fun h => H.p7 (dk h), fun h => H.p8 (dk h), fun h => H.p9 (dk h), fun h => H.p10 (dk h), fun h => H.p12 (dk h), fun h => H.p13 (dk h), fun h => H.x0 (df h), fun h => H.x1 (dk h), fun h => H.x7 (df h), fun h => by have := H.z13 (dk h); simp [this], fun h => by have := H.z6 (dk h); simp [this], fun h => by have := H.z7 (dk h); simp [this], fun h => by have := H.z9 (dk h); simp [this]⟩⟩
                · rintro d a w' hd hdep ⟨v7, v27, v28, v29, v30, v31, v32, v33, v34, v35, v36, v37, v38, v39, rfl, H⟩ K hK
                  have d1 : d 1 = true := hdep ⟨1, .data⟩ (by simp) rfl
                  clear hdep
                  have e1 := H.p1 d1
                  subst e1
                  go_simp
                  have hg : Below w'.heap.size w' w' := Below.refl _ _
                  exact hK _ _ ⟨_, _, _, _, _, _, _, _, _, _, _, _, _, _, rfl, ⟨H.chg.trans (hg.mono (Nat.zero_le _)), fun h => H.p0 (dk h), fun h => H.p1 (dk h), fun _ => rfl, fun h => H.p3 (dk h), fun h => H.p4 (dk h), fun h => H.p5 (dk h), fun h => H.p6 (dk h), fun h => H.p7 (dk h), fun h => H.p8 (dk h), fun h => H.p9 (dk h), fun h => H.p10 (dk h), fun h => H.p12 (dk h), fun h => H.p13 (dk h), fun h => H.x0 (df h), fun h => H.x1 (dk h), fun h => H.x7 (df h), fun h => by have := H.z13 (dk h); simp [this], fun h => by have := H.z6 (dk h); simp [this], fun h => by have := H.z7 (dk h); simp [this], fun h => by have := H.z9 (dk h); simp [this]⟩⟩
                · rintro d a w' hd hdep ⟨v7, v27, v28, v29, v30, v31, v32, v33, v34, v35, v36, v37, v38, v39, rfl, H⟩ K hK
                  have d2 : d 2 = true := hdep ⟨2, .data⟩ (by simp) rfl
                  clear hdep
                  have e2 := H.p2 d2
                  subst e2
                  have hB9 := H.x0 (Bool.eq_false_iff.2 (fun h9 => by have := H.z9 h9; simp [hd] at this))
                  obtain ⟨f1, f2, f3, f4, f5, f6, f7, f8⟩ := HF.out _ hB9
                  go_simp
                  have hg : Below w'.heap.size w' w' := Below.refl _ _
                  exact hK _ _ ⟨_, _, _, _, _, _, _, _, _, _, _, _, _, _, rfl, ⟨H.chg.trans (hg.mono (Nat.zero_le _)), fun h => H.p0 (dk h), fun h => H.p1 (dk h), fun h => H.p2 (dk h), fun _ => rfl, fun h => H.p4 (dk h), fun h => H.p5 (dk h), fun h => H.p6 (dk h), fun h => H.p7 (dk h), fun h => H.p8 (dk h), fun h => H.p9 (dk h), fun h => H.p10 (dk h), fun h => H.p12 (dk h), fun h => H.p13 (dk h), fun h => H.x0 (df h), fun h => H.x1 (dk h), fun h => H.x7 (df h), fun h => by have := H.z13 (dk h); simp [this], fun h => by have := H.z6 (dk h); simp [this], fun h => by have := H.z7 (dk h); simp [this], fun h => by have := H.z9 (dk h); simp [this]⟩⟩
                · rintro d a w' hd hdep ⟨v7, v27, v28, v29, v30, v31, v32, v33, v34, v35, v36, v37, v38, v39, rfl, H⟩ K hK
                  clear hdep
                  go_simp
                  have hg : Below w'.heap.size w' w' := Below.refl _ _
                  exact hK _ _ ⟨_, _, _, _, _, _, _, _, _, _, _, _, _, _, rfl, ⟨H.chg.trans (hg.mono (Nat.zero_le _)), fun h => H.p0 (dk h), fun h => H.p1 (dk h), fun h => H.p2 (dk h), fun h => H.p3 (dk h), fun _ => rfl, fun h => H.p5 (dk h), fun h => H.p6 (dk h), fun h => H.p7 (dk h), fun h => H.p8 (dk h), fun h => H.p9 (dk h), fun h => H.p10 (dk h), fun h => H.p12 (dk h), fun h => H.p13 (dk h), fun h => H.x0 (df h), fun h => H.x1 (dk h), fun h => H.x7 (df h), fun h => by have := H.z13 (dk h); simp [this], fun h => by have := H.z6 (dk h); simp [this], fun h => by have := H.z7 (dk h); simp [this], fun h => by have := H.z9 (dk h); simp [this]⟩⟩
                · rintro d a w' hd hdep ⟨v7, v27, v28, v29, v30, v31, v32, v33, v34, v35, v36, v37, v38, v39, rfl, H⟩ K hK
                  have d4 : d 4 = true := hdep ⟨4, .data⟩ (by simp) rfl
                  clear hdep
                  have e4 := H.p4 d4
                  subst e4
                  go_simp
                  have hg : Below w'.heap.size w' w' := Below.refl _ _
                  exact hK _ _ ⟨_, _, _, _, _, _, _, _, _, _, _, _, _, _, rfl, ⟨H.chg.trans (hg.mono (Nat.zero_le _)), fun h => H.p0 (dk h), fun h => H.p1 (dk h), fun h => H.p2 (dk h), fun h => H.p3 (dk h), fun h => H.p4 (dk h), fun _ => rfl, fun h => H.p6 (dk h), fun h => H.p7 (dk h), fun h => H.p8 (dk h), fun h => H.p9 (dk h), fun h => H.p10 (dk h), fun h => H.p12 (dk h), fun h => H.p13 (dk h), fun h => H.x0 (df h), fun h => H.x1 (dk h), fun h => H.x7 (df h), fun h => by have := H.z13 (dk h); simp [this], fun h => by have := H.z6 (dk h); simp [this], fun h => by have := H.z7 (dk h); simp [this], fun h => by have := H.z9 (dk h); simp [this]⟩⟩
                · rintro d a w' hd hdep ⟨v7, v27, v28, v29, v30, v31, v32, v33, v34, v35, v36, v37, v38, v39, rfl, H⟩ K hK
                  have d3 : d 3 = true := hdep ⟨3, .data⟩ (by simp) rfl
                  have d5 : d 5 = true := hdep ⟨5, .data⟩ (by simp) rfl
                  clear hdep
                  have e3 := H.p3 d3
                  subst e3
                  have e5 := H.p5 d5
                  subst e5
                  go_simp
                  have hg : Below w'.heap.size w' w' := Below.refl _ _
                  exact hK _ _ ⟨_, _, _, _, _, _, _, _, _, _, _, _, _, _, rfl, ⟨H.chg.trans (hg.mono (Nat.zero_le _)), fun h => H.p0 (dk h), fun h => H.p1 (dk h), fun h => H.p2 (dk h), fun h => H.p3 (dk h), fun h => H.p4 (dk h), fun h => H.p5 (dk h), fun _ => rfl, fun h => H.p7 (dk h), fun h => H.p8 (dk h), fun h => H.p9 (dk h), fun h => H.p10 (dk h), fun h => H.p12 (dk h), fun h => H.p13 (dk h), fun h => H.x0 (df h), fun h => H.x1 (dk h), fun h => H.x7 (df h), fun h => by have := H.z13 (dk h); simp [this], fun _ => by simp [d3], fun h => by have := H.z7 (dk h); simp [this], fun h => by have := H.z9 (dk h); simp [this]⟩⟩
                · rintro d a w' hd hdep ⟨v7, v27, v28, v29, v30, v31, v32, v33, v34, v35, v36, v37, v38, v39, rfl, H⟩ K hK
                  have d6 : d 6 = true := hdep ⟨6, .data⟩ (by simp) rfl
                  clear hdep
                  have e6 := H.p6 d6
                  subst e6
                  have hB9 := H.x0 (Bool.eq_false_iff.2 (fun h9 => by have := H.z9 h9; simp [hd] at this))
                  obtain ⟨f1, f2, f3, f4, f5, f6, f7, f8⟩ := HF.out _ hB9
                  go_simp
                  have hg : Below w'.heap.size w' w' := Below.refl _ _
                  exact hK _ _ ⟨_, _, _, _, _, _, _, _, _, _, _, _, _, _, rfl, ⟨H.chg.trans (hg.mono (Nat.zero_le _)), fun h => H.p0 (dk h), fun h => H.p1 (dk h), fun h => H.p2 (dk h), fun h => H.p3 (dk h), fun h => H.p4 (dk h), fun h => H.p5 (dk h), fun h => H.p6 (dk h), fun _ => rfl, fun h => H.p8 (dk h), fun h => H.p9 (dk h), fun h => H.p10 (dk h), fun h => H.p12 (dk h), fun h => H.p13 (dk h), fun h => H.x0 (df h), fun h => H.x1 (dk h), fun h => H.x7 (df h), fun h => by have := H.z13 (dk h); simp [this], fun h => by have := H.z6 (dk h); simp [this], fun _ => by have := H.z6 d6; simp [this], fun h => by have := H.z9 (dk h); simp [this]⟩⟩
                · rintro d a w' hd hdep ⟨v7, v27, v28, v29, v30, v31, v32, v33, v34, v35, v36, v37, v38, v39, rfl, H⟩ K hK
                  clear hdep
                  have hB9 := H.x0 (Bool.eq_false_iff.2 (fun h9 => by have := H.z9 h9; simp [hd] at this))
                  obtain ⟨f1, f2, f3, f4, f5, f6, f7, f8⟩ := HF.out _ hB9
                  go_simp
                  have hg : Below w'.heap.size w' w' := Below.refl _ _
                  exact hK _ _ ⟨_, _, _, _, _, _, _, _, _, _, _, _, _, _, rfl, ⟨H.chg.trans (hg.mono (Nat.zero_le _)), fun h => H.p0 (dk h), fun h => H.p1 (dk h), fun h => H.p2 (dk h), fun h => H.p3 (dk h), fun h => H.p4 (dk h), fun h => H.p5 (dk h), fun h => H.p6 (dk h), fun h => H.p7 (dk h), fun _ => rfl, fun h => H.p9 (dk h), fun h => H.p10 (dk h), fun h => H.p12 (dk h), fun h => H.p13 (dk h), fun h => H.x0 (df h), fun h => H.x1 (dk h), fun h => H.x7 (df h), fun h => by have := H.z13 (dk h); simp [this], fun h => by have := H.z6 (dk h); simp [this], fun h => by have := H.z7 (dk h); simp [this], fun h => by have := H.z9 (dk h); simp [this]⟩⟩
                · rintro d a w' hd hdep ⟨v7, v27, v28, v29, v30, v31, v32, v33, v34, v35, v36, v37, v38, v39, rfl, H⟩ K hK
                  have d7 : d 7 = true := hdep ⟨7, .data⟩ (by simp) rfl
                  have d8 : d 8 = true := hdep ⟨8, .data⟩ (by simp) rfl
                  clear hdep
                  have e7 := H.p7 d7
                  subst e7
                  have e8 := H.p8 d8
                  subst e8
                  have hB9 := H.x0 hd
                  go_simp
                  go_at_call 62
                  refine (HADD.out _ hB9).mono ?_
                  rintro e w'' ⟨rfl, hpo, hgc⟩
                  have hg : Below 0 w' w'' := ⟨hgc.os, hgc.tape, hgc.output, hgc.size, fun k hk => absurd hk (Nat.not_lt_zero k)⟩
                  exact hK _ _ ⟨_, _, _, _, _, _, _, _, _, _, _, _, _, _, rfl, ⟨H.chg.trans (hg.mono (Nat.zero_le _)), fun h => H.p0 (dk h), fun h => H.p1 (dk h), fun h => H.p2 (dk h), fun h => H.p3 (dk h), fun h => H.p4 (dk h), fun h => H.p5 (dk h), fun h => H.p6 (dk h), fun h => H.p7 (dk h), fun h => H.p8 (dk h), fun _ => rfl, fun h => H.p10 (dk h), fun h => H.p12 (dk h), fun h => H.p13 (dk h), fun h => absurd h (by simp), fun _ => hpo, fun h => H.x7 (df h), fun h => by have := H.z13 (dk h); simp [this], fun h => by have := H.z6 (dk h); simp [this], fun h => by have := H.z7 (dk h); simp [this], fun _ => by have h1 := H.z7 d7; simp [h1, d7, d8]⟩⟩
                · rintro d a w' hd hdep ⟨v7, v27, v28, v29, v30, v31, v32, v33, v34, v35, v36, v37, v38, v39, rfl, H⟩ K hK
                  have d9 : d 9 = true := hdep ⟨9, .data⟩ (by simp) rfl
                  clear hdep
                  have e9 := H.p9 d9
                  subst e9
                  go_simp
                  have hg : Below w'.heap.size w' w' := Below.refl _ _
                  exact hK _ _ ⟨_, _, _, _, _, _, _, _, _, _, _, _, _, _, rfl, ⟨H.chg.trans (hg.mono (Nat.zero_le _)), fun h => H.p0 (dk h), fun h => H.p1 (dk h), fun h => H.p2 (dk h), fun h => H.p3 (dk h), fun h => H.p4 (dk h), fun h => H.p5 (dk h), fun h => H.p6 (dk h), fun h => H.p7 (dk h), fun h => H.p8 (dk h), fun h => H.p9 (dk h), fun _ => rfl, fun h => H.p12 (dk h), fun h => H.p13 (dk h), fun h => H.x0 (df h), fun h => H.x1 (dk h), fun h => H.x7 (df h), fun h => by have := H.z13 (dk h); simp [this], fun h => by have := H.z6 (dk h); simp [this], fun h => by have := H.z7 (dk h); simp [this], fun h => by have := H.z9 (dk h); simp [this]⟩⟩
                · rintro d a w' hd hdep ⟨v7, v27, v28, v29, v30, v31, v32, v33, v34, v35, v36, v37, v38, v39, rfl, H⟩ K hK
                  have d10 : d 10 = true := hdep ⟨10, .guard⟩ (by simp) rfl
                  clear hdep
                  have e10 := H.p10 d10
                  subst e10
                  go_simp
                  have hg : Below w'.heap.size w' w' := Below.refl _ _
                  exact hK _ _ ⟨_, _, _, _, _, _, _, _, _, _, _, _, _, _, rfl, ⟨H.chg.trans (hg.mono (Nat.zero_le _)), fun h => H.p0 (dk h), fun h => H.p1 (dk h), fun h => H.p2 (dk h), fun h => H.p3 (dk h), fun h => H.p4 (dk h), fun h => H.p5 (dk h), fun h => H.p6 (dk h), fun h => H.p7 (dk h), fun h => H.p8 (dk h), fun h => H.p9 (dk h), fun h => H.p10 (dk h), fun h => H.p12 (dk h), fun h => H.p13 (dk h), fun h => H.x0 (df h), fun h => H.x1 (dk h), fun h => H.x7 (df h), fun h => by have := H.z13 (dk h); simp [this], fun h => by have := H.z6 (dk h); simp [this], fun h => by have := H.z7 (dk h); simp [this], fun h => by have := H.z9 (dk h); simp [this]⟩⟩
                · rintro d a w' hd hdep ⟨v7, v27, v28, v29, v30, v31, v32, v33, v34, v35, v36, v37, v38, v39, rfl, H⟩ K hK
                  have d10 : d 10 = true := hdep ⟨10, .data⟩ (by simp) rfl
                  have d11 : d 11 = true := hdep ⟨11, .data⟩ (by simp) rfl
                  clear hdep
                  have e10 := H.p10 d10
                  subst e10
                  go_simp
                  have hg : Below w'.heap.size w' w' := Below.refl _ _
                  exact hK _ _ ⟨_, _, _, _, _, _, _, _, _, _, _, _, _, _, rfl, ⟨H.chg.trans (hg.mono (Nat.zero_le _)), fun h => H.p0 (dk h), fun h => H.p1 (dk h), fun h => H.p2 (dk h), fun h => H.p3 (dk h), fun h => H.p4 (dk h), fun h => H.p5 (dk h), fun h => H.p6 (dk h), fun h => H.p7 (dk h), fun h => H.p8 (dk h), fun h => H.p9 (dk h), fun h => H.p10 (dk h), fun _ => rfl, fun h => H.p13 (dk h), fun h => H.x0 (df h), fun h => H.x1 (dk h), fun h => H.x7 (df h), fun h => by have := H.z13 (dk h); simp [this], fun h => by have := H.z6 (dk h); simp [this], fun h => by have := H.z7 (dk h); simp [this], fun h => by have := H.z9 (dk h); simp [this]⟩⟩
                · rintro d a w' hd hdep ⟨v7, v27, v28, v29, v30, v31, v32, v33, v34, v35, v36, v37, v38, v39, rfl, H⟩ K hK
                  have d12 : d 12 = true := hdep ⟨12, .data⟩ (by simp) rfl
                  have d11 : d 11 = true := hdep ⟨11, .phase⟩ (by simp) rfl
                  clear hdep
                  have e12 := H.p12 d12
                  subst e12
                  go_simp
                  have hg : Below w'.heap.size w' w' := Below.refl _ _
                  exact hK _ _ ⟨_, _, _, _, _, _, _, _, _, _, _, _, _, _, rfl, ⟨H.chg.trans (hg.mono (Nat.zero_le _)), fun h => H.p0 (dk h), fun h => H.p1 (dk h), fun h => H.p2 (dk h), fun h => H.p3 (dk h), fun h => H.p4 (dk h), fun h => H.p5 (dk h), fun h => H.p6 (dk h), fun h => H.p7 (dk h), fun h => H.p8 (dk h), fun h => H.p9 (dk h), fun h => H.p10 (dk h), fun h => H.p12 (dk h), fun _ => rfl, fun h => H.x0 (df h), fun h => H.x1 (dk h), fun h => absurd h (by simp), fun _ => by simp [d11], fun h => by have := H.z6 (dk h); simp [this], fun h => by have := H.z7 (dk h); simp [this], fun h => by have := H.z9 (dk h); simp [this]⟩⟩
              · rintro d a w' hall ⟨v7, v27, v28, v29, v30, v31, v32, v33, v34, v35, v36, v37, v38, v39, rfl, H⟩
                have e13 := H.p13 (hall 13 (by decide))
                subst e13
                have hx1 := H.x1 (hall 9 (by decide))
                rw [HPo.out] at hx1
                have HX1 := Lib.hid hx1
                clear H hall hx1
                go_wp2
                refine ⟨⟨k + 1, addA a' i ⟨y0, y1, y2, y3, y4⟩, true, by go_num, rfl, by omega, HX1.out.1, HG.out.trans ((Chg.of_pure HBz.out).trans HX1.out.2), ?_, ?_⟩, by simp [intOf]; omega⟩
                · have := HI.out.trans (inc_add (a := a') (i := i) (by have := HR.out.gat.len; omega) ⟨y0, y1, y2, y3, y4⟩)
                  simpa [hin] using this
                · exact grow_take Hx.out HX.out Hy.out (by have := HR.out.gat.len; omega)
        · have hkn : ¬ (k : Int) < (L.length : Int) := by omega
          have hkl : k = L.length := by omega
          go_wp2
          go_meet
          refine ⟨a', ch, rfl, HR.out, (Chg.of_pure Hb1.out).trans HG.out, HI.out, fun _ x hx => HX.out x ?_⟩
          rw [hkl, List.take_length]; exact (HM.out x).2 hx
  case rest =>
    obtain ⟨a1, ch1, rfl, hR, hG, hI, hX⟩ := hcut
    obtain ⟨wv, rfl⟩ : ∃ x : World, x = wc := ⟨_, rfl⟩
    have hMw : ¬ Mp ts.length bp w.heap.size := fun h => by have := Mp.lt H0.out h; omega
    have g0 := hG.cell Gc.out.1 hMw
    have g1 := hG.cell Gc.out.2.1 hMw
    have g2 := hG.cell Gc.out.2.2.1 hMw
    have g3 := hG.cell Gc.out.2.2.2.1 hMw
    have g4 := hG.cell Gc.out.2.2.2.2 hMw
    have hzv : w.heap.size < wv.heap.size := Nat.lt_of_lt_of_le hza hG.size
    have HV := Lib.hid (show wv.cell? ⟨w.heap.size, 0, none⟩ = some (.int .i64 ((j : Int) + 1)) ∧ wv.cell? ⟨w.heap.size, 3, none⟩ = some (.bool b3) from ⟨g0, g3⟩)
    have HG0 := Lib.hid ((Chg.of_pure (S := Mp ts.length bp) HBa.out).trans hG)
    have HR1 := Lib.hid hR
    have HI1 := Lib.hid hI
    have HX1 := Lib.hid hX
    clear hR hG hI hX hMw
    cases b3
    · go_wp2
      go_ret
      refine ⟨a1, ch1, rfl, HR1.out, HG0.out, HI1.out, fun e _ _ => ⟨fun hrd x hx => ?_, fun e => by cases e⟩⟩
      have := HI1.out.same e
      subst this
      have hj' : ((j : Int) + 1 - 1).toNat = j := by omega
      rw [hj'] at hx
      exact HX1.out hrd x hx
    · have HRt := Lib.hid (rights_c HR1.out hi)
      go_wp2_with (first
        | (go_at_call 36; refine HRt.out.mono ?_; rintro e w1 ⟨q, c, L, rfl, hL, hO, hM, hW, hb1⟩))
      have hR2 := HR1.out.pure hb1
      have hlen : L.length ≤ maxLen := by
        obtain ⟨p', c', e, h1, h2⟩ := hL.len
        omega
      have HL := Lib.hid hL
      have HM := Lib.hid hM
      have HW := Lib.hid hW
      have Hb1 := Lib.hid hb1
      have HR2 := Lib.hid hR2
      have hz1 := hb1.size
      unfold maxLen at hlen
      clear hL hO hM hW hb1 hR2 g0 g1 g2 g3 g4
      go_loopw [47, 7] (fun s47 s7 wr => ∃ (k : Nat) (a' : List (List Rgt)) (ch : Bool), s47 = .int .i64 (k : Int) ∧ s7 = .bool ch ∧ k ≤ L.length ∧ RchAt w0 wr R H hc p cap ts sp bp a' ∧ Chg (Mp ts.length bp) w1 wr ∧ Inc a a' ch ∧ (∀ n r, r ∈ rowA a1 n → r ∈ rowA a' n) ∧ ∀ x ∈ L.take k, x ∈ rowA a' j) (fun s47 _ _ => L.length - (intOf s47).toNat)
      case atStart => exact ⟨0, a1, ch1, rfl, rfl, by omega, HR2.out, Chg.refl _ _, HI1.out, fun _ _ h => h, fun x hx => by simp at hx⟩
      case round =>
        obtain ⟨k, a', ch, rfl, rfl, hk, hR, hG, hI, hS, hX⟩ := hrel
        have HR := Lib.hid hR
        have HG := Lib.hid hG
        have HI := Lib.hid hI
        have HS := Lib.hid hS
        have HX := Lib.hid hX
        clear hR hG hI hS hX
        by_cases hlt : k < L.length
        · have hk0 : (0 : Int) ≤ (k : Int) := by omega
          have hkn : (k : Int) < (L.length : Int) := by omega
          obtain ⟨x, hx⟩ : ∃ x, L[k]? = some x := ⟨_, List.getElem?_eq_getElem hlt⟩
          have Hx := Lib.hid hx
          obtain ⟨lb, lo, rfl, hlb, c0, c1, c2, c3, c4⟩ := (listed_keep HR1.out HL.out HW.out HG.out).at k x hx
          have hMw : ¬ Mp ts.length bp w.heap.size := fun h => by have := Mp.lt H0.out h; omega
          have hzr := HG.out.size
          have hzw : w.heap.size < wr.heap.size := by omega
          have hgy : Got ts ((j : Int) + 1) x := Got.store Hk.out Hb.out Hn.out Hl.out rfl (HR1.out.gat.got i _ ((HM.out _).1 (List.mem_of_getElem? Hx.out)))
          have gk := HG.out.cell ((Hb1.out.cell hzv).trans HV.out.1) hMw
          have Gk := Lib.hid gk
          clear hx hMw gk
          obtain ⟨y0, y1, y2, y3, y4⟩ := x
          dsimp only at c0 c1 c2 c3 c4
          go_upto_region 14 with (fail)
          generalize hwz : World.alloc _ _ = wz
          have hBz : Below wr.heap.size wr wz := by rw [← hwz]; exact (by (repeat (with_reducible first | exact Below.refl _ _ | refine Below.alloc ?_ ?_ _ | refine below_drewN ?_ _ | refine Below.drew ?_ | refine Below.setCell ?_ ?_ _ | refine Below.trans ?_ (Below.mono (by assumption) ?_))) <;> (first | omega | (simp; try omega)))
          have hzz : wr.heap.size < wz.heap.size := by rw [← hwz]; simp
          have hcz : wz.cell? ⟨wr.heap.size, 0, none⟩ = some (.int .i64 y0) ∧ wz.cell? ⟨wr.heap.size, 1, none⟩ = some (.int .i64 y1) ∧ wz.cell? ⟨wr.heap.size, 2, none⟩ = some (.bool y2) ∧ wz.cell? ⟨wr.heap.size, 3, none⟩ = some (.bool y3) ∧ wz.cell? ⟨wr.heap.size, 4, none⟩ = some (.bool y4) := by rw [← hwz]; simp [go_sem]
          have gk := (hBz.cell hzw).trans Gk.out
          have HRz := Lib.hid (HR.out.pure hBz)
          have HBz := Lib.hid hBz
          have hw1 := wrap1 (i := j) (by have := HRz.out.len8.2; omega)
          have hw2 : IntKind.i64.wrap (j : Int) = (j : Int) := IntWalk.i64_in _ (by have := HRz.out.len8.2; omega)
          have hi0 : (0 : Int) ≤ (j : Int) := by omega
          have hiu : (j : Int) < (ts.length : Int) := by omega
          have hzw' : w.heap.size < wz.heap.size := by have := hBz.size; omega
          clear hwz hBz c0 c1 c2 c3 c4
          have HF := Lib.hid (show ∀ w', Below wz.heap.size wz w' → (w'.cell? ⟨R, 1, none⟩ = some (.slice (some ⟨H, 0, none⟩) ts.length hc) ∧ w'.cell? ⟨H, j, none⟩ = some (.pointer (some ⟨sp j, 0, none⟩)) ∧ w'.cell? ⟨wr.heap.size, 0, none⟩ = some (.int .i64 y0) ∧ w'.cell? ⟨wr.heap.size, 1, none⟩ = some (.int .i64 y1) ∧ w'.cell? ⟨wr.heap.size, 2, none⟩ = some (.bool y2) ∧ w'.cell? ⟨wr.heap.size, 3, none⟩ = some (.bool y3) ∧ w'.cell? ⟨wr.heap.size, 4, none⟩ = some (.bool y4) ∧ w'.cell? ⟨w.heap.size, 0, none⟩ = some (.int .i64 ((j : Int) + 1))) from fun w' h =>
            ⟨(h.cell (cell_lt HRz.out.held)).trans HRz.out.held, (h.cell (cell_lt (HRz.out.ptr j hj))).trans (HRz.out.ptr j hj), (h.cell hzz).trans hcz.1, (h.cell hzz).trans hcz.2.1, (h.cell hzz).trans hcz.2.2.1, (h.cell hzz).trans hcz.2.2.2.1, (h.cell hzz).trans hcz.2.2.2.2, (h.cell hzw').trans gk⟩)
          obtain ⟨Po, hPo⟩ : ∃ Po : World → Prop, Po = fun x => RchAt w0 x R H hc p cap ts sp bp (addA a' j ⟨y0, y1, y2, y3, y4⟩) ∧ Chg (Mp ts.length bp) wz x := ⟨_, rfl⟩
          have HPo := Lib.hid hPo
          clear hPo gk hcz
          by_cases hin : (⟨y0, y1, y2, y3, y4⟩ : Rgt) ∈ rowA a' j
          · clear hkn
            have HADD := Lib.hid (show ∀ w', Below wz.heap.size wz w' → Calls Tryz.prog 62 #[.pointer (some ⟨sp j, 0, none⟩), .agg #[.int .i64 y0, .int .i64 y1, .bool y2, .bool y3, .bool y4]] w' fun e w'' => e = .returned (.bool false) ∧ Po w'' ∧ Chg (Mp ts.length bp) w' w'' from fun w' h => by
              refine (rchAdd_c (r := ⟨y0, y1, y2, y3, y4⟩) (HRz.out.pure h) hj hgy).mono ?_
              rintro e w'' ⟨rfl, h1, h2⟩
              exact ⟨by simp [hin], by rw [HPo.out]; exact ⟨h1, (Chg.of_pure h).trans h2⟩, h2⟩)
            refine wp_region_invB (fun d a w' => ∃ v7 v51 v52 v53 v54 v55 v56 v57 v58 v59 v60 v61 v62 v63 v64, a = { tmps := #[.pointer (some ⟨R, 0, none⟩), .int .i64 ((i : Int) + 1), .agg #[.int .i64 ((j : Int) + 1), .int .i64 b1, .bool b2, .bool true, .bool b4], undef, undef, .pointer (some ⟨w.heap.size, 0, none⟩), .bool false, v7, undef, u9, undef, .pointer (some ⟨wr.heap.size, 0, none⟩), u12, u13, u14, u15, u16, u17, u18, u19, u20, u21, u22, u23, u24, u25, u26, u27, u28, u29, u30, u31, u32, u33, u34, u35, u36, u37, u38, u39, u40, .pointer (some ⟨w.heap.size, 3, none⟩), .bool true, .pointer (some ⟨R, 0, none⟩), .int .i64 ((i : Int) + 1), .slice (some ⟨lb, lo, none⟩) L.length c, .int .i64 (L.length : Int), .int .i64 (k : Int), .bool true, .pointer (some ⟨lb, lo + k * 5, none⟩), .agg #[.int .i64 y0, .int .i64 y1, .bool y2, .bool y3, .bool y4], v51, v52, v53, v54, v55, v56, v57, v58, v59, v60, v61, v62, v63, v64, u65, u66], defers := [] } ∧ ExB1 w.heap.size R H hc ts.length j (sp j) wr.heap.size ((j : Int) + 1) y0 y1 y2 y3 y4 ch Po wz d w' v7 v51 v52 v53 v54 v55 v56 v57 v58 v59 v60 v61 v62 v63 v64) (by kernel_rfl) (by kernel_rfl) ?_ ?_ ?_
            · refine ⟨_, _, _, _, _, _, _, _, _, _, _, _, _, _, _, rfl, ?_⟩
              constructor
              · exact Below.drew (Below.refl _ _)
              · intro hj; exact absurd hj (by decide)
              · intro hj; exact absurd hj (by decide)
              · intro hj; exact absurd hj (by decide)
              · intro hj; exact absurd hj (by decide)
              · intro hj; exact absurd hj (by decide)
              · intro hj; exact absurd hj (by decide)
              · intro hj; exact absurd hj (by decide)
              · intro hj; exact absurd hj (by decide)
              · intro hj; exact absurd hj (by decide)
              · intro hj; exact absurd hj (by decide)
              · intro hj; exact absurd hj (by decide)
              · intro hj; exact absurd hj (by decide)
              · intro hj; exact absurd hj (by decide)
              · intro hj; exact absurd hj (by decide)
              · intro hj; exact absurd hj (by decide)
              · exact fun _ => Below.drew (Below.refl _ _)
              · exact fun h => absurd h (by decide)
              · exact fun _ => rfl
              · exact fun h => absurd h (by decide)
              · exact fun h => absurd h (by decide)
              · exact fun h => absurd h (by decide)
              · exact fun h => absurd h (by decide)
              · exact fun h => absurd h (by decide)
            · refine ⟨?_, ?_, ?_, ?_, ?_, ?_, ?_, ?_, ?_, ?_, ?_, ?_, ?_, ?_, ?_, trivial⟩
              · rintro d a w' hd hdep ⟨v7, v51, v52, v53, v54, v55, v56, v57, v58, v59, v60, v61, v62, v63, v64, rfl, H⟩ K hK
                clear hdep
                go_simp
                have hg : Below w'.heap.size w' w' := Below.refl _ _
                exact hK _ _ ⟨_, _, _, _, _, _, _, _, _, _, _, _, _, _, _, rfl, ⟨H.chg.trans (hg.mono (Nat.zero_le _)), fun _ => rfl, fun h => H.p1 (dk h), fun h => H.p2 (dk h), fun h => H.p3 (dk h), fun h => H.p4 (dk h), fun h => H.p5 (dk h), fun h => H.p6 (dk h), fun h => H.p7 (dk h), fun h => H.p8 (dk h), fun h => H.p9 (dk h), fun h => H.p10 (dk h), fun h => H.p11 (dk h), fun h => H.p12 (dk h), fun h => H.p13 (dk h), fun h => H.p14 (dk h), fun h => H.x0 (df h), fun h => H.x1 (dk h), fun h => H.x7 (df h), fun h => by have := H.z13 (dk h); simp [this], fun h => by have := H.z5 (dk h); simp [this], fun h => by have := H.z6 (dk h); simp [this], fun h => by have := H.z7 (dk h); simp [this], fun h => by have := H.z9 (dk h); simp [this]⟩⟩
              · rintro d a w' hd hdep ⟨v7, v51, v52, v53, v54, v55, v56, v57, v58, v59, v60, v61, v62, v63, v64, rfl, H⟩ K hK
                have d0 : d 0 = true := hdep ⟨0, .data⟩ (by simp) rfl
                clear hdep
                have e0 := H.p0 d0
                subst e0
                go_simp
                have hg : Below w'.heap.size w' w' := Below.refl _ _
                exact hK _ _ ⟨_, _, _, _, _, _, _, _, _, _, _, _, _, _, _, rfl, ⟨H.chg.trans (hg.mono (Nat.zero_le _)), fun h => H.p0 (dk h), fun _ => rfl, fun h => H.p2 (dk h), fun h => H.p3 (dk h), fun h => H.p4 (dk h), fun h => H.p5 (dk h), fun h => H.p6 (dk h), fun h => H.p7 (dk h), fun h => H.p8 (dk h), fun h => H.p9 (dk h), fun h => H.p10 (dk h), fun h => H.p11 (dk h), fun h => H.p12 (dk h), fun h => H.p13 (dk h), fun h => H.p14 (dk h), fun h => H.x0 (df h), fun h => H.x1 (dk h), fun h => H.x7 (df h), fun h => by have := H.z13 (dk h); simp [this], fun h => by have := H.z5 (dk h); simp [this], fun h => by have := H.z6 (dk h); simp [this], fun h => by have := H.z7 (dk h); simp [this], fun h => by have := H.z9 (dk h); simp [this]⟩⟩
              · rintro d a w' hd hdep ⟨v7, v51, v52, v53, v54, v55, v56, v57, v58, v59, v60, v61, v62, v63, v64, rfl, H⟩ K hK
                have d1 : d 1 = true := hdep ⟨1, .data⟩ (by simp) rfl
                clear hdep
                have e1 := H.p1 d1
                subst e1
                go_simp
                have hg : Below w'.heap.size w' w' := Below.refl _ _
                exact hK _ _ ⟨_, _, _, _, _, _, _, _, _, _, _, _, _, _, _, rfl, ⟨H.chg.trans (hg.mono (Nat.zero_le _)), fun h => H.p0 (dk h), fun h => H.p1 (dk h), fun _ => rfl, fun h => H.p3 (dk h), fun h => H.p4 (dk h), fun h => H.p5 (dk h), fun h => H.p6 (dk h), fun h => H.p7 (dk h), fun h => H.p8 (dk h), fun h => H.p9 (dk h), fun h => H.p10 (dk h), fun h => H.p11 (dk h), fun h => H.p12 (dk h), fun h => H.p13 (dk h), fun h => H.p14 (dk h), fun h => H.x0 (df h), fun h => H.x1 (dk h), fun h => H.x7 (df h), fun h => by have := H.z13 (dk h); simp [this], fun h => by have := H.z5 (dk h); simp [this], fun h => by have := H.z6 (dk h); simp [this], fun h => by have := H.z7 (dk h); simp [this], fun h => by have := H.z9 (dk h); simp [this]⟩⟩
              · rintro d a w' hd hdep ⟨v7, v51, v52, v53, v54, v55, v56, v57, v58, v59, v60, v61, v62, v63, v64, rfl, H⟩ K hK
                have d2 : d 2 = true := hdep ⟨2, .data⟩ (by simp) rfl
                clear hdep
                have e2 := H.p2 d2
                subst e2
                have hB9 := H.x0 (Bool.eq_false_iff.2 (fun h9 => by have := H.z9 h9; simp [hd] at this))
                obtain ⟨f1, f2, f3, f4, f5, f6, f7, f8⟩ := HF.out _ hB9
                go_simp
                have hg : Below w'.heap.size w' w' := Below.refl _ _
                exact hK _ _ ⟨_, _, _, _, _, _, _, _, _, _, _, _, _, _, _, rfl, ⟨H.chg.trans (hg.mono (Nat.zero_le _)), fun h => H.p0 (dk h), fun h => H.p1 (dk h), fun h => H.p2 (dk h), fun _ => rfl, fun h => H.p4 (dk h), fun h => H.p5 (dk h), fun h => H.p6 (dk h), fun h => H.p7 (dk h), fun h => H.p8 (dk h), fun h => H.p9 (dk h), fun h => H.p10 (dk h), fun h => H.p11 (dk h), fun h => H.p12 (dk h), fun h => H.p13 (dk h), fun h => H.p14 (dk h), fun h => H.x0 (df h), fun h => H.x1 (dk h), fun h => H.x7 (df h), fun h => by have := H.z13 (dk h); simp [this], fun h => by have := H.z5 (dk h); simp [this], fun h => by have := H.z6 (dk h); simp [this], fun h => by have := H.z7 (dk h); simp [this], fun h => by have := H.z9 (dk h); simp [this]⟩⟩
              · rintro d a w' hd hdep ⟨v7, v51, v52, v53, v54, v55, v56, v57, v58, v59, v60, v61, v62, v63, v64, rfl, H⟩ K hK
                clear hdep
                go_simp
                have hg : Below w'.heap.size w' w' := Below.refl _ _
                exact hK _ _ ⟨_, _, _, _, _, _, _, _, _, _, _, _, _, _, _, rfl, ⟨H.chg.trans (hg.mono (Nat.zero_le _)), fun h => H.p0 (dk h), fun h => H.p1 (dk h), fun h => H.p2 (dk h), fun h => H.p3 (dk h), fun _ => rfl, fun h => H.p5 (dk h), fun h => H.p6 (dk h), fun h => H.p7 (dk h), fun h => H.p8 (dk h), fun h => H.p9 (dk h), fun h => H.p10 (dk h), fun h => H.p11 (dk h), fun h => H.p12 (dk h), fun h => H.p13 (dk h), fun h => H.p14 (dk h), fun h => H.x0 (df h), fun h => H.x1 (dk h), fun h => H.x7 (df h), fun h => by have := H.z13 (dk h); simp [this], fun h => by have := H.z5 (dk h); simp [this], fun h => by have := H.z6 (dk h); simp [this], fun h => by have := H.z7 (dk h); simp [this], fun h => by have := H.z9 (dk h); simp [this]⟩⟩
              · rintro d a w' hd hdep ⟨v7, v51, v52, v53, v54, v55, v56, v57, v58, v59, v60, v61, v62, v63, v64, rfl, H⟩ K hK
                have d4 : d 4 = true := hdep ⟨4, .data⟩ (by simp) rfl
                clear hdep
                have e4 := H.p4 d4
                subst e4
                have hB9 := H.x0 (Bool.eq_false_iff.2 (fun h9 => by have := H.z9 h9; simp [hd] at this))
                obtain ⟨f1, f2, f3, f4, f5, f6, f7, f8⟩ := HF.out _ hB9
                go_simp
                have hg : Below w'.heap.size w' w' := Below.refl _ _
                exact hK _ _ ⟨_, _, _, _, _, _, _, _, _, _, _, _, _, _, _, rfl, ⟨H.chg.trans (hg.mono (Nat.zero_le _)), fun h => H.p0 (dk h), fun h => H.p1 (dk h), fun h => H.p2 (dk h), fun h => H.p3 (dk h), fun h => H.p4 (dk h), fun _ => rfl, fun h => H.p6 (dk h), fun h => H.p7 (dk h), fun h => H.p8 (dk h), fun h => H.p9 (dk h), fun h => H.p10 (dk h), fun h => H.p11 (dk h), fun h => H.p12 (dk h), fun h => H.p13 (dk h), fun h => H.p14 (dk h), fun h => H.x0 (df h), fun h => H.x1 (dk h), fun h => H.x7 (df h), fun h => by have := H.z13 (dk h); simp [this], fun h => by have := H.z5 (dk h); simp [this], fun h => by have := H.z6 (dk h); simp [this], fun h => by have := H.z7 (dk h); simp [this], fun h => by have := H.z9 (dk h); simp [this]⟩⟩
              · rintro d a w' hd hdep ⟨v7, v51, v52, v53, v54, v55, v56, v57, v58, v59, v60, v61, v62, v63, v64, rfl, H⟩ K hK
                have d5 : d 5 = true := hdep ⟨5, .data⟩ (by simp) rfl
                clear hdep
                have e5 := H.p5 d5
                subst e5
                go_simp
                have hg : Below w'.heap.size w' w' := Below.refl _ _
                exact hK _ _ ⟨_, _, _, _, _, _, _, _, _, _, _, _, _, _, _, rfl, ⟨H.chg.trans (hg.mono (Nat.zero_le _)), fun h => H.p0 (dk h), fun h => H.p1 (dk h), fun h => H.p2 (dk h), fun h => H.p3 (dk h), fun h => H.p4 (dk h), fun h => H.p5 (dk h), fun _ => rfl, fun h => H.p7 (dk h), fun h => H.p8 (dk h), fun h => H.p9 (dk h), fun h => H.p10 (dk h), fun h => H.p11 (dk h), fun h => H.p12 (dk h), fun h => H.p13 (dk h), fun h => H.p14 (dk h), fun h => H.x0 (df h), fun h => H.x1 (dk h), fun h => H.x7 (df h), fun h => by have := H.z13 (dk h); simp [this], fun _ => by simp [d5], fun h => by have := H.z6 (dk h); simp [this], fun h => by have := H.z7 (dk h); simp [this], fun h => by have := H.z9 (dk h); simp [this]⟩⟩
              · rintro d a w' hd hdep ⟨v7, v51, v52, v53, v54, v55, v56, v57, v58, v59, v60, v61, v62, v63, v64, rfl, H⟩ K hK
                have d3 : d 3 = true := hdep ⟨3, .data⟩ (by simp) rfl
                have d6 : d 6 = true := hdep ⟨6, .data⟩ (by simp) rfl
                clear hdep
                have e3 := H.p3 d3
                subst e3
                have e6 := H.p6 d6
                subst e6
                go_simp
                have hg : Below w'.heap.size w' w' := Below.refl _ _
                exact hK _ _ ⟨_, _, _, _, _, _, _, _, _, _, _, _, _, _, _, rfl, ⟨H.chg.trans (hg.mono (Nat.zero_le _)), fun h => H.p0 (dk h), fun h => H.p1 (dk h), fun h => H.p2 (dk h), fun h => H.p3 (dk h), fun h => H.p4 (dk h), fun h => H.p5 (dk h), fun h => H.p6 (dk h), fun _ => rfl, fun h => H.p8 (dk h), fun h => H.p9 (dk h), fun h => H.p10 (dk h), fun h => H.p11 (dk h), fun h => H.p12 (dk h), fun h => H.p13 (dk h), fun h => H.p14 (dk h), fun h => H.x0 (df h), fun h => H.x1 (dk h), fun h => H.x7 (df h), fun h => by have := H.z13 (dk h); simp [this], fun h => by have := H.z5 (dk h); simp [this], fun _ => by have := H.z5 d6; simp [d3, this], fun h => by have := H.z7 (dk h); simp [this], fun h => by have := H.z9 (dk h); simp [this]⟩⟩
              · rintro d a w' hd hdep ⟨v7, v51, v52, v53, v54, v55, v56, v57, v58, v59, v60, v61, v62, v63, v64, rfl, H⟩ K hK
                have d7 : d 7 = true := hdep ⟨7, .data⟩ (by simp) rfl
                clear hdep
                have e7 := H.p7 d7
                subst e7
                have hB9 := H.x0 (Bool.eq_false_iff.2 (fun h9 => by have := H.z9 h9; simp [hd] at this))
                obtain ⟨f1, f2, f3, f4, f5, f6, f7, f8⟩ := HF.out _ hB9
                go_simp
                have hg : Below w'.heap.size w' w' := Below.refl _ _
                exact hK _ _ ⟨_, _, _, _, _, _, _, _, _, _, _, _, _, _, _, rfl, ⟨H.chg.trans (hg.mono (Nat.zero_le _)), fun h => H.p0 (dk h), fun h => H.p1 (dk h), fun h => H.p2 (dk h), fun h => H.p3 (dk h), fun h => H.p4 (dk h), fun h => H.p5 (dk h), fun h => H.p6 (dk h), fun h => H.p7 (dk h), fun _ => rfl, fun h => H.p9 (dk h), fun h => H.p10 (dk h), fun h => H.p11 (dk h), fun h => H.p12 (dk h), fun h => H.p13 (dk h), fun h => H.p14 (dk h), fun h => H.x0 (df h), fun h => H.x1 (dk h), fun h => H.x7 (df h), fun h => by have := H.z13 (dk h); simp [this], fun h => by have := H.z5 (dk h); simp [this], fun h => by have := H.z6 (dk h); simp [this], fun _ => by have := H.z6 d7; simp [this], fun h => by have := H.z9 (dk h); simp [this]⟩⟩
              · rintro d a w' hd hdep ⟨v7, v51, v52, v53, v54, v55, v56, v57, v58, v59, v60, v61, v62, v63, v64, rfl, H⟩ K hK
                clear hdep
                have hB9 := H.x0 (Bool.eq_false_iff.2 (fun h9 => by have := H.z9 h9; simp [hd] at this))
                obtain ⟨f1, f2, f3, f4, f5, f6, f7, f8⟩ := HF.out _ hB9
                go_simp
                have hg : Below w'.heap.size w' w' := Below.refl _ _
                exact hK _ _ ⟨_, _, _, _, _, _, _, _, _, _, _, _, _, _, _, rfl, ⟨H.chg.trans (hg.mono (Nat.zero_le _)), fun h => H.p0 (dk h), fun h => H.p1 (dk h), fun h => H.p2 (dk h), fun h => H.p3 (dk h), fun h => H.p4 (dk h), fun h => H.p5 (dk h), fun h => H.p6 (dk h), fun h => H.p7 (dk h), fun h => H.p8 (dk h), fun _ => rfl, fun h => H.p10 (dk h), fun h => H.p11 (dk h), fun h => H.p12 (dk h), fun h => H.p13 (dk h), fun h => H.p14 (dk h), fun h => H.x0 (df h), fun h => H.x1 (dk h), fun h => H.x7 (df h), fun h => by have := H.z13 (dk h); simp [this], fun h => by have := H.z5 (dk h); simp [this], fun h => by have := H.z6 (dk h); simp [this], fun h => by have := H.z7 (dk h); simp [this], fun h => by have := H.z9 (dk h); simp [this]⟩⟩
              · rintro d a w' hd hdep ⟨v7, v51, v52, v53, v54, v55, v56, v57, v58, v59, v60, v61, v62, v63, v64, rfl, H⟩ K hK
                have d8 : d 8 = true := hdep ⟨8, .data⟩ (by simp) rfl
                have d9 : d 9 = true := hdep ⟨9, .data⟩ (by simp) rfl
                clear hdep
                have e8 := H.p8 d8
                subst e8
                have e9 := H.p9 d9
                subst e9
                have hB9 := H.x0 hd
                go_simp
                go_at_call 62
                refine (HADD.out _ hB9).mono ?_
                rintro e w'' ⟨rfl, hpo, hgc⟩
                have hg : Below 0 w' w'' := ⟨hgc.os, hgc.tape, hgc.output, hgc.size, fun k hk => absurd hk (Nat.not_lt_zero k)⟩
                exact hK _ _ ⟨_, _, _, _, _, _, _, _, _, _, _, _, _, _, _, rfl, ⟨H.chg.trans (hg.mono (Nat.zero_le _)), fun h => H.p0 (dk h), fun h => H.p1 (dk h), fun h => H.p2 (dk h), fun h => H.p3 (dk h), fun h => H.p4 (dk h), fun h => H.p5 (dk h), fun h => H.p6 (dk h), fun h => H.p7 (dk h), fun h => H.p8 (dk h), fun h => H.p9 (dk h), fun _ => rfl, fun h => H.p11 (dk h), fun h => H.p12 (dk h), fun h => H.p13 (dk h), fun h => H.p14 (dk h), fun h => absurd h (by simp), fun _ => hpo, fun h => H.x7 (df h), fun h => by have := H.z13 (dk h); simp [this], fun h => by have := H.z5 (dk h); simp [this], fun h => by have := H.z6 (dk h); simp [this], fun h => by have := H.z7 (dk h); simp [this], fun _ => by have h1 := H.z7 d8; simp [h1, d8, d9]⟩⟩
              · rintro d a w' hd hdep ⟨v7, v51, v52, v53, v54, v55, v56, v57, v58, v59, v60, v61, v62, v63, v64, rfl, H⟩ K hK
                have d10 : d 10 = true := hdep ⟨10, .data⟩ (by simp) rfl
                clear hdep
                have e10 := H.p10 d10
                subst e10
                go_simp
                have hg : Below w'.heap.size w' w' := Below.refl _ _
                exact hK _ _ ⟨_, _, _, _, _, _, _, _, _, _, _, _, _, _, _, rfl, ⟨H.chg.trans (hg.mono (Nat.zero_le _)), fun h => H.p0 (dk h), fun h => H.p1 (dk h), fun h => H.p2 (dk h), fun h => H.p3 (dk h), fun h => H.p4 (dk h), fun h => H.p5 (dk h), fun h => H.p6 (dk h), fun h => H.p7 (dk h), fun h => H.p8 (dk h), fun h => H.p9 (dk h), fun h => H.p10 (dk h), fun _ => rfl, fun h => H.p12 (dk h), fun h => H.p13 (dk h), fun h => H.p14 (dk h), fun h => H.x0 (df h), fun h => H.x1 (dk h), fun h => H.x7 (df h), fun h => by have := H.z13 (dk h); simp [this], fun h => by have := H.z5 (dk h); simp [this], fun h => by have := H.z6 (dk h); simp [this], fun h => by have := H.z7 (dk h); simp [this], fun h => by have := H.z9 (dk h); simp [this]⟩⟩
              · rintro d a w' hd hdep ⟨v7, v51, v52, v53, v54, v55, v56, v57, v58, v59, v60, v61, v62, v63, v64, rfl, H⟩ K hK
                have d11 : d 11 = true := hdep ⟨11, .guard⟩ (by simp) rfl
                clear hdep
                have e11 := H.p11 d11
                subst e11
                have e7 := H.x7 (Bool.eq_false_iff.2 (fun h9 => by have := H.z13 h9; simp [hd] at this))
                subst e7
                go_simp
                have hg : Below w'.heap.size w' w' := Below.refl _ _
                exact hK _ _ ⟨_, _, _, _, _, _, _, _, _, _, _, _, _, _, _, rfl, ⟨H.chg.trans (hg.mono (Nat.zero_le _)), fun h => H.p0 (dk h), fun h => H.p1 (dk h), fun h => H.p2 (dk h), fun h => H.p3 (dk h), fun h => H.p4 (dk h), fun h => H.p5 (dk h), fun h => H.p6 (dk h), fun h => H.p7 (dk h), fun h => H.p8 (dk h), fun h => H.p9 (dk h), fun h => H.p10 (dk h), fun h => H.p11 (dk h), fun _ => rfl, fun h => H.p13 (dk h), fun h => H.p14 (dk h), fun h => H.x0 (df h), fun h => H.x1 (dk h), fun h => H.x7 (df h), fun h => by have := H.z13 (dk h); simp [this], fun h => by have := H.z5 (dk h); simp [this], fun h => by have := H.z6 (dk h); simp [this], fun h => by have := H.z7 (dk h); simp [this], fun h => by have := H.z9 (dk h); simp [this]⟩⟩
              · rintro d a w' hd hdep ⟨v7, v51, v52, v53, v54, v55, v56, v57, v58, v59, v60, v61, v62, v63, v64, rfl, H⟩ K hK
                have d11 : d 11 = true := hdep ⟨11, .data⟩ (by simp) rfl
                have d12 : d 12 = true := hdep ⟨12, .data⟩ (by simp) rfl
                clear hdep
                have e11 := H.p11 d11
                subst e11
                have e12 := H.p12 d12
                subst e12
                go_simp
                have hg : Below w'.heap.size w' w' := Below.refl _ _
                exact hK _ _ ⟨_, _, _, _, _, _, _, _, _, _, _, _, _, _, _, rfl, ⟨H.chg.trans (hg.mono (Nat.zero_le _)), fun h => H.p0 (dk h), fun h => H.p1 (dk h), fun h => H.p2 (dk h), fun h => H.p3 (dk h), fun h => H.p4 (dk h), fun h => H.p5 (dk h), fun h => H.p6 (dk h), fun h => H.p7 (dk h), fun h => H.p8 (dk h), fun h => H.p9 (dk h), fun h => H.p10 (dk h), fun h => H.p11 (dk h), fun h => H.p12 (dk h), fun _ => rfl, fun h => H.p14 (dk h), fun h => H.x0 (df h), fun h => H.x1 (dk h), fun h => H.x7 (df h), fun h => by have := H.z13 (dk h); simp [this], fun h => by have := H.z5 (dk h); simp [this], fun h => by have := H.z6 (dk h); simp [this], fun h => by have := H.z7 (dk h); simp [this], fun h => by have := H.z9 (dk h); simp [this]⟩⟩
              · rintro d a w' hd hdep ⟨v7, v51, v52, v53, v54, v55, v56, v57, v58, v59, v60, v61, v62, v63, v64, rfl, H⟩ K hK
                have d13 : d 13 = true := hdep ⟨13, .data⟩ (by simp) rfl
                have d12 : d 12 = true := hdep ⟨12, .phase⟩ (by simp) rfl
                clear hdep
                have e13 := H.p13 d13
                subst e13
                go_simp
                have hg : Below w'.heap.size w' w' := Below.refl _ _
                exact hK _ _ ⟨_, _, _, _, _, _, _, _, _, _, _, _, _, _, _, rfl, ⟨H.chg.trans (hg.mono (Nat.zero_le _)), fun h => H.p0 (dk h), fun h => H.p1 (dk h), fun h => H.p2 (dk h), fun h => H.p3 (dk h), fun h => H.p4 (dk h), fun h => H.p5 (dk h), fun h => H.p6 (dk h), fun h => H.p7 (dk h), fun h => H.p8 (dk h), fun h => H.p9 (dk h), fun h => H.p10 (dk h), fun h => H.p11 (dk h), fun h => H.p12 (dk h), fun h => H.p13 (dk h), fun _ => rfl, fun h => H.x0 (df h), fun h => H.x1 (dk h), fun h => absurd h (by simp), fun _ => by simp [d12], fun h => by have := H.z5 (dk h); simp [this], fun h => by have := H.z6 (dk h); simp [this], fun h => by have := H.z7 (dk h); simp [this], fun h => by have := H.z9 (dk h); simp [this]⟩⟩
            · rintro d a w' hall ⟨v7, v51, v52, v53, v54, v55, v56, v57, v58, v59, v60, v61, v62, v63, v64, rfl, H⟩
              have e13 := H.p14 (hall 14 (by decide))
              subst e13
              have hx1 := H.x1 (hall 10 (by decide))
              rw [HPo.out] at hx1
              have HX1 := Lib.hid hx1
              clear H hall hx1
              go_wp2
              refine ⟨⟨k + 1, addA a' j ⟨y0, y1, y2, y3, y4⟩, ch, by go_num, rfl, by omega, HX1.out.1, HG.out.trans ((Chg.of_pure HBz.out).trans HX1.out.2), ?_, fun n r hr => (inc_add (a := a') (i := j) (by have := HR.out.gat.len; omega) ⟨y0, y1, y2, y3, y4⟩).sub _ _ (HS.out _ _ hr), ?_⟩, by simp [intOf]; omega⟩
              · have := HI.out.trans (inc_add (a := a') (i := j) (by have := HR.out.gat.len; omega) ⟨y0, y1, y2, y3, y4⟩)
                simpa [hin] using this
              · exact grow_take (f := fun z => z) Hx.out HX.out rfl (by have := HR.out.gat.len; omega)
          · clear hkn
            have HADD := Lib.hid (show ∀ w', Below wz.heap.size wz w' → Calls Tryz.prog 62 #[.pointer (some ⟨sp j, 0, none⟩), .agg #[.int .i64 y0, .int .i64 y1, .bool y2, .bool y3, .bool y4]] w' fun e w'' => e = .returned (.bool true) ∧ Po w'' ∧ Chg (Mp ts.length bp) w' w'' from fun w' h => by
              refine (rchAdd_c (r := ⟨y0, y1, y2, y3, y4⟩) (HRz.out.pure h) hj hgy).mono ?_
              rintro e w'' ⟨rfl, h1, h2⟩
              exact ⟨by simp [hin], by rw [HPo.out]; exact ⟨h1, (Chg.of_pure h).trans h2⟩, h2⟩)
            refine wp_region_invB (fun d a w' => ∃ v7 v51 v52 v53 v54 v55 v56 v57 v58 v59 v60 v61 v62 v63 v64, a = { tmps := #[.pointer (some ⟨R, 0, none⟩), .int .i64 ((i : Int) + 1), .agg #[.int .i64 ((j : Int) + 1), .int .i64 b1, .bool b2, .bool true, .bool b4], undef, undef, .pointer (some ⟨w.heap.size, 0, none⟩), .bool false, v7, undef, u9, undef, .pointer (some ⟨wr.heap.size, 0, none⟩), u12, u13, u14, u15, u16, u17, u18, u19, u20, u21, u22, u23, u24, u25, u26, u27, u28, u29, u30, u31, u32, u33, u34, u35, u36, u37, u38, u39, u40, .pointer (some ⟨w.heap.size, 3, none⟩), .bool true, .pointer (some ⟨R, 0, none⟩), .int .i64 ((i : Int) + 1), .slice (some ⟨lb, lo, none⟩) L.length c, .int .i64 (L.length : Int), .int .i64 (k : Int), .bool true, .pointer (some ⟨lb, lo + k * 5, none⟩), .agg #[.int .i64 y0, .int .i64 y1, .bool y2, .bool y3, .bool y4], v51, v52, v53, v54, v55, v56, v57, v58, v59, v60, v61, v62, v63, v64, u65, u66], defers := [] } ∧ ExB0 w.heap.size R H hc ts.length j (sp j) wr.heap.size ((j : Int) + 1) y0 y1 y2 y3 y4 ch Po wz d w' v7 v51 v52 v53 v54 v55 v56 v57 v58 v59 v60 v61 v62 v63 v64) (by kernel_rfl) (by kernel_rfl) ?_ ?_ ?_
            · refine ⟨_, _, _, _, _, _, _, _, _, _, _, _, _, _, _, rfl, ?_⟩
              constructor
              · exact Below.drew (Below.refl _ _)
              · intro hj; exact absurd hj (by decide)
              · intro hj; exact absurd hj (by decide)
              · intro hj; exact absurd hj (by decide)
              · intro hj; exact absurd hj (by decide)
              · intro hj; exact absurd hj (by decide)
              · intro hj; exact absurd hj (by decide)
              · intro hj; exact absurd hj (by decide)
              · intro hj; exact absurd hj (by decide)
              · intro hj; exact absurd hj (by decide)
              · intro hj; exact absurd hj (by decide)
              · intro hj; exact absurd hj (by decide)
              · intro hj; exact absurd hj (by decide)
              · intro hj; exact absurd hj (by decide)
              · intro hj; exact absurd hj (by decide)
              · exact fun _ => Below.drew (Below.refl _ _)
              · exact fun h => absurd h (by decide)
              · exact fun _ => rfl
              · exact fun h => absurd h (by decide)
              · exact fun h => absurd h (by decide)
              · exact fun h => absurd h (by decide)
              · exact fun h => absurd h (by decide)
              · exact fun h => absurd h (by decide)
            · refine ⟨?_, ?_, ?_, ?_, ?_, ?_, ?_, ?_, ?_, ?_, ?_, ?_, ?_, ?_, ?_, trivial⟩
              · rintro d a w' hd hdep ⟨v7, v51, v52, v53, v54, v55, v56, v57, v58, v59, v60, v61, v62, v63, v64, rfl, H⟩ K hK
                clear hdep
                go_simp
                have hg : Below w'.heap.size w' w' := Below.refl _ _
                exact hK _ _ ⟨_, _, _, _, _, _, _, _, _, _, _, _, _, _, _, rfl, ⟨H.chg.trans (hg.mono (Nat.zero_le _)), fun _ => rfl, fun h => H.p1 (dk h), fun h => H.p2 (dk h), fun h => H.p3 (dk h), fun h => H.p4 (dk h), fun h => H.p5 (dk h), fun h => H.p6 (dk h), fun h => H.p7 (dk h), fun h => H.p8 (dk h), fun h => H.p9 (dk h), fun h => H.p10 (dk h), fun h => H.p11 (dk h), fun h => H.p13 (dk h), fun h => H.p14 (dk h), fun h => H.x0 (df h), fun h => H.x1 (dk h), fun h => H.x7 (df h), fun h => by have := H.z13 (dk h); simp [this], fun h => by have := H.z5 (dk h); simp [this], fun h => by have := H.z6 (dk h); simp [this], fun h => by have := H.z7 (dk h); simp [this], fun h => by have := H.z9 (dk h); simp [this]⟩⟩
              · rintro d a w' hd hdep ⟨v7, v51, v52, v53, v54, v55, v56, v57, v58, v59, v60, v61, v62, v63, v64, rfl, H⟩ K hK
                have d0 : d 0 = true := hdep ⟨0, .data⟩ (by simp) rfl
                clear hdep
                have e0 := H.p0 d0
                subst e0
                go_simp
                have hg : Below w'.heap.size w' w' := Below.refl _ _
                exact hK _ _ ⟨_, _, _, _, _, _, _, _, _, _, _, _, _, _, _, rfl, ⟨H.chg.trans (hg.mono (Nat.zero_le _)), fun h => H.p0 (dk h), fun _ => rfl, fun h => H.p2 (dk h), fun h => H.p3 (dk h), fun h => H.p4 (dk h), fun h => H.p5 (dk h), fun h => H.p6 (dk h), fun h => H.p7 (dk h), fun h => H.p8 (dk h), fun h => H.p9 (dk h), fun h => H.p10 (dk h), fun h => H.p11 (dk h), fun h => H.p13 (dk h), fun h => H.p14 (dk h), fun h => H.x0 (df h), fun h => H.x1 (dk h), fun h => H.x7 (df h), fun h => by have := H.z13 (dk h); simp [this], fun h => by have := H.z5 (dk h); simp [this], fun h => by have := H.z6 (dk h); simp [this], fun h => by have := H.z7 (dk h); simp [this], fun h => by have := H.z9 (dk h); simp [this]⟩⟩
              · rintro d a w' hd hdep ⟨v7, v51, v52, v53, v54, v55, v56, v57, v58, v59, v60, v61, v62, v63, v64, rfl, H⟩ K hK
                have d1 : d 1 = true := hdep ⟨1, .data⟩ (by simp) rfl
                clear hdep
                have e1 := H.p1 d1
                subst e1
                go_simp
                have hg : Below w'.heap.size w' w' := Below.refl _ _
                exact hK _ _ ⟨_, _, _, _, _, _, _, _, _, _, _, _, _, _, _, rfl, ⟨H.chg.trans (hg.mono (Nat.zero_le _)), fun h => H.p0 (dk h), fun h => H.p1 (dk h), fun _ => rfl, fun h => H.p3 (dk h), fun h => H.p4 (dk h), fun h => H.p5 (dk h), fun h => H.p6 (dk h), fun h => H.p7 (dk h), fun h => H.p8 (dk h), fun h => H.p9 (dk h), fun h => H.p10 (dk h), fun h => H.p11 (dk h), fun h => H.p13 (dk h), fun h => H.p14 (dk h), fun h => H.x0 (df h), fun h => H.x1 (dk h), fun h => H.x7 (df h), fun h => by have := H.z13 (dk h); simp [this], fun h => by have := H.z5 (dk h); simp [this], fun h => by have := H.z6 (dk h); simp [this], fun h => by have := H.z7 (dk h); simp [this], fun h => by have := H.z9 (dk h); simp [this]⟩⟩
              · rintro d a w' hd hdep ⟨v7, v51, v52, v53, v54, v55, v56, v57, v58, v59, v60, v61, v62, v63, v64, rfl, H⟩ K hK
                have d2 : d 2 = true := hdep ⟨2, .data⟩ (by simp) rfl
                clear hdep
                have e2 := H.p2 d2
                subst e2
                have hB9 := H.x0 (Bool.eq_false_iff.2 (fun h9 => by have := H.z9 h9; simp [hd] at this))
                obtain ⟨f1, f2, f3, f4, f5, f6, f7, f8⟩ := HF.out _ hB9
                go_simp
                have hg : Below w'.heap.size w' w' := Below.refl _ _
                exact hK _ _ ⟨_, _, _, _, _, _, _, _, _, _, _, _, _, _, _, rfl, ⟨H.chg.trans (hg.mono (Nat.zero_le _)), fun h => H.p0 (dk h), fun h => H.p1 (dk h), fun h => H.p2 (dk h), fun _ => rfl, fun h => H.p4 (dk h), fun h => H.p5 (dk h), fun h => H.p6 (dk h), fun h => H.p7 (dk h), fun h => H.p8 (dk h), fun h => H.p9 (dk h), fun h => H.p10 (dk h), fun h => H.p11 (dk h), fun h => H.p13 (dk h), fun h => H.p14 (dk h), fun h => H.x0 (df h), fun h => H.x1 (dk h), fun h => H.x7 (df h), fun h => by have := H.z13 (dk h); simp [this], fun h => by have := H.z5 (dk h); simp [this], fun h => by have := H.z6 (dk h); simp [this], fun h => by have := H.z7 (dk h); simp [this], fun h => by have := H.z9 (dk h); simp [this]⟩⟩
              · rintro d a w' hd hdep ⟨v7, v51, v52, v53, v54, v55, v56, v57, v58, v59, v60, v61, v62, v63, v64, rfl, H⟩ K hK
                clear hdep
                go_simp
                have hg : Below w'.heap.size w' w' := Below.refl _ _
                exact hK _ _ ⟨_, _, _, _, _, _, _, _, _, _, _, _, _, _, _, rfl, ⟨H.chg.trans (hg.mono (Nat.zero_le _)), fun h => H.p0 (dk h), fun h => H.p1 (dk h), fun h => H.p2 (dk h), fun h => H.p3 (dk h), fun _ => rfl, fun h => H.p5 (dk h), fun h => H.p6 (dk h), fun h => H.p7 (dk h), fun h => H.p8 (dk h), fun h => H.p9 (dk h), fun h => H.p10 (dk h), fun h => H.p11 (dk h), fun h => H.p13 (dk h), fun h => H.p14 (dk h), fun h => H.x0 (df h), fun h => H.x1 (dk h), fun h => H.x7 (df h), fun h => by have := H.z13 (dk h); simp [this], fun h => by have := H.z5 (dk h); simp [this], fun h => by have := H.z6 (dk h); simp [this], fun h => by have := H.z7 (dk h); simp [this], fun h => by have := H.z9 (dk h); simp [this]⟩⟩
              · rintro d a w' hd hdep ⟨v7, v51, v52, v53, v54, v55, v56, v57, v58, v59, v60, v61, v62, v63, v64, rfl, H⟩ K hK
                have d4 : d 4 = true := hdep ⟨4, .data⟩ (by simp) rfl
                clear hdep
                have e4 := H.p4 d4
                subst e4
                have hB9 := H.x0 (Bool.eq_false_iff.2 (fun h9 => by have := H.z9 h9; simp [hd] at this))
                obtain ⟨f1, f2, f3, f4, f5, f6, f7, f8⟩ := HF.out _ hB9
                go_simp
                have hg : Below w'.heap.size w' w' := Below.refl _ _
                exact hK _ _ ⟨_, _, _, _, _, _, _, _, _, _, _, _, _, _, _, rfl, ⟨H.chg.trans (hg.mono (Nat.zero_le _)), fun h => H.p0 (dk h), fun h => H.p1 (dk h), fun h => H.p2 (dk h), fun h => H.p3 (dk h), fun h => H.p4 (dk h), fun _ => rfl, fun h => H.p6 (dk h), fun h => H.p7 (dk h), fun h => H.p8 (dk h), fun h => H.p9 (dk h), fun h => H.p10 (dk h), fun h => H.p11 (dk h), fun h => H.p13 (dk h), fun h => H.p14 (dk h), fun h => H.x0 (df h), fun h => H.x1 (dk h), fun h => H.x7 (df h), fun h => by have := H.z13 (dk h); simp [this], fun h => by have := H.z5 (dk h); simp [this], fun h => by have := H.z6 (dk h); simp [this], fun h => by have := H.z7 (dk h); simp [this], fun h => by have := H.z9 (dk h); simp [this]⟩⟩
              · rintro d a w' hd hdep ⟨v7, v51, v52, v53, v54, v55, v56, v57, v58, v59, v60, v61, v62, v63, v64, rfl, H⟩ K hK
                have d5 : d 5 = true := hdep ⟨5, .data⟩ (by simp) rfl
                clear hdep
                have e5 := H.p5 d5
                subst e5
                go_simp
                have hg : Below w'.heap.size w' w' := Below.refl _ _
                exact hK _ _ ⟨_, _, _, _, _, _, _, _, _, _, _, _, _, _, _, rfl, ⟨H.chg.trans (hg.mono (Nat.zero_le _)), fun h => H.p0 (dk h), fun h => H.p1 (dk h), fun h => H.p2 (dk h), fun h => H.p3 (dk h), fun h => H.p4 (dk h), fun h => H.p5 (dk h), fun _ => rfl, fun h => H.p7 (dk h), fun h => H.p8 (dk h), fun h => H.p9 (dk h), fun h => H.p10 (dk h), fun h => H.p11 (dk h), fun h => H.p13 (dk h), fun h => H.p14 (dk h), fun h => H.x0 (df h), fun h => H.x1 (dk h), fun h => H.x7 (df h), fun h => by have := H.z13 (dk h); simp [this], fun _ => by simp [d5], fun h => by have := H.z6 (dk h); simp [this], fun h => by have := H.z7 (dk h); simp [this], fun h => by have := H.z9 (dk h); simp [this]⟩⟩
              · rintro d a w' hd hdep ⟨v7, v51, v52, v53, v54, v55, v56, v57, v58, v59, v60, v61, v62, v63, v64, rfl, H⟩ K hK
                have d3 : d 3 = true := hdep ⟨3, .data⟩ (by simp) rfl
                have d6 : d 6 = true := hdep ⟨6, .data⟩ (by simp) rfl
                clear hdep
                have e3 := H.p3 d3
                subst e3
                have e6 := H.p6 d6
                subst e6
                go_simp
                have hg : Below w'.heap.size w' w' := Below.refl _ _
                exact hK _ _ ⟨_, _, _, _, _, _, _, _, _, _, _, _, _, _, _, rfl, ⟨H.chg.trans (hg.mono (Nat.zero_le _)), fun h => H.p0 (dk h), fun h => H.p1 (dk h), fun h => H.p2 (dk h), fun h => H.p3 (dk h), fun h => H.p4 (dk h), fun h => H.p5 (dk h), fun h => H.p6 (dk h), fun _ => rfl, fun h => H.p8 (dk h), fun h => H.p9 (dk h), fun h => H.p10 (dk h), fun h => H.p11 (dk h), fun h => H.p13 (dk h), fun h => H.p14 (dk h), fun h => H.x0 (df h), fun h => H.x1 (dk h), fun h => H.x7 (df h), fun h => by have := H.z13 (dk h); simp [this], fun h => by have := H.z5 (dk h); simp [this], fun _ => by have := H.z5 d6; simp [d3, this], fun h => by have := H.z7 (dk h); simp [this], fun h => by have := H.z9 (dk h); simp [this]⟩⟩
              · rintro d a w' hd hdep ⟨v7, v51, v52, v53, v54, v55, v56, v57, v58, v59, v60, v61, v62, v63, v64, rfl, H⟩ K hK
                have d7 : d 7 = true := hdep ⟨7, .data⟩ (by simp) rfl
                clear hdep
                have e7 := H.p7 d7
                subst e7
                have hB9 := H.x0 (Bool.eq_false_iff.2 (fun h9 => by have := H.z9 h9; simp [hd] at this))
                obtain ⟨f1, f2, f3, f4, f5, f6, f7, f8⟩ := HF.out _ hB9
                go_simp
                have hg : Below w'.heap.size w' w' := Below.refl _ _
                exact hK _ _ ⟨_, _, _, _, _, _, _, _, _, _, _, _, _, _, _, rfl, ⟨H.chg.trans (hg.mono (Nat.zero_le _)), fun h => H.p0 (dk h), fun h => H.p1 (dk h), fun h => H.p2 (dk h), fun h => H.p3 (dk h), fun h => H.p4 (dk h), fun h => H.p5 (dk h), fun h => H.p6 (dk h), fun h => H.p7 (dk h), fun _ => rfl, fun h => H.p9 (dk h), fun h => H.p10 (dk h), fun h => H.p11 (dk h), fun h => H.p13 (dk h), fun h => H.p14 (dk h), fun h => H.x0 (df h), fun h => H.x1 (dk h), fun h => H.x7 (df h), fun h => by have := H.z13 (dk h); simp [this], fun h => by have := H.z5 (dk h); simp [this], fun h => by have := H.z6 (dk h); simp [this], fun _ => by have := H.z6 d7; simp [this], fun h => by have := H.z9 (dk h); simp [this]⟩⟩
              · rintro d a w' hd hdep ⟨v7, v51, v52, v53, v54, v55, v56, v57, v58, v59, v60, v61, v62, v63, v64, rfl, H⟩ K hK
                clear hdep
                have hB9 := H.x0 (Bool.eq_false_iff.2 (fun h9 => by have := H.z9 h9; simp [hd] at this))
                obtain ⟨f1, f2, f3, f4, f5, f6, f7, f8⟩ := HF.out _ hB9
                go_simp
                have hg : Below w'.heap.size w' w' := Below.refl _ _
                exact hK _ _ ⟨_, _, _, _, _, _, _, _, _, _, _, _, _, _, _, rfl, ⟨H.chg.trans (hg.mono (Nat.zero_le _)), fun h => H.p0 (dk h), fun h => H.p1 (dk h), fun h => H.p2 (dk h), fun h => H.p3 (dk h), fun h => H.p4 (dk h), fun h => H.p5 (dk h), fun h => H.p6 (dk h), fun h => H.p7 (dk h), fun h => H.p8 (dk h), fun _ => rfl, fun h => H.p10 (dk h), fun h => H.p11 (dk h), fun h => H.p13 (dk h), fun h => H.p14 (dk h), fun h => H.x0 (df h), fun h => H.x1 (dk h), fun h => H.x7 (df h), fun h => by have := H.z13 (dk h); simp [this], fun h => by have := H.z5 (dk h); simp [this], fun h => by have := H.z6 (dk h); simp [this], fun h => by have := H.z7 (dk h); simp [this], fun h => by have := H.z9 (dk h); simp [this]⟩⟩
              · rintro d a w' hd hdep ⟨v7, v51, v52, v53, v54, v55, v56, v57, v58, v59, v60, v61, v62, v63, v64, rfl, H⟩ K hK
                have d8 : d 8 = true := hdep ⟨8, .data⟩ (by simp) rfl
                have d9 : d 9 = true := hdep ⟨9, .data⟩ (by simp) rfl
                clear hdep
                have e8 := H.p8 d8
                subst e8
                have e9 := H.p9 d9
                subst e9
                have hB9 := H.x0 hd
                go_simp
                go_at_call 62
                refine (HADD.out _ hB9).mono ?_
                rintro e w'' ⟨rfl, hpo, hgc⟩
                have hg : Below 0 w' w'' := ⟨hgc.os, hgc.tape, hgc.output, hgc.size, fun k hk => absurd hk (Nat.not_lt_zero k)⟩
                exact hK _ _ ⟨_, _, _, _, _, _, _, _, _, _, _, _, _, _, _, rfl, ⟨H.chg.trans (hg.mono (Nat.zero_le _)), fun h => H.p0 (dk h), fun h => H.p1 (dk h), fun h => H.p2 (dk h), fun h => H.p3 (dk h), fun h => H.p4 (dk h), fun h => H.p5 (dk h), fun h => H.p6 (dk h), fun h => H.p7 (dk h), fun h => H.p8 (dk h), fun h => H.p9 (dk h), fun _ => rfl, fun h => H.p11 (dk h), fun h => H.p13 (dk h), fun h => H.p14 (dk h), fun h => absurd h (by simp), fun _ => hpo, fun h => H.x7 (df h), fun h => by have := H.z13 (dk h); simp [this], fun h => by have := H.z5 (dk h); simp [this], fun h => by have := H.z6 (dk h); simp [this], fun h => by have := H.z7 (dk h); simp [this], fun _ => by have h1 := H.z7 d8; simp [h1, d8, d9]⟩⟩
              · rintro d a w' hd hdep ⟨v7, v51, v52, v53, v54, v55, v56, v57, v58, v59, v60, v61, v62, v63, v64, rfl, H⟩ K hK
                have d10 : d 10 = true := hdep ⟨10, .data⟩ (by simp) rfl
                clear hdep
                have e10 := H.p10 d10
                subst e10
                go_simp
                have hg : Below w'.heap.size w' w' := Below.refl _ _
                exact hK _ _ ⟨_, _, _, _, _, _, _, _, _, _, _, _, _, _, _, rfl, ⟨H.chg.trans (hg.mono (Nat.zero_le _)), fun h => H.p0 (dk h), fun h => H.p1 (dk h), fun h => H.p2 (dk h), fun h => H.p3 (dk h), fun h => H.p4 (dk h), fun h => H.p5 (dk h), fun h => H.p6 (dk h), fun h => H.p7 (dk h), fun h => H.p8 (dk h), fun h => H.p9 (dk h), fun h => H.p10 (dk h), fun _ => rfl, fun h => H.p13 (dk h), fun h => H.p14 (dk h), fun h => H.x0 (df h), fun h => H.x1 (dk h), fun h => H.x7 (df h), fun h => by have := H.z13 (dk h); simp [this], fun h => by have := H.z5 (dk h); simp [this], fun h => by have := H.z6 (dk h); simp [this], fun h => by have := H.z7 (dk h); simp [this], fun h => by have := H.z9 (dk h); simp [this]⟩⟩
              · rintro d a w' hd hdep ⟨v7, v51, v52, v53, v54, v55, v56, v57, v58, v59, v60, v61, v62, v63, v64, rfl, H⟩ K hK
                have d11 : d 11 = true := hdep ⟨11, .guard⟩ (by simp) rfl
                clear hdep
                have e11 := H.p11 d11
                subst e11
                go_simp
                have hg : Below w'.heap.size w' w' := Below.refl _ _
                exact hK _ _ ⟨_, _, _, _, _, _, _, _, _, _, _, _, _, _, _, rfl, ⟨H.chg.trans (hg.mono (Nat.zero_le _)), fun h => H.p0 (dk h), fun h => H.p1 (dk h), fun h => H.p2 (dk h), fun h => H.p3 (dk h), fun h => H.p4 (dk h), fun h => H.p5 (dk h), fun h => H.p6 (dk h), fun h => H.p7 (dk h), fun h => H.p8 (dk h), fun h => H.p9 (dk h), fun h => H.p10 (dk h), fun h => H.p11 (dk h), fun h => H.p13 (dk h), fun h => H.p14 (dk h), fun h => H.x0 (df h), fun h => H.x1 (dk h), fun h => H.x7 (df h), fun h => by have := H.z13 (dk h); simp [this], fun h => by have := H.z5 (dk h); simp [this], fun h => by have := H.z6 (dk h); simp [this], fun h => by have := H.z7 (dk h); simp [this], fun h => by have := H.z9 (dk h); simp [this]⟩⟩
              · rintro d a w' hd hdep ⟨v7, v51, v52, v53, v54, v55, v56, v57, v58, v59, v60, v61, v62, v63, v64, rfl, H⟩ K hK
                have d11 : d 11 = true := hdep ⟨11, .data⟩ (by simp) rfl
                have d12 : d 12 = true := hdep ⟨12, .data⟩ (by simp) rfl
                clear hdep
                have e11 := H.p11 d11
                subst e11
                go_simp
                have hg : Below w'.heap.size w' w' := Below.refl _ _
                exact hK _ _ ⟨_, _, _, _, _, _, _, _, _, _, _, _, _, _, _, rfl, ⟨H.chg.trans (hg.mono (Nat.zero_le _)), fun h => H.p0 (dk h), fun h => H.p1 (dk h), fun h => H.p2 (dk h), fun h => H.p3 (dk h), fun h => H.p4 (dk h), fun h => H.p5 (dk h), fun h => H.p6 (dk h), fun h => H.p7 (dk h), fun h => H.p8 (dk h), fun h => H.p9 (dk h), fun h => H.p10 (dk h), fun h => H.p11 (dk h), fun _ => rfl, fun h => H.p14 (dk h), fun h => H.x0 (df h), fun h => H.x1 (dk h), fun h => H.x7 (df h), fun h => by have := H.z13 (dk h); simp [this], fun h => by have := H.z5 (dk h); simp [this], fun h => by have := H.z6 (dk h); simp [this], fun h => by have := H.z7 (dk h); simp [this], fun h => by have := H.z9 (dk h); simp [this]⟩⟩
              · rintro d a w' hd hdep ⟨v7, v51, v52, v53, v54, v55, v56, v57, v58, v59, v60, v61, v62, v63, v64, rfl, H⟩ K hK
                have d13 : d 13 = true := hdep ⟨13, .data⟩ (by simp) rfl
                have d12 : d 12 = true := hdep ⟨12, .phase⟩ (by simp) rfl
                clear hdep
                have e13 := H.p13 d13
                subst e13
                go_simp
                have hg : Below w'.heap.size w' w' := Below.refl _ _
                exact hK _ _ ⟨_, _, _, _, _, _, _, _, _, _, _, _, _, _, _, rfl, ⟨H.chg.trans (hg.mono (Nat.zero_le _)), fun h => H.p0 (dk h), fun h => H.p1 (dk h), fun h => H.p2 (dk h), fun h => H.p3 (dk h), fun h => H.p4 (dk h), fun h => H.p5 (dk h), fun h => H.p6 (dk h), fun h => H.p7 (dk h), fun h => H.p8 (dk h), fun h => H.p9 (dk h), fun h => H.p10 (dk h), fun h => H.p11 (dk h), fun h => H.p13 (dk h), fun _ => rfl, fun h => H.x0 (df h), fun h => H.x1 (dk h), fun h => absurd h (by simp), fun _ => by simp [d12], fun h => by have := H.z5 (dk h); simp [this], fun h => by have := H.z6 (dk h); simp [this], fun h => by have := H.z7 (dk h); simp [this], fun h => by have := H.z9 (dk h); simp [this]⟩⟩
            · rintro d a w' hall ⟨v7, v51, v52, v53, v54, v55, v56, v57, v58, v59, v60, v61, v62, v63, v64, rfl, H⟩
              have e13 := H.p14 (hall 14 (by decide))
              subst e13
              have hx1 := H.x1 (hall 10 (by decide))
              rw [HPo.out] at hx1
              have HX1 := Lib.hid hx1
              clear H hall hx1
              go_wp2
              refine ⟨⟨k + 1, addA a' j ⟨y0, y1, y2, y3, y4⟩, true, by go_num, rfl, by omega, HX1.out.1, HG.out.trans ((Chg.of_pure HBz.out).trans HX1.out.2), ?_, fun n r hr => (inc_add (a := a') (i := j) (by have := HR.out.gat.len; omega) ⟨y0, y1, y2, y3, y4⟩).sub _ _ (HS.out _ _ hr), ?_⟩, by simp [intOf]; omega⟩
              · have := HI.out.trans (inc_add (a := a') (i := j) (by have := HR.out.gat.len; omega) ⟨y0, y1, y2, y3, y4⟩)
                simpa [hin] using this
              · exact grow_take (f := fun z => z) Hx.out HX.out rfl (by have := HR.out.gat.len; omega)
        · have hkn : ¬ (k : Int) < (L.length : Int) := by omega
          have hkl : k = L.length := by omega
          go_wp2
          go_ret
          refine ⟨a', ch, rfl, HR.out, HG0.out.trans ((Chg.of_pure Hb1.out).trans HG.out), HI.out, fun e _ _ => ?_⟩
          have := HI.out.same e
          subst this
          have hj' : ((j : Int) + 1 - 1).toNat = j := by omega
          rw [hj']
          refine ⟨fun hrd x hx => HS.out _ _ (HX1.out hrd x hx), fun _ x hx => ?_⟩
          refine HX.out x ?_
          rw [hkl, List.take_length]
          exact (HM.out x).2 (HI1.out.sub _ _ hx)
end Go.Proofs.YtiolplhgpodifaaGreat
