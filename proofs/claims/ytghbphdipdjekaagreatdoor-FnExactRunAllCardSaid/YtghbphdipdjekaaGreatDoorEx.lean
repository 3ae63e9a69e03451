/- What a runner and a node get by a right. Conditions: the gathered sets lie where their cells say. -/
import Derived.Test.YtghbphdipdjekaaGreatDoorSx
import Derived.Test.YtghbphdipdjekaaGreatDoorMb
import Derived.Deep.CutBlock
import Derived.Deep.LoopGhost
set_option linter.unusedVariables false
set_option linter.unusedSimpArgs false
namespace Go.Proofs.YtghbphdipdjekaaGreatDoor
open Go.RowKit Drw
attribute [local go_sem] Lab.val Rgt.val Cal.val Thg.val

theorem Mp.lt {w0 w : World} {R H hc : Nat} {p : Option Addr} {cap : Nat} {ts : List Thg} {sp bp : Nat → Nat} {a : List (List Rgt)} (h : RchAt w0 w R H hc p cap ts sp bp a) {k : Nat} (hk : Mp ts.length bp k) : k < w.heap.size := by
  obtain ⟨i, hi, rfl⟩ := hk
  exact (h.set i hi).lt.2
/-- A list made later than the sets stays as it is while they grow. -/
theorem listed_keep {w0 w w1 w2 : World} {R H hc : Nat} {p : Option Addr} {cap : Nat} {ts : List Thg} {sp bp : Nat → Nat} {a : List (List Rgt)} (h : RchAt w0 w R H hc p cap ts sp bp a) {q : Option Addr} {c n : Nat} {L : List Rgt} (hr : RgtsAt w1 (.slice q n c) L)
    (ho : ∀ k, (Value.slice q n c).ownBlock = some k → w.heap.size ≤ k) (hg : Chg (Mp ts.length bp) w1 w2) : RgtsAt w2 (.slice q n c) L :=
  Rows.kept hr hg (.inr fun k hk hm => by have := ho k hk; have := Mp.lt h hm; omega)

/-- The sets behind a step: whether they grew, and what holds where they did not. -/
def Grown (w0 w : World) (R H hc : Nat) (p : Option Addr) (cap : Nat) (ts : List Thg) (sp bp : Nat → Nat) (a : List (List Rgt)) (Pr : Prop) (e : Ending) (w' : World) : Prop :=
  ∃ a' ch, e = .returned (.bool ch) ∧ RchAt w0 w' R H hc p cap ts sp bp a' ∧ Chg (Mp ts.length bp) w w' ∧ Inc a a' ch ∧ (ch = false → Pr)

/-- A right's cells, in a block of their own. -/
def RB5 (w : World) (b : Nat) (r : Rgt) : Prop := w.cell? ⟨b, 0, none⟩ = some (.int .i64 r.thing) ∧ w.cell? ⟨b, 1, none⟩ = some (.int .i64 r.vers) ∧ w.cell? ⟨b, 2, none⟩ = some (.bool r.rd) ∧ w.cell? ⟨b, 3, none⟩ = some (.bool r.wr) ∧ w.cell? ⟨b, 4, none⟩ = some (.bool r.wk)

theorem grow_take {L : List Rgt} {k i : Nat} {f : Rgt → Rgt} {x y : Rgt} {a : List (List Rgt)} (hx : L[k]? = some x) (hX : ∀ z ∈ L.take k, f z ∈ rowA a i) (hy : f x = y) (hi : i < a.length) : ∀ z ∈ L.take (k + 1), f z ∈ rowA (addA a i y) i := by
  intro z hz
  rw [List.take_add_one, hx] at hz
  rcases List.mem_append.1 hz with h | h
  · exact (inc_add hi y).sub _ _ (hX z h)
  · have : z = x := by simpa using h
    rw [this, hy]; exact addA_mem hi y

theorem dk {d : Nat → Bool} {i j : Nat} (h : (d j || decide (j = i)) = true) (hn : decide (j = i) = false := by decide) : d j = true := by
  rw [hn, Bool.or_false] at h; exact h
theorem df {d : Nat → Bool} {i j : Nat} (h : (d j || decide (j = i)) = false) : d j = false := (Bool.or_eq_false_iff.1 h).1

structure ExA0 (R H hc n i s C : Nat) (t0 y0 y1 : Int) (y2 y3 y4 ch : Bool) (Post : World → Prop) (w0 : World) (d : Nat → Bool) (w : World) (v7 v27 v28 v29 v30 v31 v32 v33 v34 v35 v36 v37 v38 v39 : Value) : Prop where
  chg : Below 0 w0 w
  p0 : d 0 = true → v27 = .pointer (some ⟨R, 0, none⟩)
  p1 : d 1 = true → v28 = .pointer (some ⟨R, 0, none⟩)
  p2 : d 2 = true → v29 = .pointer (some ⟨R, 1, none⟩)
  p3 : d 3 = true → v30 = .slice (some ⟨H, 0, none⟩) n hc
  p4 : d 4 = true → v31 = .int .i64 t0
  p5 : d 5 = true → v32 = .int .i64 (i : Int)
  p6 : d 6 = true → v33 = .pointer (some ⟨H, i, none⟩)
  p7 : d 7 = true → v34 = .pointer (some ⟨s, 0, none⟩)
  p8 : d 8 = true → v35 = .agg #[.int .i64 y0, .int .i64 y1, .bool y2, .bool y3, .bool y4]
  p9 : d 9 = true → v36 = .bool true
  p10 : d 10 = true → v37 = .bool true
  p12 : d 12 = true → v39 = .bool true
  p13 : d 13 = true → v7 = .bool true
  x0 : d 9 = false → Below w0.heap.size w0 w
  x1 : d 9 = true → Post w
  x7 : d 13 = false → v7 = .bool ch
  z13 : d 13 = true → d 11 = true
  z6 : d 6 = true → d 3 = true
  z7 : d 7 = true → d 3 = true
  z9 : d 9 = true → d 3 = true ∧ d 7 = true ∧ d 8 = true

structure ExA1 (R H hc n i s C : Nat) (t0 y0 y1 : Int) (y2 y3 y4 ch : Bool) (Post : World → Prop) (w0 : World) (d : Nat → Bool) (w : World) (v7 v27 v28 v29 v30 v31 v32 v33 v34 v35 v36 v37 v38 v39 : Value) : Prop where
  chg : Below 0 w0 w
  p0 : d 0 = true → v27 = .pointer (some ⟨R, 0, none⟩)
  p1 : d 1 = true → v28 = .pointer (some ⟨R, 0, none⟩)
  p2 : d 2 = true → v29 = .pointer (some ⟨R, 1, none⟩)
  p3 : d 3 = true → v30 = .slice (some ⟨H, 0, none⟩) n hc
  p4 : d 4 = true → v31 = .int .i64 t0
  p5 : d 5 = true → v32 = .int .i64 (i : Int)
  p6 : d 6 = true → v33 = .pointer (some ⟨H, i, none⟩)
  p7 : d 7 = true → v34 = .pointer (some ⟨s, 0, none⟩)
  p8 : d 8 = true → v35 = .agg #[.int .i64 y0, .int .i64 y1, .bool y2, .bool y3, .bool y4]
  p9 : d 9 = true → v36 = .bool false
  p10 : d 10 = true → v37 = .bool false
  p11 : d 11 = true → v38 = .bool ch
  p12 : d 12 = true → v39 = .bool ch
  p13 : d 13 = true → v7 = .bool ch
  x0 : d 9 = false → Below w0.heap.size w0 w
  x1 : d 9 = true → Post w
  x7 : d 13 = false → v7 = .bool ch
  z13 : d 13 = true → d 11 = true
  z6 : d 6 = true → d 3 = true
  z7 : d 7 = true → d 3 = true
  z9 : d 9 = true → d 3 = true ∧ d 7 = true ∧ d 8 = true

structure ExB0 (K0 R H hc n i s C : Nat) (t0 y0 y1 : Int) (y2 y3 y4 ch : Bool) (Post : World → Prop) (w0 : World) (d : Nat → Bool) (w : World) (v7 v51 v52 v53 v54 v55 v56 v57 v58 v59 v60 v61 v62 v63 v64 : Value) : Prop where
  chg : Below 0 w0 w
  p0 : d 0 = true → v51 = .pointer (some ⟨R, 0, none⟩)
  p1 : d 1 = true → v52 = .pointer (some ⟨R, 0, none⟩)
  p2 : d 2 = true → v53 = .pointer (some ⟨R, 1, none⟩)
  p3 : d 3 = true → v54 = .slice (some ⟨H, 0, none⟩) n hc
  p4 : d 4 = true → v55 = .pointer (some ⟨K0, 0, none⟩)
  p5 : d 5 = true → v56 = .int .i64 t0
  p6 : d 6 = true → v57 = .int .i64 (i : Int)
  p7 : d 7 = true → v58 = .pointer (some ⟨H, i, none⟩)
  p8 : d 8 = true → v59 = .pointer (some ⟨s, 0, none⟩)
  p9 : d 9 = true → v60 = .agg #[.int .i64 y0, .int .i64 y1, .bool y2, .bool y3, .bool y4]
  p10 : d 10 = true → v61 = .bool true
  p11 : d 11 = true → v62 = .bool true
  p13 : d 13 = true → v64 = .bool true
  p14 : d 14 = true → v7 = .bool true
  x0 : d 10 = false → Below w0.heap.size w0 w
  x1 : d 10 = true → Post w
  x7 : d 14 = false → v7 = .bool ch
  z13 : d 14 = true → d 12 = true
  z5 : d 6 = true → d 5 = true
  z6 : d 7 = true → d 3 = true ∧ d 5 = true
  z7 : d 8 = true → d 3 = true ∧ d 5 = true
  z9 : d 10 = true → d 3 = true ∧ d 5 = true ∧ d 8 = true ∧ d 9 = true

structure ExB1 (K0 R H hc n i s C : Nat) (t0 y0 y1 : Int) (y2 y3 y4 ch : Bool) (Post : World → Prop) (w0 : World) (d : Nat → Bool) (w : World) (v7 v51 v52 v53 v54 v55 v56 v57 v58 v59 v60 v61 v62 v63 v64 : Value) : Prop where
  chg : Below 0 w0 w
  p0 : d 0 = true → v51 = .pointer (some ⟨R, 0, none⟩)
  p1 : d 1 = true → v52 = .pointer (some ⟨R, 0, none⟩)
  p2 : d 2 = true → v53 = .pointer (some ⟨R, 1, none⟩)
  p3 : d 3 = true → v54 = .slice (some ⟨H, 0, none⟩) n hc
  p4 : d 4 = true → v55 = .pointer (some ⟨K0, 0, none⟩)
  p5 : d 5 = true → v56 = .int .i64 t0
  p6 : d 6 = true → v57 = .int .i64 (i : Int)
  p7 : d 7 = true → v58 = .pointer (some ⟨H, i, none⟩)
  p8 : d 8 = true → v59 = .pointer (some ⟨s, 0, none⟩)
  p9 : d 9 = true → v60 = .agg #[.int .i64 y0, .int .i64 y1, .bool y2, .bool y3, .bool y4]
  p10 : d 10 = true → v61 = .bool false
  p11 : d 11 = true → v62 = .bool false
  p12 : d 12 = true → v63 = .bool ch
  p13 : d 13 = true → v64 = .bool ch
  p14 : d 14 = true → v7 = .bool ch
  x0 : d 10 = false → Below w0.heap.size w0 w
  x1 : d 10 = true → Post w
  x7 : d 14 = false → v7 = .bool ch
  z13 : d 14 = true → d 12 = true
  z5 : d 6 = true → d 5 = true
  z6 : d 7 = true → d 3 = true ∧ d 5 = true
  z7 : d 8 = true → d 3 = true ∧ d 5 = true
  z9 : d 10 = true → d 3 = true ∧ d 5 = true ∧ d 8 = true ∧ d 9 = true

end Go.Proofs.YtghbphdipdjekaaGreatDoor
