/- The statements' own turning of plain things into the program's things (laws.toThingS and what it calls). Conditions: what is turned lies where its cells say; its lengths are bounded. -/
import Derived.Test.YtiolplhgpodifaaGreatY
import Derived.Deep.CutBlock
import Derived.BigQuiet
import Derived.Deep.RegionHeld3
import Derived.Deep.DeepCutAuto
set_option linter.unusedVariables false
set_option linter.unusedSimpArgs false
namespace Go.Proofs.YtiolplhgpodifaaGreat
open Go.RowKit Drw
attribute [local go_sem] Lab.val Rgt.val Cal.val Thg.val

/-- A block of rows that is filled row by row, from the first on. -/
def RowI (w : World) (B n s : Nat) (cs : List (List Value)) (j : Nat) : Prop :=
  ∃ ds : List (List Value), ds.length = n ∧ (∀ d ∈ ds, d.length = s) ∧ (∀ k, k < j → ds[k]? = cs[k]?) ∧ Drw.Rows w (.slice (some ⟨B, 0, none⟩) n n) s ds ∧ B < w.heap.size ∧ ∀ o, w.frozen? ⟨B, o, none⟩ = false
theorem RowI.pure {w w' : World} {B n s : Nat} {cs : List (List Value)} {j : Nat} (h : RowI w B n s cs j) (hb : Below w.heap.size w w') : RowI w' B n s cs j := by
  obtain ⟨ds, h1, h2, h3, h4, h5, h6⟩ := h
  exact ⟨ds, h1, h2, h3, Drw.Rows.pure h4 hb, Nat.lt_of_lt_of_le h5 hb.size, fun o => ((bcell hb).2 _ _ h5).trans (h6 o)⟩
theorem RowI.lt {w : World} {B n s : Nat} {cs : List (List Value)} {j : Nat} (h : RowI w B n s cs j) : B < w.heap.size := by
  obtain ⟨ds, h1, h2, h3, h4, h5, h6⟩ := h; exact h5
theorem RowI.fr {w : World} {B n s : Nat} {cs : List (List Value)} {j : Nat} (h : RowI w B n s cs j) (o : Nat) : w.frozen? ⟨B, o, none⟩ = false := by
  obtain ⟨ds, h1, h2, h3, h4, h5, h6⟩ := h; exact h6 o
theorem RowI.cell {w : World} {B n s : Nat} {cs : List (List Value)} {j : Nat} (h : RowI w B n s cs j) {k i : Nat} (hk : k < n) (hi : i < s) : ∃ u, w.cell? ⟨B, k * s + i, none⟩ = some u := by
  obtain ⟨ds, h1, h2, h3, h4, h5, h6⟩ := h
  obtain ⟨d, hd⟩ : ∃ d, ds[k]? = some d := ⟨_, List.getElem?_eq_getElem (by omega)⟩
  obtain ⟨b, o, e, hc⟩ := Drw.Rows.at h4 k d hd
  cases e
  have hl := h2 d (List.mem_of_getElem? hd)
  exact ⟨_, by simpa using hc i d[i] (List.getElem?_eq_getElem (by omega))⟩
theorem RowI.step {w w' : World} {B n s : Nat} {cs : List (List Value)} {j : Nat} {c : List Value} (h : RowI w B n s cs j) (hj : j < n) (hc : cs[j]? = some c) (hcl : c.length = s) (hsz : w.heap.size ≤ w'.heap.size) (hfz : ∀ o, w'.frozen? ⟨B, o, none⟩ = w.frozen? ⟨B, o, none⟩)
    (hrow : ∀ i u, c[i]? = some u → w'.cell? ⟨B, j * s + i, none⟩ = some u) (hoth : ∀ off, off < j * s ∨ j * s + s ≤ off → w'.cell? ⟨B, off, none⟩ = w.cell? ⟨B, off, none⟩) : RowI w' B n s cs (j + 1) := by
  obtain ⟨ds, h1, h2, h3, h4, h5, h6⟩ := h
  refine ⟨ds.set j c, by simpa using h1, fun d hd => ?_, fun k hk => ?_, ?_, Nat.lt_of_lt_of_le h5 hsz, fun o => (hfz o).trans (h6 o)⟩
  · rcases List.mem_or_eq_of_mem_set hd with h | rfl
    · exact h2 d h
    · exact hcl
  · rw [List.getElem?_set]
    by_cases e : j = k
    · subst e; simp [h1, hj, hc]
    · rw [if_neg e]; exact h3 k (by omega)
  · exact Drw.Rows.put h4 (fun d hd => by rw [h2 d hd]; omega) (fun i u hu => by simpa using hrow i u hu) (fun off ho => hoth off (by simpa using ho))
theorem RowI.done {w : World} {B n s : Nat} {cs : List (List Value)} (h : RowI w B n s cs n) (hn : cs.length = n) : Drw.Rows w (.slice (some ⟨B, 0, none⟩) n n) s cs ∧ B < w.heap.size ∧ ∀ o, w.frozen? ⟨B, o, none⟩ = false := by
  obtain ⟨ds, h1, h2, h3, h4, h5, h6⟩ := h
  have : ds = cs := by
    apply List.ext_getElem?
    intro k
    by_cases hk : k < n
    · exact h3 k hk
    · rw [List.getElem?_eq_none (by omega), List.getElem?_eq_none (by omega)]
  subst this
  exact ⟨h4, h5, h6⟩
theorem madeCells_s {z : Array Value} {n k j s : Nat} {u : Value} (hz : z.size = s) (hk : k < n) (hj : z[j]? = some u) : (madeCells z (n * s))[k * s + j]? = some u := by
  have hj8 : j < s := by have := (Array.getElem?_eq_some_iff.1 hj).1; omega
  have hlt : k * s + j < n * s := by
    have : (k + 1) * s ≤ n * s := Nat.mul_le_mul_right s hk
    rw [Nat.add_mul] at this; omega
  have : (k * s + j) % s = j := by rw [Nat.mul_comm, Nat.mul_add_mod, Nat.mod_eq_of_lt hj8]
  simp [madeCells, hlt, hz, this]
  have hjz : j < z.size := by omega
  simpa [hjz] using hj
theorem RowI.made (w : World) (n s : Nat) (ty : TypeId) (cs : List (List Value)) (hn : n ≤ maxLen) {z : Array Value} (hz : z.size = s) : RowI (w.alloc (.cells (madeCells z (n * s)) ty)) w.heap.size n s cs 0 := by
  refine ⟨List.replicate n z.toList, by simp, fun d hd => ?_, fun k hk => absurd hk (by omega), ⟨_, n, by simp, by simp, hn, .inr ⟨w.heap.size, 0, rfl, fun k c hk j u hj => ?_⟩⟩, by simp, fun o => by simp⟩
  · obtain ⟨-, rfl⟩ := List.mem_replicate.1 hd; simpa using hz
  · rw [List.getElem?_replicate] at hk
    split at hk
    · rename_i hkn
      cases hk
      rw [World.cell?_alloc_new, Nat.zero_add]
      exact madeCells_s hz hkn (by simpa using hj)
    · cases hk
theorem RowI.held {w : World} {B n : Nat} (h : B < w.heap.size ∧ ∀ o, w.frozen? ⟨B, o, none⟩ = false) {B0 : Nat} (hB : B0 ≤ B) : HeldB w B0 (.slice (some ⟨B, 0, none⟩) n n) := by
  intro b o n' cap e hn
  cases e
  exact ⟨hB, rfl, h.1, h.2⟩

theorem makeRgts (n : Nat) (hn : n ≤ 1048576) (w : World) : (Instr.makeSlice 30 (.int .i64 (n : Int)) (.int .i64 (n : Int))).run Tryz.prog w = .ok (.slice (some ⟨w.heap.size, 0, none⟩) n n) (w.alloc (.cells (madeCells (Value.agg #[.int .i64 0, .int .i64 0, .bool false, .bool false, .bool false]).cells (n * 5)) 35)) := by
  obtain ⟨i0, hi, hz0, hz1, hz2⟩ := info_parts info_rgt
  have := run_make (P := Tryz.prog) w 30 35 i0 _ Tryz.underlying30 hi hz0 .i64 .i64 (n : Int) (n : Int) (by omega) (by omega) (by rw [hz2]; omega) (by omega)
  rw [hz1] at this
  simpa using this
theorem makeInts (n : Nat) (hn : n ≤ 1048576) (w : World) : (Instr.makeSlice 31 (.int .i64 (n : Int)) (.int .i64 (n : Int))).run Tryz.prog w = .ok (.slice (some ⟨w.heap.size, 0, none⟩) n n) (w.alloc (.cells (madeCells (Value.int .i64 0).cells n) 3)) := by
  obtain ⟨i0, hi, hz0, hz1, hz2⟩ := info_parts info_int
  have := run_make (P := Tryz.prog) w 31 3 i0 _ Tryz.underlying31 hi hz0 .i64 .i64 (n : Int) (n : Int) (by omega) (by omega) (by rw [hz2]; omega) (by omega)
  rw [hz1] at this
  simpa using this
theorem makeThgsL (n : Nat) (hn : n ≤ 1048576) (w : World) : (Instr.makeSlice 23 (.int .i64 (n : Int)) (.int .i64 (n : Int))).run Tryz.prog w = .ok (.slice (some ⟨w.heap.size, 0, none⟩) n n) (w.alloc (.cells (madeCells (Value.agg #[.int .i64 0, .int .i64 0, .int .i64 0, .int .i64 0, .int .i64 0, .slice none 0 0, .slice none 0 0, .int .i64 0]).cells (n * 8)) 33)) := by
  obtain ⟨i0, hi, hz0, hz1, hz2⟩ := info_parts info_thg
  have := run_make (P := Tryz.prog) w 23 33 i0 _ Tryz.underlying23 hi hz0 .i64 .i64 (n : Int) (n : Int) (by omega) (by omega) (by rw [hz2]; omega) (by omega)
  rw [hz1] at this
  simpa using this

set_option maxRecDepth 100000 in
set_option maxHeartbeats 1000000 in
theorem toLabel_c (l : Lab) (w : World) : Calls Tryz.prog 77 #[l.val] w fun e w' => e = .returned l.val ∧ Below w.heap.size w w' := by
  obtain ⟨s, v⟩ := l
  dsimp only [Lab.val]
  go_enter Tryz.func77, Tryz.ntmps77
  go_wp2
  refine bodyPost_ret (v := .agg #[.int .i64 s, .int .i64 v]) ?_ rfl ⟨rfl, (by (repeat (with_reducible first | exact Below.refl _ _ | refine Below.alloc ?_ ?_ _ | refine below_drewN ?_ _ | refine Below.drew ?_ | refine Below.setCell ?_ ?_ _ | refine Below.trans ?_ (Below.mono (by assumption) ?_))) <;> (first | omega | (simp; try omega)))⟩
  simp [results, Tryz.results77, go_sem, *]

set_option maxRecDepth 100000 in
set_option maxHeartbeats 1000000 in
theorem toRight_c (r : Rgt) (w : World) : Calls Tryz.prog 99 #[r.val] w fun e w' => e = .returned r.val ∧ Below w.heap.size w w' := by
  obtain ⟨a, b, c, d, e⟩ := r
  dsimp only [Rgt.val]
  go_enter Tryz.func99, Tryz.ntmps99
  go_wp2
  refine bodyPost_ret (v := .agg #[.int .i64 a, .int .i64 b, .bool c, .bool d, .bool e]) ?_ rfl ⟨rfl, (by (repeat (with_reducible first | exact Below.refl _ _ | refine Below.alloc ?_ ?_ _ | refine below_drewN ?_ _ | refine Below.drew ?_ | refine Below.setCell ?_ ?_ _ | refine Below.trans ?_ (Below.mono (by assumption) ?_))) <;> (first | omega | (simp; try omega)))⟩
  simp [results, Tryz.results99, go_sem, *]

set_option maxRecDepth 100000 in
set_option maxHeartbeats 2000000 in
theorem toIntS_c (v : Value) (xs : List Int) (w : World) (h : IntsAt w v xs) (hl : xs.length ≤ 1048576) :
    Calls Tryz.prog 79 #[v] w fun e w' => ∃ v', e = .returned v' ∧ IntsAt w' v' xs ∧ HeldB w' w.heap.size v' ∧ Below w.heap.size w w' := by
  obtain ⟨p, cap, rfl, h1, h2⟩ := h.len
  unfold maxLen at h2
  have hmk := makeInts xs.length hl
  have H := Lib.hid h
  clear h
  go_enter Tryz.func79, Tryz.ntmps79
  go_wp2
  go_loopw [4] (fun s4 wr => ∃ j : Nat, s4 = .int .i64 (j : Int) ∧ j ≤ xs.length ∧ Below w.heap.size w wr ∧ RowI wr w.heap.size xs.length 1 (xs.map intCells) j) (fun s4 _ => xs.length - (intOf s4).toNat)
  case atStart => exact ⟨0, rfl, by omega, (by (repeat (with_reducible first | exact Below.refl _ _ | refine Below.alloc ?_ ?_ _ | refine below_drewN ?_ _ | refine Below.drew ?_ | refine Below.setCell ?_ ?_ _ | refine Below.trans ?_ (Below.mono (by assumption) ?_))) <;> (first | omega | (simp; try omega))), by have h := RowI.made w xs.length 1 3 (xs.map intCells) (by unfold maxLen; omega) (z := (Value.int .i64 0).cells) rfl; rw [Nat.mul_one] at h; exact h⟩
  case round =>
    obtain ⟨j, rfl, hj, hB, hI⟩ := hrel
    by_cases hlt : j < xs.length
    · have h0 : (0 : Int) ≤ (j : Int) := by omega
      have hin : (j : Int) < (xs.length : Int) := by omega
      obtain ⟨x, hx⟩ : ∃ x, xs[j]? = some x := ⟨_, List.getElem?_eq_getElem hlt⟩
      obtain ⟨b, o, rfl, hb, c0⟩ := (H.out.pure hB).at j x hx
      have hlt' := hI.lt
      have f0 := hI.fr j
      obtain ⟨u, d0⟩ := hI.cell (k := j) (i := 0) hlt (by omega)
      simp only [Nat.mul_one, Nat.add_zero] at d0
      have Hx := Lib.hid hx
      clear hx
      go_wp2
      refine ⟨⟨j + 1, by go_num, by omega, (by (repeat (with_reducible first | exact Below.refl _ _ | refine Below.alloc ?_ ?_ _ | refine below_drewN ?_ _ | refine Below.drew ?_ | refine Below.setCell ?_ ?_ _ | refine Below.trans ?_ (Below.mono (by assumption) ?_))) <;> (first | omega | (simp; try omega))), hI.step hlt (c := intCells x) (by simp [Hx.out]) rfl (by simp [World.setCell]) (fun o => by simp) ?_ ?_⟩, by simp [intOf]; omega⟩
      · intro i u hu
        rcases i with _ | i
        all_goals (simp [intCells] at hu)
        all_goals (try subst hu)
        all_goals (simp [cell_set, d0]; done)
      · intro off hoff
        rw [cell_set, if_neg (by intro e; simp only [Addr.mk.injEq] at e; omega)]
    · obtain rfl : j = xs.length := by omega
      go_wp2
      go_ret
      obtain ⟨q1, q2⟩ := hI.done (by simp)
      exact ⟨_, rfl, q1, RowI.held q2 (Nat.le_refl _), hB⟩

set_option maxRecDepth 100000 in
set_option maxHeartbeats 2000000 in
theorem toRightS_c (v : Value) (rs : List Rgt) (w : World) (h : RgtsAt w v rs) (hl : rs.length ≤ 1048576) :
    Calls Tryz.prog 78 #[v] w fun e w' => ∃ v', e = .returned v' ∧ RgtsAt w' v' rs ∧ HeldB w' w.heap.size v' ∧ Below w.heap.size w w' := by
  obtain ⟨p, cap, rfl, h1, h2⟩ := h.len
  unfold maxLen at h2
  have hmk := makeRgts rs.length hl
  have H := Lib.hid h
  clear h
  go_enter Tryz.func78, Tryz.ntmps78
  go_wp2
  go_loopw [4] (fun s4 wr => ∃ j : Nat, s4 = .int .i64 (j : Int) ∧ j ≤ rs.length ∧ Below w.heap.size w wr ∧ RowI wr w.heap.size rs.length 5 (rs.map Rgt.cells) j) (fun s4 _ => rs.length - (intOf s4).toNat)
  case atStart => exact ⟨0, rfl, by omega, (by (repeat (with_reducible first | exact Below.refl _ _ | refine Below.alloc ?_ ?_ _ | refine below_drewN ?_ _ | refine Below.drew ?_ | refine Below.setCell ?_ ?_ _ | refine Below.trans ?_ (Below.mono (by assumption) ?_))) <;> (first | omega | (simp; try omega))), RowI.made w _ 5 _ _ (by unfold maxLen; omega) rfl⟩
  case round =>
    obtain ⟨j, rfl, hj, hB, hI⟩ := hrel
    by_cases hlt : j < rs.length
    · have h0 : (0 : Int) ≤ (j : Int) := by omega
      have hin : (j : Int) < (rs.length : Int) := by omega
      obtain ⟨x, hx⟩ : ∃ x, rs[j]? = some x := ⟨_, List.getElem?_eq_getElem hlt⟩
      obtain ⟨b, o, rfl, hb, c0, c1, c2, c3, c4⟩ := (H.out.pure hB).at j x hx
      have hlt' := hI.lt
      have Hx := Lib.hid hx
      have HI := Lib.hid hI
      clear hx hI
      go_wp2_with (go_at_call 99; refine (toRight_c x _).mono ?_; rintro e w1 ⟨rfl, hb1⟩; have hI1 := HI.out.pure hb1; have hz1 := hb1.size; have hlt1 := hI1.lt; obtain ⟨u0, d0⟩ := hI1.cell (k := j) (i := 0) hlt (by omega); obtain ⟨u1, d1⟩ := hI1.cell (k := j) (i := 1) hlt (by omega); obtain ⟨u2, d2⟩ := hI1.cell (k := j) (i := 2) hlt (by omega); obtain ⟨u3, d3⟩ := hI1.cell (k := j) (i := 3) hlt (by omega); obtain ⟨u4, d4⟩ := hI1.cell (k := j) (i := 4) hlt (by omega); simp only [Nat.add_zero] at d0; have f0 := hI1.fr)
      refine ⟨⟨j + 1, by go_num, by omega, (by (repeat (with_reducible first | exact Below.refl _ _ | refine Below.alloc ?_ ?_ _ | refine below_drewN ?_ _ | refine Below.drew ?_ | refine Below.setCell ?_ ?_ _ | refine Below.trans ?_ (Below.mono (by assumption) ?_))) <;> (first | omega | (simp; try omega))), hI1.step hlt (c := x.cells) (by simp [Hx.out]) rfl (by simp [World.setCell]) (fun o => by simp) ?_ ?_⟩, by simp [intOf]; omega⟩
      · intro i u hu
        rcases i with _ | _ | _ | _ | _ | i
        all_goals (simp [Rgt.cells] at hu)
        all_goals (try subst hu)
        all_goals (simp [cell_set, d0, d1, d2, d3, d4]; done)
      · intro off hoff
        repeat (rw [cell_set, if_neg (by intro e; simp only [Addr.mk.injEq] at e; omega)])
    · obtain rfl : j = rs.length := by omega
      go_wp2
      go_ret
      obtain ⟨q1, q2⟩ := hI.done (by simp)
      exact ⟨_, rfl, q1, RowI.held q2 (Nat.le_refl _), hB⟩

set_option maxRecDepth 100000 in
set_option maxHeartbeats 1000000 in
theorem toThing_c (t : Thg) (sv qv : Value) (w : World) (hs : RgtsAt w sv t.slots) (hq : IntsAt w qv t.queue) (h1 : t.slots.length ≤ 1048576) (h2 : t.queue.length ≤ 1048576) :
    Calls Tryz.prog 50 #[t.val sv qv] w fun e w' => ∃ sv' qv', e = .returned (t.val sv' qv') ∧ RgtsAt w' sv' t.slots ∧ IntsAt w' qv' t.queue ∧ HeldB w' w.heap.size sv' ∧ HeldB w' w.heap.size qv' ∧
      (∀ b c, sv'.ownBlock = some b → qv'.ownBlock = some c → 0 < t.slots.length → 0 < t.queue.length → b ≠ c) ∧ Below w.heap.size w w' := by
  obtain ⟨k, ⟨s, v⟩, ve, nu, sl, qu, tg⟩ := t
  dsimp only [Thg.val] at hs hq h1 h2 ⊢
  go_enter Tryz.func50, Tryz.ntmps50
  go_wp2_with (first
    | (go_at_call 77; refine (toLabel_c ⟨s, v⟩ _).mono ?_; rintro e w0 ⟨rfl, hb0⟩; obtain ⟨hc0, hf0⟩ := bcell hb0; have hy0 : w.heap.size + 2 < w0.heap.size := (by have := hb0.size; (try simp at this); omega); have hy1 : w.heap.size + 1 < w0.heap.size := (by omega); have hy2 : w.heap.size < w0.heap.size := (by omega))
    | (go_at_call 78; refine (toRightS_c _ sl _ (hs.pure (by (repeat (with_reducible first | exact Below.refl _ _ | refine Below.alloc ?_ ?_ _ | refine below_drewN ?_ _ | refine Below.drew ?_ | refine Below.setCell ?_ ?_ _ | refine Below.trans ?_ (Below.mono (by assumption) ?_))) <;> (first | omega | (simp; try omega)))) h1).mono ?_; rintro e w1 ⟨sv', rfl, hS, hH, hb1⟩; obtain ⟨sp, scap, rfl, hsl1, hsl2⟩ := hS.len; obtain ⟨hc1, hf1⟩ := bcell hb1; have hz1 : w.heap.size + 2 < w1.heap.size := (by have := hb1.size; (try simp at this); omega); have hz2 : w.heap.size + 1 < w1.heap.size := (by omega); have hz3 : w.heap.size < w1.heap.size := (by omega))
    | (go_at_call 79; refine (toIntS_c _ qu _ (hq.pure (by (repeat (with_reducible first | exact Below.refl _ _ | refine Below.alloc ?_ ?_ _ | refine below_drewN ?_ _ | refine Below.drew ?_ | refine Below.setCell ?_ ?_ _ | refine Below.trans ?_ (Below.mono (by assumption) ?_))) <;> (first | omega | (simp; try omega)))) h2).mono ?_; rintro e w2 ⟨qv', rfl, hQ, hH2, hb2⟩; obtain ⟨qp, qcap, rfl, hql1, hql2⟩ := hQ.len; obtain ⟨hc2, hf2⟩ := bcell hb2; have hz4 : w.heap.size + 2 < w2.heap.size := (by have := hb2.size; (try simp at this); omega); have hz5 : w.heap.size + 1 < w2.heap.size := (by omega); have hz6 : w.heap.size < w2.heap.size := (by omega)))
  have hg12 : Chg (fun b => b ≤ w.heap.size + 2) w1 w2 := (Chg.setCell (Chg.refl _ w1) (by simp) _).trans (Chg.of_pure hb2)
  have hsz0 : w.heap.size + 3 ≤ w0.heap.size := by have := hb0.size; simp at this; omega
  have hsz1 : w0.heap.size ≤ w1.heap.size := by have := hb1.size; simp at this; omega
  have hsz2 : w1.heap.size ≤ w2.heap.size := hg12.size
  have hHs : HeldB w1 (w.heap.size + 3) (.slice sp sl.length scap) := hH.retag (fun b _ h _ => ⟨by simp [World.setCell] at h; omega, rfl⟩)
  have hHq : HeldB w2 w1.heap.size (.slice qp qu.length qcap) := hH2.retag (fun b _ h _ => ⟨by simpa [World.setCell] using h, rfl⟩)
  have hS2 : RgtsAt w2 (.slice sp sl.length scap) sl := Rows.held hS hHs hg12 (fun b _ h _ => by omega)
  have hHs2 := hHs.chg hg12 (fun b _ h _ => by omega)
  refine bodyPost_ret (v := .agg #[.int .i64 k, .int .i64 s, .int .i64 v, .int .i64 ve, .int .i64 nu, .slice sp sl.length scap, .slice qp qu.length qcap, .int .i64 tg]) ?_ rfl ⟨_, _, rfl, ?_, ?_, ?_, ?_, ?_, ?_⟩
  · simp [results, Tryz.results50, go_sem, *]
  · exact Rows.held hS2 hHs2 (S := fun b => b ≤ w.heap.size + 2) (by (repeat (with_reducible first | exact Chg.refl _ _ | refine Chg.alloc ?_ _ | refine Chg.drew ?_ | refine Chg.drewN ?_ _ | refine Chg.setCell ?_ ?_ _ | refine Chg.trans ?_ (Chg.of_pure (by assumption)))) <;> (first | omega | (simp; done) | (simp; omega))) (fun b _ h _ => by omega)
  · exact Rows.held hQ hHq (S := fun b => b ≤ w.heap.size + 2) (by (repeat (with_reducible first | exact Chg.refl _ _ | refine Chg.alloc ?_ _ | refine Chg.drew ?_ | refine Chg.drewN ?_ _ | refine Chg.setCell ?_ ?_ _ | refine Chg.trans ?_ (Chg.of_pure (by assumption)))) <;> (first | omega | (simp; done) | (simp; omega))) (fun b _ h _ => by omega)
  · exact (hHs2.chg (S := fun b => b ≤ w.heap.size + 2) (by (repeat (with_reducible first | exact Chg.refl _ _ | refine Chg.alloc ?_ _ | refine Chg.drew ?_ | refine Chg.drewN ?_ _ | refine Chg.setCell ?_ ?_ _ | refine Chg.trans ?_ (Chg.of_pure (by assumption)))) <;> (first | omega | (simp; done) | (simp; omega))) (fun b _ h _ => by omega)).retag (fun b _ h _ => ⟨by omega, rfl⟩)
  · exact (hHq.chg (S := fun b => b ≤ w.heap.size + 2) (by (repeat (with_reducible first | exact Chg.refl _ _ | refine Chg.alloc ?_ _ | refine Chg.drew ?_ | refine Chg.drewN ?_ _ | refine Chg.setCell ?_ ?_ _ | refine Chg.trans ?_ (Chg.of_pure (by assumption)))) <;> (first | omega | (simp; done) | (simp; omega))) (fun b _ h _ => by omega)).retag (fun b _ h _ => ⟨by omega, rfl⟩)
  · intro b c hb hc hlb hlc e
    subst e
    have q1 := Held.blk hHs hS (by simpa using hlb) hb
    have q2 := Held.blk hHq hQ (by simpa using hlc) hc
    omega
  · exact (by (repeat (with_reducible first | exact Below.refl _ _ | refine Below.alloc ?_ ?_ _ | refine below_drewN ?_ _ | refine Below.drew ?_ | refine Below.setCell ?_ ?_ _ | refine Below.trans ?_ (Below.mono (by assumption) ?_))) <;> (first | omega | (simp; try omega)))

set_option maxRecDepth 100000 in
set_option maxHeartbeats 2000000 in
theorem toThingS_c {p : Option Addr} {cap : Nat} {ts : List Thg} {w : World} (hT : TabAt w (.slice p ts.length cap) ts) (hn : ts.length ≤ 1048576) (hS : ∀ t ∈ ts, t.slots.length ≤ 1048576 ∧ t.queue.length ≤ 1048576) :
    Calls Tryz.prog 24 #[.slice p ts.length cap] w fun e w' => ∃ q k xs tag, e = .returned (.slice q ts.length k) ∧ OwnTab w' (fun b => w.heap.size ≤ b) tag (.slice q ts.length k) xs ∧ xs.map (·.1) = ts ∧ Below w.heap.size w w' := by
  obtain ⟨_, _, h1, hl1, hl2⟩ := hT.len
  cases h1
  unfold maxLen at hl2
  have hmk := makeThgsL ts.length hn
  have HS := Lib.hid hS
  clear hS
  go_enter Tryz.func24, Tryz.ntmps24
  go_wp2
  go_loopw [4] (fun i wr => ∃ j : Nat, j ≤ ts.length ∧ i = .int .i64 j ∧ Below w.heap.size w wr ∧ w.heap.size < wr.heap.size ∧ CopyInv (fun b => w.heap.size ≤ b) (.slice (some ⟨w.heap.size, 0, none⟩) ts.length ts.length) ts j wr) (fun i _ => ts.length - (intOf i).toNat)
  case atStart =>
    exact ⟨0, Nat.zero_le _, rfl, (by (repeat (with_reducible first | exact Below.refl _ _ | refine Below.alloc ?_ ?_ _ | refine below_drewN ?_ _ | refine Below.drew ?_ | refine Below.setCell ?_ ?_ _ | refine Below.trans ?_ (Below.mono (by assumption) ?_))) <;> (first | omega | (simp; try omega))), by simp, CopyInv.zero (made_tab w ts.length 33 (by unfold maxLen; omega) (z := .agg #[.int .i64 0, .int .i64 0, .int .i64 0, .int .i64 0, .int .i64 0, .slice none 0 0, .slice none 0 0, .int .i64 0]) rfl)⟩
  case round =>
    obtain ⟨j, hj, rfl, hB, hz, hI⟩ := hrel
    by_cases hlt : j < ts.length
    · have h00 : (0 : Int) ≤ (j : Int) := by omega
      have hin : (j : Int) < (ts.length : Int) := by omega
      obtain ⟨t, ht⟩ : ∃ t, ts[j]? = some t := ⟨ts[j], by simp [hlt]⟩
      obtain ⟨b, o, sv, qv, rfl, hbk, hS, hQ, c0, c1, c2, c3, c4, c5, c6, c7⟩ := (hT.pure hB).at j t ht
      have Ht := Lib.hid ht
      have hm := HS.out t (List.mem_of_getElem? ht)
      clear ht
      obtain ⟨_, _, rfl, -, -⟩ := hS.len
      obtain ⟨_, _, rfl, -, -⟩ := hQ.len
      obtain ⟨hms, hmq⟩ := hm
      obtain ⟨⟨x0, x1, x2, x3, x4, x5, x6, x7, g0, g1, g2, g3, g4, g5, g6, g7⟩, hfz⟩ := hI.row hlt
      go_wp2_with (go_at_call 50; refine (toThing_c ⟨t.kind, ⟨t.lab.s, t.lab.v⟩, t.vers, t.num, t.slots, t.queue, t.to⟩ _ _ _ (hS.pure (by (repeat (with_reducible first | exact Below.refl _ _ | refine Below.alloc ?_ ?_ _ | refine below_drewN ?_ _ | refine Below.drew ?_ | refine Below.setCell ?_ ?_ _ | refine Below.trans ?_ (Below.mono (by assumption) ?_))) <;> (first | omega | (simp; try omega)))) (hQ.pure (by (repeat (with_reducible first | exact Below.refl _ _ | refine Below.alloc ?_ ?_ _ | refine below_drewN ?_ _ | refine Below.drew ?_ | refine Below.setCell ?_ ?_ _ | refine Below.trans ?_ (Below.mono (by assumption) ?_))) <;> (first | omega | (simp; try omega)))) hms hmq).mono ?_; rintro e w1 ⟨sv', qv', rfl, hS', hQ', hh1, hh2, hd, hb1⟩; obtain ⟨_, _, rfl, -, -⟩ := hS'.len; obtain ⟨_, _, rfl, -, -⟩ := hQ'.len; obtain ⟨hc1, hf1⟩ := bcell hb1)
      have hszr : wr.heap.size ≤ w1.heap.size := hb1.size
      have hgg : ∀ o, w1.cell? ⟨w.heap.size, o, none⟩ = wr.cell? ⟨w.heap.size, o, none⟩ := fun o => hc1 _ _ hz
      have hBr : Below wr.heap.size wr w1 := hb1
      go_roundw
      case rel =>
        refine ⟨j + 1, by omega, by go_num, (by (repeat (with_reducible first | exact Below.refl _ _ | refine Below.alloc ?_ ?_ _ | refine below_drewN ?_ _ | refine Below.drew ?_ | refine Below.setCell ?_ ?_ _ | refine Below.trans ?_ (Below.mono (by assumption) ?_))) <;> (first | omega | (simp; try omega))), by simp [World.setCell]; omega, ?_⟩
        refine CopyInv.step hI Ht.out hBr (by omega) hS' hQ' hh1 hh2 hd ?_ ?_ ?_ ?_
        · exact (by (repeat (with_reducible first | exact Chg.refl _ _ | refine Chg.alloc ?_ _ | refine Chg.drew ?_ | refine Chg.drewN ?_ _ | refine Chg.setCell ?_ ?_ _ | refine Chg.trans ?_ (Chg.of_pure (by assumption)))) <;> (first | omega | (simp; done) | (simp; omega)))
        · intro o; simp [go_sem]
        · intro i u hu
          rcases i with _ | _ | _ | _ | _ | _ | _ | _ | i
          all_goals (simp [Thg.cells] at hu)
          all_goals (try subst hu)
          all_goals (simp [cell_set, g0, g1, g2, g3, g4, g5, g6, g7, hgg]; done)
        · intro off hoff
          repeat (rw [cell_set, if_neg (by intro e; simp only [Addr.mk.injEq] at e; omega)])
      case measure => simp [intOf]; omega
    · have e : j = ts.length := by omega
      subst e
      obtain ⟨xs, tag, hO, hxs⟩ := hI.done
      go_wp2
      go_ret
      exact ⟨_, _, xs, tag, rfl, hO, hxs, hB⟩

/-- What the bound on what is read says. -/
def Fits (ts : List Thg) : Prop := ts.length ≤ 1048576 ∧ ∀ t ∈ ts, t.slots.length ≤ 1048576 ∧ t.queue.length ≤ 1048576

set_option maxRecDepth 100000 in
theorem szRightS_c (v : Value) (rs : List Rgt) (k : Int) (w : World) (h : RgtsAt w v rs) (hk0 : 0 ≤ k) (hk : k ≤ 1048576) :
    Calls Tryz.prog 75 #[v, .int .i64 k] w fun e w' => ∃ r : Int, e = .returned (.int .i64 r) ∧ r ≤ 1048576 ∧ (0 ≤ r → rs.length ≤ 1048576) ∧ Below w.heap.size w w' := by
  obtain ⟨p, cap, rfl, h1, h2⟩ := h.len
  unfold maxLen at h2
  have hw : IntKind.i64.wrap (k - (rs.length : Int)) = k - (rs.length : Int) := IntWalk.i64_in _ (by omega)
  by_cases hneg : k - (rs.length : Int) < 0
  · go_enter Tryz.func75, Tryz.ntmps75
    go_wp2
    go_ret
    exact ⟨_, rfl, by omega, fun h => absurd h (by omega), (by (repeat (with_reducible first | exact Below.refl _ _ | refine Below.alloc ?_ ?_ _ | refine below_drewN ?_ _ | refine Below.drew ?_ | refine Below.setCell ?_ ?_ _ | refine Below.trans ?_ (Below.mono (by assumption) ?_))) <;> (first | omega | (simp; try omega)))⟩
  · go_enter Tryz.func75, Tryz.ntmps75
    go_wp2
    go_ret
    exact ⟨_, rfl, by omega, fun h => by omega, (by (repeat (with_reducible first | exact Below.refl _ _ | refine Below.alloc ?_ ?_ _ | refine below_drewN ?_ _ | refine Below.drew ?_ | refine Below.setCell ?_ ?_ _ | refine Below.trans ?_ (Below.mono (by assumption) ?_))) <;> (first | omega | (simp; try omega)))⟩

set_option maxRecDepth 100000 in
theorem szIntS_c (v : Value) (rs : List Int) (k : Int) (w : World) (h : IntsAt w v rs) (hk0 : 0 ≤ k) (hk : k ≤ 1048576) :
    Calls Tryz.prog 76 #[v, .int .i64 k] w fun e w' => ∃ r : Int, e = .returned (.int .i64 r) ∧ r ≤ 1048576 ∧ (0 ≤ r → rs.length ≤ 1048576) ∧ Below w.heap.size w w' := by
  obtain ⟨p, cap, rfl, h1, h2⟩ := h.len
  unfold maxLen at h2
  have hw : IntKind.i64.wrap (k - (rs.length : Int)) = k - (rs.length : Int) := IntWalk.i64_in _ (by omega)
  by_cases hneg : k - (rs.length : Int) < 0
  · go_enter Tryz.func76, Tryz.ntmps76
    go_wp2
    go_ret
    exact ⟨_, rfl, by omega, fun h => absurd h (by omega), (by (repeat (with_reducible first | exact Below.refl _ _ | refine Below.alloc ?_ ?_ _ | refine below_drewN ?_ _ | refine Below.drew ?_ | refine Below.setCell ?_ ?_ _ | refine Below.trans ?_ (Below.mono (by assumption) ?_))) <;> (first | omega | (simp; try omega)))⟩
  · go_enter Tryz.func76, Tryz.ntmps76
    go_wp2
    go_ret
    exact ⟨_, rfl, by omega, fun h => by omega, (by (repeat (with_reducible first | exact Below.refl _ _ | refine Below.alloc ?_ ?_ _ | refine below_drewN ?_ _ | refine Below.drew ?_ | refine Below.setCell ?_ ?_ _ | refine Below.trans ?_ (Below.mono (by assumption) ?_))) <;> (first | omega | (simp; try omega)))⟩

set_option maxRecDepth 100000 in
set_option maxHeartbeats 1000000 in
theorem szThing_c (t : Thg) (sv qv : Value) (k : Int) (w : World) (hs : RgtsAt w sv t.slots) (hq : IntsAt w qv t.queue) (hk0 : 0 ≤ k) (hk : k ≤ 1048576) :
    Calls Tryz.prog 49 #[t.val sv qv, .int .i64 k] w fun e w' => ∃ r : Int, e = .returned (.int .i64 r) ∧ r ≤ 1048576 ∧ (0 ≤ r → t.slots.length ≤ 1048576 ∧ t.queue.length ≤ 1048576) ∧ Below w.heap.size w w' := by
  obtain ⟨kd, ⟨s, v⟩, ve, nu, sl, qu, tg⟩ := t
  dsimp only [Thg.val] at hs hq ⊢
  go_enter Tryz.func49, Tryz.ntmps49
  go_upto_region 2 with (go_at_call 75; refine (szRightS_c _ sl k _ (hs.pure (by (repeat (with_reducible first | exact Below.refl _ _ | refine Below.alloc ?_ ?_ _ | refine below_drewN ?_ _ | refine Below.drew ?_ | refine Below.setCell ?_ ?_ _ | refine Below.trans ?_ (Below.mono (by assumption) ?_))) <;> (first | omega | (simp; try omega)))) hk0 hk).mono ?_; rintro e w1 ⟨r, rfl, hr, hrl, hb1⟩; have Hrl := Lib.hid hrl; clear hrl; have hz1 := hb1.size; (try simp at hz1); obtain ⟨hc1, hf1⟩ := bcell hb1; have hz2 : w.heap.size < w1.heap.size := (by omega))
  by_cases hneg : r < 0
  · go_wp2
    go_ret
    exact ⟨_, rfl, by omega, fun h => absurd h (by omega), (by (repeat (with_reducible first | exact Below.refl _ _ | refine Below.alloc ?_ ?_ _ | refine below_drewN ?_ _ | refine Below.drew ?_ | refine Below.setCell ?_ ?_ _ | refine Below.trans ?_ (Below.mono (by assumption) ?_))) <;> (first | omega | (simp; try omega)))⟩
  · go_upto_region 5 with (go_at_call 76; refine (szIntS_c _ qu r _ (hq.pure (by (repeat (with_reducible first | exact Below.refl _ _ | refine Below.alloc ?_ ?_ _ | refine below_drewN ?_ _ | refine Below.drew ?_ | refine Below.setCell ?_ ?_ _ | refine Below.trans ?_ (Below.mono (by assumption) ?_))) <;> (first | omega | (simp; try omega)))) (by omega) hr).mono ?_; rintro e w2 ⟨r2, rfl, hr2, hrl2, hb2⟩; have Hrl2 := Lib.hid hrl2; clear hrl2; have hz3 := hb2.size)
    by_cases hneg2 : r2 < 0
    · go_wp2
      go_ret
      exact ⟨_, rfl, by omega, fun h => absurd h (by omega), (by (repeat (with_reducible first | exact Below.refl _ _ | refine Below.alloc ?_ ?_ _ | refine below_drewN ?_ _ | refine Below.drew ?_ | refine Below.setCell ?_ ?_ _ | refine Below.trans ?_ (Below.mono (by assumption) ?_))) <;> (first | omega | (simp; try omega)))⟩
    · go_wp2
      go_ret
      exact ⟨_, rfl, hr2, fun h => ⟨Hrl.out (by omega), Hrl2.out (by omega)⟩, (by (repeat (with_reducible first | exact Below.refl _ _ | refine Below.alloc ?_ ?_ _ | refine below_drewN ?_ _ | refine Below.drew ?_ | refine Below.setCell ?_ ?_ _ | refine Below.trans ?_ (Below.mono (by assumption) ?_))) <;> (first | omega | (simp; try omega)))⟩

set_option maxRecDepth 100000 in
set_option maxHeartbeats 2000000 in
theorem szThingS_c {p : Option Addr} {cap : Nat} {ts : List Thg} {w : World} (hT : TabAt w (.slice p ts.length cap) ts) :
    Calls Tryz.prog 23 #[.slice p ts.length cap, .int .i64 1048576] w fun e w' => ∃ r : Int, e = .returned (.int .i64 r) ∧ r ≤ 1048576 ∧ (0 ≤ r → Fits ts) ∧ Below w.heap.size w w' := by
  obtain ⟨_, _, h1, hl1, hl2⟩ := hT.len
  cases h1
  unfold maxLen at hl2
  have hw : IntKind.i64.wrap (1048576 - (ts.length : Int)) = 1048576 - (ts.length : Int) := IntWalk.i64_in _ (by omega)
  have HT := Lib.hid hT
  clear hT
  by_cases hneg : 1048576 - (ts.length : Int) < 0
  · go_enter Tryz.func23, Tryz.ntmps23
    go_wp2
    go_ret
    exact ⟨_, rfl, by omega, fun h => absurd h (by omega), (by (repeat (with_reducible first | exact Below.refl _ _ | refine Below.alloc ?_ ?_ _ | refine below_drewN ?_ _ | refine Below.drew ?_ | refine Below.setCell ?_ ?_ _ | refine Below.trans ?_ (Below.mono (by assumption) ?_))) <;> (first | omega | (simp; try omega)))⟩
  · go_enter Tryz.func23, Tryz.ntmps23
    go_wp2
    go_loopw [1, 5] (fun s1 s5 wr => ∃ (j : Nat) (k : Int), s5 = .int .i64 (j : Int) ∧ j ≤ ts.length ∧ s1 = .int .i64 k ∧ 0 ≤ k ∧ k ≤ 1048576 ∧ Below w.heap.size w wr ∧ ∀ i t, i < j → ts[i]? = some t → t.slots.length ≤ 1048576 ∧ t.queue.length ≤ 1048576) (fun _ s5 _ => ts.length - (intOf s5).toNat)
    case atStart => exact ⟨0, _, rfl, by omega, rfl, by omega, by omega, Below.refl _ _, fun i t h => absurd h (by omega)⟩
    case round =>
      obtain ⟨j, k, rfl, hj, rfl, hk0, hk, hB, hA⟩ := hrel
      by_cases hlt : j < ts.length
      · have h00 : (0 : Int) ≤ (j : Int) := by omega
        have hin : (j : Int) < (ts.length : Int) := by omega
        obtain ⟨t, ht⟩ : ∃ t, ts[j]? = some t := ⟨ts[j], by simp [hlt]⟩
        obtain ⟨b, o, sv, qv, rfl, hbk, hS, hQ, c0, c1, c2, c3, c4, c5, c6, c7⟩ := (HT.out.pure hB).at j t ht
        have Ht := Lib.hid ht
        have HA := Lib.hid hA
        have HB := Lib.hid hB
        have hzr := hB.size
        clear ht hA hB
        obtain ⟨_, _, rfl, -, -⟩ := hS.len
        obtain ⟨_, _, rfl, -, -⟩ := hQ.len
        go_upto_region 8 with (go_at_call 49; refine (szThing_c ⟨t.kind, ⟨t.lab.s, t.lab.v⟩, t.vers, t.num, t.slots, t.queue, t.to⟩ _ _ k _ hS hQ hk0 hk).mono ?_; rintro e w1 ⟨r, rfl, hr, hrl, hb1⟩; have Hrl := Lib.hid hrl; clear hrl)
        have HB1 := Lib.hid (HB.out.trans (hb1.mono hzr))
        by_cases hneg2 : r < 0
        · go_wp2
          go_ret
          exact ⟨_, rfl, by omega, fun h => absurd h (by omega), HB1.out⟩
        · go_wp2
          refine ⟨⟨j + 1, r, by go_num, by omega, rfl, by omega, hr, HB1.out, fun i t' hi ht' => ?_⟩, by simp [intOf]; omega⟩
          by_cases hij : i < j
          · exact HA.out i t' hij ht'
          · obtain rfl : i = j := by omega
            have := Ht.out
            rw [ht'] at this
            cases this
            exact Hrl.out (by omega)
      · have hin : ¬ (j : Int) < (ts.length : Int) := by omega
        go_wp2
        go_ret
        refine ⟨_, rfl, hk, fun _ => ⟨by omega, fun t ht => ?_⟩, hB⟩
        obtain ⟨i, hi⟩ := List.mem_iff_getElem?.1 ht
        exact hA i t (by have := (List.getElem?_eq_some_iff.1 hi).1; omega) hi

end Go.Proofs.YtiolplhgpodifaaGreat
