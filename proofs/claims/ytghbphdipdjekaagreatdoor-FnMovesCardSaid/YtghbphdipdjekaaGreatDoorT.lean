/- impl's actions: what each makes of the table, and its answer. Conditions: the table is the call's own; the action's cells are as said. -/
import Derived.Test.YtghbphdipdjekaaGreatDoorS
import Derived.Test.YtghbphdipdjekaaGreatDoorAct
import Derived.StillTailTactics
set_option linter.unusedVariables false
set_option linter.unusedSimpArgs false
namespace Go.Proofs.YtghbphdipdjekaaGreatDoor
open Go.RowKit Drw
attribute [local go_sem] Lab.val Rgt.val Cal.val Thg.val

section
variable {P : Nat → Prop} {tag : Nat → Nat} {A T o n cap : Nat} {xs : List Thx} {c : Cal} {r : Rgt} {w : World} {x : Nat} {t : Thg} {sv qv : Value}

set_option maxRecDepth 100000 in
set_option maxHeartbeats 1000000 in
theorem aread_c (hA : ActAt w A (.slice (some ⟨T, o, none⟩) n cap) c r) (hO : OwnTab w P tag (.slice (some ⟨T, o, none⟩) n cap) xs) (hx : r.thing = (x : Int) + 1) (ht : xs[x]? = some (t, sv, qv)) (hn : n ≤ 65536) :
    Calls Tryz.prog 137 #[.pointer (some ⟨A, 0, none⟩)] w fun e w' => e = .returned (.int .i64 t.num) ∧ ActPost w w' P (.slice (some ⟨T, o, none⟩) n cap) (xs.map (·.1)) := by
  obtain ⟨a0, a1, a2, a3, a4, a5, a6, a7, a8, a9, a10⟩ := hA
  rw [hx] at a6
  obtain ⟨c0, c1, c2, c3, c4, c5, c6, c7⟩ := hO.cells ht
  have hxl : x < n := by rw [hO.len]; exact (List.getElem?_eq_some_iff.1 ht).1
  clear hx ht
  go_enter Tryz.func137, Tryz.ntmps137
  go_wp2_with (go_at_call 156; refine (object_c A T o n cap x _ a0 a6 hxl hn).mono ?_; rintro e w' ⟨rfl, m, rfl⟩)
  go_ret
  exact ⟨rfl, xs, tag, hO.chg (S := fun _ => False) (by (repeat (with_reducible first | exact Chg.refl _ _ | refine Chg.alloc ?_ _ | refine Chg.drew ?_ | refine Chg.drewN ?_ _ | refine Chg.setCell ?_ ?_ _ | refine Chg.trans ?_ (Chg.of_pure (by assumption)))) <;> (first | omega | (simp; done) | (simp; omega))) (fun _ _ _ => id), rfl, (by (repeat (with_reducible first | exact Chg.refl _ _ | refine Chg.alloc ?_ _ | refine Chg.drew ?_ | refine Chg.drewN ?_ _ | refine Chg.setCell ?_ ?_ _ | refine Chg.trans ?_ (Chg.of_pure (by assumption)))) <;> (first | omega | (simp; done) | (simp; omega)))⟩

set_option maxRecDepth 100000 in
set_option maxHeartbeats 1000000 in
theorem awrite_c (hA : ActAt w A (.slice (some ⟨T, o, none⟩) n cap) c r) (hO : OwnTab w P tag (.slice (some ⟨T, o, none⟩) n cap) xs) (hP : ¬ P A) (hx : r.thing = (x : Int) + 1) (ht : xs[x]? = some (t, sv, qv)) (hn : n ≤ 65536) :
    Calls Tryz.prog 138 #[.pointer (some ⟨A, 0, none⟩)] w fun e w' => e = .returned (.int .i64 0) ∧ ActPost w w' P (.slice (some ⟨T, o, none⟩) n cap) (setT (xs.map (·.1)) ((x : Int) + 1) (setNum c.n)) := by
  obtain ⟨a0, a1, a2, a3, a4, a5, a6, a7, a8, a9, a10⟩ := hA
  rw [hx] at a6
  obtain ⟨c0, c1, c2, c3, c4, c5, c6, c7⟩ := hO.cells ht
  obtain ⟨-, hPT, -, -, hf⟩ := hO.pos ht
  have hne : ¬ T = A := by intro e; subst e; exact hP hPT
  have hxl : x < n := by rw [hO.len]; exact (List.getElem?_eq_some_iff.1 ht).1
  have Ht := Lib.hid ht
  clear hx ht
  go_enter Tryz.func138, Tryz.ntmps138
  go_wp2
  go_region_held3 (fun w' => w'.cell? ⟨A, 0, none⟩ = some (.slice (some ⟨T, o, none⟩) n cap) ∧ w'.cell? ⟨A, 6, none⟩ = some (.int .i64 ((x : Int) + 1)) ∧ w'.cell? ⟨A, 5, none⟩ = some (.int .i64 c.n)) (go_keep)
    (first | (go_at_call 156; refine (object_c A T o n cap x _ (by simp [*]) (by simp [*]) hxl hn).mono ?_; rintro e w' ⟨rfl, m, rfl⟩))
  go_wp2
  go_ret
  refine ⟨rfl, ?_⟩
  have hOd : OwnTab (w.drewN (1 + m)) P tag (.slice (some ⟨T, o, none⟩) n cap) xs := hO.chg (S := fun _ => False) (by (repeat (with_reducible first | exact Chg.refl _ _ | refine Chg.alloc ?_ _ | refine Chg.drew ?_ | refine Chg.drewN ?_ _ | refine Chg.setCell ?_ ?_ _ | refine Chg.trans ?_ (Chg.of_pure (by assumption)))) <;> (first | omega | (simp; done) | (simp; omega))) (fun _ _ _ => id)
  have hh := hOd.num Ht.out c.n
  exact ⟨_, _, hh.1, map_set_setT Ht.out rfl, (by (repeat (with_reducible first | exact Chg.refl _ _ | refine Chg.alloc ?_ _ | refine Chg.drew ?_ | refine Chg.drewN ?_ _ | refine Chg.setCell ?_ ?_ _ | refine Chg.trans ?_ (Chg.of_pure (by assumption)))) <;> (first | omega | (simp; done) | (simp; omega)))⟩

theorem and_bits (k : Fin 100) : (bits BinOp.and IntKind.i64 ((k : Nat) : Int) 1 != 0) = odd ((k : Nat) : Int) ∧ (bits BinOp.and IntKind.i64 ((k : Nat) : Int) 2 != 0) = odd (((k : Nat) : Int) / 2) ∧ (bits BinOp.and IntKind.i64 ((k : Nat) : Int) 4 != 0) = odd (((k : Nat) : Int) / 4) := by
  revert k; decide
theorem and_odd {n : Int} (h0 : 0 ≤ n) (h : n ≤ 99) : (bits BinOp.and IntKind.i64 n 1 != 0) = odd n ∧ (bits BinOp.and IntKind.i64 n 2 != 0) = odd (n / 2) ∧ (bits BinOp.and IntKind.i64 n 4 != 0) = odd (n / 4) := by
  obtain ⟨k, rfl⟩ := Int.eq_ofNat_of_zero_le h0
  exact and_bits ⟨k, by omega⟩

set_option maxRecDepth 100000 in
set_option maxHeartbeats 2000000 in
theorem acopy_c {B o' cap' bb j : Nat} (hA : ActAt w A (.slice (some ⟨T, o, none⟩) n cap) c r) (hO : OwnTab w P tag (.slice (some ⟨T, o, none⟩) n cap) xs) (hP : ¬ P A) (hj : c.run = (j : Int) + 1) (ht : xs[j]? = some (t, .slice (some ⟨B, o', none⟩) 4 cap', qv)) (h4 : t.slots.length = 4)
    (hb : c.b = (bb : Int)) (hbb : bb < 4) (hn0 : 0 ≤ c.n) (hn9 : c.n ≤ 99) (hr : rgtOk r = true) (hn : n ≤ 65536) :
    Calls Tryz.prog 139 #[.pointer (some ⟨A, 0, none⟩)] w fun e w' => e = .returned (.int .i64 0) ∧ ActPost w w' P (.slice (some ⟨T, o, none⟩) n cap) (setT (xs.map (·.1)) ((j : Int) + 1) (setSlot (bb : Int) (less1 r (odd c.n) (odd (c.n / 2)) (odd (c.n / 4))))) := by
  obtain ⟨a0, a1, a2, a3, a4, a5, a6, a7, a8, a9, a10⟩ := hA
  rw [hj] at a2
  rw [hb] at a4
  obtain ⟨c0, c1, c2, c3, c4, c5, c6, c7⟩ := hO.cells ht
  obtain ⟨-, hPT, hT0, hTl, hf⟩ := hO.pos ht
  have hBh := hO.slots j _ ht B o' 4 cap' rfl (by decide)
  have hm := (hO.tabx.2 _ (List.mem_of_getElem? ht)).1
  obtain ⟨y, hy⟩ : ∃ y, t.slots[bb]? = some y := ⟨t.slots[bb]'(by omega), by simp [show bb < t.slots.length by omega]⟩
  obtain ⟨b2, o2, e2, -, d0, d1, d2, d3, d4⟩ := hm.at bb y hy
  cases e2
  have hne : ¬ T = A := by intro e; subst e; exact hP hPT
  have hBA : ¬ B = A := by intro e; subst e; exact hP hBh.1
  have hBT : ¬ B = T := by intro e; subst e; have := hBh.2.1; omega
  have hBl := hBh.2.2.1
  have hBf := hBh.2.2.2
  have hAl : A < w.heap.size := World.block_lt_of_cell? w _ a0
  have hxl : j < n := by rw [hO.len]; exact (List.getElem?_eq_some_iff.1 ht).1
  have Ht := Lib.hid ht
  obtain ⟨e1, e2, e3⟩ := and_odd hn0 hn9
  have hl : less r (odd c.n) (odd (c.n / 2)) (odd (c.n / 4)) = less1 r (odd c.n) (odd (c.n / 2)) (odd (c.n / 4)) := by simp [less, hr]
  have Hl := Lib.hid hl
  have hb0 : (0 : Int) ≤ (bb : Int) := by omega
  have hb4 : (bb : Int) < 4 := by omega
  have hw2 : IntKind.i64.wrap (bb : Int) = (bb : Int) := IntWalk.i64_in _ (by omega)
  clear hj ht hy hBh hl hb
  obtain ⟨rt, rv, rrd, rwr, rwk⟩ := r
  dsimp only at a6 a7 a8 a9 a10
  go_enter Tryz.func139, Tryz.ntmps139
  go_wp2
  go_region_held3 (fun w' => w'.cell? ⟨A, 0, none⟩ = some (.slice (some ⟨T, o, none⟩) n cap) ∧ w'.cell? ⟨A, 2, none⟩ = some (.int .i64 ((j : Int) + 1)) ∧ w'.cell? ⟨A, 4, none⟩ = some (.int .i64 (bb : Int)) ∧ w'.cell? ⟨A, 6, none⟩ = some (.int .i64 rt) ∧ w'.cell? ⟨A, 7, none⟩ = some (.int .i64 rv) ∧ w'.cell? ⟨A, 8, none⟩ = some (.bool rrd) ∧ w'.cell? ⟨A, 9, none⟩ = some (.bool rwr) ∧ w'.cell? ⟨A, 10, none⟩ = some (.bool rwk) ∧
      w'.cell? ⟨T, o + j * 8 + 5, none⟩ = some (.slice (some ⟨B, o', none⟩) 4 cap')) (go_keep)
    (first
      | (go_at_call 72; refine (process_c A T o n cap j _ (by simp [*]) (by simp [*]) hxl hn).mono ?_; rintro e w' ⟨rfl, m, rfl⟩)
      | (go_at_call 157; refine (rightLess_c ⟨_, _, _, _, _⟩ _ _ _ _).mono ?_; rw [Hl.out]; rintro e w1 ⟨rfl, hb1⟩; obtain ⟨hc1, hf1⟩ := bcell hb1; have hcA := fun o => hc1 A o (by simpa using hAl); have hcT := fun o => hc1 T o (by simpa using hTl); have hcB := fun o => hc1 B o (by simpa using hBl); have hfB := fun o => hf1 B o (by simpa using hBl); clear hc1 hf1))
  all_goals
    go_wp2
    go_ret
    refine ⟨rfl, ?_⟩
    have hg1 : Chg (fun _ => False) w w1 := Chg.trans (by first | exact Chg.drewN (Chg.refl _ _) _ | exact Chg.drew (Chg.refl _ _) | exact Chg.refl _ _) (Chg.of_pure hb1)
    have hh := (hO.chg hg1 (fun _ _ _ => id)).slot Ht.out (k := bb) (by omega) (less1 ⟨rt, rv, rrd, rwr, rwk⟩ (odd c.n) (odd (c.n / 2)) (odd (c.n / 4)))
    exact ⟨_, _, hh.1, map_set_setT Ht.out rfl, (hg1.mono (fun _ _ => False.elim)).trans hh.2⟩

theorem drewN_alloc (w : World) (n : Nat) (o : Obj) : (w.drewN n).alloc o = (w.alloc o).drewN n := rfl
theorem drewN_setCell (w : World) (n : Nat) (a : Addr) (v : Value) : (w.drewN n).setCell a v = (w.setCell a v).drewN n := rfl
attribute [local go_sem] drewN_alloc drewN_setCell

theorem mod4 {n : Int} (h0 : 0 ≤ n) (h9 : n ≤ 99) : ∃ k : Nat, k < 4 ∧ n % 4 = (k : Int) ∧ n.tmod 4 = (k : Int) ∧ IntKind.i64.wrap (n.tmod 4) = (k : Int) := by
  refine ⟨(n % 4).toNat, by omega, by omega, by rw [Int.tmod_eq_emod_of_nonneg h0]; omega, ?_⟩
  rw [Int.tmod_eq_emod_of_nonneg h0, IntWalk.i64_in _ (by omega)]; omega

set_option maxRecDepth 100000 in
set_option maxHeartbeats 2000000 in
theorem afetch_c {B o' cap' B2 o2 cap2 bb j : Nat} {tr : Thg} {qv2 : Value} (hA : ActAt w A (.slice (some ⟨T, o, none⟩) n cap) c r) (hO : OwnTab w P tag (.slice (some ⟨T, o, none⟩) n cap) xs) (hP : ¬ P A) (hx : r.thing = (x : Int) + 1) (ht : xs[x]? = some (t, .slice (some ⟨B, o', none⟩) 4 cap', qv)) (h4 : t.slots.length = 4)
    (hj : c.run = (j : Int) + 1) (htr : xs[j]? = some (tr, .slice (some ⟨B2, o2, none⟩) 4 cap2, qv2)) (h42 : tr.slots.length = 4)
    (hb : c.b = (bb : Int)) (hbb : bb < 4) (hn0 : 0 ≤ c.n) (hn9 : c.n ≤ 99) (hr : ∀ y ∈ t.slots, rgtOk y = true) (hup : ∀ b, w.heap.size ≤ b → P b) (hn : n ≤ 65536) :
    Calls Tryz.prog 140 #[.pointer (some ⟨A, 0, none⟩)] w fun e w' => e = .returned (.int .i64 0) ∧ ActPost w w' P (.slice (some ⟨T, o, none⟩) n cap) (setT (xs.map (·.1)) ((j : Int) + 1) (setSlot (bb : Int) (if r.wk then less1 (getR t (c.n % 4)) true false false else getR t (c.n % 4)))) := by
  obtain ⟨kk, hkk, m1, m2, m3⟩ := mod4 hn0 hn9
  obtain ⟨y, hy⟩ : ∃ y, t.slots[kk]? = some y := ⟨t.slots[kk]'(by omega), by simp [show kk < t.slots.length by omega]⟩
  have hgy : getR t (c.n % 4) = y := by simp [getR, m1, hy]
  have hyo := hr y (List.mem_of_getElem? hy)
  rw [hgy]
  obtain ⟨a0, a1, a2, a3, a4, a5, a6, a7, a8, a9, a10⟩ := hA
  rw [hj] at a2
  rw [hb] at a4
  rw [hx] at a6
  obtain ⟨-, -, -, -, -, c5, -, -⟩ := hO.cells ht
  obtain ⟨-, -, -, -, -, f5, -, -⟩ := hO.cells htr
  obtain ⟨-, hPT, hT0, hTl, hf⟩ := hO.pos ht
  have hBh := hO.slots x _ ht B o' 4 cap' rfl (by decide)
  have hBh2 := hO.slots j _ htr B2 o2 4 cap2 rfl (by decide)
  have hm := (hO.tabx.2 _ (List.mem_of_getElem? ht)).1
  have hm2 := (hO.tabx.2 _ (List.mem_of_getElem? htr)).1
  obtain ⟨b2, o3, e2, -, d0, d1, d2, d3, d4⟩ := hm.at kk y hy
  cases e2
  obtain ⟨z, hz⟩ : ∃ z, tr.slots[bb]? = some z := ⟨tr.slots[bb]'(by omega), by simp [show bb < tr.slots.length by omega]⟩
  obtain ⟨b2, o3, e2, -, g0, g1, g2, g3, g4⟩ := hm2.at bb z hz
  cases e2
  have hne : ¬ T = A := by intro e; subst e; exact hP hPT
  have hBA : ¬ B2 = A := by intro e; subst e; exact hP hBh2.1
  have hBT : ¬ B2 = T := by intro e; subst e; have := hBh2.2.1; omega
  have hBl := hBh.2.2.1
  have hBl2 := hBh2.2.2.1
  have hBf := hBh2.2.2.2
  have hAl : A < w.heap.size := World.block_lt_of_cell? w _ a0
  have hxl : x < n := by rw [hO.len]; exact (List.getElem?_eq_some_iff.1 ht).1
  have hjl : j < n := by rw [hO.len]; exact (List.getElem?_eq_some_iff.1 htr).1
  have Htr := Lib.hid htr
  have hl : less y true false false = less1 y true false false := by simp [less, hyo]
  have Hl := Lib.hid hl
  have hb0 : (0 : Int) ≤ (bb : Int) := by omega
  have hb4 : (bb : Int) < 4 := by omega
  have hk0 : (0 : Int) ≤ (kk : Int) := by omega
  have hk4 : (kk : Int) < 4 := by omega
  have hw2 : IntKind.i64.wrap (bb : Int) = (bb : Int) := IntWalk.i64_in _ (by omega)
  have hw3 : IntKind.i64.wrap (kk : Int) = (kk : Int) := IntWalk.i64_in _ (by omega)
  clear hj ht htr hy hz hBh hBh2 hl hb hx hgy hr m1
  obtain ⟨rt, rv, rrd, rwr, rwk⟩ := r
  obtain ⟨yt, yv, yrd, ywr, ywk⟩ := y
  dsimp only at a6 a7 a8 a9 a10 d0 d1 d2 d3 d4
  go_enter Tryz.func140, Tryz.ntmps140
  go_upto_region 1 with (fail)
  go_cut [3] (fun s3 wx => ∃ Q, s3 = .pointer (some ⟨Q, 0, none⟩) ∧ w.heap.size ≤ Q ∧ Below w.heap.size w wx ∧ (wx.cell? ⟨Q, 0, none⟩ = some (.int .i64 yt) ∧ wx.cell? ⟨Q, 1, none⟩ = some (.int .i64 yv) ∧ wx.cell? ⟨Q, 2, none⟩ = some (.bool yrd) ∧ wx.cell? ⟨Q, 3, none⟩ = some (.bool ywr) ∧ wx.cell? ⟨Q, 4, none⟩ = some (.bool ywk)) ∧ ∀ j, wx.frozen? ⟨Q, j, none⟩ = false)
  case first =>
    go_region_held3 (fun w' => w'.cell? ⟨A, 0, none⟩ = some (.slice (some ⟨T, o, none⟩) n cap) ∧ w'.cell? ⟨A, 6, none⟩ = some (.int .i64 ((x : Int) + 1)) ∧ w'.cell? ⟨A, 5, none⟩ = some (.int .i64 c.n) ∧ w'.cell? ⟨T, o + x * 8 + 5, none⟩ = some (.slice (some ⟨B, o', none⟩) 4 cap') ∧ w'.cell? ⟨B, o' + kk * 5, none⟩ = some (.int .i64 yt) ∧ w'.cell? ⟨B, o' + kk * 5 + 1, none⟩ = some (.int .i64 yv) ∧ w'.cell? ⟨B, o' + kk * 5 + 2, none⟩ = some (.bool yrd) ∧ w'.cell? ⟨B, o' + kk * 5 + 3, none⟩ = some (.bool ywr) ∧ w'.cell? ⟨B, o' + kk * 5 + 4, none⟩ = some (.bool ywk))
      (go_keep) (first | (go_at_call 156; refine (object_c A T o n cap x _ (by simp [*]) (by simp [*]) hxl hn).mono ?_; rintro e w' ⟨rfl, m, rfl⟩))
    all_goals
      go_wp2
      go_meet
      refine ⟨w.heap.size, rfl, Nat.le_refl _, (by (repeat (with_reducible first | exact Below.refl _ _ | refine Below.alloc ?_ ?_ _ | refine below_drewN ?_ _ | refine Below.drew ?_ | refine Below.setCell ?_ ?_ _ | refine Below.trans ?_ (Below.mono (by assumption) ?_))) <;> (first | omega | (simp; try omega))), ?_, ?_⟩
      · simp [cell_set]
      · intro j; simp [go_sem]
  case rest =>
    obtain ⟨Q, rfl, hQ, hBx, ⟨q0, q1, q2, q3, q4⟩, hqf⟩ := hcut
    obtain ⟨wx, rfl⟩ : ∃ wx : World, wx = wc := ⟨_, rfl⟩
    obtain ⟨hcx, hfx⟩ := bcell hBx
    rw [← hcx _ _ hAl] at a0 a2 a4 a10
    rw [← hcx _ _ hTl] at f5
    rw [← hcx _ _ hBl2] at g0 g1 g2 g3 g4
    have hfB : ∀ j, wx.frozen? ⟨B2, j, none⟩ = false := fun j => (hfx _ _ hBl2).trans (hBf j)
    have hQl : Q < wx.heap.size := World.block_lt_of_cell? wx _ q0
    have hAx : A < wx.heap.size := World.block_lt_of_cell? wx _ a0
    have hTx : T < wx.heap.size := World.block_lt_of_cell? wx _ f5
    have hBx2 : B2 < wx.heap.size := World.block_lt_of_cell? wx _ g0
    have hQA : ¬ A = Q := by intro e; omega
    have hQT : ¬ T = Q := by intro e; omega
    have hQB : ¬ B2 = Q := by intro e; omega
    have hAQ : ¬ Q = A := by intro e; omega
    have hTQ : ¬ Q = T := by intro e; omega
    have hOx := hO.pure hBx
    have hPQ := hup Q hQ
    clear hcx hfx hBf d0 d1 d2 d3 d4 c5 a1 a3 a5 a6 a7 a8 a9
    cases rwk with
    | false =>
      go_upto_region 4 with (fail)
      go_region_held3 (fun w' => w'.cell? ⟨A, 0, none⟩ = some (.slice (some ⟨T, o, none⟩) n cap) ∧ w'.cell? ⟨A, 2, none⟩ = some (.int .i64 ((j : Int) + 1)) ∧ w'.cell? ⟨A, 4, none⟩ = some (.int .i64 (bb : Int)) ∧ w'.cell? ⟨T, o + j * 8 + 5, none⟩ = some (.slice (some ⟨B2, o2, none⟩) 4 cap2) ∧ (w'.cell? ⟨Q, 0, none⟩ = some (.int .i64 yt) ∧ w'.cell? ⟨Q, 1, none⟩ = some (.int .i64 yv) ∧ w'.cell? ⟨Q, 2, none⟩ = some (.bool yrd) ∧ w'.cell? ⟨Q, 3, none⟩ = some (.bool ywr) ∧ w'.cell? ⟨Q, 4, none⟩ = some (.bool ywk)))
        (go_keep) (first | (go_at_call 72; refine (process_c A T o n cap j _ (by simp [*]) (by simp [*]) hjl hn).mono ?_; rintro e w' ⟨rfl, m, rfl⟩))
      all_goals
        go_wp2
        go_ret
        refine ⟨rfl, ?_⟩
        have hh := hOx.slot Htr.out (k := bb) (by omega) ⟨yt, yv, yrd, ywr, ywk⟩
        exact ⟨_, _, hh.1.chg (S := fun _ => False) (by (repeat (with_reducible first | exact Chg.refl _ _ | refine Chg.alloc ?_ _ | refine Chg.drew ?_ | refine Chg.drewN ?_ _ | refine Chg.setCell ?_ ?_ _ | refine Chg.trans ?_ (Chg.of_pure (by assumption)))) <;> (first | omega | (simp; done) | (simp; omega))) (fun _ _ _ => id), map_set_setT Htr.out rfl, (Chg.of_pure hBx).trans (hh.2.trans (by (repeat (with_reducible first | exact Chg.refl _ _ | refine Chg.alloc ?_ _ | refine Chg.drew ?_ | refine Chg.drewN ?_ _ | refine Chg.setCell ?_ ?_ _ | refine Chg.trans ?_ (Chg.of_pure (by assumption)))) <;> (first | omega | (simp; done) | (simp; omega))))⟩
    | true =>
      obtain ⟨⟨zt, zv, zrd, zwr, zwk⟩, hz⟩ : ∃ z, less1 ⟨yt, yv, yrd, ywr, ywk⟩ true false false = z := ⟨_, rfl⟩
      have Hl2 := Lib.hid (Hl.out.trans hz)
      have Hz := Lib.hid hz
      clear hz
      go_upto_region 4 with (go_at_call 157; refine (rightLess_c ⟨_, _, _, _, _⟩ _ _ _ _).mono ?_; rw [Hl2.out]; rintro e w1 ⟨rfl, hb1⟩; obtain ⟨hc1, hf1⟩ := bcell hb1; have hcA := fun o => hc1 A o (by simpa using hAx); have hcT := fun o => hc1 T o (by simpa using hTx); have hcB := fun o => hc1 B2 o (by simpa using hBx2); have hfB1 := fun o => hf1 B2 o (by simpa using hBx2); have hcQ := fun o => hc1 Q o (by simpa using hQl); have hfQ := fun o => hf1 Q o (by simpa using hQl); clear hc1 hf1)
      go_region_held3 (fun w' => w'.cell? ⟨A, 0, none⟩ = some (.slice (some ⟨T, o, none⟩) n cap) ∧ w'.cell? ⟨A, 2, none⟩ = some (.int .i64 ((j : Int) + 1)) ∧ w'.cell? ⟨A, 4, none⟩ = some (.int .i64 (bb : Int)) ∧ w'.cell? ⟨T, o + j * 8 + 5, none⟩ = some (.slice (some ⟨B2, o2, none⟩) 4 cap2) ∧ (w'.cell? ⟨Q, 0, none⟩ = some (.int .i64 zt) ∧ w'.cell? ⟨Q, 1, none⟩ = some (.int .i64 zv) ∧ w'.cell? ⟨Q, 2, none⟩ = some (.bool zrd) ∧ w'.cell? ⟨Q, 3, none⟩ = some (.bool zwr) ∧ w'.cell? ⟨Q, 4, none⟩ = some (.bool zwk)))
        ((simp [*, cell_set])) (first | (go_at_call 72; refine (process_c A T o n cap j _ (by simp [*]) (by simp [*]) hjl hn).mono ?_; rintro e w' ⟨rfl, m, rfl⟩))
      all_goals
        go_wp2
        go_ret
        refine ⟨rfl, ?_⟩
        have hg1 : Chg (fun b => b = Q) wx w1 := Chg.of_pure hb1
        have hg2 : Chg (fun b => b = Q) wx (((((w1.setCell ⟨Q, 0, none⟩ (.int .i64 zt)).setCell ⟨Q, 1, none⟩ (.int .i64 zv)).setCell ⟨Q, 2, none⟩ (.bool zrd)).setCell ⟨Q, 3, none⟩ (.bool zwr)).setCell ⟨Q, 4, none⟩ (.bool zwk)) := (((((hg1.setCell rfl _).setCell rfl _).setCell rfl _).setCell rfl _).setCell rfl _)
        have hOy := hO.chg ((Chg.of_pure hBx).trans (hg2.mono (T := fun b => w.heap.size ≤ b) (fun b _ e => by subst e; exact hQ))) (fun b _ h1 h2 => by omega)
        have hh := hOy.slot Htr.out (k := bb) (by omega) ⟨zt, zv, zrd, zwr, zwk⟩
        rw [Hz.out]
        exact ⟨_, _, hh.1.chg (S := fun _ => False) (by (repeat (with_reducible first | exact Chg.refl _ _ | refine Chg.alloc ?_ _ | refine Chg.drew ?_ | refine Chg.drewN ?_ _ | refine Chg.setCell ?_ ?_ _ | refine Chg.trans ?_ (Chg.of_pure (by assumption)))) <;> (first | omega | (simp; done) | (simp; omega))) (fun _ _ _ => id), map_set_setT Htr.out rfl, (Chg.of_pure hBx).trans ((hg2.mono (fun b _ e => by subst e; exact hPQ)).trans (hh.2.trans (by (repeat (with_reducible first | exact Chg.refl _ _ | refine Chg.alloc ?_ _ | refine Chg.drew ?_ | refine Chg.drewN ?_ _ | refine Chg.setCell ?_ ?_ _ | refine Chg.trans ?_ (Chg.of_pure (by assumption)))) <;> (first | omega | (simp; done) | (simp; omega)))))⟩

set_option maxRecDepth 100000 in
set_option maxHeartbeats 2000000 in
theorem astore_c {B o' cap' B2 o2 cap2 bb j : Nat} {tr : Thg} {qv2 : Value} (hA : ActAt w A (.slice (some ⟨T, o, none⟩) n cap) c r) (hO : OwnTab w P tag (.slice (some ⟨T, o, none⟩) n cap) xs) (hP : ¬ P A) (hx : r.thing = (x : Int) + 1) (ht : xs[x]? = some (t, .slice (some ⟨B, o', none⟩) 4 cap', qv)) (h4 : t.slots.length = 4)
    (hj : c.run = (j : Int) + 1) (htr : xs[j]? = some (tr, .slice (some ⟨B2, o2, none⟩) 4 cap2, qv2)) (h42 : tr.slots.length = 4) (hxj : x ≠ j)
    (hb : c.b = (bb : Int)) (hbb : bb < 4) (hn0 : 0 ≤ c.n) (hn9 : c.n ≤ 99) (hn : n ≤ 65536) :
    Calls Tryz.prog 141 #[.pointer (some ⟨A, 0, none⟩)] w fun e w' => e = .returned (.int .i64 0) ∧ ActPost w w' P (.slice (some ⟨T, o, none⟩) n cap) (setT (xs.map (·.1)) ((x : Int) + 1) (setSlot (c.n % 4) (getR tr c.b))) := by
  obtain ⟨kk, hkk, m1, m2, m3⟩ := mod4 hn0 hn9
  obtain ⟨y, hy⟩ : ∃ y, t.slots[kk]? = some y := ⟨t.slots[kk]'(by omega), by simp [show kk < t.slots.length by omega]⟩
  obtain ⟨z, hz⟩ : ∃ z, tr.slots[bb]? = some z := ⟨tr.slots[bb]'(by omega), by simp [show bb < tr.slots.length by omega]⟩
  have hgz : getR tr c.b = z := by simp [getR, hb, hz]
  rw [hgz, m1]
  obtain ⟨a0, a1, a2, a3, a4, a5, a6, a7, a8, a9, a10⟩ := hA
  rw [hj] at a2
  rw [hb] at a4
  rw [hx] at a6
  obtain ⟨-, -, -, -, -, c5, -, -⟩ := hO.cells ht
  obtain ⟨-, -, -, -, -, f5, -, -⟩ := hO.cells htr
  obtain ⟨-, hPT, hT0, hTl, hf⟩ := hO.pos ht
  have hBh := hO.slots x _ ht B o' 4 cap' rfl (by decide)
  have hBh2 := hO.slots j _ htr B2 o2 4 cap2 rfl (by decide)
  have hm := (hO.tabx.2 _ (List.mem_of_getElem? ht)).1
  have hm2 := (hO.tabx.2 _ (List.mem_of_getElem? htr)).1
  obtain ⟨b2, o3, e2, -, d0, d1, d2, d3, d4⟩ := hm.at kk y hy
  cases e2
  obtain ⟨b2, o3, e2, -, g0, g1, g2, g3, g4⟩ := hm2.at bb z hz
  cases e2
  have hne : ¬ T = A := by intro e; subst e; exact hP hPT
  have hBA : ¬ B = A := by intro e; subst e; exact hP hBh.1
  have hBT : ¬ B = T := by intro e; subst e; have := hBh.2.1; omega
  have hBB : ¬ B = B2 := by intro e; subst e; have h1 := hBh.2.1; have h2 := hBh2.2.1; omega
  have hBf := hBh.2.2.2
  have hxl : x < n := by rw [hO.len]; exact (List.getElem?_eq_some_iff.1 ht).1
  have hjl : j < n := by rw [hO.len]; exact (List.getElem?_eq_some_iff.1 htr).1
  have Ht := Lib.hid ht
  have hb0 : (0 : Int) ≤ (bb : Int) := by omega
  have hb4 : (bb : Int) < 4 := by omega
  have hk0 : (0 : Int) ≤ (kk : Int) := by omega
  have hk4 : (kk : Int) < 4 := by omega
  have hw2 : IntKind.i64.wrap (bb : Int) = (bb : Int) := IntWalk.i64_in _ (by omega)
  have hw3 : IntKind.i64.wrap (kk : Int) = (kk : Int) := IntWalk.i64_in _ (by omega)
  clear hj ht htr hy hz hBh hBh2 hb hx hgz m1
  obtain ⟨zt, zv, zrd, zwr, zwk⟩ := z
  dsimp only at g0 g1 g2 g3 g4
  go_enter Tryz.func141, Tryz.ntmps141
  go_wp2
  go_region_held3 (fun w' => w'.cell? ⟨A, 0, none⟩ = some (.slice (some ⟨T, o, none⟩) n cap) ∧ w'.cell? ⟨A, 2, none⟩ = some (.int .i64 ((j : Int) + 1)) ∧ w'.cell? ⟨A, 6, none⟩ = some (.int .i64 ((x : Int) + 1)) ∧ w'.cell? ⟨A, 5, none⟩ = some (.int .i64 c.n) ∧ w'.cell? ⟨A, 4, none⟩ = some (.int .i64 (bb : Int)) ∧ w'.cell? ⟨T, o + x * 8 + 5, none⟩ = some (.slice (some ⟨B, o', none⟩) 4 cap') ∧ w'.cell? ⟨T, o + j * 8 + 5, none⟩ = some (.slice (some ⟨B2, o2, none⟩) 4 cap2) ∧ w'.cell? ⟨B2, o2 + bb * 5, none⟩ = some (.int .i64 zt) ∧ w'.cell? ⟨B2, o2 + bb * 5 + 1, none⟩ = some (.int .i64 zv) ∧ w'.cell? ⟨B2, o2 + bb * 5 + 2, none⟩ = some (.bool zrd) ∧ w'.cell? ⟨B2, o2 + bb * 5 + 3, none⟩ = some (.bool zwr) ∧ w'.cell? ⟨B2, o2 + bb * 5 + 4, none⟩ = some (.bool zwk))
    (go_keep) (first
      | (go_at_call 156; refine (object_c A T o n cap x _ (by simp [*]) (by simp [*]) hxl hn).mono ?_; rintro e w' ⟨rfl, m, rfl⟩)
      | (go_at_call 72; refine (process_c A T o n cap j _ (by simp [*]) (by simp [*]) hjl hn).mono ?_; rintro e w' ⟨rfl, m, rfl⟩))
  all_goals
    go_wp2
    go_ret
    refine ⟨rfl, ?_⟩
    have hh := hO.slot Ht.out (k := kk) (by omega) ⟨zt, zv, zrd, zwr, zwk⟩
    exact ⟨_, _, hh.1.chg (S := fun _ => False) (by (repeat (with_reducible first | exact Chg.refl _ _ | refine Chg.alloc ?_ _ | refine Chg.drew ?_ | refine Chg.drewN ?_ _ | refine Chg.setCell ?_ ?_ _ | refine Chg.trans ?_ (Chg.of_pure (by assumption)))) <;> (first | omega | (simp; done) | (simp; omega))) (fun _ _ _ => id), map_set_setT Ht.out rfl, hh.2.trans (by (repeat (with_reducible first | exact Chg.refl _ _ | refine Chg.alloc ?_ _ | refine Chg.drew ?_ | refine Chg.drewN ?_ _ | refine Chg.setCell ?_ ?_ _ | refine Chg.trans ?_ (Chg.of_pure (by assumption)))) <;> (first | omega | (simp; done) | (simp; omega)))⟩

end
end Go.Proofs.YtghbphdipdjekaaGreatDoor
