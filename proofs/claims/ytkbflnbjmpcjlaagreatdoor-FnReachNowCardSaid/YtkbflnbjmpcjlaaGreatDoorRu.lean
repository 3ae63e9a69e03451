/- Drawn calls, one behind the other: whatever the bytes are, there are such. Conditions: few numbers were drawn so far. -/
import Derived.Test.YtkbflnbjmpcjlaaGreatDoorBl
import Derived.Test.YtkbflnbjmpcjlaaGreatDoorDk
import Derived.Test.YtkbflnbjmpcjlaaGreatDoorQs
import Derived.Test.YtkbflnbjmpcjlaaGreatDoorSe
import Derived.Test.YtkbflnbjmpcjlaaGreatDoorQa
import Derived.Test.YtkbflnbjmpcjlaaGreatDoorQt
set_option linter.unusedVariables false
set_option linter.unusedSimpArgs false
namespace Go.Proofs.YtkbflnbjmpcjlaaGreatDoor
open Go.RowKit Drw
attribute [local go_sem] Lab.val Rgt.val Cal.val Thg.val

/-- A table of its own, and calls collected, beside a reader. -/
def DrawI (w wr : World) (R N : Nat) (v : Value) (n : Nat) (s5 : Value) (m : Nat) : Prop :=
  ∃ (xs : List Thx) (tag : Nat → Nat) (cs : List Cal), OwnTab wr (fun b => w.heap.size ≤ b ∧ s5.ownBlock ≠ some b) tag v xs ∧ tabOk (xs.map (·.1)) = true ∧ xs.length = n ∧ cs.length ≤ m ∧ wr.ownsRow w.heap.size 40 5 s5 cs.length ((cs.map Cal.cells).flatten) ∧ Chg (fun b => b = R) w wr ∧ Rd wr R N

theorem DrawI.pure {w wr wz : World} {R N n m : Nat} {v s5 : Value} (h : DrawI w wr R N v n s5 m) (hb : Below wr.heap.size wr wz) : DrawI w wz R N v n s5 m := by
  obtain ⟨xs, tag, cs, hO, ht, hl, hm, ho, hg, hr⟩ := h
  exact ⟨xs, tag, cs, hO.pure hb, ht, hl, hm, own_below ho hb, hg.trans (Chg.of_pure hb), hr.pure hb⟩
theorem DrawI.mono {w wr : World} {R N M n m m' : Nat} {v s5 : Value} (h : DrawI w wr R N v n s5 m) (hN : N ≤ M) (hm : m ≤ m') : DrawI w wr R M v n s5 m' := by
  obtain ⟨xs, tag, cs, hO, ht, hl, hm', ho, hg, hr⟩ := h
  exact ⟨xs, tag, cs, hO, ht, hl, by omega, ho, hg, hr.mono hN⟩
/-- The reader goes on. -/
theorem DrawI.read {w wr wz : World} {R N M n m : Nat} {v s5 : Value} (h : DrawI w wr R N v n s5 m) (hR : R < w.heap.size) (hg : Chg (fun b => b = R) wr wz) (hr : Rd wz R M) : DrawI w wz R M v n s5 m := by
  obtain ⟨xs, tag, cs, hO, ht, hl, hm', ho, hg', -⟩ := h
  exact ⟨xs, tag, cs, hO.chg hg (fun b hb _ e => by have := hb.1; omega), ht, hl, hm', own_keepS ho hg (fun b hb e => by have := (ho.lt b hb).1; omega), hg'.trans hg, hr⟩
theorem DrawI.size {w wr : World} {R N n m : Nat} {v s5 : Value} (h : DrawI w wr R N v n s5 m) : w.heap.size ≤ wr.heap.size := by
  obtain ⟨-, -, -, -, -, -, -, -, hg, -⟩ := h; exact hg.size
theorem DrawI.rd {w wr : World} {R N n m : Nat} {v s5 : Value} (h : DrawI w wr R N v n s5 m) : Rd wr R N := by
  obtain ⟨-, -, -, -, -, -, -, -, -, hr⟩ := h; exact hr

theorem Chg.transNew {S T : Nat → Prop} {a w w' : World} (h : Chg S a w) (k : Chg T w w') (hn : ∀ b, T b → a.heap.size ≤ b) : Chg S a w' :=
  ⟨k.os.trans h.os, k.tape.trans h.tape, k.output.trans h.output, Nat.le_trans h.size k.size, fun b hb hs => (k.block b (Nat.lt_of_lt_of_le hb h.size) (fun ht => by have := hn b ht; omega)).trans (h.block b hb hs)⟩

/-- One call more is drawn, and done. -/
theorem DrawI.act {w wr w6 w7 : World} {R N n m : Nat} {v s5 v7 : Value} {xs : List Thx} {cs : List Cal} {c : Cal} (hR : R < w.heap.size) (hl : xs.length = n) (hm : cs.length ≤ m) (ho : wr.ownsRow w.heap.size 40 5 s5 cs.length ((cs.map Cal.cells).flatten)) (hg : Chg (fun b => b = R) w wr) (hr : Rd wr R N)
    (hc : CanB (xs.map (·.1)) c) (hA : ActPost wr w6 (fun b => w.heap.size ≤ b ∧ s5.ownBlock ≠ some b) v (do2 (xs.map (·.1)) c).1) (hb : Below w6.heap.size w6 w7) {w8 : World}
    (ho8 : w8.ownsRow w.heap.size 40 5 v7 (cs.length + 1) ((cs.map Cal.cells).flatten ++ Cal.cells c)) (hg8 : w7.grownBy w8 s5.ownBlock) (hat : v7.ownBlock = s5.ownBlock ∨ v7.ownBlock = some w7.heap.size) : DrawI w w8 R N v n v7 (m + 1) := by
  obtain ⟨xs', tag', hO, hx, hgA⟩ := hA
  have hf := do2_fine hc
  have hO7 := hO.pure hb
  have hs7 : w.heap.size ≤ w7.heap.size := Nat.le_trans hg.size (Nat.le_trans hgA.size hb.size)
  have h1 : OwnTab w7 (fun b => (w.heap.size ≤ b ∧ s5.ownBlock ≠ some b) ∧ b < w7.heap.size) tag' v xs' := hO7.imp fun b hb hl => ⟨⟨hb, hl⟩, rfl⟩
  have h2 := h1.chg (Chg.of_grown hg8) (fun b hb _ h => hb.1.2 h.symm)
  have hrow : ∀ b, s5.ownBlock = some b → w.heap.size ≤ b := fun b h => (ho.lt b h).1
  refine ⟨xs', tag', cs ++ [c], h2.imp fun b hb _ => ⟨⟨hb.1.1, fun e => ?_⟩, rfl⟩, by rw [hx]; exact hf.tab, ?_, by simp; omega, by simpa using ho8, ?_, ?_⟩
  · rcases hat with h | h
    · exact hb.1.2 (h ▸ e)
    · rw [h] at e
      have := Option.some.inj e
      omega
  · have h3 := hf.same.len
    rw [← hx, List.length_map, List.length_map] at h3
    omega
  · exact ((Chg.transNew hg hgA (fun b h => h.1)).trans (Chg.of_pure hb)).grownNew hg8 hrow
  · refine ((hr.chg hgA (fun b hb h => by have := h.1; omega)).pure hb).chg (Chg.of_grown hg8) (fun b hb h => by have := hrow b h.symm; omega)

theorem cell_cal (w : World) (c : Cal) (t : TypeId) : ∀ j u, (Cal.cells c)[j]? = some u → (w.alloc (.cells #[.int .i64 c.kind, .int .i64 c.run, .int .i64 c.a, .int .i64 c.b, .int .i64 c.n] t)).cell? ((⟨w.heap.size, 0, none⟩ : Addr).add j) = some u := by
  intro j u hu
  rcases j with _ | _ | _ | _ | _ | j <;> simp [Cal.cells] at hu <;> (try subst hu) <;> simp [addr_add, go_sem]

/-- What is drawn: calls in memory of their own. -/
def CalsNew (w w' : World) (R N : Nat) (e : Ending) : Prop := ∃ (q : Option Addr) (k : Nat) (cs : List Cal), e = .returned (.slice q cs.length k) ∧ (∀ (S : Nat → Prop) (wz : World), Chg S w' wz → (∀ b, w.heap.size ≤ b → ¬ S b) → CalsAt wz (.slice q cs.length k) cs) ∧ cs.length ≤ 25 ∧ Chg (fun b => b = R) w w' ∧ Rd w' R N

set_option maxRecDepth 100000 in
set_option maxHeartbeats 4000000 in
theorem l72Calls_c (R N : Nat) (p : Option Addr) (cap : Nat) (ts : List Thg) (w : World) (h : Rd w R N) (hN : N ≤ 800000) (hT : ∀ wz : World, Chg (fun b => b = R) w wz → TabAt wz (.slice p ts.length cap) ts) (h1 : 1 ≤ ts.length) (h8 : ts.length ≤ 8) (hS : Short ts) :
    Calls Tryz.prog 36 #[.pointer (some ⟨R, 0, none⟩), .slice p ts.length cap] w fun e w' => CalsNew w w' R (N + 2000) e := by
  obtain ⟨i0, hi0, hz0, hz1, hz2⟩ := info_parts info_cal
  have hR := h.lt
  obtain ⟨tok, htok⟩ : ∃ b, tabOk ts = b := ⟨_, rfl⟩
  have Htok := Lib.hid htok
  have HT := Lib.hid hT
  have Hr := Lib.hid h
  clear hT h htok
  cases tok
  · go_enter Tryz.func36, Tryz.ntmps36
    go_wp2_with (first
      | (go_at_call 10; refine (stableOk_t (HT.out _ (Chg.of_pure bel)) Htok.out).mono ?_; rintro e w1 ⟨rfl, hb1⟩; have hBw1 := Lib.hid (show Below w.heap.size w w1 from bel); have hz1' := hb1.size)
      | (go_at_call 73; refine (l71Call_c R N p cap ts _ (Hr.out.pure hBw1.out) (by omega) (fun wz hg => HT.out wz ((Chg.of_pure hBw1.out).trans hg)) (by omega) (by omega)).mono ?_; rintro e w3 ⟨⟨k0, k1, k2, k3, k4⟩, rfl, hg3, hr3⟩))
    go_ret
    refine ⟨_, _, [⟨k0, k1, k2, k3, k4⟩], rfl, fun S wz hg hS => ?_, by simp, ?_, ?_⟩
    · refine Rows.one (c := Cal.cells ⟨k0, k1, k2, k3, k4⟩) (fun j u hj => ?_)
      have h1 := cell_cal w3 ⟨k0, k1, k2, k3, k4⟩ 40 j u hj
      rw [addr_add, Nat.zero_add] at h1
      exact hg.cell h1 (hS _ (by have := hg3.size; have := hBw1.out.size; simp; omega))
    · exact ((Chg.of_pure hBw1.out).trans hg3).trans (Chg.of_pure bel)
    · exact (hr3.pure bel).mono (by omega)
  · have HSh := Lib.hid hS
    have h8' : ts.length ≤ 65536 := by omega
    go_enter Tryz.func36, Tryz.ntmps36
    go_upto_region 2 with (fail)
    generalize hwa : World.alloc _ _ = wa
    have hB0 : Below w.heap.size w wa := by rw [← hwa]; exact bel
    have hlit : wa.ownsRow w.heap.size 40 5 (.slice (some ⟨w.heap.size, 0, none⟩) 0 0) 0 [] := by rw [← hwa]; exact own_lit w.heap.size rfl (Nat.le_refl _)
    have hza : w.heap.size < wa.heap.size := by rw [← hwa]; simp
    have HB0 := Lib.hid hB0
    have Hlit := Lib.hid hlit
    clear hwa hlit hB0
    go_upto_region 5 with (first
      | (go_at_call 10; refine (stableOk_t (HT.out _ (Chg.of_pure HB0.out)) Htok.out).mono ?_; rintro e w1 ⟨rfl, hb1⟩; have hz1' := hb1.size)
      | (go_at_call 38; refine (l3Copy_c p cap ts _ (HT.out _ (Chg.of_pure (HB0.out.trans (hb1.mono HB0.out.size)))) h8' HSh.out).mono ?_; rintro e w2 ⟨v, xs, tag, rfl, hO, hxs, hb2⟩))
    have hB1 : Below wa.heap.size wa w2 := hb1.trans (hb2.mono hz1')
    have hBw2 : Below w.heap.size w w2 := HB0.out.trans (hB1.mono HB0.out.size)
    have hxl : xs.length = ts.length := by rw [← hxs]; simp
    have hI0 : DrawI w w2 R N v ts.length (.slice (some ⟨w.heap.size, 0, none⟩) 0 0) 0 :=
      ⟨xs, tag, [], hO.imp fun b hb _ => ⟨⟨by omega, fun e => by simp [Value.ownBlock] at e; omega⟩, rfl⟩, by rw [hxs]; exact Htok.out, hxl, by simp, own_below Hlit.out hB1, Chg.of_pure hBw2, Hr.out.pure hBw2⟩
    obtain ⟨T, o, cp, rfl⟩ := own_some hO hxs (by omega)
    have HI0 := Lib.hid hI0
    clear hb1 hb2 hz1' hO hxs hB1 hBw2 hI0 hxl
    go_upto_region 6 with (go_at_call 48; refine (pick_p R _ _ _ HI0.out.rd (by omega) (by omega)).mono ?_; rintro e w3 ⟨k3, rfl, h3a, h3b, hr3, hg3⟩)
    have hI3 := HI0.out.read hR hg3 hr3
    obtain ⟨n0, rfl⟩ : ∃ n0 : Nat, k3 = (n0 : Int) := ⟨k3.toNat, by omega⟩
    have HI3 := Lib.hid hI3
    clear hg3 hr3 hI3
    go_wp2
    go_loopw [5, 6, 7] (fun s5 s6 s7 wr => ∃ n : Nat, s6 = .slice (some ⟨T, o, none⟩) ts.length cp ∧ s7 = .int .i64 (n : Int) ∧ n ≤ 23 ∧ DrawI w wr R (N + 1 + 60 * (23 - n)) (.slice (some ⟨T, o, none⟩) ts.length cp) ts.length s5 (23 - n)) (fun _ _ s7 _ => (intOf s7).toNat)
    case atStart => exact ⟨n0, rfl, rfl, by omega, HI3.out.mono (by omega) (by omega)⟩
    case round =>
      obtain ⟨n, rfl, rfl, hn, hI⟩ := hrel
      have HI := Lib.hid hI
      clear hI
      have hrd := HI.out.rd
      have HT6 : Hid (∀ wz, Chg (fun b => b = R) wr wz → ∃ us : List Thg, us.length = ts.length ∧ TabAt wz (.slice (some ⟨T, o, none⟩) ts.length cp) us) := Lib.hid fun wz hgz => by
        obtain ⟨xs, tag, cs, hO, ht, hl, hm, ho, hg, hr⟩ := HI.out
        exact ⟨xs.map (·.1), by simp [hl], (hO.chg hgz (fun b hb _ e => by have := hb.1; omega)).at'⟩
      by_cases hn0 : 0 < n
      · have hng : (0 : Int) < (n : Int) := by omega
        have HC : Hid (Calls Tryz.prog 73 #[.pointer (some ⟨R, 0, none⟩), .slice (some ⟨T, o, none⟩) ts.length cp] wr fun e w' => ∃ c : Cal, e = .returned c.val ∧ Chg (fun b => b = R) wr w' ∧ Rd w' R (N + 1 + 60 * (23 - n) + 60)) := Lib.hid (by
          obtain ⟨xs, tag, cs, hO, ht, hl, hm, ho, hg, hr⟩ := HI.out
          have hxl : (xs.map (·.1)).length = ts.length := by simp [hl]
          have hC := l71Call_c R _ (some ⟨T, o, none⟩) cp (xs.map (·.1)) wr hr (by omega) (fun wz hgz => by rw [hxl]; exact (hO.chg hgz (fun b hb _ e => by have := hb.1; omega)).at') (by omega) (by omega)
          rw [hxl] at hC
          exact hC)
        go_upto_region 9 with (go_at_call 73; refine HC.out.mono ?_; rintro e w4 ⟨⟨k0, k1, k2, k3, k4⟩, rfl, hg4, hr4⟩)
        obtain ⟨xs, tag, cs, hO, ht, hl, hm, ho, hg, hr⟩ := HI.out.read hR hg4 hr4
        obtain ⟨q5, c5, rfl⟩ := own_slice_n ho
        have hI4 : DrawI w w4 R (N + 1 + 60 * (23 - n) + 60) (.slice (some ⟨T, o, none⟩) ts.length cp) ts.length (.slice q5 cs.length c5) (23 - n) := HI.out.read hR hg4 hr4
        generalize hwx : World.alloc w4 _ = wx
        have hBx : Below w4.heap.size w4 wx := by rw [← hwx]; exact bel
        have hX : w4.heap.size < wx.heap.size := by rw [← hwx]; simp
        have d : wx.cell? ⟨w4.heap.size, 0, none⟩ = some (.int .i64 k0) ∧ wx.cell? ⟨w4.heap.size, 1, none⟩ = some (.int .i64 k1) ∧ wx.cell? ⟨w4.heap.size, 2, none⟩ = some (.int .i64 k2) ∧ wx.cell? ⟨w4.heap.size, 3, none⟩ = some (.int .i64 k3) ∧ wx.cell? ⟨w4.heap.size, 4, none⟩ = some (.int .i64 k4) := by rw [← hwx]; simp [go_sem]
        obtain ⟨d0, d1, d2, d3, d4⟩ := d
        have hIx := hI4.pure hBx
        have hw4 : w.heap.size ≤ w4.heap.size := hg.size
        have hOx : OwnTab wx (fun b => (w.heap.size ≤ b ∧ (Value.slice q5 cs.length c5).ownBlock ≠ some b) ∧ b ≠ w4.heap.size) tag (.slice (some ⟨T, o, none⟩) ts.length cp) xs :=
          ((hO.imp (Q := fun b => (w.heap.size ≤ b ∧ (Value.slice q5 cs.length c5).ownBlock ≠ some b) ∧ b < w4.heap.size) (tag' := tag) (fun b hb hl => ⟨⟨hb, hl⟩, rfl⟩)).pure hBx).imp fun b hb _ => ⟨⟨hb.1, by omega⟩, rfl⟩
        have hox := own_below ho hBx
        have hgx := hg.trans (Chg.of_pure (S := fun b => b = R) hBx)
        have hrx := hr.pure hBx
        obtain ⟨cv, hcv⟩ : ∃ b, calOk ⟨k0, k1, k2, k3, k4⟩ = b := ⟨_, rfl⟩
        obtain ⟨ck, hck⟩ : ∃ b, kindAt (xs.map (·.1)) k1 3 = b := ⟨_, rfl⟩
        have Hcv := Lib.hid hcv
        have Hck := Lib.hid hck
        have HOx := Lib.hid hOx
        have Hox := Lib.hid hox
        have Hgx := Lib.hid hgx
        have Hrx := Lib.hid hrx
        have HIx := Lib.hid hIx
        have Hl := Lib.hid hl
        have Ht := Lib.hid ht
        have HRun : Hid (∀ wz, Below wx.heap.size wx wz → Calls Tryz.prog 75 #[.slice (some ⟨T, o, none⟩) ts.length cp, .int .i64 k1] wz fun e w' => e = .returned (.bool ck) ∧ wz = w') := Lib.hid fun wz hb => by
          have hxl : (xs.map (·.1)).length = ts.length := by simp [Hl.out]
          have h := l11Run_t (p := some ⟨T, o, none⟩) (cap := cp) (ts := xs.map (·.1)) (i := k1) (w := wz) (by rw [hxl]; exact (HOx.out.pure hb).at') Hck.out
          rw [hxl] at h
          exact h
        clear hwx hO ht hl ho hg hr hg4 hr4 hI4 hIx hOx hox hgx hrx hcv hck hBx hrd
        cases cv
        · go_wp2_with (go_at_call 74; refine (scallOk_t (c := ⟨_, _, _, _, _⟩) Hcv.out).mono ?_; rintro e w5 ⟨rfl, hb5⟩)
          exact ⟨⟨n - 1, rfl, by congr 1; omega, by omega, (HIx.out.pure hb5).mono (by omega) (by omega)⟩, by simp [intOf]; omega⟩
        · cases ck
          · go_wp2_with (first
              | (go_at_call 74; refine (scallOk_t (c := ⟨_, _, _, _, _⟩) Hcv.out).mono ?_; rintro e w5 ⟨rfl, hb5⟩; obtain ⟨hc5, hf5⟩ := bcell hb5)
              | (go_at_call 75; refine (HRun.out _ hb5).mono ?_; rintro e w6 ⟨rfl, rfl⟩))
            exact ⟨⟨n - 1, rfl, by congr 1; omega, by omega, (HIx.out.pure hb5).mono (by omega) (by omega)⟩, by simp [intOf]; omega⟩
          · have hcan : CanB (xs.map (·.1)) ⟨k0, k1, k2, k3, k4⟩ := canB.1 (by simp only [calCan, Ht.out, Hcv.out, Hck.out]; rfl)
            have Hcan := Lib.hid hcan
            clear hcan
            go_upto_region 10 with (first
              | (go_at_call 74; refine (scallOk_t (c := ⟨_, _, _, _, _⟩) Hcv.out).mono ?_; rintro e w5 ⟨rfl, hb5⟩; obtain ⟨hc5, hf5⟩ := bcell hb5)
              | (go_at_call 75; refine (HRun.out _ hb5).mono ?_; rintro e w6 ⟨rfl, rfl⟩))
            rw [← hc5 _ _ hX] at d0 d1 d2 d3 d4
            have hX5 : w4.heap.size < w5.heap.size := Nat.lt_of_lt_of_le hX hb5.size
            have hw5 : w.heap.size ≤ w5.heap.size := by omega
            have ho5 := own_below Hox.out hb5
            have hD := l12Do_c (HOx.out.pure hb5) (fun b h => ⟨⟨by omega, fun e => by have := (ho5.lt b e).2; omega⟩, by omega⟩) h8' Hcan.out
            have HD := Lib.hid hD
            have Ho5 := Lib.hid ho5
            have Hb5 := Lib.hid hb5
            clear hc5 hf5 hD ho5 hb5
            go_upto_region 12 with (go_at_call 39; refine HD.out.mono ?_; rintro e w6 ⟨rfl, hA⟩)
            obtain ⟨xs6, tag6, hO6, hx6, hg6⟩ := hA
            have hA6 : ActPost w5 w6 (fun b => w.heap.size ≤ b ∧ (Value.slice q5 cs.length c5).ownBlock ≠ some b) (.slice (some ⟨T, o, none⟩) ts.length cp) (do2 (xs.map (·.1)) ⟨k0, k1, k2, k3, k4⟩).1 :=
              ⟨xs6, tag6, hO6.imp fun b hb _ => ⟨hb.1, rfl⟩, hx6, hg6.mono fun b _ hb => hb.1⟩
            have hnX : ¬ ((w.heap.size ≤ w4.heap.size ∧ (Value.slice q5 cs.length c5).ownBlock ≠ some w4.heap.size) ∧ w4.heap.size ≠ w4.heap.size) := fun h => h.2 rfl
            have e0 := hg6.cell d0 hnX
            have e1 := hg6.cell d1 hnX
            have e2 := hg6.cell d2 hnX
            have e3 := hg6.cell d3 hnX
            have e4 := hg6.cell d4 hnX
            have ho6 := own_keepS Ho5.out hg6 (fun b hb h => h.1.2 hb)
            have hw6 : w.heap.size ≤ w6.heap.size := Nat.le_trans hw5 hg6.size
            have HA6 := Lib.hid hA6
            have Ho6 := Lib.hid ho6
            have hX6 : w4.heap.size < w6.heap.size := Nat.lt_of_lt_of_le hX5 hg6.size
            clear hO6 hx6 hg6 hA6 ho6 d0 d1 d2 d3 d4 hnX
            go_wp2_with (first | (at_builtin; refine wpList_append_own_at _ rfl (.tmp 45) (.tmp 47) 42 rfl w.heap.size 40 i0 _ 5 40 Tryz.underlying42 hi0 hz0 hz1 hz2 rfl (by decide) (.slice q5 cs.length c5) cs.length ((cs.map Cal.cells).flatten) rfl (own_below Ho6.out bel) ⟨w6.heap.size, 0, none⟩ 1 1 (Cal.cells ⟨k0, k1, k2, k3, k4⟩) rfl rfl (cell_cal _ ⟨k0, k1, k2, k3, k4⟩ _) (by intro u hu; simp [Cal.cells] at hu; rcases hu with rfl | rfl | rfl | rfl | rfl <;> rfl) (by unfold maxLen; omega) (by omega) (by simp; omega) ?_; intro v8 w8 ho8 hg8 _ hat8))
            have hI8 := DrawI.act hR Hl.out hm Ho5.out (Hgx.out.trans (Chg.of_pure (S := fun b => b = R) Hb5.out)) (Hrx.out.pure Hb5.out) Hcan.out HA6.out (show Below w6.heap.size w6 _ from bel) ho8 hg8 hat8
            have HI8 := Lib.hid hI8
            clear hI8 ho8 hg8 hat8 e0 e1 e2 e3 e4
            go_wp2
            exact ⟨⟨n - 1, rfl, by congr 1; omega, by omega, HI8.out.mono (by omega) (by omega)⟩, by simp [intOf]; omega⟩
      · have hn : n = 0 := by omega
        subst hn
        clear hn0
        obtain ⟨xs, tag, cs, hO, ht, hl, hm, ho, hg, hr⟩ := HI.out
        obtain ⟨q5, c5, rfl⟩ := own_slice_n ho
        clear hO ht hl xs tag hr
        have Ho0 := Lib.hid ho
        have Hg0 := Lib.hid hg
        clear ho hg
        go_upto_region 13 with (fail)
        go_cut [51] (fun s51 wz => ∃ bb : Bool, s51 = .bool bb ∧ wz.ownsRow w.heap.size 40 5 (.slice q5 cs.length c5) cs.length ((cs.map Cal.cells).flatten) ∧ Chg (fun b => b = R) w wz ∧ Rd wz R (N + 1 + 60 * 23 + 1))
        case first =>
          go_wp2_with (go_at_call 48; refine (pick_p R _ _ _ hrd (by omega) (by omega)).mono ?_; rintro e w4 ⟨k4, rfl, h4a, h4b, hr4, hg4⟩)
          go_meet
          exact ⟨_, rfl, own_keepS Ho0.out hg4 (fun b hb e => by have := (Ho0.out.lt b hb).1; omega), Hg0.out.trans hg4, hr4⟩
        case rest =>
          obtain ⟨bb, rfl, ho, hg, hr⟩ := hcut
          obtain ⟨wz', rfl⟩ : ∃ wy : World, wy = wc := ⟨_, rfl⟩
          clear hrd HI HT6 Ho0 Hg0
          have Ho := Lib.hid ho
          have Hg := Lib.hid hg
          cases bb
          · go_wp2
            go_ret
            exact ⟨_, _, cs, rfl, fun S wy hgy hS => Rows.of_own (flat_cals _) (by rw [List.length_map]; exact own_keepS Ho.out hgy (fun b hb => hS b (Ho.out.lt b hb).1)), by omega, Hg.out, hr.mono (by omega)⟩
          · have hwz : w.heap.size ≤ wz'.heap.size := hg.size
            clear ho hg
            go_wp2_with (first
              | (go_at_call 48; first
                | (refine (pick_p R (N + 1 + 60 * 23 + 1) _ _ hr (by omega) (by omega)).mono ?_; rintro e w4 ⟨k4, rfl, h4a, h4b, hr4, hg4⟩)
                | (refine (pick_p R (N + 1 + 60 * 23 + 1 + 1) _ _ hr4 (by omega) (by omega)).mono ?_; rintro e w6 ⟨k6, rfl, h6a, h6b, hr6, hg6⟩; have Ho6 := Lib.hid (own_keepS (own_keepS Ho.out hg4 (fun b hb e => by have := (Ho.out.lt b hb).1; omega)) hg6 (fun b hb e => by have := (Ho.out.lt b hb).1; omega)); have hw6 : w.heap.size ≤ w6.heap.size := (by have := hg4.size; have := hg6.size; omega)))
              | (at_builtin; refine wpList_append_own_at _ rfl (.tmp 52) (.tmp 58) 42 rfl w.heap.size 40 i0 _ 5 40 Tryz.underlying42 hi0 hz0 hz1 hz2 rfl (by decide) (.slice q5 cs.length c5) cs.length ((cs.map Cal.cells).flatten) rfl (own_below Ho6.out bel) ⟨w6.heap.size, 0, none⟩ 1 1 (Cal.cells ⟨k4, k6, 0, 0, 0⟩) rfl rfl (cell_cal _ ⟨k4, k6, 0, 0, 0⟩ _) (by intro u hu; simp [Cal.cells] at hu; rcases hu with rfl | rfl | rfl | rfl | rfl <;> rfl) (by unfold maxLen; omega) (by omega) (by simp; omega) ?_; intro v8 w8 ho8 hg8 _ hat8))
            have ho8' : w8.ownsRow w.heap.size 40 5 v8 (cs ++ ([⟨k4, k6, 0, 0, 0⟩] : List Cal)).length (((cs ++ ([⟨k4, k6, 0, 0, 0⟩] : List Cal)).map Cal.cells).flatten) := by simpa using ho8
            have hrow : ∀ b, (Value.slice q5 cs.length c5).ownBlock = some b → w.heap.size ≤ b := fun b hb => (Ho.out.lt b hb).1
            have hg8' : Chg (fun b => b = R) w w8 := (((Hg.out.trans hg4).trans hg6).alloc _).grownNew hg8 hrow
            have hr8 : Rd w8 R (N + 2000) := (((hr6.pure (show Below w6.heap.size w6 _ from bel)).chg (Chg.of_grown hg8) (fun b hb h => by have := hrow b h.symm; omega))).mono (by omega)
            obtain ⟨q8, c8, rfl⟩ := own_slice_n ho8'
            have Fin := Lib.hid (And.intro ho8' (And.intro hg8' hr8))
            clear ho8 hg8 hat8 ho8' hrow hg8' hr8
            go_wp2
            go_ret
            exact ⟨_, _, cs ++ ([⟨k4, k6, 0, 0, 0⟩] : List Cal), rfl, fun S wy hgy hS => Rows.of_own (flat_cals _) (by rw [List.length_map]; exact own_keepS Fin.out.1 hgy (fun b hb => hS b (Fin.out.1.lt b hb).1)), by simp; omega, Fin.out.2.1, Fin.out.2.2⟩
end Go.Proofs.YtkbflnbjmpcjlaaGreatDoor

/- Drawn runs: whatever the bytes are, there is one. Conditions: the bytes lie where their cells say. -/
namespace Go.Proofs.YtkbflnbjmpcjlaaGreatDoor
open Go.RowKit Drw
attribute [local go_sem] Lab.val Rgt.val Cal.val Thg.val

set_option maxRecDepth 100000 in
set_option maxHeartbeats 4000000 in
theorem drawRunAll_c (p : Option Addr) (n cap : Nat) (w : World) (hc : n ≤ cap) (hb : ∀ i, i < n → ∃ b o, ∃ x : Nat, p = some ⟨b, o, none⟩ ∧ b < w.heap.size ∧ w.cell? ⟨b, o + i, none⟩ = some (.int .u8 (x : Int)) ∧ x < 256) (hn : n ≤ 2 ^ 40) :
    Calls Tryz.prog 13 #[.slice p n cap] w fun e w' => ∃ (q : Option Addr) (k : Nat) (ts : List Thg) (q2 : Option Addr) (k2 : Nat) (cs : List Cal), e = .returned (.tuple #[.slice q ts.length k, .slice q2 cs.length k2]) ∧ TabAt w' (.slice q ts.length k) ts ∧ 3 ≤ ts.length ∧ ts.length ≤ 8 ∧ CalsAt w' (.slice q2 cs.length k2) cs ∧ cs.length ≤ 25 ∧ Below w.heap.size w w' := by
  have Hb := Lib.hid hb
  clear hb
  go_enter Tryz.func13, Tryz.ntmps13
  go_upto_region 2 with (go_at_call 20; refine (open_c p n cap _ hc Hb.out hn).mono ?_; rintro e w1 ⟨rfl, hr1, hb1⟩)
  obtain ⟨R, hRe⟩ : ∃ R, w.heap.size = R := ⟨_, rfl⟩
  rw [hRe] at hr1 ⊢
  have HRe := Lib.hid hRe
  clear hRe
  have hR1 := hr1.lt
  go_upto_region 3 with (go_at_call 19; refine (l71Fine_c R 0 _ hr1 (by omega)).mono ?_; rintro e w2 ⟨v, m, rfl, hm3, hm8, hT⟩)
  obtain ⟨ts, q, k, hl, rfl, hTab, hS, hg2, hr2⟩ := hT.tabS
  subst hl
  clear hT
  have HT2 := Lib.hid (show ∀ wz : World, Chg (fun b => b = R) w2 wz → TabAt wz (.slice q ts.length k) ts from fun wz hg => hTab _ _ hg (fun b hb e => by subst e; omega))
  have HS := Lib.hid hS
  have Hb1 := Lib.hid hb1
  have Hg2 := Lib.hid hg2
  clear hTab hS hb1 hg2
  go_wp2_with (go_at_call 36; refine (l72Calls_c R _ q k ts _ hr2 (by omega) HT2.out (by omega) hm8 HS.out).mono ?_; rintro e w3 ⟨q2, k2, cs, rfl, hC, hcl, hg3, hr3⟩)
  go_ret2
  refine ⟨q, k, ts, q2, k2, cs, rfl, HT2.out _ hg3, hm3, hm8, hC (fun _ => False) _ (Chg.refl _ _) (fun _ _ h => h), hcl, Hb1.out.trans (((Hg2.out.trans hg3).below (B := w.heap.size) Hb1.out.size (fun j hj e => by have := HRe.out; omega)))⟩

end Go.Proofs.YtkbflnbjmpcjlaaGreatDoor

/- What the laws of runs have in common. Conditions: the table and the calls lie where their cells say; errors.errorType is laid. -/
namespace Go.Proofs.YtkbflnbjmpcjlaaGreatDoor
open Go.RowKit Drw

theorem srunAll_t {p : Option Addr} {cap : Nat} {ts : List Thg} {q : Option Addr} {c2 : Nat} {cs : List Cal} {us : List Thg} {zs : List Int} {rok : Bool} {w : World} (hT : TabAt w (.slice p ts.length cap) ts) (hC : CalsAt w (.slice q cs.length c2) cs) (h : runAll ts cs = (us, zs, rok)) :
    Calls Tryz.prog 14 #[.slice p ts.length cap, .slice q cs.length c2] w fun e w' => ∃ p' k p2 k2, e = .returned (.tuple #[.slice p' us.length k, .slice p2 zs.length k2, .bool rok]) ∧ TabAt w' (.slice p' us.length k) us ∧ IntsAt w' (.slice p2 zs.length k2) zs ∧ Below w.heap.size w w' := by
  have := srunAll_c p cap ts q c2 cs w hT hC
  rw [h] at this
  exact this

theorem runAll_t {p : Option Addr} {cap : Nat} {ts : List Thg} {q : Option Addr} {c2 : Nat} {cs : List Cal} {us : List Thg} {zs : List Int} {rok : Bool} {w : World} (hL : Laid w) (hT : TabAt w (.slice p ts.length cap) ts) (hC : CalsAt w (.slice q cs.length c2) cs) (h : runAll ts cs = (us, zs, rok)) :
    Calls Tryz.prog 15 #[.slice p ts.length cap, .slice q cs.length c2] w fun e w' => ∃ p' k p2 k2, e = .returned (.tuple #[.slice p' us.length k, .slice p2 zs.length k2, .bool rok]) ∧ TabAt w' (.slice p' us.length k) us ∧ IntsAt w' (.slice p2 zs.length k2) zs ∧ Below w.heap.size w w' := by
  unfold runAll at h
  cases hcan : runCan ts cs
  · rw [hcan] at h
    cases h
    refine (runAll_no p cap ts q c2 cs w hT hC hcan).mono ?_
    rintro e w' ⟨rfl, hb⟩
    exact ⟨_, _, _, _, rfl, ⟨[], rfl, ⟨_, 0, rfl, by simp, by simp, .inl rfl⟩, fun x hx => by cases hx⟩, ⟨_, 0, rfl, by simp, by simp, .inl rfl⟩, hb⟩
  · rw [hcan] at h
    cases h
    refine (runAll_yes p cap ts q c2 cs w hL hT hC hcan).mono ?_
    rintro e w' ⟨v, v2, rfl, ⟨xs, tag, hO, hx, ho⟩, hb⟩
    have hA := hO.at'
    rw [hx] at hA
    obtain ⟨q', k, rfl, -, -⟩ := hA.len
    obtain ⟨q2, k2, rfl⟩ := own_slice_n ho
    exact ⟨_, _, _, _, rfl, hA, Rows.of_own (flat_ints _) (by rw [List.length_map]; exact ho), hb⟩

theorem runAll_can {ts : List Thg} {cs : List Cal} {us : List Thg} {zs : List Int} (h : runAll ts cs = (us, zs, true)) : runCan ts cs = true := by
  unfold runAll at h
  cases hcan : runCan ts cs
  · rw [hcan] at h; cases h
  · rfl
theorem runAll_do {ts : List Thg} {cs : List Cal} {us : List Thg} {zs : List Int} (h : runAll ts cs = (us, zs, true)) : runDo ts cs = (us, zs) ∧ (tabOk us = true ∧ Same ts us ∧ zs.length = cs.length) := by
  have hcan := runAll_can h
  have hc := runCan_iff.1 hcan
  unfold runAll at h
  rw [hcan] at h
  have h1 : runDo ts cs = (us, zs) := by
    cases h
    rfl
  have h2 := runDo_fine cs hc.1 hc.2.2
  rw [h1] at h2
  exact ⟨h1, h2⟩
end Go.Proofs.YtkbflnbjmpcjlaaGreatDoor
