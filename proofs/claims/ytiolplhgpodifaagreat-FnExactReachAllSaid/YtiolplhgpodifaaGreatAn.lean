/- What the program's ReachAll hands back lies in memory of its own, each row in a block of its own. Conditions: the table lies where its cells say. -/
import Derived.Test.YtiolplhgpodifaaGreatAl
set_option linter.unusedVariables false
set_option linter.unusedSimpArgs false
namespace Drw
open Go Go.RowKit
/-- Rows of rights, each in a block of its own. -/
structure AllOwn (w : World) (P : Nat → Prop) (tag : Nat → Nat) (A : Nat) (a : List (List Rgt)) : Prop where
  lt : A < w.heap.size
  row : ∀ (k : Nat) (l : List Rgt), a[k]? = some l → ∃ q c, w.cell? ⟨A, k, none⟩ = some (.slice q l.length c) ∧ RgtsAt w (.slice q l.length c) l ∧ ∀ b, (Value.slice q l.length c).ownBlock = some b → 0 < l.length → P b ∧ b ≠ A ∧ tag b = k ∧ b < w.heap.size ∧ ∀ o, w.frozen? ⟨b, o, none⟩ = false
theorem AllOwn.imp {w : World} {P Q : Nat → Prop} {tag : Nat → Nat} {A : Nat} {a : List (List Rgt)} (h : AllOwn w P tag A a) (hP : ∀ b, P b → b < w.heap.size → Q b) : AllOwn w Q tag A a := by
  refine ⟨h.lt, fun k l hk => ?_⟩
  obtain ⟨q, c, h1, h2, h3⟩ := h.row k l hk
  exact ⟨q, c, h1, h2, fun b hb hn => ⟨hP b (h3 b hb hn).1 (h3 b hb hn).2.2.2.1, (h3 b hb hn).2⟩⟩
theorem AllOwn.chg {w w' : World} {S P : Nat → Prop} {tag : Nat → Nat} {A : Nat} {a : List (List Rgt)} (h : AllOwn w P tag A a) (hg : Chg S w w') (hA : ¬ S A) (hS : ∀ b, P b → b < w.heap.size → ¬ S b) : AllOwn w' P tag A a := by
  refine ⟨Nat.lt_of_lt_of_le h.lt hg.size, fun k l hk => ?_⟩
  obtain ⟨q, c, h1, h2, h3⟩ := h.row k l hk
  refine ⟨q, c, hg.cell h1 hA, ?_, fun b hb hn => ?_⟩
  · by_cases hn : 0 < l.length
    · exact Rows.kept h2 hg (.inr fun b hb => hS b (h3 b hb hn).1 (h3 b hb hn).2.2.2.1)
    · exact Rows.kept h2 hg (.inl (by have : l = [] := List.eq_nil_of_length_eq_zero (by omega); rw [this]; rfl))
  · obtain ⟨g1, g2, g3, g4, g5⟩ := h3 b hb hn
    exact ⟨g1, g2, g3, Nat.lt_of_lt_of_le g4 hg.size, fun o => (World.frozen?_of_block (a := ⟨b, o, none⟩) (hg.block b g4 (hS b g1 g4))).trans (g5 o)⟩
theorem AllOwn.pure {w w' : World} {P : Nat → Prop} {tag : Nat → Nat} {A : Nat} {a : List (List Rgt)} (h : AllOwn w P tag A a) (hb : Below w.heap.size w w') : AllOwn w' P tag A a :=
  h.chg (S := fun _ => False) (Chg.of_pure hb) (fun h => h) (fun _ _ _ h => h)
/-- One row written anew, where it lay. -/
theorem AllOwn.set {w w' : World} {P : Nat → Prop} {tag : Nat → Nat} {A j : Nat} {a : List (List Rgt)} {l l' : List Rgt} {q : Option Addr} {c : Nat} (h : AllOwn w P tag A a) (hj : a[j]? = some l) (hc : w.cell? ⟨A, j, none⟩ = some (.slice q l.length c)) (hl : l'.length = l.length)
    (hg : Chg (fun b => 0 < l.length ∧ (Value.slice q l.length c).ownBlock = some b) w w') (hfz : ∀ b o, w'.frozen? ⟨b, o, none⟩ = w.frozen? ⟨b, o, none⟩) (hR : RgtsAt w' (.slice q l.length c) l') : AllOwn w' P tag A (a.set j l') ∧ Chg P w w' := by
  obtain ⟨q0, c0, h1, h2, h3⟩ := h.row j l hj
  rw [hc] at h1
  cases h1
  have hjl := (List.getElem?_eq_some_iff.1 hj).1
  have hA : ¬ (0 < l.length ∧ (Value.slice q l.length c).ownBlock = some A) := fun e => (h3 A e.2 e.1).2.1 rfl
  refine ⟨⟨Nat.lt_of_lt_of_le h.lt hg.size, fun k m hk => ?_⟩, hg.mono fun b _ hb => (h3 b hb.2 hb.1).1⟩
  rw [List.getElem?_set] at hk
  by_cases e : j = k
  · subst e
    rw [if_pos rfl, if_pos hjl] at hk
    cases hk
    refine ⟨q, c, by rw [hl]; exact hg.cell hc hA, by rw [hl]; exact hR, fun b hb hn => ?_⟩
    rw [hl] at hb hn
    obtain ⟨g1, g2, g3, g4, g5⟩ := h3 b hb hn
    exact ⟨g1, g2, g3, Nat.lt_of_lt_of_le g4 hg.size, fun o => (hfz b o).trans (g5 o)⟩
  · rw [if_neg e] at hk
    obtain ⟨q1, c1, f1, f2, f3⟩ := h.row k m hk
    have hne : ∀ b, (Value.slice q1 m.length c1).ownBlock = some b → 0 < m.length → ¬ (0 < l.length ∧ (Value.slice q l.length c).ownBlock = some b) := fun b hb hn hh => e (((h3 b hh.2 hh.1).2.2.1).symm.trans (f3 b hb hn).2.2.1)
    refine ⟨q1, c1, hg.cell f1 hA, ?_, fun b hb hn => ?_⟩
    · by_cases hn : 0 < m.length
      · exact Rows.kept f2 hg (.inr fun b hb => hne b hb hn)
      · exact Rows.kept f2 hg (.inl (by have : m = [] := List.eq_nil_of_length_eq_zero (by omega); rw [this]; rfl))
    · obtain ⟨g1, g2, g3, g4, g5⟩ := f3 b hb hn
      exact ⟨g1, g2, g3, Nat.lt_of_lt_of_le g4 hg.size, fun o => (hfz b o).trans (g5 o)⟩
end Drw
namespace Go.Proofs.YtiolplhgpodifaaGreat
open Go.RowKit Drw
attribute [local go_sem] Lab.val Rgt.val Cal.val Thg.val

theorem AllOwn.all {w : World} {P : Nat → Prop} {tag : Nat → Nat} {A : Nat} {a : List (List Rgt)} (h : AllOwn w P tag A a) (hf : ∀ j, w.frozen? ⟨A, j, none⟩ = false) : ∀ k l, a[k]? = some l → ∃ q c, w.cell? ⟨A, k, none⟩ = some (.slice q l.length c) ∧ RgtsAt w (.slice q l.length c) l := fun k l hk => by
  obtain ⟨q, c, h1, h2, -⟩ := h.row k l hk; exact ⟨q, c, h1, h2⟩
theorem own_start {w : World} {A n : Nat} {P : Nat → Prop} {tag : Nat → Nat} (h : AllAt w A 0 (List.replicate n [])) : AllOwn w P tag A (List.replicate n []) := by
  refine ⟨h.lt, fun k l hk => ?_⟩
  obtain ⟨q, c, h1, h2, -⟩ := h.row k l hk
  rw [Nat.zero_add] at h1
  refine ⟨q, c, h1, h2, fun b _ hn => ?_⟩
  have hl : l = [] := by
    obtain ⟨g1, g2⟩ := List.getElem?_eq_some_iff.1 hk
    simpa using g2.symm
  subst hl
  simp at hn
theorem own_next {wr w3 : World} {A k lo : Nat} {tag : Nat → Nat} {c : List (List Rgt)} {l : List Rgt} {q : Option Addr} {cc e : Nat} (hA : AllAt wr A 0 c) (h : AllOwn wr (fun b => lo ≤ b) tag A c) (hk : k < c.length) (hlt : A < wr.heap.size) (hb : Below wr.heap.size wr w3)
    (hR : RgtsAt w3 (.slice q l.length cc) l) (ho : w3.ownsRow wr.heap.size e 5 (.slice q l.length cc) l.length ((l.map Rgt.cells).flatten)) (hlo : lo ≤ wr.heap.size := by omega) :
    AllOwn (w3.setCell ⟨A, k, none⟩ (.slice q l.length cc)) (fun b => lo ≤ b) (fun b => if b < wr.heap.size then tag b else k) A (c.set k l) := by
  have h3 := h.pure hb
  have hg : Chg (fun b => b = A) w3 (w3.setCell ⟨A, k, none⟩ (.slice q l.length cc)) := (Chg.refl (fun b => b = A) w3).setCell (S := fun b => b = A) (p := ⟨A, k, none⟩) rfl _
  have hh : HeldB w3 wr.heap.size (.slice q l.length cc) := Held.of_own ho (fun b hb => ⟨(ho.lt b hb).1, rfl⟩)
  refine ⟨Nat.lt_of_lt_of_le h3.lt hg.size, fun j m hj => ?_⟩
  rw [List.getElem?_set] at hj
  by_cases ej : k = j
  · subst ej
    rw [if_pos rfl, if_pos hk] at hj
    cases hj
    obtain ⟨q0, c0, f1, -, -⟩ := h3.row k _ (List.getElem?_eq_getElem hk)
    refine ⟨q, cc, by simp [cell_set, f1], Rows.kept hR hg (.inr fun b hb e => by have := (ho.lt b hb).1; omega), fun b hb hn => ?_⟩
    obtain ⟨x, hx⟩ : ∃ x, l[0]? = some x := ⟨_, List.getElem?_eq_getElem hn⟩
    obtain ⟨b', o', rfl, -, -⟩ := hR.at 0 x hx
    have eb : b' = b := by simpa [Value.ownBlock] using hb
    subst eb
    obtain ⟨g1, -, g3, g4⟩ := hh b' o' _ cc rfl hn
    refine ⟨by omega, by omega, by rw [if_neg (by omega)], Nat.lt_of_lt_of_le g3 hg.size, fun o => by simp [g4 o]⟩
  · rw [if_neg ej] at hj
    obtain ⟨q0, c0, f1, f2, f3⟩ := h3.row j m hj
    obtain ⟨q1, c1, f1', -, f3'⟩ := h.row j m hj
    have : w3.cell? ⟨A, j, none⟩ = some (.slice q1 m.length c1) := (hb.cell (p := ⟨A, j, none⟩) hlt).trans f1'
    rw [f1] at this
    cases this
    refine ⟨q0, c0, by simp [cell_set, f1, ej], ?_, fun b hb' hn => ?_⟩
    · by_cases hn : 0 < m.length
      · exact Rows.kept f2 hg (.inr fun b hb' e => (f3 b hb' hn).2.1 e)
      · exact Rows.kept f2 hg (.inl (by have : m = [] := List.eq_nil_of_length_eq_zero (by omega); rw [this]; rfl))
    · obtain ⟨g1, g2, g3, g4, g5⟩ := f3 b hb' hn
      obtain ⟨-, -, -, g4', -⟩ := f3' b hb' hn
      exact ⟨g1, g2, by rw [if_pos g4']; exact g3, Nat.lt_of_lt_of_le g4 hg.size, fun o => by simp [g5 o]⟩

set_option maxRecDepth 100000 in
set_option maxHeartbeats 4000000 in
theorem greatest_own {p : Option Addr} {cap : Nat} {L : List Rgt} {w : World} (hR : RgtsAt w (.slice p L.length cap) L) (hl : L.length ≤ 400) :
    Calls Tryz.prog 35 #[.slice p L.length cap] w fun e w' => ∃ q c, e = .returned (.slice q (great L).length c) ∧ w'.ownsRow w.heap.size 35 5 (.slice q (great L).length c) (great L).length (((great L).map Rgt.cells).flatten) ∧ Below w.heap.size w w' := by
  obtain ⟨i0, hi0, hz0, hz1, hz2⟩ := info_parts info_rgt
  obtain ⟨p', cap', he, hl1, hl2⟩ := hR.len
  cases he
  unfold maxLen at hl2
  have HR := Lib.hid hR
  clear hR
  go_enter Tryz.func35, Tryz.ntmps35
  go_wp2
  go_loopw [3, 9] (fun s3 s9 wr => ∃ (k : Nat) (G : List Rgt), s9 = .int .i64 (k : Int) ∧ k ≤ L.length ∧ G = (L.take k).filter (fun r => !L.any (grP r)) ∧ G.length ≤ k ∧ wr.ownsRow w.heap.size 35 5 s3 G.length ((G.map Rgt.cells).flatten) ∧ Below w.heap.size w wr) (fun _ s9 _ => L.length - (intOf s9).toNat)
  case atStart => exact ⟨0, [], rfl, by omega, by simp, by simp, World.ownsRow_nil _ _ _ _, Below.refl _ _⟩
  case round =>
    obtain ⟨k, G, rfl, hk, hG, hGl, hown, hB⟩ := hrel
    obtain ⟨q3, c3, rfl⟩ := own_slice_n hown
    have HG := Lib.hid hG
    have Hown := Lib.hid hown
    have HB := Lib.hid hB
    clear hG hown hB
    by_cases hlt : k < L.length
    · have hk0 : (0 : Int) ≤ (k : Int) := by omega
      have hkn : (k : Int) < (L.length : Int) := by omega
      obtain ⟨x, hx⟩ : ∃ x, L[k]? = some x := ⟨_, List.getElem?_eq_getElem hlt⟩
      obtain ⟨v, hv⟩ : ∃ v, L.any (grP x) = v := ⟨_, rfl⟩
      have Hnx := Lib.hid (great_next hx hv)
      have Hv := Lib.hid hv
      obtain ⟨lb, lo, rfl, hlb, c0, c1, c2, c3', c4⟩ := (HR.out.pure HB.out).at k x hx
      clear hx hv
      obtain ⟨x0, x1, x2, x3, x4⟩ := x
      dsimp only at c0 c1 c2 c3' c4
      go_upto_region 5 with (fail)
      generalize hwy : World.alloc _ _ = wy
      have hBy : Below wr.heap.size wr wy := by rw [← hwy]; exact (by (repeat (with_reducible first | exact Below.refl _ _ | refine Below.alloc ?_ ?_ _ | refine below_drewN ?_ _ | refine Below.drew ?_ | refine Below.setCell ?_ ?_ _ | refine Below.trans ?_ (Below.mono (by assumption) ?_))) <;> (first | omega | (simp; try omega)))
      have hzy : wr.heap.size < wy.heap.size := by rw [← hwy]; simp
      have gy : wy.cell? ⟨wr.heap.size, 0, none⟩ = some (.int .i64 x0) ∧ wy.cell? ⟨wr.heap.size, 1, none⟩ = some (.int .i64 x1) ∧ wy.cell? ⟨wr.heap.size, 2, none⟩ = some (.bool x2) ∧ wy.cell? ⟨wr.heap.size, 3, none⟩ = some (.bool x3) ∧ wy.cell? ⟨wr.heap.size, 4, none⟩ = some (.bool x4) := by rw [← hwy]; simp [go_sem]
      have HBy := Lib.hid hBy
      have Gy := Lib.hid gy
      have hz := HB.out.size
      clear hwy hBy gy c0 c1 c2 c3' c4
      cases v
      · go_upto_region 7 with (first
          | (go_at_call 41; refine (containsFunc_g (r := ⟨x0, x1, x2, x3, x4⟩) Gy.out (HR.out.pure (HB.out.trans (HBy.out.mono HB.out.size))) Hv.out).mono ?_; rintro e w2 ⟨rfl, hb2⟩))
        have hz2' := hb2.size
        have g0 := (hb2.cell hzy).trans Gy.out.1
        have g1 := (hb2.cell hzy).trans Gy.out.2.1
        have g2 := (hb2.cell hzy).trans Gy.out.2.2.1
        have g3 := (hb2.cell hzy).trans Gy.out.2.2.2.1
        have g4 := (hb2.cell hzy).trans Gy.out.2.2.2.2
        have hBz : Below wr.heap.size wr w2 := HBy.out.trans (hb2.mono HBy.out.size)
        have HBz := Lib.hid hBz
        have hzz := hBz.size
        clear hb2 hBz
        go_wp2_with (first
          | (at_builtin; refine wpList_append_rows rfl (.tmp 18) (.tmp 20) 30 rfl w.heap.size 35 i0 _ 5 24 Tryz.underlying30 hi0 hz0 hz1 hz2 rfl (by decide) (.slice q3 G.length c3) G.length ((G.map Rgt.cells).flatten) rfl (own_below (own_below Hown.out HBz.out) (by (repeat (with_reducible first | exact Below.refl _ _ | refine Below.alloc ?_ ?_ _ | refine below_drewN ?_ _ | refine Below.drew ?_ | refine Below.setCell ?_ ?_ _ | refine Below.trans ?_ (Below.mono (by assumption) ?_))) <;> (first | omega | (simp; try omega)))) (.slice (some ⟨w2.heap.size, 0, none⟩) 1 1) [Rgt.cells ⟨x0, x1, x2, x3, x4⟩] rfl (flat_rgts [⟨x0, x1, x2, x3, x4⟩]) (Rows.one (by intro i u hu; rcases i with _ | _ | _ | _ | _ | i <;> simp [Rgt.cells] at hu <;> (try subst hu) <;> simp [go_sem])) (by simp [maxLen] <;> omega) (by simp <;> omega) (by simp <;> omega) ?_; intro v4 w4 ho4 hg4)
          | go_in)
        refine ⟨⟨k + 1, G ++ [⟨x0, x1, x2, x3, x4⟩], by go_num, by omega, by rw [Hnx.out, HG.out]; simp, by simp; omega, by simpa using ho4, ?_⟩, by simp [intOf]; omega⟩
        exact (((HB.out.trans (HBz.out.mono hz))).alloc (by omega) _).grown hg4 (by simp; omega) (fun k hk => by have := (Hown.out.lt k hk).1; omega)
      · go_wp2_with (first
          | (go_at_call 41; refine (containsFunc_g (r := ⟨x0, x1, x2, x3, x4⟩) Gy.out (HR.out.pure (HB.out.trans (HBy.out.mono HB.out.size))) Hv.out).mono ?_; rintro e w2 ⟨rfl, hb2⟩))
        have hBz : Below wr.heap.size wr w2 := HBy.out.trans (hb2.mono HBy.out.size)
        exact ⟨⟨k + 1, G, by go_num, by omega, by rw [Hnx.out, HG.out]; simp, by omega, own_below Hown.out hBz, HB.out.trans (hBz.mono hz)⟩, by simp [intOf]; omega⟩
    · have hkn : ¬ (k : Int) < (L.length : Int) := by omega
      obtain rfl : k = L.length := by omega
      have hGe : G = great L := by rw [HG.out, List.take_length]; rfl
      subst hGe
      go_wp2
      go_ret
      exact ⟨q3, c3, rfl, Hown.out, HB.out⟩

/-- What is told of all that can be come to have, in memory of its own. -/
def AllToldO (ts : List Thg) (w : World) (e : Ending) (w' : World) : Prop := ∃ A c a tag, e = .returned (.slice (some ⟨A, 0, none⟩) a.length c) ∧ IsReach ts a ∧ AllOwn w' (fun b => w.heap.size ≤ b) tag A a ∧ w.heap.size ≤ A ∧ Below w.heap.size w w'

set_option maxRecDepth 100000 in
set_option maxHeartbeats 4000000 in
theorem reachAll_own {p : Option Addr} {cap : Nat} {ts : List Thg} {w : World} (hT : TabAt w (.slice p ts.length cap) ts) (ht : tabOk ts = true) :
    Calls Tryz.prog 13 #[.slice p ts.length cap] w (AllToldO ts w) := by
  have h8 := (tab_iff.1 ht).1
  have HT := Lib.hid hT
  have Ht := Lib.hid ht
  obtain ⟨_, _, h1, hl1, hl2⟩ := hT.len
  cases h1
  unfold maxLen at hl2
  clear hT ht
  go_enter Tryz.func13, Tryz.ntmps13
  go_upto_region 5 with (first
    | (go_at_call 32; refine (tableOk_u HT.out Ht.out).mono ?_; rintro e w1 ⟨rfl, hb1⟩; have hz1 := hb1.size; have Hb1 := Lib.hid hb1; clear hb1)
    | (go_at_call 33; refine (newReach_c (HT.out.pure Hb1.out) Ht.out).mono ?_; rintro e w2 ⟨R, rfl, H, hc, sp, bp, a0, hR0⟩; have HR0 := Lib.hid hR0; clear hR0)
    | (go_at_call 34; refine (settle_c HR0.out).mono ?_; rintro e w3 ⟨rfl, a, hR, hG, hS⟩; have HR := Lib.hid hR; have HS := Lib.hid hS; clear hR hG hS))
  have hmk := makeRows ts.length (by omega)
  have hb3 := HR.out.base
  have hz3 := hb3.size
  go_wp2
  clear hmk
  obtain ⟨wm, rfl⟩ : ∃ y : World, y = w3 := ⟨_, rfl⟩
  go_loopw [18] (fun s18 wr => ∃ (k : Nat) (c : List (List Rgt)), s18 = .int .i64 (k : Int) ∧ k ≤ ts.length ∧ Told wm wr wm.heap.size ts a k c ∧ ∃ tag, AllOwn wr (fun b => wm.heap.size ≤ b) tag wm.heap.size c) (fun s18 _ => ts.length - (intOf s18).toNat)
  case atStart => exact ⟨0, _, rfl, by omega, told_start, fun _ => 0, own_start (told_start (a := a)).at'⟩
  case round =>
    obtain ⟨k, c, rfl, hk, hT, tag, hOw⟩ := hrel
    have HOw := Lib.hid hOw
    clear hOw
    have HTo := Lib.hid hT
    have HRr := Lib.hid (HR.out.pure hT.below)
    have hzr := hT.below.size
    have hzA := hT.at'.lt
    clear hT
    by_cases hlt : k < ts.length
    · have hk0 : (0 : Int) ≤ (k : Int) := by omega
      have hkn : (k : Int) < (ts.length : Int) := by omega
      have hw1 : IntKind.i64.wrap ((k : Int) + 1) = (k : Int) + 1 := IntWalk.i64_in _ (by omega)
      have hck : k < c.length := by rw [HTo.out.len]; exact hlt
      obtain ⟨q0, c0, hq0, -, -⟩ := HTo.out.at'.row k _ (List.getElem?_eq_getElem hck)
      rw [Nat.zero_add] at hq0
      have Hq0 := Lib.hid hq0
      have hf0 := HTo.out.at'.fr k
      have Hf0 := Lib.hid hf0
      clear hq0 hf0
      have HRt := Lib.hid (rights_c HRr.out hlt)
      go_wp2_with (first
        | (go_at_call 36; refine HRt.out.mono ?_; rintro e w4 ⟨q, cq, L, rfl, hL, hO, hM, hW, hb4⟩; have hLl : L.length ≤ 400 := listed_len HRr.out hO hM; have HL := Lib.hid hL; have HO := Lib.hid hO; have HM := Lib.hid hM; have Hb4 := Lib.hid hb4; have hz4 := hb4.size; clear hL hO hM hW hb4)
        | (go_at_call 35; refine (greatest_own HL.out hLl).mono ?_; rintro e w5 ⟨q5, c5, rfl, hO5, hb5⟩; have HO5 := Lib.hid hO5; have HR5 := Lib.hid (show RgtsAt w5 (.slice q5 (great L).length c5) (great L) from Rows.of_own (flat_rgts _) (by rw [List.length_map]; exact hO5)); have HW5 := Lib.hid (fun k (hk : (Value.slice q5 (great L).length c5).ownBlock = some k) => (hO5.lt k hk).1); have hB5 := Hb4.out.trans (hb5.mono hz4); have g5 := (hB5.cell hzA).trans Hq0.out; have f5 := ((bcell hB5).2 _ _ hzA).trans Hf0.out; have HB5 := Lib.hid hB5; clear hO5 hb5 hB5))
      exact ⟨⟨k + 1, _, by go_num, by omega, told_next HTo.out hlt rfl HB5.out HR5.out (fun e => by have := HW5.out _ e; omega) HO.out HM.out, _, own_next HTo.out.at' HOw.out hck hzA HB5.out HR5.out (own_mono HO5.out hz4)⟩, by simp [intOf]; omega⟩
    · have hkn : ¬ (k : Int) < (ts.length : Int) := by omega
      obtain rfl : k = ts.length := by omega
      go_wp2
      go_ret
      have hlc := HTo.out.len
      refine ⟨wm.heap.size, ts.length, c, tag, by rw [hlc]; rfl, ?_, HOw.out.imp (fun b h _ => by omega), by omega, (Hb1.out.trans (hb3.mono hz1)).trans (HTo.out.below.mono (by omega))⟩
      refine reach_of_sets Ht.out HR.out.gat (fun i r hg => ?_) hlc HTo.out.row
      have := shut_got HR.out.own HS.out hg
      rwa [show ((i : Int) + 1 - 1).toNat = i by omega] at this

end Go.Proofs.YtiolplhgpodifaaGreat
