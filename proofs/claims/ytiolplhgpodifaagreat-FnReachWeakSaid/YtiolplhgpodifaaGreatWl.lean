/- The law that by weak rights alone one never comes to write, walked. Conditions: the bytes lie where their cells say. -/
import Derived.Test.YtiolplhgpodifaaGreatWk
import Derived.Deep.CutBlock
set_option linter.unusedVariables false
set_option linter.unusedSimpArgs false
namespace Go.Proofs.YtiolplhgpodifaaGreat
open Go.RowKit Drw
attribute [local go_sem] Lab.val Rgt.val Cal.val Thg.val

theorem rightLess_k {z0 z1 y0 y1 : Int} {z2 z3 z4 y2 y3 y4 : Bool} {w : World} (h : wkR ⟨z0, z1, z2, z3, z4⟩ = ⟨y0, y1, y2, y3, y4⟩) :
    Calls Tryz.prog 19 #[.agg #[.int .i64 z0, .int .i64 z1, .bool z2, .bool z3, .bool z4], .bool true, .bool true, .bool false] w fun e w' => e = .returned (.agg #[.int .i64 y0, .int .i64 y1, .bool y2, .bool y3, .bool y4]) ∧ Below w.heap.size w w' :=
  (rightLess_c ⟨z0, z1, z2, z3, z4⟩ true true false w).mono fun e w' h' => ⟨by rw [h'.1, show less ⟨z0, z1, z2, z3, z4⟩ true true false = ⟨y0, y1, y2, y3, y4⟩ from h]; rfl, h'.2⟩
structure Wk17 (vx vq : Value) (g h i m : Nat) (z0 z1 y0 y1 : Int) (z2 z3 z4 y2 y3 y4 : Bool) (w0 : World) (d : Nat → Bool) (w : World) (v71 v72 v73 v74 v75 v76 v77 v78 v79 v80 v81 v82 v83 v84 v85 v86 : Value) : Prop where
  chg : Below 0 w0 w
  p0 : d 0 = true → v71 = vx
  p1 : d 1 = true → v72 = .int .i64 (i : Int)
  p2 : d 2 = true → v73 = .pointer (some ⟨g, i * 8, none⟩)
  p3 : d 3 = true → v74 = .pointer (some ⟨g, i * 8 + 5, none⟩)
  p4 : d 4 = true → v75 = vq
  p5 : d 5 = true → v76 = .int .i64 (m : Int)
  p6 : d 6 = true → v77 = vx
  p7 : d 7 = true → v78 = .int .i64 (i : Int)
  p8 : d 8 = true → v79 = .pointer (some ⟨g, i * 8, none⟩)
  p9 : d 9 = true → v80 = .pointer (some ⟨g, i * 8 + 5, none⟩)
  p10 : d 10 = true → v81 = vq
  p11 : d 11 = true → v82 = .int .i64 (m : Int)
  p12 : d 12 = true → v83 = .pointer (some ⟨h, m * 5, none⟩)
  p13 : d 13 = true → v84 = .agg #[.int .i64 z0, .int .i64 z1, .bool z2, .bool z3, .bool z4]
  p14 : d 14 = true → v85 = .agg #[.int .i64 y0, .int .i64 y1, .bool y2, .bool y3, .bool y4]
  p15 : d 15 = true → v86 = .pointer (some ⟨h, m * 5, none⟩)
  x0 : d 16 = false → Below w0.heap.size w0 w
  x1 : d 16 = true → ∃ wq, Below w0.heap.size w0 wq ∧ w = ((((wq.setCell ⟨h, m * 5, none⟩ (.int .i64 y0)).setCell ⟨h, m * 5 + 1, none⟩ (.int .i64 y1)).setCell ⟨h, m * 5 + 2, none⟩ (.bool y2)).setCell ⟨h, m * 5 + 3, none⟩ (.bool y3)).setCell ⟨h, m * 5 + 4, none⟩ (.bool y4)
  z16 : d 16 = true → d 14 = true ∧ d 4 = true ∧ d 10 = true ∧ d 13 = true

theorem reachTo_false {p : Option Addr} {cap n : Nat} {ts : List Thg} {j : Nat} {t : Thg} {k : Int} {w : World} (hn : ts.length = n) (hT : TabAt w (.slice p n cap) (ts.map weakT)) (ht : tabOk ts = true) (hj : ts[j]? = some t) (h3 : t.kind = 3) (hk : ex ts k = true) :
    Calls Tryz.prog 20 #[.slice p n cap, .int .i64 ((j : Int) + 1), .int .i64 k, .bool true] w fun e w' => e = .returned (.bool false) ∧ Below w.heap.size w w' := by
  subst hn
  have hl : (ts.map weakT).length = ts.length := by simp
  rw [← hl] at hT ⊢
  refine (reachTo_yes hT (weak_ok ht) (by rw [hl]; exact (List.getElem?_eq_some_iff.1 hj).1) (by rw [ex_weak]; exact hk)).mono ?_
  intro e w' hto
  obtain ⟨a, hI, he, hb⟩ : ToldTo (ts.map weakT) j k true w e w' := hto
  rw [weak_false ht hI hj h3] at he
  exact ⟨he, hb⟩
theorem set_self {α : Type} {l : List α} {i : Nat} {x : α} (h : l[i]? = some x) : l.set i x = l := by
  apply List.ext_getElem?
  intro k
  rw [List.getElem?_set]
  split
  · rename_i e; subst e; rw [if_pos (List.getElem?_eq_some_iff.1 h).1, h]
  · rfl
set_option maxRecDepth 100000 in
set_option maxHeartbeats 4000000 in
theorem fnReachWeak_c (p : Option Addr) (n cap : Nat) (w : World) (hc : n ≤ cap) (hb : BytesIn w p n) :
    Calls Tryz.prog 8 #[.slice p n cap] w fun e w' => e = .returned (.bool true) ∧ Below w.heap.size w w' := by
  by_cases hbig : n ≤ 1048576
  · have hle : ¬ (1048576 : Int) < (n : Int) := by omega
    have Hb := Lib.hid hb
    clear hb
    go_enter Tryz.func8, Tryz.ntmps8
    go_upto_region 4 with (go_at_call 12; refine (drawReachAll_c p n cap _ hc Hb.out (by omega)).mono ?_; rintro e w1 ⟨q, k, ts, rfl, hT, hl3, hl8, hb1⟩)
    obtain ⟨tk, htk⟩ : ∃ b, tabOk ts = b := ⟨_, rfl⟩
    have Htk := Lib.hid htk
    have HT := Lib.hid hT
    have HB1 := Lib.hid hb1
    clear htk hT hb1 Hb
    cases tk
    · have hund : undef = Value.tuple #[] := rfl
      go_wp2_with (first
        | (go_at_call 13; refine (reachAll_no HT.out Htk.out).mono ?_; rintro e w2 ⟨q2, rfl, hb2⟩; have hz2 := hb2.size)
        | (go_at_call 14; refine (sreachAll_no (HT.out.pure hb2) Htk.out).mono ?_; rintro e w3 ⟨q3, rfl, hb3⟩; have hz3 := hb3.size)
        | (go_at_call 15; refine (stableOk_u (HT.out.pure (hb2.trans (hb3.mono hz2))) Htk.out).mono ?_; rintro e w4 ⟨rfl, hb4⟩; have hz4 := hb4.size))
      go_ret
      exact ⟨rfl, HB1.out.trans (Below.mono (show Below w1.heap.size w1 _ from hb2.trans ((hb3.trans (hb4.mono hz3)).mono hz2)) HB1.out.size)⟩
    · go_upto_region 6 with (first
        | (go_at_call 13; refine (reachAll_yes HT.out Htk.out).mono ?_; rintro e w2 ⟨A, c, a, rfl, hI, hA2, hb2⟩; have hz2 := hb2.size)
        | (go_at_call 14; refine (sreachAll_yes (HT.out.pure hb2) Htk.out).mono ?_; rintro e w3 ⟨A3, c3, a3, rfl, hI3, -, hb3⟩; have hz3 := hb3.size))
      obtain rfl : a3 = a := hI3.eq hI
      have hb13 : Below w1.heap.size w1 w3 := hb2.trans (hb3.mono hz2)
      have HT3 := Lib.hid (HT.out.pure hb13)
      have HA3 := Lib.hid (hA2.pure hb3)
      have HB3 := Lib.hid (HB1.out.trans (hb13.mono HB1.out.size))
      have HI := Lib.hid hI
      have hac := hI.len
      clear hI hI3 hA2 hb2 hb3 hb13 HT HB1
      go_upto_region 8 with (first
        | (go_at_call 15; refine (stableOk_u HT3.out Htk.out).mono ?_; rintro e wx ⟨rfl, hb4⟩; have hz4 := hb4.size))
      have hT := HT3.out.pure hb4
      have hA := HA3.out.pure hb4
      have HB := Lib.hid (HB3.out.trans (hb4.mono HB3.out.size))
      clear HT3 HA3 HB3 hb4 hz4 hz2 hz3
      have HT := Lib.hid hT
      have HA := Lib.hid hA
      clear hT hA
      obtain ⟨j0, hj0, hx0, hx1, hx2⟩ := info_parts info_thg
      obtain ⟨i0, hi0, hz0, hz1, hz2⟩ := info_parts info_rgt
      obtain ⟨xs, hxs, hrow, hth⟩ := HT.out
      have hxl : xs.length = ts.length := by rw [← hxs]; simp
      have hsls : ∀ x ∈ xs, (∃ p n c, x.2.1 = .slice p n c) ∧ ∃ p n c, x.2.2 = .slice p n c := fun x hx => by
        obtain ⟨p, c, e, -, -⟩ := RgtsAt.len (hth x hx).1
        obtain ⟨p2, c2, e2, -, -⟩ := (show IntsAt wx x.2.2 x.1.queue from (hth x hx).2).len
        exact ⟨⟨_, _, _, e⟩, ⟨_, _, _, e2⟩⟩
      have Hfl := Lib.hid (flat_thx xs hsls)
      have Hrow := Lib.hid hrow
      have Hth := Lib.hid hth
      have Hxs := Lib.hid hxs
      obtain ⟨b, o, -, -, hqe, -, -, -, -, -⟩ := row_at HT.out (List.getElem?_eq_getElem (show 0 < ts.length by omega))
      subst hqe
      clear hrow hth hxs hsls
      go_upto_region 9 with (first | (at_builtin; refine wpList_append_rows rfl (.tmp 35) (.tmp 36) 23 rfl wx.heap.size 33 j0 _ 8 96 Tryz.underlying23 hj0 hx0 hx1 hx2 rfl (by decide) (.slice (some ⟨wx.heap.size, 0, none⟩) 0 0) 0 [] rfl (own_lit wx.heap.size rfl (Nat.le_refl _)) (.slice (some ⟨b, o, none⟩) ts.length k) (xs.map Thx.cells) rfl Hfl.out (Rows.pure Hrow.out (by (repeat (with_reducible first | exact Below.refl _ _ | refine Below.alloc ?_ ?_ _ | refine below_drewN ?_ _ | refine Below.drew ?_ | refine Below.setCell ?_ ?_ _ | refine Below.trans ?_ (Below.mono (by assumption) ?_))) <;> (first | omega | (simp; try omega)))) (by simp [maxLen] <;> omega) (by simp <;> omega) (by simp <;> omega) ?_; intro v9 w9 ho9 hg9))
      have hB9 : Below wx.heap.size wx w9 := ((Below.refl _ wx).alloc (Nat.le_refl _) _).grown hg9 (by simp) (fun j hj => by cases hj; exact Nat.le_refl _)
      obtain ⟨g, c9, rfl, hgg, hC9⟩ := CopyAt.of_own (w0 := wx) (w := w9) (B := wx.heap.size) (n := ts.length) (v := v9) (xs := xs) hxl (by omega) Hth.out hB9 (Nat.le_refl _) (by simpa [hxl] using ho9)
      have hz9 := hB9.size
      have HC9 := Lib.hid hC9
      have HB9 := Lib.hid hB9
      have Hxs0 := Lib.hid (show xs.map (·.1) = weakN ts 0 by rw [weakN_zero]; exact Hxs.out)
      clear ho9 hg9 hC9 hB9
      go_wp2
      go_loopw [7] (fun s7 wr => ∃ (i : Nat) (ys : List Thx), s7 = .int .i64 (i : Int) ∧ i ≤ ts.length ∧ ys.length = ts.length ∧ CopyAt wr g c9 ys ∧ ys.map (·.1) = weakN ts i ∧ Below wx.heap.size wx wr) (fun s7 _ => ts.length - (intOf s7).toNat)
      case atStart => exact ⟨0, xs, rfl, by omega, hxl, HC9.out, Hxs0.out, HB9.out⟩
      case round =>
        obtain ⟨i, ys, rfl, hi, hyl, hC, hys, hB⟩ := hrel
        obtain ⟨wi, rfl⟩ : ∃ y : World, y = wr := ⟨_, rfl⟩
        have HTi := Lib.hid (HT.out.pure hB)
        have HBi := Lib.hid hB
        have HCi := Lib.hid hC
        have Hys := Lib.hid hys
        have hzi := hB.size
        have hgl := hC.lt
        clear hB hC hys
        by_cases hlt : i < ts.length
        · have hi0' : (0 : Int) ≤ (i : Int) := by omega
          have hin : (i : Int) < (ts.length : Int) := by omega
          obtain ⟨t, htt⟩ : ∃ t, ts[i]? = some t := ⟨_, List.getElem?_eq_getElem hlt⟩
          obtain ⟨yi, hyi⟩ : ∃ y, ys[i]? = some y := ⟨_, List.getElem?_eq_getElem (by omega)⟩
          have hyt : yi.1 = t := by
            have h1 := weakN_at htt
            rw [← Hys.out, List.getElem?_map, hyi] at h1
            simpa using h1
          have x0 := HCi.out.cell i yi hyi 0 (.int .i64 t.kind) (by rw [← hyt]; simp [Thx.cells, Thg.cells])
          have x5 := HCi.out.cell i yi hyi 5 yi.2.1 (by simp [Thx.cells, Thg.cells])
          have f5 := HCi.out.fr (i * 8 + 5)
          rw [Nat.add_zero] at x0
          have Hyi := Lib.hid hyi
          have Hyt := Lib.hid hyt
          have Htt := Lib.hid htt
          have Hnx := Lib.hid (weakN_next htt)
          obtain ⟨b', o', ps, cs, e', hbl, hS, hs1, hs2, c0, c3, c5⟩ := row_at HTi.out htt
          cases e'
          have hsl : t.slots.length ≤ 4 := slots4 Htk.out htt
          unfold maxLen at hs2
          have HS := Lib.hid hS
          by_cases hk3 : t.kind = 3
          · have hn4 : t.slots.length = 4 := by
              have := tab_thgOk Htk.out (ex_at hlt)
              rw [Drw.getT_at htt] at this
              exact slots_len this (.inr hk3)
            have Hn4 := Lib.hid hn4
            have hkb : (t.kind == 3) = true := by simp [hk3]
            have hkn : (t.kind != 3) = false := by simp [hk3]
            clear htt hyi hyt hS hn4
            go_upto_region 14 with (first | (at_builtin; refine wpList_append_rows rfl (.tmp 52) (.tmp 57) 30 rfl wi.heap.size 35 i0 _ 5 24 Tryz.underlying30 hi0 hz0 hz1 hz2 rfl (by decide) (.slice (some ⟨wi.heap.size, 0, none⟩) 0 0) 0 [] rfl (own_lit wi.heap.size rfl (Nat.le_refl _)) (.slice ps t.slots.length cs) (t.slots.map Rgt.cells) rfl (flat_rgts _) (Rows.pure HS.out (by (repeat (with_reducible first | exact Below.refl _ _ | refine Below.alloc ?_ ?_ _ | refine below_drewN ?_ _ | refine Below.drew ?_ | refine Below.setCell ?_ ?_ _ | refine Below.trans ?_ (Below.mono (by assumption) ?_))) <;> (first | omega | (simp; try omega)))) (by simp [maxLen] <;> omega) (by simp <;> omega) (by simp <;> omega) ?_; intro v10 w10 ho10 hg10; obtain ⟨q10, c10, rfl⟩ := own_slice_n ho10; have hB10 : Below wi.heap.size wi w10 := (((Below.refl _ wi).alloc (Nat.le_refl _) _).grown hg10 (by simp) (fun j hj => by cases hj; exact Nat.le_refl _)); have x5 := (hB10.cell hgl).trans x5; have f5 := ((bcell hB10).2 _ _ hgl).trans f5; have Ho10 := Lib.hid ho10; have HB10 := Lib.hid hB10; clear ho10 hg10 hB10))
            have hR10 : RgtsAt w10 (.slice q10 t.slots.length c10) t.slots := Rows.of_own (flat_rgts _) (by simpa using Ho10.out)
            obtain ⟨h, rfl, hh9, hfrh⟩ : ∃ h, q10 = some ⟨h, 0, none⟩ ∧ wi.heap.size ≤ h ∧ ∀ o, w10.frozen? ⟨h, o, none⟩ = false := by
              obtain ⟨-, ⟨e, h0⟩ | ⟨h, cap', cur, e, hg', hheap, -⟩⟩ := Ho10.out
              · exfalso; simp only [List.length_map] at h0; have := Hn4.out; omega
              · injection e with e1 _ _; exact ⟨h, e1, hg', fun o => by simp [World.frozen?, hheap]⟩
            have hgh : g ≠ h := by omega
            have hCp := (HCi.out.pure HB10.out).put Hyi.out hR10 (fun e => by injection e with e; have e : h = g := e; omega)
            have hz10 := HB10.out.size
            obtain ⟨b10, o10, e10, hh10, -⟩ := hR10.at 0 _ (List.getElem?_eq_getElem (show 0 < t.slots.length by have := Hn4.out; omega))
            cases e10
            have hBp : Below wx.heap.size wx (w10.setCell ⟨g, i * 8 + 5, none⟩ (.slice (some ⟨h, 0, none⟩) t.slots.length c10)) := (HBi.out.trans (HB10.out.mono HBi.out.size)).setCell (p := ⟨g, i * 8 + 5, none⟩) hgg _
            have hfp : ∀ o, (w10.setCell ⟨g, i * 8 + 5, none⟩ (.slice (some ⟨h, 0, none⟩) t.slots.length c10)).frozen? ⟨h, o, none⟩ = false := fun o => by simp [hfrh o]
            have hhp : h < (w10.setCell ⟨g, i * 8 + 5, none⟩ (.slice (some ⟨h, 0, none⟩) t.slots.length c10)).heap.size := by simpa using hh10
            generalize w10.setCell ⟨g, i * 8 + 5, none⟩ (.slice (some ⟨h, 0, none⟩) t.slots.length c10) = wp at hCp hBp hfp hhp ⊢
            have Hoth := Lib.hid (show ∀ m y, m ≠ i → ys[m]? = some y → (y.1.slots = [] ∨ y.2.1.ownBlock ≠ some h) ∧ (y.1.queue = [] ∨ y.2.2.ownBlock ≠ some h) from fun m y hm hy => by
              have hy2 := (HCi.out.th y (List.mem_of_getElem? hy)).1
              exact ⟨rgts_blk hy2.1 hh9, ints_blk hy2.2 hh9⟩)
            have Hqi := Lib.hid (ints_blk (HCi.out.th yi (List.mem_of_getElem? Hyi.out)).1.2 hh9)
            have HCp := Lib.hid hCp
            have HBp := Lib.hid hBp
            have Hfp := Lib.hid hfp
            clear hCp hBp hfp hR10 x0 x5 f5 hfrh c0 c3 c5 hkb hkn
            go_wp2
            go_loopw [8] (fun s8 wr => ∃ (m : Nat) (rs : List Rgt), s8 = .int .i64 (m : Int) ∧ m ≤ t.slots.length ∧ rs.length = t.slots.length ∧ (∀ q, q < m → rs[q]? = (t.slots.map wkR)[q]?) ∧ (∀ q, m ≤ q → rs[q]? = t.slots[q]?) ∧ CopyAt wr g c9 (ys.set i ({ yi.1 with slots := rs }, .slice (some ⟨h, 0, none⟩) t.slots.length c10, yi.2.2)) ∧ Below wx.heap.size wx wr ∧ h < wr.heap.size ∧ ∀ o, wr.frozen? ⟨h, o, none⟩ = false) (fun s8 _ => t.slots.length - (intOf s8).toNat)
            case atStart => exact ⟨0, t.slots, rfl, by omega, rfl, fun q hq => absurd hq (by omega), fun q _ => rfl, HCp.out, HBp.out, hhp, Hfp.out⟩
            case round =>
              obtain ⟨m, rs, rfl, hm, hrl, hr1, hr2, hC, hB, hhl, hfr⟩ := hrel
              obtain ⟨wm, rfl⟩ : ∃ y : World, y = wr := ⟨_, rfl⟩
              have hzm := hB.size
              have HCm := Lib.hid hC
              have HBm := Lib.hid hB
              have Hrl := Lib.hid hrl
              have Hr1 := Lib.hid hr1
              have Hr2 := Lib.hid hr2
              have Hfr := Lib.hid hfr
              have hil : i < ys.length := by omega
              have hset : (ys.set i ({ yi.1 with slots := rs }, .slice (some ⟨h, 0, none⟩) t.slots.length c10, yi.2.2))[i]? = some ({ yi.1 with slots := rs }, .slice (some ⟨h, 0, none⟩) t.slots.length c10, yi.2.2) := by rw [List.getElem?_set, if_pos rfl, if_pos hil]
              have x5 := hC.cell i _ hset 5 (.slice (some ⟨h, 0, none⟩) t.slots.length c10) (by simp [Thx.cells, Thg.cells])
              have hg2 := hC.lt
              have hRm := (hC.th _ (List.mem_of_getElem? hset)).1.1
              have Hset := Lib.hid hset
              clear hC hB hr1 hr2 hfr hset
              by_cases hlt2 : m < t.slots.length
              · have hm0 : (0 : Int) ≤ (m : Int) := by omega
                have hmn : (m : Int) < (t.slots.length : Int) := by omega
                obtain ⟨x, hx⟩ : ∃ x, rs[m]? = some x := ⟨_, List.getElem?_eq_getElem (by omega)⟩
                obtain ⟨sb2, so2, e2, -, r0, r1, r2, r3, r4⟩ := hRm.at m x hx
                cases e2
                simp only [Nat.zero_add] at r0 r1 r2 r3 r4
                obtain ⟨y0, y1, y2, y3, y4, hy⟩ : ∃ y0 y1 y2 y3 y4, wkR x = ⟨y0, y1, y2, y3, y4⟩ := ⟨_, _, _, _, _, rfl⟩
                have Hx := Lib.hid hx
                have HRm := Lib.hid hRm
                have Hy := Lib.hid hy
                obtain ⟨z0, z1, z2, z3, z4⟩ := x
                dsimp only at r0 r1 r2 r3 r4
                clear hx hRm hy hrl
                go_upto_region 17 with (fail)
                have HF := Lib.hid (show ∀ w' : World, Below wm.heap.size wm w' → (w'.cell? ⟨g, i * 8 + 5, none⟩ = some (.slice (some ⟨h, 0, none⟩) t.slots.length c10) ∧ w'.cell? ⟨h, m * 5, none⟩ = some (.int .i64 z0) ∧ w'.cell? ⟨h, m * 5 + 1, none⟩ = some (.int .i64 z1) ∧ w'.cell? ⟨h, m * 5 + 2, none⟩ = some (.bool z2) ∧ w'.cell? ⟨h, m * 5 + 3, none⟩ = some (.bool z3) ∧ w'.cell? ⟨h, m * 5 + 4, none⟩ = some (.bool z4) ∧ ∀ o, w'.frozen? ⟨h, o, none⟩ = false) from fun w' hw =>
                  ⟨(hw.cell hg2).trans x5, (hw.cell hhl).trans r0, (hw.cell hhl).trans r1, (hw.cell hhl).trans r2, (hw.cell hhl).trans r3, (hw.cell hhl).trans r4, fun o => ((bcell hw).2 _ _ hhl).trans (Hfr.out o)⟩)
                clear r0 r1 r2 r3 r4 x5
                refine wp_region_invB (fun d a w' => ∃ v71 v72 v73 v74 v75 v76 v77 v78 v79 v80 v81 v82 v83 v84 v85 v86, a = { tmps := #[.slice p n cap, undef, .bool false, .slice (some ⟨b, o, none⟩) ts.length k, .slice (some ⟨A, 0, none⟩) ts.length c, .slice (some ⟨A3, 0, none⟩) ts.length c3, .slice (some ⟨g, 0, none⟩) ts.length c9, .int .i64 (i : Int), .int .i64 (m : Int), undef, undef, .slice p n cap, .int .i64 (n : Int), .bool false, .slice p n cap, .slice (some ⟨b, o, none⟩) ts.length k, .slice (some ⟨b, o, none⟩) ts.length k, .slice (some ⟨A, 0, none⟩) ts.length c, .slice (some ⟨b, o, none⟩) ts.length k, .slice (some ⟨A3, 0, none⟩) ts.length c3, .slice (some ⟨A, 0, none⟩) ts.length c, .int .i64 (ts.length : Int), .slice (some ⟨A3, 0, none⟩) ts.length c3, .int .i64 (ts.length : Int), .bool false, .bool false, .slice (some ⟨b, o, none⟩) ts.length k, .bool true, .bool false, .bool false, undef, undef, undef, undef, undef, .slice (some ⟨wx.heap.size, 0, none⟩) 0 0, .slice (some ⟨b, o, none⟩) ts.length k, .slice (some ⟨g, 0, none⟩) ts.length c9, .int .i64 (i : Int), .slice (some ⟨g, 0, none⟩) ts.length c9, .int .i64 (ts.length : Int), .bool true, u42, u43, .slice (some ⟨g, 0, none⟩) ts.length c9, .int .i64 (i : Int), .pointer (some ⟨g, i * 8, none⟩), .pointer (some ⟨g, i * 8, none⟩), .int .i64 3, .bool false, .slice (some ⟨g, 0, none⟩) ts.length c9, .int .i64 (i : Int), .slice (some ⟨wi.heap.size, 0, none⟩) 0 0, .slice (some ⟨b, o, none⟩) ts.length k, .int .i64 (i : Int), .pointer (some ⟨b, o + i * 8, none⟩), .pointer (some ⟨b, o + i * 8 + 5, none⟩), .slice ps t.slots.length cs, .slice (some ⟨h, 0, none⟩) t.slots.length c10, .pointer (some ⟨g, i * 8, none⟩), .pointer (some ⟨g, i * 8 + 5, none⟩), .int .i64 (m : Int), .slice (some ⟨g, 0, none⟩) ts.length c9, .int .i64 (i : Int), .pointer (some ⟨g, i * 8, none⟩), .pointer (some ⟨g, i * 8 + 5, none⟩), .slice (some ⟨h, 0, none⟩) t.slots.length c10, .int .i64 (t.slots.length : Int), .bool true, u69, u70, v71, v72, v73, v74, v75, v76, v77, v78, v79, v80, v81, v82, v83, v84, v85, v86, undef, undef, undef, undef, undef, undef, undef, undef, undef, undef, undef, undef, undef, undef, undef, undef, undef, undef, undef, undef, undef, undef, undef, undef, undef], defers := [] } ∧ Wk17 (.slice (some ⟨g, 0, none⟩) ts.length c9) (.slice (some ⟨h, 0, none⟩) t.slots.length c10) g h i m z0 z1 y0 y1 z2 z3 z4 y2 y3 y4 wm d w' v71 v72 v73 v74 v75 v76 v77 v78 v79 v80 v81 v82 v83 v84 v85 v86) (by kernel_rfl) (by kernel_rfl) ?_ ?_ ?_
                · refine ⟨_, _, _, _, _, _, _, _, _, _, _, _, _, _, _, _, rfl, ?_⟩
                  constructor
                  · exact Below.drew (Below.refl _ _)
                  · intro hj; exact absurd hj (by decide)
                  · intro hj; exact absurd hj (by decide)
                  · intro hj; exact absurd hj (by decide)
                  · intro hj; exact absurd hj (by decide)
                  · intro hj; exact absurd hj (by decide)
                  · intro hj; exact absurd hj (by decide)
                  · intro hj; exact absurd hj (by decide)
                  · intro hj; exact absurd hj (by decide)
                  · intro hj; exact absurd hj (by decide)
                  · intro hj; exact absurd hj (by decide)
                  · intro hj; exact absurd hj (by decide)
                  · intro hj; exact absurd hj (by decide)
                  · intro hj; exact absurd hj (by decide)
                  · intro hj; exact absurd hj (by decide)
                  · intro hj; exact absurd hj (by decide)
                  · intro hj; exact absurd hj (by decide)
                  · exact fun _ => Below.drew (Below.refl _ _)
                  · exact fun h => absurd h (by decide)
                  · exact fun h => absurd h (by decide)
                · refine ⟨?_, ?_, ?_, ?_, ?_, ?_, ?_, ?_, ?_, ?_, ?_, ?_, ?_, ?_, ?_, ?_, ?_, trivial⟩
                  · rintro d a w' hd hdep ⟨v71, v72, v73, v74, v75, v76, v77, v78, v79, v80, v81, v82, v83, v84, v85, v86, rfl, H⟩ K hK
                    clear hdep
                    go_simp
                    have hg : Below w'.heap.size w' w' := Below.refl _ _
                    exact hK _ _ ⟨_, _, _, _, _, _, _, _, _, _, _, _, _, _, _, _, rfl, ⟨H.chg.trans (hg.mono (Nat.zero_le _)), fun _ => rfl, fun h => H.p1 (dk h), fun h => H.p2 (dk h), fun h => H.p3 (dk h), fun h => H.p4 (dk h), fun h => H.p5 (dk h), fun h => H.p6 (dk h), fun h => H.p7 (dk h), fun h => H.p8 (dk h), fun h => H.p9 (dk h), fun h => H.p10 (dk h), fun h => H.p11 (dk h), fun h => H.p12 (dk h), fun h => H.p13 (dk h), fun h => H.p14 (dk h), fun h => H.p15 (dk h), fun h => H.x0 (df h), fun h => H.x1 (dk h), fun h => by have := H.z16 (dk h); simp [this]⟩⟩
                  · rintro d a w' hd hdep ⟨v71, v72, v73, v74, v75, v76, v77, v78, v79, v80, v81, v82, v83, v84, v85, v86, rfl, H⟩ K hK
                    clear hdep
                    go_simp
                    have hg : Below w'.heap.size w' w' := Below.refl _ _
                    exact hK _ _ ⟨_, _, _, _, _, _, _, _, _, _, _, _, _, _, _, _, rfl, ⟨H.chg.trans (hg.mono (Nat.zero_le _)), fun h => H.p0 (dk h), fun _ => rfl, fun h => H.p2 (dk h), fun h => H.p3 (dk h), fun h => H.p4 (dk h), fun h => H.p5 (dk h), fun h => H.p6 (dk h), fun h => H.p7 (dk h), fun h => H.p8 (dk h), fun h => H.p9 (dk h), fun h => H.p10 (dk h), fun h => H.p11 (dk h), fun h => H.p12 (dk h), fun h => H.p13 (dk h), fun h => H.p14 (dk h), fun h => H.p15 (dk h), fun h => H.x0 (df h), fun h => H.x1 (dk h), fun h => by have := H.z16 (dk h); simp [this]⟩⟩
                  · rintro d a w' hd hdep ⟨v71, v72, v73, v74, v75, v76, v77, v78, v79, v80, v81, v82, v83, v84, v85, v86, rfl, H⟩ K hK
                    have d0 : d 0 = true := hdep ⟨0, .data⟩ (by simp) rfl
                    have d1 : d 1 = true := hdep ⟨1, .data⟩ (by simp) rfl
                    clear hdep
                    have e0 := H.p0 d0
                    subst e0
                    have e1 := H.p1 d1
                    subst e1
                    go_simp
                    have hg : Below w'.heap.size w' w' := Below.refl _ _
                    exact hK _ _ ⟨_, _, _, _, _, _, _, _, _, _, _, _, _, _, _, _, rfl, ⟨H.chg.trans (hg.mono (Nat.zero_le _)), fun h => H.p0 (dk h), fun h => H.p1 (dk h), fun _ => rfl, fun h => H.p3 (dk h), fun h => H.p4 (dk h), fun h => H.p5 (dk h), fun h => H.p6 (dk h), fun h => H.p7 (dk h), fun h => H.p8 (dk h), fun h => H.p9 (dk h), fun h => H.p10 (dk h), fun h => H.p11 (dk h), fun h => H.p12 (dk h), fun h => H.p13 (dk h), fun h => H.p14 (dk h), fun h => H.p15 (dk h), fun h => H.x0 (df h), fun h => H.x1 (dk h), fun h => by have := H.z16 (dk h); simp [this]⟩⟩
                  · rintro d a w' hd hdep ⟨v71, v72, v73, v74, v75, v76, v77, v78, v79, v80, v81, v82, v83, v84, v85, v86, rfl, H⟩ K hK
                    have d2 : d 2 = true := hdep ⟨2, .data⟩ (by simp) rfl
                    clear hdep
                    have e2 := H.p2 d2
                    subst e2
                    go_simp
                    have hg : Below w'.heap.size w' w' := Below.refl _ _
                    exact hK _ _ ⟨_, _, _, _, _, _, _, _, _, _, _, _, _, _, _, _, rfl, ⟨H.chg.trans (hg.mono (Nat.zero_le _)), fun h => H.p0 (dk h), fun h => H.p1 (dk h), fun h => H.p2 (dk h), fun _ => rfl, fun h => H.p4 (dk h), fun h => H.p5 (dk h), fun h => H.p6 (dk h), fun h => H.p7 (dk h), fun h => H.p8 (dk h), fun h => H.p9 (dk h), fun h => H.p10 (dk h), fun h => H.p11 (dk h), fun h => H.p12 (dk h), fun h => H.p13 (dk h), fun h => H.p14 (dk h), fun h => H.p15 (dk h), fun h => H.x0 (df h), fun h => H.x1 (dk h), fun h => by have := H.z16 (dk h); simp [this]⟩⟩
                  · rintro d a w' hd hdep ⟨v71, v72, v73, v74, v75, v76, v77, v78, v79, v80, v81, v82, v83, v84, v85, v86, rfl, H⟩ K hK
                    have d3 : d 3 = true := hdep ⟨3, .data⟩ (by simp) rfl
                    clear hdep
                    have e3 := H.p3 d3
                    subst e3
                    have hB9 := H.x0 (Bool.eq_false_iff.2 (fun h9 => by have := H.z16 h9; simp [hd] at this))
                    obtain ⟨f1, f2, f3, f4, f5, f6, f7⟩ := HF.out _ hB9
                    go_simp
                    have hg : Below w'.heap.size w' w' := Below.refl _ _
                    exact hK _ _ ⟨_, _, _, _, _, _, _, _, _, _, _, _, _, _, _, _, rfl, ⟨H.chg.trans (hg.mono (Nat.zero_le _)), fun h => H.p0 (dk h), fun h => H.p1 (dk h), fun h => H.p2 (dk h), fun h => H.p3 (dk h), fun _ => rfl, fun h => H.p5 (dk h), fun h => H.p6 (dk h), fun h => H.p7 (dk h), fun h => H.p8 (dk h), fun h => H.p9 (dk h), fun h => H.p10 (dk h), fun h => H.p11 (dk h), fun h => H.p12 (dk h), fun h => H.p13 (dk h), fun h => H.p14 (dk h), fun h => H.p15 (dk h), fun h => H.x0 (df h), fun h => H.x1 (dk h), fun h => by have := H.z16 (dk h); simp [this]⟩⟩
                  · rintro d a w' hd hdep ⟨v71, v72, v73, v74, v75, v76, v77, v78, v79, v80, v81, v82, v83, v84, v85, v86, rfl, H⟩ K hK
                    clear hdep
                    go_simp
                    have hg : Below w'.heap.size w' w' := Below.refl _ _
                    exact hK _ _ ⟨_, _, _, _, _, _, _, _, _, _, _, _, _, _, _, _, rfl, ⟨H.chg.trans (hg.mono (Nat.zero_le _)), fun h => H.p0 (dk h), fun h => H.p1 (dk h), fun h => H.p2 (dk h), fun h => H.p3 (dk h), fun h => H.p4 (dk h), fun _ => rfl, fun h => H.p6 (dk h), fun h => H.p7 (dk h), fun h => H.p8 (dk h), fun h => H.p9 (dk h), fun h => H.p10 (dk h), fun h => H.p11 (dk h), fun h => H.p12 (dk h), fun h => H.p13 (dk h), fun h => H.p14 (dk h), fun h => H.p15 (dk h), fun h => H.x0 (df h), fun h => H.x1 (dk h), fun h => by have := H.z16 (dk h); simp [this]⟩⟩
                  · rintro d a w' hd hdep ⟨v71, v72, v73, v74, v75, v76, v77, v78, v79, v80, v81, v82, v83, v84, v85, v86, rfl, H⟩ K hK
                    clear hdep
                    go_simp
                    have hg : Below w'.heap.size w' w' := Below.refl _ _
                    exact hK _ _ ⟨_, _, _, _, _, _, _, _, _, _, _, _, _, _, _, _, rfl, ⟨H.chg.trans (hg.mono (Nat.zero_le _)), fun h => H.p0 (dk h), fun h => H.p1 (dk h), fun h => H.p2 (dk h), fun h => H.p3 (dk h), fun h => H.p4 (dk h), fun h => H.p5 (dk h), fun _ => rfl, fun h => H.p7 (dk h), fun h => H.p8 (dk h), fun h => H.p9 (dk h), fun h => H.p10 (dk h), fun h => H.p11 (dk h), fun h => H.p12 (dk h), fun h => H.p13 (dk h), fun h => H.p14 (dk h), fun h => H.p15 (dk h), fun h => H.x0 (df h), fun h => H.x1 (dk h), fun h => by have := H.z16 (dk h); simp [this]⟩⟩
                  · rintro d a w' hd hdep ⟨v71, v72, v73, v74, v75, v76, v77, v78, v79, v80, v81, v82, v83, v84, v85, v86, rfl, H⟩ K hK
                    clear hdep
                    go_simp
                    have hg : Below w'.heap.size w' w' := Below.refl _ _
                    exact hK _ _ ⟨_, _, _, _, _, _, _, _, _, _, _, _, _, _, _, _, rfl, ⟨H.chg.trans (hg.mono (Nat.zero_le _)), fun h => H.p0 (dk h), fun h => H.p1 (dk h), fun h => H.p2 (dk h), fun h => H.p3 (dk h), fun h => H.p4 (dk h), fun h => H.p5 (dk h), fun h => H.p6 (dk h), fun _ => rfl, fun h => H.p8 (dk h), fun h => H.p9 (dk h), fun h => H.p10 (dk h), fun h => H.p11 (dk h), fun h => H.p12 (dk h), fun h => H.p13 (dk h), fun h => H.p14 (dk h), fun h => H.p15 (dk h), fun h => H.x0 (df h), fun h => H.x1 (dk h), fun h => by have := H.z16 (dk h); simp [this]⟩⟩
                  · rintro d a w' hd hdep ⟨v71, v72, v73, v74, v75, v76, v77, v78, v79, v80, v81, v82, v83, v84, v85, v86, rfl, H⟩ K hK
                    have d6 : d 6 = true := hdep ⟨6, .data⟩ (by simp) rfl
                    have d7 : d 7 = true := hdep ⟨7, .data⟩ (by simp) rfl
                    clear hdep
                    have e6 := H.p6 d6
                    subst e6
                    have e7 := H.p7 d7
                    subst e7
                    go_simp
                    have hg : Below w'.heap.size w' w' := Below.refl _ _
                    exact hK _ _ ⟨_, _, _, _, _, _, _, _, _, _, _, _, _, _, _, _, rfl, ⟨H.chg.trans (hg.mono (Nat.zero_le _)), fun h => H.p0 (dk h), fun h => H.p1 (dk h), fun h => H.p2 (dk h), fun h => H.p3 (dk h), fun h => H.p4 (dk h), fun h => H.p5 (dk h), fun h => H.p6 (dk h), fun h => H.p7 (dk h), fun _ => rfl, fun h => H.p9 (dk h), fun h => H.p10 (dk h), fun h => H.p11 (dk h), fun h => H.p12 (dk h), fun h => H.p13 (dk h), fun h => H.p14 (dk h), fun h => H.p15 (dk h), fun h => H.x0 (df h), fun h => H.x1 (dk h), fun h => by have := H.z16 (dk h); simp [this]⟩⟩
                  · rintro d a w' hd hdep ⟨v71, v72, v73, v74, v75, v76, v77, v78, v79, v80, v81, v82, v83, v84, v85, v86, rfl, H⟩ K hK
                    have d8 : d 8 = true := hdep ⟨8, .data⟩ (by simp) rfl
                    clear hdep
                    have e8 := H.p8 d8
                    subst e8
                    go_simp
                    have hg : Below w'.heap.size w' w' := Below.refl _ _
                    exact hK _ _ ⟨_, _, _, _, _, _, _, _, _, _, _, _, _, _, _, _, rfl, ⟨H.chg.trans (hg.mono (Nat.zero_le _)), fun h => H.p0 (dk h), fun h => H.p1 (dk h), fun h => H.p2 (dk h), fun h => H.p3 (dk h), fun h => H.p4 (dk h), fun h => H.p5 (dk h), fun h => H.p6 (dk h), fun h => H.p7 (dk h), fun h => H.p8 (dk h), fun _ => rfl, fun h => H.p10 (dk h), fun h => H.p11 (dk h), fun h => H.p12 (dk h), fun h => H.p13 (dk h), fun h => H.p14 (dk h), fun h => H.p15 (dk h), fun h => H.x0 (df h), fun h => H.x1 (dk h), fun h => by have := H.z16 (dk h); simp [this]⟩⟩
                  · rintro d a w' hd hdep ⟨v71, v72, v73, v74, v75, v76, v77, v78, v79, v80, v81, v82, v83, v84, v85, v86, rfl, H⟩ K hK
                    have d9 : d 9 = true := hdep ⟨9, .data⟩ (by simp) rfl
                    clear hdep
                    have e9 := H.p9 d9
                    subst e9
                    have hB9 := H.x0 (Bool.eq_false_iff.2 (fun h9 => by have := H.z16 h9; simp [hd] at this))
                    obtain ⟨f1, f2, f3, f4, f5, f6, f7⟩ := HF.out _ hB9
                    go_simp
                    have hg : Below w'.heap.size w' w' := Below.refl _ _
                    exact hK _ _ ⟨_, _, _, _, _, _, _, _, _, _, _, _, _, _, _, _, rfl, ⟨H.chg.trans (hg.mono (Nat.zero_le _)), fun h => H.p0 (dk h), fun h => H.p1 (dk h), fun h => H.p2 (dk h), fun h => H.p3 (dk h), fun h => H.p4 (dk h), fun h => H.p5 (dk h), fun h => H.p6 (dk h), fun h => H.p7 (dk h), fun h => H.p8 (dk h), fun h => H.p9 (dk h), fun _ => rfl, fun h => H.p11 (dk h), fun h => H.p12 (dk h), fun h => H.p13 (dk h), fun h => H.p14 (dk h), fun h => H.p15 (dk h), fun h => H.x0 (df h), fun h => H.x1 (dk h), fun h => by have := H.z16 (dk h); simp [this]⟩⟩
                  · rintro d a w' hd hdep ⟨v71, v72, v73, v74, v75, v76, v77, v78, v79, v80, v81, v82, v83, v84, v85, v86, rfl, H⟩ K hK
                    clear hdep
                    go_simp
                    have hg : Below w'.heap.size w' w' := Below.refl _ _
                    exact hK _ _ ⟨_, _, _, _, _, _, _, _, _, _, _, _, _, _, _, _, rfl, ⟨H.chg.trans (hg.mono (Nat.zero_le _)), fun h => H.p0 (dk h), fun h => H.p1 (dk h), fun h => H.p2 (dk h), fun h => H.p3 (dk h), fun h => H.p4 (dk h), fun h => H.p5 (dk h), fun h => H.p6 (dk h), fun h => H.p7 (dk h), fun h => H.p8 (dk h), fun h => H.p9 (dk h), fun h => H.p10 (dk h), fun _ => rfl, fun h => H.p12 (dk h), fun h => H.p13 (dk h), fun h => H.p14 (dk h), fun h => H.p15 (dk h), fun h => H.x0 (df h), fun h => H.x1 (dk h), fun h => by have := H.z16 (dk h); simp [this]⟩⟩
                  · rintro d a w' hd hdep ⟨v71, v72, v73, v74, v75, v76, v77, v78, v79, v80, v81, v82, v83, v84, v85, v86, rfl, H⟩ K hK
                    have d10 : d 10 = true := hdep ⟨10, .data⟩ (by simp) rfl
                    have d11 : d 11 = true := hdep ⟨11, .data⟩ (by simp) rfl
                    clear hdep
                    have e10 := H.p10 d10
                    subst e10
                    have e11 := H.p11 d11
                    subst e11
                    go_simp
                    have hg : Below w'.heap.size w' w' := Below.refl _ _
                    exact hK _ _ ⟨_, _, _, _, _, _, _, _, _, _, _, _, _, _, _, _, rfl, ⟨H.chg.trans (hg.mono (Nat.zero_le _)), fun h => H.p0 (dk h), fun h => H.p1 (dk h), fun h => H.p2 (dk h), fun h => H.p3 (dk h), fun h => H.p4 (dk h), fun h => H.p5 (dk h), fun h => H.p6 (dk h), fun h => H.p7 (dk h), fun h => H.p8 (dk h), fun h => H.p9 (dk h), fun h => H.p10 (dk h), fun h => H.p11 (dk h), fun _ => rfl, fun h => H.p13 (dk h), fun h => H.p14 (dk h), fun h => H.p15 (dk h), fun h => H.x0 (df h), fun h => H.x1 (dk h), fun h => by have := H.z16 (dk h); simp [this]⟩⟩
                  · rintro d a w' hd hdep ⟨v71, v72, v73, v74, v75, v76, v77, v78, v79, v80, v81, v82, v83, v84, v85, v86, rfl, H⟩ K hK
                    have d12 : d 12 = true := hdep ⟨12, .data⟩ (by simp) rfl
                    clear hdep
                    have e12 := H.p12 d12
                    subst e12
                    have hB9 := H.x0 (Bool.eq_false_iff.2 (fun h9 => by have := H.z16 h9; simp [hd] at this))
                    obtain ⟨f1, f2, f3, f4, f5, f6, f7⟩ := HF.out _ hB9
                    go_simp
                    have hg : Below w'.heap.size w' w' := Below.refl _ _
                    exact hK _ _ ⟨_, _, _, _, _, _, _, _, _, _, _, _, _, _, _, _, rfl, ⟨H.chg.trans (hg.mono (Nat.zero_le _)), fun h => H.p0 (dk h), fun h => H.p1 (dk h), fun h => H.p2 (dk h), fun h => H.p3 (dk h), fun h => H.p4 (dk h), fun h => H.p5 (dk h), fun h => H.p6 (dk h), fun h => H.p7 (dk h), fun h => H.p8 (dk h), fun h => H.p9 (dk h), fun h => H.p10 (dk h), fun h => H.p11 (dk h), fun h => H.p12 (dk h), fun _ => rfl, fun h => H.p14 (dk h), fun h => H.p15 (dk h), fun h => H.x0 (df h), fun h => H.x1 (dk h), fun h => by have := H.z16 (dk h); simp [this]⟩⟩
                  · rintro d a w' hd hdep ⟨v71, v72, v73, v74, v75, v76, v77, v78, v79, v80, v81, v82, v83, v84, v85, v86, rfl, H⟩ K hK
                    have d13 : d 13 = true := hdep ⟨13, .data⟩ (by simp) rfl
                    clear hdep
                    have e13 := H.p13 d13
                    subst e13
                    go_simp
                    go_at_call 19
                    refine (rightLess_k Hy.out).mono ?_
                    rintro e w'' ⟨rfl, hg⟩
                    exact hK _ _ ⟨_, _, _, _, _, _, _, _, _, _, _, _, _, _, _, _, rfl, ⟨H.chg.trans (hg.mono (Nat.zero_le _)), fun h => H.p0 (dk h), fun h => H.p1 (dk h), fun h => H.p2 (dk h), fun h => H.p3 (dk h), fun h => H.p4 (dk h), fun h => H.p5 (dk h), fun h => H.p6 (dk h), fun h => H.p7 (dk h), fun h => H.p8 (dk h), fun h => H.p9 (dk h), fun h => H.p10 (dk h), fun h => H.p11 (dk h), fun h => H.p12 (dk h), fun h => H.p13 (dk h), fun _ => rfl, fun h => H.p15 (dk h), fun hh => (H.x0 (df hh)).trans (hg.mono (H.x0 (df hh)).size), fun h9 => absurd (H.z16 (dk h9)).1 (by simp [hd]), fun h => by have := H.z16 (dk h); simp [this]⟩⟩
                  · rintro d a w' hd hdep ⟨v71, v72, v73, v74, v75, v76, v77, v78, v79, v80, v81, v82, v83, v84, v85, v86, rfl, H⟩ K hK
                    have d4 : d 4 = true := hdep ⟨4, .data⟩ (by simp) rfl
                    have d5 : d 5 = true := hdep ⟨5, .data⟩ (by simp) rfl
                    clear hdep
                    have e4 := H.p4 d4
                    subst e4
                    have e5 := H.p5 d5
                    subst e5
                    go_simp
                    have hg : Below w'.heap.size w' w' := Below.refl _ _
                    exact hK _ _ ⟨_, _, _, _, _, _, _, _, _, _, _, _, _, _, _, _, rfl, ⟨H.chg.trans (hg.mono (Nat.zero_le _)), fun h => H.p0 (dk h), fun h => H.p1 (dk h), fun h => H.p2 (dk h), fun h => H.p3 (dk h), fun h => H.p4 (dk h), fun h => H.p5 (dk h), fun h => H.p6 (dk h), fun h => H.p7 (dk h), fun h => H.p8 (dk h), fun h => H.p9 (dk h), fun h => H.p10 (dk h), fun h => H.p11 (dk h), fun h => H.p12 (dk h), fun h => H.p13 (dk h), fun h => H.p14 (dk h), fun _ => rfl, fun h => H.x0 (df h), fun h => H.x1 (dk h), fun h => by have := H.z16 (dk h); simp [this]⟩⟩
                  · rintro d a w' hd hdep ⟨v71, v72, v73, v74, v75, v76, v77, v78, v79, v80, v81, v82, v83, v84, v85, v86, rfl, H⟩ K hK
                    have d15 : d 15 = true := hdep ⟨15, .data⟩ (by simp) rfl
                    have d14 : d 14 = true := hdep ⟨14, .data⟩ (by simp) rfl
                    have d4 : d 4 = true := hdep ⟨4, .phase⟩ (by simp) rfl
                    have d10 : d 10 = true := hdep ⟨10, .phase⟩ (by simp) rfl
                    have d13 : d 13 = true := hdep ⟨13, .phase⟩ (by simp) rfl
                    clear hdep
                    have e15 := H.p15 d15
                    subst e15
                    have e14 := H.p14 d14
                    subst e14
                    have hB9 := H.x0 hd
                    obtain ⟨f1, f2, f3, f4, f5, f6, f7⟩ := HF.out _ hB9
                    go_simp
                    exact hK _ _ ⟨_, _, _, _, _, _, _, _, _, _, _, _, _, _, _, _, rfl, ⟨((((H.chg.setCell (Nat.zero_le _) _).setCell (Nat.zero_le _) _).setCell (Nat.zero_le _) _).setCell (Nat.zero_le _) _).setCell (Nat.zero_le _) _, fun h => H.p0 (dk h), fun h => H.p1 (dk h), fun h => H.p2 (dk h), fun h => H.p3 (dk h), fun h => H.p4 (dk h), fun h => H.p5 (dk h), fun h => H.p6 (dk h), fun h => H.p7 (dk h), fun h => H.p8 (dk h), fun h => H.p9 (dk h), fun h => H.p10 (dk h), fun h => H.p11 (dk h), fun h => H.p12 (dk h), fun h => H.p13 (dk h), fun h => H.p14 (dk h), fun h => H.p15 (dk h), fun h => absurd h (by simp), fun _ => ⟨w', hB9, rfl⟩, fun _ => by simp [d14, d4, d10, d13]⟩⟩
                · rintro d a w' hall ⟨v71, v72, v73, v74, v75, v76, v77, v78, v79, v80, v81, v82, v83, v84, v85, v86, rfl, H⟩
                  have hd16 : d 16 = true := hall 16 (by decide)
                  obtain ⟨wq, hBq, hwe⟩ := H.x1 hd16
                  clear H
                  have hzq := hBq.size
                  have hhq : h < wq.heap.size := Nat.lt_of_lt_of_le hhl hzq
                  have hCq := HCm.out.pure hBq
                  have hRq : RgtsAt wq (.slice (some ⟨h, 0, none⟩) t.slots.length c10) rs := HRm.out.pure hBq
                  have hchq : Chg (fun b => b = h) wq w' := by
                    rw [hwe]; exact ((((Chg.setCell (S := fun b => b = h) (Chg.refl _ _) rfl _).setCell rfl _).setCell rfl _).setCell rfl _).setCell rfl _
                  have hfrq : ∀ o, w'.frozen? ⟨h, o, none⟩ = false := fun o => by
                    rw [hwe]; simp only [World.frozen?_setCell]; exact ((bcell hBq).2 _ _ hhl).trans (Hfr.out o)
                  have hR' : RgtsAt w' (.slice (some ⟨h, 0, none⟩) t.slots.length c10) (rs.set m ⟨y0, y1, y2, y3, y4⟩) := by
                    obtain ⟨b2, o2, e2, -, r0, r1, r2, r3, r4⟩ := hRq.at m _ Hx.out
                    cases e2
                    simp only [Nat.zero_add] at r0 r1 r2 r3 r4
                    unfold RgtsAt
                    rw [List.map_set, hwe]
                    refine Drw.Rows.put hRq (fun c hc => ?_) (fun i u hu => ?_) (fun off ho => ?_)
                    · rw [List.mem_map] at hc; obtain ⟨y, -, rfl⟩ := hc; simp [Rgt.cells]
                    · simp only [Nat.zero_add]
                      rcases i with _ | _ | _ | _ | _ | i
                      all_goals (simp [Rgt.cells] at hu)
                      all_goals (try subst hu)
                      all_goals (simp [cell_set, r0, r1, r2, r3, r4]; done)
                    · repeat (rw [cell_set, if_neg (by intro e; simp only [Addr.mk.injEq] at e; omega)])
                  have hC' := hCq.row (i := i) (x := ({ yi.1 with slots := rs }, .slice (some ⟨h, 0, none⟩) t.slots.length c10, yi.2.2)) Hset.out hchq hgh (fun kk y hk hy => by
                    rw [List.getElem?_set, if_neg (fun e => hk e.symm)] at hy
                    exact Hoth.out kk y hk hy) Hqi.out hR' (fun e => by simp [Value.ownBlock] at e; omega)
                  rw [List.set_set] at hC'
                  have hBw : Below wx.heap.size wx w' := by
                    have h1 : Below wx.heap.size wx wq := HBm.out.trans (hBq.mono HBm.out.size)
                    have h2 : wx.heap.size ≤ h := by omega
                    rw [hwe]
                    exact ((((h1.setCell (p := ⟨h, _, none⟩) h2 _).setCell (p := ⟨h, _, none⟩) h2 _).setCell (p := ⟨h, _, none⟩) h2 _).setCell (p := ⟨h, _, none⟩) h2 _).setCell (p := ⟨h, _, none⟩) h2 _
                  have HC' := Lib.hid hC'
                  have HBw := Lib.hid hBw
                  have Hfrq := Lib.hid hfrq
                  have hhw : h < w'.heap.size := Nat.lt_of_lt_of_le hhq hchq.size
                  have Hhw := Lib.hid hhw
                  clear hC' hBw hfrq hR' hchq hCq hRq hwe hBq hhw hd16
                  go_wp2
                  refine ⟨⟨m + 1, rs.set m ⟨y0, y1, y2, y3, y4⟩, by go_num, by omega, by simpa using Hrl.out, fun q hq => ?_, fun q hq => ?_, HC'.out, HBw.out, Hhw.out, Hfrq.out⟩, by simp [intOf]; omega⟩
                  · have hml : m < rs.length := by rw [Hrl.out]; exact hlt2
                    rw [List.getElem?_set]
                    by_cases e : m = q
                    · subst e
                      have hts : t.slots[m]? = some ⟨z0, z1, z2, z3, z4⟩ := by rw [← Hr2.out m (Nat.le_refl _)]; exact Hx.out
                      rw [if_pos rfl, if_pos hml, List.getElem?_map, hts, Option.map_some, Hy.out]
                    · rw [if_neg e]; exact Hr1.out q (by omega)
                  · rw [List.getElem?_set, if_neg (by omega)]; exact Hr2.out q (by omega)
              · have hmn : ¬ (m : Int) < (t.slots.length : Int) := by omega
                have hrs : rs = t.slots.map wkR := by
                  apply List.ext_getElem?
                  intro q
                  by_cases hq : q < m
                  · exact Hr1.out q hq
                  · rw [List.getElem?_eq_none (by rw [Hrl.out]; omega), List.getElem?_eq_none (by simp; omega)]
                have Hrs := Lib.hid hrs
                clear hRm hrl hrs
                go_wp2
                refine ⟨⟨i + 1, _, by go_num, by omega, ?_, HCm.out, ?_, HBm.out⟩, by simp [intOf]; omega⟩
                · simpa using hyl
                · rw [List.map_set, Hys.out, Hnx.out]
                  congr 1
                  unfold weakT
                  rw [if_pos hk3, ← Hrs.out, ← Hyt.out]
          · have hkb : (t.kind == 3) = false := by simp [hk3]
            have hkn : (t.kind != 3) = true := by simp [hk3]
            clear htt hyi hyt hS
            go_wp2
            refine ⟨⟨i + 1, ys, by go_num, by omega, hyl, HCi.out, ?_, HBi.out⟩, by simp [intOf]; omega⟩
            rw [Hnx.out, show weakT t = t by unfold weakT; rw [if_neg hk3], set_self (weakN_at Htt.out)]
            exact Hys.out
        · have hin : ¬ (i : Int) < (ts.length : Int) := by omega
          obtain rfl : i = ts.length := by omega
          have hTab := HCi.out.tab
          rw [Hys.out, weakN_all, List.length_map] at hTab
          have HTab := Lib.hid hTab
          clear hTab
          go_wp2
          go_loopw [9] (fun s9 wr => ∃ j : Nat, s9 = .int .i64 (j : Int) ∧ j ≤ ts.length ∧ Below wi.heap.size wi wr) (fun s9 _ => ts.length - (intOf s9).toNat)
          case atStart => exact ⟨0, rfl, by omega, Below.refl _ _⟩
          case round =>
            obtain ⟨j, rfl, hj, hB⟩ := hrel
            obtain ⟨wj, rfl⟩ : ∃ y : World, y = wr := ⟨_, rfl⟩
            have HBj := Lib.hid hB
            have HTj := Lib.hid (HTab.out.pure hB)
            have hzj := hB.size
            clear hB
            by_cases hlj : j < ts.length
            · have hj0 : (0 : Int) ≤ (j : Int) := by omega
              have hjn : (j : Int) < (ts.length : Int) := by omega
              obtain ⟨t, htt⟩ : ∃ t, ts[j]? = some t := ⟨_, List.getElem?_eq_getElem hlj⟩
              have Htt := Lib.hid htt
              obtain ⟨b', o', sv, qv, e', hbl, -, -, c0, -⟩ := HTj.out.at j (weakT t) (by rw [List.getElem?_map, htt]; rfl)
              cases e'
              rw [weakT_kind, Nat.zero_add] at c0
              have HC0 := Lib.hid (show ∀ w' : World, Below wj.heap.size wj w' → w'.cell? ⟨g, j * 8, none⟩ = some (.int .i64 t.kind) from fun w' h => (h.cell hbl).trans c0)
              clear htt c0
              go_wp2
              go_loopw [10] (fun s10 wr => ∃ m : Nat, s10 = .int .i64 (m : Int) ∧ 1 ≤ m ∧ m ≤ ts.length + 1 ∧ Below wj.heap.size wj wr) (fun s10 _ => ts.length + 1 - (intOf s10).toNat)
              case atStart => exact ⟨1, rfl, by omega, by omega, Below.refl _ _⟩
              case round =>
                obtain ⟨m, rfl, hm1, hm2, hB⟩ := hrel
                obtain ⟨wm, rfl⟩ : ∃ y : World, y = wr := ⟨_, rfl⟩
                have HBm := Lib.hid hB
                have hzm := hB.size
                have c0 := HC0.out _ hB
                have HTm := Lib.hid (HTj.out.pure hB)
                clear hB
                by_cases hlm : m ≤ ts.length
                · have hmn : (m : Int) ≤ (ts.length : Int) := by omega
                  have hw1 : IntKind.i64.wrap ((j : Int) + 1) = (j : Int) + 1 := IntWalk.i64_in _ (by omega)
                  have hem : ex ts (m : Int) = true := by rw [ex_iff]; omega
                  by_cases hk3 : t.kind = 3
                  · have hkb : (t.kind == 3) = true := by simp [hk3]
                    go_wp2_with (go_at_call 20; refine (reachTo_false rfl HTm.out Htk.out Htt.out hk3 hem).mono ?_; rintro e w2 ⟨rfl, hb2⟩; have Hb2 := Lib.hid hb2; clear hb2)
                    exact ⟨⟨m + 1, by go_num, by omega, by omega, HBm.out.trans (Hb2.out.mono hzm)⟩, by simp [intOf]; omega⟩
                  · have hkb : (t.kind == 3) = false := by simp [hk3]
                    have hund : undef = Value.tuple #[] := rfl
                    go_wp2
                    exact ⟨⟨m + 1, by go_num, by omega, by omega, HBm.out⟩, by simp [intOf]; omega⟩
                · have hmn : ¬ (m : Int) ≤ (ts.length : Int) := by omega
                  go_wp2
                  exact ⟨⟨j + 1, by go_num, by omega, HBj.out.trans (HBm.out.mono hzj)⟩, by simp [intOf]; omega⟩
            · have hjn : ¬ (j : Int) < (ts.length : Int) := by omega
              go_wp2
              go_ret
              exact ⟨rfl, HB.out.trans ((HBi.out.trans (HBj.out.mono hzi)).mono HB.out.size)⟩
  · have hgt : (1048576 : Int) < (n : Int) := by omega
    clear hbig hb
    go_enter Tryz.func8, Tryz.ntmps8
    go_wp2
    go_ret
    exact ⟨rfl, (by (repeat (with_reducible first | exact Below.refl _ _ | refine Below.alloc ?_ ?_ _ | refine below_drewN ?_ _ | refine Below.drew ?_ | refine Below.setCell ?_ ?_ _ | refine Below.trans ?_ (Below.mono (by assumption) ?_))) <;> (first | omega | (simp; try omega)))⟩
end Go.Proofs.YtiolplhgpodifaaGreat
