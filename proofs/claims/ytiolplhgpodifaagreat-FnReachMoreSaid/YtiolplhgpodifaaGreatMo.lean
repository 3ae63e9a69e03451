/- The law that with a right more one can come to have no less, walked. Conditions: the bytes lie where their cells say. -/
import Derived.Test.YtiolplhgpodifaaGreatCo
import Derived.Deep.CutBlock
set_option linter.unusedVariables false
set_option linter.unusedSimpArgs false
namespace Go.Proofs.YtiolplhgpodifaaGreat
open Go.RowKit Drw
attribute [local go_sem] Lab.val Rgt.val Cal.val Thg.val

theorem mdk {d : Nat → Bool} {i j : Nat} (h : (d j || decide (j = i)) = true) (hn : decide (j = i) = false := by decide) : d j = true := by
  rw [hn, Bool.or_false] at h; exact h
theorem mdf {d : Nat → Bool} {i j : Nat} (h : (d j || decide (j = i)) = false) : d j = false := (Bool.or_eq_false_iff.1 h).1
theorem reachAll_len {p : Option Addr} {cap n : Nat} {us : List Thg} {w : World} (hn : us.length = n) (hT : TabAt w (.slice p n cap) us) (ht : tabOk us = true) :
    Calls Tryz.prog 13 #[.slice p n cap] w fun e w' => ∃ A c b, e = .returned (.slice (some ⟨A, 0, none⟩) n c) ∧ IsReach us b ∧ b.length = n ∧ AllAt w' A 0 b ∧ Below w.heap.size w w' := by
  subst hn
  refine (reachAll_yes hT ht).mono ?_
  rintro e w1 ⟨A, c, b, rfl, hI, hA, hb⟩
  exact ⟨A, c, b, by rw [hI.len], hI, hI.len, hA, hb⟩
structure Mo19 (vx vt vq : Value) (g h b o i m kk n2 : Nat) (ve : Int) (w0 : World) (d : Nat → Bool) (w : World) (v91 v92 v93 v94 v95 v96 v97 v98 v99 v100 v101 v102 v103 v104 v105 v106 v107 v108 : Value) : Prop where
  chg : Below 0 w0 w
  p0 : d 0 = true → v91 = vx
  p1 : d 1 = true → v92 = .int .i64 (i : Int)
  p2 : d 2 = true → v93 = .pointer (some ⟨g, i * 8, none⟩)
  p3 : d 3 = true → v94 = .pointer (some ⟨g, i * 8 + 5, none⟩)
  p4 : d 4 = true → v95 = vq
  p5 : d 5 = true → v96 = .int .i64 (m : Int)
  p6 : d 6 = true → v97 = .int .i64 (kk : Int)
  p7 : d 7 = true → v98 = .int .i64 ((kk : Int) + 1)
  p8 : d 8 = true → v99 = vt
  p9 : d 9 = true → v100 = .int .i64 (kk : Int)
  p10 : d 10 = true → v101 = .pointer (some ⟨b, o + kk * 8, none⟩)
  p11 : d 11 = true → v102 = .pointer (some ⟨b, o + kk * 8 + 3, none⟩)
  p12 : d 12 = true → v103 = .int .i64 ve
  p13 : d 13 = true → v104 = .int .i64 (n2 : Int)
  p14 : d 14 = true → v105 = .int .i64 ((n2 : Int) % 2)
  p15 : d 15 = true → v106 = .bool ((n2 : Int) % 2 == 0)
  p16 : d 16 = true → v107 = .agg #[.int .i64 ((kk : Int) + 1), .int .i64 ve, .bool true, .bool ((n2 : Int) % 2 == 0), .bool false]
  p17 : d 17 = true → v108 = .pointer (some ⟨h, m * 5, none⟩)
  x0 : d 18 = false → Below w0.heap.size w0 w
  x1 : d 18 = true → ∃ wq, Below w0.heap.size w0 wq ∧ w = ((((wq.setCell ⟨h, m * 5, none⟩ (.int .i64 ((kk : Int) + 1))).setCell ⟨h, m * 5 + 1, none⟩ (.int .i64 ve)).setCell ⟨h, m * 5 + 2, none⟩ (.bool true)).setCell ⟨h, m * 5 + 3, none⟩ (.bool ((n2 : Int) % 2 == 0))).setCell ⟨h, m * 5 + 4, none⟩ (.bool false)
  z18 : d 18 = true → d 4 = true ∧ d 12 = true

set_option maxRecDepth 100000 in
set_option maxHeartbeats 4000000 in
theorem fnReachMore_c (p : Option Addr) (n cap : Nat) (p2 : Option Addr) (n2 cap2 : Nat) (w : World) (hc : n ≤ cap) (hb : BytesIn w p n) :
    Calls Tryz.prog 5 #[.slice p n cap, .slice p2 n2 cap2] w fun e w' => e = .returned (.bool true) ∧ Below w.heap.size w w' := by
  by_cases hbig : n ≤ 1048576 ∧ n2 ≤ 1048576
  · have hle : ¬ (1048576 : Int) < (n : Int) := by omega
    have hle2 : ¬ (1048576 : Int) < (n2 : Int) := by omega
    have hle3 : (n : Int) ≤ 1048576 := by omega
    have hle4 : (n2 : Int) ≤ 1048576 := by omega
    have Hb := Lib.hid hb
    clear hb
    go_enter Tryz.func5, Tryz.ntmps5
    go_upto_region 4 with (go_at_call 12; refine (drawReachAll_c p n cap _ hc Hb.out (by omega)).mono ?_; rintro e w1 ⟨q, k, ts, rfl, hT, hl3, hl8, hb1⟩)
    obtain ⟨tk, htk⟩ : ∃ b, tabOk ts = b := ⟨_, rfl⟩
    have Htk := Lib.hid htk
    have HT := Lib.hid hT
    have HB1 := Lib.hid hb1
    clear htk hT hb1 Hb
    cases tk
    · have hund : undef = Value.tuple #[] := rfl
      go_wp2_with (first
        | (go_at_call 13; refine (reachAll_no HT.out Htk.out).mono ?_; rintro e w2 ⟨q2, rfl, hb2⟩; have hz2 := hb2.size)
        | (go_at_call 14; refine (sreachAll_no (HT.out.pure hb2) Htk.out).mono ?_; rintro e w3 ⟨q3, rfl, hb3⟩; have hz3 := hb3.size)
        | (go_at_call 15; refine (stableOk_u (HT.out.pure (hb2.trans (hb3.mono hz2))) Htk.out).mono ?_; rintro e w4 ⟨rfl, hb4⟩; have hz4 := hb4.size))
      go_ret
      exact ⟨rfl, HB1.out.trans (Below.mono (show Below w1.heap.size w1 _ from hb2.trans ((hb3.trans (hb4.mono hz3)).mono hz2)) HB1.out.size)⟩
    · go_upto_region 6 with (first
        | (go_at_call 13; refine (reachAll_yes HT.out Htk.out).mono ?_; rintro e w2 ⟨A, c, a, rfl, hI, hA2, hb2⟩; have hz2 := hb2.size)
        | (go_at_call 14; refine (sreachAll_yes (HT.out.pure hb2) Htk.out).mono ?_; rintro e w3 ⟨A3, c3, a3, rfl, hI3, -, hb3⟩; have hz3 := hb3.size))
      obtain rfl : a3 = a := hI3.eq hI
      have hb13 : Below w1.heap.size w1 w3 := hb2.trans (hb3.mono hz2)
      have HT3 := Lib.hid (HT.out.pure hb13)
      have HA3 := Lib.hid (hA2.pure hb3)
      have HB3 := Lib.hid (HB1.out.trans (hb13.mono HB1.out.size))
      have HI := Lib.hid hI
      have hac := hI.len
      clear hI hI3 hA2 hb2 hb3 hb13 HT HB1
      go_upto_region 8 with (first
        | (go_at_call 15; refine (stableOk_u HT3.out Htk.out).mono ?_; rintro e wx ⟨rfl, hb4⟩; have hz4 := hb4.size))
      have hT := HT3.out.pure hb4
      have hA := HA3.out.pure hb4
      have HB := Lib.hid (HB3.out.trans (hb4.mono HB3.out.size))
      clear HT3 HA3 HB3 hb4 hz4 hz2 hz3
      have HT := Lib.hid hT
      have HA := Lib.hid hA
      clear hT hA
      obtain ⟨j0, hj0, hx0, hx1, hx2⟩ := info_parts info_thg
      obtain ⟨i0, hi0, hz0, hz1, hz2⟩ := info_parts info_rgt
      obtain ⟨kk, hkk⟩ : ∃ kk : Nat, kk = n2 % ts.length := ⟨_, rfl⟩
      have hkl : kk < ts.length := by rw [hkk]; exact Nat.mod_lt _ (by omega)
      have hmod : (n2 : Int) % (ts.length : Int) = (kk : Int) := by rw [hkk]; omega
      have hnz : ¬ (ts.length : Int) = 0 := by omega
      have Hkk := Lib.hid hkk
      clear hkk
      go_wp2
      clear hmod
      go_loopw [10] (fun s10 wr => ∃ i : Nat, s10 = .int .i64 (i : Int) ∧ i ≤ ts.length ∧ Below wx.heap.size wx wr) (fun s10 _ => ts.length - (intOf s10).toNat)
      case atStart => exact ⟨0, rfl, by omega, Below.refl _ _⟩
      case round =>
        obtain ⟨i, rfl, hi, hB⟩ := hrel
        obtain ⟨wi, rfl⟩ : ∃ y : World, y = wr := ⟨_, rfl⟩
        have HTi := Lib.hid (HT.out.pure hB)
        have HAi := Lib.hid (HA.out.pure hB)
        have HBi := Lib.hid hB
        have hzi := hB.size
        clear hB
        by_cases hlt : i < ts.length
        · have hi0' : (0 : Int) ≤ (i : Int) := by omega
          have hin : (i : Int) < (ts.length : Int) := by omega
          obtain ⟨t, htt⟩ : ∃ t, ts[i]? = some t := ⟨_, List.getElem?_eq_getElem hlt⟩
          obtain ⟨b, o, ps, cs, rfl, hbl, hS, hs1, hs2, c0, c3, c5⟩ := row_at HTi.out htt
          have hsl : t.slots.length ≤ 4 := slots4 Htk.out htt
          unfold maxLen at hs2
          have HS := Lib.hid hS
          have Htt := Lib.hid htt
          have HC := Lib.hid (show ∀ w' : World, Below wi.heap.size wi w' → w'.cell? ⟨b, o + i * 8 + 5, none⟩ = some (.slice ps t.slots.length cs) from fun w' h => (h.cell hbl).trans c5)
          clear htt hS c0 c3 c5 hbl
          go_wp2
          go_loopw [11] (fun s11 wr => ∃ m : Nat, s11 = .int .i64 (m : Int) ∧ m ≤ t.slots.length ∧ Below wi.heap.size wi wr) (fun s11 _ => t.slots.length - (intOf s11).toNat)
          case atStart => exact ⟨0, rfl, by omega, Below.refl _ _⟩
          case round =>
            obtain ⟨m, rfl, hm, hB⟩ := hrel
            obtain ⟨wm, rfl⟩ : ∃ y : World, y = wr := ⟨_, rfl⟩
            have HBm := Lib.hid hB
            have hzm := hB.size
            have c5 := HC.out _ hB
            by_cases hlt2 : m < t.slots.length
            · have hm0 : (0 : Int) ≤ (m : Int) := by omega
              have hmn : (m : Int) < (t.slots.length : Int) := by omega
              obtain ⟨x, hx⟩ : ∃ x, t.slots[m]? = some x := ⟨_, List.getElem?_eq_getElem hlt2⟩
              obtain ⟨sb, so, rfl, hsb, y0, y1, y2, y3, y4⟩ := (HS.out.pure hB).at m x hx
              by_cases hx0' : 0 < x.thing
              · go_wp2
                exact ⟨⟨m + 1, by go_num, by omega, HBm.out⟩, by simp [intOf]; omega⟩
              · have hxz : x.thing = 0 := by
                  have := rgt_bounds (r := x) (slots_okT Htk.out Htt.out x (List.mem_of_getElem? hx))
                  by_cases h : x.thing = 0
                  · exact h
                  · have := this h; omega
                have Hx := Lib.hid hx
                have Hxz := Lib.hid hxz
                have HSm := Lib.hid (HS.out.pure hB)
                have HTm := Lib.hid (HTi.out.pure hB)
                obtain ⟨xs, hxs, hrow, hth⟩ := HTm.out
                have hxl : xs.length = ts.length := by rw [← hxs]; simp
                have hsls : ∀ x ∈ xs, (∃ p n c, x.2.1 = .slice p n c) ∧ ∃ p n c, x.2.2 = .slice p n c := fun x hx => by
                  obtain ⟨p, c, e, -, -⟩ := RgtsAt.len (hth x hx).1
                  obtain ⟨p2, c2, e2, -, -⟩ := (show IntsAt wm x.2.2 x.1.queue from (hth x hx).2).len
                  exact ⟨⟨_, _, _, e⟩, ⟨_, _, _, e2⟩⟩
                obtain ⟨xi, hxi⟩ : ∃ xi, xs[i]? = some xi := ⟨_, List.getElem?_eq_getElem (by omega)⟩
                have Hxi := Lib.hid hxi
                have Hfl := Lib.hid (flat_thx xs hsls)
                have Hrow := Lib.hid hrow
                have Hth := Lib.hid hth
                have Hxs := Lib.hid hxs
                have hcm := cell_lt c5
                clear hx hxz hrow hth hxs hsls hxi hB
                go_upto_region 18 with (first | (at_builtin; refine wpList_append_rows rfl (.tmp 77) (.tmp 78) 23 rfl wm.heap.size 33 j0 _ 8 96 Tryz.underlying23 hj0 hx0 hx1 hx2 rfl (by decide) (.slice (some ⟨wm.heap.size, 0, none⟩) 0 0) 0 [] rfl (own_lit wm.heap.size rfl (Nat.le_refl _)) (.slice (some ⟨b, o, none⟩) ts.length k) (xs.map Thx.cells) rfl Hfl.out (Rows.pure Hrow.out (by (repeat (with_reducible first | exact Below.refl _ _ | refine Below.alloc ?_ ?_ _ | refine below_drewN ?_ _ | refine Below.drew ?_ | refine Below.setCell ?_ ?_ _ | refine Below.trans ?_ (Below.mono (by assumption) ?_))) <;> (first | omega | (simp; try omega)))) (by simp [maxLen] <;> omega) (by simp <;> omega) (by simp <;> omega) ?_; intro v9 w9 ho9 hg9))
                have hB9 : Below wm.heap.size wm w9 := ((Below.refl _ wm).alloc (Nat.le_refl _) _).grown hg9 (by simp) (fun j hj => by cases hj; exact Nat.le_refl _)
                obtain ⟨g, c9, rfl, hgg, hC9⟩ := CopyAt.of_own (w0 := wm) (w := w9) (B := wm.heap.size) (n := ts.length) (v := v9) (xs := xs) hxl (by omega) Hth.out hB9 (Nat.le_refl _) (by simpa [hxl] using ho9)
                have hz9 := hB9.size
                have c59 := (hB9.cell hcm).trans c5
                have hb9 := cell_lt c59
                have x5 := hC9.cell i xi Hxi.out 5 xi.2.1 (by simp [Thx.cells, Thg.cells])
                have f5 := hC9.fr (i * 8 + 5)
                have hgl := hC9.lt
                have HC9 := Lib.hid hC9
                have HB9 := Lib.hid hB9
                clear ho9 hg9 hC9 hB9 c5 y0 y1 y2 y3 y4
                go_upto_region 19 with (first | (at_builtin; refine wpList_append_rows rfl (.tmp 82) (.tmp 87) 30 rfl w9.heap.size 35 i0 _ 5 24 Tryz.underlying30 hi0 hz0 hz1 hz2 rfl (by decide) (.slice (some ⟨w9.heap.size, 0, none⟩) 0 0) 0 [] rfl (own_lit w9.heap.size rfl (Nat.le_refl _)) (.slice (some ⟨sb, so, none⟩) t.slots.length cs) (t.slots.map Rgt.cells) rfl (flat_rgts _) (Rows.pure (HSm.out.pure HB9.out) (by (repeat (with_reducible first | exact Below.refl _ _ | refine Below.alloc ?_ ?_ _ | refine below_drewN ?_ _ | refine Below.drew ?_ | refine Below.setCell ?_ ?_ _ | refine Below.trans ?_ (Below.mono (by assumption) ?_))) <;> (first | omega | (simp; try omega)))) (by simp [maxLen] <;> omega) (by simp <;> omega) (by simp <;> omega) ?_; intro v10 w10 ho10 hg10; obtain ⟨q10, c10, rfl⟩ := own_slice_n ho10; have hB10 : Below w9.heap.size w9 w10 := (((Below.refl _ w9).alloc (Nat.le_refl _) _).grown hg10 (by simp) (fun j hj => by cases hj; exact Nat.le_refl _)); have x5 := (hB10.cell hgl).trans x5; have f5 := ((bcell hB10).2 _ _ hgl).trans f5; have Ho10 := Lib.hid ho10; have HB10 := Lib.hid hB10; clear ho10 hg10 hB10))
                have hR10 : RgtsAt w10 (.slice q10 t.slots.length c10) t.slots := Rows.of_own (flat_rgts _) (by simpa using Ho10.out)
                obtain ⟨h, rfl, hh9, hfrh⟩ : ∃ h, q10 = some ⟨h, 0, none⟩ ∧ w9.heap.size ≤ h ∧ ∀ o, w10.frozen? ⟨h, o, none⟩ = false := by
                  obtain ⟨-, ⟨e, h0⟩ | ⟨h, cap', cur, e, hg', hheap, -⟩⟩ := Ho10.out
                  · exfalso; simp only [List.length_map] at h0; omega
                  · injection e with e1 _ _; exact ⟨h, e1, hg', fun o => by simp [World.frozen?, hheap]⟩
                have hCp := (HC9.out.pure HB10.out).put Hxi.out hR10 (fun e => by injection e with e; have e : h = g := e; omega)
                have hz10 := HB10.out.size
                have hBp : Below wm.heap.size wm (w10.setCell ⟨g, i * 8 + 5, none⟩ (.slice (some ⟨h, 0, none⟩) t.slots.length c10)) := (HB9.out.trans (HB10.out.mono HB9.out.size)).setCell (p := ⟨g, i * 8 + 5, none⟩) hgg _
                have hfp : ∀ o, (w10.setCell ⟨g, i * 8 + 5, none⟩ (.slice (some ⟨h, 0, none⟩) t.slots.length c10)).frozen? ⟨h, o, none⟩ = false := fun o => by simp [hfrh o]
                generalize w10.setCell ⟨g, i * 8 + 5, none⟩ (.slice (some ⟨h, 0, none⟩) t.slots.length c10) = wp at hCp hBp hfp ⊢
                obtain ⟨tk, htk⟩ : ∃ tk, ts[kk]? = some tk := ⟨_, List.getElem?_eq_getElem hkl⟩
                obtain ⟨b', o', psk, csk, e', hbk, -, -, -, -, k3, -⟩ := row_at (HTm.out.pure hBp) htk
                cases e'
                have hkk0 : (0 : Int) ≤ (kk : Int) := by omega
                have hkkn : (kk : Int) < (ts.length : Int) := by omega
                have hmod : (n2 : Int) % (ts.length : Int) = (kk : Int) := by rw [Hkk.out]; omega
                have hw3 : IntKind.i64.wrap ((kk : Int) + 1) = (kk : Int) + 1 := IntWalk.i64_in _ (by omega)
                have xx5 := hCp.cell i _ (by rw [List.getElem?_set, if_pos rfl, if_pos (by omega)]) 5 (.slice (some ⟨h, 0, none⟩) t.slots.length c10) (by simp [Thx.cells, Thg.cells])
                have hRp := (hCp.th _ (List.mem_of_getElem? (show (xs.set i ({ xi.1 with slots := t.slots }, .slice (some ⟨h, 0, none⟩) t.slots.length c10, xi.2.2))[i]? = _ by rw [List.getElem?_set, if_pos rfl, if_pos (by omega)]))).1.1
                obtain ⟨sb2, so2, e2, hsh, r0, r1, r2, r3, r4⟩ := hRp.at m x Hx.out
                cases e2
                simp only [Nat.zero_add] at r0 r1 r2 r3 r4
                have HF := Lib.hid (show ∀ w' : World, Below wp.heap.size wp w' → (w'.cell? ⟨g, i * 8 + 5, none⟩ = some (.slice (some ⟨h, 0, none⟩) t.slots.length c10) ∧ w'.cell? ⟨b, o + kk * 8 + 3, none⟩ = some (.int .i64 tk.vers) ∧ w'.cell? ⟨h, m * 5, none⟩ = some (.int .i64 x.thing) ∧ w'.cell? ⟨h, m * 5 + 1, none⟩ = some (.int .i64 x.vers) ∧ w'.cell? ⟨h, m * 5 + 2, none⟩ = some (.bool x.rd) ∧ w'.cell? ⟨h, m * 5 + 3, none⟩ = some (.bool x.wr) ∧ w'.cell? ⟨h, m * 5 + 4, none⟩ = some (.bool x.wk) ∧ ∀ o, w'.frozen? ⟨h, o, none⟩ = false) from fun w' hw =>
                  ⟨(hw.cell (cell_lt xx5)).trans xx5, (hw.cell (cell_lt k3)).trans k3, (hw.cell hsh).trans r0, (hw.cell hsh).trans r1, (hw.cell hsh).trans r2, (hw.cell hsh).trans r3, (hw.cell hsh).trans r4, fun o => ((bcell hw).2 _ _ hsh).trans (hfp o)⟩)
                clear r0 r1 r2 r3 r4
                have HCp := Lib.hid hCp
                have HBp := Lib.hid hBp
                have HRp := Lib.hid hRp
                clear hCp hBp hRp hR10 x5 f5 c59
                rw [hmod]
                refine wp_region_invB (fun d a w' => ∃ v91 v92 v93 v94 v95 v96 v97 v98 v99 v100 v101 v102 v103 v104 v105 v106 v107 v108, a = { tmps := #[.slice p n cap, .slice p2 n2 cap2, undef, undef, u4, .slice (some ⟨b, o, none⟩) ts.length k, .slice (some ⟨A, 0, none⟩) ts.length c, .slice (some ⟨A3, 0, none⟩) ts.length c3, .int .i64 (n2 : Int), .int .i64 (kk : Int), .int .i64 (i : Int), .int .i64 (m : Int), .slice (some ⟨g, 0, none⟩) ts.length c9, u13, u14, u15, .slice p n cap, .int .i64 (n : Int), .bool false, .bool false, .slice p2 n2 cap2, .int .i64 (n2 : Int), .bool false, .bool false, .slice p n cap, .slice (some ⟨b, o, none⟩) ts.length k, .slice (some ⟨b, o, none⟩) ts.length k, .slice (some ⟨A, 0, none⟩) ts.length c, .slice (some ⟨b, o, none⟩) ts.length k, .slice (some ⟨A3, 0, none⟩) ts.length c3, .slice (some ⟨A, 0, none⟩) ts.length c, .int .i64 (ts.length : Int), .slice (some ⟨A3, 0, none⟩) ts.length c3, .int .i64 (ts.length : Int), .bool false, .bool false, .slice (some ⟨b, o, none⟩) ts.length k, .bool true, .bool false, .bool false, undef, undef, undef, undef, undef, .slice p2 n2 cap2, .int .i64 (n2 : Int), .int .i64 (n2 : Int), .slice (some ⟨b, o, none⟩) ts.length k, .int .i64 (ts.length : Int), .int .i64 (kk : Int), .int .i64 (i : Int), .slice (some ⟨b, o, none⟩) ts.length k, .int .i64 (ts.length : Int), .bool true, u55, u56, .int .i64 (m : Int), .slice (some ⟨b, o, none⟩) ts.length k, .int .i64 (i : Int), .pointer (some ⟨b, o + i * 8, none⟩), .pointer (some ⟨b, o + i * 8 + 5, none⟩), .slice (some ⟨sb, so, none⟩) t.slots.length cs, .int .i64 (t.slots.length : Int), .bool true, u65, u66, .slice (some ⟨b, o, none⟩) ts.length k, .int .i64 (i : Int), .pointer (some ⟨b, o + i * 8, none⟩), .pointer (some ⟨b, o + i * 8 + 5, none⟩), .slice (some ⟨sb, so, none⟩) t.slots.length cs, .int .i64 (m : Int), .pointer (some ⟨sb, so + m * 5, none⟩), .pointer (some ⟨sb, so + m * 5, none⟩), .int .i64 x.thing, .bool false, .slice (some ⟨wm.heap.size, 0, none⟩) 0 0, .slice (some ⟨b, o, none⟩) ts.length k, .slice (some ⟨g, 0, none⟩) ts.length c9, .slice (some ⟨g, 0, none⟩) ts.length c9, .int .i64 (i : Int), .slice (some ⟨w9.heap.size, 0, none⟩) 0 0, .slice (some ⟨b, o, none⟩) ts.length k, .int .i64 (i : Int), .pointer (some ⟨b, o + i * 8, none⟩), .pointer (some ⟨b, o + i * 8 + 5, none⟩), .slice (some ⟨sb, so, none⟩) t.slots.length cs, .slice (some ⟨h, 0, none⟩) t.slots.length c10, .pointer (some ⟨g, i * 8, none⟩), .pointer (some ⟨g, i * 8 + 5, none⟩), v91, v92, v93, v94, v95, v96, v97, v98, v99, v100, v101, v102, v103, v104, v105, v106, v107, v108, u109, u110, u111, u112, u113, u114, u115, u116, u117, u118, u119, u120, u121, u122, u123, u124, u125, u126, u127, u128, u129, u130, u131, u132, u133, u134, u135, u136, u137, u138, u139, u140, u141, u142, u143], defers := [] } ∧ Mo19 (.slice (some ⟨g, 0, none⟩) ts.length c9) (.slice (some ⟨b, o, none⟩) ts.length k) (.slice (some ⟨h, 0, none⟩) t.slots.length c10) g h b o i m kk n2 tk.vers wp d w' v91 v92 v93 v94 v95 v96 v97 v98 v99 v100 v101 v102 v103 v104 v105 v106 v107 v108) (by kernel_rfl) (by kernel_rfl) ?_ ?_ ?_
                · refine ⟨_, _, _, _, _, _, _, _, _, _, _, _, _, _, _, _, _, _, rfl, ?_⟩
                  constructor
                  · exact Below.drew (Below.refl _ _)
                  · intro hj; exact absurd hj (by decide)
                  · intro hj; exact absurd hj (by decide)
                  · intro hj; exact absurd hj (by decide)
                  · intro hj; exact absurd hj (by decide)
                  · intro hj; exact absurd hj (by decide)
                  · intro hj; exact absurd hj (by decide)
                  · intro hj; exact absurd hj (by decide)
                  · intro hj; exact absurd hj (by decide)
                  · intro hj; exact absurd hj (by decide)
                  · intro hj; exact absurd hj (by decide)
                  · intro hj; exact absurd hj (by decide)
                  · intro hj; exact absurd hj (by decide)
                  · intro hj; exact absurd hj (by decide)
                  · intro hj; exact absurd hj (by decide)
                  · intro hj; exact absurd hj (by decide)
                  · intro hj; exact absurd hj (by decide)
                  · intro hj; exact absurd hj (by decide)
                  · intro hj; exact absurd hj (by decide)
                  · exact fun _ => Below.drew (Below.refl _ _)
                  · exact fun h => absurd h (by decide)
                  · exact fun h => absurd h (by decide)
                · refine ⟨?_, ?_, ?_, ?_, ?_, ?_, ?_, ?_, ?_, ?_, ?_, ?_, ?_, ?_, ?_, ?_, ?_, ?_, ?_, trivial⟩
                  · rintro d a w' hd hdep ⟨v91, v92, v93, v94, v95, v96, v97, v98, v99, v100, v101, v102, v103, v104, v105, v106, v107, v108, rfl, H⟩ K hK
                    clear hdep
                    go_simp
                    have hg : Below w'.heap.size w' w' := Below.refl _ _
                    exact hK _ _ ⟨_, _, _, _, _, _, _, _, _, _, _, _, _, _, _, _, _, _, rfl, ⟨H.chg.trans (hg.mono (Nat.zero_le _)), fun _ => rfl, fun h => H.p1 (mdk h), fun h => H.p2 (mdk h), fun h => H.p3 (mdk h), fun h => H.p4 (mdk h), fun h => H.p5 (mdk h), fun h => H.p6 (mdk h), fun h => H.p7 (mdk h), fun h => H.p8 (mdk h), fun h => H.p9 (mdk h), fun h => H.p10 (mdk h), fun h => H.p11 (mdk h), fun h => H.p12 (mdk h), fun h => H.p13 (mdk h), fun h => H.p14 (mdk h), fun h => H.p15 (mdk h), fun h => H.p16 (mdk h), fun h => H.p17 (mdk h), fun h => H.x0 (mdf h), fun h => H.x1 (mdk h), fun h => by have := H.z18 (mdk h); simp [this]⟩⟩
                  · rintro d a w' hd hdep ⟨v91, v92, v93, v94, v95, v96, v97, v98, v99, v100, v101, v102, v103, v104, v105, v106, v107, v108, rfl, H⟩ K hK
                    clear hdep
                    go_simp
                    have hg : Below w'.heap.size w' w' := Below.refl _ _
                    exact hK _ _ ⟨_, _, _, _, _, _, _, _, _, _, _, _, _, _, _, _, _, _, rfl, ⟨H.chg.trans (hg.mono (Nat.zero_le _)), fun h => H.p0 (mdk h), fun _ => rfl, fun h => H.p2 (mdk h), fun h => H.p3 (mdk h), fun h => H.p4 (mdk h), fun h => H.p5 (mdk h), fun h => H.p6 (mdk h), fun h => H.p7 (mdk h), fun h => H.p8 (mdk h), fun h => H.p9 (mdk h), fun h => H.p10 (mdk h), fun h => H.p11 (mdk h), fun h => H.p12 (mdk h), fun h => H.p13 (mdk h), fun h => H.p14 (mdk h), fun h => H.p15 (mdk h), fun h => H.p16 (mdk h), fun h => H.p17 (mdk h), fun h => H.x0 (mdf h), fun h => H.x1 (mdk h), fun h => by have := H.z18 (mdk h); simp [this]⟩⟩
                  · rintro d a w' hd hdep ⟨v91, v92, v93, v94, v95, v96, v97, v98, v99, v100, v101, v102, v103, v104, v105, v106, v107, v108, rfl, H⟩ K hK
                    have d0 : d 0 = true := hdep ⟨0, .data⟩ (by simp) rfl
                    have d1 : d 1 = true := hdep ⟨1, .data⟩ (by simp) rfl
                    clear hdep
                    have e0 := H.p0 d0
                    subst e0
                    have e1 := H.p1 d1
                    subst e1
                    go_simp
                    have hg : Below w'.heap.size w' w' := Below.refl _ _
                    exact hK _ _ ⟨_, _, _, _, _, _, _, _, _, _, _, _, _, _, _, _, _, _, rfl, ⟨H.chg.trans (hg.mono (Nat.zero_le _)), fun h => H.p0 (mdk h), fun h => H.p1 (mdk h), fun _ => rfl, fun h => H.p3 (mdk h), fun h => H.p4 (mdk h), fun h => H.p5 (mdk h), fun h => H.p6 (mdk h), fun h => H.p7 (mdk h), fun h => H.p8 (mdk h), fun h => H.p9 (mdk h), fun h => H.p10 (mdk h), fun h => H.p11 (mdk h), fun h => H.p12 (mdk h), fun h => H.p13 (mdk h), fun h => H.p14 (mdk h), fun h => H.p15 (mdk h), fun h => H.p16 (mdk h), fun h => H.p17 (mdk h), fun h => H.x0 (mdf h), fun h => H.x1 (mdk h), fun h => by have := H.z18 (mdk h); simp [this]⟩⟩
                  · rintro d a w' hd hdep ⟨v91, v92, v93, v94, v95, v96, v97, v98, v99, v100, v101, v102, v103, v104, v105, v106, v107, v108, rfl, H⟩ K hK
                    have d2 : d 2 = true := hdep ⟨2, .data⟩ (by simp) rfl
                    clear hdep
                    have e2 := H.p2 d2
                    subst e2
                    go_simp
                    have hg : Below w'.heap.size w' w' := Below.refl _ _
                    exact hK _ _ ⟨_, _, _, _, _, _, _, _, _, _, _, _, _, _, _, _, _, _, rfl, ⟨H.chg.trans (hg.mono (Nat.zero_le _)), fun h => H.p0 (mdk h), fun h => H.p1 (mdk h), fun h => H.p2 (mdk h), fun _ => rfl, fun h => H.p4 (mdk h), fun h => H.p5 (mdk h), fun h => H.p6 (mdk h), fun h => H.p7 (mdk h), fun h => H.p8 (mdk h), fun h => H.p9 (mdk h), fun h => H.p10 (mdk h), fun h => H.p11 (mdk h), fun h => H.p12 (mdk h), fun h => H.p13 (mdk h), fun h => H.p14 (mdk h), fun h => H.p15 (mdk h), fun h => H.p16 (mdk h), fun h => H.p17 (mdk h), fun h => H.x0 (mdf h), fun h => H.x1 (mdk h), fun h => by have := H.z18 (mdk h); simp [this]⟩⟩
                  · rintro d a w' hd hdep ⟨v91, v92, v93, v94, v95, v96, v97, v98, v99, v100, v101, v102, v103, v104, v105, v106, v107, v108, rfl, H⟩ K hK
                    have d3 : d 3 = true := hdep ⟨3, .data⟩ (by simp) rfl
                    clear hdep
                    have e3 := H.p3 d3
                    subst e3
                    have hB9 := H.x0 (Bool.eq_false_iff.2 (fun h9 => by have := H.z18 h9; simp [hd] at this))
                    obtain ⟨f1, f2, f3, f4, f5, f6, f7, f8⟩ := HF.out _ hB9
                    go_simp
                    have hg : Below w'.heap.size w' w' := Below.refl _ _
                    exact hK _ _ ⟨_, _, _, _, _, _, _, _, _, _, _, _, _, _, _, _, _, _, rfl, ⟨H.chg.trans (hg.mono (Nat.zero_le _)), fun h => H.p0 (mdk h), fun h => H.p1 (mdk h), fun h => H.p2 (mdk h), fun h => H.p3 (mdk h), fun _ => rfl, fun h => H.p5 (mdk h), fun h => H.p6 (mdk h), fun h => H.p7 (mdk h), fun h => H.p8 (mdk h), fun h => H.p9 (mdk h), fun h => H.p10 (mdk h), fun h => H.p11 (mdk h), fun h => H.p12 (mdk h), fun h => H.p13 (mdk h), fun h => H.p14 (mdk h), fun h => H.p15 (mdk h), fun h => H.p16 (mdk h), fun h => H.p17 (mdk h), fun h => H.x0 (mdf h), fun h => H.x1 (mdk h), fun h => by have := H.z18 (mdk h); simp [this]⟩⟩
                  · rintro d a w' hd hdep ⟨v91, v92, v93, v94, v95, v96, v97, v98, v99, v100, v101, v102, v103, v104, v105, v106, v107, v108, rfl, H⟩ K hK
                    clear hdep
                    go_simp
                    have hg : Below w'.heap.size w' w' := Below.refl _ _
                    exact hK _ _ ⟨_, _, _, _, _, _, _, _, _, _, _, _, _, _, _, _, _, _, rfl, ⟨H.chg.trans (hg.mono (Nat.zero_le _)), fun h => H.p0 (mdk h), fun h => H.p1 (mdk h), fun h => H.p2 (mdk h), fun h => H.p3 (mdk h), fun h => H.p4 (mdk h), fun _ => rfl, fun h => H.p6 (mdk h), fun h => H.p7 (mdk h), fun h => H.p8 (mdk h), fun h => H.p9 (mdk h), fun h => H.p10 (mdk h), fun h => H.p11 (mdk h), fun h => H.p12 (mdk h), fun h => H.p13 (mdk h), fun h => H.p14 (mdk h), fun h => H.p15 (mdk h), fun h => H.p16 (mdk h), fun h => H.p17 (mdk h), fun h => H.x0 (mdf h), fun h => H.x1 (mdk h), fun h => by have := H.z18 (mdk h); simp [this]⟩⟩
                  · rintro d a w' hd hdep ⟨v91, v92, v93, v94, v95, v96, v97, v98, v99, v100, v101, v102, v103, v104, v105, v106, v107, v108, rfl, H⟩ K hK
                    clear hdep
                    go_simp
                    have hg : Below w'.heap.size w' w' := Below.refl _ _
                    exact hK _ _ ⟨_, _, _, _, _, _, _, _, _, _, _, _, _, _, _, _, _, _, rfl, ⟨H.chg.trans (hg.mono (Nat.zero_le _)), fun h => H.p0 (mdk h), fun h => H.p1 (mdk h), fun h => H.p2 (mdk h), fun h => H.p3 (mdk h), fun h => H.p4 (mdk h), fun h => H.p5 (mdk h), fun _ => rfl, fun h => H.p7 (mdk h), fun h => H.p8 (mdk h), fun h => H.p9 (mdk h), fun h => H.p10 (mdk h), fun h => H.p11 (mdk h), fun h => H.p12 (mdk h), fun h => H.p13 (mdk h), fun h => H.p14 (mdk h), fun h => H.p15 (mdk h), fun h => H.p16 (mdk h), fun h => H.p17 (mdk h), fun h => H.x0 (mdf h), fun h => H.x1 (mdk h), fun h => by have := H.z18 (mdk h); simp [this]⟩⟩
                  · rintro d a w' hd hdep ⟨v91, v92, v93, v94, v95, v96, v97, v98, v99, v100, v101, v102, v103, v104, v105, v106, v107, v108, rfl, H⟩ K hK
                    have d6 : d 6 = true := hdep ⟨6, .data⟩ (by simp) rfl
                    clear hdep
                    have e6 := H.p6 d6
                    subst e6
                    go_simp
                    have hg : Below w'.heap.size w' w' := Below.refl _ _
                    exact hK _ _ ⟨_, _, _, _, _, _, _, _, _, _, _, _, _, _, _, _, _, _, rfl, ⟨H.chg.trans (hg.mono (Nat.zero_le _)), fun h => H.p0 (mdk h), fun h => H.p1 (mdk h), fun h => H.p2 (mdk h), fun h => H.p3 (mdk h), fun h => H.p4 (mdk h), fun h => H.p5 (mdk h), fun h => H.p6 (mdk h), fun _ => rfl, fun h => H.p8 (mdk h), fun h => H.p9 (mdk h), fun h => H.p10 (mdk h), fun h => H.p11 (mdk h), fun h => H.p12 (mdk h), fun h => H.p13 (mdk h), fun h => H.p14 (mdk h), fun h => H.p15 (mdk h), fun h => H.p16 (mdk h), fun h => H.p17 (mdk h), fun h => H.x0 (mdf h), fun h => H.x1 (mdk h), fun h => by have := H.z18 (mdk h); simp [this]⟩⟩
                  · rintro d a w' hd hdep ⟨v91, v92, v93, v94, v95, v96, v97, v98, v99, v100, v101, v102, v103, v104, v105, v106, v107, v108, rfl, H⟩ K hK
                    clear hdep
                    go_simp
                    have hg : Below w'.heap.size w' w' := Below.refl _ _
                    exact hK _ _ ⟨_, _, _, _, _, _, _, _, _, _, _, _, _, _, _, _, _, _, rfl, ⟨H.chg.trans (hg.mono (Nat.zero_le _)), fun h => H.p0 (mdk h), fun h => H.p1 (mdk h), fun h => H.p2 (mdk h), fun h => H.p3 (mdk h), fun h => H.p4 (mdk h), fun h => H.p5 (mdk h), fun h => H.p6 (mdk h), fun h => H.p7 (mdk h), fun _ => rfl, fun h => H.p9 (mdk h), fun h => H.p10 (mdk h), fun h => H.p11 (mdk h), fun h => H.p12 (mdk h), fun h => H.p13 (mdk h), fun h => H.p14 (mdk h), fun h => H.p15 (mdk h), fun h => H.p16 (mdk h), fun h => H.p17 (mdk h), fun h => H.x0 (mdf h), fun h => H.x1 (mdk h), fun h => by have := H.z18 (mdk h); simp [this]⟩⟩
                  · rintro d a w' hd hdep ⟨v91, v92, v93, v94, v95, v96, v97, v98, v99, v100, v101, v102, v103, v104, v105, v106, v107, v108, rfl, H⟩ K hK
                    clear hdep
                    go_simp
                    have hg : Below w'.heap.size w' w' := Below.refl _ _
                    exact hK _ _ ⟨_, _, _, _, _, _, _, _, _, _, _, _, _, _, _, _, _, _, rfl, ⟨H.chg.trans (hg.mono (Nat.zero_le _)), fun h => H.p0 (mdk h), fun h => H.p1 (mdk h), fun h => H.p2 (mdk h), fun h => H.p3 (mdk h), fun h => H.p4 (mdk h), fun h => H.p5 (mdk h), fun h => H.p6 (mdk h), fun h => H.p7 (mdk h), fun h => H.p8 (mdk h), fun _ => rfl, fun h => H.p10 (mdk h), fun h => H.p11 (mdk h), fun h => H.p12 (mdk h), fun h => H.p13 (mdk h), fun h => H.p14 (mdk h), fun h => H.p15 (mdk h), fun h => H.p16 (mdk h), fun h => H.p17 (mdk h), fun h => H.x0 (mdf h), fun h => H.x1 (mdk h), fun h => by have := H.z18 (mdk h); simp [this]⟩⟩
                  · rintro d a w' hd hdep ⟨v91, v92, v93, v94, v95, v96, v97, v98, v99, v100, v101, v102, v103, v104, v105, v106, v107, v108, rfl, H⟩ K hK
                    have d8 : d 8 = true := hdep ⟨8, .data⟩ (by simp) rfl
                    have d9 : d 9 = true := hdep ⟨9, .data⟩ (by simp) rfl
                    clear hdep
                    have e8 := H.p8 d8
                    subst e8
                    have e9 := H.p9 d9
                    subst e9
                    go_simp
                    have hg : Below w'.heap.size w' w' := Below.refl _ _
                    exact hK _ _ ⟨_, _, _, _, _, _, _, _, _, _, _, _, _, _, _, _, _, _, rfl, ⟨H.chg.trans (hg.mono (Nat.zero_le _)), fun h => H.p0 (mdk h), fun h => H.p1 (mdk h), fun h => H.p2 (mdk h), fun h => H.p3 (mdk h), fun h => H.p4 (mdk h), fun h => H.p5 (mdk h), fun h => H.p6 (mdk h), fun h => H.p7 (mdk h), fun h => H.p8 (mdk h), fun h => H.p9 (mdk h), fun _ => rfl, fun h => H.p11 (mdk h), fun h => H.p12 (mdk h), fun h => H.p13 (mdk h), fun h => H.p14 (mdk h), fun h => H.p15 (mdk h), fun h => H.p16 (mdk h), fun h => H.p17 (mdk h), fun h => H.x0 (mdf h), fun h => H.x1 (mdk h), fun h => by have := H.z18 (mdk h); simp [this]⟩⟩
                  · rintro d a w' hd hdep ⟨v91, v92, v93, v94, v95, v96, v97, v98, v99, v100, v101, v102, v103, v104, v105, v106, v107, v108, rfl, H⟩ K hK
                    have d10 : d 10 = true := hdep ⟨10, .data⟩ (by simp) rfl
                    clear hdep
                    have e10 := H.p10 d10
                    subst e10
                    go_simp
                    have hg : Below w'.heap.size w' w' := Below.refl _ _
                    exact hK _ _ ⟨_, _, _, _, _, _, _, _, _, _, _, _, _, _, _, _, _, _, rfl, ⟨H.chg.trans (hg.mono (Nat.zero_le _)), fun h => H.p0 (mdk h), fun h => H.p1 (mdk h), fun h => H.p2 (mdk h), fun h => H.p3 (mdk h), fun h => H.p4 (mdk h), fun h => H.p5 (mdk h), fun h => H.p6 (mdk h), fun h => H.p7 (mdk h), fun h => H.p8 (mdk h), fun h => H.p9 (mdk h), fun h => H.p10 (mdk h), fun _ => rfl, fun h => H.p12 (mdk h), fun h => H.p13 (mdk h), fun h => H.p14 (mdk h), fun h => H.p15 (mdk h), fun h => H.p16 (mdk h), fun h => H.p17 (mdk h), fun h => H.x0 (mdf h), fun h => H.x1 (mdk h), fun h => by have := H.z18 (mdk h); simp [this]⟩⟩
                  · rintro d a w' hd hdep ⟨v91, v92, v93, v94, v95, v96, v97, v98, v99, v100, v101, v102, v103, v104, v105, v106, v107, v108, rfl, H⟩ K hK
                    have d11 : d 11 = true := hdep ⟨11, .data⟩ (by simp) rfl
                    clear hdep
                    have e11 := H.p11 d11
                    subst e11
                    have hB9 := H.x0 (Bool.eq_false_iff.2 (fun h9 => by have := H.z18 h9; simp [hd] at this))
                    obtain ⟨f1, f2, f3, f4, f5, f6, f7, f8⟩ := HF.out _ hB9
                    go_simp
                    have hg : Below w'.heap.size w' w' := Below.refl _ _
                    exact hK _ _ ⟨_, _, _, _, _, _, _, _, _, _, _, _, _, _, _, _, _, _, rfl, ⟨H.chg.trans (hg.mono (Nat.zero_le _)), fun h => H.p0 (mdk h), fun h => H.p1 (mdk h), fun h => H.p2 (mdk h), fun h => H.p3 (mdk h), fun h => H.p4 (mdk h), fun h => H.p5 (mdk h), fun h => H.p6 (mdk h), fun h => H.p7 (mdk h), fun h => H.p8 (mdk h), fun h => H.p9 (mdk h), fun h => H.p10 (mdk h), fun h => H.p11 (mdk h), fun _ => rfl, fun h => H.p13 (mdk h), fun h => H.p14 (mdk h), fun h => H.p15 (mdk h), fun h => H.p16 (mdk h), fun h => H.p17 (mdk h), fun h => H.x0 (mdf h), fun h => H.x1 (mdk h), fun h => by have := H.z18 (mdk h); simp [this]⟩⟩
                  · rintro d a w' hd hdep ⟨v91, v92, v93, v94, v95, v96, v97, v98, v99, v100, v101, v102, v103, v104, v105, v106, v107, v108, rfl, H⟩ K hK
                    clear hdep
                    go_simp
                    have hg : Below w'.heap.size w' w' := Below.refl _ _
                    exact hK _ _ ⟨_, _, _, _, _, _, _, _, _, _, _, _, _, _, _, _, _, _, rfl, ⟨H.chg.trans (hg.mono (Nat.zero_le _)), fun h => H.p0 (mdk h), fun h => H.p1 (mdk h), fun h => H.p2 (mdk h), fun h => H.p3 (mdk h), fun h => H.p4 (mdk h), fun h => H.p5 (mdk h), fun h => H.p6 (mdk h), fun h => H.p7 (mdk h), fun h => H.p8 (mdk h), fun h => H.p9 (mdk h), fun h => H.p10 (mdk h), fun h => H.p11 (mdk h), fun h => H.p12 (mdk h), fun _ => rfl, fun h => H.p14 (mdk h), fun h => H.p15 (mdk h), fun h => H.p16 (mdk h), fun h => H.p17 (mdk h), fun h => H.x0 (mdf h), fun h => H.x1 (mdk h), fun h => by have := H.z18 (mdk h); simp [this]⟩⟩
                  · rintro d a w' hd hdep ⟨v91, v92, v93, v94, v95, v96, v97, v98, v99, v100, v101, v102, v103, v104, v105, v106, v107, v108, rfl, H⟩ K hK
                    have d13 : d 13 = true := hdep ⟨13, .data⟩ (by simp) rfl
                    clear hdep
                    have e13 := H.p13 d13
                    subst e13
                    go_simp
                    have hg : Below w'.heap.size w' w' := Below.refl _ _
                    exact hK _ _ ⟨_, _, _, _, _, _, _, _, _, _, _, _, _, _, _, _, _, _, rfl, ⟨H.chg.trans (hg.mono (Nat.zero_le _)), fun h => H.p0 (mdk h), fun h => H.p1 (mdk h), fun h => H.p2 (mdk h), fun h => H.p3 (mdk h), fun h => H.p4 (mdk h), fun h => H.p5 (mdk h), fun h => H.p6 (mdk h), fun h => H.p7 (mdk h), fun h => H.p8 (mdk h), fun h => H.p9 (mdk h), fun h => H.p10 (mdk h), fun h => H.p11 (mdk h), fun h => H.p12 (mdk h), fun h => H.p13 (mdk h), fun _ => rfl, fun h => H.p15 (mdk h), fun h => H.p16 (mdk h), fun h => H.p17 (mdk h), fun h => H.x0 (mdf h), fun h => H.x1 (mdk h), fun h => by have := H.z18 (mdk h); simp [this]⟩⟩
                  · rintro d a w' hd hdep ⟨v91, v92, v93, v94, v95, v96, v97, v98, v99, v100, v101, v102, v103, v104, v105, v106, v107, v108, rfl, H⟩ K hK
                    have d14 : d 14 = true := hdep ⟨14, .data⟩ (by simp) rfl
                    clear hdep
                    have e14 := H.p14 d14
                    subst e14
                    go_simp
                    have hg : Below w'.heap.size w' w' := Below.refl _ _
                    exact hK _ _ ⟨_, _, _, _, _, _, _, _, _, _, _, _, _, _, _, _, _, _, rfl, ⟨H.chg.trans (hg.mono (Nat.zero_le _)), fun h => H.p0 (mdk h), fun h => H.p1 (mdk h), fun h => H.p2 (mdk h), fun h => H.p3 (mdk h), fun h => H.p4 (mdk h), fun h => H.p5 (mdk h), fun h => H.p6 (mdk h), fun h => H.p7 (mdk h), fun h => H.p8 (mdk h), fun h => H.p9 (mdk h), fun h => H.p10 (mdk h), fun h => H.p11 (mdk h), fun h => H.p12 (mdk h), fun h => H.p13 (mdk h), fun h => H.p14 (mdk h), fun _ => rfl, fun h => H.p16 (mdk h), fun h => H.p17 (mdk h), fun h => H.x0 (mdf h), fun h => H.x1 (mdk h), fun h => by have := H.z18 (mdk h); simp [this]⟩⟩
                  · rintro d a w' hd hdep ⟨v91, v92, v93, v94, v95, v96, v97, v98, v99, v100, v101, v102, v103, v104, v105, v106, v107, v108, rfl, H⟩ K hK
                    have d7 : d 7 = true := hdep ⟨7, .data⟩ (by simp) rfl
                    have d12 : d 12 = true := hdep ⟨12, .data⟩ (by simp) rfl
                    have d15 : d 15 = true := hdep ⟨15, .data⟩ (by simp) rfl
                    clear hdep
                    have e7 := H.p7 d7
                    subst e7
                    have e12 := H.p12 d12
                    subst e12
                    have e15 := H.p15 d15
                    subst e15
                    go_simp
                    have hg : Below w'.heap.size w' w' := Below.refl _ _
                    exact hK _ _ ⟨_, _, _, _, _, _, _, _, _, _, _, _, _, _, _, _, _, _, rfl, ⟨H.chg.trans (hg.mono (Nat.zero_le _)), fun h => H.p0 (mdk h), fun h => H.p1 (mdk h), fun h => H.p2 (mdk h), fun h => H.p3 (mdk h), fun h => H.p4 (mdk h), fun h => H.p5 (mdk h), fun h => H.p6 (mdk h), fun h => H.p7 (mdk h), fun h => H.p8 (mdk h), fun h => H.p9 (mdk h), fun h => H.p10 (mdk h), fun h => H.p11 (mdk h), fun h => H.p12 (mdk h), fun h => H.p13 (mdk h), fun h => H.p14 (mdk h), fun h => H.p15 (mdk h), fun _ => rfl, fun h => H.p17 (mdk h), fun h => H.x0 (mdf h), fun h => H.x1 (mdk h), fun h => by have := H.z18 (mdk h); simp [this]⟩⟩
                  · rintro d a w' hd hdep ⟨v91, v92, v93, v94, v95, v96, v97, v98, v99, v100, v101, v102, v103, v104, v105, v106, v107, v108, rfl, H⟩ K hK
                    have d4 : d 4 = true := hdep ⟨4, .data⟩ (by simp) rfl
                    have d5 : d 5 = true := hdep ⟨5, .data⟩ (by simp) rfl
                    clear hdep
                    have e4 := H.p4 d4
                    subst e4
                    have e5 := H.p5 d5
                    subst e5
                    go_simp
                    have hg : Below w'.heap.size w' w' := Below.refl _ _
                    exact hK _ _ ⟨_, _, _, _, _, _, _, _, _, _, _, _, _, _, _, _, _, _, rfl, ⟨H.chg.trans (hg.mono (Nat.zero_le _)), fun h => H.p0 (mdk h), fun h => H.p1 (mdk h), fun h => H.p2 (mdk h), fun h => H.p3 (mdk h), fun h => H.p4 (mdk h), fun h => H.p5 (mdk h), fun h => H.p6 (mdk h), fun h => H.p7 (mdk h), fun h => H.p8 (mdk h), fun h => H.p9 (mdk h), fun h => H.p10 (mdk h), fun h => H.p11 (mdk h), fun h => H.p12 (mdk h), fun h => H.p13 (mdk h), fun h => H.p14 (mdk h), fun h => H.p15 (mdk h), fun h => H.p16 (mdk h), fun _ => rfl, fun h => H.x0 (mdf h), fun h => H.x1 (mdk h), fun h => by have := H.z18 (mdk h); simp [this]⟩⟩
                  · rintro d a w' hd hdep ⟨v91, v92, v93, v94, v95, v96, v97, v98, v99, v100, v101, v102, v103, v104, v105, v106, v107, v108, rfl, H⟩ K hK
                    have d17 : d 17 = true := hdep ⟨17, .data⟩ (by simp) rfl
                    have d16 : d 16 = true := hdep ⟨16, .data⟩ (by simp) rfl
                    have d4 : d 4 = true := hdep ⟨4, .phase⟩ (by simp) rfl
                    have d12 : d 12 = true := hdep ⟨12, .phase⟩ (by simp) rfl
                    clear hdep
                    have e17 := H.p17 d17
                    subst e17
                    have e16 := H.p16 d16
                    subst e16
                    have hB9 := H.x0 hd
                    obtain ⟨f1, f2, f3, f4, f5, f6, f7, f8⟩ := HF.out _ hB9
                    go_simp
                    exact hK _ _ ⟨_, _, _, _, _, _, _, _, _, _, _, _, _, _, _, _, _, _, rfl, ⟨((((H.chg.setCell (Nat.zero_le _) _).setCell (Nat.zero_le _) _).setCell (Nat.zero_le _) _).setCell (Nat.zero_le _) _).setCell (Nat.zero_le _) _, fun h => H.p0 (mdk h), fun h => H.p1 (mdk h), fun h => H.p2 (mdk h), fun h => H.p3 (mdk h), fun h => H.p4 (mdk h), fun h => H.p5 (mdk h), fun h => H.p6 (mdk h), fun h => H.p7 (mdk h), fun h => H.p8 (mdk h), fun h => H.p9 (mdk h), fun h => H.p10 (mdk h), fun h => H.p11 (mdk h), fun h => H.p12 (mdk h), fun h => H.p13 (mdk h), fun h => H.p14 (mdk h), fun h => H.p15 (mdk h), fun h => H.p16 (mdk h), fun h => H.p17 (mdk h), fun h => absurd h (by simp), fun _ => ⟨w', hB9, rfl⟩, fun _ => by simp [d4, d12]⟩⟩
                · rintro d a w' hall ⟨v91, v92, v93, v94, v95, v96, v97, v98, v99, v100, v101, v102, v103, v104, v105, v106, v107, v108, rfl, H⟩
                  have hd18 : d 18 = true := hall 18 (by decide)
                  obtain ⟨wq, hBq, hwe⟩ := H.x1 hd18
                  clear H
                  have hzq := hBq.size
                  have hCq := HCp.out.pure hBq
                  have hRq := HRp.out.pure hBq
                  have hhq : h < wq.heap.size := Nat.lt_of_lt_of_le hsh hzq
                  have hgh : g ≠ h := by omega
                  have hchq : Chg (fun b => b = h) wq w' := by
                    rw [hwe]; exact ((((Chg.setCell (S := fun b => b = h) (Chg.refl _ _) rfl _).setCell rfl _).setCell rfl _).setCell rfl _).setCell rfl _
                  have hR' : RgtsAt w' (.slice (some ⟨h, 0, none⟩) t.slots.length c10) (t.slots.set m ⟨(kk : Int) + 1, tk.vers, true, (n2 : Int) % 2 == 0, false⟩) := by
                    have hq := hRq
                    obtain ⟨b2, o2, e2, -, r0, r1, r2, r3, r4⟩ := hq.at m x Hx.out
                    cases e2
                    simp only [Nat.zero_add] at r0 r1 r2 r3 r4
                    unfold RgtsAt
                    rw [List.map_set, hwe]
                    refine Drw.Rows.put hq (fun c hc => ?_) (fun i u hu => ?_) (fun off ho => ?_)
                    · rw [List.mem_map] at hc; obtain ⟨y, -, rfl⟩ := hc; simp [Rgt.cells]
                    · simp only [Nat.zero_add]
                      rcases i with _ | _ | _ | _ | _ | i
                      all_goals (simp [Rgt.cells] at hu)
                      all_goals (try subst hu)
                      all_goals (simp [cell_set, r0, r1, r2, r3, r4]; done)
                    · repeat (rw [cell_set, if_neg (by intro e; simp only [Addr.mk.injEq] at e; omega)])
                  have hxl2 : i < xs.length := by omega
                  have hThm := HTm.out
                  have hC' := hCq.row (i := i) (x := ({ xi.1 with slots := t.slots }, .slice (some ⟨h, 0, none⟩) t.slots.length c10, xi.2.2)) (by rw [List.getElem?_set, if_pos rfl, if_pos hxl2]) hchq hgh (fun k y hk hy => by
                    rw [List.getElem?_set, if_neg (fun e => hk e.symm)] at hy
                    have hy2 := Hth.out y (List.mem_of_getElem? hy)
                    exact ⟨rgts_blk hy2.1 (by omega), ints_blk hy2.2 (by omega)⟩) (ints_blk (Hth.out xi (List.mem_of_getElem? Hxi.out)).2 (by omega)) hR' (fun e => by simp [Value.ownBlock] at e; omega)
                  rw [List.set_set] at hC'
                  have hTab := hC'.tab
                  have hmapE : ((xs.set i ({ ({ xi.1 with slots := t.slots } : Thg) with slots := t.slots.set m ⟨(kk : Int) + 1, tk.vers, true, (n2 : Int) % 2 == 0, false⟩ }, .slice (some ⟨h, 0, none⟩) t.slots.length c10, xi.2.2)).map (·.1)) = plusT ts i m kk ((n2 : Int) % 2 == 0) := by
                    have hxi1 : xi.1 = t := by
                      have := Htt.out
                      rw [← Hxs.out, List.getElem?_map, Hxi.out] at this
                      simpa using this
                    rw [map_set_setT (f := setSlot (m : Int) ⟨(kk : Int) + 1, tk.vers, true, (n2 : Int) % 2 == 0, false⟩) (t := xi.1) (sv := xi.2.1) (qv := xi.2.2) Hxi.out (by rw [hxi1]; simp [setSlot]), Hxs.out]
                    unfold plusT
                    rw [getT_at htk]
                  rw [hmapE] at hTab
                  have hpl : (plusT ts i m kk ((n2 : Int) % 2 == 0)).length = ts.length := by rw [← hmapE]; simp [hxl]
                  obtain ⟨hpok, -⟩ := plus_ok (slot := m) (wr := ((n2 : Int) % 2 == 0)) Htk.out (i := i) hlt hkl
                  have hBw : Below wm.heap.size wm w' := by
                    have h1 : Below wm.heap.size wm wq := HBp.out.trans (hBq.mono HBp.out.size)
                    have h2 : wm.heap.size ≤ h := by omega
                    rw [hwe]
                    exact ((((h1.setCell (p := ⟨h, _, none⟩) h2 _).setCell (p := ⟨h, _, none⟩) h2 _).setCell (p := ⟨h, _, none⟩) h2 _).setCell (p := ⟨h, _, none⟩) h2 _).setCell (p := ⟨h, _, none⟩) h2 _
                  rw [hpl] at hTab
                  obtain ⟨us, hus⟩ : ∃ us, us = plusT ts i m kk ((n2 : Int) % 2 == 0) := ⟨_, rfl⟩
                  have Hus := Lib.hid hus
                  rw [← hus] at hTab hpok hpl
                  have HTab := Lib.hid hTab
                  have Hpok := Lib.hid hpok
                  have HBw := Lib.hid hBw
                  have Hpl := Lib.hid hpl
                  have HA1 := Lib.hid (HAi.out.pure (HBm.out.trans (HBw.out.mono hzm)))
                  have Hcv := Lib.hid (show ∀ j : Nat, j < ts.length → ∀ b : List (List Rgt), IsReach us b → ∀ r : Rgt, r ∈ rowA a3 j → (r.thing = 0 ∨ ∃ s ∈ rowA b j, rgtIn r s = true) from fun j hj b hb r hr => reach_more Htk.out HI.out Htt.out hkl Hx.out Hxz.out (Hus.out ▸ hb) hj hr)
                  try clear hTab
                  try clear hpok
                  try clear hpl
                  try clear hBw
                  try clear hus
                  try clear hmapE
                  try clear hC'
                  try clear hThm
                  try clear hR'
                  try clear hchq
                  try clear hCq
                  try clear hRq
                  try clear hwe
                  try clear hBq
                  try clear x5
                  try clear hrow
                  try clear xx5
                  try clear hw3
                  try clear k3
                  try clear hmod
                  try clear htk
                  try clear hd18
                  try clear c0
                  try clear c3
                  try clear c5
                  try clear hzq
                  try clear hhq
                  go_upto_region 21 with (go_at_call 13; refine (reachAll_len Hpl.out HTab.out Hpok.out).mono ?_; rintro e wR ⟨AR, cR, bR, rfl, hIR, hbl, hAR, hbR⟩; have HIR := Lib.hid hIR; have HAR := Lib.hid hAR; have HBR := Lib.hid (HBw.out.trans (hbR.mono HBw.out.size)); have HA2 := Lib.hid (HA1.out.pure hbR); have Hbl := Lib.hid hbl; clear hIR hAR hbR hbl)
                  go_wp2
                  go_loopw [14] (fun s14 wr => ∃ j : Nat, s14 = .int .i64 (j : Int) ∧ j ≤ ts.length ∧ Below wR.heap.size wR wr) (fun s14 _ => ts.length - (intOf s14).toNat)
                  case atStart => exact ⟨0, rfl, by omega, Below.refl _ _⟩
                  case round =>
                    obtain ⟨j, rfl, hj, hB⟩ := hrel
                    obtain ⟨wj, rfl⟩ : ∃ y : World, y = wr := ⟨_, rfl⟩
                    have HBj := Lib.hid hB
                    have HAj := Lib.hid (HA2.out.pure hB)
                    have HARj := Lib.hid (HAR.out.pure hB)
                    have hzj := hB.size
                    clear hB
                    by_cases hlj : j < ts.length
                    · have hj0 : (0 : Int) ≤ (j : Int) := by omega
                      have hjn : (j : Int) < (ts.length : Int) := by omega
                      obtain ⟨qa, qc, g0, hG, hg1, hg2⟩ := all_at HAj.out (show j < a3.length by omega)
                      obtain ⟨qr, qd, r0, hGR, hr1, hr2⟩ := all_at HARj.out (show j < bR.length by rw [Hbl.out]; exact hlj)
                      obtain ⟨l, hl⟩ : ∃ l, rowA a3 j = l := ⟨_, rfl⟩
                      obtain ⟨l2, hl2⟩ : ∃ l, rowA bR j = l := ⟨_, rfl⟩
                      rw [hl] at g0 hG hg1
                      rw [hl2] at r0 hGR hr1
                      have hll : l.length ≤ 384 := by rw [← hl]; exact reach_row_len Htk.out HI.out j hlj
                      unfold maxLen at hg2 hr2
                      have HL := Lib.hid hl
                      have HL2 := Lib.hid hl2
                      have HG := Lib.hid hG
                      have HGR := Lib.hid hGR
                      have HRow := Lib.hid (show ∀ r ∈ l2, rgtOk r = true from by rw [← hl2]; exact HIR.out.rowOk Hpok.out (by rw [Hpl.out]; exact hlj))
                      have HC2 := Lib.hid (show ∀ w' : World, Below wj.heap.size wj w' → (w'.cell? ⟨A, j, none⟩ = some (.slice qa l.length qc) ∧ w'.cell? ⟨AR, j, none⟩ = some (.slice qr l2.length qd)) from fun w' h => ⟨(h.cell (cell_lt g0)).trans g0, (h.cell (cell_lt r0)).trans r0⟩)
                      clear hl hl2 hG hGR g0 r0
                      go_wp2
                      go_loopw [15] (fun s15 wr => ∃ n' : Nat, s15 = .int .i64 (n' : Int) ∧ n' ≤ l.length ∧ Below wj.heap.size wj wr) (fun s15 _ => l.length - (intOf s15).toNat)
                      case atStart => exact ⟨0, rfl, by omega, Below.refl _ _⟩
                      case round =>
                        obtain ⟨n', rfl, hn', hB⟩ := hrel
                        have HBn := Lib.hid hB
                        have hzn := hB.size
                        obtain ⟨g0, r0⟩ := HC2.out _ hB
                        by_cases hlt4 : n' < l.length
                        · have hn0 : (0 : Int) ≤ (n' : Int) := by omega
                          have hnn : (n' : Int) < (l.length : Int) := by omega
                          obtain ⟨x, hx⟩ : ∃ x, l[n']? = some x := ⟨_, List.getElem?_eq_getElem hlt4⟩
                          obtain ⟨eb, eo, rfl, heb, y0, y1, y2, y3, y4⟩ := (HG.out.pure hB).at n' x hx
                          have hxm : x ∈ rowA a3 j := by rw [HL.out]; exact List.mem_of_getElem? hx
                          have hcv := Hcv.out j hlj bR HIR.out x hxm
                          rw [HL2.out] at hcv
                          have Hcov := Lib.hid hcv
                          have Hxok := Lib.hid (HI.out.okR Htk.out hlj hxm).1
                          clear hx hB hxm hcv
                          obtain ⟨x0, x1, x2, x3, x4⟩ := x
                          dsimp only at y0 y1 y2 y3 y4
                          go_upto_region 27 with (fail)
                          have hg0l := cell_lt g0
                          have hr0l := cell_lt r0
                          have HK := Lib.hid (show ∀ w' : World, Below wr.heap.size wr w' → (Below wr.heap.size wr w' ∧ w'.cell? ⟨A, j, none⟩ = some (.slice (some ⟨eb, eo, none⟩) l.length qc) ∧ w'.cell? ⟨AR, j, none⟩ = some (.slice qr l2.length qd) ∧ w'.cell? ⟨eb, eo + n' * 5, none⟩ = some (.int .i64 x0) ∧ w'.cell? ⟨eb, eo + n' * 5 + 1, none⟩ = some (.int .i64 x1) ∧ w'.cell? ⟨eb, eo + n' * 5 + 2, none⟩ = some (.bool x2) ∧ w'.cell? ⟨eb, eo + n' * 5 + 3, none⟩ = some (.bool x3) ∧ w'.cell? ⟨eb, eo + n' * 5 + 4, none⟩ = some (.bool x4)) from fun w' h =>
                            ⟨h, (h.cell hg0l).trans g0, (h.cell hr0l).trans r0, (h.cell heb).trans y0, (h.cell heb).trans y1, (h.cell heb).trans y2, (h.cell heb).trans y3, (h.cell heb).trans y4⟩)
                          clear g0 r0 y0 y1 y2 y3 y4
                          go_cut [138] (fun s138 wz => s138 = .bool false ∧ Below wr.heap.size wr wz)
                          case first =>
                            first | (go_region_held3 (fun w' => Below wr.heap.size wr w' ∧ w'.cell? ⟨A, j, none⟩ = some (.slice (some ⟨eb, eo, none⟩) l.length qc) ∧ w'.cell? ⟨AR, j, none⟩ = some (.slice qr l2.length qd) ∧ w'.cell? ⟨eb, eo + n' * 5, none⟩ = some (.int .i64 x0) ∧ w'.cell? ⟨eb, eo + n' * 5 + 1, none⟩ = some (.int .i64 x1) ∧ w'.cell? ⟨eb, eo + n' * 5 + 2, none⟩ = some (.bool x2) ∧ w'.cell? ⟨eb, eo + n' * 5 + 3, none⟩ = some (.bool x3) ∧ w'.cell? ⟨eb, eo + n' * 5 + 4, none⟩ = some (.bool x4)) (first | assumption | exact HK.out _ (Below.refl _ _) | exact HK.out _ (Below.drew (Below.refl _ _)) | (have hX := And.left (by assumption : Below wr.heap.size wr _ ∧ _); exact HK.out _ (hX.trans (hb5.mono hX.size)))) (first | (go_at_call 16; with_reducible refine (reachIn_u ((HGR.out.pure HBn.out).pure (And.left (by assumption : Below wr.heap.size wr _ ∧ _))) HRow.out Hxok.out Hcov.out).mono ?_; rintro e w5 ⟨rfl, hb5⟩))) | fail
                            all_goals go_wp2
                            all_goals go_meet
                            all_goals exact ⟨rfl, And.left (by assumption : Below wr.heap.size wr _ ∧ _)⟩
                          case rest =>
                            obtain ⟨rfl, hBz⟩ := hcut
                            have HBz := Lib.hid (HBn.out.trans (hBz.mono hzn))
                            clear hBz
                            go_wp2
                            exact ⟨⟨n' + 1, by go_num, by omega, HBz.out⟩, by simp [intOf]; omega⟩
                        · have hnn : ¬ (n' : Int) < (l.length : Int) := by omega
                          clear hB
                          go_wp2
                          exact ⟨⟨j + 1, by go_num, by omega, HBj.out.trans (HBn.out.mono hzj)⟩, by simp [intOf]; omega⟩
                    · have hjn : ¬ (j : Int) < (ts.length : Int) := by omega
                      go_wp2
                      go_ret
                      refine ⟨rfl, HB.out.trans ((HBi.out.trans ((HBm.out.trans ((HBR.out.trans (HBj.out.mono HBR.out.size)).mono HBm.out.size)).mono HBi.out.size)).mono HB.out.size)⟩
            · have hmn : ¬ (m : Int) < (t.slots.length : Int) := by omega
              go_wp2
              exact ⟨⟨i + 1, by go_num, by omega, HBi.out.trans (HBm.out.mono hzi)⟩, by simp [intOf]; omega⟩
        · have hin : ¬ (i : Int) < (ts.length : Int) := by omega
          go_wp2
          go_ret
          exact ⟨rfl, HB.out.trans (HBi.out.mono HB.out.size)⟩
  · clear hb
    by_cases hgt : (1048576 : Int) < (n : Int)
    · clear hbig
      go_enter Tryz.func5, Tryz.ntmps5
      go_wp2
      go_ret
      exact ⟨rfl, (by (repeat (with_reducible first | exact Below.refl _ _ | refine Below.alloc ?_ ?_ _ | refine below_drewN ?_ _ | refine Below.drew ?_ | refine Below.setCell ?_ ?_ _ | refine Below.trans ?_ (Below.mono (by assumption) ?_))) <;> (first | omega | (simp; try omega)))⟩
    · have hgt2 : (1048576 : Int) < (n2 : Int) := by omega
      clear hbig
      go_enter Tryz.func5, Tryz.ntmps5
      go_wp2
      go_ret
      exact ⟨rfl, (by (repeat (with_reducible first | exact Below.refl _ _ | refine Below.alloc ?_ ?_ _ | refine below_drewN ?_ _ | refine Below.drew ?_ | refine Below.setCell ?_ ?_ _ | refine Below.trans ?_ (Below.mono (by assumption) ?_))) <;> (first | omega | (simp; try omega)))⟩
end Go.Proofs.YtiolplhgpodifaaGreat
