/- The law that what one fetches one could come to have, walked. Conditions: the bytes lie where their cells say. -/
import Derived.Test.YtiolplhgpodifaaGreatRb
import Derived.Test.YtiolplhgpodifaaGreatTl
import Derived.Deep.CutBlock
set_option linter.unusedVariables false
set_option linter.unusedSimpArgs false
namespace Go.Proofs.YtiolplhgpodifaaGreat
open Go.RowKit Drw
attribute [local go_sem] Lab.val Rgt.val Cal.val Thg.val

theorem tableLive_w {p : Option Addr} {cap : Nat} {ts : List Thg} {x0 x1 : Int} {x2 x3 x4 v : Bool} {w : World} (hT : TabAt w (.slice p ts.length cap) ts) (ht : tabOk ts = true) (hr : rgtOk ⟨x0, x1, x2, x3, x4⟩ = true) (h : live ts ⟨x0, x1, x2, x3, x4⟩ = v) :
    Calls Tryz.prog 18 #[.slice p ts.length cap, .agg #[.int .i64 x0, .int .i64 x1, .bool x2, .bool x3, .bool x4]] w fun e w' => e = .returned (.bool v) ∧ Below w.heap.size w w' :=
  (tableLive_c p cap ts ⟨x0, x1, x2, x3, x4⟩ w hT).mono fun e w' h' => ⟨by rw [h'.1, ht, hr, h]; rfl, h'.2⟩
theorem rightLess_w {x0 x1 y0 y1 : Int} {x2 x3 x4 y2 y3 y4 rd wr st : Bool} {w : World} (h : less ⟨x0, x1, x2, x3, x4⟩ rd wr st = ⟨y0, y1, y2, y3, y4⟩) :
    Calls Tryz.prog 19 #[.agg #[.int .i64 x0, .int .i64 x1, .bool x2, .bool x3, .bool x4], .bool rd, .bool wr, .bool st] w fun e w' => e = .returned (.agg #[.int .i64 y0, .int .i64 y1, .bool y2, .bool y3, .bool y4]) ∧ Below w.heap.size w w' :=
  (rightLess_c ⟨x0, x1, x2, x3, x4⟩ rd wr st w).mono fun e w' h' => ⟨by rw [h'.1, h]; rfl, h'.2⟩
theorem less_okR {r : Rgt} (h : rgtOk r = true) (rd wr st : Bool) : rgtOk (less r rd wr st) = true := by
  rw [less, if_pos h]; exact less1_ok h _ _ _

set_option maxRecDepth 100000 in
set_option maxHeartbeats 4000000 in
theorem fnReachStep_c (p : Option Addr) (n cap : Nat) (w : World) (hc : n ≤ cap) (hb : BytesIn w p n) :
    Calls Tryz.prog 6 #[.slice p n cap] w fun e w' => e = .returned (.bool true) ∧ Below w.heap.size w w' := by
  by_cases hbig : n ≤ 1048576
  · have hle : ¬ (1048576 : Int) < (n : Int) := by omega
    have Hb := Lib.hid hb
    clear hb
    go_enter Tryz.func6, Tryz.ntmps6
    go_upto_region 4 with (go_at_call 12; refine (drawReachAll_c p n cap _ hc Hb.out (by omega)).mono ?_; rintro e w1 ⟨q, k, ts, rfl, hT, hl3, hl8, hb1⟩)
    obtain ⟨tk, htk⟩ : ∃ b, tabOk ts = b := ⟨_, rfl⟩
    have Htk := Lib.hid htk
    have HT := Lib.hid hT
    have HB1 := Lib.hid hb1
    clear htk hT hb1 Hb
    cases tk
    · have hund : undef = Value.tuple #[] := rfl
      go_wp2_with (first
        | (go_at_call 13; refine (reachAll_no HT.out Htk.out).mono ?_; rintro e w2 ⟨q2, rfl, hb2⟩; have hz2 := hb2.size)
        | (go_at_call 14; refine (sreachAll_no (HT.out.pure hb2) Htk.out).mono ?_; rintro e w3 ⟨q3, rfl, hb3⟩; have hz3 := hb3.size)
        | (go_at_call 15; refine (stableOk_u (HT.out.pure (hb2.trans (hb3.mono hz2))) Htk.out).mono ?_; rintro e w4 ⟨rfl, hb4⟩; have hz4 := hb4.size))
      go_ret
      exact ⟨rfl, HB1.out.trans (Below.mono (show Below w1.heap.size w1 _ from hb2.trans ((hb3.trans (hb4.mono hz3)).mono hz2)) HB1.out.size)⟩
    · go_upto_region 6 with (first
        | (go_at_call 13; refine (reachAll_yes HT.out Htk.out).mono ?_; rintro e w2 ⟨A, c, a, rfl, hI, hA2, hb2⟩; have hz2 := hb2.size)
        | (go_at_call 14; refine (sreachAll_yes (HT.out.pure hb2) Htk.out).mono ?_; rintro e w3 ⟨A3, c3, a3, rfl, hI3, -, hb3⟩; have hz3 := hb3.size))
      obtain rfl : a3 = a := hI3.eq hI
      have hb13 : Below w1.heap.size w1 w3 := hb2.trans (hb3.mono hz2)
      have HT3 := Lib.hid (HT.out.pure hb13)
      have HA3 := Lib.hid (hA2.pure hb3)
      have HB3 := Lib.hid (HB1.out.trans (hb13.mono HB1.out.size))
      have HI := Lib.hid hI
      have hac := hI.len
      clear hI hI3 hA2 hb2 hb3 hb13 HT HB1
      go_upto_region 8 with (first
        | (go_at_call 15; refine (stableOk_u HT3.out Htk.out).mono ?_; rintro e wx ⟨rfl, hb4⟩; have hz4 := hb4.size))
      have hT := HT3.out.pure hb4
      have hA := HA3.out.pure hb4
      have HB := Lib.hid (HB3.out.trans (hb4.mono HB3.out.size))
      clear HT3 HA3 HB3 hb4 hz4 hz2 hz3
      have HT := Lib.hid hT
      have HA := Lib.hid hA
      clear hT hA
      go_wp2
      go_loopw [6] (fun s6 wr => ∃ i : Nat, s6 = .int .i64 (i : Int) ∧ i ≤ ts.length ∧ Below wx.heap.size wx wr) (fun s6 _ => ts.length - (intOf s6).toNat)
      case atStart => exact ⟨0, rfl, by omega, Below.refl _ _⟩
      case round =>
        obtain ⟨i, rfl, hi, hB⟩ := hrel
        obtain ⟨wi, rfl⟩ : ∃ y : World, y = wr := ⟨_, rfl⟩
        have HTi := Lib.hid (HT.out.pure hB)
        have HAi := Lib.hid (HA.out.pure hB)
        have HBi := Lib.hid hB
        have hzi := hB.size
        clear hB
        by_cases hlt : i < ts.length
        · have hi0 : (0 : Int) ≤ (i : Int) := by omega
          have hin : (i : Int) < (ts.length : Int) := by omega
          have hia : (i : Int) < (a3.length : Int) := by omega
          obtain ⟨t, htt⟩ : ∃ t, ts[i]? = some t := ⟨_, List.getElem?_eq_getElem hlt⟩
          obtain ⟨b, o, ps, cs, rfl, hbl, hS, hs1, hs2, c0, c3, c5⟩ := row_at HTi.out htt
          obtain ⟨qa, ca, g0, hG, hg1, hg2⟩ := all_at HAi.out (show i < a3.length by omega)
          obtain ⟨l, hl⟩ : ∃ l, rowA a3 i = l := ⟨_, rfl⟩
          rw [hl] at g0 hG hg1
          have hll : l.length ≤ 384 := by rw [← hl]; exact reach_row_len Htk.out HI.out i hlt
          have hsl : t.slots.length ≤ 4 := slots4 Htk.out htt
          unfold maxLen at hs2 hg2
          have HL := Lib.hid hl
          have HS := Lib.hid hS
          have HG := Lib.hid hG
          have Htt := Lib.hid htt
          have HC := Lib.hid (show ∀ w' : World, Below wi.heap.size wi w' → (w'.cell? ⟨b, o + i * 8 + 5, none⟩ = some (.slice ps t.slots.length cs) ∧ w'.cell? ⟨A, i, none⟩ = some (.slice qa l.length ca) ∧ w'.cell? ⟨b, o + i * 8, none⟩ = some (.int .i64 t.kind)) from fun w' h => ⟨(h.cell hbl).trans c5, (h.cell (cell_lt g0)).trans g0, (h.cell hbl).trans c0⟩)
          clear htt hl hS hG c0 c3 c5 g0 hbl
          cases hk3 : (t.kind == 3)
          · obtain ⟨-, -, c0⟩ := HC.out _ (Below.refl _ _)
            have hund : undef = Value.tuple #[] := rfl
            go_wp2
            go_loopw [7] (fun s7 wr => s7 = .int .i64 0 ∧ wr = wi) (fun _ _ => 0)
            case atStart => exact ⟨rfl, rfl⟩
            case round =>
              obtain ⟨rfl, rfl⟩ := hrel
              go_wp2
              exact ⟨⟨i + 1, by go_num, by omega, HBi.out⟩, by simp [intOf]; omega⟩
          · have ht3 : t.kind = 3 := by simpa using hk3
            go_wp2
            go_loopw [7] (fun s7 wr => ∃ m : Nat, s7 = .int .i64 (m : Int) ∧ m ≤ t.slots.length ∧ Below wi.heap.size wi wr) (fun s7 _ => t.slots.length - (intOf s7).toNat)
            case atStart => exact ⟨0, rfl, by omega, Below.refl _ _⟩
            case round =>
              obtain ⟨m, rfl, hm, hB⟩ := hrel
              obtain ⟨wm, rfl⟩ : ∃ y : World, y = wr := ⟨_, rfl⟩
              have HBm := Lib.hid hB
              have hzm := hB.size
              obtain ⟨c5, g0, c0⟩ := HC.out _ hB
              by_cases hlt2 : m < t.slots.length
              · have hm0 : (0 : Int) ≤ (m : Int) := by omega
                have hmn : (m : Int) < (t.slots.length : Int) := by omega
                obtain ⟨x, hx⟩ : ∃ x, t.slots[m]? = some x := ⟨_, List.getElem?_eq_getElem hlt2⟩
                obtain ⟨sb, so, rfl, hsb, y0, y1, y2, y3, y4⟩ := (HS.out.pure hB).at m x hx
                have Hmem := Lib.hid (List.mem_of_getElem? hx)
                have Hxok := Lib.hid (slots_okT Htk.out Htt.out x (List.mem_of_getElem? hx))
                have hgo : ∀ w9 : World, Below wm.heap.size wm w9 → Below wx.heap.size wx w9 := fun w9 h => HBi.out.trans ((HBm.out.trans (h.mono hzm)).mono hzi)
                have hgm : ∀ w9 : World, Below wm.heap.size wm w9 → Below wi.heap.size wi w9 := fun w9 h => HBm.out.trans (h.mono hzm)
                have Hgo := Lib.hid hgo
                have Hgm := Lib.hid hgm
                obtain ⟨lv, hlv⟩ : ∃ v, live ts x = v := ⟨_, rfl⟩
                have Hlv := Lib.hid hlv
                clear hx hB hgo hgm hlv
                obtain ⟨x0, x1, x2, x3, x4⟩ := x
                dsimp only at y0 y1 y2 y3 y4
                go_upto_region 15 with (fail)
                generalize hwy : World.alloc _ _ = wy
                have hBy : Below wm.heap.size wm wy := by rw [← hwy]; exact (by (repeat (with_reducible first | exact Below.refl _ _ | refine Below.alloc ?_ ?_ _ | refine below_drewN ?_ _ | refine Below.drew ?_ | refine Below.setCell ?_ ?_ _ | refine Below.trans ?_ (Below.mono (by assumption) ?_))) <;> (first | omega | (simp; try omega)))
                have hzy : wm.heap.size < wy.heap.size := by rw [← hwy]; simp
                have gy : wy.cell? ⟨wm.heap.size, 0, none⟩ = some (.int .i64 x0) ∧ wy.cell? ⟨wm.heap.size, 1, none⟩ = some (.int .i64 x1) ∧ wy.cell? ⟨wm.heap.size, 2, none⟩ = some (.bool x2) ∧ wy.cell? ⟨wm.heap.size, 3, none⟩ = some (.bool x3) ∧ wy.cell? ⟨wm.heap.size, 4, none⟩ = some (.bool x4) := by rw [← hwy]; simp [go_sem]
                have HBy := Lib.hid hBy
                have Gy := Lib.hid gy
                clear hwy hBy y0 y1 y2 y3 y4 c5 g0 c0 gy
                cases lv
                · obtain ⟨p0, p1, p2, p3, p4⟩ := Gy.out
                  go_wp2_with (first | (go_at_call 18; with_reducible refine (tableLive_w (HTi.out.pure (Hgm.out _ HBy.out)) Htk.out Hxok.out Hlv.out).mono ?_; rintro e w5 ⟨rfl, hb5⟩; have Hb5 := Lib.hid hb5; clear hb5))
                  exact ⟨⟨m + 1, by go_num, by omega, Hgm.out _ (HBy.out.trans (Hb5.out.mono HBy.out.size))⟩, by simp [intOf]; omega⟩
                · have hxp : 0 < x0 := by
                    have h1 := Hlv.out
                    simp only [live, Bool.and_eq_true] at h1
                    have := ex_iff.1 h1.1
                    omega
                  obtain ⟨j, u, e, hu⟩ := thing_at Htk.out Htt.out Hmem.out hxp
                  obtain rfl : x0 = (j : Int) + 1 := e
                  have hju := nat_lt hu
                  have hj0 : (0 : Int) ≤ (j : Int) := by omega
                  have hjn : (j : Int) < (ts.length : Int) := by omega
                  have hw1 := wrap1 (i := j) (by omega)
                  have hw2 : IntKind.i64.wrap (j : Int) = (j : Int) := IntWalk.i64_in _ (by omega)
                  have Hu := Lib.hid hu
                  clear hu
                  obtain ⟨b', o', pu, cu, e', hbu, hSu, hu1, hu2, d0, -, d5⟩ := row_at HTi.out Hu.out
                  cases e'
                  have HSu := Lib.hid hSu
                  have HD := Lib.hid (show ∀ w' : World, Below wi.heap.size wi w' → (w'.cell? ⟨b, o + j * 8, none⟩ = some (.int .i64 u.kind) ∧ w'.cell? ⟨b, o + j * 8 + 5, none⟩ = some (.slice pu u.slots.length cu)) from fun w' h => ⟨(h.cell hbu).trans d0, (h.cell hbu).trans d5⟩)
                  unfold maxLen at hu2
                  clear hSu d0 d5 hbu
                  cases x2
                  · obtain ⟨p0, p1, p2, p3, p4⟩ := Gy.out
                    go_wp2_with (first | (go_at_call 18; with_reducible refine (tableLive_w (HTi.out.pure (Hgm.out _ HBy.out)) Htk.out Hxok.out Hlv.out).mono ?_; rintro e w5 ⟨rfl, hb5⟩; have Hb5 := Lib.hid hb5; have p2 := (hb5.cell hzy).trans p2; clear hb5))
                    exact ⟨⟨m + 1, by go_num, by omega, Hgm.out _ (HBy.out.trans (Hb5.out.mono HBy.out.size))⟩, by simp [intOf]; omega⟩
                  · cases hk2 : (u.kind == 2)
                    · obtain ⟨p0, p1, p2, p3, p4⟩ := Gy.out
                      go_wp2_with (first | (go_at_call 18; with_reducible refine (tableLive_w (HTi.out.pure (Hgm.out _ HBy.out)) Htk.out Hxok.out Hlv.out).mono ?_; rintro e w5 ⟨rfl, hb5⟩; have Hb5 := Lib.hid hb5; have p2 := (hb5.cell hzy).trans p2; have p0 := (hb5.cell hzy).trans p0; obtain ⟨d0, -⟩ := HD.out w5 (Hgm.out _ (HBy.out.trans (hb5.mono HBy.out.size))); clear hb5))
                      exact ⟨⟨m + 1, by go_num, by omega, Hgm.out _ (HBy.out.trans (Hb5.out.mono HBy.out.size))⟩, by simp [intOf]; omega⟩
                    · have hu2' : u.kind = 2 := by simpa using hk2
                      have hus : u.slots.length = 4 := by
                        have h2 := tab_thgOk Htk.out (ex_at (nat_lt Hu.out))
                        rw [getT_nat Hu.out] at h2
                        exact slots_len h2 (.inl hu2')
                      obtain ⟨p0, p1, p2, p3, p4⟩ := Gy.out
                      go_wp2_with (first | (go_at_call 18; with_reducible refine (tableLive_w (HTi.out.pure (Hgm.out _ HBy.out)) Htk.out Hxok.out Hlv.out).mono ?_; rintro e w5 ⟨rfl, hb5⟩; have Hb5 := Lib.hid hb5; have p2 := (hb5.cell hzy).trans p2; have p0 := (hb5.cell hzy).trans p0; obtain ⟨d0, -⟩ := HD.out w5 (Hgm.out _ (HBy.out.trans (hb5.mono HBy.out.size))); clear hb5))
                      clear p0 p1 p2 p3 p4 d0
                      have hz5 := Hb5.out.size
                      have hB5 : Below wm.heap.size wm w5 := HBy.out.trans (Hb5.out.mono HBy.out.size)
                      have HB5 := Lib.hid hB5
                      clear hB5
                      go_loopw [9] (fun s9 wr => ∃ n : Nat, s9 = .int .i64 (n : Int) ∧ n ≤ 4 ∧ Below w5.heap.size w5 wr) (fun s9 _ => 4 - (intOf s9).toNat)
                      case atStart => exact ⟨0, rfl, by omega, Below.refl _ _⟩
                      case round =>
                        obtain ⟨n', rfl, hn', hB⟩ := hrel
                        have HBn := Lib.hid hB
                        have hzn := hB.size
                        have hBi : Below wi.heap.size wi wr := Hgm.out _ (HB5.out.trans (hB.mono HB5.out.size))
                        by_cases hlt4 : n' < 4
                        · have hn0 : (0 : Int) ≤ (n' : Int) := by omega
                          have hnn : (n' : Int) < 4 := by omega
                          have hnu : (n' : Int) < (u.slots.length : Int) := by omega
                          obtain ⟨z, hz⟩ : ∃ z, u.slots[n']? = some z := ⟨_, List.getElem?_eq_getElem (by omega)⟩
                          obtain ⟨sb2, so2, rfl, hsb2, z0, z1, z2, z3, z4⟩ := (HSu.out.pure hBi).at n' z hz
                          obtain ⟨-, d5⟩ := HD.out _ hBi
                          obtain ⟨-, g0, -⟩ := HC.out _ hBi
                          have hwy5 : Below wy.heap.size wy wr := Hb5.out.trans (hB.mono hz5)
                          have q0 := (hwy5.cell hzy).trans Gy.out.1
                          have q4 := (hwy5.cell hzy).trans Gy.out.2.2.2.2
                          have hyr : wm.heap.size < wr.heap.size := by omega
                          have Hz := Lib.hid hz
                          obtain ⟨y, hy⟩ : ∃ y, less z true (!x4) (!x4) = y := ⟨_, rfl⟩
                          have hcov : y.thing = 0 ∨ ∃ s ∈ rowA a3 i, rgtIn y s = true := by
                            rw [← hy]
                            exact reach_step Htk.out HI.out Htt.out ht3 Hmem.out Hlv.out rfl (by rw [getT_nat Hu.out]; exact hu2') (by rw [getT_nat Hu.out]; exact List.mem_of_getElem? Hz.out)
                          rw [HL.out] at hcov
                          have hyok : rgtOk y = true := by rw [← hy]; exact less_okR (slots_okT Htk.out Hu.out _ (List.mem_of_getElem? Hz.out)) _ _ _
                          have Hy := Lib.hid hy
                          have Hcov := Lib.hid hcov
                          have Hyok := Lib.hid hyok
                          have HRow := Lib.hid (HI.out.rowOk Htk.out hlt)
                          rw [HL.out] at HRow
                          have HBir := Lib.hid hBi
                          clear hz hy hcov hyok hB hwy5 hBi
                          obtain ⟨z0', z1', z2', z3', z4'⟩ := z
                          obtain ⟨y0, y1, y2, y3, y4⟩ := y
                          dsimp only at z0 z1 z2 z3 z4
                          go_upto_region 19 with (fail)
                          have hg0l := cell_lt g0
                          have hd5l := cell_lt d5
                          have HK := Lib.hid (show ∀ w' : World, Below wr.heap.size wr w' → (Below wr.heap.size wr w' ∧ w'.cell? ⟨A, i, none⟩ = some (.slice qa l.length ca) ∧ w'.cell? ⟨b, o + j * 8 + 5, none⟩ = some (.slice (some ⟨sb2, so2, none⟩) u.slots.length cu) ∧ w'.cell? ⟨wm.heap.size, 0, none⟩ = some (.int .i64 ((j : Int) + 1)) ∧ w'.cell? ⟨wm.heap.size, 4, none⟩ = some (.bool x4) ∧ w'.cell? ⟨sb2, so2 + n' * 5, none⟩ = some (.int .i64 z0') ∧ w'.cell? ⟨sb2, so2 + n' * 5 + 1, none⟩ = some (.int .i64 z1') ∧ w'.cell? ⟨sb2, so2 + n' * 5 + 2, none⟩ = some (.bool z2') ∧ w'.cell? ⟨sb2, so2 + n' * 5 + 3, none⟩ = some (.bool z3') ∧ w'.cell? ⟨sb2, so2 + n' * 5 + 4, none⟩ = some (.bool z4')) from fun w' h =>
                            ⟨h, (h.cell hg0l).trans g0, (h.cell hd5l).trans d5, (h.cell hyr).trans q0, (h.cell hyr).trans q4, (h.cell hsb2).trans z0, (h.cell hsb2).trans z1, (h.cell hsb2).trans z2, (h.cell hsb2).trans z3, (h.cell hsb2).trans z4⟩)
                          clear g0 d5 q0 q4 z0 z1 z2 z3 z4
                          go_cut [111] (fun s111 wz => s111 = .bool false ∧ Below wr.heap.size wr wz)
                          case first =>
                            first | (go_region_held3 (fun w' => Below wr.heap.size wr w' ∧ w'.cell? ⟨A, i, none⟩ = some (.slice qa l.length ca) ∧ w'.cell? ⟨b, o + j * 8 + 5, none⟩ = some (.slice (some ⟨sb2, so2, none⟩) u.slots.length cu) ∧ w'.cell? ⟨wm.heap.size, 0, none⟩ = some (.int .i64 ((j : Int) + 1)) ∧ w'.cell? ⟨wm.heap.size, 4, none⟩ = some (.bool x4) ∧ w'.cell? ⟨sb2, so2 + n' * 5, none⟩ = some (.int .i64 z0') ∧ w'.cell? ⟨sb2, so2 + n' * 5 + 1, none⟩ = some (.int .i64 z1') ∧ w'.cell? ⟨sb2, so2 + n' * 5 + 2, none⟩ = some (.bool z2') ∧ w'.cell? ⟨sb2, so2 + n' * 5 + 3, none⟩ = some (.bool z3') ∧ w'.cell? ⟨sb2, so2 + n' * 5 + 4, none⟩ = some (.bool z4')) (first | assumption | exact HK.out _ (Below.refl _ _) | exact HK.out _ (Below.drew (Below.refl _ _)) | (have hX := And.left (by assumption : Below wr.heap.size wr _ ∧ _); exact HK.out _ (hX.trans (hb6.mono hX.size)))) (first | (go_at_call 19; with_reducible refine (rightLess_w Hy.out).mono ?_; rintro e w6 ⟨rfl, hb6⟩) | (go_at_call 16; with_reducible refine (reachIn_u ((HG.out.pure HBir.out).pure (And.left (by assumption : Below wr.heap.size wr _ ∧ _))) HRow.out Hyok.out Hcov.out).mono ?_; rintro e w6 ⟨rfl, hb6⟩))) | fail
                            all_goals go_wp2
                            all_goals go_meet
                            all_goals exact ⟨rfl, And.left (by assumption : Below wr.heap.size wr _ ∧ _)⟩
                          case rest =>
                            obtain ⟨rfl, hBz⟩ := hcut
                            have HBz := Lib.hid (HBn.out.trans (hBz.mono hzn))
                            clear hBz
                            go_wp2
                            exact ⟨⟨n' + 1, by go_num, by omega, HBz.out⟩, by simp [intOf]; omega⟩
                        · have hnn : ¬ (n' : Int) < 4 := by omega
                          clear hB hBi
                          go_wp2
                          exact ⟨⟨m + 1, by go_num, by omega, Hgm.out _ (HB5.out.trans (HBn.out.mono HB5.out.size))⟩, by simp [intOf]; omega⟩
              · have hmn : ¬ (m : Int) < (t.slots.length : Int) := by omega
                clear hB
                go_wp2
                exact ⟨⟨i + 1, by go_num, by omega, HBi.out.trans (HBm.out.mono hzi)⟩, by simp [intOf]; omega⟩
        · have hin : ¬ (i : Int) < (ts.length : Int) := by omega
          go_wp2
          go_ret
          exact ⟨rfl, HB.out.trans (HBi.out.mono HB.out.size)⟩
  · have hgt : (1048576 : Int) < (n : Int) := by omega
    clear hbig hb
    go_enter Tryz.func6, Tryz.ntmps6
    go_wp2
    go_ret
    exact ⟨rfl, (by (repeat (with_reducible first | exact Below.refl _ _ | refine Below.alloc ?_ ?_ _ | refine below_drewN ?_ _ | refine Below.drew ?_ | refine Below.setCell ?_ ?_ _ | refine Below.trans ?_ (Below.mono (by assumption) ?_))) <;> (first | omega | (simp; try omega)))⟩
end Go.Proofs.YtiolplhgpodifaaGreat
