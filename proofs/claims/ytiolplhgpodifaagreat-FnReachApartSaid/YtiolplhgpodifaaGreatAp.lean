/- The law that who has no right to any node comes to have just its own, walked. Conditions: the bytes lie where their cells say. -/
import Derived.Test.YtiolplhgpodifaaGreatRb
import Derived.Deep.CutBlock
set_option linter.unusedVariables false
set_option linter.unusedSimpArgs false
namespace Go.Proofs.YtiolplhgpodifaaGreat
open Go.RowKit Drw
attribute [local go_sem] Lab.val Rgt.val Cal.val Thg.val

/-- Whether one is no runner, or has a right to a node. -/
def ndR (ts : List Thg) (r : Rgt) : Bool := decide (0 < r.thing) && (getT ts r.thing).kind == 2
def ndf (ts : List Thg) (t : Thg) (l : List Rgt) : Bool := (t.kind != 3) || l.any (ndR ts)
theorem ndf_next {ts : List Thg} {t : Thg} {l : List Rgt} {m : Nat} {x : Rgt} (h : l[m]? = some x) : ndf ts t (l.take (m + 1)) = (ndf ts t (l.take m) || ndR ts x) := by
  unfold ndf
  rw [List.take_add_one, h]
  simp [Bool.or_assoc]
theorem apart_in {ts : List Thg} {a : List (List Rgt)} (ht : tabOk ts = true) (h : IsReach ts a) {i : Nat} {t : Thg} (hi : ts[i]? = some t) (hn : ndf ts t t.slots = false) {r : Rgt} (hr : r ∈ rowA a i) : r.thing = 0 ∨ ∃ s ∈ t.slots, rgtIn r s = true := by
  simp only [ndf, Bool.or_eq_false_iff, List.any_eq_false, bne_eq_false_iff_eq] at hn
  refine .inr (reach_apart ht h hi hn.1 (fun s hs h0 e => ?_) hr)
  exact hn.2 s hs (by simp [ndR, e]; omega)
theorem ndf_start (ts : List Thg) (t : Thg) : ndf ts t (t.slots.take 0) = (!(t.kind == 3)) := by simp [ndf, bne]

set_option maxRecDepth 100000 in
set_option maxHeartbeats 4000000 in
theorem fnReachApart_c (p : Option Addr) (n cap : Nat) (w : World) (hc : n ≤ cap) (hb : BytesIn w p n) :
    Calls Tryz.prog 3 #[.slice p n cap] w fun e w' => e = .returned (.bool true) ∧ Below w.heap.size w w' := by
  by_cases hbig : n ≤ 1048576
  · have hle : ¬ (1048576 : Int) < (n : Int) := by omega
    have Hb := Lib.hid hb
    clear hb
    go_enter Tryz.func3, Tryz.ntmps3
    go_upto_region 4 with (go_at_call 12; refine (drawReachAll_c p n cap _ hc Hb.out (by omega)).mono ?_; rintro e w1 ⟨q, k, ts, rfl, hT, hl3, hl8, hb1⟩)
    obtain ⟨tk, htk⟩ : ∃ b, tabOk ts = b := ⟨_, rfl⟩
    have Htk := Lib.hid htk
    have HT := Lib.hid hT
    have HB1 := Lib.hid hb1
    clear htk hT hb1 Hb
    cases tk
    · have hund : undef = Value.tuple #[] := rfl
      go_wp2_with (first
        | (go_at_call 13; refine (reachAll_no HT.out Htk.out).mono ?_; rintro e w2 ⟨q2, rfl, hb2⟩; have hz2 := hb2.size)
        | (go_at_call 14; refine (sreachAll_no (HT.out.pure hb2) Htk.out).mono ?_; rintro e w3 ⟨q3, rfl, hb3⟩; have hz3 := hb3.size)
        | (go_at_call 15; refine (stableOk_u (HT.out.pure (hb2.trans (hb3.mono hz2))) Htk.out).mono ?_; rintro e w4 ⟨rfl, hb4⟩; have hz4 := hb4.size))
      go_ret
      exact ⟨rfl, HB1.out.trans (Below.mono (show Below w1.heap.size w1 _ from hb2.trans ((hb3.trans (hb4.mono hz3)).mono hz2)) HB1.out.size)⟩
    · go_upto_region 6 with (first
        | (go_at_call 13; refine (reachAll_yes HT.out Htk.out).mono ?_; rintro e w2 ⟨A, c, a, rfl, hI, hA2, hb2⟩; have hz2 := hb2.size)
        | (go_at_call 14; refine (sreachAll_yes (HT.out.pure hb2) Htk.out).mono ?_; rintro e w3 ⟨A3, c3, a3, rfl, hI3, -, hb3⟩; have hz3 := hb3.size))
      obtain rfl : a3 = a := hI3.eq hI
      have hb13 : Below w1.heap.size w1 w3 := hb2.trans (hb3.mono hz2)
      have HT3 := Lib.hid (HT.out.pure hb13)
      have HA3 := Lib.hid (hA2.pure hb3)
      have HB3 := Lib.hid (HB1.out.trans (hb13.mono HB1.out.size))
      have HI := Lib.hid hI
      have hac := hI.len
      clear hI hI3 hA2 hb2 hb3 hb13 HT HB1
      go_upto_region 8 with (first
        | (go_at_call 15; refine (stableOk_u HT3.out Htk.out).mono ?_; rintro e wx ⟨rfl, hb4⟩; have hz4 := hb4.size))
      have hT := HT3.out.pure hb4
      have hA := HA3.out.pure hb4
      have HB := Lib.hid (HB3.out.trans (hb4.mono HB3.out.size))
      clear HT3 HA3 HB3 hb4 hz4 hz2 hz3
      have HT := Lib.hid hT
      have HA := Lib.hid hA
      clear hT hA
      go_wp2
      go_loopw [6] (fun s6 wr => ∃ i : Nat, s6 = .int .i64 (i : Int) ∧ i ≤ ts.length ∧ Below wx.heap.size wx wr) (fun s6 _ => ts.length - (intOf s6).toNat)
      case atStart => exact ⟨0, rfl, by omega, Below.refl _ _⟩
      case round =>
        obtain ⟨i, rfl, hi, hB⟩ := hrel
        obtain ⟨wi, rfl⟩ : ∃ y : World, y = wr := ⟨_, rfl⟩
        have HTi := Lib.hid (HT.out.pure hB)
        have HAi := Lib.hid (HA.out.pure hB)
        have HBi := Lib.hid hB
        have hzi := hB.size
        clear hB
        by_cases hlt : i < ts.length
        · have hi0 : (0 : Int) ≤ (i : Int) := by omega
          have hin : (i : Int) < (ts.length : Int) := by omega
          have hia : (i : Int) < (a3.length : Int) := by omega
          obtain ⟨t, htt⟩ : ∃ t, ts[i]? = some t := ⟨_, List.getElem?_eq_getElem hlt⟩
          obtain ⟨b, o, ps, cs, rfl, hbl, hS, hs1, hs2, c0, c3, c5⟩ := row_at HTi.out htt
          obtain ⟨qa, ca, g0, hG, hg1, hg2⟩ := all_at HAi.out (show i < a3.length by omega)
          obtain ⟨l, hl⟩ : ∃ l, rowA a3 i = l := ⟨_, rfl⟩
          rw [hl] at g0 hG hg1
          have hll : l.length ≤ 384 := by rw [← hl]; exact reach_row_len Htk.out HI.out i hlt
          have hsl : t.slots.length ≤ 4 := slots4 Htk.out htt
          unfold maxLen at hs2 hg2
          have HL := Lib.hid hl
          have HS := Lib.hid hS
          have HG := Lib.hid hG
          have Htt := Lib.hid htt
          have HC := Lib.hid (show ∀ w' : World, Below wi.heap.size wi w' → (w'.cell? ⟨b, o + i * 8 + 5, none⟩ = some (.slice ps t.slots.length cs) ∧ w'.cell? ⟨A, i, none⟩ = some (.slice qa l.length ca) ∧ w'.cell? ⟨b, o + i * 8, none⟩ = some (.int .i64 t.kind)) from fun w' h => ⟨(h.cell hbl).trans c5, (h.cell (cell_lt g0)).trans g0, (h.cell hbl).trans c0⟩)
          clear htt hl hS hG c0 c3 c5 g0 hbl
          obtain ⟨-, -, c0⟩ := HC.out _ (Below.refl _ _)
          go_wp2
          clear c0
          go_loopw [7, 8] (fun s7 s8 wr => ∃ (m : Nat) (nd : Bool), s8 = .int .i64 (m : Int) ∧ s7 = .bool nd ∧ m ≤ t.slots.length ∧ ndf ts t (t.slots.take m) = nd ∧ Below wi.heap.size wi wr) (fun _ s8 _ => t.slots.length - (intOf s8).toNat)
          case atStart => exact ⟨0, _, rfl, rfl, by omega, ndf_start ts t, Below.refl _ _⟩
          case round =>
            obtain ⟨m, nd, rfl, rfl, hm, hnd, hB⟩ := hrel
            have HBm := Lib.hid hB
            have Hnd := Lib.hid hnd
            have hzm := hB.size
            obtain ⟨c5, g0, -⟩ := HC.out _ hB
            clear hnd
            by_cases hlt2 : m < t.slots.length
            · have hm0 : (0 : Int) ≤ (m : Int) := by omega
              have hmn : (m : Int) < (t.slots.length : Int) := by omega
              obtain ⟨x, hx⟩ : ∃ x, t.slots[m]? = some x := ⟨_, List.getElem?_eq_getElem hlt2⟩
              obtain ⟨sb, so, rfl, hsb, y0, y1, y2, y3, y4⟩ := (HS.out.pure hB).at m x hx
              have Hnx := Lib.hid ((ndf_next (ts := ts) (t := t) hx).trans (by rw [Hnd.out]))
              have Hmem := Lib.hid (List.mem_of_getElem? hx)
              have HBn := Lib.hid (show ∀ o' : Obj, Below wi.heap.size wi (wr.alloc o') from fun o' => HBm.out.alloc HBm.out.size _)
              clear hx
              obtain ⟨x0, x1, x2, x3, x4⟩ := x
              dsimp only at y0 y1 y2 y3 y4
              cases nd
              · by_cases h0 : 0 < x0
                · obtain ⟨j, u, e, hu⟩ := thing_at Htk.out Htt.out Hmem.out h0
                  obtain rfl : x0 = (j : Int) + 1 := e
                  have hju := nat_lt hu
                  obtain ⟨b', o', ps', cs', e', -, -, -, -, d0, -, -⟩ := row_at (HTi.out.pure hB) hu
                  cases e'
                  have hj0 : (0 : Int) ≤ (j : Int) := by omega
                  have hjn : (j : Int) < (ts.length : Int) := by omega
                  have hw1 := wrap1 (i := j) (by omega)
                  have hw2 : IntKind.i64.wrap (j : Int) = (j : Int) := IntWalk.i64_in _ (by omega)
                  have hnr : ndR ts ⟨(j : Int) + 1, x1, x2, x3, x4⟩ = (u.kind == 2) := by simp [ndR, getT_nat hu] <;> omega
                  have Hnr := Lib.hid hnr
                  have hbb := cell_lt d0
                  clear hB hu hnr
                  cases hk2 : (u.kind == 2)
                  · rw [hk2] at Hnr
                    go_wp2
                    exact ⟨⟨m + 1, false, by go_num, rfl, by omega, by rw [Hnx.out, Hnr.out]; rfl, HBn.out _⟩, by simp [intOf]; omega⟩
                  · rw [hk2] at Hnr
                    go_wp2
                    exact ⟨⟨m + 1, true, by go_num, rfl, by omega, by rw [Hnx.out, Hnr.out]; rfl, HBn.out _⟩, by simp [intOf]; omega⟩
                · have hnr : ndR ts ⟨x0, x1, x2, x3, x4⟩ = false := by simp [ndR, h0]
                  have Hnr := Lib.hid hnr
                  have hund : undef = Value.tuple #[] := rfl
                  clear hB hnr
                  go_wp2
                  exact ⟨⟨m + 1, false, by go_num, rfl, by omega, by rw [Hnx.out, Hnr.out]; rfl, HBn.out _⟩, by simp [intOf]; omega⟩
              · have hund : undef = Value.tuple #[] := rfl
                clear hB
                go_wp2
                exact ⟨⟨m + 1, true, by go_num, rfl, by omega, by rw [Hnx.out]; rfl, HBn.out _⟩, by simp [intOf]; omega⟩
            · have hmn : ¬ (m : Int) < (t.slots.length : Int) := by omega
              obtain rfl : m = t.slots.length := by omega
              obtain ⟨wj, rfl⟩ : ∃ y : World, y = wr := ⟨_, rfl⟩
              have Hnd2 := Lib.hid (show ndf ts t t.slots = nd by rw [← Hnd.out, List.take_length])
              clear hB
              go_wp2
              clear c5 g0
              go_loopw [10] (fun s10 wr => ∃ m : Nat, s10 = .int .i64 (m : Int) ∧ m ≤ l.length ∧ Below wi.heap.size wi wr) (fun s10 _ => l.length - (intOf s10).toNat)
              case atStart => exact ⟨0, rfl, by omega, HBm.out⟩
              case round =>
                clear hm hmn
                obtain ⟨m, rfl, hm, hB⟩ := hrel
                have HBk := Lib.hid hB
                have hzk := hB.size
                obtain ⟨c5, g0, -⟩ := HC.out _ hB
                cases nd
                · by_cases hlt3 : m < l.length
                  · have hm0 : (0 : Int) ≤ (m : Int) := by omega
                    have hmn : (m : Int) < (l.length : Int) := by omega
                    obtain ⟨x, hx⟩ : ∃ x, l[m]? = some x := ⟨_, List.getElem?_eq_getElem hlt3⟩
                    obtain ⟨sb, so, rfl, hsb, y0, y1, y2, y3, y4⟩ := (HG.out.pure hB).at m x hx
                    have hxm : x ∈ rowA a3 i := by rw [HL.out]; exact List.mem_of_getElem? hx
                    have Hcov := Lib.hid (apart_in Htk.out HI.out Htt.out Hnd2.out hxm)
                    have Hxok := Lib.hid (HI.out.okR Htk.out hlt hxm).1
                    have HRow := Lib.hid (slots_okT Htk.out Htt.out)
                    clear hx hB hxm
                    obtain ⟨x0, x1, x2, x3, x4⟩ := x
                    dsimp only at y0 y1 y2 y3 y4
                    go_upto_region 20 with (fail)
                    have hc5l := cell_lt c5
                    have hg0l := cell_lt g0
                    have HK := Lib.hid (show ∀ w' : World, Below wr.heap.size wr w' → (Below wr.heap.size wr w' ∧ w'.cell? ⟨b, o + i * 8 + 5, none⟩ = some (.slice ps t.slots.length cs) ∧ w'.cell? ⟨A, i, none⟩ = some (.slice (some ⟨sb, so, none⟩) l.length ca) ∧ w'.cell? ⟨sb, so + m * 5, none⟩ = some (.int .i64 x0) ∧ w'.cell? ⟨sb, so + m * 5 + 1, none⟩ = some (.int .i64 x1) ∧ w'.cell? ⟨sb, so + m * 5 + 2, none⟩ = some (.bool x2) ∧ w'.cell? ⟨sb, so + m * 5 + 3, none⟩ = some (.bool x3) ∧ w'.cell? ⟨sb, so + m * 5 + 4, none⟩ = some (.bool x4)) from fun w' h =>
                      ⟨h, (h.cell hc5l).trans c5, (h.cell hg0l).trans g0, (h.cell hsb).trans y0, (h.cell hsb).trans y1, (h.cell hsb).trans y2, (h.cell hsb).trans y3, (h.cell hsb).trans y4⟩)
                    clear c5 g0 y0 y1 y2 y3 y4
                    go_cut [107] (fun s107 wz => s107 = .bool false ∧ Below wr.heap.size wr wz)
                    case first =>
                      first | (go_region_held3 (fun w' => Below wr.heap.size wr w' ∧ w'.cell? ⟨b, o + i * 8 + 5, none⟩ = some (.slice ps t.slots.length cs) ∧ w'.cell? ⟨A, i, none⟩ = some (.slice (some ⟨sb, so, none⟩) l.length ca) ∧ w'.cell? ⟨sb, so + m * 5, none⟩ = some (.int .i64 x0) ∧ w'.cell? ⟨sb, so + m * 5 + 1, none⟩ = some (.int .i64 x1) ∧ w'.cell? ⟨sb, so + m * 5 + 2, none⟩ = some (.bool x2) ∧ w'.cell? ⟨sb, so + m * 5 + 3, none⟩ = some (.bool x3) ∧ w'.cell? ⟨sb, so + m * 5 + 4, none⟩ = some (.bool x4)) (first | assumption | exact HK.out _ (Below.refl _ _) | exact HK.out _ (Below.drew (Below.refl _ _)) | (have hX := And.left (by assumption : Below wr.heap.size wr _ ∧ _); exact HK.out _ (hX.trans (hb5.mono hX.size)))) (first | (go_at_call 16; with_reducible refine (reachIn_u ((HS.out.pure HBk.out).pure (And.left (by assumption : Below wr.heap.size wr _ ∧ _))) HRow.out Hxok.out Hcov.out).mono ?_; rintro e w5 ⟨rfl, hb5⟩))) | fail
                      all_goals go_wp2
                      all_goals go_meet
                      all_goals exact ⟨rfl, And.left (by assumption : Below wr.heap.size wr _ ∧ _)⟩
                    case rest =>
                      obtain ⟨rfl, hBz⟩ := hcut
                      have HBz := Lib.hid (HBk.out.trans (hBz.mono hzk))
                      clear hBz
                      go_wp2
                      exact ⟨⟨m + 1, by go_num, by omega, HBz.out⟩, by simp [intOf]; omega⟩
                  · have hmn : ¬ (m : Int) < (l.length : Int) := by omega
                    clear hB
                    go_wp2
                    exact ⟨⟨i + 1, by go_num, by omega, HBi.out.trans (HBk.out.mono hzi)⟩, by simp [intOf]; omega⟩
                · have hund : undef = Value.tuple #[] := rfl
                  clear hB
                  go_wp2
                  exact ⟨⟨i + 1, by go_num, by omega, HBi.out.trans (HBk.out.mono hzi)⟩, by simp [intOf]; omega⟩
        · have hin : ¬ (i : Int) < (ts.length : Int) := by omega
          go_wp2
          go_ret
          exact ⟨rfl, HB.out.trans (HBi.out.mono HB.out.size)⟩
  · have hgt : (1048576 : Int) < (n : Int) := by omega
    clear hbig hb
    go_enter Tryz.func3, Tryz.ntmps3
    go_wp2
    go_ret
    exact ⟨rfl, (by (repeat (with_reducible first | exact Below.refl _ _ | refine Below.alloc ?_ ?_ _ | refine below_drewN ?_ _ | refine Below.drew ?_ | refine Below.setCell ?_ ?_ _ | refine Below.trans ?_ (Below.mono (by assumption) ?_))) <;> (first | omega | (simp; try omega)))⟩
end Go.Proofs.YtiolplhgpodifaaGreat
