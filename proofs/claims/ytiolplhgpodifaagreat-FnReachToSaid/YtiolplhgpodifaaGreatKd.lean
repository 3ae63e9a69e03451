/- The law that just nodes and runners have rights, walked. Conditions: the bytes lie where their cells say. -/
import Derived.Test.YtiolplhgpodifaaGreatRb
import Derived.Deep.CutBlock
set_option linter.unusedVariables false
set_option linter.unusedSimpArgs false
namespace Go.Proofs.YtiolplhgpodifaaGreat
open Go.RowKit Drw
attribute [local go_sem] Lab.val Rgt.val Cal.val Thg.val

theorem reachTo_t {p : Option Addr} {cap : Nat} {ts : List Thg} {j : Nat} {k : Int} {wt v : Bool} {a : List (List Rgt)} {w : World} (hT : TabAt w (.slice p ts.length cap) ts) (ht : tabOk ts = true) (hj : j < ts.length) (hk : ex ts k = true) (hI : IsReach ts a) (h : reachB (rowA a j) k wt = v) :
    Calls Tryz.prog 20 #[.slice p ts.length cap, .int .i64 ((j : Int) + 1), .int .i64 k, .bool wt] w fun e w' => e = .returned (.bool v) ∧ Below w.heap.size w w' := by
  refine (reachTo_yes hT ht hj hk).mono ?_
  rintro e w' ⟨a', hI', rfl, hb⟩
  rw [hI'.eq hI, h]
  exact ⟨rfl, hb⟩
/-- What one has one can come to have. -/
theorem reachB_has {ts : List Thg} {a : List (List Rgt)} (ht : tabOk ts = true) (h : IsReach ts a) {i : Nat} {t : Thg} (hi : ts[i]? = some t) {x : Rgt} (hx : x ∈ t.slots) (wt : Bool) (hp : (if wt then x.wr else x.rd) = true) : ex ts x.thing = true ∧ reachB (rowA a i) x.thing wt = true := by
  have hok := slots_okT ht hi x hx
  have h0 : x.thing ≠ 0 := fun e => by
    have := rgt_null hok e
    rw [this] at hp
    cases wt <;> simp [Rgt.null] at hp
  have hc := tab_caps ht (ex_at (nat_lt hi)) (by rw [getT_nat hi]; exact hx)
  refine ⟨cap_ex hc h0, ?_⟩
  obtain ⟨s, hs, hin⟩ := (reach_has ht h hi hx).resolve_left h0
  simp only [rgtIn, Bool.and_eq_true] at hin
  obtain ⟨e1, -, e3, e4, -⟩ := rgtIn1_thing hin.2 h0
  refine List.any_eq_true.2 ⟨s, hs, ?_⟩
  cases wt
  · simpa [e1] using e3 (by simpa using hp)
  · simpa [e1] using e4 (by simpa using hp)

set_option maxRecDepth 100000 in
set_option maxHeartbeats 4000000 in
theorem fnReachKinds_c (p : Option Addr) (n cap : Nat) (w : World) (hc : n ≤ cap) (hb : BytesIn w p n) :
    Calls Tryz.prog 7 #[.slice p n cap] w fun e w' => e = .returned (.bool true) ∧ Below w.heap.size w w' := by
  by_cases hbig : n ≤ 1048576
  · have hle : ¬ (1048576 : Int) < (n : Int) := by omega
    have Hb := Lib.hid hb
    clear hb
    go_enter Tryz.func7, Tryz.ntmps7
    go_upto_region 4 with (go_at_call 12; refine (drawReachAll_c p n cap _ hc Hb.out (by omega)).mono ?_; rintro e w1 ⟨q, k, ts, rfl, hT, hl3, hl8, hb1⟩)
    obtain ⟨tk, htk⟩ : ∃ b, tabOk ts = b := ⟨_, rfl⟩
    have Htk := Lib.hid htk
    have HT := Lib.hid hT
    have HB1 := Lib.hid hb1
    clear htk hT hb1 Hb
    cases tk
    · have hund : undef = Value.tuple #[] := rfl
      go_wp2_with (first
        | (go_at_call 13; refine (reachAll_no HT.out Htk.out).mono ?_; rintro e w2 ⟨q2, rfl, hb2⟩; have hz2 := hb2.size)
        | (go_at_call 14; refine (sreachAll_no (HT.out.pure hb2) Htk.out).mono ?_; rintro e w3 ⟨q3, rfl, hb3⟩; have hz3 := hb3.size)
        | (go_at_call 15; refine (stableOk_u (HT.out.pure (hb2.trans (hb3.mono hz2))) Htk.out).mono ?_; rintro e w4 ⟨rfl, hb4⟩; have hz4 := hb4.size))
      go_ret
      exact ⟨rfl, HB1.out.trans (Below.mono (show Below w1.heap.size w1 _ from hb2.trans ((hb3.trans (hb4.mono hz3)).mono hz2)) HB1.out.size)⟩
    · go_upto_region 6 with (first
        | (go_at_call 13; refine (reachAll_yes HT.out Htk.out).mono ?_; rintro e w2 ⟨A, c, a, rfl, hI, hA2, hb2⟩; have hz2 := hb2.size)
        | (go_at_call 14; refine (sreachAll_yes (HT.out.pure hb2) Htk.out).mono ?_; rintro e w3 ⟨A3, c3, a3, rfl, hI3, -, hb3⟩; have hz3 := hb3.size))
      obtain rfl : a3 = a := hI3.eq hI
      have hb13 : Below w1.heap.size w1 w3 := hb2.trans (hb3.mono hz2)
      have HT3 := Lib.hid (HT.out.pure hb13)
      have HA3 := Lib.hid (hA2.pure hb3)
      have HB3 := Lib.hid (HB1.out.trans (hb13.mono HB1.out.size))
      have HI := Lib.hid hI
      have hac := hI.len
      clear hI hI3 hA2 hb2 hb3 hb13 HT HB1
      go_upto_region 8 with (first
        | (go_at_call 15; refine (stableOk_u HT3.out Htk.out).mono ?_; rintro e wx ⟨rfl, hb4⟩; have hz4 := hb4.size))
      have hT := HT3.out.pure hb4
      have hA := HA3.out.pure hb4
      have HB := Lib.hid (HB3.out.trans (hb4.mono HB3.out.size))
      clear HT3 HA3 HB3 hb4 hz4 hz2 hz3
      have HT := Lib.hid hT
      have HA := Lib.hid hA
      clear hT hA
      go_wp2
      go_loopw [6] (fun s6 wr => ∃ i : Nat, s6 = .int .i64 (i : Int) ∧ i ≤ ts.length ∧ Below wx.heap.size wx wr) (fun s6 _ => ts.length - (intOf s6).toNat)
      case atStart => exact ⟨0, rfl, by omega, Below.refl _ _⟩
      case round =>
        obtain ⟨i, rfl, hi, hB⟩ := hrel
        obtain ⟨wi, rfl⟩ : ∃ y : World, y = wr := ⟨_, rfl⟩
        have HTi := Lib.hid (HT.out.pure hB)
        have HAi := Lib.hid (HA.out.pure hB)
        have HBi := Lib.hid hB
        have hzi := hB.size
        clear hB
        by_cases hlt : i < ts.length
        · have hi0 : (0 : Int) ≤ (i : Int) := by omega
          have hin : (i : Int) < (ts.length : Int) := by omega
          have hia : (i : Int) < (a3.length : Int) := by omega
          obtain ⟨t, htt⟩ : ∃ t, ts[i]? = some t := ⟨_, List.getElem?_eq_getElem hlt⟩
          obtain ⟨b, o, ps, cs, rfl, hbl, hS, hs1, hs2, c0, c3, c5⟩ := row_at HTi.out htt
          obtain ⟨qa, ca, g0, hG, hg1, hg2⟩ := all_at HAi.out (show i < a3.length by omega)
          obtain ⟨l, hl⟩ : ∃ l, rowA a3 i = l := ⟨_, rfl⟩
          rw [hl] at g0 hG hg1
          have hll : l.length ≤ 384 := by rw [← hl]; exact reach_row_len Htk.out HI.out i hlt
          have hsl : t.slots.length ≤ 4 := slots4 Htk.out htt
          unfold maxLen at hs2 hg2
          have HL := Lib.hid hl
          have HS := Lib.hid hS
          have HG := Lib.hid hG
          have Htt := Lib.hid htt
          have HC := Lib.hid (show ∀ w' : World, Below wi.heap.size wi w' → (w'.cell? ⟨b, o + i * 8 + 5, none⟩ = some (.slice ps t.slots.length cs) ∧ w'.cell? ⟨A, i, none⟩ = some (.slice qa l.length ca) ∧ w'.cell? ⟨b, o + i * 8, none⟩ = some (.int .i64 t.kind)) from fun w' h => ⟨(h.cell hbl).trans c5, (h.cell (cell_lt g0)).trans g0, (h.cell hbl).trans c0⟩)
          clear htt hl hS hG c0 c3 c5 g0 hbl
          have hw3 : IntKind.i64.wrap ((i : Int) + 1) = (i : Int) + 1 := IntWalk.i64_in _ (by omega)
          have hsh : t.kind = 2 ∨ t.kind = 3 ∨ (¬ t.kind = 2 ∧ ¬ t.kind = 3) := by omega
          have hex1 : ex ts 1 = true := by rw [ex_iff]; omega
          go_upto_region 11 with (fail)
          go_cut [66] (fun s66 wz => s66 = .bool false ∧ Below wi.heap.size wi wz)
          case first =>
            obtain ⟨c5, g0, c0⟩ := HC.out _ (Below.refl _ _)
            rcases hsh with hsh | hsh | ⟨hsh, hsh2⟩
            · have hb2 : (t.kind == 2) = true := by simp [hsh]
              have nb2 : (t.kind != 2) = false := by simp [hsh]
              clear hsh
              go_wp2
              go_meet
              exact ⟨rfl, Below.refl _ _⟩
            · have hb2 : (t.kind == 2) = false := by simp [hsh]
              have hb3 : (t.kind == 3) = true := by simp [hsh]
              have nb2 : (t.kind != 2) = true := by simp [hsh]
              have nb3 : (t.kind != 3) = false := by simp [hsh]
              clear hsh
              go_wp2
              go_meet
              exact ⟨rfl, Below.refl _ _⟩
            · have hb2 : (t.kind == 2) = false := by simpa using hsh
              have hb3 : (t.kind == 3) = false := by simpa using hsh2
              have nb2 : (t.kind != 2) = true := by simpa using hsh
              have nb3 : (t.kind != 3) = true := by simpa using hsh2
              have hl0 : rowA a3 i = [] := reach_kind Htk.out HI.out Htt.out hsh hsh2
              have hl00 : l.length = 0 := by rw [← HL.out, hl0]; rfl
              have hq2 : ¬ (0 : Int) < (l.length : Int) := by omega
              have hlnil : l = [] := List.eq_nil_of_length_eq_zero hl00
              have Hno := Lib.hid (show reachB (rowA a3 i) 1 false = false by rw [hl0]; rfl)
              clear hsh hsh2 hl0 hl00
              go_wp2_with (first
                | (go_at_call 20; with_reducible refine (reachTo_t HTi.out Htk.out hlt hex1 HI.out Hno.out).mono ?_; rintro e w5 ⟨rfl, hb5⟩; have Hb5 := Lib.hid hb5; clear hb5))
              go_meet
              exact ⟨rfl, Hb5.out⟩
          case rest =>
            obtain ⟨rfl, hBz⟩ := hcut
            obtain ⟨wo, rfl⟩ : ∃ y : World, y = wc := ⟨_, rfl⟩
            have HBo := Lib.hid hBz
            clear hBz hsh
            go_wp2
            go_loopw [7] (fun s7 wr => ∃ m : Nat, s7 = .int .i64 (m : Int) ∧ m ≤ t.slots.length ∧ Below wi.heap.size wi wr) (fun s7 _ => t.slots.length - (intOf s7).toNat)
            case atStart => exact ⟨0, rfl, by omega, HBo.out⟩
            case round =>
              obtain ⟨m, rfl, hm, hB⟩ := hrel
              obtain ⟨wm, rfl⟩ : ∃ y : World, y = wr := ⟨_, rfl⟩
              have HBm := Lib.hid hB
              have hzm := hB.size
              obtain ⟨c5, g0, c0⟩ := HC.out _ hB
              by_cases hlt2 : m < t.slots.length
              · have hm0 : (0 : Int) ≤ (m : Int) := by omega
                have hmn : (m : Int) < (t.slots.length : Int) := by omega
                obtain ⟨x, hx⟩ : ∃ x, t.slots[m]? = some x := ⟨_, List.getElem?_eq_getElem hlt2⟩
                obtain ⟨sb, so, rfl, hsb, y0, y1, y2, y3, y4⟩ := (HS.out.pure hB).at m x hx
                have Hf := Lib.hid (fun h => reachB_has Htk.out HI.out Htt.out (List.mem_of_getElem? hx) false h)
                have Ht := Lib.hid (fun h => reachB_has Htk.out HI.out Htt.out (List.mem_of_getElem? hx) true h)
                clear hx hB
                obtain ⟨x0, x1, x2, x3, x4⟩ := x
                dsimp only at y0 y1 y2 y3 y4
                go_upto_region 17 with (fail)
                generalize hwy : World.alloc _ _ = wy
                have hBy : Below wm.heap.size wm wy := by rw [← hwy]; exact (by (repeat (with_reducible first | exact Below.refl _ _ | refine Below.alloc ?_ ?_ _ | refine below_drewN ?_ _ | refine Below.drew ?_ | refine Below.setCell ?_ ?_ _ | refine Below.trans ?_ (Below.mono (by assumption) ?_))) <;> (first | omega | (simp; try omega)))
                have hzy : wm.heap.size < wy.heap.size := by rw [← hwy]; simp
                have gy : wy.cell? ⟨wm.heap.size, 0, none⟩ = some (.int .i64 x0) ∧ wy.cell? ⟨wm.heap.size, 1, none⟩ = some (.int .i64 x1) ∧ wy.cell? ⟨wm.heap.size, 2, none⟩ = some (.bool x2) ∧ wy.cell? ⟨wm.heap.size, 3, none⟩ = some (.bool x3) ∧ wy.cell? ⟨wm.heap.size, 4, none⟩ = some (.bool x4) := by rw [← hwy]; simp [go_sem]
                obtain ⟨p0, p1, p2, p3, p4⟩ := gy
                have HBy := Lib.hid hBy
                have hzy2 := hBy.size
                have HTy := Lib.hid (HTi.out.pure (HBm.out.trans (hBy.mono hzm)))
                have Hend := Lib.hid (show ∀ w9 : World, Below wy.heap.size wy w9 → Below wi.heap.size wi w9 from fun w9 h => HBm.out.trans ((hBy.trans (h.mono hzy2)).mono hzm))
                clear hwy hBy y0 y1 y2 y3 y4 c5 g0 c0
                cases x2 <;> cases x3
                · go_wp2
                  exact ⟨⟨m + 1, by go_num, by omega, Hend.out _ (Below.refl _ _)⟩, by simp [intOf]; omega⟩
                · go_wp2_with (first
                    | (go_at_call 20; with_reducible refine (reachTo_t HTy.out Htk.out hlt (Ht.out rfl).1 HI.out (Ht.out rfl).2).mono ?_; rintro e w5 ⟨rfl, hb5⟩; have Hb5 := Lib.hid hb5; clear hb5))
                  exact ⟨⟨m + 1, by go_num, by omega, Hend.out _ Hb5.out⟩, by simp [intOf]; omega⟩
                · go_wp2_with (first
                    | (go_at_call 20; with_reducible refine (reachTo_t HTy.out Htk.out hlt (Hf.out rfl).1 HI.out (Hf.out rfl).2).mono ?_; rintro e w5 ⟨rfl, hb5⟩; have p3 := (hb5.cell hzy).trans p3; have Hb5 := Lib.hid hb5; clear hb5))
                  exact ⟨⟨m + 1, by go_num, by omega, Hend.out _ Hb5.out⟩, by simp [intOf]; omega⟩
                · go_wp2_with (first
                    | (go_at_call 20; with_reducible refine (reachTo_t HTy.out Htk.out hlt (Hf.out rfl).1 HI.out (Hf.out rfl).2).mono ?_; rintro e w5 ⟨rfl, hb5⟩; have p3 := (hb5.cell hzy).trans p3; have p0 := (hb5.cell hzy).trans p0; have Hb5 := Lib.hid hb5; clear hb5)
                    | (go_at_call 20; with_reducible refine (reachTo_t (HTy.out.pure Hb5.out) Htk.out hlt (Ht.out rfl).1 HI.out (Ht.out rfl).2).mono ?_; rintro e w6 ⟨rfl, hb6⟩; have Hb6 := Lib.hid hb6; clear hb6))
                  exact ⟨⟨m + 1, by go_num, by omega, Hend.out _ (Hb5.out.trans (Hb6.out.mono Hb5.out.size))⟩, by simp [intOf]; omega⟩
              · have hmn : ¬ (m : Int) < (t.slots.length : Int) := by omega
                clear hB
                go_wp2
                exact ⟨⟨i + 1, by go_num, by omega, HBi.out.trans (HBm.out.mono hzi)⟩, by simp [intOf]; omega⟩
        · have hin : ¬ (i : Int) < (ts.length : Int) := by omega
          go_wp2
          go_ret
          exact ⟨rfl, HB.out.trans (HBi.out.mono HB.out.size)⟩
  · have hgt : (1048576 : Int) < (n : Int) := by omega
    clear hbig hb
    go_enter Tryz.func7, Tryz.ntmps7
    go_wp2
    go_ret
    exact ⟨rfl, (by (repeat (with_reducible first | exact Below.refl _ _ | refine Below.alloc ?_ ?_ _ | refine below_drewN ?_ _ | refine Below.drew ?_ | refine Below.setCell ?_ ?_ _ | refine Below.trans ?_ (Below.mono (by assumption) ?_))) <;> (first | omega | (simp; try omega)))⟩
end Go.Proofs.YtiolplhgpodifaaGreat
