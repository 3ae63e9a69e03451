/- The reference's ordering of rights. Conditions: they lie where their cells say, and are rights. -/
import Derived.Test.YtiolplhgpodifaaGreatSt
import Derived.Test.YtiolplhgpodifaaGreatOr
import Derived.Deep.CutBlock
set_option linter.unusedVariables false
set_option linter.unusedSimpArgs false

namespace Go.Proofs.YtiolplhgpodifaaGreat
open Go.RowKit Drw
attribute [local go_sem] Lab.val Rgt.val Cal.val Thg.val

theorem rgts_take {w : World} {p : Option Addr} {n k : Nat} {cs : List Rgt} (h : RgtsAt w (.slice p n k) cs) (m : Nat) (hm : m ≤ cs.length) : RgtsAt w (.slice p m k) (cs.take m) := by
  obtain ⟨p', cap, he, h1, h2, h3⟩ := h
  cases he
  simp only [List.length_map] at h1
  refine ⟨p, k, by simp; omega, by simp; omega, h2, ?_⟩
  rcases h3 with h3 | ⟨b, o, rfl, hc⟩
  · left
    simp at h3
    simp [h3]
  · refine .inr ⟨b, o, rfl, fun i c hi => hc i c ?_⟩
    rw [List.map_take, List.getElem?_take] at hi
    split at hi
    · exact hi
    · cases hi
theorem rgts_drop {w : World} {p : Option Addr} {n k : Nat} {cs : List Rgt} (h : RgtsAt w (.slice p n k) cs) (m : Nat) (hm : m ≤ cs.length) : RgtsAt w (.slice (if k = m then p else p.map (·.add (m * 5))) (n - m) (k - m)) (cs.drop m) := by
  obtain ⟨p', cap, he, h1, h2, h3⟩ := h
  cases he
  simp only [List.length_map] at h1
  refine ⟨if k = m then p else p.map (·.add (m * 5)), k - m, by simp [h1], by simp; omega, by omega, ?_⟩
  by_cases hkm : k = m
  · left
    simp; omega
  · rcases h3 with h3 | ⟨b, o, rfl, hc⟩
    · left
      simp at h3
      simp [h3]
    · refine .inr ⟨b, o + m * 5, by simp [hkm, Addr.add], fun i c hi j u hj => ?_⟩
      rw [List.map_drop, List.getElem?_drop] at hi
      have := hc (m + i) c hi j u hj
      rw [show o + m * 5 + i * 5 + j = o + (m + i) * 5 + j by omega]
      exact this
theorem while_at {l : List Rgt} {f : Rgt → Bool} {m : Nat} (h : ∀ y ∈ l.take m, f y = true) (hm : m ≤ l.length) (he : ∀ y, l[m]? = some y → f y = false) : l.takeWhile f = l.take m ∧ l.dropWhile f = l.drop m := by
  have e : l = l.take m ++ l.drop m := (List.take_append_drop m l).symm
  have hd : (l.drop m).takeWhile f = [] ∧ (l.drop m).dropWhile f = l.drop m := by
    cases hx : l.drop m with
    | nil => exact ⟨rfl, rfl⟩
    | cons y ys =>
      have : l[m]? = some y := by rw [← List.head?_drop, hx]; rfl
      have := he y this
      simp [this]
  have h1 : l.takeWhile f = l.take m := by
    conv => lhs; rw [e]
    rw [List.takeWhile_append_of_pos h, hd.1, List.append_nil]
  have h2 : l.dropWhile f = l.drop m := by
    conv => lhs; rw [e]
    rw [List.dropWhile_append_of_pos h, hd.2]
  exact ⟨h1, h2⟩
theorem rightText_v {r : Rgt} {v : Value} {s : ByteArray} {w : World} (hv : v = r.val) (h : bs (rgtTxt r) = s) (hr : rgtOk r = true) :
    Calls Tryz.prog 98 #[v] w fun e w' => e = .returned (.string s) ∧ Below w.heap.size w w' := by
  subst hv; subst h; exact rightText_c r w hr

structure S9I (Wb : Nat) (os : List Rgt) (x : Rgt) (m : Nat) (lst out sub v6 pa : Value) (i mi : Int) (w0 : World) (d : Nat → Bool) (w : World) (v3 v38 v39 v40 v41 v42 v43 v44 v45 v46 v47 v48 : Value) : Prop where
  chg : Below Wb w0 w
  p0 : d 0 = true → v38 = v6
  p1 : d 1 = true → v39 = lst
  p2 : d 2 = true → v40 = .int .i64 i
  p3 : d 3 = true → v41 = pa
  p4 : d 4 = true → v42 = .agg #[.int .i64 x.thing, .int .i64 x.vers, .bool x.rd, .bool x.wr, .bool x.wk]
  p5 : d 5 = true → d 6 = false → RgtsAt w v43 [x]
  p6 : d 6 = true → d 10 = false → w.ownsRow Wb 35 5 v44 (m + 1) (((os.take m ++ [x]).map Rgt.cells).flatten)
  p7 : d 7 = true → v45 = out
  p8 : d 8 = true → v46 = .int .i64 mi
  p9 : d 9 = true → v47 = sub
  p10 : d 10 = true → d 11 = false → w.ownsRow Wb 35 5 v48 (os.length + 1) (((os.take m ++ x :: os.drop m).map Rgt.cells).flatten)
  p11 : d 11 = true → w.ownsRow Wb 35 5 v3 (os.length + 1) (((os.take m ++ x :: os.drop m).map Rgt.cells).flatten)
  x0 : d 6 = false → w.ownsRow Wb 35 5 v6 m (((os.take m).map Rgt.cells).flatten)
  x1 : d 11 = false → v3 = out
  x2 : ∀ j, j < 11 → d 11 = true → d j = true
  x3 : d 10 = true → d 6 = true

set_option maxRecDepth 100000 in
set_option maxHeartbeats 4000000 in
theorem l22Sort_c (p : Option Addr) (cap : Nat) (rs : List Rgt) (w : World) (hR : RgtsAt w (.slice p rs.length cap) rs) (hne : Ne0 rs) (hn : rs.length ≤ 400) :
    Calls Tryz.prog 70 #[.slice p rs.length cap] w fun e w' => ∃ q k, e = .returned (.slice q (sort22 rs).length k) ∧ RgtsAt w' (.slice q (sort22 rs).length k) (sort22 rs) ∧ (∀ b, (Value.slice q (sort22 rs).length k).ownBlock = some b → w.heap.size ≤ b) ∧ Below w.heap.size w w' := by
  obtain ⟨_, _, h1, hl1, hl2⟩ := hR.len
  cases h1
  unfold maxLen at hl2
  obtain ⟨i0, hi0, hz0, hz1, hz2⟩ := info_parts info_rgt
  have HR := Lib.hid hR
  have Hne := Lib.hid hne
  have Hsl := Lib.hid (show ∀ i, (sort22 (rs.take i)).length ≤ 400 ∧ ∀ y ∈ sort22 (rs.take i), rgtOk y = true ∧ y.thing ≠ 0 from fun i => by
    refine ⟨?_, fun y hy => hne y (List.mem_of_mem_take ((sort_mem _ _).1 hy))⟩
    have : ∀ l : List Rgt, (sort22 l).length = l.length := fun l => by
      refine snoc_ind (P := fun l => (sort22 l).length = l.length) rfl (fun l a h => ?_) l
      rw [sort_snoc]
      have : ∀ (x : Rgt) (l : List Rgt), (ins22 x l).length = l.length + 1 := fun x l => by
        unfold ins22
        have h2 := congrArg List.length (List.takeWhile_append_dropWhile (p := fun y => decide (key y < key x)) (l := l))
        rw [List.length_append] at h2
        simp only [List.length_append, List.length_cons]
        omega
      rw [this, h]
      simp
    rw [this, List.length_take]
    omega)
  clear hR hne
  go_enter Tryz.func70, Tryz.ntmps70
  go_wp2
  go_loopw [3, 4] (fun s3 s4 wr => ∃ (i : Nat) (q : Option Addr) (k : Nat), s4 = .int .i64 (i : Int) ∧ i ≤ rs.length ∧ s3 = .slice q (sort22 (rs.take i)).length k ∧ RgtsAt wr (.slice q (sort22 (rs.take i)).length k) (sort22 (rs.take i)) ∧ (∀ b, (Value.slice q (sort22 (rs.take i)).length k).ownBlock = some b → w.heap.size ≤ b) ∧ Below w.heap.size w wr) (fun _ s4 _ => rs.length - (intOf s4).toNat)
  case atStart => exact ⟨0, _, 0, rfl, by omega, rfl, ⟨_, _, rfl, by simp [sort22], by simp [maxLen], .inl (by simp [sort22])⟩, (fun b e => by simp [Value.ownBlock] at e; omega), (by (repeat (with_reducible first | exact Below.refl _ _ | refine Below.alloc ?_ ?_ _ | refine below_drewN ?_ _ | refine Below.drew ?_ | refine Below.setCell ?_ ?_ _ | refine Below.trans ?_ (Below.mono (by assumption) ?_))) <;> (first | omega | (simp; try omega)))⟩
  case round =>
    obtain ⟨i, q, k, rfl, hi, rfl, hRr, hFr, hBr⟩ := hrel
    obtain ⟨hl4, hok4⟩ := Hsl.out i
    obtain ⟨os, hos⟩ : ∃ c, sort22 (rs.take i) = c := ⟨_, rfl⟩
    rw [hos] at hRr hFr hl4 hok4 ⊢
    have Hos := Lib.hid hos
    have HRr := Lib.hid hRr
    have HFr := Lib.hid hFr
    have HBr := Lib.hid hBr
    have Hok4 := Lib.hid hok4
    have hzr := hBr.size
    obtain ⟨_, _, h3, hk1, hk2⟩ := hRr.len
    cases h3
    unfold maxLen at hk2
    obtain ⟨wr', rfl⟩ : ∃ wy : World, wy = wr := ⟨_, rfl⟩
    by_cases hlt : i < rs.length
    · obtain ⟨x, hx⟩ : ∃ x, rs[i]? = some x := ⟨_, List.getElem?_eq_getElem hlt⟩
      have hxo := Hne.out x (List.mem_of_getElem? hx)
      have hns : sort22 (rs.take (i + 1)) = ins22 x os := by
        rw [List.take_add_one, hx, Option.toList_some, sort_snoc, hos]
      have Hns := Lib.hid hns
      have Hx := Lib.hid hx
      have Hxo := Lib.hid hxo
      obtain ⟨xs, hxs⟩ : ∃ s, bs (rgtTxt x) = s := ⟨_, rfl⟩
      have Hxs := Lib.hid hxs
      have hj0 : (0 : Int) ≤ (i : Int) := by omega
      have hju : (i : Int) < (rs.length : Int) := by omega
      clear hx hxo hns hos hRr hFr hBr hok4 hxs
      go_upto_block 2 with (fail)
      go_cut [5] (fun s5 wz => ∃ m : Nat, s5 = .int .i64 (m : Int) ∧ m ≤ os.length ∧ (∀ y ∈ os.take m, decide (key y < key x) = true) ∧ (∀ y, os[m]? = some y → decide (key y < key x) = false) ∧ Below wr'.heap.size wr' wz)
      case first =>
        go_wp2
        go_loopw [5] (fun s5 wz => ∃ m : Nat, s5 = .int .i64 (m : Int) ∧ m ≤ os.length ∧ (∀ y ∈ os.take m, decide (key y < key x) = true) ∧ Below wr'.heap.size wr' wz) (fun s5 _ => os.length - (intOf s5).toNat)
        case atStart => exact ⟨0, rfl, by omega, by simp, Below.refl _ _⟩
        case round =>
          obtain ⟨m, rfl, hm, hall, hBz⟩ := hrel
          have Hall := Lib.hid hall
          have HBz := Lib.hid hBz
          have hzz := hBz.size
          obtain ⟨wz', rfl⟩ : ∃ wy : World, wy = wr := ⟨_, rfl⟩
          by_cases hmt : m < os.length
          · obtain ⟨y, hy⟩ : ∃ y, os[m]? = some y := ⟨_, List.getElem?_eq_getElem hmt⟩
            have hyo := Hok4.out y (List.mem_of_getElem? hy)
            obtain ⟨b2, o2, rfl, hb2, r0, r1, r2, r3, r4⟩ := (HRr.out.pure hBz).at m y hy
            obtain ⟨b1, o1, rfl, hb1, y0, y1, y2, y3, y4⟩ := (HR.out.pure (HBr.out.trans (hBz.mono hzr))).at i x Hx.out
            obtain ⟨ys, hys⟩ : ∃ s, bs (rgtTxt y) = s := ⟨_, rfl⟩
            obtain ⟨dd, hdd⟩ : ∃ d, decide (key y < key x) = d := ⟨_, rfl⟩
            have hltx : Op.bytesLess ys.toList xs.toList = dd := by rw [← hys, ← Hxs.out, bs_toList, bs_toList, txt_lt hyo.1 Hxo.out.1 hyo.2 Hxo.out.2, hdd]
            have hnext : dd = true → ∀ z ∈ os.take (m + 1), decide (key z < key x) = true := fun e z hz => by
              rw [List.take_add_one, hy, Option.toList_some, List.mem_append, List.mem_singleton] at hz
              rcases hz with hz | rfl
              · exact Hall.out z hz
              · rw [hdd, e]
            have Hdd := Lib.hid hdd
            have Hy := Lib.hid hy
            have Hys := Lib.hid hys
            have Hyo := Lib.hid hyo.1
            have Hxo1 := Lib.hid Hxo.out.1
            have Hltx := Lib.hid hltx
            have Hnext := Lib.hid hnext
            have hm0 : (0 : Int) ≤ (m : Int) := by omega
            have hmu : (m : Int) < (os.length : Int) := by omega
            obtain ⟨x1, x2, x3, x4, x5⟩ := x
            obtain ⟨y1', y2', y3', y4', y5'⟩ := y
            dsimp only at r0 r1 r2 r3 r4 y0 y1 y2 y3 y4
            have HS := Lib.hid (show ∀ w' : World, Below wz'.heap.size wz' w' → (Below wz'.heap.size wz' w' ∧ w'.cell? ⟨b2, o2 + m * 5, none⟩ = some (.int .i64 y1') ∧ w'.cell? ⟨b2, o2 + m * 5 + 1, none⟩ = some (.int .i64 y2') ∧ w'.cell? ⟨b2, o2 + m * 5 + 2, none⟩ = some (.bool y3') ∧ w'.cell? ⟨b2, o2 + m * 5 + 3, none⟩ = some (.bool y4') ∧ w'.cell? ⟨b2, o2 + m * 5 + 4, none⟩ = some (.bool y5') ∧ w'.cell? ⟨b1, o1 + i * 5, none⟩ = some (.int .i64 x1) ∧ w'.cell? ⟨b1, o1 + i * 5 + 1, none⟩ = some (.int .i64 x2) ∧ w'.cell? ⟨b1, o1 + i * 5 + 2, none⟩ = some (.bool x3) ∧ w'.cell? ⟨b1, o1 + i * 5 + 3, none⟩ = some (.bool x4) ∧ w'.cell? ⟨b1, o1 + i * 5 + 4, none⟩ = some (.bool x5)) from fun w' h => by
              obtain ⟨hc', -⟩ := bcell h
              exact ⟨h, (hc' _ _ hb2).trans r0, (hc' _ _ hb2).trans r1, (hc' _ _ hb2).trans r2, (hc' _ _ hb2).trans r3, (hc' _ _ hb2).trans r4, (hc' _ _ hb1).trans y0, (hc' _ _ hb1).trans y1, (hc' _ _ hb1).trans y2, (hc' _ _ hb1).trans y3, (hc' _ _ hb1).trans y4⟩)
            clear hy hyo hys hdd hltx hnext hall hBz r0 r1 r2 r3 r4 y0 y1 y2 y3 y4
            go_upto_region 6 with (fail)
            go_cut [30] (fun sC wy => sC = .bool dd ∧ Below wz'.heap.size wz' wy)
            case first =>
              first | (go_region_held3 (fun w' => Below wz'.heap.size wz' w' ∧ w'.cell? ⟨b2, o2 + m * 5, none⟩ = some (.int .i64 y1') ∧ w'.cell? ⟨b2, o2 + m * 5 + 1, none⟩ = some (.int .i64 y2') ∧ w'.cell? ⟨b2, o2 + m * 5 + 2, none⟩ = some (.bool y3') ∧ w'.cell? ⟨b2, o2 + m * 5 + 3, none⟩ = some (.bool y4') ∧ w'.cell? ⟨b2, o2 + m * 5 + 4, none⟩ = some (.bool y5') ∧ w'.cell? ⟨b1, o1 + i * 5, none⟩ = some (.int .i64 x1) ∧ w'.cell? ⟨b1, o1 + i * 5 + 1, none⟩ = some (.int .i64 x2) ∧ w'.cell? ⟨b1, o1 + i * 5 + 2, none⟩ = some (.bool x3) ∧ w'.cell? ⟨b1, o1 + i * 5 + 3, none⟩ = some (.bool x4) ∧ w'.cell? ⟨b1, o1 + i * 5 + 4, none⟩ = some (.bool x5))
                (first | assumption | exact HS.out _ (Below.refl _ _) | exact HS.out _ (Below.drew (Below.refl _ _)) | (have hX := And.left (by assumption : Below wz'.heap.size wz' _ ∧ _); exact HS.out _ (hX.trans (hb3.mono hX.size))))
                (first
                  | (go_at_call 98; with_reducible refine (rightText_v (v := .agg #[.int .i64 y1', .int .i64 y2', .bool y3', .bool y4', .bool y5']) (r := ⟨y1', y2', y3', y4', y5'⟩) rfl Hys.out Hyo.out).mono ?_; rintro e w3 ⟨rfl, hb3⟩)
                  | (go_at_call 98; with_reducible refine (rightText_v (v := .agg #[.int .i64 x1, .int .i64 x2, .bool x3, .bool x4, .bool x5]) (r := ⟨x1, x2, x3, x4, x5⟩) rfl Hxs.out Hxo1.out).mono ?_; rintro e w3 ⟨rfl, hb3⟩))) | fail
              all_goals (go_wp2; go_meet; exact ⟨by simp only [Hltx.out], And.left (by assumption : Below wz'.heap.size wz' _ ∧ _)⟩)
            case rest =>
              obtain ⟨rfl, hBy⟩ := hcut
              obtain ⟨wy, rfl⟩ : ∃ wy : World, wy = wc := ⟨_, rfl⟩
              have HBy := Lib.hid hBy
              clear hBy
              cases dd
              · go_wp2
                go_meet
                exact ⟨m, rfl, hm, Hall.out, fun z hz => by rw [Hy.out] at hz; cases hz; exact Hdd.out, HBz.out.trans (HBy.out.mono hzz)⟩
              · go_wp2
                exact ⟨⟨m + 1, by go_num, by omega, Hnext.out rfl, HBz.out.trans (HBy.out.mono hzz)⟩, by simp [intOf]; omega⟩
          · have hnm : ¬ (m : Int) < (os.length : Int) := by omega
            have hund : undef = Value.tuple #[] := rfl
            clear hall hBz
            go_upto_region 6 with (fail)
            go_cut [30] (fun sC wy => sC = .bool false ∧ Below wz'.heap.size wz' wy)
            case first =>
              go_quiet (fail)
              go_wp2
              go_meet
              exact ⟨rfl, below_drewN (Below.refl _ _) _⟩
            case rest =>
              obtain ⟨rfl, hBy⟩ := hcut
              obtain ⟨wy, rfl⟩ : ∃ wy : World, wy = wc := ⟨_, rfl⟩
              go_wp2
              go_meet
              exact ⟨m, rfl, hm, Hall.out, fun z hz => by have := (List.getElem?_eq_some_iff.1 hz).1; omega, HBz.out.trans (hBy.mono hzz)⟩
      case rest =>
        obtain ⟨m, rfl, hm, hall, hend, hBz⟩ := hcut
        obtain ⟨wz, rfl⟩ : ∃ wy : World, wy = wc := ⟨_, rfl⟩
        have hB8 : Below w.heap.size w wz := HBr.out.trans (hBz.mono hzr)
        have hos8 := HRr.out.pure hBz
        have htk := rgts_take hos8 m hm
        have Htk := Lib.hid htk
        have Hos8 := Lib.hid hos8
        have HB8 := Lib.hid hB8
        have HBz := Lib.hid hBz
        have hwh := while_at hall hm hend
        have Hwh := Lib.hid hwh
        have hm0 : (0 : Int) ≤ (m : Int) := by omega
        have hmk : (m : Int) ≤ (k : Int) := by omega
        have hml : (m : Int) ≤ (os.length : Int) := by omega
        have hlk : (os.length : Int) ≤ (k : Int) := by omega
        have htl : (os.take m).length = m := by rw [List.length_take]; omega
        have Htl := Lib.hid htl
        have hzz := hBz.size
        clear hall hend hBz hB8 hos8 htk hwh htl
        go_upto_region 9 with (first | (at_builtin; refine wpList_append_rows rfl (.tmp 33) (.tmp 36) 30 rfl wz.heap.size 35 i0 _ 5 24 Tryz.underlying30 hi0 hz0 hz1 hz2 rfl (by decide) (.slice (some ⟨wz.heap.size, 0, none⟩) 0 0) 0 [] rfl (own_lit wz.heap.size rfl (Nat.le_refl _)) (.slice q m k) ((os.take m).map Rgt.cells) rfl (flat_rgts _) (Rows.pure Htk.out (by (repeat (with_reducible first | exact Below.refl _ _ | refine Below.alloc ?_ ?_ _ | refine below_drewN ?_ _ | refine Below.drew ?_ | refine Below.setCell ?_ ?_ _ | refine Below.trans ?_ (Below.mono (by assumption) ?_))) <;> (first | omega | (simp; try omega)))) (by simp [maxLen] <;> omega) (by simp <;> omega) (by simp <;> omega) ?_; intro v1 w1 ho1 hg1))
        have hown1 : w1.ownsRow wz.heap.size 35 5 v1 m (((os.take m).map Rgt.cells).flatten) := by
          have e : 0 + ((os.take m).map Rgt.cells).length = m := by rw [List.length_map, Htl.out]; omega
          rw [e] at ho1
          simpa using ho1
        obtain ⟨q6, c6, rfl⟩ := own_slice_n hown1
        have hB1 : Below wz.heap.size wz w1 := Below.grown ((Below.refl _ wz).alloc (Nat.le_refl _) _) hg1 (by simp) (fun k hk => by simp [Value.ownBlock] at hk; omega)
        have hzb : wz.heap.size ≤ w1.heap.size := hB1.size
        obtain ⟨b1, o1, rfl, hb1, y0, y1, y2, y3, y4⟩ := (HR.out.pure HB8.out).at i x Hx.out
        have HL := Lib.hid (show ∀ w', Below wz.heap.size w1 w' → w'.cell? ⟨b1, o1 + i * 5, none⟩ = some (.int .i64 x.thing) ∧ w'.cell? ⟨b1, o1 + i * 5 + 1, none⟩ = some (.int .i64 x.vers) ∧ w'.cell? ⟨b1, o1 + i * 5 + 2, none⟩ = some (.bool x.rd) ∧ w'.cell? ⟨b1, o1 + i * 5 + 3, none⟩ = some (.bool x.wr) ∧ w'.cell? ⟨b1, o1 + i * 5 + 4, none⟩ = some (.bool x.wk) from fun w' h => by
          obtain ⟨hc', -⟩ := bcell (hB1.trans h)
          exact ⟨(hc' _ _ hb1).trans y0, (hc' _ _ hb1).trans y1, (hc' _ _ hb1).trans y2, (hc' _ _ hb1).trans y3, (hc' _ _ hb1).trans y4⟩)
        obtain ⟨sub, hsub⟩ : ∃ v, Value.slice (if k = m then q else q.map (·.add (m * 5))) (os.length - m) (k - m) = v := ⟨_, rfl⟩
        have HD := Lib.hid (show ∀ w', Below wz.heap.size w1 w' → RgtsAt w' sub (os.drop m) from fun w' h => by
          rw [← hsub]
          exact Rows.pure (rgts_drop Hos8.out m hm) (hB1.trans h))
        have Hx0 := Lib.hid hown1
        have HB1 := Lib.hid hB1
        have hlen8 : os.length ≤ 400 := hl4
        clear y0 y1 y2 y3 y4 ho1 hg1 hown1 hB1
        refine wp_region_inv (fun d a w' => ∃ v3 v38 v39 v40 v41 v42 v43 v44 v45 v46 v47 v48, a = { tmps := #[.slice (some ⟨b1, o1, none⟩) rs.length cap, undef, .slice none 0 0, v3, .int .i64 (i : Int), .int .i64 (m : Int), .slice q6 m c6, .slice (some ⟨w.heap.size, 0, none⟩) 0 0, .int .i64 (i : Int), .slice (some ⟨b1, o1, none⟩) rs.length cap, .int .i64 (rs.length : Int), .bool true, u12, u13, u14, u15, u16, u17, u18, u19, u20, u21, u22, u23, u24, u25, u26, u27, u28, u29, u30, u31, u32, .slice (some ⟨wz.heap.size, 0, none⟩) 0 0, .slice q os.length k, .int .i64 (m : Int), .slice q m k, .slice q6 m c6, v38, v39, v40, v41, v42, v43, v44, v45, v46, v47, v48, undef], defers := [] } ∧ S9I wz.heap.size os x m (.slice (some ⟨b1, o1, none⟩) rs.length cap) (.slice q os.length k) sub (.slice q6 m c6) (.pointer (some ⟨b1, o1 + i * 5, none⟩)) (i : Int) (m : Int) w1 d w' v3 v38 v39 v40 v41 v42 v43 v44 v45 v46 v47 v48) (by kernel_rfl) (by kernel_rfl) ?_ ?_ ?_
        · refine ⟨_, _, _, _, _, _, _, _, _, _, _, _, rfl, ?_⟩
          constructor
          · exact Below.drew (Below.refl _ _)
          · intro hj; exact absurd hj (by decide)
          · intro hj; exact absurd hj (by decide)
          · intro hj; exact absurd hj (by decide)
          · intro hj; exact absurd hj (by decide)
          · intro hj; exact absurd hj (by decide)
          · intro hj; exact absurd hj (by decide)
          · intro hj; exact absurd hj (by decide)
          · intro hj; exact absurd hj (by decide)
          · intro hj; exact absurd hj (by decide)
          · intro hj; exact absurd hj (by decide)
          · intro hj; exact absurd hj (by decide)
          · intro hj; exact absurd hj (by decide)
          · exact fun _ => own_below Hx0.out (Below.drew (Below.refl _ _))
          · exact fun _ => rfl
          · exact fun j hj h => absurd h (by decide)
          · exact fun h => absurd h (by decide)
        · refine ⟨?_, ?_, ?_, ?_, ?_, ?_, ?_, ?_, ?_, ?_, ?_, ?_, trivial⟩
          · rintro d a w' hd hdep ⟨v3, v38, v39, v40, v41, v42, v43, v44, v45, v46, v47, v48, rfl, H⟩ K hK
            clear hdep
            go_simp
            have hg : Below w'.heap.size w' w' := Below.refl _ _
            refine hK _ _ ⟨_, _, _, _, _, _, _, _, _, _, _, _, rfl, ?_⟩
            constructor
            · exact H.chg.trans (hg.mono (Nat.le_trans hzb H.chg.size))
            · intro _; exact rfl
            · intro hj; have h := H.p1 (by simpa using hj); exact h
            · intro hj; have h := H.p2 (by simpa using hj); exact h
            · intro hj; have h := H.p3 (by simpa using hj); exact h
            · intro hj; have h := H.p4 (by simpa using hj); exact h
            · intro hj; have h := H.p5 (by simpa using hj); exact fun h6 => Rows.pure (h (by simpa using h6)) hg
            · intro hj; have h := H.p6 (by simpa using hj); exact fun h6 => own_below (h (by simpa using h6)) hg
            · intro hj; have h := H.p7 (by simpa using hj); exact h
            · intro hj; have h := H.p8 (by simpa using hj); exact h
            · intro hj; have h := H.p9 (by simpa using hj); exact h
            · intro hj; have h := H.p10 (by simpa using hj); exact fun h6 => own_below (h (by simpa using h6)) hg
            · intro hj; have h := H.p11 (by simpa using hj); exact own_below h hg
            · have h := H.x0; exact fun h6 => own_below (h (by simpa using h6)) hg
            · have h := H.x1; exact fun h6 => (h (by simpa using h6))
            · have h := H.x2; exact fun j hj h11 => by have := h j hj (by simpa using h11); simp [this]
            · have h := H.x3; exact fun h10 => by have := h (by simpa using h10); simp [this]
          · rintro d a w' hd hdep ⟨v3, v38, v39, v40, v41, v42, v43, v44, v45, v46, v47, v48, rfl, H⟩ K hK
            clear hdep
            go_simp
            have hg : Below w'.heap.size w' w' := Below.refl _ _
            refine hK _ _ ⟨_, _, _, _, _, _, _, _, _, _, _, _, rfl, ?_⟩
            constructor
            · exact H.chg.trans (hg.mono (Nat.le_trans hzb H.chg.size))
            · intro hj; have h := H.p0 (by simpa using hj); exact h
            · intro _; exact rfl
            · intro hj; have h := H.p2 (by simpa using hj); exact h
            · intro hj; have h := H.p3 (by simpa using hj); exact h
            · intro hj; have h := H.p4 (by simpa using hj); exact h
            · intro hj; have h := H.p5 (by simpa using hj); exact fun h6 => Rows.pure (h (by simpa using h6)) hg
            · intro hj; have h := H.p6 (by simpa using hj); exact fun h6 => own_below (h (by simpa using h6)) hg
            · intro hj; have h := H.p7 (by simpa using hj); exact h
            · intro hj; have h := H.p8 (by simpa using hj); exact h
            · intro hj; have h := H.p9 (by simpa using hj); exact h
            · intro hj; have h := H.p10 (by simpa using hj); exact fun h6 => own_below (h (by simpa using h6)) hg
            · intro hj; have h := H.p11 (by simpa using hj); exact own_below h hg
            · have h := H.x0; exact fun h6 => own_below (h (by simpa using h6)) hg
            · have h := H.x1; exact fun h6 => (h (by simpa using h6))
            · have h := H.x2; exact fun j hj h11 => by have := h j hj (by simpa using h11); simp [this]
            · have h := H.x3; exact fun h10 => by have := h (by simpa using h10); simp [this]
          · rintro d a w' hd hdep ⟨v3, v38, v39, v40, v41, v42, v43, v44, v45, v46, v47, v48, rfl, H⟩ K hK
            clear hdep
            go_simp
            have hg : Below w'.heap.size w' w' := Below.refl _ _
            refine hK _ _ ⟨_, _, _, _, _, _, _, _, _, _, _, _, rfl, ?_⟩
            constructor
            · exact H.chg.trans (hg.mono (Nat.le_trans hzb H.chg.size))
            · intro hj; have h := H.p0 (by simpa using hj); exact h
            · intro hj; have h := H.p1 (by simpa using hj); exact h
            · intro _; exact rfl
            · intro hj; have h := H.p3 (by simpa using hj); exact h
            · intro hj; have h := H.p4 (by simpa using hj); exact h
            · intro hj; have h := H.p5 (by simpa using hj); exact fun h6 => Rows.pure (h (by simpa using h6)) hg
            · intro hj; have h := H.p6 (by simpa using hj); exact fun h6 => own_below (h (by simpa using h6)) hg
            · intro hj; have h := H.p7 (by simpa using hj); exact h
            · intro hj; have h := H.p8 (by simpa using hj); exact h
            · intro hj; have h := H.p9 (by simpa using hj); exact h
            · intro hj; have h := H.p10 (by simpa using hj); exact fun h6 => own_below (h (by simpa using h6)) hg
            · intro hj; have h := H.p11 (by simpa using hj); exact own_below h hg
            · have h := H.x0; exact fun h6 => own_below (h (by simpa using h6)) hg
            · have h := H.x1; exact fun h6 => (h (by simpa using h6))
            · have h := H.x2; exact fun j hj h11 => by have := h j hj (by simpa using h11); simp [this]
            · have h := H.x3; exact fun h10 => by have := h (by simpa using h10); simp [this]
          · rintro d a w' hd hdep ⟨v3, v38, v39, v40, v41, v42, v43, v44, v45, v46, v47, v48, rfl, H⟩ K hK
            have d1 : d 1 = true := hdep ⟨1, .data⟩ (by simp) rfl
            have d2 : d 2 = true := hdep ⟨2, .data⟩ (by simp) rfl
            clear hdep
            have e1 := H.p1 d1
            subst e1
            have e2 := H.p2 d2
            subst e2
            go_simp
            have hg : Below w'.heap.size w' w' := Below.refl _ _
            refine hK _ _ ⟨_, _, _, _, _, _, _, _, _, _, _, _, rfl, ?_⟩
            constructor
            · exact H.chg.trans (hg.mono (Nat.le_trans hzb H.chg.size))
            · intro hj; have h := H.p0 (by simpa using hj); exact h
            · intro hj; have h := H.p1 (by simpa using hj); exact h
            · intro hj; have h := H.p2 (by simpa using hj); exact h
            · intro _; exact rfl
            · intro hj; have h := H.p4 (by simpa using hj); exact h
            · intro hj; have h := H.p5 (by simpa using hj); exact fun h6 => Rows.pure (h (by simpa using h6)) hg
            · intro hj; have h := H.p6 (by simpa using hj); exact fun h6 => own_below (h (by simpa using h6)) hg
            · intro hj; have h := H.p7 (by simpa using hj); exact h
            · intro hj; have h := H.p8 (by simpa using hj); exact h
            · intro hj; have h := H.p9 (by simpa using hj); exact h
            · intro hj; have h := H.p10 (by simpa using hj); exact fun h6 => own_below (h (by simpa using h6)) hg
            · intro hj; have h := H.p11 (by simpa using hj); exact own_below h hg
            · have h := H.x0; exact fun h6 => own_below (h (by simpa using h6)) hg
            · have h := H.x1; exact fun h6 => (h (by simpa using h6))
            · have h := H.x2; exact fun j hj h11 => by have := h j hj (by simpa using h11); simp [this]
            · have h := H.x3; exact fun h10 => by have := h (by simpa using h10); simp [this]
          · rintro d a w' hd hdep ⟨v3, v38, v39, v40, v41, v42, v43, v44, v45, v46, v47, v48, rfl, H⟩ K hK
            have d3 : d 3 = true := hdep ⟨3, .data⟩ (by simp) rfl
            clear hdep
            have e3 := H.p3 d3
            subst e3
            obtain ⟨y0, y1, y2, y3, y4⟩ := HL.out _ H.chg
            go_simp
            have hg : Below w'.heap.size w' w' := Below.refl _ _
            refine hK _ _ ⟨_, _, _, _, _, _, _, _, _, _, _, _, rfl, ?_⟩
            constructor
            · exact H.chg.trans (hg.mono (Nat.le_trans hzb H.chg.size))
            · intro hj; have h := H.p0 (by simpa using hj); exact h
            · intro hj; have h := H.p1 (by simpa using hj); exact h
            · intro hj; have h := H.p2 (by simpa using hj); exact h
            · intro hj; have h := H.p3 (by simpa using hj); exact h
            · intro _; exact rfl
            · intro hj; have h := H.p5 (by simpa using hj); exact fun h6 => Rows.pure (h (by simpa using h6)) hg
            · intro hj; have h := H.p6 (by simpa using hj); exact fun h6 => own_below (h (by simpa using h6)) hg
            · intro hj; have h := H.p7 (by simpa using hj); exact h
            · intro hj; have h := H.p8 (by simpa using hj); exact h
            · intro hj; have h := H.p9 (by simpa using hj); exact h
            · intro hj; have h := H.p10 (by simpa using hj); exact fun h6 => own_below (h (by simpa using h6)) hg
            · intro hj; have h := H.p11 (by simpa using hj); exact own_below h hg
            · have h := H.x0; exact fun h6 => own_below (h (by simpa using h6)) hg
            · have h := H.x1; exact fun h6 => (h (by simpa using h6))
            · have h := H.x2; exact fun j hj h11 => by have := h j hj (by simpa using h11); simp [this]
            · have h := H.x3; exact fun h10 => by have := h (by simpa using h10); simp [this]
          · rintro d a w' hd hdep ⟨v3, v38, v39, v40, v41, v42, v43, v44, v45, v46, v47, v48, rfl, H⟩ K hK
            have d4 : d 4 = true := hdep ⟨4, .data⟩ (by simp) rfl
            clear hdep
            have e4 := H.p4 d4
            subst e4
            go_simp
            have hg : Below w'.heap.size w' (w'.alloc (.cells #[.int .i64 x.thing, .int .i64 x.vers, .bool x.rd, .bool x.wr, .bool x.wk] 35)) := (by (repeat (with_reducible first | exact Below.refl _ _ | refine Below.alloc ?_ ?_ _ | refine below_drewN ?_ _ | refine Below.drew ?_ | refine Below.setCell ?_ ?_ _ | refine Below.trans ?_ (Below.mono (by assumption) ?_))) <;> (first | omega | (simp; try omega)))
            refine hK _ _ ⟨_, _, _, _, _, _, _, _, _, _, _, _, rfl, ?_⟩
            constructor
            · exact H.chg.trans (hg.mono (Nat.le_trans hzb H.chg.size))
            · intro hj; have h := H.p0 (by simpa using hj); exact h
            · intro hj; have h := H.p1 (by simpa using hj); exact h
            · intro hj; have h := H.p2 (by simpa using hj); exact h
            · intro hj; have h := H.p3 (by simpa using hj); exact h
            · intro hj; have h := H.p4 (by simpa using hj); exact h
            · intro _; exact fun _ => Rows.one (by intro i u hu; rcases i with _ | _ | _ | _ | _ | i <;> simp [Rgt.cells] at hu <;> (try subst hu) <;> simp [go_sem])
            · intro hj; have h := H.p6 (by simpa using hj); exact fun h6 => own_below (h (by simpa using h6)) hg
            · intro hj; have h := H.p7 (by simpa using hj); exact h
            · intro hj; have h := H.p8 (by simpa using hj); exact h
            · intro hj; have h := H.p9 (by simpa using hj); exact h
            · intro hj; have h := H.p10 (by simpa using hj); exact fun h6 => own_below (h (by simpa using h6)) hg
            · intro hj; have h := H.p11 (by simpa using hj); exact own_below h hg
            · have h := H.x0; exact fun h6 => own_below (h (by simpa using h6)) hg
            · have h := H.x1; exact fun h6 => (h (by simpa using h6))
            · have h := H.x2; exact fun j hj h11 => by have := h j hj (by simpa using h11); simp [this]
            · have h := H.x3; exact fun h10 => by have := h (by simpa using h10); simp [this]
          · rintro d a w' hd hdep ⟨v3, v38, v39, v40, v41, v42, v43, v44, v45, v46, v47, v48, rfl, H⟩ K hK
            have d0 : d 0 = true := hdep ⟨0, .data⟩ (by simp) rfl
            have d5 : d 5 = true := hdep ⟨5, .data⟩ (by simp) rfl
            clear hdep
            have e0 := H.p0 d0
            subst e0
            have hsrc := H.p5 d5 hd
            have hown := H.x0 hd
            rw [if_pos (show Region.wanted _ _ = true from rfl)]
            refine wp_append_rows (.tmp 38) (.tmp 43) 30 rfl wz.heap.size 35 i0 _ 5 24 Tryz.underlying30 hi0 hz0 hz1 hz2 rfl (by decide) (.slice q6 m c6) m _ rfl hown v43 ([x].map Rgt.cells) rfl (flat_rgts _) hsrc (by simp [maxLen] <;> omega) (by simp <;> omega) (Nat.le_trans hzb H.chg.size) ?_
            intro v' w'' ho hgr
            have hg : Below wz.heap.size w' w'' := Below.grown (Below.refl _ _) hgr (Nat.le_trans hzb H.chg.size) (fun k hk => (hown.lt k hk).1)
            refine hK _ _ ⟨_, _, _, _, _, _, _, _, _, _, _, _, rfl, ?_⟩
            constructor
            · exact H.chg.trans hg
            · intro hj; have h := H.p0 (by simpa using hj); exact h
            · intro hj; have h := H.p1 (by simpa using hj); exact h
            · intro hj; have h := H.p2 (by simpa using hj); exact h
            · intro hj; have h := H.p3 (by simpa using hj); exact h
            · intro hj; have h := H.p4 (by simpa using hj); exact h
            · intro hj h6; simp at h6
            · intro _; exact fun _ => by simpa using ho
            · intro hj; have h := H.p7 (by simpa using hj); exact h
            · intro hj; have h := H.p8 (by simpa using hj); exact h
            · intro hj; have h := H.p9 (by simpa using hj); exact h
            · intro hj; have h := H.p10 (by simpa using hj); exact fun _ => absurd (H.x3 (by simpa using hj)) (by simp [hd])
            · intro hj; have h := H.p11 (by simpa using hj); exact absurd (H.x2 6 (by decide) (by simpa using hj)) (by simp [hd])
            · intro h6; simp at h6
            · have h := H.x1; exact fun h6 => (h (by simpa using h6))
            · have h := H.x2; exact fun j hj h11 => by have := h j hj (by simpa using h11); simp [this]
            · have h := H.x3; exact fun h10 => by have := h (by simpa using h10); simp [this]
          · rintro d a w' hd hdep ⟨v3, v38, v39, v40, v41, v42, v43, v44, v45, v46, v47, v48, rfl, H⟩ K hK
            clear hdep
            have hd11 : d 11 = false := by
              cases hh : d 11
              · rfl
              · have := H.x2 7 (by decide) hh; rw [hd] at this; cases this
            have e3 := H.x1 hd11
            subst e3
            go_simp
            have hg : Below w'.heap.size w' w' := Below.refl _ _
            refine hK _ _ ⟨_, _, _, _, _, _, _, _, _, _, _, _, rfl, ?_⟩
            constructor
            · exact H.chg.trans (hg.mono (Nat.le_trans hzb H.chg.size))
            · intro hj; have h := H.p0 (by simpa using hj); exact h
            · intro hj; have h := H.p1 (by simpa using hj); exact h
            · intro hj; have h := H.p2 (by simpa using hj); exact h
            · intro hj; have h := H.p3 (by simpa using hj); exact h
            · intro hj; have h := H.p4 (by simpa using hj); exact h
            · intro hj; have h := H.p5 (by simpa using hj); exact fun h6 => Rows.pure (h (by simpa using h6)) hg
            · intro hj; have h := H.p6 (by simpa using hj); exact fun h6 => own_below (h (by simpa using h6)) hg
            · intro _; exact rfl
            · intro hj; have h := H.p8 (by simpa using hj); exact h
            · intro hj; have h := H.p9 (by simpa using hj); exact h
            · intro hj; have h := H.p10 (by simpa using hj); exact fun h6 => own_below (h (by simpa using h6)) hg
            · intro hj; have h := H.p11 (by simpa using hj); exact own_below h hg
            · have h := H.x0; exact fun h6 => own_below (h (by simpa using h6)) hg
            · have h := H.x1; exact fun h6 => (h (by simpa using h6))
            · have h := H.x2; exact fun j hj h11 => by have := h j hj (by simpa using h11); simp [this]
            · have h := H.x3; exact fun h10 => by have := h (by simpa using h10); simp [this]
          · rintro d a w' hd hdep ⟨v3, v38, v39, v40, v41, v42, v43, v44, v45, v46, v47, v48, rfl, H⟩ K hK
            clear hdep
            go_simp
            have hg : Below w'.heap.size w' w' := Below.refl _ _
            refine hK _ _ ⟨_, _, _, _, _, _, _, _, _, _, _, _, rfl, ?_⟩
            constructor
            · exact H.chg.trans (hg.mono (Nat.le_trans hzb H.chg.size))
            · intro hj; have h := H.p0 (by simpa using hj); exact h
            · intro hj; have h := H.p1 (by simpa using hj); exact h
            · intro hj; have h := H.p2 (by simpa using hj); exact h
            · intro hj; have h := H.p3 (by simpa using hj); exact h
            · intro hj; have h := H.p4 (by simpa using hj); exact h
            · intro hj; have h := H.p5 (by simpa using hj); exact fun h6 => Rows.pure (h (by simpa using h6)) hg
            · intro hj; have h := H.p6 (by simpa using hj); exact fun h6 => own_below (h (by simpa using h6)) hg
            · intro hj; have h := H.p7 (by simpa using hj); exact h
            · intro _; exact rfl
            · intro hj; have h := H.p9 (by simpa using hj); exact h
            · intro hj; have h := H.p10 (by simpa using hj); exact fun h6 => own_below (h (by simpa using h6)) hg
            · intro hj; have h := H.p11 (by simpa using hj); exact own_below h hg
            · have h := H.x0; exact fun h6 => own_below (h (by simpa using h6)) hg
            · have h := H.x1; exact fun h6 => (h (by simpa using h6))
            · have h := H.x2; exact fun j hj h11 => by have := h j hj (by simpa using h11); simp [this]
            · have h := H.x3; exact fun h10 => by have := h (by simpa using h10); simp [this]
          · rintro d a w' hd hdep ⟨v3, v38, v39, v40, v41, v42, v43, v44, v45, v46, v47, v48, rfl, H⟩ K hK
            have d7 : d 7 = true := hdep ⟨7, .data⟩ (by simp) rfl
            have d8 : d 8 = true := hdep ⟨8, .data⟩ (by simp) rfl
            clear hdep
            have e7 := H.p7 d7
            subst e7
            have e8 := H.p8 d8
            subst e8
            subst hsub
            go_simp
            have hg : Below w'.heap.size w' w' := Below.refl _ _
            refine hK _ _ ⟨_, _, _, _, _, _, _, _, _, _, _, _, rfl, ?_⟩
            constructor
            · exact H.chg.trans (hg.mono (Nat.le_trans hzb H.chg.size))
            · intro hj; have h := H.p0 (by simpa using hj); exact h
            · intro hj; have h := H.p1 (by simpa using hj); exact h
            · intro hj; have h := H.p2 (by simpa using hj); exact h
            · intro hj; have h := H.p3 (by simpa using hj); exact h
            · intro hj; have h := H.p4 (by simpa using hj); exact h
            · intro hj; have h := H.p5 (by simpa using hj); exact fun h6 => Rows.pure (h (by simpa using h6)) hg
            · intro hj; have h := H.p6 (by simpa using hj); exact fun h6 => own_below (h (by simpa using h6)) hg
            · intro hj; have h := H.p7 (by simpa using hj); exact h
            · intro hj; have h := H.p8 (by simpa using hj); exact h
            · intro _; exact rfl
            · intro hj; have h := H.p10 (by simpa using hj); exact fun h6 => own_below (h (by simpa using h6)) hg
            · intro hj; have h := H.p11 (by simpa using hj); exact own_below h hg
            · have h := H.x0; exact fun h6 => own_below (h (by simpa using h6)) hg
            · have h := H.x1; exact fun h6 => (h (by simpa using h6))
            · have h := H.x2; exact fun j hj h11 => by have := h j hj (by simpa using h11); simp [this]
            · have h := H.x3; exact fun h10 => by have := h (by simpa using h10); simp [this]
          · rintro d a w' hd hdep ⟨v3, v38, v39, v40, v41, v42, v43, v44, v45, v46, v47, v48, rfl, H⟩ K hK
            have d6 : d 6 = true := hdep ⟨6, .data⟩ (by simp) rfl
            have d9 : d 9 = true := hdep ⟨9, .data⟩ (by simp) rfl
            clear hdep
            have e9 := H.p9 d9
            subst e9
            have hown := H.p6 d6 hd
            have hsrc := HD.out _ H.chg
            rw [if_pos (show Region.wanted _ _ = true from rfl)]
            refine wp_append_rows (.tmp 44) (.tmp 47) 30 rfl wz.heap.size 35 i0 _ 5 24 Tryz.underlying30 hi0 hz0 hz1 hz2 rfl (by decide) v44 (m + 1) _ rfl hown v47 ((os.drop m).map Rgt.cells) rfl (flat_rgts _) hsrc (by simp [maxLen] <;> omega) (by simp <;> omega) (Nat.le_trans hzb H.chg.size) ?_
            intro v' w'' ho hgr
            have hg : Below wz.heap.size w' w'' := Below.grown (Below.refl _ _) hgr (Nat.le_trans hzb H.chg.size) (fun k hk => (hown.lt k hk).1)
            refine hK _ _ ⟨_, _, _, _, _, _, _, _, _, _, _, _, rfl, ?_⟩
            constructor
            · exact H.chg.trans hg
            · intro hj; have h := H.p0 (by simpa using hj); exact h
            · intro hj; have h := H.p1 (by simpa using hj); exact h
            · intro hj; have h := H.p2 (by simpa using hj); exact h
            · intro hj; have h := H.p3 (by simpa using hj); exact h
            · intro hj; have h := H.p4 (by simpa using hj); exact h
            · intro hj; have h := H.p5 (by simpa using hj); exact fun h6 => absurd (show d 6 = false by simpa using h6) (by simp [d6])
            · intro hj h6; simp at h6
            · intro hj; have h := H.p7 (by simpa using hj); exact h
            · intro hj; have h := H.p8 (by simpa using hj); exact h
            · intro hj; have h := H.p9 (by simpa using hj); exact h
            · intro _; exact fun _ => by have e : m + 1 + ((os.drop m).map Rgt.cells).length = os.length + 1 := (by simp; omega); rw [e] at ho; simpa using ho
            · intro hj; have h := H.p11 (by simpa using hj); exact absurd (H.x2 10 (by decide) (by simpa using hj)) (by simp [hd])
            · have h := H.x0; exact fun h6 => absurd (show d 6 = false by simpa using h6) (by simp [d6])
            · have h := H.x1; exact fun h6 => (h (by simpa using h6))
            · have h := H.x2; exact fun j hj h11 => by have := h j hj (by simpa using h11); simp [this]
            · have h := H.x3; exact fun _ => by simp [d6]
          · rintro d a w' hd hdep ⟨v3, v38, v39, v40, v41, v42, v43, v44, v45, v46, v47, v48, rfl, H⟩ K hK
            have d10 : d 10 = true := hdep ⟨10, .data⟩ (by simp) rfl
            have d0 : d 0 = true := hdep ⟨0, .phase⟩ (by simp) rfl
            have d1 : d 1 = true := hdep ⟨1, .phase⟩ (by simp) rfl
            have d2 : d 2 = true := hdep ⟨2, .phase⟩ (by simp) rfl
            have d3 : d 3 = true := hdep ⟨3, .phase⟩ (by simp) rfl
            have d4 : d 4 = true := hdep ⟨4, .phase⟩ (by simp) rfl
            have d5 : d 5 = true := hdep ⟨5, .phase⟩ (by simp) rfl
            have d6 : d 6 = true := hdep ⟨6, .phase⟩ (by simp) rfl
            have d7 : d 7 = true := hdep ⟨7, .phase⟩ (by simp) rfl
            have d8 : d 8 = true := hdep ⟨8, .phase⟩ (by simp) rfl
            have d9 : d 9 = true := hdep ⟨9, .phase⟩ (by simp) rfl
            clear hdep
            have hown := H.p10 d10 hd
            go_simp
            have hg : Below w'.heap.size w' w' := Below.refl _ _
            refine hK _ _ ⟨_, _, _, _, _, _, _, _, _, _, _, _, rfl, ?_⟩
            constructor
            · exact H.chg.trans (hg.mono (Nat.le_trans hzb H.chg.size))
            · intro hj; have h := H.p0 (by simpa using hj); exact h
            · intro hj; have h := H.p1 (by simpa using hj); exact h
            · intro hj; have h := H.p2 (by simpa using hj); exact h
            · intro hj; have h := H.p3 (by simpa using hj); exact h
            · intro hj; have h := H.p4 (by simpa using hj); exact h
            · intro hj; have h := H.p5 (by simpa using hj); exact fun h6 => Rows.pure (h (by simpa using h6)) hg
            · intro hj; have h := H.p6 (by simpa using hj); exact fun h6 => own_below (h (by simpa using h6)) hg
            · intro hj; have h := H.p7 (by simpa using hj); exact h
            · intro hj; have h := H.p8 (by simpa using hj); exact h
            · intro hj; have h := H.p9 (by simpa using hj); exact h
            · intro hj h6; simp at h6
            · intro _; exact hown
            · have h := H.x0; exact fun h6 => own_below (h (by simpa using h6)) hg
            · intro h6; simp at h6
            · have h := H.x2; exact fun j hj _ => match j, hj with | 0, _ => by simp [d0] | 1, _ => by simp [d1] | 2, _ => by simp [d2] | 3, _ => by simp [d3] | 4, _ => by simp [d4] | 5, _ => by simp [d5] | 6, _ => by simp [d6] | 7, _ => by simp [d7] | 8, _ => by simp [d8] | 9, _ => by simp [d9] | 10, _ => by simp [d10]
            · have h := H.x3; exact fun h10 => by have := h (by simpa using h10); simp [this]
        · rintro d a w' hall ⟨v3, v38, v39, v40, v41, v42, v43, v44, v45, v46, v47, v48, rfl, H⟩
          have hown := H.p11 (hall 11 (by decide))
          obtain ⟨q3, c3, e3⟩ := own_slice_n hown
          subst e3
          have hBn := HB8.out.trans ((HB1.out.trans H.chg).mono HB8.out.size)
          have hins : ins22 x os = os.take m ++ x :: os.drop m := by unfold ins22; rw [Hwh.out.1, Hwh.out.2]
          have hlen : (ins22 x os).length = os.length + 1 := by rw [hins]; simp; omega
          have Hown := Lib.hid hown
          have HBn := Lib.hid hBn
          have Hins := Lib.hid hins
          have Hlen := Lib.hid hlen
          clear hown hBn hins hlen H hall
          go_wp2
          refine ⟨⟨i + 1, q3, c3, by go_num, by omega, ?_, ?_, ?_, HBn.out⟩, by simp [intOf]; omega⟩
          · rw [Hns.out, Hlen.out]
          · rw [Hns.out, Hlen.out]
            have := Rows.of_own (flat_rgts (os.take m ++ x :: os.drop m)) (by rw [List.length_map, ← Hins.out, Hlen.out, Hins.out]; exact Hown.out)
            rw [← Hins.out] at this
            exact this
          · rw [Hns.out, Hlen.out]
            intro b hb
            exact Nat.le_trans HB8.out.size (Hown.out.lt b hb).1
    · have hnl : ¬ (i : Int) < (rs.length : Int) := by omega
      have hil : i = rs.length := by omega
      have hc := Hos.out
      rw [hil, List.take_length] at hc
      have Hc := Lib.hid hc
      clear hil hc hos hBr hRr hFr hok4
      go_wp2
      go_ret
      rw [Hc.out]
      exact ⟨q, k, rfl, HRr.out, HFr.out, HBr.out⟩
end Go.Proofs.YtiolplhgpodifaaGreat
