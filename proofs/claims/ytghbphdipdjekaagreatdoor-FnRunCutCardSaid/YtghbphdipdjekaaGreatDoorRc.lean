/- The law that calls are done one behind the other, walked. Conditions: the bytes lie where their cells say; errors.errorType is laid. -/
import Derived.Test.YtghbphdipdjekaaGreatDoorLg
import Derived.Test.YtghbphdipdjekaaGreatDoorRu
set_option linter.unusedVariables false
set_option linter.unusedSimpArgs false
namespace Go.Proofs.YtghbphdipdjekaaGreatDoor
open Go.RowKit Drw
attribute [local go_sem] Lab.val Rgt.val Cal.val Thg.val

theorem cals_take {w : World} {p : Option Addr} {n k : Nat} {cs : List Cal} (h : CalsAt w (.slice p n k) cs) (m : Nat) (hm : m ≤ cs.length) : CalsAt w (.slice p m k) (cs.take m) := by
  obtain ⟨p', cap, he, h1, h2, h3⟩ := h
  cases he
  simp only [List.length_map] at h1
  refine ⟨p, k, by simp; omega, by simp; omega, h2, ?_⟩
  rcases h3 with h3 | ⟨b, o, rfl, hc⟩
  · left
    simp at h3
    simp [h3]
  · refine .inr ⟨b, o, rfl, fun i c hi => hc i c ?_⟩
    rw [List.map_take, List.getElem?_take] at hi
    split at hi
    · exact hi
    · cases hi
theorem cals_drop {w : World} {p : Option Addr} {n k : Nat} {cs : List Cal} (h : CalsAt w (.slice p n k) cs) (m : Nat) (hm : m ≤ cs.length) : CalsAt w (.slice (if k = m then p else p.map (·.add (m * 5))) (n - m) (k - m)) (cs.drop m) := by
  obtain ⟨p', cap, he, h1, h2, h3⟩ := h
  cases he
  simp only [List.length_map] at h1
  refine ⟨if k = m then p else p.map (·.add (m * 5)), k - m, by simp [h1], by simp; omega, by omega, ?_⟩
  by_cases hkm : k = m
  · left
    simp; omega
  · rcases h3 with h3 | ⟨b, o, rfl, hc⟩
    · left
      simp at h3
      simp [h3]
    · refine .inr ⟨b, o + m * 5, by simp [hkm, Addr.add], fun i c hi j u hj => ?_⟩
      rw [List.map_drop, List.getElem?_drop] at hi
      have := hc (m + i) c hi j u hj
      rw [show o + m * 5 + i * 5 + j = o + (m + i) * 5 + j by omega]
      exact this

/-- One call more. -/
theorem run_step {ts us : List Thg} {cs : List Cal} {zs : List Int} (hc : runCan ts cs = true) (hd : runDo ts cs = (us, zs)) {i : Nat} {c : Cal} (hi : cs[i]? = some c) {ys : List Thg} {az : List Int} (h : runDo ts (cs.take i) = (ys, az)) :
    ∃ xs a, callDo ys c = (xs, a) ∧ zs[i]? = some a ∧ runDo ts (cs.take (i + 1)) = (xs, az ++ [a]) := by
  have h1 := runCan_iff.1 hc
  have hlt := (List.getElem?_eq_some_iff.1 hi).1
  have hf := runDo_fine (cs.take i) h1.1 (fun d hd => h1.2.2 d (List.mem_of_mem_take hd))
  rw [h] at hf
  dsimp only at hf
  obtain ⟨hty, hs, hl⟩ := hf
  have hcan : CanB ys c := AllCan.after h1.2.2 hs hty c (List.mem_of_getElem? hi)
  have h2 : runDo ts (cs.take (i + 1)) = ((do2 ys c).1, az ++ [(do2 ys c).2]) := by
    rw [List.take_add_one, hi, Option.toList_some, runDo_snoc, h]
  refine ⟨(do2 ys c).1, (do2 ys c).2, by rw [callDo_can hcan], ?_, h2⟩
  have h3 := runDo_append (cs.take (i + 1)) (cs.drop (i + 1)) ts
  rw [List.take_append_drop, hd, h2] at h3
  have h4 := congrArg Prod.snd h3
  dsimp only at h4
  rw [h4, List.length_take] at *
  have hli : az.length = i := by rw [hl]; omega
  rw [List.append_assoc, List.getElem?_append_right (by omega), hli]
  simp

theorem cut_can {ts us : List Thg} {cs : List Cal} {zs : List Int} (hc : runCan ts cs = true) (hd : runDo ts cs = (us, zs)) (m : Nat) :
    ∃ xs az bs, runAll ts (cs.take m) = (xs, az, true) ∧ runAll xs (cs.drop m) = (us, bs, true) := by
  have h1 := runCan_iff.1 hc
  have ht : AllCan ts (cs.take m) := fun d hd => h1.2.2 d (List.mem_of_mem_take hd)
  have hf := runDo_fine (cs.take m) h1.1 ht
  have c1 : runCan ts (cs.take m) = true := runCan_iff.2 ⟨h1.1, by rw [List.length_take]; omega, ht⟩
  have c2 : runCan (runDo ts (cs.take m)).1 (cs.drop m) = true := runCan_iff.2 ⟨hf.1, by rw [List.length_drop]; omega, fun d hd => AllCan.after h1.2.2 hf.2.1 hf.1 d (List.mem_of_mem_drop hd)⟩
  have h3 := runDo_append (cs.take m) (cs.drop m) ts
  rw [List.take_append_drop, hd] at h3
  refine ⟨(runDo ts (cs.take m)).1, (runDo ts (cs.take m)).2, (runDo (runDo ts (cs.take m)).1 (cs.drop m)).2, by simp only [runAll, c1, if_true], ?_⟩
  have h4 := congrArg Prod.fst h3
  dsimp only at h4
  simp only [runAll, c2, if_true]
  rw [← h4]

theorem runAll_cut1 {p : Option Addr} {cap : Nat} {ts xs : List Thg} {az : List Int} {q : Option Addr} {n k m : Nat} {cs : List Cal} {w : World} (hL : Laid w) (hT : TabAt w (.slice p ts.length cap) ts) (hC : CalsAt w (.slice q n k) cs) (hm : m ≤ cs.length) (h : runAll ts (cs.take m) = (xs, az, true)) :
    Calls Tryz.prog 21 #[.slice p ts.length cap, .slice q m k] w fun e w' => ∃ p' k p2 k2, e = .returned (.tuple #[.slice p' xs.length k, .slice p2 az.length k2, .bool true]) ∧ TabAt w' (.slice p' xs.length k) xs ∧ Below w.heap.size w w' := by
  have hC' := cals_take hC m hm
  have hl : m = (cs.take m).length := by simp; omega
  generalize hcm : cs.take m = cm at *
  subst hl
  refine (runAll_t hL hT hC' h).mono ?_
  rintro e w' ⟨p', k, p2, k2, rfl, h1, -, h2⟩
  exact ⟨p', k, p2, k2, rfl, h1, h2⟩
theorem runAll_cut2 {p : Option Addr} {cap : Nat} {ts xs : List Thg} {az : List Int} {q : Option Addr} {n k m : Nat} {cs : List Cal} {w : World} (hL : Laid w) (hT : TabAt w (.slice p ts.length cap) ts) (hC : CalsAt w (.slice q n k) cs) (hm : m ≤ cs.length) (hn : n = cs.length) (h : runAll ts (cs.drop m) = (xs, az, true)) :
    Calls Tryz.prog 21 #[.slice p ts.length cap, .slice (if k = m then q else q.map (·.add (m * 5))) (n - m) (k - m)] w fun e w' => ∃ p' k p2 k2, e = .returned (.tuple #[.slice p' xs.length k, .slice p2 az.length k2, .bool true]) ∧ TabAt w' (.slice p' xs.length k) xs ∧ Below w.heap.size w w' := by
  have hC' := cals_drop hC m hm
  have hl : n - m = (cs.drop m).length := by simp; omega
  generalize hcm : cs.drop m = cm at *
  rw [hl] at hC' ⊢
  refine (runAll_t hL hT hC' h).mono ?_
  rintro e w' ⟨p', k, p2, k2, rfl, h1, -, h2⟩
  exact ⟨p', k, p2, k2, rfl, h1, h2⟩

set_option maxRecDepth 100000 in
set_option maxHeartbeats 4000000 in
theorem fnRunCut_c (p : Option Addr) (n cap : Nat) (p2 : Option Addr) (n2 cap2 : Nat) (w : World) (hL : Laid w) (hc : n ≤ cap) (hb : BytesAt w p n) :
    Calls Tryz.prog 4 #[.slice p n cap, .slice p2 n2 cap2] w fun e w' => e = .returned (.bool true) ∧ Below w.heap.size w w' := by
  by_cases hbig : n ≤ 1048576 ∧ n2 ≤ 1048576
  · have hle : ¬ (1048576 : Int) < (n : Int) := by omega
    have hle2 : ¬ (1048576 : Int) < (n2 : Int) := by omega
    have hle3 : (n : Int) ≤ 1048576 := by omega
    have hle4 : (n2 : Int) ≤ 1048576 := by omega
    have Hb := Lib.hid hb
    have HL := Lib.hid hL
    clear hb hL
    go_enter Tryz.func4, Tryz.ntmps4
    go_upto_region 4 with (go_at_call 23; refine (drawRunAll_c p n cap _ hc Hb.out (by omega)).mono ?_; rintro e w1 ⟨q, k, ts, q2, k2, cs, rfl, hT, hl3, hl8, hC, hcl, hb1⟩)
    obtain ⟨us, zs, rok, hrun⟩ : ∃ us zs rok, runAll ts cs = (us, zs, rok) := ⟨_, _, _, rfl⟩
    have Hrun := Lib.hid hrun
    have HT := Lib.hid hT
    have HC := Lib.hid hC
    have HB1 := Lib.hid hb1
    clear hrun hT hC hb1 Hb
    go_upto_region 6 with (first
      | (go_at_call 24; refine (srunAll_t HT.out HC.out Hrun.out).mono ?_; rintro e w2 ⟨pw, kw, pw2, kw2, rfl, hW, hWa, hb2⟩)
      | (go_at_call 21; refine (runAll_t (HL.out.pure (HB1.out.trans (hb2.mono HB1.out.size))) (HT.out.pure hb2) (HC.out.pure hb2) Hrun.out).mono ?_; rintro e w3 ⟨px, kx, px2, kx2, rfl, hX, hA, hb3⟩))
    have hb13 : Below w1.heap.size w1 w3 := hb2.trans (hb3.mono hb2.size)
    have hW3 := hW.pure hb3
    have hT3 := HT.out.pure hb13
    have hC3 := HC.out.pure hb13
    have hB3 := HB1.out.trans (hb13.mono HB1.out.size)
    have hL3 := HL.out.pure hB3
    have HB3 := Lib.hid hB3
    clear hW hWa hb2 hb3 hb13 HT HC HB1 hB3 HL
    cases rok
    · go_wp2_with (first
        | (go_at_call 25; refine (ldTable_s (hX.pure (by (repeat (with_reducible first | exact Below.refl _ _ | refine Below.alloc ?_ ?_ _ | refine below_drewN ?_ _ | refine Below.drew ?_ | refine Below.setCell ?_ ?_ _ | refine Below.trans ?_ (Below.mono (by assumption) ?_))) <;> (first | omega | (simp; try omega)))) (hW3.pure (by (repeat (with_reducible first | exact Below.refl _ _ | refine Below.alloc ?_ ?_ _ | refine below_drewN ?_ _ | refine Below.drew ?_ | refine Below.setCell ?_ ?_ _ | refine Below.trans ?_ (Below.mono (by assumption) ?_))) <;> (first | omega | (simp; try omega))))).mono ?_; rintro e w4 ⟨rfl, hb4⟩; have hz4 := hb4.size)
        | (go_at_call 25; refine (ldTable_s (hX.pure (by (repeat (with_reducible first | exact Below.refl _ _ | refine Below.alloc ?_ ?_ _ | refine below_drewN ?_ _ | refine Below.drew ?_ | refine Below.setCell ?_ ?_ _ | refine Below.trans ?_ (Below.mono (by assumption) ?_))) <;> (first | omega | (simp; try omega)))) (hW3.pure (by (repeat (with_reducible first | exact Below.refl _ _ | refine Below.alloc ?_ ?_ _ | refine below_drewN ?_ _ | refine Below.drew ?_ | refine Below.setCell ?_ ?_ _ | refine Below.trans ?_ (Below.mono (by assumption) ?_))) <;> (first | omega | (simp; try omega))))).mono ?_; rintro e w5 ⟨rfl, hb5⟩; have hz5 := hb5.size))
      go_ret
      exact ⟨rfl, HB3.out.trans (Below.mono (show Below w3.heap.size w3 _ from (by (repeat (with_reducible first | exact Below.refl _ _ | refine Below.alloc ?_ ?_ _ | refine below_drewN ?_ _ | refine Below.drew ?_ | refine Below.setCell ?_ ?_ _ | refine Below.trans ?_ (Below.mono (by assumption) ?_))) <;> (first | omega | (simp; try omega)))) HB3.out.size)⟩
    · go_upto_region 8 with (first
        | (go_at_call 25; refine (ldTable_s (hX.pure (by (repeat (with_reducible first | exact Below.refl _ _ | refine Below.alloc ?_ ?_ _ | refine below_drewN ?_ _ | refine Below.drew ?_ | refine Below.setCell ?_ ?_ _ | refine Below.trans ?_ (Below.mono (by assumption) ?_))) <;> (first | omega | (simp; try omega)))) (hW3.pure (by (repeat (with_reducible first | exact Below.refl _ _ | refine Below.alloc ?_ ?_ _ | refine below_drewN ?_ _ | refine Below.drew ?_ | refine Below.setCell ?_ ?_ _ | refine Below.trans ?_ (Below.mono (by assumption) ?_))) <;> (first | omega | (simp; try omega))))).mono ?_; rintro e w4 ⟨rfl, hb4⟩; have hz4 := hb4.size))
      have hT := hT3.pure hb4
      have hC := hC3.pure hb4
      have hX := hX.pure hb4
      have hA := hA.pure hb4
      have hL := hL3.pure hb4
      have HB := Lib.hid (HB3.out.trans (hb4.mono HB3.out.size))
      clear hT3 hC3 hL3 HB3 hW3 hb4 hz4
      obtain ⟨wx, rfl⟩ : ∃ wx : World, wx = w4 := ⟨_, rfl⟩
      have hcan : runCan ts cs = true := runAll_can Hrun.out
      obtain ⟨hdo, hfine⟩ := runAll_do Hrun.out
      obtain ⟨_, _, he, hl1, hl2⟩ := hC.len
      cases he
      have hzl : zs.length = cs.length := hfine.2.2
      have Hstep := Lib.hid (fun (i : Nat) (c : Cal) (hi : cs[i]? = some c) (ys : List Thg) (az : List Int) (h : runDo ts (cs.take i) = (ys, az)) => run_step hcan hdo hi h)
      have Hcut := Lib.hid (fun (m : Nat) => cut_can hcan hdo m)
      have Hdo := Lib.hid hdo
      have Hzl := Lib.hid hzl
      have HX := Lib.hid hX
      have HA := Lib.hid hA
      have HT := Lib.hid hT
      have HC := Lib.hid hC
      have HL := Lib.hid hL
      have hlc : cs.length ≤ 40 := (runCan_iff.1 hcan).2.1
      clear hcan hdo hfine hzl hX hA hC hL hl2
      go_wp2
      go_loopw [13, 14] (fun s13 s14 wr => ∃ (i : Nat) (ys : List Thg) (az : List Int) (q' : Option Addr) (k' : Nat), s14 = .int .i64 (i : Int) ∧ i ≤ cs.length ∧ s13 = .slice q' ys.length k' ∧ runDo ts (cs.take i) = (ys, az) ∧ TabAt wr (.slice q' ys.length k') ys ∧ Below wx.heap.size wx wr) (fun _ s14 _ => cs.length - (intOf s14).toNat)
      case atStart => exact ⟨0, ts, [], _, _, rfl, by omega, rfl, by simp [runDo], hT, Below.refl _ _⟩
      case round =>
        obtain ⟨i, ys, az, q', k', rfl, hi, rfl, hrd, hY, hB⟩ := hrel
        obtain ⟨wr', rfl⟩ : ∃ wy : World, wy = wr := ⟨_, rfl⟩
        have hz := hB.size
        have HBr := Lib.hid hB
        have HY := Lib.hid hY
        clear hY hT
        by_cases hlt : i < cs.length
        · obtain ⟨c, hc⟩ : ∃ c, cs[i]? = some c := ⟨_, List.getElem?_eq_getElem hlt⟩
          obtain ⟨xs, a, hcd, hza, hnx⟩ := Hstep.out i c hc ys az hrd
          obtain ⟨b, o, rfl, hb, c0, c1, c2, c3, c4⟩ := (HC.out.pure hB).at i c hc
          obtain ⟨bz, oz, rfl, hbz, g0⟩ := (HA.out.pure hB).at i a hza
          have hi00 : (0 : Int) ≤ (i : Int) := by omega
          have hin0 : (i : Int) < (cs.length : Int) := by omega
          have hiz : i < zs.length := (List.getElem?_eq_some_iff.1 hza).1
          have hiz0 : (i : Int) < (zs.length : Int) := by omega
          have Hcd := Lib.hid hcd
          have Hnx := Lib.hid hnx
          have G0 := Lib.hid g0
          have HLr := Lib.hid (HL.out.pure hB)
          obtain ⟨k0, k1, k2', k3, k4⟩ := c
          dsimp only at c0 c1 c2 c3 c4
          clear hc hcd hza hnx hrd hB g0
          go_upto_region 13 with (first
            | (go_at_call 26; refine (callDo_t (c := ⟨_, _, _, _, _⟩) (HLr.out.pure (by (repeat (with_reducible first | exact Below.refl _ _ | refine Below.alloc ?_ ?_ _ | refine below_drewN ?_ _ | refine Below.drew ?_ | refine Below.setCell ?_ ?_ _ | refine Below.trans ?_ (Below.mono (by assumption) ?_))) <;> (first | omega | (simp; try omega)))) (HY.out.pure (by (repeat (with_reducible first | exact Below.refl _ _ | refine Below.alloc ?_ ?_ _ | refine below_drewN ?_ _ | refine Below.drew ?_ | refine Below.setCell ?_ ?_ _ | refine Below.trans ?_ (Below.mono (by assumption) ?_))) <;> (first | omega | (simp; try omega)))) Hcd.out).mono ?_; rintro e w8 ⟨p8, k8, rfl, hY8, hb8⟩))
          have g1 := ((bcell hb8).1 _ _ hbz).trans G0.out
          have HB8 := Lib.hid hb8
          have HY8 := Lib.hid hY8
          clear c0 c1 c2 c3 c4 hb8 hY8
          go_wp2
          exact ⟨⟨i + 1, xs, az ++ [a], p8, k8, by go_num, by omega, rfl, Hnx.out, HY8.out, HBr.out.trans (HB8.out.mono hz)⟩, by simp [intOf]; omega⟩
        · have hnl : ¬ (i : Int) < (cs.length : Int) := by omega
          have hil : i = cs.length := by omega
          rw [hil, List.take_length, Hdo.out] at hrd
          cases hrd
          obtain ⟨m, hm⟩ : ∃ m, n2 % (cs.length + 1) = m := ⟨_, rfl⟩
          have hmle : m ≤ cs.length := by have := Nat.mod_lt n2 (show 0 < cs.length + 1 by omega); omega
          obtain ⟨xs, as2, bs, hr1, hr2⟩ := Hcut.out m
          have hn20 : (0 : Int) ≤ (n2 : Int) := by omega
          have hmi : (n2 : Int) % ((cs.length : Int) + 1) = (m : Int) := by subst hm; simp
          have hmt : (n2 : Int).tmod ((cs.length : Int) + 1) = (m : Int) := by rw [Int.tmod_eq_emod_of_nonneg hn20]; exact hmi
          have hm00 : (0 : Int) ≤ (m : Int) := by omega
          have hmn0 : (m : Int) ≤ (cs.length : Int) := by omega
          have hmk0 : (m : Int) ≤ (k2 : Int) := by omega
          have hnz : ¬ ((cs.length : Int) + 1 = 0) := by omega
          have hwm : IntKind.i64.wrap (m : Int) = (m : Int) := IntWalk.i64_in _ (by omega)
          have Hr1 := Lib.hid hr1
          have Hr2 := Lib.hid hr2
          have HTr := Lib.hid (HT.out.pure hB)
          have HCr := Lib.hid (HC.out.pure hB)
          have HXr := Lib.hid (HX.out.pure hB)
          have HLr := Lib.hid (HL.out.pure hB)
          clear hr1 hr2 hB hm hil
          go_upto_region 18 with (first
            | (go_at_call 21; with_reducible refine (runAll_cut1 (HLr.out.pure (by (repeat (with_reducible first | exact Below.refl _ _ | refine Below.alloc ?_ ?_ _ | refine below_drewN ?_ _ | refine Below.drew ?_ | refine Below.setCell ?_ ?_ _ | refine Below.trans ?_ (Below.mono (by assumption) ?_))) <;> (first | omega | (simp; try omega)))) (HTr.out.pure (by (repeat (with_reducible first | exact Below.refl _ _ | refine Below.alloc ?_ ?_ _ | refine below_drewN ?_ _ | refine Below.drew ?_ | refine Below.setCell ?_ ?_ _ | refine Below.trans ?_ (Below.mono (by assumption) ?_))) <;> (first | omega | (simp; try omega)))) (HCr.out.pure (by (repeat (with_reducible first | exact Below.refl _ _ | refine Below.alloc ?_ ?_ _ | refine below_drewN ?_ _ | refine Below.drew ?_ | refine Below.setCell ?_ ?_ _ | refine Below.trans ?_ (Below.mono (by assumption) ?_))) <;> (first | omega | (simp; try omega)))) hmle Hr1.out).mono ?_; rintro e w6 ⟨p6, k6, q6, m6, rfl, hN, hb6⟩))
          have hz6 := hb6.size
          have HN := Lib.hid hN
          have HCs := Lib.hid (HCr.out.pure hb6)
          have HLs := Lib.hid (HLr.out.pure hb6)
          have HXs := Lib.hid (HXr.out.pure hb6)
          have HYs := Lib.hid (HY.out.pure hb6)
          have HB6 := Lib.hid (HBr.out.trans (hb6.mono hz))
          have hz26 := HB6.out.size
          clear hb6 hN
          go_wp2_with (first
            | (go_at_call 21; with_reducible refine (runAll_cut2 (HLs.out.pure (by (repeat (with_reducible first | exact Below.refl _ _ | refine Below.alloc ?_ ?_ _ | refine below_drewN ?_ _ | refine Below.drew ?_ | refine Below.setCell ?_ ?_ _ | refine Below.trans ?_ (Below.mono (by assumption) ?_))) <;> (first | omega | (simp; try omega)))) (HN.out.pure (by (repeat (with_reducible first | exact Below.refl _ _ | refine Below.alloc ?_ ?_ _ | refine below_drewN ?_ _ | refine Below.drew ?_ | refine Below.setCell ?_ ?_ _ | refine Below.trans ?_ (Below.mono (by assumption) ?_))) <;> (first | omega | (simp; try omega)))) (HCs.out.pure (by (repeat (with_reducible first | exact Below.refl _ _ | refine Below.alloc ?_ ?_ _ | refine below_drewN ?_ _ | refine Below.drew ?_ | refine Below.setCell ?_ ?_ _ | refine Below.trans ?_ (Below.mono (by assumption) ?_))) <;> (first | omega | (simp; try omega)))) hmle rfl Hr2.out).mono ?_; rintro e w7 ⟨p7, k7, q7, m7, rfl, hO, hb7⟩; have hz7 := hb7.size)
            | (go_at_call 25; with_reducible refine (ldTable_s (HXs.out.pure (by (repeat (with_reducible first | exact Below.refl _ _ | refine Below.alloc ?_ ?_ _ | refine below_drewN ?_ _ | refine Below.drew ?_ | refine Below.setCell ?_ ?_ _ | refine Below.trans ?_ (Below.mono (by assumption) ?_))) <;> (first | omega | (simp; try omega)))) (HYs.out.pure (by (repeat (with_reducible first | exact Below.refl _ _ | refine Below.alloc ?_ ?_ _ | refine below_drewN ?_ _ | refine Below.drew ?_ | refine Below.setCell ?_ ?_ _ | refine Below.trans ?_ (Below.mono (by assumption) ?_))) <;> (first | omega | (simp; try omega))))).mono ?_; rintro e w9 ⟨rfl, hb91⟩; have hz9 := hb91.size)
            | (go_at_call 25; with_reducible refine (ldTable_s (hO.pure (by (repeat (with_reducible first | exact Below.refl _ _ | refine Below.alloc ?_ ?_ _ | refine below_drewN ?_ _ | refine Below.drew ?_ | refine Below.setCell ?_ ?_ _ | refine Below.trans ?_ (Below.mono (by assumption) ?_))) <;> (first | omega | (simp; try omega)))) (HXs.out.pure (by (repeat (with_reducible first | exact Below.refl _ _ | refine Below.alloc ?_ ?_ _ | refine below_drewN ?_ _ | refine Below.drew ?_ | refine Below.setCell ?_ ?_ _ | refine Below.trans ?_ (Below.mono (by assumption) ?_))) <;> (first | omega | (simp; try omega))))).mono ?_; rintro e w10 ⟨rfl, hb10⟩; have hz10 := hb10.size))
          all_goals go_ret
          all_goals exact ⟨rfl, HB.out.trans (Below.mono (HB6.out.trans (Below.mono (show Below w6.heap.size w6 _ from (by (repeat (with_reducible first | exact Below.refl _ _ | refine Below.alloc ?_ ?_ _ | refine below_drewN ?_ _ | refine Below.drew ?_ | refine Below.setCell ?_ ?_ _ | refine Below.trans ?_ (Below.mono (by assumption) ?_))) <;> (first | omega | (simp; try omega)))) hz26)) HB.out.size)⟩
  · clear hb hL
    by_cases hgt : (1048576 : Int) < (n : Int)
    · clear hbig
      go_enter Tryz.func4, Tryz.ntmps4
      go_wp2
      go_ret
      exact ⟨rfl, (by (repeat (with_reducible first | exact Below.refl _ _ | refine Below.alloc ?_ ?_ _ | refine below_drewN ?_ _ | refine Below.drew ?_ | refine Below.setCell ?_ ?_ _ | refine Below.trans ?_ (Below.mono (by assumption) ?_))) <;> (first | omega | (simp; try omega)))⟩
    · have hgt2 : (1048576 : Int) < (n2 : Int) := by omega
      clear hbig
      go_enter Tryz.func4, Tryz.ntmps4
      go_wp2
      go_ret
      exact ⟨rfl, (by (repeat (with_reducible first | exact Below.refl _ _ | refine Below.alloc ?_ ?_ _ | refine below_drewN ?_ _ | refine Below.drew ?_ | refine Below.setCell ?_ ?_ _ | refine Below.trans ?_ (Below.mono (by assumption) ?_))) <;> (first | omega | (simp; try omega)))⟩
end Go.Proofs.YtghbphdipdjekaaGreatDoor
