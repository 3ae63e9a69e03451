/- spec.TableOk: the walk -/
import Derived.Test.YtiolplhgpodifaaGreatD
import Derived.Test.YtiolplhgpodifaaGreatF
import Derived.Test.YtiolplhgpodifaaGreatE
set_option linter.unusedVariables false
set_option linter.unusedSimpArgs false
namespace Go.Proofs.YtiolplhgpodifaaGreat
open Go.RowKit Drw
attribute [local go_sem] Oper.semAt_some
attribute [local go_sem] Lab.val Rgt.val Cal.val Thg.val

def rowOk (ts : List Thg) (t : Thg) : Bool := thgOk t && gateOk ts t && t.slots.all (capOk ts)
theorem tabOk_row (ts : List Thg) : tabOk ts = (ts.all (rowOk ts) && inR ts.length 1 8) := by
  unfold tabOk rowOk
  rw [Bool.eq_iff_iff]
  simp only [Bool.and_eq_true, List.all_eq_true]
  grind

theorem tabOk_bad {ts : List Thg} {t : Thg} (hm : t ∈ ts) (h : rowOk ts t = false) : tabOk ts = false := by
  rw [tabOk_row]
  have : ts.all (rowOk ts) = false := by rw [List.all_eq_false]; exact ⟨t, hm, by simp [h]⟩
  rw [this]; rfl

theorem slots_rgt {t : Thg} (h : thgOk t = true) (r : Rgt) (hr : r ∈ t.slots) : rgtOk r = true := by
  rw [thgOk_spec] at h
  simp only [Bool.and_eq_true, List.all_eq_true] at h
  exact h.1.1.2 r hr

theorem rgt_thing {r : Rgt} (h : rgtOk r = true) : 0 ≤ r.thing ∧ r.thing ≤ 8 := by
  unfold rgtOk inR at h
  split at h
  · omega
  · simp at h; omega

theorem gate_to {t : Thg} (h : thgOk t = true) (hk : t.kind = 5) : 1 ≤ t.to ∧ t.to ≤ 8 := by
  unfold thgOk at h
  simp only [Bool.and_eq_true] at h
  have := h.2
  simp [targetOk, hk, inR] at this
  exact this

theorem getT_at {ts : List Thg} {j : Nat} {t : Thg} (h : ts[j]? = some t) : getT ts ((j : Int) + 1) = t := by
  simp [getT, h]

set_option maxRecDepth 100000 in
set_option maxHeartbeats 4000000 in
theorem stableOk_c (p : Option Addr) (cap : Nat) (ts : List Thg) (w : World) (hT : TabAt w (.slice p ts.length cap) ts) :
    Calls Tryz.prog 15 #[.slice p ts.length cap] w fun e w' => e = .returned (.bool (tabOk ts)) ∧ Below w.heap.size w w' := by
  obtain ⟨_, _, h1, hl1, hl2⟩ := hT.len
  cases h1
  unfold maxLen at hl2
  go_enter Tryz.func15, Tryz.ntmps15
  go_wp2
  go_loopw [3] (fun i wr => ∃ j : Nat, j ≤ ts.length ∧ i = .int .i64 j ∧ (ts.take j).all (rowOk ts) = true ∧ Below w.heap.size w wr) (fun i _ => ts.length - (intOf i).toNat)
  case atStart => exact ⟨0, Nat.zero_le _, rfl, by simp, Below.refl _ _⟩
  case round =>
    obtain ⟨j, hj, rfl, hall, hB⟩ := hrel
    have Hall := Lib.hid hall
    clear hall
    by_cases hlt : j < ts.length
    · obtain ⟨tj, htj⟩ : ∃ t, ts[j]? = some t := ⟨ts[j], by simp [hlt]⟩
      have hmem : tj ∈ ts := List.mem_of_getElem? htj
      have Htj := Lib.hid htj
      obtain ⟨b, o, sv, qv, rfl, hbk, hS, hQ, c0, c1, c2, c3, c4, c5, c6, c7⟩ := (hT.pure hB).at j tj htj
      obtain ⟨p', cap', rfl, hl1', hl2'⟩ := hS.len
      obtain ⟨p'', cap'', rfl, hl1'', hl2''⟩ := hQ.len
      unfold maxLen at hl2'
      clear htj
      by_cases hok : thgOk tj = true
      · have hgate := gate_to hok
        have hrs := slots_rgt hok
        by_cases hg : gateOk ts tj = true
        · have hgt : tj.kind = 5 → ∃ m : Nat, tj.to = (m : Int) + 1 ∧ m < ts.length ∧ ∃ tt, ts[m]? = some tt ∧ tt.kind = 1 := by
            intro hk
            obtain ⟨h1, h2⟩ := hgate hk
            simp [gateOk, hk, kindAt] at hg
            obtain ⟨m, hm, hm'⟩ := ex_idx hg.1
            exact ⟨m, hm, (List.getElem?_eq_some_iff.1 hm').1, _, hm', hg.2⟩
          have Hog := Lib.hid (And.intro hok hg)
          clear hg hgate hok
          obtain ⟨k, ⟨s, v⟩, ve, nu, sl, qu, tg⟩ := tj
          dsimp only at hS hQ c0 c1 c2 c3 c4 c5 c6 c7 hgt hl1' hl2' hrs
          have Hrs := Lib.hid hrs
          clear hrs
          have HT := Lib.hid hT
          rcases Decidable.em (k = 5) with hk5 | hk5
          all_goals first
            | (subst hk5
               obtain ⟨m, rfl, hml, tt, htt, htk⟩ := hgt rfl
               clear hgt
               obtain ⟨b2, o2, sv2, qv2, hbo, -, -, -, d0, -⟩ := (hT.pure hB).at m tt htt
               cases hbo
               rw [htk] at d0
               clear htt htk
               go_upto_region 6 with (go_at_call 38; refine (sthingOk_c ⟨_, ⟨_, _⟩, _, _, sl, qu, _⟩ _ _ _ hS hQ).mono ?_; rw [Hog.out.1]; rintro e w1 ⟨rfl, hb1⟩; obtain ⟨hc1, hf1⟩ := bcell hb1))
            | (have hk5' : (k == 5) = false := by simp [hk5]
               clear hgt hk5
               go_upto_region 6 with (go_at_call 38; refine (sthingOk_c ⟨_, ⟨_, _⟩, _, _, sl, qu, _⟩ _ _ _ hS hQ).mono ?_; rw [Hog.out.1]; rintro e w1 ⟨rfl, hb1⟩; obtain ⟨hc1, hf1⟩ := bcell hb1))
          all_goals
            go_wp2
            go_loopw [4] (fun i wq => ∃ q : Nat, q ≤ sl.length ∧ i = .int .i64 q ∧ (sl.take q).all (capOk ts) = true ∧ Below w1.heap.size w1 wq) (fun i _ => sl.length - (intOf i).toNat)
            case atStart => exact ⟨0, Nat.zero_le _, rfl, by simp, Below.refl _ _⟩
            case round =>
              obtain ⟨q, hq, rfl, hall, hBq⟩ := hrel
              have Hallq := Lib.hid hall
              clear hall
              have hBw : Below w.heap.size w wr := hB.trans ((hb1.trans (hBq.mono hb1.size)).mono hB.size)
              obtain ⟨hcq, hfq⟩ := bcell hBq
              have hs1 := hb1.size
              have hsq := hBq.size
              have hbk2 : b < wr.heap.size := by omega
              have c5' := ((hcq b (o + j * 8 + 5) (by omega)).trans (hc1 b (o + j * 8 + 5) hbk)).trans c5
              by_cases hlq : q < sl.length
              · obtain ⟨⟨th, ve2, rd, wt, wk⟩, hr⟩ : ∃ r, sl[q]? = some r := ⟨sl[q], by simp [hlq]⟩
                obtain ⟨b', o', hp, hbk', r0, r1, r2, r3, r4⟩ := ((hS.pure hb1).pure hBq).at q _ hr
                dsimp only at r0 r1 r2 r3 r4
                have hmr := List.mem_of_getElem? hr
                have hth := (rgt_thing (Hrs.out _ hmr)).1
                dsimp only at hth
                have Hr := Lib.hid (And.intro hr hmr)
                subst hp
                clear hr hmr
                by_cases h0 : th = 0
                · subst h0
                  have hd : decide ((ts.length : Int) < 0) = false := by simp
                  have hcap : capOk ts ⟨0, ve2, rd, wt, wk⟩ = true := by simp [capOk]
                  go_wp2
                  go_quiet (fail)
                  go_wp2
                  go_roundw
                  case rel => exact ⟨q + 1, by omega, by go_num, by rw [take_snoc' _ _ _ Hr.out.1, List.all_append, Hallq.out]; simpa using hcap, by (repeat (with_reducible first | refine below_drewN ?_ _ | refine Below.alloc ?_ ?_ _ | refine Below.setCell ?_ ?_ _)) <;> (first | exact hBq | omega | (simp; omega))⟩
                  case measure => simp [intOf]; omega
                · obtain ⟨x, hthx⟩ : ∃ x : Nat, th = (x : Int) + 1 := ⟨(th - 1).toNat, by omega⟩
                  by_cases hx : x < ts.length
                  · obtain ⟨tx, htx⟩ : ∃ t, ts[x]? = some t := ⟨ts[x], by simp [hx]⟩
                    obtain ⟨b3, o3, sv3, qv3, hbo, -, -, -, -, -, -, e3, -⟩ := (HT.out.pure hBw).at x tx htx
                    cases hbo
                    have hgx := getT_at htx
                    rw [← hthx] at hgx
                    have hex : ex ts th = true := by simp [ex, inR]; omega
                    have hcap0 : capOk ts ⟨th, ve2, rd, wt, wk⟩ = decide (ve2 ≤ tx.vers) := by
                      simp [capOk, hex, hgx]; try (intro h; omega)
                    have Hcap := Lib.hid hcap0
                    clear htx hgx hex hcap0
                    have hd : decide ((ts.length : Int) < th) = false := by simp; omega
                    have hd0 : decide ((0 : Int) < th) = true := by simp; omega
                    have hw1 : IntKind.i64.wrap (th - 1) = (x : Int) := by rw [show th - 1 = x by omega]; exact IntWalk.i64_in _ (by omega)
                    have hw2 : IntKind.i64.wrap (x : Int) = (x : Int) := IntWalk.i64_in _ (by omega)
                    have hx0 : (0 : Int) ≤ (x : Int) := by omega
                    have hxl : (x : Int) < (ts.length : Int) := by omega
                    clear hth h0 hthx
                    by_cases hv : tx.vers < ve2
                    · have hcap : capOk ts ⟨th, ve2, rd, wt, wk⟩ = false := by rw [Hcap.out]; simp; omega
                      have hd2 : decide (tx.vers < ve2) = true := by simpa using hv
                      go_wp2
                      go_quiet (fail)
                      go_wp2
                      go_ret
                      exact ⟨ret_bool (tabOk_bad hmem (by
                        have hx2 : sl.all (capOk ts) = false := by rw [List.all_eq_false]; exact ⟨_, Hr.out.2, by simp [hcap]⟩
                        simp only [rowOk, hx2, Bool.and_false])).symm, by (repeat (with_reducible first | refine below_drewN ?_ _ | refine Below.alloc ?_ ?_ _ | refine Below.setCell ?_ ?_ _)) <;> (first | exact hBw | (have := hBw.size; omega) | (simp; (have := hBw.size); omega))⟩
                    · have hcap : capOk ts ⟨th, ve2, rd, wt, wk⟩ = true := by rw [Hcap.out]; simp; omega
                      have hd2 : decide (tx.vers < ve2) = false := by simpa using hv
                      go_wp2
                      go_quiet (fail)
                      go_wp2
                      go_roundw
                      case rel => exact ⟨q + 1, by omega, by go_num, by rw [take_snoc' _ _ _ Hr.out.1, List.all_append, Hallq.out]; simpa using hcap, by (repeat (with_reducible first | refine below_drewN ?_ _ | refine Below.alloc ?_ ?_ _ | refine Below.setCell ?_ ?_ _)) <;> (first | exact hBq | omega | (simp; omega))⟩
                      case measure => simp [intOf]; omega
                  · have hd : decide ((ts.length : Int) < th) = true := by simp; omega
                    have hcap : capOk ts ⟨th, ve2, rd, wt, wk⟩ = false := by
                      have hex : ex ts th = false := by simp [ex, inR]; omega
                      have : ¬ (th = 0) := by omega
                      simp [capOk, hex, this]
                    clear hth h0 hthx hx
                    go_wp2
                    go_quiet (fail)
                    go_wp2
                    go_ret
                    exact ⟨ret_bool (tabOk_bad hmem (by
                      have hx2 : sl.all (capOk ts) = false := by rw [List.all_eq_false]; exact ⟨_, Hr.out.2, by simp [hcap]⟩
                      simp only [rowOk, hx2, Bool.and_false])).symm, by (repeat (with_reducible first | refine below_drewN ?_ _ | refine Below.alloc ?_ ?_ _ | refine Below.setCell ?_ ?_ _)) <;> (first | exact hBw | (have := hBw.size; omega) | (simp; (have := hBw.size); omega))⟩
              · have e : q = sl.length := by omega
                have HQ := Hallq.out
                rw [e, List.take_of_length_le (Nat.le_refl _)] at HQ
                have HQ' := Lib.hid HQ
                clear Hallq e HQ
                go_wp2
                go_roundw
                case rel => exact ⟨j + 1, by omega, by go_num, by rw [take_snoc' _ _ _ Htj.out, List.all_append, Hall.out]; simp [rowOk, Hog.out.1, Hog.out.2, HQ'.out], hBw⟩
                case measure => simp [intOf]; omega
        · have hg' : gateOk ts tj = false := by simpa using hg
          have hk5 : tj.kind = 5 := by
            cases Decidable.em (tj.kind = 5) with
            | inl h => exact h
            | inr h => exfalso; simp [gateOk, h] at hg'
          obtain ⟨hg1, hg2⟩ := hgate hk5
          obtain ⟨x, hx⟩ : ∃ x : Nat, tj.to = (x : Int) + 1 := ⟨(tj.to - 1).toNat, by omega⟩
          have hrow : rowOk ts tj = false := by simp [rowOk, hg']
          have hno : x < ts.length → ∃ tt, ts[x]? = some tt ∧ (tt.kind != 1) = true := by
            intro hl
            have htx : ts[x]? = some ts[x] := by simp [hl]
            refine ⟨_, htx, ?_⟩
            have hex : ex ts ((x : Int) + 1) = true := by simp [ex, inR]; omega
            simpa [gateOk, hk5, kindAt, hx, hex, getT_at htx] using hg'
          have Hok := Lib.hid (And.intro hok hrow)
          have HT := Lib.hid hT
          clear hg hg' hgate hrs hok hrow hg1 hg2
          obtain ⟨k, ⟨s, v⟩, ve, nu, sl, qu, tg⟩ := tj
          dsimp only at hS hQ c0 c1 c2 c3 c4 c5 c6 c7 hk5 hx hl1' hl2'
          subst hk5
          subst hx
          by_cases hl : x < ts.length
          · obtain ⟨tt, htt, htk⟩ := hno hl
            obtain ⟨b2, o2, sv2, qv2, hbo, -, -, -, d0, -⟩ := (hT.pure hB).at x tt htt
            cases hbo
            clear htt hno
            go_wp2_with (go_at_call 38; refine (sthingOk_c ⟨_, ⟨_, _⟩, _, _, sl, qu, _⟩ _ _ _ hS hQ).mono ?_; rw [Hok.out.1]; rintro e w1 ⟨rfl, hb1⟩; obtain ⟨hc1, hf1⟩ := bcell hb1)
            all_goals first
              | (go_ret
                 exact ⟨ret_bool (tabOk_bad hmem Hok.out.2).symm, hB.trans (hb1.mono hB.size)⟩)
              | (exfalso; omega)
              | (exfalso; simp_all; done)
          · clear hno
            go_wp2_with (go_at_call 38; refine (sthingOk_c ⟨_, ⟨_, _⟩, _, _, sl, qu, _⟩ _ _ _ hS hQ).mono ?_; rw [Hok.out.1]; rintro e w1 ⟨rfl, hb1⟩; obtain ⟨hc1, hf1⟩ := bcell hb1)
            all_goals first
              | (go_ret
                 exact ⟨ret_bool (tabOk_bad hmem Hok.out.2).symm, hB.trans (hb1.mono hB.size)⟩)
              | (exfalso; omega)
      · have hok' : thgOk tj = false := by simpa using hok
        have Hok := Lib.hid hok'
        clear hok hok'
        go_wp2_with (go_at_call 38; refine (sthingOk_c ⟨_, ⟨_, _⟩, _, _, tj.slots, tj.queue, _⟩ _ _ _ ((hS.pure (by (repeat (with_reducible first | exact Below.refl _ _ | refine Below.alloc ?_ ?_ _ | refine below_drewN ?_ _ | refine Below.drew ?_ | refine Below.setCell ?_ ?_ _ | refine Below.trans ?_ (Below.mono (by assumption) ?_))) <;> (first | omega | (simp; try omega))))) ((hQ.pure (by (repeat (with_reducible first | exact Below.refl _ _ | refine Below.alloc ?_ ?_ _ | refine below_drewN ?_ _ | refine Below.drew ?_ | refine Below.setCell ?_ ?_ _ | refine Below.trans ?_ (Below.mono (by assumption) ?_))) <;> (first | omega | (simp; try omega)))))).mono ?_; rw [Hok.out]; rintro e w1 ⟨rfl, hb1⟩; obtain ⟨hc1, hf1⟩ := bcell hb1)
        go_ret
        exact ⟨ret_bool (tabOk_bad hmem (by simp [rowOk, Hok.out])).symm, hB.trans (hb1.mono hB.size)⟩
    · have e : j = ts.length := by omega
      have HQ := Hall.out
      rw [e, List.take_of_length_le (Nat.le_refl _)] at HQ
      clear Hall
      go_wp2_with (go_at_call 39; refine (l6In_c _ _ _ _).mono ?_; rintro e w' ⟨rfl, rfl⟩)
      go_ret
      exact ⟨ret_bool (by simp [tabOk_row, HQ]), (by (repeat (with_reducible first | exact Below.refl _ _ | refine Below.alloc ?_ ?_ _ | refine below_drewN ?_ _ | refine Below.drew ?_ | refine Below.setCell ?_ ?_ _ | refine Below.trans ?_ (Below.mono (by assumption) ?_))) <;> (first | omega | (simp; try omega)))⟩

end Go.Proofs.YtiolplhgpodifaaGreat
