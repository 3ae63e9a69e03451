/- The iterator over all rights hands them over in order. Conditions: the things lie where the table says. -/
import Derived.Test.YtiolplhgpodifaaGreatIv
import Derived.RangeFuncNested
import Derived.RangeFuncBound
import Derived.RangeFuncCalls
import Derived.RangeFuncLeaves
import Derived.Shelf.Abstract
import Derived.Shelf.RegionOpen
import Derived.OwnWalkIn
import Derived.TacticsInMore
import Derived.LoopNIn
import Derived.LoopIn
import Derived.Test.YtiolplhgpodifaaGreatD
import Derived.Maps.OwnSet
import Derived.Maps.Views
import Derived.DeepKeys4
set_option linter.unusedVariables false
set_option linter.unusedSimpArgs false
namespace Go.Proofs.YtiolplhgpodifaaGreat
open Go.RowKit Drw Go.Shelf
attribute [local go_sem] Oper.semAt_some
attribute [local go_sem] Lab.val Rgt.val Cal.val Thg.val

def flat (ts : List Thg) : List Rgt := ts.flatMap (·.slots)
theorem flat_take_succ (ts : List Thg) (k : Nat) (h : k < ts.length) : flat (ts.take (k + 1)) = flat (ts.take k) ++ ts[k].slots := by
  unfold flat; rw [List.take_succ_eq_append_getElem h, List.flatMap_append]; simp

theorem take_snoc' {α : Type} (l : List α) (k : Nat) (x : α) (h : l[k]? = some x) : l.take (k + 1) = l.take k ++ [x] := by
  obtain ⟨hlt, rfl⟩ := List.getElem?_eq_some_iff.1 h
  rw [List.take_succ_eq_append_getElem hlt]
theorem flat_pre (ts : List Thg) (j : Nat) (tj : Thg) (h : ts[j]? = some tj) (k : Nat) : flat (ts.take j) ++ tj.slots.take k <+: flat ts := by
  obtain ⟨hlt, rfl⟩ := List.getElem?_eq_some_iff.1 h
  have e : flat ts = flat (ts.take j) ++ (ts[j].slots ++ flat (ts.drop (j + 1))) := by
    have h1 : ts = ts.take j ++ ts[j] :: ts.drop (j + 1) := by rw [← List.drop_eq_getElem_cons hlt, List.take_append_drop]
    have h2 := congrArg flat h1
    rw [h2]
    unfold flat
    rw [List.flatMap_append, List.flatMap_cons]
  rw [e]
  refine (List.prefix_append_right_inj _).2 ((List.take_prefix _ _).trans (List.prefix_append _ _))
theorem flat_take_succ' (ts : List Thg) (j : Nat) (tj : Thg) (h : ts[j]? = some tj) : flat (ts.take (j + 1)) = flat (ts.take j) ++ tj.slots := by
  obtain ⟨hlt, rfl⟩ := List.getElem?_eq_some_iff.1 h
  exact flat_take_succ ts j hlt

set_option maxRecDepth 100000 in
set_option maxHeartbeats 2000000 in
theorem allRights1_in (n l Bn n₀ : Nat) (p : Option Addr) (cap : Nat) (ts : List Thg) (hn : 1 ≤ n) (J Jx : List Rgt → World → Prop)
    (hJ : ∀ pre W o, J pre W → J pre (W.alloc o))
    (hY : ∀ pre x W, J pre W → pre.length < (flat ts).length → YieldAt Fence.wide (n - 1) Tryz.prog l #[Rgt.val x] W fun e W' =>
      (e = .returned (.bool true) ∧ J (pre ++ [x]) W' ∧ Below n₀ W W') ∨ (e = .returned (.bool false) ∧ Jx (pre ++ [x]) W'))
    (w₀ W : World) (hw₀ : w₀.heap.size = n₀) (hb₀ : Below n₀ w₀ W) (hBn : w₀.cell? ⟨Bn, 0, none⟩ = some (.slice p ts.length cap)) (hT : TabAt w₀ (.slice p ts.length cap) ts) (h0 : J [] W) :
    CallsIn Fence.wide n Tryz.prog 91 #[.func (.yield l) #[] #[], .pointer (some ⟨Bn, 0, none⟩)] W fun e W' => (∃ v, e = .returned v) ∧
      ((∃ ys, ys = flat ts ∧ J ys W') ∨ (∃ pre, pre <+: flat ts ∧ Jx pre W')) := by
  have hBlt : Bn < w₀.heap.size := World.block_lt_of_cell? w₀ _ hBn
  obtain ⟨_, _, h1, hl1, hl2⟩ := hT.len
  cases h1
  unfold maxLen at hl2
  have hcB : W.cell? ⟨Bn, 0, none⟩ = some (.slice p ts.length cap) := (hb₀.cell (p := ⟨Bn, 0, none⟩) (by simpa [hw₀] using hBlt)).trans hBn
  refine callsIn_of_wp Tryz.func91 rfl trivial ?_ rfl
  simp only [Tryz.ntmps91, List.size_toArray, List.length_cons, List.length_nil, Nat.reduceAdd, Nat.reduceSub, Array.replicate_succ, Array.replicate_zero, List.push_toArray, List.append_toArray, List.nil_append, List.cons_append]
  gi_wp2
  gi_loopw [9] (fun i wr => ∃ j : Nat, j ≤ ts.length ∧ i = .int .i64 j ∧ Below n₀ w₀ wr ∧ J (flat (ts.take j)) wr) (fun i _ => ts.length - (intOf i).toNat)
  case atStart => exact ⟨0, Nat.zero_le _, rfl, hb₀, h0⟩
  case round =>
    obtain ⟨j, hj, rfl, hbr, hJr⟩ := hrel
    by_cases hlt : j < ts.length
    · obtain ⟨tj, htj⟩ : ∃ t, ts[j]? = some t := ⟨ts[j], by simp [hlt]⟩
      have Htj := Lib.hid htj
      obtain ⟨b, o, sv, qv, rfl, hbk, hS, hQ, c0, c1, c2, c3, c4, c5, c6, c7⟩ := (hT.pure (by rw [hw₀]; exact hbr)).at j tj htj
      have hS0 : RgtsAt w₀ sv tj.slots := by
        obtain ⟨b', o', sv', qv', hp, _, hS', _, _, _, _, _, _, d5, _, _⟩ := hT.at j tj htj
        cases hp
        have := (hbr.cell (p := ⟨b, o + j * 8 + 5, none⟩) (by rw [← hw₀]; exact World.block_lt_of_cell? w₀ _ d5)).trans d5
        rw [c5] at this; cases this; exact hS'
      obtain ⟨p', cap', rfl, hl1', hl2'⟩ := hS.len
      obtain ⟨p'', cap'', rfl, hl1'', hl2''⟩ := hQ.len
      unfold maxLen at hl2'
      clear htj
      gi_wp2
      gi_loopw [16] (fun i wi => ∃ k : Nat, k ≤ tj.slots.length ∧ i = .int .i64 k ∧ Below n₀ w₀ wi ∧ J (flat (ts.take j) ++ tj.slots.take k) wi) (fun i _ => tj.slots.length - (intOf i).toNat)
      case atStart => exact ⟨0, Nat.zero_le _, rfl, hbr.trans ((Below.refl _ _).alloc (by rw [← hw₀]; exact hbr.size) _), by simpa using hJ _ _ _ hJr⟩
      case round =>
        obtain ⟨k, hk, rfl, hbi, hJi⟩ := hrel
        by_cases hlk : k < tj.slots.length
        · obtain ⟨r, hr⟩ : ∃ r, tj.slots[k]? = some r := ⟨tj.slots[k], by simp [hlk]⟩
          have Hr := Lib.hid hr
          have hlen : (flat (ts.take j) ++ tj.slots.take k).length < (flat ts).length := by
            have h2 := (flat_pre _ _ _ Htj.out (k + 1)).length_le
            rw [take_snoc' _ _ _ hr, ← List.append_assoc] at h2
            simp at h2 ⊢; omega
          obtain ⟨b', o', rfl, hbk', d0, d1, d2, d3, d4⟩ := (hS0.pure (by rw [hw₀]; exact hbi)).at k r hr
          clear hr
          obtain ⟨fn, tmps, assign, body, hy, hR⟩ := hY (flat (ts.take j) ++ tj.slots.take k) r (wr.alloc (.cells #[.int .i64 r.thing, .int .i64 r.vers, .bool r.rd, .bool r.wr, .bool r.wk] 35)) (hJ _ _ _ hJi) hlen
          dsimp only [Rgt.val] at hy
          gi_wp2
          refine hR.mono ?_
          rintro e W3 (⟨rfl, hJ3, hk3⟩ | ⟨rfl, hJx3⟩)
          · gi_wp2
            go_roundw
            case rel =>
              refine ⟨k + 1, by omega, by go_num, ?_, ?_⟩
              · exact (hbi.trans ((Below.refl _ _).alloc (by rw [← hw₀]; exact hbi.size) _)).trans hk3
              · rw [take_snoc' _ _ _ Hr.out, ← List.append_assoc]; exact hJ3
            case measure => simp [intOf]; omega
          · gi_wp2
            refine bodyPost_ret (v := .tuple #[]) (results_none (fn := Tryz.f91) (by rfl) _ _ _) rfl ⟨⟨_, rfl⟩, .inr ⟨_, ?_, hJx3⟩⟩
            rw [List.append_assoc, ← take_snoc' _ _ _ Hr.out]
            exact flat_pre _ _ _ Htj.out _
        · gi_wp2
          go_roundw
          case rel =>
            have e : k = tj.slots.length := by omega
            subst e
            exact ⟨j + 1, by omega, by go_num, hbi, by rw [flat_take_succ' _ _ _ Htj.out]; simpa using hJi⟩
          case measure => simp [intOf]; omega
    · gi_wp2
      go_end0
      have e : j = ts.length := by omega
      subst e
      exact ⟨⟨_, rfl⟩, .inl ⟨_, rfl, by simpa using hJr⟩⟩

end Go.Proofs.YtiolplhgpodifaaGreat

/- spec.TableOk: the walk -/
namespace Go.Proofs.YtiolplhgpodifaaGreat
open Go.RowKit Drw
attribute [local go_sem] Oper.semAt_some
attribute [local go_sem] Lab.val Rgt.val Cal.val Thg.val

def rowOk (ts : List Thg) (t : Thg) : Bool := thgOk t && gateOk ts t && t.slots.all (capOk ts)
theorem tabOk_row (ts : List Thg) : tabOk ts = (ts.all (rowOk ts) && inR ts.length 1 8) := by
  unfold tabOk rowOk
  rw [Bool.eq_iff_iff]
  simp only [Bool.and_eq_true, List.all_eq_true]
  grind

theorem tabOk_bad {ts : List Thg} {t : Thg} (hm : t ∈ ts) (h : rowOk ts t = false) : tabOk ts = false := by
  rw [tabOk_row]
  have : ts.all (rowOk ts) = false := by rw [List.all_eq_false]; exact ⟨t, hm, by simp [h]⟩
  rw [this]; rfl

theorem slots_rgt {t : Thg} (h : thgOk t = true) (r : Rgt) (hr : r ∈ t.slots) : rgtOk r = true := by
  rw [thgOk_spec] at h
  simp only [Bool.and_eq_true, List.all_eq_true] at h
  exact h.1.1.2 r hr

theorem rgt_thing {r : Rgt} (h : rgtOk r = true) : 0 ≤ r.thing ∧ r.thing ≤ 8 := by
  unfold rgtOk inR at h
  split at h
  · omega
  · simp at h; omega

theorem gate_to {t : Thg} (h : thgOk t = true) (hk : t.kind = 5) : 1 ≤ t.to ∧ t.to ≤ 8 := by
  unfold thgOk at h
  simp only [Bool.and_eq_true] at h
  have := h.2
  simp [targetOk, hk, inR] at this
  exact this

theorem getT_at {ts : List Thg} {j : Nat} {t : Thg} (h : ts[j]? = some t) : getT ts ((j : Int) + 1) = t := by
  simp [getT, h]

set_option maxRecDepth 100000 in
set_option maxHeartbeats 4000000 in
theorem stableOk_c (p : Option Addr) (cap : Nat) (ts : List Thg) (w : World) (hT : TabAt w (.slice p ts.length cap) ts) :
    Calls Tryz.prog 15 #[.slice p ts.length cap] w fun e w' => e = .returned (.bool (tabOk ts)) ∧ Below w.heap.size w w' := by
  obtain ⟨_, _, h1, hl1, hl2⟩ := hT.len
  cases h1
  unfold maxLen at hl2
  go_enter Tryz.func15, Tryz.ntmps15
  go_wp2
  go_loopw [3] (fun i wr => ∃ j : Nat, j ≤ ts.length ∧ i = .int .i64 j ∧ (ts.take j).all (rowOk ts) = true ∧ Below w.heap.size w wr) (fun i _ => ts.length - (intOf i).toNat)
  case atStart => exact ⟨0, Nat.zero_le _, rfl, by simp, Below.refl _ _⟩
  case round =>
    obtain ⟨j, hj, rfl, hall, hB⟩ := hrel
    have Hall := Lib.hid hall
    clear hall
    by_cases hlt : j < ts.length
    · obtain ⟨tj, htj⟩ : ∃ t, ts[j]? = some t := ⟨ts[j], by simp [hlt]⟩
      have hmem : tj ∈ ts := List.mem_of_getElem? htj
      have Htj := Lib.hid htj
      obtain ⟨b, o, sv, qv, rfl, hbk, hS, hQ, c0, c1, c2, c3, c4, c5, c6, c7⟩ := (hT.pure hB).at j tj htj
      obtain ⟨p', cap', rfl, hl1', hl2'⟩ := hS.len
      obtain ⟨p'', cap'', rfl, hl1'', hl2''⟩ := hQ.len
      unfold maxLen at hl2'
      clear htj
      by_cases hok : thgOk tj = true
      · have hgate := gate_to hok
        have hrs := slots_rgt hok
        by_cases hg : gateOk ts tj = true
        · have hgt : tj.kind = 5 → ∃ m : Nat, tj.to = (m : Int) + 1 ∧ m < ts.length ∧ ∃ tt, ts[m]? = some tt ∧ tt.kind = 1 := by
            intro hk
            obtain ⟨h1, h2⟩ := hgate hk
            simp [gateOk, hk, kindAt] at hg
            obtain ⟨m, hm, hm'⟩ := ex_idx hg.1
            exact ⟨m, hm, (List.getElem?_eq_some_iff.1 hm').1, _, hm', hg.2⟩
          have Hog := Lib.hid (And.intro hok hg)
          clear hg hgate hok
          obtain ⟨k, ⟨s, v⟩, ve, nu, sl, qu, tg⟩ := tj
          dsimp only at hS hQ c0 c1 c2 c3 c4 c5 c6 c7 hgt hl1' hl2' hrs
          have Hrs := Lib.hid hrs
          clear hrs
          have HT := Lib.hid hT
          rcases Decidable.em (k = 5) with hk5 | hk5
          all_goals first
            | (subst hk5
               obtain ⟨m, rfl, hml, tt, htt, htk⟩ := hgt rfl
               clear hgt
               obtain ⟨b2, o2, sv2, qv2, hbo, -, -, -, d0, -⟩ := (hT.pure hB).at m tt htt
               cases hbo
               rw [htk] at d0
               clear htt htk
               go_upto_region 6 with (go_at_call 38; refine (sthingOk_c ⟨_, ⟨_, _⟩, _, _, sl, qu, _⟩ _ _ _ hS hQ).mono ?_; rw [Hog.out.1]; rintro e w1 ⟨rfl, hb1⟩; obtain ⟨hc1, hf1⟩ := bcell hb1))
            | (have hk5' : (k == 5) = false := by simp [hk5]
               clear hgt hk5
               go_upto_region 6 with (go_at_call 38; refine (sthingOk_c ⟨_, ⟨_, _⟩, _, _, sl, qu, _⟩ _ _ _ hS hQ).mono ?_; rw [Hog.out.1]; rintro e w1 ⟨rfl, hb1⟩; obtain ⟨hc1, hf1⟩ := bcell hb1))
          all_goals
            go_wp2
            go_loopw [4] (fun i wq => ∃ q : Nat, q ≤ sl.length ∧ i = .int .i64 q ∧ (sl.take q).all (capOk ts) = true ∧ Below w1.heap.size w1 wq) (fun i _ => sl.length - (intOf i).toNat)
            case atStart => exact ⟨0, Nat.zero_le _, rfl, by simp, Below.refl _ _⟩
            case round =>
              obtain ⟨q, hq, rfl, hall, hBq⟩ := hrel
              have Hallq := Lib.hid hall
              clear hall
              have hBw : Below w.heap.size w wr := hB.trans ((hb1.trans (hBq.mono hb1.size)).mono hB.size)
              obtain ⟨hcq, hfq⟩ := bcell hBq
              have hs1 := hb1.size
              have hsq := hBq.size
              have hbk2 : b < wr.heap.size := by omega
              have c5' := ((hcq b (o + j * 8 + 5) (by omega)).trans (hc1 b (o + j * 8 + 5) hbk)).trans c5
              by_cases hlq : q < sl.length
              · obtain ⟨⟨th, ve2, rd, wt, wk⟩, hr⟩ : ∃ r, sl[q]? = some r := ⟨sl[q], by simp [hlq]⟩
                obtain ⟨b', o', hp, hbk', r0, r1, r2, r3, r4⟩ := ((hS.pure hb1).pure hBq).at q _ hr
                dsimp only at r0 r1 r2 r3 r4
                have hmr := List.mem_of_getElem? hr
                have hth := (rgt_thing (Hrs.out _ hmr)).1
                dsimp only at hth
                have Hr := Lib.hid (And.intro hr hmr)
                subst hp
                clear hr hmr
                by_cases h0 : th = 0
                · subst h0
                  have hd : decide ((ts.length : Int) < 0) = false := by simp
                  have hcap : capOk ts ⟨0, ve2, rd, wt, wk⟩ = true := by simp [capOk]
                  go_wp2
                  go_quiet (fail)
                  go_wp2
                  go_roundw
                  case rel => exact ⟨q + 1, by omega, by go_num, by rw [take_snoc' _ _ _ Hr.out.1, List.all_append, Hallq.out]; simpa using hcap, by (repeat (with_reducible first | refine below_drewN ?_ _ | refine Below.alloc ?_ ?_ _ | refine Below.setCell ?_ ?_ _)) <;> (first | exact hBq | omega | (simp; omega))⟩
                  case measure => simp [intOf]; omega
                · obtain ⟨x, hthx⟩ : ∃ x : Nat, th = (x : Int) + 1 := ⟨(th - 1).toNat, by omega⟩
                  by_cases hx : x < ts.length
                  · obtain ⟨tx, htx⟩ : ∃ t, ts[x]? = some t := ⟨ts[x], by simp [hx]⟩
                    obtain ⟨b3, o3, sv3, qv3, hbo, -, -, -, -, -, -, e3, -⟩ := (HT.out.pure hBw).at x tx htx
                    cases hbo
                    have hgx := getT_at htx
                    rw [← hthx] at hgx
                    have hex : ex ts th = true := by simp [ex, inR]; omega
                    have hcap0 : capOk ts ⟨th, ve2, rd, wt, wk⟩ = decide (ve2 ≤ tx.vers) := by
                      simp [capOk, hex, hgx]; try (intro h; omega)
                    have Hcap := Lib.hid hcap0
                    clear htx hgx hex hcap0
                    have hd : decide ((ts.length : Int) < th) = false := by simp; omega
                    have hd0 : decide ((0 : Int) < th) = true := by simp; omega
                    have hw1 : IntKind.i64.wrap (th - 1) = (x : Int) := by rw [show th - 1 = x by omega]; exact IntWalk.i64_in _ (by omega)
                    have hw2 : IntKind.i64.wrap (x : Int) = (x : Int) := IntWalk.i64_in _ (by omega)
                    have hx0 : (0 : Int) ≤ (x : Int) := by omega
                    have hxl : (x : Int) < (ts.length : Int) := by omega
                    clear hth h0 hthx
                    by_cases hv : tx.vers < ve2
                    · have hcap : capOk ts ⟨th, ve2, rd, wt, wk⟩ = false := by rw [Hcap.out]; simp; omega
                      have hd2 : decide (tx.vers < ve2) = true := by simpa using hv
                      go_wp2
                      go_quiet (fail)
                      go_wp2
                      go_ret
                      exact ⟨ret_bool (tabOk_bad hmem (by
                        have hx2 : sl.all (capOk ts) = false := by rw [List.all_eq_false]; exact ⟨_, Hr.out.2, by simp [hcap]⟩
                        simp only [rowOk, hx2, Bool.and_false])).symm, by (repeat (with_reducible first | refine below_drewN ?_ _ | refine Below.alloc ?_ ?_ _ | refine Below.setCell ?_ ?_ _)) <;> (first | exact hBw | (have := hBw.size; omega) | (simp; (have := hBw.size); omega))⟩
                    · have hcap : capOk ts ⟨th, ve2, rd, wt, wk⟩ = true := by rw [Hcap.out]; simp; omega
                      have hd2 : decide (tx.vers < ve2) = false := by simpa using hv
                      go_wp2
                      go_quiet (fail)
                      go_wp2
                      go_roundw
                      case rel => exact ⟨q + 1, by omega, by go_num, by rw [take_snoc' _ _ _ Hr.out.1, List.all_append, Hallq.out]; simpa using hcap, by (repeat (with_reducible first | refine below_drewN ?_ _ | refine Below.alloc ?_ ?_ _ | refine Below.setCell ?_ ?_ _)) <;> (first | exact hBq | omega | (simp; omega))⟩
                      case measure => simp [intOf]; omega
                  · have hd : decide ((ts.length : Int) < th) = true := by simp; omega
                    have hcap : capOk ts ⟨th, ve2, rd, wt, wk⟩ = false := by
                      have hex : ex ts th = false := by simp [ex, inR]; omega
                      have : ¬ (th = 0) := by omega
                      simp [capOk, hex, this]
                    clear hth h0 hthx hx
                    go_wp2
                    go_quiet (fail)
                    go_wp2
                    go_ret
                    exact ⟨ret_bool (tabOk_bad hmem (by
                      have hx2 : sl.all (capOk ts) = false := by rw [List.all_eq_false]; exact ⟨_, Hr.out.2, by simp [hcap]⟩
                      simp only [rowOk, hx2, Bool.and_false])).symm, by (repeat (with_reducible first | refine below_drewN ?_ _ | refine Below.alloc ?_ ?_ _ | refine Below.setCell ?_ ?_ _)) <;> (first | exact hBw | (have := hBw.size; omega) | (simp; (have := hBw.size); omega))⟩
              · have e : q = sl.length := by omega
                have HQ := Hallq.out
                rw [e, List.take_of_length_le (Nat.le_refl _)] at HQ
                have HQ' := Lib.hid HQ
                clear Hallq e HQ
                go_wp2
                go_roundw
                case rel => exact ⟨j + 1, by omega, by go_num, by rw [take_snoc' _ _ _ Htj.out, List.all_append, Hall.out]; simp [rowOk, Hog.out.1, Hog.out.2, HQ'.out], hBw⟩
                case measure => simp [intOf]; omega
        · have hg' : gateOk ts tj = false := by simpa using hg
          have hk5 : tj.kind = 5 := by
            cases Decidable.em (tj.kind = 5) with
            | inl h => exact h
            | inr h => exfalso; simp [gateOk, h] at hg'
          obtain ⟨hg1, hg2⟩ := hgate hk5
          obtain ⟨x, hx⟩ : ∃ x : Nat, tj.to = (x : Int) + 1 := ⟨(tj.to - 1).toNat, by omega⟩
          have hrow : rowOk ts tj = false := by simp [rowOk, hg']
          have hno : x < ts.length → ∃ tt, ts[x]? = some tt ∧ (tt.kind != 1) = true := by
            intro hl
            have htx : ts[x]? = some ts[x] := by simp [hl]
            refine ⟨_, htx, ?_⟩
            have hex : ex ts ((x : Int) + 1) = true := by simp [ex, inR]; omega
            simpa [gateOk, hk5, kindAt, hx, hex, getT_at htx] using hg'
          have Hok := Lib.hid (And.intro hok hrow)
          have HT := Lib.hid hT
          clear hg hg' hgate hrs hok hrow hg1 hg2
          obtain ⟨k, ⟨s, v⟩, ve, nu, sl, qu, tg⟩ := tj
          dsimp only at hS hQ c0 c1 c2 c3 c4 c5 c6 c7 hk5 hx hl1' hl2'
          subst hk5
          subst hx
          by_cases hl : x < ts.length
          · obtain ⟨tt, htt, htk⟩ := hno hl
            obtain ⟨b2, o2, sv2, qv2, hbo, -, -, -, d0, -⟩ := (hT.pure hB).at x tt htt
            cases hbo
            clear htt hno
            go_wp2_with (go_at_call 38; refine (sthingOk_c ⟨_, ⟨_, _⟩, _, _, sl, qu, _⟩ _ _ _ hS hQ).mono ?_; rw [Hok.out.1]; rintro e w1 ⟨rfl, hb1⟩; obtain ⟨hc1, hf1⟩ := bcell hb1)
            all_goals first
              | (go_ret
                 exact ⟨ret_bool (tabOk_bad hmem Hok.out.2).symm, hB.trans (hb1.mono hB.size)⟩)
              | (exfalso; omega)
              | (exfalso; simp_all; done)
          · clear hno
            go_wp2_with (go_at_call 38; refine (sthingOk_c ⟨_, ⟨_, _⟩, _, _, sl, qu, _⟩ _ _ _ hS hQ).mono ?_; rw [Hok.out.1]; rintro e w1 ⟨rfl, hb1⟩; obtain ⟨hc1, hf1⟩ := bcell hb1)
            all_goals first
              | (go_ret
                 exact ⟨ret_bool (tabOk_bad hmem Hok.out.2).symm, hB.trans (hb1.mono hB.size)⟩)
              | (exfalso; omega)
      · have hok' : thgOk tj = false := by simpa using hok
        have Hok := Lib.hid hok'
        clear hok hok'
        go_wp2_with (go_at_call 38; refine (sthingOk_c ⟨_, ⟨_, _⟩, _, _, tj.slots, tj.queue, _⟩ _ _ _ ((hS.pure (by (repeat (with_reducible first | exact Below.refl _ _ | refine Below.alloc ?_ ?_ _ | refine below_drewN ?_ _ | refine Below.drew ?_ | refine Below.setCell ?_ ?_ _ | refine Below.trans ?_ (Below.mono (by assumption) ?_))) <;> (first | omega | (simp; try omega))))) ((hQ.pure (by (repeat (with_reducible first | exact Below.refl _ _ | refine Below.alloc ?_ ?_ _ | refine below_drewN ?_ _ | refine Below.drew ?_ | refine Below.setCell ?_ ?_ _ | refine Below.trans ?_ (Below.mono (by assumption) ?_))) <;> (first | omega | (simp; try omega)))))).mono ?_; rw [Hok.out]; rintro e w1 ⟨rfl, hb1⟩; obtain ⟨hc1, hf1⟩ := bcell hb1)
        go_ret
        exact ⟨ret_bool (tabOk_bad hmem (by simp [rowOk, Hok.out])).symm, hB.trans (hb1.mono hB.size)⟩
    · have e : j = ts.length := by omega
      have HQ := Hall.out
      rw [e, List.take_of_length_le (Nat.le_refl _)] at HQ
      clear Hall
      go_wp2_with (go_at_call 39; refine (l6In_c _ _ _ _).mono ?_; rintro e w' ⟨rfl, rfl⟩)
      go_ret
      exact ⟨ret_bool (by simp [tabOk_row, HQ]), (by (repeat (with_reducible first | exact Below.refl _ _ | refine Below.alloc ?_ ?_ _ | refine below_drewN ?_ _ | refine Below.drew ?_ | refine Below.setCell ?_ ?_ _ | refine Below.trans ?_ (Below.mono (by assumption) ?_))) <;> (first | omega | (simp; try omega)))⟩

end Go.Proofs.YtiolplhgpodifaaGreat

/- The reference's two answers on what can be come to have. Conditions: the table lies where its cells say. -/
namespace Go.Proofs.YtiolplhgpodifaaGreat
open Go.RowKit Drw
attribute [local go_sem] Lab.val Rgt.val Cal.val Thg.val

theorem stableOk_u {p : Option Addr} {cap : Nat} {ts : List Thg} {v : Bool} {w : World} (hT : TabAt w (.slice p ts.length cap) ts) (h : tabOk ts = v) :
    Calls Tryz.prog 15 #[.slice p ts.length cap] w fun e w' => e = .returned (.bool v) ∧ Below w.heap.size w w' := by
  rw [← h]; exact stableOk_c p cap ts w hT
theorem l22All_t {p : Option Addr} {cap : Nat} {ts : List Thg} {w : World} (hT : TabAt w (.slice p ts.length cap) ts) (ht : tabOk ts = true) :
    Calls Tryz.prog 37 #[.slice p ts.length cap] w fun e w' => ∃ A c a, e = .returned (.slice (some ⟨A, 0, none⟩) a.length c) ∧ IsReach ts a ∧ AllAt w' A 0 a ∧ Below w.heap.size w w' := l22All_c p cap ts w hT ht

set_option maxRecDepth 100000 in
theorem sreachAll_no {p : Option Addr} {cap : Nat} {ts : List Thg} {w : World} (hT : TabAt w (.slice p ts.length cap) ts) (ht : tabOk ts = false) :
    Calls Tryz.prog 14 #[.slice p ts.length cap] w fun e w' => ∃ q, e = .returned (.slice q 0 0) ∧ Below w.heap.size w w' := by
  have HT := Lib.hid hT
  have Ht := Lib.hid ht
  clear hT ht
  go_enter Tryz.func14, Tryz.ntmps14
  go_wp2_with (go_at_call 15; refine (stableOk_u HT.out Ht.out).mono ?_; rintro e w1 ⟨rfl, hb1⟩; have hz1 := hb1.size)
  go_ret
  exact ⟨_, rfl, (by (repeat (with_reducible first | exact Below.refl _ _ | refine Below.alloc ?_ ?_ _ | refine below_drewN ?_ _ | refine Below.drew ?_ | refine Below.setCell ?_ ?_ _ | refine Below.trans ?_ (Below.mono (by assumption) ?_))) <;> (first | omega | (simp; try omega)))⟩
set_option maxRecDepth 100000 in
theorem sreachAll_yes {p : Option Addr} {cap : Nat} {ts : List Thg} {w : World} (hT : TabAt w (.slice p ts.length cap) ts) (ht : tabOk ts = true) :
    Calls Tryz.prog 14 #[.slice p ts.length cap] w fun e w' => ∃ A c a, e = .returned (.slice (some ⟨A, 0, none⟩) a.length c) ∧ IsReach ts a ∧ AllAt w' A 0 a ∧ Below w.heap.size w w' := by
  have HT := Lib.hid hT
  have Ht := Lib.hid ht
  clear hT ht
  go_enter Tryz.func14, Tryz.ntmps14
  go_wp2_with (first
    | (go_at_call 37; refine (l22All_t (HT.out.pure hb1) Ht.out).mono ?_; rintro e w2 ⟨A, c, a, rfl, hI, hA, hb2⟩)
    | (go_at_call 15; refine (stableOk_u HT.out Ht.out).mono ?_; rintro e w1 ⟨rfl, hb1⟩))
  go_ret
  exact ⟨A, c, a, rfl, hI, hA, hb1.trans (hb2.mono hb1.size)⟩

/-- A row of a reach table holds at most 384 rights. -/
theorem reach_row_len {ts : List Thg} (ht : tabOk ts = true) {a : List (List Rgt)} (h : IsReach ts a) (k : Nat) (hk : k < ts.length) : (rowA a k).length ≤ 384 := by
  have hg : ∀ r ∈ rowA a k, Got ts ((k : Int) + 1) r := fun r hr => ((h.mem k hk r).1 hr).1
  have hn : Ne0 (rowA a k) := fun r hr => ⟨((hg r hr).ok ht).ok, ((hg r hr).ok ht).ne⟩
  refine anti_len hn ((h.ord k).imp_of_mem fun {r s} hr hs hlt => ?_)
  have hne : r ≠ s := fun e => by rw [e] at hlt; exact Nat.lt_irrefl _ hlt
  constructor
  · cases hq : rgtIn1 r s with
    | false => rfl
    | true => exact absurd (((h.mem k hk r).1 hr).2 s (hg s hs) hq).symm hne
  · cases hq : rgtIn1 s r with
    | false => rfl
    | true => exact absurd (((h.mem k hk s).1 hs).2 r (hg r hr) hq) hne
/-- Whether one of a thing's rights is to a thing, to read, or to write it. -/
def reachB (l : List Rgt) (k : Int) (wr : Bool) : Bool := l.any (fun r => r.thing == k && (if wr then r.wr else r.rd))
theorem reach_next {l : List Rgt} {i : Nat} {r : Rgt} (h : l[i]? = some r) (k : Int) (wr : Bool) : reachB (l.take (i + 1)) k wr = (reachB (l.take i) k wr || (r.thing == k && (if wr then r.wr else r.rd))) := by
  unfold reachB
  rw [List.take_add_one, h]
  simp

set_option maxRecDepth 100000 in
set_option maxHeartbeats 4000000 in
theorem sreachTo_no {p : Option Addr} {cap : Nat} {ts : List Thg} {h k : Int} {wr : Bool} {w : World} (hT : TabAt w (.slice p ts.length cap) ts) (hno : (tabOk ts && ex ts h && ex ts k) = false) :
    Calls Tryz.prog 22 #[.slice p ts.length cap, .int .i64 h, .int .i64 k, .bool wr] w fun e w' => e = .returned (.bool false) ∧ Below w.heap.size w w' := by
  have HT := Lib.hid hT
  obtain ⟨t1, ht1⟩ : ∃ b, tabOk ts = b := ⟨_, rfl⟩
  obtain ⟨t2, ht2⟩ : ∃ b, inR h 1 ts.length = b := ⟨_, rfl⟩
  obtain ⟨t3, ht3⟩ : ∃ b, inR k 1 ts.length = b := ⟨_, rfl⟩
  have hno' : (t1 && t2 && t3) = false := by rw [← hno, ← ht1, ← ht2, ← ht3]; rfl
  have Ht1 := Lib.hid ht1
  have Ht2 := Lib.hid ht2
  have Ht3 := Lib.hid ht3
  have hund : undef = Value.tuple #[] := rfl
  clear hT hno ht1 ht2 ht3
  cases t1
  · go_enter Tryz.func22, Tryz.ntmps22
    go_wp2_with (go_at_call 15; refine (stableOk_u HT.out Ht1.out).mono ?_; rintro e w1 ⟨rfl, hb1⟩)
    go_ret
    exact ⟨rfl, (by (repeat (with_reducible first | exact Below.refl _ _ | refine Below.alloc ?_ ?_ _ | refine below_drewN ?_ _ | refine Below.drew ?_ | refine Below.setCell ?_ ?_ _ | refine Below.trans ?_ (Below.mono (by assumption) ?_))) <;> (first | omega | (simp; try omega)))⟩
  · cases t2
    · go_enter Tryz.func22, Tryz.ntmps22
      go_wp2_with (first
        | (go_at_call 15; refine (stableOk_u HT.out Ht1.out).mono ?_; rintro e w1 ⟨rfl, hb1⟩)
        | (go_at_call 39; with_reducible refine (l6In_q h 1 ts.length _ Ht2.out).mono ?_; rintro e w2 ⟨rfl, rfl⟩))
      go_ret
      exact ⟨rfl, (by (repeat (with_reducible first | exact Below.refl _ _ | refine Below.alloc ?_ ?_ _ | refine below_drewN ?_ _ | refine Below.drew ?_ | refine Below.setCell ?_ ?_ _ | refine Below.trans ?_ (Below.mono (by assumption) ?_))) <;> (first | omega | (simp; try omega)))⟩
    · obtain rfl : t3 = false := by simpa using hno'
      go_enter Tryz.func22, Tryz.ntmps22
      go_wp2_with (first
        | (go_at_call 15; refine (stableOk_u HT.out Ht1.out).mono ?_; rintro e w1 ⟨rfl, hb1⟩)
        | (go_at_call 39; with_reducible refine (l6In_q h 1 ts.length _ Ht2.out).mono ?_; rintro e w2 ⟨rfl, rfl⟩)
        | (go_at_call 39; with_reducible refine (l6In_q k 1 ts.length _ Ht3.out).mono ?_; rintro e w3 ⟨rfl, rfl⟩))
      go_ret
      exact ⟨rfl, (by (repeat (with_reducible first | exact Below.refl _ _ | refine Below.alloc ?_ ?_ _ | refine below_drewN ?_ _ | refine Below.drew ?_ | refine Below.setCell ?_ ?_ _ | refine Below.trans ?_ (Below.mono (by assumption) ?_))) <;> (first | omega | (simp; try omega)))⟩

set_option maxRecDepth 100000 in
set_option maxHeartbeats 4000000 in
theorem sreachTo_yes {p : Option Addr} {cap : Nat} {ts : List Thg} {j : Nat} {k : Int} {wt : Bool} {w : World} (hT : TabAt w (.slice p ts.length cap) ts) (ht : tabOk ts = true) (hj : j < ts.length) (hk : ex ts k = true) :
    Calls Tryz.prog 22 #[.slice p ts.length cap, .int .i64 ((j : Int) + 1), .int .i64 k, .bool wt] w fun e w' => ∃ a, IsReach ts a ∧ e = .returned (.bool (reachB (rowA a j) k wt)) ∧ Below w.heap.size w w' := by
  have hl8 : ts.length ≤ 8 := by
    have := ht
    simp only [tabOk, Bool.and_eq_true, inR, decide_eq_true_eq] at this
    omega
  have HT := Lib.hid hT
  have Ht := Lib.hid ht
  have H2 := Lib.hid (show inR ((j : Int) + 1) 1 ts.length = true by simp [inR]; omega)
  have H3 := Lib.hid (show inR k 1 ts.length = true from hk)
  have hw1 : IntKind.i64.wrap ((j : Int) + 1 - 1) = (j : Int) := by rw [show (j : Int) + 1 - 1 = j by omega]; exact IntWalk.i64_in _ (by omega)
  have hw2 : IntKind.i64.wrap (j : Int) = (j : Int) := IntWalk.i64_in _ (by omega)
  have hj0 : (0 : Int) ≤ (j : Int) := by omega
  clear hT ht hk
  go_enter Tryz.func22, Tryz.ntmps22
  go_upto_region 3 with (first
    | (go_at_call 15; refine (stableOk_u HT.out Ht.out).mono ?_; rintro e w1 ⟨rfl, hb1⟩)
    | (go_at_call 39; with_reducible refine (l6In_q ((j : Int) + 1) 1 ts.length _ H2.out).mono ?_; rintro e w2 ⟨rfl, rfl⟩)
    | (go_at_call 39; with_reducible refine (l6In_q k 1 ts.length _ H3.out).mono ?_; rintro e w3 ⟨rfl, rfl⟩))
  have HB1 := Lib.hid hb1
  clear hb1
  go_cut [9] (fun s9 wz => ∃ a q c, IsReach ts a ∧ s9 = .slice q (rowA a j).length c ∧ RgtsAt wz (.slice q (rowA a j).length c) (rowA a j) ∧ Below w.heap.size w wz)
  case first =>
    go_wp2_with (go_at_call 37; refine (l22All_t (HT.out.pure HB1.out) Ht.out).mono ?_; rintro e w4 ⟨A, c, a, rfl, hI, hA, hb4⟩; have hia : (j : Int) < (a.length : Int) := (by have := hI.len; omega); obtain ⟨q, c', cc, hR, -⟩ := hA.at' (i := j) (by omega); rw [Nat.zero_add] at cc; have HI := Lib.hid hI; have HR := Lib.hid hR; clear hI hA hR)
    go_meet
    exact ⟨a, q, c', HI.out, rfl, HR.out, HB1.out.trans (hb4.mono HB1.out.size)⟩
  case rest =>
    obtain ⟨a, q, c, hI, rfl, hR, hB⟩ := hcut
    obtain ⟨wz, rfl⟩ : ∃ wy : World, wy = wc := ⟨_, rfl⟩
    have hl3 := reach_row_len Ht.out hI j hj
    obtain ⟨l, hl⟩ : ∃ l, rowA a j = l := ⟨_, rfl⟩
    rw [hl] at hR hl3 ⊢
    have HI := Lib.hid hI
    have HR := Lib.hid hR
    have HL := Lib.hid hl
    have HB := Lib.hid hB
    have hund : undef = Value.tuple #[] := rfl
    clear hI hR hl hB hund
    go_wp2
    go_loopw [10] (fun s10 wr' => ∃ i : Nat, s10 = .int .i64 (i : Int) ∧ i ≤ l.length ∧ reachB (l.take i) k wt = false ∧ wr' = wz) (fun s10 _ => l.length - (intOf s10).toNat)
    case atStart => exact ⟨0, rfl, by omega, rfl, rfl⟩
    case round =>
      obtain ⟨i, rfl, hi, hno, rfl⟩ := hrel
      have Hno := Lib.hid hno
      by_cases hlt : i < l.length
      · obtain ⟨r, hr⟩ : ∃ r, l[i]? = some r := ⟨_, List.getElem?_eq_getElem hlt⟩
        obtain ⟨b, o, rfl, hb, y0, y1, y2, y3, y4⟩ := HR.out.at i r hr
        have hn := reach_next hr k wt
        rw [hno, Bool.false_or] at hn
        have Hn := Lib.hid hn
        have Hr := Lib.hid hr
        have hi0 : (0 : Int) ≤ (i : Int) := by omega
        have hiu : (i : Int) < (l.length : Int) := by omega
        obtain ⟨r1, r2, r3, r4, r5⟩ := r
        dsimp only at y0 y1 y2 y3 y4
        have hund : undef = Value.tuple #[] := rfl
        have hfound : (r1 == k && (if wt then r4 else r3)) = true → reachB l k wt = true := fun e => List.any_eq_true.2 ⟨_, List.mem_of_getElem? Hr.out, e⟩
        have Hfound := Lib.hid hfound
        clear hno hr hn hfound
        cases hk1 : (r1 == k)
        · rw [hk1, Bool.false_and] at Hn
          go_wp2
          exact ⟨⟨i + 1, by go_num, by omega, Hn.out, trivial⟩, by simp [intOf]; omega⟩
        · rw [hk1, Bool.true_and] at Hn Hfound
          cases wt
          · cases r3
            · go_wp2
              exact ⟨⟨i + 1, by go_num, by omega, Hn.out, trivial⟩, by simp [intOf]; omega⟩
            · go_wp2
              go_ret
              exact ⟨a, HI.out, by rw [HL.out, Hfound.out rfl]; simp, HB.out⟩
          · cases r4
            · go_wp2
              exact ⟨⟨i + 1, by go_num, by omega, Hn.out, trivial⟩, by simp [intOf]; omega⟩
            · go_wp2
              go_ret
              exact ⟨a, HI.out, by rw [HL.out, Hfound.out rfl]; simp, HB.out⟩
      · have hnl : ¬ (i : Int) < (l.length : Int) := by omega
        have hil : i = l.length := by omega
        have hn := Hno.out
        rw [hil, List.take_length] at hn
        have Hn := Lib.hid hn
        clear hno hil hn
        go_wp2
        go_ret
        exact ⟨a, HI.out, by rw [HL.out, Hn.out]; rfl, HB.out⟩
end Go.Proofs.YtiolplhgpodifaaGreat

/- Sets of rights as the program holds them: a pointer to a struct of one map. -/
namespace Go.Proofs.YtiolplhgpodifaaGreat
open Go.RowKit Drw
attribute [local go_sem] Lab.val Rgt.val Cal.val Thg.val

theorem rgtKeyed : Go.Maps.Keyed Tryz.prog 35 :=
  .of_law (deep_law_laid (show laidOutB Tryz.prog = true by kernel_rfl) (m := 2) (by omega) (of_decide_eq_true (by kernel_rfl)) (by kernel_rfl) (by kernel_rfl))
/-- What a right reads as, as a key. -/
def kR (r : Rgt) : Lit := .string (keyBytes [.int .i64 r.thing, .int .i64 r.vers, .bool r.rd, .bool r.wr, .bool r.wk])
/-- A right whose numbers are numbers of the machine. -/
def RgtW (r : Rgt) : Prop := (Lit.int .i64 r.thing).wf = true ∧ (Lit.int .i64 r.vers).wf = true
theorem rgtKeyType : Tryz.prog.keyType 35 = true := by kernel_rfl
theorem rgtCellsOf : Tryz.prog.cellsOf 35 = 5 := by kernel_rfl
theorem rgtI64 : Tryz.prog.cellsOf 3 = 1 := by kernel_rfl
theorem rgtBool : Tryz.prog.cellsOf 4 = 1 := by kernel_rfl
theorem kLitsR (D : Nat) {r : Rgt} (h : RgtW r) : Tryz.prog.keyLits (D + 2) 35 r.val.cells.toList = some [.int .i64 r.thing, .int .i64 r.vers, .bool r.rd, .bool r.wr, .bool r.wk] := by
  unfold Program.keyLits
  simp [Tryz.underlying35, rgtCellsOf, Rgt.val, Value.cells, rgtI64, rgtBool, Program.keyLits, Tryz.underlying3, Tryz.underlying4, h.1, h.2]
theorem keyR {r : Rgt} (h : RgtW r) : keyOf Tryz.prog 35 r.val = some (kR r) := by
  have hf : r.val.formed Tryz.prog 35 = true := by simp [Rgt.val, Value.formed, Tryz.underlying35, rgtCellsOf]
  simp [keyOf, Tryz.underlying35, rgtKeyType, hf, kR]
  exact ⟨_, kLitsR _ h, rfl⟩
theorem kR_inj {r s : Rgt} (hr : RgtW r) (hs : RgtW s) (h : kR r = kR s) : r = s := by
  have := rgtKeyed.inj (keyR hr) (by rw [h]; exact keyR hs)
  obtain ⟨r1, r2, r3, r4, r5⟩ := r
  obtain ⟨s1, s2, s3, s4, s5⟩ := s
  simpa [Rgt.val] using this
theorem kR_key (r : Rgt) : WideAt.IsKeyLit (kR r) := trivial

/-- A set of rights: a struct of one map; S tells its rights, each once. -/
structure SetAt (w : World) (s b : Nat) (S : List Rgt) : Prop where
  cell : w.cell? ⟨s, 0, none⟩ = some (.map (some b))
  map : ∃ D, w.ownsMap Tryz.prog 35 (unitElem (H := Unit)) b S.length D ∧ ∀ r, RgtW r → (Maps.has D (kR r) = true ↔ r ∈ S)
  wide : ∀ r ∈ S, RgtW r
  nodup : S.Nodup

set_option maxRecDepth 100000 in
theorem newSet_c (w : World) :
    Calls Tryz.prog 61 #[] w fun e w' => ∃ s b, e = .returned (.pointer (some ⟨s, 0, none⟩)) ∧ w.heap.size ≤ s ∧ w.heap.size ≤ b ∧ s ≠ b ∧ SetAt w' s b [] ∧ Below w.heap.size w w' := by
  have hmm := @run_makeMap Tryz.prog
  go_enter Tryz.func61, Tryz.ntmps61
  go_wp2
  go_ret
  refine ⟨w.heap.size + 1, w.heap.size, rfl, by omega, by omega, by omega, ⟨by simp [go_sem], ⟨.map [], ?_, fun r _ => ?_⟩, by simp, by simp⟩, (by (repeat (with_reducible first | exact Below.refl _ _ | refine Below.alloc ?_ ?_ _ | refine below_drewN ?_ _ | refine Below.drew ?_ | refine Below.setCell ?_ ?_ _ | refine Below.trans ?_ (Below.mono (by assumption) ?_))) <;> (first | omega | (simp; try omega)))⟩
  · exact (World.ownsMap_made w _ _ _).alloc _
  · simp [Maps.has_eq]
theorem SetAt.same {w w' : World} {s b : Nat} {S : List Rgt} (h : SetAt w s b S) (e1 : w'.heap[s]? = w.heap[s]?) (e2 : w'.heap[b]? = w.heap[b]?) : SetAt w' s b S := by
  obtain ⟨hc, ⟨D, ⟨es, clock, hb, F, hs, hD⟩, hm⟩, hw, hn⟩ := h
  exact ⟨(World.cell?_of_block (w := w) e1).trans hc, ⟨D, ⟨es, clock, e2.trans hb, F, hs, hD⟩, hm⟩, hw, hn⟩
theorem SetAt.lt {w : World} {s b : Nat} {S : List Rgt} (h : SetAt w s b S) : s < w.heap.size ∧ b < w.heap.size := by
  obtain ⟨hc, ⟨D, hD, hm⟩, hw, hn⟩ := h
  refine ⟨?_, hD.lt⟩
  rcases Nat.lt_or_ge s w.heap.size with h | h
  · exact h
  · simp [World.cell?, Array.getElem?_eq_none h] at hc
theorem SetAt.pure {w w' : World} {s b : Nat} {S : List Rgt} (h : SetAt w s b S) (hb : Below w.heap.size w w') : SetAt w' s b S :=
  h.same (hb.block s h.lt.1) (hb.block b h.lt.2)

theorem mapUnder : Tryz.prog.underlying 119 = some (.map 35 106) := by kernel_rfl
theorem unitZero (w : World) : (zeroValue 106).run Tryz.prog w = .ok (.agg #[]) w := by kernel_rfl

end Go.Proofs.YtiolplhgpodifaaGreat
