/- Which things a call changes: plain. Conditions: none. -/
import Derived.Test.YtghbphdipdjekaaGreatDoorDo
import Derived.Test.YtghbphdipdjekaaGreatDoorQa
import Derived.Test.YtghbphdipdjekaaGreatDoorSq
import Derived.Test.YtghbphdipdjekaaGreatDoorTi
import Derived.Test.YtghbphdipdjekaaGreatDoorQs
set_option linter.unusedVariables false
set_option linter.unusedSimpArgs false
namespace Drw
open Go Go.RowKit

/-- The places (from 1 on) at which two lists of things are not the same. -/
def diffs (us ts : List Thg) (n : Nat) : List Int := ((List.range n).filter (fun (i : Nat) => decide (getT us ((i : Int) + 1) ≠ getT ts ((i : Int) + 1)))).map (fun (i : Nat) => (i : Int) + 1)
def movesD (ts : List Thg) (c : Cal) : List Int := if calCan ts c then diffs (do2 ts c).1 ts ts.length else []
theorem diffs_succ (us ts : List Thg) (n : Nat) : diffs us ts (n + 1) = if getT us ((n : Int) + 1) = getT ts ((n : Int) + 1) then diffs us ts n else diffs us ts n ++ [(n : Int) + 1] := by
  unfold diffs
  rw [List.range_succ, List.filter_append, List.map_append]
  by_cases h : getT us ((n : Int) + 1) = getT ts ((n : Int) + 1)
  · simp [h]
  · simp [h]
theorem diffs_len (us ts : List Thg) (n : Nat) : (diffs us ts n).length ≤ n := by
  unfold diffs
  rw [List.length_map]
  exact Nat.le_trans (List.length_filter_le _ _) (by simp)
theorem mem_diffs {us ts : List Thg} {n : Nat} {i : Nat} (h : i < n) : ((i : Int) + 1) ∈ diffs us ts n ↔ getT us ((i : Int) + 1) ≠ getT ts ((i : Int) + 1) := by
  unfold diffs
  simp only [List.mem_map, List.mem_filter, List.mem_range, decide_eq_true_eq]
  constructor
  · rintro ⟨k, ⟨hk, hd⟩, e⟩
    obtain rfl : k = i := by omega
    exact hd
  · intro hd
    exact ⟨i, ⟨h, hd⟩, rfl⟩
theorem diffs_bd {us ts : List Thg} {n : Nat} {x : Int} (h : x ∈ diffs us ts n) : ∃ i : Nat, i < n ∧ x = (i : Int) + 1 ∧ getT us ((i : Int) + 1) ≠ getT ts ((i : Int) + 1) := by
  unfold diffs at h
  simp only [List.mem_map, List.mem_filter, List.mem_range, decide_eq_true_eq] at h
  obtain ⟨k, ⟨hk, hd⟩, e⟩ := h
  exact ⟨k, hk, e.symm, hd⟩
/-- P42: what a call changes, besides its runner, is touched by it, but for what a gate does. -/
theorem law_moves {ts : List Thg} {c : Cal} (h : CanB ts c) {x : Int} (hx : x ∈ movesD ts c) : ex ts x = true ∧ (x = c.run ∨ c.kind = 9 ∨ touches ts c.run x = true) := by
  unfold movesD at hx
  rw [if_pos (canB.2 h)] at hx
  obtain ⟨i, hi, rfl, hd⟩ := diffs_bd hx
  have hex : ex ts ((i : Int) + 1) = true := by simp [ex, inR]; omega
  refine ⟨hex, ?_⟩
  by_cases h1 : (i : Int) + 1 = c.run
  · exact .inl h1
  by_cases h9 : c.kind = 9
  · exact .inr (.inl h9)
  refine .inr (.inr ?_)
  apply Classical.byContradiction
  intro ht
  apply hd
  by_cases h2 : (i : Int) + 1 = (slotOf ts c).thing
  · rw [do2_ne h hex h1]
    by_cases h0 : check1 ts c = 0
    · by_cases h3 : c.kind = 3
      · rw [do1_copy h3]
        exact getT_ne _ (ex_iff.1 h.ex).1 (ex_iff.1 hex).1 h1
      · obtain ⟨z1, z2, z3, z4, z5⟩ := check_zero h0 h3
        have hw : needWr c.kind = false := by
          cases hw : needWr c.kind
          · rfl
          · exact absurd (h2 ▸ (z4 hw).2) ht
        cases hl : live ts (slotOf ts c)
        · rw [do1_gone h0 h3 hl]
        · rw [do1_live h0 h3 hl]
          have hk : c.kind = 1 ∨ c.kind = 4 := by
            simp only [needWr, Bool.not_eq_false', Bool.or_eq_true, beq_iff_eq] at hw
            exact hw
          rcases hk with hk | hk
          · simp [act, hk]
          · simp only [act, hk]
            exact getT_ne _ (ex_iff.1 h.ex).1 (ex_iff.1 hex).1 h1
    · rw [do1_bad h0]
  · exact law_touch h hex h1 h2 (fun e => absurd e h9)
end Drw

/- Which things a call changes, told by the program and by the reference. Conditions: the table lies where its cells say; errors.errorType is laid. -/
namespace Go.Proofs.YtghbphdipdjekaaGreatDoor
open Go.RowKit Drw
attribute [local go_sem] Lab.val Rgt.val Cal.val Thg.val

theorem callPossible_u {p : Option Addr} {cap : Nat} {ts : List Thg} {c : Cal} {w : World} {v : Bool} (hT : TabAt w (.slice p ts.length cap) ts) (h : calCan ts c = v) :
    Calls Tryz.prog 69 #[.slice p ts.length cap, c.val] w fun e w' => e = .returned (.bool v) ∧ Below w.heap.size w w' := by
  rw [← h]; exact callPossible_c p cap ts c w hT
theorem scallDo_o {p : Option Addr} {cap : Nat} {ts us : List Thg} {c : Cal} {an : Int} {w : World} (hT : TabAt w (.slice p ts.length cap) ts) (h : callDo ts c = (us, an)) :
    Calls Tryz.prog 39 #[.slice p ts.length cap, c.val] w fun e w' => ∃ q k xs tag, e = .returned (.tuple #[.slice q us.length k, .int .i64 an]) ∧ OwnTab w' (fun b => w.heap.size ≤ b) tag (.slice q us.length k) xs ∧ xs.map (·.1) = us ∧ Below w.heap.size w w' := by
  refine (scallDo_c p cap ts c w hT).mono ?_
  rintro e w' ⟨v, xs, tag, rfl, hO, hx, hb⟩
  have hA := hO.at'
  rw [hx, h] at hA
  obtain ⟨q, k, rfl, -, -⟩ := hA.len
  exact ⟨q, k, xs, tag, by rw [h], hO, by rw [hx, h], hb⟩
theorem l3Thing_v {t : Thg} {v sva qva : Value} {s : ByteArray} {w : World} (hv : v = t.val sva qva) (h : bs (thgTxt t) = s) (ht : thgOk t = true) (hs : RgtsAt w sva t.slots) (hq : IntsAt w qva t.queue) :
    Calls Tryz.prog 79 #[v] w fun e w' => e = .returned (.string s) ∧ Below w.heap.size w w' := by
  subst hv; subst h; exact l3Thing_c t sva qva w ht hs hq
theorem sameThing_v {ta tb : Thg} {va vb sva qva svb qvb : Value} {v : Bool} {w : World} (hva : va = ta.val sva qva) (hvb : vb = tb.val svb qvb) (h : decide (ta = tb) = v) (hsa : RgtsAt w sva ta.slots) (hqa : IntsAt w qva ta.queue) (hsb : RgtsAt w svb tb.slots) (hqb : IntsAt w qvb tb.queue) :
    Calls Tryz.prog 78 #[va, vb] w fun e w' => e = .returned (.bool v) ∧ Below w.heap.size w w' := by
  subst hva; subst hvb; subst h; exact sameThing_c ta tb sva qva svb qvb w hsa hqa hsb hqb
theorem txt_ne {a b : Thg} (ha : thgOk a = true) (hb : thgOk b = true) {x y : ByteArray} (hx : bs (thgTxt a) = x) (hy : bs (thgTxt b) = y) {d : Bool} (h : decide (a = b) = d) : (x.toList == y.toList) = d := by
  subst hx; subst hy; subst h
  rw [bs_toList, bs_toList]
  by_cases h : a = b
  · subst h; simp
  · have : thgTxt a ≠ thgTxt b := fun e => h (thgTxt_inj ha hb e)
    simp [h, this]

set_option maxRecDepth 100000 in
theorem ldAmong_c (xs : List Int) (n : Int) (v : Value) (w : World) (hx : IntsAt w v xs) :
    Calls Tryz.prog 35 #[v, .int .i64 n] w fun e w' => e = .returned (.bool (decide (n ∈ xs))) ∧ Below w.heap.size w w' := by
  obtain ⟨p, cap, rfl, hl, hm⟩ := hx.len
  unfold maxLen at hm
  have Hx := Lib.hid hx
  clear hx
  go_enter Tryz.func35, Tryz.ntmps35
  go_wp2
  go_loopw [5] (fun s5 wr => ∃ j : Nat, s5 = .int .i64 (j : Int) ∧ j ≤ xs.length ∧ n ∉ xs.take j ∧ Below w.heap.size w wr) (fun s5 _ => xs.length - (intOf s5).toNat)
  case atStart => exact ⟨0, rfl, by omega, by simp, Below.refl _ _⟩
  case round =>
    obtain ⟨j, rfl, hj, hnot, hBr⟩ := hrel
    have Hnot := Lib.hid hnot
    clear hnot
    by_cases hlt : j < xs.length
    · have hlt1 : (j : Int) < (xs.length : Int) := by omega
      have h00 : (0 : Int) ≤ (j : Int) := by omega
      obtain ⟨x, hxj⟩ : ∃ x, xs[j]? = some x := ⟨_, List.getElem?_eq_getElem hlt⟩
      obtain ⟨b1, o1, rfl, hb1, p0⟩ := (Hx.out.pure hBr).at j x hxj
      have Hxj := Lib.hid hxj
      clear hxj
      by_cases he : x = n
      · subst he
        go_wp2
        go_ret
        exact ⟨ret_bool (by simp [List.mem_of_getElem? Hxj.out]), hBr⟩
      · go_wp2
        refine ⟨⟨j + 1, by go_num, by omega, ?_, hBr⟩, by simp [intOf]; omega⟩
        rw [List.take_add_one, Hxj.out]
        simp only [Option.toList_some, List.mem_append, List.mem_singleton, not_or]
        exact ⟨Hnot.out, fun e => he e.symm⟩
    · have hj : j = xs.length := by omega
      have hnl : ¬ (j : Int) < (xs.length : Int) := by omega
      have hn := Hnot.out
      rw [hj, List.take_length] at hn
      have Hn := Lib.hid hn
      clear hn hj
      go_wp2
      go_ret
      exact ⟨ret_bool (by simp [Hn.out]), hBr⟩
theorem ldAmong_t {xs : List Int} {n : Int} {v : Value} {d : Bool} {w : World} (hx : IntsAt w v xs) (h : decide (n ∈ xs) = d) :
    Calls Tryz.prog 35 #[v, .int .i64 n] w fun e w' => e = .returned (.bool d) ∧ Below w.heap.size w w' := by
  subst h; exact ldAmong_c xs n v w hx

set_option maxRecDepth 100000 in
set_option maxHeartbeats 4000000 in
theorem callMoves_own (p : Option Addr) (cap : Nat) (ts : List Thg) (c : Cal) (w : World) (hL : Laid w) (hT : TabAt w (.slice p ts.length cap) ts) :
    Calls Tryz.prog 32 #[.slice p ts.length cap, c.val] w fun e w' => ∃ q k, e = .returned (.slice q (movesD ts c).length k) ∧ w'.ownsRow w.heap.size 3 1 (.slice q (movesD ts c).length k) (movesD ts c).length (((movesD ts c).map intCells).flatten) ∧ Below w.heap.size w w' := by
  obtain ⟨_, _, h1, hl1, hl2⟩ := hT.len
  cases h1
  unfold maxLen at hl2
  have HT := Lib.hid hT
  have HL := Lib.hid hL
  clear hT hL
  obtain ⟨can, hcan⟩ : ∃ b, calCan ts c = b := ⟨_, rfl⟩
  have Hcan := Lib.hid hcan
  obtain ⟨us, an, hdo⟩ : ∃ us an, callDo ts c = (us, an) := ⟨_, _, rfl⟩
  have Hdo := Lib.hid hdo
  obtain ⟨k0, k1, k2, k3, k4⟩ := c
  cases can
  · have hr : movesD ts ⟨k0, k1, k2, k3, k4⟩ = [] := by unfold movesD; rw [hcan]; rfl
    have hus : us = [] := by
      have : callDo ts ⟨k0, k1, k2, k3, k4⟩ = ([], -1) := by unfold callDo; rw [hcan]; rfl
      rw [hdo] at this
      exact (Prod.mk.inj this).1
    subst hus
    have Hr := Lib.hid hr
    clear hcan hdo hr
    rw [Hr.out]
    go_enter Tryz.func32, Tryz.ntmps32
    go_wp2_with (go_at_call 69; refine (callPossible_u (c := ⟨_, _, _, _, _⟩) (HT.out.pure (by (repeat (with_reducible first | exact Below.refl _ _ | refine Below.alloc ?_ ?_ _ | refine below_drewN ?_ _ | refine Below.drew ?_ | refine Below.setCell ?_ ?_ _ | refine Below.trans ?_ (Below.mono (by assumption) ?_))) <;> (first | omega | (simp; try omega)))) Hcan.out).mono ?_; rintro e w1 ⟨rfl, hb1⟩)
    go_ret
    exact ⟨_, _, rfl, ⟨by simp, .inl ⟨rfl, by simp⟩⟩, (by (repeat (with_reducible first | exact Below.refl _ _ | refine Below.alloc ?_ ?_ _ | refine below_drewN ?_ _ | refine Below.drew ?_ | refine Below.setCell ?_ ?_ _ | refine Below.trans ?_ (Below.mono (by assumption) ?_))) <;> (first | omega | (simp; try omega)))⟩
  · have hB := canB.1 hcan
    have hus : us = (do2 ts ⟨k0, k1, k2, k3, k4⟩).1 := by
      rw [callDo_can hB] at hdo
      exact (congrArg Prod.fst hdo).symm
    have hsm := (do2_fine hB).same
    rw [← hus] at hsm
    have hul : us.length = ts.length := hsm.len
    have hutab : tabOk us = true := by rw [hus]; exact (do2_fine hB).tab
    have httab : tabOk ts = true := hB.tab
    have h8 : ts.length ≤ 8 := by
      have := httab
      simp only [tabOk, Bool.and_eq_true, inR, decide_eq_true_eq] at this
      omega
    have hr : movesD ts ⟨k0, k1, k2, k3, k4⟩ = diffs us ts ts.length := by unfold movesD; rw [hcan, if_pos rfl, ← hus]
    have Hr := Lib.hid hr
    have Hul := Lib.hid hul
    have Hut := Lib.hid hutab
    have Htt := Lib.hid httab
    obtain ⟨i1, hi1, hy0, hy1, hy2⟩ := info_parts info_int
    clear hcan hdo hus hsm hul hutab httab hB hr
    rw [Hr.out]
    go_enter Tryz.func32, Tryz.ntmps32
    go_upto_region 4 with (first
      | (go_at_call 69; refine (callPossible_u (c := ⟨_, _, _, _, _⟩) (HT.out.pure (by (repeat (with_reducible first | exact Below.refl _ _ | refine Below.alloc ?_ ?_ _ | refine below_drewN ?_ _ | refine Below.drew ?_ | refine Below.setCell ?_ ?_ _ | refine Below.trans ?_ (Below.mono (by assumption) ?_))) <;> (first | omega | (simp; try omega)))) Hcan.out).mono ?_; rintro e w1 ⟨rfl, hb1⟩; obtain ⟨hc1, hf1⟩ := bcell hb1; have hz1 : w.heap.size < w1.heap.size := (by have := hb1.size; simp at this; omega); have hB1 : Below w.heap.size w w1 := (by (repeat (with_reducible first | exact Below.refl _ _ | refine Below.alloc ?_ ?_ _ | refine below_drewN ?_ _ | refine Below.drew ?_ | refine Below.setCell ?_ ?_ _ | refine Below.trans ?_ (Below.mono (by assumption) ?_))) <;> (first | omega | (simp; try omega))))
      | (go_at_call 26; refine (callDo_t (c := ⟨_, _, _, _, _⟩) (HL.out.pure hB1) (HT.out.pure hB1) Hdo.out).mono ?_; rintro e w2 ⟨q2, cap2, rfl, hU, hb2⟩))
    have hB2 : Below w.heap.size w w2 := hB1.trans (hb2.mono hB1.size)
    obtain ⟨_, _, h2, hm1, hm2⟩ := hU.len
    cases h2
    unfold maxLen at hm2
    rw [Hul.out] at hU hm1
    obtain ⟨wx, rfl⟩ : ∃ wy : World, wy = w2 := ⟨_, rfl⟩
    have HB2 := Lib.hid hB2
    have HU := Lib.hid hU
    have HT2 := Lib.hid (HT.out.pure hB2)
    clear hb1 hc1 hf1 hb2 hU hB1 hB2
    rw [Hul.out]
    go_wp2
    go_loopw [7, 21] (fun s5 s8 wr => ∃ i : Nat, s8 = .int .i64 (i : Int) ∧ i ≤ ts.length ∧ wr.ownsRow wx.heap.size 3 1 s5 (diffs us ts i).length (((diffs us ts i).map intCells).flatten) ∧ Below wx.heap.size wx wr) (fun _ s8 _ => ts.length - (intOf s8).toNat)
    case atStart => exact ⟨0, rfl, by omega, ⟨by simp [diffs], .inl ⟨rfl, by simp [diffs]⟩⟩, (by (repeat (with_reducible first | exact Below.refl _ _ | refine Below.alloc ?_ ?_ _ | refine below_drewN ?_ _ | refine Below.drew ?_ | refine Below.setCell ?_ ?_ _ | refine Below.trans ?_ (Below.mono (by assumption) ?_))) <;> (first | omega | (simp; try omega)))⟩
    case round =>
      obtain ⟨i, rfl, hi, hown, hBr⟩ := hrel
      have hle := diffs_len us ts i
      obtain ⟨fl, hfl⟩ : ∃ fl, diffs us ts i = fl := ⟨_, rfl⟩
      rw [hfl] at hown hle
      have Hfl := Lib.hid hfl
      have Hown := Lib.hid hown
      obtain ⟨q7, c7, rfl⟩ := own_slice_n hown
      have HBr := Lib.hid hBr
      have hzr := hBr.size
      have hBw : Below w.heap.size w wr := HB2.out.trans (hBr.mono HB2.out.size)
      have HBw := Lib.hid hBw
      obtain ⟨wr', rfl⟩ : ∃ wy : World, wy = wr := ⟨_, rfl⟩
      by_cases hlt : i < ts.length
      · have hlt0 : i < us.length := by rw [Hul.out]; exact hlt
        obtain ⟨ta, hta⟩ : ∃ t, ts[i]? = some t := ⟨_, List.getElem?_eq_getElem hlt⟩
        obtain ⟨tb, htb⟩ : ∃ t, us[i]? = some t := ⟨_, List.getElem?_eq_getElem hlt0⟩
        have hUr : TabAt wr' (.slice q2 ts.length cap2) us := HU.out.pure hBr
        have hTr := HT2.out.pure hBr
        obtain ⟨b1, o1, sv1, qv1, rfl, hb1, hS1, hQ1, p0, p1, p2, p3, p4, p5, p6, p7⟩ := hTr.at i ta hta
        obtain ⟨b2, o2, sv2, qv2, rfl, hb2, hS2, hQ2, q0, q1, q2', q3, q4, q5, q6, q7'⟩ := hUr.at i tb htb
        obtain ⟨dd, hdd⟩ : ∃ d, decide (ta = tb) = d := ⟨_, rfl⟩
        have hta1 : thgOk ta = true := ((tab_iff.1 Htt.out).2 _ (ex_at hlt)).1 |> fun h => by rw [getT_at hta] at h; exact h
        have htb1 : thgOk tb = true := ((tab_iff.1 Hut.out).2 _ (ex_at hlt0)).1 |> fun h => by rw [getT_at htb] at h; exact h
        have hns : diffs us ts (i + 1) = if dd then fl else fl ++ [(i : Int) + 1] := by
          rw [diffs_succ, hfl, getT_at hta, getT_at htb, ← hdd]
          by_cases h : ta = tb
          · subst h; simp
          · rw [if_neg (fun e => h e.symm)]; simp [h]
        have Hns := Lib.hid hns
        have Hdd := Lib.hid hdd
        have Ha1 := Lib.hid hta1
        have Hb1 := Lib.hid htb1
        have h00 : (0 : Int) ≤ (i : Int) := by omega
        have hju : (i : Int) < (ts.length : Int) := by omega
        have hw1 : IntKind.i64.wrap ((i : Int) + 1) = (i : Int) + 1 := IntWalk.i64_in _ (by omega)
        obtain ⟨k1, ⟨s1, l1⟩, ve1, nu1, sl1, qu1, tg1⟩ := ta
        obtain ⟨k2, ⟨s2, l2⟩, ve2, nu2, sl2, qu2, tg2⟩ := tb
        dsimp only at hS1 hQ1 hS2 hQ2 p0 p1 p2 p3 p4 p5 p6 p7 q0 q1 q2' q3 q4 q5 q6 q7'
        have HS := Lib.hid (show ∀ w' : World, Below wr'.heap.size wr' w' → (Below wr'.heap.size wr' w' ∧ w'.cell? ⟨b1, o1 + i * 8, none⟩ = some (.int .i64 k1) ∧ w'.cell? ⟨b1, o1 + i * 8 + 1, none⟩ = some (.int .i64 s1) ∧ w'.cell? ⟨b1, o1 + i * 8 + 2, none⟩ = some (.int .i64 l1) ∧ w'.cell? ⟨b1, o1 + i * 8 + 3, none⟩ = some (.int .i64 ve1) ∧ w'.cell? ⟨b1, o1 + i * 8 + 4, none⟩ = some (.int .i64 nu1) ∧ w'.cell? ⟨b1, o1 + i * 8 + 5, none⟩ = some (sv1) ∧ w'.cell? ⟨b1, o1 + i * 8 + 6, none⟩ = some (qv1) ∧ w'.cell? ⟨b1, o1 + i * 8 + 7, none⟩ = some (.int .i64 tg1) ∧ w'.cell? ⟨b2, o2 + i * 8, none⟩ = some (.int .i64 k2) ∧ w'.cell? ⟨b2, o2 + i * 8 + 1, none⟩ = some (.int .i64 s2) ∧ w'.cell? ⟨b2, o2 + i * 8 + 2, none⟩ = some (.int .i64 l2) ∧ w'.cell? ⟨b2, o2 + i * 8 + 3, none⟩ = some (.int .i64 ve2) ∧ w'.cell? ⟨b2, o2 + i * 8 + 4, none⟩ = some (.int .i64 nu2) ∧ w'.cell? ⟨b2, o2 + i * 8 + 5, none⟩ = some (sv2) ∧ w'.cell? ⟨b2, o2 + i * 8 + 6, none⟩ = some (qv2) ∧ w'.cell? ⟨b2, o2 + i * 8 + 7, none⟩ = some (.int .i64 tg2)) from
          fun w' h => by
            obtain ⟨hc', -⟩ := bcell h
            exact ⟨h, (hc' _ _ hb1).trans p0, (hc' _ _ hb1).trans p1, (hc' _ _ hb1).trans p2, (hc' _ _ hb1).trans p3, (hc' _ _ hb1).trans p4, (hc' _ _ hb1).trans p5, (hc' _ _ hb1).trans p6, (hc' _ _ hb1).trans p7, (hc' _ _ hb2).trans q0, (hc' _ _ hb2).trans q1, (hc' _ _ hb2).trans q2', (hc' _ _ hb2).trans q3, (hc' _ _ hb2).trans q4, (hc' _ _ hb2).trans q5, (hc' _ _ hb2).trans q6, (hc' _ _ hb2).trans q7'⟩)
        have HS1 := Lib.hid hS1
        have HQ1 := Lib.hid hQ1
        have HS2 := Lib.hid hS2
        have HQ2 := Lib.hid hQ2
        clear hfl hown hta htb hUr hTr hS1 hQ1 hS2 hQ2 hdd hta1 htb1 hns hBw hBr p0 p1 p2 p3 p4 p5 p6 p7 q0 q1 q2' q3 q4 q5 q6 q7' hlt0
        go_upto_region 8 with (fail)
        go_cut [33] (fun sC wy => sC = .bool (!dd) ∧ Below wr'.heap.size wr' wy)
        case first =>
          first | (go_region_held3 (fun w' => Below wr'.heap.size wr' w' ∧ w'.cell? ⟨b1, o1 + i * 8, none⟩ = some (.int .i64 k1) ∧ w'.cell? ⟨b1, o1 + i * 8 + 1, none⟩ = some (.int .i64 s1) ∧ w'.cell? ⟨b1, o1 + i * 8 + 2, none⟩ = some (.int .i64 l1) ∧ w'.cell? ⟨b1, o1 + i * 8 + 3, none⟩ = some (.int .i64 ve1) ∧ w'.cell? ⟨b1, o1 + i * 8 + 4, none⟩ = some (.int .i64 nu1) ∧ w'.cell? ⟨b1, o1 + i * 8 + 5, none⟩ = some (sv1) ∧ w'.cell? ⟨b1, o1 + i * 8 + 6, none⟩ = some (qv1) ∧ w'.cell? ⟨b1, o1 + i * 8 + 7, none⟩ = some (.int .i64 tg1) ∧ w'.cell? ⟨b2, o2 + i * 8, none⟩ = some (.int .i64 k2) ∧ w'.cell? ⟨b2, o2 + i * 8 + 1, none⟩ = some (.int .i64 s2) ∧ w'.cell? ⟨b2, o2 + i * 8 + 2, none⟩ = some (.int .i64 l2) ∧ w'.cell? ⟨b2, o2 + i * 8 + 3, none⟩ = some (.int .i64 ve2) ∧ w'.cell? ⟨b2, o2 + i * 8 + 4, none⟩ = some (.int .i64 nu2) ∧ w'.cell? ⟨b2, o2 + i * 8 + 5, none⟩ = some (sv2) ∧ w'.cell? ⟨b2, o2 + i * 8 + 6, none⟩ = some (qv2) ∧ w'.cell? ⟨b2, o2 + i * 8 + 7, none⟩ = some (.int .i64 tg2))
            (first | assumption | exact HS.out _ (Below.refl _ _) | exact HS.out _ (Below.drew (Below.refl _ _)) | (have hX := And.left (by assumption : Below wr'.heap.size wr' _ ∧ _); exact HS.out _ (hX.trans (hb3.mono hX.size))))
            (first | (go_at_call 78; have hX := And.left (by assumption : Below wr'.heap.size wr' _ ∧ _); with_reducible refine (sameThing_v (va := .agg #[.int .i64 k1, .int .i64 s1, .int .i64 l1, .int .i64 ve1, .int .i64 nu1, sv1, qv1, .int .i64 tg1]) (vb := .agg #[.int .i64 k2, .int .i64 s2, .int .i64 l2, .int .i64 ve2, .int .i64 nu2, sv2, qv2, .int .i64 tg2]) (ta := ⟨k1, ⟨s1, l1⟩, ve1, nu1, sl1, qu1, tg1⟩) (tb := ⟨k2, ⟨s2, l2⟩, ve2, nu2, sl2, qu2, tg2⟩) rfl rfl Hdd.out (HS1.out.pure hX) (HQ1.out.pure hX) (HS2.out.pure hX) (HQ2.out.pure hX)).mono ?_; rintro e w3 ⟨rfl, hb3⟩))) | fail
          all_goals (go_wp2; go_meet; exact ⟨rfl, And.left (by assumption : Below wr'.heap.size wr' _ ∧ _)⟩)
        case rest =>
          obtain ⟨rfl, hBy⟩ := hcut
          obtain ⟨wy, rfl⟩ : ∃ wy : World, wy = wc := ⟨_, rfl⟩
          have HBy := Lib.hid hBy
          have hzy := hBy.size
          clear hBy
          cases dd
          · go_wp2_with (first | (at_builtin; refine wpList_append_rows rfl (.tmp 34) (.tmp 37) 32 rfl wx.heap.size 3 i1 _ 1 8 Tryz.underlying32 hi1 hy0 hy1 hy2 rfl (by decide) (.slice q7 fl.length c7) fl.length ((fl.map intCells).flatten) rfl (own_below (own_below Hown.out HBy.out) (by (repeat (with_reducible first | exact Below.refl _ _ | refine Below.alloc ?_ ?_ _ | refine below_drewN ?_ _ | refine Below.drew ?_ | refine Below.setCell ?_ ?_ _ | refine Below.trans ?_ (Below.mono (by assumption) ?_))) <;> (first | omega | (simp; try omega)))) (.slice (some ⟨wy.heap.size, 0, none⟩) 1 1) [intCells ((i : Int) + 1)] rfl (flat_ints [(i : Int) + 1]) (Rows.one (by intro i u hu; rcases i with _ | i <;> simp [intCells] at hu <;> (try subst hu) <;> simp [go_sem])) (by simp [maxLen] <;> omega) (by simp <;> omega) (by simp <;> omega) ?_; intro v4 w4 ho4 hg4))
            have hB4 : Below wx.heap.size wx w4 := Below.grown ((HBr.out.trans (HBy.out.mono (by omega))).alloc (by omega) _) hg4 (by simp <;> omega) (fun k hk => (Hown.out.lt k hk).1)
            have fin : w4.ownsRow wx.heap.size 3 1 v4 (diffs us ts (i + 1)).length (((diffs us ts (i + 1)).map intCells).flatten) := by
              rw [Hns.out]
              simpa using ho4
            have Fin := Lib.hid fin
            clear fin ho4 hg4
            go_wp2
            exact ⟨⟨i + 1, by go_num, by omega, Fin.out, hB4⟩, by simp [intOf]; omega⟩
          · go_wp2
            refine ⟨⟨i + 1, by go_num, by omega, ?_, HBr.out.trans (HBy.out.mono (by omega))⟩, by simp [intOf]; omega⟩
            rw [Hns.out]
            simpa using own_below Hown.out HBy.out
      · have hil : i = ts.length := by omega
        have hnl : ¬ (i : Int) < (ts.length : Int) := by omega
        have hflc := Hfl.out
        rw [hil] at hflc
        subst hflc
        clear Hfl hown hil hBw hBr
        go_wp2
        go_ret
        exact ⟨_, _, rfl, own_mono Hown.out HB2.out.size, HBw.out⟩
theorem callMoves_c (p : Option Addr) (cap : Nat) (ts : List Thg) (c : Cal) (w : World) (hL : Laid w) (hT : TabAt w (.slice p ts.length cap) ts) :
    Calls Tryz.prog 32 #[.slice p ts.length cap, c.val] w fun e w' => ∃ q k, e = .returned (.slice q (movesD ts c).length k) ∧ IntsAt w' (.slice q (movesD ts c).length k) (movesD ts c) ∧ Below w.heap.size w w' := by
  refine (callMoves_own p cap ts c w hL hT).mono ?_
  rintro e w' ⟨q, k, rfl, ho, hb⟩
  exact ⟨q, k, rfl, Rows.of_own (flat_ints _) (by rw [List.length_map]; exact ho), hb⟩

set_option maxRecDepth 100000 in
set_option maxHeartbeats 4000000 in
theorem scallMoves_c (p : Option Addr) (cap : Nat) (ts : List Thg) (c : Cal) (w : World) (hT : TabAt w (.slice p ts.length cap) ts) :
    Calls Tryz.prog 33 #[.slice p ts.length cap, c.val] w fun e w' => ∃ q k, e = .returned (.slice q (movesD ts c).length k) ∧ IntsAt w' (.slice q (movesD ts c).length k) (movesD ts c) ∧ Below w.heap.size w w' := by
  obtain ⟨_, _, h1, hl1, hl2⟩ := hT.len
  cases h1
  unfold maxLen at hl2
  have HT := Lib.hid hT

  clear hT
  obtain ⟨can, hcan⟩ : ∃ b, calCan ts c = b := ⟨_, rfl⟩
  have Hcan := Lib.hid hcan
  obtain ⟨us, an, hdo⟩ : ∃ us an, callDo ts c = (us, an) := ⟨_, _, rfl⟩
  have Hdo := Lib.hid hdo
  obtain ⟨k0, k1, k2, k3, k4⟩ := c
  cases can
  · have hr : movesD ts ⟨k0, k1, k2, k3, k4⟩ = [] := by unfold movesD; rw [hcan]; rfl
    have hus : us = [] := by
      have : callDo ts ⟨k0, k1, k2, k3, k4⟩ = ([], -1) := by unfold callDo; rw [hcan]; rfl
      rw [hdo] at this
      exact (Prod.mk.inj this).1
    subst hus
    have Hr := Lib.hid hr
    clear hcan hdo hr
    rw [Hr.out]
    go_enter Tryz.func33, Tryz.ntmps33
    go_upto_region 3 with (go_at_call 39; refine (scallDo_t (c := ⟨_, _, _, _, _⟩) (HT.out.pure (by (repeat (with_reducible first | exact Below.refl _ _ | refine Below.alloc ?_ ?_ _ | refine below_drewN ?_ _ | refine Below.drew ?_ | refine Below.setCell ?_ ?_ _ | refine Below.trans ?_ (Below.mono (by assumption) ?_))) <;> (first | omega | (simp; try omega)))) Hdo.out).mono ?_; rintro e w1 ⟨q1, cap1, rfl, -, hb1⟩)
    have hB1 : Below w.heap.size w w1 := (by (repeat (with_reducible first | exact Below.refl _ _ | refine Below.alloc ?_ ?_ _ | refine below_drewN ?_ _ | refine Below.drew ?_ | refine Below.setCell ?_ ?_ _ | refine Below.trans ?_ (Below.mono (by assumption) ?_))) <;> (first | omega | (simp; try omega)))
    have hlit : (w.alloc (.cells #[.int .i64 k0, .int .i64 k1, .int .i64 k2, .int .i64 k3, .int .i64 k4] 37)).heap.size = w.heap.size + 1 := by simp
    have HB1 := Lib.hid hB1
    clear hb1 hB1 hlit
    go_wp2
    go_loopw [5, 8] (fun s5 s8 wr => s8 = .int .i64 0 ∧ (∃ q, s5 = .slice q 0 0) ∧ Below w1.heap.size w1 wr) (fun _ _ _ => 0)
    case atStart => exact ⟨rfl, ⟨_, rfl⟩, Below.refl _ _⟩
    case round =>
      obtain ⟨rfl, ⟨q, rfl⟩, hBr⟩ := hrel
      go_wp2
      go_ret
      exact ⟨_, _, rfl, ⟨_, _, rfl, by simp, by simp, .inl rfl⟩, HB1.out.trans (hBr.mono HB1.out.size)⟩
  · have hB := canB.1 hcan
    have hus : us = (do2 ts ⟨k0, k1, k2, k3, k4⟩).1 := by
      rw [callDo_can hB] at hdo
      exact (congrArg Prod.fst hdo).symm
    have hsm := (do2_fine hB).same
    rw [← hus] at hsm
    have hul : us.length = ts.length := hsm.len
    have hutab : tabOk us = true := by rw [hus]; exact (do2_fine hB).tab
    have httab : tabOk ts = true := hB.tab
    have h8 : ts.length ≤ 8 := by
      have := httab
      simp only [tabOk, Bool.and_eq_true, inR, decide_eq_true_eq] at this
      omega
    have hr : movesD ts ⟨k0, k1, k2, k3, k4⟩ = diffs us ts ts.length := by unfold movesD; rw [hcan, if_pos rfl, ← hus]
    have Hr := Lib.hid hr
    have Hul := Lib.hid hul
    have Hut := Lib.hid hutab
    have Htt := Lib.hid httab
    obtain ⟨i1, hi1, hy0, hy1, hy2⟩ := info_parts info_int
    clear hcan hdo hus hsm hul hutab httab hB hr
    rw [Hr.out]
    go_enter Tryz.func33, Tryz.ntmps33
    go_upto_region 2 with (fail)
    generalize hwa : World.alloc _ _ = wa
    have hBa : Below w.heap.size w wa := by rw [← hwa]; exact (by (repeat (with_reducible first | exact Below.refl _ _ | refine Below.alloc ?_ ?_ _ | refine below_drewN ?_ _ | refine Below.drew ?_ | refine Below.setCell ?_ ?_ _ | refine Below.trans ?_ (Below.mono (by assumption) ?_))) <;> (first | omega | (simp; try omega)))
    have hza : wa.heap.size = w.heap.size + 1 + 1 := by rw [← hwa]; simp
    have hlit : wa.ownsRow w.heap.size 3 1 (.slice (some ⟨w.heap.size + 1, 0, none⟩) 0 0) 0 [] := by rw [← hwa]; exact own_lit (w.heap.size + 1) (by simp) (Nat.le_succ _)
    have l0 : wa.cell? ⟨w.heap.size, 0, none⟩ = some (.int .i64 k0) := by rw [← hwa]; simp [go_sem]
    have l1 : wa.cell? ⟨w.heap.size, 1, none⟩ = some (.int .i64 k1) := by rw [← hwa]; simp [go_sem]
    have l2 : wa.cell? ⟨w.heap.size, 2, none⟩ = some (.int .i64 k2) := by rw [← hwa]; simp [go_sem]
    have l3 : wa.cell? ⟨w.heap.size, 3, none⟩ = some (.int .i64 k3) := by rw [← hwa]; simp [go_sem]
    have l4 : wa.cell? ⟨w.heap.size, 4, none⟩ = some (.int .i64 k4) := by rw [← hwa]; simp [go_sem]
    have Hlit := Lib.hid hlit
    have HBa := Lib.hid hBa
    have Hza := Lib.hid hza
    clear hwa hlit hBa hza
    go_upto_region 3 with (go_at_call 39; refine (scallDo_o (c := ⟨_, _, _, _, _⟩) (HT.out.pure HBa.out) Hdo.out).mono ?_; rintro e w2 ⟨q2, cap2, xs, tag, rfl, hO, hxs, hb2⟩)
    have hB2 : Below w.heap.size w w2 := HBa.out.trans (hb2.mono HBa.out.size)
    have hR0 : RunI w.heap.size (.slice q2 us.length cap2) us (.slice (some ⟨w.heap.size + 1, 0, none⟩) 0 0) [] w2 := by
      refine ⟨xs, tag, hO.imp fun b hb _ => ⟨⟨?_, fun e => ?_⟩, rfl⟩, hxs, own_below Hlit.out hb2⟩
      · have := Hza.out
        omega
      · simp [Value.ownBlock] at e
        have := Hza.out
        omega
    have HR0 := Lib.hid (Hul.out ▸ hR0)
    have HB2 := Lib.hid hB2
    clear hb2 hO hxs hB2 hR0 l0 l1 l2 l3 l4
    rw [Hul.out]
    obtain ⟨wx, rfl⟩ : ∃ wy : World, wy = w2 := ⟨_, rfl⟩
    have hzx := HB2.out.size
    go_wp2
    go_loopw [5, 8] (fun s5 s8 wr => ∃ i : Nat, s8 = .int .i64 (i : Int) ∧ i ≤ ts.length ∧ RunI w.heap.size (.slice q2 ts.length cap2) us s5 (diffs us ts i) wr ∧ Below w.heap.size w wr) (fun _ s8 _ => ts.length - (intOf s8).toNat)
    case atStart => exact ⟨0, rfl, by omega, by simpa [diffs] using HR0.out, HB2.out⟩
    case round =>
      obtain ⟨i, rfl, hi, hRI, hBr⟩ := hrel
      have hle := diffs_len us ts i
      obtain ⟨fl, hfl⟩ : ∃ fl, diffs us ts i = fl := ⟨_, rfl⟩
      rw [hfl] at hRI hle
      have Hfl := Lib.hid hfl
      have HRI := Lib.hid hRI
      have hUr0 : TabAt wr (.slice q2 ts.length cap2) us := by
        obtain ⟨xs, tag, hO, hxs, -⟩ := hRI
        have := hO.at'
        rw [hxs] at this
        exact this
      have hRI2 := hRI
      obtain ⟨_, _, _, _, hown⟩ := hRI2
      have Hown := Lib.hid hown
      obtain ⟨q7, c7, rfl⟩ := own_slice_n hown
      have HBr := Lib.hid hBr
      have hzr := hBr.size
      have hBw : Below w.heap.size w wr := hBr
      have HBw := Lib.hid hBw
      obtain ⟨wr', rfl⟩ : ∃ wy : World, wy = wr := ⟨_, rfl⟩
      by_cases hlt : i < ts.length
      · have hlt0 : i < us.length := by rw [Hul.out]; exact hlt
        obtain ⟨ta, hta⟩ : ∃ t, ts[i]? = some t := ⟨_, List.getElem?_eq_getElem hlt⟩
        obtain ⟨tb, htb⟩ : ∃ t, us[i]? = some t := ⟨_, List.getElem?_eq_getElem hlt0⟩
        have hUr : TabAt wr' (.slice q2 ts.length cap2) us := hUr0
        have hTr := HT.out.pure hBr
        obtain ⟨b1, o1, sv1, qv1, rfl, hb1, hS1, hQ1, p0, p1, p2, p3, p4, p5, p6, p7⟩ := hTr.at i ta hta
        obtain ⟨b2, o2, sv2, qv2, rfl, hb2, hS2, hQ2, q0, q1, q2', q3, q4, q5, q6, q7'⟩ := hUr.at i tb htb
        obtain ⟨dd, hdd⟩ : ∃ d, decide (ta = tb) = d := ⟨_, rfl⟩
        have hta1 : thgOk ta = true := ((tab_iff.1 Htt.out).2 _ (ex_at hlt)).1 |> fun h => by rw [getT_at hta] at h; exact h
        have htb1 : thgOk tb = true := ((tab_iff.1 Hut.out).2 _ (ex_at hlt0)).1 |> fun h => by rw [getT_at htb] at h; exact h
        have hns : diffs us ts (i + 1) = if dd then fl else fl ++ [(i : Int) + 1] := by
          rw [diffs_succ, hfl, getT_at hta, getT_at htb, ← hdd]
          by_cases h : ta = tb
          · subst h; simp
          · rw [if_neg (fun e => h e.symm)]; simp [h]
        have Hns := Lib.hid hns
        have Hdd := Lib.hid hdd
        have Ha1 := Lib.hid hta1
        have Hb1 := Lib.hid htb1
        have h00 : (0 : Int) ≤ (i : Int) := by omega
        have hju : (i : Int) < (ts.length : Int) := by omega
        have hw1 : IntKind.i64.wrap ((i : Int) + 1) = (i : Int) + 1 := IntWalk.i64_in _ (by omega)
        obtain ⟨x1, hx1⟩ : ∃ s, bs (thgTxt ta) = s := ⟨_, rfl⟩
        obtain ⟨x2, hx2⟩ : ∃ s, bs (thgTxt tb) = s := ⟨_, rfl⟩
        have hxx := txt_ne htb1 hta1 hx2 hx1 (d := dd) (by rw [← hdd]; by_cases h : ta = tb <;> simp [h, eq_comm])
        have Hx1 := Lib.hid hx1
        have Hx2 := Lib.hid hx2
        have Hxx := Lib.hid hxx
        clear hx1 hx2 hxx
        obtain ⟨k1, ⟨s1, l1⟩, ve1, nu1, sl1, qu1, tg1⟩ := ta
        obtain ⟨k2, ⟨s2, l2⟩, ve2, nu2, sl2, qu2, tg2⟩ := tb
        dsimp only at hS1 hQ1 hS2 hQ2 p0 p1 p2 p3 p4 p5 p6 p7 q0 q1 q2' q3 q4 q5 q6 q7'
        have HS := Lib.hid (show ∀ w' : World, Below wr'.heap.size wr' w' → (Below wr'.heap.size wr' w' ∧ w'.cell? ⟨b1, o1 + i * 8, none⟩ = some (.int .i64 k1) ∧ w'.cell? ⟨b1, o1 + i * 8 + 1, none⟩ = some (.int .i64 s1) ∧ w'.cell? ⟨b1, o1 + i * 8 + 2, none⟩ = some (.int .i64 l1) ∧ w'.cell? ⟨b1, o1 + i * 8 + 3, none⟩ = some (.int .i64 ve1) ∧ w'.cell? ⟨b1, o1 + i * 8 + 4, none⟩ = some (.int .i64 nu1) ∧ w'.cell? ⟨b1, o1 + i * 8 + 5, none⟩ = some (sv1) ∧ w'.cell? ⟨b1, o1 + i * 8 + 6, none⟩ = some (qv1) ∧ w'.cell? ⟨b1, o1 + i * 8 + 7, none⟩ = some (.int .i64 tg1) ∧ w'.cell? ⟨b2, o2 + i * 8, none⟩ = some (.int .i64 k2) ∧ w'.cell? ⟨b2, o2 + i * 8 + 1, none⟩ = some (.int .i64 s2) ∧ w'.cell? ⟨b2, o2 + i * 8 + 2, none⟩ = some (.int .i64 l2) ∧ w'.cell? ⟨b2, o2 + i * 8 + 3, none⟩ = some (.int .i64 ve2) ∧ w'.cell? ⟨b2, o2 + i * 8 + 4, none⟩ = some (.int .i64 nu2) ∧ w'.cell? ⟨b2, o2 + i * 8 + 5, none⟩ = some (sv2) ∧ w'.cell? ⟨b2, o2 + i * 8 + 6, none⟩ = some (qv2) ∧ w'.cell? ⟨b2, o2 + i * 8 + 7, none⟩ = some (.int .i64 tg2)) from
          fun w' h => by
            obtain ⟨hc', -⟩ := bcell h
            exact ⟨h, (hc' _ _ hb1).trans p0, (hc' _ _ hb1).trans p1, (hc' _ _ hb1).trans p2, (hc' _ _ hb1).trans p3, (hc' _ _ hb1).trans p4, (hc' _ _ hb1).trans p5, (hc' _ _ hb1).trans p6, (hc' _ _ hb1).trans p7, (hc' _ _ hb2).trans q0, (hc' _ _ hb2).trans q1, (hc' _ _ hb2).trans q2', (hc' _ _ hb2).trans q3, (hc' _ _ hb2).trans q4, (hc' _ _ hb2).trans q5, (hc' _ _ hb2).trans q6, (hc' _ _ hb2).trans q7'⟩)
        have HS1 := Lib.hid hS1
        have HQ1 := Lib.hid hQ1
        have HS2 := Lib.hid hS2
        have HQ2 := Lib.hid hQ2
        clear hfl hown hRI hUr0 hta htb hUr hTr hS1 hQ1 hS2 hQ2 hdd hta1 htb1 hns hBw hBr p0 p1 p2 p3 p4 p5 p6 p7 q0 q1 q2' q3 q4 q5 q6 q7' hlt0
        go_upto_region 6 with (fail)
        go_cut [32] (fun sC wy => sC = .bool (!dd) ∧ Below wr'.heap.size wr' wy)
        case first =>
          first | (go_region_held3 (fun w' => Below wr'.heap.size wr' w' ∧ w'.cell? ⟨b1, o1 + i * 8, none⟩ = some (.int .i64 k1) ∧ w'.cell? ⟨b1, o1 + i * 8 + 1, none⟩ = some (.int .i64 s1) ∧ w'.cell? ⟨b1, o1 + i * 8 + 2, none⟩ = some (.int .i64 l1) ∧ w'.cell? ⟨b1, o1 + i * 8 + 3, none⟩ = some (.int .i64 ve1) ∧ w'.cell? ⟨b1, o1 + i * 8 + 4, none⟩ = some (.int .i64 nu1) ∧ w'.cell? ⟨b1, o1 + i * 8 + 5, none⟩ = some (sv1) ∧ w'.cell? ⟨b1, o1 + i * 8 + 6, none⟩ = some (qv1) ∧ w'.cell? ⟨b1, o1 + i * 8 + 7, none⟩ = some (.int .i64 tg1) ∧ w'.cell? ⟨b2, o2 + i * 8, none⟩ = some (.int .i64 k2) ∧ w'.cell? ⟨b2, o2 + i * 8 + 1, none⟩ = some (.int .i64 s2) ∧ w'.cell? ⟨b2, o2 + i * 8 + 2, none⟩ = some (.int .i64 l2) ∧ w'.cell? ⟨b2, o2 + i * 8 + 3, none⟩ = some (.int .i64 ve2) ∧ w'.cell? ⟨b2, o2 + i * 8 + 4, none⟩ = some (.int .i64 nu2) ∧ w'.cell? ⟨b2, o2 + i * 8 + 5, none⟩ = some (sv2) ∧ w'.cell? ⟨b2, o2 + i * 8 + 6, none⟩ = some (qv2) ∧ w'.cell? ⟨b2, o2 + i * 8 + 7, none⟩ = some (.int .i64 tg2))
            (first | assumption | exact HS.out _ (Below.refl _ _) | exact HS.out _ (Below.drew (Below.refl _ _)) | (have hX := And.left (by assumption : Below wr'.heap.size wr' _ ∧ _); exact HS.out _ (hX.trans (hb3.mono hX.size))))
            (first
              | (go_at_call 79; have hX := And.left (by assumption : Below wr'.heap.size wr' _ ∧ _); with_reducible refine (l3Thing_v (v := .agg #[.int .i64 k1, .int .i64 s1, .int .i64 l1, .int .i64 ve1, .int .i64 nu1, sv1, qv1, .int .i64 tg1]) (t := ⟨k1, ⟨s1, l1⟩, ve1, nu1, sl1, qu1, tg1⟩) rfl Hx1.out Ha1.out (HS1.out.pure hX) (HQ1.out.pure hX)).mono ?_; rintro e w3 ⟨rfl, hb3⟩)
              | (go_at_call 79; have hX := And.left (by assumption : Below wr'.heap.size wr' _ ∧ _); with_reducible refine (l3Thing_v (v := .agg #[.int .i64 k2, .int .i64 s2, .int .i64 l2, .int .i64 ve2, .int .i64 nu2, sv2, qv2, .int .i64 tg2]) (t := ⟨k2, ⟨s2, l2⟩, ve2, nu2, sl2, qu2, tg2⟩) rfl Hx2.out Hb1.out (HS2.out.pure hX) (HQ2.out.pure hX)).mono ?_; rintro e w3 ⟨rfl, hb3⟩))) | fail
          all_goals (go_wp2; go_meet; exact ⟨by simp only [Hxx.out], And.left (by assumption : Below wr'.heap.size wr' _ ∧ _)⟩)
        case rest =>
          obtain ⟨rfl, hBy⟩ := hcut
          obtain ⟨wy, rfl⟩ : ∃ wy : World, wy = wc := ⟨_, rfl⟩
          have HBy := Lib.hid hBy
          have hzy := hBy.size
          clear hBy
          cases dd
          · go_wp2_with (first | (at_builtin; refine wpList_append_own_at _ rfl (.tmp 33) (.tmp 36) 32 rfl w.heap.size 3 i1 _ 1 8 Tryz.underlying32 hi1 hy0 hy1 hy2 rfl (by decide) (.slice q7 fl.length c7) fl.length ((fl.map intCells).flatten) rfl (own_below (own_below Hown.out HBy.out) (by (repeat (with_reducible first | exact Below.refl _ _ | refine Below.alloc ?_ ?_ _ | refine below_drewN ?_ _ | refine Below.drew ?_ | refine Below.setCell ?_ ?_ _ | refine Below.trans ?_ (Below.mono (by assumption) ?_))) <;> (first | omega | (simp; try omega)))) ⟨wy.heap.size, 0, none⟩ 1 1 [.int .i64 ((i : Int) + 1)] rfl rfl (cell_one_new _ _ _) (by intro u hu; rw [List.mem_singleton] at hu; subst hu; rfl) (by unfold maxLen; omega) (by omega) (by simp; omega) ?_; intro v4 w4 ho4 hg4 _ hat4))
            have hR5 := RunI.put ((HRI.out.chg HBy.out).chg ((Below.refl _ wy).alloc (Nat.le_refl _) _)) ho4 hg4 hat4
            have hB4 : Below w.heap.size w w4 := Below.grown ((HBr.out.trans (HBy.out.mono (by omega))).alloc (by omega) _) hg4 (by simp <;> omega) (fun k hk => (Hown.out.lt k hk).1)
            have fin : RunI w.heap.size (.slice (some ⟨b2, o2, none⟩) ts.length cap2) us v4 (diffs us ts (i + 1)) w4 := by
              rw [Hns.out]
              exact hR5
            have Fin := Lib.hid fin
            clear fin hR5 ho4 hg4 hat4
            go_wp2
            exact ⟨⟨i + 1, by go_num, by omega, Fin.out, hB4⟩, by simp [intOf]; omega⟩
          · go_wp2
            refine ⟨⟨i + 1, by go_num, by omega, ?_, HBr.out.trans (HBy.out.mono (by omega))⟩, by simp [intOf]; omega⟩
            rw [Hns.out]
            simpa using HRI.out.chg HBy.out
      · have hil : i = ts.length := by omega
        have hnl : ¬ (i : Int) < (ts.length : Int) := by omega
        have hflc := Hfl.out
        rw [hil] at hflc
        subst hflc
        clear Hfl hown hil hBw hBr hRI hUr0
        go_wp2
        go_ret
        exact ⟨_, _, rfl, Rows.of_own (flat_ints _) (by rw [List.length_map]; exact Hown.out), HBw.out⟩
end Go.Proofs.YtghbphdipdjekaaGreatDoor
