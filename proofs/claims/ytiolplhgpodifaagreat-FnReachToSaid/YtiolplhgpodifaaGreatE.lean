/- The iterator over all rights hands them over in order. Conditions: the things lie where the table says. -/
import Derived.Test.YtiolplhgpodifaaGreatC
import Derived.RangeFuncNested
import Derived.RangeFuncBound
import Derived.RangeFuncCalls
import Derived.RangeFuncLeaves
import Derived.Shelf.Abstract
import Derived.Shelf.RegionOpen
import Derived.OwnWalkIn
import Derived.TacticsInMore
import Derived.LoopNIn
import Derived.LoopIn
set_option linter.unusedVariables false
set_option linter.unusedSimpArgs false
namespace Go.Proofs.YtiolplhgpodifaaGreat
open Go.RowKit Drw Go.Shelf
attribute [local go_sem] Oper.semAt_some
attribute [local go_sem] Lab.val Rgt.val Cal.val Thg.val

def flat (ts : List Thg) : List Rgt := ts.flatMap (·.slots)
theorem flat_take_succ (ts : List Thg) (k : Nat) (h : k < ts.length) : flat (ts.take (k + 1)) = flat (ts.take k) ++ ts[k].slots := by
  unfold flat; rw [List.take_succ_eq_append_getElem h, List.flatMap_append]; simp

theorem take_snoc' {α : Type} (l : List α) (k : Nat) (x : α) (h : l[k]? = some x) : l.take (k + 1) = l.take k ++ [x] := by
  obtain ⟨hlt, rfl⟩ := List.getElem?_eq_some_iff.1 h
  rw [List.take_succ_eq_append_getElem hlt]
theorem flat_pre (ts : List Thg) (j : Nat) (tj : Thg) (h : ts[j]? = some tj) (k : Nat) : flat (ts.take j) ++ tj.slots.take k <+: flat ts := by
  obtain ⟨hlt, rfl⟩ := List.getElem?_eq_some_iff.1 h
  have e : flat ts = flat (ts.take j) ++ (ts[j].slots ++ flat (ts.drop (j + 1))) := by
    have h1 : ts = ts.take j ++ ts[j] :: ts.drop (j + 1) := by rw [← List.drop_eq_getElem_cons hlt, List.take_append_drop]
    have h2 := congrArg flat h1
    rw [h2]
    unfold flat
    rw [List.flatMap_append, List.flatMap_cons]
  rw [e]
  refine (List.prefix_append_right_inj _).2 ((List.take_prefix _ _).trans (List.prefix_append _ _))
theorem flat_take_succ' (ts : List Thg) (j : Nat) (tj : Thg) (h : ts[j]? = some tj) : flat (ts.take (j + 1)) = flat (ts.take j) ++ tj.slots := by
  obtain ⟨hlt, rfl⟩ := List.getElem?_eq_some_iff.1 h
  exact flat_take_succ ts j hlt

set_option maxRecDepth 100000 in
set_option maxHeartbeats 2000000 in
theorem allRights1_in (n l Bn n₀ : Nat) (p : Option Addr) (cap : Nat) (ts : List Thg) (hn : 1 ≤ n) (J Jx : List Rgt → World → Prop)
    (hJ : ∀ pre W o, J pre W → J pre (W.alloc o))
    (hY : ∀ pre x W, J pre W → pre.length < (flat ts).length → YieldAt Fence.wide (n - 1) Tryz.prog l #[Rgt.val x] W fun e W' =>
      (e = .returned (.bool true) ∧ J (pre ++ [x]) W' ∧ Below n₀ W W') ∨ (e = .returned (.bool false) ∧ Jx (pre ++ [x]) W'))
    (w₀ W : World) (hw₀ : w₀.heap.size = n₀) (hb₀ : Below n₀ w₀ W) (hBn : w₀.cell? ⟨Bn, 0, none⟩ = some (.slice p ts.length cap)) (hT : TabAt w₀ (.slice p ts.length cap) ts) (h0 : J [] W) :
    CallsIn Fence.wide n Tryz.prog 91 #[.func (.yield l) #[] #[], .pointer (some ⟨Bn, 0, none⟩)] W fun e W' => (∃ v, e = .returned v) ∧
      ((∃ ys, ys = flat ts ∧ J ys W') ∨ (∃ pre, pre <+: flat ts ∧ Jx pre W')) := by
  have hBlt : Bn < w₀.heap.size := World.block_lt_of_cell? w₀ _ hBn
  obtain ⟨_, _, h1, hl1, hl2⟩ := hT.len
  cases h1
  unfold maxLen at hl2
  have hcB : W.cell? ⟨Bn, 0, none⟩ = some (.slice p ts.length cap) := (hb₀.cell (p := ⟨Bn, 0, none⟩) (by simpa [hw₀] using hBlt)).trans hBn
  refine callsIn_of_wp Tryz.func91 rfl trivial ?_ rfl
  simp only [Tryz.ntmps91, List.size_toArray, List.length_cons, List.length_nil, Nat.reduceAdd, Nat.reduceSub, Array.replicate_succ, Array.replicate_zero, List.push_toArray, List.append_toArray, List.nil_append, List.cons_append]
  gi_wp2
  gi_loopw [9] (fun i wr => ∃ j : Nat, j ≤ ts.length ∧ i = .int .i64 j ∧ Below n₀ w₀ wr ∧ J (flat (ts.take j)) wr) (fun i _ => ts.length - (intOf i).toNat)
  case atStart => exact ⟨0, Nat.zero_le _, rfl, hb₀, h0⟩
  case round =>
    obtain ⟨j, hj, rfl, hbr, hJr⟩ := hrel
    by_cases hlt : j < ts.length
    · obtain ⟨tj, htj⟩ : ∃ t, ts[j]? = some t := ⟨ts[j], by simp [hlt]⟩
      have Htj := Lib.hid htj
      obtain ⟨b, o, sv, qv, rfl, hbk, hS, hQ, c0, c1, c2, c3, c4, c5, c6, c7⟩ := (hT.pure (by rw [hw₀]; exact hbr)).at j tj htj
      have hS0 : RgtsAt w₀ sv tj.slots := by
        obtain ⟨b', o', sv', qv', hp, _, hS', _, _, _, _, _, _, d5, _, _⟩ := hT.at j tj htj
        cases hp
        have := (hbr.cell (p := ⟨b, o + j * 8 + 5, none⟩) (by rw [← hw₀]; exact World.block_lt_of_cell? w₀ _ d5)).trans d5
        rw [c5] at this; cases this; exact hS'
      obtain ⟨p', cap', rfl, hl1', hl2'⟩ := hS.len
      obtain ⟨p'', cap'', rfl, hl1'', hl2''⟩ := hQ.len
      unfold maxLen at hl2'
      clear htj
      gi_wp2
      gi_loopw [16] (fun i wi => ∃ k : Nat, k ≤ tj.slots.length ∧ i = .int .i64 k ∧ Below n₀ w₀ wi ∧ J (flat (ts.take j) ++ tj.slots.take k) wi) (fun i _ => tj.slots.length - (intOf i).toNat)
      case atStart => exact ⟨0, Nat.zero_le _, rfl, hbr.trans ((Below.refl _ _).alloc (by rw [← hw₀]; exact hbr.size) _), by simpa using hJ _ _ _ hJr⟩
      case round =>
        obtain ⟨k, hk, rfl, hbi, hJi⟩ := hrel
        by_cases hlk : k < tj.slots.length
        · obtain ⟨r, hr⟩ : ∃ r, tj.slots[k]? = some r := ⟨tj.slots[k], by simp [hlk]⟩
          have Hr := Lib.hid hr
          have hlen : (flat (ts.take j) ++ tj.slots.take k).length < (flat ts).length := by
            have h2 := (flat_pre _ _ _ Htj.out (k + 1)).length_le
            rw [take_snoc' _ _ _ hr, ← List.append_assoc] at h2
            simp at h2 ⊢; omega
          obtain ⟨b', o', rfl, hbk', d0, d1, d2, d3, d4⟩ := (hS0.pure (by rw [hw₀]; exact hbi)).at k r hr
          clear hr
          obtain ⟨fn, tmps, assign, body, hy, hR⟩ := hY (flat (ts.take j) ++ tj.slots.take k) r (wr.alloc (.cells #[.int .i64 r.thing, .int .i64 r.vers, .bool r.rd, .bool r.wr, .bool r.wk] 35)) (hJ _ _ _ hJi) hlen
          dsimp only [Rgt.val] at hy
          gi_wp2
          refine hR.mono ?_
          rintro e W3 (⟨rfl, hJ3, hk3⟩ | ⟨rfl, hJx3⟩)
          · gi_wp2
            go_roundw
            case rel =>
              refine ⟨k + 1, by omega, by go_num, ?_, ?_⟩
              · exact (hbi.trans ((Below.refl _ _).alloc (by rw [← hw₀]; exact hbi.size) _)).trans hk3
              · rw [take_snoc' _ _ _ Hr.out, ← List.append_assoc]; exact hJ3
            case measure => simp [intOf]; omega
          · gi_wp2
            refine bodyPost_ret (v := .tuple #[]) (results_none (fn := Tryz.f91) (by rfl) _ _ _) rfl ⟨⟨_, rfl⟩, .inr ⟨_, ?_, hJx3⟩⟩
            rw [List.append_assoc, ← take_snoc' _ _ _ Hr.out]
            exact flat_pre _ _ _ Htj.out _
        · gi_wp2
          go_roundw
          case rel =>
            have e : k = tj.slots.length := by omega
            subst e
            exact ⟨j + 1, by omega, by go_num, hbi, by rw [flat_take_succ' _ _ _ Htj.out]; simpa using hJi⟩
          case measure => simp [intOf]; omega
    · gi_wp2
      go_end0
      have e : j = ts.length := by omega
      subst e
      exact ⟨⟨_, rfl⟩, .inl ⟨_, rfl, by simpa using hJr⟩⟩

end Go.Proofs.YtiolplhgpodifaaGreat
