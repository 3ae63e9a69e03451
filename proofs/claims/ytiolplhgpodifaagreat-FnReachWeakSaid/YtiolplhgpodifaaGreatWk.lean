/- A table whose runners have weak rights alone: it is a table, and by its rights nobody comes to write. Conditions: none. -/
import Derived.Test.YtiolplhgpodifaaGreatCo
set_option linter.unusedVariables false
set_option linter.unusedSimpArgs false
namespace Drw
open Go Go.RowKit
def wkR (r : Rgt) : Rgt := less r true true false
def weakT (t : Thg) : Thg := if t.kind = 3 then { t with slots := t.slots.map wkR } else t
theorem wkR_ok {r : Rgt} (h : rgtOk r = true) : rgtOk (wkR r) = true := by
  unfold wkR; rw [less, if_pos h]; exact less1_ok h _ _ _
theorem wkR_cap {ts : List Thg} {r : Rgt} (h : rgtOk r = true) (hc : capOk ts r = true) : capOk ts (wkR r) = true := by
  unfold wkR; rw [less, if_pos h]; exact less1_cap hc _ _ _
theorem wkR_weak {r : Rgt} (h0 : (wkR r).thing ≠ 0) : (wkR r).wk = true := by
  unfold wkR less at h0 ⊢
  split
  · rename_i hr
    rw [if_pos hr] at h0
    unfold less1 at h0 ⊢
    split
    · rename_i hz; rw [if_pos hz] at h0; exact absurd hz h0
    · simp
  · rename_i hr; rw [if_neg hr] at h0; exact absurd rfl h0
theorem weakT_kind (t : Thg) : (weakT t).kind = t.kind := by unfold weakT; split <;> rfl
theorem weakT_vers (t : Thg) : (weakT t).vers = t.vers := by unfold weakT; split <;> rfl
theorem weakT_to (t : Thg) : (weakT t).to = t.to := by unfold weakT; split <;> rfl
theorem weakT_zero : weakT Thg.zero = Thg.zero := by unfold weakT; rfl
theorem getT_weak (ts : List Thg) (i : Int) : getT (ts.map weakT) i = weakT (getT ts i) := by
  unfold getT
  rw [List.getElem?_map]
  cases ts[(i - 1).toNat]? with
  | none => exact weakT_zero.symm
  | some t => rfl
theorem ex_weak (ts : List Thg) (i : Int) : ex (ts.map weakT) i = ex ts i := by unfold ex; rw [List.length_map]
theorem capOk_weak {ts : List Thg} {r : Rgt} (h : capOk ts r = true) : capOk (ts.map weakT) r = true := by
  unfold capOk at h ⊢
  rw [ex_weak, getT_weak, weakT_vers]; exact h
theorem weakT_ok {t : Thg} (h : thgOk t = true) : thgOk (weakT t) = true := by
  unfold weakT
  split
  · rename_i hk
    obtain ⟨h1, h2, h3, h4, h5, h6, h7⟩ := thg_parts.1 h
    refine thg_parts.2 ⟨h1, h2, h3, h4, ?_, h6, h7⟩
    simp [slotsOk, hk] at h5 ⊢
    exact ⟨h5.1, fun a ha => wkR_ok (h5.2 a ha)⟩
  · exact h
theorem weak_ok {ts : List Thg} (ht : tabOk ts = true) : tabOk (ts.map weakT) = true := by
  obtain ⟨h8, hin⟩ := tab_iff.1 ht
  refine tab_iff.2 ⟨by simpa using h8, fun i hi => ?_⟩
  rw [ex_weak] at hi
  obtain ⟨h1, h2, h3⟩ := hin i hi
  rw [getT_weak]
  have hg : gateOk (ts.map weakT) (weakT (getT ts i)) = true := by
    unfold gateOk kindAt at h2 ⊢
    rw [weakT_kind, weakT_to, ex_weak, getT_weak, weakT_kind]; exact h2
  refine ⟨weakT_ok h1, hg, fun r hr => ?_⟩
  unfold weakT at hr
  split at hr
  · rename_i hk
    obtain ⟨s, hs, rfl⟩ := List.mem_map.1 hr
    have hso := (thg_parts.1 h1).2.2.2.2.1
    simp [slotsOk, hk] at hso
    exact capOk_weak (wkR_cap (hso.2 s hs) (h3 s hs))
  · exact capOk_weak (h3 r hr)
/-- A copy whose first rows are weak. -/
def weakN (ts : List Thg) (i : Nat) : List Thg := (ts.take i).map weakT ++ ts.drop i
theorem weakN_zero (ts : List Thg) : weakN ts 0 = ts := by simp [weakN]
theorem weakN_all (ts : List Thg) : weakN ts ts.length = ts.map weakT := by simp [weakN]
theorem weakN_at {ts : List Thg} {i : Nat} {t : Thg} (h : ts[i]? = some t) : (weakN ts i)[i]? = some t := by
  have hl := (List.getElem?_eq_some_iff.1 h).1
  unfold weakN
  rw [List.getElem?_append_right (by simp; omega)]
  simp [h, Nat.min_eq_left (Nat.le_of_lt hl)]
theorem weakN_next {ts : List Thg} {i : Nat} {t : Thg} (h : ts[i]? = some t) : weakN ts (i + 1) = (weakN ts i).set i (weakT t) := by
  have hl := (List.getElem?_eq_some_iff.1 h).1
  apply List.ext_getElem?
  intro k
  rw [List.getElem?_set]
  unfold weakN
  by_cases hk : i = k
  · subst hk
    rw [if_pos rfl, if_pos (by simp; omega), List.getElem?_append_left (by simp; omega)]
    simp [h]
  · rw [if_neg hk]
    by_cases hk2 : k < i
    · rw [List.getElem?_append_left (by simp; omega), List.getElem?_append_left (by simp; omega)]
      simp [hk2, show k < i + 1 by omega]
    · rw [List.getElem?_append_right (by simp; omega), List.getElem?_append_right (by simp; omega)]
      simp only [List.length_map, List.length_take, List.getElem?_drop]
      congr 1
      omega
end Drw
namespace Go.Proofs.YtiolplhgpodifaaGreat
open Go.RowKit Drw
theorem weak_false {ts : List Thg} {a : List (List Rgt)} (ht : tabOk ts = true) (hI : IsReach (ts.map weakT) a) {i : Nat} {t : Thg} (hi : ts[i]? = some t) (hk : t.kind = 3) (k : Int) : reachB (rowA a i) k true = false := by
  have hu := weak_ok ht
  have hlt : i < ts.length := (List.getElem?_eq_some_iff.1 hi).1
  have hlu : i < (ts.map weakT).length := by simpa using hlt
  unfold reachB
  rw [List.any_eq_false]
  intro r hr
  have hg := hI.got hlu hr
  have hok := hI.okR hu hlu hr
  have h3 : kindAt (ts.map weakT) ((i : Int) + 1) 3 = true := by
    unfold kindAt
    rw [ex_weak, ex_at hlt, getT_weak, weakT_kind, Drw.getT_at hi]; simp [hk]
  have hw := Got.weak hu (fun m hm r hr h0 => by
    rw [getT_weak] at hr
    have hmk := (kindAt_ex hm).2
    rw [getT_weak, weakT_kind] at hmk
    unfold weakT at hr
    rw [if_pos hmk] at hr
    obtain ⟨s, -, rfl⟩ := List.mem_map.1 hr
    exact wkR_weak h0) hg h3
  have := weak_noWr hok.1 hok.2 hw
  simp [this]
end Go.Proofs.YtiolplhgpodifaaGreat
