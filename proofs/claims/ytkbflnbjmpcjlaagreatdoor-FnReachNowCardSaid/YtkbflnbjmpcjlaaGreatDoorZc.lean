/- What one has behind calls one could come to have ahead of them. Conditions: none. -/
import Derived.Test.YtkbflnbjmpcjlaaGreatDoorRb
import Derived.Test.YtkbflnbjmpcjlaaGreatDoorRu
set_option linter.unusedVariables false
set_option linter.unusedSimpArgs false
namespace Go.Proofs.YtkbflnbjmpcjlaaGreatDoor
open Go.RowKit Drw
/-- What one has behind calls one could come to have. -/
theorem run_covG {ts us : List Thg} {cs : List Cal} {zs : List Int} {a : List (List Rgt)} (hc : runCan ts cs = true) (hdo : runDo ts cs = (us, zs)) (h : IsReach ts a) {i : Nat} (hi : i < ts.length) {r : Rgt} (hg : Got us ((i : Int) + 1) r) (hr : rgtOk r = true) : r.thing = 0 ∨ ∃ s ∈ rowA a i, rgtIn r s = true := by
  have h1 := runCan_iff.1 hc
  have hd : Dn ts ((i : Int) + 1) r := run_got h1.1 h1.2.2 (by rw [hdo]; exact hg)
  exact h.covIn h1.1 hi hd hr
theorem run_cov {ts us : List Thg} {cs : List Cal} {zs : List Int} {a : List (List Rgt)} (hc : runCan ts cs = true) (hdo : runDo ts cs = (us, zs)) (hu : tabOk us = true) (hl : us.length = ts.length) (h : IsReach ts a) {i : Nat} {u : Thg} (hi : us[i]? = some u) {r : Rgt} (hr : r ∈ u.slots) : r.thing = 0 ∨ ∃ s ∈ rowA a i, rgtIn r s = true := by
  by_cases h0 : r.thing = 0
  · exact .inl h0
  · exact run_covG hc hdo h (by have := nat_lt hi; omega) (Got.own (ex_at (nat_lt hi)) (by rw [getT_nat hi]; exact hr) h0) (slots_okT hu hi r hr)
theorem reachTo_n {p : Option Addr} {cap : Nat} {ts : List Thg} {j : Nat} {k : Int} {wt v : Bool} {a : List (List Rgt)} {w : World} (hT : TabAt w (.slice p ts.length cap) ts) (ht : tabOk ts = true) (hj : j < ts.length) (hk : ex ts k = true) (hI : IsReach ts a) (h : reachB (rowA a j) k wt = v) :
    Calls Tryz.prog 18 #[.slice p ts.length cap, .int .i64 ((j : Int) + 1), .int .i64 k, .bool wt] w fun e w' => e = .returned (.bool v) ∧ Below w.heap.size w w' := by
  refine (reachTo_yes hT ht hj hk).mono ?_
  rintro e w' ⟨a', hI', rfl, hb⟩
  rw [hI'.eq hI, h]
  exact ⟨rfl, hb⟩
theorem reachB_cov {l : List Rgt} {x : Rgt} (h : x.thing = 0 ∨ ∃ s ∈ l, rgtIn x s = true) (h0 : x.thing ≠ 0) (wt : Bool) (hp : (if wt then x.wr else x.rd) = true) : reachB l x.thing wt = true := by
  obtain ⟨s, hs, hin⟩ := h.resolve_left h0
  simp only [rgtIn, Bool.and_eq_true] at hin
  obtain ⟨e1, -, e3, e4, -⟩ := rgtIn1_thing hin.2 h0
  refine List.any_eq_true.2 ⟨s, hs, ?_⟩
  cases wt
  · simpa [e1] using e3 (by simpa using hp)
  · simpa [e1] using e4 (by simpa using hp)
end Go.Proofs.YtkbflnbjmpcjlaaGreatDoor
