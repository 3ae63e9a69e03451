/- Plain part of the law on what a call may change; the laws' comparing, where all is as said. Conditions: none. -/
import Derived.Test.YthelfojlgcjgjaaGreatDoorLg
import Derived.Test.YthelfojlgcjgjaaGreatDoorTr
set_option linter.unusedVariables false
set_option linter.unusedSimpArgs false
namespace Go.Proofs.YthelfojlgcjgjaaGreatDoor
open Go.RowKit Drw

theorem ldBut_t {one two : Int} {pa pb : Option Addr} {ca cb : Nat} {ts us : List Thg} {w : World} (hA : TabAt w (.slice pa ts.length ca) ts) (hB : TabAt w (.slice pb us.length cb) us) (h : ButEq ts us one two) :
    Calls Tryz.prog 17 #[.slice pa ts.length ca, .slice pb us.length cb, .int .i64 one, .int .i64 two] w fun e w' => e = .returned (.bool true) ∧ Below w.heap.size w w' := by
  have := ldBut_c one two pa pb ca cb ts us w hA hB
  rwa [decide_eq_true h] at this

theorem get_of {ts : List Thg} {i : Nat} (hi : i < ts.length) : ts[i]? = some (getT ts ((i : Int) + 1)) := by
  have := ex_get (ex_at (ts := ts) hi)
  rwa [show ((i : Int) + 1 - 1).toNat = i by omega] at this

/-- What a call that is through no gate leaves. -/
theorem touch_but {ts us : List Thg} {an : Int} {c : Cal} (hcan : calCan ts c = true) (hdo : callDo ts c = (us, an)) (hg : ¬ (c.kind = 9 ∧ (slotOf ts c).thing ≠ 0 ∧ (getT ts (slotOf ts c).thing).kind = 5)) : us.length = ts.length ∧ ButEq us ts c.run (slotOf ts c).thing := by
  have hB := canB.1 hcan
  have hf := do2_fine hB
  rw [callDo_can hB] at hdo
  rw [hdo] at hf
  have hlen : us.length = ts.length := hf.same.len
  refine ⟨hlen, hlen, fun i hi h1 h2 => ?_⟩
  have hi' : i < ts.length := by omega
  have := law_touch hB (ex_at hi') h1 h2 (fun h9 h0 h5 => absurd ⟨h9, h0, h5⟩ hg)
  rw [hdo] at this
  rw [get_of hi, get_of hi', this]

/-- What a call through a gate leaves. -/
theorem touch_gate {ts us : List Thg} {an : Int} {c : Cal} (hcan : calCan ts c = true) (hdo : callDo ts c = (us, an)) (h0 : (slotOf ts c).thing ≠ 0) (hk : (getT ts (slotOf ts c).thing).kind = 5) :
    us.length = ts.length ∧ ∃ (g : Nat) (tg : Thg), (getT ts (slotOf ts c).thing).to = (g : Int) + 1 ∧ g < ts.length ∧ ts[g]? = some tg ∧ ButEq (us.set g tg) ts c.run (slotOf ts c).thing := by
  have hB := canB.1 hcan
  have hf := do2_fine hB
  rw [callDo_can hB] at hdo
  rw [hdo] at hf
  have hlen : us.length = ts.length := hf.same.len
  have hex := cap_ex hB.rCap h0
  obtain ⟨he, -⟩ := Drw.gate_to hB.tab hex hk
  have hr := ex_iff.1 he
  obtain ⟨g, hg⟩ : ∃ g : Nat, (getT ts (slotOf ts c).thing).to = (g : Int) + 1 := ⟨((getT ts (slotOf ts c).thing).to - 1).toNat, by omega⟩
  have hgl : g < ts.length := by omega
  refine ⟨hlen, g, _, hg, hgl, get_of hgl, by rw [List.length_set]; exact hlen, fun i hi h1 h2 => ?_⟩
  rw [List.length_set] at hi
  have hi' : i < ts.length := by omega
  by_cases hig : i = g
  · subst hig
    rw [List.getElem?_set_self (by omega), get_of hi']
  · rw [List.getElem?_set_ne (by omega), get_of hi, get_of hi']
    have := law_touch hB (ex_at hi') h1 h2 (fun _ _ _ => by omega)
    rw [hdo] at this
    rw [this]
end Go.Proofs.YthelfojlgcjgjaaGreatDoor
