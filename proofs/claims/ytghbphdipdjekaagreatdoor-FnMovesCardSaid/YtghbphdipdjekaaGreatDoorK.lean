/- What is told of a call, by impl. Conditions: the table lies where its cells say; errors.errorType is laid. -/
import Derived.Test.YtghbphdipdjekaaGreatDoorJ
set_option linter.unusedVariables false
set_option linter.unusedSimpArgs false

namespace Go.Proofs.YtghbphdipdjekaaGreatDoor
open Go.RowKit Drw
attribute [local go_sem] Lab.val Rgt.val Cal.val Thg.val

def reqs : List Int := [1, 2, 4, 5, 6, 7, 8, 9]
/-- The table of requirements, in block B; their kinds lie in the blocks from K on. -/
def ReqAt (W : World) (B K : Nat) : Prop := ∀ (j : Nat) (k : Int), reqs[j]? = some k →
  W.cell? ⟨B, j * 6, none⟩ = some (.int .i64 k) ∧ W.cell? ⟨B, j * 6 + 1, none⟩ = some (.slice (some ⟨K + j, 0, none⟩) (reqKinds k).length (reqKinds k).length) ∧
  W.cell? ⟨B, j * 6 + 2, none⟩ = some (.bool (needRd k)) ∧ W.cell? ⟨B, j * 6 + 3, none⟩ = some (.bool (needWr k)) ∧ W.cell? ⟨B, j * 6 + 4, none⟩ = some (.bool (needRd k)) ∧ W.cell? ⟨B, j * 6 + 5, none⟩ = some (.bool (needWr k)) ∧
  ∀ i x, (reqKinds k)[i]? = some x → W.cell? ⟨K + j, i, none⟩ = some (.int .i64 x)

theorem reqKinds_len (k : Int) : (reqKinds k).length ≤ maxLen := by
  unfold reqKinds maxLen
  repeat' split
  all_goals simp

set_option maxRecDepth 100000 in
set_option maxHeartbeats 4000000 in
theorem requirementOf_c (k : Int) (hk : k ∈ reqs) (w : World) :
    Calls Tryz.prog 150 #[.int .i64 k] w fun e w' => ∃ p, e = .returned (.agg #[.int .i64 k, .slice p (reqKinds k).length (reqKinds k).length, .bool (needRd k), .bool (needWr k), .bool (needRd k), .bool (needWr k)]) ∧ IntsAt w' (.slice p (reqKinds k).length (reqKinds k).length) (reqKinds k) ∧ Below w.heap.size w w' := by
  go_enter Tryz.func150, Tryz.ntmps150
  go_upto_region 1 with (fail)
  go_cut [3] (fun s3 wx => s3 = .slice (some ⟨w.heap.size + 9, 0, none⟩) 8 8 ∧ Below w.heap.size w wx ∧ wx.heap.size = w.heap.size + 10 ∧ (wx.cell? ⟨w.heap.size, 0, none⟩ = some (.int .i64 0) ∧ wx.cell? ⟨w.heap.size, 1, none⟩ = some (.slice none 0 0) ∧ wx.cell? ⟨w.heap.size, 2, none⟩ = some (.bool false) ∧ wx.cell? ⟨w.heap.size, 3, none⟩ = some (.bool false) ∧ wx.cell? ⟨w.heap.size, 4, none⟩ = some (.bool false) ∧ wx.cell? ⟨w.heap.size, 5, none⟩ = some (.bool false)) ∧ (∀ o, wx.frozen? ⟨w.heap.size, o, none⟩ = false) ∧ ReqAt wx (w.heap.size + 9) (w.heap.size + 1))
  case first =>
    go_wp2
    go_meet
    refine ⟨rfl, (by (repeat (with_reducible first | exact Below.refl _ _ | refine Below.alloc ?_ ?_ _ | refine below_drewN ?_ _ | refine Below.drew ?_ | refine Below.setCell ?_ ?_ _ | refine Below.trans ?_ (Below.mono (by assumption) ?_))) <;> (first | omega | (simp; try omega))), by simp, ?_, ?_, ?_⟩
    · simp [go_sem]
    · intro o; simp [go_sem]
    · intro j k h
      rcases j with _ | _ | _ | _ | _ | _ | _ | _ | j
      all_goals (simp [reqs] at h; try subst h)
      all_goals (simp [go_sem, needRd, needWr, reqKinds])
      all_goals (try (intro i x hi; rcases i with _ | _ | _ | i <;> simp at hi <;> (try subst hi) <;> simp [go_sem]))
  case rest =>
    obtain ⟨rfl, hB, hsz, ⟨c0, c1, c2, c3, c4, c5⟩, hf, hR⟩ := hcut
    have HR := Lib.hid hR
    clear hR
    go_wp2
    go_loopw [25] (fun i wr => ∃ j : Nat, j ≤ 8 ∧ i = .int .i64 j ∧ (∀ m < j, reqs[m]? ≠ some k) ∧ Below wc.heap.size wc wr) (fun i _ => 8 - (intOf i).toNat)
    case atStart => exact ⟨0, Nat.zero_le _, rfl, by simp, Below.refl _ _⟩
    case round =>
      obtain ⟨j, hj, rfl, hall, hBr⟩ := hrel
      have Hall := Lib.hid hall
      clear hall
      obtain ⟨hcr, hfr⟩ := bcell hBr
      have hszr := hBr.size
      by_cases hlt : j < 8
      · obtain ⟨kj, hkj⟩ : ∃ y, reqs[j]? = some y := ⟨reqs[j]'(by simpa [reqs] using hlt), by simp [reqs, hlt]⟩
        obtain ⟨d0, d1, d2, d3, d4, d5, dk⟩ := HR.out j kj hkj
        have Hkj := Lib.hid hkj
        clear hkj
        rw [← hcr _ _ (by omega)] at d0 d1 d2 d3 d4 d5 c0 c1 c2 c3 c4 c5
        have hf' : ∀ o, wr.frozen? ⟨w.heap.size, o, none⟩ = false := fun o => (hfr _ _ (by omega)).trans (hf o)
        have Dk := Lib.hid dk
        have hz1 : w.heap.size + 9 < wr.heap.size := by omega
        have hz2 : w.heap.size < wr.heap.size := by omega
        clear hcr hfr hf dk
        go_wp2
        · have e : kj = k := by simpa using ‹(kj == k) = true›
          subst e
          have hI : IntsAt wc (.slice (some ⟨w.heap.size + 1 + j, 0, none⟩) (reqKinds kj).length (reqKinds kj).length) (reqKinds kj) := by
            refine ⟨_, _, by rw [List.length_map], by simp, reqKinds_len kj, .inr ⟨_, _, rfl, ?_⟩⟩
            intro i c hi m u hm
            rw [List.getElem?_map] at hi
            obtain ⟨x, hx, rfl⟩ := Option.map_eq_some_iff.1 hi
            obtain rfl : m = 0 := by
              rcases m with _ | m
              · rfl
              · simp [intCells] at hm
            simp [intCells] at hm
            subst hm
            simpa using Dk.out i x hx
          refine bodyPost_ret (v := .agg #[.int .i64 kj, .slice (some ⟨w.heap.size + 1 + j, 0, none⟩) (reqKinds kj).length (reqKinds kj).length, .bool (needRd kj), .bool (needWr kj), .bool (needRd kj), .bool (needWr kj)]) ?_ rfl ⟨_, rfl, ?_, ?_⟩
          · simp [results, Tryz.results150, go_sem, *]
          · refine Rows.kept (S := fun b => b = w.heap.size) hI ?_ (.inr ?_)
            · repeat (with_reducible first | refine Chg.setCell ?_ ?_ _ | refine Chg.alloc ?_ _)
              · exact Chg.of_pure hBr
              all_goals rfl
            · intro b hb
              simp [Value.ownBlock] at hb
              omega
          · exact (by (repeat (with_reducible first | exact Below.refl _ _ | refine Below.alloc ?_ ?_ _ | refine below_drewN ?_ _ | refine Below.drew ?_ | refine Below.setCell ?_ ?_ _ | refine Below.trans ?_ (Below.mono (by assumption) ?_))) <;> (first | omega | (simp; try omega)))
        · refine ⟨⟨j + 1, by omega, by go_num, ?_, hBr.alloc (by omega) _⟩, by simp [intOf]; omega⟩
          intro m hm
          have hne : (kj == k) = false := by assumption
          rcases Nat.lt_or_ge m j with h | h
          · exact Hall.out m h
          · obtain rfl : m = j := by omega
            rw [Hkj.out]; simpa using hne
      · exfalso
        obtain ⟨m, hm⟩ := List.mem_iff_getElem?.1 hk
        have : m < reqs.length := (List.getElem?_eq_some_iff.1 hm).1
        exact Hall.out m (by simp [reqs] at this; omega) hm

end Go.Proofs.YtghbphdipdjekaaGreatDoor

/- Plain facts of a call that can be. Conditions: none. -/
namespace Go.Proofs.YtghbphdipdjekaaGreatDoor
open Go.RowKit Drw

theorem tab_thg {ts : List Thg} (h : tabOk ts = true) {t : Thg} (ht : t ∈ ts) : thgOk t = true ∧ gateOk ts t = true ∧ ∀ r ∈ t.slots, capOk ts r = true := by
  rw [tabOk_row] at h
  simp only [Bool.and_eq_true, List.all_eq_true] at h
  have := h.1 t ht
  simp only [rowOk, Bool.and_eq_true, List.all_eq_true] at this
  exact ⟨this.1.1, this.1.2, this.2⟩

theorem slots_four {t : Thg} (h : thgOk t = true) (hk : t.kind = 2 ∨ t.kind = 3) : t.slots.length = 4 := by
  unfold thgOk at h
  simp only [Bool.and_eq_true] at h
  have := h.1.1.2
  rcases hk with hk | hk <;> simp [slotsOk, hk] at this <;> exact this.1

structure Can (ts : List Thg) (c : Cal) (j m : Nat) (tr : Thg) (r : Rgt) : Prop where
  run : c.run = (j : Int) + 1
  a : c.a = (m : Int)
  tr_at : ts[j]? = some tr
  r_at : tr.slots[m]? = some r
  kind : tr.kind = 3
  four : tr.slots.length = 4
  trOk : thgOk tr = true
  rOk : rgtOk r = true
  cap : capOk ts r = true
  slot : slotOf ts c = r
  m4 : m < 4
  call : c.kind = 3 ∨ c.kind ∈ reqs
  b : 0 ≤ c.b ∧ c.b ≤ 3
  n : 0 ≤ c.n ∧ c.n ≤ 99
  tab : tabOk ts = true
  ok : calOk c = true

theorem can_of {ts : List Thg} {c : Cal} (h : calCan ts c = true) : ∃ j m tr r, Can ts c j m tr r := by
  unfold calCan at h
  simp only [Bool.and_eq_true] at h
  obtain ⟨⟨h1, h2⟩, h3⟩ := h
  unfold kindAt at h3
  simp only [Bool.and_eq_true, beq_iff_eq] at h3
  obtain ⟨j, hj, htr⟩ := ex_idx h3.1
  have hm : getT ts c.run ∈ ts := List.mem_of_getElem? htr
  obtain ⟨t1, t2, t3⟩ := tab_thg h1 hm
  have h4 := slots_four t1 (.inr h3.2)
  have h2' := h2
  simp only [calOk, inR, Bool.and_eq_true, decide_eq_true_eq] at h2'
  obtain ⟨⟨⟨⟨a1, a2⟩, a3⟩, a4⟩, a5⟩ := h2'
  obtain ⟨m, hma⟩ : ∃ m : Nat, c.a = (m : Int) := ⟨c.a.toNat, by omega⟩
  have hm4 : m < 4 := by omega
  have hr : (getT ts c.run).slots[m]? = some (slotOf ts c) := by
    simp [slotOf, getR, hma, h4, hm4]
  have hmr := List.mem_of_getElem? hr
  refine ⟨j, m, _, _, hj, hma, htr, hr, h3.2, h4, t1, slots_rgt t1 _ hmr, t3 _ hmr, rfl, hm4, ?_, a4, a5, h1, h2⟩
  simp only [reqs, List.mem_cons, List.not_mem_nil, or_false]
  omega

/-- The thing of a right that is of some thing. -/
theorem cap_thing {ts : List Thg} {r : Rgt} (h : capOk ts r = true) (h0 : ¬ r.thing = 0) : ∃ x : Nat, r.thing = (x : Int) + 1 ∧ ts[x]? = some (getT ts r.thing) ∧ ex ts r.thing = true ∧ r.vers ≤ (getT ts r.thing).vers := by
  simp only [capOk, Bool.or_eq_true, beq_iff_eq, Bool.and_eq_true, decide_eq_true_eq] at h
  rcases h with h | ⟨h1, h2⟩
  · exact absurd h h0
  · obtain ⟨x, hx, hx'⟩ := ex_idx h1
    exact ⟨x, hx, hx', h1, h2⟩

end Go.Proofs.YtghbphdipdjekaaGreatDoor
