/- Rows and tables in memory of their own, between two bounds; a run's table and answers so. Conditions: none. -/
import Derived.Test.YtghbphdipdjekaaGreatDoorHd
import Derived.Test.YtghbphdipdjekaaGreatDoorCw
import Derived.Test.YtghbphdipdjekaaGreatDoorQt
set_option linter.unusedVariables false
set_option linter.unusedSimpArgs false
namespace Drw
open Go Go.RowKit
/-- Rows in memory of their own, their block between two bounds. -/
def OwnR (w : World) (lo hi : Nat) (v : Value) (s : Nat) (cs : List (List Value)) : Prop := Drw.Rows w v s cs ∧ ∀ b, v.ownBlock = some b → 0 < cs.length → lo ≤ b ∧ b < hi ∧ b < w.heap.size ∧ ∀ o, w.frozen? ⟨b, o, none⟩ = false
theorem OwnR.chgB {w w' : World} {S : Nat → Prop} {lo hi s : Nat} {v : Value} {cs : List (List Value)} (h : OwnR w lo hi v s cs) (hg : Chg S w w') (hS : ∀ b, lo ≤ b → b < hi → v.ownBlock = some b → ¬ S b) : OwnR w' lo hi v s cs := by
  refine ⟨?_, fun b hb hn => ?_⟩
  · by_cases hn : 0 < cs.length
    · exact Drw.Rows.kept h.1 hg (.inr fun k hk => hS k (h.2 k hk hn).1 (h.2 k hk hn).2.1 hk)
    · exact Drw.Rows.kept h.1 hg (.inl (List.eq_nil_of_length_eq_zero (by omega)))
  · obtain ⟨h1, h2, h3, h4⟩ := h.2 b hb hn
    exact ⟨h1, h2, Nat.lt_of_lt_of_le h3 hg.size, fun o => (World.frozen?_of_block (a := ⟨b, o, none⟩) (hg.block b h3 (hS b h1 h2 hb))).trans (h4 o)⟩
theorem OwnR.pure {w w' : World} {lo hi s : Nat} {v : Value} {cs : List (List Value)} (h : OwnR w lo hi v s cs) (hb : Below w.heap.size w w') : OwnR w' lo hi v s cs :=
  h.chgB (S := fun _ => False) (Chg.of_pure hb) (fun _ _ _ _ h => h)
theorem OwnR.of_held {w : World} {B s : Nat} {v : Value} {cs : List (List Value)} (hr : Drw.Rows w v s cs) (hh : HeldB w B v) (hs : 0 < s) (hc : ∀ c ∈ cs, c.length = s) : OwnR w B w.heap.size v s cs := by
  refine ⟨hr, fun b hb hn => ?_⟩
  obtain ⟨p, cap, rfl, h1, h2, h3⟩ := hr
  rcases h3 with rfl | ⟨b', o', rfl, -⟩
  · simp at hn
  · cases hb
    obtain ⟨q1, -, q3, q4⟩ := hh b' o' _ cap rfl hn
    exact ⟨q1, q3, q3, q4⟩
theorem OwnR.free {w : World} {lo hi s n : Nat} {v : Value} {cs : List (List Value)} (h : OwnR w lo hi v s cs) (hn : cs.length = n) : ∀ b, v.ownBlock = some b → 0 < n → ∀ o, w.frozen? ⟨b, o, none⟩ = false := by
  subst hn; exact fun b hb h0 => (h.2 b hb h0).2.2.2
/-- A table in memory of its own, its blocks between two bounds, none of them that of another row. -/
def OwnT (w : World) (lo hi : Nat) (v2 v : Value) (ts : List Thg) : Prop := ∃ xs tag, OwnTab w (fun b => (lo ≤ b ∧ b < hi) ∧ v2.ownBlock ≠ some b) tag v xs ∧ xs.map (·.1) = ts
theorem OwnT.of {w : World} {lo : Nat} {tag : Nat → Nat} {v : Value} {xs : List Thx} {ts : List Thg} (h : OwnTab w (fun b => lo ≤ b) tag v xs) (hx : xs.map (·.1) = ts) : OwnT w lo w.heap.size undef v ts :=
  ⟨xs, tag, h.imp (fun b h1 h2 => ⟨⟨⟨h1, h2⟩, by simp [undef, Value.ownBlock]⟩, rfl⟩), hx⟩
theorem OwnT.at' {w : World} {lo hi : Nat} {v2 v : Value} {ts : List Thg} (h : OwnT w lo hi v2 v ts) : TabAt w v ts := by
  obtain ⟨xs, tag, h1, rfl⟩ := h; exact h1.at'
theorem OwnT.chg {w w' : World} {S : Nat → Prop} {lo hi : Nat} {v2 v : Value} {ts : List Thg} (h : OwnT w lo hi v2 v ts) (hg : Chg S w w') (hS : ∀ b, lo ≤ b → b < hi → v2.ownBlock ≠ some b → ¬ S b) : OwnT w' lo hi v2 v ts := by
  obtain ⟨xs, tag, h1, h2⟩ := h
  exact ⟨xs, tag, h1.chg hg (fun b hb _ => hS b hb.1.1 hb.1.2 hb.2), h2⟩
theorem OwnT.pure {w w' : World} {lo hi : Nat} {v2 v : Value} {ts : List Thg} (h : OwnT w lo hi v2 v ts) (hb : Below w.heap.size w w') : OwnT w' lo hi v2 v ts := by
  obtain ⟨xs, tag, h1, h2⟩ := h
  exact ⟨xs, tag, h1.pure hb, h2⟩
end Drw
namespace Go.Proofs.YtghbphdipdjekaaGreatDoor
open Go.RowKit Drw
attribute [local go_sem] Lab.val Rgt.val Cal.val Thg.val

theorem toThingS_o {p : Option Addr} {cap : Nat} {ts : List Thg} {w : World} (hT : TabAt w (.slice p ts.length cap) ts) (hF : Fits ts) :
    Calls Tryz.prog 40 #[.slice p ts.length cap] w fun e w' => ∃ q k, e = .returned (.slice q ts.length k) ∧ OwnT w' w.heap.size w'.heap.size undef (.slice q ts.length k) ts ∧ Below w.heap.size w w' := by
  refine (toThingS_c hT hF.1 hF.2).mono ?_
  rintro e w' ⟨q, k, xs, tag, rfl, hO, hx, hb⟩
  exact ⟨q, k, rfl, .of hO hx, hb⟩
theorem toCallS_o {p : Option Addr} {cap : Nat} {cs : List Cal} {w : World} (hC : CalsAt w (.slice p cs.length cap) cs) (hl : cs.length ≤ 1048576) :
    Calls Tryz.prog 49 #[.slice p cs.length cap] w fun e w' => ∃ q k, e = .returned (.slice q cs.length k) ∧ OwnR w' w.heap.size w'.heap.size (.slice q cs.length k) 5 (cs.map Cal.cells) ∧ Below w.heap.size w w' := by
  refine (toCallS_c _ cs w hC hl).mono ?_
  rintro e w' ⟨v, rfl, hC, hH, hb⟩
  obtain ⟨q, k, rfl, -, -⟩ := hC.len
  exact ⟨q, k, rfl, OwnR.of_held hC hH (by omega) (fun c hc => by rw [List.mem_map] at hc; obtain ⟨y, -, rfl⟩ := hc; rfl), hb⟩
theorem markThingS_o {p : Option Addr} {cap lo hi : Nat} {v2 : Value} {ts : List Thg} {w : World} (h : OwnT w lo hi v2 (.slice p ts.length cap) ts) (hF : Fits ts) :
    Calls Tryz.prog 43 #[.slice p ts.length cap, .int .i64 1] w fun e w' => e = .returned (.int .i64 (nxTs 1 ts)) ∧ OwnT w' lo hi v2 (.slice p ts.length cap) (mkTs 1 ts) ∧ Chg (fun b => (lo ≤ b ∧ b < hi) ∧ v2.ownBlock ≠ some b) w w' := by
  obtain ⟨xs, tag, hO, hx⟩ := h
  refine (markThingS_c 1 w hO hx (by omega) (by omega) hF.1 hF.2).mono ?_
  rintro e w' ⟨ys, rfl, hO', hy, hg⟩
  exact ⟨rfl, ⟨ys, tag, hO', hy⟩, hg⟩
theorem heldThingS_o {p : Option Addr} {cap : Nat} {ts : List Thg} {w : World} (h : TabAt w (.slice p ts.length cap) (mkTs 1 ts)) (hF : Fits ts) :
    Calls Tryz.prog 44 #[.slice p ts.length cap, .int .i64 1] w fun e w' => e = .returned (.int .i64 (nxTs 1 ts)) ∧ Below w.heap.size w w' :=
  heldThingS_c 1 w h (by omega) (by omega) hF.1 hF.2
theorem markCallS_o {q : Option Addr} {k lo hi : Nat} {cs : List Cal} {m : Int} {w : World} (h : OwnR w lo hi (.slice q cs.length k) 5 (cs.map Cal.cells)) (hm0 : 0 ≤ m) (hm : m ≤ 35184372088832) (hl : cs.length ≤ 1048576) :
    Calls Tryz.prog 51 #[.slice q cs.length k, .int .i64 m] w fun e w' => e = .returned (.int .i64 (m + 5 * (cs.length : Int))) ∧ Chg (fun b => lo ≤ b ∧ b < hi) w w' := by
  refine (markCallS_c cs m w h.1 (h.free (by simp)) hm0 hm hl).mono ?_
  rintro e w' ⟨rfl, -, hg, -⟩
  exact ⟨rfl, hg.mono fun b _ hb => ⟨(h.2 b hb.2 (by simpa using hb.1)).1, (h.2 b hb.2 (by simpa using hb.1)).2.1⟩⟩
theorem markIntS_o {q : Option Addr} {k lo hi : Nat} {xs : List Int} {m : Int} {w : World} (h : OwnR w lo hi (.slice q xs.length k) 1 (xs.map intCells)) (hm0 : 0 ≤ m) (hm : m ≤ 35184372088832) (hl : xs.length ≤ 1048576) :
    Calls Tryz.prog 46 #[.slice q xs.length k, .int .i64 m] w fun e w' => e = .returned (.int .i64 (m + (xs.length : Int))) ∧ IntsAt w' (.slice q xs.length k) (mkIs m xs.length) ∧ Chg (fun b => (lo ≤ b ∧ b < hi) ∧ (Value.slice q xs.length k).ownBlock = some b) w w' := by
  refine (markIntS_c xs m w h.1 (h.free (by simp)) hm0 hm hl).mono ?_
  rintro e w' ⟨rfl, hI, hg, -⟩
  exact ⟨rfl, hI, hg.mono fun b _ hb => ⟨⟨(h.2 b hb.2 (by simpa using hb.1)).1, (h.2 b hb.2 (by simpa using hb.1)).2.1⟩, hb.2⟩⟩
theorem fits_small {us : List Thg} (h : tabOk us = true) : Fits us := by
  refine ⟨by have := (tab_iff.1 h).1; omega, fun t ht => ?_⟩
  have := short_of_tab h t ht
  omega
theorem runDo_len' : ∀ (cs : List Cal) (ts : List Thg), (runDo ts cs).2.length = cs.length
  | [], ts => rfl
  | c :: cs, ts => by simp [runDo, runDo_len' cs]
theorem run_fits {ts us : List Thg} {cs : List Cal} {zs : List Int} {rok : Bool} (h : runAll ts cs = (us, zs, rok)) : Fits us ∧ zs.length ≤ 40 := by
  unfold runAll at h
  cases hcan : runCan ts cs
  · rw [hcan] at h; cases h; exact ⟨⟨by simp, fun t ht => by cases ht⟩, by simp⟩
  · rw [hcan] at h
    cases h
    have hc := runCan_iff.1 hcan
    exact ⟨fits_small (runDo_fine cs hc.1 hc.2.2).1, by rw [runDo_len']; exact hc.2.1⟩
theorem srunAll_v {p : Option Addr} {cap : Nat} {ts : List Thg} {q : Option Addr} {c2 : Nat} {cs : List Cal} {us : List Thg} {zs : List Int} {rok : Bool} {w : World} (hT : TabAt w (.slice p ts.length cap) ts) (hC : CalsAt w (.slice q cs.length c2) cs) (h : runAll ts cs = (us, zs, rok)) :
    Calls Tryz.prog 24 #[.slice p ts.length cap, .slice q cs.length c2] w fun e w' => ∃ p' k p2 k2, e = .returned (.tuple #[.slice p' us.length k, .slice p2 zs.length k2, .bool rok]) ∧ TabAt w' (.slice p' us.length k) us ∧ IntsAt w' (.slice p2 zs.length k2) zs ∧ Below w.heap.size w w' := by
  have := srunAll_c p cap ts q c2 cs w hT hC
  rw [h] at this
  exact this
theorem runAll_v {p : Option Addr} {cap : Nat} {ts : List Thg} {q : Option Addr} {c2 : Nat} {cs : List Cal} {us : List Thg} {zs : List Int} {rok : Bool} {w : World} (hL : Laid w) (hT : TabAt w (.slice p ts.length cap) ts) (hC : CalsAt w (.slice q cs.length c2) cs) (h : runAll ts cs = (us, zs, rok)) :
    Calls Tryz.prog 21 #[.slice p ts.length cap, .slice q cs.length c2] w fun e w' => ∃ p' k p2 k2, e = .returned (.tuple #[.slice p' us.length k, .slice p2 zs.length k2, .bool rok]) ∧ OwnT w' w.heap.size w'.heap.size (.slice p2 zs.length k2) (.slice p' us.length k) us ∧ OwnR w' w.heap.size w'.heap.size (.slice p2 zs.length k2) 1 (zs.map intCells) ∧ Below w.heap.size w w' := by
  unfold runAll at h
  cases hcan : runCan ts cs
  · rw [hcan] at h
    cases h
    refine (runAll_no p cap ts q c2 cs w hT hC hcan).mono ?_
    rintro e w' ⟨rfl, hb⟩
    refine ⟨_, _, _, _, rfl, ⟨[], fun _ => 0, ⟨⟨⟨_, 0, rfl, by simp, by simp, .inl rfl⟩, fun x hx => by cases hx⟩, Held.nil, fun i x hx => by simp at hx, fun i x hx => by simp at hx⟩, rfl⟩, ⟨⟨_, 0, rfl, by simp, by simp, .inl rfl⟩, fun b hb hn => by simp at hn⟩, hb⟩
  · rw [hcan] at h
    cases h
    refine (runAll_yes p cap ts q c2 cs w hL hT hC hcan).mono ?_
    rintro e w' ⟨v, v2, rfl, ⟨xs, tag, hO, hx, ho⟩, hb⟩
    have hA := hO.at'
    rw [hx] at hA
    obtain ⟨p', k, rfl, -, -⟩ := hA.len
    have hR : Drw.Rows w' v2 1 ((runDo ts cs).2.map intCells) := Rows.of_own (flat_ints _) (by rw [List.length_map]; exact ho)
    have hI : IntsAt w' v2 (runDo ts cs).2 := hR
    obtain ⟨p2, k2, rfl, -, -⟩ := hI.len
    refine ⟨p', k, p2, k2, rfl, ⟨xs, tag, hO.imp fun b hb hlt => ⟨⟨⟨hb.1, hlt⟩, hb.2⟩, rfl⟩, hx⟩, OwnR.of_held hR (Held.of_own ho fun b hb => ⟨(ho.lt b hb).1, rfl⟩) (by omega) (fun c hc => by rw [List.mem_map] at hc; obtain ⟨y, -, rfl⟩ := hc; rfl), hb⟩

end Go.Proofs.YtghbphdipdjekaaGreatDoor
