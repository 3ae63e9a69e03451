/- What a runner gets by its rights. Conditions: the gathered sets lie where their cells say. -/
import Derived.Test.YtghbphdipdjekaaGreatDoorEx
import Derived.Test.YtghbphdipdjekaaGreatDoorGs
import Derived.Maps.AppendAt
import Derived.Test.YtghbphdipdjekaaGreatDoorG
set_option linter.unusedVariables false
set_option linter.unusedSimpArgs false
namespace Go.Proofs.YtghbphdipdjekaaGreatDoor
open Go.RowKit Drw
attribute [local go_sem] Lab.val Rgt.val Cal.val Thg.val

theorem kindAt_t {p : Option Addr} {cap : Nat} {ts : List Thg} {i k : Int} {v : Bool} {w : World} (hT : TabAt w (.slice p ts.length cap) ts) (h : kindAt ts i k = v) :
    Calls Tryz.prog 75 #[.slice p ts.length cap, .int .i64 i, .int .i64 k] w fun e w' => e = .returned (.bool v) ∧ w' = w := by
  rw [← h]; exact (kindAt_c p cap ts i k w hT).mono fun _ _ h => ⟨h.1, h.2.symm⟩
theorem rightLive_v {p : Option Addr} {cap : Nat} {ts : List Thg} {x0 x1 : Int} {x2 x3 x4 v : Bool} {w : World} (hT : TabAt w (.slice p ts.length cap) ts) (h : live ts ⟨x0, x1, x2, x3, x4⟩ = v) :
    Calls Tryz.prog 105 #[.slice p ts.length cap, .agg #[.int .i64 x0, .int .i64 x1, .bool x2, .bool x3, .bool x4]] w fun e w' => e = .returned (.bool v) ∧ Below w.heap.size w w' := by
  rw [← h]; exact rightLive_c p cap ts ⟨x0, x1, x2, x3, x4⟩ w hT

end Go.Proofs.YtghbphdipdjekaaGreatDoor

/- The work list of the runners, and its end: no right gives anything new. Conditions: the gathered sets lie where their cells say. -/
namespace Go.Proofs.YtghbphdipdjekaaGreatDoor
open Go.RowKit Drw
attribute [local go_sem] Lab.val Rgt.val Cal.val Thg.val

/-- A chain of entries, each with a number. -/
def ChainAt (w : World) (M : Nat → Prop) : Option Addr → List Int → Prop
  | q, [] => q = none
  | q, x :: l => ∃ b nx, q = some ⟨b, 0, none⟩ ∧ ¬ M b ∧ w.cell? ⟨b, 0, none⟩ = some (.int .i64 x) ∧ w.cell? ⟨b, 1, none⟩ = some (.pointer nx) ∧ ChainAt w M nx l
theorem ChainAt.chg {w w' : World} {M : Nat → Prop} (hg : Chg M w w') : ∀ {l : List Int} {q : Option Addr}, ChainAt w M q l → ChainAt w' M q l
  | [], _, h => h
  | _ :: _, _, ⟨b, nx, h1, h2, h3, h4, h5⟩ => ⟨b, nx, h1, h2, hg.cell h3 h2, hg.cell h4 h2, ChainAt.chg hg h5⟩
/-- The runners that a chain holds. -/
structure Runs (ts : List Thg) (l : List Int) : Prop where
  ok : ∀ x ∈ l, ∃ i : Nat, i < ts.length ∧ x = (i : Int) + 1 ∧ kindAt ts x 3 = true
  len : l.length ≤ ts.length
/-- What is told of the list of all runners. -/
def AllRuns (w : World) (M : Nat → Prop) (ts : List Thg) (e : Ending) (w' : World) : Prop :=
  ∃ q l, e = .returned (.pointer q) ∧ ChainAt w' M q l ∧ Runs ts l ∧ (∀ i : Nat, i < ts.length → kindAt ts ((i : Int) + 1) 3 = true → ((i : Int) + 1) ∈ l) ∧ Below w.heap.size w w'

end Go.Proofs.YtghbphdipdjekaaGreatDoor

/- The sets at the beginning: what each thing has. Conditions: the table lies where its cells say, and is one. -/
namespace Go.Proofs.YtghbphdipdjekaaGreatDoor
open Go.RowKit Drw
attribute [local go_sem] Lab.val Rgt.val Cal.val Thg.val

theorem RgtsAt.keep {w w' : World} {q : Option Addr} {n c : Nat} {L : List Rgt} {M : Nat → Prop} (hr : RgtsAt w (.slice q n c) L) (hg : Chg M w w') (ho : ∀ k, (Value.slice q n c).ownBlock = some k → ¬ M k) : RgtsAt w' (.slice q n c) L :=
  Rows.kept hr hg (.inr fun k hk hm => ho k hk hm)
def ptrV (s : Nat) : Value := .pointer (some ⟨s, 0, none⟩)
theorem frz_chg {S : Nat → Prop} {w w' : World} (h : Chg S w w') {b : Nat} (hb : b < w.heap.size) (hs : ¬ S b) (o : Nat) : w'.frozen? ⟨b, o, none⟩ = w.frozen? ⟨b, o, none⟩ := by
  simp [World.frozen?, h.block b hb hs]
end Go.Proofs.YtghbphdipdjekaaGreatDoor

/- The greatest rights of a list. Conditions: the rights lie where their cells say. -/
namespace Go.Proofs.YtghbphdipdjekaaGreatDoor
open Go.RowKit Drw
attribute [local go_sem] Lab.val Rgt.val Cal.val Thg.val

def grP (r o : Rgt) : Bool := (o != r) && rgtIn r o
/-- What is told of where a greater right lies. -/
def IdxG (rs : List Rgt) (r : Rgt) (w : World) (e : Ending) (w' : World) : Prop := ∃ i : Int, e = .returned (.int .i64 i) ∧ (rs.any (grP r) = true → 0 ≤ i) ∧ (rs.any (grP r) = false → i < 0) ∧ Below w.heap.size w w'

theorem great_next {L : List Rgt} {k : Nat} {x : Rgt} {v : Bool} (hx : L[k]? = some x) (hv : L.any (grP x) = v) : (L.take (k + 1)).filter (fun r => !L.any (grP r)) = (L.take k).filter (fun r => !L.any (grP r)) ++ (if v then [] else [x]) := by
  rw [List.take_add_one, hx, List.filter_append]
  congr 1
  cases v <;> simp [hv]

end Go.Proofs.YtghbphdipdjekaaGreatDoor

/- The program's two answers on what can be come to have. Conditions: the table lies where its cells say. -/
namespace Go.Proofs.YtghbphdipdjekaaGreatDoor
open Go.RowKit Drw
attribute [local go_sem] Lab.val Rgt.val Cal.val Thg.val

theorem tableOk_u {p : Option Addr} {cap : Nat} {ts : List Thg} {v : Bool} {w : World} (hT : TabAt w (.slice p ts.length cap) ts) (h : tabOk ts = v) :
    Calls Tryz.prog 27 #[.slice p ts.length cap] w fun e w' => e = .returned (.bool v) ∧ Below w.heap.size w w' := by
  rw [← h]; exact tableOk_c p cap ts w hT
/-- Rows, the first of them told. -/
structure Told (wm wr : World) (A : Nat) (ts : List Thg) (a : List (List Rgt)) (k : Nat) (c : List (List Rgt)) : Prop where
  at' : AllAt wr A 0 c
  len : c.length = ts.length
  row : ∀ i, i < k → ∃ L, rowA c i = great L ∧ Drw.Ord L ∧ ∀ r, r ∈ L ↔ r ∈ rowA a i
  below : Below wm.heap.size wm wr
/-- What is told of all that can be come to have. -/
def AllTold (ts : List Thg) (w : World) (e : Ending) (w' : World) : Prop := ∃ A c a, e = .returned (.slice (some ⟨A, 0, none⟩) a.length c) ∧ IsReach ts a ∧ AllAt w' A 0 a ∧ Below w.heap.size w w'

theorem listed_len {w0 w : World} {R H hc : Nat} {p : Option Addr} {cap : Nat} {ts : List Thg} {sp bp : Nat → Nat} {a : List (List Rgt)} {i : Nat} (h : RchAt w0 w R H hc p cap ts sp bp a) {L : List Rgt} (hO : Drw.Ord L) (hM : ∀ r, r ∈ L ↔ r ∈ rowA a i) : L.length ≤ 400 := by
  have hn : L.Pairwise (· ≠ ·) := hO.imp (fun {a b} h e => by rw [e] at h; exact Nat.lt_irrefl _ h)
  have := nodup_len1 (u := uni) hn (fun x hx => mem_uni (h.gat.ok h.ok ((hM x).1 hx)).1 (h.gat.ok h.ok ((hM x).1 hx)).2)
  rw [uni_len] at this
  omega
theorem told_next {wm wr w3 : World} {A : Nat} {ts : List Thg} {a : List (List Rgt)} {k : Nat} {c : List (List Rgt)} {L : List Rgt} {q : Option Addr} {cc : Nat} (h : Told wm wr A ts a k c) (hk : k < ts.length) (hA : A = wm.heap.size) (hb : Below wr.heap.size wr w3)
    (hR : RgtsAt w3 (.slice q (great L).length cc) (great L)) (hq : (Value.slice q (great L).length cc).ownBlock ≠ some A) (ho : Drw.Ord L) (hm : ∀ r, r ∈ L ↔ r ∈ rowA a k) :
    Told wm (w3.setCell ⟨A, k, none⟩ (.slice q (great L).length cc)) A ts a (k + 1) (c.set k (great L)) := by
  have hkc : k < c.length := by rw [h.len]; exact hk
  refine ⟨?_, by simpa using h.len, fun i hi => ?_, ?_⟩
  · have := AllAt.put (h.at'.pure hb) hkc hR hq
    rwa [Nat.zero_add] at this
  · rw [rowA_set hkc]
    split
    · rename_i e; subst e; exact ⟨L, rfl, ho, hm⟩
    · exact h.row i (by omega)
  · have := h.below.trans (hb.mono h.below.size)
    exact this.setCell (p := ⟨A, k, none⟩) (by show wm.heap.size ≤ A; omega) _

theorem told_start {wm : World} {ts : List Thg} {a : List (List Rgt)} : Told wm (wm.alloc (.cells (madeCells #[.slice none 0 0] ts.length) 45)) wm.heap.size ts a 0 (List.replicate ts.length []) := by
  refine ⟨⟨by simp, fun j => by simp [go_sem], fun k l hk => ?_⟩, by simp, fun i hi => absurd hi (Nat.not_lt_zero _), (Below.refl _ _).alloc (Nat.le_refl _) _⟩
  have hkn : k < ts.length := by simpa using nat_lt hk
  have hl : l = [] := by
    obtain ⟨h1, h2⟩ := List.getElem?_eq_some_iff.1 hk
    simpa using h2.symm
  subst hl
  refine ⟨none, 0, ?_, ⟨none, 0, rfl, by simp, by simp [maxLen], .inl rfl⟩, by simp [Value.ownBlock]⟩
  have hc : (madeCells #[.slice none 0 0] ts.length)[k]? = some (.slice none 0 0) := by
    have := toList_madeCells_one (.slice none 0 0) ts.length
    rw [← Array.getElem?_toList, this, List.getElem?_replicate, if_pos hkn]
  rw [Nat.zero_add]
  exact (Go.Joins.cell_alloc_mark_at _ _ _ _ _ _ rfl).trans hc

/-- What is told of whether a thing can come to have a right. -/
def ToldTo (ts : List Thg) (j : Nat) (k : Int) (wt : Bool) (w : World) (e : Ending) (w' : World) : Prop := ∃ a, IsReach ts a ∧ e = .returned (.bool (reachB (rowA a j) k wt)) ∧ Below w.heap.size w w'
end Go.Proofs.YtghbphdipdjekaaGreatDoor
