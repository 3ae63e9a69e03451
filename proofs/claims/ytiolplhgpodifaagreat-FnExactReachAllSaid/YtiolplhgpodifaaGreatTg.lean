/- What the exact laws' statements share: the things that come in. Conditions: none. -/
import Derived.Test.YtiolplhgpodifaaGreatRows
import Derived.Test.YtiolplhgpodifaaGreatY
import Derived.ChangeSame
import Derived.ChangeVars
import Derived.JoinedOf
import Derived.RowKit
import Derived.RowKitTokens
import Derived.LaidLaws
import Derived.LaidHandle
import Derived.WideKeyArgs
import Derived.ChangeSlices
import Derived.OpenShut
import Derived.Stop.Joined
import Derived.Deep.Slices
import Derived.Carry
set_option linter.unusedVariables false
set_option linter.unusedSimpArgs false
namespace Go.Proofs.YtiolplhgpodifaaGreat
open Go Go.ChangeShapes Go.WideShapes Go.RowKit Drw

theorem ownX : ownKnob Tryz.prog.godebug = none := by kernel_rfl
theorem lawLaidOutX : laidOutB Tryz.prog = true := by kernel_rfl
theorem cellsI : Tryz.prog.cellsOf 3 = 1 := by kernel_rfl
theorem cellsB : Tryz.prog.cellsOf 4 = 1 := by kernel_rfl
theorem cellsIs : Tryz.prog.cellsOf 31 = 1 := by kernel_rfl
theorem cellsL : Tryz.prog.cellsOf 74 = 2 := by kernel_rfl
theorem cellsR : Tryz.prog.cellsOf 129 = 5 := by kernel_rfl
theorem cellsRs : Tryz.prog.cellsOf 75 = 1 := by kernel_rfl
theorem cellsT : Tryz.prog.cellsOf 77 = 8 := by kernel_rfl
theorem list_of {α : Type} {p : Nat → α → Prop} : ∀ n : Nat, (∀ i, i < n → ∃ x, p i x) → ∃ l : List α, l.length = n ∧ ∀ i x, l[i]? = some x → p i x
  | 0, _ => ⟨[], rfl, fun i x h => by simp at h⟩
  | n + 1, h => by
    obtain ⟨l, hl, hp⟩ := list_of n (fun i hi => h i (by omega))
    obtain ⟨x, hx⟩ := h n (by omega)
    refine ⟨l ++ [x], by simp [hl], fun i y hy => ?_⟩
    by_cases hi : i < l.length
    · rw [List.getElem?_append_left hi] at hy; exact hp i y hy
    · rw [List.getElem?_append_right (by omega)] at hy
      have h0 : i - l.length = 0 := by
        have := (List.getElem?_eq_some_iff.1 hy).1
        simp at this; omega
      rw [h0] at hy
      have e : i = n := by omega
      subst e
      have e2 : x = y := by simpa using hy
      subst e2
      exact hx

section
variable {H : Type} {enc : TypeId × Value → H} {W : World} {base : Nat} {sp : Nat → Bool} {hd : Bool}

theorem int_of {fuel : Nat} {v : Value} {x : DataW H × List MemPlace} (h : DataW.trod enc Tryz.prog W base sp hd fuel 3 [v] = some x) : ∃ n, v = .int .i64 n := by
  obtain ⟨n, e, -, -⟩ := DataW.trod_int Tryz.underlying3 h
  exact ⟨n, by simpa using e⟩
theorem bool_of {fuel : Nat} {v : Value} {x : DataW H × List MemPlace} (h : DataW.trod enc Tryz.prog W base sp hd fuel 4 [v] = some x) : ∃ n, v = .bool n := by
  obtain ⟨n, e, -⟩ := DataW.trod_bool Tryz.underlying4 h
  exact ⟨n, by simpa using e⟩

theorem rows_of {α : Type} {f : α → List Value} {R : α → Prop} {t e : TypeId} {s fuel : Nat} {v : Value} {x : DataW H × List MemPlace} (ht : Tryz.prog.underlying t = some (.slice e)) (hc : Tryz.prog.cellsOf e = s) (hs : 0 < s) (hfs : ∀ r, (f r).length = s)
    (hel : ∀ (k : Nat) (cs : List Value) (y : DataW H × List MemPlace), DataW.trod enc Tryz.prog W base sp hd k e cs = some y → cs.length = s → ∃ r, cs = f r ∧ R r) (h : DataW.trod enc Tryz.prog W base sp hd fuel t [v] = some x) :
    ∃ rs : List α, Drw.Rows W v s (rs.map f) ∧ ∀ r ∈ rs, R r := by
  rcases Go.Deep.open_slice ht h with ⟨e0, -⟩ | ⟨a, len, cap, m, n, D, Pl, e0, -, hl, hm, hmm, -, hx⟩
  · have e1 : v = .slice none 0 0 := by simpa using e0
    subst e1
    exact ⟨[], ⟨none, 0, rfl, Nat.le_refl _, Nat.zero_le _, .inl rfl⟩, fun r hr => by cases hr⟩
  · have e1 : v = .slice (some a) len cap := by simpa using e0
    subst e1
    have hlm : len ≤ m := by rw [hmm]; split <;> omega
    obtain ⟨rs, hrl, hrs⟩ := list_of (p := fun i r => R r ∧ ∀ j, j < s → W.cell? (a.add (i * s + j)) = (f r)[j]?) len (fun i hi => by
      obtain ⟨cs', h1, h2⟩ := hx i (by omega)
      rw [hc] at h1
      obtain ⟨_, hlen, hcell⟩ := World.cells?_some h1
      obtain ⟨r, rfl, hR⟩ := hel n cs' _ h2 hlen
      refine ⟨r, hR, fun j hj => ?_⟩
      have := hcell j hj
      rwa [Go.Deep.add_add] at this)
    refine ⟨rs, ?_, fun r hr => ?_⟩
    · refine ⟨some a, cap, by simp [hrl], by simp [hrl, hl], hm, ?_⟩
      by_cases h0 : rs = []
      · left; simp [h0]
      · right
        obtain ⟨b, o, spot⟩ := a
        have hlen : 0 < rs.length := List.length_pos_iff.2 h0
        obtain ⟨r0, hr0⟩ : ∃ r, rs[0]? = some r := ⟨_, List.getElem?_eq_getElem hlen⟩
        have hc0 := (hrs 0 r0 hr0).2 0 hs
        rw [List.getElem?_eq_getElem (by rw [hfs]; exact hs)] at hc0
        have hspot : spot = none := by simpa [Addr.add] using World.cell?_spot hc0
        subst hspot
        refine ⟨b, o, rfl, fun k c hk j u hj => ?_⟩
        rw [List.getElem?_map] at hk
        obtain ⟨r, hr, rfl⟩ := Option.map_eq_some_iff.1 hk
        have hj5 : j < s := by rw [← hfs r]; exact (List.getElem?_eq_some_iff.1 hj).1
        have := (hrs k r hr).2 j hj5
        rw [addr_add] at this
        rw [Nat.add_assoc, this, hj]
    · obtain ⟨i, hi⟩ := List.mem_iff_getElem?.1 hr
      exact (hrs i r hi).1

set_option maxRecDepth 100000 in
theorem ints_of' {fuel : Nat} {v : Value} {x : DataW H × List MemPlace} (h : DataW.trod enc Tryz.prog W base sp hd fuel 31 [v] = some x) : ∃ xs, IntsAt W v xs := by
  obtain ⟨rs, h1, -⟩ := rows_of (f := intCells) (R := fun _ => True) (s := 1) Tryz.underlying31 cellsI (by omega) (fun r => rfl) (fun k cs y hy hl => by
    match cs, hl with
    | [v0], _ => obtain ⟨n, rfl⟩ := int_of hy; exact ⟨n, rfl, trivial⟩) h
  exact ⟨rs, h1⟩

set_option maxRecDepth 100000 in
theorem rgts_of' {fuel : Nat} {v : Value} {x : DataW H × List MemPlace} (h : DataW.trod enc Tryz.prog W base sp hd fuel 75 [v] = some x) : ∃ rs, RgtsAt W v rs := by
  obtain ⟨rs, h1, -⟩ := rows_of (f := Rgt.cells) (R := fun _ => True) (s := 5) Tryz.underlying75 cellsR (by omega) (fun r => rfl) (fun k cs y hy hl => by
    obtain ⟨xs, k2, -, -, -, hxs, hf⟩ := DataW.trod_struct Tryz.underlying129 hy
    match cs, hl with
    | [v0, v1, v2, v3, v4], _ =>
      have g0 := hf 0 _ rfl
      have g1 := hf 1 _ rfl
      have g2 := hf 2 _ rfl
      have g3 := hf 3 _ rfl
      have g4 := hf 4 _ rfl
      match xs, hxs with
      | [y0, y1, y2, y3, y4], _ =>
        simp [cellsI, cellsB] at g0 g1 g2 g3 g4
        obtain ⟨n0, rfl⟩ := int_of g0
        obtain ⟨n1, rfl⟩ := int_of g1
        obtain ⟨n2, rfl⟩ := bool_of g2
        obtain ⟨n3, rfl⟩ := bool_of g3
        obtain ⟨n4, rfl⟩ := bool_of g4
        exact ⟨⟨n0, n1, n2, n3, n4⟩, rfl, trivial⟩) h
  exact ⟨rs, h1⟩

set_option maxRecDepth 100000 in
theorem lab_of' {fuel : Nat} {v0 v1 : Value} {x : DataW H × List MemPlace} (h : DataW.trod enc Tryz.prog W base sp hd fuel 74 [v0, v1] = some x) : ∃ s v, v0 = .int .i64 s ∧ v1 = .int .i64 v := by
  obtain ⟨xs, k2, -, -, -, hxs, hf⟩ := DataW.trod_struct Tryz.underlying74 h
  have g0 := hf 0 _ rfl
  have g1 := hf 1 _ rfl
  match xs, hxs with
  | [y0, y1], _ =>
    simp [cellsI] at g0 g1
    obtain ⟨n0, rfl⟩ := int_of g0
    obtain ⟨n1, rfl⟩ := int_of g1
    exact ⟨n0, n1, rfl, rfl⟩

set_option maxRecDepth 100000 in
theorem thgs_of' {fuel : Nat} {v : Value} {x : DataW H × List MemPlace} (h : DataW.trod enc Tryz.prog W base sp hd fuel 45 [v] = some x) : ∃ ts, TabAt W v ts := by
  obtain ⟨rs, h1, h2⟩ := rows_of (f := Thx.cells) (R := fun r => ThxAt W r) (s := 8) Tryz.underlying45 cellsT (by omega) (fun r => rfl) (fun k cs y hy hl => by
    obtain ⟨xs, k2, -, -, -, hxs, hf⟩ := DataW.trod_struct Tryz.underlying77 hy
    match cs, hl with
    | [v0, v1, v2, v3, v4, v5, v6, v7], _ =>
      have g0 := hf 0 _ rfl
      have g1 := hf 1 _ rfl
      have g2 := hf 2 _ rfl
      have g3 := hf 3 _ rfl
      have g4 := hf 4 _ rfl
      have g5 := hf 5 _ rfl
      have g6 := hf 6 _ rfl
      match xs, hxs with
      | [y0, y1, y2, y3, y4, y5, y6], _ =>
        simp [cellsI, cellsL, cellsRs, cellsIs] at g0 g1 g2 g3 g4 g5 g6
        obtain ⟨n0, rfl⟩ := int_of g0
        obtain ⟨s1, s2, rfl, rfl⟩ := lab_of' g1
        obtain ⟨n2, rfl⟩ := int_of g2
        obtain ⟨n3, rfl⟩ := int_of g3
        obtain ⟨rs, hrs⟩ := rgts_of' g4
        obtain ⟨qs, hqs⟩ := ints_of' g5
        obtain ⟨n6, rfl⟩ := int_of g6
        exact ⟨(⟨n0, ⟨s1, s2⟩, n2, n3, rs, qs, n6⟩, v5, v6), rfl, hrs, hqs⟩) h
  exact ⟨rs.map (·.1), rs, rfl, h1, h2⟩
end

set_option maxRecDepth 100000 in
/-- A slice of things that came in. -/
theorem thgs_of {H : Type} {enc : TypeId × Value → H} {W : World} {base : Nat} {v : Value} {d : DataW H} {ps : List MemPlace} (hval : Value.okWide Tryz.prog W .any base 45 v) (h : DataW.Trod enc Tryz.prog W 0 (fun _ => true) true 45 v d ps) :
    ∃ q cap ts, v = .slice q ts.length cap ∧ TabAt W (.slice q ts.length cap) ts := by
  obtain ⟨q, n, cap, rfl⟩ := okWide_slice Tryz.underlying45 hval
  obtain ⟨fuel, hf⟩ := h
  obtain ⟨ts, hT⟩ := thgs_of' (show DataW.trod enc Tryz.prog W 0 (fun _ => true) true fuel 45 [.slice q n cap] = some (d, ps) by simpa [Value.cells] using hf)
  obtain ⟨_, _, e, -, -⟩ := hT.len
  cases e
  exact ⟨q, cap, ts, rfl, hT⟩
end Go.Proofs.YtiolplhgpodifaaGreat
