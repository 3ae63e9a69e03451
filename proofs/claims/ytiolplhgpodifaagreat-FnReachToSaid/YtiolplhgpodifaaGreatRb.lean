/- Common facts of the laws on what can be come to have: rows of a table and of all that can be come to have, read behind calls that change nothing. Conditions: they lie where their cells say. -/
import Derived.Test.YtiolplhgpodifaaGreatAl
import Derived.Test.YtiolplhgpodifaaGreatDw
import Derived.Test.YtiolplhgpodifaaGreatRn
set_option linter.unusedVariables false
set_option linter.unusedSimpArgs false
namespace Go.Proofs.YtiolplhgpodifaaGreat
open Go.RowKit Drw
attribute [local go_sem] Lab.val Rgt.val Cal.val Thg.val

/-- The bytes that come in. -/
def BytesIn (w : World) (p : Option Addr) (n : Nat) : Prop := ∀ i, i < n → ∃ b o, ∃ x : Nat, p = some ⟨b, o, none⟩ ∧ b < w.heap.size ∧ w.cell? ⟨b, o + i, none⟩ = some (.int .u8 (x : Int)) ∧ x < 256
/-- A thing of a table: where its rights lie, in whatever world that keeps the table. -/
theorem row_at {wx : World} {q : Option Addr} {k : Nat} {ts : List Thg} {i : Nat} {t : Thg} (h : TabAt wx (.slice q ts.length k) ts) (hi : ts[i]? = some t) :
    ∃ b o ps cs, q = some ⟨b, o, none⟩ ∧ b < wx.heap.size ∧ RgtsAt wx (.slice ps t.slots.length cs) t.slots ∧ t.slots.length ≤ cs ∧ cs ≤ maxLen ∧ wx.cell? ⟨b, o + i * 8, none⟩ = some (.int .i64 t.kind) ∧ wx.cell? ⟨b, o + i * 8 + 3, none⟩ = some (.int .i64 t.vers) ∧ wx.cell? ⟨b, o + i * 8 + 5, none⟩ = some (.slice ps t.slots.length cs) := by
  obtain ⟨b, o, sv, qv, e, hb, hS, hQ, c0, c1, c2, c3, c4, c5, c6, c7⟩ := h.at i t hi
  obtain ⟨ps, cs, rfl, h1, h2⟩ := hS.len
  exact ⟨b, o, ps, cs, e, hb, hS, h1, h2, c0, c3, c5⟩
/-- A row of all that can be come to have. -/
theorem all_at {wx : World} {A : Nat} {a : List (List Rgt)} {i : Nat} (h : AllAt wx A 0 a) (hi : i < a.length) :
    ∃ q c, wx.cell? ⟨A, i, none⟩ = some (.slice q (rowA a i).length c) ∧ RgtsAt wx (.slice q (rowA a i).length c) (rowA a i) ∧ (rowA a i).length ≤ c ∧ c ≤ maxLen := by
  obtain ⟨q, c, h1, h2, -⟩ := h.row i (rowA a i) (by rw [rowA, List.getElem?_eq_getElem hi]; rfl)
  rw [Nat.zero_add] at h1
  obtain ⟨p', c', e, h3, h4⟩ := h2.len
  cases e
  exact ⟨q, c, h1, h2, h3, h4⟩
theorem slots4 {ts : List Thg} (ht : tabOk ts = true) {i : Nat} {t : Thg} (hi : ts[i]? = some t) : t.slots.length ≤ 4 := by
  have h2 := tab_thgOk ht (ex_at (nat_lt hi))
  rw [getT_nat hi] at h2
  by_cases h3 : t.kind = 2 ∨ t.kind = 3
  · rw [slots_len h2 h3]; omega
  · rw [slots_none h2 h3]; simp
theorem thing_at {ts : List Thg} (ht : tabOk ts = true) {i : Nat} {t : Thg} (hi : ts[i]? = some t) {r : Rgt} (hr : r ∈ t.slots) (h0 : 0 < r.thing) : ∃ (j : Nat) (u : Thg), r.thing = (j : Int) + 1 ∧ ts[j]? = some u := by
  have hc := tab_caps ht (ex_at (nat_lt hi)) (by rw [getT_nat hi]; exact hr)
  have hx := cap_ex hc (by omega)
  rw [ex_iff] at hx
  obtain ⟨u, hu⟩ : ∃ u, ts[(r.thing - 1).toNat]? = some u := ⟨_, List.getElem?_eq_getElem (by omega)⟩
  exact ⟨(r.thing - 1).toNat, u, by omega, hu⟩
theorem reachIn_u {x0 x1 : Int} {x2 x3 x4 : Bool} {rs : List Rgt} {p : Option Addr} {cap : Nat} {w : World} (hR : RgtsAt w (.slice p rs.length cap) rs) (hall : ∀ s ∈ rs, rgtOk s = true) (hr : rgtOk ⟨x0, x1, x2, x3, x4⟩ = true) (hx : x0 = 0 ∨ ∃ s ∈ rs, rgtIn ⟨x0, x1, x2, x3, x4⟩ s = true) :
    Calls Tryz.prog 16 #[.slice p rs.length cap, .agg #[.int .i64 x0, .int .i64 x1, .bool x2, .bool x3, .bool x4]] w fun e w' => e = .returned (.bool true) ∧ Below w.heap.size w w' := reachIn_c ⟨x0, x1, x2, x3, x4⟩ rs p cap w hR hall hr hx
theorem rightIn_u {x0 x1 y0 y1 : Int} {x2 x3 x4 y2 y3 y4 v : Bool} {w : World} (h : rgtIn ⟨x0, x1, x2, x3, x4⟩ ⟨y0, y1, y2, y3, y4⟩ = v) :
    Calls Tryz.prog 17 #[.agg #[.int .i64 x0, .int .i64 x1, .bool x2, .bool x3, .bool x4], .agg #[.int .i64 y0, .int .i64 y1, .bool y2, .bool y3, .bool y4]] w fun e w' => e = .returned (.bool v) ∧ Below w.heap.size w w' := by
  rw [← h]; exact rightIn_c ⟨x0, x1, x2, x3, x4⟩ ⟨y0, y1, y2, y3, y4⟩ w
end Go.Proofs.YtiolplhgpodifaaGreat
