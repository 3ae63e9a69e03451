/- The reference's ordering of rights. Conditions: they lie where their cells say, and are rights. -/
import Derived.Test.YtghbphdipdjekaaGreatDoorSt
import Derived.Test.YtghbphdipdjekaaGreatDoorOr
import Derived.Deep.CutBlock
set_option linter.unusedVariables false
set_option linter.unusedSimpArgs false

namespace Go.Proofs.YtghbphdipdjekaaGreatDoor
open Go.RowKit Drw
attribute [local go_sem] Lab.val Rgt.val Cal.val Thg.val

theorem rgts_take {w : World} {p : Option Addr} {n k : Nat} {cs : List Rgt} (h : RgtsAt w (.slice p n k) cs) (m : Nat) (hm : m ≤ cs.length) : RgtsAt w (.slice p m k) (cs.take m) := by
  obtain ⟨p', cap, he, h1, h2, h3⟩ := h
  cases he
  simp only [List.length_map] at h1
  refine ⟨p, k, by simp; omega, by simp; omega, h2, ?_⟩
  rcases h3 with h3 | ⟨b, o, rfl, hc⟩
  · left
    simp at h3
    simp [h3]
  · refine .inr ⟨b, o, rfl, fun i c hi => hc i c ?_⟩
    rw [List.map_take, List.getElem?_take] at hi
    split at hi
    · exact hi
    · cases hi
theorem rgts_drop {w : World} {p : Option Addr} {n k : Nat} {cs : List Rgt} (h : RgtsAt w (.slice p n k) cs) (m : Nat) (hm : m ≤ cs.length) : RgtsAt w (.slice (if k = m then p else p.map (·.add (m * 5))) (n - m) (k - m)) (cs.drop m) := by
  obtain ⟨p', cap, he, h1, h2, h3⟩ := h
  cases he
  simp only [List.length_map] at h1
  refine ⟨if k = m then p else p.map (·.add (m * 5)), k - m, by simp [h1], by simp; omega, by omega, ?_⟩
  by_cases hkm : k = m
  · left
    simp; omega
  · rcases h3 with h3 | ⟨b, o, rfl, hc⟩
    · left
      simp at h3
      simp [h3]
    · refine .inr ⟨b, o + m * 5, by simp [hkm, Addr.add], fun i c hi j u hj => ?_⟩
      rw [List.map_drop, List.getElem?_drop] at hi
      have := hc (m + i) c hi j u hj
      rw [show o + m * 5 + i * 5 + j = o + (m + i) * 5 + j by omega]
      exact this
theorem while_at {l : List Rgt} {f : Rgt → Bool} {m : Nat} (h : ∀ y ∈ l.take m, f y = true) (hm : m ≤ l.length) (he : ∀ y, l[m]? = some y → f y = false) : l.takeWhile f = l.take m ∧ l.dropWhile f = l.drop m := by
  have e : l = l.take m ++ l.drop m := (List.take_append_drop m l).symm
  have hd : (l.drop m).takeWhile f = [] ∧ (l.drop m).dropWhile f = l.drop m := by
    cases hx : l.drop m with
    | nil => exact ⟨rfl, rfl⟩
    | cons y ys =>
      have : l[m]? = some y := by rw [← List.head?_drop, hx]; rfl
      have := he y this
      simp [this]
  have h1 : l.takeWhile f = l.take m := by
    conv => lhs; rw [e]
    rw [List.takeWhile_append_of_pos h, hd.1, List.append_nil]
  have h2 : l.dropWhile f = l.drop m := by
    conv => lhs; rw [e]
    rw [List.dropWhile_append_of_pos h, hd.2]
  exact ⟨h1, h2⟩
theorem rightText_v {r : Rgt} {v : Value} {s : ByteArray} {w : World} (hv : v = r.val) (h : bs (rgtTxt r) = s) (hr : rgtOk r = true) :
    Calls Tryz.prog 120 #[v] w fun e w' => e = .returned (.string s) ∧ Below w.heap.size w w' := by
  subst hv; subst h; exact rightText_c r w hr

structure S9I (Wb : Nat) (os : List Rgt) (x : Rgt) (m : Nat) (lst out sub v6 pa : Value) (i mi : Int) (w0 : World) (d : Nat → Bool) (w : World) (v3 v38 v39 v40 v41 v42 v43 v44 v45 v46 v47 v48 : Value) : Prop where
  chg : Below Wb w0 w
  p0 : d 0 = true → v38 = v6
  p1 : d 1 = true → v39 = lst
  p2 : d 2 = true → v40 = .int .i64 i
  p3 : d 3 = true → v41 = pa
  p4 : d 4 = true → v42 = .agg #[.int .i64 x.thing, .int .i64 x.vers, .bool x.rd, .bool x.wr, .bool x.wk]
  p5 : d 5 = true → d 6 = false → RgtsAt w v43 [x]
  p6 : d 6 = true → d 10 = false → w.ownsRow Wb 49 5 v44 (m + 1) (((os.take m ++ [x]).map Rgt.cells).flatten)
  p7 : d 7 = true → v45 = out
  p8 : d 8 = true → v46 = .int .i64 mi
  p9 : d 9 = true → v47 = sub
  p10 : d 10 = true → d 11 = false → w.ownsRow Wb 49 5 v48 (os.length + 1) (((os.take m ++ x :: os.drop m).map Rgt.cells).flatten)
  p11 : d 11 = true → w.ownsRow Wb 49 5 v3 (os.length + 1) (((os.take m ++ x :: os.drop m).map Rgt.cells).flatten)
  x0 : d 6 = false → w.ownsRow Wb 49 5 v6 m (((os.take m).map Rgt.cells).flatten)
  x1 : d 11 = false → v3 = out
  x2 : ∀ j, j < 11 → d 11 = true → d j = true
  x3 : d 10 = true → d 6 = true

end Go.Proofs.YtghbphdipdjekaaGreatDoor
