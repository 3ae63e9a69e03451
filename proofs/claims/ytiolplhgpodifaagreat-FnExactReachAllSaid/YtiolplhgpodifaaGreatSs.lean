/- The statements' own comparing, marking and looking at rows of rights (laws.eqRightSS, markRightSS, heldRightSS). Conditions: the rows lie where their cells say. -/
import Derived.Test.YtiolplhgpodifaaGreatAn
import Derived.Test.YtiolplhgpodifaaGreatEq
import Derived.Test.YtiolplhgpodifaaGreatHd
set_option linter.unusedVariables false
set_option linter.unusedSimpArgs false
namespace Drw
open Go Go.RowKit
/-- Rows of rights, as read. -/
def SSAt (w : World) (p : Option Addr) (a : List (List Rgt)) : Prop := a = [] ∨ ∃ A, p = some ⟨A, 0, none⟩ ∧ A < w.heap.size ∧ ∀ (k : Nat) (l : List Rgt), a[k]? = some l → ∃ q c, w.cell? ⟨A, k, none⟩ = some (.slice q l.length c) ∧ RgtsAt w (.slice q l.length c) l
theorem SSAt.pure {w w' : World} {p : Option Addr} {a : List (List Rgt)} (h : SSAt w p a) (hb : Below w.heap.size w w') : SSAt w' p a := by
  rcases h with h | ⟨A, rfl, h1, h2⟩
  · exact .inl h
  · refine .inr ⟨A, rfl, Nat.lt_of_lt_of_le h1 hb.size, fun k l hk => ?_⟩
    obtain ⟨q, c, g1, g2⟩ := h2 k l hk
    exact ⟨q, c, (hb.cell (p := ⟨A, k, none⟩) h1).trans g1, g2.pure hb⟩
/-- Rows of rights in memory of their own. -/
def OwnSS (w : World) (P : Nat → Prop) (tag : Nat → Nat) (p : Option Addr) (a : List (List Rgt)) : Prop := a = [] ∨ ∃ A, p = some ⟨A, 0, none⟩ ∧ P A ∧ AllOwn w P tag A a
theorem OwnSS.at' {w : World} {P : Nat → Prop} {tag : Nat → Nat} {p : Option Addr} {a : List (List Rgt)} (h : OwnSS w P tag p a) : SSAt w p a := by
  rcases h with h | ⟨A, rfl, -, h⟩
  · exact .inl h
  · exact .inr ⟨A, rfl, h.lt, fun k l hk => by obtain ⟨q, c, h1, h2, -⟩ := h.row k l hk; exact ⟨q, c, h1, h2⟩⟩
theorem OwnSS.chg {w w' : World} {S P : Nat → Prop} {tag : Nat → Nat} {p : Option Addr} {a : List (List Rgt)} (h : OwnSS w P tag p a) (hg : Chg S w w') (hS : ∀ b, P b → ¬ S b) : OwnSS w' P tag p a := by
  rcases h with h | ⟨A, rfl, hP, h⟩
  · exact .inl h
  · exact .inr ⟨A, rfl, hP, h.chg hg (hS A hP) (fun b hb _ => hS b hb)⟩
theorem OwnSS.pure {w w' : World} {P : Nat → Prop} {tag : Nat → Nat} {p : Option Addr} {a : List (List Rgt)} (h : OwnSS w P tag p a) (hb : Below w.heap.size w w') : OwnSS w' P tag p a :=
  h.chg (S := fun _ => False) (Chg.of_pure hb) (fun _ _ h => h)
def mkSS (k : Int) : List (List Rgt) → List (List Rgt)
  | [] => []
  | l :: a => mkRs k l.length :: mkSS (k + 5 * (l.length : Int)) a
def nxSS (k : Int) : List (List Rgt) → Int
  | [] => k
  | l :: a => nxSS (k + 5 * (l.length : Int)) a
@[simp] theorem mkSS_len : ∀ (a : List (List Rgt)) (k : Int), (mkSS k a).length = a.length
  | [], _ => rfl
  | l :: a, k => by simp [mkSS, mkSS_len a]
theorem mkSS_at : ∀ (a : List (List Rgt)) (k : Int) (j : Nat) (l : List Rgt), a[j]? = some l → (mkSS k a)[j]? = some (mkRs (nxSS k (a.take j)) l.length)
  | [], _, _, _, h => by simp at h
  | m :: a, k, 0, l, h => by
    have e : m = l := by simpa using h
    subst e
    rfl
  | m :: a, k, j + 1, l, h => by
    rw [mkSS, List.getElem?_cons_succ, mkSS_at a _ j l (by simpa using h)]
    rfl
theorem nxSS_next : ∀ (a : List (List Rgt)) (k : Int) (j : Nat) (l : List Rgt), a[j]? = some l → nxSS k (a.take (j + 1)) = nxSS k (a.take j) + 5 * (l.length : Int)
  | [], _, _, _, h => by simp at h
  | m :: a, k, 0, l, h => by
    have e : m = l := by simpa using h
    subst e
    simp [nxSS]
  | m :: a, k, j + 1, l, h => by
    rw [List.take_succ_cons, nxSS, nxSS_next a _ j l (by simpa using h), List.take_succ_cons, nxSS]
theorem nxSS_bd : ∀ (a : List (List Rgt)) (k : Int), (∀ l ∈ a, l.length ≤ 400) → k ≤ nxSS k a ∧ nxSS k a ≤ k + 2000 * (a.length : Int)
  | [], k, _ => by simp [nxSS]
  | l :: a, k, h => by
    have h1 := h l (by simp)
    have h2 := nxSS_bd a (k + 5 * (l.length : Int)) (fun s hs => h s (by simp [hs]))
    simp only [nxSS, List.length_cons]
    omega
end Drw
namespace Go.Proofs.YtiolplhgpodifaaGreat
open Go.RowKit Drw
attribute [local go_sem] Lab.val Rgt.val Cal.val Thg.val

set_option maxRecDepth 100000 in
set_option maxHeartbeats 4000000 in
theorem eqRightSS_s {p q : Option Addr} {cp cq : Nat} {a : List (List Rgt)} {w : World} (ha : SSAt w p a) (hb : SSAt w q a) (hl : a.length ≤ 65536) :
    Calls Tryz.prog 26 #[.slice p a.length cp, .slice q a.length cq] w fun e w' => e = .returned (.bool true) ∧ Below w.heap.size w w' := by
  have Ha := Lib.hid ha
  have Hb := Lib.hid hb
  clear ha hb
  go_enter Tryz.func26, Tryz.ntmps26
  go_wp2
  go_loopw [5] (fun s5 wr => ∃ j : Nat, s5 = .int .i64 (j : Int) ∧ j ≤ a.length ∧ Below w.heap.size w wr) (fun s5 _ => a.length - (intOf s5).toNat)
  case atStart => exact ⟨0, rfl, by omega, Below.refl _ _⟩
  case round =>
    obtain ⟨j, rfl, hj, hB⟩ := hrel
    by_cases hlt : j < a.length
    · have h0 : (0 : Int) ≤ (j : Int) := by omega
      have hin : (j : Int) < (a.length : Int) := by omega
      obtain ⟨l, hx⟩ : ∃ x, a[j]? = some x := ⟨_, List.getElem?_eq_getElem hlt⟩
      obtain ⟨A, rfl, hA, hA2⟩ : ∃ A, p = some ⟨A, 0, none⟩ ∧ A < wr.heap.size ∧ _ := (Ha.out.pure hB).resolve_left (fun e => by rw [e] at hlt; simp at hlt)
      obtain ⟨A2, rfl, hA3, hA4⟩ : ∃ A, q = some ⟨A, 0, none⟩ ∧ A < wr.heap.size ∧ _ := (Hb.out.pure hB).resolve_left (fun e => by rw [e] at hlt; simp at hlt)
      obtain ⟨q1, c1, g1, hR1⟩ := hA2 j l hx
      obtain ⟨q2, c2, g2, hR2⟩ := hA4 j l hx
      have HB := Lib.hid hB
      have HR1 := Lib.hid hR1
      have HR2 := Lib.hid hR2
      have hzr := hB.size
      clear hx hB hR1 hR2 hA2 hA4
      go_upto_region 6 with (fail)
      have HK := Lib.hid (show ∀ w' : World, Below wr.heap.size wr w' → (Below wr.heap.size wr w' ∧ w'.cell? ⟨A, j, none⟩ = some (.slice q1 l.length c1) ∧ w'.cell? ⟨A2, j, none⟩ = some (.slice q2 l.length c2)) from fun w' h =>
        ⟨h, (h.cell hA).trans g1, (h.cell hA3).trans g2⟩)
      clear g1 g2
      go_cut [26] (fun s26 wz => s26 = .bool false ∧ Below wr.heap.size wr wz)
      case first =>
        first | (go_region_held3 (fun w' => Below wr.heap.size wr w' ∧ w'.cell? ⟨A, j, none⟩ = some (.slice q1 l.length c1) ∧ w'.cell? ⟨A2, j, none⟩ = some (.slice q2 l.length c2)) (first | assumption | exact HK.out _ (Below.refl _ _) | exact HK.out _ (Below.drew (Below.refl _ _)) | (have hX := And.left (by assumption : Below wr.heap.size wr _ ∧ _); exact HK.out _ (hX.trans (hb5.mono hX.size)))) (first | (go_at_call 52; with_reducible refine (eqRightS_s l _ _ _ (HR1.out.pure (And.left (by assumption : Below wr.heap.size wr _ ∧ _))) (HR2.out.pure (And.left (by assumption : Below wr.heap.size wr _ ∧ _)))).mono ?_; rintro e w5 ⟨rfl, hb5⟩))) | fail
        all_goals go_wp2
        all_goals go_meet
        all_goals exact ⟨rfl, And.left (by assumption : Below wr.heap.size wr _ ∧ _)⟩
      case rest =>
        obtain ⟨rfl, hBz⟩ := hcut
        have HBz := Lib.hid (HB.out.trans (hBz.mono hzr))
        clear hBz
        go_wp2
        exact ⟨⟨j + 1, by go_num, by omega, HBz.out⟩, by simp [intOf]; omega⟩
    · have hin : ¬ (j : Int) < (a.length : Int) := by omega
      go_wp2
      go_ret
      exact ⟨rfl, hB⟩

set_option maxRecDepth 100000 in
set_option maxHeartbeats 4000000 in
theorem markRightSS_c {p : Option Addr} {cap : Nat} {a : List (List Rgt)} {P : Nat → Prop} {tag : Nat → Nat} {w : World} (hO : OwnSS w P tag p a) (hl : a.length ≤ 8) (hr : ∀ l ∈ a, l.length ≤ 400) :
    Calls Tryz.prog 28 #[.slice p a.length cap, .int .i64 1] w fun e w' => e = .returned (.int .i64 (nxSS 1 a)) ∧ OwnSS w' P tag p (mkSS 1 a) ∧ Chg P w w' := by
  have HO := Lib.hid hO
  have HS := Lib.hid hr
  clear hO hr
  go_enter Tryz.func28, Tryz.ntmps28
  go_wp2
  go_loopw [1, 5] (fun s1 s5 wr => ∃ (j : Nat) (K : Int) (b : List (List Rgt)), s5 = .int .i64 (j : Int) ∧ j ≤ a.length ∧ s1 = .int .i64 K ∧ K = nxSS 1 (a.take j) ∧ b.length = a.length ∧ (∀ i, i < j → b[i]? = (mkSS 1 a)[i]?) ∧ (∀ i, j ≤ i → b[i]? = a[i]?) ∧ OwnSS wr P tag p b ∧ Chg P w wr) (fun _ s5 _ => a.length - (intOf s5).toNat)
  case atStart => exact ⟨0, 1, a, rfl, by omega, rfl, by simp [nxSS], rfl, fun i h => absurd h (by omega), fun i _ => rfl, HO.out, Chg.refl _ _⟩
  case round =>
    obtain ⟨j, K, ys, rfl, hj, rfl, hK, hyl, hy1, hy2, hI, hC⟩ := hrel
    have HK := Lib.hid hK
    have Hyl := Lib.hid hyl
    have Hy1 := Lib.hid hy1
    have Hy2 := Lib.hid hy2
    have HI := Lib.hid hI
    have HC := Lib.hid hC
    by_cases hlt : j < a.length
    · have h0 : (0 : Int) ≤ (j : Int) := by omega
      have hin : (j : Int) < (a.length : Int) := by omega
      have hb := nxSS_bd (a.take j) 1 (fun t ht => HS.out t (List.mem_of_mem_take ht))
      have hK0 : 0 ≤ K := by omega
      have hK1 : K ≤ 100000 := by rw [hK]; have : (a.take j).length ≤ 8 := by simp; omega
                                  omega
      obtain ⟨l, htj⟩ : ∃ x, a[j]? = some x := ⟨_, List.getElem?_eq_getElem hlt⟩
      have hyj : ys[j]? = some l := by rw [hy2 j (Nat.le_refl _), htj]
      have hl4 := HS.out l (List.mem_of_getElem? htj)
      obtain ⟨A, rfl, hPA, hAO⟩ : ∃ A, p = some ⟨A, 0, none⟩ ∧ P A ∧ AllOwn wr P tag A ys := hI.resolve_left (fun e => by rw [e] at hyl; simp at hyl; omega)
      obtain ⟨q1, c1, g1, hR1, hown⟩ := hAO.row j l hyj
      have hAl := hAO.lt
      have Hyj := Lib.hid hyj
      have Htj := Lib.hid htj
      have HR1 := Lib.hid hR1
      have HAO := Lib.hid hAO
      have Hg1 := Lib.hid g1
      have Hfree := Lib.hid (show Free wr l.length (.slice q1 l.length c1) from fun b hb hn => (hown b hb hn).2.2.2.2)
      clear hK hyl hy1 hy2 hI hC hyj htj hR1 hAO hown hb
      go_wp2_with (go_at_call 53; refine (markRightS_c l K _ HR1.out Hfree.out (by omega) (by omega) (by omega)).mono ?_; rintro e wA ⟨rfl, hRA, hCA, hfA⟩; obtain ⟨HA, hpA⟩ := HAO.out.set Hyj.out Hg1.out (mkRs_len l.length K) hCA hfA hRA; have HHA := Lib.hid HA; have HpA := Lib.hid hpA; clear HA hpA hRA hCA hfA)
      have hjl : j < ys.length := by rw [Hyl.out]; exact hlt
      refine ⟨⟨j + 1, _, _, by go_num, by omega, rfl, ?_, ?_, fun i hi => ?_, fun i hi => ?_, .inr ⟨A, rfl, hPA, HHA.out⟩, HC.out.trans HpA.out⟩, by simp [intOf]; omega⟩
      · rw [nxSS_next a 1 j l Htj.out, ← HK.out]
      · simpa using Hyl.out
      · by_cases e : j = i
        · subst e
          rw [set_at hjl, mkSS_at a 1 j l Htj.out, ← HK.out]
        · rw [List.getElem?_set, if_neg e]; exact Hy1.out i (by omega)
      · rw [List.getElem?_set, if_neg (by omega)]; exact Hy2.out i (by omega)
    · obtain rfl : j = a.length := by omega
      clear hK hyl hy1 hy2 hI hC
      go_wp2
      go_ret
      refine ⟨by rw [HK.out, List.take_length]; rfl, ?_, HC.out⟩
      have : ys = mkSS 1 a := by
        apply List.ext_getElem?
        intro i
        by_cases hi : i < a.length
        · exact Hy1.out i hi
        · rw [List.getElem?_eq_none (by rw [Hyl.out]; omega), List.getElem?_eq_none (by simp; omega)]
      rw [← this]; exact HI.out

set_option maxRecDepth 100000 in
set_option maxHeartbeats 4000000 in
theorem heldRightSS_c {p : Option Addr} {cap : Nat} {a : List (List Rgt)} {w : World} (hO : SSAt w p (mkSS 1 a)) (hl : a.length ≤ 8) (hr : ∀ l ∈ a, l.length ≤ 400) :
    Calls Tryz.prog 29 #[.slice p a.length cap, .int .i64 1] w fun e w' => e = .returned (.int .i64 (nxSS 1 a)) ∧ Below w.heap.size w w' := by
  have HO := Lib.hid hO
  have HS := Lib.hid hr
  clear hO hr
  go_enter Tryz.func29, Tryz.ntmps29
  go_wp2
  go_loopw [1, 5] (fun s1 s5 wr => ∃ (j : Nat) (K : Int), s5 = .int .i64 (j : Int) ∧ j ≤ a.length ∧ s1 = .int .i64 K ∧ K = nxSS 1 (a.take j) ∧ Below w.heap.size w wr) (fun _ s5 _ => a.length - (intOf s5).toNat)
  case atStart => exact ⟨0, 1, rfl, by omega, rfl, by simp [nxSS], Below.refl _ _⟩
  case round =>
    obtain ⟨j, K, rfl, hj, rfl, hK, hB⟩ := hrel
    have HK := Lib.hid hK
    have HB := Lib.hid hB
    have hzr := hB.size
    by_cases hlt : j < a.length
    · have h0 : (0 : Int) ≤ (j : Int) := by omega
      have hin : (j : Int) < (a.length : Int) := by omega
      have hb := nxSS_bd (a.take j) 1 (fun t ht => HS.out t (List.mem_of_mem_take ht))
      have hK0 : 0 ≤ K := by omega
      have hK1 : K ≤ 100000 := by rw [hK]; have : (a.take j).length ≤ 8 := by simp; omega
                                  omega
      obtain ⟨l, htj⟩ : ∃ x, a[j]? = some x := ⟨_, List.getElem?_eq_getElem hlt⟩
      have hl4 := HS.out l (List.mem_of_getElem? htj)
      have hx := mkSS_at a 1 j l htj
      rw [← hK] at hx
      obtain ⟨A, rfl, hA, hA2⟩ : ∃ A, p = some ⟨A, 0, none⟩ ∧ A < wr.heap.size ∧ _ := (HO.out.pure hB).resolve_left (fun e => by have := congrArg List.length e; simp at this; rw [this] at hlt; simp at hlt)
      obtain ⟨q1, c1, g1, hR1⟩ := hA2 j _ hx
      rw [mkRs_len] at g1 hR1
      have Htj := Lib.hid htj
      have HR1 := Lib.hid hR1
      have n1 : ¬ (K + 5 * (l.length : Int) < 0) := by omega
      clear hK hx hB htj hb hA2 hR1
      go_wp2_with (go_at_call 55; refine (heldRightS_c l.length K _ HR1.out (by omega) (by omega) (by omega)).mono ?_; rintro e wA ⟨rfl, hbA⟩; have HbA := Lib.hid hbA; clear hbA)
      refine ⟨⟨j + 1, _, by go_num, by omega, rfl, by rw [nxSS_next a 1 j l Htj.out, ← HK.out], HB.out.trans (HbA.out.mono hzr)⟩, by simp [intOf]; omega⟩
    · obtain rfl : j = a.length := by omega
      clear hK hB
      go_wp2
      go_ret
      exact ⟨by rw [HK.out, List.take_length]; rfl, HB.out⟩

end Go.Proofs.YtiolplhgpodifaaGreat
