/- The statements' own marking of the program's things, and the look whether the marks are still there (laws.markThingS, heldThingS and what they call). Conditions: the table lies in memory of its own. -/
import Derived.Test.YtiolplhgpodifaaGreatY
import Derived.Deep.CutBlock
import Derived.BigQuiet
import Derived.Deep.RegionHeld3
import Derived.Deep.DeepCutAuto
set_option linter.unusedVariables false
set_option linter.unusedSimpArgs false
namespace Drw
open Go Go.RowKit

/-- What the marks are: number k and on. -/
def mkR (k : Int) : Rgt := ⟨k, k + 1, (k + 2) % 3 == 0, (k + 3) % 3 == 0, (k + 4) % 3 == 0⟩
def mkRs (k : Int) : Nat → List Rgt
  | 0 => []
  | n + 1 => mkR k :: mkRs (k + 5) n
def mkIs (k : Int) : Nat → List Int
  | 0 => []
  | n + 1 => k :: mkIs (k + 1) n
@[simp] theorem mkRs_len : ∀ (n : Nat) (k : Int), (mkRs k n).length = n
  | 0, _ => rfl
  | n + 1, k => by simp [mkRs, mkRs_len n]
@[simp] theorem mkIs_len : ∀ (n : Nat) (k : Int), (mkIs k n).length = n
  | 0, _ => rfl
  | n + 1, k => by simp [mkIs, mkIs_len n]
theorem mkRs_at : ∀ (n : Nat) (k : Int) (j : Nat), j < n → (mkRs k n)[j]? = some (mkR (k + 5 * (j : Int)))
  | 0, _, _, h => by omega
  | n + 1, k, 0, _ => by simp [mkRs]
  | n + 1, k, j + 1, h => by
    rw [mkRs, List.getElem?_cons_succ, mkRs_at n _ j (by omega)]
    congr 2; omega
theorem mkIs_at : ∀ (n : Nat) (k : Int) (j : Nat), j < n → (mkIs k n)[j]? = some (k + (j : Int))
  | 0, _, _, h => by omega
  | n + 1, k, 0, _ => by simp [mkIs]
  | n + 1, k, j + 1, h => by
    rw [mkIs, List.getElem?_cons_succ, mkIs_at n _ j (by omega)]
    congr 1; omega
def mkT (k : Int) (t : Thg) : Thg := ⟨k, ⟨k + 1, k + 2⟩, k + 3, k + 4, mkRs (k + 5) t.slots.length, mkIs (k + 5 + 5 * (t.slots.length : Int)) t.queue.length, k + 5 + 5 * (t.slots.length : Int) + (t.queue.length : Int)⟩
def nxT (k : Int) (t : Thg) : Int := k + 5 + 5 * (t.slots.length : Int) + (t.queue.length : Int) + 1
def mkTs (k : Int) : List Thg → List Thg
  | [] => []
  | t :: ts => mkT k t :: mkTs (nxT k t) ts
def nxTs (k : Int) : List Thg → Int
  | [] => k
  | t :: ts => nxTs (nxT k t) ts
@[simp] theorem mkTs_len : ∀ (ts : List Thg) (k : Int), (mkTs k ts).length = ts.length
  | [], _ => rfl
  | t :: ts, k => by simp [mkTs, mkTs_len ts]
theorem mkTs_at : ∀ (ts : List Thg) (k : Int) (j : Nat) (t : Thg), ts[j]? = some t → (mkTs k ts)[j]? = some (mkT (nxTs k (ts.take j)) t)
  | [], _, _, _, h => by simp at h
  | s :: ts, k, 0, t, h => by
    have e : s = t := by simpa using h
    subst e
    rfl
  | s :: ts, k, j + 1, t, h => by
    rw [mkTs, List.getElem?_cons_succ, mkTs_at ts _ j t (by simpa using h)]
    rfl
theorem nxTs_next : ∀ (ts : List Thg) (k : Int) (j : Nat) (t : Thg), ts[j]? = some t → nxTs k (ts.take (j + 1)) = nxT (nxTs k (ts.take j)) t
  | [], _, _, _, h => by simp at h
  | s :: ts, k, 0, t, h => by
    have e : s = t := by simpa using h
    subst e
    simp [nxTs]
  | s :: ts, k, j + 1, t, h => by
    rw [List.take_succ_cons, nxTs, nxTs_next ts _ j t (by simpa using h), List.take_succ_cons, nxTs]
theorem nxTs_bd : ∀ (ts : List Thg) (k : Int), (∀ t ∈ ts, t.slots.length ≤ 1048576 ∧ t.queue.length ≤ 1048576) → k ≤ nxTs k ts ∧ nxTs k ts ≤ k + 6291462 * (ts.length : Int)
  | [], k, _ => by simp [nxTs]
  | t :: ts, k, h => by
    have h1 := h t (by simp)
    have h2 := nxTs_bd ts (nxT k t) (fun s hs => h s (by simp [hs]))
    simp only [nxTs, List.length_cons]
    unfold nxT at h2 ⊢
    omega

/-- The rights of a thing written anew, where they lay. -/
theorem OwnTab.putSlots {w w' : World} {P : Nat → Prop} {tag : Nat → Nat} {v : Value} {xs : List Thx} (h : OwnTab w P tag v xs) {i : Nat} {t : Thg} {sv qv : Value} {rs : List Rgt} (hi : xs[i]? = some (t, sv, qv))
    (hl : rs.length = t.slots.length) (hg : Chg (fun b => 0 < t.slots.length ∧ sv.ownBlock = some b) w w') (hfz : ∀ b o, w'.frozen? ⟨b, o, none⟩ = w.frozen? ⟨b, o, none⟩) (hR : RgtsAt w' sv rs) :
    OwnTab w' P tag v (xs.set i ({ t with slots := rs }, sv, qv)) ∧ Chg P w w' := by
  have hm := h.tabx.2 _ (List.mem_of_getElem? hi)
  have s1 := h.slots i _ hi
  have s2 := h.queue i _ hi
  have hil := (List.getElem?_eq_some_iff.1 hi).1
  have hblk : ∀ b, (0 < t.slots.length ∧ sv.ownBlock = some b) → P b ∧ tag b = 2 * i + 1 := fun b hb => by
    obtain ⟨hn, he⟩ := hb
    have := Held.blk s1 hm.1 (by simpa using hn) he
    exact ⟨this.1, this.2.1⟩
  have hne : ∀ (m : Nat), m ≠ 2 * i + 1 → ∀ b, tag b = m → P b → b < w.heap.size → ¬ (0 < t.slots.length ∧ sv.ownBlock = some b) := by
    intro m' hm' b hb _ _ e
    exact hm' (hb.symm.trans (hblk b e).2)
  have hself : Held w' P tag (2 * i + 1) sv := by
    intro b o' n' cap' e hn'
    obtain ⟨q1, q2, q3, q4⟩ := s1 b o' n' cap' e hn'
    exact ⟨q1, q2, Nat.lt_of_lt_of_le q3 hg.size, fun j => (hfz b j).trans (q4 j)⟩
  have key : ∀ (k' : Nat) (x : Thx), (xs.set i ({ t with slots := rs }, sv, qv))[k']? = some x → ThxAt w' x ∧ Held w' P tag (2 * k' + 1) x.2.1 ∧ Held w' P tag (2 * k' + 2) x.2.2 := by
    intro k' x hx
    rw [List.getElem?_set] at hx
    split at hx
    · rename_i e
      subst e
      simp only [hil, if_true, Option.some.injEq] at hx
      subst hx
      exact ⟨⟨hR, Rows.held hm.2 s2 hg (hne _ (by omega))⟩, hself, s2.chg hg (hne _ (by omega))⟩
    · have hm' := h.tabx.2 x (List.mem_of_getElem? hx)
      have q1 := h.slots k' x hx
      have q2 := h.queue k' x hx
      exact ⟨⟨Rows.held hm'.1 q1 hg (hne _ (by omega)), Rows.held hm'.2 q2 hg (hne _ (by omega))⟩, q1.chg hg (hne _ (by omega)), q2.chg hg (hne _ (by omega))⟩
  refine ⟨⟨⟨?_, fun x hx => ?_⟩, h.own.chg hg (hne _ (by omega)), fun k x hk => (key k x hk).2.1, fun k x hk => (key k x hk).2.2⟩, hg.mono fun b _ hb => (hblk b hb).1⟩
  · have e : (xs.set i ({ t with slots := rs }, sv, qv)).map Thx.cells = xs.map Thx.cells := by
      rw [List.map_set]
      apply List.ext_getElem?
      intro k'
      rw [List.getElem?_set]
      split
      · rename_i e
        subst e
        rw [List.getElem?_map, hi]
        simp [hil, Thx.cells, Thg.cells]
      · rfl
    rw [e]
    exact Rows.held h.tabx.1 h.own hg (hne _ (by omega))
  · obtain ⟨k', hk'⟩ := List.mem_iff_getElem?.1 hx
    exact (key k' x hk').1

/-- The queue of a thing written anew, where it lay. -/
theorem OwnTab.putQueue {w w' : World} {P : Nat → Prop} {tag : Nat → Nat} {v : Value} {xs : List Thx} (h : OwnTab w P tag v xs) {i : Nat} {t : Thg} {sv qv : Value} {rs : List Int} (hi : xs[i]? = some (t, sv, qv))
    (hl : rs.length = t.queue.length) (hg : Chg (fun b => 0 < t.queue.length ∧ qv.ownBlock = some b) w w') (hfz : ∀ b o, w'.frozen? ⟨b, o, none⟩ = w.frozen? ⟨b, o, none⟩) (hR : IntsAt w' qv rs) :
    OwnTab w' P tag v (xs.set i ({ t with queue := rs }, sv, qv)) ∧ Chg P w w' := by
  have hm := h.tabx.2 _ (List.mem_of_getElem? hi)
  have s1 := h.slots i _ hi
  have s2 := h.queue i _ hi
  have hil := (List.getElem?_eq_some_iff.1 hi).1
  have hblk : ∀ b, (0 < t.queue.length ∧ qv.ownBlock = some b) → P b ∧ tag b = 2 * i + 2 := fun b hb => by
    obtain ⟨hn, he⟩ := hb
    have := Held.blk s2 hm.2 (by simpa using hn) he
    exact ⟨this.1, this.2.1⟩
  have hne : ∀ (m : Nat), m ≠ 2 * i + 2 → ∀ b, tag b = m → P b → b < w.heap.size → ¬ (0 < t.queue.length ∧ qv.ownBlock = some b) := by
    intro m' hm' b hb _ _ e
    exact hm' (hb.symm.trans (hblk b e).2)
  have hself : Held w' P tag (2 * i + 2) qv := by
    intro b o' n' cap' e hn'
    obtain ⟨q1, q2, q3, q4⟩ := s2 b o' n' cap' e hn'
    exact ⟨q1, q2, Nat.lt_of_lt_of_le q3 hg.size, fun j => (hfz b j).trans (q4 j)⟩
  have key : ∀ (k' : Nat) (x : Thx), (xs.set i ({ t with queue := rs }, sv, qv))[k']? = some x → ThxAt w' x ∧ Held w' P tag (2 * k' + 1) x.2.1 ∧ Held w' P tag (2 * k' + 2) x.2.2 := by
    intro k' x hx
    rw [List.getElem?_set] at hx
    split at hx
    · rename_i e
      subst e
      simp only [hil, if_true, Option.some.injEq] at hx
      subst hx
      exact ⟨⟨Rows.held hm.1 s1 hg (hne _ (by omega)), hR⟩, s1.chg hg (hne _ (by omega)), hself⟩
    · have hm' := h.tabx.2 x (List.mem_of_getElem? hx)
      have q1 := h.slots k' x hx
      have q2 := h.queue k' x hx
      exact ⟨⟨Rows.held hm'.1 q1 hg (hne _ (by omega)), Rows.held hm'.2 q2 hg (hne _ (by omega))⟩, q1.chg hg (hne _ (by omega)), q2.chg hg (hne _ (by omega))⟩
  refine ⟨⟨⟨?_, fun x hx => ?_⟩, h.own.chg hg (hne _ (by omega)), fun k x hk => (key k x hk).2.1, fun k x hk => (key k x hk).2.2⟩, hg.mono fun b _ hb => (hblk b hb).1⟩
  · have e : (xs.set i ({ t with queue := rs }, sv, qv)).map Thx.cells = xs.map Thx.cells := by
      rw [List.map_set]
      apply List.ext_getElem?
      intro k'
      rw [List.getElem?_set]
      split
      · rename_i e
        subst e
        rw [List.getElem?_map, hi]
        simp [hil, Thx.cells, Thg.cells]
      · rfl
    rw [e]
    exact Rows.held h.tabx.1 h.own hg (hne _ (by omega))
  · obtain ⟨k', hk'⟩ := List.mem_iff_getElem?.1 hx
    exact (key k' x hk').1

section
variable {w : World} {P : Nat → Prop} {tag : Nat → Nat} {T o n cap : Nat} {xs : List Thx}
/-- The first five numbers of a thing written. -/
theorem OwnTab.head5 (h : OwnTab w P tag (.slice (some ⟨T, o, none⟩) n cap) xs) {i : Nat} {t : Thg} {sv qv : Value} (hi : xs[i]? = some (t, sv, qv)) (a b c d e : Int) :
    OwnTab (((((w.setCell ⟨T, o + i * 8, none⟩ (.int .i64 a)).setCell ⟨T, o + i * 8 + 1, none⟩ (.int .i64 b)).setCell ⟨T, o + i * 8 + 2, none⟩ (.int .i64 c)).setCell ⟨T, o + i * 8 + 3, none⟩ (.int .i64 d)).setCell ⟨T, o + i * 8 + 4, none⟩ (.int .i64 e)) P tag (.slice (some ⟨T, o, none⟩) n cap) (xs.set i ({ t with kind := a, lab := ⟨b, c⟩, vers := d, num := e }, sv, qv)) ∧ Chg P w (((((w.setCell ⟨T, o + i * 8, none⟩ (.int .i64 a)).setCell ⟨T, o + i * 8 + 1, none⟩ (.int .i64 b)).setCell ⟨T, o + i * 8 + 2, none⟩ (.int .i64 c)).setCell ⟨T, o + i * 8 + 3, none⟩ (.int .i64 d)).setCell ⟨T, o + i * 8 + 4, none⟩ (.int .i64 e)) := by
  obtain ⟨hn, hP, -, hlt, hf⟩ := h.pos hi
  obtain ⟨c0, c1, c2, c3, c4, c5, c6, c7⟩ := h.cells hi
  have hg : ∀ S : Nat → Prop, S T → Chg S w (((((w.setCell ⟨T, o + i * 8, none⟩ (.int .i64 a)).setCell ⟨T, o + i * 8 + 1, none⟩ (.int .i64 b)).setCell ⟨T, o + i * 8 + 2, none⟩ (.int .i64 c)).setCell ⟨T, o + i * 8 + 3, none⟩ (.int .i64 d)).setCell ⟨T, o + i * 8 + 4, none⟩ (.int .i64 e)) := fun S hS => ((((Chg.setCell (S := S) (Chg.refl _ _) hS _).setCell hS _).setCell hS _).setCell hS _).setCell hS _
  refine ⟨h.putSame hi (hg _ rfl) (fun j => by simp) ?_ ?_ rfl rfl, hg _ hP⟩
  · intro j u hu
    rcases j with _ | _ | _ | _ | _ | _ | _ | _ | j
    all_goals (simp [Thg.cells] at hu)
    all_goals (try subst hu)
    all_goals (simp [cell_set, c0, c1, c2, c3, c4, c5, c6, c7]; done)
  · intro off hoff
    repeat (rw [cell_set, if_neg (by intro e; simp only [Addr.mk.injEq] at e; omega)])
/-- The last number of a thing written. -/
theorem OwnTab.last (h : OwnTab w P tag (.slice (some ⟨T, o, none⟩) n cap) xs) {i : Nat} {t : Thg} {sv qv : Value} (hi : xs[i]? = some (t, sv, qv)) (a : Int) :
    OwnTab (w.setCell ⟨T, o + i * 8 + 7, none⟩ (.int .i64 a)) P tag (.slice (some ⟨T, o, none⟩) n cap) (xs.set i (⟨t.kind, t.lab, t.vers, t.num, t.slots, t.queue, a⟩, sv, qv)) ∧ Chg P w (w.setCell ⟨T, o + i * 8 + 7, none⟩ (.int .i64 a)) := by
  obtain ⟨hn, hP, -, hlt, hf⟩ := h.pos hi
  obtain ⟨c0, c1, c2, c3, c4, c5, c6, c7⟩ := h.cells hi
  refine ⟨h.putSame hi (Chg.setCell (S := fun b => b = T) (Chg.refl _ _) rfl _) (fun j => by simp) ?_ ?_ rfl rfl, (Chg.refl _ _).setCell hP _⟩
  · intro j u hu
    rcases j with _ | _ | _ | _ | _ | _ | _ | _ | j
    all_goals (simp [Thg.cells] at hu)
    all_goals (try subst hu)
    all_goals (simp [cell_set, c0, c1, c2, c3, c4, c5, c6, c7]; done)
  · intro off hoff
    rw [cell_set, if_neg (by intro e; simp only [Addr.mk.injEq] at e; omega)]
end
end Drw

namespace Go.Proofs.YtiolplhgpodifaaGreat
open Go.RowKit Drw
attribute [local go_sem] Lab.val Rgt.val Cal.val Thg.val

/-- No cell of a slice's block is frozen, where the slice holds something. -/
def Free (w : World) (n : Nat) (v : Value) : Prop := ∀ b, v.ownBlock = some b → 0 < n → ∀ o, w.frozen? ⟨b, o, none⟩ = false

set_option maxRecDepth 100000 in
set_option maxHeartbeats 2000000 in
theorem markIntS_c {v : Value} (xs : List Int) (k : Int) (w : World) (h : IntsAt w v xs) (hf : Free w xs.length v) (hk0 : 0 ≤ k) (hk : k ≤ 35184372088832) (hl : xs.length ≤ 1048576) :
    Calls Tryz.prog 54 #[v, .int .i64 k] w fun e w' => e = .returned (.int .i64 (k + (xs.length : Int))) ∧ IntsAt w' v (mkIs k xs.length) ∧ Chg (fun b => 0 < xs.length ∧ v.ownBlock = some b) w w' ∧ ∀ b o, w'.frozen? ⟨b, o, none⟩ = w.frozen? ⟨b, o, none⟩ := by
  obtain ⟨p, cap, rfl, h1, h2⟩ := h.len
  unfold maxLen at h2
  have H := Lib.hid h
  have Hf := Lib.hid hf
  clear h hf
  go_enter Tryz.func54, Tryz.ntmps54
  go_wp2
  go_loopw [1, 5] (fun s1 s5 wr => ∃ (j : Nat) (ys : List Int), s5 = .int .i64 (j : Int) ∧ j ≤ xs.length ∧ s1 = .int .i64 (k + (j : Int)) ∧ ys.length = xs.length ∧ (∀ i, i < j → ys[i]? = some (k + (i : Int))) ∧ IntsAt wr (.slice p xs.length cap) ys ∧ Chg (fun b => 0 < xs.length ∧ (Value.slice p xs.length cap).ownBlock = some b) w wr ∧ ∀ b o, wr.frozen? ⟨b, o, none⟩ = w.frozen? ⟨b, o, none⟩) (fun _ s5 _ => xs.length - (intOf s5).toNat)
  case atStart => exact ⟨0, xs, rfl, by omega, by simp, rfl, fun i h => absurd h (by omega), H.out, Chg.refl _ _, fun _ _ => rfl⟩
  case round =>
    obtain ⟨j, ys, rfl, hj, rfl, hyl, hys, hI, hC, hF⟩ := hrel
    have Hyl := Lib.hid hyl
    have Hys := Lib.hid hys
    have HI := Lib.hid hI
    have HC := Lib.hid hC
    have HF := Lib.hid hF
    by_cases hlt : j < xs.length
    · have h0 : (0 : Int) ≤ (j : Int) := by omega
      have hin : (j : Int) < (xs.length : Int) := by omega
      obtain ⟨x, hx⟩ : ∃ x, ys[j]? = some x := ⟨_, List.getElem?_eq_getElem (by omega)⟩
      obtain ⟨b, o, rfl, hb, c0⟩ := hI.at j x hx
      have f0 : wr.frozen? ⟨b, o + j, none⟩ = false := (hF b (o + j)).trans (Hf.out b rfl (by omega) _)
      have hw : IntKind.i64.wrap (k + (j : Int) + 1) = k + (j : Int) + 1 := IntWalk.i64_in _ (by omega)
      clear hyl hys hI hC hF hx
      go_wp2
      refine ⟨⟨j + 1, ys.set j (k + (j : Int)), by go_num, by omega, by congr 1; omega, by simpa using Hyl.out, fun i hi => ?_, ?_, HC.out.setCell (p := ⟨b, o + j, none⟩) (show 0 < xs.length ∧ some b = some b from ⟨by omega, rfl⟩) _, fun b' o' => by simpa using HF.out b' o'⟩, by simp [intOf]; omega⟩
      · rw [List.getElem?_set]
        by_cases e : j = i
        · subst e; simp [Hyl.out, hlt]
        · rw [if_neg e]; exact Hys.out i (by omega)
      · unfold IntsAt
        rw [List.map_set]
        refine Drw.Rows.put HI.out (fun c hc => ?_) (fun i u hu => ?_) (fun off ho => ?_)
        · rw [List.mem_map] at hc; obtain ⟨y, -, rfl⟩ := hc; simp [intCells]
        · rcases i with _ | i
          all_goals (simp [intCells] at hu)
          all_goals (try subst hu)
          all_goals (simp [cell_set, c0]; done)
        · rw [cell_set, if_neg (by intro e; simp only [Addr.mk.injEq] at e; omega)]
    · obtain rfl : j = xs.length := by omega
      clear hyl hys hI hC hF
      go_wp2
      go_ret
      refine ⟨rfl, ?_, HC.out, HF.out⟩
      have : ys = mkIs k xs.length := by
        apply List.ext_getElem?
        intro i
        by_cases hi : i < xs.length
        · rw [Hys.out i hi, mkIs_at _ _ _ hi]
        · rw [List.getElem?_eq_none (by rw [Hyl.out]; omega), List.getElem?_eq_none (by simp; omega)]
      rw [← this]; exact HI.out

set_option maxRecDepth 100000 in
set_option maxHeartbeats 4000000 in
theorem markRightS_c {v : Value} (xs : List Rgt) (k : Int) (w : World) (h : RgtsAt w v xs) (hf : Free w xs.length v) (hk0 : 0 ≤ k) (hk : k ≤ 35184372088832) (hl : xs.length ≤ 1048576) :
    Calls Tryz.prog 53 #[v, .int .i64 k] w fun e w' => e = .returned (.int .i64 (k + 5 * (xs.length : Int))) ∧ RgtsAt w' v (mkRs k xs.length) ∧ Chg (fun b => 0 < xs.length ∧ v.ownBlock = some b) w w' ∧ ∀ b o, w'.frozen? ⟨b, o, none⟩ = w.frozen? ⟨b, o, none⟩ := by
  obtain ⟨p, cap, rfl, h1, h2⟩ := h.len
  unfold maxLen at h2
  have H := Lib.hid h
  have Hf := Lib.hid hf
  clear h hf
  go_enter Tryz.func53, Tryz.ntmps53
  go_wp2
  go_loopw [1, 5] (fun s1 s5 wr => ∃ (j : Nat) (K : Int) (ys : List Rgt), s5 = .int .i64 (j : Int) ∧ j ≤ xs.length ∧ s1 = .int .i64 K ∧ K = k + 5 * (j : Int) ∧ ys.length = xs.length ∧ (∀ i, i < j → ys[i]? = some (mkR (k + 5 * (i : Int)))) ∧ RgtsAt wr (.slice p xs.length cap) ys ∧ Chg (fun b => 0 < xs.length ∧ (Value.slice p xs.length cap).ownBlock = some b) w wr ∧ ∀ b o, wr.frozen? ⟨b, o, none⟩ = w.frozen? ⟨b, o, none⟩) (fun _ s5 _ => xs.length - (intOf s5).toNat)
  case atStart => exact ⟨0, k, xs, rfl, by omega, rfl, by simp, rfl, fun i h => absurd h (by omega), H.out, Chg.refl _ _, fun _ _ => rfl⟩
  case round =>
    obtain ⟨j, K, ys, rfl, hj, rfl, hK, hyl, hys, hI, hC, hF⟩ := hrel
    have HK := Lib.hid hK
    have Hyl := Lib.hid hyl
    have Hys := Lib.hid hys
    have HI := Lib.hid hI
    have HC := Lib.hid hC
    have HF := Lib.hid hF
    by_cases hlt : j < xs.length
    · have h0 : (0 : Int) ≤ (j : Int) := by omega
      have hin : (j : Int) < (xs.length : Int) := by omega
      have hK0 : 0 ≤ K := by omega
      have hK1 : K ≤ 35184377331712 := by omega
      obtain ⟨x, hx⟩ : ∃ x, ys[j]? = some x := ⟨_, List.getElem?_eq_getElem (by omega)⟩
      obtain ⟨b, o, rfl, hb, c0, c1, c2, c3, c4⟩ := hI.at j x hx
      have f0 : ∀ o, wr.frozen? ⟨b, o, none⟩ = false := fun o => (hF b o).trans (Hf.out b rfl (by omega) _)
      have w1 : IntKind.i64.wrap (K + 1) = K + 1 := IntWalk.i64_in _ (by omega)
      have w2 : IntKind.i64.wrap (K + 1 + 1) = K + 1 + 1 := IntWalk.i64_in _ (by omega)
      have w3 : IntKind.i64.wrap (K + 1 + 1 + 1) = K + 1 + 1 + 1 := IntWalk.i64_in _ (by omega)
      have w4 : IntKind.i64.wrap (K + 1 + 1 + 1 + 1) = K + 1 + 1 + 1 + 1 := IntWalk.i64_in _ (by omega)
      have w5 : IntKind.i64.wrap (K + 1 + 1 + 1 + 1 + 1) = K + 1 + 1 + 1 + 1 + 1 := IntWalk.i64_in _ (by omega)
      clear hyl hys hI hC hF hx hK
      go_wp2
      have hS : ∀ q : Nat, 0 < xs.length ∧ some b = some b := fun _ => ⟨by omega, rfl⟩
      refine ⟨⟨j + 1, _, ys.set j (mkR K), by go_num, by omega, rfl, by have := HK.out; omega, by simpa using Hyl.out, fun i hi => ?_, ?_, ((((HC.out.setCell (p := ⟨b, _, none⟩) (hS 0) _).setCell (p := ⟨b, _, none⟩) (hS 0) _).setCell (p := ⟨b, _, none⟩) (hS 0) _).setCell (p := ⟨b, _, none⟩) (hS 0) _).setCell (p := ⟨b, _, none⟩) (hS 0) _, fun b' o' => by simpa using HF.out b' o'⟩, by simp [intOf]; omega⟩
      · rw [List.getElem?_set]
        by_cases e : j = i
        · subst e; simp [Hyl.out, hlt, HK.out]
        · rw [if_neg e]; exact Hys.out i (by omega)
      · unfold RgtsAt
        rw [List.map_set]
        refine Drw.Rows.put HI.out (fun c hc => ?_) (fun i u hu => ?_) (fun off ho => ?_)
        · rw [List.mem_map] at hc; obtain ⟨y, -, rfl⟩ := hc; simp [Rgt.cells]
        · have e2 : K + 1 + 1 = K + 2 := by omega
          have e3 : K + 1 + 1 + 1 = K + 3 := by omega
          have e4 : K + 1 + 1 + 1 + 1 = K + 4 := by omega
          rw [e4, e3, e2]
          rcases i with _ | _ | _ | _ | _ | i
          all_goals (simp [Rgt.cells, mkR] at hu)
          all_goals (try subst hu)
          all_goals (simp [cell_set, c0, c1, c2, c3, c4]; done)
        · repeat (rw [cell_set, if_neg (by intro e; simp only [Addr.mk.injEq] at e; omega)])
    · obtain rfl : j = xs.length := by omega
      clear hyl hys hI hC hF hK
      go_wp2
      go_ret
      refine ⟨by rw [HK.out]; rfl, ?_, HC.out, HF.out⟩
      have : ys = mkRs k xs.length := by
        apply List.ext_getElem?
        intro i
        by_cases hi : i < xs.length
        · rw [Hys.out i hi, mkRs_at _ _ _ hi]
        · rw [List.getElem?_eq_none (by rw [Hyl.out]; omega), List.getElem?_eq_none (by simp; omega)]
      rw [← this]; exact HI.out

theorem set_at {α : Type} {xs : List α} {j : Nat} {x : α} (h : j < xs.length) : (xs.set j x)[j]? = some x := by
  rw [List.getElem?_set, if_pos rfl, if_pos h]
theorem free_of {w : World} {P : Nat → Prop} {tag : Nat → Nat} {m s n : Nat} {v : Value} {cs : List (List Value)} (hh : Held w P tag m v) (h : Drw.Rows w v s cs) (hn : cs.length = n) : Free w n v := by
  subst hn
  obtain ⟨p, cap, rfl, h1, h2, h3⟩ := h
  intro b hb hn
  rcases h3 with rfl | ⟨b', o', rfl, hc⟩
  · simp at hn
  · cases hb; exact (hh b' o' _ cap rfl hn).2.2.2

set_option maxRecDepth 100000 in
set_option maxHeartbeats 4000000 in
theorem markThingS_c {p : Option Addr} {cap : Nat} {ts : List Thg} {P : Nat → Prop} {tag : Nat → Nat} {xs : List Thx} (k : Int) (w : World) (hO : OwnTab w P tag (.slice p ts.length cap) xs) (hx : xs.map (·.1) = ts) (hk0 : 0 ≤ k) (hk : k ≤ 1048576)
    (hn : ts.length ≤ 1048576) (hS : ∀ t ∈ ts, t.slots.length ≤ 1048576 ∧ t.queue.length ≤ 1048576) :
    Calls Tryz.prog 27 #[.slice p ts.length cap, .int .i64 k] w fun e w' => ∃ ys, e = .returned (.int .i64 (nxTs k ts)) ∧ OwnTab w' P tag (.slice p ts.length cap) ys ∧ ys.map (·.1) = mkTs k ts ∧ Chg P w w' := by
  obtain ⟨_, _, h1, hl1, hl2⟩ := (hx ▸ hO.at' : TabAt w (.slice p ts.length cap) ts).len
  cases h1
  unfold maxLen at hl2
  have HO := Lib.hid hO
  have Hx := Lib.hid hx
  have HS := Lib.hid hS
  clear hO hx hS
  go_enter Tryz.func27, Tryz.ntmps27
  go_wp2
  go_loopw [1, 5] (fun s1 s5 wr => ∃ (j : Nat) (K : Int) (ys : List Thx), s5 = .int .i64 (j : Int) ∧ j ≤ ts.length ∧ s1 = .int .i64 K ∧ K = nxTs k (ts.take j) ∧ ys.length = ts.length ∧ (∀ i, i < j → (ys[i]?).map (·.1) = (mkTs k ts)[i]?) ∧ (∀ i, j ≤ i → (ys[i]?).map (·.1) = ts[i]?) ∧ OwnTab wr P tag (.slice p ts.length cap) ys ∧ Chg P w wr) (fun _ s5 _ => ts.length - (intOf s5).toNat)
  case atStart => exact ⟨0, k, xs, rfl, by omega, rfl, by simp [nxTs], by rw [← Hx.out]; simp, fun i h => absurd h (by omega), fun i _ => by rw [← Hx.out]; simp, HO.out, Chg.refl _ _⟩
  case round =>
    obtain ⟨j, K, ys, rfl, hj, rfl, hK, hyl, hy1, hy2, hI, hC⟩ := hrel
    have HK := Lib.hid hK
    have Hyl := Lib.hid hyl
    have Hy1 := Lib.hid hy1
    have Hy2 := Lib.hid hy2
    have HI := Lib.hid hI
    have HC := Lib.hid hC
    by_cases hlt : j < ts.length
    · have h0 : (0 : Int) ≤ (j : Int) := by omega
      have hin : (j : Int) < (ts.length : Int) := by omega
      have hb := nxTs_bd (ts.take j) k (fun t ht => HS.out t (List.mem_of_mem_take ht))
      have hK0 : 0 ≤ K := by omega
      have hK1 : K ≤ 8796093022208 := by rw [hK]; have : (ts.take j).length ≤ 1048576 := by simp; omega
                                         omega
      obtain ⟨⟨t, sv, qv⟩, hyj⟩ : ∃ x, ys[j]? = some x := ⟨_, List.getElem?_eq_getElem (by omega)⟩
      have htj : ts[j]? = some t := by rw [← hy2 j (Nat.le_refl _), hyj]; rfl
      obtain ⟨hs1, hs2⟩ := HS.out t (List.mem_of_getElem? htj)
      obtain ⟨T, o, rfl⟩ : ∃ T o, p = some ⟨T, o, none⟩ := by
        obtain ⟨b, o, e, -⟩ := hI.tabx.at j _ hyj
        exact ⟨b, o, e⟩
      obtain ⟨-, -, -, hTl, hTf⟩ := hI.pos hyj
      obtain ⟨c0, c1, c2, c3, c4, c5, c6, c7⟩ := hI.cells hyj
      have Hyj := Lib.hid hyj
      have Htj := Lib.hid htj
      have w1 : IntKind.i64.wrap (K + 1) = K + 1 := IntWalk.i64_in _ (by omega)
      have w2 : IntKind.i64.wrap (K + 1 + 1) = K + 2 := by rw [IntWalk.i64_in _ (by omega)]; omega
      have w3 : IntKind.i64.wrap (K + 2 + 1) = K + 3 := by rw [IntWalk.i64_in _ (by omega)]; omega
      have w4 : IntKind.i64.wrap (K + 3 + 1) = K + 4 := by rw [IntWalk.i64_in _ (by omega)]; omega
      have w5 : IntKind.i64.wrap (K + 4 + 1) = K + 5 := by rw [IntWalk.i64_in _ (by omega)]; omega
      have w6 : IntKind.i64.wrap (K + 5 + 5 * (t.slots.length : Int) + (t.queue.length : Int) + 1) = K + 5 + 5 * (t.slots.length : Int) + (t.queue.length : Int) + 1 := IntWalk.i64_in _ (by omega)
      obtain ⟨-, hjl⟩ : True ∧ j < ys.length := ⟨trivial, by omega⟩
      obtain ⟨H5, hc5⟩ := hI.head5 hyj K (K + 1) (K + 2) (K + 3) (K + 4)
      have hy5 := set_at (x := (({ t with kind := K, lab := ⟨K + 1, K + 2⟩, vers := K + 3, num := K + 4 } : Thg), sv, qv)) hjl
      have HH5 := Lib.hid H5
      have HC5 := Lib.hid hc5
      have Hy5 := Lib.hid hy5
      clear hK hyl hy1 hy2 hI hC hyj htj H5 hc5 hy5 hb
      go_wp2_with (first
        | (go_at_call 53; refine (markRightS_c t.slots (K + 5) _ (HH5.out.tabx.2 _ (List.mem_of_getElem? Hy5.out)).1 ?f1 (by omega) (by omega) hs1).mono ?_; rotate_left; rintro e wA ⟨rfl, hRA, hCA, hfA⟩; obtain ⟨HA, hpA⟩ := HH5.out.putSlots Hy5.out (mkRs_len _ _) hCA (fun b o => by simpa using hfA b o) hRA; have hyA := set_at (x := (({ t with kind := K, lab := ⟨K + 1, K + 2⟩, vers := K + 3, num := K + 4, slots := mkRs (K + 5) t.slots.length } : Thg), sv, qv)) (xs := ys) hjl; rw [List.set_set] at HA; obtain ⟨-, -, -, hTA, hfA2⟩ := HA.pos hyA; obtain ⟨y0, y1, y2, y3, y4, y5, y6, y7⟩ := HA.cells hyA; have HHA := Lib.hid HA; have HyA := Lib.hid hyA; have HpA := Lib.hid hpA; clear HA hyA hpA hRA hCA hfA c0 c1 c2 c3 c4 c5 c6 c7 y0 y1 y2 y3 y4 y5)
        | (go_at_call 54; refine (markIntS_c t.queue (K + 5 + 5 * (t.slots.length : Int)) _ (HHA.out.tabx.2 _ (List.mem_of_getElem? HyA.out)).2 ?f2 (by omega) (by omega) hs2).mono ?_; rotate_left; rintro e wB ⟨rfl, hRB, hCB, hfB⟩; obtain ⟨HB, hpB⟩ := HHA.out.putQueue HyA.out (mkIs_len _ _) hCB hfB hRB; have hyB := set_at (x := (({ t with kind := K, lab := ⟨K + 1, K + 2⟩, vers := K + 3, num := K + 4, slots := mkRs (K + 5) t.slots.length, queue := mkIs (K + 5 + 5 * (t.slots.length : Int)) t.queue.length } : Thg), sv, qv)) (xs := ys) hjl; rw [List.set_set] at HB; obtain ⟨-, -, -, hTB, hfB2⟩ := HB.pos hyB; obtain ⟨z0, z1, z2, z3, z4, z5, z6, z7⟩ := HB.cells hyB; have HHB := Lib.hid HB; have HyB := Lib.hid hyB; have HpB := Lib.hid hpB; clear HB hyB hpB hRB hCB hfB z0 z1 z2 z3 z4 z5 z6))
      case f1 => exact free_of (HH5.out.slots j _ Hy5.out) (HH5.out.tabx.2 _ (List.mem_of_getElem? Hy5.out)).1 (by simp)
      case f2 => exact free_of (HHA.out.queue j _ HyA.out) (HHA.out.tabx.2 _ (List.mem_of_getElem? HyA.out)).2 (by simp)
      obtain ⟨HL, hpL⟩ := HHB.out.last HyB.out (K + 5 + 5 * (t.slots.length : Int) + (t.queue.length : Int))
      rw [List.set_set] at HL
      have hjl' := hjl
      refine ⟨⟨j + 1, _, _, by go_num, by omega, rfl, ?_, ?_, fun i hi => ?_, fun i hi => ?_, HL, (((HC.out.trans HC5.out).trans HpA.out).trans HpB.out).trans hpL⟩, by simp [intOf]; omega⟩
      · rw [nxTs_next ts k j t Htj.out, ← HK.out]; rfl
      · simpa using Hyl.out
      · by_cases e : j = i
        · subst e
          rw [set_at hjl, mkTs_at ts k j t Htj.out, ← HK.out]; rfl
        · rw [List.getElem?_set, if_neg e]; exact Hy1.out i (by omega)
      · rw [List.getElem?_set, if_neg (by omega)]; exact Hy2.out i (by omega)
    · obtain rfl : j = ts.length := by omega
      clear hK hyl hy1 hy2 hI hC
      go_wp2
      go_ret
      refine ⟨ys, by rw [HK.out, List.take_length]; rfl, HI.out, ?_, HC.out⟩
      apply List.ext_getElem?
      intro i
      rw [List.getElem?_map]
      by_cases hi : i < ts.length
      · exact Hy1.out i hi
      · rw [List.getElem?_eq_none (by rw [Hyl.out]; omega), List.getElem?_eq_none (by simp; omega)]; rfl

end Go.Proofs.YtiolplhgpodifaaGreat
