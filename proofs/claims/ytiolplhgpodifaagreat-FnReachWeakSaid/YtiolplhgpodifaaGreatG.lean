/- A right among rights, by impl. Conditions: none but bounds as they stand. -/
import Derived.Test.YtiolplhgpodifaaGreatIv
import Derived.Deep.RegionWith
import Derived.Test.YtiolplhgpodifaaGreatBase
import Derived.Sort.QuietIn
import Derived.Test.YtiolplhgpodifaaGreatMa
set_option linter.unusedVariables false
set_option linter.unusedSimpArgs false
namespace Go.Proofs.YtiolplhgpodifaaGreat
open Go.RowKit Drw
attribute [local go_sem] Lab.val Rgt.val Cal.val Thg.val

theorem ta_ee (v : Value) (w : World) : (Instr.typeAssert (.iface 107 v) 67 107 true).run Tryz.prog w = .ok (.tuple #[v, .bool true]) w := by kernel_rfl
theorem ta_oo (v : Value) (w : World) : (Instr.typeAssert (.iface 109 v) 67 109 true).run Tryz.prog w = .ok (.tuple #[v, .bool true]) w := by kernel_rfl
theorem ta_oe (v : Value) (w : World) : (Instr.typeAssert (.iface 109 v) 67 107 true).run Tryz.prog w = .ok (.tuple #[.agg #[], .bool false]) w := by kernel_rfl
theorem ta_eo (v : Value) (w : World) : (Instr.typeAssert (.iface 107 v) 67 109 true).run Tryz.prog w = .ok (.tuple #[Rgt.null.val, .bool false]) w := by kernel_rfl
attribute [local go_sem] ta_ee ta_oo ta_oe ta_eo

set_option maxRecDepth 100000 in
set_option maxHeartbeats 4000000 in
theorem capabilityIn_c (a b : Rgt) (w : World) :
    Calls Tryz.prog 43 #[capV a, capV b] w fun e w' => e = .returned (.bool (rgtIn1 a b)) ∧ Below w.heap.size w w' := by
  by_cases ha : a.thing = 0
  · rw [capV_null ha, show rgtIn1 a b = true by simp [rgtIn1, ha]]
    clear ha
    by_cases hb : b.thing = 0
    · rw [capV_null hb]
      clear hb
      go_enter Tryz.func43, Tryz.ntmps43
      go_wp2
      go_ret
      exact ⟨rfl, (by (repeat (with_reducible first | exact Below.refl _ _ | refine Below.alloc ?_ ?_ _ | refine below_drewN ?_ _ | refine Below.drew ?_ | refine Below.setCell ?_ ?_ _ | refine Below.trans ?_ (Below.mono (by assumption) ?_))) <;> (first | omega | (simp; try omega)))⟩
    · rw [capV_obj hb]
      clear hb
      go_enter Tryz.func43, Tryz.ntmps43
      go_wp2
      go_ret
      exact ⟨rfl, (by (repeat (with_reducible first | exact Below.refl _ _ | refine Below.alloc ?_ ?_ _ | refine below_drewN ?_ _ | refine Below.drew ?_ | refine Below.setCell ?_ ?_ _ | refine Below.trans ?_ (Below.mono (by assumption) ?_))) <;> (first | omega | (simp; try omega)))⟩
  · by_cases hb : b.thing = 0
    · rw [capV_obj ha, capV_null hb, show rgtIn1 a b = false by simp [rgtIn1, ha, hb]]
      clear ha hb
      obtain ⟨a1, a2, a3, a4, a5⟩ := a
      dsimp only [Rgt.val]
      go_enter Tryz.func43, Tryz.ntmps43
      go_wp2
      go_ret
      exact ⟨rfl, (by (repeat (with_reducible first | exact Below.refl _ _ | refine Below.alloc ?_ ?_ _ | refine below_drewN ?_ _ | refine Below.drew ?_ | refine Below.setCell ?_ ?_ _ | refine Below.trans ?_ (Below.mono (by assumption) ?_))) <;> (first | omega | (simp; try omega)))⟩
    · rw [capV_obj ha, capV_obj hb]
      obtain ⟨v, hv⟩ : ∃ v, rgtIn1 a b = v := ⟨_, rfl⟩
      obtain ⟨a1, a2, a3, a4, a5⟩ := a
      obtain ⟨b1, b2, b3, b4, b5⟩ := b
      dsimp only at ha hb
      have Hv := Lib.hid hv
      rw [hv]
      clear hv
      dsimp only [Rgt.val]
      go_enter Tryz.func43, Tryz.ntmps43
      go_upto_region 11 with (fail)
      go_region
      all_goals go_wp2
      all_goals go_ret
      all_goals (refine ⟨ret_bool ?_, (by (repeat (with_reducible first | exact Below.refl _ _ | refine Below.alloc ?_ ?_ _ | refine below_drewN ?_ _ | refine Below.drew ?_ | refine Below.setCell ?_ ?_ _ | refine Below.trans ?_ (Below.mono (by assumption) ?_))) <;> (first | omega | (simp; try omega)))⟩; rw [← Hv.out]; grind [rgtIn1])

set_option maxRecDepth 100000 in
set_option maxHeartbeats 4000000 in
theorem rightIn_c (a b : Rgt) (w : World) :
    Calls Tryz.prog 17 #[a.val, b.val] w fun e w' => e = .returned (.bool (rgtIn a b)) ∧ Below w.heap.size w w' := by
  obtain ⟨va, hva⟩ : ∃ v, rgtOk a = v := ⟨_, rfl⟩
  obtain ⟨vb, hvb⟩ : ∃ v, rgtOk b = v := ⟨_, rfl⟩
  obtain ⟨vi, hvi⟩ : ∃ v, rgtIn1 a b = v := ⟨_, rfl⟩
  have hr : rgtIn a b = (va && vb && vi) := by simp [rgtIn, hva, hvb, hvi]
  rw [hr]
  have Ha := Lib.hid hva
  have Hb := Lib.hid hvb
  have Hi := Lib.hid (show ∀ w, Calls Tryz.prog 43 #[capV a, capV b] w fun e w' => e = .returned (.bool vi) ∧ Below w.heap.size w w' from fun w => by rw [← hvi]; exact capabilityIn_c a b w)
  obtain ⟨xa, hxa⟩ : ∃ x, capV a = x := ⟨_, rfl⟩
  obtain ⟨xb, hxb⟩ : ∃ x, capV b = x := ⟨_, rfl⟩
  rw [hxa, hxb] at Hi
  have Hxa := Lib.hid hxa
  have Hxb := Lib.hid hxb
  clear hva hvb hvi hr hxa hxb
  obtain ⟨a1, a2, a3, a4, a5⟩ := a
  obtain ⟨b1, b2, b3, b4, b5⟩ := b
  dsimp only [Rgt.val]
  go_enter Tryz.func17, Tryz.ntmps17
  go_upto_region 2 with (fail)
  generalize hwx : (w.alloc _).alloc _ = wx
  have hB0 : Below w.heap.size w wx := by rw [← hwx]; exact (by (repeat (with_reducible first | exact Below.refl _ _ | refine Below.alloc ?_ ?_ _ | refine below_drewN ?_ _ | refine Below.drew ?_ | refine Below.setCell ?_ ?_ _ | refine Below.trans ?_ (Below.mono (by assumption) ?_))) <;> (first | omega | (simp; try omega)))
  have g1 : wx.cell? ⟨w.heap.size, 0, none⟩ = some (.int .i64 a1) ∧ wx.cell? ⟨w.heap.size, 1, none⟩ = some (.int .i64 a2) ∧ wx.cell? ⟨w.heap.size, 2, none⟩ = some (.bool a3) ∧ wx.cell? ⟨w.heap.size, 3, none⟩ = some (.bool a4) ∧ wx.cell? ⟨w.heap.size, 4, none⟩ = some (.bool a5) := by rw [← hwx]; simp [go_sem]
  have g2 : wx.cell? ⟨w.heap.size + 1, 0, none⟩ = some (.int .i64 b1) ∧ wx.cell? ⟨w.heap.size + 1, 1, none⟩ = some (.int .i64 b2) ∧ wx.cell? ⟨w.heap.size + 1, 2, none⟩ = some (.bool b3) ∧ wx.cell? ⟨w.heap.size + 1, 3, none⟩ = some (.bool b4) ∧ wx.cell? ⟨w.heap.size + 1, 4, none⟩ = some (.bool b5) := by rw [← hwx]; simp [go_sem]
  have hs1 : w.heap.size + 1 < wx.heap.size := by rw [← hwx]; simp
  clear hwx
  have HS := Lib.hid (show ∀ w' : World, Below wx.heap.size wx w' → (Below wx.heap.size wx w' ∧ (w'.cell? ⟨w.heap.size, 0, none⟩ = some (.int .i64 a1) ∧ w'.cell? ⟨w.heap.size, 1, none⟩ = some (.int .i64 a2) ∧ w'.cell? ⟨w.heap.size, 2, none⟩ = some (.bool a3) ∧ w'.cell? ⟨w.heap.size, 3, none⟩ = some (.bool a4) ∧ w'.cell? ⟨w.heap.size, 4, none⟩ = some (.bool a5)) ∧ (w'.cell? ⟨w.heap.size + 1, 0, none⟩ = some (.int .i64 b1) ∧ w'.cell? ⟨w.heap.size + 1, 1, none⟩ = some (.int .i64 b2) ∧ w'.cell? ⟨w.heap.size + 1, 2, none⟩ = some (.bool b3) ∧ w'.cell? ⟨w.heap.size + 1, 3, none⟩ = some (.bool b4) ∧ w'.cell? ⟨w.heap.size + 1, 4, none⟩ = some (.bool b5))) from fun w' h => by
    obtain ⟨hc', -⟩ := bcell h
    have e1 : w.heap.size < wx.heap.size := by omega
    exact ⟨h, by simp only [hc' _ _ e1]; exact g1, by simp only [hc' _ _ hs1]; exact g2⟩)
  clear g1 g2
  have HS2 := Lib.hid (show ∀ wA w' : World, (Below wx.heap.size wx wA ∧ (wA.cell? ⟨w.heap.size, 0, none⟩ = some (.int .i64 a1) ∧ wA.cell? ⟨w.heap.size, 1, none⟩ = some (.int .i64 a2) ∧ wA.cell? ⟨w.heap.size, 2, none⟩ = some (.bool a3) ∧ wA.cell? ⟨w.heap.size, 3, none⟩ = some (.bool a4) ∧ wA.cell? ⟨w.heap.size, 4, none⟩ = some (.bool a5)) ∧ (wA.cell? ⟨w.heap.size + 1, 0, none⟩ = some (.int .i64 b1) ∧ wA.cell? ⟨w.heap.size + 1, 1, none⟩ = some (.int .i64 b2) ∧ wA.cell? ⟨w.heap.size + 1, 2, none⟩ = some (.bool b3) ∧ wA.cell? ⟨w.heap.size + 1, 3, none⟩ = some (.bool b4) ∧ wA.cell? ⟨w.heap.size + 1, 4, none⟩ = some (.bool b5))) → Below wA.heap.size wA w' → (Below wx.heap.size wx w' ∧ (w'.cell? ⟨w.heap.size, 0, none⟩ = some (.int .i64 a1) ∧ w'.cell? ⟨w.heap.size, 1, none⟩ = some (.int .i64 a2) ∧ w'.cell? ⟨w.heap.size, 2, none⟩ = some (.bool a3) ∧ w'.cell? ⟨w.heap.size, 3, none⟩ = some (.bool a4) ∧ w'.cell? ⟨w.heap.size, 4, none⟩ = some (.bool a5)) ∧ (w'.cell? ⟨w.heap.size + 1, 0, none⟩ = some (.int .i64 b1) ∧ w'.cell? ⟨w.heap.size + 1, 1, none⟩ = some (.int .i64 b2) ∧ w'.cell? ⟨w.heap.size + 1, 2, none⟩ = some (.bool b3) ∧ w'.cell? ⟨w.heap.size + 1, 3, none⟩ = some (.bool b4) ∧ w'.cell? ⟨w.heap.size + 1, 4, none⟩ = some (.bool b5))) from fun wA w' h hb => HS.out _ (h.1.trans (hb.mono h.1.size)))
  have HB := Lib.hid hB0
  clear hB0
  have H0 := HS.out _ (Below.drew (Below.refl _ _))
  cases va <;> cases vb
  all_goals
    go_region_with (first
        | (go_at_call 40; refine (rightOk_c ⟨_, _, _, _, _⟩ _).mono ?_; (first | rw [Ha.out] | rw [Hb.out]); rintro e w3 ⟨rfl, hb3⟩; have hX := HS2.out _ _ (by assumption) hb3)
        | (go_at_call 44; refine (capabilityOf_c ⟨_, _, _, _, _⟩ _).mono ?_; (first | rw [Hxa.out] | rw [Hxb.out]); rintro e w3 ⟨rfl, hb3⟩; have hX := HS2.out _ _ (by assumption) hb3)
        | (go_at_call 43; refine (Hi.out _).mono ?_; rintro e w3 ⟨rfl, hb3⟩; have hX := HS2.out _ _ (by assumption) hb3))
  all_goals go_wp2
  all_goals go_ret
  all_goals exact ⟨rfl, HB.out.trans ((And.left (by assumption : Below wx.heap.size wx _ ∧ _)).mono HB.out.size)⟩
end Go.Proofs.YtiolplhgpodifaaGreat

/- In a round of a range over a function, too, one walk of the text's order serves every order of a region whose operations leave the world alone: the kit's law, its premise on the round replaced by 'no operation is a defer statement'. Conditions: those of the law. -/
namespace Drw
open Go Go.RowKit
section
variable {F : Fence} {n : Nat} {P : Program} {ops : Array Oper} {md : Region.Mode} {C : World → Prop}

theorem wpIn_of_quiet_r {o : Oper} {a : Act} {K : Act → Prop} {K' : Act → World → Prop} {Q' : Exit → Act → World → Prop} {w : World} (hnd : ∀ c, o.op ≠ .defer c) (hw : C w) (h : ∀ a w', C w' → K a → K' a w')
    (ha : o.askedIn F P a C) (hh : o.quietIn F n P a C K) : o.wpIn F n P a w K' Q' := by
  obtain ⟨v, h1, h2⟩ := hh
  have h3 := h1 w hw
  unfold Oper.quietAtIn at h3
  unfold Oper.wpIn
  refine ⟨ha w hw, ?_⟩
  rw [Oper.semAt_eq _ _ _ hnd]
  generalize (execOp a.eval o).run P w = r at *
  cases r with
  | ok x w' =>
    cases x <;> simp only [Oper.quietUponIn] at h3 <;> simp only [Oper.uponIn]
    case value u =>
      obtain ⟨e1, e2⟩ := h3
      rw [e1, e2]
      exact h _ _ hw h2
    case skip =>
      obtain ⟨e1, e2⟩ := h3
      rw [e1, ← e2]
      exact h _ _ hw h2
    case enter f args =>
      obtain ⟨e1, hd, hc⟩ := h3
      rw [e1]
      exact ⟨hd, hc.mono fun e w'' ⟨he, hw''⟩ => by subst he; exact h _ _ hw'' h2⟩
  | halt x w' => simp only [Oper.quietUponIn] at h3

theorem wpOpIn_of_qOpIn_r {i : Nat} {a : Act} {K : Act → Prop} {K' : Act → World → Prop} {Q' : Exit → Act → World → Prop} {w : World} (hnd : ∀ (j : Nat) (o : Oper) c, ops[j]? = some o → o.op ≠ .defer c) (hC : C w) (h : ∀ a w', C w' → K a → K' a w')
    (hh : qOpIn F n P ops C i K a) : wpOpIn F n P ops Q' i K' a w := by
  unfold qOpIn at hh
  unfold wpOpIn
  split
  · rename_i ho; simp only [ho] at hh; exact h _ _ hC hh
  · rename_i o ho
    simp only [ho] at hh
    obtain ⟨ha, hh⟩ := hh
    split
    · rename_i hw; simp only [hw, if_true] at hh; exact wpIn_of_quiet_r (fun c => hnd i o c ho) hC h ha hh
    · rename_i hw; simp only [hw] at hh; exact ⟨ha w hC, h _ _ hC hh⟩

theorem wpAnyIn_of_quiet_r {Q : Act → Prop} {Q' : Exit → Act → World → Prop} (hnd : ∀ (j : Nat) (o : Oper) c, ops[j]? = some o → o.op ≠ .defer c) (hQ : ∀ a w, C w → Q a → Q' .normal a w) : ∀ (fuel : Nat) (listed : Array Bool) (a : Act) (w : World), C w →
    wpAnyQIn F n P md ops C Q fuel listed a → wpAnyIn F n P md ops Q' fuel listed a w
  | 0, _, _, _, hw, h => ⟨h.1, hQ _ _ hw h.2⟩
  | fuel + 1, _, _, _, hw, h => ⟨fun h0 => hQ _ _ hw (h.1 h0), fun i hi => wpOpIn_of_qOpIn_r hnd hw (fun a' w' hw' => wpAnyIn_of_quiet_r hnd hQ fuel _ a' w' hw') (h.2 i hi)⟩

theorem wpIn_region_quiet_r {id : Nat} {Q : Exit → Act → World → Prop} {a : Act} {w : World} (hnd : ∀ (j : Nat) (o : Oper) c, ops[j]? = some o → o.op ≠ .defer c) (hm : P.follows .mixedOrders = true) (hB : Region.lexB .any ops = true) (hC : C { w with drawn := w.drawn + 1 })
    (h : wpQuietIn F n P ops C (fun a' => ∀ w', C w' → Q .normal a' w') ops.toList a) : (Code.region id ops true).wpIn F n P Q a w := by
  simp only [Region.lexB, Bool.and_eq_true] at hB
  refine wpIn_region_any hm (wpAnyIn_of_quiet_r (Q := fun a' => ∀ w', C w' → Q .normal a' w') hnd (fun _ w' hw' h => h w' hw') _ _ _ _ hC ?_)
  have := wpAnyQIn_lex (F := F) (n := n) (C := C) (md := .any) hB.1 ops.toList 0 (Array.replicate ops.size false) a (by simp) (by simpa using hB.2) h
  simpa using this

/-- No operation of the list is a defer statement, by looking. -/
def noDefer (l : List Oper) : Bool := l.all fun o => match o.op with | .defer _ => false | _ => true
theorem noDefer_spec {l : List Oper} (h : noDefer l = true) : ∀ (j : Nat) (o : Oper) c, l.toArray[j]? = some o → o.op ≠ .defer c := by
  intro j o c ho e
  have hm : o ∈ l := by
    rw [List.getElem?_toArray] at ho
    exact List.mem_of_getElem? ho
  have := List.all_eq_true.1 h o hm
  rw [e] at this
  exact absurd this (by simp)

theorem wpIn_region_quiet_lit_r {id : Nat} {Q : Exit → Act → World → Prop} {a : Act} {w : World} {l : List Oper} (hnd : noDefer l = true) (hm : P.follows .mixedOrders = true) (hB : Region.lexB .any l.toArray = true)
    (h : wpQuietIn F n P l.toArray (fun w' => ∃ n, w' = w.drewN n) (fun a' => ∀ w', (∃ n, w' = w.drewN n) → Q .normal a' w') l a) : (Code.region id l.toArray true).wpIn F n P Q a w :=
  wpIn_region_quiet_r (C := fun w' => ∃ n, w' = w.drewN n) (noDefer_spec hnd) hm hB ⟨1, rfl⟩ (by simpa using h)
end
end Drw

/- impl.TableOk: the walk, with the range over allRights -/
namespace Go.Proofs.YtiolplhgpodifaaGreat
open Go.RowKit Drw Go.Shelf Go.BigFrame
attribute [local go_sem] Oper.semAt_some
attribute [local go_sem] Lab.val Rgt.val Cal.val Thg.val

set_option maxHeartbeats 400000 in
theorem allRights_c (p : Option Addr) (n cap : Nat) (w : World) :
    Calls Tryz.prog 60 #[.slice p n cap] w fun e w' => e = .returned (.func (.func 91) #[] #[.pointer (some ⟨w.heap.size, 0, none⟩)]) ∧ w' = w.alloc (.cells #[.slice p n cap] 23) := by
  go_enter Tryz.func60, Tryz.ntmps60
  go_wp2
  go_ret
  exact ⟨rfl, rfl⟩

theorem rights_stops (n Bn n₀ : Nat) (p : Option Addr) (cap : Nat) (ts : List Thg) (hn : 1 ≤ n) (w₀ : World) (hw₀ : w₀.heap.size = n₀) (hBn : w₀.cell? ⟨Bn, 0, none⟩ = some (.slice p ts.length cap)) (hT : TabAt w₀ (.slice p ts.length cap) ts) :
    SeqStopsK Fence.wide n Tryz.prog 91 #[.pointer (some ⟨Bn, 0, none⟩)] (fun r : Rgt => #[r.val]) (Below n₀) (fun xs => xs = flat ts) (fun pre => pre <+: flat ts) (flat ts).length w₀ := by
  intro l J Jx W hb hJ _ hY h0
  exact allRights1_in n l Bn n₀ p cap ts hn J Jx (fun pre W' o hp => hJ pre W' (W'.alloc o) none hp (World.grownBy_alloc _ _ _) (fun r e => by cases e)) hY w₀ W hw₀ (by rw [← hw₀]; exact hb) hBn hT h0

theorem tabOk_flat (ts : List Thg) : tabOk ts = (inR ts.length 1 8 && ts.all (fun t => thgOk t && gateOk ts t) && (flat ts).all (capOk ts)) := by
  unfold tabOk flat
  rw [List.all_flatMap]

set_option maxRecDepth 100000 in
set_option maxHeartbeats 2000000 in
theorem tableOk_in (p : Option Addr) (cap : Nat) (ts : List Thg) (w : World) (hT : TabAt w (.slice p ts.length cap) ts) :
    CallsIn Fence.wide 5 Tryz.prog 32 #[.slice p ts.length cap] w fun e w' => e = .returned (.bool (tabOk ts)) ∧ Below w.heap.size w w' := by
  obtain ⟨_, _, h1, hl1, hl2⟩ := hT.len
  cases h1
  unfold maxLen at hl2
  refine callsIn_of_wp_marks Tryz.func32 rfl trivial ?_ rfl
  simp only [Tryz.ntmps32, List.size_toArray, List.length_cons, List.length_nil, Nat.reduceAdd, Nat.reduceSub, Array.replicate_succ, Array.replicate_zero, List.push_toArray, List.append_toArray, List.nil_append, List.cons_append]
  by_cases hlen : inR ts.length 1 8 = true
  · have Hlen := Lib.hid hlen
    clear hlen
    gi_wp2_with (refine ⟨trivial, ?_⟩; gi_at_call 57; refine (callsIn_wide.2 (inRange_c _ _ _ _)).mono ?_; rw [Hlen.out]; rintro e w' ⟨rfl, rfl⟩)
    gi_loopw [12] (fun i wr => ∃ j : Nat, j ≤ ts.length ∧ i = .int .i64 j ∧ (ts.take j).all (fun t => thgOk t && gateOk ts t) = true ∧ Below w.heap.size w wr ∧ w.heap.size + 1 < wr.heap.size ∧
      wr.cell? ⟨w.heap.size, 0, none⟩ = some (.slice p ts.length cap) ∧ wr.cell? ⟨w.heap.size + 1, 0, none⟩ = some (.bool false) ∧ wr.frozen? ⟨w.heap.size + 1, 0, none⟩ = false) (fun i _ => ts.length - (intOf i).toNat)
    case atStart => exact ⟨0, Nat.zero_le _, rfl, by simp, (by (repeat (with_reducible first | exact Below.refl _ _ | refine Below.alloc ?_ ?_ _ | refine below_drewN ?_ _ | refine Below.drew ?_ | refine Below.setCell ?_ ?_ _ | refine Below.trans ?_ (Below.mono (by assumption) ?_))) <;> (first | omega | (simp; try omega))), by simp, by simp [go_sem], by simp [go_sem], by simp [go_sem]⟩
    case round =>
      obtain ⟨j, hj, rfl, hall, hB, hz, cb, cr, cf⟩ := hrel
      have Hall := Lib.hid hall
      clear hall
      by_cases hlt : j < ts.length
      · obtain ⟨tj, htj⟩ : ∃ t, ts[j]? = some t := ⟨ts[j], by simp [hlt]⟩
        have Htj := Lib.hid htj
        obtain ⟨b, o, sv, qv, rfl, hbk, hS, hQ, c0, c1, c2, c3, c4, c5, c6, c7⟩ := (hT.pure hB).at j tj htj
        obtain ⟨p', cap', rfl, hl1', hl2'⟩ := hS.len
        obtain ⟨p'', cap'', rfl, hl1'', hl2''⟩ := hQ.len
        clear htj
        have hz0 : w.heap.size < wr.heap.size := by omega
        gi_wp2_with (first
          | (refine ⟨trivial, ?_⟩; gi_at_call 58; refine (callsIn_wide.2 (thingOk_c ⟨_, ⟨_, _⟩, _, _, tj.slots, tj.queue, _⟩ _ _ _ ((hS.pure (by (repeat (with_reducible first | exact Below.refl _ _ | refine Below.alloc ?_ ?_ _ | refine below_drewN ?_ _ | refine Below.drew ?_ | refine Below.setCell ?_ ?_ _ | refine Below.trans ?_ (Below.mono (by assumption) ?_))) <;> (first | omega | (simp; try omega))))) ((hQ.pure (by (repeat (with_reducible first | exact Below.refl _ _ | refine Below.alloc ?_ ?_ _ | refine below_drewN ?_ _ | refine Below.drew ?_ | refine Below.setCell ?_ ?_ _ | refine Below.trans ?_ (Below.mono (by assumption) ?_))) <;> (first | omega | (simp; try omega))))))).mono ?_; rintro e w1 ⟨rfl, hb1⟩; obtain ⟨hc1, hf1⟩ := bcell hb1; have hz1 : wr.heap.size < w1.heap.size := (by have := hb1.size; (try simp at this); omega); have hz2 : w.heap.size < w1.heap.size := (by omega); have hz3 : w.heap.size + 1 < w1.heap.size := (by omega))
          | (refine ⟨trivial, ?_⟩; gi_at_call 59; refine (callsIn_wide.2 (kindAt_c _ _ ts _ _ _ (hT.pure (by (repeat (with_reducible first | exact Below.refl _ _ | refine Below.alloc ?_ ?_ _ | refine below_drewN ?_ _ | refine Below.drew ?_ | refine Below.setCell ?_ ?_ _ | refine Below.trans ?_ (Below.mono (by assumption) ?_))) <;> (first | omega | (simp; try omega)))))).mono ?_; rintro e w' ⟨rfl, rfl⟩)
          | (refine ⟨trivial, ?_⟩))
        ·
          have hB' : Below wr.heap.size wr w1 := ((Below.refl _ _).alloc (Nat.le_refl _) _).trans (hb1.mono (by simp))
          have cb' := (hB'.cell (p := ⟨w.heap.size, 0, none⟩) hz0).trans cb
          have cr' := (hB'.cell (p := ⟨w.heap.size + 1, 0, none⟩) hz).trans cr
          have cf' := (hB'.frozen (p := ⟨w.heap.size + 1, 0, none⟩) hz).trans cf
          have hBw' : Below w.heap.size w w1 := hB.trans (hB'.mono hB.size)
          have hmem : tj ∈ ts := List.mem_of_getElem? Htj.out
          have hb : (!thgOk tj) = true := by assumption
          refine ⟨.bool false, ?_, ret_bool ?_, hBw'.setCell (p := ⟨w.heap.size + 1, 0, none⟩) (by simp) _⟩
          · simp [results, Tryz.f32, go_sem, World.cell?_setCell_same' w1 ⟨w.heap.size + 1, 0, none⟩ (.bool false) (by rw [cr']; rfl)]
          · have hx : ts.all (fun t => thgOk t && gateOk ts t) = false := by
              rw [List.all_eq_false]; exact ⟨tj, hmem, by simp at hb; simp [hb]⟩
            rw [tabOk_flat, hx]; simp
        ·
          have hB' : Below wr.heap.size wr w1 := ((Below.refl _ _).alloc (Nat.le_refl _) _).trans (hb1.mono (by simp))
          have cb' := (hB'.cell (p := ⟨w.heap.size, 0, none⟩) hz0).trans cb
          have cr' := (hB'.cell (p := ⟨w.heap.size + 1, 0, none⟩) hz).trans cr
          have cf' := (hB'.frozen (p := ⟨w.heap.size + 1, 0, none⟩) hz).trans cf
          have hBw' : Below w.heap.size w w1 := hB.trans (hB'.mono hB.size)
          have hmem : tj ∈ ts := List.mem_of_getElem? Htj.out
          have hb : (!kindAt ts tj.to 1) = true := by assumption
          have hk5 : tj.kind = 5 := by first | assumption | exact eq_of_beq (by assumption)
          refine ⟨.bool false, ?_, ret_bool ?_, hBw'.setCell (p := ⟨w.heap.size + 1, 0, none⟩) (by simp) _⟩
          · simp [results, Tryz.f32, go_sem, World.cell?_setCell_same' w1 ⟨w.heap.size + 1, 0, none⟩ (.bool false) (by rw [cr']; rfl)]
          · have hx : ts.all (fun t => thgOk t && gateOk ts t) = false := by
              rw [List.all_eq_false]; exact ⟨tj, hmem, by simp at hb; simp [gateOk, hk5, hb]⟩
            rw [tabOk_flat, hx]; simp
        ·
          have hB' : Below wr.heap.size wr w1 := ((Below.refl _ _).alloc (Nat.le_refl _) _).trans (hb1.mono (by simp))
          have cb' := (hB'.cell (p := ⟨w.heap.size, 0, none⟩) hz0).trans cb
          have cr' := (hB'.cell (p := ⟨w.heap.size + 1, 0, none⟩) hz).trans cr
          have cf' := (hB'.frozen (p := ⟨w.heap.size + 1, 0, none⟩) hz).trans cf
          have hBw' : Below w.heap.size w w1 := hB.trans (hB'.mono hB.size)
          have hmem : tj ∈ ts := List.mem_of_getElem? Htj.out
          have hb : (!kindAt ts tj.to 1) = false := by assumption
          have hb2 : (!thgOk tj) = false := by assumption
          refine ⟨⟨j + 1, by omega, by go_num, ?_, hBw', hz3, cb', cr', cf'⟩, by simp [intOf]; omega⟩
          rw [take_snoc' _ _ _ Htj.out, List.all_append, Hall.out]
          simp at hb hb2
          simp [gateOk, hb, hb2]
        ·
          have hB' : Below wr.heap.size wr w1 := ((Below.refl _ _).alloc (Nat.le_refl _) _).trans (hb1.mono (by simp))
          have cb' := (hB'.cell (p := ⟨w.heap.size, 0, none⟩) hz0).trans cb
          have cr' := (hB'.cell (p := ⟨w.heap.size + 1, 0, none⟩) hz).trans cr
          have cf' := (hB'.frozen (p := ⟨w.heap.size + 1, 0, none⟩) hz).trans cf
          have hBw' : Below w.heap.size w w1 := hB.trans (hB'.mono hB.size)
          have hmem : tj ∈ ts := List.mem_of_getElem? Htj.out
          have hb2 : (!thgOk tj) = false := by assumption
          have hk5 : (tj.kind == 5) = false := by first | assumption | exact beq_eq_false_iff_ne.2 (by assumption)
          refine ⟨⟨j + 1, by omega, by go_num, ?_, hBw', hz3, cb', cr', cf'⟩, by simp [intOf]; omega⟩
          rw [take_snoc' _ _ _ Htj.out, List.all_append, Hall.out]
          simp at hb2 hk5
          simp [gateOk, hk5, hb2]
      · have HA := Hall.out
        have e : j = ts.length := by omega
        subst e
        rw [List.take_length] at HA
        have HA' := Lib.hid HA
        clear HA Hall
        have hz0 : w.heap.size < wr.heap.size := by omega
        gi_wp2_with (refine ⟨trivial, ?_⟩; gi_at_call 60; refine (callsIn_wide.2 (allRights_c _ _ _ _)).mono ?_; rintro e w' ⟨rfl, rfl⟩)
        obtain ⟨W1, hW1⟩ : ∃ W1, wr.alloc (.cells #[.slice p ts.length cap] 23) = W1 := ⟨_, rfl⟩
        have hsz : W1.heap.size = wr.heap.size + 1 := by rw [← hW1]; simp
        have hB1 : Below w.heap.size w W1 := by rw [← hW1]; exact hB.alloc hB.size _
        have cb1 : W1.cell? ⟨w.heap.size, 0, none⟩ = some (.slice p ts.length cap) := by rw [← hW1, World.cell?_alloc_past _ _ _ hz0]; exact cb
        have cr1 : W1.cell? ⟨w.heap.size + 1, 0, none⟩ = some (.bool false) := by rw [← hW1, World.cell?_alloc_past _ _ _ hz]; exact cr
        have cf1 : W1.frozen? ⟨w.heap.size + 1, 0, none⟩ = false := by rw [← hW1, World.frozen?_alloc_past _ _ _ hz]; exact cf
        have cB : W1.cell? ⟨wr.heap.size, 0, none⟩ = some (.slice p ts.length cap) := by rw [← hW1, World.cell?_alloc_at _ _ _ _ rfl]; rfl
        have hT1 := hT.pure hB1
        rw [hW1]
        have Hsz := Lib.hid hsz
        clear hW1 hsz cb cr cf
        refine wpIn_rangeFunc_ownH rfl (by omega) (gf := 91) (lb := #[.pointer (some ⟨wr.heap.size, 0, none⟩)]) rfl trivial (enters_of Tryz.func91 (by kernel_rfl) rfl)
          (rights_stops 4 wr.heap.size W1.heap.size p cap ts (by omega) W1 rfl cB hT1) belowK_t (belowK_b (Nat.le_refl _)) (Below.refl _ _) (fun _ => rfl)
          (fun pre W => pre.all (capOk ts) = true ∧ Below W1.heap.size W1 W)
          (fun c pre W => (c = .ret ∧ (∃ r ∈ pre, capOk ts r = false) ∧ W.cell? ⟨w.heap.size + 1, 0, none⟩ = some (.bool false)) ∧ Below w.heap.size w W)
          (OwnFrom.and (Own.from (fun s A B row hs hg hr => hs) _) (ownFrom_below (Nat.le_refl _) (Nat.le_refl _)))
          (fun c => OwnFrom.and (Own.from (fun s A B row hs hg hr => ⟨hs.1, hs.2.1, cell_kept hs.2.2 hg hr⟩) _) (ownFrom_below (Nat.le_refl _) (by have := Hsz.out; omega)))
          ⟨by simp, Below.refl _ _⟩
          (fun x a' W => ∃ Bx, W1.heap.size ≤ Bx ∧ (W.cell? ⟨Bx, 0, none⟩ = some (.int .i64 x.thing) ∧ W.cell? ⟨Bx, 1, none⟩ = some (.int .i64 x.vers) ∧ W.cell? ⟨Bx, 2, none⟩ = some (.bool x.rd) ∧ W.cell? ⟨Bx, 3, none⟩ = some (.bool x.wr) ∧ W.cell? ⟨Bx, 4, none⟩ = some (.bool x.wk)) ∧ a' = { tmps := #[.slice p ts.length cap, .pointer (some ⟨w.heap.size, 0, none⟩), .pointer (some ⟨w.heap.size + 1, 0, none⟩), undef, u4, .pointer (some ⟨Bx, 0, none⟩), .slice p ts.length cap, .int .i64 ts.length, .bool true, .bool false, .slice p ts.length cap, .int .i64 ts.length, .int .i64 ts.length, .bool false, u14, u15, u16, u17, u18, u19, u20, u21, u22, u23, u24, u25, u26, u27, u28, u29, .slice p ts.length cap, .func (.func 91) #[] #[.pointer (some ⟨wr.heap.size, 0, none⟩)], .agg #[.int .i64 x.thing, .int .i64 x.vers, .bool x.rd, .bool x.wr, .bool x.wk], undef, undef, undef, undef, undef, undef, undef, undef, undef, undef, undef, undef, undef, undef, undef, undef, undef, undef, undef, undef], defers := [] })
          (fun x a' => fun s A B row hs hg hr => by
            obtain ⟨Bx, h1, ⟨d0, d1, d2, d3, d4⟩, h2⟩ := hs
            have hr := fun r e => (hr r e).2
            exact ⟨Bx, h1, ⟨cell_kept d0 hg hr, cell_kept d1 hg hr, cell_kept d2 hg hr, cell_kept d3 hg hr, cell_kept d4 hg hr⟩, h2⟩)
          ?assign ?body ?done ?stop
        case assign =>
          rintro l pre x W K ⟨hp, hBW⟩ hK
          gi_wp2
          exact hK _ _ ((KeepsOthers.alloc _ _).from _) ((Below.refl _ W).alloc hBW.size _) ⟨hp, hBW.alloc hBW.size _⟩ ⟨W.heap.size, hBW.size, by simp [go_sem], rfl⟩
        case body =>
          rintro l pre ⟨th, ve, rd, wt, wk⟩ a' W hl ⟨rr, hrr⟩ ⟨hp, hBW⟩ ⟨Bx, hBx, ⟨d0, d1, d2, d3, d4⟩, rfl⟩ hlt'
          dsimp only at d0 d1 d2 d3 d4
          have cbW : W.cell? ⟨w.heap.size, 0, none⟩ = some (.slice p ts.length cap) := (hBW.cell (p := ⟨w.heap.size, 0, none⟩) (by have := Hsz.out; simp; omega)).trans cb1
          have crW : W.cell? ⟨w.heap.size + 1, 0, none⟩ = some (.bool false) := (hBW.cell (p := ⟨w.heap.size + 1, 0, none⟩) (by have := Hsz.out; simp; omega)).trans cr1
          have cfW : W.frozen? ⟨w.heap.size + 1, 0, none⟩ = false := (hBW.frozen (p := ⟨w.heap.size + 1, 0, none⟩) (by have := Hsz.out; simp; omega)).trans cf1
          have hBw : Below w.heap.size w W := hB1.trans (hBW.mono hB1.size)
          by_cases h0 : th = 0
          · have hc0 : capOk ts ⟨th, ve, rd, wt, wk⟩ = true := by simp [capOk, h0]
            subst h0
            gi_wp2
            exact ⟨KeepsFrom.refl _ _, Below.refl _ _, by simp [List.all_append, hp, hc0], hBW⟩
          · by_cases hex : ex ts th = true
            · obtain ⟨k, rfl, hk⟩ := ex_idx hex
              obtain ⟨b, o, sv, qv, rfl, hbk, hS, hQ, c0, c1, c2, c3, -⟩ := (hT1.pure hBW).at k _ hk
              have hlt2 : k < ts.length := (List.getElem?_eq_some_iff.1 hk).1
              have Hr := Lib.hid (show inR ((k : Int) + 1) 1 ts.length = true from hex)
              have Hex := Lib.hid hex
              have h00 : (((k : Int) + 1) == 0) = false := by simp; omega
              have e2 : (0 : Int) ≤ (k : Int) := by omega
              have e3 : (k : Int) < (ts.length : Int) := by omega
              have s2 : IntKind.i64.wrap (k : Int) = (k : Int) := IntWalk.i64_in _ (by omega)
              have hF : ∀ g, (Fence.wide.inRound l).fn g := fun _ => trivial
              by_cases hv : ve ≤ (getT ts ((k : Int) + 1)).vers
              · have hcap : capOk ts ⟨(k : Int) + 1, ve, rd, wt, wk⟩ = true := by simp [capOk, hex, hv]
                have Hcap := Lib.hid hcap
                have hv' : decide ((getT ts ((k : Int) + 1)).vers < ve) = false := by simp; omega
                clear hex hk h0 hv hcap
                gi_wp2
                refine wpIn_region_quiet_lit_r (by kernel_rfl) (by kernel_rfl) (by kernel_rfl) ?_
                repeat (gi_big_quiet_step ((gi_at_call 46; refine CallsIn.quiet_of_same (CallsIn.inRound l (callsIn_wide.2 (thingExists_q _ _ _ _ _ Hr.out))))))
                refine wpQuietIn_nil ?_
                intro _ hw'
                obtain ⟨nq, hw''⟩ := hw'
                subst hw''
                gi_wp2
                exact ⟨⟨Nat.le_refl _, fun _ _ _ h _ => h⟩, below_drewN (Below.refl _ _) _, by simp [List.all_append, hp, Hcap.out], below_drewN hBW _⟩
              · have hcap : capOk ts ⟨(k : Int) + 1, ve, rd, wt, wk⟩ = false := by simp [capOk, hex, hv]; omega
                have Hcap := Lib.hid hcap
                have hv' : decide ((getT ts ((k : Int) + 1)).vers < ve) = true := by simp; omega
                clear hex hk h0 hv hcap
                gi_wp2
                refine wpIn_region_quiet_lit_r (by kernel_rfl) (by kernel_rfl) (by kernel_rfl) ?_
                repeat (gi_big_quiet_step ((gi_at_call 46; refine CallsIn.quiet_of_same (CallsIn.inRound l (callsIn_wide.2 (thingExists_q _ _ _ _ _ Hr.out))))))
                refine wpQuietIn_nil ?_
                intro _ hw'
                obtain ⟨nq, hw''⟩ := hw'
                subst hw''
                gi_wp2
                exact ⟨(show KeepsFrom _ W (W.drewN nq) from ⟨Nat.le_refl _, fun _ _ _ h _ => h⟩).trans ((KeepsOthers.setCell _ _ _).from _), ⟨rfl, ⟨_, List.mem_append.2 (.inr (by simp)), Hcap.out⟩, World.cell?_setCell_same' _ _ _ (by show (W.cell? _).isSome = true; rw [crW]; rfl)⟩,
                  (below_drewN hBw _).setCell (p := ⟨w.heap.size + 1, 0, none⟩) (by simp) _⟩
            · have hcap : capOk ts ⟨th, ve, rd, wt, wk⟩ = false := by simp [capOk, hex, h0]
              have Hcap := Lib.hid hcap
              have Hr := Lib.hid (show inR th 1 ts.length = false by simpa [ex] using hex)
              have h00 : (th == 0) = false := by simpa using h0
              have hF : ∀ g, (Fence.wide.inRound l).fn g := fun _ => trivial
              clear hex h0 hcap
              gi_wp2
              refine wpIn_region_quiet_lit_r (by kernel_rfl) (by kernel_rfl) (by kernel_rfl) ?_
              repeat (gi_big_quiet_step ((gi_at_call 46; refine CallsIn.quiet_of_same (CallsIn.inRound l (callsIn_wide.2 (thingExists_q _ _ _ _ _ Hr.out))))))
              refine wpQuietIn_nil ?_
              intro _ hw'
              obtain ⟨nq, hw''⟩ := hw'
              subst hw''
              gi_wp2
              exact ⟨(show KeepsFrom _ W (W.drewN nq) from ⟨Nat.le_refl _, fun _ _ _ h _ => h⟩).trans ((KeepsOthers.setCell _ _ _).from _), ⟨rfl, ⟨_, List.mem_append.2 (.inr (by simp)), Hcap.out⟩, World.cell?_setCell_same' _ _ _ (by show (W.cell? _).isSome = true; rw [crW]; rfl)⟩,
                (below_drewN hBw _).setCell (p := ⟨w.heap.size + 1, 0, none⟩) (by simp) _⟩
        case done =>
          rintro D ys W hD rfl ⟨hp, hBW⟩ hK
          have crW : W.cell? ⟨w.heap.size + 1, 0, none⟩ = some (.bool false) := (hBW.cell (p := ⟨w.heap.size + 1, 0, none⟩) (by have := Hsz.out; simp; omega)).trans cr1
          have cfW : W.frozen? ⟨w.heap.size + 1, 0, none⟩ = false := (hBW.frozen (p := ⟨w.heap.size + 1, 0, none⟩) (by have := Hsz.out; simp; omega)).trans cf1
          have hBw : Below w.heap.size w W := hB1.trans (hBW.mono hB1.size)
          gi_wp2
          have hK' := (KeepsOthers.setCell W ⟨w.heap.size + 1, 0, none⟩ (.bool true)).same D _ hK rfl
          refine ⟨by simp, .inl ⟨_, _, rfl, run_takeDeferred hK', ?_⟩⟩
          have hc5 := cell_kept (World.cell?_setCell_same' W ⟨w.heap.size + 1, 0, none⟩ (.bool true) (by rw [crW]; rfl)) (grownBy_putObj' _ D (.deferred none)) (fun r e => by cases e; exact ⟨_, hK', rfl⟩)
          refine ⟨.bool true, ?_, by rw [tabOk_flat, Hlen.out, HA'.out, hp]; rfl, (hBw.setCell (p := ⟨w.heap.size + 1, 0, none⟩) (by simp) _).trans (belowK_b (w := w) (Nat.le_refl _) _ D _ _ (by have := Hsz.out; omega) hK' rfl rfl)⟩
          simp [results, Tryz.f32, go_sem, hc5]
        case stop =>
          rintro D c pre W hD hpre ⟨⟨rfl, ⟨r, hr, hbad⟩, hcr⟩, hBw⟩ hK
          gi_wp2
          refine ⟨by simp, .inl ⟨_, _, rfl, run_takeDeferred hK, ?_⟩⟩
          have hc5 := cell_kept hcr (grownBy_putObj' _ D (.deferred none)) (fun r e => by cases e; exact ⟨_, hK, rfl⟩)
          have hx : (flat ts).all (capOk ts) = false := by rw [List.all_eq_false]; exact ⟨r, hpre.subset hr, by simp [hbad]⟩
          refine ⟨.bool false, ?_, by rw [tabOk_flat, hx]; simp, hBw.trans (belowK_b (w := w) (Nat.le_refl _) W D _ _ (by have := Hsz.out; omega) hK rfl rfl)⟩
          simp [results, Tryz.f32, go_sem, hc5]
  · have hlen' : inR ts.length 1 8 = false := by simpa using hlen
    have Hlen := Lib.hid hlen'
    clear hlen hlen'
    gi_wp2_with (refine ⟨trivial, ?_⟩; gi_at_call 57; refine (callsIn_wide.2 (inRange_c _ _ _ _)).mono ?_; rw [Hlen.out]; rintro e w' ⟨rfl, rfl⟩)
    refine ⟨.bool false, ?_, ret_bool (by rw [tabOk_flat, Hlen.out]; simp), (by (repeat (with_reducible first | exact Below.refl _ _ | refine Below.alloc ?_ ?_ _ | refine below_drewN ?_ _ | refine Below.drew ?_ | refine Below.setCell ?_ ?_ _ | refine Below.trans ?_ (Below.mono (by assumption) ?_))) <;> (first | omega | (simp; try omega)))⟩
    simp [results, Tryz.f32, go_sem]

theorem tableOk_c (p : Option Addr) (cap : Nat) (ts : List Thg) (w : World) (hT : TabAt w (.slice p ts.length cap) ts) :
    Calls Tryz.prog 32 #[.slice p ts.length cap] w fun e w' => e = .returned (.bool (tabOk ts)) ∧ Below w.heap.size w w' :=
  (callsIn_wide (n := 5)).1 (tableOk_in p cap ts w hT)

end Go.Proofs.YtiolplhgpodifaaGreat
