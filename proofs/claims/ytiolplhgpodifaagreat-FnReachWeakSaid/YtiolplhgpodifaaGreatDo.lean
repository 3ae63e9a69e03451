/- Plain laws of tables: one thing changed; what a call leaves is a table. Conditions: none. -/
import Derived.Test.YtiolplhgpodifaaGreatBase
set_option linter.unusedVariables false
set_option linter.unusedSimpArgs false

namespace Drw
open Go Go.RowKit

theorem ex_iff {ts : List Thg} {i : Int} : ex ts i = true ↔ 1 ≤ i ∧ i ≤ ts.length := by simp [ex, inR]
theorem ex_get {ts : List Thg} {i : Int} (h : ex ts i = true) : ts[(i - 1).toNat]? = some (getT ts i) := by
  rw [ex_iff] at h
  have hl : (i - 1).toNat < ts.length := by omega
  unfold getT
  rw [List.getElem?_eq_getElem hl]; rfl
theorem getT_at {ts : List Thg} {k : Nat} {t : Thg} (h : ts[k]? = some t) : getT ts ((k : Int) + 1) = t := by simp [getT, h]
theorem ex_at {ts : List Thg} {k : Nat} (h : k < ts.length) : ex ts ((k : Int) + 1) = true := by rw [ex_iff]; omega

theorem setT_len (ts : List Thg) (i : Int) (f : Thg → Thg) : (setT ts i f).length = ts.length := by simp [setT]
theorem ex_setT (ts : List Thg) (i j : Int) (f : Thg → Thg) : ex (setT ts i f) j = ex ts j := by simp [ex, setT_len]
theorem getT_same {ts : List Thg} {i : Int} (f : Thg → Thg) (h : ex ts i = true) : getT (setT ts i f) i = f (getT ts i) := by
  have := ex_get h
  unfold getT at this ⊢
  unfold setT
  rw [List.getElem?_modify]
  generalize (i - 1).toNat = k at *
  rw [this]; simp
theorem getT_ne {ts : List Thg} {i j : Int} (f : Thg → Thg) (hi : 1 ≤ i) (hj : 1 ≤ j) (h : j ≠ i) : getT (setT ts i f) j = getT ts j := by
  unfold getT setT
  rw [List.getElem?_modify]
  have := (show ¬ (i - 1).toNat = (j - 1).toNat by omega)
  generalize (i - 1).toNat = k at *
  generalize (j - 1).toNat = m at *
  simp [this]
theorem getT_setT {ts : List Thg} {i j : Int} (f : Thg → Thg) (hi : ex ts i = true) (hj : ex ts j = true) : getT (setT ts i f) j = if j = i then f (getT ts i) else getT ts j := by
  split
  · rename_i h; subst h; exact getT_same f hi
  · rename_i h; exact getT_ne f (ex_iff.1 hi).1 (ex_iff.1 hj).1 h

theorem setT_congr {ts : List Thg} {i : Int} {f g : Thg → Thg} (h : ex ts i = true) (hfg : f (getT ts i) = g (getT ts i)) : setT ts i f = setT ts i g := by
  have hx := ex_get h
  unfold setT
  generalize (i - 1).toNat = k at *
  apply List.ext_getElem?
  intro m
  rw [List.getElem?_modify, List.getElem?_modify]
  by_cases hm : k = m
  · subst hm
    rw [hx]
    simp [hfg]
  · simp [hm]

theorem mem_getT {ts : List Thg} {t : Thg} (h : t ∈ ts) : ∃ i, ex ts i = true ∧ getT ts i = t := by
  obtain ⟨k, hk⟩ := List.mem_iff_getElem?.1 h
  exact ⟨(k : Int) + 1, ex_at (List.getElem?_eq_some_iff.1 hk).1, getT_at hk⟩
theorem getT_mem {ts : List Thg} {i : Int} (h : ex ts i = true) : getT ts i ∈ ts := List.mem_of_getElem? (ex_get h)

/-- What is asked of each thing of a table. -/
def thgIn (ts : List Thg) (t : Thg) : Prop := thgOk t = true ∧ gateOk ts t = true ∧ ∀ r ∈ t.slots, capOk ts r = true
theorem tab_iff {ts : List Thg} : tabOk ts = true ↔ (1 ≤ ts.length ∧ ts.length ≤ 8) ∧ ∀ i, ex ts i = true → thgIn ts (getT ts i) := by
  simp only [tabOk, Bool.and_eq_true, List.all_eq_true, inR, decide_eq_true_eq]
  constructor
  · rintro ⟨⟨h1, h2⟩, h3⟩
    exact ⟨by omega, fun i hi => ⟨(h2 _ (getT_mem hi)).1, (h2 _ (getT_mem hi)).2, h3 _ (getT_mem hi)⟩⟩
  · rintro ⟨h1, h2⟩
    refine ⟨⟨by omega, fun t ht => ?_⟩, fun t ht => ?_⟩
    · obtain ⟨i, hi, rfl⟩ := mem_getT ht
      exact ⟨(h2 i hi).1, (h2 i hi).2.1⟩
    · obtain ⟨i, hi, rfl⟩ := mem_getT ht
      exact (h2 i hi).2.2

theorem null_ok : rgtOk Rgt.null = true := by decide
theorem null_cap (ts : List Thg) : capOk ts Rgt.null = true := by simp [capOk, Rgt.null]

/-- The tables that differ in what things hold alone, and in that some were renewed. -/
structure Same (ts ts' : List Thg) : Prop where
  len : ts'.length = ts.length
  kind : ∀ i, ex ts i = true → (getT ts' i).kind = (getT ts i).kind
  lab : ∀ i, ex ts i = true → (getT ts' i).lab = (getT ts i).lab
  to : ∀ i, ex ts i = true → (getT ts' i).to = (getT ts i).to
  vers : ∀ i, ex ts i = true → (getT ts i).vers ≤ (getT ts' i).vers

theorem Same.refl (ts : List Thg) : Same ts ts := ⟨rfl, fun _ _ => rfl, fun _ _ => rfl, fun _ _ => rfl, fun _ _ => Int.le_refl _⟩
theorem Same.ex {ts ts' : List Thg} (h : Same ts ts') (i : Int) : ex ts' i = ex ts i := by simp [Drw.ex, h.len]
theorem Same.trans {a b c : List Thg} (h : Same a b) (k : Same b c) : Same a c :=
  ⟨k.len.trans h.len, fun i hi => (k.kind i (by rw [h.ex]; exact hi)).trans (h.kind i hi), fun i hi => (k.lab i (by rw [h.ex]; exact hi)).trans (h.lab i hi), fun i hi => (k.to i (by rw [h.ex]; exact hi)).trans (h.to i hi), fun i hi => Int.le_trans (h.vers i hi) (k.vers i (by rw [h.ex]; exact hi))⟩
theorem Same.kindAt {ts ts' : List Thg} (h : Same ts ts') (i k : Int) : kindAt ts' i k = kindAt ts i k := by
  unfold Drw.kindAt
  rw [h.ex]
  by_cases he : Drw.ex ts i = true
  · rw [h.kind i he]
  · simp [he]
theorem Same.cap {ts ts' : List Thg} (h : Same ts ts') {r : Rgt} (hr : capOk ts r = true) : capOk ts' r = true := by
  simp only [capOk, Bool.or_eq_true, beq_iff_eq, Bool.and_eq_true, decide_eq_true_eq] at hr ⊢
  rcases hr with hr | ⟨h1, h2⟩
  · exact .inl hr
  · exact .inr ⟨by rw [h.ex]; exact h1, Int.le_trans h2 (h.vers _ h1)⟩
theorem Same.gate {ts ts' : List Thg} (h : Same ts ts') {t : Thg} (ht : gateOk ts t = true) : gateOk ts' t = true := by
  unfold gateOk at *
  rw [h.kindAt]; exact ht

/-- One thing changed, within bounds. -/
theorem same_setT {ts : List Thg} {i : Int} {f : Thg → Thg} (hi : ex ts i = true) (hk : (f (getT ts i)).kind = (getT ts i).kind) (hl : (f (getT ts i)).lab = (getT ts i).lab) (ht : (f (getT ts i)).to = (getT ts i).to)
    (hv : (getT ts i).vers ≤ (f (getT ts i)).vers) : Same ts (setT ts i f) := by
  refine ⟨setT_len _ _ _, ?_, ?_, ?_, ?_⟩ <;> intro j hj <;> rw [getT_setT f hi hj] <;> split <;> (try rename_i h) <;> (try subst h) <;> first | assumption | rfl | exact Int.le_refl _

theorem tab_setT {ts : List Thg} {i : Int} {f : Thg → Thg} (h : tabOk ts = true) (hi : ex ts i = true) (hk : (f (getT ts i)).kind = (getT ts i).kind) (hl : (f (getT ts i)).lab = (getT ts i).lab) (ht : (f (getT ts i)).to = (getT ts i).to)
    (hv : (getT ts i).vers ≤ (f (getT ts i)).vers) (ho : thgOk (f (getT ts i)) = true) (hs : ∀ r ∈ (f (getT ts i)).slots, capOk ts r = true) : tabOk (setT ts i f) = true := by
  have hS := same_setT hi hk hl ht hv
  rw [tab_iff] at h ⊢
  refine ⟨by rw [setT_len]; exact h.1, fun j hj => ?_⟩
  rw [ex_setT] at hj
  rw [getT_setT f hi hj]
  split
  · obtain ⟨h1, h2, h3⟩ := h.2 i hi
    refine ⟨ho, hS.gate ?_, fun r hr => hS.cap (hs r hr)⟩
    unfold gateOk at *
    rw [hk, ht]; exact h2
  · obtain ⟨h1, h2, h3⟩ := h.2 j hj
    exact ⟨h1, hS.gate h2, fun r hr => hS.cap (h3 r hr)⟩

/-! ## The parts of 'thgOk' -/
theorem thg_parts {t : Thg} : thgOk t = true ↔ inR t.kind 1 5 = true ∧ labOk t.lab = true ∧ versOk t = true ∧ numOk t = true ∧ slotsOk t = true ∧ queueOk t = true ∧ targetOk t = true := by
  simp only [thgOk, Bool.and_eq_true, and_assoc]

theorem ok_setNum {t : Thg} (h : thgOk t = true) (n : Int) (hn : (t.kind = 1 ∨ t.kind = 5) ∧ 0 ≤ n ∧ n ≤ 99 ∨ t.kind = 3 ∧ -4 ≤ n ∧ n ≤ 99) : thgOk (setNum n t) = true := by
  rw [thg_parts] at h ⊢
  obtain ⟨h1, h2, h3, h4, h5, h6, h7⟩ := h
  refine ⟨h1, h2, h3, ?_, h5, h6, h7⟩
  simp only [numOk, setNum, inR]
  rcases hn with ⟨hk, ha, hb⟩ | ⟨hk, ha, hb⟩
  · simp [hk, ha, hb]
  · simp [hk, ha, hb]

theorem ok_setSlot {t : Thg} (h : thgOk t = true) (i : Int) (r : Rgt) (hr : rgtOk r = true) : thgOk (setSlot i r t) = true := by
  rw [thg_parts] at h ⊢
  obtain ⟨h1, h2, h3, h4, h5, h6, h7⟩ := h
  refine ⟨h1, h2, h3, h4, ?_, h6, h7⟩
  have e : (setSlot i r t).kind = t.kind := rfl
  have e2 : (setSlot i r t).slots = t.slots.set i.toNat r := rfl
  unfold slotsOk at h5 ⊢
  rw [e, e2]
  by_cases hk : t.kind ≠ 2 ∧ t.kind ≠ 3
  · rw [if_pos hk] at h5 ⊢
    simpa using h5
  · rw [if_neg hk] at h5 ⊢
    simp only [Bool.and_eq_true, beq_iff_eq, List.all_eq_true, List.length_set] at h5 ⊢
    refine ⟨h5.1, fun x hx => ?_⟩
    rcases List.mem_or_eq_of_mem_set hx with hx | rfl
    · exact h5.2 x hx
    · exact hr

theorem ok_setQueue {t : Thg} (h : thgOk t = true) (q : List Int) (hk : t.kind = 4) (hl : q.length ≤ 3) (hq : ∀ n ∈ q, 0 ≤ n ∧ n ≤ 99) : thgOk (setQueue q t) = true := by
  rw [thg_parts] at h ⊢
  obtain ⟨h1, h2, h3, h4, h5, h6, h7⟩ := h
  refine ⟨h1, h2, h3, h4, h5, ?_, h7⟩
  simp only [queueOk, setQueue, hk, ne_eq, not_true, if_false, Bool.and_eq_true, decide_eq_true_eq, List.all_eq_true, inR]
  exact ⟨hl, fun n hn => by simpa using hq n hn⟩

theorem ok_renew {t : Thg} (h : thgOk t = true) (hk : t.kind = 1 ∨ t.kind = 2 ∨ t.kind = 4) (hv : ¬ 5 ≤ t.vers) : thgOk (renewT t) = true := by
  obtain ⟨k, l, v, n, s, q, to⟩ := t
  rw [thg_parts] at h ⊢
  obtain ⟨h1, h2, h3, h4, h5, h6, h7⟩ := h
  dsimp only at hk hv
  simp only [versOk, if_pos hk, inR, Bool.and_eq_true, decide_eq_true_eq] at h3
  refine ⟨h1, h2, ?_, ?_, ?_, ?_, h7⟩
  · have e : versOk (renewT ⟨k, l, v, n, s, q, to⟩) = inR (v + 1) 0 5 := by
      rcases hk with rfl | rfl | rfl <;> rfl
    rw [e]
    simp only [inR, Bool.and_eq_true, decide_eq_true_eq]; omega
  · rcases hk with rfl | rfl | rfl <;> simp [numOk, renewT, inR]
  · rcases hk with rfl | rfl | rfl <;> simp [slotsOk, renewT, thgNew0, null_ok]
  · simp [queueOk, renewT]

theorem slot_mem {t : Thg} {i : Int} (h0 : 0 ≤ i) (h : i < t.slots.length) : getR t i ∈ t.slots := by
  have : i.toNat < t.slots.length := by omega
  simp [getR, this]
theorem slots_len {t : Thg} (h : thgOk t = true) (hk : t.kind = 2 ∨ t.kind = 3) : t.slots.length = 4 := by
  have := (thg_parts.1 h).2.2.2.2.1
  rcases hk with hk | hk <;> simp [slotsOk, hk] at this <;> exact this.1
theorem slots_none {t : Thg} (h : thgOk t = true) (hk : ¬ (t.kind = 2 ∨ t.kind = 3)) : t.slots = [] := by
  have := (thg_parts.1 h).2.2.2.2.1
  simp only [not_or] at hk
  simpa [slotsOk, hk] using this
theorem slot_ok {t : Thg} (h : thgOk t = true) {r : Rgt} (hr : r ∈ t.slots) : rgtOk r = true := by
  have h5 := (thg_parts.1 h).2.2.2.2.1
  simp only [slotsOk] at h5
  split at h5
  · have : t.slots = [] := by simpa using h5
    rw [this] at hr; cases hr
  · simp only [Bool.and_eq_true, List.all_eq_true] at h5
    exact h5.2 r hr
theorem less1_ok {r : Rgt} (h : rgtOk r = true) (rd wr st : Bool) : rgtOk (less1 r rd wr st) = true := by
  unfold less1
  split
  · exact h
  · rename_i h0
    simp only [rgtOk, if_neg h0] at h ⊢
    revert h
    cases r.wk <;> cases r.wr <;> cases wr <;> cases st <;> simp
theorem less1_cap {ts : List Thg} {r : Rgt} (h : capOk ts r = true) (rd wr st : Bool) : capOk ts (less1 r rd wr st) = true := by
  unfold less1
  split
  · exact h
  · exact h
theorem less1_in {r : Rgt} (rd wr st : Bool) : rgtIn1 (less1 r rd wr st) r = true := by
  unfold less1
  split
  · rename_i h; simp [rgtIn1, h]
  · simp only [rgtIn1]
    cases r.rd <;> cases r.wr <;> cases r.wk <;> cases rd <;> cases wr <;> cases st <;> simp
theorem rgtIn1_refl (r : Rgt) : rgtIn1 r r = true := by
  simp only [rgtIn1]
  cases r.rd <;> cases r.wr <;> cases r.wk <;> simp

end Drw

/- Plain laws of calls: what a call that can be leaves is a table again, with the same things. Conditions: none. -/
namespace Drw
open Go Go.RowKit

structure CanB (ts : List Thg) (c : Cal) : Prop where
  tab : tabOk ts = true
  ok : calOk c = true
  ex : ex ts c.run = true
  kind : (getT ts c.run).kind = 3
  call : 1 ≤ c.kind ∧ c.kind ≤ 9
  a : 0 ≤ c.a ∧ c.a ≤ 3
  b : 0 ≤ c.b ∧ c.b ≤ 3
  n : 0 ≤ c.n ∧ c.n ≤ 99
theorem canB {ts : List Thg} {c : Cal} : calCan ts c = true ↔ CanB ts c := by
  constructor
  · intro h
    simp only [calCan, Bool.and_eq_true, kindAt, beq_iff_eq] at h
    obtain ⟨⟨h1, h2⟩, h3, h4⟩ := h
    have h2' := h2
    simp only [calOk, inR, Bool.and_eq_true, decide_eq_true_eq] at h2'
    exact ⟨h1, h2, h3, h4, by omega, by omega, by omega, by omega⟩
  · rintro ⟨h1, h2, h3, h4, -, -, -, -⟩
    simp [calCan, kindAt, h1, h2, h3, h4]

theorem CanB.thg {ts : List Thg} {c : Cal} (h : CanB ts c) : thgOk (getT ts c.run) = true := ((tab_iff.1 h.tab).2 _ h.ex).1
theorem CanB.four {ts : List Thg} {c : Cal} (h : CanB ts c) : (getT ts c.run).slots.length = 4 := slots_len h.thg (.inr h.kind)
theorem CanB.slot {ts : List Thg} {c : Cal} (h : CanB ts c) : slotOf ts c ∈ (getT ts c.run).slots := slot_mem h.a.1 (by have := h.four; have := h.a.2; omega)
theorem CanB.slotB {ts : List Thg} {c : Cal} (h : CanB ts c) : getR (getT ts c.run) c.b ∈ (getT ts c.run).slots := slot_mem h.b.1 (by have := h.four; have := h.b.2; omega)
theorem CanB.rOk {ts : List Thg} {c : Cal} (h : CanB ts c) : rgtOk (slotOf ts c) = true := slot_ok h.thg h.slot
theorem CanB.rCap {ts : List Thg} {c : Cal} (h : CanB ts c) : capOk ts (slotOf ts c) = true := ((tab_iff.1 h.tab).2 _ h.ex).2.2 _ h.slot

/-- What check1's 0 tells of a call that is no copy. -/
theorem check_zero {ts : List Thg} {c : Cal} (h : check1 ts c = 0) (h3 : c.kind ≠ 3) : (slotOf ts c).thing ≠ 0 ∧ hasKind c.kind (getT ts (slotOf ts c).thing).kind = true ∧ (needRd c.kind = true → (slotOf ts c).rd = true ∧ sees ts c.run (slotOf ts c).thing = true) ∧
    (needWr c.kind = true → (slotOf ts c).wr = true ∧ touches ts c.run (slotOf ts c).thing = true) ∧ (sees ts c.run (slotOf ts c).thing = true → live ts (slotOf ts c) = true) := by
  unfold check1 at h
  rw [if_neg h3] at h
  dsimp only at h
  split at h
  · simp at h
  · rename_i h1
    split at h
    · simp at h
    · rename_i h2
      split at h
      · simp at h
      · rename_i h4
        simp only [Bool.or_eq_true, Bool.and_eq_true, beq_iff_eq, not_or, not_and, Bool.not_eq_true', Bool.not_eq_false, Bool.not_eq_true] at h1 h2 h4
        refine ⟨h1.1.1.1, by simpa using h1.1.1.2, fun h => ⟨by simpa using h1.1.2 h, by simpa using h2.1 h⟩, fun h => ⟨by simpa using h1.2 h, by simpa using h2.2 h⟩, fun h => by simpa using h4 h⟩

theorem check_range (ts : List Thg) (c : Cal) : check1 ts c = 0 ∨ check1 ts c = -1 ∨ check1 ts c = -2 ∨ check1 ts c = -3 := by
  unfold check1
  dsimp only
  repeat' split
  all_goals simp

theorem num_bd {t : Thg} (h : thgOk t = true) : -4 ≤ t.num ∧ t.num ≤ 99 := by
  have := (thg_parts.1 h).2.2.2.1
  unfold numOk at this
  split at this
  · simp [inR] at this; omega
  · split at this
    · simp [inR] at this; omega
    · simp at this; omega
theorem num_page {t : Thg} (h : thgOk t = true) (hk : t.kind = 1 ∨ t.kind = 5) : 0 ≤ t.num ∧ t.num ≤ 99 := by
  have := (thg_parts.1 h).2.2.2.1
  unfold numOk at this
  rw [if_pos hk] at this
  simp [inR] at this; omega
theorem queue_bd {t : Thg} (h : thgOk t = true) : t.queue.length ≤ 3 ∧ ∀ n ∈ t.queue, 0 ≤ n ∧ n ≤ 99 := by
  have := (thg_parts.1 h).2.2.2.2.2.1
  unfold queueOk at this
  split at this
  · have e : t.queue = [] := by simpa using this
    rw [e]; simp
  · simp only [Bool.and_eq_true, decide_eq_true_eq, List.all_eq_true, inR] at this
    exact this
theorem vers_bd {t : Thg} (h : thgOk t = true) : 0 ≤ t.vers ∧ t.vers ≤ 5 := by
  have := (thg_parts.1 h).2.2.1
  unfold versOk at this
  split at this
  · simp [inR] at this; omega
  · simp at this; omega
theorem gate_to {ts : List Thg} (h : tabOk ts = true) {i : Int} (hi : ex ts i = true) (hk : (getT ts i).kind = 5) : ex ts (getT ts i).to = true ∧ (getT ts (getT ts i).to).kind = 1 := by
  have := ((tab_iff.1 h).2 i hi).2.1
  simp only [gateOk, hk, kindAt, Bool.or_eq_true, Bool.and_eq_true, beq_iff_eq] at this
  simpa using this

theorem kinds_of {c k : Int} (h : hasKind c k = true) (h1 : 1 ≤ c ∧ c ≤ 9) (h3 : c ≠ 3) : (c = 1 ∧ k = 1) ∨ (c = 2 ∧ k = 1) ∨ (c = 4 ∧ k = 2) ∨ (c = 5 ∧ k = 2) ∨ (c = 6 ∧ k = 4) ∨ (c = 7 ∧ k = 4) ∨ (c = 9 ∧ k = 5) ∨ (c = 8 ∧ (k = 1 ∨ k = 2 ∨ k = 4)) := by
  unfold hasKind at h
  repeat' split at h
  all_goals (simp at h; omega)

theorem tab_thgOk {ts : List Thg} (h : tabOk ts = true) {i : Int} (hi : ex ts i = true) : thgOk (getT ts i) = true := ((tab_iff.1 h).2 i hi).1
theorem tab_caps {ts : List Thg} (h : tabOk ts = true) {i : Int} (hi : ex ts i = true) {r : Rgt} (hr : r ∈ (getT ts i).slots) : capOk ts r = true := ((tab_iff.1 h).2 i hi).2.2 r hr

theorem tab_setNum {ts : List Thg} (h : tabOk ts = true) {i : Int} (hi : ex ts i = true) (n : Int) (hn : ((getT ts i).kind = 1 ∨ (getT ts i).kind = 5) ∧ 0 ≤ n ∧ n ≤ 99 ∨ (getT ts i).kind = 3 ∧ -4 ≤ n ∧ n ≤ 99) : tabOk (setT ts i (setNum n)) = true ∧ Same ts (setT ts i (setNum n)) :=
  ⟨tab_setT h hi rfl rfl rfl (Int.le_refl _) (ok_setNum (tab_thgOk h hi) n hn) (fun r hr => tab_caps h hi hr), same_setT hi rfl rfl rfl (Int.le_refl _)⟩
theorem tab_setSlot {ts : List Thg} (h : tabOk ts = true) {i : Int} (hi : ex ts i = true) (k : Int) (r : Rgt) (hr : rgtOk r = true) (hc : capOk ts r = true) : tabOk (setT ts i (setSlot k r)) = true ∧ Same ts (setT ts i (setSlot k r)) := by
  refine ⟨tab_setT h hi rfl rfl rfl (Int.le_refl _) (ok_setSlot (tab_thgOk h hi) k r hr) (fun x hx => ?_), same_setT hi rfl rfl rfl (Int.le_refl _)⟩
  rcases List.mem_or_eq_of_mem_set hx with hx | rfl
  · exact tab_caps h hi hx
  · exact hc
theorem tab_setQueue {ts : List Thg} (h : tabOk ts = true) {i : Int} (hi : ex ts i = true) (q : List Int) (hk : (getT ts i).kind = 4) (hl : q.length ≤ 3) (hq : ∀ n ∈ q, 0 ≤ n ∧ n ≤ 99) : tabOk (setT ts i (setQueue q)) = true ∧ Same ts (setT ts i (setQueue q)) :=
  ⟨tab_setT h hi rfl rfl rfl (Int.le_refl _) (ok_setQueue (tab_thgOk h hi) q hk hl hq) (fun r hr => tab_caps h hi hr), same_setT hi rfl rfl rfl (Int.le_refl _)⟩
theorem renew_slots (t : Thg) : ∀ r ∈ (renewT t).slots, r = Rgt.null := by
  intro r hr
  simp only [renewT, thgNew0] at hr
  split at hr <;> simp at hr
  exact hr
theorem tab_renew {ts : List Thg} (h : tabOk ts = true) {i : Int} (hi : ex ts i = true) (hk : (getT ts i).kind = 1 ∨ (getT ts i).kind = 2 ∨ (getT ts i).kind = 4) (hv : ¬ 5 ≤ (getT ts i).vers) : tabOk (setT ts i renewT) = true ∧ Same ts (setT ts i renewT) := by
  have hv' : (getT ts i).vers ≤ (renewT (getT ts i)).vers := by show _ ≤ (getT ts i).vers + 1; omega
  exact ⟨tab_setT h hi rfl rfl rfl hv' (ok_renew (tab_thgOk h hi) hk hv) (fun r hr => by rw [renew_slots _ r hr]; exact null_cap ts), same_setT hi rfl rfl rfl hv'⟩

/-- What a call does is within bounds. -/
structure Fine (ts : List Thg) (x : List Thg × Int) : Prop where
  tab : tabOk x.1 = true
  same : Same ts x.1
  lo : -4 ≤ x.2
  hi : x.2 ≤ 99

theorem fine_mk {ts x : List Thg} {n : Int} (h : tabOk x = true ∧ Same ts x) (h1 : -4 ≤ n) (h2 : n ≤ 99) : Fine ts (x, n) := ⟨h.1, h.2, h1, h2⟩

theorem live_ex {ts : List Thg} {r : Rgt} (h : live ts r = true) : ex ts r.thing = true := by
  simp only [live, Bool.and_eq_true] at h; exact h.1
theorem cap_ex {ts : List Thg} {r : Rgt} (h : capOk ts r = true) (h0 : r.thing ≠ 0) : ex ts r.thing = true := by
  simp only [capOk, Bool.or_eq_true, beq_iff_eq, Bool.and_eq_true] at h
  rcases h with h | h
  · exact absurd h h0
  · exact h.1

theorem act_fine {ts : List Thg} {c : Cal} (h : CanB ts c) (h3 : c.kind ≠ 3) (hk : hasKind c.kind (getT ts (slotOf ts c).thing).kind = true) (he : ex ts (slotOf ts c).thing = true) : Fine ts (act ts c (slotOf ts c)) := by
  have hn := h.n
  have ho := tab_thgOk h.tab he
  generalize hr : slotOf ts c = r at *
  rcases kinds_of hk h.call h3 with ⟨h1, h2⟩ | ⟨h1, h2⟩ | ⟨h1, h2⟩ | ⟨h1, h2⟩ | ⟨h1, h2⟩ | ⟨h1, h2⟩ | ⟨h1, h2⟩ | ⟨h1, h2⟩ <;> simp only [act, h1, if_true, Int.reduceEq, if_false]
  · exact ⟨h.tab, Same.refl _, (num_bd ho).1, (num_bd ho).2⟩
  · have := tab_setNum h.tab he c.n (.inl ⟨.inl h2, hn⟩)
    exact fine_mk this (by decide) (by decide)
  · have h4 := slots_len ho (.inl h2)
    have hm : getR (getT ts r.thing) (c.n % 4) ∈ (getT ts r.thing).slots := slot_mem (by omega) (by omega)
    have := tab_setSlot h.tab h.ex c.b (if r.wk then less1 (getR (getT ts r.thing) (c.n % 4)) true false false else getR (getT ts r.thing) (c.n % 4)) (by split <;> first | exact less1_ok (slot_ok ho hm) _ _ _ | exact slot_ok ho hm) (by split <;> first | exact less1_cap (tab_caps h.tab he hm) _ _ _ | exact tab_caps h.tab he hm)
    exact fine_mk this (by decide) (by decide)
  · have := tab_setSlot h.tab he (c.n % 4) (getR (getT ts c.run) c.b) (slot_ok h.thg h.slotB) (tab_caps h.tab h.ex h.slotB)
    exact fine_mk this (by decide) (by decide)
  · have hq := queue_bd ho
    split
    · exact fine_mk ⟨h.tab, Same.refl _⟩ (by decide) (by decide)
    · rename_i hl
      have := tab_setQueue h.tab he ((getT ts r.thing).queue ++ [c.n]) h2 (by simp; omega) (by intro n hm; simp at hm; rcases hm with hm | rfl <;> first | exact hq.2 n hm | exact hn)
      exact fine_mk this (by decide) (by decide)
  · have hq := queue_bd ho
    split
    · exact fine_mk ⟨h.tab, Same.refl _⟩ (by decide) (by decide)
    · rename_i q qs hqs
      rw [hqs] at hq
      have := tab_setQueue h.tab he qs h2 (by have := hq.1; simp at this; omega) (fun n hm => hq.2 n (by simp [hm]))
      have hb := hq.2 q (by simp)
      exact fine_mk this (by omega) (by omega)
  · have hg := gate_to h.tab he h2
    have h1 := tab_setNum h.tab hg.1 (c.n % 2) (.inl ⟨.inl hg.2, by omega, by omega⟩)
    have he' : ex (setT ts (getT ts r.thing).to (setNum (c.n % 2))) r.thing = true := by rw [ex_setT]; exact he
    have hk5 : (getT (setT ts (getT ts r.thing).to (setNum (c.n % 2))) r.thing).kind = 5 := (h1.2.kind _ he).trans h2
    have hnum := num_page (tab_thgOk h1.1 he') (.inr hk5)
    have h3 := tab_setNum h1.1 he' (min ((getT (setT ts (getT ts r.thing).to (setNum (c.n % 2))) r.thing).num + 1) 99) (.inl ⟨.inr hk5, by omega, by omega⟩)
    have e : setT (setT ts (getT ts r.thing).to (setNum (c.n % 2))) r.thing (fun t => setNum (min (t.num + 1) 99) t) = setT (setT ts (getT ts r.thing).to (setNum (c.n % 2))) r.thing (setNum (min ((getT (setT ts (getT ts r.thing).to (setNum (c.n % 2))) r.thing).num + 1) 99)) := by
      exact setT_congr he' rfl
    exact fine_mk ⟨by rw [e]; exact h3.1, by rw [e]; exact h1.2.trans h3.2⟩ (by decide) (by decide)
  · split
    · exact fine_mk ⟨h.tab, Same.refl _⟩ (by decide) (by decide)
    · rename_i hv
      have := tab_renew h.tab he h2 hv
      exact fine_mk this (by decide) (by decide)

theorem do1_fine {ts : List Thg} {c : Cal} (h : CanB ts c) : Fine ts (do1 ts c) := by
  unfold do1
  dsimp only
  split
  · rcases check_range ts c with e | e | e | e <;> rw [e] <;> exact fine_mk ⟨h.tab, Same.refl _⟩ (by decide) (by decide)
  · rename_i h0
    have h0 : check1 ts c = 0 := by simpa using h0
    split
    · have := tab_setSlot h.tab h.ex c.b (less1 (slotOf ts c) (odd c.n) (odd (c.n / 2)) (odd (c.n / 4))) (less1_ok h.rOk _ _ _) (less1_cap h.rCap _ _ _)
      exact fine_mk this (by decide) (by decide)
    · rename_i h3
      have hz := check_zero h0 h3
      split
      · have := act_fine h h3 hz.2.1 (cap_ex h.rCap hz.1)
        refine ⟨this.tab, this.same, ?_, ?_⟩ <;> dsimp only <;> split
        · exact this.lo
        · decide
        · exact this.hi
        · decide
      · exact fine_mk ⟨h.tab, Same.refl _⟩ (by decide) (by decide)

theorem do2_fine {ts : List Thg} {c : Cal} (h : CanB ts c) : Fine ts (do2 ts c) := by
  have h1 := do1_fine h
  have he : ex (do1 ts c).1 c.run = true := by rw [h1.same.ex]; exact h.ex
  have hk : (getT (do1 ts c).1 c.run).kind = 3 := (h1.same.kind _ h.ex).trans h.kind
  have := tab_setNum h1.tab he (do1 ts c).2 (.inr ⟨hk, h1.lo, h1.hi⟩)
  exact ⟨this.1, h1.same.trans this.2, h1.lo, h1.hi⟩

theorem callDo_can {ts : List Thg} {c : Cal} (h : CanB ts c) : callDo ts c = do2 ts c := by simp [callDo, canB.2 h]
theorem can_after {ts ts' : List Thg} {c d : Cal} (h : CanB ts c) (hs : Same ts ts') (ht : tabOk ts' = true) (hd : calOk d = true) (hr : d.run = c.run) : CanB ts' d := by
  rw [← canB]
  simp only [calCan, ht, hd, hs.kindAt, hr, Bool.true_and]
  simp [kindAt, h.ex, h.kind]

end Drw

/- Plain laws of one call: what is written is read; what is sent is behind all; what a call changes; a copy gives no more; no right comes of nothing. Conditions: none. -/
namespace Drw
open Go Go.RowKit

/-- A thing other than the runner is as the call left it ahead of the answer. -/
theorem do2_ne {ts : List Thg} {c : Cal} (h : CanB ts c) {i : Int} (hi : ex ts i = true) (hn : i ≠ c.run) : getT (do2 ts c).1 i = getT (do1 ts c).1 i :=
  getT_ne _ (ex_iff.1 h.ex).1 (ex_iff.1 hi).1 hn
theorem do2_run {ts : List Thg} {c : Cal} (h : CanB ts c) : getT (do2 ts c).1 c.run = setNum (do1 ts c).2 (getT (do1 ts c).1 c.run) :=
  getT_same _ (by rw [(do1_fine h).same.ex]; exact h.ex)
theorem do2_num (ts : List Thg) (c : Cal) : (do2 ts c).2 = (do1 ts c).2 := rfl
theorem do2_slots {ts : List Thg} {c : Cal} (h : CanB ts c) {i : Int} (hi : ex ts i = true) : (getT (do2 ts c).1 i).slots = (getT (do1 ts c).1 i).slots := by
  by_cases hn : i = c.run
  · subst hn; rw [do2_run h]; rfl
  · rw [do2_ne h hi hn]

theorem do1_bad {ts : List Thg} {c : Cal} (h : check1 ts c ≠ 0) : do1 ts c = (ts, check1 ts c) := by simp [do1, h]
theorem do1_copy {ts : List Thg} {c : Cal} (h : c.kind = 3) : do1 ts c = (setT ts c.run (setSlot c.b (less1 (slotOf ts c) (odd c.n) (odd (c.n / 2)) (odd (c.n / 4)))), 0) := by simp [do1, h, check1]
theorem do1_live {ts : List Thg} {c : Cal} (h : check1 ts c = 0) (h3 : c.kind ≠ 3) (hl : live ts (slotOf ts c) = true) : do1 ts c = ((act ts c (slotOf ts c)).1, if sees ts c.run (slotOf ts c).thing then (act ts c (slotOf ts c)).2 else 0) := by simp [do1, h, h3, hl]
theorem do1_gone {ts : List Thg} {c : Cal} (h : check1 ts c = 0) (h3 : c.kind ≠ 3) (hl : live ts (slotOf ts c) = false) : do1 ts c = (ts, 0) := by simp [do1, h, h3, hl]

/-- P45. -/
theorem law_copy {ts : List Thg} {c : Cal} (h : CanB ts c) (h3 : c.kind = 3) : (do2 ts c).2 = 0 ∧ (getT (do2 ts c).1 c.run).slots = (getT ts c.run).slots.set c.b.toNat (less1 (slotOf ts c) (odd c.n) (odd (c.n / 2)) (odd (c.n / 4))) := by
  refine ⟨by rw [do2_num, do1_copy h3], ?_⟩
  rw [do2_slots h h.ex, do1_copy h3]
  dsimp only
  rw [getT_same _ h.ex]; rfl

/-- P41, ahead of the answer: just the runner, its thing, and a page behind a gate. -/
theorem act_touch {ts : List Thg} {c : Cal} (h : CanB ts c) (h3 : c.kind ≠ 3) (hk : hasKind c.kind (getT ts (slotOf ts c).thing).kind = true) (he : ex ts (slotOf ts c).thing = true) {i : Int} (hi : ex ts i = true) (h1 : i ≠ c.run) (h2 : i ≠ (slotOf ts c).thing)
    (hg : c.kind = 9 → i ≠ (getT ts (slotOf ts c).thing).to) : getT (act ts c (slotOf ts c)).1 i = getT ts i := by
  generalize slotOf ts c = r at *
  have hr1 := (ex_iff.1 he).1
  have hi1 := (ex_iff.1 hi).1
  have hc1 := (ex_iff.1 h.ex).1
  rcases kinds_of hk h.call h3 with ⟨e, k⟩ | ⟨e, k⟩ | ⟨e, k⟩ | ⟨e, k⟩ | ⟨e, k⟩ | ⟨e, k⟩ | ⟨e, k⟩ | ⟨e, k⟩ <;> simp only [act, e, if_true, Int.reduceEq, if_false]
  · exact getT_ne _ hr1 hi1 h2
  · exact getT_ne _ hc1 hi1 h1
  · exact getT_ne _ hr1 hi1 h2
  · split
    · rfl
    · exact getT_ne _ hr1 hi1 h2
  · split
    · rfl
    · exact getT_ne _ hr1 hi1 h2
  · have ht := gate_to h.tab he k
    rw [getT_ne _ hr1 hi1 h2, getT_ne _ (ex_iff.1 ht.1).1 hi1 (hg e)]
  · split
    · rfl
    · exact getT_ne _ hr1 hi1 h2

theorem law_touch {ts : List Thg} {c : Cal} (h : CanB ts c) {i : Int} (hi : ex ts i = true) (h1 : i ≠ c.run) (h2 : i ≠ (slotOf ts c).thing)
    (hg : c.kind = 9 → (slotOf ts c).thing ≠ 0 → (getT ts (slotOf ts c).thing).kind = 5 → i ≠ (getT ts (slotOf ts c).thing).to) : getT (do2 ts c).1 i = getT ts i := by
  rw [do2_ne h hi h1]
  by_cases h0 : check1 ts c = 0
  · by_cases h3 : c.kind = 3
    · rw [do1_copy h3]
      exact getT_ne _ (ex_iff.1 h.ex).1 (ex_iff.1 hi).1 h1
    · obtain ⟨z1, z2, -⟩ := check_zero h0 h3
      cases hl : live ts (slotOf ts c)
      · rw [do1_gone h0 h3 hl]
      · rw [do1_live h0 h3 hl]
        refine act_touch h h3 z2 (live_ex hl) hi h1 h2 (fun e => hg e z1 ?_)
        rcases kinds_of z2 h.call h3 with h | h | h | h | h | h | h | h <;> omega
  · rw [do1_bad h0]

/-- P48. -/
theorem law_send {ts : List Thg} {c : Cal} (h : CanB ts c) (h6 : c.kind = 6) (h0 : check1 ts c = 0) :
    ex ts (slotOf ts c).thing = true ∧ (getT ts (slotOf ts c).thing).kind = 4 ∧ (slotOf ts c).thing ≠ c.run ∧
    (live ts (slotOf ts c) = false ∨ (getT ts (slotOf ts c).thing).queue.length = 3 → getT (do2 ts c).1 (slotOf ts c).thing = getT ts (slotOf ts c).thing ∧ (do2 ts c).2 = if sees ts c.run (slotOf ts c).thing then -4 else 0) ∧
    (live ts (slotOf ts c) = true → (getT ts (slotOf ts c).thing).queue.length ≠ 3 → (getT (do2 ts c).1 (slotOf ts c).thing).queue = (getT ts (slotOf ts c).thing).queue ++ [c.n] ∧ (do2 ts c).2 = 0) := by
  have h3 : c.kind ≠ 3 := by omega
  obtain ⟨z1, z2, z3, z4, z5⟩ := check_zero h0 h3
  have he := cap_ex h.rCap z1
  have hk : (getT ts (slotOf ts c).thing).kind = 4 := by
    rcases kinds_of z2 h.call h3 with h | h | h | h | h | h | h | h <;> omega
  have hne : (slotOf ts c).thing ≠ c.run := by
    intro e
    have := h.kind
    rw [e] at hk
    omega
  refine ⟨he, hk, hne, ?_, ?_⟩
  · intro hor
    rw [do2_ne h he hne, do2_num]
    cases hl : live ts (slotOf ts c)
    · rw [do1_gone h0 h3 hl]
      refine ⟨rfl, ?_⟩
      cases hs : sees ts c.run (slotOf ts c).thing
      · rfl
      · rw [z5 hs] at hl; cases hl
    · have hq : (getT ts (slotOf ts c).thing).queue.length = 3 := by simpa [hl] using hor
      rw [do1_live h0 h3 hl]
      simp [act, h6, hq]
  · intro hl hq
    rw [do2_ne h he hne, do2_num, do1_live h0 h3 hl]
    have e : act ts c (slotOf ts c) = (setT ts (slotOf ts c).thing (setQueue ((getT ts (slotOf ts c).thing).queue ++ [c.n])), 0) := by simp [act, h6, hq]
    rw [e]
    dsimp only
    rw [getT_same _ he]
    exact ⟨rfl, by simp⟩

/-- A flow from a label that is such to itself. -/
theorem flow_refl {l : Lab} (h : labOk l = true) : flow l l = true := by simp [flow, flow1, subM, h]

/-- P53. -/
theorem law_writeRead {ts : List Thg} {c : Cal} (h : CanB ts c) (h0 : (slotOf ts c).thing ≠ 0) (hk : (getT ts (slotOf ts c).thing).kind = 1) (hr : (slotOf ts c).rd = true) (hw : (slotOf ts c).wr = true) (hl : (getT ts (slotOf ts c).thing).lab = (getT ts c.run).lab)
    (hv : live ts (slotOf ts c) = true) (n : Int) (hn : 0 ≤ n ∧ n ≤ 99) :
    (callDo ts ⟨2, c.run, c.a, 0, n⟩).2 = 0 ∧ (callDo (callDo ts ⟨2, c.run, c.a, 0, n⟩).1 ⟨1, c.run, c.a, 0, 0⟩).2 = n := by
  have he := live_ex hv
  have hc1 : CanB ts ⟨2, c.run, c.a, 0, n⟩ := can_after h (Same.refl _) h.tab (by
    have := h.ok; simp only [calOk, inR, Bool.and_eq_true, decide_eq_true_eq] at this ⊢; omega) rfl
  have hs1 : slotOf ts ⟨2, c.run, c.a, 0, n⟩ = slotOf ts c := rfl
  have hlab : labOk (getT ts c.run).lab = true := (thg_parts.1 h.thg).2.1
  have hfl : sees ts c.run (slotOf ts c).thing = true := by unfold sees; rw [hl]; exact flow_refl hlab
  have hft : touches ts c.run (slotOf ts c).thing = true := by unfold touches; rw [hl]; exact flow_refl hlab
  have hck : check1 ts ⟨2, c.run, c.a, 0, n⟩ = 0 := by
    simp [check1, hs1, h0, hasKind, hk, needRd, needWr, hw, hft, hfl, hv]
  have hne : (slotOf ts c).thing ≠ c.run := by
    intro e; have := h.kind; rw [e] at hk; omega
  have hd : do1 ts ⟨2, c.run, c.a, 0, n⟩ = (setT ts (slotOf ts c).thing (setNum n), 0) := by
    rw [do1_live hck (by show (2 : Int) ≠ 3; decide) (by rw [hs1]; exact hv), hs1]
    simp [act]
  rw [callDo_can hc1]
  refine ⟨by rw [do2_num, hd], ?_⟩
  have hf := do2_fine hc1
  have hc2 : CanB (do2 ts ⟨2, c.run, c.a, 0, n⟩).1 ⟨1, c.run, c.a, 0, 0⟩ := can_after hc1 hf.same hf.tab (by
    have := h.ok; simp only [calOk, inR, Bool.and_eq_true, decide_eq_true_eq] at this ⊢; omega) rfl
  rw [callDo_can hc2, do2_num]
  have hS := hf.same
  clear hf
  generalize hY : (do2 ts ⟨2, c.run, c.a, 0, n⟩).1 = Y at *
  have hsl : slotOf Y ⟨1, c.run, c.a, 0, 0⟩ = slotOf ts c := by
    unfold slotOf getR
    rw [← hY, do2_slots hc1 hc1.ex, hd]
    dsimp only
    rw [getT_ne _ (ex_iff.1 he).1 (ex_iff.1 h.ex).1 (Ne.symm hne)]
  have hthg : getT Y (slotOf ts c).thing = setNum n (getT ts (slotOf ts c).thing) := by
    rw [← hY, do2_ne hc1 he hne, hd]
    exact getT_same _ he
  have hlr : (getT Y c.run).lab = (getT ts c.run).lab := hS.lab _ h.ex
  have hsee : sees Y c.run (slotOf ts c).thing = true := by
    unfold sees; rw [hthg, hlr]; show flow (getT ts (slotOf ts c).thing).lab _ = true; rw [hl]; exact flow_refl hlab
  have hliv : live Y (slotOf ts c) = true := by
    unfold live at hv ⊢
    rw [hS.ex, hthg]; exact hv
  have hk2 : (getT Y (slotOf ts c).thing).kind = 1 := by rw [hthg]; exact hk
  have hck2 : check1 Y ⟨1, c.run, c.a, 0, 0⟩ = 0 := by
    simp [check1, hsl, h0, hasKind, hk2, needRd, needWr, hr, hsee, hliv]
  rw [do1_live hck2 (by show (1 : Int) ≠ 3; decide) (by rw [hsl]; exact hliv), hsl]
  simp [hsee, act, hthg, setNum]

/-- P96: a right that a thing did not have is nothing, or no more than one of the runner's, or of the node it fetched from. -/
theorem law_rights {ts : List Thg} {c : Cal} (h : CanB ts c) {i : Int} (hi : ex ts i = true) {k : Nat} {y : Rgt} (hy : (getT (do2 ts c).1 i).slots[k]? = some y) :
    (getT ts i).slots[k]? = some y ∨ y = Rgt.null ∨ (∃ s ∈ (getT ts c.run).slots, rgtIn y s = true) ∨ (c.kind = 4 ∧ (slotOf ts c).thing ≠ 0 ∧ ∃ s ∈ (getT ts (slotOf ts c).thing).slots, rgtIn y s = true) := by
  rw [do2_slots h hi] at hy
  by_cases h0 : check1 ts c = 0
  · by_cases h3 : c.kind = 3
    · rw [do1_copy h3] at hy
      dsimp only at hy
      rw [getT_setT _ h.ex hi] at hy
      split at hy
      · rename_i e
        subst e
        simp only [setSlot, List.getElem?_set] at hy
        split at hy
        · split at hy
          · cases hy
            exact .inr (.inr (.inl ⟨_, h.slot, by simp [rgtIn, less1_ok h.rOk, h.rOk, less1_in]⟩))
          · cases hy
        · exact .inl hy
      · exact .inl hy
    · obtain ⟨z1, z2, -⟩ := check_zero h0 h3
      cases hl : live ts (slotOf ts c)
      · rw [do1_gone h0 h3 hl] at hy; exact .inl hy
      · rw [do1_live h0 h3 hl] at hy
        dsimp only at hy
        have he := live_ex hl
        have ho := tab_thgOk h.tab he
        have hn := h.n
        generalize hr : slotOf ts c = r at *
        rcases kinds_of z2 h.call h3 with ⟨e, k'⟩ | ⟨e, k'⟩ | ⟨e, k'⟩ | ⟨e, k'⟩ | ⟨e, k'⟩ | ⟨e, k'⟩ | ⟨e, k'⟩ | ⟨e, k'⟩ <;> simp only [act, e, if_true, Int.reduceEq, if_false] at hy
        · exact .inl hy
        · rw [getT_setT _ he hi] at hy
          split at hy
          · rename_i e; subst e; exact .inl hy
          · exact .inl hy
        · have h4 := slots_len ho (.inl k')
          have hm : getR (getT ts r.thing) (c.n % 4) ∈ (getT ts r.thing).slots := slot_mem (by omega) (by omega)
          have ho' := slot_ok ho hm
          rw [getT_setT _ h.ex hi] at hy
          split at hy
          · rename_i e2
            subst e2
            simp only [setSlot, List.getElem?_set] at hy
            split at hy
            · split at hy
              · refine .inr (.inr (.inr ⟨e, z1, _, hm, ?_⟩))
                simp only [Option.some.injEq] at hy
                subst hy
                split
                · simp [rgtIn, less1_ok ho', ho', less1_in]
                · simp [rgtIn, ho', rgtIn1_refl]
              · cases hy
            · exact .inl hy
          · exact .inl hy
        · rw [getT_setT _ he hi] at hy
          split at hy
          · rename_i e2
            subst e2
            simp only [setSlot, List.getElem?_set] at hy
            split at hy
            · split at hy
              · refine .inr (.inr (.inl ⟨_, h.slotB, ?_⟩))
                simp only [Option.some.injEq] at hy
                subst hy
                have := slot_ok h.thg h.slotB
                simp [rgtIn, this, rgtIn1_refl]
              · cases hy
            · exact .inl hy
          · exact .inl hy
        · split at hy
          · exact .inl hy
          · rw [getT_setT _ he hi] at hy
            split at hy
            · rename_i e; subst e; exact .inl hy
            · exact .inl hy
        · split at hy
          · exact .inl hy
          · rw [getT_setT _ he hi] at hy
            split at hy
            · rename_i e; subst e; exact .inl hy
            · exact .inl hy
        · have ht := gate_to h.tab he k'
          rw [getT_setT _ (by rw [ex_setT]; exact he) (by rw [ex_setT]; exact hi)] at hy
          have hx : ∀ j, ex ts j = true → (getT (setT ts (getT ts r.thing).to (setNum (c.n % 2))) j).slots = (getT ts j).slots := by
            intro j hj
            rw [getT_setT _ ht.1 hj]
            split
            · rename_i e; subst e; rfl
            · rfl
          split at hy
          · rename_i e; subst e
            have := hx _ he
            simp only [setNum] at hy
            rw [this] at hy; exact .inl hy
          · rw [hx _ hi] at hy; exact .inl hy
        · split at hy
          · exact .inl hy
          · rw [getT_setT _ he hi] at hy
            split at hy
            · exact .inr (.inl (renew_slots _ _ (List.mem_of_getElem? hy)))
            · exact .inl hy
  · rw [do1_bad h0] at hy; exact .inl hy

end Drw
