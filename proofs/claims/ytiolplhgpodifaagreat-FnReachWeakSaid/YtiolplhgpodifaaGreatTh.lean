/- The text of a thing, and of a table, as lists of bytes: what has the same text is the same. Conditions: none. -/
import Derived.Test.YtiolplhgpodifaaGreatBase
import Derived.Test.YtiolplhgpodifaaGreatIv
import Derived.Test.YtiolplhgpodifaaGreatDo
set_option linter.unusedVariables false
set_option linter.unusedSimpArgs false
namespace Drw
open Go Go.RowKit

/-- A number from -4 to 99, in decimals. -/
def dig (n : Int) : UInt8 := UInt8.ofNat (48 + n.toNat)
def dec (n : Int) : List UInt8 := if n < 0 then [45, dig (-n)] else if n < 10 then [dig n] else [dig (n / 10), dig (n % 10)]
def flagB (b : Bool) (c : UInt8) : UInt8 := if b then c else 45
def rgtTxt (r : Rgt) : List UInt8 := if r.thing = 0 then [45] else [dig r.thing, 46, dig r.vers, flagB r.rd 114, flagB r.wr 119, flagB r.wk 107]
def labTxt (l : Lab) : List UInt8 := [dig l.s, 47, dig l.v]
def kindTxt (k : Int) : List UInt8 := if k = 1 then [112, 97, 103, 101] else if k = 2 then [110, 111, 100, 101] else if k = 3 then [114, 117, 110] else if k = 4 then [112, 105, 112, 101] else if k = 5 then [103, 97, 116, 101] else []
def slotsTxt (rs : List Rgt) : List UInt8 := (rs.map (fun r => 32 :: rgtTxt r)).flatten
def queueTxt (q : List Int) : List UInt8 := (q.map (fun n => 32 :: 60 :: dec n)).flatten
def toTxt (t : Thg) : List UInt8 := if t.kind = 5 then 32 :: 62 :: dec t.to else []
/-- The line of a thing, without its number. -/
def thgTxt (t : Thg) : List UInt8 := kindTxt t.kind ++ 32 :: labTxt t.lab ++ 32 :: dec t.vers ++ 32 :: dec t.num ++ slotsTxt t.slots ++ queueTxt t.queue ++ toTxt t ++ [10]
def tabTxtFrom (i : Nat) : List Thg → List UInt8
  | [] => []
  | t :: ts => dec ((i : Int) + 1) ++ 32 :: thgTxt t ++ tabTxtFrom (i + 1) ts
def tabTxt (ts : List Thg) : List UInt8 := tabTxtFrom 0 ts

/-! ## Cutting -/
/-- No byte of a list is a space, or an end of a line. -/
def word (l : List UInt8) : Prop := ∀ x ∈ l, x ≠ 32 ∧ x ≠ 10
def ends (l : List UInt8) : Prop := ∃ x r, l = x :: r ∧ (x = 32 ∨ x = 10)
theorem cut_word : ∀ {a b x y : List UInt8}, word a → word b → ends x → ends y → a ++ x = b ++ y → a = b ∧ x = y
  | [], [], x, y, _, _, _, _, h => ⟨rfl, h⟩
  | [], b :: bs, x, y, _, hb, hx, _, h => by
    obtain ⟨u, r, rfl, hu⟩ := hx
    simp only [List.nil_append, List.cons_append, List.cons.injEq] at h
    have := hb b (by simp)
    rcases hu with rfl | rfl
    · exact absurd h.1.symm this.1
    · exact absurd h.1.symm this.2
  | a :: la, [], x, y, ha, _, _, hy, h => by
    obtain ⟨u, r, rfl, hu⟩ := hy
    simp only [List.nil_append, List.cons_append, List.cons.injEq] at h
    have := ha a (by simp)
    rcases hu with rfl | rfl
    · exact absurd h.1 this.1
    · exact absurd h.1 this.2
  | a :: la, b :: bs, x, y, ha, hb, hx, hy, h => by
    simp only [List.cons_append, List.cons.injEq] at h
    obtain ⟨h1, h2⟩ := cut_word (fun z hz => ha z (by simp [hz])) (fun z hz => hb z (by simp [hz])) hx hy h.2
    exact ⟨by rw [h.1, h1], h2⟩
theorem ends_sp (l : List UInt8) : ends (32 :: l) := ⟨32, l, rfl, .inl rfl⟩
theorem ends_nl (l : List UInt8) : ends (10 :: l) := ⟨10, l, rfl, .inr rfl⟩

theorem int_cases (P : Int → Prop) (lo : Int) (k : Nat) (h : ∀ i : Fin k, P (lo + (i.val : Int))) {n : Int} (h0 : lo ≤ n) (h1 : n < lo + k) : P n := by
  have := h ⟨(n - lo).toNat, by omega⟩
  have e : lo + (((n - lo).toNat : Nat) : Int) = n := by omega
  exact e ▸ this
theorem dec_word {n : Int} (h0 : -4 ≤ n) (h1 : n ≤ 99) : word (dec n) :=
  int_cases (fun n => word (dec n)) (-4) 104 (by unfold word; decide +kernel) h0 (by omega)
theorem dec_inv {n : Int} (h0 : -4 ≤ n) (h1 : n ≤ 99) : (match dec n with | [a] => (a.toNat : Int) - 48 | [a, b] => if a = 45 then 48 - (b.toNat : Int) else ((a.toNat : Int) - 48) * 10 + ((b.toNat : Int) - 48) | _ => 0) = n :=
  int_cases (fun n => (match dec n with | [a] => (a.toNat : Int) - 48 | [a, b] => if a = 45 then 48 - (b.toNat : Int) else ((a.toNat : Int) - 48) * 10 + ((b.toNat : Int) - 48) | _ => 0) = n) (-4) 104 (by decide +kernel) h0 (by omega)
theorem dec_inj {n m : Int} (h0 : -4 ≤ n) (h1 : n ≤ 99) (k0 : -4 ≤ m) (k1 : m ≤ 99) (h : dec n = dec m) : n = m := by
  rw [← dec_inv h0 h1, ← dec_inv k0 k1, h]
theorem dig_inv {n : Int} (h0 : 0 ≤ n) (h1 : n ≤ 9) : ((dig n).toNat : Int) - 48 = n :=
  int_cases (fun n => ((dig n).toNat : Int) - 48 = n) 0 10 (by decide +kernel) h0 (by omega)
theorem dig_inj {n m : Int} (h0 : 0 ≤ n) (h1 : n ≤ 9) (k0 : 0 ≤ m) (k1 : m ≤ 9) (h : dig n = dig m) : n = m := by
  rw [← dig_inv h0 h1, ← dig_inv k0 k1, h]
theorem dig_word {n : Int} (h0 : 0 ≤ n) (h1 : n ≤ 9) : dig n ≠ 32 ∧ dig n ≠ 10 ∧ dig n ≠ 45 ∧ 48 ≤ dig n :=
  int_cases (fun n => dig n ≠ 32 ∧ dig n ≠ 10 ∧ dig n ≠ 45 ∧ 48 ≤ dig n) 0 10 (by decide +kernel) h0 (by omega)
theorem flagB_word (b : Bool) (c : UInt8) (h : c ≠ 32 ∧ c ≠ 10) : flagB b c ≠ 32 ∧ flagB b c ≠ 10 := by
  cases b
  · exact ⟨show (45 : UInt8) ≠ 32 by decide, show (45 : UInt8) ≠ 10 by decide⟩
  · exact h
theorem flagB_inj {a b : Bool} {c : UInt8} (hc : c ≠ 45) (h : flagB a c = flagB b c) : a = b := by
  cases a <;> cases b <;> simp [flagB] at h <;> first | rfl | exact absurd h hc | exact absurd h.symm hc
theorem rgt_bounds {r : Rgt} (h : rgtOk r = true) (h0 : r.thing ≠ 0) : 1 ≤ r.thing ∧ r.thing ≤ 8 ∧ 0 ≤ r.vers ∧ r.vers ≤ 5 := by
  simp only [rgtOk, h0, if_false, inR, Bool.and_eq_true, decide_eq_true_eq] at h
  omega
theorem rgt_null {r : Rgt} (h : rgtOk r = true) (h0 : r.thing = 0) : r = Rgt.null := by
  simpa [rgtOk, h0] using h
theorem rgtTxt_word {r : Rgt} (h : rgtOk r = true) : word (rgtTxt r) := by
  unfold rgtTxt
  split
  · intro x hx; simp at hx; subst hx; decide
  · rename_i h0
    obtain ⟨h1, h2, h3, h4⟩ := rgt_bounds h h0
    have a1 := dig_word (n := r.thing) (by omega) (by omega)
    have a2 := dig_word (n := r.vers) h3 (by omega)
    intro x hx
    simp only [List.mem_cons, List.not_mem_nil, or_false] at hx
    rcases hx with rfl | rfl | rfl | rfl | rfl | rfl
    · exact ⟨a1.1, a1.2.1⟩
    · decide
    · exact ⟨a2.1, a2.2.1⟩
    · exact flagB_word _ _ (by decide)
    · exact flagB_word _ _ (by decide)
    · exact flagB_word _ _ (by decide)
theorem rgtTxt_inj {a b : Rgt} (ha : rgtOk a = true) (hb : rgtOk b = true) (h : rgtTxt a = rgtTxt b) : a = b := by
  by_cases h0 : a.thing = 0
  · by_cases k0 : b.thing = 0
    · rw [rgt_null ha h0, rgt_null hb k0]
    · simp [rgtTxt, h0, k0] at h
  · by_cases k0 : b.thing = 0
    · simp [rgtTxt, h0, k0] at h
    · obtain ⟨h1, h2, h3, h4⟩ := rgt_bounds ha h0
      obtain ⟨k1, k2, k3, k4⟩ := rgt_bounds hb k0
      simp only [rgtTxt, h0, k0, if_false, List.cons.injEq, and_true, true_and] at h
      obtain ⟨e1, e2, e3, e4, e5⟩ := h
      have f1 := dig_inj (by omega) (by omega) (by omega) (by omega) e1
      have f2 := dig_inj h3 (by omega) k3 (by omega) e2
      have f3 := flagB_inj (by decide) e3
      have f4 := flagB_inj (by decide) e4
      have f5 := flagB_inj (by decide) e5
      obtain ⟨a1, a2, a3, a4, a5⟩ := a
      obtain ⟨b1, b2, b3, b4, b5⟩ := b
      simp only at f1 f2 f3 f4 f5
      rw [f1, f2, f3, f4, f5]
theorem lab_bounds {l : Lab} (h : labOk l = true) : 0 ≤ l.s ∧ l.s ≤ 3 ∧ 0 ≤ l.v ∧ l.v ≤ 3 := by
  simp only [labOk, inR, Bool.and_eq_true, decide_eq_true_eq] at h
  omega
theorem labTxt_word {l : Lab} (h : labOk l = true) : word (labTxt l) := by
  obtain ⟨h1, h2, h3, h4⟩ := lab_bounds h
  have a1 := dig_word (n := l.s) (by omega) (by omega)
  have a2 := dig_word (n := l.v) (by omega) (by omega)
  intro x hx
  simp only [labTxt, List.mem_cons, List.not_mem_nil, or_false] at hx
  rcases hx with rfl | rfl | rfl
  · exact ⟨a1.1, a1.2.1⟩
  · decide
  · exact ⟨a2.1, a2.2.1⟩
theorem labTxt_inj {a b : Lab} (ha : labOk a = true) (hb : labOk b = true) (h : labTxt a = labTxt b) : a = b := by
  obtain ⟨h1, h2, h3, h4⟩ := lab_bounds ha
  obtain ⟨k1, k2, k3, k4⟩ := lab_bounds hb
  simp only [labTxt, List.cons.injEq, and_true, true_and] at h
  have f1 := dig_inj (by omega) (by omega) (by omega) (by omega) h.1
  have f2 := dig_inj (by omega) (by omega) (by omega) (by omega) h.2
  obtain ⟨a1, a2⟩ := a
  obtain ⟨b1, b2⟩ := b
  simp only at f1 f2
  rw [f1, f2]
theorem kind_word (k : Int) : word (kindTxt k) := by
  unfold kindTxt
  repeat' split
  all_goals (unfold word; decide)
theorem kind_inj {a b : Int} (ha : 1 ≤ a ∧ a ≤ 5) (hb : 1 ≤ b ∧ b ≤ 5) (h : kindTxt a = kindTxt b) : a = b := by
  have h1 : a = 1 ∨ a = 2 ∨ a = 3 ∨ a = 4 ∨ a = 5 := by omega
  have h2 : b = 1 ∨ b = 2 ∨ b = 3 ∨ b = 4 ∨ b = 5 := by omega
  rcases h1 with rfl | rfl | rfl | rfl | rfl <;> rcases h2 with rfl | rfl | rfl | rfl | rfl <;> first | rfl | (revert h; decide)

/-- What may stand behind the rights: an end, that is no right of its own. -/
theorem slots_cut : ∀ {a b : List Rgt} {x y : List UInt8}, a.length = b.length → (∀ r ∈ a, rgtOk r = true) → (∀ r ∈ b, rgtOk r = true) → ends x → ends y → slotsTxt a ++ x = slotsTxt b ++ y → a = b ∧ x = y
  | [], [], x, y, _, _, _, _, _, h => ⟨rfl, h⟩
  | [], b :: bs, x, y, hl, _, _, _, _, _ => by simp at hl
  | a :: la, [], x, y, hl, _, _, _, _, _ => by simp at hl
  | a :: la, b :: bs, x, y, hl, ha, hb, hx, hy, h => by
    have e : ∀ (c : Rgt) (cs : List Rgt) (z : List UInt8), slotsTxt (c :: cs) ++ z = 32 :: (rgtTxt c ++ (slotsTxt cs ++ z)) := by intro c cs z; simp [slotsTxt]
    rw [e, e] at h
    have en : ∀ (cs : List Rgt) (z : List UInt8), ends z → ends (slotsTxt cs ++ z) := by
      intro cs z hz
      cases cs with
      | nil => exact hz
      | cons c cs => rw [e]; exact ends_sp _
    obtain ⟨h1, h2⟩ := cut_word (rgtTxt_word (ha a (by simp))) (rgtTxt_word (hb b (by simp))) (en la x hx) (en bs y hy) (List.cons.inj h).2
    obtain ⟨h3, h4⟩ := slots_cut (by simpa using hl) (fun r hr => ha r (by simp [hr])) (fun r hr => hb r (by simp [hr])) hx hy h2
    exact ⟨by rw [rgtTxt_inj (ha a (by simp)) (hb b (by simp)) h1, h3], h4⟩
theorem queue_cut : ∀ {a b : List Int} {x y : List UInt8}, (∀ n ∈ a, 0 ≤ n ∧ n ≤ 99) → (∀ n ∈ b, 0 ≤ n ∧ n ≤ 99) → queueTxt a ++ 10 :: x = queueTxt b ++ 10 :: y → a = b ∧ x = y
  | [], [], x, y, _, _, h => ⟨rfl, by simpa [queueTxt] using h⟩
  | [], b :: bs, x, y, _, _, h => by simp [queueTxt] at h
  | a :: la, [], x, y, _, _, h => by simp [queueTxt] at h
  | a :: la, b :: bs, x, y, ha, hb, h => by
    have e : ∀ (c : Int) (cs : List Int) (z : List UInt8), queueTxt (c :: cs) ++ z = 32 :: 60 :: (dec c ++ (queueTxt cs ++ z)) := by intro c cs z; simp [queueTxt]
    rw [e, e] at h
    have en : ∀ (cs : List Int) (z : List UInt8), ends (queueTxt cs ++ 10 :: z) := by
      intro cs z
      cases cs with
      | nil => exact ends_nl _
      | cons c cs => rw [e]; exact ends_sp _
    have a1 := ha a (by simp)
    have b1 := hb b (by simp)
    obtain ⟨h1, h2⟩ := cut_word (dec_word (n := a) (by omega) (by omega)) (dec_word (n := b) (by omega) (by omega)) (en la x) (en bs y) (List.cons.inj (List.cons.inj h).2).2
    obtain ⟨h3, h4⟩ := queue_cut (fun r hr => ha r (by simp [hr])) (fun r hr => hb r (by simp [hr])) h2
    exact ⟨by rw [dec_inj (by omega) (by omega) (by omega) (by omega) h1, h3], h4⟩

structure ThgB (t : Thg) : Prop where
  kind : 1 ≤ t.kind ∧ t.kind ≤ 5
  lab : labOk t.lab = true
  vers : 0 ≤ t.vers ∧ t.vers ≤ 5
  num : -4 ≤ t.num ∧ t.num ≤ 99
  slots : t.slots.length = if t.kind = 2 ∨ t.kind = 3 then 4 else 0
  rgts : ∀ r ∈ t.slots, rgtOk r = true
  queue : t.kind ≠ 4 → t.queue = []
  nums : ∀ n ∈ t.queue, 0 ≤ n ∧ n ≤ 99
  tgt : if t.kind = 5 then 1 ≤ t.to ∧ t.to ≤ 8 else t.to = 0
theorem thgB {t : Thg} (h : thgOk t = true) : ThgB t := by
  simp only [thgOk, Bool.and_eq_true, inR, decide_eq_true_eq] at h
  obtain ⟨⟨⟨⟨⟨⟨h1, h2⟩, h3⟩, h4⟩, h5⟩, h6⟩, h7⟩ := h
  refine ⟨h1, h2, ?_, ?_, ?_, ?_, ?_, ?_, ?_⟩
  · unfold versOk at h3
    split at h3 <;> simp [inR] at h3 <;> omega
  · unfold numOk at h4
    split at h4
    · simp [inR] at h4; omega
    · split at h4
      · simp [inR] at h4; omega
      · simp at h4; omega
  · unfold slotsOk at h5
    split at h5 <;> simp at h5
    · rw [if_neg (by omega)]; exact by rw [h5]; rfl
    · rw [if_pos (by omega)]; exact h5.1
  · unfold slotsOk at h5
    split at h5 <;> simp at h5
    · intro r hr; rw [h5] at hr; cases hr
    · exact h5.2
  · intro hk
    unfold queueOk at h6
    rw [if_pos hk] at h6
    simpa using h6
  · unfold queueOk at h6
    split at h6 <;> simp [inR] at h6
    · intro n hn; rw [h6] at hn; cases hn
    · exact h6.2
  · unfold targetOk at h7
    split at h7 <;> rename_i hk
    · rw [if_pos hk]; simpa [inR] using h7
    · rw [if_neg hk]; simpa using h7
theorem thgTxt_cut {a b : Thg} {x y : List UInt8} (ha : ThgB a) (hb : ThgB b) (h : thgTxt a ++ x = thgTxt b ++ y) : a = b ∧ x = y := by
  have e : ∀ (t : Thg) (z : List UInt8), thgTxt t ++ z = kindTxt t.kind ++ 32 :: (labTxt t.lab ++ 32 :: (dec t.vers ++ 32 :: (dec t.num ++ (slotsTxt t.slots ++ (queueTxt t.queue ++ (toTxt t ++ 10 :: z)))))) := by intro t z; simp [thgTxt]
  rw [e, e] at h
  obtain ⟨h1, h⟩ := cut_word (kind_word _) (kind_word _) (ends_sp _) (ends_sp _) h
  have k1 := kind_inj ha.kind hb.kind h1
  obtain ⟨h2, h⟩ := cut_word (labTxt_word ha.lab) (labTxt_word hb.lab) (ends_sp _) (ends_sp _) (List.cons.inj h).2
  have k2 := labTxt_inj ha.lab hb.lab h2
  have va := ha.vers
  have vb := hb.vers
  obtain ⟨h3, h⟩ := cut_word (dec_word (n := a.vers) (by omega) (by omega)) (dec_word (n := b.vers) (by omega) (by omega)) (ends_sp _) (ends_sp _) (List.cons.inj h).2
  have k3 := dec_inj (by omega) (by omega) (by omega) (by omega) h3
  have na := ha.num
  have nb := hb.num
  have enT : ∀ (t : Thg) (z : List UInt8), ends (toTxt t ++ 10 :: z) := by
    intro t z
    unfold toTxt
    split
    · exact ends_sp _
    · exact ends_nl _
  have enQ : ∀ (t : Thg) (z : List UInt8), ends (queueTxt t.queue ++ (toTxt t ++ 10 :: z)) := by
    intro t z
    cases hq : t.queue with
    | nil => exact enT t z
    | cons c cs => exact ends_sp _
  have enS : ∀ (t : Thg) (z : List UInt8), ends (slotsTxt t.slots ++ (queueTxt t.queue ++ (toTxt t ++ 10 :: z))) := by
    intro t z
    cases hq : t.slots with
    | nil => exact enQ t z
    | cons c cs => exact ends_sp _
  obtain ⟨h4, h⟩ := cut_word (dec_word (n := a.num) (by omega) (by omega)) (dec_word (n := b.num) (by omega) (by omega)) (enS a x) (enS b y) (List.cons.inj h).2
  have k4 := dec_inj (by omega) (by omega) (by omega) (by omega) h4
  obtain ⟨k5, h⟩ := slots_cut (by rw [ha.slots, hb.slots, k1]) ha.rgts hb.rgts (enQ a x) (enQ b y) h
  have hto : a.to = b.to ∧ a.queue = b.queue ∧ x = y := by
    have ta := ha.tgt
    have tb := hb.tgt
    by_cases h5 : a.kind = 5
    · have h5b : b.kind = 5 := by rw [← k1, h5]
      rw [ha.queue (by omega), hb.queue (by omega)] at h ⊢
      rw [if_pos h5] at ta
      rw [if_pos h5b] at tb
      simp only [queueTxt, List.map_nil, List.flatten_nil, List.nil_append, toTxt, h5, h5b, if_true, List.cons_append, List.cons.injEq, true_and] at h
      obtain ⟨h6, h7⟩ := cut_word (dec_word (n := a.to) (by omega) (by omega)) (dec_word (n := b.to) (by omega) (by omega)) (ends_nl _) (ends_nl _) h
      exact ⟨dec_inj (by omega) (by omega) (by omega) (by omega) h6, rfl, (List.cons.inj h7).2⟩
    · have h5b : ¬ b.kind = 5 := by rw [← k1]; exact h5
      rw [if_neg h5] at ta
      rw [if_neg h5b] at tb
      simp only [toTxt, h5, h5b, if_false, List.nil_append] at h
      obtain ⟨h6, h7⟩ := queue_cut ha.nums hb.nums h
      exact ⟨by rw [ta, tb], h6, h7⟩
  obtain ⟨a1, a2, a3, a4, a5, a6, a7⟩ := a
  obtain ⟨b1, b2, b3, b4, b5, b6, b7⟩ := b
  simp only at k1 k2 k3 k4 k5 hto
  obtain ⟨t1, t2, t3⟩ := hto
  exact ⟨by rw [k1, k2, k3, k4, k5, t1, t2], t3⟩
theorem thgTxt_inj {a b : Thg} (ha : thgOk a = true) (hb : thgOk b = true) (h : thgTxt a = thgTxt b) : a = b :=
  (thgTxt_cut (x := []) (y := []) (thgB ha) (thgB hb) (by rw [h])).1
theorem tabTxt_inj' : ∀ {la bs : List Thg} {i : Nat}, i + la.length ≤ 99 → i + bs.length ≤ 99 → (∀ t ∈ la, thgOk t = true) → (∀ t ∈ bs, thgOk t = true) → tabTxtFrom i la = tabTxtFrom i bs → la = bs
  | [], [], i, _, _, _, _, _ => rfl
  | [], b :: bs, i, _, _, _, _, h => by simp [tabTxtFrom] at h
  | a :: la, [], i, _, _, _, _, h => by simp [tabTxtFrom] at h
  | a :: la, b :: bs, i, hi, hj, ha, hb, h => by
    simp only [tabTxtFrom, List.append_assoc, List.cons_append] at h
    simp only [List.length_cons] at hi hj
    have h1 := List.append_cancel_left h
    obtain ⟨h2, h3⟩ := thgTxt_cut (thgB (ha a (by simp))) (thgB (hb b (by simp))) (List.cons.inj h1).2
    rw [h2, tabTxt_inj' (i := i + 1) (by omega) (by omega) (fun t ht => ha t (by simp [ht])) (fun t ht => hb t (by simp [ht])) h3]
theorem tabTxt_inj {la bs : List Thg} (h1 : la.length ≤ 9) (h2 : bs.length ≤ 9) (ha : ∀ t ∈ la, thgOk t = true) (hb : ∀ t ∈ bs, thgOk t = true) (h : tabTxt la = tabTxt bs) : la = bs :=
  tabTxt_inj' (by omega) (by omega) ha hb h
end Drw

/-! ## Texts as the model has them -/
namespace Drw
open Go Go.RowKit
def bs (l : List UInt8) : ByteArray := ⟨l.toArray⟩
theorem bs_size (l : List UInt8) : (bs l).size = l.length := by simp [bs, ByteArray.size]
theorem bs_append (a b : List UInt8) : bs a ++ bs b = bs (a ++ b) := ByteArray.mk_append_mk a b
theorem bs_inj {a b : List UInt8} (h : bs a = bs b) : a = b := by
  have := congrArg (fun x : ByteArray => x.data.toList) h
  simpa [bs] using this
theorem bs_toList (l : List UInt8) : (bs l).toList = l := by rw [ByteArray.toList_eq]; simp [bs]
/-- Two texts, one behind the other, are a text: as an equation that the walk takes. -/
theorem add_ex (P : Program) {s t : ByteArray} {x y : List UInt8} (hs : s = bs x) (ht : t = bs y) (h : x.length + y.length ≤ 100000) : ∃ u, u = bs (x ++ y) ∧ ∀ w : World, (Op.stringOp .add s t).run P w = .ok (.string u) w := by
  subst hs; subst ht
  exact ⟨_, rfl, fun w => by rw [run_string_add_sum w _ _ (by rw [bs_size, bs_size]; omega), bs_append]⟩
theorem dec_len (n : Int) : (dec n).length ≤ 2 := by unfold dec; split <;> (try split) <;> simp
end Drw

/- The reference's texts of numbers, labels, rights and things. Conditions: what is told lies where its cells say, and is in its bounds. -/
namespace Go.Proofs.YtiolplhgpodifaaGreat
open Go.RowKit Drw
attribute [local go_sem] Lab.val Rgt.val Cal.val Thg.val

theorem byte_one (n : Int) (h0 : 0 ≤ n) (h9 : n ≤ 9) (W : World) : (convert 22 9 (.slice (some ⟨W.heap.size, 0, none⟩) 1 1)).run Tryz.prog (W.alloc (.cells #[.int .u8 (48 + n)] 5)) = .ok (.string (bs [dig n])) (W.alloc (.cells #[.int .u8 (48 + n)] 5)) := by
  have hd : ((dig n).toNat : Int) = 48 + n := by have := dig_inv h0 h9; omega
  refine run_convert_bytes_back _ _ _ 5 ⟨W.heap.size, 0, none⟩ 1 [dig n] Tryz.underlying22 Tryz.underlying5 Tryz.underlying9 (fun j hj => ?_)
  obtain rfl : j = 0 := by simpa using hj
  simp [go_sem, hd]

/-- A slice of one byte. -/
def ByteAt (w : World) (v : Value) (x : Int) : Prop := ∃ b, v = .slice (some ⟨b, 0, none⟩) 1 1 ∧ b < w.heap.size ∧ w.cell? ⟨b, 0, none⟩ = some (.int .u8 x)
theorem ByteAt.ext {w w' : World} {v : Value} {x : Int} (h : ByteAt w v x) (hg : Below w.heap.size w w') : ByteAt w' v x := by
  obtain ⟨b, e, hb, hc⟩ := h
  exact ⟨b, e, Nat.lt_of_lt_of_le hb hg.size, ((bcell hg).1 _ _ hb).trans hc⟩
theorem ByteAt.made (w : World) (x : Int) (t : TypeId) : ByteAt (w.alloc (.cells #[.int .u8 x] t)) (.slice (some ⟨w.heap.size, 0, none⟩) 1 1) x :=
  ⟨_, rfl, by simp, by simp [go_sem]⟩
theorem byte_at (n : Int) (h0 : 0 ≤ n) (h9 : n ≤ 9) (W : World) (b : Nat) (hc : W.cell? ⟨b, 0, none⟩ = some (.int .u8 (48 + n))) : (convert 22 9 (.slice (some ⟨b, 0, none⟩) 1 1)).run Tryz.prog W = .ok (.string (bs [dig n])) W := by
  have hd : ((dig n).toNat : Int) = 48 + n := by have := dig_inv h0 h9; omega
  refine run_convert_bytes_back _ _ _ 5 ⟨b, 0, none⟩ 1 [dig n] Tryz.underlying22 Tryz.underlying5 Tryz.underlying9 (fun j hj => ?_)
  obtain rfl : j = 0 := by simpa using hj
  simp [go_sem, hd, hc]

set_option maxRecDepth 100000 in
set_option maxHeartbeats 4000000 in
theorem l6Dec_1 {n : Int} {w : World} (h0 : 0 ≤ n) (h9 : n ≤ 9) :
    Calls Tryz.prog 107 #[.int .i64 n] w fun e w' => e = .returned (.string (bs (dec n))) ∧ Below w.heap.size w w' := by
  have h1 : ¬ n < -9223372036854775807 := by omega
  have h2 : ¬ n < 0 := by omega
  have h3 : n < 10 := by omega
  have h4 : IntKind.i64.wrap (48 + n) = 48 + n := IntWalk.i64_in _ (by omega)
  have h5 : IntKind.u8.wrap (48 + n) = 48 + n := by simp [IntKind.wrap, IntKind.bits]; omega
  have hcv := byte_one n h0 h9 w
  have Hd := Lib.hid (show dec n = [dig n] by simp [dec, h2, h3])
  go_enter Tryz.func107, Tryz.ntmps107
  go_wp2
  go_ret
  rw [Hd.out]
  exact ⟨rfl, (by (repeat (with_reducible first | exact Below.refl _ _ | refine Below.alloc ?_ ?_ _ | refine below_drewN ?_ _ | refine Below.drew ?_ | refine Below.setCell ?_ ?_ _ | refine Below.trans ?_ (Below.mono (by assumption) ?_))) <;> (first | omega | (simp; try omega)))⟩

structure DecI (n q r : Int) (u : ByteArray) (w0 : World) (d : Nat → Bool) (w : World) (v2 v18 v19 v20 v21 v22 v23 v24 v25 v26 v27 : Value) : Prop where
  chg : Below w0.heap.size w0 w
  p0 : d 0 = true → v18 = .int .i64 n
  p1 : d 1 = true → v19 = .int .i64 q
  p2 : d 2 = true → v20 = .string (bs (dec q))
  p3 : d 3 = true → v21 = .int .i64 n
  p4 : d 4 = true → v22 = .int .i64 r
  p5 : d 5 = true → v23 = .int .i64 (48 + r)
  p6 : d 6 = true → v24 = .int .u8 (48 + r)
  p7 : d 7 = true → ByteAt w v25 (48 + r)
  p8 : d 8 = true → v26 = .string (bs [dig r])
  p9 : d 9 = true → v27 = .string u
  p10 : d 10 = true → v2 = .string u

set_option maxRecDepth 100000 in
set_option maxHeartbeats 4000000 in
theorem l6Dec_2 {n : Int} {w : World} (h0 : 10 ≤ n) (h9 : n ≤ 99) :
    Calls Tryz.prog 107 #[.int .i64 n] w fun e w' => e = .returned (.string (bs (dec n))) ∧ Below w.heap.size w w' := by
  have h1 : ¬ n < -9223372036854775807 := by omega
  have h2 : ¬ n < 0 := by omega
  have h3 : ¬ n < 10 := by omega
  obtain ⟨q, hq⟩ : ∃ q, n / 10 = q := ⟨_, rfl⟩
  obtain ⟨r, hr⟩ : ∃ r, n % 10 = r := ⟨_, rfl⟩
  have t1 : n.tdiv 10 = q := by rw [Int.tdiv_eq_ediv_of_nonneg (by omega)]; exact hq
  have t2 : n.tmod 10 = r := by rw [Int.tmod_eq_emod_of_nonneg (by omega)]; exact hr
  have hr0 : 0 ≤ r := by omega
  have hr9 : r ≤ 9 := by omega
  have h4 : IntKind.i64.wrap (48 + r) = 48 + r := IntWalk.i64_in _ (by omega)
  have h5 : IntKind.u8.wrap (48 + r) = 48 + r := by simp [IntKind.wrap, IntKind.bits]; omega
  have h6 : IntKind.i64.wrap q = q := IntWalk.i64_in _ (by omega)
  have hq0 : 0 ≤ q := by omega
  have hq9 : q ≤ 9 := by omega
  have Hd := Lib.hid (show dec n = dec q ++ [dig r] by simp [dec, h2, h3, hq, hr, show ¬ q < 0 by omega, show q < 10 by omega])
  obtain ⟨u, hu, ha⟩ := add_ex Tryz.prog (s := bs (dec q)) (t := bs [dig r]) rfl rfl (by have := dec_len q; simp; omega)
  have Hu := Lib.hid hu
  clear hq hr hu
  go_enter Tryz.func107, Tryz.ntmps107
  go_upto_region 7 with (fail)
  go_cut [2] (fun s2 wz => s2 = .string u ∧ Below w.heap.size w wz)
  case first =>
    refine wp_region_inv (fun d a w' => ∃ v2 v18 v19 v20 v21 v22 v23 v24 v25 v26 v27, a = { tmps := #[.int .i64 n, undef, v2, .int .i64 n, .bool false, .int .i64 n, .bool false, undef, undef, undef, undef, .int .i64 n, .bool false, undef, undef, undef, undef, undef, v18, v19, v20, v21, v22, v23, v24, v25, v26, v27], defers := [] } ∧ DecI n q r u w d w' v2 v18 v19 v20 v21 v22 v23 v24 v25 v26 v27) (by kernel_rfl) (by kernel_rfl) ?_ ?_ ?_
    · refine ⟨_, _, _, _, _, _, _, _, _, _, _, rfl, ?_⟩
      constructor
      · exact Below.drew (Below.refl _ _)
      all_goals (intro hj; exact absurd hj (by decide))
    · refine ⟨?_, ?_, ?_, ?_, ?_, ?_, ?_, ?_, ?_, ?_, ?_, trivial⟩
      · rintro d a w' hd hdep ⟨v2, v18, v19, v20, v21, v22, v23, v24, v25, v26, v27, rfl, H⟩ K hK
        clear hdep
        go_simp
        have hg : Below w'.heap.size w' w' := Below.refl _ _
        refine hK _ _ ⟨_, _, _, _, _, _, _, _, _, _, _, rfl, ?_⟩
        constructor
        · exact H.chg.trans (hg.mono H.chg.size)
        · intro _; exact rfl
        · intro hj; have h := H.p1 (by simpa using hj); exact h
        · intro hj; have h := H.p2 (by simpa using hj); exact h
        · intro hj; have h := H.p3 (by simpa using hj); exact h
        · intro hj; have h := H.p4 (by simpa using hj); exact h
        · intro hj; have h := H.p5 (by simpa using hj); exact h
        · intro hj; have h := H.p6 (by simpa using hj); exact h
        · intro hj; have h := H.p7 (by simpa using hj); exact h.ext hg
        · intro hj; have h := H.p8 (by simpa using hj); exact h
        · intro hj; have h := H.p9 (by simpa using hj); exact h
        · intro hj; have h := H.p10 (by simpa using hj); exact h
      · rintro d a w' hd hdep ⟨v2, v18, v19, v20, v21, v22, v23, v24, v25, v26, v27, rfl, H⟩ K hK
        have d0 : d 0 = true := hdep ⟨0, .data⟩ (by simp) rfl
        clear hdep
        have e0 := H.p0 d0
        subst e0
        go_simp
        have hg : Below w'.heap.size w' w' := Below.refl _ _
        refine hK _ _ ⟨_, _, _, _, _, _, _, _, _, _, _, rfl, ?_⟩
        constructor
        · exact H.chg.trans (hg.mono H.chg.size)
        · intro hj; have h := H.p0 (by simpa using hj); exact h
        · intro _; exact rfl
        · intro hj; have h := H.p2 (by simpa using hj); exact h
        · intro hj; have h := H.p3 (by simpa using hj); exact h
        · intro hj; have h := H.p4 (by simpa using hj); exact h
        · intro hj; have h := H.p5 (by simpa using hj); exact h
        · intro hj; have h := H.p6 (by simpa using hj); exact h
        · intro hj; have h := H.p7 (by simpa using hj); exact h.ext hg
        · intro hj; have h := H.p8 (by simpa using hj); exact h
        · intro hj; have h := H.p9 (by simpa using hj); exact h
        · intro hj; have h := H.p10 (by simpa using hj); exact h
      · rintro d a w' hd hdep ⟨v2, v18, v19, v20, v21, v22, v23, v24, v25, v26, v27, rfl, H⟩ K hK
        have d1 : d 1 = true := hdep ⟨1, .data⟩ (by simp) rfl
        clear hdep
        have e1 := H.p1 d1
        subst e1
        go_simp
        go_at_call 107
        refine (l6Dec_1 hq0 hq9).mono ?_
        rintro e w'' ⟨rfl, hg⟩
        refine hK _ _ ⟨_, _, _, _, _, _, _, _, _, _, _, rfl, ?_⟩
        constructor
        · exact H.chg.trans (hg.mono H.chg.size)
        · intro hj; have h := H.p0 (by simpa using hj); exact h
        · intro hj; have h := H.p1 (by simpa using hj); exact h
        · intro _; exact rfl
        · intro hj; have h := H.p3 (by simpa using hj); exact h
        · intro hj; have h := H.p4 (by simpa using hj); exact h
        · intro hj; have h := H.p5 (by simpa using hj); exact h
        · intro hj; have h := H.p6 (by simpa using hj); exact h
        · intro hj; have h := H.p7 (by simpa using hj); exact h.ext hg
        · intro hj; have h := H.p8 (by simpa using hj); exact h
        · intro hj; have h := H.p9 (by simpa using hj); exact h
        · intro hj; have h := H.p10 (by simpa using hj); exact h
      · rintro d a w' hd hdep ⟨v2, v18, v19, v20, v21, v22, v23, v24, v25, v26, v27, rfl, H⟩ K hK
        clear hdep
        go_simp
        have hg : Below w'.heap.size w' w' := Below.refl _ _
        refine hK _ _ ⟨_, _, _, _, _, _, _, _, _, _, _, rfl, ?_⟩
        constructor
        · exact H.chg.trans (hg.mono H.chg.size)
        · intro hj; have h := H.p0 (by simpa using hj); exact h
        · intro hj; have h := H.p1 (by simpa using hj); exact h
        · intro hj; have h := H.p2 (by simpa using hj); exact h
        · intro _; exact rfl
        · intro hj; have h := H.p4 (by simpa using hj); exact h
        · intro hj; have h := H.p5 (by simpa using hj); exact h
        · intro hj; have h := H.p6 (by simpa using hj); exact h
        · intro hj; have h := H.p7 (by simpa using hj); exact h.ext hg
        · intro hj; have h := H.p8 (by simpa using hj); exact h
        · intro hj; have h := H.p9 (by simpa using hj); exact h
        · intro hj; have h := H.p10 (by simpa using hj); exact h
      · rintro d a w' hd hdep ⟨v2, v18, v19, v20, v21, v22, v23, v24, v25, v26, v27, rfl, H⟩ K hK
        have d3 : d 3 = true := hdep ⟨3, .data⟩ (by simp) rfl
        clear hdep
        have e3 := H.p3 d3
        subst e3
        go_simp
        have hg : Below w'.heap.size w' w' := Below.refl _ _
        refine hK _ _ ⟨_, _, _, _, _, _, _, _, _, _, _, rfl, ?_⟩
        constructor
        · exact H.chg.trans (hg.mono H.chg.size)
        · intro hj; have h := H.p0 (by simpa using hj); exact h
        · intro hj; have h := H.p1 (by simpa using hj); exact h
        · intro hj; have h := H.p2 (by simpa using hj); exact h
        · intro hj; have h := H.p3 (by simpa using hj); exact h
        · intro _; exact rfl
        · intro hj; have h := H.p5 (by simpa using hj); exact h
        · intro hj; have h := H.p6 (by simpa using hj); exact h
        · intro hj; have h := H.p7 (by simpa using hj); exact h.ext hg
        · intro hj; have h := H.p8 (by simpa using hj); exact h
        · intro hj; have h := H.p9 (by simpa using hj); exact h
        · intro hj; have h := H.p10 (by simpa using hj); exact h
      · rintro d a w' hd hdep ⟨v2, v18, v19, v20, v21, v22, v23, v24, v25, v26, v27, rfl, H⟩ K hK
        have d4 : d 4 = true := hdep ⟨4, .data⟩ (by simp) rfl
        clear hdep
        have e4 := H.p4 d4
        subst e4
        go_simp
        have hg : Below w'.heap.size w' w' := Below.refl _ _
        refine hK _ _ ⟨_, _, _, _, _, _, _, _, _, _, _, rfl, ?_⟩
        constructor
        · exact H.chg.trans (hg.mono H.chg.size)
        · intro hj; have h := H.p0 (by simpa using hj); exact h
        · intro hj; have h := H.p1 (by simpa using hj); exact h
        · intro hj; have h := H.p2 (by simpa using hj); exact h
        · intro hj; have h := H.p3 (by simpa using hj); exact h
        · intro hj; have h := H.p4 (by simpa using hj); exact h
        · intro _; exact rfl
        · intro hj; have h := H.p6 (by simpa using hj); exact h
        · intro hj; have h := H.p7 (by simpa using hj); exact h.ext hg
        · intro hj; have h := H.p8 (by simpa using hj); exact h
        · intro hj; have h := H.p9 (by simpa using hj); exact h
        · intro hj; have h := H.p10 (by simpa using hj); exact h
      · rintro d a w' hd hdep ⟨v2, v18, v19, v20, v21, v22, v23, v24, v25, v26, v27, rfl, H⟩ K hK
        have d5 : d 5 = true := hdep ⟨5, .data⟩ (by simp) rfl
        clear hdep
        have e5 := H.p5 d5
        subst e5
        go_simp
        have hg : Below w'.heap.size w' w' := Below.refl _ _
        refine hK _ _ ⟨_, _, _, _, _, _, _, _, _, _, _, rfl, ?_⟩
        constructor
        · exact H.chg.trans (hg.mono H.chg.size)
        · intro hj; have h := H.p0 (by simpa using hj); exact h
        · intro hj; have h := H.p1 (by simpa using hj); exact h
        · intro hj; have h := H.p2 (by simpa using hj); exact h
        · intro hj; have h := H.p3 (by simpa using hj); exact h
        · intro hj; have h := H.p4 (by simpa using hj); exact h
        · intro hj; have h := H.p5 (by simpa using hj); exact h
        · intro _; exact rfl
        · intro hj; have h := H.p7 (by simpa using hj); exact h.ext hg
        · intro hj; have h := H.p8 (by simpa using hj); exact h
        · intro hj; have h := H.p9 (by simpa using hj); exact h
        · intro hj; have h := H.p10 (by simpa using hj); exact h
      · rintro d a w' hd hdep ⟨v2, v18, v19, v20, v21, v22, v23, v24, v25, v26, v27, rfl, H⟩ K hK
        have d6 : d 6 = true := hdep ⟨6, .data⟩ (by simp) rfl
        clear hdep
        have e6 := H.p6 d6
        subst e6
        go_simp
        have hg : Below w'.heap.size w' (w'.alloc (.cells #[.int .u8 (48 + r)] 5)) := (by (repeat (with_reducible first | exact Below.refl _ _ | refine Below.alloc ?_ ?_ _ | refine below_drewN ?_ _ | refine Below.drew ?_ | refine Below.setCell ?_ ?_ _ | refine Below.trans ?_ (Below.mono (by assumption) ?_))) <;> (first | omega | (simp; try omega)))
        refine hK _ _ ⟨_, _, _, _, _, _, _, _, _, _, _, rfl, ?_⟩
        constructor
        · exact H.chg.trans (hg.mono H.chg.size)
        · intro hj; have h := H.p0 (by simpa using hj); exact h
        · intro hj; have h := H.p1 (by simpa using hj); exact h
        · intro hj; have h := H.p2 (by simpa using hj); exact h
        · intro hj; have h := H.p3 (by simpa using hj); exact h
        · intro hj; have h := H.p4 (by simpa using hj); exact h
        · intro hj; have h := H.p5 (by simpa using hj); exact h
        · intro hj; have h := H.p6 (by simpa using hj); exact h
        · intro _; exact ByteAt.made _ _ _
        · intro hj; have h := H.p8 (by simpa using hj); exact h
        · intro hj; have h := H.p9 (by simpa using hj); exact h
        · intro hj; have h := H.p10 (by simpa using hj); exact h
      · rintro d a w' hd hdep ⟨v2, v18, v19, v20, v21, v22, v23, v24, v25, v26, v27, rfl, H⟩ K hK
        have d7 : d 7 = true := hdep ⟨7, .data⟩ (by simp) rfl
        clear hdep
        obtain ⟨b, rfl, hb⟩ := H.p7 d7
        have hcv := byte_at r (by omega) (by omega) w' b hb.2
        go_simp
        have hg : Below w'.heap.size w' w' := Below.refl _ _
        refine hK _ _ ⟨_, _, _, _, _, _, _, _, _, _, _, rfl, ?_⟩
        constructor
        · exact H.chg.trans (hg.mono H.chg.size)
        · intro hj; have h := H.p0 (by simpa using hj); exact h
        · intro hj; have h := H.p1 (by simpa using hj); exact h
        · intro hj; have h := H.p2 (by simpa using hj); exact h
        · intro hj; have h := H.p3 (by simpa using hj); exact h
        · intro hj; have h := H.p4 (by simpa using hj); exact h
        · intro hj; have h := H.p5 (by simpa using hj); exact h
        · intro hj; have h := H.p6 (by simpa using hj); exact h
        · intro hj; have h := H.p7 (by simpa using hj); exact h.ext hg
        · intro _; exact rfl
        · intro hj; have h := H.p9 (by simpa using hj); exact h
        · intro hj; have h := H.p10 (by simpa using hj); exact h
      · rintro d a w' hd hdep ⟨v2, v18, v19, v20, v21, v22, v23, v24, v25, v26, v27, rfl, H⟩ K hK
        have d2 : d 2 = true := hdep ⟨2, .data⟩ (by simp) rfl
        have d8 : d 8 = true := hdep ⟨8, .data⟩ (by simp) rfl
        clear hdep
        have e2 := H.p2 d2
        subst e2
        have e8 := H.p8 d8
        subst e8
        go_simp
        have hg : Below w'.heap.size w' w' := Below.refl _ _
        refine hK _ _ ⟨_, _, _, _, _, _, _, _, _, _, _, rfl, ?_⟩
        constructor
        · exact H.chg.trans (hg.mono H.chg.size)
        · intro hj; have h := H.p0 (by simpa using hj); exact h
        · intro hj; have h := H.p1 (by simpa using hj); exact h
        · intro hj; have h := H.p2 (by simpa using hj); exact h
        · intro hj; have h := H.p3 (by simpa using hj); exact h
        · intro hj; have h := H.p4 (by simpa using hj); exact h
        · intro hj; have h := H.p5 (by simpa using hj); exact h
        · intro hj; have h := H.p6 (by simpa using hj); exact h
        · intro hj; have h := H.p7 (by simpa using hj); exact h.ext hg
        · intro hj; have h := H.p8 (by simpa using hj); exact h
        · intro _; exact rfl
        · intro hj; have h := H.p10 (by simpa using hj); exact h
      · rintro d a w' hd hdep ⟨v2, v18, v19, v20, v21, v22, v23, v24, v25, v26, v27, rfl, H⟩ K hK
        have d9 : d 9 = true := hdep ⟨9, .data⟩ (by simp) rfl
        clear hdep
        have e9 := H.p9 d9
        subst e9
        go_simp
        have hg : Below w'.heap.size w' w' := Below.refl _ _
        refine hK _ _ ⟨_, _, _, _, _, _, _, _, _, _, _, rfl, ?_⟩
        constructor
        · exact H.chg.trans (hg.mono H.chg.size)
        · intro hj; have h := H.p0 (by simpa using hj); exact h
        · intro hj; have h := H.p1 (by simpa using hj); exact h
        · intro hj; have h := H.p2 (by simpa using hj); exact h
        · intro hj; have h := H.p3 (by simpa using hj); exact h
        · intro hj; have h := H.p4 (by simpa using hj); exact h
        · intro hj; have h := H.p5 (by simpa using hj); exact h
        · intro hj; have h := H.p6 (by simpa using hj); exact h
        · intro hj; have h := H.p7 (by simpa using hj); exact h.ext hg
        · intro hj; have h := H.p8 (by simpa using hj); exact h
        · intro hj; have h := H.p9 (by simpa using hj); exact h
        · intro _; exact rfl
    · rintro d a w' hall ⟨v2, v18, v19, v20, v21, v22, v23, v24, v25, v26, v27, rfl, H⟩
      go_wp2
      go_meet
      exact ⟨H.p10 (hall 10 (by decide)), H.chg⟩
  case rest =>
    obtain ⟨rfl, hB⟩ := hcut
    go_wp2
    go_ret
    exact ⟨by rw [Hu.out, Hd.out]; rfl, hB⟩

set_option maxRecDepth 100000 in
set_option maxHeartbeats 4000000 in
theorem l6Dec_n {n : Int} {w : World} (h0 : -9 ≤ n) (h9 : n < 0) :
    Calls Tryz.prog 107 #[.int .i64 n] w fun e w' => e = .returned (.string (bs (dec n))) ∧ Below w.heap.size w w' := by
  have h1 : ¬ n < -9223372036854775807 := by omega
  have h6 : IntKind.i64.wrap (-n) = -n := IntWalk.i64_in _ (by omega)
  have hm0 : 0 ≤ -n := by omega
  have hm9 : -n ≤ 9 := by omega
  have Hd := Lib.hid (show dec n = [45] ++ dec (-n) by unfold dec; rw [if_pos h9, if_neg (show ¬ (-n) < 0 by omega), if_pos (show (-n) < 10 by omega)]; rfl)
  obtain ⟨u, hu, ha⟩ := add_ex Tryz.prog (s := ⟨#[45]⟩) (t := bs (dec (-n))) (show _ = bs [45] from rfl) rfl (by have := dec_len (-n); simp; omega)
  have Hu := Lib.hid hu
  clear hu
  go_enter Tryz.func107, Tryz.ntmps107
  go_wp2_with (first | (go_at_call 107; refine (l6Dec_1 hm0 hm9).mono ?_; rintro e w1 ⟨rfl, hb1⟩))
  go_ret
  exact ⟨by rw [Hu.out, Hd.out]; rfl, (by (repeat (with_reducible first | exact Below.refl _ _ | refine Below.alloc ?_ ?_ _ | refine below_drewN ?_ _ | refine Below.drew ?_ | refine Below.setCell ?_ ?_ _ | refine Below.trans ?_ (Below.mono (by assumption) ?_))) <;> (first | omega | (simp; try omega)))⟩

theorem l6Dec_c {n : Int} {w : World} (h0 : -4 ≤ n) (h9 : n ≤ 99) :
    Calls Tryz.prog 107 #[.int .i64 n] w fun e w' => e = .returned (.string (bs (dec n))) ∧ Below w.heap.size w w' := by
  by_cases h1 : n < 0
  · exact l6Dec_n (by omega) h1
  · by_cases h2 : n ≤ 9
    · exact l6Dec_1 (by omega) h2
    · exact l6Dec_2 (by omega) h9

theorem l2Flag_c {b : Bool} {s : ByteArray} {w : World} :
    Calls Tryz.prog 108 #[.bool b, .string s] w fun e w' => e = .returned (.string (if b then s else bs [45])) ∧ Below w.heap.size w w' := by
  cases b
  · go_enter Tryz.func108, Tryz.ntmps108
    go_wp2
    go_ret
    exact ⟨rfl, (by (repeat (with_reducible first | exact Below.refl _ _ | refine Below.alloc ?_ ?_ _ | refine below_drewN ?_ _ | refine Below.drew ?_ | refine Below.setCell ?_ ?_ _ | refine Below.trans ?_ (Below.mono (by assumption) ?_))) <;> (first | omega | (simp; try omega)))⟩
  · go_enter Tryz.func108, Tryz.ntmps108
    go_wp2
    go_ret
    exact ⟨rfl, (by (repeat (with_reducible first | exact Below.refl _ _ | refine Below.alloc ?_ ?_ _ | refine below_drewN ?_ _ | refine Below.drew ?_ | refine Below.setCell ?_ ?_ _ | refine Below.trans ?_ (Below.mono (by assumption) ?_))) <;> (first | omega | (simp; try omega)))⟩
theorem flag_t {b : Bool} {c : UInt8} {w : World} :
    Calls Tryz.prog 108 #[.bool b, .string ⟨#[c]⟩] w fun e w' => e = .returned (.string (bs [flagB b c])) ∧ Below w.heap.size w w' :=
  (l2Flag_c (b := b) (s := ⟨#[c]⟩) (w := w)).mono fun e w' ⟨h1, h2⟩ => ⟨by rw [h1]; cases b <;> rfl, h2⟩
theorem dec_dig {n : Int} (h0 : 0 ≤ n) (h9 : n ≤ 9) : dec n = [dig n] := by unfold dec; rw [if_neg (by omega), if_pos (by omega)]

set_option maxRecDepth 100000 in
set_option maxHeartbeats 4000000 in
theorem rightText_c (r : Rgt) (w : World) (hr : rgtOk r = true) :
    Calls Tryz.prog 98 #[r.val] w fun e w' => e = .returned (.string (bs (rgtTxt r))) ∧ Below w.heap.size w w' := by
  have Hr := Lib.hid hr
  obtain ⟨a, b, c, d, f⟩ := r
  by_cases h0 : a = 0
  · subst h0
    have Ht := Lib.hid (show rgtTxt ⟨0, b, c, d, f⟩ = [45] from rfl)
    clear hr
    go_enter Tryz.func98, Tryz.ntmps98
    go_wp2_with (first | (go_at_call 72; refine (srightOk_c ⟨0, b, c, d, f⟩ _).mono ?_; rintro e w1 ⟨rfl, hb1⟩; rw [Hr.out]; obtain ⟨hc1, hf1⟩ := bcell hb1; have hz1 : w.heap.size < w1.heap.size := (by have := hb1.size; simp at this; omega)))
    go_ret
    exact ⟨rfl, (by (repeat (with_reducible first | exact Below.refl _ _ | refine Below.alloc ?_ ?_ _ | refine below_drewN ?_ _ | refine Below.drew ?_ | refine Below.setCell ?_ ?_ _ | refine Below.trans ?_ (Below.mono (by assumption) ?_))) <;> (first | omega | (simp; try omega)))⟩
  · obtain ⟨x1, x2, x3, x4⟩ := rgt_bounds hr h0
    dsimp only at x1 x2 x3 x4
    have a1 : -4 ≤ a := by omega
    have a2 : a ≤ 99 := by omega
    have b1 : -4 ≤ b := by omega
    have b2 : b ≤ 99 := by omega
    have Ht := Lib.hid (show rgtTxt ⟨a, b, c, d, f⟩ = ((((dec a ++ [46]) ++ dec b) ++ [flagB c 114]) ++ [flagB d 119]) ++ [flagB f 107] by simp [rgtTxt, h0, dec_dig (show 0 ≤ a by omega) (by omega), dec_dig x3 (by omega)])
    have la := dec_len a
    have lb := dec_len b
    obtain ⟨u1, e1, c1⟩ := add_ex Tryz.prog (s := bs (dec a)) (t := ⟨#[46]⟩) rfl (show _ = bs [46] from rfl) (by simp; omega)
    obtain ⟨u2, e2, c2⟩ := add_ex Tryz.prog e1 (show bs (dec b) = _ from rfl) (by simp; omega)
    obtain ⟨u3, e3, c3⟩ := add_ex Tryz.prog e2 (show bs [flagB c 114] = _ from rfl) (by simp; omega)
    obtain ⟨u4, e4, c4⟩ := add_ex Tryz.prog e3 (show bs [flagB d 119] = _ from rfl) (by simp; omega)
    obtain ⟨u5, e5, c5⟩ := add_ex Tryz.prog e4 (show bs [flagB f 107] = _ from rfl) (by simp; omega)
    have E5 := Lib.hid e5
    clear e1 e2 e3 e4 e5 la lb hr x1 x2 x3 x4
    go_enter Tryz.func98, Tryz.ntmps98
    go_upto_region 5 with (first | (go_at_call 72; refine (srightOk_c ⟨a, b, c, d, f⟩ _).mono ?_; rintro e w1 ⟨rfl, hb1⟩; rw [Hr.out]; obtain ⟨hc1, hf1⟩ := bcell hb1; have hz1 : w.heap.size < w1.heap.size := (by have := hb1.size; simp at this; omega)))
    have hB1 : Below w.heap.size w w1 := (by (repeat (with_reducible first | exact Below.refl _ _ | refine Below.alloc ?_ ?_ _ | refine below_drewN ?_ _ | refine Below.drew ?_ | refine Below.setCell ?_ ?_ _ | refine Below.trans ?_ (Below.mono (by assumption) ?_))) <;> (first | omega | (simp; try omega)))
    have g0 : w1.cell? ⟨w.heap.size, 0, none⟩ = some (.int .i64 a) := by rw [hc1 _ _ (by simp)]; simp [go_sem]
    have g1 : w1.cell? ⟨w.heap.size, 1, none⟩ = some (.int .i64 b) := by rw [hc1 _ _ (by simp)]; simp [go_sem]
    have g2 : w1.cell? ⟨w.heap.size, 2, none⟩ = some (.bool c) := by rw [hc1 _ _ (by simp)]; simp [go_sem]
    have g3 : w1.cell? ⟨w.heap.size, 3, none⟩ = some (.bool d) := by rw [hc1 _ _ (by simp)]; simp [go_sem]
    have g4 : w1.cell? ⟨w.heap.size, 4, none⟩ = some (.bool f) := by rw [hc1 _ _ (by simp)]; simp [go_sem]
    have HS := Lib.hid (show ∀ w' : World, Below w1.heap.size w1 w' → (Below w1.heap.size w1 w' ∧ w'.cell? ⟨w.heap.size, 0, none⟩ = some (.int .i64 a) ∧ w'.cell? ⟨w.heap.size, 1, none⟩ = some (.int .i64 b) ∧ w'.cell? ⟨w.heap.size, 2, none⟩ = some (.bool c) ∧ w'.cell? ⟨w.heap.size, 3, none⟩ = some (.bool d) ∧ w'.cell? ⟨w.heap.size, 4, none⟩ = some (.bool f)) from fun w' h => by
      obtain ⟨hc', -⟩ := bcell h
      exact ⟨h, (hc' _ _ hz1).trans g0, (hc' _ _ hz1).trans g1, (hc' _ _ hz1).trans g2, (hc' _ _ hz1).trans g3, (hc' _ _ hz1).trans g4⟩)
    clear hb1 hc1 hf1
    first | (go_region_held3 (fun w' => Below w1.heap.size w1 w' ∧ w'.cell? ⟨w.heap.size, 0, none⟩ = some (.int .i64 a) ∧ w'.cell? ⟨w.heap.size, 1, none⟩ = some (.int .i64 b) ∧ w'.cell? ⟨w.heap.size, 2, none⟩ = some (.bool c) ∧ w'.cell? ⟨w.heap.size, 3, none⟩ = some (.bool d) ∧ w'.cell? ⟨w.heap.size, 4, none⟩ = some (.bool f))
      (first | assumption | exact HS.out _ (Below.refl _ _) | exact HS.out _ (Below.drew (Below.refl _ _)) | (have hX := And.left (by assumption : Below w1.heap.size w1 _ ∧ _); exact HS.out _ (hX.trans (hb3.mono hX.size))))
      (first
        | (go_at_call 107; with_reducible refine (l6Dec_c a1 a2).mono ?_; rintro e w3 ⟨rfl, hb3⟩)
        | (go_at_call 107; with_reducible refine (l6Dec_c b1 b2).mono ?_; rintro e w3 ⟨rfl, hb3⟩)
        | (go_at_call 108; with_reducible refine flag_t.mono ?_; rintro e w3 ⟨rfl, hb3⟩))) | fail
    all_goals go_wp2
    all_goals go_ret
    all_goals exact ⟨by rw [Ht.out, ← E5.out]; rfl, hB1.trans (Below.mono (And.left (by assumption : Below w1.heap.size w1 _ ∧ _)) hB1.size)⟩
theorem rightText_t {r : Rgt} {w : World} (hr : rgtOk r = true) :
    Calls Tryz.prog 98 #[r.val] w fun e w' => e = .returned (.string (bs (rgtTxt r))) ∧ Below w.heap.size w w' := rightText_c r w hr

end Go.Proofs.YtiolplhgpodifaaGreat
