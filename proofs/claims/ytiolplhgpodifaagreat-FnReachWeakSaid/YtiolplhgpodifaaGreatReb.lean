/- Plain theory of what things can come to have: the closure of what they hold; what is above what; what calls leave of it. Conditions: none. -/
import Derived.Test.YtiolplhgpodifaaGreatRun
set_option linter.unusedVariables false
set_option linter.unusedSimpArgs false
namespace Drw
open Go Go.RowKit

/-! ## What is contained -/
theorem rgtIn1_trans {a b c : Rgt} (h : rgtIn1 a b = true) (k : rgtIn1 b c = true) (hb : b.thing ≠ 0) : rgtIn1 a c = true := by
  obtain ⟨a1, a2, a3, a4, a5⟩ := a
  obtain ⟨b1, b2, b3, b4, b5⟩ := b
  obtain ⟨c1, c2, c3, c4, c5⟩ := c
  simp only [rgtIn1, Bool.or_eq_true, Bool.and_eq_true, beq_iff_eq, Bool.not_eq_true'] at h k hb ⊢
  rcases h with h | ⟨⟨⟨⟨rfl, rfl⟩, h3⟩, h4⟩, h5⟩
  · exact .inl h
  · rcases k with k | ⟨⟨⟨⟨rfl, rfl⟩, k3⟩, k4⟩, k5⟩
    · exact absurd k hb
    · right
      refine ⟨⟨⟨⟨rfl, rfl⟩, ?_⟩, ?_⟩, ?_⟩
      · rcases h3 with h3 | h3 <;> rcases k3 with k3 | k3 <;> simp_all
      · rcases h4 with h4 | h4 <;> rcases k4 with k4 | k4 <;> simp_all
      · rcases h5 with h5 | h5 <;> rcases k5 with k5 | k5 <;> simp_all
theorem rgtIn1_anti {a b : Rgt} (h : rgtIn1 a b = true) (k : rgtIn1 b a = true) (ha : a.thing ≠ 0) (hb : b.thing ≠ 0) : a = b := by
  obtain ⟨a1, a2, a3, a4, a5⟩ := a
  obtain ⟨b1, b2, b3, b4, b5⟩ := b
  simp only [rgtIn1, Bool.or_eq_true, Bool.and_eq_true, beq_iff_eq, Bool.not_eq_true'] at h k ha hb
  rcases h with h | ⟨⟨⟨⟨rfl, rfl⟩, h3⟩, h4⟩, h5⟩
  · exact absurd h ha
  · rcases k with k | ⟨⟨⟨⟨-, -⟩, k3⟩, k4⟩, k5⟩
    · exact absurd k hb
    · revert h3 h4 h5 k3 k4 k5
      cases a3 <;> cases a4 <;> cases a5 <;> cases b3 <;> cases b4 <;> cases b5 <;> simp
theorem rgtIn1_thing {a b : Rgt} (h : rgtIn1 a b = true) (ha : a.thing ≠ 0) : b.thing = a.thing ∧ b.vers = a.vers ∧ (a.rd = true → b.rd = true) ∧ (a.wr = true → b.wr = true) ∧ (b.wk = true → a.wk = true) := by
  simp only [rgtIn1, Bool.or_eq_true, Bool.and_eq_true, beq_iff_eq, Bool.not_eq_true'] at h
  rcases h with h | ⟨⟨⟨⟨h1, h2⟩, h3⟩, h4⟩, h5⟩
  · exact absurd h ha
  · refine ⟨h1.symm, h2.symm, ?_, ?_, ?_⟩
    · intro e; rcases h3 with h3 | h3 <;> simp_all
    · intro e; rcases h4 with h4 | h4 <;> simp_all
    · intro e; rcases h5 with h5 | h5 <;> simp_all

/-- What is fetched by a right. -/
def fet (b r : Rgt) : Rgt := if b.wk then less1 r true false false else r
theorem less1_thing (r : Rgt) (rd wr st : Bool) : (less1 r rd wr st).thing = r.thing := by unfold less1; split <;> rfl
theorem less1_vers (r : Rgt) (rd wr st : Bool) : (less1 r rd wr st).vers = r.vers := by unfold less1; split <;> rfl
theorem fet_thing (b r : Rgt) : (fet b r).thing = r.thing := by unfold fet; split; exact less1_thing _ _ _ _; rfl
theorem fet_ok {b r : Rgt} (h : rgtOk r = true) : rgtOk (fet b r) = true := by unfold fet; split; exact less1_ok h _ _ _; exact h
theorem fet_cap {ts : List Thg} {b r : Rgt} (h : capOk ts r = true) : capOk ts (fet b r) = true := by unfold fet; split; exact less1_cap h _ _ _; exact h
theorem fet_mono {b b' r r' : Rgt} (hb : b'.wk = true → b.wk = true) (h : rgtIn1 r r' = true) (h0 : r.thing ≠ 0) (h0' : r'.thing ≠ 0) : rgtIn1 (fet b r) (fet b' r') = true := by
  obtain ⟨b1, b2, b3, b4, b5⟩ := b
  obtain ⟨d1, d2, d3, d4, d5⟩ := b'
  obtain ⟨r1, r2, r3, r4, r5⟩ := r
  obtain ⟨s1, s2, s3, s4, s5⟩ := r'
  dsimp only at hb h0 h0'
  simp only [rgtIn1, Bool.or_eq_true, Bool.and_eq_true, beq_iff_eq, Bool.not_eq_true'] at h
  rcases h with h | ⟨⟨⟨⟨rfl, rfl⟩, h3⟩, h4⟩, h5⟩
  · exact absurd h h0
  · revert hb h3 h4 h5
    cases b5 <;> cases d5 <;> simp [fet, less1, h0, rgtIn1] <;> (cases r3 <;> cases r4 <;> cases r5 <;> cases s3 <;> cases s4 <;> cases s5 <;> simp)

/-! ## What a thing can come to have -/
inductive Got (ts : List Thg) : Int → Rgt → Prop
  | own {i : Int} {r : Rgt} (h : ex ts i = true) (hr : r ∈ (getT ts i).slots) (h0 : r.thing ≠ 0) : Got ts i r
  | fetch {i : Int} {b r : Rgt} (hk : kindAt ts i 3 = true) (hb : Got ts i b) (hn : kindAt ts b.thing 2 = true) (hl : live ts b = true) (hrd : b.rd = true) (hr : Got ts b.thing r) : Got ts i (fet b r)
  | store {i : Int} {b r : Rgt} (hk : kindAt ts i 3 = true) (hb : Got ts i b) (hn : kindAt ts b.thing 2 = true) (hl : live ts b = true) (hwr : b.wr = true) (hr : Got ts i r) : Got ts b.thing r

theorem kindAt_ex {ts : List Thg} {i k : Int} (h : kindAt ts i k = true) : ex ts i = true ∧ (getT ts i).kind = k := by
  simp only [kindAt, Bool.and_eq_true, beq_iff_eq] at h; exact h

structure GotOk (ts : List Thg) (i : Int) (r : Rgt) : Prop where
  ex : ex ts i = true
  kind : (getT ts i).kind = 2 ∨ (getT ts i).kind = 3
  ok : rgtOk r = true
  cap : capOk ts r = true
  ne : r.thing ≠ 0
theorem Got.ok {ts : List Thg} (ht : tabOk ts = true) {i : Int} {r : Rgt} (h : Got ts i r) : GotOk ts i r := by
  induction h with
  | own h hr h0 =>
    have h1 := tab_thgOk ht h
    refine ⟨h, ?_, slot_ok h1 hr, tab_caps ht h hr, h0⟩
    apply Classical.byContradiction
    intro hk
    rw [slots_none h1 hk] at hr; cases hr
  | fetch hk hb hn hl hrd hr ihb ihr => exact ⟨ihb.ex, ihb.kind, fet_ok ihr.ok, fet_cap ihr.cap, by rw [fet_thing]; exact ihr.ne⟩
  | store hk hb hn hl hwr hr ihb ihr => exact ⟨(kindAt_ex hn).1, .inl (kindAt_ex hn).2, ihr.ok, ihr.cap, ihr.ne⟩

/-- What one can come to have, or no more than that. -/
def Dn (ts : List Thg) (i : Int) (r : Rgt) : Prop := ∃ s, Got ts i s ∧ rgtIn1 r s = true

/-- What a table's things can come to have is no more than what another one's can, if what they hold is. -/
theorem Got.into {ts us : List Thg} (hts : tabOk ts = true) (hus : tabOk us = true) (hS : Same us ts) (hown : ∀ i, ex ts i = true → ∀ r ∈ (getT ts i).slots, r.thing ≠ 0 → Dn us i r) {i : Int} {r : Rgt} (h : Got ts i r) : Dn us i r := by
  have hlive : ∀ {b b' : Rgt}, rgtIn1 b b' = true → b.thing ≠ 0 → live ts b = true → capOk us b' = true → live us b' = true := by
    intro b b' h1 h0 h2 h3
    obtain ⟨e1, e2, -⟩ := rgtIn1_thing h1 h0
    simp only [live, Bool.and_eq_true, beq_iff_eq] at h2 ⊢
    simp only [capOk, Bool.or_eq_true, beq_iff_eq, Bool.and_eq_true, decide_eq_true_eq] at h3
    rw [e1, e2] at h3 ⊢
    rcases h3 with h3 | ⟨h3, h4⟩
    · exact absurd h3 h0
    · have := hS.vers _ h3
      exact ⟨h3, by omega⟩
  induction h with
  | own h hr h0 => exact hown _ h _ hr h0
  | @fetch i b r hk hb hn hl hrd hr ihb ihr =>
    obtain ⟨b', gb, lb⟩ := ihb
    obtain ⟨r', gr, lr⟩ := ihr
    have ob := hb.ok hts
    have orr := hr.ok hts
    have ob' := gb.ok hus
    obtain ⟨e1, e2, e3, e4, e5⟩ := rgtIn1_thing lb ob.ne
    refine ⟨fet b' r', .fetch (by rw [← hS.kindAt]; exact hk) gb (by rw [← hS.kindAt, e1]; exact hn) (hlive lb ob.ne hl ob'.cap) (e3 hrd) (by rw [e1]; exact gr), fet_mono e5 lr orr.ne (gr.ok hus).ne⟩
  | @store i b r hk hb hn hl hwr hr ihb ihr =>
    obtain ⟨b', gb, lb⟩ := ihb
    obtain ⟨r', gr, lr⟩ := ihr
    have ob := hb.ok hts
    have ob' := gb.ok hus
    obtain ⟨e1, e2, e3, e4, e5⟩ := rgtIn1_thing lb ob.ne
    have := Got.store (by rw [← hS.kindAt]; exact hk) gb (by rw [← hS.kindAt, e1]; exact hn) (hlive lb ob.ne hl ob'.cap) (e4 hwr) gr
    rw [e1] at this
    exact ⟨r', this, lr⟩

theorem Got.dn {ts : List Thg} {i : Int} {r : Rgt} (h : Got ts i r) : Dn ts i r := ⟨r, h, rgtIn1_refl r⟩
theorem Dn.trans {ts us : List Thg} (hus : tabOk us = true) (h : ∀ {i : Int} {r : Rgt}, Got ts i r → Dn us i r) {i : Int} {r : Rgt} (hts : tabOk ts = true) (hd : Dn ts i r) : Dn us i r := by
  obtain ⟨s, hs, hl⟩ := hd
  obtain ⟨u, hu, hl2⟩ := h hs
  exact ⟨u, hu, rgtIn1_trans hl hl2 (hs.ok hts).ne⟩

/-- One call: what things hold behind it they could come to have ahead of it. -/
theorem do2_own {ts : List Thg} {c : Cal} (h : CanB ts c) {i : Int} (hi : ex ts i = true) {y : Rgt} (hy : y ∈ (getT (do2 ts c).1 i).slots) (h0 : y.thing ≠ 0) : Dn ts i y := by
  rw [do2_slots h hi] at hy
  by_cases c0 : check1 ts c = 0
  · by_cases h3 : c.kind = 3
    · rw [do1_copy h3] at hy
      dsimp only at hy
      rw [getT_setT _ h.ex hi] at hy
      split at hy
      · rename_i e
        subst e
        rcases List.mem_or_eq_of_mem_set hy with hy | rfl
        · exact (Got.own hi hy h0).dn
        · rw [less1_thing] at h0
          exact ⟨_, .own hi h.slot h0, less1_in _ _ _⟩
      · exact (Got.own hi hy h0).dn
    · obtain ⟨z1, z2, z3, z4, -⟩ := check_zero c0 h3
      cases hl : live ts (slotOf ts c)
      · rw [do1_gone c0 h3 hl] at hy; exact (Got.own hi hy h0).dn
      · rw [do1_live c0 h3 hl] at hy
        dsimp only at hy
        have he := live_ex hl
        have ho := tab_thgOk h.tab he
        have hn := h.n
        have hslot := h.slot
        have hrun : kindAt ts c.run 3 = true := by simp [kindAt, h.ex, h.kind]
        generalize hr : slotOf ts c = r at *
        rcases kinds_of z2 h.call h3 with ⟨e, k'⟩ | ⟨e, k'⟩ | ⟨e, k'⟩ | ⟨e, k'⟩ | ⟨e, k'⟩ | ⟨e, k'⟩ | ⟨e, k'⟩ | ⟨e, k'⟩ <;> simp only [act, e, if_true, Int.reduceEq, if_false] at hy
        · exact (Got.own hi hy h0).dn
        · rw [getT_setT _ he hi] at hy
          split at hy
          · rename_i e; subst e; exact (Got.own hi hy h0).dn
          · exact (Got.own hi hy h0).dn
        · have h4 := slots_len ho (.inl k')
          have hm : getR (getT ts r.thing) (c.n % 4) ∈ (getT ts r.thing).slots := slot_mem (by omega) (by omega)
          rw [getT_setT _ h.ex hi] at hy
          split at hy
          · rename_i e2
            subst e2
            rcases List.mem_or_eq_of_mem_set hy with hy | hy
            · exact (Got.own hi hy h0).dn
            · have hy' : y = fet r (getR (getT ts r.thing) (c.n % 4)) := hy
              subst hy'
              rw [fet_thing] at h0
              have hrd := (z3 (by simp [needRd, e])).1
              exact (Got.fetch hrun (.own h.ex hslot z1) (by simp [kindAt, he, k']) hl hrd (.own he hm h0)).dn
          · exact (Got.own hi hy h0).dn
        · rw [getT_setT _ he hi] at hy
          split at hy
          · rename_i e2
            subst e2
            rcases List.mem_or_eq_of_mem_set hy with hy | rfl
            · exact (Got.own hi hy h0).dn
            · have hwr := (z4 (by simp [needWr, e])).1
              exact (Got.store hrun (.own h.ex hslot z1) (by simp [kindAt, he, k']) hl hwr (.own h.ex h.slotB h0)).dn
          · exact (Got.own hi hy h0).dn
        · split at hy
          · exact (Got.own hi hy h0).dn
          · rw [getT_setT _ he hi] at hy
            split at hy
            · rename_i e; subst e; exact (Got.own hi hy h0).dn
            · exact (Got.own hi hy h0).dn
        · split at hy
          · exact (Got.own hi hy h0).dn
          · rw [getT_setT _ he hi] at hy
            split at hy
            · rename_i e; subst e; exact (Got.own hi hy h0).dn
            · exact (Got.own hi hy h0).dn
        · have ht := gate_to h.tab he k'
          rw [getT_setT _ (by rw [ex_setT]; exact he) (by rw [ex_setT]; exact hi)] at hy
          have hx : ∀ j, ex ts j = true → (getT (setT ts (getT ts r.thing).to (setNum (c.n % 2))) j).slots = (getT ts j).slots := by
            intro j hj
            rw [getT_setT _ ht.1 hj]
            split
            · rename_i e; subst e; rfl
            · rfl
          split at hy
          · rename_i e; subst e
            have := hx _ he
            simp only [setNum] at hy
            rw [this] at hy; exact (Got.own hi hy h0).dn
          · rw [hx _ hi] at hy; exact (Got.own hi hy h0).dn
        · split at hy
          · exact (Got.own hi hy h0).dn
          · rw [getT_setT _ he hi] at hy
            split at hy
            · have := renew_slots _ _ hy
              rw [this] at h0; exact absurd rfl h0
            · exact (Got.own hi hy h0).dn
  · rw [do1_bad c0] at hy; exact (Got.own hi hy h0).dn

/-- P98, P99: behind calls nobody can come to have more. -/
theorem run_got {ts : List Thg} {cs : List Cal} (ht : tabOk ts = true) (hc : AllCan ts cs) : ∀ {i : Int} {r : Rgt}, Got (runDo ts cs).1 i r → Dn ts i r := by
  have key := runDo_inv (fun us => tabOk us = true ∧ Same ts us ∧ ∀ {i : Int} {r : Rgt}, Got us i r → Dn ts i r) cs hc ⟨ht, Same.refl _, fun h => h.dn⟩ (by
    intro us c _ hcan _ ⟨h1, h2, h3⟩
    have hf := do2_fine hcan
    refine ⟨hf.tab, h2.trans hf.same, fun hg => ?_⟩
    refine Dn.trans ht h3 h1 (Got.into hf.tab h1 hf.same (fun i hi r hr h0 => ?_) hg)
    exact do2_own hcan (by rw [← hf.same.ex]; exact hi) hr h0)
  exact fun {i r} hg => key.2.2 hg

/-! ## Other laws of what one can come to have -/
/-- P103: with a right more no less. -/
theorem Got.more {ts us : List Thg} (hS : Same ts us) (hV : ∀ i, ex ts i = true → (getT us i).vers = (getT ts i).vers) (hs : ∀ i, ex ts i = true → ∀ r ∈ (getT ts i).slots, r.thing ≠ 0 → Got us i r) {i : Int} {r : Rgt} (h : Got ts i r) : Got us i r := by
  have hl : ∀ b, live ts b = true → live us b = true := by
    intro b hb
    simp only [live, Bool.and_eq_true, beq_iff_eq] at hb ⊢
    exact ⟨by rw [hS.ex]; exact hb.1, by rw [hV _ hb.1]; exact hb.2⟩
  induction h with
  | own h hr h0 => exact hs _ h _ hr h0
  | fetch hk hb hn hlv hrd hr ihb ihr => exact .fetch (by rw [hS.kindAt]; exact hk) ihb (by rw [hS.kindAt]; exact hn) (hl _ hlv) hrd ihr
  | store hk hb hn hlv hwr hr ihb ihr => exact .store (by rw [hS.kindAt]; exact hk) ihb (by rw [hS.kindAt]; exact hn) (hl _ hlv) hwr ihr

/-- P102: by weak rights alone one never comes to write. -/
theorem Got.weak {ts : List Thg} (ht : tabOk ts = true) (hw : ∀ i, kindAt ts i 3 = true → ∀ r ∈ (getT ts i).slots, r.thing ≠ 0 → r.wk = true) {i : Int} {r : Rgt} (h : Got ts i r) : kindAt ts i 3 = true → r.wk = true := by
  induction h with
  | own h hr h0 => exact fun hk => hw _ hk _ hr h0
  | @fetch i b r hk hb hn hl hrd hr ihb ihr =>
    intro _
    have h1 := (hr.ok ht).ne
    simp [fet, ihb hk, less1, h1]
  | @store i b r hk hb hn hl hwr hr ihb ihr =>
    intro h3
    have := (kindAt_ex hn).2
    rw [(kindAt_ex h3).2] at this
    cases this
theorem weak_noWr {r : Rgt} (h : rgtOk r = true) (h0 : r.thing ≠ 0) (hw : r.wk = true) : r.wr = false := by
  simp only [rgtOk, if_neg h0, Bool.and_eq_true, Bool.not_eq_true', Bool.and_eq_false_iff] at h
  rcases h.2 with h | h
  · rw [hw] at h; cases h
  · exact h

/-- P106: who has no right to any node has just its own. -/
theorem Got.apart {ts : List Thg} (ht : tabOk ts = true) {j : Int} (hj : kindAt ts j 3 = true) (hno : ∀ r ∈ (getT ts j).slots, r.thing ≠ 0 → (getT ts r.thing).kind ≠ 2) {i : Int} {r : Rgt} (h : Got ts i r) : i = j → r ∈ (getT ts j).slots := by
  induction h with
  | own h hr h0 => rintro rfl; exact hr
  | @fetch i b r hk hb hn hl hrd hr ihb ihr =>
    rintro rfl
    exact absurd (kindAt_ex hn).2 (hno _ (ihb rfl) (hb.ok ht).ne)
  | @store i b r hk hb hn hl hwr hr ihb ihr =>
    intro e
    have := (kindAt_ex hn).2
    rw [e, (kindAt_ex hj).2] at this
    cases this

end Drw

/- Plain theory of the two ways in which what can be come to have is found: by lists of greatest rights, and by sets. Both find the same. Conditions: none. -/
namespace Drw
open Go Go.RowKit

theorem snoc_ind {α : Type} {P : List α → Prop} (h0 : P []) (hs : ∀ l a, P l → P (l ++ [a])) (l : List α) : P l := by
  have h : ∀ l' : List α, P l'.reverse := fun l' => by
    induction l' with
    | nil => exact h0
    | cons a l ih => rw [List.reverse_cons]; exact hs _ _ ih
  simpa using h l.reverse

/-! ## All rights that there can be -/
def uni : List Rgt := (List.range 8).flatMap fun (a : Nat) => (List.range 6).flatMap fun (b : Nat) => [true, false].flatMap fun c => [true, false].flatMap fun d => [true, false].map fun e => ⟨(a : Int) + 1, (b : Int), c, d, e⟩
theorem mem_bool (b : Bool) : b ∈ [true, false] := by cases b <;> simp
theorem mem_uni {r : Rgt} (h : rgtOk r = true) (h0 : r.thing ≠ 0) : r ∈ uni := by
  obtain ⟨a, b, c, d, e⟩ := r
  dsimp only at h0
  simp only [rgtOk, if_neg h0, Bool.and_eq_true, inR, decide_eq_true_eq] at h
  simp only [uni, List.mem_flatMap, List.mem_map, List.mem_range]
  exact ⟨(a - 1).toNat, by omega, b.toNat, by omega, c, mem_bool c, d, mem_bool d, e, mem_bool e, by simp only [Rgt.mk.injEq, and_true]; omega⟩
theorem uni_ne {r : Rgt} (h : r ∈ uni) : r.thing ≠ 0 := by
  simp only [uni, List.mem_flatMap, List.mem_map, List.mem_range] at h
  obtain ⟨a, -, b, -, c, -, d, -, e, -, rfl⟩ := h
  dsimp only; omega
theorem uni_len : uni.length = 384 := by decide +kernel

theorem filter_le {α : Type} {p q : α → Bool} (l : List α) (h : ∀ x ∈ l, p x = true → q x = true) : (l.filter p).length ≤ (l.filter q).length := by
  rw [← List.countP_eq_length_filter, ← List.countP_eq_length_filter]
  exact List.countP_mono_left h
theorem filter_lt {α : Type} {p q : α → Bool} : ∀ (l : List α), (∀ x ∈ l, p x = true → q x = true) → (∃ x ∈ l, q x = true ∧ p x = false) → (l.filter p).length < (l.filter q).length
  | [], _, h => by obtain ⟨x, hx, -⟩ := h; cases hx
  | a :: l, h, hx => by
    have hl := filter_le l (fun x hx => h x (by simp [hx]))
    by_cases ha : q a = true ∧ p a = false
    · simp [List.filter_cons, ha.1, ha.2]; omega
    · obtain ⟨x, hm, h1, h2⟩ := hx
      have hm' : x ∈ l := by
        rcases List.mem_cons.1 hm with rfl | hm
        · exact absurd ⟨h1, h2⟩ ha
        · exact hm
      have ih := filter_lt l (fun x hx => h x (by simp [hx])) ⟨x, hm', h1, h2⟩
      have hpq := h a (by simp)
      cases hp : p a <;> cases hq : q a <;> simp [List.filter_cons, hp, hq] <;> first | omega | (rw [hp] at hpq; simp [hq] at hpq)

def rowA (a : List (List Rgt)) (k : Nat) : List Rgt := (a[k]?).getD []
theorem rowA_set {a : List (List Rgt)} {i k : Nat} {l : List Rgt} (hi : i < a.length) : rowA (a.set i l) k = if k = i then l else rowA a k := by
  unfold rowA
  rw [List.getElem?_set]
  split
  · rename_i h; subst h; simp [hi]
  · rename_i h; rw [if_neg (Ne.symm h)]
theorem set_rowA {a : List (List Rgt)} {i : Nat} (hi : i < a.length) : a.set i (rowA a i) = a := by
  apply List.ext_getElem?
  intro k
  rw [List.getElem?_set]
  split
  · rename_i h; subst h; simp [rowA, hi]
  · rfl

/-- The sum of a number of each row. -/
def tot (f : List Rgt → Nat) (a : List (List Rgt)) : Nat := (a.map f).sum
theorem tot_set (f : List Rgt → Nat) : ∀ (a : List (List Rgt)) (i : Nat) (l : List Rgt), i < a.length → tot f (a.set i l) + f (rowA a i) = tot f a + f l
  | [], i, l, h => by simp at h
  | x :: a, 0, l, _ => by simp [tot, rowA]; omega
  | x :: a, i + 1, l, h => by
    have := tot_set f a i l (by simpa using h)
    simp only [tot, rowA, List.set_cons_succ, List.map_cons, List.sum_cons, List.getElem?_cons_succ] at this ⊢
    omega
theorem tot_le (f : List Rgt → Nat) (m : Nat) : ∀ (a : List (List Rgt)), (∀ l ∈ a, f l ≤ m) → tot f a ≤ a.length * m
  | [], _ => by simp [tot]
  | x :: a, h => by
    have := tot_le f m a (fun l hl => h l (by simp [hl]))
    have hx := h x (by simp)
    simp only [tot, List.map_cons, List.sum_cons, List.length_cons, Nat.add_mul, Nat.one_mul] at this ⊢
    omega

/-! ## Lists of greatest rights -/
def covB (l : List Rgt) (u : Rgt) : Bool := l.any (fun x => rgtIn1 u x)
def in22 (l : List Rgt) (r : Rgt) : Bool := covB l r || r.thing == 0
def put22 (l : List Rgt) (r : Rgt) : List Rgt × Bool := if in22 l r then (l, false) else (l.filter (fun x => !rgtIn1 x r) ++ [r], true)
def fetW (wk : Bool) (r : Rgt) : Rgt := if wk then less1 r true false false else r
def give22 (src : List Rgt) (dst : List Rgt) (wk : Bool) : List Rgt × Bool := src.foldl (fun p r => ((put22 p.1 (fetW wk r)).1, p.2 || (put22 p.1 (fetW wk r)).2)) (dst, false)
def cntC (l : List Rgt) : Nat := (uni.filter (covB l)).length

theorem covB_iff {l : List Rgt} {u : Rgt} : covB l u = true ↔ ∃ s ∈ l, rgtIn1 u s = true := by simp [covB]
theorem fetW_fet (b r : Rgt) : fetW b.wk r = fet b r := rfl
theorem cntC_le (l : List Rgt) : cntC l ≤ 384 := by
  have := List.length_filter_le (covB l) uni
  rw [uni_len] at this; exact this

/-- All rights of a list are such, and none is one to nothing. -/
def Ne0 (l : List Rgt) : Prop := ∀ r ∈ l, rgtOk r = true ∧ r.thing ≠ 0
def Anti (l : List Rgt) : Prop := l.Pairwise (fun a b => rgtIn1 a b = false ∧ rgtIn1 b a = false)

/-- A row of greatest rights has become another one. -/
structure Up (l l' : List Rgt) (b : Bool) : Prop where
  anti : Anti l → Anti l'
  mono : ∀ u, u.thing ≠ 0 → covB l u = true → covB l' u = true
  more : b = true → cntC l < cntC l'
  same : b = false → l' = l
theorem Up.refl (l : List Rgt) : Up l l false := ⟨id, fun _ _ h => h, (fun h => by cases h), fun _ => rfl⟩
theorem Up.le {l l' : List Rgt} {b : Bool} (h : Up l l' b) : cntC l ≤ cntC l' := filter_le _ fun u hu => h.mono u (uni_ne hu)
theorem Up.trans {x y z : List Rgt} {a b : Bool} (h : Up x y a) (k : Up y z b) : Up x z (a || b) := by
  refine ⟨fun q => k.anti (h.anti q), fun u h0 hu => k.mono u h0 (h.mono u h0 hu), fun hab => ?_, fun hab => ?_⟩
  · have h1 := h.le
    have h2 := k.le
    rw [Bool.or_eq_true] at hab
    rcases hab with e | e
    · have := h.more e; omega
    · have := k.more e; omega
  · simp only [Bool.or_eq_false_iff] at hab
    rw [k.same hab.2, h.same hab.1]

theorem put_up {l : List Rgt} {r : Rgt} (hr : rgtOk r = true) (hl : Ne0 l) : Up l (put22 l r).1 (put22 l r).2 := by
  unfold put22
  split
  · exact Up.refl _
  · rename_i hn
    have hn : covB l r = false ∧ (r.thing == 0) = false := by simpa [in22] using hn
    have h0 : r.thing ≠ 0 := by simpa using hn.2
    have hmono : ∀ u, u.thing ≠ 0 → covB l u = true → covB (l.filter (fun x => !rgtIn1 x r) ++ [r]) u = true := by
      intro u hu hc
      rw [covB_iff] at hc ⊢
      obtain ⟨s, hs, hus⟩ := hc
      by_cases e : rgtIn1 s r = true
      · exact ⟨r, by simp, rgtIn1_trans hus e (hl s hs).2⟩
      · exact ⟨s, by simp [hs, e], hus⟩
    refine ⟨fun ha => ?_, hmono, fun _ => ?_, fun e => by cases e⟩
    · refine List.pairwise_append.2 ⟨ha.sublist List.filter_sublist, by simp, ?_⟩
      intro x hx y hy
      obtain rfl : y = r := by simpa using hy
      have hx' : x ∈ l ∧ rgtIn1 x y = false := by simpa using hx
      refine ⟨hx'.2, ?_⟩
      cases e : rgtIn1 y x
      · rfl
      · have := hn.1
        rw [show covB l y = true from covB_iff.2 ⟨x, hx'.1, e⟩] at this
        cases this
    · exact filter_lt _ (fun u hu => hmono u (uni_ne hu)) ⟨r, mem_uni hr h0, covB_iff.2 ⟨r, by simp, rgtIn1_refl r⟩, hn.1⟩
theorem put_mem {l : List Rgt} {r x : Rgt} (h : x ∈ (put22 l r).1) : x ∈ l ∨ (x = r ∧ r.thing ≠ 0) := by
  unfold put22 at h
  split at h
  · exact .inl h
  · rename_i hn
    have hn : covB l r = false ∧ (r.thing == 0) = false := by simpa [in22] using hn
    simp only [List.mem_append, List.mem_filter, List.mem_singleton] at h
    rcases h with h | h
    · exact .inl h.1
    · exact .inr ⟨h, by simpa using hn.2⟩
theorem put_ne0 {l : List Rgt} {r : Rgt} (hl : Ne0 l) (hr : rgtOk r = true) : Ne0 (put22 l r).1 := by
  intro x hx
  rcases put_mem hx with hx | ⟨rfl, h0⟩
  · exact hl x hx
  · exact ⟨hr, h0⟩
theorem put_cov {l : List Rgt} {r : Rgt} (h0 : r.thing ≠ 0) : covB (put22 l r).1 r = true := by
  unfold put22
  split
  · rename_i h
    simpa [in22, h0] using h
  · exact covB_iff.2 ⟨r, by simp, rgtIn1_refl r⟩

theorem fetW_ok {wk : Bool} {r : Rgt} (h : rgtOk r = true) : rgtOk (fetW wk r) = true := by unfold fetW; split; exact less1_ok h _ _ _; exact h
theorem fetW_thing (wk : Bool) (r : Rgt) : (fetW wk r).thing = r.thing := by unfold fetW; split; exact less1_thing _ _ _ _; rfl

theorem give_snoc (src : List Rgt) (r : Rgt) (dst : List Rgt) (wk : Bool) : give22 (src ++ [r]) dst wk = ((put22 (give22 src dst wk).1 (fetW wk r)).1, (give22 src dst wk).2 || (put22 (give22 src dst wk).1 (fetW wk r)).2) := by
  simp [give22, List.foldl_append]
/-- What a giving comes to. -/
structure Giv (src dst l : List Rgt) (wk b : Bool) : Prop where
  up : Up dst l b
  ne0 : Ne0 l
  mem : ∀ x ∈ l, x ∈ dst ∨ ∃ r ∈ src, x = fetW wk r ∧ r.thing ≠ 0
  cov : ∀ r ∈ src, r.thing ≠ 0 → covB l (fetW wk r) = true
theorem give_giv {dst : List Rgt} {wk : Bool} (hd : Ne0 dst) (src : List Rgt) (hs : ∀ r ∈ src, rgtOk r = true) : Giv src dst (give22 src dst wk).1 wk (give22 src dst wk).2 := by
  revert hs
  refine snoc_ind (P := fun src => (∀ r ∈ src, rgtOk r = true) → Giv src dst (give22 src dst wk).1 wk (give22 src dst wk).2) ?_ ?_ src
  · intro _; exact ⟨Up.refl _, hd, fun x hx => .inl hx, fun r hr => by cases hr⟩
  · intro src r ih hs
    obtain ⟨h1, h2, h3, h4⟩ := ih (fun x hx => hs x (by simp [hx]))
    rw [give_snoc]
    have hr := fetW_ok (wk := wk) (hs r (by simp))
    have hu := put_up hr h2
    refine ⟨h1.trans hu, put_ne0 h2 hr, fun x hx => ?_, fun x hx h0 => ?_⟩
    · rcases put_mem hx with hx | ⟨rfl, h0⟩
      · rcases h3 x hx with hx | ⟨y, hy, he⟩
        · exact .inl hx
        · exact .inr ⟨y, by simp [hy], he⟩
      · exact .inr ⟨r, by simp, rfl, by rw [fetW_thing] at h0; exact h0⟩
    · rcases List.mem_append.1 hx with hx | hx
      · exact hu.mono _ (by rw [fetW_thing]; exact h0) (h4 x hx h0)
      · obtain rfl : x = r := by simpa using hx
        exact put_cov (by rw [fetW_thing]; exact h0)

end Drw
