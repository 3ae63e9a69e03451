/- Plain theory of what can be come to have, continued: a step of the reference, its end, the order in which rights are told. Conditions: none. -/
import Derived.Test.YtiolplhgpodifaaGreatReb
import Derived.Test.YtiolplhgpodifaaGreatChecked
import Derived.Test.YtiolplhgpodifaaGreatBase
import Derived.Deep.QuietTactic
import Derived.BigQuiet
import Derived.RegionTactic
import Derived.ChangeAlike
set_option linter.unusedVariables false
set_option linter.unusedSimpArgs false
namespace Drw
open Go Go.RowKit

def stepOn (ts : List Thg) (i : Nat) (r : Rgt) : Bool := (getT ts ((i : Int) + 1)).kind == 3 && (getT ts r.thing).kind == 2 && (getT ts r.thing).vers == r.vers
def step22 (ts : List Thg) (a : List (List Rgt)) (i : Nat) (r : Rgt) : List (List Rgt) × Bool :=
  if stepOn ts i r then
    let j := (r.thing - 1).toNat
    let p := if r.rd then give22 (rowA a j) (rowA a i) r.wk else (rowA a i, false)
    let q := if r.wr then give22 p.1 (rowA a j) false else (rowA a j, false)
    ((a.set i p.1).set j q.1, p.2 || q.2)
  else (a, false)

structure Snd (ts : List Thg) (a : List (List Rgt)) : Prop where
  len : a.length = ts.length
  got : ∀ k, ∀ r ∈ rowA a k, Got ts ((k : Int) + 1) r
  anti : ∀ k, Anti (rowA a k)
structure Adv (a a' : List (List Rgt)) (b : Bool) : Prop where
  len : a'.length = a.length
  mono : ∀ k u, u.thing ≠ 0 → covB (rowA a k) u = true → covB (rowA a' k) u = true
  le : tot cntC a ≤ tot cntC a'
  more : b = true → tot cntC a < tot cntC a'
  same : b = false → a' = a
theorem Adv.refl (a : List (List Rgt)) : Adv a a false := ⟨rfl, fun _ _ _ h => h, Nat.le_refl _, (fun h => by cases h), fun _ => rfl⟩
theorem Adv.trans {x y z : List (List Rgt)} {a b : Bool} (h : Adv x y a) (k : Adv y z b) : Adv x z (a || b) := by
  refine ⟨k.len.trans h.len, fun i u h0 hu => k.mono i u h0 (h.mono i u h0 hu), Nat.le_trans h.le k.le, fun hab => ?_, fun hab => ?_⟩
  · have h1 := h.le
    have h2 := k.le
    rw [Bool.or_eq_true] at hab
    rcases hab with e | e
    · have := h.more e; omega
    · have := k.more e; omega
  · simp only [Bool.or_eq_false_iff] at hab
    rw [k.same hab.2, h.same hab.1]
theorem adv_set {a : List (List Rgt)} {i : Nat} {l : List Rgt} {b : Bool} (hi : i < a.length) (h : Up (rowA a i) l b) : Adv a (a.set i l) b := by
  have ht := tot_set cntC a i l hi
  have hl := h.le
  refine ⟨by simp, fun k u h0 hu => ?_, by omega, fun e => ?_, fun e => ?_⟩
  · rw [rowA_set hi]
    split
    · rename_i e; subst e; exact h.mono u h0 hu
    · exact hu
  · have := h.more e; omega
  · rw [h.same e, set_rowA hi]

theorem Snd.ne0 {ts : List Thg} (ht : tabOk ts = true) {a : List (List Rgt)} (h : Snd ts a) (k : Nat) : Ne0 (rowA a k) := fun r hr => ⟨((h.got k r hr).ok ht).ok, ((h.got k r hr).ok ht).ne⟩
theorem Snd.set {ts : List Thg} {a : List (List Rgt)} (h : Snd ts a) {i : Nat} (hi : i < a.length) {l : List Rgt} (hg : ∀ r ∈ l, Got ts ((i : Int) + 1) r) (ha : Anti l) : Snd ts (a.set i l) := by
  refine ⟨by simpa using h.len, fun k r hr => ?_, fun k => ?_⟩
  · rw [rowA_set hi] at hr
    split at hr
    · rename_i e; subst e; exact hg r hr
    · exact h.got k r hr
  · rw [rowA_set hi]
    split
    · exact ha
    · exact h.anti k

theorem stepOn_iff {ts : List Thg} {i : Nat} {r : Rgt} (hi : i < ts.length) (hg : GotOk ts ((i : Int) + 1) r) : stepOn ts i r = true ↔ kindAt ts ((i : Int) + 1) 3 = true ∧ kindAt ts r.thing 2 = true ∧ live ts r = true := by
  have h1 := ex_at hi
  have h2 := cap_ex hg.cap hg.ne
  simp [stepOn, kindAt, live, h1, h2, and_assoc]

/-- A step, its parts. -/
theorem step_parts {ts : List Thg} (ht : tabOk ts = true) {a : List (List Rgt)} (h : Snd ts a) {i : Nat} (hi : i < ts.length) {r : Rgt} (hr : Got ts ((i : Int) + 1) r) (hon : stepOn ts i r = true) :
    ∃ j, j < ts.length ∧ r.thing = (j : Int) + 1 ∧ j ≠ i ∧
      ∃ p q, Up (rowA a i) p.1 p.2 ∧ (∀ x ∈ p.1, Got ts ((i : Int) + 1) x) ∧ (r.rd = true → ∀ x ∈ rowA a j, covB p.1 (fet r x) = true) ∧ Up (rowA a j) q.1 q.2 ∧ (∀ x ∈ q.1, Got ts ((j : Int) + 1) x) ∧ (r.wr = true → ∀ x ∈ p.1, covB q.1 x = true) ∧
        p = (if r.rd then give22 (rowA a j) (rowA a i) r.wk else (rowA a i, false)) ∧ q = (if r.wr then give22 p.1 (rowA a j) false else (rowA a j, false)) ∧
        step22 ts a i r = ((a.set i p.1).set j q.1, p.2 || q.2) := by
  have hgo := hr.ok ht
  obtain ⟨k1, k2, k3⟩ := (stepOn_iff hi hgo).1 hon
  have hx := (kindAt_ex k2).1
  rw [ex_iff] at hx
  have hj : r.thing = (((r.thing - 1).toNat : Nat) : Int) + 1 := by omega
  refine ⟨(r.thing - 1).toNat, by omega, hj, ?_, (if r.rd then give22 (rowA a (r.thing - 1).toNat) (rowA a i) r.wk else (rowA a i, false)), _, ?_, ?_, ?_, ?_, ?_, ?_, rfl, rfl, by rw [step22, if_pos hon]⟩
  · intro e
    have := (kindAt_ex k2).2
    rw [hj, e, (kindAt_ex k1).2] at this
    cases this
  · split
    · exact (give_giv (h.ne0 ht i) _ (fun x hx => ((h.ne0 ht _) x hx).1)).up
    · exact Up.refl _
  · split
    · rename_i hrd
      intro x hx
      rcases (give_giv (h.ne0 ht i) _ (fun x hx => ((h.ne0 ht _) x hx).1)).mem x hx with hx | ⟨y, hy, rfl, -⟩
      · exact h.got i x hx
      · rw [fetW_fet]
        refine .fetch k1 hr k2 k3 hrd ?_
        rw [hj]; exact h.got _ y hy
    · exact fun x hx => h.got i x hx
  · intro hrd x hx
    rw [if_pos hrd]
    exact (give_giv (h.ne0 ht i) _ (fun x hx => ((h.ne0 ht _) x hx).1)).cov x hx (h.ne0 ht _ x hx).2
  all_goals
    have hp : ∀ x ∈ (if r.rd then give22 (rowA a (r.thing - 1).toNat) (rowA a i) r.wk else (rowA a i, false)).1, Got ts ((i : Int) + 1) x := by
      split
      · rename_i hrd
        intro x hx
        rcases (give_giv (h.ne0 ht i) _ (fun x hx => ((h.ne0 ht _) x hx).1)).mem x hx with hx | ⟨y, hy, rfl, -⟩
        · exact h.got i x hx
        · rw [fetW_fet]
          refine .fetch k1 hr k2 k3 hrd ?_
          rw [hj]; exact h.got _ y hy
      · exact fun x hx => h.got i x hx
    generalize (if r.rd then give22 (rowA a (r.thing - 1).toNat) (rowA a i) r.wk else (rowA a i, false)) = p at *
    have hg := give_giv (wk := false) (h.ne0 ht (r.thing - 1).toNat) p.1 (fun x hx => ((hp x hx).ok ht).ok)
  · split
    · exact hg.up
    · exact Up.refl _
  · split
    · rename_i hwr
      intro x hx
      rcases hg.mem x hx with hx | ⟨y, hy, e, -⟩
      · exact h.got _ x hx
      · have e' : x = y := e
        have := Got.store k1 hr k2 k3 hwr (hp y hy)
        rw [← e'] at this
        rw [hj] at this
        exact this
    · exact fun x hx => h.got _ x hx
  · intro hwr x hx
    rw [if_pos hwr]
    exact hg.cov x hx ((hp x hx).ok ht).ne

theorem step_adv {ts : List Thg} (ht : tabOk ts = true) {a : List (List Rgt)} (h : Snd ts a) {i : Nat} (hi : i < ts.length) {r : Rgt} (hr : Got ts ((i : Int) + 1) r) : Snd ts (step22 ts a i r).1 ∧ Adv a (step22 ts a i r).1 (step22 ts a i r).2 := by
  by_cases hon : stepOn ts i r = true
  · obtain ⟨j, hj, -, hne, p, q, h1, h2, -, h4, h5, -, -, -, he⟩ := step_parts ht h hi hr hon
    rw [he]
    have hl := h.len
    have e : rowA (a.set i p.1) j = rowA a j := by rw [rowA_set (by omega), if_neg hne]
    have s1 : Snd ts (a.set i p.1) := h.set (by omega) h2 (h1.anti (h.anti i))
    exact ⟨s1.set (by simp; omega) h5 (h4.anti (h.anti j)), (adv_set (by omega) h1).trans (adv_set (by simp; omega) (by rw [e]; exact h4))⟩
  · rw [step22, if_neg hon]
    exact ⟨h, Adv.refl _⟩

/-- Where no step is more, all that can be come to have is there. -/
theorem settled {ts : List Thg} (ht : tabOk ts = true) {a : List (List Rgt)} (h : Snd ts a) (hown : ∀ i, i < ts.length → ∀ r ∈ (getT ts ((i : Int) + 1)).slots, r.thing ≠ 0 → covB (rowA a i) r = true)
    (hst : ∀ i, i < ts.length → ∀ r ∈ rowA a i, (step22 ts a i r).2 = false) {n : Int} {r : Rgt} (hg : Got ts n r) : ∀ i : Nat, n = (i : Int) + 1 → covB (rowA a i) r = true := by
  have hstep : ∀ i, i < ts.length → ∀ b ∈ rowA a i, stepOn ts i b = true → ∀ j : Nat, b.thing = (j : Int) + 1 → (b.rd = true → ∀ x ∈ rowA a j, covB (rowA a i) (fet b x) = true) ∧ (b.wr = true → ∀ x ∈ rowA a i, covB (rowA a j) x = true) := by
    intro i hi b hb hon j hj
    obtain ⟨j', -, hj', -, p, q, h1, -, h3, h4, -, h6, -, -, he⟩ := step_parts ht h hi (h.got i b hb) hon
    obtain rfl : j' = j := by omega
    have := hst i hi b hb
    rw [he] at this
    simp only [Bool.or_eq_false_iff] at this
    rw [h1.same this.1, h4.same this.2] at h6
    rw [h1.same this.1] at h3
    exact ⟨h3, h6⟩
  induction hg with
  | own hx hr h0 =>
    rintro i rfl
    rw [ex_iff] at hx
    exact hown i (by omega) _ hr h0
  | @fetch n b r hk hb hn hl hrd hr ihb ihr =>
    rintro i rfl
    have hx := (kindAt_ex hk).1
    rw [ex_iff] at hx
    have hi : i < ts.length := by omega
    obtain ⟨b', hb', lb⟩ := covB_iff.1 (ihb i rfl)
    have ob := hb.ok ht
    have orr := hr.ok ht
    have gb' := h.got i b' hb'
    obtain ⟨e1, e2, e3, -, e5⟩ := rgtIn1_thing lb ob.ne
    have hx2 := (kindAt_ex hn).1
    rw [ex_iff] at hx2
    have hj : b.thing = (((b.thing - 1).toNat : Nat) : Int) + 1 := by omega
    obtain ⟨r', hr', lr⟩ := covB_iff.1 (ihr _ hj)
    have hon : stepOn ts i b' = true := (stepOn_iff hi (gb'.ok ht)).2 ⟨hk, by rw [e1]; exact hn, by unfold live at hl ⊢; rw [e1, e2]; exact hl⟩
    obtain ⟨s, hs, ls⟩ := covB_iff.1 ((hstep i hi b' hb' hon _ (by rw [e1]; exact hj)).1 (e3 hrd) r' hr')
    have or' := (h.got _ r' hr').ok ht
    exact covB_iff.2 ⟨s, hs, rgtIn1_trans (fet_mono e5 lr orr.ne or'.ne) ls (by rw [fet_thing]; exact or'.ne)⟩
  | @store n b r hk hb hn hl hwr hr ihb ihr =>
    intro j hj
    have hx := (kindAt_ex hk).1
    rw [ex_iff] at hx
    have hi : (n - 1).toNat < ts.length := by omega
    have hn' : n = (((n - 1).toNat : Nat) : Int) + 1 := by omega
    obtain ⟨b', hb', lb⟩ := covB_iff.1 (ihb _ hn')
    obtain ⟨r', hr', lr⟩ := covB_iff.1 (ihr _ hn')
    have ob := hb.ok ht
    have orr := hr.ok ht
    have gb' := h.got _ b' hb'
    obtain ⟨e1, e2, -, e4, -⟩ := rgtIn1_thing lb ob.ne
    have hon : stepOn ts (n - 1).toNat b' = true := (stepOn_iff hi (gb'.ok ht)).2 ⟨by rw [← hn']; exact hk, by rw [e1]; exact hn, by unfold live at hl ⊢; rw [e1, e2]; exact hl⟩
    obtain ⟨s, hs, ls⟩ := covB_iff.1 ((hstep _ hi b' hb' hon j (by rw [e1]; exact hj)).2 (e4 hwr) r' hr')
    have or' := (h.got _ r' hr').ok ht
    exact covB_iff.2 ⟨s, hs, rgtIn1_trans lr ls or'.ne⟩

/-! ## The order in which rights are told -/
def bit (b : Bool) : Nat := if b then 1 else 0
def key (r : Rgt) : Nat := (((r.thing.toNat * 6 + r.vers.toNat) * 2 + bit r.rd) * 2 + bit r.wr) * 2 + bit r.wk
theorem key_inj {a b : Rgt} (ha : rgtOk a = true) (hb : rgtOk b = true) (ha0 : a.thing ≠ 0) (hb0 : b.thing ≠ 0) (h : key a = key b) : a = b := by
  obtain ⟨a1, a2, a3, a4, a5⟩ := a
  obtain ⟨b1, b2, b3, b4, b5⟩ := b
  dsimp only at ha0 hb0
  simp only [rgtOk, if_neg ha0, if_neg hb0, Bool.and_eq_true, inR, decide_eq_true_eq] at ha hb
  simp only [key] at h
  have h2 : ∀ b : Bool, bit b ≤ 1 := by intro b; cases b <;> simp [bit]
  have e3 := h2 a3; have e4 := h2 a4; have e5 := h2 a5; have f3 := h2 b3; have f4 := h2 b4; have f5 := h2 b5
  have hb' : ∀ x y : Bool, bit x = bit y → x = y := by intro x y; cases x <;> cases y <;> simp [bit]
  obtain rfl : a1 = b1 := by omega
  obtain rfl : a2 = b2 := by omega
  obtain rfl := hb' a3 b3 (by omega)
  obtain rfl := hb' a4 b4 (by omega)
  obtain rfl := hb' a5 b5 (by omega)
  rfl

def Ord (l : List Rgt) : Prop := l.Pairwise (fun a b => key a < key b)
theorem ord_ext : ∀ {a b : List Rgt}, Ord a → Ord b → (∀ r, r ∈ a ↔ r ∈ b) → a = b
  | [], [], _, _, _ => rfl
  | [], y :: b, _, _, h => by have := (h y).2 (by simp); cases this
  | x :: a, [], _, _, h => by have := (h x).1 (by simp); cases this
  | x :: a, y :: b, ha, hb, h => by
    have ha' := List.pairwise_cons.1 ha
    have hb' := List.pairwise_cons.1 hb
    have hxy : x = y := by
      rcases List.mem_cons.1 ((h x).1 (by simp)) with e | e
      · exact e
      · rcases List.mem_cons.1 ((h y).2 (by simp)) with e2 | e2
        · exact e2.symm
        · have h1 := hb'.1 x e
          have h2 := ha'.1 y e2
          omega
    subst hxy
    congr 1
    refine ord_ext ha'.2 hb'.2 fun r => ⟨fun hr => ?_, fun hr => ?_⟩
    · rcases List.mem_cons.1 ((h r).1 (by simp [hr])) with e | e
      · subst e; have := ha'.1 r hr; omega
      · exact e
    · rcases List.mem_cons.1 ((h r).2 (by simp [hr])) with e | e
      · subst e; have := hb'.1 r hr; omega
      · exact e

/-- What can be come to have, told: the greatest rights of each thing, in order. -/
structure IsReach (ts : List Thg) (a : List (List Rgt)) : Prop where
  len : a.length = ts.length
  mem : ∀ k, k < ts.length → ∀ r, r ∈ rowA a k ↔ Got ts ((k : Int) + 1) r ∧ ∀ s, Got ts ((k : Int) + 1) s → rgtIn1 r s = true → s = r
  ord : ∀ k, Ord (rowA a k)
theorem IsReach.eq {ts : List Thg} {a b : List (List Rgt)} (h : IsReach ts a) (k : IsReach ts b) : a = b := by
  apply List.ext_getElem?
  intro i
  have ha := h.len
  have hb := k.len
  by_cases hi : i < ts.length
  · have e : rowA a i = rowA b i := ord_ext (h.ord i) (k.ord i) fun r => (h.mem i hi r).trans (k.mem i hi r).symm
    have h1 : a[i]? = some (rowA a i) := by simp [rowA, show i < a.length by omega]
    have h2 : b[i]? = some (rowA b i) := by simp [rowA, show i < b.length by omega]
    rw [h1, h2, e]
  · rw [List.getElem?_eq_none (by omega), List.getElem?_eq_none (by omega)]

/-! ## Sorting by insertion -/
def ins22 (x : Rgt) (l : List Rgt) : List Rgt := l.takeWhile (fun y => decide (key y < key x)) ++ x :: l.dropWhile (fun y => decide (key y < key x))
theorem ins_mem (x : Rgt) (l : List Rgt) (r : Rgt) : r ∈ ins22 x l ↔ r = x ∨ r ∈ l := by
  conv => rhs; rw [← List.takeWhile_append_dropWhile (p := fun y => decide (key y < key x)) (l := l)]
  simp only [ins22, List.mem_append, List.mem_cons]
  constructor
  · rintro (h | h | h)
    · exact .inr (.inl h)
    · exact .inl h
    · exact .inr (.inr h)
  · rintro (h | h | h)
    · exact .inr (.inl h)
    · exact .inl h
    · exact .inr (.inr h)
theorem ins_ord {x : Rgt} : ∀ {l : List Rgt}, Ord l → (∀ y ∈ l, key y ≠ key x) → Ord (ins22 x l)
  | [], _, _ => by simp [ins22, Ord]
  | y :: l, h, hne => by
    have h' := List.pairwise_cons.1 h
    by_cases hk : key y < key x
    · have e : ins22 x (y :: l) = y :: ins22 x l := by simp [ins22, hk]
      rw [e]
      refine List.pairwise_cons.2 ⟨fun z hz => ?_, ins_ord h'.2 (fun z hz => hne z (by simp [hz]))⟩
      rcases (ins_mem x l z).1 hz with rfl | hz
      · exact hk
      · exact h'.1 z hz
    · have e : ins22 x (y :: l) = x :: y :: l := by simp [ins22, hk]
      rw [e]
      have hxy : key x < key y := by have := hne y (by simp); omega
      refine List.pairwise_cons.2 ⟨fun z hz => ?_, h⟩
      rcases List.mem_cons.1 hz with rfl | hz
      · exact hxy
      · have := h'.1 z hz; omega
def sort22 (l : List Rgt) : List Rgt := l.foldl (fun o x => ins22 x o) []
theorem sort_snoc (l : List Rgt) (x : Rgt) : sort22 (l ++ [x]) = ins22 x (sort22 l) := by simp [sort22, List.foldl_append]
theorem sort_mem (l : List Rgt) : ∀ r, r ∈ sort22 l ↔ r ∈ l := by
  refine snoc_ind (P := fun l => ∀ r, r ∈ sort22 l ↔ r ∈ l) (by simp [sort22]) (fun l a ih r => ?_) l
  rw [sort_snoc, ins_mem, ih]
  simp [or_comm]
theorem sort_ord {l : List Rgt} (h : l.Pairwise (fun a b => key a ≠ key b)) : Ord (sort22 l) := by
  revert h
  refine snoc_ind (P := fun l => l.Pairwise (fun a b => key a ≠ key b) → Ord (sort22 l)) (by simp [sort22, Ord]) (fun l a ih h => ?_) l
  rw [sort_snoc]
  obtain ⟨h1, -, h3⟩ := List.pairwise_append.1 h
  exact ins_ord (ih h1) fun y hy => h3 y ((sort_mem l y).1 hy) a (by simp)

theorem anti_keys {l : List Rgt} (h : Anti l) (hn : Ne0 l) : l.Pairwise (fun a b => key a ≠ key b) := by
  refine List.Pairwise.imp_of_mem (R := fun a b => rgtIn1 a b = false ∧ rgtIn1 b a = false) (fun {a b} ha hb hab e => ?_) h
  have := key_inj (hn a ha).1 (hn b hb).1 (hn a ha).2 (hn b hb).2 e
  subst this
  rw [rgtIn1_refl] at hab; cases hab.1
theorem anti_mem {l : List Rgt} (h : Anti l) {a b : Rgt} (ha : a ∈ l) (hb : b ∈ l) (hab : rgtIn1 a b = true) : a = b := by
  induction l with
  | nil => cases ha
  | cons x l ih =>
    have h' := List.pairwise_cons.1 h
    rcases List.mem_cons.1 ha with e | ha2 <;> rcases List.mem_cons.1 hb with e2 | hb2
    · rw [e, e2]
    · have := (h'.1 b hb2).1; rw [← e, hab] at this; cases this
    · have := (h'.1 a ha2).2; rw [← e2, hab] at this; cases this
    · exact ih h'.2 ha2 hb2

/-- The reference's end, sorted, is what can be come to have. -/
theorem reach_of_settled {ts : List Thg} (ht : tabOk ts = true) {a : List (List Rgt)} (h : Snd ts a) (hcov : ∀ k : Nat, ∀ r, Got ts ((k : Int) + 1) r → covB (rowA a k) r = true) : IsReach ts (a.map sort22) := by
  have hrow : ∀ k, rowA (a.map sort22) k = sort22 (rowA a k) := by
    intro k
    unfold rowA
    rw [List.getElem?_map]
    cases a[k]? <;> simp [sort22]
  refine ⟨by simpa using h.len, fun k hk r => ?_, fun k => ?_⟩
  · rw [hrow, sort_mem]
    constructor
    · intro hr
      refine ⟨h.got k r hr, fun s hs hl => ?_⟩
      obtain ⟨u, hu, lu⟩ := covB_iff.1 (hcov k s hs)
      have hos := hs.ok ht
      have e := anti_mem (h.anti k) hr hu (rgtIn1_trans hl lu hos.ne)
      subst e
      exact rgtIn1_anti lu hl hos.ne ((h.got k _ hr).ok ht).ne
    · rintro ⟨hg, hmax⟩
      obtain ⟨u, hu, lu⟩ := covB_iff.1 (hcov k r hg)
      have := hmax u (h.got k u hu) lu
      subst this; exact hu
  · rw [hrow]
    exact sort_ord (anti_keys (h.anti k) (h.ne0 ht k))

/-- Above each right that can be come to have is a greatest one. -/
def str (r : Rgt) : Nat := bit r.rd + bit r.wr + bit (!r.wk)
theorem str_lt {a b : Rgt} (h : rgtIn1 a b = true) (ha : a.thing ≠ 0) (hne : b ≠ a) : str a < str b := by
  obtain ⟨a1, a2, a3, a4, a5⟩ := a
  obtain ⟨b1, b2, b3, b4, b5⟩ := b
  simp only [rgtIn1, Bool.or_eq_true, Bool.and_eq_true, beq_iff_eq, Bool.not_eq_true'] at h ha
  rcases h with h | ⟨⟨⟨⟨rfl, rfl⟩, h3⟩, h4⟩, h5⟩
  · exact absurd h ha
  · revert h3 h4 h5 hne
    cases a3 <;> cases a4 <;> cases a5 <;> cases b3 <;> cases b4 <;> cases b5 <;> simp [str, bit]
theorem str_le (r : Rgt) : str r ≤ 3 := by
  have h2 : ∀ b : Bool, bit b ≤ 1 := by intro b; cases b <;> simp [bit]
  have h1 := h2 r.rd; have h3 := h2 r.wr; have h4 := h2 (!r.wk)
  unfold str; omega
theorem Got.above {ts : List Thg} (ht : tabOk ts = true) {i : Int} : ∀ (n : Nat) {r : Rgt}, 3 - str r ≤ n → Got ts i r → ∃ s, Got ts i s ∧ rgtIn1 r s = true ∧ ∀ u, Got ts i u → rgtIn1 s u = true → u = s
  | n, r, hn, h => by
    by_cases hm : ∃ u, Got ts i u ∧ rgtIn1 r u = true ∧ u ≠ r
    · obtain ⟨u, hu, hl, hne⟩ := hm
      have h1 := str_lt hl (h.ok ht).ne hne
      have h2 := str_le u
      cases n with
      | zero => omega
      | succ n =>
        obtain ⟨s, hs, h3, h4⟩ := Got.above ht n (r := u) (by omega) hu
        exact ⟨s, hs, rgtIn1_trans hl h3 (hu.ok ht).ne, h4⟩
    · refine ⟨r, h, rgtIn1_refl r, fun u hu hl => ?_⟩
      apply Classical.byContradiction
      intro hne
      exact hm ⟨u, hu, hl, hne⟩
theorem IsReach.cov {ts : List Thg} (ht : tabOk ts = true) {a : List (List Rgt)} (h : IsReach ts a) {k : Nat} (hk : k < ts.length) {r : Rgt} (hg : Dn ts ((k : Int) + 1) r) (h0 : r.thing ≠ 0) : ∃ s ∈ rowA a k, rgtIn1 r s = true := by
  obtain ⟨u, hu, hl⟩ := hg
  obtain ⟨s, hs, h1, h2⟩ := hu.above ht 3 (by omega)
  exact ⟨s, (h.mem k hk s).2 ⟨hs, h2⟩, rgtIn1_trans hl h1 (hu.ok ht).ne⟩

end Drw

/- The small functions on labels, rights and numbers return what their plain functions say. Conditions: none but the bounds that stand at each. -/
namespace Go.Proofs.YtiolplhgpodifaaGreat
open Go.RowKit Drw
attribute [local go_sem] Lab.val Rgt.val Cal.val Thg.val

set_option maxHeartbeats 400000 in
theorem inRange_c (n lo hi : Int) (w : World) :
    Calls Tryz.prog 57 #[.int .i64 n, .int .i64 lo, .int .i64 hi] w fun e w' => e = .returned (.bool (inR n lo hi)) ∧ w = w' := by
  go_enter Tryz.func57, Tryz.ntmps57
  go_wp2
  all_goals (go_ret; exact ⟨ret_bool (by rw [Bool.eq_iff_iff]; simp [inR]; omega), rfl⟩)

set_option maxHeartbeats 400000 in
theorem l6In_c (n lo hi : Int) (w : World) :
    Calls Tryz.prog 39 #[.int .i64 n, .int .i64 lo, .int .i64 hi] w fun e w' => e = .returned (.bool (inR n lo hi)) ∧ w = w' := by
  go_enter Tryz.func39, Tryz.ntmps39
  go_wp2
  all_goals (go_ret; exact ⟨ret_bool (by rw [Bool.eq_iff_iff]; simp [inR]; omega), rfl⟩)

set_option maxHeartbeats 400000 in
theorem labelOk_c (l : Lab) (w : World) :
    Calls Tryz.prog 85 #[l.val] w fun e w' => e = .returned (.bool (labOk l)) ∧ Below w.heap.size w w' := by
  go_enter Tryz.func85, Tryz.ntmps85
  go_wp2
  all_goals (go_ret; exact ⟨ret_bool (by rw [Bool.eq_iff_iff]; simp [labOk, inR]; omega), (Below.refl _ _).alloc (Nat.le_refl _) _⟩)

set_option maxHeartbeats 400000 in
theorem slabelOk_c (l : Lab) (w : World) :
    Calls Tryz.prog 71 #[l.val] w fun e w' => e = .returned (.bool (labOk l)) ∧ Below w.heap.size w w' := by
  go_enter Tryz.func71, Tryz.ntmps71
  go_wp2_with (go_at_call 39; refine (l6In_c _ _ _ _).mono ?_; rintro e w' ⟨rfl, rfl⟩)
  all_goals (go_ret; exact ⟨ret_bool (by simp [labOk, *]), (Below.refl _ _).alloc (Nat.le_refl _) _⟩)

theorem lab_bd {l : Lab} (h : labOk l = true) : 0 ≤ l.s ∧ l.s ≤ 3 ∧ 0 ≤ l.v ∧ l.v ≤ 3 := by simp [labOk, inR] at h; omega

end Go.Proofs.YtiolplhgpodifaaGreat

/- The functions on rights return what their plain functions say. Conditions: none. -/
namespace Go.Proofs.YtiolplhgpodifaaGreat
open Go.RowKit Drw
attribute [local go_sem] Lab.val Rgt.val Cal.val Thg.val

set_option maxHeartbeats 400000 in
theorem rightOk_c (r : Rgt) (w : World) :
    Calls Tryz.prog 40 #[r.val] w fun e w' => e = .returned (.bool (rgtOk r)) ∧ Below w.heap.size w w' := by
  obtain ⟨a, b, c, d, f⟩ := r
  go_enter Tryz.func40, Tryz.ntmps40
  go_wp2
  all_goals go_ret
  all_goals refine ⟨ret_bool ?_, (by (repeat (with_reducible first | exact Below.refl _ _ | refine Below.alloc ?_ ?_ _ | refine below_drewN ?_ _ | refine Below.drew ?_ | refine Below.setCell ?_ ?_ _ | refine Below.trans ?_ (Below.mono (by assumption) ?_))) <;> (first | omega | (simp; try omega)))⟩
  all_goals grind [rgtOk, inR, Rgt.null]

set_option maxHeartbeats 400000 in
theorem srightOk_c (r : Rgt) (w : World) :
    Calls Tryz.prog 72 #[r.val] w fun e w' => e = .returned (.bool (rgtOk r)) ∧ Below w.heap.size w w' := by
  obtain ⟨a, b, c, d, f⟩ := r
  go_enter Tryz.func72, Tryz.ntmps72
  go_wp2_with (go_at_call 39; refine (l6In_c _ _ _ _).mono ?_; rintro e w' ⟨rfl, rfl⟩)
  all_goals go_ret
  all_goals refine ⟨ret_bool ?_, (by (repeat (with_reducible first | exact Below.refl _ _ | refine Below.alloc ?_ ?_ _ | refine below_drewN ?_ _ | refine Below.drew ?_ | refine Below.setCell ?_ ?_ _ | refine Below.trans ?_ (Below.mono (by assumption) ?_))) <;> (first | omega | (simp; try omega)))⟩
  all_goals grind [rgtOk, Rgt.null]

theorem less1_null {r : Rgt} (h : r.thing = 0) (rd wr st : Bool) : less1 r rd wr st = r := by simp [less1, h]
theorem less1_obj {r : Rgt} (h : ¬ r.thing = 0) (rd wr st : Bool) : less1 r rd wr st = ⟨r.thing, r.vers, r.rd && rd, r.wr && wr && st, r.wk || !st⟩ := by simp [less1, h]

set_option maxHeartbeats 400000 in
theorem l2Less_c (r : Rgt) (rd wr st : Bool) (w : World) :
    Calls Tryz.prog 96 #[r.val, .bool rd, .bool wr, .bool st] w fun e w' => e = .returned (less1 r rd wr st).val ∧ Below w.heap.size w w' := by
  obtain ⟨a, b, c, d, f⟩ := r
  by_cases h : a = 0
  · rw [less1_null h]
    go_enter Tryz.func96, Tryz.ntmps96
    go_wp2
    all_goals refine bodyPost_ret (v := Rgt.val ⟨a, b, c, d, f⟩) ?_ rfl ⟨rfl, (by (repeat (with_reducible first | exact Below.refl _ _ | refine Below.alloc ?_ ?_ _ | refine below_drewN ?_ _ | refine Below.drew ?_ | refine Below.setCell ?_ ?_ _ | refine Below.trans ?_ (Below.mono (by assumption) ?_))) <;> (first | omega | (simp; try omega)))⟩
    all_goals simp [results, Tryz.results96, go_sem, *]
  · rw [less1_obj h]
    go_enter Tryz.func96, Tryz.ntmps96
    go_wp2
    all_goals refine bodyPost_ret (v := Rgt.val ⟨a, b, c && rd, d && wr && st, f || !st⟩) ?_ rfl ⟨rfl, (by (repeat (with_reducible first | exact Below.refl _ _ | refine Below.alloc ?_ ?_ _ | refine below_drewN ?_ _ | refine Below.drew ?_ | refine Below.setCell ?_ ?_ _ | refine Below.trans ?_ (Below.mono (by assumption) ?_))) <;> (first | omega | (simp; try omega)))⟩
    all_goals simp [results, Tryz.results96, go_sem, *]

set_option maxHeartbeats 400000 in
theorem objLess_c (r : Rgt) (rd wr st : Bool) (w : World) (hr : ¬ r.thing = 0) :
    Calls Tryz.prog 142 #[r.val, .bool rd, .bool wr, .bool st] w fun e w' => e = .returned (less1 r rd wr st).val ∧ Below w.heap.size w w' := by
  rw [less1_obj hr]
  clear hr
  obtain ⟨a, b, c, d, f⟩ := r
  go_enter Tryz.func142, Tryz.ntmps142
  go_wp2
  all_goals refine bodyPost_ret (v := Rgt.val ⟨a, b, c && rd, d && wr && st, f || !st⟩) ?_ rfl ⟨rfl, (by (repeat (with_reducible first | exact Below.refl _ _ | refine Below.alloc ?_ ?_ _ | refine below_drewN ?_ _ | refine Below.drew ?_ | refine Below.setCell ?_ ?_ _ | refine Below.trans ?_ (Below.mono (by assumption) ?_))) <;> (first | omega | (simp; try omega)))⟩
  all_goals simp [results, Tryz.results142, go_sem, *]

set_option maxHeartbeats 400000 in
theorem emptyLess_c (rd wr st : Bool) (w : World) :
    Calls Tryz.prog 140 #[.agg #[], .bool rd, .bool wr, .bool st] w fun e w' => e = .returned Rgt.null.val ∧ Below w.heap.size w w' := by
  go_enter Tryz.func140, Tryz.ntmps140
  go_wp2
  all_goals refine bodyPost_ret (v := Rgt.null.val) ?_ rfl ⟨rfl, (by (repeat (with_reducible first | exact Below.refl _ _ | refine Below.alloc ?_ ?_ _ | refine below_drewN ?_ _ | refine Below.drew ?_ | refine Below.setCell ?_ ?_ _ | refine Below.trans ?_ (Below.mono (by assumption) ?_))) <;> (first | omega | (simp; try omega)))⟩
  all_goals (simp [results, Tryz.results140, go_sem, Rgt.null])

def capV (r : Rgt) : Value := if r.thing = 0 then .iface 107 (.agg #[]) else .iface 109 r.val

set_option maxHeartbeats 400000 in
theorem capabilityOf_c (r : Rgt) (w : World) :
    Calls Tryz.prog 44 #[r.val] w fun e w' => e = .returned (capV r) ∧ Below w.heap.size w w' := by
  obtain ⟨a, b, c, d, f⟩ := r
  by_cases h : a = 0
  · go_enter Tryz.func44, Tryz.ntmps44
    go_wp2
    all_goals go_ret
    all_goals refine ⟨?_, (by (repeat (with_reducible first | exact Below.refl _ _ | refine Below.alloc ?_ ?_ _ | refine below_drewN ?_ _ | refine Below.drew ?_ | refine Below.setCell ?_ ?_ _ | refine Below.trans ?_ (Below.mono (by assumption) ?_))) <;> (first | omega | (simp; try omega)))⟩
    all_goals simp [capV, h]
  · go_enter Tryz.func44, Tryz.ntmps44
    go_wp2
    all_goals go_ret
    all_goals refine ⟨?_, (by (repeat (with_reducible first | exact Below.refl _ _ | refine Below.alloc ?_ ?_ _ | refine below_drewN ?_ _ | refine Below.drew ?_ | refine Below.setCell ?_ ?_ _ | refine Below.trans ?_ (Below.mono (by assumption) ?_))) <;> (first | omega | (simp; try omega)))⟩
    all_goals simp [capV, h, Rgt.val]

theorem capV_null {r : Rgt} (h : r.thing = 0) : capV r = .iface 107 (.agg #[]) := by simp [capV, h]
theorem capV_obj {r : Rgt} (h : ¬ r.thing = 0) : capV r = .iface 109 r.val := by simp [capV, h]

set_option maxHeartbeats 400000 in
theorem rightLess_no (r : Rgt) (rd wr st : Bool) (w : World) (h : ¬ rgtOk r = true) :
    Calls Tryz.prog 19 #[r.val, .bool rd, .bool wr, .bool st] w fun e w' => e = .returned (less r rd wr st).val ∧ Below w.heap.size w w' := by
  rw [show less r rd wr st = Rgt.null from by simp [less, h]]
  go_enter Tryz.func19, Tryz.ntmps19
  go_wp2_with (first
    | (go_at_call 40; refine (rightOk_c ⟨_, _, _, _, _⟩ _).mono ?_; rintro e w1 ⟨rfl, hb1⟩; obtain ⟨hc1, hf1⟩ := bcell hb1; have hz0 : w.heap.size < w1.heap.size := (by have := hb1.size; (try simp at this); omega); have hz1 : w.heap.size + 1 < w1.heap.size := (by have := hb1.size; (try simp at this); omega)))
  refine bodyPost_ret (v := Rgt.val Rgt.null) ?_ rfl ⟨rfl, (by (repeat (with_reducible first | exact Below.refl _ _ | refine Below.alloc ?_ ?_ _ | refine below_drewN ?_ _ | refine Below.drew ?_ | refine Below.setCell ?_ ?_ _ | refine Below.trans ?_ (Below.mono (by assumption) ?_))) <;> (first | omega | (simp; try omega)))⟩
  simp [results, Tryz.results19, go_sem, *, Rgt.null]

set_option maxHeartbeats 400000 in
theorem rightLess_null (r : Rgt) (rd wr st : Bool) (w : World) (h : rgtOk r = true) (h0 : r.thing = 0) :
    Calls Tryz.prog 19 #[r.val, .bool rd, .bool wr, .bool st] w fun e w' => e = .returned (less r rd wr st).val ∧ Below w.heap.size w w' := by
  have hr : r = Rgt.null := by simpa [rgtOk, h0] using h
  rw [show less r rd wr st = Rgt.null from by rw [hr]; simp [less, less1, Rgt.null]]
  have Hv := Lib.hid (capV_null (r := ⟨r.thing, r.vers, r.rd, r.wr, r.wk⟩) h0)
  clear h0 hr
  have hm : ∀ w, (method 289 107 (.agg #[]) "loop.example/drawbar/impl.less").run Tryz.prog w = .ok (140, .agg #[]) w := fun _ => by kernel_rfl
  have hn : ∀ w, (nilAhead 289 107 (.agg #[]) "loop.example/drawbar/impl.less").run Tryz.prog w = .ok (some false) w := fun _ => by kernel_rfl
  go_enter Tryz.func19, Tryz.ntmps19
  go_wp2_with (first
    | (go_at_call 40; refine (rightOk_c ⟨_, _, _, _, _⟩ _).mono ?_; rintro e w1 ⟨rfl, hb1⟩; obtain ⟨hc1, hf1⟩ := bcell hb1; have hz0 : w.heap.size < w1.heap.size := (by have := hb1.size; (try simp at this); omega); have hz1 : w.heap.size + 1 < w1.heap.size := (by have := hb1.size; (try simp at this); omega))
    | (go_at_call 44; refine (capabilityOf_c ⟨_, _, _, _, _⟩ _).mono ?_; rintro e w1 ⟨rfl, hb1⟩; rw [Hv.out]; obtain ⟨hc1, hf1⟩ := bcell hb1; have hz0 : w.heap.size < w1.heap.size := (by have := hb1.size; (try simp at this); omega); have hz1 : w.heap.size + 1 < w1.heap.size := (by have := hb1.size; (try simp at this); omega))
    | (go_at_call 140; refine (emptyLess_c _ _ _ _).mono ?_; rintro e w1 ⟨rfl, hb1⟩; obtain ⟨hc1, hf1⟩ := bcell hb1; have hz0 : w.heap.size < w1.heap.size := (by have := hb1.size; (try simp at this); omega); have hz1 : w.heap.size + 1 < w1.heap.size := (by have := hb1.size; (try simp at this); omega)))
  refine bodyPost_ret (v := Rgt.val Rgt.null) ?_ rfl ⟨rfl, (by (repeat (with_reducible first | exact Below.refl _ _ | refine Below.alloc ?_ ?_ _ | refine below_drewN ?_ _ | refine Below.drew ?_ | refine Below.setCell ?_ ?_ _ | refine Below.trans ?_ (Below.mono (by assumption) ?_))) <;> (first | omega | (simp; try omega)))⟩
  simp [results, Tryz.results19, go_sem, *, Rgt.null]

set_option maxHeartbeats 400000 in
theorem rightLess_obj (r : Rgt) (rd wr st : Bool) (w : World) (h : rgtOk r = true) (h0 : ¬ r.thing = 0) :
    Calls Tryz.prog 19 #[r.val, .bool rd, .bool wr, .bool st] w fun e w' => e = .returned (less r rd wr st).val ∧ Below w.heap.size w w' := by
  rw [show less r rd wr st = less1 r rd wr st from by simp [less, h]]
  have Hv := Lib.hid (capV_obj (r := ⟨r.thing, r.vers, r.rd, r.wr, r.wk⟩) h0)
  have hm : ∀ w, (method 289 109 (.agg #[.int .i64 r.thing, .int .i64 r.vers, .bool r.rd, .bool r.wr, .bool r.wk]) "loop.example/drawbar/impl.less").run Tryz.prog w = .ok (142, .agg #[.int .i64 r.thing, .int .i64 r.vers, .bool r.rd, .bool r.wr, .bool r.wk]) w := fun _ => by kernel_rfl
  have hn : ∀ w, (nilAhead 289 109 (.agg #[.int .i64 r.thing, .int .i64 r.vers, .bool r.rd, .bool r.wr, .bool r.wk]) "loop.example/drawbar/impl.less").run Tryz.prog w = .ok (some false) w := fun _ => by kernel_rfl
  go_enter Tryz.func19, Tryz.ntmps19
  go_wp2_with (first
    | (go_at_call 40; refine (rightOk_c ⟨_, _, _, _, _⟩ _).mono ?_; rintro e w1 ⟨rfl, hb1⟩; obtain ⟨hc1, hf1⟩ := bcell hb1; have hz0 : w.heap.size < w1.heap.size := (by have := hb1.size; (try simp at this); omega); have hz1 : w.heap.size + 1 < w1.heap.size := (by have := hb1.size; (try simp at this); omega))
    | (go_at_call 44; refine (capabilityOf_c ⟨_, _, _, _, _⟩ _).mono ?_; rintro e w1 ⟨rfl, hb1⟩; rw [Hv.out]; obtain ⟨hc1, hf1⟩ := bcell hb1; have hz0 : w.heap.size < w1.heap.size := (by have := hb1.size; (try simp at this); omega); have hz1 : w.heap.size + 1 < w1.heap.size := (by have := hb1.size; (try simp at this); omega))
    | (go_at_call 142; refine (objLess_c ⟨_, _, _, _, _⟩ _ _ _ _ (by assumption)).mono ?_; rintro e w1 ⟨rfl, hb1⟩; obtain ⟨hc1, hf1⟩ := bcell hb1; have hz0 : w.heap.size < w1.heap.size := (by have := hb1.size; (try simp at this); omega); have hz1 : w.heap.size + 1 < w1.heap.size := (by have := hb1.size; (try simp at this); omega)))
  refine bodyPost_ret (v := Rgt.val (less1 r rd wr st)) ?_ rfl ⟨rfl, (by (repeat (with_reducible first | exact Below.refl _ _ | refine Below.alloc ?_ ?_ _ | refine below_drewN ?_ _ | refine Below.drew ?_ | refine Below.setCell ?_ ?_ _ | refine Below.trans ?_ (Below.mono (by assumption) ?_))) <;> (first | omega | (simp; try omega)))⟩
  simp [results, Tryz.results19, go_sem, *]

theorem rightLess_c (r : Rgt) (rd wr st : Bool) (w : World) :
    Calls Tryz.prog 19 #[r.val, .bool rd, .bool wr, .bool st] w fun e w' => e = .returned (less r rd wr st).val ∧ Below w.heap.size w w' := by
  by_cases h : rgtOk r = true
  · by_cases h0 : r.thing = 0
    · exact rightLess_null r rd wr st w h h0
    · exact rightLess_obj r rd wr st w h h0
  · exact rightLess_no r rd wr st w h

end Go.Proofs.YtiolplhgpodifaaGreat
