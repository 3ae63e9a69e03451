/- Plain theory of the two ways in which what can be come to have is found: by lists of greatest rights, and by sets. Both find the same. Conditions: none. -/
import Derived.Test.YtiolplhgpodifaaGreatRea
set_option linter.unusedVariables false
set_option linter.unusedSimpArgs false
namespace Drw
open Go Go.RowKit

theorem snoc_ind {α : Type} {P : List α → Prop} (h0 : P []) (hs : ∀ l a, P l → P (l ++ [a])) (l : List α) : P l := by
  have h : ∀ l' : List α, P l'.reverse := fun l' => by
    induction l' with
    | nil => exact h0
    | cons a l ih => rw [List.reverse_cons]; exact hs _ _ ih
  simpa using h l.reverse

/-! ## All rights that there can be -/
def uni : List Rgt := (List.range 8).flatMap fun (a : Nat) => (List.range 6).flatMap fun (b : Nat) => [true, false].flatMap fun c => [true, false].flatMap fun d => [true, false].map fun e => ⟨(a : Int) + 1, (b : Int), c, d, e⟩
theorem mem_bool (b : Bool) : b ∈ [true, false] := by cases b <;> simp
theorem mem_uni {r : Rgt} (h : rgtOk r = true) (h0 : r.thing ≠ 0) : r ∈ uni := by
  obtain ⟨a, b, c, d, e⟩ := r
  dsimp only at h0
  simp only [rgtOk, if_neg h0, Bool.and_eq_true, inR, decide_eq_true_eq] at h
  simp only [uni, List.mem_flatMap, List.mem_map, List.mem_range]
  exact ⟨(a - 1).toNat, by omega, b.toNat, by omega, c, mem_bool c, d, mem_bool d, e, mem_bool e, by simp only [Rgt.mk.injEq, and_true]; omega⟩
theorem uni_ne {r : Rgt} (h : r ∈ uni) : r.thing ≠ 0 := by
  simp only [uni, List.mem_flatMap, List.mem_map, List.mem_range] at h
  obtain ⟨a, -, b, -, c, -, d, -, e, -, rfl⟩ := h
  dsimp only; omega
theorem uni_len : uni.length = 384 := by decide +kernel

theorem filter_le {α : Type} {p q : α → Bool} (l : List α) (h : ∀ x ∈ l, p x = true → q x = true) : (l.filter p).length ≤ (l.filter q).length := by
  rw [← List.countP_eq_length_filter, ← List.countP_eq_length_filter]
  exact List.countP_mono_left h
theorem filter_lt {α : Type} {p q : α → Bool} : ∀ (l : List α), (∀ x ∈ l, p x = true → q x = true) → (∃ x ∈ l, q x = true ∧ p x = false) → (l.filter p).length < (l.filter q).length
  | [], _, h => by obtain ⟨x, hx, -⟩ := h; cases hx
  | a :: l, h, hx => by
    have hl := filter_le l (fun x hx => h x (by simp [hx]))
    by_cases ha : q a = true ∧ p a = false
    · simp [List.filter_cons, ha.1, ha.2]; omega
    · obtain ⟨x, hm, h1, h2⟩ := hx
      have hm' : x ∈ l := by
        rcases List.mem_cons.1 hm with rfl | hm
        · exact absurd ⟨h1, h2⟩ ha
        · exact hm
      have ih := filter_lt l (fun x hx => h x (by simp [hx])) ⟨x, hm', h1, h2⟩
      have hpq := h a (by simp)
      cases hp : p a <;> cases hq : q a <;> simp [List.filter_cons, hp, hq] <;> first | omega | (rw [hp] at hpq; simp [hq] at hpq)

def rowA (a : List (List Rgt)) (k : Nat) : List Rgt := (a[k]?).getD []
theorem rowA_set {a : List (List Rgt)} {i k : Nat} {l : List Rgt} (hi : i < a.length) : rowA (a.set i l) k = if k = i then l else rowA a k := by
  unfold rowA
  rw [List.getElem?_set]
  split
  · rename_i h; subst h; simp [hi]
  · rename_i h; rw [if_neg (Ne.symm h)]
theorem set_rowA {a : List (List Rgt)} {i : Nat} (hi : i < a.length) : a.set i (rowA a i) = a := by
  apply List.ext_getElem?
  intro k
  rw [List.getElem?_set]
  split
  · rename_i h; subst h; simp [rowA, hi]
  · rfl

/-- The sum of a number of each row. -/
def tot (f : List Rgt → Nat) (a : List (List Rgt)) : Nat := (a.map f).sum
theorem tot_set (f : List Rgt → Nat) : ∀ (a : List (List Rgt)) (i : Nat) (l : List Rgt), i < a.length → tot f (a.set i l) + f (rowA a i) = tot f a + f l
  | [], i, l, h => by simp at h
  | x :: a, 0, l, _ => by simp [tot, rowA]; omega
  | x :: a, i + 1, l, h => by
    have := tot_set f a i l (by simpa using h)
    simp only [tot, rowA, List.set_cons_succ, List.map_cons, List.sum_cons, List.getElem?_cons_succ] at this ⊢
    omega
theorem tot_le (f : List Rgt → Nat) (m : Nat) : ∀ (a : List (List Rgt)), (∀ l ∈ a, f l ≤ m) → tot f a ≤ a.length * m
  | [], _ => by simp [tot]
  | x :: a, h => by
    have := tot_le f m a (fun l hl => h l (by simp [hl]))
    have hx := h x (by simp)
    simp only [tot, List.map_cons, List.sum_cons, List.length_cons, Nat.add_mul, Nat.one_mul] at this ⊢
    omega

/-! ## Lists of greatest rights -/
def covB (l : List Rgt) (u : Rgt) : Bool := l.any (fun x => rgtIn1 u x)
def in22 (l : List Rgt) (r : Rgt) : Bool := covB l r || r.thing == 0
def put22 (l : List Rgt) (r : Rgt) : List Rgt × Bool := if in22 l r then (l, false) else (l.filter (fun x => !rgtIn1 x r) ++ [r], true)
def fetW (wk : Bool) (r : Rgt) : Rgt := if wk then less1 r true false false else r
def give22 (src : List Rgt) (dst : List Rgt) (wk : Bool) : List Rgt × Bool := src.foldl (fun p r => ((put22 p.1 (fetW wk r)).1, p.2 || (put22 p.1 (fetW wk r)).2)) (dst, false)
def cntC (l : List Rgt) : Nat := (uni.filter (covB l)).length

theorem covB_iff {l : List Rgt} {u : Rgt} : covB l u = true ↔ ∃ s ∈ l, rgtIn1 u s = true := by simp [covB]
theorem fetW_fet (b r : Rgt) : fetW b.wk r = fet b r := rfl
theorem cntC_le (l : List Rgt) : cntC l ≤ 384 := by
  have := List.length_filter_le (covB l) uni
  rw [uni_len] at this; exact this

/-- All rights of a list are such, and none is one to nothing. -/
def Ne0 (l : List Rgt) : Prop := ∀ r ∈ l, rgtOk r = true ∧ r.thing ≠ 0
def Anti (l : List Rgt) : Prop := l.Pairwise (fun a b => rgtIn1 a b = false ∧ rgtIn1 b a = false)

/-- A row of greatest rights has become another one. -/
structure Up (l l' : List Rgt) (b : Bool) : Prop where
  anti : Anti l → Anti l'
  mono : ∀ u, u.thing ≠ 0 → covB l u = true → covB l' u = true
  more : b = true → cntC l < cntC l'
  same : b = false → l' = l
theorem Up.refl (l : List Rgt) : Up l l false := ⟨id, fun _ _ h => h, (fun h => by cases h), fun _ => rfl⟩
theorem Up.le {l l' : List Rgt} {b : Bool} (h : Up l l' b) : cntC l ≤ cntC l' := filter_le _ fun u hu => h.mono u (uni_ne hu)
theorem Up.trans {x y z : List Rgt} {a b : Bool} (h : Up x y a) (k : Up y z b) : Up x z (a || b) := by
  refine ⟨fun q => k.anti (h.anti q), fun u h0 hu => k.mono u h0 (h.mono u h0 hu), fun hab => ?_, fun hab => ?_⟩
  · have h1 := h.le
    have h2 := k.le
    rw [Bool.or_eq_true] at hab
    rcases hab with e | e
    · have := h.more e; omega
    · have := k.more e; omega
  · simp only [Bool.or_eq_false_iff] at hab
    rw [k.same hab.2, h.same hab.1]

theorem put_up {l : List Rgt} {r : Rgt} (hr : rgtOk r = true) (hl : Ne0 l) : Up l (put22 l r).1 (put22 l r).2 := by
  unfold put22
  split
  · exact Up.refl _
  · rename_i hn
    have hn : covB l r = false ∧ (r.thing == 0) = false := by simpa [in22] using hn
    have h0 : r.thing ≠ 0 := by simpa using hn.2
    have hmono : ∀ u, u.thing ≠ 0 → covB l u = true → covB (l.filter (fun x => !rgtIn1 x r) ++ [r]) u = true := by
      intro u hu hc
      rw [covB_iff] at hc ⊢
      obtain ⟨s, hs, hus⟩ := hc
      by_cases e : rgtIn1 s r = true
      · exact ⟨r, by simp, rgtIn1_trans hus e (hl s hs).2⟩
      · exact ⟨s, by simp [hs, e], hus⟩
    refine ⟨fun ha => ?_, hmono, fun _ => ?_, fun e => by cases e⟩
    · refine List.pairwise_append.2 ⟨ha.sublist List.filter_sublist, by simp, ?_⟩
      intro x hx y hy
      obtain rfl : y = r := by simpa using hy
      have hx' : x ∈ l ∧ rgtIn1 x y = false := by simpa using hx
      refine ⟨hx'.2, ?_⟩
      cases e : rgtIn1 y x
      · rfl
      · have := hn.1
        rw [show covB l y = true from covB_iff.2 ⟨x, hx'.1, e⟩] at this
        cases this
    · exact filter_lt _ (fun u hu => hmono u (uni_ne hu)) ⟨r, mem_uni hr h0, covB_iff.2 ⟨r, by simp, rgtIn1_refl r⟩, hn.1⟩
theorem put_mem {l : List Rgt} {r x : Rgt} (h : x ∈ (put22 l r).1) : x ∈ l ∨ (x = r ∧ r.thing ≠ 0) := by
  unfold put22 at h
  split at h
  · exact .inl h
  · rename_i hn
    have hn : covB l r = false ∧ (r.thing == 0) = false := by simpa [in22] using hn
    simp only [List.mem_append, List.mem_filter, List.mem_singleton] at h
    rcases h with h | h
    · exact .inl h.1
    · exact .inr ⟨h, by simpa using hn.2⟩
theorem put_ne0 {l : List Rgt} {r : Rgt} (hl : Ne0 l) (hr : rgtOk r = true) : Ne0 (put22 l r).1 := by
  intro x hx
  rcases put_mem hx with hx | ⟨rfl, h0⟩
  · exact hl x hx
  · exact ⟨hr, h0⟩
theorem put_cov {l : List Rgt} {r : Rgt} (h0 : r.thing ≠ 0) : covB (put22 l r).1 r = true := by
  unfold put22
  split
  · rename_i h
    simpa [in22, h0] using h
  · exact covB_iff.2 ⟨r, by simp, rgtIn1_refl r⟩

theorem fetW_ok {wk : Bool} {r : Rgt} (h : rgtOk r = true) : rgtOk (fetW wk r) = true := by unfold fetW; split; exact less1_ok h _ _ _; exact h
theorem fetW_thing (wk : Bool) (r : Rgt) : (fetW wk r).thing = r.thing := by unfold fetW; split; exact less1_thing _ _ _ _; rfl

theorem give_snoc (src : List Rgt) (r : Rgt) (dst : List Rgt) (wk : Bool) : give22 (src ++ [r]) dst wk = ((put22 (give22 src dst wk).1 (fetW wk r)).1, (give22 src dst wk).2 || (put22 (give22 src dst wk).1 (fetW wk r)).2) := by
  simp [give22, List.foldl_append]
/-- What a giving comes to. -/
structure Giv (src dst l : List Rgt) (wk b : Bool) : Prop where
  up : Up dst l b
  ne0 : Ne0 l
  mem : ∀ x ∈ l, x ∈ dst ∨ ∃ r ∈ src, x = fetW wk r ∧ r.thing ≠ 0
  cov : ∀ r ∈ src, r.thing ≠ 0 → covB l (fetW wk r) = true
theorem give_giv {dst : List Rgt} {wk : Bool} (hd : Ne0 dst) (src : List Rgt) (hs : ∀ r ∈ src, rgtOk r = true) : Giv src dst (give22 src dst wk).1 wk (give22 src dst wk).2 := by
  revert hs
  refine snoc_ind (P := fun src => (∀ r ∈ src, rgtOk r = true) → Giv src dst (give22 src dst wk).1 wk (give22 src dst wk).2) ?_ ?_ src
  · intro _; exact ⟨Up.refl _, hd, fun x hx => .inl hx, fun r hr => by cases hr⟩
  · intro src r ih hs
    obtain ⟨h1, h2, h3, h4⟩ := ih (fun x hx => hs x (by simp [hx]))
    rw [give_snoc]
    have hr := fetW_ok (wk := wk) (hs r (by simp))
    have hu := put_up hr h2
    refine ⟨h1.trans hu, put_ne0 h2 hr, fun x hx => ?_, fun x hx h0 => ?_⟩
    · rcases put_mem hx with hx | ⟨rfl, h0⟩
      · rcases h3 x hx with hx | ⟨y, hy, he⟩
        · exact .inl hx
        · exact .inr ⟨y, by simp [hy], he⟩
      · exact .inr ⟨r, by simp, rfl, by rw [fetW_thing] at h0; exact h0⟩
    · rcases List.mem_append.1 hx with hx | hx
      · exact hu.mono _ (by rw [fetW_thing]; exact h0) (h4 x hx h0)
      · obtain rfl : x = r := by simpa using hx
        exact put_cov (by rw [fetW_thing]; exact h0)

end Drw
