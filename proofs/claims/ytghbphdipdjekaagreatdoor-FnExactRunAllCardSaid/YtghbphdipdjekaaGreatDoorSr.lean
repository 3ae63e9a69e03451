/- The reference's finding of what can be come to have: its lists of rights. Conditions: what is read lies where its cells say. -/
import Derived.Test.YtghbphdipdjekaaGreatDoorIv
import Derived.Test.YtghbphdipdjekaaGreatDoorB
import Derived.Test.YtghbphdipdjekaaGreatDoorTh
import Derived.Test.YtghbphdipdjekaaGreatDoorY
set_option linter.unusedVariables false
set_option linter.unusedSimpArgs false
namespace Go.Proofs.YtghbphdipdjekaaGreatDoor
open Go.RowKit Drw
attribute [local go_sem] Lab.val Rgt.val Cal.val Thg.val

theorem any_next {rs : List Rgt} {i : Nat} {x : Rgt} (h : rs[i]? = some x) (f : Rgt → Bool) : (rs.take (i + 1)).any f = ((rs.take i).any f || f x) := by
  rw [List.take_add_one, h]
  simp

/-- A result's own block is the argument's, or it is new: between B and E. -/
def OwnOr (v v' : Value) (B E : Nat) : Prop := ∀ k, v'.ownBlock = some k → v.ownBlock = some k ∨ (B ≤ k ∧ k < E)
theorem OwnOr.same (v : Value) (B E : Nat) : OwnOr v v B E := fun _ h => .inl h
theorem OwnOr.mono {v v' : Value} {B B' E E' : Nat} (h : OwnOr v v' B E) (hB : B' ≤ B) (hE : E ≤ E') : OwnOr v v' B' E' := fun k hk => (h k hk).imp id (fun h => ⟨Nat.le_trans hB h.1, Nat.lt_of_lt_of_le h.2 hE⟩)
theorem OwnOr.trans {a b c : Value} {B E : Nat} (h : OwnOr a b B E) (k : OwnOr b c B E) : OwnOr a c B E := fun j hj => by
  rcases k j hj with h1 | h1
  · exact h j h1
  · exact .inr h1
theorem filter_next {rs : List Rgt} {i : Nat} {x : Rgt} (h : rs[i]? = some x) (f : Rgt → Bool) : (rs.take (i + 1)).filter f = (rs.take i).filter f ++ (if f x then [x] else []) := by
  rw [List.take_add_one, h, List.filter_append]
  cases hf : f x <;> simp [hf]

/-! ## Giving -/
theorem nodup_len : ∀ {l u : List Rgt}, l.Pairwise (· ≠ ·) → (∀ x ∈ l, x ∈ u) → l.length ≤ u.length
  | [], _, _, _ => by simp
  | a :: l, u, hp, hu => by
    have h1 := List.pairwise_cons.1 hp
    have ha : a ∈ u := hu a (by simp)
    have h2 : l.length ≤ (u.erase a).length := nodup_len h1.2 (fun x hx => by
      rw [List.mem_erase_of_ne (fun e => h1.1 x hx e.symm)]
      exact hu x (by simp [hx]))
    rw [List.length_erase_of_mem ha] at h2
    have h3 : 0 < u.length := List.length_pos_of_mem ha
    simp only [List.length_cons]
    omega
theorem anti_len {l : List Rgt} (hn : Ne0 l) (ha : Anti l) : l.length ≤ 384 := by
  have h : l.Pairwise (· ≠ ·) := List.Pairwise.imp (fun {a b} h e => by subst e; rw [rgtIn1_refl] at h; cases h.1) ha
  have := nodup_len h (fun x hx => mem_uni (hn x hx).1 (hn x hx).2)
  rwa [uni_len] at this
theorem give_next {src : List Rgt} {i : Nat} {x : Rgt} (h : src[i]? = some x) (dst : List Rgt) (wk : Bool) : give22 (src.take (i + 1)) dst wk = ((put22 (give22 (src.take i) dst wk).1 (fetW wk x)).1, (give22 (src.take i) dst wk).2 || (put22 (give22 (src.take i) dst wk).1 (fetW wk x)).2) := by
  rw [List.take_add_one, h]
  exact give_snoc _ _ _ _
theorem less1_w (x : Rgt) : less1 x true false false = fetW true x := rfl
theorem l2Less_t {r y : Rgt} {rd wr st : Bool} {w : World} (h : less1 r rd wr st = y) : Calls Tryz.prog 100 #[r.val, .bool rd, .bool wr, .bool st] w fun e w' => e = .returned y.val ∧ Below w.heap.size w w' := by
  subst h; exact l2Less_c r rd wr st w
end Go.Proofs.YtghbphdipdjekaaGreatDoor
