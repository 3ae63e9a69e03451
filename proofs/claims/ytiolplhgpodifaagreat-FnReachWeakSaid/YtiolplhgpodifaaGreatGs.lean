/- A key of a set of rights is a right. -/
import Derived.Test.YtiolplhgpodifaaGreatMb
import Derived.Maps.RangeWalk
import Derived.Test.YtiolplhgpodifaaGreatMa
set_option linter.unusedVariables false
set_option linter.unusedSimpArgs false
namespace Go.Proofs.YtiolplhgpodifaaGreat
open Go.RowKit Drw
theorem kLitI_inv {D : Nat} {v : Value} {l : List Lit} (h : Tryz.prog.keyLits D 3 [v] = some l) : ∃ n, v = .int .i64 n ∧ (Lit.int .i64 n).wf = true := by
  cases D with
  | zero => simp [Program.keyLits] at h
  | succ D =>
    unfold Program.keyLits at h
    cases v <;> simp [Tryz.underlying3] at h
    obtain ⟨⟨rfl, hw⟩, -⟩ := h
    exact ⟨_, rfl, hw⟩
theorem kLitB_inv {D : Nat} {v : Value} {l : List Lit} (h : Tryz.prog.keyLits D 4 [v] = some l) : ∃ b, v = .bool b := by
  cases D with
  | zero => simp [Program.keyLits] at h
  | succ D =>
    unfold Program.keyLits at h
    cases v <;> simp [Tryz.underlying4] at h
    exact ⟨_, rfl⟩
theorem kLitsR_inv {D : Nat} {a b c d e : Value} {l : List Lit} (h : Tryz.prog.keyLits (D + 1) 35 [a, b, c, d, e] = some l) : ∃ r, RgtW r ∧ #[a, b, c, d, e] = #[.int .i64 r.thing, .int .i64 r.vers, .bool r.rd, .bool r.wr, .bool r.wk] := by
  unfold Program.keyLits at h
  simp [Tryz.underlying35, rgtCellsOf, rgtI64, rgtBool] at h
  cases ha : Tryz.prog.keyLits D 3 [a] with
  | none => simp [ha] at h
  | some la =>
  cases hb : Tryz.prog.keyLits D 3 [b] with
  | none => simp [ha, hb] at h
  | some lb =>
  cases hc : Tryz.prog.keyLits D 4 [c] with
  | none => simp [ha, hb, hc] at h
  | some lc =>
  cases hd : Tryz.prog.keyLits D 4 [d] with
  | none => simp [ha, hb, hc, hd] at h
  | some ld =>
  cases he : Tryz.prog.keyLits D 4 [e] with
  | none => simp [ha, hb, hc, hd, he] at h
  | some le =>
  obtain ⟨n, rfl, hn⟩ := kLitI_inv ha
  obtain ⟨m, rfl, hm⟩ := kLitI_inv hb
  obtain ⟨x, rfl⟩ := kLitB_inv hc
  obtain ⟨y, rfl⟩ := kLitB_inv hd
  obtain ⟨z, rfl⟩ := kLitB_inv he
  exact ⟨⟨n, m, x, y, z⟩, ⟨hn, hm⟩, rfl⟩
theorem keyR_inv {v : Value} {l : Lit} (h : keyOf Tryz.prog 35 v = some l) : ∃ r, RgtW r ∧ v = r.val := by
  cases v <;> simp [keyOf, Tryz.underlying35, Value.formed, rgtCellsOf] at h
  rename_i xs
  obtain ⟨⟨-, h5⟩, ls, hl, -⟩ := h
  obtain ⟨a, b, c, d, e, rfl⟩ : ∃ a b c d e, xs = #[a, b, c, d, e] := by
    obtain ⟨xs⟩ := xs
    rcases xs with _ | ⟨a, _ | ⟨b, _ | ⟨c, _ | ⟨d, _ | ⟨e, _ | ⟨f, t⟩⟩⟩⟩⟩⟩ <;> simp at h5
    exact ⟨a, b, c, d, e, rfl⟩
  obtain ⟨r, hr, he⟩ := kLitsR_inv (by simpa [Value.cells] using hl)
  exact ⟨r, hr, by rw [he]; rfl⟩
theorem rgtW_ok {r : Rgt} (h : rgtOk r = true) : RgtW r := by
  have h1 := h
  simp only [rgtOk] at h1
  have hw : ∀ n : Int, 0 ≤ n → n ≤ 8 → (Lit.int .i64 n).wf = true := by
    intro n h0 h8
    obtain ⟨m, rfl⟩ : ∃ m : Nat, n = m := ⟨n.toNat, by omega⟩
    have : m ≤ 8 := by omega
    have hm : m = 0 ∨ m = 1 ∨ m = 2 ∨ m = 3 ∨ m = 4 ∨ m = 5 ∨ m = 6 ∨ m = 7 ∨ m = 8 := by omega
    rcases hm with rfl | rfl | rfl | rfl | rfl | rfl | rfl | rfl | rfl <;> decide
  split at h1
  · have e : r = Rgt.null := by simpa using h1
    subst e
    exact ⟨hw 0 (by decide) (by decide), hw 0 (by decide) (by decide)⟩
  · simp only [Bool.and_eq_true, inR, decide_eq_true_eq] at h1
    exact ⟨hw _ (by omega) (by omega), hw _ (by omega) (by omega)⟩
theorem unit_inv (v : Value) (y : DataW Unit × List MemPlace) (h : unitElem v = some y) : ∃ _ : Unit, v = .agg #[] := ⟨(), (unitElem_inv h).1⟩

/-- The rights of a set that a loop over it has still to come to. -/
def leftOf22 (left : Lit → Bool) (S : List Rgt) : List Rgt := S.filter (fun r => left (kR r))
end Go.Proofs.YtiolplhgpodifaaGreat

/- The list of a set's rights: the loop over its map, under a contract of the sort that ends it. -/
namespace Go.Proofs.YtiolplhgpodifaaGreat
open Go.RowKit Drw
attribute [local go_sem] Lab.val Rgt.val Cal.val Thg.val

set_option maxRecDepth 100000 in
theorem setList_w {s b : Nat} {S : List Rgt} {fv : Value} {R : Value → World → Prop} {w : World} (h : SetAt w s b S) (hn : S.length ≤ 400)
    (hsort : ∀ (L : List Rgt) (v : Value) (w' : World), L.Nodup → L.length ≤ S.length → (∀ r, r ∈ L ↔ r ∈ S) → Below w.heap.size w w' → w'.ownsRow (w.heap.size + 1) 35 5 v L.length ((L.map Rgt.cells).flatten) → Calls Tryz.prog 93 #[v, fv] w' fun e w'' => e = .returned (.tuple #[]) ∧ R v w'') :
    Calls Tryz.prog 66 #[.pointer (some ⟨s, 0, none⟩), fv] w fun e w' => ∃ v, e = .returned v ∧ R v w' := by
  have HSo := Lib.hid hsort
  have Hw := Lib.hid h.wide
  clear hsort
  have hs0 := h.cell
  obtain ⟨D, hD, hm⟩ := h.map
  have hlt := h.lt
  have hsl := hlt.1
  obtain ⟨i0, hi0, hz0, hz1, hz2⟩ := info_parts info_rgt
  go_enter Tryz.func66, Tryz.ntmps66
  go_wp2_with (first
    | (at_range; refine wpList_range_own _ rfl _ _ rfl 35 106 rgtKeyed mapUnder (unitElem (H := Unit)) b S.length D rfl hD ?_; intro w1 hrg hgr hsz)
    | go_in)
  go_frame
  go_loopw [5] (fun v wr => ∃ (L : List Rgt) (left : Lit → Bool) (cnt : Nat), wr.ownsRow (w.heap.size + 1) 35 5 v L.length ((L.map Rgt.cells).flatten) ∧ wr.ranges Tryz.prog 35 (unitElem (H := Unit)) b w.heap.size S.length D left cnt ∧ (∀ r, RgtW r → (left (kR r) = true ↔ r ∈ S ∧ r ∉ L)) ∧ L.Nodup ∧ L.length + cnt ≤ S.length ∧ (∀ r ∈ L, r ∈ S) ∧ Below w.heap.size w wr ∧ w.heap.size + 1 ≤ wr.heap.size) (fun _ wr => wr.rangeLeft b w.heap.size)
  case atStart => exact ⟨[], _, _, World.ownsRow_nil _ _ _ _, hrg, fun r hr => by simp [hm r hr], by simp, by simpa using hD.size_le, by simp, (Below.refl _ _).grown hgr (by simp) (fun j hj => by cases hj), by omega⟩
  case round =>
    obtain ⟨L, left, cnt, hown, hrg, hl, hnd, hlc, hsub, hB, hz⟩ := hrel
    obtain ⟨q, c, rfl⟩ := own_slice_n hown
    have Hl := Lib.hid hl
    have Hnd := Lib.hid hnd
    have Hsub := Lib.hid hsub
    have Hown := Lib.hid hown
    have HB := Lib.hid hB
    have HM := Lib.hid hm
    clear hl hnd hsub hown hB hm hs0
    go_wp2_with (first
      | (at_next; refine wpList_next_ranges _ rfl _ rfl 35 rgtKeyed (unitElem (H := Unit)) (fun r : Rgt => r.val) (fun _ : Unit => .agg #[]) (fun key kl hk => let ⟨r, _, e⟩ := keyR_inv hk; ⟨r, e⟩) unit_inv b w.heap.size S.length D left cnt rfl hrg ?_ ?_)
      | go_in)
    · intro hc0 hl0
      have Hl0 := Lib.hid hl0
      have HC := Lib.hid (HSo.out L (.slice q L.length c) wr Hnd.out (by omega) (fun r => ⟨Hsub.out r, fun hr => by
        by_cases hi : r ∈ L
        · exact hi
        · have := (Hl.out r (Hw.out r hr)).2 ⟨hr, hi⟩
          rw [Hl0.out] at this; cases this⟩) HB.out Hown.out)
      clear hl0 hrg hc0
      go_wp2_with (go_at_call 93; refine HC.out.mono ?_; rintro e w3 ⟨rfl, hR⟩)
      go_ret
      exact ⟨_, rfl, hR⟩
    · intro x kl ya yb w2 cnt2 hkx hlx hy hat hrg2 hlt2 hg2 hs2 hen
      have hkx' : keyOf Tryz.prog 35 x.val = some kl := hkx
      have hxr : RgtW x := by
        obtain ⟨r, hr, e⟩ := keyR_inv hkx'
        have : x = r := by
          obtain ⟨x1, x2, x3, x4, x5⟩ := x
          obtain ⟨r1, r2, r3, r4, r5⟩ := r
          simpa [Rgt.val] using e
        rw [this]; exact hr
      have hkl : kl = kR x := by have h1 := keyR hxr; rw [hkx'] at h1; exact Option.some.inj h1
      subst hkl
      have hxL := (Hl.out x hxr).1 hlx
      have hown2 := Hown.out.kept hg2 (Or.inr (fun e => by have := (Hown.out.lt _ e).1; omega))
      have hB2 := HB.out.grown hg2 HB.out.size (fun j hj => by cases hj; exact Nat.le_refl _)
      have HB2 := Lib.hid hB2
      have Hown2 := Lib.hid hown2
      have HxL := Lib.hid hxL
      have Hrg2 := Lib.hid hrg2
      have Hrg := Lib.hid hrg
      have Hxr := Lib.hid hxr
      clear hB2 hown2 hxL hrg2 hat hxr hlx hy hkx hkx' hrg
      obtain ⟨x1, x2, x3, x4, x5⟩ := x
      go_wp2_with (first
        | (at_builtin; refine wpList_append_rows rfl (.tmp 16) (.tmp 18) 30 rfl (w.heap.size + 1) 35 i0 _ 5 24 Tryz.underlying30 hi0 hz0 hz1 hz2 rfl (by decide) (.slice q L.length c) L.length ((L.map Rgt.cells).flatten) rfl (own_below Hown2.out (by (repeat (with_reducible first | exact Below.refl _ _ | refine Below.alloc ?_ ?_ _ | refine below_drewN ?_ _ | refine Below.drew ?_ | refine Below.setCell ?_ ?_ _ | refine Below.trans ?_ (Below.mono (by assumption) ?_))) <;> (first | omega | (simp; try omega)))) (.slice (some ⟨wr.heap.size + 1, 0, none⟩) 1 1) [Rgt.cells ⟨x1, x2, x3, x4, x5⟩] rfl (flat_rgts [⟨x1, x2, x3, x4, x5⟩]) (Rows.one (by intro i u hu; rcases i with _ | _ | _ | _ | _ | i <;> simp [Rgt.cells] at hu <;> (try subst hu) <;> simp [go_sem, hs2])) (by simp [maxLen] <;> omega) (by simp <;> omega) (by simp <;> omega) ?_; intro v4 w4 ho4 hg4)
        | go_in)
      have hzz := HB2.out.size
      have hrg4 : w4.ranges Tryz.prog 35 (unitElem (H := Unit)) b w.heap.size S.length D (fun z => left z && !z.sameKey (kR ⟨x1, x2, x3, x4, x5⟩)) cnt2 :=
        ((Hrg2.out.alloc _).alloc _).kept hg4 (fun e => by have := (Hown2.out.lt _ e.symm).1; omega) (fun e => by have := (Hown2.out.lt _ e.symm).1; omega)
      refine ⟨⟨L ++ [⟨x1, x2, x3, x4, x5⟩], _, cnt2, by simpa using ho4, hrg4, ?_, ?_, by simp; omega, ?_, ?_, ?_⟩, by rw [hrg4.left_eq, Hrg.out.left_eq]; exact hlt2⟩
      · intro r hr
        have h1 := Hl.out r hr
        by_cases e : r = ⟨x1, x2, x3, x4, x5⟩
        · subst e
          simp [Go.WideAt.sameKey_self (kR_key _)]
        · have hne : (kR r).sameKey (kR ⟨x1, x2, x3, x4, x5⟩) = false := by
            refine Maps.sameKey_ne (fun h => e (kR_inj hr Hxr.out h))
          simp [hne, h1, e]
      · refine List.nodup_append.2 ⟨Hnd.out, by simp, ?_⟩
        intro y hy z hz' e
        have : z = ⟨x1, x2, x3, x4, x5⟩ := by simpa using hz'
        rw [e, this] at hy
        exact HxL.out.2 hy
      · intro r hr
        rcases List.mem_append.1 hr with h' | h'
        · exact Hsub.out r h'
        · have : r = ⟨x1, x2, x3, x4, x5⟩ := by simpa using h'
          rw [this]; exact HxL.out.1
      · exact ((HB2.out.alloc HB2.out.size _).alloc (by simp; omega) _).grown hg4 (by simp; omega) (fun k hk => by have := (Hown2.out.lt k hk).1; omega)
      · have := hg4.size; simp at this; omega
end Go.Proofs.YtiolplhgpodifaaGreat

/- Plain theory of the sets in which the program gathers what can be come to have. Conditions: none. -/
namespace Drw
open Go Go.RowKit

/-- Rows of sets that grow; the flag says whether they did. -/
structure Inc (a a' : List (List Rgt)) (b : Bool) : Prop where
  len : a'.length = a.length
  sub : ∀ k r, r ∈ rowA a k → r ∈ rowA a' k
  more : b = true → tot List.length a < tot List.length a'
  same : b = false → a' = a
theorem Inc.refl (a : List (List Rgt)) : Inc a a false := ⟨rfl, fun _ _ h => h, (fun h => by cases h), fun _ => rfl⟩
theorem Inc.le {a a' : List (List Rgt)} {b : Bool} (h : Inc a a' b) : tot List.length a ≤ tot List.length a' := by
  cases b
  · rw [h.same rfl]; exact Nat.le_refl _
  · exact Nat.le_of_lt (h.more rfl)
theorem Inc.trans {x y z : List (List Rgt)} {a b : Bool} (h : Inc x y a) (k : Inc y z b) : Inc x z (b || a) := by
  refine ⟨k.len.trans h.len, fun i r hr => k.sub i r (h.sub i r hr), fun e => ?_, fun e => ?_⟩
  · have h1 := h.le
    have h2 := k.le
    rw [Bool.or_eq_true] at e
    rcases e with e | e
    · have := k.more e; omega
    · have := h.more e; omega
  · simp only [Bool.or_eq_false_iff] at e
    rw [k.same e.1, h.same e.2]
def add1 (l : List Rgt) (r : Rgt) : List Rgt := if r ∈ l then l else l ++ [r]
theorem add1_mem {l : List Rgt} {r x : Rgt} : x ∈ add1 l r ↔ x ∈ l ∨ x = r := by
  unfold add1
  split
  · rename_i h
    constructor
    · exact Or.inl
    · rintro (h' | rfl)
      · exact h'
      · exact h
  · simp
def addA (a : List (List Rgt)) (i : Nat) (r : Rgt) : List (List Rgt) := a.set i (add1 (rowA a i) r)
theorem addA_row {a : List (List Rgt)} {i : Nat} (hi : i < a.length) (r : Rgt) (k : Nat) : rowA (addA a i r) k = if k = i then add1 (rowA a i) r else rowA a k := rowA_set hi
theorem inc_add {a : List (List Rgt)} {i : Nat} (hi : i < a.length) (r : Rgt) : Inc a (addA a i r) (!decide (r ∈ rowA a i)) := by
  have ht := tot_set List.length a i (add1 (rowA a i) r) hi
  refine ⟨by simp [addA], fun k x hx => ?_, fun e => ?_, fun e => ?_⟩
  · rw [addA_row hi]
    split
    · rename_i e; subst e; exact add1_mem.2 (.inl hx)
    · exact hx
  · have hn : r ∉ rowA a i := by simpa using e
    have : (add1 (rowA a i) r).length = (rowA a i).length + 1 := by simp [add1, hn]
    show tot List.length a < tot List.length (a.set i (add1 (rowA a i) r))
    omega
  · have hn : r ∈ rowA a i := by simpa using e
    show a.set i (add1 (rowA a i) r) = a
    rw [add1, if_pos hn, set_rowA hi]
theorem addA_mem {a : List (List Rgt)} {i : Nat} (hi : i < a.length) (r : Rgt) : r ∈ rowA (addA a i r) i := by
  rw [addA_row hi, if_pos rfl]; exact add1_mem.2 (.inr rfl)

theorem nodup_len1 : ∀ {l u : List Rgt}, l.Pairwise (· ≠ ·) → (∀ x ∈ l, x ∈ u) → l.length ≤ u.length
  | [], _, _, _ => by simp
  | a :: l, u, hp, hu => by
    have h1 := List.pairwise_cons.1 hp
    have ha : a ∈ u := hu a (by simp)
    have h2 : l.length ≤ (u.erase a).length := nodup_len1 h1.2 (fun x hx => by
      rw [List.mem_erase_of_ne (fun e => h1.1 x hx e.symm)]
      exact hu x (by simp [hx]))
    rw [List.length_erase_of_mem ha] at h2
    have h3 : 0 < u.length := List.length_pos_of_mem ha
    simp only [List.length_cons]
    omega

/-- Sets that hold just what can be come to have. -/
structure Gat (ts : List Thg) (a : List (List Rgt)) : Prop where
  len : a.length = ts.length
  got : ∀ k, ∀ r ∈ rowA a k, Got ts ((k : Int) + 1) r
  nd : ∀ k, (rowA a k).Nodup
theorem Gat.add {ts : List Thg} {a : List (List Rgt)} (h : Gat ts a) {i : Nat} (hi : i < ts.length) {r : Rgt} (hr : Got ts ((i : Int) + 1) r) : Gat ts (addA a i r) := by
  have hl : i < a.length := by have := h.len; omega
  refine ⟨by simpa [addA] using h.len, fun k x hx => ?_, fun k => ?_⟩
  · rw [addA_row hl] at hx
    split at hx
    · rename_i e; subst e
      rcases add1_mem.1 hx with hx | rfl
      · exact h.got _ x hx
      · exact hr
    · exact h.got k x hx
  · rw [addA_row hl]
    split
    · unfold add1
      split
      · exact h.nd i
      · rename_i hn
        refine List.nodup_append.2 ⟨h.nd i, by simp, ?_⟩
        intro y hy z hz e
        have : z = r := by simpa using hz
        rw [e, this] at hy
        exact hn hy
    · exact h.nd k
theorem Gat.row_len {ts : List Thg} (ht : tabOk ts = true) {a : List (List Rgt)} (h : Gat ts a) (k : Nat) : (rowA a k).length ≤ 384 := by
  have := nodup_len1 (u := uni) (h.nd k) (fun x hx => mem_uni ((h.got k x hx).ok ht).ok ((h.got k x hx).ok ht).ne)
  rwa [uni_len] at this
theorem Gat.tot {ts : List Thg} (ht : tabOk ts = true) {a : List (List Rgt)} (h : Gat ts a) : tot List.length a ≤ ts.length * 384 := by
  rw [← h.len]
  refine tot_le _ _ _ fun l hl => ?_
  obtain ⟨k, hk, rfl⟩ := List.mem_iff_getElem.1 hl
  have := h.row_len ht k
  simpa [rowA, hk] using this
theorem Gat.ok {ts : List Thg} (ht : tabOk ts = true) {a : List (List Rgt)} (h : Gat ts a) {k : Nat} {r : Rgt} (hr : r ∈ rowA a k) : rgtOk r = true ∧ r.thing ≠ 0 := ⟨((h.got k r hr).ok ht).ok, ((h.got k r hr).ok ht).ne⟩

/-- A right of a runner gives nothing new. -/
def Shut1 (ts : List Thg) (a : List (List Rgt)) (i : Nat) (b : Rgt) : Prop :=
  kindAt ts b.thing 2 = true → live ts b = true → (b.rd = true → ∀ x ∈ rowA a (b.thing - 1).toNat, fet b x ∈ rowA a i) ∧ (b.wr = true → ∀ x ∈ rowA a i, x ∈ rowA a (b.thing - 1).toNat)
def Shut (ts : List Thg) (a : List (List Rgt)) (i : Nat) : Prop := ∀ b ∈ rowA a i, Shut1 ts a i b
theorem shut_got {ts : List Thg} {a : List (List Rgt)} (hown : ∀ i, i < ts.length → ∀ r ∈ (getT ts ((i : Int) + 1)).slots, r.thing ≠ 0 → r ∈ rowA a i)
    (hs : ∀ i, i < ts.length → kindAt ts ((i : Int) + 1) 3 = true → Shut ts a i) {i : Int} {r : Rgt} (h : Got ts i r) : r ∈ rowA a (i - 1).toNat := by
  have hi : ∀ {i : Int}, ex ts i = true → (i - 1).toNat < ts.length ∧ (((i - 1).toNat : Nat) : Int) + 1 = i := by
    intro i h
    rw [ex_iff] at h
    constructor <;> omega
  induction h with
  | own h hr h0 =>
    obtain ⟨h1, h2⟩ := hi h
    exact hown _ h1 _ (by rw [h2]; exact hr) h0
  | fetch hk hb hn hl hrd hr ihb ihr =>
    obtain ⟨h1, h2⟩ := hi (kindAt_ex hk).1
    exact ((hs _ h1 (by rw [h2]; exact hk)) _ ihb hn hl).1 hrd _ ihr
  | store hk hb hn hl hwr hr ihb ihr =>
    obtain ⟨h1, h2⟩ := hi (kindAt_ex hk).1
    exact ((hs _ h1 (by rw [h2]; exact hk)) _ ihb hn hl).2 hwr _ ihr

/-- The greatest rights of a list. -/
def great (l : List Rgt) : List Rgt := l.filter (fun r => !l.any (fun o => (o != r) && rgtIn r o))
theorem reach_of_sets {ts : List Thg} (ht : tabOk ts = true) {a c : List (List Rgt)} (h : Gat ts a) (hall : ∀ (k : Nat) r, Got ts ((k : Int) + 1) r → r ∈ rowA a k)
    (hc : c.length = ts.length) (hrow : ∀ k, k < ts.length → ∃ L, rowA c k = great L ∧ Ord L ∧ ∀ r, r ∈ L ↔ r ∈ rowA a k) : IsReach ts c := by
  refine ⟨hc, fun k hk r => ?_, fun k => ?_⟩
  · obtain ⟨L, h1, h2, h3⟩ := hrow k hk
    rw [h1]
    have hm : ∀ s, s ∈ L ↔ Got ts ((k : Int) + 1) s := fun s => (h3 s).trans ⟨h.got k s, hall k s⟩
    simp only [great, List.mem_filter, Bool.not_eq_true', List.any_eq_false, Bool.and_eq_true, bne_iff_ne, ne_eq, not_and]
    rw [hm r]
    constructor
    · rintro ⟨hg, hno⟩
      refine ⟨hg, fun s hs hl => ?_⟩
      apply Classical.byContradiction
      intro hne
      refine hno s ((hm s).2 hs) hne ?_
      simp [rgtIn, hl, (hg.ok ht).ok, (hs.ok ht).ok]
    · rintro ⟨hg, hmax⟩
      refine ⟨hg, fun s hs hne hin => hne (hmax s ((hm s).1 hs) ?_)⟩
      simp only [rgtIn, Bool.and_eq_true] at hin
      exact hin.2
  · by_cases hk : k < ts.length
    · obtain ⟨L, h1, h2, -⟩ := hrow k hk
      rw [h1]
      exact List.Pairwise.filter _ h2
    · have : rowA c k = [] := by simp [rowA, List.getElem?_eq_none (show c.length ≤ k by omega)]
      rw [this]; exact List.Pairwise.nil
end Drw

/- What the tables of all that can be come to have obey. Conditions: none. -/
namespace Drw
open Go Go.RowKit

theorem getT_nat {ts : List Thg} {i : Nat} {t : Thg} (h : ts[i]? = some t) : getT ts ((i : Int) + 1) = t := by
  simp [getT, show ((i : Int) + 1 - 1).toNat = i by omega, h]
theorem nat_lt {α : Type} {l : List α} {i : Nat} {x : α} (h : l[i]? = some x) : i < l.length := by
  rcases Nat.lt_or_ge i l.length with h' | h'
  · exact h'
  · rw [List.getElem?_eq_none h'] at h; cases h
theorem IsReach.got {ts : List Thg} {a : List (List Rgt)} (h : IsReach ts a) {k : Nat} (hk : k < ts.length) {r : Rgt} (hr : r ∈ rowA a k) : Got ts ((k : Int) + 1) r := ((h.mem k hk r).1 hr).1
theorem IsReach.okR {ts : List Thg} {a : List (List Rgt)} (ht : tabOk ts = true) (h : IsReach ts a) {k : Nat} (hk : k < ts.length) {r : Rgt} (hr : r ∈ rowA a k) : rgtOk r = true ∧ r.thing ≠ 0 := ⟨((h.got hk hr).ok ht).ok, ((h.got hk hr).ok ht).ne⟩
theorem IsReach.rowOk {ts : List Thg} {a : List (List Rgt)} (ht : tabOk ts = true) (h : IsReach ts a) {k : Nat} (hk : k < ts.length) : ∀ r ∈ rowA a k, rgtOk r = true := fun _ hr => (h.okR ht hk hr).1
theorem IsReach.covIn {ts : List Thg} {a : List (List Rgt)} (ht : tabOk ts = true) (h : IsReach ts a) {k : Nat} (hk : k < ts.length) {r : Rgt} (hg : Dn ts ((k : Int) + 1) r) (hr : rgtOk r = true) : r.thing = 0 ∨ ∃ s ∈ rowA a k, rgtIn r s = true := by
  by_cases h0 : r.thing = 0
  · exact .inl h0
  · obtain ⟨s, hs, hl⟩ := h.cov ht hk hg h0
    exact .inr ⟨s, hs, by simp [rgtIn, hr, (h.okR ht hk hs).1, hl]⟩
theorem slots_okT {ts : List Thg} (ht : tabOk ts = true) {i : Nat} {t : Thg} (hi : ts[i]? = some t) : ∀ r ∈ t.slots, rgtOk r = true := fun r hr => by
  have := tab_thgOk ht (ex_at (nat_lt hi))
  rw [getT_nat hi] at this
  exact slot_ok this hr
/-- P97: a thing has what it has. -/
theorem reach_has {ts : List Thg} {a : List (List Rgt)} (ht : tabOk ts = true) (h : IsReach ts a) {i : Nat} {t : Thg} (hi : ts[i]? = some t) {r : Rgt} (hr : r ∈ t.slots) : r.thing = 0 ∨ ∃ s ∈ rowA a i, rgtIn r s = true := by
  by_cases h0 : r.thing = 0
  · exact .inl h0
  · exact h.covIn ht (nat_lt hi) (Got.own (ex_at (nat_lt hi)) (by rw [getT_nat hi]; exact hr) h0).dn (slots_okT ht hi r hr)
theorem ord_ne {l : List Rgt} (h : Ord l) {m n : Nat} {x y : Rgt} (hx : l[m]? = some x) (hy : l[n]? = some y) (hne : n ≠ m) : x ≠ y := by
  intro e
  have h1 := nat_lt hx
  have h2 := nat_lt hy
  rw [List.getElem?_eq_getElem h1] at hx
  rw [List.getElem?_eq_getElem h2] at hy
  have e1 : l[m] = x := by simpa using hx
  have e2 : l[n] = y := by simpa using hy
  have hp := List.pairwise_iff_getElem.1 h
  rcases Nat.lt_or_gt_of_ne hne with h' | h'
  · have := hp n m h2 h1 h'; rw [e1, e2, e] at this; omega
  · have := hp m n h1 h2 h'; rw [e1, e2, e] at this; omega
theorem reach_two {ts : List Thg} {a : List (List Rgt)} (h : IsReach ts a) {k : Nat} (hk : k < ts.length) {m n : Nat} {x y : Rgt} (hx : (rowA a k)[m]? = some x) (hy : (rowA a k)[n]? = some y) (hne : n ≠ m) : rgtIn x y = false := by
  cases hq : rgtIn x y with
  | false => rfl
  | true =>
    simp only [rgtIn, Bool.and_eq_true] at hq
    exact absurd (((h.mem k hk x).1 (List.mem_of_getElem? hx)).2 y (h.got hk (List.mem_of_getElem? hy)) hq.2).symm (ord_ne (h.ord k) hx hy hne)
theorem reach_kind {ts : List Thg} {a : List (List Rgt)} (ht : tabOk ts = true) (h : IsReach ts a) {i : Nat} {t : Thg} (hi : ts[i]? = some t) (hk : t.kind ≠ 2) (hk' : t.kind ≠ 3) : rowA a i = [] := by
  apply List.eq_nil_iff_forall_not_mem.2
  intro r hr
  have := ((h.got (nat_lt hi) hr).ok ht).kind
  rw [getT_nat hi] at this
  exact this.elim hk hk'
theorem reach_none {ts : List Thg} {a : List (List Rgt)} (ht : tabOk ts = true) (h : IsReach ts a) {i : Nat} {t : Thg} (hi : ts[i]? = some t) (hs : t.slots = []) : rowA a i = [] := by
  have h1 := tab_thgOk ht (ex_at (nat_lt hi))
  rw [getT_nat hi] at h1
  refine reach_kind ht h hi (fun e => ?_) (fun e => ?_)
  · have := slots_len h1 (.inl e); rw [hs] at this; cases this
  · have := slots_len h1 (.inr e); rw [hs] at this; cases this
/-- P106: who has no right to any node has just its own. -/
theorem reach_apart {ts : List Thg} {a : List (List Rgt)} (ht : tabOk ts = true) (h : IsReach ts a) {i : Nat} {t : Thg} (hi : ts[i]? = some t) (hk : t.kind = 3) (hno : ∀ r ∈ t.slots, r.thing > 0 → (getT ts r.thing).kind ≠ 2) {r : Rgt} (hr : r ∈ rowA a i) : ∃ s ∈ t.slots, rgtIn r s = true := by
  have hg := h.got (nat_lt hi) hr
  have hka : kindAt ts ((i : Int) + 1) 3 = true := by simp [kindAt, ex_at (nat_lt hi), getT_nat hi, hk]
  have := Got.apart ht hka (fun s hs h0 => by
    rw [getT_nat hi] at hs
    have := rgt_bounds (slots_okT ht hi s hs) h0
    exact hno s hs (by omega)) hg rfl
  rw [getT_nat hi] at this
  refine ⟨r, this, ?_⟩
  simp [rgtIn, (h.okR ht (nat_lt hi) hr).1, rgtIn1_refl]
/-- P104: what one fetches one could come to have. -/
theorem reach_step {ts : List Thg} {a : List (List Rgt)} (ht : tabOk ts = true) (h : IsReach ts a) {i : Nat} {t : Thg} (hi : ts[i]? = some t) (hk : t.kind = 3) {b : Rgt} (hb : b ∈ t.slots) (hl : live ts b = true) (hrd : b.rd = true) (hn : (getT ts b.thing).kind = 2)
    {x : Rgt} (hx : x ∈ (getT ts b.thing).slots) : (less x true (!b.wk) (!b.wk)).thing = 0 ∨ ∃ s ∈ rowA a i, rgtIn (less x true (!b.wk) (!b.wk)) s = true := by
  have hex : ex ts b.thing = true := by simp only [live, Bool.and_eq_true] at hl; exact hl.1
  have hox := slot_ok (tab_thgOk ht hex) hx
  have e : less x true (!b.wk) (!b.wk) = fet b x := by
    simp only [less, if_pos hox, fet]
    cases hw : b.wk
    · simp only [Bool.not_false, Bool.false_eq_true, if_false]
      unfold less1
      split
      · rfl
      · simp
    · simp
  rw [e]
  by_cases h0 : x.thing = 0
  · exact .inl (by rw [fet_thing]; exact h0)
  · refine h.covIn ht (nat_lt hi) (Got.fetch (by simp [kindAt, ex_at (nat_lt hi), getT_nat hi, hk]) (Got.own (ex_at (nat_lt hi)) (by rw [getT_nat hi]; exact hb) ?_) (by simp [kindAt, hex, hn]) hl hrd (Got.own hex hx h0)).dn (fet_ok hox)
    intro hb0
    rw [hb0] at hex
    rw [ex_iff] at hex; omega
/-- A table with a right more. -/
def plusT (ts : List Thg) (i slot k : Nat) (wr : Bool) : List Thg := setT ts ((i : Int) + 1) (setSlot (slot : Int) ⟨(k : Int) + 1, (getT ts ((k : Int) + 1)).vers, true, wr, false⟩)
theorem plus_ok {ts : List Thg} (ht : tabOk ts = true) {i slot k : Nat} {wr : Bool} (hi : i < ts.length) (hk : k < ts.length) : tabOk (plusT ts i slot k wr) = true ∧ Same ts (plusT ts i slot k wr) := by
  have h8 : ts.length ≤ 8 := ((tab_iff.1 ht).1).2
  have hv : versOk (getT ts ((k : Int) + 1)) = true := (thg_parts.1 (tab_thgOk ht (ex_at hk))).2.2.1
  have hv' : 0 ≤ (getT ts ((k : Int) + 1)).vers ∧ (getT ts ((k : Int) + 1)).vers ≤ 5 := by
    unfold versOk at hv
    split at hv
    · simpa [inR] using hv
    · have : (getT ts ((k : Int) + 1)).vers = 0 := by simpa using hv
      omega
  have h0 : ((k : Int) + 1) ≠ 0 := by omega
  refine tab_setSlot ht (ex_at hi) slot _ ?_ ?_
  · simp [rgtOk, h0, inR]; omega
  · simp [capOk, ex_at hk]
theorem reach_more {ts : List Thg} {a b : List (List Rgt)} (ht : tabOk ts = true) (h : IsReach ts a) {i slot k : Nat} {wr : Bool} {t : Thg} (hi : ts[i]? = some t) (hk : k < ts.length) {o : Rgt} (ho : t.slots[slot]? = some o) (h0 : o.thing = 0)
    (hb : IsReach (plusT ts i slot k wr) b) {j : Nat} (hj : j < ts.length) {r : Rgt} (hr : r ∈ rowA a j) : r.thing = 0 ∨ ∃ s ∈ rowA b j, rgtIn r s = true := by
  obtain ⟨hu, hS⟩ := plus_ok (slot := slot) (wr := wr) ht (nat_lt hi) hk
  have hex := ex_at (nat_lt hi)
  have hget : ∀ m, ex ts m = true → getT (plusT ts i slot k wr) m = if m = (i : Int) + 1 then setSlot (slot : Int) ⟨(k : Int) + 1, (getT ts ((k : Int) + 1)).vers, true, wr, false⟩ (getT ts ((i : Int) + 1)) else getT ts m := fun m hm => getT_setT _ hex hm
  have hg : Got (plusT ts i slot k wr) ((j : Int) + 1) r := by
    refine Got.more hS (fun m hm => ?_) (fun m hm x hx hx0 => ?_) (h.got hj hr)
    · rw [hget m hm]; split
      · rename_i e; rw [e]; rfl
      · rfl
    · refine Got.own (by rw [hS.ex]; exact hm) ?_ hx0
      rw [hget m hm]; split
      · rename_i e
        rw [e, getT_nat hi] at hx
        rw [getT_nat hi]
        obtain ⟨q, hq⟩ := List.mem_iff_getElem?.1 hx
        have hqs : q ≠ slot := by
          intro e2
          rw [e2, ho] at hq
          have : o = x := by simpa using hq
          rw [← this] at hx0; exact hx0 h0
        refine List.mem_iff_getElem?.2 ⟨q, ?_⟩
        show (t.slots.set (slot : Int).toNat _)[q]? = some x
        rw [List.getElem?_set, if_neg (by simpa using Ne.symm hqs)]
        exact hq
      · exact hx
  exact hb.covIn hu (by rw [hS.len]; exact hj) hg.dn (h.okR ht hj hr).1
end Drw

/- The program's gathered sets as they lie in memory. Conditions: none. -/
namespace Go.Proofs.YtiolplhgpodifaaGreat
open Go.RowKit Drw
attribute [local go_sem] Lab.val Rgt.val Cal.val Thg.val

/-- The blocks of the maps. -/
def Mp (n : Nat) (bp : Nat → Nat) : Nat → Prop := fun k => ∃ i, i < n ∧ bp i = k
structure RchAt (w0 w : World) (R H hc : Nat) (p : Option Addr) (cap : Nat) (ts : List Thg) (sp bp : Nat → Nat) (a : List (List Rgt)) : Prop where
  ok : tabOk ts = true
  gat : Gat ts a
  own : ∀ i, i < ts.length → ∀ r ∈ (getT ts ((i : Int) + 1)).slots, r.thing ≠ 0 → r ∈ rowA a i
  tab0 : TabAt w0 (.slice p ts.length cap) ts
  base : Below w0.heap.size w0 w
  tab : w.cell? ⟨R, 0, none⟩ = some (.slice p ts.length cap)
  held : w.cell? ⟨R, 1, none⟩ = some (.slice (some ⟨H, 0, none⟩) ts.length hc)
  ptr : ∀ i, i < ts.length → w.cell? ⟨H, i, none⟩ = some (.pointer (some ⟨sp i, 0, none⟩))
  set : ∀ i, i < ts.length → SetAt w (sp i) (bp i) (rowA a i)
  inj : ∀ i j, i < ts.length → j < ts.length → bp i = bp j → i = j
  far : ∀ i, i < ts.length → w0.heap.size ≤ bp i ∧ bp i ≠ R ∧ bp i ≠ H ∧ ∀ j, j < ts.length → bp i ≠ sp j
theorem cell_lt {w : World} {b o : Nat} {u : Value} (h : w.cell? ⟨b, o, none⟩ = some u) : b < w.heap.size := World.block_lt_of_cell? _ _ h
theorem SetAt.chg {w w' : World} {s b : Nat} {S : List Rgt} {M : Nat → Prop} (h : SetAt w s b S) (hg : Chg M w w') (h1 : ¬ M s) (h2 : ¬ M b) : SetAt w' s b S :=
  h.same (hg.block s h.lt.1 h1) (hg.block b h.lt.2 h2)
theorem RchAt.table {w0 w : World} {R H hc : Nat} {p : Option Addr} {cap : Nat} {ts : List Thg} {sp bp : Nat → Nat} {a : List (List Rgt)} (h : RchAt w0 w R H hc p cap ts sp bp a) : TabAt w (.slice p ts.length cap) ts := h.tab0.pure h.base
theorem RchAt.len8 {w0 w : World} {R H hc : Nat} {p : Option Addr} {cap : Nat} {ts : List Thg} {sp bp : Nat → Nat} {a : List (List Rgt)} (h : RchAt w0 w R H hc p cap ts sp bp a) : 1 ≤ ts.length ∧ ts.length ≤ 8 := by
  have := h.ok
  simp only [tabOk, Bool.and_eq_true, inR, decide_eq_true_eq] at this
  omega
theorem RchAt.pure {w0 w w' : World} {R H hc : Nat} {p : Option Addr} {cap : Nat} {ts : List Thg} {sp bp : Nat → Nat} {a : List (List Rgt)} (h : RchAt w0 w R H hc p cap ts sp bp a) (hb : Below w.heap.size w w') : RchAt w0 w' R H hc p cap ts sp bp a :=
  { h with
    base := h.base.trans (hb.mono h.base.size)
    tab := (hb.cell (cell_lt h.tab)).trans h.tab
    held := (hb.cell (cell_lt h.held)).trans h.held
    ptr := fun i hi => (hb.cell (cell_lt (h.ptr i hi))).trans (h.ptr i hi)
    set := fun i hi => (h.set i hi).pure hb }
theorem RchAt.add {w0 w w' : World} {R H hc : Nat} {p : Option Addr} {cap : Nat} {ts : List Thg} {sp bp : Nat → Nat} {a : List (List Rgt)} {i : Nat} {r : Rgt} (h : RchAt w0 w R H hc p cap ts sp bp a) (hi : i < ts.length)
    (hr : Got ts ((i : Int) + 1) r) (hs : SetAt w' (sp i) (bp i) (add1 (rowA a i) r)) (hg : Chg (fun k => k = bp i) w w') : RchAt w0 w' R H hc p cap ts sp bp (addA a i r) := by
  have hl : i < a.length := by have := h.gat.len; omega
  obtain ⟨f0, f1, f2, f3⟩ := h.far i hi
  refine ⟨h.ok, h.gat.add hi hr, fun j hj x hx h0 => ?_, h.tab0, ?_, ?_, ?_, ?_, ?_, h.inj, h.far⟩
  · rw [addA_row hl]
    split
    · rename_i e; subst e; exact add1_mem.2 (.inl (h.own j hj x hx h0))
    · exact h.own j hj x hx h0
  · exact h.base.trans (hg.below h.base.size (fun k hk e => by omega))
  · exact hg.cell h.tab (fun e => f1 e.symm)
  · exact hg.cell h.held (fun e => f1 e.symm)
  · exact fun j hj => hg.cell (h.ptr j hj) (fun e => f2 e.symm)
  · intro j hj
    rw [addA_row hl]
    split
    · rename_i e; subst e; exact hs
    · rename_i e
      exact (h.set j hj).chg hg (fun e' => f3 j hj e'.symm) (fun e' => e (h.inj _ _ hj hi e'))
theorem Mp.of {n : Nat} {bp : Nat → Nat} {i : Nat} (hi : i < n) {w w' : World} (hg : Chg (fun k => k = bp i) w w') : Chg (Mp n bp) w w' := hg.mono fun k _ e => ⟨i, hi, e.symm⟩

theorem wrap1 {i : Nat} (h : i < 100) : IntKind.i64.wrap ((i : Int) + 1 - 1) = (i : Int) := by rw [show (i : Int) + 1 - 1 = i by omega]; exact IntWalk.i64_in _ (by omega)

/-- A right put into a thing's set. -/
theorem rchAdd_c {w0 w : World} {R H hc : Nat} {p : Option Addr} {cap : Nat} {ts : List Thg} {sp bp : Nat → Nat} {a : List (List Rgt)} {i : Nat} {r : Rgt} (h : RchAt w0 w R H hc p cap ts sp bp a) (hi : i < ts.length) (hr : Got ts ((i : Int) + 1) r) :
    Calls Tryz.prog 62 #[.pointer (some ⟨sp i, 0, none⟩), r.val] w fun e w' => e = .returned (.bool (!decide (r ∈ rowA a i))) ∧ RchAt w0 w' R H hc p cap ts sp bp (addA a i r) ∧ Chg (Mp ts.length bp) w w' := by
  have hl := h.gat.row_len h.ok i
  refine (setAdd_c (h.set i hi) (rgtW_ok ((hr.ok h.ok).ok)) (by unfold maxLen; omega) (fun e => (h.far i hi).2.2.2 i hi e.symm)).mono ?_
  rintro e w' ⟨h1, h2, h3⟩
  exact ⟨h1, h.add hi hr h2 h3, Mp.of hi h3⟩
end Go.Proofs.YtiolplhgpodifaaGreat
