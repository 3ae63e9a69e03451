/- The reference's finding of what can be come to have: its lists of rights. Conditions: what is read lies where its cells say. -/
import Derived.Test.YtiolplhgpodifaaGreatIv
import Derived.Test.YtiolplhgpodifaaGreatB
import Derived.Test.YtiolplhgpodifaaGreatTh
import Derived.Test.YtiolplhgpodifaaGreatY
set_option linter.unusedVariables false
set_option linter.unusedSimpArgs false
namespace Go.Proofs.YtiolplhgpodifaaGreat
open Go.RowKit Drw
attribute [local go_sem] Lab.val Rgt.val Cal.val Thg.val

set_option maxRecDepth 100000 in
set_option maxHeartbeats 4000000 in
theorem l2In_c (a b : Rgt) (w : World) :
    Calls Tryz.prog 106 #[a.val, b.val] w fun e w' => e = .returned (.bool (rgtIn1 a b)) ∧ Below w.heap.size w w' := by
  obtain ⟨v, hv⟩ : ∃ v, rgtIn1 a b = v := ⟨_, rfl⟩
  obtain ⟨a1, a2, a3, a4, a5⟩ := a
  obtain ⟨b1, b2, b3, b4, b5⟩ := b
  have Hv := Lib.hid hv
  rw [hv]
  clear hv
  dsimp only [Rgt.val]
  by_cases h0 : a1 = 0
  · obtain rfl : v = true := by rw [← Hv.out]; simp [rgtIn1, h0]
    subst h0
    go_enter Tryz.func106, Tryz.ntmps106
    go_wp2
    go_ret
    exact ⟨rfl, (by (repeat (with_reducible first | exact Below.refl _ _ | refine Below.alloc ?_ ?_ _ | refine below_drewN ?_ _ | refine Below.drew ?_ | refine Below.setCell ?_ ?_ _ | refine Below.trans ?_ (Below.mono (by assumption) ?_))) <;> (first | omega | (simp; try omega)))⟩
  · have h0' : (a1 == 0) = false := by simpa using h0
    have hund : undef = Value.tuple #[] := rfl
    by_cases h1 : a1 = b1
    · subst h1
      by_cases h2 : a2 = b2
      · subst h2
        have hv := Hv.out
        simp only [rgtIn1, h0', Bool.false_or, beq_self_eq_true, Bool.true_and] at hv
        have Hv := Lib.hid hv.symm
        clear hv
        cases a3
        · cases a4
          · cases a5
            · cases b5
              · obtain rfl : v = true := by rw [Hv.out]; simp
                clear Hv
                go_enter Tryz.func106, Tryz.ntmps106
                go_wp2
                go_ret
                exact ⟨rfl, (by (repeat (with_reducible first | exact Below.refl _ _ | refine Below.alloc ?_ ?_ _ | refine below_drewN ?_ _ | refine Below.drew ?_ | refine Below.setCell ?_ ?_ _ | refine Below.trans ?_ (Below.mono (by assumption) ?_))) <;> (first | omega | (simp; try omega)))⟩
              · obtain rfl : v = false := by rw [Hv.out]; simp
                clear Hv
                go_enter Tryz.func106, Tryz.ntmps106
                go_wp2
                go_ret
                exact ⟨rfl, (by (repeat (with_reducible first | exact Below.refl _ _ | refine Below.alloc ?_ ?_ _ | refine below_drewN ?_ _ | refine Below.drew ?_ | refine Below.setCell ?_ ?_ _ | refine Below.trans ?_ (Below.mono (by assumption) ?_))) <;> (first | omega | (simp; try omega)))⟩
            · obtain rfl : v = true := by rw [Hv.out]; simp
              clear Hv
              go_enter Tryz.func106, Tryz.ntmps106
              go_wp2
              go_ret
              exact ⟨rfl, (by (repeat (with_reducible first | exact Below.refl _ _ | refine Below.alloc ?_ ?_ _ | refine below_drewN ?_ _ | refine Below.drew ?_ | refine Below.setCell ?_ ?_ _ | refine Below.trans ?_ (Below.mono (by assumption) ?_))) <;> (first | omega | (simp; try omega)))⟩
          · cases b4
            · obtain rfl : v = false := by rw [Hv.out]; simp
              clear Hv
              go_enter Tryz.func106, Tryz.ntmps106
              go_wp2
              go_ret
              exact ⟨rfl, (by (repeat (with_reducible first | exact Below.refl _ _ | refine Below.alloc ?_ ?_ _ | refine below_drewN ?_ _ | refine Below.drew ?_ | refine Below.setCell ?_ ?_ _ | refine Below.trans ?_ (Below.mono (by assumption) ?_))) <;> (first | omega | (simp; try omega)))⟩
            · cases a5
              · cases b5
                · obtain rfl : v = true := by rw [Hv.out]; simp
                  clear Hv
                  go_enter Tryz.func106, Tryz.ntmps106
                  go_wp2
                  go_ret
                  exact ⟨rfl, (by (repeat (with_reducible first | exact Below.refl _ _ | refine Below.alloc ?_ ?_ _ | refine below_drewN ?_ _ | refine Below.drew ?_ | refine Below.setCell ?_ ?_ _ | refine Below.trans ?_ (Below.mono (by assumption) ?_))) <;> (first | omega | (simp; try omega)))⟩
                · obtain rfl : v = false := by rw [Hv.out]; simp
                  clear Hv
                  go_enter Tryz.func106, Tryz.ntmps106
                  go_wp2
                  go_ret
                  exact ⟨rfl, (by (repeat (with_reducible first | exact Below.refl _ _ | refine Below.alloc ?_ ?_ _ | refine below_drewN ?_ _ | refine Below.drew ?_ | refine Below.setCell ?_ ?_ _ | refine Below.trans ?_ (Below.mono (by assumption) ?_))) <;> (first | omega | (simp; try omega)))⟩
              · obtain rfl : v = true := by rw [Hv.out]; simp
                clear Hv
                go_enter Tryz.func106, Tryz.ntmps106
                go_wp2
                go_ret
                exact ⟨rfl, (by (repeat (with_reducible first | exact Below.refl _ _ | refine Below.alloc ?_ ?_ _ | refine below_drewN ?_ _ | refine Below.drew ?_ | refine Below.setCell ?_ ?_ _ | refine Below.trans ?_ (Below.mono (by assumption) ?_))) <;> (first | omega | (simp; try omega)))⟩
        · cases b3
          · obtain rfl : v = false := by rw [Hv.out]; simp
            clear Hv
            go_enter Tryz.func106, Tryz.ntmps106
            go_wp2
            go_ret
            exact ⟨rfl, (by (repeat (with_reducible first | exact Below.refl _ _ | refine Below.alloc ?_ ?_ _ | refine below_drewN ?_ _ | refine Below.drew ?_ | refine Below.setCell ?_ ?_ _ | refine Below.trans ?_ (Below.mono (by assumption) ?_))) <;> (first | omega | (simp; try omega)))⟩
          · cases a4
            · cases a5
              · cases b5
                · obtain rfl : v = true := by rw [Hv.out]; simp
                  clear Hv
                  go_enter Tryz.func106, Tryz.ntmps106
                  go_wp2
                  go_ret
                  exact ⟨rfl, (by (repeat (with_reducible first | exact Below.refl _ _ | refine Below.alloc ?_ ?_ _ | refine below_drewN ?_ _ | refine Below.drew ?_ | refine Below.setCell ?_ ?_ _ | refine Below.trans ?_ (Below.mono (by assumption) ?_))) <;> (first | omega | (simp; try omega)))⟩
                · obtain rfl : v = false := by rw [Hv.out]; simp
                  clear Hv
                  go_enter Tryz.func106, Tryz.ntmps106
                  go_wp2
                  go_ret
                  exact ⟨rfl, (by (repeat (with_reducible first | exact Below.refl _ _ | refine Below.alloc ?_ ?_ _ | refine below_drewN ?_ _ | refine Below.drew ?_ | refine Below.setCell ?_ ?_ _ | refine Below.trans ?_ (Below.mono (by assumption) ?_))) <;> (first | omega | (simp; try omega)))⟩
              · obtain rfl : v = true := by rw [Hv.out]; simp
                clear Hv
                go_enter Tryz.func106, Tryz.ntmps106
                go_wp2
                go_ret
                exact ⟨rfl, (by (repeat (with_reducible first | exact Below.refl _ _ | refine Below.alloc ?_ ?_ _ | refine below_drewN ?_ _ | refine Below.drew ?_ | refine Below.setCell ?_ ?_ _ | refine Below.trans ?_ (Below.mono (by assumption) ?_))) <;> (first | omega | (simp; try omega)))⟩
            · cases b4
              · obtain rfl : v = false := by rw [Hv.out]; simp
                clear Hv
                go_enter Tryz.func106, Tryz.ntmps106
                go_wp2
                go_ret
                exact ⟨rfl, (by (repeat (with_reducible first | exact Below.refl _ _ | refine Below.alloc ?_ ?_ _ | refine below_drewN ?_ _ | refine Below.drew ?_ | refine Below.setCell ?_ ?_ _ | refine Below.trans ?_ (Below.mono (by assumption) ?_))) <;> (first | omega | (simp; try omega)))⟩
              · cases a5
                · cases b5
                  · obtain rfl : v = true := by rw [Hv.out]; simp
                    clear Hv
                    go_enter Tryz.func106, Tryz.ntmps106
                    go_wp2
                    go_ret
                    exact ⟨rfl, (by (repeat (with_reducible first | exact Below.refl _ _ | refine Below.alloc ?_ ?_ _ | refine below_drewN ?_ _ | refine Below.drew ?_ | refine Below.setCell ?_ ?_ _ | refine Below.trans ?_ (Below.mono (by assumption) ?_))) <;> (first | omega | (simp; try omega)))⟩
                  · obtain rfl : v = false := by rw [Hv.out]; simp
                    clear Hv
                    go_enter Tryz.func106, Tryz.ntmps106
                    go_wp2
                    go_ret
                    exact ⟨rfl, (by (repeat (with_reducible first | exact Below.refl _ _ | refine Below.alloc ?_ ?_ _ | refine below_drewN ?_ _ | refine Below.drew ?_ | refine Below.setCell ?_ ?_ _ | refine Below.trans ?_ (Below.mono (by assumption) ?_))) <;> (first | omega | (simp; try omega)))⟩
                · obtain rfl : v = true := by rw [Hv.out]; simp
                  clear Hv
                  go_enter Tryz.func106, Tryz.ntmps106
                  go_wp2
                  go_ret
                  exact ⟨rfl, (by (repeat (with_reducible first | exact Below.refl _ _ | refine Below.alloc ?_ ?_ _ | refine below_drewN ?_ _ | refine Below.drew ?_ | refine Below.setCell ?_ ?_ _ | refine Below.trans ?_ (Below.mono (by assumption) ?_))) <;> (first | omega | (simp; try omega)))⟩
      · have h2' : (a2 == b2) = false := by simpa using h2
        obtain rfl : v = false := by rw [← Hv.out]; simp [rgtIn1, h0', h2']
        clear Hv
        go_enter Tryz.func106, Tryz.ntmps106
        go_wp2
        go_ret
        exact ⟨rfl, (by (repeat (with_reducible first | exact Below.refl _ _ | refine Below.alloc ?_ ?_ _ | refine below_drewN ?_ _ | refine Below.drew ?_ | refine Below.setCell ?_ ?_ _ | refine Below.trans ?_ (Below.mono (by assumption) ?_))) <;> (first | omega | (simp; try omega)))⟩
    · have h1' : (a1 == b1) = false := by simpa using h1
      obtain rfl : v = false := by rw [← Hv.out]; simp [rgtIn1, h0', h1']
      clear Hv
      go_enter Tryz.func106, Tryz.ntmps106
      go_wp2
      go_ret
      exact ⟨rfl, (by (repeat (with_reducible first | exact Below.refl _ _ | refine Below.alloc ?_ ?_ _ | refine below_drewN ?_ _ | refine Below.drew ?_ | refine Below.setCell ?_ ?_ _ | refine Below.trans ?_ (Below.mono (by assumption) ?_))) <;> (first | omega | (simp; try omega)))⟩
theorem l2In_t {a b : Rgt} {v : Bool} {w : World} (h : rgtIn1 a b = v) : Calls Tryz.prog 106 #[a.val, b.val] w fun e w' => e = .returned (.bool v) ∧ Below w.heap.size w w' := by
  subst h; exact l2In_c a b w

theorem any_next {rs : List Rgt} {i : Nat} {x : Rgt} (h : rs[i]? = some x) (f : Rgt → Bool) : (rs.take (i + 1)).any f = ((rs.take i).any f || f x) := by
  rw [List.take_add_one, h]
  simp

set_option maxRecDepth 100000 in
set_option maxHeartbeats 4000000 in
theorem l22In_c (p : Option Addr) (cap : Nat) (rs : List Rgt) (r : Rgt) (w : World) (hR : RgtsAt w (.slice p rs.length cap) rs) :
    Calls Tryz.prog 105 #[.slice p rs.length cap, r.val] w fun e w' => e = .returned (.bool (in22 rs r)) ∧ Below w.heap.size w w' := by
  obtain ⟨_, _, h1, hl1, hl2⟩ := hR.len
  cases h1
  unfold maxLen at hl2
  have HR := Lib.hid hR
  clear hR
  obtain ⟨r1, r2, r3, r4, r5⟩ := r
  go_enter Tryz.func105, Tryz.ntmps105
  go_upto_region 1 with (fail)
  generalize hwa : World.alloc _ _ = wa
  have hB0 : Below w.heap.size w wa := by rw [← hwa]; exact (by (repeat (with_reducible first | exact Below.refl _ _ | refine Below.alloc ?_ ?_ _ | refine below_drewN ?_ _ | refine Below.drew ?_ | refine Below.setCell ?_ ?_ _ | refine Below.trans ?_ (Below.mono (by assumption) ?_))) <;> (first | omega | (simp; try omega)))
  have hza : w.heap.size < wa.heap.size := by rw [← hwa]; simp
  have g : wa.cell? ⟨w.heap.size, 0, none⟩ = some (.int .i64 r1) ∧ wa.cell? ⟨w.heap.size, 1, none⟩ = some (.int .i64 r2) ∧ wa.cell? ⟨w.heap.size, 2, none⟩ = some (.bool r3) ∧ wa.cell? ⟨w.heap.size, 3, none⟩ = some (.bool r4) ∧ wa.cell? ⟨w.heap.size, 4, none⟩ = some (.bool r5) := by rw [← hwa]; simp [go_sem]
  have HG := Lib.hid (show ∀ w', Below wa.heap.size wa w' → (Below wa.heap.size wa w' ∧ w'.cell? ⟨w.heap.size, 0, none⟩ = some (.int .i64 r1) ∧ w'.cell? ⟨w.heap.size, 1, none⟩ = some (.int .i64 r2) ∧ w'.cell? ⟨w.heap.size, 2, none⟩ = some (.bool r3) ∧ w'.cell? ⟨w.heap.size, 3, none⟩ = some (.bool r4) ∧ w'.cell? ⟨w.heap.size, 4, none⟩ = some (.bool r5)) from fun w' h => by
    obtain ⟨hc', -⟩ := bcell h
    exact ⟨h, (hc' _ _ hza).trans g.1, (hc' _ _ hza).trans g.2.1, (hc' _ _ hza).trans g.2.2.1, (hc' _ _ hza).trans g.2.2.2.1, (hc' _ _ hza).trans g.2.2.2.2⟩)
  have HB0 := Lib.hid hB0
  clear hwa g hB0
  go_wp2
  go_loopw [5] (fun s5 wr => ∃ i : Nat, s5 = .int .i64 (i : Int) ∧ i ≤ rs.length ∧ (rs.take i).any (fun x => rgtIn1 ⟨r1, r2, r3, r4, r5⟩ x) = false ∧ Below wa.heap.size wa wr) (fun s5 _ => rs.length - (intOf s5).toNat)
  case atStart => exact ⟨0, rfl, by omega, by simp, Below.refl _ _⟩
  case round =>
    obtain ⟨i, rfl, hi, hno, hBr⟩ := hrel
    have Hno := Lib.hid hno
    have HBr := Lib.hid hBr
    have hzr := hBr.size
    obtain ⟨wr', rfl⟩ : ∃ wy : World, wy = wr := ⟨_, rfl⟩
    clear hno
    by_cases hlt : i < rs.length
    · obtain ⟨x, hx⟩ : ∃ x, rs[i]? = some x := ⟨_, List.getElem?_eq_getElem hlt⟩
      have hB1 := HB0.out.trans (hBr.mono HB0.out.size)
      obtain ⟨b, o, rfl, hb, y0, y1, y2, y3, y4⟩ := (HR.out.pure hB1).at i x hx
      obtain ⟨v, hv⟩ : ∃ v, rgtIn1 ⟨r1, r2, r3, r4, r5⟩ x = v := ⟨_, rfl⟩
      have hn : (rs.take (i + 1)).any (fun x => rgtIn1 ⟨r1, r2, r3, r4, r5⟩ x) = v := by rw [any_next hx, Hno.out, hv]; rfl
      have ht : v = true → in22 rs ⟨r1, r2, r3, r4, r5⟩ = true := fun e => by
        simp only [in22, covB, Bool.or_eq_true, List.any_eq_true]
        exact .inl ⟨x, List.mem_of_getElem? hx, by rw [hv, e]⟩
      have Hv := Lib.hid hv
      have Hn := Lib.hid hn
      have Ht := Lib.hid ht
      have hj0 : (0 : Int) ≤ (i : Int) := by omega
      have hju : (i : Int) < (rs.length : Int) := by omega
      obtain ⟨x1, x2, x3, x4, x5⟩ := x
      dsimp only at y0 y1 y2 y3 y4
      have HS := Lib.hid (show ∀ w' : World, Below wr'.heap.size wr' w' → (Below wr'.heap.size wr' w' ∧ (w'.cell? ⟨w.heap.size, 0, none⟩ = some (.int .i64 r1) ∧ w'.cell? ⟨w.heap.size, 1, none⟩ = some (.int .i64 r2) ∧ w'.cell? ⟨w.heap.size, 2, none⟩ = some (.bool r3) ∧ w'.cell? ⟨w.heap.size, 3, none⟩ = some (.bool r4) ∧ w'.cell? ⟨w.heap.size, 4, none⟩ = some (.bool r5)) ∧ w'.cell? ⟨b, o + i * 5, none⟩ = some (.int .i64 x1) ∧ w'.cell? ⟨b, o + i * 5 + 1, none⟩ = some (.int .i64 x2) ∧ w'.cell? ⟨b, o + i * 5 + 2, none⟩ = some (.bool x3) ∧ w'.cell? ⟨b, o + i * 5 + 3, none⟩ = some (.bool x4) ∧ w'.cell? ⟨b, o + i * 5 + 4, none⟩ = some (.bool x5)) from fun w' h => by
        obtain ⟨hc', -⟩ := bcell h
        exact ⟨h, (HG.out _ (HBr.out.trans (h.mono hzr))).2, (hc' _ _ hb).trans y0, (hc' _ _ hb).trans y1, (hc' _ _ hb).trans y2, (hc' _ _ hb).trans y3, (hc' _ _ hb).trans y4⟩)
      clear hx hv hn ht hBr hB1 y0 y1 y2 y3 y4
      go_upto_region 4 with (fail)
      go_cut [17] (fun sC wy => sC = .bool v ∧ Below wr'.heap.size wr' wy)
      case first =>
        first | (go_region_held3 (fun w' => Below wr'.heap.size wr' w' ∧ (w'.cell? ⟨w.heap.size, 0, none⟩ = some (.int .i64 r1) ∧ w'.cell? ⟨w.heap.size, 1, none⟩ = some (.int .i64 r2) ∧ w'.cell? ⟨w.heap.size, 2, none⟩ = some (.bool r3) ∧ w'.cell? ⟨w.heap.size, 3, none⟩ = some (.bool r4) ∧ w'.cell? ⟨w.heap.size, 4, none⟩ = some (.bool r5)) ∧ w'.cell? ⟨b, o + i * 5, none⟩ = some (.int .i64 x1) ∧ w'.cell? ⟨b, o + i * 5 + 1, none⟩ = some (.int .i64 x2) ∧ w'.cell? ⟨b, o + i * 5 + 2, none⟩ = some (.bool x3) ∧ w'.cell? ⟨b, o + i * 5 + 3, none⟩ = some (.bool x4) ∧ w'.cell? ⟨b, o + i * 5 + 4, none⟩ = some (.bool x5))
          (first | assumption | exact HS.out _ (Below.refl _ _) | exact HS.out _ (Below.drew (Below.refl _ _)) | (have hX := And.left (by assumption : Below wr'.heap.size wr' _ ∧ _); exact HS.out _ (hX.trans (hb3.mono hX.size))))
          (first | (go_at_call 106; refine (l2In_t (a := ⟨_, _, _, _, _⟩) (b := ⟨_, _, _, _, _⟩) Hv.out).mono ?_; rintro e w3 ⟨rfl, hb3⟩))) | fail
        all_goals (go_wp2; go_meet; exact ⟨rfl, And.left (by assumption : Below wr'.heap.size wr' _ ∧ _)⟩)
      case rest =>
        obtain ⟨rfl, hBy⟩ := hcut
        obtain ⟨wy, rfl⟩ : ∃ wy : World, wy = wc := ⟨_, rfl⟩
        have HBy := Lib.hid hBy
        clear hBy
        cases v
        · go_wp2
          exact ⟨⟨i + 1, by go_num, by omega, Hn.out, HBr.out.trans (HBy.out.mono hzr)⟩, by simp [intOf]; omega⟩
        · go_wp2
          go_ret
          exact ⟨ret_bool (Ht.out (by trivial)).symm, HB0.out.trans ((HBr.out.trans (HBy.out.mono hzr)).mono HB0.out.size)⟩
    · have hnl : ¬ (i : Int) < (rs.length : Int) := by omega
      have hil : i = rs.length := by omega
      have hn := Hno.out
      rw [hil, List.take_length] at hn
      have Hin := Lib.hid (show in22 rs ⟨r1, r2, r3, r4, r5⟩ = (r1 == 0) by simp only [in22, covB, hn, Bool.false_or])
      obtain ⟨-, q0, -⟩ := HG.out _ hBr
      clear hn hBr hil
      go_wp2
      go_ret
      exact ⟨ret_bool (by rw [Hin.out]), HB0.out.trans (HBr.out.mono HB0.out.size)⟩
theorem l22In_t {p : Option Addr} {cap : Nat} {rs : List Rgt} {r : Rgt} {v : Bool} {w : World} (hR : RgtsAt w (.slice p rs.length cap) rs) (h : in22 rs r = v) :
    Calls Tryz.prog 105 #[.slice p rs.length cap, r.val] w fun e w' => e = .returned (.bool v) ∧ Below w.heap.size w w' := by
  subst h; exact l22In_c p cap rs r w hR

/-- A result's own block is the argument's, or it is new: between B and E. -/
def OwnOr (v v' : Value) (B E : Nat) : Prop := ∀ k, v'.ownBlock = some k → v.ownBlock = some k ∨ (B ≤ k ∧ k < E)
theorem OwnOr.same (v : Value) (B E : Nat) : OwnOr v v B E := fun _ h => .inl h
theorem OwnOr.mono {v v' : Value} {B B' E E' : Nat} (h : OwnOr v v' B E) (hB : B' ≤ B) (hE : E ≤ E') : OwnOr v v' B' E' := fun k hk => (h k hk).imp id (fun h => ⟨Nat.le_trans hB h.1, Nat.lt_of_lt_of_le h.2 hE⟩)
theorem OwnOr.trans {a b c : Value} {B E : Nat} (h : OwnOr a b B E) (k : OwnOr b c B E) : OwnOr a c B E := fun j hj => by
  rcases k j hj with h1 | h1
  · exact h j h1
  · exact .inr h1
theorem filter_next {rs : List Rgt} {i : Nat} {x : Rgt} (h : rs[i]? = some x) (f : Rgt → Bool) : (rs.take (i + 1)).filter f = (rs.take i).filter f ++ (if f x then [x] else []) := by
  rw [List.take_add_one, h, List.filter_append]
  cases hf : f x <;> simp [hf]

set_option maxRecDepth 100000 in
set_option maxHeartbeats 4000000 in
theorem l22Put_c (p : Option Addr) (cap : Nat) (rs : List Rgt) (r : Rgt) (w : World) (hR : RgtsAt w (.slice p rs.length cap) rs) (hn : rs.length ≤ 400) :
    Calls Tryz.prog 97 #[.slice p rs.length cap, r.val] w fun e w' => ∃ q k, e = .returned (.tuple #[.slice q (put22 rs r).1.length k, .bool (put22 rs r).2]) ∧ RgtsAt w' (.slice q (put22 rs r).1.length k) (put22 rs r).1 ∧ OwnOr (.slice p rs.length cap) (.slice q (put22 rs r).1.length k) w.heap.size w'.heap.size ∧ Below w.heap.size w w' := by
  obtain ⟨_, _, h1, hl1, hl2⟩ := hR.len
  cases h1
  unfold maxLen at hl2
  have HR := Lib.hid hR
  clear hR
  obtain ⟨vi, hvi⟩ : ∃ v, in22 rs r = v := ⟨_, rfl⟩
  have Hvi := Lib.hid hvi
  cases vi
  · have hr : put22 rs r = (rs.filter (fun x => !rgtIn1 x r) ++ [r], true) := by simp [put22, hvi]
    rw [hr]
    clear hvi hr
    obtain ⟨i0, hi0, hz0, hz1, hz2⟩ := info_parts info_rgt
    obtain ⟨r1, r2, r3, r4, r5⟩ := r
    go_enter Tryz.func97, Tryz.ntmps97
    go_upto_region 1 with (fail)
    generalize hwa : World.alloc _ _ = wa
    have hB0 : Below w.heap.size w wa := by rw [← hwa]; exact (by (repeat (with_reducible first | exact Below.refl _ _ | refine Below.alloc ?_ ?_ _ | refine below_drewN ?_ _ | refine Below.drew ?_ | refine Below.setCell ?_ ?_ _ | refine Below.trans ?_ (Below.mono (by assumption) ?_))) <;> (first | omega | (simp; try omega)))
    have hza : w.heap.size < wa.heap.size := by rw [← hwa]; simp
    have g : wa.cell? ⟨w.heap.size, 0, none⟩ = some (.int .i64 r1) ∧ wa.cell? ⟨w.heap.size, 1, none⟩ = some (.int .i64 r2) ∧ wa.cell? ⟨w.heap.size, 2, none⟩ = some (.bool r3) ∧ wa.cell? ⟨w.heap.size, 3, none⟩ = some (.bool r4) ∧ wa.cell? ⟨w.heap.size, 4, none⟩ = some (.bool r5) := by rw [← hwa]; simp [go_sem]
    have HG := Lib.hid (show ∀ w', Below wa.heap.size wa w' → (Below wa.heap.size wa w' ∧ w'.cell? ⟨w.heap.size, 0, none⟩ = some (.int .i64 r1) ∧ w'.cell? ⟨w.heap.size, 1, none⟩ = some (.int .i64 r2) ∧ w'.cell? ⟨w.heap.size, 2, none⟩ = some (.bool r3) ∧ w'.cell? ⟨w.heap.size, 3, none⟩ = some (.bool r4) ∧ w'.cell? ⟨w.heap.size, 4, none⟩ = some (.bool r5)) from fun w' h => by
      obtain ⟨hc', -⟩ := bcell h
      exact ⟨h, (hc' _ _ hza).trans g.1, (hc' _ _ hza).trans g.2.1, (hc' _ _ hza).trans g.2.2.1, (hc' _ _ hza).trans g.2.2.2.1, (hc' _ _ hza).trans g.2.2.2.2⟩)
    obtain ⟨g0, g1, g2, g3, g4⟩ := g
    have HB0 := Lib.hid hB0
    clear hwa hB0
    go_upto_region 3 with (go_at_call 105; refine (l22In_t (r := ⟨_, _, _, _, _⟩) (HR.out.pure HB0.out) Hvi.out).mono ?_; rintro e w1 ⟨rfl, hb1⟩)
    obtain ⟨wb, rfl⟩ : ∃ wy : World, wy = w1 := ⟨_, rfl⟩
    have hzb := hb1.size
    have HB1 := Lib.hid (HB0.out.trans (hb1.mono HB0.out.size))
    have HG1 := Lib.hid (show ∀ w', Below wb.heap.size wb w' → (Below wb.heap.size wb w' ∧ w'.cell? ⟨w.heap.size, 0, none⟩ = some (.int .i64 r1) ∧ w'.cell? ⟨w.heap.size, 1, none⟩ = some (.int .i64 r2) ∧ w'.cell? ⟨w.heap.size, 2, none⟩ = some (.bool r3) ∧ w'.cell? ⟨w.heap.size, 3, none⟩ = some (.bool r4) ∧ w'.cell? ⟨w.heap.size, 4, none⟩ = some (.bool r5)) from fun w' h => ⟨h, (HG.out _ (hb1.trans (h.mono hzb))).2⟩)
    have hlit : (wb.alloc (.cells #[] 35)).ownsRow wb.heap.size 35 5 (.slice (some ⟨wb.heap.size, 0, none⟩) 0 0) 0 [] := own_lit wb.heap.size rfl (Nat.le_refl _)
    have Hlit := Lib.hid hlit
    have hwb : w.heap.size ≤ wb.heap.size := by omega
    clear g0 g1 g2 g3 g4 hlit hb1
    go_wp2
    go_loopw [6, 7] (fun s6 s7 wr => ∃ i : Nat, s7 = .int .i64 (i : Int) ∧ i ≤ rs.length ∧ wr.ownsRow wb.heap.size 35 5 s6 ((rs.take i).filter (fun x => !rgtIn1 x ⟨r1, r2, r3, r4, r5⟩)).length ((((rs.take i).filter (fun x => !rgtIn1 x ⟨r1, r2, r3, r4, r5⟩)).map Rgt.cells).flatten) ∧ Below wb.heap.size wb wr) (fun _ s7 _ => rs.length - (intOf s7).toNat)
    case atStart => exact ⟨0, rfl, by omega, by simpa using Hlit.out, (by (repeat (with_reducible first | exact Below.refl _ _ | refine Below.alloc ?_ ?_ _ | refine below_drewN ?_ _ | refine Below.drew ?_ | refine Below.setCell ?_ ?_ _ | refine Below.trans ?_ (Below.mono (by assumption) ?_))) <;> (first | omega | (simp; try omega)))⟩
    case round =>
      obtain ⟨i, rfl, hi, hown, hBr⟩ := hrel
      obtain ⟨fl, hfl⟩ : ∃ fl, (rs.take i).filter (fun x => !rgtIn1 x ⟨r1, r2, r3, r4, r5⟩) = fl := ⟨_, rfl⟩
      rw [hfl] at hown
      have hfll : fl.length ≤ 400 := by
        rw [← hfl]
        refine Nat.le_trans (List.length_filter_le _ _) ?_
        rw [List.length_take]
        omega
      have Hfl := Lib.hid hfl
      have Hown := Lib.hid hown
      obtain ⟨q7, c7, rfl⟩ := own_slice_n hown
      have HBr := Lib.hid hBr
      have hzr := hBr.size
      have hBw := HB1.out.trans (hBr.mono hwb)
      have HBw := Lib.hid hBw
      obtain ⟨wr', rfl⟩ : ∃ wy : World, wy = wr := ⟨_, rfl⟩
      by_cases hlt : i < rs.length
      · obtain ⟨x, hx⟩ : ∃ x, rs[i]? = some x := ⟨_, List.getElem?_eq_getElem hlt⟩
        obtain ⟨b, o, rfl, hb, y0, y1, y2, y3, y4⟩ := (HR.out.pure hBw).at i x hx
        obtain ⟨v, hv⟩ : ∃ v, rgtIn1 x ⟨r1, r2, r3, r4, r5⟩ = v := ⟨_, rfl⟩
        have hns : (rs.take (i + 1)).filter (fun x => !rgtIn1 x ⟨r1, r2, r3, r4, r5⟩) = if v then fl else fl ++ [x] := by
          rw [filter_next hx, hfl, hv]
          cases v <;> simp
        have Hv := Lib.hid hv
        have Hns := Lib.hid hns
        have hj0 : (0 : Int) ≤ (i : Int) := by omega
        have hju : (i : Int) < (rs.length : Int) := by omega
        obtain ⟨x1, x2, x3, x4, x5⟩ := x
        dsimp only at y0 y1 y2 y3 y4
        have HS := Lib.hid (show ∀ w' : World, Below wr'.heap.size wr' w' → (Below wr'.heap.size wr' w' ∧ (w'.cell? ⟨w.heap.size, 0, none⟩ = some (.int .i64 r1) ∧ w'.cell? ⟨w.heap.size, 1, none⟩ = some (.int .i64 r2) ∧ w'.cell? ⟨w.heap.size, 2, none⟩ = some (.bool r3) ∧ w'.cell? ⟨w.heap.size, 3, none⟩ = some (.bool r4) ∧ w'.cell? ⟨w.heap.size, 4, none⟩ = some (.bool r5)) ∧ w'.cell? ⟨b, o + i * 5, none⟩ = some (.int .i64 x1) ∧ w'.cell? ⟨b, o + i * 5 + 1, none⟩ = some (.int .i64 x2) ∧ w'.cell? ⟨b, o + i * 5 + 2, none⟩ = some (.bool x3) ∧ w'.cell? ⟨b, o + i * 5 + 3, none⟩ = some (.bool x4) ∧ w'.cell? ⟨b, o + i * 5 + 4, none⟩ = some (.bool x5)) from fun w' h => by
          obtain ⟨hc', -⟩ := bcell h
          exact ⟨h, (HG1.out _ (HBr.out.trans (h.mono hzr))).2, (hc' _ _ hb).trans y0, (hc' _ _ hb).trans y1, (hc' _ _ hb).trans y2, (hc' _ _ hb).trans y3, (hc' _ _ hb).trans y4⟩)
        clear hx hv hns hBr hBw hfl hown y0 y1 y2 y3 y4
        go_upto_region 7 with (fail)
        go_cut [25] (fun sC wy => sC = .bool (!v) ∧ Below wr'.heap.size wr' wy)
        case first =>
          first | (go_region_held3 (fun w' => Below wr'.heap.size wr' w' ∧ (w'.cell? ⟨w.heap.size, 0, none⟩ = some (.int .i64 r1) ∧ w'.cell? ⟨w.heap.size, 1, none⟩ = some (.int .i64 r2) ∧ w'.cell? ⟨w.heap.size, 2, none⟩ = some (.bool r3) ∧ w'.cell? ⟨w.heap.size, 3, none⟩ = some (.bool r4) ∧ w'.cell? ⟨w.heap.size, 4, none⟩ = some (.bool r5)) ∧ w'.cell? ⟨b, o + i * 5, none⟩ = some (.int .i64 x1) ∧ w'.cell? ⟨b, o + i * 5 + 1, none⟩ = some (.int .i64 x2) ∧ w'.cell? ⟨b, o + i * 5 + 2, none⟩ = some (.bool x3) ∧ w'.cell? ⟨b, o + i * 5 + 3, none⟩ = some (.bool x4) ∧ w'.cell? ⟨b, o + i * 5 + 4, none⟩ = some (.bool x5))
            (first | assumption | exact HS.out _ (Below.refl _ _) | exact HS.out _ (Below.drew (Below.refl _ _)) | (have hX := And.left (by assumption : Below wr'.heap.size wr' _ ∧ _); exact HS.out _ (hX.trans (hb3.mono hX.size))))
            (first | (go_at_call 106; refine (l2In_t (a := ⟨_, _, _, _, _⟩) (b := ⟨_, _, _, _, _⟩) Hv.out).mono ?_; rintro e w3 ⟨rfl, hb3⟩))) | fail
          all_goals (go_wp2; go_meet; exact ⟨rfl, And.left (by assumption : Below wr'.heap.size wr' _ ∧ _)⟩)
        case rest =>
          obtain ⟨rfl, hBy⟩ := hcut
          obtain ⟨wy, rfl⟩ : ∃ wy : World, wy = wc := ⟨_, rfl⟩
          have HBy := Lib.hid hBy
          have hzy := hBy.size
          obtain ⟨-, -, y0, y1, y2, y3, y4⟩ := HS.out _ hBy
          have hby := Nat.lt_of_lt_of_le hb hzy
          clear hBy
          cases v
          · go_wp2_with (first | (at_builtin; refine wpList_append_rows rfl (.tmp 26) (.tmp 31) 30 rfl wb.heap.size 35 i0 _ 5 24 Tryz.underlying30 hi0 hz0 hz1 hz2 rfl (by decide) (.slice q7 fl.length c7) fl.length ((fl.map Rgt.cells).flatten) rfl (own_below (own_below Hown.out HBy.out) (by (repeat (with_reducible first | exact Below.refl _ _ | refine Below.alloc ?_ ?_ _ | refine below_drewN ?_ _ | refine Below.drew ?_ | refine Below.setCell ?_ ?_ _ | refine Below.trans ?_ (Below.mono (by assumption) ?_))) <;> (first | omega | (simp; try omega)))) (.slice (some ⟨wy.heap.size, 0, none⟩) 1 1) [Rgt.cells ⟨x1, x2, x3, x4, x5⟩] rfl (flat_rgts [⟨x1, x2, x3, x4, x5⟩]) (Rows.one (by intro i u hu; rcases i with _ | _ | _ | _ | _ | i <;> simp [Rgt.cells] at hu <;> (try subst hu) <;> simp [go_sem])) (by simp [maxLen] <;> omega) (by simp <;> omega) (by simp <;> omega) ?_; intro v4 w4 ho4 hg4))
            have hB4 : Below wb.heap.size wb w4 := Below.grown ((HBr.out.trans (HBy.out.mono hzr)).alloc (by omega) _) hg4 (by simp <;> omega) (fun k hk => (Hown.out.lt k hk).1)
            have fin : w4.ownsRow wb.heap.size 35 5 v4 ((rs.take (i + 1)).filter (fun x => !rgtIn1 x ⟨r1, r2, r3, r4, r5⟩)).length ((((rs.take (i + 1)).filter (fun x => !rgtIn1 x ⟨r1, r2, r3, r4, r5⟩)).map Rgt.cells).flatten) := by
              rw [Hns.out]
              simpa using ho4
            have Fin := Lib.hid fin
            clear fin ho4 hg4
            go_wp2
            exact ⟨⟨i + 1, by go_num, by omega, Fin.out, hB4⟩, by simp [intOf]; omega⟩
          · go_wp2
            refine ⟨⟨i + 1, by go_num, by omega, ?_, HBr.out.trans (HBy.out.mono hzr)⟩, by simp [intOf]; omega⟩
            rw [Hns.out]
            simpa using own_below Hown.out HBy.out
      · have hnl : ¬ (i : Int) < (rs.length : Int) := by omega
        have hil : i = rs.length := by omega
        have hflc := Hfl.out
        rw [hil, List.take_length] at hflc
        obtain ⟨-, g0, g1, g2, g3, g4⟩ := HG1.out _ hBr
        have hzw := hBw.size
        have Hflc := Lib.hid hflc
        clear Hfl hown hil hBr hBw hflc hfl
        go_wp2_with (first | (at_builtin; refine wpList_append_rows rfl (.tmp 33) (.tmp 35) 30 rfl wb.heap.size 35 i0 _ 5 24 Tryz.underlying30 hi0 hz0 hz1 hz2 rfl (by decide) (.slice q7 fl.length c7) fl.length ((fl.map Rgt.cells).flatten) rfl (own_below Hown.out (by (repeat (with_reducible first | exact Below.refl _ _ | refine Below.alloc ?_ ?_ _ | refine below_drewN ?_ _ | refine Below.drew ?_ | refine Below.setCell ?_ ?_ _ | refine Below.trans ?_ (Below.mono (by assumption) ?_))) <;> (first | omega | (simp; try omega)))) (.slice (some ⟨wr'.heap.size, 0, none⟩) 1 1) [Rgt.cells ⟨r1, r2, r3, r4, r5⟩] rfl (flat_rgts [⟨r1, r2, r3, r4, r5⟩]) (Rows.one (by intro i u hu; rcases i with _ | _ | _ | _ | _ | i <;> simp [Rgt.cells] at hu <;> (try subst hu) <;> simp [go_sem])) (by simp [maxLen] <;> omega) (by simp <;> omega) (by simp <;> omega) ?_; intro v4 w4 ho4 hg4))
        have hB4 : Below wb.heap.size wb w4 := Below.grown (HBr.out.alloc (by omega) _) hg4 (by simp <;> omega) (fun k hk => (Hown.out.lt k hk).1)
        have hfin : w4.ownsRow wb.heap.size 35 5 v4 (fl ++ [(⟨r1, r2, r3, r4, r5⟩ : Rgt)]).length (((fl ++ [(⟨r1, r2, r3, r4, r5⟩ : Rgt)]).map Rgt.cells).flatten) := by simpa using ho4
        obtain ⟨q9, c9, e9⟩ := own_slice_n hfin
        subst e9
        have Fin := Lib.hid hfin
        clear ho4 hg4 hfin
        go_wp2
        go_ret2
        rw [Hflc.out]
        have hrow : RgtsAt w4 (.slice q9 (fl ++ [(⟨r1, r2, r3, r4, r5⟩ : Rgt)]).length c9) (fl ++ [(⟨r1, r2, r3, r4, r5⟩ : Rgt)]) := Rows.of_own (flat_rgts _) (by rw [List.length_map]; exact Fin.out)
        have hlt4 : ∀ k, (Value.slice q9 (fl ++ [(⟨r1, r2, r3, r4, r5⟩ : Rgt)]).length c9).ownBlock = some k → w.heap.size ≤ k ∧ k < w4.heap.size := fun k hk => ⟨Nat.le_trans hwb (Fin.out.lt k hk).1, (Fin.out.lt k hk).2⟩
        rw [List.length_append] at hrow hlt4
        exact ⟨q9, c9, by simp, by simpa using hrow, fun k hk => .inr (hlt4 k (by simpa using hk)), HB1.out.trans (hB4.mono hwb)⟩
  · have hr : put22 rs r = (rs, false) := by simp [put22, hvi]
    rw [hr]
    clear hvi hr
    obtain ⟨r1, r2, r3, r4, r5⟩ := r
    go_enter Tryz.func97, Tryz.ntmps97
    go_wp2_with (go_at_call 105; refine (l22In_t (r := ⟨_, _, _, _, _⟩) (HR.out.pure (by (repeat (with_reducible first | exact Below.refl _ _ | refine Below.alloc ?_ ?_ _ | refine below_drewN ?_ _ | refine Below.drew ?_ | refine Below.setCell ?_ ?_ _ | refine Below.trans ?_ (Below.mono (by assumption) ?_))) <;> (first | omega | (simp; try omega)))) Hvi.out).mono ?_; rintro e w1 ⟨rfl, hb1⟩)
    go_ret2
    exact ⟨_, _, rfl, HR.out.pure (by (repeat (with_reducible first | exact Below.refl _ _ | refine Below.alloc ?_ ?_ _ | refine below_drewN ?_ _ | refine Below.drew ?_ | refine Below.setCell ?_ ?_ _ | refine Below.trans ?_ (Below.mono (by assumption) ?_))) <;> (first | omega | (simp; try omega))), OwnOr.same _ _ _, (by (repeat (with_reducible first | exact Below.refl _ _ | refine Below.alloc ?_ ?_ _ | refine below_drewN ?_ _ | refine Below.drew ?_ | refine Below.setCell ?_ ?_ _ | refine Below.trans ?_ (Below.mono (by assumption) ?_))) <;> (first | omega | (simp; try omega)))⟩

/-! ## Giving -/
theorem nodup_len : ∀ {l u : List Rgt}, l.Pairwise (· ≠ ·) → (∀ x ∈ l, x ∈ u) → l.length ≤ u.length
  | [], _, _, _ => by simp
  | a :: l, u, hp, hu => by
    have h1 := List.pairwise_cons.1 hp
    have ha : a ∈ u := hu a (by simp)
    have h2 : l.length ≤ (u.erase a).length := nodup_len h1.2 (fun x hx => by
      rw [List.mem_erase_of_ne (fun e => h1.1 x hx e.symm)]
      exact hu x (by simp [hx]))
    rw [List.length_erase_of_mem ha] at h2
    have h3 : 0 < u.length := List.length_pos_of_mem ha
    simp only [List.length_cons]
    omega
theorem anti_len {l : List Rgt} (hn : Ne0 l) (ha : Anti l) : l.length ≤ 384 := by
  have h : l.Pairwise (· ≠ ·) := List.Pairwise.imp (fun {a b} h e => by subst e; rw [rgtIn1_refl] at h; cases h.1) ha
  have := nodup_len h (fun x hx => mem_uni (hn x hx).1 (hn x hx).2)
  rwa [uni_len] at this
theorem give_next {src : List Rgt} {i : Nat} {x : Rgt} (h : src[i]? = some x) (dst : List Rgt) (wk : Bool) : give22 (src.take (i + 1)) dst wk = ((put22 (give22 (src.take i) dst wk).1 (fetW wk x)).1, (give22 (src.take i) dst wk).2 || (put22 (give22 (src.take i) dst wk).1 (fetW wk x)).2) := by
  rw [List.take_add_one, h]
  exact give_snoc _ _ _ _
theorem less1_w (x : Rgt) : less1 x true false false = fetW true x := rfl
theorem l2Less_t {r y : Rgt} {rd wr st : Bool} {w : World} (h : less1 r rd wr st = y) : Calls Tryz.prog 96 #[r.val, .bool rd, .bool wr, .bool st] w fun e w' => e = .returned y.val ∧ Below w.heap.size w w' := by
  subst h; exact l2Less_c r rd wr st w
theorem l22Put_t {p : Option Addr} {cap : Nat} {rs ns : List Rgt} {r : Rgt} {m : Bool} {w : World} (hR : RgtsAt w (.slice p rs.length cap) rs) (hn : rs.length ≤ 400) (h : put22 rs r = (ns, m)) :
    Calls Tryz.prog 97 #[.slice p rs.length cap, r.val] w fun e w' => ∃ q k, e = .returned (.tuple #[.slice q ns.length k, .bool m]) ∧ RgtsAt w' (.slice q ns.length k) ns ∧ OwnOr (.slice p rs.length cap) (.slice q ns.length k) w.heap.size w'.heap.size ∧ Below w.heap.size w w' := by
  have := l22Put_c p cap rs r w hR hn
  rw [h] at this
  exact this

set_option maxRecDepth 100000 in
set_option maxHeartbeats 4000000 in
theorem l22Give_c (p q : Option Addr) (c1 c2 : Nat) (src dst : List Rgt) (wk : Bool) (w : World) (hS : RgtsAt w (.slice p src.length c1) src) (hD : RgtsAt w (.slice q dst.length c2) dst) (hok : ∀ r ∈ src, rgtOk r = true) (hne : Ne0 dst) (han : Anti dst) :
    Calls Tryz.prog 68 #[.slice p src.length c1, .slice q dst.length c2, .bool wk] w fun e w' => ∃ q' k, e = .returned (.tuple #[.slice q' (give22 src dst wk).1.length k, .bool (give22 src dst wk).2]) ∧ RgtsAt w' (.slice q' (give22 src dst wk).1.length k) (give22 src dst wk).1 ∧ OwnOr (.slice q dst.length c2) (.slice q' (give22 src dst wk).1.length k) w.heap.size w'.heap.size ∧ Below w.heap.size w w' := by
  obtain ⟨_, _, h1, hl1, hl2⟩ := hS.len
  cases h1
  unfold maxLen at hl2
  have HS := Lib.hid hS
  have HD := Lib.hid hD
  have Hok := Lib.hid hok
  have Hgv := Lib.hid (show ∀ i, (give22 (src.take i) dst wk).1.length ≤ 400 from fun i => by
    have hg := give_giv (wk := wk) hne (src.take i) (fun r hr => hok r (List.mem_of_mem_take hr))
    have := anti_len hg.ne0 (hg.up.anti han)
    omega)
  clear hS hD hok hne han
  go_enter Tryz.func68, Tryz.ntmps68
  go_wp2
  go_loopw [1, 8, 9] (fun s1 s8 s9 wr => ∃ (i : Nat) (qq : Option Addr) (k : Nat), s9 = .int .i64 (i : Int) ∧ i ≤ src.length ∧ s1 = .slice qq (give22 (src.take i) dst wk).1.length k ∧ s8 = .bool (give22 (src.take i) dst wk).2 ∧ RgtsAt wr (.slice qq (give22 (src.take i) dst wk).1.length k) (give22 (src.take i) dst wk).1 ∧ OwnOr (.slice q dst.length c2) (.slice qq (give22 (src.take i) dst wk).1.length k) w.heap.size wr.heap.size ∧ Below w.heap.size w wr) (fun _ _ s9 _ => src.length - (intOf s9).toNat)
  case atStart => exact ⟨0, q, c2, rfl, by omega, rfl, rfl, HD.out, OwnOr.same _ _ _, Below.refl _ _⟩
  case round =>
    obtain ⟨i, qq, k, rfl, hi, rfl, rfl, hRr, hOr, hBr⟩ := hrel
    have hl4 := Hgv.out i
    obtain ⟨cur, hcur⟩ : ∃ c, (give22 (src.take i) dst wk).1 = c := ⟨_, rfl⟩
    obtain ⟨mo, hmo⟩ : ∃ c, (give22 (src.take i) dst wk).2 = c := ⟨_, rfl⟩
    rw [hcur] at hRr hOr hl4 ⊢
    rw [hmo]
    have Hcur := Lib.hid hcur
    have Hmo := Lib.hid hmo
    have HRr := Lib.hid hRr
    have HOr := Lib.hid hOr
    have HBr := Lib.hid hBr
    have hzr := hBr.size
    obtain ⟨wr', rfl⟩ : ∃ wy : World, wy = wr := ⟨_, rfl⟩
    by_cases hlt : i < src.length
    · obtain ⟨x, hx⟩ : ∃ x, src[i]? = some x := ⟨_, List.getElem?_eq_getElem hlt⟩
      obtain ⟨b, o, rfl, hb, y0, y1, y2, y3, y4⟩ := (HS.out.pure hBr).at i x hx
      obtain ⟨y, hy⟩ : ∃ y, fetW wk x = y := ⟨_, rfl⟩
      obtain ⟨ns, m, hput⟩ : ∃ ns m, put22 cur y = (ns, m) := ⟨_, _, rfl⟩
      have hgn := give_next hx dst wk
      rw [hcur, hmo, hy, hput] at hgn
      have Hput := Lib.hid hput
      have Hgn := Lib.hid hgn
      have Hy := Lib.hid hy
      have hj0 : (0 : Int) ≤ (i : Int) := by omega
      have hju : (i : Int) < (src.length : Int) := by omega
      obtain ⟨x1, x2, x3, x4, x5⟩ := x
      obtain ⟨z1, z2, z3, z4, z5⟩ := y
      dsimp only at y0 y1 y2 y3 y4
      clear hx hcur hmo hRr hOr hBr hput hgn hy
      cases wk
      · have e := Hy.out
        simp only [fetW, Bool.false_eq_true, if_false, Rgt.mk.injEq] at e
        obtain ⟨rfl, rfl, rfl, rfl, rfl⟩ := e
        go_upto_region 8 with (fail)
        generalize hwz : World.alloc _ _ = wz
        have d0 : wz.cell? ⟨wr'.heap.size, 0, none⟩ = some (.int .i64 x1) ∧ wz.cell? ⟨wr'.heap.size, 1, none⟩ = some (.int .i64 x2) ∧ wz.cell? ⟨wr'.heap.size, 2, none⟩ = some (.bool x3) ∧ wz.cell? ⟨wr'.heap.size, 3, none⟩ = some (.bool x4) ∧ wz.cell? ⟨wr'.heap.size, 4, none⟩ = some (.bool x5) := by rw [← hwz]; simp [go_sem]
        have hBz : Below wr'.heap.size wr' wz := by rw [← hwz]; exact (by (repeat (with_reducible first | exact Below.refl _ _ | refine Below.alloc ?_ ?_ _ | refine below_drewN ?_ _ | refine Below.drew ?_ | refine Below.setCell ?_ ?_ _ | refine Below.trans ?_ (Below.mono (by assumption) ?_))) <;> (first | omega | (simp; try omega)))
        obtain ⟨d0, d1, d2, d3, d4⟩ := d0
        clear hwz y0 y1 y2 y3 y4
        cases mo
        · have hzz := hBz.size
          have HBz := Lib.hid hBz
          clear hBz
          go_wp2_with (first | (go_at_call 97; refine (l22Put_t (r := ⟨_, _, _, _, _⟩) (HRr.out.pure HBz.out) hl4 Hput.out).mono ?_; rintro e w5 ⟨q5, k5, rfl, hR5, hO5, hb5⟩))
          all_goals
            refine ⟨⟨i + 1, q5, k5, by go_num, by omega, ?_, ?_, ?_, ?_, ?_⟩, by simp [intOf]; omega⟩
            · rw [Hgn.out]
            · rw [Hgn.out]; first | rfl | (cases m <;> rfl)
            · rw [Hgn.out]; exact hR5
            · rw [Hgn.out]; exact (HOr.out.mono (Nat.le_refl _) (Nat.le_trans hzz hb5.size)).trans (hO5.mono (by omega) (Nat.le_refl _))
            · exact HBr.out.trans ((HBz.out.trans (hb5.mono hzz)).mono hzr)
        · have hzz := hBz.size
          have HBz := Lib.hid hBz
          clear hBz
          go_wp2_with (first | (go_at_call 97; refine (l22Put_t (r := ⟨_, _, _, _, _⟩) (HRr.out.pure HBz.out) hl4 Hput.out).mono ?_; rintro e w5 ⟨q5, k5, rfl, hR5, hO5, hb5⟩))
          all_goals
            refine ⟨⟨i + 1, q5, k5, by go_num, by omega, ?_, ?_, ?_, ?_, ?_⟩, by simp [intOf]; omega⟩
            · rw [Hgn.out]
            · rw [Hgn.out]; first | rfl | (cases m <;> rfl)
            · rw [Hgn.out]; exact hR5
            · rw [Hgn.out]; exact (HOr.out.mono (Nat.le_refl _) (Nat.le_trans hzz hb5.size)).trans (hO5.mono (by omega) (Nat.le_refl _))
            · exact HBr.out.trans ((HBz.out.trans (hb5.mono hzz)).mono hzr)
      · have hl1 := (less1_w ⟨x1, x2, x3, x4, x5⟩).trans Hy.out
        have Hl1 := Lib.hid hl1
        clear hl1
        go_upto_region 8 with (first | (go_at_call 96; refine (l2Less_t (r := ⟨_, _, _, _, _⟩) (y := ⟨_, _, _, _, _⟩) Hl1.out).mono ?_; rintro e w3 ⟨rfl, hb3⟩; obtain ⟨hc3, hf3⟩ := bcell hb3; have hz3 : wr'.heap.size < w3.heap.size := (by have := hb3.size; simp at this; omega)))
        have f0 : w3.cell? ⟨wr'.heap.size, 0, none⟩ = some (.int .i64 x1) ∧ w3.cell? ⟨wr'.heap.size, 1, none⟩ = some (.int .i64 x2) ∧ w3.cell? ⟨wr'.heap.size, 2, none⟩ = some (.bool x3) ∧ w3.cell? ⟨wr'.heap.size, 3, none⟩ = some (.bool x4) ∧ w3.cell? ⟨wr'.heap.size, 4, none⟩ = some (.bool x5) := ⟨(hc3 _ _ (by simp)).trans (by simp [go_sem]), (hc3 _ _ (by simp)).trans (by simp [go_sem]), (hc3 _ _ (by simp)).trans (by simp [go_sem]), (hc3 _ _ (by simp)).trans (by simp [go_sem]), (hc3 _ _ (by simp)).trans (by simp [go_sem])⟩
        have ff : ∀ j, w3.frozen? ⟨wr'.heap.size, j, none⟩ = false := fun j => (hf3 _ _ (by simp)).trans (by simp [go_sem])
        have hB3 : Below wr'.heap.size wr' w3 := (by (repeat (with_reducible first | exact Below.refl _ _ | refine Below.alloc ?_ ?_ _ | refine below_drewN ?_ _ | refine Below.drew ?_ | refine Below.setCell ?_ ?_ _ | refine Below.trans ?_ (Below.mono (by assumption) ?_))) <;> (first | omega | (simp; try omega)))
        obtain ⟨f0, f1, f2, f3, f4⟩ := f0
        generalize hwz : World.setCell _ _ _ = wz
        have d0 : wz.cell? ⟨wr'.heap.size, 0, none⟩ = some (.int .i64 z1) ∧ wz.cell? ⟨wr'.heap.size, 1, none⟩ = some (.int .i64 z2) ∧ wz.cell? ⟨wr'.heap.size, 2, none⟩ = some (.bool z3) ∧ wz.cell? ⟨wr'.heap.size, 3, none⟩ = some (.bool z4) ∧ wz.cell? ⟨wr'.heap.size, 4, none⟩ = some (.bool z5) := by subst hwz; simp [cell_set, *]
        have hBz : Below wr'.heap.size wr' wz := by rw [← hwz]; exact hB3.trans (Chg.below (S := fun b => b = wr'.heap.size) (by (repeat (with_reducible refine Chg.setCell ?_ ?_ _)) <;> first | exact Chg.refl _ _ | rfl) (by omega) (fun k hk e => by omega))
        obtain ⟨d0, d1, d2, d3, d4⟩ := d0
        clear hwz y0 y1 y2 y3 y4 f0 f1 f2 f3 f4 ff hB3 hc3 hf3 hb3
        cases mo
        · have hzz := hBz.size
          have HBz := Lib.hid hBz
          clear hBz
          go_wp2_with (first | (go_at_call 97; refine (l22Put_t (r := ⟨_, _, _, _, _⟩) (HRr.out.pure HBz.out) hl4 Hput.out).mono ?_; rintro e w5 ⟨q5, k5, rfl, hR5, hO5, hb5⟩))
          all_goals
            refine ⟨⟨i + 1, q5, k5, by go_num, by omega, ?_, ?_, ?_, ?_, ?_⟩, by simp [intOf]; omega⟩
            · rw [Hgn.out]
            · rw [Hgn.out]; first | rfl | (cases m <;> rfl)
            · rw [Hgn.out]; exact hR5
            · rw [Hgn.out]; exact (HOr.out.mono (Nat.le_refl _) (Nat.le_trans hzz hb5.size)).trans (hO5.mono (by omega) (Nat.le_refl _))
            · exact HBr.out.trans ((HBz.out.trans (hb5.mono hzz)).mono hzr)
        · have hzz := hBz.size
          have HBz := Lib.hid hBz
          clear hBz
          go_wp2_with (first | (go_at_call 97; refine (l22Put_t (r := ⟨_, _, _, _, _⟩) (HRr.out.pure HBz.out) hl4 Hput.out).mono ?_; rintro e w5 ⟨q5, k5, rfl, hR5, hO5, hb5⟩))
          all_goals
            refine ⟨⟨i + 1, q5, k5, by go_num, by omega, ?_, ?_, ?_, ?_, ?_⟩, by simp [intOf]; omega⟩
            · rw [Hgn.out]
            · rw [Hgn.out]; first | rfl | (cases m <;> rfl)
            · rw [Hgn.out]; exact hR5
            · rw [Hgn.out]; exact (HOr.out.mono (Nat.le_refl _) (Nat.le_trans hzz hb5.size)).trans (hO5.mono (by omega) (Nat.le_refl _))
            · exact HBr.out.trans ((HBz.out.trans (hb5.mono hzz)).mono hzr)
    · have hnl : ¬ (i : Int) < (src.length : Int) := by omega
      have hil : i = src.length := by omega
      have hc := Hcur.out
      have hm := Hmo.out
      rw [hil, List.take_length] at hc hm
      have Hc := Lib.hid hc
      have Hm := Lib.hid hm
      clear hil hc hm hcur hmo hBr hRr hOr
      go_wp2
      go_ret2
      rw [Hc.out, Hm.out]
      exact ⟨qq, k, rfl, HRr.out, HOr.out, HBr.out⟩
end Go.Proofs.YtiolplhgpodifaaGreat
