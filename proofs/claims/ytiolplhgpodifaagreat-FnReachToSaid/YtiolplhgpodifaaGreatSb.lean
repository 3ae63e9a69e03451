/- The reference's two answers on what can be come to have. Conditions: the table lies where its cells say. -/
import Derived.Test.YtiolplhgpodifaaGreatSa
import Derived.Test.YtiolplhgpodifaaGreatH
set_option linter.unusedVariables false
set_option linter.unusedSimpArgs false

namespace Go.Proofs.YtiolplhgpodifaaGreat
open Go.RowKit Drw
attribute [local go_sem] Lab.val Rgt.val Cal.val Thg.val

theorem stableOk_u {p : Option Addr} {cap : Nat} {ts : List Thg} {v : Bool} {w : World} (hT : TabAt w (.slice p ts.length cap) ts) (h : tabOk ts = v) :
    Calls Tryz.prog 15 #[.slice p ts.length cap] w fun e w' => e = .returned (.bool v) ∧ Below w.heap.size w w' := by
  rw [← h]; exact stableOk_c p cap ts w hT
theorem l22All_t {p : Option Addr} {cap : Nat} {ts : List Thg} {w : World} (hT : TabAt w (.slice p ts.length cap) ts) (ht : tabOk ts = true) :
    Calls Tryz.prog 37 #[.slice p ts.length cap] w fun e w' => ∃ A c a, e = .returned (.slice (some ⟨A, 0, none⟩) a.length c) ∧ IsReach ts a ∧ AllAt w' A 0 a ∧ Below w.heap.size w w' := l22All_c p cap ts w hT ht

set_option maxRecDepth 100000 in
theorem sreachAll_no {p : Option Addr} {cap : Nat} {ts : List Thg} {w : World} (hT : TabAt w (.slice p ts.length cap) ts) (ht : tabOk ts = false) :
    Calls Tryz.prog 14 #[.slice p ts.length cap] w fun e w' => ∃ q, e = .returned (.slice q 0 0) ∧ Below w.heap.size w w' := by
  have HT := Lib.hid hT
  have Ht := Lib.hid ht
  clear hT ht
  go_enter Tryz.func14, Tryz.ntmps14
  go_wp2_with (go_at_call 15; refine (stableOk_u HT.out Ht.out).mono ?_; rintro e w1 ⟨rfl, hb1⟩; have hz1 := hb1.size)
  go_ret
  exact ⟨_, rfl, (by (repeat (with_reducible first | exact Below.refl _ _ | refine Below.alloc ?_ ?_ _ | refine below_drewN ?_ _ | refine Below.drew ?_ | refine Below.setCell ?_ ?_ _ | refine Below.trans ?_ (Below.mono (by assumption) ?_))) <;> (first | omega | (simp; try omega)))⟩
set_option maxRecDepth 100000 in
theorem sreachAll_yes {p : Option Addr} {cap : Nat} {ts : List Thg} {w : World} (hT : TabAt w (.slice p ts.length cap) ts) (ht : tabOk ts = true) :
    Calls Tryz.prog 14 #[.slice p ts.length cap] w fun e w' => ∃ A c a, e = .returned (.slice (some ⟨A, 0, none⟩) a.length c) ∧ IsReach ts a ∧ AllAt w' A 0 a ∧ Below w.heap.size w w' := by
  have HT := Lib.hid hT
  have Ht := Lib.hid ht
  clear hT ht
  go_enter Tryz.func14, Tryz.ntmps14
  go_wp2_with (first
    | (go_at_call 37; refine (l22All_t (HT.out.pure hb1) Ht.out).mono ?_; rintro e w2 ⟨A, c, a, rfl, hI, hA, hb2⟩)
    | (go_at_call 15; refine (stableOk_u HT.out Ht.out).mono ?_; rintro e w1 ⟨rfl, hb1⟩))
  go_ret
  exact ⟨A, c, a, rfl, hI, hA, hb1.trans (hb2.mono hb1.size)⟩

/-- A row of a reach table holds at most 384 rights. -/
theorem reach_row_len {ts : List Thg} (ht : tabOk ts = true) {a : List (List Rgt)} (h : IsReach ts a) (k : Nat) (hk : k < ts.length) : (rowA a k).length ≤ 384 := by
  have hg : ∀ r ∈ rowA a k, Got ts ((k : Int) + 1) r := fun r hr => ((h.mem k hk r).1 hr).1
  have hn : Ne0 (rowA a k) := fun r hr => ⟨((hg r hr).ok ht).ok, ((hg r hr).ok ht).ne⟩
  refine anti_len hn ((h.ord k).imp_of_mem fun {r s} hr hs hlt => ?_)
  have hne : r ≠ s := fun e => by rw [e] at hlt; exact Nat.lt_irrefl _ hlt
  constructor
  · cases hq : rgtIn1 r s with
    | false => rfl
    | true => exact absurd (((h.mem k hk r).1 hr).2 s (hg s hs) hq).symm hne
  · cases hq : rgtIn1 s r with
    | false => rfl
    | true => exact absurd (((h.mem k hk s).1 hs).2 r (hg r hr) hq) hne
/-- Whether one of a thing's rights is to a thing, to read, or to write it. -/
def reachB (l : List Rgt) (k : Int) (wr : Bool) : Bool := l.any (fun r => r.thing == k && (if wr then r.wr else r.rd))
theorem reach_next {l : List Rgt} {i : Nat} {r : Rgt} (h : l[i]? = some r) (k : Int) (wr : Bool) : reachB (l.take (i + 1)) k wr = (reachB (l.take i) k wr || (r.thing == k && (if wr then r.wr else r.rd))) := by
  unfold reachB
  rw [List.take_add_one, h]
  simp

set_option maxRecDepth 100000 in
set_option maxHeartbeats 4000000 in
theorem sreachTo_no {p : Option Addr} {cap : Nat} {ts : List Thg} {h k : Int} {wr : Bool} {w : World} (hT : TabAt w (.slice p ts.length cap) ts) (hno : (tabOk ts && ex ts h && ex ts k) = false) :
    Calls Tryz.prog 22 #[.slice p ts.length cap, .int .i64 h, .int .i64 k, .bool wr] w fun e w' => e = .returned (.bool false) ∧ Below w.heap.size w w' := by
  have HT := Lib.hid hT
  obtain ⟨t1, ht1⟩ : ∃ b, tabOk ts = b := ⟨_, rfl⟩
  obtain ⟨t2, ht2⟩ : ∃ b, inR h 1 ts.length = b := ⟨_, rfl⟩
  obtain ⟨t3, ht3⟩ : ∃ b, inR k 1 ts.length = b := ⟨_, rfl⟩
  have hno' : (t1 && t2 && t3) = false := by rw [← hno, ← ht1, ← ht2, ← ht3]; rfl
  have Ht1 := Lib.hid ht1
  have Ht2 := Lib.hid ht2
  have Ht3 := Lib.hid ht3
  have hund : undef = Value.tuple #[] := rfl
  clear hT hno ht1 ht2 ht3
  cases t1
  · go_enter Tryz.func22, Tryz.ntmps22
    go_wp2_with (go_at_call 15; refine (stableOk_u HT.out Ht1.out).mono ?_; rintro e w1 ⟨rfl, hb1⟩)
    go_ret
    exact ⟨rfl, (by (repeat (with_reducible first | exact Below.refl _ _ | refine Below.alloc ?_ ?_ _ | refine below_drewN ?_ _ | refine Below.drew ?_ | refine Below.setCell ?_ ?_ _ | refine Below.trans ?_ (Below.mono (by assumption) ?_))) <;> (first | omega | (simp; try omega)))⟩
  · cases t2
    · go_enter Tryz.func22, Tryz.ntmps22
      go_wp2_with (first
        | (go_at_call 15; refine (stableOk_u HT.out Ht1.out).mono ?_; rintro e w1 ⟨rfl, hb1⟩)
        | (go_at_call 39; with_reducible refine (l6In_q h 1 ts.length _ Ht2.out).mono ?_; rintro e w2 ⟨rfl, rfl⟩))
      go_ret
      exact ⟨rfl, (by (repeat (with_reducible first | exact Below.refl _ _ | refine Below.alloc ?_ ?_ _ | refine below_drewN ?_ _ | refine Below.drew ?_ | refine Below.setCell ?_ ?_ _ | refine Below.trans ?_ (Below.mono (by assumption) ?_))) <;> (first | omega | (simp; try omega)))⟩
    · obtain rfl : t3 = false := by simpa using hno'
      go_enter Tryz.func22, Tryz.ntmps22
      go_wp2_with (first
        | (go_at_call 15; refine (stableOk_u HT.out Ht1.out).mono ?_; rintro e w1 ⟨rfl, hb1⟩)
        | (go_at_call 39; with_reducible refine (l6In_q h 1 ts.length _ Ht2.out).mono ?_; rintro e w2 ⟨rfl, rfl⟩)
        | (go_at_call 39; with_reducible refine (l6In_q k 1 ts.length _ Ht3.out).mono ?_; rintro e w3 ⟨rfl, rfl⟩))
      go_ret
      exact ⟨rfl, (by (repeat (with_reducible first | exact Below.refl _ _ | refine Below.alloc ?_ ?_ _ | refine below_drewN ?_ _ | refine Below.drew ?_ | refine Below.setCell ?_ ?_ _ | refine Below.trans ?_ (Below.mono (by assumption) ?_))) <;> (first | omega | (simp; try omega)))⟩

set_option maxRecDepth 100000 in
set_option maxHeartbeats 4000000 in
theorem sreachTo_yes {p : Option Addr} {cap : Nat} {ts : List Thg} {j : Nat} {k : Int} {wt : Bool} {w : World} (hT : TabAt w (.slice p ts.length cap) ts) (ht : tabOk ts = true) (hj : j < ts.length) (hk : ex ts k = true) :
    Calls Tryz.prog 22 #[.slice p ts.length cap, .int .i64 ((j : Int) + 1), .int .i64 k, .bool wt] w fun e w' => ∃ a, IsReach ts a ∧ e = .returned (.bool (reachB (rowA a j) k wt)) ∧ Below w.heap.size w w' := by
  have hl8 : ts.length ≤ 8 := by
    have := ht
    simp only [tabOk, Bool.and_eq_true, inR, decide_eq_true_eq] at this
    omega
  have HT := Lib.hid hT
  have Ht := Lib.hid ht
  have H2 := Lib.hid (show inR ((j : Int) + 1) 1 ts.length = true by simp [inR]; omega)
  have H3 := Lib.hid (show inR k 1 ts.length = true from hk)
  have hw1 : IntKind.i64.wrap ((j : Int) + 1 - 1) = (j : Int) := by rw [show (j : Int) + 1 - 1 = j by omega]; exact IntWalk.i64_in _ (by omega)
  have hw2 : IntKind.i64.wrap (j : Int) = (j : Int) := IntWalk.i64_in _ (by omega)
  have hj0 : (0 : Int) ≤ (j : Int) := by omega
  clear hT ht hk
  go_enter Tryz.func22, Tryz.ntmps22
  go_upto_region 3 with (first
    | (go_at_call 15; refine (stableOk_u HT.out Ht.out).mono ?_; rintro e w1 ⟨rfl, hb1⟩)
    | (go_at_call 39; with_reducible refine (l6In_q ((j : Int) + 1) 1 ts.length _ H2.out).mono ?_; rintro e w2 ⟨rfl, rfl⟩)
    | (go_at_call 39; with_reducible refine (l6In_q k 1 ts.length _ H3.out).mono ?_; rintro e w3 ⟨rfl, rfl⟩))
  have HB1 := Lib.hid hb1
  clear hb1
  go_cut [9] (fun s9 wz => ∃ a q c, IsReach ts a ∧ s9 = .slice q (rowA a j).length c ∧ RgtsAt wz (.slice q (rowA a j).length c) (rowA a j) ∧ Below w.heap.size w wz)
  case first =>
    go_wp2_with (go_at_call 37; refine (l22All_t (HT.out.pure HB1.out) Ht.out).mono ?_; rintro e w4 ⟨A, c, a, rfl, hI, hA, hb4⟩; have hia : (j : Int) < (a.length : Int) := (by have := hI.len; omega); obtain ⟨q, c', cc, hR, -⟩ := hA.at' (i := j) (by omega); rw [Nat.zero_add] at cc; have HI := Lib.hid hI; have HR := Lib.hid hR; clear hI hA hR)
    go_meet
    exact ⟨a, q, c', HI.out, rfl, HR.out, HB1.out.trans (hb4.mono HB1.out.size)⟩
  case rest =>
    obtain ⟨a, q, c, hI, rfl, hR, hB⟩ := hcut
    obtain ⟨wz, rfl⟩ : ∃ wy : World, wy = wc := ⟨_, rfl⟩
    have hl3 := reach_row_len Ht.out hI j hj
    obtain ⟨l, hl⟩ : ∃ l, rowA a j = l := ⟨_, rfl⟩
    rw [hl] at hR hl3 ⊢
    have HI := Lib.hid hI
    have HR := Lib.hid hR
    have HL := Lib.hid hl
    have HB := Lib.hid hB
    have hund : undef = Value.tuple #[] := rfl
    clear hI hR hl hB hund
    go_wp2
    go_loopw [10] (fun s10 wr' => ∃ i : Nat, s10 = .int .i64 (i : Int) ∧ i ≤ l.length ∧ reachB (l.take i) k wt = false ∧ wr' = wz) (fun s10 _ => l.length - (intOf s10).toNat)
    case atStart => exact ⟨0, rfl, by omega, rfl, rfl⟩
    case round =>
      obtain ⟨i, rfl, hi, hno, rfl⟩ := hrel
      have Hno := Lib.hid hno
      by_cases hlt : i < l.length
      · obtain ⟨r, hr⟩ : ∃ r, l[i]? = some r := ⟨_, List.getElem?_eq_getElem hlt⟩
        obtain ⟨b, o, rfl, hb, y0, y1, y2, y3, y4⟩ := HR.out.at i r hr
        have hn := reach_next hr k wt
        rw [hno, Bool.false_or] at hn
        have Hn := Lib.hid hn
        have Hr := Lib.hid hr
        have hi0 : (0 : Int) ≤ (i : Int) := by omega
        have hiu : (i : Int) < (l.length : Int) := by omega
        obtain ⟨r1, r2, r3, r4, r5⟩ := r
        dsimp only at y0 y1 y2 y3 y4
        have hund : undef = Value.tuple #[] := rfl
        have hfound : (r1 == k && (if wt then r4 else r3)) = true → reachB l k wt = true := fun e => List.any_eq_true.2 ⟨_, List.mem_of_getElem? Hr.out, e⟩
        have Hfound := Lib.hid hfound
        clear hno hr hn hfound
        cases hk1 : (r1 == k)
        · rw [hk1, Bool.false_and] at Hn
          go_wp2
          exact ⟨⟨i + 1, by go_num, by omega, Hn.out, trivial⟩, by simp [intOf]; omega⟩
        · rw [hk1, Bool.true_and] at Hn Hfound
          cases wt
          · cases r3
            · go_wp2
              exact ⟨⟨i + 1, by go_num, by omega, Hn.out, trivial⟩, by simp [intOf]; omega⟩
            · go_wp2
              go_ret
              exact ⟨a, HI.out, by rw [HL.out, Hfound.out rfl]; simp, HB.out⟩
          · cases r4
            · go_wp2
              exact ⟨⟨i + 1, by go_num, by omega, Hn.out, trivial⟩, by simp [intOf]; omega⟩
            · go_wp2
              go_ret
              exact ⟨a, HI.out, by rw [HL.out, Hfound.out rfl]; simp, HB.out⟩
      · have hnl : ¬ (i : Int) < (l.length : Int) := by omega
        have hil : i = l.length := by omega
        have hn := Hno.out
        rw [hil, List.take_length] at hn
        have Hn := Lib.hid hn
        clear hno hil hn
        go_wp2
        go_ret
        exact ⟨a, HI.out, by rw [HL.out, Hn.out]; rfl, HB.out⟩
end Go.Proofs.YtiolplhgpodifaaGreat
