/- The reference's finding of what can be come to have: a step. Conditions: what is read lies where its cells say. -/
import Derived.Test.YtiolplhgpodifaaGreatSr
set_option linter.unusedVariables false
set_option linter.unusedSimpArgs false

namespace Go.Proofs.YtiolplhgpodifaaGreat
open Go.RowKit Drw
attribute [local go_sem] Lab.val Rgt.val Cal.val Thg.val

/-- Rows of rights, in a block of their own. -/
structure AllAt (w : World) (A o : Nat) (a : List (List Rgt)) : Prop where
  lt : A < w.heap.size
  fr : ∀ j, w.frozen? ⟨A, j, none⟩ = false
  row : ∀ (k : Nat) (l : List Rgt), a[k]? = some l → ∃ q c, w.cell? ⟨A, o + k, none⟩ = some (.slice q l.length c) ∧ RgtsAt w (.slice q l.length c) l ∧ (Value.slice q l.length c).ownBlock ≠ some A
theorem AllAt.pure {w w' : World} {A o : Nat} {a : List (List Rgt)} (h : AllAt w A o a) (hb : Below w.heap.size w w') : AllAt w' A o a := by
  obtain ⟨hc, hf⟩ := bcell hb
  refine ⟨Nat.lt_of_lt_of_le h.lt hb.size, fun j => (hf _ _ h.lt).trans (h.fr j), fun k l hk => ?_⟩
  obtain ⟨q, c, h1, h2, h3⟩ := h.row k l hk
  exact ⟨q, c, (hc _ _ h.lt).trans h1, h2.pure hb, h3⟩
theorem rgts_far {w : World} {q : Option Addr} {n c A : Nat} {l : List Rgt} (h : RgtsAt w (.slice q n c) l) (hA : (Value.slice q n c).ownBlock ≠ some A) (p : Addr) (hp : p.block = A) (u : Value) : RgtsAt (w.setCell p u) (.slice q n c) l :=
  Rows.kept h ((Chg.refl (fun b => b = A) w).setCell hp u) (.inr fun k hk e => hA (by rw [hk, e]))
theorem AllAt.put {w : World} {A o : Nat} {a : List (List Rgt)} (h : AllAt w A o a) {i : Nat} (hi : i < a.length) {q : Option Addr} {c : Nat} {l : List Rgt} (hl : RgtsAt w (.slice q l.length c) l) (hA : (Value.slice q l.length c).ownBlock ≠ some A) :
    AllAt (w.setCell ⟨A, o + i, none⟩ (.slice q l.length c)) A o (a.set i l) := by
  have hch : Chg (fun b => b = A) w (w.setCell ⟨A, o + i, none⟩ (.slice q l.length c)) := (Chg.refl (fun b => b = A) w).setCell (S := fun b => b = A) (p := ⟨A, o + i, none⟩) rfl _
  refine ⟨Nat.lt_of_lt_of_le h.lt hch.size, fun j => by simp [h.fr j], fun k l' hk => ?_⟩
  rw [List.getElem?_set] at hk
  by_cases hki : i = k
  · subst hki
    rw [if_pos rfl, if_pos hi] at hk
    cases hk
    obtain ⟨q0, c0, h1, -, -⟩ := h.row i _ (List.getElem?_eq_getElem hi)
    exact ⟨q, c, by simp [cell_set, h1, h.fr], rgts_far hl hA _ rfl _, hA⟩
  · rw [if_neg hki] at hk
    obtain ⟨q0, c0, h1, h2, h3⟩ := h.row k l' hk
    exact ⟨q0, c0, by simp [cell_set, h1], rgts_far h2 h3 _ rfl _, h3⟩
theorem AllAt.at' {w : World} {A o : Nat} {a : List (List Rgt)} (h : AllAt w A o a) {i : Nat} (hi : i < a.length) : ∃ q c, w.cell? ⟨A, o + i, none⟩ = some (.slice q (rowA a i).length c) ∧ RgtsAt w (.slice q (rowA a i).length c) (rowA a i) ∧ (Value.slice q (rowA a i).length c).ownBlock ≠ some A := by
  have e : a[i]? = some (rowA a i) := by simp [rowA, List.getElem?_eq_getElem hi]
  exact h.row i _ e
theorem l22Give_t {p q : Option Addr} {c1 c2 : Nat} {src dst ns : List Rgt} {wk m : Bool} {w : World} (hS : RgtsAt w (.slice p src.length c1) src) (hD : RgtsAt w (.slice q dst.length c2) dst) (hok : ∀ r ∈ src, rgtOk r = true) (hne : Ne0 dst) (han : Anti dst) (h : give22 src dst wk = (ns, m)) :
    Calls Tryz.prog 68 #[.slice p src.length c1, .slice q dst.length c2, .bool wk] w fun e w' => ∃ q' k, e = .returned (.tuple #[.slice q' ns.length k, .bool m]) ∧ RgtsAt w' (.slice q' ns.length k) ns ∧ OwnOr (.slice q dst.length c2) (.slice q' ns.length k) w.heap.size w'.heap.size ∧ Below w.heap.size w w' := by
  have := l22Give_c p q c1 c2 src dst wk w hS hD hok hne han
  rw [h] at this
  exact this

set_option maxRecDepth 100000 in
set_option maxHeartbeats 4000000 in
theorem l22Step_c (p : Option Addr) (cap : Nat) (ts : List Thg) (A o c2 : Nat) (a : List (List Rgt)) (i : Nat) (r : Rgt) (w : World) (hT : TabAt w (.slice p ts.length cap) ts) (hA : AllAt w A o a) (hTA : ∀ wz, Chg (fun b => b = A) w wz → TabAt wz (.slice p ts.length cap) ts)
    (ht : tabOk ts = true) (hs : Snd ts a) (hi : i < ts.length) (hr : Got ts ((i : Int) + 1) r) (hc2 : a.length ≤ c2) :
    Calls Tryz.prog 69 #[.slice p ts.length cap, .slice (some ⟨A, o, none⟩) a.length c2, .int .i64 (i : Int), r.val] w fun e w' => e = .returned (.bool (step22 ts a i r).2) ∧ AllAt w' A o (step22 ts a i r).1 ∧ Chg (fun b => b = A) w w' := by
  obtain ⟨_, _, h1, hl1, hl2⟩ := hT.len
  cases h1
  unfold maxLen at hl2
  have hgo := hr.ok ht
  have hal : a.length = ts.length := hs.len
  obtain ⟨j, hjr, hj⟩ := ex_idx (cap_ex hgo.cap hgo.ne)
  have hjl : j < ts.length := (List.getElem?_eq_some_iff.1 hj).1
  obtain ⟨ti, hti⟩ : ∃ t, ts[i]? = some t := ⟨_, List.getElem?_eq_getElem hi⟩
  obtain ⟨tj, htj⟩ : ∃ t, getT ts r.thing = t := ⟨_, rfl⟩
  rw [htj] at hj
  have hon : stepOn ts i r = (ti.kind == 3 && tj.kind == 2 && tj.vers == r.vers) := by unfold stepOn; rw [getT_at hti, htj]
  have Hon := Lib.hid hon
  have HA := Lib.hid hA
  have HTA := Lib.hid hTA
  obtain ⟨b1, o1, sv1, qv1, e1, hb1, -, -, p0, -⟩ := hT.at i ti hti
  subst e1
  obtain ⟨b2, o2, sv2, qv2, e2, hb2, -, -, q0, -, -, q3, -⟩ := hT.at j tj hj
  cases e2
  have h00 : (0 : Int) ≤ (i : Int) := by omega
  have h01 : (i : Int) < (ts.length : Int) := by omega
  have h02 : (0 : Int) ≤ (j : Int) := by omega
  have h03 : (j : Int) < (ts.length : Int) := by omega
  have hw1 : IntKind.i64.wrap ((j : Int) + 1 - 1) = (j : Int) := by rw [show (j : Int) + 1 - 1 = j by omega]; exact IntWalk.i64_in _ (by omega)
  have hw2 : IntKind.i64.wrap (j : Int) = (j : Int) := IntWalk.i64_in _ (by omega)
  obtain ⟨tk, ⟨ts1, ts2⟩, tve, tnu, tsl, tqu, ttg⟩ := ti
  obtain ⟨jk, ⟨js1, js2⟩, jve, jnu, jsl, jqu, jtg⟩ := tj
  have HS0 := Lib.hid hs
  have Ht := Lib.hid ht
  have Hr0 := Lib.hid hr
  obtain ⟨r1, r2, r3, r4, r5⟩ := r
  dsimp only at hjr p0 q0 q3
  subst hjr
  clear hon hT hA hTA hs ht hr hgo htj hti hj
  go_enter Tryz.func69, Tryz.ntmps69
  go_upto_region 1 with (fail)
  generalize hwa : World.alloc _ _ = wa
  have hB0 : Below w.heap.size w wa := by rw [← hwa]; exact (by (repeat (with_reducible first | exact Below.refl _ _ | refine Below.alloc ?_ ?_ _ | refine below_drewN ?_ _ | refine Below.drew ?_ | refine Below.setCell ?_ ?_ _ | refine Below.trans ?_ (Below.mono (by assumption) ?_))) <;> (first | omega | (simp; try omega)))
  have hza : w.heap.size < wa.heap.size := by rw [← hwa]; simp
  have g : wa.cell? ⟨w.heap.size, 0, none⟩ = some (.int .i64 ((j : Int) + 1)) ∧ wa.cell? ⟨w.heap.size, 1, none⟩ = some (.int .i64 r2) ∧ wa.cell? ⟨w.heap.size, 2, none⟩ = some (.bool r3) ∧ wa.cell? ⟨w.heap.size, 3, none⟩ = some (.bool r4) ∧ wa.cell? ⟨w.heap.size, 4, none⟩ = some (.bool r5) := by rw [← hwa]; simp [go_sem]
  obtain ⟨g0, g1, g2, g3, g4⟩ := g
  have HB0 := Lib.hid hB0
  obtain ⟨hc0, -⟩ := bcell hB0
  rw [← hc0 _ _ hb1] at p0
  rw [← hc0 _ _ hb2] at q0 q3
  have hund : undef = Value.tuple #[] := rfl
  clear hwa hc0 hB0
  by_cases k1 : tk = 3
  · subst k1
    by_cases k2 : jk = 2
    · subst k2
      by_cases k3 : jve = r2
      · subst k3
        have hyes : stepOn ts i ⟨(j : Int) + 1, jve, r3, r4, r5⟩ = true := by rw [Hon.out]; simp
        obtain ⟨j', hj', hjj, hne, pp, qq, hU1, hG1, -, hU2, hG2, -, hpe, hqe, hstep⟩ := step_parts Ht.out HS0.out hi Hr0.out hyes
        have hjx : j = j' := by
          have : ((j : Int) + 1) = (j' : Int) + 1 := hjj
          omega
        subst hjx
        have hn0 := fun k => Snd.ne0 Ht.out HS0.out k
        have ha0 := HS0.out.anti
        clear hyes
        go_quiet (fail)
        have hBq : Below w.heap.size w (wa.drewN nq) := below_drewN HB0.out nq
        have d0 : (wa.drewN nq).cell? ⟨w.heap.size, 0, none⟩ = some (.int .i64 ((j : Int) + 1)) ∧ (wa.drewN nq).cell? ⟨w.heap.size, 1, none⟩ = some (.int .i64 jve) ∧ (wa.drewN nq).cell? ⟨w.heap.size, 2, none⟩ = some (.bool r3) ∧ (wa.drewN nq).cell? ⟨w.heap.size, 3, none⟩ = some (.bool r4) ∧ (wa.drewN nq).cell? ⟨w.heap.size, 4, none⟩ = some (.bool r5) := ⟨g0, g1, g2, g3, g4⟩
        have hAq := HA.out.pure hBq
        obtain ⟨wq, hwq⟩ : ∃ wq, wa.drewN nq = wq := ⟨_, rfl⟩
        rw [hwq] at hBq d0 hAq ⊢
        have hnA : ¬ w.heap.size = A := fun e => by have := HA.out.lt; omega
        have HGq := Lib.hid (show ∀ w', Chg (fun b => b = A) wq w' → (w'.cell? ⟨w.heap.size, 0, none⟩ = some (.int .i64 ((j : Int) + 1)) ∧ w'.cell? ⟨w.heap.size, 1, none⟩ = some (.int .i64 jve) ∧ w'.cell? ⟨w.heap.size, 2, none⟩ = some (.bool r3) ∧ w'.cell? ⟨w.heap.size, 3, none⟩ = some (.bool r4) ∧ w'.cell? ⟨w.heap.size, 4, none⟩ = some (.bool r5)) from fun w' h => ⟨h.cell d0.1 hnA, h.cell d0.2.1 hnA, h.cell d0.2.2.1 hnA, h.cell d0.2.2.2.1 hnA, h.cell d0.2.2.2.2 hnA⟩)
        obtain ⟨g0, g1, g2, g3, g4⟩ := d0
        have HAq := Lib.hid hAq
        have HBq := Lib.hid hBq
        have hia : (i : Int) < (a.length : Int) := by omega
        have hja : (j : Int) < (a.length : Int) := by omega
        obtain ⟨p1, p2⟩ := pp
        obtain ⟨q1, q2⟩ := qq
        dsimp only at hU1 hG1 hU2 hG2 hpe hqe hstep
        have Hpe := Lib.hid hpe
        have Hqe := Lib.hid hqe
        have Hst := Lib.hid hstep
        have Hn0 := Lib.hid hn0
        have Ha0 := Lib.hid ha0
        have HU1 := Lib.hid hU1
        have HG1 := Lib.hid hG1
        have Hal := Lib.hid hal
        clear hwq hBq hAq hpe hqe hstep hn0 ha0 hU1 hG1 hU2 hG2 p0 q0 q3 hjj hund hal
        go_upto_if 43 with (fail)
        go_cut [9] (fun s9 wz => s9 = .bool p2 ∧ AllAt wz A o (a.set i p1) ∧ Chg (fun b => b = A) wq wz)
        case first =>
          cases r3
          · have e := Hpe.out
            simp only [Bool.false_eq_true, if_false, Prod.mk.injEq] at e
            obtain ⟨e1, rfl⟩ := e
            have E1 := Lib.hid e1
            clear e1
            go_wp2
            go_meet
            exact ⟨rfl, by rw [E1.out, set_rowA (by omega)]; exact HAq.out, Chg.refl _ _⟩
          · have HgvX := Lib.hid (show give22 (rowA a j) (rowA a i) r5 = (p1, p2) by have := Hpe.out; simp only [if_true] at this; exact this.symm)
            have HokX := Lib.hid (show ∀ r ∈ rowA a j, rgtOk r = true from fun r hr => (Hn0.out j r hr).1)
            have HneX := Lib.hid (Hn0.out i)
            have HanX := Lib.hid (Ha0.out i)
            obtain ⟨qs0, cs0, cc1, RG1, OW1⟩ := HAq.out.at' (i := j) (by omega)
            obtain ⟨qd0, cd0, cc2, RG2, OW2⟩ := HAq.out.at' (i := i) (by omega)
            have HS := Lib.hid (show ∀ w' : World, Below wq.heap.size wq w' → (Below wq.heap.size wq w' ∧ (w'.cell? ⟨w.heap.size, 0, none⟩ = some (.int .i64 ((j : Int) + 1)) ∧ w'.cell? ⟨w.heap.size, 1, none⟩ = some (.int .i64 jve) ∧ w'.cell? ⟨w.heap.size, 2, none⟩ = some (.bool true) ∧ w'.cell? ⟨w.heap.size, 3, none⟩ = some (.bool r4) ∧ w'.cell? ⟨w.heap.size, 4, none⟩ = some (.bool r5)) ∧ w'.cell? ⟨A, o + j, none⟩ = some (.slice qs0 (rowA a j).length cs0) ∧ w'.cell? ⟨A, o + i, none⟩ = some (.slice qd0 (rowA a i).length cd0)) from fun w' h => by
              obtain ⟨hc', -⟩ := bcell h
              exact ⟨h, HGq.out _ (Chg.of_pure h), (hc' _ _ HAq.out.lt).trans cc1, (hc' _ _ HAq.out.lt).trans cc2⟩)
            have RG1 := Lib.hid RG1
            have RG2 := Lib.hid RG2
            have OW2 := Lib.hid OW2
            clear cc1 cc2 OW1
            go_upto_region 5 with (fail)
            go_cut [10, 11] (fun s10 s11 wy => ∃ q' k, s10 = .slice q' p1.length k ∧ s11 = .bool p2 ∧ RgtsAt wy (.slice q' p1.length k) p1 ∧ OwnOr (.slice qd0 (rowA a i).length cd0) (.slice q' p1.length k) wq.heap.size wy.heap.size ∧ Below wq.heap.size wq wy)
            case first =>
              first | (go_region_held3 (fun w' => Below wq.heap.size wq w' ∧ (w'.cell? ⟨w.heap.size, 0, none⟩ = some (.int .i64 ((j : Int) + 1)) ∧ w'.cell? ⟨w.heap.size, 1, none⟩ = some (.int .i64 jve) ∧ w'.cell? ⟨w.heap.size, 2, none⟩ = some (.bool true) ∧ w'.cell? ⟨w.heap.size, 3, none⟩ = some (.bool r4) ∧ w'.cell? ⟨w.heap.size, 4, none⟩ = some (.bool r5)) ∧ w'.cell? ⟨A, o + j, none⟩ = some (.slice qs0 (rowA a j).length cs0) ∧ w'.cell? ⟨A, o + i, none⟩ = some (.slice qd0 (rowA a i).length cd0))
                (first | assumption | exact HS.out _ (Below.refl _ _) | exact HS.out _ (Below.drew (Below.refl _ _)) | (have hX := And.left (by assumption : Below wq.heap.size wq _ ∧ _); exact HS.out _ (hX.trans (hb3.mono hX.size))))
                (first | (go_at_call 68; have hX := And.left (by assumption : Below wq.heap.size wq _ ∧ _); refine (l22Give_t (RG1.out.pure hX) (RG2.out.pure hX) HokX.out HneX.out HanX.out HgvX.out).mono ?_; rintro e w3 ⟨q', k', rfl, hR3, hO3, hb3⟩; have hzX := hX.size; have HR3 := Lib.hid (show ∀ wz : World, Below w3.heap.size w3 wz → RgtsAt wz (.slice q' p1.length k') p1 from fun wz h => Rows.pure hR3 h); have HO3 := Lib.hid (hO3.mono hzX (Nat.le_refl _)); clear hR3 hO3 hX hzX))) | fail
              all_goals (go_wp2; go_meet)
              all_goals exact ⟨q', k', rfl, rfl, HR3.out _ (by first | exact Below.refl _ _ | exact (by (repeat (with_reducible first | exact Below.refl _ _ | refine Below.alloc ?_ ?_ _ | refine below_drewN ?_ _ | refine Below.drew ?_ | refine Below.setCell ?_ ?_ _ | refine Below.trans ?_ (Below.mono (by assumption) ?_))) <;> (first | omega | (simp; try omega)))), HO3.out, And.left (by assumption : Below wq.heap.size wq _ ∧ _)⟩
            case rest =>
              obtain ⟨q', k', rfl, rfl, hR4, hO4, hB4⟩ := hcut
              obtain ⟨wy, rfl⟩ : ∃ wy : World, wy = wc := ⟨_, rfl⟩
              have hOW : (Value.slice q' p1.length k').ownBlock ≠ some A := fun e => by
                rcases hO4 _ e with h | h
                · exact OW2.out h
                · have := HAq.out.lt
                  omega
              have hAy := HAq.out.pure hB4
              have hPut := AllAt.put hAy (i := i) (by omega) hR4 hOW
              obtain ⟨qy, cy, yy, -, -⟩ := hAy.at' (i := i) (by omega)
              have yf := hAy.fr
              have hCy : Chg (fun b => b = A) wq (wy.setCell ⟨A, o + i, none⟩ (.slice q' p1.length k')) := (Chg.of_pure hB4).setCell (S := fun b => b = A) (p := ⟨A, o + i, none⟩) rfl _
              obtain ⟨g0, g1, g2, g3, g4⟩ := HGq.out _ (Chg.of_pure hB4)
              have HPut := Lib.hid hPut
              have HCy := Lib.hid hCy
              clear hR4 hO4 hB4 hOW hAy hPut hCy
              go_wp2
              go_meet
              exact ⟨rfl, HPut.out, HCy.out⟩
        case rest =>
          obtain ⟨rfl, hAr, hCr⟩ := hcut
          obtain ⟨wr, rfl⟩ : ∃ wy : World, wy = wc := ⟨_, rfl⟩
          have hAr1 : ∃ q c, wr.cell? ⟨A, o + i, none⟩ = some (.slice q p1.length c) ∧ RgtsAt wr (.slice q p1.length c) p1 ∧ (Value.slice q p1.length c).ownBlock ≠ some A := by
            have := hAr.at' (i := i) (by simp; omega)
            rw [rowA_set (by omega), if_pos rfl] at this
            exact this
          have hAr2 : ∃ q c, wr.cell? ⟨A, o + j, none⟩ = some (.slice q (rowA a j).length c) ∧ RgtsAt wr (.slice q (rowA a j).length c) (rowA a j) ∧ (Value.slice q (rowA a j).length c).ownBlock ≠ some A := by
            have := hAr.at' (i := j) (by simp; omega)
            rw [rowA_set (by omega), if_neg hne] at this
            exact this
          have HAr := Lib.hid hAr
          have HCr := Lib.hid hCr
          obtain ⟨g0, g1, g2, g3, g4⟩ := HGq.out _ hCr
          clear hAr hCr
          go_upto_if 66 with (fail)
          go_cut [9] (fun s9 wz => s9 = .bool (p2 || q2) ∧ AllAt wz A o ((a.set i p1).set j q1) ∧ Chg (fun b => b = A) wr wz)
          case first =>
            cases r4
            · have e := Hqe.out
              simp only [Bool.false_eq_true, if_false, Prod.mk.injEq] at e
              obtain ⟨e1, rfl⟩ := e
              have E1 := Lib.hid (show (a.set i p1).set j q1 = a.set i p1 by
                have := set_rowA (a := a.set i p1) (i := j) (by simp; omega)
                rw [rowA_set (by omega), if_neg hne] at this
                rw [e1]; exact this)
              clear e1
              go_wp2
              go_meet
              exact ⟨by simp, by rw [E1.out]; exact HAr.out, Chg.refl _ _⟩
            · have HgvX := Lib.hid (show give22 p1 (rowA a j) false = (q1, q2) by have := Hqe.out; simp only [if_true] at this; exact this.symm)
              have HokX := Lib.hid (show ∀ r ∈ p1, rgtOk r = true from fun r hr => ((HG1.out r hr).ok Ht.out).ok)
              have HneX := Lib.hid (Hn0.out j)
              have HanX := Lib.hid (Ha0.out j)
              obtain ⟨qs0, cs0, cc1, RG1, OW1⟩ := hAr1
              obtain ⟨qd0, cd0, cc2, RG2, OW2⟩ := hAr2
              have HS := Lib.hid (show ∀ w' : World, Below wr.heap.size wr w' → (Below wr.heap.size wr w' ∧ (w'.cell? ⟨w.heap.size, 0, none⟩ = some (.int .i64 ((j : Int) + 1)) ∧ w'.cell? ⟨w.heap.size, 1, none⟩ = some (.int .i64 jve) ∧ w'.cell? ⟨w.heap.size, 2, none⟩ = some (.bool r3) ∧ w'.cell? ⟨w.heap.size, 3, none⟩ = some (.bool true) ∧ w'.cell? ⟨w.heap.size, 4, none⟩ = some (.bool r5)) ∧ w'.cell? ⟨A, o + i, none⟩ = some (.slice qs0 (p1).length cs0) ∧ w'.cell? ⟨A, o + j, none⟩ = some (.slice qd0 (rowA a j).length cd0)) from fun w' h => by
                obtain ⟨hc', -⟩ := bcell h
                exact ⟨h, HGq.out _ (HCr.out.trans (Chg.of_pure h)), (hc' _ _ HAr.out.lt).trans cc1, (hc' _ _ HAr.out.lt).trans cc2⟩)
              have RG1 := Lib.hid RG1
              have RG2 := Lib.hid RG2
              have OW2 := Lib.hid OW2
              clear cc1 cc2 OW1
              go_upto_region 9 with (fail)
              go_cut [12, 13] (fun s12 s13 wy => ∃ q' k, s12 = .slice q' q1.length k ∧ s13 = .bool q2 ∧ RgtsAt wy (.slice q' q1.length k) q1 ∧ OwnOr (.slice qd0 (rowA a j).length cd0) (.slice q' q1.length k) wr.heap.size wy.heap.size ∧ Below wr.heap.size wr wy)
              case first =>
                first | (go_region_held3 (fun w' => Below wr.heap.size wr w' ∧ (w'.cell? ⟨w.heap.size, 0, none⟩ = some (.int .i64 ((j : Int) + 1)) ∧ w'.cell? ⟨w.heap.size, 1, none⟩ = some (.int .i64 jve) ∧ w'.cell? ⟨w.heap.size, 2, none⟩ = some (.bool r3) ∧ w'.cell? ⟨w.heap.size, 3, none⟩ = some (.bool true) ∧ w'.cell? ⟨w.heap.size, 4, none⟩ = some (.bool r5)) ∧ w'.cell? ⟨A, o + i, none⟩ = some (.slice qs0 (p1).length cs0) ∧ w'.cell? ⟨A, o + j, none⟩ = some (.slice qd0 (rowA a j).length cd0))
                  (first | assumption | exact HS.out _ (Below.refl _ _) | exact HS.out _ (Below.drew (Below.refl _ _)) | (have hX := And.left (by assumption : Below wr.heap.size wr _ ∧ _); exact HS.out _ (hX.trans (hb3.mono hX.size))))
                  (first | (go_at_call 68; have hX := And.left (by assumption : Below wr.heap.size wr _ ∧ _); refine (l22Give_t (RG1.out.pure hX) (RG2.out.pure hX) HokX.out HneX.out HanX.out HgvX.out).mono ?_; rintro e w3 ⟨q', k', rfl, hR3, hO3, hb3⟩; have hzX := hX.size; have HR3 := Lib.hid (show ∀ wz : World, Below w3.heap.size w3 wz → RgtsAt wz (.slice q' q1.length k') q1 from fun wz h => Rows.pure hR3 h); have HO3 := Lib.hid (hO3.mono hzX (Nat.le_refl _)); clear hR3 hO3 hX hzX))) | fail
                all_goals (go_wp2; go_meet)
                all_goals exact ⟨q', k', rfl, rfl, HR3.out _ (by first | exact Below.refl _ _ | exact (by (repeat (with_reducible first | exact Below.refl _ _ | refine Below.alloc ?_ ?_ _ | refine below_drewN ?_ _ | refine Below.drew ?_ | refine Below.setCell ?_ ?_ _ | refine Below.trans ?_ (Below.mono (by assumption) ?_))) <;> (first | omega | (simp; try omega)))), HO3.out, And.left (by assumption : Below wr.heap.size wr _ ∧ _)⟩
              case rest =>
                obtain ⟨q', k', rfl, rfl, hR4, hO4, hB4⟩ := hcut
                obtain ⟨wy, rfl⟩ : ∃ wy : World, wy = wc := ⟨_, rfl⟩
                have hOW : (Value.slice q' q1.length k').ownBlock ≠ some A := fun e => by
                  rcases hO4 _ e with h | h
                  · exact OW2.out h
                  · have := HAr.out.lt
                    omega
                have hAy := HAr.out.pure hB4
                have hPut := AllAt.put hAy (i := j) (by simp; omega) hR4 hOW
                obtain ⟨qy, cy, yy, -, -⟩ := hAy.at' (i := j) (by simp; omega)
                have yf := hAy.fr
                have hCy : Chg (fun b => b = A) wr (wy.setCell ⟨A, o + j, none⟩ (.slice q' q1.length k')) := (Chg.of_pure hB4).setCell (S := fun b => b = A) (p := ⟨A, o + j, none⟩) rfl _
                obtain ⟨g0, g1, g2, g3, g4⟩ := HGq.out _ (HCr.out.trans (Chg.of_pure hB4))
                have HPut := Lib.hid hPut
                have HCy := Lib.hid hCy
                clear hR4 hO4 hB4 hOW hAy hPut hCy
                cases p2
                · go_wp2
                  go_meet
                  exact ⟨by simp, HPut.out, HCy.out⟩
                · go_wp2
                  go_meet
                  exact ⟨by simp, HPut.out, HCy.out⟩
          case rest =>
            obtain ⟨rfl, hAz, hCz⟩ := hcut
            obtain ⟨wz, rfl⟩ : ∃ wy : World, wy = wc := ⟨_, rfl⟩
            go_wp2
            go_ret
            rw [Hst.out]
            exact ⟨rfl, hAz, (Chg.of_pure HBq.out).trans (HCr.out.trans hCz)⟩
      · have k3' : (jve == r2) = false := by simpa using k3
        have k3'' : (jve != r2) = true := by simpa using k3
        have hnot : stepOn ts i ⟨(j : Int) + 1, r2, r3, r4, r5⟩ = false := by rw [Hon.out]; simp [show (jve == r2) = false by simpa using k3]
        have Hst := Lib.hid (show step22 ts a i ⟨(j : Int) + 1, r2, r3, r4, r5⟩ = (a, false) by unfold step22; rw [hnot]; rfl)
        clear hnot
        go_quiet (fail)
        go_wp2
        go_ret
        rw [Hst.out]
        have hBq : Below w.heap.size w _ := below_drewN HB0.out nq
        exact ⟨rfl, HA.out.pure hBq, Chg.of_pure hBq⟩
    · have k2' : (jk == 2) = false := by simpa using k2
      have k2'' : (jk != 2) = true := by simpa using k2
      have hnot : stepOn ts i ⟨(j : Int) + 1, r2, r3, r4, r5⟩ = false := by rw [Hon.out]; simp [show (jk == 2) = false by simpa using k2]
      have Hst := Lib.hid (show step22 ts a i ⟨(j : Int) + 1, r2, r3, r4, r5⟩ = (a, false) by unfold step22; rw [hnot]; rfl)
      clear hnot
      go_quiet (fail)
      go_wp2
      go_ret
      rw [Hst.out]
      have hBq : Below w.heap.size w _ := below_drewN HB0.out nq
      exact ⟨rfl, HA.out.pure hBq, Chg.of_pure hBq⟩
  · have k1' : (tk == 3) = false := by simpa using k1
    have k1'' : (tk != 3) = true := by simpa using k1
    have hnot : stepOn ts i ⟨(j : Int) + 1, r2, r3, r4, r5⟩ = false := by rw [Hon.out]; simp [show (tk == 3) = false by simpa using k1]
    have Hst := Lib.hid (show step22 ts a i ⟨(j : Int) + 1, r2, r3, r4, r5⟩ = (a, false) by unfold step22; rw [hnot]; rfl)
    clear hnot
    go_quiet (fail)
    go_wp2
    go_ret
    rw [Hst.out]
    have hBq : Below w.heap.size w _ := below_drewN HB0.out nq
    exact ⟨rfl, HA.out.pure hBq, Chg.of_pure hBq⟩
end Go.Proofs.YtiolplhgpodifaaGreat
