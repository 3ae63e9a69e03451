/- The reference's finding of what can be come to have, whole. Conditions: the table lies where its cells say, and is one. -/
import Derived.Test.YtghbphdipdjekaaGreatDoorSo
import Derived.Deep.LoopGhost
import Derived.Test.YtghbphdipdjekaaGreatDoorIv
set_option linter.unusedVariables false
set_option linter.unusedSimpArgs false
namespace Go.Proofs.YtghbphdipdjekaaGreatDoor
open Go.RowKit Drw
attribute [local go_sem] Lab.val Rgt.val Cal.val Thg.val

theorem info_rgts : (Tryz.prog.info? 45).map (fun i => (i.zero, i.size, i.bytes)) = some (some (.slice none 0 0), 1, 24) := by kernel_rfl

/-- Rows of rights under way: the outer row is of the call's own, and no inner one lies in it. -/
def RowsI (B : Nat) (v : Value) (svs : List Value) (a : List (List Rgt)) (w : World) : Prop :=
  w.ownsRow B 45 1 v a.length svs ∧ svs.length = a.length ∧ ∀ (k : Nat) (l : List Rgt), a[k]? = some l → ∃ q c, svs[k]? = some (.slice q l.length c) ∧ RgtsAt w (.slice q l.length c) l ∧ ∀ b, (Value.slice q l.length c).ownBlock = some b → v.ownBlock ≠ some b ∧ b < w.heap.size
theorem RowsI.pure {B : Nat} {v : Value} {svs : List Value} {a : List (List Rgt)} {w w' : World} (h : RowsI B v svs a w) (hb : Below w.heap.size w w') : RowsI B v svs a w' := by
  obtain ⟨h1, h2, h3⟩ := h
  refine ⟨own_below h1 hb, h2, fun k l hk => ?_⟩
  obtain ⟨q, c, e1, e2, e3⟩ := h3 k l hk
  exact ⟨q, c, e1, e2.pure hb, fun b h => ⟨(e3 b h).1, Nat.lt_of_lt_of_le (e3 b h).2 hb.size⟩⟩
/-- One row more. -/
theorem RowsI.push {B : Nat} {v v' : Value} {svs : List Value} {a : List (List Rgt)} {q : Option Addr} {c : Nat} {l : List Rgt} {w w' : World} (h : RowsI B v svs a w) (hown : w'.ownsRow B 45 1 v' (a.length + 1) (svs ++ [.slice q l.length c])) (hg : w.grownBy w' v.ownBlock)
    (hv : v'.ownBlock = v.ownBlock ∨ v'.ownBlock = some w.heap.size) (hlt : ∀ b, v.ownBlock = some b → b < w.heap.size)
    (hl : RgtsAt w (.slice q l.length c) l) (hlo : ∀ b, (Value.slice q l.length c).ownBlock = some b → v.ownBlock ≠ some b ∧ b < w.heap.size) : RowsI B v' (svs ++ [.slice q l.length c]) (a ++ [l]) w' := by
  obtain ⟨h1, h2, h3⟩ := h
  have keep : ∀ {q : Option Addr} {c : Nat} {l : List Rgt}, RgtsAt w (.slice q l.length c) l → (∀ b, (Value.slice q l.length c).ownBlock = some b → v.ownBlock ≠ some b ∧ b < w.heap.size) → RgtsAt w' (.slice q l.length c) l ∧ ∀ b, (Value.slice q l.length c).ownBlock = some b → v'.ownBlock ≠ some b ∧ b < w'.heap.size := by
    intro q c l hr hb
    refine ⟨Rows.kept hr (Chg.of_grown hg) (.inr fun k hk e => (hb k hk).1 e.symm), fun b hb' => ⟨fun e => ?_, Nat.lt_of_lt_of_le (hb b hb').2 hg.size⟩⟩
    rcases hv with hv | hv
    · exact (hb b hb').1 (hv ▸ e)
    · rw [hv] at e
      have := Option.some.inj e
      have := (hb b hb').2
      omega
  refine ⟨by simpa using hown, by simp [h2], fun k l' hk => ?_⟩
  by_cases hka : k < a.length
  · rw [List.getElem?_append_left hka] at hk
    obtain ⟨q', c', e1, e2, e3⟩ := h3 k l' hk
    obtain ⟨f1, f2⟩ := keep e2 e3
    exact ⟨q', c', by rw [List.getElem?_append_left (by omega)]; exact e1, f1, f2⟩
  · rw [List.getElem?_append_right (by omega)] at hk
    have hk0 : k = a.length := by
      have := (List.getElem?_eq_some_iff.1 hk).1
      simp at this
      omega
    subst hk0
    simp at hk
    subst hk
    obtain ⟨f1, f2⟩ := keep hl hlo
    exact ⟨q, c, by rw [List.getElem?_append_right (by omega), h2]; simp, f1, f2⟩
theorem RowsI.all {B : Nat} {v : Value} {svs : List Value} {a : List (List Rgt)} {w : World} (h : RowsI B v svs a w) (ha : a ≠ []) : ∃ A c, v = .slice (some ⟨A, 0, none⟩) a.length c ∧ B ≤ A ∧ a.length ≤ c ∧ c ≤ maxLen ∧ AllAt w A 0 a := by
  obtain ⟨h1, h2, h3⟩ := h
  rcases h1.2 with ⟨e, h0⟩ | ⟨g, cap, cur, rfl, hb, hg, hn, hm, hs, htk⟩
  · exact absurd (List.length_eq_zero_iff.1 h0) ha
  · refine ⟨g, cap, rfl, hb, hn, hm, (h1.lt g rfl).2, fun j => by simp [World.frozen?, hg], fun k l hk => ?_⟩
    obtain ⟨q, c, e1, e2, e3⟩ := h3 k l hk
    refine ⟨q, c, ?_, e2, fun e => (e3 g e).1 rfl⟩
    have := h1.cells (g := g) rfl k _ e1
    rw [addr_add] at this
    simpa using this

def first22 (ts : List Thg) : List (List Rgt) := ts.map fun t => (give22 t.slots [] false).1
theorem first_next {ts : List Thg} {i : Nat} {t : Thg} (h : ts[i]? = some t) : first22 (ts.take (i + 1)) = first22 (ts.take i) ++ [(give22 t.slots [] false).1] := by
  unfold first22
  rw [List.take_add_one, h]
  simp


/-- What is found so far: sound, and above what things have of their own. -/
structure Cur (ts : List Thg) (a : List (List Rgt)) : Prop where
  snd : Snd ts a
  own : ∀ i, i < ts.length → ∀ r ∈ (getT ts ((i : Int) + 1)).slots, r.thing ≠ 0 → covB (rowA a i) r = true
def Setl (ts : List Thg) (a : List (List Rgt)) : Prop := ∀ i, i < ts.length → ∀ r ∈ rowA a i, (step22 ts a i r).2 = false
theorem rowA_first {ts : List Thg} {k : Nat} (hk : k < ts.length) : rowA (first22 ts) k = (give22 (getT ts ((k : Int) + 1)).slots [] false).1 := by
  have e : ts[k]? = some (getT ts ((k : Int) + 1)) := by
    have := List.getElem?_eq_getElem hk
    rw [this, getT_at this]
  simp [rowA, first22, e]
theorem rowA_out {a : List (List Rgt)} {k : Nat} (hk : ¬ k < a.length) : rowA a k = [] := by
  simp [rowA, List.getElem?_eq_none (show a.length ≤ k by omega)]
theorem fetW_false (r : Rgt) : fetW false r = r := rfl
theorem first_cur {ts : List Thg} (ht : tabOk ts = true) : Cur ts (first22 ts) := by
  have hlen : (first22 ts).length = ts.length := by simp [first22]
  have hg : ∀ k, k < ts.length → Giv (getT ts ((k : Int) + 1)).slots [] (give22 (getT ts ((k : Int) + 1)).slots [] false).1 false (give22 (getT ts ((k : Int) + 1)).slots [] false).2 := fun k hk =>
    give_giv (fun r hr => by cases hr) _ (fun r hr => slot_ok (tab_thgOk ht (ex_at hk)) hr)
  refine ⟨⟨hlen, fun k r hr => ?_, fun k => ?_⟩, fun i hi r hr h0 => ?_⟩
  · by_cases hk : k < ts.length
    · rw [rowA_first hk] at hr
      rcases (hg k hk).mem r hr with h | ⟨x, hx, rfl, h0⟩
      · cases h
      · exact Got.own (ex_at hk) hx h0
    · rw [rowA_out (by rw [hlen]; exact hk)] at hr
      cases hr
  · by_cases hk : k < ts.length
    · rw [rowA_first hk]
      exact (hg k hk).up.anti List.Pairwise.nil
    · rw [rowA_out (by rw [hlen]; exact hk)]
      exact List.Pairwise.nil
  · rw [rowA_first hi]
    exact (hg i hi).cov r hr h0
theorem Cur.adv {ts : List Thg} {a a' : List (List Rgt)} {b : Bool} (h : Cur ts a) (hs : Snd ts a') (hv : Adv a a' b) : Cur ts a' :=
  ⟨hs, fun i hi r hr h0 => hv.mono i r h0 (h.own i hi r hr h0)⟩
theorem Cur.reach {ts : List Thg} (ht : tabOk ts = true) {a : List (List Rgt)} (h : Cur ts a) (hst : Setl ts a) : IsReach ts (a.map sort22) :=
  reach_of_settled ht h.snd fun k r hg => settled ht h.snd h.own hst hg k rfl
def left22 (a : List (List Rgt)) (m : Bool) : Nat := (if m then 1 else 0) + 2 * (3072 - tot cntC a)
theorem left_adv {ts : List Thg} {a a' : List (List Rgt)} {m : Bool} (h8 : ts.length ≤ 8) (hs : Snd ts a') (h : Adv a a' m) : left22 a' m < left22 a true := by
  have h1 : tot cntC a' ≤ a'.length * 384 := tot_le cntC 384 a' (fun l _ => cntC_le l)
  have h2 : a'.length ≤ 8 := by rw [hs.len]; exact h8
  unfold left22
  cases m
  · have := h.le
    simp
    omega
  · have := h.more rfl
    simp
    omega
theorem AllAt.kept {w w' : World} {A o : Nat} {a : List (List Rgt)} (h : AllAt w A o a) (hb : Below w.heap.size w w') : AllAt w' A o a := h.pure hb

/-- The rows, the first i of them in order. -/
def srt (a : List (List Rgt)) (i : Nat) : List (List Rgt) := (a.take i).map sort22 ++ a.drop i
theorem srt_len (a : List (List Rgt)) (i : Nat) : (srt a i).length = a.length := by
  simp only [srt, List.length_append, List.length_map, List.length_take, List.length_drop]
  omega
theorem srt_zero (a : List (List Rgt)) : srt a 0 = a := by simp [srt]
theorem srt_all (a : List (List Rgt)) : srt a a.length = a.map sort22 := by simp [srt]
theorem srt_row {a : List (List Rgt)} {i : Nat} (hi : i < a.length) : rowA (srt a i) i = rowA a i := by
  have h : ((a.take i).map sort22).length = i := by rw [List.length_map, List.length_take]; omega
  unfold rowA srt
  rw [List.getElem?_append_right (by omega), h, List.getElem?_drop]
  simp
theorem srt_next {a : List (List Rgt)} {i : Nat} (hi : i < a.length) : (srt a i).set i (sort22 (rowA a i)) = srt a (i + 1) := by
  have h : ((a.take i).map sort22).length = i := by rw [List.length_map, List.length_take]; omega
  have e : a[i]? = some (rowA a i) := by simp [rowA, List.getElem?_eq_getElem hi]
  unfold srt
  have e2 : a[i] = rowA a i := by simp [rowA, List.getElem?_eq_getElem hi]
  have hd : a.drop i = rowA a i :: a.drop (i + 1) := by rw [List.drop_eq_getElem_cons hi, e2]
  rw [List.set_append_right _ _ (by omega), h, Nat.sub_self, List.take_add_one, e, hd, List.set_cons_zero]
  simp only [Option.toList_some, List.map_append, List.map_cons, List.map_nil, List.append_assoc, List.cons_append, List.nil_append]
end Go.Proofs.YtghbphdipdjekaaGreatDoor

/- The reference says of one thing what the plain function says. Conditions: the thing lies where its cells say. -/
namespace Go.Proofs.YtghbphdipdjekaaGreatDoor
open Go.RowKit Drw
attribute [local go_sem] Lab.val Rgt.val Cal.val Thg.val

set_option maxHeartbeats 400000 in
theorem l3Slots_c (k : Int) (w : World) :
    Calls Tryz.prog 95 #[.int .i64 k] w fun e w' => e = .returned (.bool (k == 2 || k == 3)) ∧ w = w' := by
  go_enter Tryz.func95, Tryz.ntmps95
  go_wp2
  all_goals (go_ret; exact ⟨ret_bool (by simp [*]), rfl⟩)

def bad2 (k ve nu : Int) : Bool := !inR nu (if k = 3 then -4 else 0) 99 || (nu != 0 && (k == 2 || k == 4)) || (ve != 0 && (k == 3 || k == 5))
def bad3 (k : Int) (n : Nat) : Bool := ((k == 2 || k == 3) && n != 4) || (!(k == 2 || k == 3) && n != 0)
def fin3 (k tg : Int) (n : Nat) : Bool := (k == 4 || n == 0) && ((k == 5 && inR tg 1 8) || (k != 5 && tg == 0))
theorem thgOk_spec (t : Thg) : thgOk t = (inR t.kind 1 5 && labOk t.lab && inR t.vers 0 5 && decide (t.queue.length ≤ 3) && !bad2 t.kind t.vers t.num && t.queue.all (fun n => inR n 0 99) && t.slots.all rgtOk && !bad3 t.kind t.slots.length && fin3 t.kind t.to t.queue.length) := by
  obtain ⟨k, l, ve, nu, sl, qu, tg⟩ := t
  by_cases hk : inR k 1 5 = true
  · have : k = 1 ∨ k = 2 ∨ k = 3 ∨ k = 4 ∨ k = 5 := by simp [inR] at hk; omega
    rcases this with rfl | rfl | rfl | rfl | rfl
    all_goals simp [thgOk, versOk, numOk, slotsOk, queueOk, targetOk, bad2, bad3, fin3, hk]
    all_goals rw [Bool.eq_iff_iff]
    all_goals simp [inR, List.length_eq_zero_iff]
    all_goals grind
  · simp [thgOk, hk]
set_option maxRecDepth 100000 in
set_option maxHeartbeats 2000000 in
theorem sthingOk_c (t : Thg) (sv qv : Value) (w : World) (hs : RgtsAt w sv t.slots) (hq : IntsAt w qv t.queue) :
    Calls Tryz.prog 61 #[t.val sv qv] w fun e w' => e = .returned (.bool (thgOk t)) ∧ Below w.heap.size w w' := by
  obtain ⟨k, ⟨s, v⟩, ve, nu, sl, qu, tg⟩ := t
  dsimp only [Thg.val] at hs hq ⊢
  obtain ⟨p, cap, rfl, hl1, hl2⟩ := hq.len
  obtain ⟨p', cap', rfl, hl1', hl2'⟩ := hs.len
  unfold maxLen at hl2 hl2'
  go_enter Tryz.func61, Tryz.ntmps61
  go_upto_region 6 with (first
    | (go_at_call 62; refine (l6In_c _ _ _ _).mono ?_; rintro e w' ⟨rfl, rfl⟩)
    | (go_at_call 20; refine (slabelOk_c ⟨_, _⟩ _).mono ?_; rintro e w1 ⟨rfl, hb1⟩; obtain ⟨hc1, hf1⟩ := bcell hb1; have hz0 : w.heap.size < w1.heap.size := (by have := hb1.size; (try simp at this); omega)))
  any_goals (go_ret; refine ⟨ret_bool ?_, (by (repeat (with_reducible first | exact Below.refl _ _ | refine Below.alloc ?_ ?_ _ | refine below_drewN ?_ _ | refine Below.drew ?_ | refine Below.setCell ?_ ?_ _ | refine Below.trans ?_ (Below.mono (by assumption) ?_))) <;> (first | omega | (simp; try omega)))⟩; first | (simp [thgOk_spec, *]; done) | (simp [thgOk_spec, *]; omega))
  all_goals
    go_cut [0, 65] (fun s0 s65 wx => s0 = .agg #[.int .i64 k, .int .i64 s, .int .i64 v, .int .i64 ve, .int .i64 nu, .slice p' sl.length cap', .slice p qu.length cap, .int .i64 tg] ∧ s65 = .bool (bad2 k ve nu) ∧ Below w.heap.size w wx ∧ w.heap.size < wx.heap.size ∧ wx.cell? ⟨w.heap.size, 0, none⟩ = some (.int .i64 k) ∧ wx.cell? ⟨w.heap.size, 1, none⟩ = some (.int .i64 s) ∧ wx.cell? ⟨w.heap.size, 2, none⟩ = some (.int .i64 v) ∧ wx.cell? ⟨w.heap.size, 3, none⟩ = some (.int .i64 ve) ∧ wx.cell? ⟨w.heap.size, 4, none⟩ = some (.int .i64 nu) ∧ wx.cell? ⟨w.heap.size, 5, none⟩ = some (.slice p' sl.length cap') ∧ wx.cell? ⟨w.heap.size, 6, none⟩ = some (.slice p qu.length cap) ∧ wx.cell? ⟨w.heap.size, 7, none⟩ = some (.int .i64 tg))
    case first =>
      go_wp2_with (go_at_call 62; refine (l6In_c _ _ _ _).mono ?_; rintro e w' ⟨rfl, rfl⟩)
      all_goals go_meet
      all_goals
        refine ⟨by simp [*], ?_, (by (repeat (with_reducible first | exact Below.refl _ _ | refine Below.alloc ?_ ?_ _ | refine below_drewN ?_ _ | refine Below.drew ?_ | refine Below.setCell ?_ ?_ _ | refine Below.trans ?_ (Below.mono (by assumption) ?_))) <;> (first | omega | (simp; try omega))), by assumption, ?_⟩
        · exact congrArg Value.bool (by grind [bad2])
        · simp [*]
    case rest =>
      obtain ⟨rfl, rfl, hB, hlt, c0, c1, c2, c3, c4, c5, c6, c7⟩ := hcut
      go_wp2
      · go_ret
        exact ⟨ret_bool (by simp [thgOk_spec, *]), hB⟩
      have hbad : bad2 k ve nu = false := by assumption
      simp only [hbad]
      go_loop [4] (fun i => ∃ j : Nat, j ≤ qu.length ∧ i = .int .i64 j ∧ (qu.take j).all (fun n => inR n 0 99) = true) (fun i => qu.length - (intOf i).toNat)
      case atStart => exact ⟨0, Nat.zero_le _, rfl, by simp⟩
      case round =>
        obtain ⟨j, hj, rfl, hall⟩ := hrel
        have Hall := Lib.hid hall
        clear hall
        by_cases hlq : j < qu.length
        · obtain ⟨b, o, rfl, hbk, hc⟩ := (hq.pure hB).at j qu[j] (by simp [hlq])
          go_wp2_with (go_at_call 62; refine (l6In_c _ _ _ _).mono ?_; rintro e w' ⟨rfl, rfl⟩)
          · go_ret
            have hb : (!inR qu[j] 0 99) = true := by assumption
            have hx : qu.all (fun n => inR n 0 99) = false := by
              rw [List.all_eq_false]; exact ⟨qu[j], by simp, by simpa using hb⟩
            exact ⟨ret_bool (by simp only [thgOk_spec, hx]; simp), hB⟩
          · go_round
            case rel =>
              have hb : (!inR qu[j] 0 99) = false := by assumption
              exact ⟨j + 1, by omega, by go_num, by rw [all_take_succ _ _ _ hlq, Hall.out]; simpa using hb⟩
            case measure => simp [intOf]; omega
        · have e : j = qu.length := by omega
          have HQ := Hall.out
          rw [e, List.take_of_length_le (Nat.le_refl _)] at HQ
          have HQ' := Lib.hid HQ
          clear Hall e HQ
          go_wp2
          go_loopw [5] (fun i wr => ∃ j : Nat, j ≤ sl.length ∧ i = .int .i64 j ∧ (sl.take j).all rgtOk = true ∧ Below wc.heap.size wc wr) (fun i _ => sl.length - (intOf i).toNat)
          case atStart => exact ⟨0, Nat.zero_le _, rfl, by simp, Below.refl _ _⟩
          case round =>
            obtain ⟨m, hm, rfl, hall, hBr⟩ := hrel
            have Hall := Lib.hid hall
            clear hall
            obtain ⟨hcr, hfr⟩ := bcell hBr
            by_cases hls : m < sl.length
            · obtain ⟨b', o', rfl, hbk', hrg⟩ := ((hs.pure hB).pure hBr).at m sl[m] (by simp [hls])
              obtain ⟨hr0, hr1, hr2, hr3, hr4⟩ := hrg
              go_wp2_with (go_at_call 94; refine (srightOk_c ⟨_, _, _, _, _⟩ _).mono ?_; rintro e w2 ⟨rfl, hb2⟩)
              · go_ret
                have hb : (!rgtOk sl[m]) = true := by assumption
                have hx : sl.all rgtOk = false := by
                  rw [List.all_eq_false]; exact ⟨sl[m], by simp, by simpa using hb⟩
                exact ⟨ret_bool (by simp only [thgOk_spec, hx]; simp), hB.trans ((hBr.trans (hb2.mono hBr.size)).mono hB.size)⟩
              · go_roundw
                case rel =>
                  have hb : (!rgtOk sl[m]) = false := by assumption
                  exact ⟨m + 1, by omega, by go_num, by rw [all_take_succ _ _ _ hls, Hall.out]; simpa using hb, hBr.trans (hb2.mono hBr.size)⟩
                case measure => simp [intOf]; omega
            · have e : m = sl.length := by omega
              have HS := Hall.out
              rw [e, List.take_of_length_le (Nat.le_refl _)] at HS
              have HS' := Lib.hid HS
              clear Hall e HS
              go_wp2_with (first
                | (go_at_call 95; refine (l3Slots_c _ _).mono ?_; rintro e w' ⟨rfl, rfl⟩)
                | (go_at_call 62; refine (l6In_c _ _ _ _).mono ?_; rintro e w' ⟨rfl, rfl⟩))
              all_goals
                go_ret
                refine ⟨ret_bool ?_, hB.trans (hBr.mono hB.size)⟩
                have HQ := HQ'.out
                have HS := HS'.out
                rw [thgOk_spec]
                dsimp only
                clear hc1 hf1 hb1 hcr hfr c0 c1 c2 c3 c4 c5 c6 c7 hs hq
                grind [bad3, fin3]

end Go.Proofs.YtghbphdipdjekaaGreatDoor
