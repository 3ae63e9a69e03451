/- The reference's finding of what can be come to have, whole. Conditions: the table lies where its cells say, and is one. -/
import Derived.Test.YtiolplhgpodifaaGreatSo
import Derived.Deep.LoopGhost
import Derived.Test.YtiolplhgpodifaaGreatIv
set_option linter.unusedVariables false
set_option linter.unusedSimpArgs false
namespace Go.Proofs.YtiolplhgpodifaaGreat
open Go.RowKit Drw
attribute [local go_sem] Lab.val Rgt.val Cal.val Thg.val

theorem info_rgts : (Tryz.prog.info? 30).map (fun i => (i.zero, i.size, i.bytes)) = some (some (.slice none 0 0), 1, 24) := by kernel_rfl

/-- Rows of rights under way: the outer row is of the call's own, and no inner one lies in it. -/
def RowsI (B : Nat) (v : Value) (svs : List Value) (a : List (List Rgt)) (w : World) : Prop :=
  w.ownsRow B 30 1 v a.length svs ∧ svs.length = a.length ∧ ∀ (k : Nat) (l : List Rgt), a[k]? = some l → ∃ q c, svs[k]? = some (.slice q l.length c) ∧ RgtsAt w (.slice q l.length c) l ∧ ∀ b, (Value.slice q l.length c).ownBlock = some b → v.ownBlock ≠ some b ∧ b < w.heap.size
theorem RowsI.pure {B : Nat} {v : Value} {svs : List Value} {a : List (List Rgt)} {w w' : World} (h : RowsI B v svs a w) (hb : Below w.heap.size w w') : RowsI B v svs a w' := by
  obtain ⟨h1, h2, h3⟩ := h
  refine ⟨own_below h1 hb, h2, fun k l hk => ?_⟩
  obtain ⟨q, c, e1, e2, e3⟩ := h3 k l hk
  exact ⟨q, c, e1, e2.pure hb, fun b h => ⟨(e3 b h).1, Nat.lt_of_lt_of_le (e3 b h).2 hb.size⟩⟩
/-- One row more. -/
theorem RowsI.push {B : Nat} {v v' : Value} {svs : List Value} {a : List (List Rgt)} {q : Option Addr} {c : Nat} {l : List Rgt} {w w' : World} (h : RowsI B v svs a w) (hown : w'.ownsRow B 30 1 v' (a.length + 1) (svs ++ [.slice q l.length c])) (hg : w.grownBy w' v.ownBlock)
    (hv : v'.ownBlock = v.ownBlock ∨ v'.ownBlock = some w.heap.size) (hlt : ∀ b, v.ownBlock = some b → b < w.heap.size)
    (hl : RgtsAt w (.slice q l.length c) l) (hlo : ∀ b, (Value.slice q l.length c).ownBlock = some b → v.ownBlock ≠ some b ∧ b < w.heap.size) : RowsI B v' (svs ++ [.slice q l.length c]) (a ++ [l]) w' := by
  obtain ⟨h1, h2, h3⟩ := h
  have keep : ∀ {q : Option Addr} {c : Nat} {l : List Rgt}, RgtsAt w (.slice q l.length c) l → (∀ b, (Value.slice q l.length c).ownBlock = some b → v.ownBlock ≠ some b ∧ b < w.heap.size) → RgtsAt w' (.slice q l.length c) l ∧ ∀ b, (Value.slice q l.length c).ownBlock = some b → v'.ownBlock ≠ some b ∧ b < w'.heap.size := by
    intro q c l hr hb
    refine ⟨Rows.kept hr (Chg.of_grown hg) (.inr fun k hk e => (hb k hk).1 e.symm), fun b hb' => ⟨fun e => ?_, Nat.lt_of_lt_of_le (hb b hb').2 hg.size⟩⟩
    rcases hv with hv | hv
    · exact (hb b hb').1 (hv ▸ e)
    · rw [hv] at e
      have := Option.some.inj e
      have := (hb b hb').2
      omega
  refine ⟨by simpa using hown, by simp [h2], fun k l' hk => ?_⟩
  by_cases hka : k < a.length
  · rw [List.getElem?_append_left hka] at hk
    obtain ⟨q', c', e1, e2, e3⟩ := h3 k l' hk
    obtain ⟨f1, f2⟩ := keep e2 e3
    exact ⟨q', c', by rw [List.getElem?_append_left (by omega)]; exact e1, f1, f2⟩
  · rw [List.getElem?_append_right (by omega)] at hk
    have hk0 : k = a.length := by
      have := (List.getElem?_eq_some_iff.1 hk).1
      simp at this
      omega
    subst hk0
    simp at hk
    subst hk
    obtain ⟨f1, f2⟩ := keep hl hlo
    exact ⟨q, c, by rw [List.getElem?_append_right (by omega), h2]; simp, f1, f2⟩
theorem RowsI.all {B : Nat} {v : Value} {svs : List Value} {a : List (List Rgt)} {w : World} (h : RowsI B v svs a w) (ha : a ≠ []) : ∃ A c, v = .slice (some ⟨A, 0, none⟩) a.length c ∧ B ≤ A ∧ a.length ≤ c ∧ c ≤ maxLen ∧ AllAt w A 0 a := by
  obtain ⟨h1, h2, h3⟩ := h
  rcases h1.2 with ⟨e, h0⟩ | ⟨g, cap, cur, rfl, hb, hg, hn, hm, hs, htk⟩
  · exact absurd (List.length_eq_zero_iff.1 h0) ha
  · refine ⟨g, cap, rfl, hb, hn, hm, (h1.lt g rfl).2, fun j => by simp [World.frozen?, hg], fun k l hk => ?_⟩
    obtain ⟨q, c, e1, e2, e3⟩ := h3 k l hk
    refine ⟨q, c, ?_, e2, fun e => (e3 g e).1 rfl⟩
    have := h1.cells (g := g) rfl k _ e1
    rw [addr_add] at this
    simpa using this

def first22 (ts : List Thg) : List (List Rgt) := ts.map fun t => (give22 t.slots [] false).1
theorem first_next {ts : List Thg} {i : Nat} {t : Thg} (h : ts[i]? = some t) : first22 (ts.take (i + 1)) = first22 (ts.take i) ++ [(give22 t.slots [] false).1] := by
  unfold first22
  rw [List.take_add_one, h]
  simp


/-- What is found so far: sound, and above what things have of their own. -/
structure Cur (ts : List Thg) (a : List (List Rgt)) : Prop where
  snd : Snd ts a
  own : ∀ i, i < ts.length → ∀ r ∈ (getT ts ((i : Int) + 1)).slots, r.thing ≠ 0 → covB (rowA a i) r = true
def Setl (ts : List Thg) (a : List (List Rgt)) : Prop := ∀ i, i < ts.length → ∀ r ∈ rowA a i, (step22 ts a i r).2 = false
theorem rowA_first {ts : List Thg} {k : Nat} (hk : k < ts.length) : rowA (first22 ts) k = (give22 (getT ts ((k : Int) + 1)).slots [] false).1 := by
  have e : ts[k]? = some (getT ts ((k : Int) + 1)) := by
    have := List.getElem?_eq_getElem hk
    rw [this, getT_at this]
  simp [rowA, first22, e]
theorem rowA_out {a : List (List Rgt)} {k : Nat} (hk : ¬ k < a.length) : rowA a k = [] := by
  simp [rowA, List.getElem?_eq_none (show a.length ≤ k by omega)]
theorem fetW_false (r : Rgt) : fetW false r = r := rfl
theorem first_cur {ts : List Thg} (ht : tabOk ts = true) : Cur ts (first22 ts) := by
  have hlen : (first22 ts).length = ts.length := by simp [first22]
  have hg : ∀ k, k < ts.length → Giv (getT ts ((k : Int) + 1)).slots [] (give22 (getT ts ((k : Int) + 1)).slots [] false).1 false (give22 (getT ts ((k : Int) + 1)).slots [] false).2 := fun k hk =>
    give_giv (fun r hr => by cases hr) _ (fun r hr => slot_ok (tab_thgOk ht (ex_at hk)) hr)
  refine ⟨⟨hlen, fun k r hr => ?_, fun k => ?_⟩, fun i hi r hr h0 => ?_⟩
  · by_cases hk : k < ts.length
    · rw [rowA_first hk] at hr
      rcases (hg k hk).mem r hr with h | ⟨x, hx, rfl, h0⟩
      · cases h
      · exact Got.own (ex_at hk) hx h0
    · rw [rowA_out (by rw [hlen]; exact hk)] at hr
      cases hr
  · by_cases hk : k < ts.length
    · rw [rowA_first hk]
      exact (hg k hk).up.anti List.Pairwise.nil
    · rw [rowA_out (by rw [hlen]; exact hk)]
      exact List.Pairwise.nil
  · rw [rowA_first hi]
    exact (hg i hi).cov r hr h0
theorem Cur.adv {ts : List Thg} {a a' : List (List Rgt)} {b : Bool} (h : Cur ts a) (hs : Snd ts a') (hv : Adv a a' b) : Cur ts a' :=
  ⟨hs, fun i hi r hr h0 => hv.mono i r h0 (h.own i hi r hr h0)⟩
theorem Cur.reach {ts : List Thg} (ht : tabOk ts = true) {a : List (List Rgt)} (h : Cur ts a) (hst : Setl ts a) : IsReach ts (a.map sort22) :=
  reach_of_settled ht h.snd fun k r hg => settled ht h.snd h.own hst hg k rfl
def left22 (a : List (List Rgt)) (m : Bool) : Nat := (if m then 1 else 0) + 2 * (3072 - tot cntC a)
theorem left_adv {ts : List Thg} {a a' : List (List Rgt)} {m : Bool} (h8 : ts.length ≤ 8) (hs : Snd ts a') (h : Adv a a' m) : left22 a' m < left22 a true := by
  have h1 : tot cntC a' ≤ a'.length * 384 := tot_le cntC 384 a' (fun l _ => cntC_le l)
  have h2 : a'.length ≤ 8 := by rw [hs.len]; exact h8
  unfold left22
  cases m
  · have := h.le
    simp
    omega
  · have := h.more rfl
    simp
    omega
theorem AllAt.kept {w w' : World} {A o : Nat} {a : List (List Rgt)} (h : AllAt w A o a) (hb : Below w.heap.size w w') : AllAt w' A o a := h.pure hb

/-- The rows, the first i of them in order. -/
def srt (a : List (List Rgt)) (i : Nat) : List (List Rgt) := (a.take i).map sort22 ++ a.drop i
theorem srt_len (a : List (List Rgt)) (i : Nat) : (srt a i).length = a.length := by
  simp only [srt, List.length_append, List.length_map, List.length_take, List.length_drop]
  omega
theorem srt_zero (a : List (List Rgt)) : srt a 0 = a := by simp [srt]
theorem srt_all (a : List (List Rgt)) : srt a a.length = a.map sort22 := by simp [srt]
theorem srt_row {a : List (List Rgt)} {i : Nat} (hi : i < a.length) : rowA (srt a i) i = rowA a i := by
  have h : ((a.take i).map sort22).length = i := by rw [List.length_map, List.length_take]; omega
  unfold rowA srt
  rw [List.getElem?_append_right (by omega), h, List.getElem?_drop]
  simp
theorem srt_next {a : List (List Rgt)} {i : Nat} (hi : i < a.length) : (srt a i).set i (sort22 (rowA a i)) = srt a (i + 1) := by
  have h : ((a.take i).map sort22).length = i := by rw [List.length_map, List.length_take]; omega
  have e : a[i]? = some (rowA a i) := by simp [rowA, List.getElem?_eq_getElem hi]
  unfold srt
  have e2 : a[i] = rowA a i := by simp [rowA, List.getElem?_eq_getElem hi]
  have hd : a.drop i = rowA a i :: a.drop (i + 1) := by rw [List.drop_eq_getElem_cons hi, e2]
  rw [List.set_append_right _ _ (by omega), h, Nat.sub_self, List.take_add_one, e, hd, List.set_cons_zero]
  simp only [Option.toList_some, List.map_append, List.map_cons, List.map_nil, List.append_assoc, List.cons_append, List.nil_append]
theorem l22Sort_t {p : Option Addr} {cap : Nat} {rs ns : List Rgt} {w : World} (hR : RgtsAt w (.slice p rs.length cap) rs) (hne : Ne0 rs) (hn : rs.length ≤ 400) (h : sort22 rs = ns) :
    Calls Tryz.prog 70 #[.slice p rs.length cap] w fun e w' => ∃ q k, e = .returned (.slice q ns.length k) ∧ RgtsAt w' (.slice q ns.length k) ns ∧ (∀ b, (Value.slice q ns.length k).ownBlock = some b → w.heap.size ≤ b) ∧ Below w.heap.size w w' := by
  subst h; exact l22Sort_c p cap rs w hR hne hn

set_option maxRecDepth 100000 in
set_option maxHeartbeats 4000000 in
theorem l22All_c (p : Option Addr) (cap : Nat) (ts : List Thg) (w : World) (hT : TabAt w (.slice p ts.length cap) ts) (ht : tabOk ts = true) :
    Calls Tryz.prog 37 #[.slice p ts.length cap] w fun e w' => ∃ A c a, e = .returned (.slice (some ⟨A, 0, none⟩) a.length c) ∧ IsReach ts a ∧ AllAt w' A 0 a ∧ Below w.heap.size w w' := by
  obtain ⟨_, _, h1, hl1, hl2⟩ := hT.len
  cases h1
  unfold maxLen at hl2
  have h8 : 1 ≤ ts.length ∧ ts.length ≤ 8 := by
    have := ht
    simp only [tabOk, Bool.and_eq_true, inR, decide_eq_true_eq] at this
    omega
  obtain ⟨i0, hi0, hy0, hy1, hy2⟩ := info_parts info_rgts
  have HT := Lib.hid hT
  have Ht := Lib.hid ht
  have Hsl := Lib.hid (show ∀ t ∈ ts, ∀ r ∈ t.slots, rgtOk r = true from fun t h r hr => by
    obtain ⟨k, hk⟩ := List.getElem?_of_mem h
    have h2 := tab_thgOk ht (ex_at (List.getElem?_eq_some_iff.1 hk).1)
    rw [getT_at hk] at h2
    exact slot_ok h2 hr)
  clear hT ht
  go_enter Tryz.func37, Tryz.ntmps37
  go_wp2
  go_loopw [3, 4] (fun s3 s4 wr => ∃ (i : Nat) (svs : List Value), s4 = .int .i64 (i : Int) ∧ i ≤ ts.length ∧ RowsI w.heap.size s3 svs (first22 (ts.take i)) wr ∧ Below w.heap.size w wr) (fun _ s4 _ => ts.length - (intOf s4).toNat)
  case atStart => exact ⟨0, [], rfl, by omega, ⟨own_lit w.heap.size rfl (Nat.le_refl _), rfl, fun k l h => by simp [first22] at h⟩, (by (repeat (with_reducible first | exact Below.refl _ _ | refine Below.alloc ?_ ?_ _ | refine below_drewN ?_ _ | refine Below.drew ?_ | refine Below.setCell ?_ ?_ _ | refine Below.trans ?_ (Below.mono (by assumption) ?_))) <;> (first | omega | (simp; try omega)))⟩
  case round =>
    obtain ⟨i, svs, rfl, hi, hRI, hBr⟩ := hrel
    have hfl : (first22 (ts.take i)).length = i := by simp [first22]; omega
    obtain ⟨fa, hfa⟩ : ∃ a, first22 (ts.take i) = a := ⟨_, rfl⟩
    rw [hfa] at hRI hfl
    have hown := hRI.1
    rw [hfl] at hown
    obtain ⟨q3, c3, rfl⟩ := own_slice_n hown
    have hobl : ∀ b, (Value.slice q3 i c3).ownBlock = some b → b < wr.heap.size := fun b hb => (hown.lt b hb).2
    have Hfa := Lib.hid hfa
    have Hfl := Lib.hid hfl
    have Hown := Lib.hid hown
    have HRI := Lib.hid hRI
    have HBr := Lib.hid hBr
    have Hobl := Lib.hid hobl
    have hzr := hBr.size
    obtain ⟨wr', rfl⟩ : ∃ wy : World, wy = wr := ⟨_, rfl⟩
    by_cases hlt : i < ts.length
    · obtain ⟨t, htt⟩ : ∃ t, ts[i]? = some t := ⟨_, List.getElem?_eq_getElem hlt⟩
      obtain ⟨b, o, sv, qv, rfl, hb, hS, -, -, -, -, -, -, p5, -⟩ := (HT.out.pure hBr).at i t htt
      obtain ⟨ps, cs, rfl, hs1, hs2⟩ := hS.len
      obtain ⟨ns, m, hg⟩ : ∃ ns m, give22 t.slots [] false = (ns, m) := ⟨_, _, rfl⟩
      have hnext := first_next htt
      rw [hfa, hg] at hnext
      have Hnext := Lib.hid hnext
      have Hg := Lib.hid hg
      have HS := Lib.hid hS
      have Hok := Lib.hid (Hsl.out t (List.mem_of_getElem? htt))
      have hne0 : Ne0 [] := fun r hr => by cases hr
      have han0 : Anti [] := List.Pairwise.nil
      have Hne0 := Lib.hid hne0
      have Han0 := Lib.hid han0
      have hj0 : (0 : Int) ≤ (i : Int) := by omega
      have hju : (i : Int) < (ts.length : Int) := by omega
      have hE : RgtsAt (wr'.alloc (.cells #[] 35)) (.slice (some ⟨wr'.heap.size, 0, none⟩) ([] : List Rgt).length 0) [] := ⟨_, _, rfl, by simp, by simp [maxLen], .inl rfl⟩
      have HE := Lib.hid hE
      clear hfa hfl hown hRI hBr hobl htt hg hnext hS hne0 han0 hE
      go_upto_region 6 with (go_at_call 68; refine (l22Give_t (dst := []) (HS.out.pure (by (repeat (with_reducible first | exact Below.refl _ _ | refine Below.alloc ?_ ?_ _ | refine below_drewN ?_ _ | refine Below.drew ?_ | refine Below.setCell ?_ ?_ _ | refine Below.trans ?_ (Below.mono (by assumption) ?_))) <;> (first | omega | (simp; try omega)))) HE.out Hok.out Hne0.out Han0.out Hg.out).mono ?_; rintro e w1 ⟨q1, c1, rfl, hR1, hO1, hb1⟩)
      have hB1 : Below wr'.heap.size wr' w1 := (by (repeat (with_reducible first | exact Below.refl _ _ | refine Below.alloc ?_ ?_ _ | refine below_drewN ?_ _ | refine Below.drew ?_ | refine Below.setCell ?_ ?_ _ | refine Below.trans ?_ (Below.mono (by assumption) ?_))) <;> (first | omega | (simp; try omega)))
      have hz1 := hb1.size
      simp only [World.size_alloc] at hz1
      have hRI1 := HRI.out.pure hB1
      have hlo : ∀ b, (Value.slice q1 ns.length c1).ownBlock = some b → (Value.slice q3 i c3).ownBlock ≠ some b ∧ b < w1.heap.size := fun b hb => by
        have h3 : wr'.heap.size ≤ b ∧ b < w1.heap.size := by
          rcases hO1 b hb with h | h
          · simp [Value.ownBlock] at h
            omega
          · have := h.1
            simp at this
            exact ⟨by omega, h.2⟩
        exact ⟨fun e => by have := Hobl.out b e; omega, h3.2⟩
      have HRI1 := Lib.hid hRI1
      have HR1 := Lib.hid hR1
      have Hlo := Lib.hid hlo
      have HB1 := Lib.hid hB1
      have hwr1 : w.heap.size ≤ w1.heap.size := by omega
      clear hRI1 hR1 hlo hB1 hO1 hb1
      go_wp2_with (first | (at_builtin; refine wpList_append_own_at _ rfl (.tmp 29) (.tmp 31) 25 rfl w.heap.size 30 i0 _ 1 24 Tryz.underlying25 hi0 hy0 hy1 hy2 rfl (by decide) (.slice q3 i c3) i svs rfl (own_below (own_below Hown.out HB1.out) (by (repeat (with_reducible first | exact Below.refl _ _ | refine Below.alloc ?_ ?_ _ | refine below_drewN ?_ _ | refine Below.drew ?_ | refine Below.setCell ?_ ?_ _ | refine Below.trans ?_ (Below.mono (by assumption) ?_))) <;> (first | omega | (simp; try omega)))) ⟨w1.heap.size, 0, none⟩ 1 1 [.slice q1 ns.length c1] rfl rfl (cell_one_new _ _ _) (by intro u hu; rw [List.mem_singleton] at hu; subst hu; rfl) (by unfold maxLen; omega) (by omega) (by simp; omega) ?_; intro v5 w5 ho5 hg5 _ hat5))
      have hA1 : Below w1.heap.size w1 (w1.alloc (.cells #[.slice q1 ns.length c1] 30)) := (Below.refl _ w1).alloc (Nat.le_refl _) _
      have hpush := RowsI.push (HRI1.out.pure hA1) (by rw [Hfl.out]; exact ho5) hg5 hat5 (fun b hb => by have := Hobl.out b hb; simp; omega) (HR1.out.pure hA1) (fun b hb => ⟨(Hlo.out b hb).1, by have := (Hlo.out b hb).2; simp; omega⟩)
      have hB5 : Below w.heap.size w w5 := Below.grown ((HBr.out.trans (HB1.out.mono hzr)).alloc hwr1 _) hg5 (by simp; omega) (fun k hk => (Hown.out.lt k hk).1)
      exact ⟨⟨i + 1, svs ++ [.slice q1 ns.length c1], by go_num, by omega, by rw [Hnext.out]; exact hpush, hB5⟩, by simp [intOf]; omega⟩
    · have hnl : ¬ (i : Int) < (ts.length : Int) := by omega
      have hil : i = ts.length := by omega
      subst hil
      have hf2 := Hfa.out
      rw [List.take_length] at hf2
      subst hf2
      have hne : first22 ts ≠ [] := fun e => by
        have := Hfl.out
        rw [e] at this
        simp at this
        omega
      obtain ⟨A, c, e3, hwA, hac, hcm, hAll⟩ := HRI.out.all hne
      have hfl2 : (first22 ts).length = ts.length := by simp [first22]
      rw [hfl2] at e3 hac
      obtain ⟨rfl, rfl⟩ : q3 = some ⟨A, 0, none⟩ ∧ c3 = c := by
        injection e3 with h1 h2 h3
        exact ⟨h1, h3⟩
      have HA := Lib.hid hAll
      have HC := Lib.hid (first_cur Ht.out)
      obtain ⟨wb, rfl⟩ : ∃ wy : World, wy = wr' := ⟨_, rfl⟩
      have HTA := Lib.hid (show ∀ wz, Below w.heap.size w wz → TabAt wz (.slice p ts.length cap) ts from fun wz h => HT.out.pure h)
      clear hfl hown hRI hBr hobl hfa e3 hfl2 hne hAll
      go_wp2
      go_loopg [7] (left22 (first22 ts) true) (fun gk s7 wr => ∃ (a : List (List Rgt)) (m : Bool), s7 = .bool m ∧ gk = left22 a m ∧ AllAt wr A 0 a ∧ Cur ts a ∧ (m = false → Setl ts a) ∧ Below w.heap.size w wr)
      case atStart => exact ⟨first22 ts, true, rfl, rfl, HA.out, HC.out, (fun h => by cases h), HBr.out⟩
      case round =>
        obtain ⟨a, m, rfl, hgk, hAa, hCa, hSa, hBa⟩ := hrel
        have HAa := Lib.hid hAa
        have HCa := Lib.hid hCa
        have HSa := Lib.hid hSa
        have HBa := Lib.hid hBa
        have Hgk := Lib.hid hgk
        have hal : a.length = ts.length := hCa.snd.len
        have Hal := Lib.hid hal
        obtain ⟨wc', rfl⟩ : ∃ wy : World, wy = wr := ⟨_, rfl⟩
        clear hgk hAa hCa hSa hBa hal
        cases m
        · have hst := HSa.out rfl
          have Hst := Lib.hid hst
          clear hst
          have hz5 := HBa.out.size
          go_wp2
          go_loopw [11] (fun s11 wr => ∃ i : Nat, s11 = .int .i64 (i : Int) ∧ i ≤ ts.length ∧ AllAt wr A 0 (srt a i) ∧ Below w.heap.size w wr) (fun s11 _ => ts.length - (intOf s11).toNat)
          case atStart => exact ⟨0, rfl, by omega, by rw [srt_zero]; exact HAa.out, HBa.out⟩
          case round =>
            obtain ⟨i, rfl, hi, hA5, hB5⟩ := hrel
            have HA5 := Lib.hid hA5
            have HB5 := Lib.hid hB5
            obtain ⟨wf, rfl⟩ : ∃ wy : World, wy = wr := ⟨_, rfl⟩
            by_cases hlt : i < ts.length
            · have hia : i < a.length := by rw [Hal.out]; exact hlt
              obtain ⟨qa, ca, cc1, hRa, hOa⟩ := hA5.at' (i := i) (by rw [srt_len]; exact hia)
              rw [srt_row hia] at cc1 hRa
              rw [Nat.zero_add] at cc1
              have hne := Snd.ne0 Ht.out HCa.out.snd i
              have hll : (rowA a i).length ≤ 400 := by
                have := anti_len hne (HCa.out.snd.anti i)
                omega
              obtain ⟨rr, hrr⟩ : ∃ l, rowA a i = l := ⟨_, rfl⟩
              rw [hrr] at cc1 hRa hne hll
              obtain ⟨ns, hns⟩ : ∃ l, sort22 rr = l := ⟨_, rfl⟩
              have Hnx := Lib.hid (show (srt a i).set i ns = srt a (i + 1) by rw [← hns, ← hrr]; exact srt_next hia)
              have HRa := Lib.hid hRa
              have Hne := Lib.hid hne
              have Hns := Lib.hid hns
              have hAd : A < wf.heap.size := hA5.lt
              have hff := hA5.fr
              have hi0' : (0 : Int) ≤ (i : Int) := by omega
              have hiu : (i : Int) < (ts.length : Int) := by omega
              have hzf : w.heap.size ≤ wf.heap.size := hB5.size
              have Hlen := Lib.hid (srt_len a i)
              have Hia := Lib.hid hia
              clear hA5 hB5 hRa hne hns hrr hOa hia
              go_wp2_with (first | (go_at_call 70; refine (l22Sort_t HRa.out Hne.out hll Hns.out).mono ?_; rintro e w7 ⟨q7, c7, rfl, hR7, hO7, hb7⟩; have cc1 := ((bcell hb7).1 _ _ hAd).trans cc1; have hff := (fun j => ((bcell hb7).2 _ _ hAd).trans (hff j))))
              have hput := AllAt.put (HA5.out.pure hb7) (i := i) (by rw [Hlen.out]; exact Hia.out) hR7 (fun e => by have := hO7 _ e; omega)
              rw [Hnx.out, Nat.zero_add] at hput
              have hCh : Chg (fun b => b = A) w7 (w7.setCell ⟨A, i, none⟩ (.slice q7 ns.length c7)) := (Chg.refl (fun b => b = A) w7).setCell (S := fun b => b = A) (p := ⟨A, i, none⟩) rfl _
              exact ⟨⟨i + 1, by go_num, by omega, hput, HB5.out.trans ((hb7.mono hzf).trans (hCh.below (Nat.le_trans hzf hb7.size) (fun k hk e => by omega)))⟩, by simp [intOf]; omega⟩
            · have hil : i = ts.length := by omega
              subst hil
              have hreach := HCa.out.reach Ht.out Hst.out
              have hA9 := HA5.out
              rw [← Hal.out, srt_all] at hA9
              have hrl : (a.map sort22).length = ts.length := by rw [List.length_map]; exact Hal.out
              have HA9 := Lib.hid hA9
              have Hreach := Lib.hid hreach
              have Hrl := Lib.hid hrl
              clear hA5 hB5 hreach hA9 hrl
              go_wp2
              go_ret
              exact ⟨A, c3, a.map sort22, by rw [Hrl.out]; rfl, Hreach.out, HA9.out, HB5.out⟩
        · go_wp2
          go_loopw [7, 8] (fun s7 s8 wr => ∃ (i : Nat) (a1 : List (List Rgt)) (m1 : Bool), s8 = .int .i64 (i : Int) ∧ i ≤ ts.length ∧ s7 = .bool m1 ∧ AllAt wr A 0 a1 ∧ Snd ts a1 ∧ Adv a a1 m1 ∧ (m1 = false → ∀ k, k < i → ∀ r ∈ rowA a k, (step22 ts a k r).2 = false) ∧ Below w.heap.size w wr) (fun _ s8 _ => ts.length - (intOf s8).toNat)
          case atStart => exact ⟨0, a, false, rfl, by omega, rfl, HAa.out, HCa.out.snd, Adv.refl a, (fun _ k hk => absurd hk (by omega)), HBa.out⟩
          case round =>
            obtain ⟨i, a1, m1, rfl, hi, rfl, hA1, hS1, hV1, hP1, hB1⟩ := hrel
            have HA1 := Lib.hid hA1
            have HS1 := Lib.hid hS1
            have HV1 := Lib.hid hV1
            have HP1 := Lib.hid hP1
            have HB1 := Lib.hid hB1
            obtain ⟨wd, rfl⟩ : ∃ wy : World, wy = wr := ⟨_, rfl⟩
            by_cases hlt : i < ts.length
            · obtain ⟨qa, ca, cc1, hRa, hOa⟩ := hA1.at' (i := i) (by rw [hS1.len]; exact hlt)
              obtain ⟨lst, hlst⟩ : ∃ l, rowA a1 i = l := ⟨_, rfl⟩
              rw [hlst] at cc1 hRa
              rw [Nat.zero_add] at cc1
              have hAd : A < wd.heap.size := hA1.lt
              have hll : lst.length ≤ 400 := by
                rw [← hlst]
                have := anti_len (Snd.ne0 Ht.out hS1 i) (hS1.anti i)
                omega
              have Hlst := Lib.hid hlst
              have HRa := Lib.hid hRa
              obtain ⟨j0, hj0, hx0, hx1, hx2⟩ := info_parts info_rgt
              have hi0' : (0 : Int) ≤ (i : Int) := by omega
              have hiu : (i : Int) < (ts.length : Int) := by omega
              have hzd : w.heap.size ≤ wd.heap.size := hB1.size
              clear hA1 hS1 hV1 hP1 hB1 hRa hOa hlst
              go_upto_region 14 with (first | (at_builtin; refine wpList_append_rows rfl (.tmp 40) (.tmp 44) 30 rfl wd.heap.size 35 j0 _ 5 24 Tryz.underlying30 hj0 hx0 hx1 hx2 rfl (by decide) (.slice (some ⟨wd.heap.size, 0, none⟩) 0 0) 0 [] rfl (own_lit wd.heap.size rfl (Nat.le_refl _)) (.slice qa lst.length ca) (lst.map Rgt.cells) rfl (flat_rgts _) (Rows.pure HRa.out (by (repeat (with_reducible first | exact Below.refl _ _ | refine Below.alloc ?_ ?_ _ | refine below_drewN ?_ _ | refine Below.drew ?_ | refine Below.setCell ?_ ?_ _ | refine Below.trans ?_ (Below.mono (by assumption) ?_))) <;> (first | omega | (simp; try omega)))) (by simp [maxLen] <;> omega) (by simp <;> omega) (by simp <;> omega) ?_; intro v9 w9 ho9 hg9))
              have hown9 : w9.ownsRow wd.heap.size 35 5 v9 lst.length ((lst.map Rgt.cells).flatten) := by
                have e : 0 + (lst.map Rgt.cells).length = lst.length := by simp
                rw [e] at ho9
                simpa using ho9
              obtain ⟨q9, c9, rfl⟩ := own_slice_n hown9
              have hB9 : Below wd.heap.size wd w9 := Below.grown ((Below.refl _ wd).alloc (Nat.le_refl _) _) hg9 (by simp) (fun k hk => by simp [Value.ownBlock] at hk; omega)
              have hrow9 : RgtsAt w9 (.slice q9 lst.length c9) lst := Rows.of_own (flat_rgts _) (by rw [List.length_map]; exact hown9)
              have hlt9 : ∀ b, (Value.slice q9 lst.length c9).ownBlock = some b → b ≠ A := fun b hb e => by
                have h1 := (hown9.lt b hb).1
                have h2 := HA1.out.lt
                omega
              have HA9 := Lib.hid (HA1.out.pure hB9)
              have HB9 := Lib.hid (HB1.out.trans (hB9.mono hzd))
              have Hl9 := Lib.hid (show ∀ wz, Chg (fun b => b = A) w9 wz → RgtsAt wz (.slice q9 lst.length c9) lst from fun wz h => Rows.kept hrow9 h (.inr fun k hk e => hlt9 k hk e))
              have Hgot := Lib.hid (show ∀ r ∈ lst, Got ts ((i : Int) + 1) r from fun r hr => HS1.out.got i r (by rw [Hlst.out]; exact hr))
              clear ho9 hg9 hown9 hB9 hrow9 hlt9 cc1
              go_wp2
              go_loopw [7, 10] (fun s7 s10 wr => ∃ (k : Nat) (a2 : List (List Rgt)) (m2 : Bool), s10 = .int .i64 (k : Int) ∧ k ≤ lst.length ∧ s7 = .bool m2 ∧ AllAt wr A 0 a2 ∧ Snd ts a2 ∧ Adv a a2 m2 ∧ (m2 = false → (∀ k', k' < i → ∀ r ∈ rowA a k', (step22 ts a k' r).2 = false) ∧ lst = rowA a i ∧ ∀ r ∈ lst.take k, (step22 ts a i r).2 = false) ∧ Chg (fun b => b = A) w9 wr) (fun _ s10 _ => lst.length - (intOf s10).toNat)
              case atStart => exact ⟨0, a1, m1, rfl, by omega, rfl, HA9.out, HS1.out, HV1.out, (fun e => ⟨HP1.out e, by rw [← Hlst.out, HV1.out.same e], fun r hr => by simp at hr⟩), Chg.refl _ _⟩
              case round =>
                obtain ⟨k, a2, m2, rfl, hk, rfl, hA2, hS2, hV2, hP2, hC2⟩ := hrel
                have HA2 := Lib.hid hA2
                have HS2 := Lib.hid hS2
                have HV2 := Lib.hid hV2
                have HP2 := Lib.hid hP2
                have HC2 := Lib.hid hC2
                have HB2 := Lib.hid (show Below w.heap.size w wr from HB9.out.trans (hC2.below HB9.out.size (fun k hk e => by omega)))
                obtain ⟨we, rfl⟩ : ∃ wy : World, wy = wr := ⟨_, rfl⟩
                by_cases hkl : k < lst.length
                · obtain ⟨r, hr⟩ : ∃ r, lst[k]? = some r := ⟨_, List.getElem?_eq_getElem hkl⟩
                  have hgr := Hgot.out r (List.mem_of_getElem? hr)
                  obtain ⟨b5, o5, rfl, hb5, y0, y1, y2, y3, y4⟩ := (Hl9.out _ hC2).at k r hr
                  obtain ⟨hs3, hv3⟩ := step_adv Ht.out hS2 hlt hgr
                  have hstep := l22Step_c p cap ts A 0 c3 a2 i r we (HTA.out _ HB2.out) hA2 (fun wz h => HTA.out _ (HB2.out.trans (h.below HB2.out.size (fun k hk e => by omega)))) Ht.out hS2 hlt hgr (by rw [hS2.len]; exact hac)
                  rw [hS2.len] at hstep
                  obtain ⟨a3, st, hst3⟩ : ∃ a3 st, step22 ts a2 i r = (a3, st) := ⟨_, _, rfl⟩
                  rw [hst3] at hs3 hv3 hstep
                  dsimp only at hs3 hv3 hstep
                  have hnx : (m2 || st) = false → (∀ k', k' < i → ∀ r ∈ rowA a k', (step22 ts a k' r).2 = false) ∧ lst = rowA a i ∧ ∀ r ∈ lst.take (k + 1), (step22 ts a i r).2 = false := fun e => by
                    rw [Bool.or_eq_false_iff] at e
                    obtain ⟨h1, h2, h3⟩ := hP2 e.1
                    refine ⟨h1, h2, fun x hx => ?_⟩
                    rw [List.take_add_one, hr, Option.toList_some, List.mem_append, List.mem_singleton] at hx
                    rcases hx with hx | rfl
                    · exact h3 x hx
                    · rw [← hV2.same e.1, hst3]; exact e.2
                  have Hstep := Lib.hid hstep
                  have Hs3 := Lib.hid hs3
                  have Hv3 := Lib.hid (hV2.trans hv3)
                  have Hnx := Lib.hid hnx
                  have hk0 : (0 : Int) ≤ (k : Int) := by omega
                  have hku : (k : Int) < (lst.length : Int) := by omega
                  obtain ⟨r1, r2, r3, r4, r5⟩ := r
                  dsimp only at y0 y1 y2 y3 y4
                  clear hr hgr hs3 hv3 hstep hst3 hnx hA2 hS2 hV2 hP2 hC2
                  cases st
                  · go_wp2_with (first | (go_at_call 69; refine Hstep.out.mono ?_; rintro e w6 ⟨rfl, hA3, hC3⟩))
                    exact ⟨⟨k + 1, a3, m2, by go_num, by omega, rfl, hA3, Hs3.out, by have := Hv3.out; rwa [Bool.or_false] at this, (fun e => Hnx.out (by rw [e]; rfl)), HC2.out.trans hC3⟩, by simp [intOf]; omega⟩
                  · go_wp2_with (first | (go_at_call 69; refine Hstep.out.mono ?_; rintro e w6 ⟨rfl, hA3, hC3⟩))
                    exact ⟨⟨k + 1, a3, true, by go_num, by omega, rfl, hA3, Hs3.out, by have := Hv3.out; rwa [Bool.or_true] at this, (fun e => by cases e), HC2.out.trans hC3⟩, by simp [intOf]; omega⟩
                · have hnk : ¬ (k : Int) < (lst.length : Int) := by omega
                  have hkk : k = lst.length := by omega
                  have Hkk := Lib.hid hkk
                  clear hA2 hS2 hV2 hP2 hC2 hkk
                  go_wp2
                  refine ⟨⟨i + 1, a2, m2, by go_num, by omega, rfl, HA2.out, HS2.out, HV2.out, fun e k' hk' r hr => ?_, HB2.out⟩, by simp [intOf]; omega⟩
                  obtain ⟨h1, h2, h3⟩ := HP2.out e
                  by_cases hki : k' < i
                  · exact h1 k' hki r hr
                  · obtain rfl : k' = i := by omega
                    rw [Hkk.out, List.take_length] at h3
                    exact h3 r (by rw [h2]; exact hr)
            · have hil : i = ts.length := by omega
              have hnl : ¬ (i : Int) < (ts.length : Int) := by omega
              have Hil := Lib.hid hil
              clear hA1 hS1 hV1 hP1 hB1 hil
              go_wp2
              go_roundg (left22 a1 m1)
              case measure => rw [Hgk.out]; exact left_adv h8.2 HS1.out HV1.out
              case rel =>
                refine ⟨a1, m1, rfl, rfl, HA1.out, HCa.out.adv HS1.out HV1.out, fun e k hk r hr => ?_, HB1.out⟩
                have ea := HV1.out.same e
                rw [ea] at hr ⊢
                exact HP1.out e k (by rw [Hil.out]; exact hk) r hr
end Go.Proofs.YtiolplhgpodifaaGreat

/- The reference says of one thing what the plain function says. Conditions: the thing lies where its cells say. -/
namespace Go.Proofs.YtiolplhgpodifaaGreat
open Go.RowKit Drw
attribute [local go_sem] Lab.val Rgt.val Cal.val Thg.val

set_option maxHeartbeats 400000 in
theorem l3Slots_c (k : Int) (w : World) :
    Calls Tryz.prog 73 #[.int .i64 k] w fun e w' => e = .returned (.bool (k == 2 || k == 3)) ∧ w = w' := by
  go_enter Tryz.func73, Tryz.ntmps73
  go_wp2
  all_goals (go_ret; exact ⟨ret_bool (by simp [*]), rfl⟩)

def bad2 (k ve nu : Int) : Bool := !inR nu (if k = 3 then -4 else 0) 99 || (nu != 0 && (k == 2 || k == 4)) || (ve != 0 && (k == 3 || k == 5))
def bad3 (k : Int) (n : Nat) : Bool := ((k == 2 || k == 3) && n != 4) || (!(k == 2 || k == 3) && n != 0)
def fin3 (k tg : Int) (n : Nat) : Bool := (k == 4 || n == 0) && ((k == 5 && inR tg 1 8) || (k != 5 && tg == 0))
theorem thgOk_spec (t : Thg) : thgOk t = (inR t.kind 1 5 && labOk t.lab && inR t.vers 0 5 && decide (t.queue.length ≤ 3) && !bad2 t.kind t.vers t.num && t.queue.all (fun n => inR n 0 99) && t.slots.all rgtOk && !bad3 t.kind t.slots.length && fin3 t.kind t.to t.queue.length) := by
  obtain ⟨k, l, ve, nu, sl, qu, tg⟩ := t
  by_cases hk : inR k 1 5 = true
  · have : k = 1 ∨ k = 2 ∨ k = 3 ∨ k = 4 ∨ k = 5 := by simp [inR] at hk; omega
    rcases this with rfl | rfl | rfl | rfl | rfl
    all_goals simp [thgOk, versOk, numOk, slotsOk, queueOk, targetOk, bad2, bad3, fin3, hk]
    all_goals rw [Bool.eq_iff_iff]
    all_goals simp [inR, List.length_eq_zero_iff]
    all_goals grind
  · simp [thgOk, hk]
set_option maxRecDepth 100000 in
set_option maxHeartbeats 2000000 in
theorem sthingOk_c (t : Thg) (sv qv : Value) (w : World) (hs : RgtsAt w sv t.slots) (hq : IntsAt w qv t.queue) :
    Calls Tryz.prog 38 #[t.val sv qv] w fun e w' => e = .returned (.bool (thgOk t)) ∧ Below w.heap.size w w' := by
  obtain ⟨k, ⟨s, v⟩, ve, nu, sl, qu, tg⟩ := t
  dsimp only [Thg.val] at hs hq ⊢
  obtain ⟨p, cap, rfl, hl1, hl2⟩ := hq.len
  obtain ⟨p', cap', rfl, hl1', hl2'⟩ := hs.len
  unfold maxLen at hl2 hl2'
  go_enter Tryz.func38, Tryz.ntmps38
  go_upto_region 6 with (first
    | (go_at_call 39; refine (l6In_c _ _ _ _).mono ?_; rintro e w' ⟨rfl, rfl⟩)
    | (go_at_call 71; refine (slabelOk_c ⟨_, _⟩ _).mono ?_; rintro e w1 ⟨rfl, hb1⟩; obtain ⟨hc1, hf1⟩ := bcell hb1; have hz0 : w.heap.size < w1.heap.size := (by have := hb1.size; (try simp at this); omega)))
  any_goals (go_ret; refine ⟨ret_bool ?_, (by (repeat (with_reducible first | exact Below.refl _ _ | refine Below.alloc ?_ ?_ _ | refine below_drewN ?_ _ | refine Below.drew ?_ | refine Below.setCell ?_ ?_ _ | refine Below.trans ?_ (Below.mono (by assumption) ?_))) <;> (first | omega | (simp; try omega)))⟩; first | (simp [thgOk_spec, *]; done) | (simp [thgOk_spec, *]; omega))
  all_goals
    go_cut [0, 65] (fun s0 s65 wx => s0 = .agg #[.int .i64 k, .int .i64 s, .int .i64 v, .int .i64 ve, .int .i64 nu, .slice p' sl.length cap', .slice p qu.length cap, .int .i64 tg] ∧ s65 = .bool (bad2 k ve nu) ∧ Below w.heap.size w wx ∧ w.heap.size < wx.heap.size ∧ wx.cell? ⟨w.heap.size, 0, none⟩ = some (.int .i64 k) ∧ wx.cell? ⟨w.heap.size, 1, none⟩ = some (.int .i64 s) ∧ wx.cell? ⟨w.heap.size, 2, none⟩ = some (.int .i64 v) ∧ wx.cell? ⟨w.heap.size, 3, none⟩ = some (.int .i64 ve) ∧ wx.cell? ⟨w.heap.size, 4, none⟩ = some (.int .i64 nu) ∧ wx.cell? ⟨w.heap.size, 5, none⟩ = some (.slice p' sl.length cap') ∧ wx.cell? ⟨w.heap.size, 6, none⟩ = some (.slice p qu.length cap) ∧ wx.cell? ⟨w.heap.size, 7, none⟩ = some (.int .i64 tg))
    case first =>
      go_wp2_with (go_at_call 39; refine (l6In_c _ _ _ _).mono ?_; rintro e w' ⟨rfl, rfl⟩)
      all_goals go_meet
      all_goals
        refine ⟨by simp [*], ?_, (by (repeat (with_reducible first | exact Below.refl _ _ | refine Below.alloc ?_ ?_ _ | refine below_drewN ?_ _ | refine Below.drew ?_ | refine Below.setCell ?_ ?_ _ | refine Below.trans ?_ (Below.mono (by assumption) ?_))) <;> (first | omega | (simp; try omega))), by assumption, ?_⟩
        · exact congrArg Value.bool (by grind [bad2])
        · simp [*]
    case rest =>
      obtain ⟨rfl, rfl, hB, hlt, c0, c1, c2, c3, c4, c5, c6, c7⟩ := hcut
      go_wp2
      · go_ret
        exact ⟨ret_bool (by simp [thgOk_spec, *]), hB⟩
      have hbad : bad2 k ve nu = false := by assumption
      simp only [hbad]
      go_loop [4] (fun i => ∃ j : Nat, j ≤ qu.length ∧ i = .int .i64 j ∧ (qu.take j).all (fun n => inR n 0 99) = true) (fun i => qu.length - (intOf i).toNat)
      case atStart => exact ⟨0, Nat.zero_le _, rfl, by simp⟩
      case round =>
        obtain ⟨j, hj, rfl, hall⟩ := hrel
        have Hall := Lib.hid hall
        clear hall
        by_cases hlq : j < qu.length
        · obtain ⟨b, o, rfl, hbk, hc⟩ := (hq.pure hB).at j qu[j] (by simp [hlq])
          go_wp2_with (go_at_call 39; refine (l6In_c _ _ _ _).mono ?_; rintro e w' ⟨rfl, rfl⟩)
          · go_ret
            have hb : (!inR qu[j] 0 99) = true := by assumption
            have hx : qu.all (fun n => inR n 0 99) = false := by
              rw [List.all_eq_false]; exact ⟨qu[j], by simp, by simpa using hb⟩
            exact ⟨ret_bool (by simp only [thgOk_spec, hx]; simp), hB⟩
          · go_round
            case rel =>
              have hb : (!inR qu[j] 0 99) = false := by assumption
              exact ⟨j + 1, by omega, by go_num, by rw [all_take_succ _ _ _ hlq, Hall.out]; simpa using hb⟩
            case measure => simp [intOf]; omega
        · have e : j = qu.length := by omega
          have HQ := Hall.out
          rw [e, List.take_of_length_le (Nat.le_refl _)] at HQ
          have HQ' := Lib.hid HQ
          clear Hall e HQ
          go_wp2
          go_loopw [5] (fun i wr => ∃ j : Nat, j ≤ sl.length ∧ i = .int .i64 j ∧ (sl.take j).all rgtOk = true ∧ Below wc.heap.size wc wr) (fun i _ => sl.length - (intOf i).toNat)
          case atStart => exact ⟨0, Nat.zero_le _, rfl, by simp, Below.refl _ _⟩
          case round =>
            obtain ⟨m, hm, rfl, hall, hBr⟩ := hrel
            have Hall := Lib.hid hall
            clear hall
            obtain ⟨hcr, hfr⟩ := bcell hBr
            by_cases hls : m < sl.length
            · obtain ⟨b', o', rfl, hbk', hrg⟩ := ((hs.pure hB).pure hBr).at m sl[m] (by simp [hls])
              obtain ⟨hr0, hr1, hr2, hr3, hr4⟩ := hrg
              go_wp2_with (go_at_call 72; refine (srightOk_c ⟨_, _, _, _, _⟩ _).mono ?_; rintro e w2 ⟨rfl, hb2⟩)
              · go_ret
                have hb : (!rgtOk sl[m]) = true := by assumption
                have hx : sl.all rgtOk = false := by
                  rw [List.all_eq_false]; exact ⟨sl[m], by simp, by simpa using hb⟩
                exact ⟨ret_bool (by simp only [thgOk_spec, hx]; simp), hB.trans ((hBr.trans (hb2.mono hBr.size)).mono hB.size)⟩
              · go_roundw
                case rel =>
                  have hb : (!rgtOk sl[m]) = false := by assumption
                  exact ⟨m + 1, by omega, by go_num, by rw [all_take_succ _ _ _ hls, Hall.out]; simpa using hb, hBr.trans (hb2.mono hBr.size)⟩
                case measure => simp [intOf]; omega
            · have e : m = sl.length := by omega
              have HS := Hall.out
              rw [e, List.take_of_length_le (Nat.le_refl _)] at HS
              have HS' := Lib.hid HS
              clear Hall e HS
              go_wp2_with (first
                | (go_at_call 73; refine (l3Slots_c _ _).mono ?_; rintro e w' ⟨rfl, rfl⟩)
                | (go_at_call 39; refine (l6In_c _ _ _ _).mono ?_; rintro e w' ⟨rfl, rfl⟩))
              all_goals
                go_ret
                refine ⟨ret_bool ?_, hB.trans (hBr.mono hB.size)⟩
                have HQ := HQ'.out
                have HS := HS'.out
                rw [thgOk_spec]
                dsimp only
                clear hc1 hf1 hb1 hcr hfr c0 c1 c2 c3 c4 c5 c6 c7 hs hq
                grind [bad3, fin3]

end Go.Proofs.YtiolplhgpodifaaGreat
