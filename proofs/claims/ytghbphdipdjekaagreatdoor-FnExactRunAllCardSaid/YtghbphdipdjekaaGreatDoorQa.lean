/- What the laws of one call have in common. Conditions: the table lies where its cells say; errors.errorType is laid. -/
import Derived.Test.YtghbphdipdjekaaGreatDoorW
import Derived.Test.YtghbphdipdjekaaGreatDoorSe
import Derived.Test.YtghbphdipdjekaaGreatDoorLd
import Derived.Test.YtghbphdipdjekaaGreatDoorDk
import Derived.Test.YtghbphdipdjekaaGreatDoorK
import Derived.Test.YtghbphdipdjekaaGreatDoorAct
import Derived.Test.YtghbphdipdjekaaGreatDoorRun
import Derived.Test.YtghbphdipdjekaaGreatDoorY
set_option linter.unusedVariables false
set_option linter.unusedSimpArgs false
namespace Go.Proofs.YtghbphdipdjekaaGreatDoor
open Go.RowKit Drw

theorem callDo_t {p : Option Addr} {cap : Nat} {ts us : List Thg} {c : Cal} {an : Int} {w : World} (hL : Laid w) (hT : TabAt w (.slice p ts.length cap) ts) (h : callDo ts c = (us, an)) :
    Calls Tryz.prog 26 #[.slice p ts.length cap, c.val] w fun e w' => ∃ q k, e = .returned (.tuple #[.slice q us.length k, .int .i64 an]) ∧ TabAt w' (.slice q us.length k) us ∧ Below w.heap.size w w' := by
  refine (callDo_c p cap ts c w hL hT).mono ?_
  rintro e w' ⟨v, xs, tag, rfl, hO, hx, hb⟩
  have hA := hO.at'
  rw [hx, h] at hA
  obtain ⟨q, k, rfl, -, -⟩ := hA.len
  exact ⟨q, k, by rw [h], hA, hb⟩
theorem scallDo_t {p : Option Addr} {cap : Nat} {ts us : List Thg} {c : Cal} {an : Int} {w : World} (hT : TabAt w (.slice p ts.length cap) ts) (h : callDo ts c = (us, an)) :
    Calls Tryz.prog 39 #[.slice p ts.length cap, c.val] w fun e w' => ∃ q k, e = .returned (.tuple #[.slice q us.length k, .int .i64 an]) ∧ TabAt w' (.slice q us.length k) us ∧ Below w.heap.size w w' := by
  refine (scallDo_c p cap ts c w hT).mono ?_
  rintro e w' ⟨v, xs, tag, rfl, hO, hx, hb⟩
  have hA := hO.at'
  rw [hx, h] at hA
  obtain ⟨q, k, rfl, -, -⟩ := hA.len
  exact ⟨q, k, by rw [h], hA, hb⟩
/-- Tables that are the same. -/
theorem ldTable_s {pa pb : Option Addr} {ca cb : Nat} {us : List Thg} {w : World} (hA : TabAt w (.slice pa us.length ca) us) (hB : TabAt w (.slice pb us.length cb) us) :
    Calls Tryz.prog 25 #[.slice pa us.length ca, .slice pb us.length cb] w fun e w' => e = .returned (.bool true) ∧ Below w.heap.size w w' := by
  have := ldTable_c pa pb ca cb us us w hA hB
  rwa [decide_eq_true rfl] at this
theorem ldCan_t {p : Option Addr} {cap : Nat} {ts : List Thg} {c : Cal} {v : Bool} {w : World} (hT : TabAt w (.slice p ts.length cap) ts) (h : calCan ts c = v) :
    Calls Tryz.prog 34 #[.slice p ts.length cap, c.val] w fun e w' => e = .returned (.bool v) ∧ Below w.heap.size w w' := by
  rw [← h]; exact ldCan_c p cap ts c w hT
/-- The bytes that came in. -/
def BytesAt (w : World) (p : Option Addr) (n : Nat) : Prop := ∀ i, i < n → ∃ b o, ∃ x : Nat, p = some ⟨b, o, none⟩ ∧ b < w.heap.size ∧ w.cell? ⟨b, o + i, none⟩ = some (.int .u8 (x : Int)) ∧ x < 256
theorem CallIn.pure {w w' : World} {B : Nat} {c : Cal} (h : CallIn w B c) (hb : Below w.heap.size w w') : CallIn w' B c := by
  obtain ⟨⟨h0, h1, h2, h3, h4⟩, hf⟩ := h
  have hB := World.block_lt_of_cell? _ _ h0
  obtain ⟨hc, hfz⟩ := bcell hb
  exact ⟨⟨(hc _ _ hB).trans h0, (hc _ _ hB).trans h1, (hc _ _ hB).trans h2, (hc _ _ hB).trans h3, (hc _ _ hB).trans h4⟩, fun j => (hfz _ _ hB).trans (hf j)⟩
end Go.Proofs.YtghbphdipdjekaaGreatDoor

/- impl's scripts of calls: whether they are such, and the low ones. Conditions: the table and the calls lie where their cells say. -/
namespace Go.Proofs.YtghbphdipdjekaaGreatDoor
open Go.RowKit Drw
attribute [local go_sem] Lab.val Rgt.val Cal.val Thg.val

theorem tableOk_t {p : Option Addr} {cap : Nat} {ts : List Thg} {w : World} {v : Bool} (hT : TabAt w (.slice p ts.length cap) ts) (h : tabOk ts = v) :
    Calls Tryz.prog 27 #[.slice p ts.length cap] w fun e w' => e = .returned (.bool v) ∧ Below w.heap.size w w' := by
  rw [← h]; exact tableOk_c p cap ts w hT
theorem callPossible_t {p : Option Addr} {cap : Nat} {ts : List Thg} {c : Cal} {w : World} {v : Bool} (hT : TabAt w (.slice p ts.length cap) ts) (h : calCan ts c = v) :
    Calls Tryz.prog 69 #[.slice p ts.length cap, c.val] w fun e w' => e = .returned (.bool v) ∧ Below w.heap.size w w' := by
  rw [← h]; exact callPossible_c p cap ts c w hT

theorem all_take {α : Type} {f : α → Bool} {l : List α} {i : Nat} {x : α} (h : (l.take i).all f = true) (hx : l[i]? = some x) (hf : f x = true) : (l.take (i + 1)).all f = true := by
  rw [take_one hx, List.all_append, h]; simp [hf]
theorem all_bad {α : Type} {f : α → Bool} {l : List α} {i : Nat} {x : α} (hx : l[i]? = some x) (hf : f x = false) : l.all f = false := by
  rw [List.all_eq_false]
  exact ⟨x, List.mem_of_getElem? hx, by simp [hf]⟩

set_option maxRecDepth 100000 in
set_option maxHeartbeats 4000000 in
theorem scriptOk_c (p : Option Addr) (cap : Nat) (ts : List Thg) (q : Option Addr) (c2 : Nat) (cs : List Cal) (w : World) (hT : TabAt w (.slice p ts.length cap) ts) (hC : CalsAt w (.slice q cs.length c2) cs) :
    Calls Tryz.prog 56 #[.slice p ts.length cap, .slice q cs.length c2] w fun e w' => e = .returned (.bool (runCan ts cs)) ∧ Below w.heap.size w w' := by
  obtain ⟨_, _, h1, hl1, hl2⟩ := hC.len
  cases h1
  unfold maxLen at hl2
  obtain ⟨tok, htok⟩ : ∃ b, tabOk ts = b := ⟨_, rfl⟩
  have Htok := Lib.hid htok
  have HT := Lib.hid hT
  have HC := Lib.hid hC
  clear hT hC htok
  cases tok
  · go_enter Tryz.func56, Tryz.ntmps56
    go_wp2_with (go_at_call 27; refine (tableOk_t (HT.out.pure (by (repeat (with_reducible first | exact Below.refl _ _ | refine Below.alloc ?_ ?_ _ | refine below_drewN ?_ _ | refine Below.drew ?_ | refine Below.setCell ?_ ?_ _ | refine Below.trans ?_ (Below.mono (by assumption) ?_))) <;> (first | omega | (simp; try omega)))) Htok.out).mono ?_; rintro e w1 ⟨rfl, hb1⟩)
    go_ret
    exact ⟨ret_bool (by simp [runCan, Htok.out]), hb1⟩
  · by_cases h40 : cs.length ≤ 40
    · have h40' : ¬ (40 : Int) < (cs.length : Int) := by omega
      go_enter Tryz.func56, Tryz.ntmps56
      go_wp2_with (go_at_call 27; refine (tableOk_t (HT.out.pure (by (repeat (with_reducible first | exact Below.refl _ _ | refine Below.alloc ?_ ?_ _ | refine below_drewN ?_ _ | refine Below.drew ?_ | refine Below.setCell ?_ ?_ _ | refine Below.trans ?_ (Below.mono (by assumption) ?_))) <;> (first | omega | (simp; try omega)))) Htok.out).mono ?_; rintro e w1 ⟨rfl, hb1⟩)
      go_loopw [17] (fun s17 wr => ∃ i : Nat, s17 = .int .i64 (i : Int) ∧ i ≤ cs.length ∧ (cs.take i).all (calCan ts) = true ∧ Below w.heap.size w wr) (fun s17 _ => cs.length - (intOf s17).toNat)
      case atStart => exact ⟨0, rfl, by omega, by simp, hb1⟩
      case round =>
        obtain ⟨i, rfl, hi, hall, hB⟩ := hrel
        have Hall := Lib.hid hall
        clear hall
        by_cases hlt : i < cs.length
        · obtain ⟨c, hc⟩ : ∃ c, cs[i]? = some c := ⟨_, List.getElem?_eq_getElem hlt⟩
          obtain ⟨b, o, rfl, hb, c0, c1, c2', c3, c4⟩ := (HC.out.pure hB).at i c hc
          obtain ⟨v, hv⟩ : ∃ v, calCan ts c = v := ⟨_, rfl⟩
          have Hv := Lib.hid hv
          have Hc := Lib.hid hc
          have hi0 : (0 : Int) ≤ (i : Int) := by omega
          have hiu : (i : Int) < (cs.length : Int) := by omega
          have hzB := hB.size
          obtain ⟨k0, k1, k2, k3, k4⟩ := c
          dsimp only at c0 c1 c2' c3 c4
          clear hv hc
          cases v
          · go_wp2_with (go_at_call 69; refine (callPossible_t (c := ⟨_, _, _, _, _⟩) (HT.out.pure (by (repeat (with_reducible first | exact Below.refl _ _ | refine Below.alloc ?_ ?_ _ | refine below_drewN ?_ _ | refine Below.drew ?_ | refine Below.setCell ?_ ?_ _ | refine Below.trans ?_ (Below.mono (by assumption) ?_))) <;> (first | omega | (simp; try omega)))) Hv.out).mono ?_; rintro e w2 ⟨rfl, hb2⟩)
            go_ret
            exact ⟨ret_bool (by simp only [runCan, all_bad Hc.out Hv.out, Bool.and_false]), (by (repeat (with_reducible first | exact Below.refl _ _ | refine Below.alloc ?_ ?_ _ | refine below_drewN ?_ _ | refine Below.drew ?_ | refine Below.setCell ?_ ?_ _ | refine Below.trans ?_ (Below.mono (by assumption) ?_))) <;> (first | omega | (simp; try omega)))⟩
          · go_wp2_with (go_at_call 69; refine (callPossible_t (c := ⟨_, _, _, _, _⟩) (HT.out.pure (by (repeat (with_reducible first | exact Below.refl _ _ | refine Below.alloc ?_ ?_ _ | refine below_drewN ?_ _ | refine Below.drew ?_ | refine Below.setCell ?_ ?_ _ | refine Below.trans ?_ (Below.mono (by assumption) ?_))) <;> (first | omega | (simp; try omega)))) Hv.out).mono ?_; rintro e w2 ⟨rfl, hb2⟩)
            exact ⟨⟨i + 1, by go_num, by omega, all_take Hall.out Hc.out Hv.out, (by (repeat (with_reducible first | exact Below.refl _ _ | refine Below.alloc ?_ ?_ _ | refine below_drewN ?_ _ | refine Below.drew ?_ | refine Below.setCell ?_ ?_ _ | refine Below.trans ?_ (Below.mono (by assumption) ?_))) <;> (first | omega | (simp; try omega)))⟩, by simp [intOf]; omega⟩
        · have hil : i = cs.length := by omega
          have Hil := Lib.hid hil
          clear hil
          go_wp2
          go_ret
          have h := Hall.out
          rw [Hil.out, List.take_length] at h
          exact ⟨ret_bool (by simp only [runCan, Htok.out, h, decide_eq_true h40, Bool.and_self]), hB⟩
    · have h40' : (40 : Int) < (cs.length : Int) := by omega
      go_enter Tryz.func56, Tryz.ntmps56
      go_wp2_with (go_at_call 27; refine (tableOk_t (HT.out.pure (by (repeat (with_reducible first | exact Below.refl _ _ | refine Below.alloc ?_ ?_ _ | refine below_drewN ?_ _ | refine Below.drew ?_ | refine Below.setCell ?_ ?_ _ | refine Below.trans ?_ (Below.mono (by assumption) ?_))) <;> (first | omega | (simp; try omega)))) Htok.out).mono ?_; rintro e w1 ⟨rfl, hb1⟩)
      go_ret
      exact ⟨ret_bool (by simp [runCan, h40]), hb1⟩

set_option maxRecDepth 100000 in
set_option maxHeartbeats 4000000 in
theorem runLow1_c (p : Option Addr) (cap : Nat) (ts : List Thg) (r : Int) (l : Lab) (w : World) (hT : TabAt w (.slice p ts.length cap) ts) (hr : ex ts r = true) :
    Calls Tryz.prog 58 #[.slice p ts.length cap, .int .i64 r, l.val] w fun e w' => e = .returned (.bool (flow (getT ts r).lab l)) ∧ Below w.heap.size w w' := by
  obtain ⟨_, _, h1, hl1, hl2⟩ := hT.len
  cases h1
  unfold maxLen at hl2
  obtain ⟨j, rfl, hj⟩ := ex_idx hr
  obtain ⟨b, o, sv, qv, rfl, hbk, hS, hQ, c0, c1, c2, -⟩ := hT.at j _ hj
  have hlt : j < ts.length := (List.getElem?_eq_some_iff.1 hj).1
  have e0 : (0 : Int) ≤ (j : Int) := by omega
  have e1 : (j : Int) < (ts.length : Int) := by omega
  have s1 : IntKind.i64.wrap (j : Int) = (j : Int) := IntWalk.i64_in _ (by omega)
  obtain ⟨ls, lv⟩ := l
  obtain ⟨v, hv⟩ : ∃ v, flow (getT ts ((j : Int) + 1)).lab ⟨ls, lv⟩ = v := ⟨_, rfl⟩
  rw [hv]
  have Hv := Lib.hid hv
  obtain ⟨⟨a1, a2⟩, ha⟩ : ∃ a, (getT ts ((j : Int) + 1)).lab = a := ⟨_, rfl⟩
  rw [ha] at c1 c2 Hv
  dsimp only at c1 c2
  clear hj hr hv ha hS hQ c0
  go_enter Tryz.func58, Tryz.ntmps58
  go_upto_region 1 with (fail)
  generalize hwa : World.alloc _ _ = wa
  have hB0 : Below w.heap.size w wa := by rw [← hwa]; exact (by (repeat (with_reducible first | exact Below.refl _ _ | refine Below.alloc ?_ ?_ _ | refine below_drewN ?_ _ | refine Below.drew ?_ | refine Below.setCell ?_ ?_ _ | refine Below.trans ?_ (Below.mono (by assumption) ?_))) <;> (first | omega | (simp; try omega)))
  have hza : w.heap.size < wa.heap.size := by rw [← hwa]; simp
  have l0 : wa.cell? ⟨w.heap.size, 0, none⟩ = some (.int .i64 ls) := by rw [← hwa]; simp [go_sem]
  have l1 : wa.cell? ⟨w.heap.size, 1, none⟩ = some (.int .i64 lv) := by rw [← hwa]; simp [go_sem]
  rw [← (bcell hB0).1 _ _ hbk] at c1 c2
  have hbz : b < wa.heap.size := Nat.lt_of_lt_of_le hbk hB0.size
  have HS := Lib.hid (show ∀ w' : World, Below wa.heap.size wa w' → (Below wa.heap.size wa w' ∧ w'.cell? ⟨b, o + j * 8 + 1, none⟩ = some (.int .i64 a1) ∧ w'.cell? ⟨b, o + j * 8 + 2, none⟩ = some (.int .i64 a2) ∧ w'.cell? ⟨w.heap.size, 0, none⟩ = some (.int .i64 ls) ∧ w'.cell? ⟨w.heap.size, 1, none⟩ = some (.int .i64 lv)) from
    fun w' h => by
      obtain ⟨hc', -⟩ := bcell h
      exact ⟨h, (hc' _ _ hbz).trans c1, (hc' _ _ hbz).trans c2, (hc' _ _ hza).trans l0, (hc' _ _ hza).trans l1⟩)
  clear hwa c1 c2 l0 l1
  first | (go_region_held3 (fun w' => Below wa.heap.size wa w' ∧ w'.cell? ⟨b, o + j * 8 + 1, none⟩ = some (.int .i64 a1) ∧ w'.cell? ⟨b, o + j * 8 + 2, none⟩ = some (.int .i64 a2) ∧ w'.cell? ⟨w.heap.size, 0, none⟩ = some (.int .i64 ls) ∧ w'.cell? ⟨w.heap.size, 1, none⟩ = some (.int .i64 lv))
    (first | assumption | exact HS.out _ (Below.drew (Below.refl _ _)) | (have hX := And.left (by assumption : Below wa.heap.size wa _ ∧ _); exact HS.out _ (hX.trans (hb3.mono hX.size))))
    (first | (go_at_call 66; refine (labelFlow_c ⟨_, _⟩ ⟨_, _⟩ _).mono ?_; rw [Hv.out]; rintro e w1 ⟨rfl, hb3⟩))) | fail
  all_goals go_wp2
  all_goals go_ret
  all_goals exact ⟨rfl, hB0.trans ((And.left (by assumption : Below wa.heap.size wa _ ∧ _)).mono hB0.size)⟩

theorem runLow1_t {p : Option Addr} {cap : Nat} {ts : List Thg} {r : Int} {l : Lab} {w : World} {v : Bool} (hT : TabAt w (.slice p ts.length cap) ts) (hr : ex ts r = true) (h : flow (getT ts r).lab l = v) :
    Calls Tryz.prog 58 #[.slice p ts.length cap, .int .i64 r, l.val] w fun e w' => e = .returned (.bool v) ∧ Below w.heap.size w w' := by
  rw [← h]; exact runLow1_c p cap ts r l w hT hr
theorem labelOk_t {l : Lab} {w : World} {v : Bool} (h : labOk l = v) : Calls Tryz.prog 57 #[l.val] w fun e w' => e = .returned (.bool v) ∧ Below w.heap.size w w' := by
  rw [← h]; exact labelOk_c l w
theorem scriptOk_t {p : Option Addr} {cap : Nat} {ts : List Thg} {q : Option Addr} {c2 : Nat} {cs : List Cal} {w : World} {v : Bool} (hT : TabAt w (.slice p ts.length cap) ts) (hC : CalsAt w (.slice q cs.length c2) cs) (h : runCan ts cs = v) :
    Calls Tryz.prog 56 #[.slice p ts.length cap, .slice q cs.length c2] w fun e w' => e = .returned (.bool v) ∧ Below w.heap.size w w' := by
  rw [← h]; exact scriptOk_c p cap ts q c2 cs w hT hC

theorem info_cal : (Tryz.prog.info? 37).map (fun i => (i.zero, i.size, i.bytes)) = some (some (.agg #[.int .i64 0, .int .i64 0, .int .i64 0, .int .i64 0, .int .i64 0]), 5, 40) := by kernel_rfl

theorem filter_take {α : Type} {f : α → Bool} {l : List α} {i : Nat} {x : α} (hx : l[i]? = some x) : (l.take (i + 1)).filter f = (l.take i).filter f ++ (if f x then [x] else []) := by
  rw [take_one hx, List.filter_append]
  cases h : f x <;> simp [List.filter_cons, h]
theorem filter_le' {α : Type} (f : α → Bool) (l : List α) (i : Nat) : ((l.take i).filter f).length ≤ i := Nat.le_trans (List.length_filter_le _ _) (List.length_take_le _ _)

set_option maxRecDepth 100000 in
set_option maxHeartbeats 4000000 in
theorem runLow_c (p : Option Addr) (cap : Nat) (ts : List Thg) (q : Option Addr) (c2 : Nat) (cs : List Cal) (l : Lab) (w : World) (hT : TabAt w (.slice p ts.length cap) ts) (hC : CalsAt w (.slice q cs.length c2) cs) :
    Calls Tryz.prog 17 #[.slice p ts.length cap, .slice q cs.length c2, l.val] w fun e w' => ∃ q' k, e = .returned (.slice q' (runLow ts cs l).length k) ∧ CalsAt w' (.slice q' (runLow ts cs l).length k) (runLow ts cs l) ∧ Below w.heap.size w w' := by
  obtain ⟨_, _, h1, hl1, hl2⟩ := hC.len
  cases h1
  unfold maxLen at hl2
  obtain ⟨ls, lv⟩ := l
  obtain ⟨sok, hsok⟩ : ∃ b, runCan ts cs = b := ⟨_, rfl⟩
  obtain ⟨lok, hlok⟩ : ∃ b, labOk ⟨ls, lv⟩ = b := ⟨_, rfl⟩
  have Hsok := Lib.hid hsok
  have Hlok := Lib.hid hlok
  have HT := Lib.hid hT
  have HC := Lib.hid hC
  clear hT hC hsok hlok
  cases sok
  · have hr : runLow ts cs ⟨ls, lv⟩ = [] := by simp [runLow, Hsok.out]
    have Hr := Lib.hid hr
    rw [hr]
    clear hr
    go_enter Tryz.func17, Tryz.ntmps17
    go_wp2_with (go_at_call 56; refine (scriptOk_t (HT.out.pure (by (repeat (with_reducible first | exact Below.refl _ _ | refine Below.alloc ?_ ?_ _ | refine below_drewN ?_ _ | refine Below.drew ?_ | refine Below.setCell ?_ ?_ _ | refine Below.trans ?_ (Below.mono (by assumption) ?_))) <;> (first | omega | (simp; try omega)))) (HC.out.pure (by (repeat (with_reducible first | exact Below.refl _ _ | refine Below.alloc ?_ ?_ _ | refine below_drewN ?_ _ | refine Below.drew ?_ | refine Below.setCell ?_ ?_ _ | refine Below.trans ?_ (Below.mono (by assumption) ?_))) <;> (first | omega | (simp; try omega)))) Hsok.out).mono ?_; rintro e w1 ⟨rfl, hb1⟩)
    go_ret
    exact ⟨_, _, rfl, ⟨none, 0, rfl, by simp, by simp, .inl rfl⟩, (by (repeat (with_reducible first | exact Below.refl _ _ | refine Below.alloc ?_ ?_ _ | refine below_drewN ?_ _ | refine Below.drew ?_ | refine Below.setCell ?_ ?_ _ | refine Below.trans ?_ (Below.mono (by assumption) ?_))) <;> (first | omega | (simp; try omega)))⟩
  · cases lok
    · have hr : runLow ts cs ⟨ls, lv⟩ = [] := by simp [runLow, Hlok.out]
      have Hr := Lib.hid hr
      rw [hr]
      clear hr
      go_enter Tryz.func17, Tryz.ntmps17
      go_wp2_with (first
        | (go_at_call 57; refine (labelOk_t (l := ⟨_, _⟩) Hlok.out).mono ?_; rintro e w2 ⟨rfl, hb2⟩)
        | (go_at_call 56; refine (scriptOk_t (HT.out.pure (by (repeat (with_reducible first | exact Below.refl _ _ | refine Below.alloc ?_ ?_ _ | refine below_drewN ?_ _ | refine Below.drew ?_ | refine Below.setCell ?_ ?_ _ | refine Below.trans ?_ (Below.mono (by assumption) ?_))) <;> (first | omega | (simp; try omega)))) (HC.out.pure (by (repeat (with_reducible first | exact Below.refl _ _ | refine Below.alloc ?_ ?_ _ | refine below_drewN ?_ _ | refine Below.drew ?_ | refine Below.setCell ?_ ?_ _ | refine Below.trans ?_ (Below.mono (by assumption) ?_))) <;> (first | omega | (simp; try omega)))) Hsok.out).mono ?_; rintro e w1 ⟨rfl, hb1⟩; obtain ⟨hc1, hf1⟩ := bcell hb1; have hz0 : w.heap.size < w1.heap.size := (by have := hb1.size; (try simp at this); omega)))
      go_ret
      exact ⟨_, _, rfl, ⟨none, 0, rfl, by simp, by simp, .inl rfl⟩, (by (repeat (with_reducible first | exact Below.refl _ _ | refine Below.alloc ?_ ?_ _ | refine below_drewN ?_ _ | refine Below.drew ?_ | refine Below.setCell ?_ ?_ _ | refine Below.trans ?_ (Below.mono (by assumption) ?_))) <;> (first | omega | (simp; try omega)))⟩
    · have hcan := runCan_iff.1 Hsok.out
      have hr : runLow ts cs ⟨ls, lv⟩ = cs.filter (fun c => flow (getT ts c.run).lab ⟨ls, lv⟩) := by simp [runLow, Hsok.out, Hlok.out]
      have Hr := Lib.hid hr
      rw [hr]
      clear hr
      obtain ⟨i0, hi0, hz0, hz1, hz2⟩ := info_parts info_cal
      have h40 : cs.length ≤ 40 := hcan.2.1
      have Hcan := Lib.hid hcan.2.2
      clear hcan
      go_enter Tryz.func17, Tryz.ntmps17
      go_upto_region 1 with (fail)
      generalize hwa : World.alloc _ _ = wa
      have hB0 : Below w.heap.size w wa := by rw [← hwa]; exact (by (repeat (with_reducible first | exact Below.refl _ _ | refine Below.alloc ?_ ?_ _ | refine below_drewN ?_ _ | refine Below.drew ?_ | refine Below.setCell ?_ ?_ _ | refine Below.trans ?_ (Below.mono (by assumption) ?_))) <;> (first | omega | (simp; try omega)))
      have hza : w.heap.size < wa.heap.size := by rw [← hwa]; simp
      have l0 : wa.cell? ⟨w.heap.size, 0, none⟩ = some (.int .i64 ls) := by rw [← hwa]; simp [go_sem]
      have l1 : wa.cell? ⟨w.heap.size, 1, none⟩ = some (.int .i64 lv) := by rw [← hwa]; simp [go_sem]
      have L0 := Lib.hid l0
      have L1 := Lib.hid l1
      have HB0 := Lib.hid hB0
      clear hwa
      go_upto_region 4 with (first
        | (go_at_call 57; refine (labelOk_t (l := ⟨_, _⟩) Hlok.out).mono ?_; rintro e w2 ⟨rfl, hb2⟩)
        | (go_at_call 56; refine (scriptOk_t (HT.out.pure HB0.out) (HC.out.pure HB0.out) Hsok.out).mono ?_; rintro e w1 ⟨rfl, hb1⟩; obtain ⟨hc1, hf1⟩ := bcell hb1; have hz1' := hb1.size))
      have hB2 : Below wa.heap.size wa w2 := hb1.trans (hb2.mono hz1')
      clear l0 l1 hc1 hf1 hb1 hb2
      go_wp2
      go_loopw [7, 21] (fun s7 s21 wr => ∃ i : Nat, s21 = .int .i64 (i : Int) ∧ i ≤ cs.length ∧ wr.ownsRow wa.heap.size 37 5 s7 ((cs.take i).filter (fun c => flow (getT ts c.run).lab ⟨ls, lv⟩)).length ((((cs.take i).filter (fun c => flow (getT ts c.run).lab ⟨ls, lv⟩)).map Cal.cells).flatten) ∧ Below wa.heap.size wa wr) (fun _ s21 _ => cs.length - (intOf s21).toNat)
      case atStart => exact ⟨0, rfl, by omega, ⟨by simp, .inl ⟨rfl, by simp⟩⟩, hB2⟩
      case round =>
        obtain ⟨i, rfl, hi, hown, hB⟩ := hrel
        have hle := filter_le' (fun c => flow (getT ts c.run).lab ⟨ls, lv⟩) cs i
        obtain ⟨fl, hfl⟩ : ∃ fl, (cs.take i).filter (fun c => flow (getT ts c.run).lab ⟨ls, lv⟩) = fl := ⟨_, rfl⟩
        rw [hfl] at hown hle
        have Hfl := Lib.hid hfl
        have Hown := Lib.hid hown
        have HB := Lib.hid hB
        obtain ⟨q7, c7, rfl⟩ := own_slice_n hown
        clear hfl hown
        have l0 := ((bcell hB).1 _ _ hza).trans L0.out
        have l1 := ((bcell hB).1 _ _ hza).trans L1.out
        have hzr : wa.heap.size ≤ wr.heap.size := hB.size
        have hzwr : w.heap.size < wr.heap.size := by omega
        by_cases hlt : i < cs.length
        · obtain ⟨c, hc⟩ : ∃ c, cs[i]? = some c := ⟨_, List.getElem?_eq_getElem hlt⟩
          obtain ⟨b, o, rfl, hb, c0, c1, c2', c3, c4⟩ := ((HC.out.pure HB0.out).pure hB).at i c hc
          obtain ⟨v, hv⟩ : ∃ v, flow (getT ts c.run).lab ⟨ls, lv⟩ = v := ⟨_, rfl⟩
          have hcB := Hcan.out c (List.mem_of_getElem? hc)
          have Hex := Lib.hid hcB.ex
          have Hv := Lib.hid hv
          have Hc := Lib.hid hc
          have hj0 : (0 : Int) ≤ (i : Int) := by omega
          have hju : (i : Int) < (cs.length : Int) := by omega
          obtain ⟨k0, k1, k2, k3, k4⟩ := c
          dsimp only at c0 c1 c2' c3 c4
          clear hv hc hcB hB
          have HTr := Lib.hid (HT.out.pure HB0.out)
          cases v
          · go_wp2_with (go_at_call 58; refine (runLow1_t (l := ⟨_, _⟩) ((HTr.out.pure HB.out).pure (by (repeat (with_reducible first | exact Below.refl _ _ | refine Below.alloc ?_ ?_ _ | refine below_drewN ?_ _ | refine Below.drew ?_ | refine Below.setCell ?_ ?_ _ | refine Below.trans ?_ (Below.mono (by assumption) ?_))) <;> (first | omega | (simp; try omega)))) Hex.out Hv.out).mono ?_; rintro e w3 ⟨rfl, hb3⟩)
            have hBn : Below wr.heap.size wr w3 := (by (repeat (with_reducible first | exact Below.refl _ _ | refine Below.alloc ?_ ?_ _ | refine below_drewN ?_ _ | refine Below.drew ?_ | refine Below.setCell ?_ ?_ _ | refine Below.trans ?_ (Below.mono (by assumption) ?_))) <;> (first | omega | (simp; try omega)))
            refine ⟨⟨i + 1, by go_num, by omega, ?_, HB.out.trans (hBn.mono hzr)⟩, by simp [intOf]; omega⟩
            rw [filter_take Hc.out, Hv.out, Hfl.out]
            simpa using own_below Hown.out hBn
          · go_upto_region 8 with (first
              | (go_at_call 58; refine (runLow1_t (l := ⟨_, _⟩) ((HTr.out.pure HB.out).pure (by (repeat (with_reducible first | exact Below.refl _ _ | refine Below.alloc ?_ ?_ _ | refine below_drewN ?_ _ | refine Below.drew ?_ | refine Below.setCell ?_ ?_ _ | refine Below.trans ?_ (Below.mono (by assumption) ?_))) <;> (first | omega | (simp; try omega)))) Hex.out Hv.out).mono ?_; rintro e w3 ⟨rfl, hb3⟩))
            have hBn : Below wr.heap.size wr w3 := (by (repeat (with_reducible first | exact Below.refl _ _ | refine Below.alloc ?_ ?_ _ | refine below_drewN ?_ _ | refine Below.drew ?_ | refine Below.setCell ?_ ?_ _ | refine Below.trans ?_ (Below.mono (by assumption) ?_))) <;> (first | omega | (simp; try omega)))
            obtain ⟨hc3, hf3⟩ := bcell hb3
            have hz3 : wr.heap.size < w3.heap.size := by have := hb3.size; simp at this; omega
            have HBn := Lib.hid hBn
            have hz3' : wa.heap.size ≤ w3.heap.size := by omega
            have d0 : w3.cell? ⟨wr.heap.size, 0, none⟩ = some (.int .i64 k0) := by rw [hc3 _ _ (by simp)]; simp [go_sem]
            have d1 : w3.cell? ⟨wr.heap.size, 1, none⟩ = some (.int .i64 k1) := by rw [hc3 _ _ (by simp)]; simp [go_sem]
            have d2 : w3.cell? ⟨wr.heap.size, 2, none⟩ = some (.int .i64 k2) := by rw [hc3 _ _ (by simp)]; simp [go_sem]
            have d3 : w3.cell? ⟨wr.heap.size, 3, none⟩ = some (.int .i64 k3) := by rw [hc3 _ _ (by simp)]; simp [go_sem]
            have d4 : w3.cell? ⟨wr.heap.size, 4, none⟩ = some (.int .i64 k4) := by rw [hc3 _ _ (by simp)]; simp [go_sem]
            have hfl8 : fl.length ≤ 40 := by omega
            clear hBn hb3 hc3 hf3 c0 c1 c2' c3 c4 l0 l1
            go_wp2_with (first | (at_builtin; refine wpList_append_rows rfl (.tmp 30) (.tmp 32) 24 rfl wa.heap.size 37 i0 _ 5 40 Tryz.underlying24 hi0 hz0 hz1 hz2 rfl (by decide) (.slice q7 fl.length c7) fl.length ((fl.map Cal.cells).flatten) rfl (own_below (own_below Hown.out HBn.out) (by (repeat (with_reducible first | exact Below.refl _ _ | refine Below.alloc ?_ ?_ _ | refine below_drewN ?_ _ | refine Below.drew ?_ | refine Below.setCell ?_ ?_ _ | refine Below.trans ?_ (Below.mono (by assumption) ?_))) <;> (first | omega | (simp; try omega)))) (.slice (some ⟨w3.heap.size, 0, none⟩) 1 1) [Cal.cells ⟨k0, k1, k2, k3, k4⟩] rfl (flat_cals [⟨k0, k1, k2, k3, k4⟩]) (Rows.one (by intro i u hu; rcases i with _ | _ | _ | _ | _ | i <;> simp [Cal.cells] at hu <;> (try subst hu) <;> simp [go_sem])) (by simp [maxLen] <;> omega) (by simp <;> omega) (by simp <;> omega) ?_; intro v4 w4 ho4 hg4))
            have hB4 : Below wa.heap.size wa w4 := Below.grown ((HB.out.trans (HBn.out.mono hzr)).alloc hz3' _) hg4 (by simp <;> omega) (fun k hk => (Hown.out.lt k hk).1)
            have fin : w4.ownsRow wa.heap.size 37 5 v4 (((cs.take (i + 1)).filter (fun c => flow (getT ts c.run).lab ⟨ls, lv⟩))).length ((((cs.take (i + 1)).filter (fun c => flow (getT ts c.run).lab ⟨ls, lv⟩)).map Cal.cells).flatten) := by
              rw [filter_take Hc.out, Hv.out, Hfl.out]
              simpa using ho4
            have Fin := Lib.hid fin
            clear fin ho4 hg4 d0 d1 d2 d3 d4
            go_wp2
            exact ⟨⟨i + 1, by go_num, by omega, Fin.out, hB4⟩, by simp [intOf]; omega⟩
        · have hil : i = cs.length := by omega
          have hown := Hown.out
          have hflc := Hfl.out
          rw [hil, List.take_length] at hflc
          subst hflc
          clear Hfl hown hil
          go_wp2
          go_ret
          exact ⟨_, _, rfl, Rows.of_own (flat_cals _) (by rw [List.length_map]; exact Hown.out), HB0.out.trans (HB.out.mono HB0.out.size)⟩

def quietOne (ts : List Thg) (l : Lab) (c : Cal) : Bool := c.kind != 9 || flow (getT ts c.run).lab l

set_option maxRecDepth 100000 in
set_option maxHeartbeats 4000000 in
theorem runQuiet_c (p : Option Addr) (cap : Nat) (ts : List Thg) (q : Option Addr) (c2 : Nat) (cs : List Cal) (l : Lab) (w : World) (hT : TabAt w (.slice p ts.length cap) ts) (hC : CalsAt w (.slice q cs.length c2) cs) :
    Calls Tryz.prog 29 #[.slice p ts.length cap, .slice q cs.length c2, l.val] w fun e w' => e = .returned (.bool (runQuiet ts cs l)) ∧ Below w.heap.size w w' := by
  obtain ⟨_, _, h1, hl1, hl2⟩ := hC.len
  cases h1
  unfold maxLen at hl2
  obtain ⟨ls, lv⟩ := l
  obtain ⟨sok, hsok⟩ : ∃ b, runCan ts cs = b := ⟨_, rfl⟩
  obtain ⟨lok, hlok⟩ : ∃ b, labOk ⟨ls, lv⟩ = b := ⟨_, rfl⟩
  have Hsok := Lib.hid hsok
  have Hlok := Lib.hid hlok
  have HT := Lib.hid hT
  have HC := Lib.hid hC
  clear hT hC hsok hlok
  cases sok
  · go_enter Tryz.func29, Tryz.ntmps29
    go_wp2_with (go_at_call 56; refine (scriptOk_t (HT.out.pure (by (repeat (with_reducible first | exact Below.refl _ _ | refine Below.alloc ?_ ?_ _ | refine below_drewN ?_ _ | refine Below.drew ?_ | refine Below.setCell ?_ ?_ _ | refine Below.trans ?_ (Below.mono (by assumption) ?_))) <;> (first | omega | (simp; try omega)))) (HC.out.pure (by (repeat (with_reducible first | exact Below.refl _ _ | refine Below.alloc ?_ ?_ _ | refine below_drewN ?_ _ | refine Below.drew ?_ | refine Below.setCell ?_ ?_ _ | refine Below.trans ?_ (Below.mono (by assumption) ?_))) <;> (first | omega | (simp; try omega)))) Hsok.out).mono ?_; rintro e w1 ⟨rfl, hb1⟩)
    go_ret
    exact ⟨ret_bool (by simp [runQuiet, Hsok.out]), (by (repeat (with_reducible first | exact Below.refl _ _ | refine Below.alloc ?_ ?_ _ | refine below_drewN ?_ _ | refine Below.drew ?_ | refine Below.setCell ?_ ?_ _ | refine Below.trans ?_ (Below.mono (by assumption) ?_))) <;> (first | omega | (simp; try omega)))⟩
  · cases lok
    · go_enter Tryz.func29, Tryz.ntmps29
      go_wp2_with (first
        | (go_at_call 57; refine (labelOk_t (l := ⟨_, _⟩) Hlok.out).mono ?_; rintro e w2 ⟨rfl, hb2⟩)
        | (go_at_call 56; refine (scriptOk_t (HT.out.pure (by (repeat (with_reducible first | exact Below.refl _ _ | refine Below.alloc ?_ ?_ _ | refine below_drewN ?_ _ | refine Below.drew ?_ | refine Below.setCell ?_ ?_ _ | refine Below.trans ?_ (Below.mono (by assumption) ?_))) <;> (first | omega | (simp; try omega)))) (HC.out.pure (by (repeat (with_reducible first | exact Below.refl _ _ | refine Below.alloc ?_ ?_ _ | refine below_drewN ?_ _ | refine Below.drew ?_ | refine Below.setCell ?_ ?_ _ | refine Below.trans ?_ (Below.mono (by assumption) ?_))) <;> (first | omega | (simp; try omega)))) Hsok.out).mono ?_; rintro e w1 ⟨rfl, hb1⟩; obtain ⟨hc1, hf1⟩ := bcell hb1; have hz0 : w.heap.size < w1.heap.size := (by have := hb1.size; (try simp at this); omega)))
      go_ret
      exact ⟨ret_bool (by simp [runQuiet, Hlok.out]), (by (repeat (with_reducible first | exact Below.refl _ _ | refine Below.alloc ?_ ?_ _ | refine below_drewN ?_ _ | refine Below.drew ?_ | refine Below.setCell ?_ ?_ _ | refine Below.trans ?_ (Below.mono (by assumption) ?_))) <;> (first | omega | (simp; try omega)))⟩
    · have hcan := runCan_iff.1 Hsok.out
      have hr : runQuiet ts cs ⟨ls, lv⟩ = cs.all (quietOne ts ⟨ls, lv⟩) := by unfold runQuiet quietOne; rw [Hsok.out, Hlok.out]; rfl
      have Hr := Lib.hid hr
      rw [hr]
      clear hr
      have h40 : cs.length ≤ 40 := hcan.2.1
      have Hcan := Lib.hid hcan.2.2
      clear hcan
      go_enter Tryz.func29, Tryz.ntmps29
      go_upto_region 1 with (fail)
      generalize hwa : World.alloc _ _ = wa
      have hB0 : Below w.heap.size w wa := by rw [← hwa]; exact (by (repeat (with_reducible first | exact Below.refl _ _ | refine Below.alloc ?_ ?_ _ | refine below_drewN ?_ _ | refine Below.drew ?_ | refine Below.setCell ?_ ?_ _ | refine Below.trans ?_ (Below.mono (by assumption) ?_))) <;> (first | omega | (simp; try omega)))
      have hza : w.heap.size < wa.heap.size := by rw [← hwa]; simp
      have l0 : wa.cell? ⟨w.heap.size, 0, none⟩ = some (.int .i64 ls) := by rw [← hwa]; simp [go_sem]
      have l1 : wa.cell? ⟨w.heap.size, 1, none⟩ = some (.int .i64 lv) := by rw [← hwa]; simp [go_sem]
      have L0 := Lib.hid l0
      have L1 := Lib.hid l1
      have HB0 := Lib.hid hB0
      clear hwa
      go_upto_region 3 with (first
        | (go_at_call 57; refine (labelOk_t (l := ⟨_, _⟩) Hlok.out).mono ?_; rintro e w2 ⟨rfl, hb2⟩)
        | (go_at_call 56; refine (scriptOk_t (HT.out.pure HB0.out) (HC.out.pure HB0.out) Hsok.out).mono ?_; rintro e w1 ⟨rfl, hb1⟩; obtain ⟨hc1, hf1⟩ := bcell hb1; have hz1' := hb1.size))
      have hB2 : Below wa.heap.size wa w2 := hb1.trans (hb2.mono hz1')
      clear l0 l1 hc1 hf1 hb1 hb2
      go_wp2
      go_loopw [20] (fun s20 wr => ∃ i : Nat, s20 = .int .i64 (i : Int) ∧ i ≤ cs.length ∧ (cs.take i).all (quietOne ts ⟨ls, lv⟩) = true ∧ Below wa.heap.size wa wr) (fun s20 _ => cs.length - (intOf s20).toNat)
      case atStart => exact ⟨0, rfl, by omega, by simp, hB2⟩
      case round =>
        obtain ⟨i, rfl, hi, hall, hB⟩ := hrel
        have Hall := Lib.hid hall
        have HB := Lib.hid hB
        clear hall
        have l0 := ((bcell hB).1 _ _ hza).trans L0.out
        have l1 := ((bcell hB).1 _ _ hza).trans L1.out
        have hzr : wa.heap.size ≤ wr.heap.size := hB.size
        have hzwr : w.heap.size < wr.heap.size := by omega
        by_cases hlt : i < cs.length
        · obtain ⟨c, hc⟩ : ∃ c, cs[i]? = some c := ⟨_, List.getElem?_eq_getElem hlt⟩
          obtain ⟨b, o, rfl, hb, c0, c1, c2', c3, c4⟩ := ((HC.out.pure HB0.out).pure hB).at i c hc
          obtain ⟨v, hv⟩ : ∃ v, flow (getT ts c.run).lab ⟨ls, lv⟩ = v := ⟨_, rfl⟩
          have hcB := Hcan.out c (List.mem_of_getElem? hc)
          have Hex := Lib.hid hcB.ex
          have Hv := Lib.hid hv
          have Hc := Lib.hid hc
          have hj0 : (0 : Int) ≤ (i : Int) := by omega
          have hju : (i : Int) < (cs.length : Int) := by omega
          obtain ⟨k0, k1, k2, k3, k4⟩ := c
          dsimp only at c0 c1 c2' c3 c4
          clear hv hc hcB hB
          have HTr := Lib.hid (HT.out.pure HB0.out)
          by_cases hk9 : k0 = 9
          · subst hk9
            cases v
            · go_wp2_with (go_at_call 58; refine (runLow1_t (l := ⟨_, _⟩) ((HTr.out.pure HB.out).pure (by (repeat (with_reducible first | exact Below.refl _ _ | refine Below.alloc ?_ ?_ _ | refine below_drewN ?_ _ | refine Below.drew ?_ | refine Below.setCell ?_ ?_ _ | refine Below.trans ?_ (Below.mono (by assumption) ?_))) <;> (first | omega | (simp; try omega)))) Hex.out Hv.out).mono ?_; rintro e w3 ⟨rfl, hb3⟩)
              go_ret
              have hBn : Below wr.heap.size wr w3 := (by (repeat (with_reducible first | exact Below.refl _ _ | refine Below.alloc ?_ ?_ _ | refine below_drewN ?_ _ | refine Below.drew ?_ | refine Below.setCell ?_ ?_ _ | refine Below.trans ?_ (Below.mono (by assumption) ?_))) <;> (first | omega | (simp; try omega)))
              have hv := Hv.out
              exact ⟨ret_bool (by rw [all_bad Hc.out (by simp [quietOne, hv])]), HB0.out.trans ((HB.out.trans (hBn.mono hzr)).mono HB0.out.size)⟩
            · go_wp2_with (go_at_call 58; refine (runLow1_t (l := ⟨_, _⟩) ((HTr.out.pure HB.out).pure (by (repeat (with_reducible first | exact Below.refl _ _ | refine Below.alloc ?_ ?_ _ | refine below_drewN ?_ _ | refine Below.drew ?_ | refine Below.setCell ?_ ?_ _ | refine Below.trans ?_ (Below.mono (by assumption) ?_))) <;> (first | omega | (simp; try omega)))) Hex.out Hv.out).mono ?_; rintro e w3 ⟨rfl, hb3⟩)
              have hBn : Below wr.heap.size wr w3 := (by (repeat (with_reducible first | exact Below.refl _ _ | refine Below.alloc ?_ ?_ _ | refine below_drewN ?_ _ | refine Below.drew ?_ | refine Below.setCell ?_ ?_ _ | refine Below.trans ?_ (Below.mono (by assumption) ?_))) <;> (first | omega | (simp; try omega)))
              have hv := Hv.out
              exact ⟨⟨i + 1, by go_num, by omega, all_take Hall.out Hc.out (by simp [quietOne, hv]), HB.out.trans (hBn.mono hzr)⟩, by simp [intOf]; omega⟩
          · have hk9' : (k0 == 9) = false := by simpa using hk9
            go_wp2
            exact ⟨⟨i + 1, by go_num, by omega, all_take Hall.out Hc.out (by simp [quietOne, hk9]), HB.out.trans (Below.mono (show Below wr.heap.size wr _ from (by (repeat (with_reducible first | exact Below.refl _ _ | refine Below.alloc ?_ ?_ _ | refine below_drewN ?_ _ | refine Below.drew ?_ | refine Below.setCell ?_ ?_ _ | refine Below.trans ?_ (Below.mono (by assumption) ?_))) <;> (first | omega | (simp; try omega)))) hzr)⟩, by simp [intOf]; omega⟩
        · have hil : i = cs.length := by omega
          have Hil := Lib.hid hil
          clear hil
          go_wp2
          go_ret
          have h := Hall.out
          rw [Hil.out, List.take_length] at h
          exact ⟨ret_bool h.symm, HB0.out.trans (HB.out.mono HB0.out.size)⟩
end Go.Proofs.YtghbphdipdjekaaGreatDoor
