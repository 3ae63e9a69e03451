/- What the laws of one call have in common. Conditions: the table lies where its cells say; errors.errorType is laid. -/
import Derived.Test.YtkbflnbjmpcjlaaGreatDoorBl
import Derived.Test.YtkbflnbjmpcjlaaGreatDoorW
import Derived.Test.YtkbflnbjmpcjlaaGreatDoorSe
import Derived.Test.YtkbflnbjmpcjlaaGreatDoorLd
import Derived.Test.YtkbflnbjmpcjlaaGreatDoorDk
import Derived.Test.YtkbflnbjmpcjlaaGreatDoorK
import Derived.Test.YtkbflnbjmpcjlaaGreatDoorAct
import Derived.Test.YtkbflnbjmpcjlaaGreatDoorRun
import Derived.Test.YtkbflnbjmpcjlaaGreatDoorY
set_option linter.unusedVariables false
set_option linter.unusedSimpArgs false
namespace Go.Proofs.YtkbflnbjmpcjlaaGreatDoor
open Go.RowKit Drw

theorem callDo_t {p : Option Addr} {cap : Nat} {ts us : List Thg} {c : Cal} {an : Int} {w : World} (hL : Laid w) (hT : TabAt w (.slice p ts.length cap) ts) (h : callDo ts c = (us, an)) :
    Calls Tryz.prog 12 #[.slice p ts.length cap, c.val] w fun e w' => ∃ q k, e = .returned (.tuple #[.slice q us.length k, .int .i64 an]) ∧ TabAt w' (.slice q us.length k) us ∧ Below w.heap.size w w' := by
  refine (callDo_c p cap ts c w hL hT).mono ?_
  rintro e w' ⟨v, xs, tag, rfl, hO, hx, hb⟩
  have hA := hO.at'
  rw [hx, h] at hA
  obtain ⟨q, k, rfl, -, -⟩ := hA.len
  exact ⟨q, k, by rw [h], hA, hb⟩
/-- Tables that are the same. -/
theorem ldTable_s {pa pb : Option Addr} {ca cb : Nat} {us : List Thg} {w : World} (hA : TabAt w (.slice pa us.length ca) us) (hB : TabAt w (.slice pb us.length cb) us) :
    Calls Tryz.prog 16 #[.slice pa us.length ca, .slice pb us.length cb] w fun e w' => e = .returned (.bool true) ∧ Below w.heap.size w w' := by
  have := ldTable_c pa pb ca cb us us w hA hB
  rwa [decide_eq_true rfl] at this
/-- The bytes that came in. -/
def BytesAt (w : World) (p : Option Addr) (n : Nat) : Prop := ∀ i, i < n → ∃ b o, ∃ x : Nat, p = some ⟨b, o, none⟩ ∧ b < w.heap.size ∧ w.cell? ⟨b, o + i, none⟩ = some (.int .u8 (x : Int)) ∧ x < 256
theorem CallIn.pure {w w' : World} {B : Nat} {c : Cal} (h : CallIn w B c) (hb : Below w.heap.size w w') : CallIn w' B c := by
  obtain ⟨⟨h0, h1, h2, h3, h4⟩, hf⟩ := h
  have hB := World.block_lt_of_cell? _ _ h0
  obtain ⟨hc, hfz⟩ := bcell hb
  exact ⟨⟨(hc _ _ hB).trans h0, (hc _ _ hB).trans h1, (hc _ _ hB).trans h2, (hc _ _ hB).trans h3, (hc _ _ hB).trans h4⟩, fun j => (hfz _ _ hB).trans (hf j)⟩
end Go.Proofs.YtkbflnbjmpcjlaaGreatDoor

/- impl's scripts of calls: whether they are such, and the low ones. Conditions: the table and the calls lie where their cells say. -/
namespace Go.Proofs.YtkbflnbjmpcjlaaGreatDoor
open Go.RowKit Drw
attribute [local go_sem] Lab.val Rgt.val Cal.val Thg.val

theorem tableOk_t {p : Option Addr} {cap : Nat} {ts : List Thg} {w : World} {v : Bool} (hT : TabAt w (.slice p ts.length cap) ts) (h : tabOk ts = v) :
    Calls Tryz.prog 21 #[.slice p ts.length cap] w fun e w' => e = .returned (.bool v) ∧ Below w.heap.size w w' := by
  rw [← h]; exact tableOk_c p cap ts w hT
theorem callPossible_t {p : Option Addr} {cap : Nat} {ts : List Thg} {c : Cal} {w : World} {v : Bool} (hT : TabAt w (.slice p ts.length cap) ts) (h : calCan ts c = v) :
    Calls Tryz.prog 31 #[.slice p ts.length cap, c.val] w fun e w' => e = .returned (.bool v) ∧ Below w.heap.size w w' := by
  rw [← h]; exact callPossible_c p cap ts c w hT

theorem all_take {α : Type} {f : α → Bool} {l : List α} {i : Nat} {x : α} (h : (l.take i).all f = true) (hx : l[i]? = some x) (hf : f x = true) : (l.take (i + 1)).all f = true := by
  rw [take_one hx, List.all_append, h]; simp [hf]
theorem all_bad {α : Type} {f : α → Bool} {l : List α} {i : Nat} {x : α} (hx : l[i]? = some x) (hf : f x = false) : l.all f = false := by
  rw [List.all_eq_false]
  exact ⟨x, List.mem_of_getElem? hx, by simp [hf]⟩

set_option maxRecDepth 100000 in
set_option maxHeartbeats 4000000 in
theorem scriptOk_c (p : Option Addr) (cap : Nat) (ts : List Thg) (q : Option Addr) (c2 : Nat) (cs : List Cal) (w : World) (hT : TabAt w (.slice p ts.length cap) ts) (hC : CalsAt w (.slice q cs.length c2) cs) :
    Calls Tryz.prog 40 #[.slice p ts.length cap, .slice q cs.length c2] w fun e w' => e = .returned (.bool (runCan ts cs)) ∧ Below w.heap.size w w' := by
  obtain ⟨_, _, h1, hl1, hl2⟩ := hC.len
  cases h1
  unfold maxLen at hl2
  obtain ⟨tok, htok⟩ : ∃ b, tabOk ts = b := ⟨_, rfl⟩
  have Htok := Lib.hid htok
  have HT := Lib.hid hT
  have HC := Lib.hid hC
  clear hT hC htok
  cases tok
  · go_enter Tryz.func40, Tryz.ntmps40
    go_wp2_with (go_at_call 21; refine (tableOk_t (HT.out.pure bel) Htok.out).mono ?_; rintro e w1 ⟨rfl, hb1⟩)
    go_ret
    exact ⟨ret_bool (by simp [runCan, Htok.out]), hb1⟩
  · by_cases h40 : cs.length ≤ 40
    · have h40' : ¬ (40 : Int) < (cs.length : Int) := by omega
      go_enter Tryz.func40, Tryz.ntmps40
      go_wp2_with (go_at_call 21; refine (tableOk_t (HT.out.pure bel) Htok.out).mono ?_; rintro e w1 ⟨rfl, hb1⟩)
      go_loopw [17] (fun s17 wr => ∃ i : Nat, s17 = .int .i64 (i : Int) ∧ i ≤ cs.length ∧ (cs.take i).all (calCan ts) = true ∧ Below w.heap.size w wr) (fun s17 _ => cs.length - (intOf s17).toNat)
      case atStart => exact ⟨0, rfl, by omega, by simp, hb1⟩
      case round =>
        obtain ⟨i, rfl, hi, hall, hB⟩ := hrel
        have Hall := Lib.hid hall
        clear hall
        by_cases hlt : i < cs.length
        · obtain ⟨c, hc⟩ : ∃ c, cs[i]? = some c := ⟨_, List.getElem?_eq_getElem hlt⟩
          obtain ⟨b, o, rfl, hb, c0, c1, c2', c3, c4⟩ := (HC.out.pure hB).at i c hc
          obtain ⟨v, hv⟩ : ∃ v, calCan ts c = v := ⟨_, rfl⟩
          have Hv := Lib.hid hv
          have Hc := Lib.hid hc
          have hi0 : (0 : Int) ≤ (i : Int) := by omega
          have hiu : (i : Int) < (cs.length : Int) := by omega
          have hzB := hB.size
          obtain ⟨k0, k1, k2, k3, k4⟩ := c
          dsimp only at c0 c1 c2' c3 c4
          clear hv hc
          cases v
          · go_wp2_with (go_at_call 31; refine (callPossible_t (c := ⟨_, _, _, _, _⟩) (HT.out.pure bel) Hv.out).mono ?_; rintro e w2 ⟨rfl, hb2⟩)
            go_ret
            exact ⟨ret_bool (by simp only [runCan, all_bad Hc.out Hv.out, Bool.and_false]), bel⟩
          · go_wp2_with (go_at_call 31; refine (callPossible_t (c := ⟨_, _, _, _, _⟩) (HT.out.pure bel) Hv.out).mono ?_; rintro e w2 ⟨rfl, hb2⟩)
            exact ⟨⟨i + 1, by go_num, by omega, all_take Hall.out Hc.out Hv.out, bel⟩, by simp [intOf]; omega⟩
        · have hil : i = cs.length := by omega
          have Hil := Lib.hid hil
          clear hil
          go_wp2
          go_ret
          have h := Hall.out
          rw [Hil.out, List.take_length] at h
          exact ⟨ret_bool (by simp only [runCan, Htok.out, h, decide_eq_true h40, Bool.and_self]), hB⟩
    · have h40' : (40 : Int) < (cs.length : Int) := by omega
      go_enter Tryz.func40, Tryz.ntmps40
      go_wp2_with (go_at_call 21; refine (tableOk_t (HT.out.pure bel) Htok.out).mono ?_; rintro e w1 ⟨rfl, hb1⟩)
      go_ret
      exact ⟨ret_bool (by simp [runCan, h40]), hb1⟩

theorem labelOk_t {l : Lab} {w : World} {v : Bool} (h : labOk l = v) : Calls Tryz.prog 85 #[l.val] w fun e w' => e = .returned (.bool v) ∧ Below w.heap.size w w' := by
  rw [← h]; exact labelOk_c l w
theorem scriptOk_t {p : Option Addr} {cap : Nat} {ts : List Thg} {q : Option Addr} {c2 : Nat} {cs : List Cal} {w : World} {v : Bool} (hT : TabAt w (.slice p ts.length cap) ts) (hC : CalsAt w (.slice q cs.length c2) cs) (h : runCan ts cs = v) :
    Calls Tryz.prog 40 #[.slice p ts.length cap, .slice q cs.length c2] w fun e w' => e = .returned (.bool v) ∧ Below w.heap.size w w' := by
  rw [← h]; exact scriptOk_c p cap ts q c2 cs w hT hC

theorem info_cal : (Tryz.prog.info? 40).map (fun i => (i.zero, i.size, i.bytes)) = some (some (.agg #[.int .i64 0, .int .i64 0, .int .i64 0, .int .i64 0, .int .i64 0]), 5, 40) := by kernel_rfl

theorem filter_take {α : Type} {f : α → Bool} {l : List α} {i : Nat} {x : α} (hx : l[i]? = some x) : (l.take (i + 1)).filter f = (l.take i).filter f ++ (if f x then [x] else []) := by
  rw [take_one hx, List.filter_append]
  cases h : f x <;> simp [List.filter_cons, h]
theorem filter_le' {α : Type} (f : α → Bool) (l : List α) (i : Nat) : ((l.take i).filter f).length ≤ i := Nat.le_trans (List.length_filter_le _ _) (List.length_take_le _ _)

def quietOne (ts : List Thg) (l : Lab) (c : Cal) : Bool := c.kind != 9 || flow (getT ts c.run).lab l

end Go.Proofs.YtkbflnbjmpcjlaaGreatDoor
