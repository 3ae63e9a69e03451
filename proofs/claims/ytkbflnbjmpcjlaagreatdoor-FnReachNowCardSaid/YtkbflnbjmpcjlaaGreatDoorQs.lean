/- The reference's scripts of calls: whether they are such, the low ones, and whether they are quiet. Conditions: the table and the calls lie where their cells say. -/
import Derived.Test.YtkbflnbjmpcjlaaGreatDoorBl
import Derived.Test.YtkbflnbjmpcjlaaGreatDoorQa
import Derived.Test.YtkbflnbjmpcjlaaGreatDoorMa
import Derived.Test.YtkbflnbjmpcjlaaGreatDoorY
import Derived.Test.YtkbflnbjmpcjlaaGreatDoorSe
import Derived.Maps.AppendAt
set_option linter.unusedVariables false
set_option linter.unusedSimpArgs false
namespace Go.Proofs.YtkbflnbjmpcjlaaGreatDoor
open Go.RowKit Drw
attribute [local go_sem] Lab.val Rgt.val Cal.val Thg.val

theorem stableOk_t {p : Option Addr} {cap : Nat} {ts : List Thg} {w : World} {v : Bool} (hT : TabAt w (.slice p ts.length cap) ts) (h : tabOk ts = v) :
    Calls Tryz.prog 10 #[.slice p ts.length cap] w fun e w' => e = .returned (.bool v) ∧ Below w.heap.size w w' := by
  rw [← h]; exact stableOk_c p cap ts w hT
theorem scallOk_t {c : Cal} {w : World} {v : Bool} (h : calOk c = v) : Calls Tryz.prog 74 #[c.val] w fun e w' => e = .returned (.bool v) ∧ Below w.heap.size w w' := by
  rw [← h]; exact scallOk_c c w
theorem l11Run_t {p : Option Addr} {cap : Nat} {ts : List Thg} {i : Int} {w : World} {v : Bool} (hT : TabAt w (.slice p ts.length cap) ts) (h : kindAt ts i 3 = v) :
    Calls Tryz.prog 75 #[.slice p ts.length cap, .int .i64 i] w fun e w' => e = .returned (.bool v) ∧ w = w' := by
  rw [← h]; exact l11Run_c p cap ts i w hT
def cal1 (ts : List Thg) (c : Cal) : Bool := calOk c && kindAt ts c.run 3
def l21 (ts : List Thg) (cs : List Cal) : Bool := cs.all (cal1 ts) && decide (cs.length ≤ 40)
theorem l21_run (ts : List Thg) (cs : List Cal) : runCan ts cs = (tabOk ts && l21 ts cs) := by
  unfold runCan l21
  cases h : tabOk ts
  · simp
  · have : cs.all (calCan ts) = cs.all (cal1 ts) := by
      congr 1
      funext c
      simp [calCan, cal1, h]
    rw [this]
    simp [Bool.and_comm]

set_option maxRecDepth 100000 in
set_option maxHeartbeats 4000000 in
theorem l21Calls_c (p : Option Addr) (cap : Nat) (ts : List Thg) (q : Option Addr) (c2 : Nat) (cs : List Cal) (w : World) (hT : TabAt w (.slice p ts.length cap) ts) (hC : CalsAt w (.slice q cs.length c2) cs) :
    Calls Tryz.prog 37 #[.slice p ts.length cap, .slice q cs.length c2] w fun e w' => e = .returned (.bool (l21 ts cs)) ∧ Below w.heap.size w w' := by
  obtain ⟨_, _, h1, hl1, hl2⟩ := hC.len
  cases h1
  unfold maxLen at hl2
  have HT := Lib.hid hT
  have HC := Lib.hid hC
  clear hT hC
  go_enter Tryz.func37, Tryz.ntmps37
  go_wp2
  go_loopw [5] (fun s5 wr => ∃ i : Nat, s5 = .int .i64 (i : Int) ∧ i ≤ cs.length ∧ (cs.take i).all (cal1 ts) = true ∧ Below w.heap.size w wr) (fun s5 _ => cs.length - (intOf s5).toNat)
  case atStart => exact ⟨0, rfl, by omega, by simp, Below.refl _ _⟩
  case round =>
    obtain ⟨i, rfl, hi, hall, hB⟩ := hrel
    have Hall := Lib.hid hall
    clear hall
    by_cases hlt : i < cs.length
    · obtain ⟨c, hc⟩ : ∃ c, cs[i]? = some c := ⟨_, List.getElem?_eq_getElem hlt⟩
      obtain ⟨b, o, rfl, hb, c0, c1, c2', c3, c4⟩ := (HC.out.pure hB).at i c hc
      obtain ⟨v, hv⟩ : ∃ v, calOk c = v := ⟨_, rfl⟩
      obtain ⟨u, hu⟩ : ∃ u, kindAt ts c.run 3 = u := ⟨_, rfl⟩
      have Hv := Lib.hid hv
      have Hu := Lib.hid hu
      have Hc := Lib.hid hc
      have hi0 : (0 : Int) ≤ (i : Int) := by omega
      have hiu : (i : Int) < (cs.length : Int) := by omega
      have hzB := hB.size
      obtain ⟨k0, k1, k2, k3, k4⟩ := c
      dsimp only at c0 c1 c2' c3 c4
      clear hv hc hu
      cases v
      · go_wp2_with (go_at_call 74; refine (scallOk_t (c := ⟨_, _, _, _, _⟩) Hv.out).mono ?_; rintro e w2 ⟨rfl, hb2⟩)
        go_ret
        exact ⟨ret_bool (by simp only [l21, all_bad Hc.out (show cal1 ts _ = false by simp [cal1, Hv.out]), Bool.false_and]), bel⟩
      · cases u
        · go_wp2_with (first
            | (go_at_call 74; refine (scallOk_t (c := ⟨_, _, _, _, _⟩) Hv.out).mono ?_; rintro e w2 ⟨rfl, hb2⟩; obtain ⟨hc2, hf2⟩ := bcell hb2)
            | (go_at_call 75; refine (l11Run_t (HT.out.pure bel) Hu.out).mono ?_; rintro e w3 ⟨rfl, rfl⟩))
          go_ret
          exact ⟨ret_bool (by simp only [l21, all_bad Hc.out (show cal1 ts _ = false by simp [cal1, Hu.out]), Bool.false_and]), bel⟩
        · go_wp2_with (first
            | (go_at_call 74; refine (scallOk_t (c := ⟨_, _, _, _, _⟩) Hv.out).mono ?_; rintro e w2 ⟨rfl, hb2⟩; obtain ⟨hc2, hf2⟩ := bcell hb2)
            | (go_at_call 75; refine (l11Run_t (HT.out.pure bel) Hu.out).mono ?_; rintro e w3 ⟨rfl, rfl⟩))
          exact ⟨⟨i + 1, by go_num, by omega, all_take Hall.out Hc.out (by simp [cal1, Hv.out, Hu.out]), bel⟩, by simp [intOf]; omega⟩
    · have hil : i = cs.length := by omega
      have Hil := Lib.hid hil
      clear hil
      go_wp2
      go_ret
      have h := Hall.out
      rw [Hil.out, List.take_length] at h
      refine ⟨ret_bool ?_, hB⟩
      simp only [l21, h, Bool.true_and]
      simp <;> omega
theorem l21Calls_t {p : Option Addr} {cap : Nat} {ts : List Thg} {q : Option Addr} {c2 : Nat} {cs : List Cal} {w : World} {v : Bool} (hT : TabAt w (.slice p ts.length cap) ts) (hC : CalsAt w (.slice q cs.length c2) cs) (h : l21 ts cs = v) :
    Calls Tryz.prog 37 #[.slice p ts.length cap, .slice q cs.length c2] w fun e w' => e = .returned (.bool v) ∧ Below w.heap.size w w' := by
  rw [← h]; exact l21Calls_c p cap ts q c2 cs w hT hC

end Go.Proofs.YtkbflnbjmpcjlaaGreatDoor

/- The reference's doing of calls, one behind the other. Conditions: the table and the calls lie where their cells say. -/
namespace Go.Proofs.YtkbflnbjmpcjlaaGreatDoor
open Go.RowKit Drw
attribute [local go_sem] Lab.val Rgt.val Cal.val Thg.val

theorem own_keepS {w w' : World} {S : Nat → Prop} {B e s n : Nat} {v : Value} {xs : List Value} (h : w.ownsRow B e s v n xs) (hg : Chg S w w') (hS : ∀ b, v.ownBlock = some b → ¬ S b) : w'.ownsRow B e s v n xs := by
  rcases h with ⟨hl, h | ⟨g, cap, cur, rfl, hb, hh, hc, hm, hs, ht⟩⟩
  · exact ⟨hl, .inl h⟩
  · refine ⟨hl, .inr ⟨g, cap, cur, rfl, hb, ?_, hc, hm, hs, ht⟩⟩
    rw [hg.block g (Array.getElem?_eq_some_iff.1 hh).1 (hS g rfl)]
    exact hh

theorem run_at {ts : List Thg} {cs : List Cal} (ht : tabOk ts = true) (hc : AllCan ts cs) {i : Nat} {c : Cal} (hi : cs[i]? = some c) : tabOk (runDo ts (cs.take i)).1 = true ∧ (runDo ts (cs.take i)).1.length = ts.length ∧ CanB (runDo ts (cs.take i)).1 c ∧ runDo ts (cs.take (i + 1)) = ((do2 (runDo ts (cs.take i)).1 c).1, (runDo ts (cs.take i)).2 ++ [(do2 (runDo ts (cs.take i)).1 c).2]) := by
  have h1 : AllCan ts (cs.take i) := fun d hd => hc d (List.mem_of_mem_take hd)
  obtain ⟨h2, h3, -⟩ := runDo_fine (cs.take i) ht h1
  refine ⟨h2, h3.len, ?_, by rw [take_one hi, runDo_snoc]⟩
  have h4 : AllCan ts [c] := fun d hd => by
    rw [List.mem_singleton] at hd
    subst hd
    exact hc d (List.mem_of_getElem? hi)
  exact (h4.after h3 h2) c (by simp)

/-- The table of a run, and its answers, in memory: no part of the one is one of the other. -/
def RunI (B : Nat) (v : Value) (ts : List Thg) (s8 : Value) (zs : List Int) (w : World) : Prop :=
  ∃ xs tag, OwnTab w (fun b => B ≤ b ∧ s8.ownBlock ≠ some b) tag v xs ∧ xs.map (·.1) = ts ∧ w.ownsRow B 3 1 s8 zs.length ((zs.map intCells).flatten)

theorem RunI.chg {B : Nat} {v : Value} {ts : List Thg} {s8 : Value} {zs : List Int} {w w' : World} (h : RunI B v ts s8 zs w) (hb : Below w.heap.size w w') : RunI B v ts s8 zs w' := by
  obtain ⟨xs, tag, hO, hx, ho⟩ := h
  exact ⟨xs, tag, hO.pure hb, hx, own_below ho hb⟩

/-- One call more. -/
theorem RunI.act {B : Nat} {v : Value} {us : List Thg} {s8 : Value} {zs : List Int} {w w' : World} (hown : w.ownsRow B 3 1 s8 zs.length ((zs.map intCells).flatten)) (h : ActPost w w' (fun b => B ≤ b ∧ s8.ownBlock ≠ some b) v us) (hB : B ≤ w.heap.size) : RunI B v us s8 zs w' ∧ Below B w w' := by
  obtain ⟨xs, tag, hO, hx, hg⟩ := h
  exact ⟨⟨xs, tag, hO, hx, own_keepS hown hg (fun b hb h => h.2 hb)⟩, hg.below hB (fun k hk h => by have := h.1; omega)⟩

/-- One answer more. -/
theorem RunI.put {B : Nat} {v : Value} {ts : List Thg} {s8 v' : Value} {zs : List Int} {a : Int} {w w' : World} (h : RunI B v ts s8 zs w) (hown : w'.ownsRow B 3 1 v' (zs.length + 1) ((zs.map intCells).flatten ++ [.int .i64 a])) (hg : w.grownBy w' s8.ownBlock) (hv : v'.ownBlock = s8.ownBlock ∨ v'.ownBlock = some w.heap.size) :
    RunI B v ts v' (zs ++ [a]) w' := by
  obtain ⟨xs, tag, hO, hx, -⟩ := h
  refine ⟨xs, tag, ?_, hx, by simpa [intCells] using hown⟩
  have h1 : OwnTab w (fun b => (B ≤ b ∧ s8.ownBlock ≠ some b) ∧ b < w.heap.size) tag v xs := hO.imp fun b hb hl => ⟨⟨hb, hl⟩, rfl⟩
  have h2 := h1.chg (Chg.of_grown hg) (fun b hb _ h => hb.1.2 h.symm)
  refine h2.imp fun b hb _ => ⟨⟨hb.1.1, fun e => ?_⟩, rfl⟩
  rcases hv with h | h
  · exact hb.1.2 (h ▸ e)
  · rw [h] at e
    have := Option.some.inj e
    omega

set_option maxRecDepth 100000 in
set_option maxHeartbeats 4000000 in
theorem srunAll_c (p : Option Addr) (cap : Nat) (ts : List Thg) (q : Option Addr) (c2 : Nat) (cs : List Cal) (w : World) (hT : TabAt w (.slice p ts.length cap) ts) (hC : CalsAt w (.slice q cs.length c2) cs) :
    Calls Tryz.prog 14 #[.slice p ts.length cap, .slice q cs.length c2] w fun e w' => ∃ p' k p2 k2, e = .returned (.tuple #[.slice p' (runAll ts cs).1.length k, .slice p2 (runAll ts cs).2.1.length k2, .bool (runAll ts cs).2.2]) ∧ TabAt w' (.slice p' (runAll ts cs).1.length k) (runAll ts cs).1 ∧ IntsAt w' (.slice p2 (runAll ts cs).2.1.length k2) (runAll ts cs).2.1 ∧ Below w.heap.size w w' := by
  obtain ⟨_, _, h1, hl1, hl2⟩ := hC.len
  cases h1
  unfold maxLen at hl2
  obtain ⟨tok, htok⟩ : ∃ b, tabOk ts = b := ⟨_, rfl⟩
  obtain ⟨cok, hcok⟩ : ∃ b, l21 ts cs = b := ⟨_, rfl⟩
  have Htok := Lib.hid htok
  have Hcok := Lib.hid hcok
  have Hrun := Lib.hid (show runCan ts cs = (tok && cok) by rw [l21_run, htok, hcok])
  have HT := Lib.hid hT
  have HC := Lib.hid hC
  clear hT hC htok hcok
  by_cases hall : tok = true ∧ cok = true
  · obtain ⟨rfl, rfl⟩ := hall
    have hcan := runCan_iff.1 Hrun.out
    have hr : runAll ts cs = ((runDo ts cs).1, (runDo ts cs).2, true) := by unfold runAll; rw [if_pos (show runCan ts cs = true from Hrun.out)]
    have h40 : cs.length ≤ 40 := hcan.2.1
    have Hcan := Lib.hid hcan.2.2
    have hfin := runDo_fine cs hcan.1 hcan.2.2
    have hts := (tab_iff.1 hcan.1).1
    have ht8 : ts.length ≤ 65536 := by omega
    have HSh := Lib.hid (short_of_tab hcan.1)
    have Hfin := Lib.hid hfin
    have Hts := Lib.hid hts
    rw [hr]
    dsimp only
    obtain ⟨i0, hi0, hz0, hz1, hz2⟩ := info_parts info_int
    clear hcan hr hfin hts
    go_enter Tryz.func14, Tryz.ntmps14
    go_upto_region 4 with (first
      | (go_at_call 10; refine (stableOk_t (HT.out.pure bel) Htok.out).mono ?_; rintro e w1 ⟨rfl, hb1⟩; have hz1' := hb1.size)
      | (go_at_call 37; refine (l21Calls_t (HT.out.pure hb1) (HC.out.pure hb1) Hcok.out).mono ?_; rintro e w2 ⟨rfl, hb2⟩; have hz2' := hb2.size)
      | (go_at_call 38; refine (l3Copy_c p cap ts _ ((HT.out.pure hb1).pure hb2) ht8 HSh.out).mono ?_; rintro e w3 ⟨v, xs, tag, rfl, hO, hxs, hb3⟩))
    have hb12 : Below w.heap.size w w2 := hb1.trans (hb2.mono hz1')
    have hB3 : Below w.heap.size w w3 := hb12.trans (hb3.mono hb12.size)
    have hO' := hO.imp (Q := fun b => w.heap.size ≤ b ∧ b < w3.heap.size) (tag' := tag) (fun b hb hl => ⟨⟨Nat.le_trans hb12.size hb, hl⟩, rfl⟩)
    have hxl : xs.length = ts.length := by rw [← hxs]; simp
    obtain ⟨T, o, cp, rfl⟩ := own_some hO' hxs (by have := Hts.out; omega)
    have HO := Lib.hid hO'
    have Hxs := Lib.hid hxs
    have HB3 := Lib.hid hB3
    have hzw3 : w.heap.size ≤ w3.heap.size := hB3.size
    clear hb1 hb2 hb3 hz1' hz2' hO hO' hxs hb12 hB3 hxl
    go_wp2
    go_loopw [7, 8, 9] (fun s7 s8 s9 wr => ∃ i : Nat, s7 = .slice (some ⟨T, o, none⟩) ts.length cp ∧ s9 = .int .i64 (i : Int) ∧ i ≤ cs.length ∧ RunI w.heap.size (.slice (some ⟨T, o, none⟩) ts.length cp) (runDo ts (cs.take i)).1 s8 (runDo ts (cs.take i)).2 wr ∧ (runDo ts (cs.take i)).2.length = i ∧ Below w.heap.size w wr) (fun _ _ s9 _ => cs.length - (intOf s9).toNat)
    case atStart =>
      refine ⟨0, rfl, rfl, by omega, ?_, rfl, HB3.out.trans (Below.mono (show Below w3.heap.size w3 _ from bel) hzw3)⟩
      refine ⟨xs, tag, ?_, Hxs.out, own_lit w3.heap.size rfl hzw3⟩
      refine (HO.out.pure (show Below w3.heap.size w3 _ from bel)).imp fun b hb _ => ⟨⟨hb.1, fun e => ?_⟩, rfl⟩
      simp [Value.ownBlock] at e
      omega
    case round =>
      obtain ⟨i, rfl, rfl, hi, hR, hlen, hB⟩ := hrel
      have hzB := hB.size
      obtain ⟨us, hus⟩ : ∃ us, (runDo ts (cs.take i)).1 = us := ⟨_, rfl⟩
      obtain ⟨zs, hzs⟩ : ∃ zs, (runDo ts (cs.take i)).2 = zs := ⟨_, rfl⟩
      rw [hus, hzs] at hR
      rw [hzs] at hlen
      have Hus := Lib.hid hus
      have Hzs := Lib.hid hzs
      have Hlen := Lib.hid hlen
      have HR := Lib.hid hR
      have HB := Lib.hid hB
      clear hus hzs hlen hR
      obtain ⟨xs1, tag1, hO1, hx1, ho1⟩ := HR.out
      obtain ⟨q8, c8, rfl⟩ := own_slice_n ho1
      by_cases hlt : i < cs.length
      · obtain ⟨c, hc⟩ : ∃ c, cs[i]? = some c := ⟨_, List.getElem?_eq_getElem hlt⟩
        obtain ⟨b, o', rfl, hb, c0, c1, c2', c3, c4⟩ := (HC.out.pure hB).at i c hc
        obtain ⟨hr1, hr2, hr3, hr4⟩ := run_at (runCan_iff.1 Hrun.out).1 Hcan.out hc
        rw [Hus.out] at hr1 hr2 hr3 hr4
        rw [Hzs.out] at hr4
        have hup : ∀ b, wr.heap.size ≤ b → w.heap.size ≤ b ∧ (Value.slice q8 zs.length c8).ownBlock ≠ some b := fun b h => ⟨by omega, fun e => by have := (ho1.lt b e).2; omega⟩
        have hD := l12Do_c (c := c) hO1 hup ht8 (by rw [hx1]; exact hr3)
        rw [hx1] at hD
        obtain ⟨us', a', hd2⟩ : ∃ us' a', do2 us c = (us', a') := ⟨_, _, rfl⟩
        rw [hd2] at hD hr4
        dsimp only at hD hr4
        have HD := Lib.hid hD
        have Hr4 := Lib.hid hr4
        have Ho1 := Lib.hid ho1
        have hj0 : (0 : Int) ≤ (i : Int) := by omega
        have hju : (i : Int) < (cs.length : Int) := by omega
        have hzl : zs.length ≤ 40 := by rw [Hlen.out]; omega
        obtain ⟨k0, k1, k2, k3, k4⟩ := c
        dsimp only at c0 c1 c2' c3 c4
        clear hc hr1 hr2 hr3 hr4 hD hd2 hup hO1 hx1 ho1
        go_upto_region 10 with (go_at_call 39; refine HD.out.mono ?_; rintro e w4 ⟨rfl, hA⟩)
        obtain ⟨hR4, hB4⟩ := RunI.act Ho1.out hA hzB
        have hz4 : wr.heap.size ≤ w4.heap.size := by obtain ⟨_, _, _, _, h⟩ := hA; exact h.size
        have hown4 : w4.ownsRow w.heap.size 3 1 (.slice q8 zs.length c8) zs.length ((zs.map intCells).flatten) := by obtain ⟨_, _, _, _, h⟩ := hR4; exact h
        have HR4 := Lib.hid hR4
        have Hown4 := Lib.hid hown4
        have HB4 := Lib.hid hB4
        have hzw4 : w.heap.size ≤ w4.heap.size := by omega
        clear hA hR4 hown4 hB4 c0 c1 c2' c3 c4
        go_wp2_with (first | (at_builtin; refine wpList_append_own_at _ rfl (.tmp 42) (.tmp 44) 34 rfl w.heap.size 3 i0 _ 1 8 Tryz.underlying34 hi0 hz0 hz1 hz2 rfl (by decide) (.slice q8 zs.length c8) zs.length ((zs.map intCells).flatten) rfl (own_below Hown4.out bel) ⟨w4.heap.size, 0, none⟩ 1 1 [.int .i64 a'] rfl rfl (cell_one_new _ _ _) (by intro u hu; rw [List.mem_singleton] at hu; subst hu; rfl) (by unfold maxLen; omega) (by omega) (by simp; omega) ?_; intro v5 w5 ho5 hg5 _ hat5))
        have hR5 := RunI.put (HR4.out.chg (show Below w4.heap.size w4 _ from bel)) ho5 hg5 hat5
        have hB5 : Below w.heap.size w w5 := Below.grown ((HB.out.trans (HB4.out.mono (Nat.le_refl _))).alloc hzw4 _) hg5 (by simp <;> omega) (fun k hk => (Hown4.out.lt k hk).1)
        have fin : RunI w.heap.size (.slice (some ⟨T, o, none⟩) ts.length cp) (runDo ts (cs.take (i + 1))).1 v5 (runDo ts (cs.take (i + 1))).2 w5 ∧ (runDo ts (cs.take (i + 1))).2.length = i + 1 := by
          rw [Hr4.out]
          exact ⟨hR5, by simp [Hlen.out]⟩
        have Fin := Lib.hid fin
        clear fin hR5 ho5 hg5 hat5
        go_wp2
        exact ⟨⟨i + 1, rfl, by go_num, by omega, Fin.out.1, Fin.out.2, hB5⟩, by simp [intOf]; omega⟩
      · have hil : i = cs.length := by omega
        have h1 := Hus.out
        have h2 := Hzs.out
        rw [hil, List.take_length] at h1 h2
        have hA := hO1.at'
        rw [hx1] at hA
        have hul : us.length = ts.length := by rw [← h1]; exact Hfin.out.2.1.len
        have hI : IntsAt wr (.slice q8 zs.length c8) zs := Rows.of_own (flat_ints zs) (by rw [List.length_map]; exact ho1)
        have Fin := Lib.hid (show ∃ p' k p2 k2, Ending.returned (.tuple #[.slice (some ⟨T, o, none⟩) ts.length cp, .slice q8 zs.length c8, .bool true]) = Ending.returned (.tuple #[.slice p' (runDo ts cs).1.length k, .slice p2 (runDo ts cs).2.length k2, .bool true]) ∧ TabAt wr (.slice p' (runDo ts cs).1.length k) (runDo ts cs).1 ∧ IntsAt wr (.slice p2 (runDo ts cs).2.length k2) (runDo ts cs).2 ∧ Below w.heap.size w wr from by
          rw [h1, h2, hul]
          exact ⟨_, _, _, _, rfl, hA, hI, HB.out⟩)
        clear h1 h2 hA hul ho1 hO1 hx1 hil hI
        go_wp2
        go_ret3
        exact Fin.out
  · have hr : runAll ts cs = ([], [], false) := by
      unfold runAll
      rw [Hrun.out]
      cases tok <;> cases cok <;> simp at hall ⊢
    rw [hr]
    clear hr
    dsimp only
    cases tok
    · go_enter Tryz.func14, Tryz.ntmps14
      go_wp2_with (first
      | (go_at_call 10; refine (stableOk_t (HT.out.pure bel) Htok.out).mono ?_; rintro e w1 ⟨rfl, hb1⟩; have hz1' := hb1.size)
      | (go_at_call 37; refine (l21Calls_t (HT.out.pure bel) (HC.out.pure bel) Hcok.out).mono ?_; rintro e w2 ⟨rfl, hb2⟩; have hz2' := hb2.size))
      go_ret3
      exact ⟨_, _, _, _, rfl, ⟨[], rfl, ⟨_, 0, rfl, by simp, by simp, .inl rfl⟩, fun x hx => by cases hx⟩, ⟨_, 0, rfl, by simp, by simp, .inl rfl⟩, bel⟩
    · have hl : cok = false := by
        cases cok
        · rfl
        · exact absurd ⟨rfl, rfl⟩ hall
      subst hl
      go_enter Tryz.func14, Tryz.ntmps14
      go_wp2_with (first
      | (go_at_call 10; refine (stableOk_t (HT.out.pure bel) Htok.out).mono ?_; rintro e w1 ⟨rfl, hb1⟩; have hz1' := hb1.size)
      | (go_at_call 37; refine (l21Calls_t (HT.out.pure bel) (HC.out.pure bel) Hcok.out).mono ?_; rintro e w2 ⟨rfl, hb2⟩; have hz2' := hb2.size))
      go_ret3
      exact ⟨_, _, _, _, rfl, ⟨[], rfl, ⟨_, 0, rfl, by simp, by simp, .inl rfl⟩, fun x hx => by cases hx⟩, ⟨_, 0, rfl, by simp, by simp, .inl rfl⟩, bel⟩
end Go.Proofs.YtkbflnbjmpcjlaaGreatDoor
