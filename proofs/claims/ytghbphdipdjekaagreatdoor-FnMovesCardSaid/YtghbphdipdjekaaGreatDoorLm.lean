/- The law that what a call changes is told, walked. Conditions: the bytes lie where their cells say; errors.errorType is laid. -/
import Derived.Test.YtghbphdipdjekaaGreatDoorCm
import Derived.Test.YtghbphdipdjekaaGreatDoorLt
import Derived.Test.YtghbphdipdjekaaGreatDoorKa
import Derived.Test.YtghbphdipdjekaaGreatDoorCards
import Derived.Test.YtghbphdipdjekaaGreatDoorTie
import Derived.SevenTiedAt
import Derived.Deep.Frames
import Derived.Test.YtghbphdipdjekaaGreatDoorDk
set_option linter.unusedVariables false
set_option linter.unusedSimpArgs false
/- The draw of a table and a call for CallMoves. Conditions: the bytes lie where their cells say. -/
namespace Go.Proofs.YtghbphdipdjekaaGreatDoor
open Go.RowKit Drw
attribute [local go_sem] Lab.val Rgt.val Cal.val Thg.val
attribute [local go_sem] Lab.val Rgt.val Cal.val Thg.val
set_option maxRecDepth 100000 in
set_option maxHeartbeats 4000000 in
theorem drawCallDo_s (p : Option Addr) (n cap : Nat) (w : World) (hc : n ≤ cap) (hb : ∀ i, i < n → ∃ b o, ∃ x : Nat, p = some ⟨b, o, none⟩ ∧ b < w.heap.size ∧ w.cell? ⟨b, o + i, none⟩ = some (.int .u8 (x : Int)) ∧ x < 256) (hn : n ≤ 2 ^ 40) :
    Calls Tryz.prog 77 #[.slice p n cap] w fun e w' => ∃ (q : Option Addr) (k : Nat) (ts : List Thg) (c : Cal), e = .returned (.tuple #[.slice q ts.length k, c.val]) ∧ (∀ (S : Nat → Prop) (wz : World), Chg S w' wz → (∀ b, w.heap.size ≤ b → ¬ S b) → TabAt wz (.slice q ts.length k) ts) ∧ 3 ≤ ts.length ∧ ts.length ≤ 8 ∧ Short ts ∧ Below w.heap.size w w' := by
  go_enter Tryz.func77, Tryz.ntmps77
  go_upto_region 1 with (fail)
  generalize hwa : World.alloc _ _ = wa
  have hB0 : Below w.heap.size w wa := by rw [← hwa]; exact (by (repeat (with_reducible first | exact Below.refl _ _ | refine Below.alloc ?_ ?_ _ | refine below_drewN ?_ _ | refine Below.drew ?_ | refine Below.setCell ?_ ?_ _ | refine Below.trans ?_ (Below.mono (by assumption) ?_))) <;> (first | omega | (simp; try omega)))
  have gc : wa.cell? ⟨w.heap.size, 0, none⟩ = some (.int .i64 0) ∧ wa.cell? ⟨w.heap.size, 1, none⟩ = some (.int .i64 0) ∧ wa.cell? ⟨w.heap.size, 2, none⟩ = some (.int .i64 0) ∧ wa.cell? ⟨w.heap.size, 3, none⟩ = some (.int .i64 0) ∧ wa.cell? ⟨w.heap.size, 4, none⟩ = some (.int .i64 0) := by rw [← hwa]; simp [go_sem]
  have gf : ∀ j, wa.frozen? ⟨w.heap.size, j, none⟩ = false := by intro j; rw [← hwa]; simp [go_sem]
  have gl : w.heap.size < wa.heap.size := by rw [← hwa]; simp
  have hb' : ∀ i, i < n → ∃ b o, ∃ x : Nat, p = some ⟨b, o, none⟩ ∧ b < wa.heap.size ∧ wa.cell? ⟨b, o + i, none⟩ = some (.int .u8 (x : Int)) ∧ x < 256 := by
    intro i hi
    obtain ⟨b, o, x, e1, e2, e3, e4⟩ := hb i hi
    exact ⟨b, o, x, e1, by omega, (hB0.cell (p := ⟨b, o + i, none⟩) e2).trans e3, e4⟩
  have Hb := Lib.hid hb'
  clear hwa hb hb'
  go_upto_region 2 with (go_at_call 52; refine (open_c p n cap _ hc Hb.out hn).mono ?_; rintro e w1 ⟨rfl, hr1, hb1⟩)
  have Hb1 := hb1
  obtain ⟨R, hRe⟩ : ∃ R, wa.heap.size = R := ⟨_, rfl⟩
  rw [hRe] at hr1 hb1 gl ⊢
  have hR1 := hr1.lt
  go_upto_region 3 with (go_at_call 53; refine (l71Fine_c R 0 _ hr1 (by omega)).mono ?_; rintro e w2 ⟨v, m, rfl, hm3, hm8, hT⟩)
  obtain ⟨ts, q, k, hl, rfl, hTab, hS, hg2, hr2⟩ := hT.tabS
  subst hl
  clear hT
  have HTab := Lib.hid hTab
  have HS := Lib.hid hS
  have hD1 : w.heap.size < w1.heap.size := by omega
  have hB2 : Below w.heap.size w w1 := hB0.trans (hb1.mono (by omega))
  have HB2 := Lib.hid hB2
  have hsz := hg2.size
  have hDR : ¬ w.heap.size = R := by omega
  have hr2 := hr2.mono (show 0 + 6000 ≤ 6000 by omega)
  obtain ⟨hch, hfh⟩ := bcell Hb1
  have hBc : ∀ (i : Nat) v, wa.cell? ⟨w.heap.size, i, none⟩ = some v → w1.cell? ⟨w.heap.size, i, none⟩ = some v := fun i v h => (hch _ _ (by omega)).trans h
  have g1 : w2.cell? ⟨w.heap.size, 0, none⟩ = some (.int .i64 0) ∧ w2.cell? ⟨w.heap.size, 1, none⟩ = some (.int .i64 0) ∧ w2.cell? ⟨w.heap.size, 2, none⟩ = some (.int .i64 0) ∧ w2.cell? ⟨w.heap.size, 3, none⟩ = some (.int .i64 0) ∧ w2.cell? ⟨w.heap.size, 4, none⟩ = some (.int .i64 0) :=
    ⟨hg2.cell (hBc _ _ gc.1) hDR, hg2.cell (hBc _ _ gc.2.1) hDR, hg2.cell (hBc _ _ gc.2.2.1) hDR, hg2.cell (hBc _ _ gc.2.2.2.1) hDR, hg2.cell (hBc _ _ gc.2.2.2.2) hDR⟩
  have gf1 : ∀ j, w2.frozen? ⟨w.heap.size, j, none⟩ = false := Chg_frozen hg2 hD1 hDR (fun j => (hfh _ _ (by omega)).trans (gf j))
  clear gc gf hch hfh hTab hS hBc Hb hc hn hB2 hB0 Hb1 hb1
  have hR2 : R < w2.heap.size := hr2.lt
  have hlen3 : 3 ≤ ts.length := by omega
  have hlen8 : ts.length ≤ 8 := by omega
  have hDR : ¬ w.heap.size = R := by omega
  have HT2 := Lib.hid (show ∀ wz : World, Chg (fun b => b = R) w2 wz → TabAt wz (.slice q ts.length k) ts from fun wz hg => HTab.out _ _ hg (fun b hb e => by subst e; omega))
  go_cut [6] (fun s6 wz => ∃ c B, s6 = .pointer (some ⟨B, 0, none⟩) ∧ R < B ∧ w2.heap.size ≤ B ∧ CallIn wz B c ∧ Chg (fun b => b = R) w2 wz ∧ Rd wz R 6060)
  case first =>
    go_wp2_with (go_at_call 92; refine (l71Call_c R _ q k ts _ hr2 (by omega) HT2.out (by omega) (by omega)).mono ?_; rintro e w3 ⟨⟨ck, cr, ca, cb, cn⟩, rfl, hg3, hr3⟩)
    go_meet
    have hs3 := hg3.size
    exact ⟨⟨ck, cr, ca, cb, cn⟩, w3.heap.size, rfl, hr3.lt, hs3, ⟨by simp [go_sem], fun j => by simp [go_sem]⟩, Chg.alloc hg3 _, Rd.pure (hr3.mono (by omega)) (by (repeat (with_reducible first | exact Below.refl _ _ | refine Below.alloc ?_ ?_ _ | refine below_drewN ?_ _ | refine Below.drew ?_ | refine Below.setCell ?_ ?_ _ | refine Below.trans ?_ (Below.mono (by assumption) ?_))) <;> (first | omega | (simp; try omega)))⟩
  case rest =>
    obtain ⟨c, B, rfl, hRB, hwB, hC, hch, hrd⟩ := hcut
    obtain ⟨wx, rfl⟩ : ∃ wx : World, wx = wc := ⟨_, rfl⟩
    go_wp2
    go_loopw [7] (fun s7 wr => ∃ a : Nat, s7 = .int .i64 (a : Int) ∧ a ≤ 4 ∧ ∃ c, CallIn wr B c ∧ Chg (fun b => b = R) w2 wr ∧ Rd wr R (6060 + 70 * a)) (fun s7 _ => 4 - (intOf s7).toNat)
    case atStart => exact ⟨0, rfl, by omega, c, hC, hch, hrd⟩
    case round =>
      clear hC hch hrd
      obtain ⟨a, rfl, ha, ⟨ck, cr, ca, cb, cn⟩, ⟨⟨q0, q1, q2, q3, q4⟩, hfz⟩, hch, hrd⟩ := hrel
      dsimp only at q0 q1 q2 q3 q4
      have hBR : ¬ B = R := by omega
      have hBs := World.block_lt_of_cell? _ _ q0
      obtain ⟨v, hv⟩ : ∃ v, check ts ⟨ck, cr, ca, cb, cn⟩ = v := ⟨_, rfl⟩
      have Hv := Lib.hid hv
      clear hv
      go_upto_region 5 with (fail)
      go_cut [27] (fun s27 wz => ∃ bb : Bool, s27 = .bool bb ∧ (bb = true → a < 4) ∧ Chg (fun b => b = R) wr wz ∧ Rd wz R (6060 + 70 * a + 1))
      case first =>
        by_cases hlt : a < 4
        · have hlt2 : (a : Int) < 4 := by omega
          go_wp2_with (first
            | (go_at_call 115; refine (scheckCall_c q k ts ⟨_, _, _, _, _⟩ _ (HT2.out _ (hch.trans hg3))).mono ?_; rw [Hv.out]; rintro e w4 ⟨rfl, hb4⟩)
            | (go_at_call 91; refine (pick_p R _ _ _ hrd (by omega) (by omega)).mono ?_; rintro e w3 ⟨k3, rfl, h3a, h3b, hr3, hg3⟩; have q0 := hg3.cell q0 hBR; have q1 := hg3.cell q1 hBR; have q2 := hg3.cell q2 hBR; have q3 := hg3.cell q3 hBR; have q4 := hg3.cell q4 hBR))
          all_goals go_meet
          all_goals (first | exact ⟨_, rfl, fun _ => hlt, hg3.trans (Chg.of_pure hb4), (hr3.pure hb4).mono (by omega)⟩ | exact ⟨_, rfl, fun _ => hlt, hg3, hr3.mono (by omega)⟩)
        · have ha4 : a = 4 := by omega
          subst ha4
          go_wp2
          go_meet
          exact ⟨false, rfl, fun h => (by cases h), Chg.refl _ _, hrd.mono (by omega)⟩
      case rest =>
        obtain ⟨bb, rfl, hbb, hg, hr⟩ := hcut
        obtain ⟨wx, rfl⟩ : ∃ wx : World, wx = wc := ⟨_, rfl⟩
        have q0 := hg.cell q0 hBR
        have q1 := hg.cell q1 hBR
        have q2 := hg.cell q2 hBR
        have q3 := hg.cell q3 hBR
        have q4 := hg.cell q4 hBR
        have hfz := Chg_frozen hg hBs hBR hfz
        have hchx := hch.trans hg
        have hBs := World.block_lt_of_cell? _ _ q0
        clear hch hrd hg
        cases bb
        · have d0 := hchx.cell g1.1 hDR
          have d1 := hchx.cell g1.2.1 hDR
          have d2 := hchx.cell g1.2.2.1 hDR
          have d3 := hchx.cell g1.2.2.2.1 hDR
          have d4 := hchx.cell g1.2.2.2.2 hDR
          have df := Chg_frozen hchx (show w.heap.size < w2.heap.size by omega) hDR gf1
          have hDs := World.block_lt_of_cell? _ _ d0
          have hDB : ¬ w.heap.size = B := by omega
          go_upto_region 8 with (fail)
          go_region
          go_wp2
          have hF := (((((((hg2.trans hchx).mono (T := fun b => b = R ∨ b = w.heap.size) (fun k _ h => Or.inl h)).setCell (p := ⟨w.heap.size, 0, none⟩) (Or.inr rfl) (.int .i64 ck)).setCell (p := ⟨w.heap.size, 1, none⟩) (Or.inr rfl) (.int .i64 cr)).setCell (p := ⟨w.heap.size, 2, none⟩) (Or.inr rfl) (.int .i64 ca)).setCell (p := ⟨w.heap.size, 3, none⟩) (Or.inr rfl) (.int .i64 cb)).setCell (p := ⟨w.heap.size, 4, none⟩) (Or.inr rfl) (.int .i64 cn)).drew
          have hE := ((((((hchx.mono (T := fun b => b = R ∨ b = w.heap.size) (fun k _ h => Or.inl h)).setCell (p := ⟨w.heap.size, 0, none⟩) (Or.inr rfl) (.int .i64 ck)).setCell (p := ⟨w.heap.size, 1, none⟩) (Or.inr rfl) (.int .i64 cr)).setCell (p := ⟨w.heap.size, 2, none⟩) (Or.inr rfl) (.int .i64 ca)).setCell (p := ⟨w.heap.size, 3, none⟩) (Or.inr rfl) (.int .i64 cb)).setCell (p := ⟨w.heap.size, 4, none⟩) (Or.inr rfl) (.int .i64 cn)).drew
          exact bodyPost_ret (v := .tuple #[.slice q ts.length k, (Cal.mk ck cr ca cb cn).val]) (by simp [results, Tryz.results77, go_sem, Cal.val, cell_set, *]) rfl ⟨q, k, ts, ⟨Cal.mk ck cr ca cb cn, rfl⟩, fun S wz hg hS => HTab.out (fun b => (b = R ∨ b = w.heap.size) ∨ S b) wz ((hE.mono (fun k _ h => Or.inl h)).trans (hg.mono (fun k _ h => Or.inr h))) (fun b hb h => by
            rcases h with h | h
            · omega
            · exact hS b (by omega) h), hlen3, hlen8, HS.out, HB2.out.trans (hF.below (by omega) (fun b hb e => by omega))⟩
        · have hlt := hbb rfl
          go_wp2_with (go_at_call 92; refine (l71Call_c R _ q k ts _ hr (by omega) (fun wz hg => HT2.out _ (hchx.trans hg)) (by omega) (by omega)).mono ?_; rintro e w3 ⟨⟨ek, er, ea, eb, en⟩, rfl, hg3, hr3⟩; have q0 := hg3.cell q0 hBR; have q1 := hg3.cell q1 hBR; have q2 := hg3.cell q2 hBR; have q3 := hg3.cell q3 hBR; have q4 := hg3.cell q4 hBR; have hfz := Chg_frozen hg3 hBs hBR hfz; have hBs := World.block_lt_of_cell? _ _ q0)
          have hB5 : w2.heap.size ≤ B := hwB
          refine ⟨⟨a + 1, by go_num, by omega, ⟨ek, er, ea, eb, en⟩, ⟨by simp [cell_set, *], fun j => by simp [hfz]⟩, Chg.setNew (Chg.setNew (Chg.setNew (Chg.setNew (Chg.setNew (hchx.trans hg3) hB5 _) hB5 _) hB5 _) hB5 _) hB5 _, Rd.setNew (Rd.setNew (Rd.setNew (Rd.setNew (Rd.setNew (hr3.mono (by omega)) hRB _) hRB _) hRB _) hRB _) hRB _⟩, by simp [intOf]; omega⟩

set_option maxRecDepth 100000 in
set_option maxHeartbeats 4000000 in
theorem drawMoves_c (p : Option Addr) (n cap : Nat) (w : World) (hc : n ≤ cap) (hb : ∀ i, i < n → ∃ b o, ∃ x : Nat, p = some ⟨b, o, none⟩ ∧ b < w.heap.size ∧ w.cell? ⟨b, o + i, none⟩ = some (.int .u8 (x : Int)) ∧ x < 256) (hn : n ≤ 2 ^ 40) :
    Calls Tryz.prog 31 #[.slice p n cap] w fun e w' => ∃ (q : Option Addr) (k : Nat) (ts : List Thg) (c : Cal), e = .returned (.tuple #[.slice q ts.length k, c.val]) ∧ TabAt w' (.slice q ts.length k) ts ∧ 3 ≤ ts.length ∧ ts.length ≤ 8 ∧ Below w.heap.size w w' := by
  go_enter Tryz.func31, Tryz.ntmps31
  go_upto_region 1 with (fail)
  generalize hwa : World.alloc _ _ = wa
  have hB0 : Below w.heap.size w wa := by rw [← hwa]; exact (by (repeat (with_reducible first | exact Below.refl _ _ | refine Below.alloc ?_ ?_ _ | refine below_drewN ?_ _ | refine Below.drew ?_ | refine Below.setCell ?_ ?_ _ | refine Below.trans ?_ (Below.mono (by assumption) ?_))) <;> (first | omega | (simp; try omega)))
  have gc : wa.cell? ⟨w.heap.size, 0, none⟩ = some (.int .i64 0) ∧ wa.cell? ⟨w.heap.size, 1, none⟩ = some (.int .i64 0) ∧ wa.cell? ⟨w.heap.size, 2, none⟩ = some (.int .i64 0) ∧ wa.cell? ⟨w.heap.size, 3, none⟩ = some (.int .i64 0) ∧ wa.cell? ⟨w.heap.size, 4, none⟩ = some (.int .i64 0) := by rw [← hwa]; simp [go_sem]
  have gf : ∀ j, wa.frozen? ⟨w.heap.size, j, none⟩ = false := by intro j; rw [← hwa]; simp [go_sem]
  have gl : w.heap.size < wa.heap.size := by rw [← hwa]; simp
  have hb' : ∀ i, i < n → ∃ b o, ∃ x : Nat, p = some ⟨b, o, none⟩ ∧ b < wa.heap.size ∧ wa.cell? ⟨b, o + i, none⟩ = some (.int .u8 (x : Int)) ∧ x < 256 := by
    intro i hi
    obtain ⟨b, o, x, e1, e2, e3, e4⟩ := hb i hi
    exact ⟨b, o, x, e1, by omega, (hB0.cell (p := ⟨b, o + i, none⟩) e2).trans e3, e4⟩
  have Hb := Lib.hid hb'
  have HB0 := Lib.hid hB0
  clear hwa hb hb' hB0
  obtain ⟨g0, g1, g2, g3, g4⟩ := gc
  go_wp2_with (go_at_call 77; refine (drawCallDo_s p n cap _ hc Hb.out hn).mono ?_; rintro e w2 ⟨q, k, ts, ⟨ck, cr, ca, cb, cn⟩, rfl, hT, hm3, hm8, -, hb2⟩; have HTC := Lib.hid hT; clear hT; have g0 := ((bcell hb2).1 _ _ gl).trans g0; have g1 := ((bcell hb2).1 _ _ gl).trans g1; have g2 := ((bcell hb2).1 _ _ gl).trans g2; have g3 := ((bcell hb2).1 _ _ gl).trans g3; have g4 := ((bcell hb2).1 _ _ gl).trans g4; have gf := (fun j => ((bcell hb2).2 _ _ gl).trans (gf j)))
  have hF : Chg (fun b => b = w.heap.size) w2 (((((w2.setCell ⟨w.heap.size, 0, none⟩ (.int .i64 ck)).setCell ⟨w.heap.size, 1, none⟩ (.int .i64 cr)).setCell ⟨w.heap.size, 2, none⟩ (.int .i64 ca)).setCell ⟨w.heap.size, 3, none⟩ (.int .i64 cb)).setCell ⟨w.heap.size, 4, none⟩ (.int .i64 cn)) := (((((Chg.refl _ w2).setCell (S := fun b => b = w.heap.size) (p := ⟨w.heap.size, 0, none⟩) rfl (.int .i64 ck)).setCell (p := ⟨w.heap.size, 1, none⟩) rfl (.int .i64 cr)).setCell (p := ⟨w.heap.size, 2, none⟩) rfl (.int .i64 ca)).setCell (p := ⟨w.heap.size, 3, none⟩) rfl (.int .i64 cb)).setCell (p := ⟨w.heap.size, 4, none⟩) rfl (.int .i64 cn)
  have hB4 := HB0.out.trans ((hb2.mono HB0.out.size).trans (hF.below (by have := hb2.size; omega) (fun j hj e => by omega)))
  have hTC := HTC.out (fun b => b = w.heap.size) _ hF (fun b hb e => by omega)
  exact bodyPost_ret (v := .tuple #[.slice q ts.length k, (Cal.mk ck cr ca cb cn).val]) (by simp [results, Tryz.results31, go_sem, Cal.val, cell_set, *]) rfl ⟨q, k, ts, ⟨ck, cr, ca, cb, cn⟩, rfl, hTC, hm3, hm8, hB4⟩
end Go.Proofs.YtghbphdipdjekaaGreatDoor

namespace Go.Proofs.YtghbphdipdjekaaGreatDoor
open Go.RowKit Drw
attribute [local go_sem] Lab.val Rgt.val Cal.val Thg.val
attribute [local go_sem 5000] eql_rgt neq_rgt

theorem ldThing_v {ta tb : Thg} {va vb sva qva svb qvb : Value} {v : Bool} {w : World} (hva : va = ta.val sva qva) (hvb : vb = tb.val svb qvb) (h : decide (ta = tb) = v) (hsa : RgtsAt w sva ta.slots) (hqa : IntsAt w qva ta.queue) (hsb : RgtsAt w svb tb.slots) (hqb : IntsAt w qvb tb.queue) :
    Calls Tryz.prog 36 #[va, vb] w fun e w' => e = .returned (.bool v) ∧ Below w.heap.size w w' := by
  subst hva; subst hvb; subst h; exact ldThing_c ta tb sva qva svb qvb w hsa hqa hsb hqb
theorem callMoves_t {p : Option Addr} {cap : Nat} {ts : List Thg} {c : Cal} {ms : List Int} {w : World} (hL : Laid w) (hT : TabAt w (.slice p ts.length cap) ts) (h : movesD ts c = ms) :
    Calls Tryz.prog 32 #[.slice p ts.length cap, c.val] w fun e w' => ∃ q k, e = .returned (.slice q ms.length k) ∧ IntsAt w' (.slice q ms.length k) ms ∧ Below w.heap.size w w' := by
  subst h; exact callMoves_c p cap ts c w hL hT
theorem scallMoves_t {p : Option Addr} {cap : Nat} {ts : List Thg} {c : Cal} {ms : List Int} {w : World} (hT : TabAt w (.slice p ts.length cap) ts) (h : movesD ts c = ms) :
    Calls Tryz.prog 33 #[.slice p ts.length cap, c.val] w fun e w' => ∃ q k, e = .returned (.slice q ms.length k) ∧ IntsAt w' (.slice q ms.length k) ms ∧ Below w.heap.size w w' := by
  subst h; exact scallMoves_c p cap ts c w hT
theorem touches_t {p : Option Addr} {cap : Nat} {ts : List Thg} {i k : Int} {v : Bool} {w : World} (hT : TabAt w (.slice p ts.length cap) ts) (h : (tabOk ts && kindAt ts i 3 && ex ts k && touches ts i k) = v) :
    Calls Tryz.prog 37 #[.slice p ts.length cap, .int .i64 i, .int .i64 k] w fun e w' => e = .returned (.bool v) ∧ Below w.heap.size w w' := by
  subst h; exact checkTouches_c p cap ts i k w hT

set_option maxRecDepth 100000 in
set_option maxHeartbeats 4000000 in
theorem fnMoves_c (p : Option Addr) (n cap : Nat) (w : World) (hL : Laid w) (hc : n ≤ cap) (hb : BytesAt w p n) :
    Calls Tryz.prog 12 #[.slice p n cap] w fun e w' => e = .returned (.bool true) ∧ Below w.heap.size w w' := by
  by_cases hbig : n ≤ 1048576
  · have hle : ¬ (1048576 : Int) < (n : Int) := by omega
    have Hb := Lib.hid hb
    have HL := Lib.hid hL
    clear hb hL
    go_enter Tryz.func12, Tryz.ntmps12
    go_upto_region 3 with (fail)
    go_cut [3, 4] (fun s3 s4 wz => ∃ q k ts c B, s3 = .slice q ts.length k ∧ s4 = .pointer (some ⟨B, 0, none⟩) ∧ w.heap.size ≤ B ∧ CallIn wz B c ∧ TabAt wz (.slice q ts.length k) ts ∧ 3 ≤ ts.length ∧ ts.length ≤ 8 ∧ Below w.heap.size w wz)
    case first =>
      go_wp2_with (go_at_call 31; refine (drawMoves_c p n cap _ hc Hb.out (by omega)).mono ?_; rintro e w1 ⟨q, k, ts, ⟨ck, cr, ca, cb, cn⟩, rfl, hT, h3, h8, hb1⟩)
      go_meet
      have hz1 := hb1.size
      exact ⟨q, k, ts, ⟨ck, cr, ca, cb, cn⟩, w1.heap.size, rfl, rfl, hb1.size, ⟨by simp [go_sem], fun j => by simp [go_sem]⟩, hT.pure (by (repeat (with_reducible first | exact Below.refl _ _ | refine Below.alloc ?_ ?_ _ | refine below_drewN ?_ _ | refine Below.drew ?_ | refine Below.setCell ?_ ?_ _ | refine Below.trans ?_ (Below.mono (by assumption) ?_))) <;> (first | omega | (simp; try omega))), h3, h8, (by (repeat (with_reducible first | exact Below.refl _ _ | refine Below.alloc ?_ ?_ _ | refine below_drewN ?_ _ | refine Below.drew ?_ | refine Below.setCell ?_ ?_ _ | refine Below.trans ?_ (Below.mono (by assumption) ?_))) <;> (first | omega | (simp; try omega)))⟩
    case rest =>
      obtain ⟨q, k, ts, ⟨ck, cr, ca, cb, cn⟩, B, rfl, rfl, hwB, hC, hT, hl3, hl8, hB1⟩ := hcut
      obtain ⟨wx, rfl⟩ : ∃ wx : World, wx = wc := ⟨_, rfl⟩
      have hL1 := HL.out.below hB1 HL.out.size
      obtain ⟨us, an, hdo⟩ : ∃ us an, callDo ts ⟨ck, cr, ca, cb, cn⟩ = (us, an) := ⟨_, _, rfl⟩
      obtain ⟨can, hcan⟩ : ∃ can, calCan ts ⟨ck, cr, ca, cb, cn⟩ = can := ⟨_, rfl⟩
      obtain ⟨ms, hms⟩ : ∃ ms, movesD ts ⟨ck, cr, ca, cb, cn⟩ = ms := ⟨_, rfl⟩
      have Hdo := Lib.hid hdo
      have Hcan := Lib.hid hcan
      have Hms := Lib.hid hms
      have HB1 := Lib.hid hB1
      have HC := Lib.hid hC
      have HT := Lib.hid hT
      have HL1 := Lib.hid hL1
      clear hdo hcan HL Hb hB1 hwB hms hT hL1
      obtain ⟨⟨q0, q1, q2, q3, q4⟩, -⟩ := hC
      dsimp only at q0 q1 q2 q3 q4
      have hBs := World.block_lt_of_cell? _ _ q0
      go_upto_region 6 with (first
        | (go_at_call 32; refine (callMoves_t (c := ⟨_, _, _, _, _⟩) HL1.out HT.out Hms.out).mono ?_; rintro e w1 ⟨p1, k1, rfl, hM, hb1⟩; have q0 := (HC.out.pure hb1).1.1; have q1 := (HC.out.pure hb1).1.2.1; have q2 := (HC.out.pure hb1).1.2.2.1; have q3 := (HC.out.pure hb1).1.2.2.2.1; have q4 := (HC.out.pure hb1).1.2.2.2.2)
        | (go_at_call 33; refine (scallMoves_t (c := ⟨_, _, _, _, _⟩) (HT.out.pure hb1) Hms.out).mono ?_; rintro e w2 ⟨p2, k2, rfl, hN, hb2⟩))
      have hb12 := hb1.trans (hb2.mono hb1.size)
      have HT2 := Lib.hid (HT.out.pure hb12)
      have HC2 := Lib.hid (HC.out.pure hb12)
      have HL2 := Lib.hid (HL1.out.pure hb12)
      have HM2 := Lib.hid (hM.pure hb2)
      have HN2 := Lib.hid hN
      have HB2 := Lib.hid (HB1.out.trans (hb12.mono HB1.out.size))
      clear hM hN hb1 hb2 hb12 q0 q1 q2 q3 q4 hBs HC HB1 HT HL1
      obtain ⟨⟨q0, q1, q2, q3, q4⟩, -⟩ := HC2.out
      dsimp only at q0 q1 q2 q3 q4
      have hBs := World.block_lt_of_cell? _ _ q0
      obtain ⟨wx, rfl⟩ : ∃ wx : World, wx = w2 := ⟨_, rfl⟩
      cases can
      · go_wp2_with (first
          | (go_at_call 34; refine (ldCan_t (c := ⟨_, _, _, _, _⟩) (HT2.out.pure (by (repeat (with_reducible first | exact Below.refl _ _ | refine Below.alloc ?_ ?_ _ | refine below_drewN ?_ _ | refine Below.drew ?_ | refine Below.setCell ?_ ?_ _ | refine Below.trans ?_ (Below.mono (by assumption) ?_))) <;> (first | omega | (simp; try omega)))) Hcan.out).mono ?_; rintro e w4 ⟨rfl, hb4⟩; have hz4 := hb4.size))
        go_ret
        exact ⟨rfl, HB2.out.trans (Below.mono (show Below wx.heap.size wx _ from (by (repeat (with_reducible first | exact Below.refl _ _ | refine Below.alloc ?_ ?_ _ | refine below_drewN ?_ _ | refine Below.drew ?_ | refine Below.setCell ?_ ?_ _ | refine Below.trans ?_ (Below.mono (by assumption) ?_))) <;> (first | omega | (simp; try omega)))) HB2.out.size)⟩
      · go_upto_region 8 with (first
          | (go_at_call 34; refine (ldCan_t (c := ⟨_, _, _, _, _⟩) (HT2.out.pure (by (repeat (with_reducible first | exact Below.refl _ _ | refine Below.alloc ?_ ?_ _ | refine below_drewN ?_ _ | refine Below.drew ?_ | refine Below.setCell ?_ ?_ _ | refine Below.trans ?_ (Below.mono (by assumption) ?_))) <;> (first | omega | (simp; try omega)))) Hcan.out).mono ?_; rintro e w4 ⟨rfl, hb4⟩; have q0 := (HC2.out.pure hb4).1.1; have q1 := (HC2.out.pure hb4).1.2.1; have q2 := (HC2.out.pure hb4).1.2.2.1; have q3 := (HC2.out.pure hb4).1.2.2.2.1; have q4 := (HC2.out.pure hb4).1.2.2.2.2))
        go_upto_region 9 with (first
          | (go_at_call 26; refine (callDo_t (c := ⟨_, _, _, _, _⟩) (HL2.out.pure hb4) (HT2.out.pure hb4) Hdo.out).mono ?_; rintro e w5 ⟨p3, k3, rfl, hX, hb5⟩))
        have hb45 := hb4.trans (hb5.mono hb4.size)
        have hB := canB.1 Hcan.out
        have hus : us = (do2 ts ⟨ck, cr, ca, cb, cn⟩).1 := by
          have := Hdo.out
          rw [callDo_can hB] at this
          exact (congrArg Prod.fst this).symm
        have hul : us.length = ts.length := by rw [hus]; exact (do2_fine hB).same.len
        have hmd : ms = diffs us ts ts.length := by rw [← Hms.out, hus]; unfold movesD; rw [Hcan.out]; rfl
        have hml : ms.length ≤ 8 := by rw [hmd]; exact Nat.le_trans (diffs_len _ _ _) hl8
        have Hlaw := Lib.hid (show ∀ x ∈ ms, ex ts x = true ∧ (x = cr ∨ ck = 9 ∨ touches ts cr x = true) from fun x hx => law_moves hB (by rw [Hms.out]; exact hx))
        have Hmd := Lib.hid hmd
        have Hul := Lib.hid hul
        have Htok := Lib.hid (show tabOk ts = true from hB.tab)
        have Hkr := Lib.hid (show kindAt ts cr 3 = true by simp only [kindAt, Bool.and_eq_true, beq_iff_eq]; exact ⟨hB.ex, hB.kind⟩)
        obtain ⟨wy, rfl⟩ : ∃ wx : World, wx = w5 := ⟨_, rfl⟩
        have HT5 := Lib.hid (HT2.out.pure hb45)
        have HC5 := Lib.hid (HC2.out.pure hb45)
        have HM5 := Lib.hid (HM2.out.pure hb45)
        have HN5 := Lib.hid (HN2.out.pure hb45)
        have HX5 := Lib.hid (hul ▸ hX)
        have HB5 := Lib.hid (HB2.out.trans (hb45.mono HB2.out.size))
        have hz5 := HB5.out.size
        clear q0 q1 q2 q3 q4 hBs hB hus hmd hX hb4 hb5 hb45 HB2 HL2 HT2 HC2 HM2 HN2
        rw [hul]
        clear hul
        go_wp2
        go_loopw [9] (fun s9 wr => ∃ i : Nat, s9 = .int .i64 (i : Int) ∧ i ≤ ts.length ∧ Below wy.heap.size wy wr) (fun s9 _ => ts.length - (intOf s9).toNat)
        case atStart => exact ⟨0, rfl, by omega, Below.refl _ _⟩
        case round =>
          obtain ⟨i, rfl, hi, hBr⟩ := hrel
          obtain ⟨wr', rfl⟩ : ∃ wy : World, wy = wr := ⟨_, rfl⟩
          have HBr := Lib.hid hBr
          have hzr := hBr.size
          by_cases hlt : i < ts.length
          · have hlt0 : i < us.length := by rw [Hul.out]; exact hlt
            obtain ⟨tb, htb⟩ : ∃ t, ts[i]? = some t := ⟨_, List.getElem?_eq_getElem hlt⟩
            obtain ⟨ta, hta⟩ : ∃ t, us[i]? = some t := ⟨_, List.getElem?_eq_getElem hlt0⟩
            obtain ⟨b1, o1, sv1, qv1, rfl, hb1, hS1, hQ1, p0, p1, p2', p3', p4, p5, p6, p7⟩ := (HX5.out.pure hBr).at i ta hta
            obtain ⟨b2, o2, sv2, qv2, rfl, hb2, hS2, hQ2, q0, q1, q2, q3, q4, q5, q6, q7⟩ := (HT5.out.pure hBr).at i tb htb
            obtain ⟨dd, hdd⟩ : ∃ d, decide (ta = tb) = d := ⟨_, rfl⟩
            have ham : decide (((i : Int) + 1) ∈ ms) = !dd := by
              rw [Hmd.out, Bool.eq_iff_iff]
              simp only [decide_eq_true_eq, mem_diffs hlt, getT_at hta, getT_at htb, ← hdd]
              simp
            have Hdd := Lib.hid hdd
            have Ham := Lib.hid ham
            have h00 : (0 : Int) ≤ (i : Int) := by omega
            have hju : (i : Int) < (ts.length : Int) := by omega
            have hw1 : IntKind.i64.wrap ((i : Int) + 1) = (i : Int) + 1 := IntWalk.i64_in _ (by omega)
            obtain ⟨k1, ⟨s1, l1⟩, ve1, nu1, sl1, qu1, tg1⟩ := ta
            obtain ⟨k2, ⟨s2, l2⟩, ve2, nu2, sl2, qu2, tg2⟩ := tb
            dsimp only at hS1 hQ1 hS2 hQ2 p0 p1 p2' p3' p4 p5 p6 p7 q0 q1 q2 q3 q4 q5 q6 q7
            have HS := Lib.hid (show ∀ w' : World, Below wr'.heap.size wr' w' → (Below wr'.heap.size wr' w' ∧ w'.cell? ⟨b1, o1 + i * 8, none⟩ = some (.int .i64 k1) ∧ w'.cell? ⟨b1, o1 + i * 8 + 1, none⟩ = some (.int .i64 s1) ∧ w'.cell? ⟨b1, o1 + i * 8 + 2, none⟩ = some (.int .i64 l1) ∧ w'.cell? ⟨b1, o1 + i * 8 + 3, none⟩ = some (.int .i64 ve1) ∧ w'.cell? ⟨b1, o1 + i * 8 + 4, none⟩ = some (.int .i64 nu1) ∧ w'.cell? ⟨b1, o1 + i * 8 + 5, none⟩ = some (sv1) ∧ w'.cell? ⟨b1, o1 + i * 8 + 6, none⟩ = some (qv1) ∧ w'.cell? ⟨b1, o1 + i * 8 + 7, none⟩ = some (.int .i64 tg1) ∧ w'.cell? ⟨b2, o2 + i * 8, none⟩ = some (.int .i64 k2) ∧ w'.cell? ⟨b2, o2 + i * 8 + 1, none⟩ = some (.int .i64 s2) ∧ w'.cell? ⟨b2, o2 + i * 8 + 2, none⟩ = some (.int .i64 l2) ∧ w'.cell? ⟨b2, o2 + i * 8 + 3, none⟩ = some (.int .i64 ve2) ∧ w'.cell? ⟨b2, o2 + i * 8 + 4, none⟩ = some (.int .i64 nu2) ∧ w'.cell? ⟨b2, o2 + i * 8 + 5, none⟩ = some (sv2) ∧ w'.cell? ⟨b2, o2 + i * 8 + 6, none⟩ = some (qv2) ∧ w'.cell? ⟨b2, o2 + i * 8 + 7, none⟩ = some (.int .i64 tg2)) from
              fun w' h => by
                obtain ⟨hc', -⟩ := bcell h
                exact ⟨h, (hc' _ _ hb1).trans p0, (hc' _ _ hb1).trans p1, (hc' _ _ hb1).trans p2', (hc' _ _ hb1).trans p3', (hc' _ _ hb1).trans p4, (hc' _ _ hb1).trans p5, (hc' _ _ hb1).trans p6, (hc' _ _ hb1).trans p7, (hc' _ _ hb2).trans q0, (hc' _ _ hb2).trans q1, (hc' _ _ hb2).trans q2, (hc' _ _ hb2).trans q3, (hc' _ _ hb2).trans q4, (hc' _ _ hb2).trans q5, (hc' _ _ hb2).trans q6, (hc' _ _ hb2).trans q7⟩)
            have HS1 := Lib.hid hS1
            have HQ1 := Lib.hid hQ1
            have HS2 := Lib.hid hS2
            have HQ2 := Lib.hid hQ2
            have HMr := Lib.hid (HM5.out.pure hBr)
            clear hta htb hS1 hQ1 hS2 hQ2 hdd ham hBr p0 p1 p2' p3' p4 p5 p6 p7 q0 q1 q2 q3 q4 q5 q6 q7 hlt0
            go_upto_region 12 with (fail)
            go_cut [66] (fun sC wq => sC = .bool false ∧ Below wr'.heap.size wr' wq)
            case first =>
              first | (go_region_held3 (fun w' => Below wr'.heap.size wr' w' ∧ w'.cell? ⟨b1, o1 + i * 8, none⟩ = some (.int .i64 k1) ∧ w'.cell? ⟨b1, o1 + i * 8 + 1, none⟩ = some (.int .i64 s1) ∧ w'.cell? ⟨b1, o1 + i * 8 + 2, none⟩ = some (.int .i64 l1) ∧ w'.cell? ⟨b1, o1 + i * 8 + 3, none⟩ = some (.int .i64 ve1) ∧ w'.cell? ⟨b1, o1 + i * 8 + 4, none⟩ = some (.int .i64 nu1) ∧ w'.cell? ⟨b1, o1 + i * 8 + 5, none⟩ = some (sv1) ∧ w'.cell? ⟨b1, o1 + i * 8 + 6, none⟩ = some (qv1) ∧ w'.cell? ⟨b1, o1 + i * 8 + 7, none⟩ = some (.int .i64 tg1) ∧ w'.cell? ⟨b2, o2 + i * 8, none⟩ = some (.int .i64 k2) ∧ w'.cell? ⟨b2, o2 + i * 8 + 1, none⟩ = some (.int .i64 s2) ∧ w'.cell? ⟨b2, o2 + i * 8 + 2, none⟩ = some (.int .i64 l2) ∧ w'.cell? ⟨b2, o2 + i * 8 + 3, none⟩ = some (.int .i64 ve2) ∧ w'.cell? ⟨b2, o2 + i * 8 + 4, none⟩ = some (.int .i64 nu2) ∧ w'.cell? ⟨b2, o2 + i * 8 + 5, none⟩ = some (sv2) ∧ w'.cell? ⟨b2, o2 + i * 8 + 6, none⟩ = some (qv2) ∧ w'.cell? ⟨b2, o2 + i * 8 + 7, none⟩ = some (.int .i64 tg2))
                (first | assumption | exact HS.out _ (Below.refl _ _) | exact HS.out _ (Below.drew (Below.refl _ _)) | (have hX := And.left (by assumption : Below wr'.heap.size wr' _ ∧ _); exact HS.out _ (hX.trans (hb3.mono hX.size))))
                (first
                  | (go_at_call 35; have hX := And.left (by assumption : Below wr'.heap.size wr' _ ∧ _); with_reducible refine (ldAmong_t (HMr.out.pure hX) Ham.out).mono ?_; rintro e w3 ⟨rfl, hb3⟩)
                  | (go_at_call 36; have hX := And.left (by assumption : Below wr'.heap.size wr' _ ∧ _); with_reducible refine (ldThing_v (va := .agg #[.int .i64 k1, .int .i64 s1, .int .i64 l1, .int .i64 ve1, .int .i64 nu1, sv1, qv1, .int .i64 tg1]) (vb := .agg #[.int .i64 k2, .int .i64 s2, .int .i64 l2, .int .i64 ve2, .int .i64 nu2, sv2, qv2, .int .i64 tg2]) (ta := ⟨k1, ⟨s1, l1⟩, ve1, nu1, sl1, qu1, tg1⟩) (tb := ⟨k2, ⟨s2, l2⟩, ve2, nu2, sl2, qu2, tg2⟩) rfl rfl Hdd.out (HS1.out.pure hX) (HQ1.out.pure hX) (HS2.out.pure hX) (HQ2.out.pure hX)).mono ?_; rintro e w3 ⟨rfl, hb3⟩))) | fail
              all_goals (go_wp2; go_meet; exact ⟨by cases dd <;> rfl, And.left (by assumption : Below wr'.heap.size wr' _ ∧ _)⟩)
            case rest =>
              obtain ⟨rfl, hBy⟩ := hcut
              obtain ⟨wq, rfl⟩ : ∃ wy : World, wy = wc := ⟨_, rfl⟩
              go_wp2
              exact ⟨⟨i + 1, by go_num, by omega, HBr.out.trans (hBy.mono hzr)⟩, by simp [intOf]; omega⟩
          · have hnl : ¬ (i : Int) < (ts.length : Int) := by omega
            have hMl : (ms.length : Int) ≤ 8 := by omega
            clear hBr
            go_wp2
            go_loopw [10] (fun s10 wr => ∃ j : Nat, s10 = .int .i64 (j : Int) ∧ j ≤ ms.length ∧ Below wr'.heap.size wr' wr) (fun s10 _ => ms.length - (intOf s10).toNat)
            case atStart => exact ⟨0, rfl, by omega, Below.refl _ _⟩
            case round =>
              obtain ⟨j, rfl, hj, hBr2⟩ := hrel
              obtain ⟨wt, rfl⟩ : ∃ wy : World, wy = wr := ⟨_, rfl⟩
              have hzr2 := hBr2.size
              have hBt := HBr.out.trans (hBr2.mono hzr)
              have HBt := Lib.hid hBt
              by_cases hlt2 : j < ms.length
              · obtain ⟨x, hx⟩ : ∃ x, ms[j]? = some x := ⟨_, List.getElem?_eq_getElem hlt2⟩
                obtain ⟨b1, o1, rfl, hb1, p0⟩ := (HM5.out.pure hBt).at j x hx
                obtain ⟨b2, o2, rfl, hb2, r0⟩ := (HN5.out.pure hBt).at j x hx
                obtain ⟨⟨q0, q1, -, -, -⟩, -⟩ := HC5.out.pure hBt
                dsimp only at q0 q1
                have hBs := World.block_lt_of_cell? _ _ q0
                obtain ⟨hex, hor⟩ := Hlaw.out x (List.mem_of_getElem? hx)
                have h00 : (0 : Int) ≤ (j : Int) := by omega
                have hju : (j : Int) < (ms.length : Int) := by omega
                have HS := Lib.hid (show ∀ w' : World, Below wt.heap.size wt w' → (Below wt.heap.size wt w' ∧ w'.cell? ⟨b1, o1 + j, none⟩ = some (.int .i64 x) ∧ w'.cell? ⟨b2, o2 + j, none⟩ = some (.int .i64 x) ∧ w'.cell? ⟨B, 0, none⟩ = some (.int .i64 ck) ∧ w'.cell? ⟨B, 1, none⟩ = some (.int .i64 cr)) from fun w' h => by
                  obtain ⟨hc', -⟩ := bcell h
                  exact ⟨h, (hc' _ _ hb1).trans p0, (hc' _ _ hb2).trans r0, (hc' _ _ hBs).trans q0, (hc' _ _ hBs).trans q1⟩)
                have HTt := Lib.hid (HT5.out.pure hBt)
                have Hex := Lib.hid hex
                have Hor := Lib.hid hor
                clear hx hBt p0 r0 q0 q1 hex hor
                go_upto_region 17 with (fail)
                obtain ⟨-, p0, r0, q0, q1⟩ := HS.out _ (Below.refl _ _)
                by_cases hxr : x = cr
                · subst hxr
                  have hund : undef = Value.tuple #[] := rfl
                  go_quiet (fail)
                  go_wp2
                  exact ⟨⟨j + 1, by go_num, by omega, (by first | exact hBr2 | exact below_drewN hBr2 _)⟩, by simp [intOf]; omega⟩
                · have hx1 : (x == cr) = false := by simpa using hxr
                  have hx2 : (x != cr) = true := by simpa using hxr
                  by_cases hk9 : ck = 9
                  · subst hk9
                    have hund : undef = Value.tuple #[] := rfl
                    go_quiet (fail)
                    go_wp2
                    exact ⟨⟨j + 1, by go_num, by omega, (by first | exact hBr2 | exact below_drewN hBr2 _)⟩, by simp [intOf]; omega⟩
                  · have htt : touches ts cr x = true := by
                      rcases Hor.out with h | h | h
                      · exact absurd h hxr
                      · exact absurd h hk9
                      · exact h
                    have Htt := Lib.hid (show (tabOk ts && kindAt ts cr 3 && ex ts x && touches ts cr x) = true by rw [Htok.out, Hkr.out, Hex.out, htt]; rfl)
                    have hk1 : (ck == 9) = false := by simpa using hk9
                    have hk2 : (ck != 9) = true := by simpa using hk9
                    clear htt p0 r0 q0 q1
                    go_cut [106] (fun sC wq => sC = .bool false ∧ Below wt.heap.size wt wq)
                    case first =>
                      first | (go_region_held3 (fun w' => Below wt.heap.size wt w' ∧ w'.cell? ⟨b1, o1 + j, none⟩ = some (.int .i64 x) ∧ w'.cell? ⟨b2, o2 + j, none⟩ = some (.int .i64 x) ∧ w'.cell? ⟨B, 0, none⟩ = some (.int .i64 ck) ∧ w'.cell? ⟨B, 1, none⟩ = some (.int .i64 cr))
                        (first | assumption | exact HS.out _ (Below.refl _ _) | exact HS.out _ (Below.drew (Below.refl _ _)) | (have hX := And.left (by assumption : Below wt.heap.size wt _ ∧ _); exact HS.out _ (hX.trans (hb3.mono hX.size))))
                        (first | (go_at_call 37; have hX := And.left (by assumption : Below wt.heap.size wt _ ∧ _); refine (touches_t (HTt.out.pure hX) Htt.out).mono ?_; rintro e w3 ⟨rfl, hb3⟩))) | fail
                      all_goals (go_wp2; go_meet; exact ⟨rfl, And.left (by assumption : Below wt.heap.size wt _ ∧ _)⟩)
                    case rest =>
                      obtain ⟨rfl, hBy⟩ := hcut
                      obtain ⟨wq, rfl⟩ : ∃ wy : World, wy = wc := ⟨_, rfl⟩
                      go_wp2
                      exact ⟨⟨j + 1, by go_num, by omega, hBr2.trans (hBy.mono hzr2)⟩, by simp [intOf]; omega⟩
              · have hnl2 : ¬ (j : Int) < (ms.length : Int) := by omega
                clear hBt
                go_wp2
                go_ret
                exact ⟨rfl, HB5.out.trans (HBt.out.mono hz5)⟩
  · have hgt : (1048576 : Int) < (n : Int) := by omega
    clear hbig hb hL
    go_enter Tryz.func12, Tryz.ntmps12
    go_wp2
    go_ret
    exact ⟨rfl, (by (repeat (with_reducible first | exact Below.refl _ _ | refine Below.alloc ?_ ?_ _ | refine below_drewN ?_ _ | refine Below.drew ?_ | refine Below.setCell ?_ ?_ _ | refine Below.trans ?_ (Below.mono (by assumption) ?_))) <;> (first | omega | (simp; try omega)))⟩
end Go.Proofs.YtghbphdipdjekaaGreatDoor

/- The law that what a call changes is told, as its row says it. Conditions: those of its row; its listed variable is tied to the program's text. -/
namespace Go.Proofs.YtghbphdipdjekaaGreatDoor
open Go Go.ChangeShapes Go.WideShapes Go.RowKit Drw

set_option maxRecDepth 100000 in
theorem fnMoves_lifted (os : Os) (started : os.Started) (H : Type) (enc : TypeId × Value → H) :
    ReturnsInHanded {} Tryz.checked os 12 .any (fun w args => (Rows.fnMovesSpec.pre enc Tryz.prog Tryz.f12 [] false w args ∧ laidMetH Tryz.prog Rows.fnMovesRow.laid w) ∧ sizedMet enc Tryz.prog Tryz.f12 (OpenSpec.ofChange Rows.fnMovesSpec) false w args)
      (Rows.fnMovesSpec.post enc Tryz.prog Tryz.f12 false true false false) := by
  refine returnsInHanded_of_change_and (C := Tryz.checked) (X := fun w _ => laidMetH Tryz.prog Rows.fnMovesRow.laid w) (fun _ _ _ hh h => h.of_heap hh) own started (by kernel_rfl) Tryz.func12
    (ChangeSpec.witness_at (enc := enc) (C := Tryz.checked) (os := os) (X := fun w _ => laidMetH Tryz.prog Rows.fnMovesRow.laid w) false (laidWorld os) #[.slice none 0 0] 8 rfl (by kernel_rfl) (by kernel_rfl) (by kernel_rfl) (by kernel_rfl) (by kernel_rfl) (laidWorld_met os _)) ?_
  intro W base args ds gs before hval0 hW _ _ hL _
  have hval : ∀ (j : Nat) t v, Tryz.f12.params[j]? = some t → args[j]? = some v → Value.okWide Tryz.prog W .any base t v := hval0
  have hW' := hW
  obtain ⟨p, q, hA0, hV0, rfl, hfz, hnd⟩ := hW
  have hA : DataW.TrodAll enc Tryz.prog W 0 (fun _ => true) true Tryz.f12.params.toList args.toList ds p := hA0
  have hV : DataW.TrodVars enc Tryz.prog W (fun _ => true) [] gs q := hV0
  rw [Tryz.params12] at hA hval
  obtain ⟨v0, d0, rfl, rfl, h0⟩ := trodAll_one hA
  have hlt : ∀ x ∈ p, x.block < W.heap.size := fun x hx => hW'.lt x (List.mem_append_left _ hx)
  obtain ⟨a, n, cap, rfl, hn, hm, hB, hcl⟩ := bytes_of (hval 0 22 v0 rfl rfl) h0
  have hl := laid_of_met hL
  obtain ⟨rfl, rfl⟩ : gs = [] ∧ q = [] := by
    cases gs with
    | nil => exact ⟨rfl, hV⟩
    | cons g r => exact absurd hV (by intro h; cases h)
  have e1 : Rows.fnMovesSpec.fn H ([d0] ++ []) = { results := [.lit (.bool true)], args := [d0] } := by simp [Rows.fnMovesSpec]
  refine (fnMoves_c a n cap W hl hn hB).mono fun e W' ⟨he, hw⟩ => ?_
  subst he
  refine ⟨_, rfl, _, _, _, [], p, [], hW', ?_, ?_, ?_, hw.frame _, fun h => by cases h⟩
  · rw [e1]; exact trodAll_mk1 (shut_bool Tryz.underlying4 true)
  · rw [e1]; exact trodAll_mk1 (WideElems.Trod_stays lawLaidOut (by kernel_rfl) (of_decide_eq_true (by kernel_rfl)) h0 (fun x hx => World.keptBut.sameAt (hw.frame (fun _ => False)) (hlt x hx) (fun h => h) (fun b e => by obtain ⟨b', o', e'⟩ := hcl x hx; rw [e'] at e; cases e)) (fun x hx => by simpa using hlt x hx))
  · rw [e1]; rfl

theorem fnMoves_said : Rows.FnMovesSaid :=
  OpenClaim.holds_of_wide 12 Tryz.f12 rfl rfl rfl rfl rfl rfl rfl ⟨rfl, rfl, rfl, rfl, rfl⟩ rfl rfl rfl rfl rfl (by kernel_rfl) Tryz.func12 (by kernel_rfl)
    (of_decide_eq_true (by kernel_rfl)) (by unfold Func.isWrapper; rw [if_neg (of_decide_eq_false (by kernel_rfl))]; exact ⟨rfl, rfl⟩)
    (fun os started H enc _ => fnMoves_lifted os started H enc)

theorem fnMoves_holds : Rows.FnMovesCardSaid :=
  Claim7.holds_tied_plain_at .later [] [.handle] true (true, "b377f68cbe446cb376d1c97b912f005ea04d6597e96568119fb4aad1cbba6cb6") true
    fnMoves_said (fun _ h => by cases h) (by kernel_rfl) (fun _ h => by cases h) fnMoves_row_tie rfl ⟨rfl, rfl⟩ (by kernel_rfl) rfl
    (fun f fn hf hfn => by
      obtain rfl : f = 12 := Option.some.inj ((show Tryz.prog.funcNamed "loop.example/drawbar/laws.FnMoves" = some 12 by kernel_rfl).symm.trans hf) |>.symm
      obtain rfl : fn = Tryz.f12 := (Option.some.inj (Tryz.func12.symm.trans hfn)).symm
      exact ⟨by kernel_rfl, fun j t ht => by
        rw [Tryz.params12] at ht
        have h3 : t = 22 := by
          rcases j with _ | j
          · simpa using ht.symm
          · simp at ht
        subst h3
        exact (show Tryz.prog.wantsStandIn 22 = false by kernel_rfl)⟩)
    (by kernel_rfl)
#print axioms fnMoves_holds
end Go.Proofs.YtghbphdipdjekaaGreatDoor
