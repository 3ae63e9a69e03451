/- A walk of one goroutine that sends and receives, nothing waiting: pieces by the kit's walk, communications by the machine's steps. Conditions: no program is named. -/
import Derived.Conc.LoneCalls
import Derived.Conc.Own
import Derived.Test.YtghbphdipdjekaaGreatDoorW
import Derived.Test.YtghbphdipdjekaaGreatDoorQs
import Derived.Shelf.Abstract
set_option linter.unusedVariables false
set_option linter.unusedSimpArgs false
namespace Go.Proofs.YtghbphdipdjekaaGreatDoor
open Go Go.Conc

section
variable {P : Program} {Q : Goroutine → World → Prop} {b : Frame} {cs : List Frame} {k : List Item} {a : Act} {w : World}

/-- From here the machine of one comes to Q. -/
def AtC (P : Program) (Q : Goroutine → World → Prop) (b : Frame) (cs : List Frame) (k : List Item) (a : Act) (w : World) : Prop := LoneTo P Q (G (b.at a k) cs) w

theorem AtC.next {k' : List Item} {a' : Act} {w' : World} (h : step P (lone (b.at a k) cs w) = .next (lone (b.at a' k') cs w')) (h' : AtC P Q b cs k' a' w') : AtC P Q b cs k a w := LoneTo.step h h'

theorem AtC.code {c : Code} (h : ∀ K : Act → World → Prop, (∀ a' w', AtC P Q b cs k a' w' → K a' w') → c.wp P (Exit.then K (fun _ _ _ => False)) a w) : AtC P Q b cs (.code c :: k) a w := by
  obtain ⟨e, a', w', hq, harr⟩ := h _ (fun _ _ h => h) b k cs
  cases e with
  | normal =>
    obtain ⟨g₂, w₂, hs, hq₂⟩ := hq
    exact ⟨g₂, w₂, Steps.trans harr hs, hq₂⟩
  | exit id => exact hq.elim
  | goto l => exact hq.elim
  | ret => exact hq.elim
  | panic ch => exact hq.elim
  | outgrown => exact hq.elim

theorem AtC.seq {x y : Code} (h : AtC P Q b cs (.code x :: .code y :: k) a w) : AtC P Q b cs (.code (x.seq y) :: k) a w := AtC.next step_seq h
theorem AtC.block {id : Nat} {c : Code} (h : AtC P Q b cs (.code c :: .inBlock id :: k) a w) : AtC P Q b cs (.code (.block id c) :: k) a w := AtC.next step_block h
theorem AtC.inBlock {id : Nat} (h : AtC P Q b cs k a w) : AtC P Q b cs (.inBlock id :: k) a w := AtC.next step_inBlock h
theorem AtC.skip (h : AtC P Q b cs k a w) : AtC P Q b cs (.code .skip :: k) a w := AtC.next step_skip h
theorem AtC.exit {id : Nat} {k' : List Item} (hk : exitTo id k = some k') (h : AtC P Q b cs k' a w) : AtC P Q b cs (.code (.exit id) :: k) a w := AtC.next (step_exit hk) h
theorem AtC.yes {c : Operand} {x y : Code} (hc : a.eval c = .bool true) (h : AtC P Q b cs (.code x :: k) a w) : AtC P Q b cs (.code (.cond c x y) :: k) a w := AtC.next (step_cond hc) h
theorem AtC.no {c : Operand} {x y : Code} (hc : a.eval c = .bool false) (h : AtC P Q b cs (.code y :: k) a w) : AtC P Q b cs (.code (.cond c x y) :: k) a w := AtC.next (step_cond hc) h

theorem AtC.loop {c : Code} (I : Act → World → Prop) (μ : Act → World → Nat) (h0 : I a w)
    (h : ∀ a w, I a w → (∀ a' w', I a' w' → μ a' w' < μ a w → AtC P Q b cs (.inLoop c :: k) a' w') → AtC P Q b cs (.code c :: .inLoop c :: k) a w) : AtC P Q b cs (.code (.loop c) :: k) a w := by
  have H : ∀ (n : Nat) (a : Act) (w : World), μ a w = n → I a w → AtC P Q b cs (.code c :: .inLoop c :: k) a w := by
    intro n
    induction n using Nat.strongRecOn with
    | ind n ih => exact fun a w hn hI => h a w hI fun a' w' hI' hlt => AtC.next step_inLoop (ih _ (hn ▸ hlt) a' w' rfl hI')
  exact AtC.next step_loop (H _ a w rfl h0)

variable {ops : Array Oper}
theorem AtC.region {id : Nat} (h : AtC P Q b cs (.inRegion ops (List.range ops.size) :: k) a w) : AtC P Q b cs (.code (.region id ops false) :: k) a w := AtC.next step_region h
theorem AtC.regionEnd (h : AtC P Q b cs k a w) : AtC P Q b cs (.inRegion ops [] :: k) a w := AtC.next step_region_end h

variable {i : Nat} {rest : List Nat} {o : Oper}
theorem AtC.op {v : Value} {w' : World} (ho : ops[i]? = some o) (hw : Region.wanted o (yielded ops a.tmps) = true) (hr : (execOp a.eval o).run P w = .ok (.value v) w')
    (h : AtC P Q b cs (.inRegion ops rest :: k) (a.put o.dst v) w') : AtC P Q b cs (.inRegion ops (i :: rest) :: k) a w := by
  have hg := stepG_op (P := P) (b := b) (k := k) (cs := cs) (w := w) (rest := rest) ho hw
  have hfin : (b.at a (.inRegion ops (i :: rest) :: k)).finish v = b.at (a.put o.dst v) (.inRegion ops rest :: k) := by
    rw [Frame.finish_at, ho]; rfl
  refine AtC.next (step_lone_go ?_) h
  rw [hg, ← hfin]; simp [stepG.apply, hr]

theorem AtC.fin (ho : ops[i]? = some o) (v : Value) : (b.at a (.inRegion ops (i :: rest) :: k)).finish v = b.at (a.put o.dst v) (.inRegion ops rest :: k) := by
  rw [Frame.finish_at, ho]; rfl

variable {c cap s r : Nat} {buf : Array Value} {z v : Value} {tm closed : Bool} {w₁ : World}
theorem AtC.send (hb : b.kind = .normal) (ho : ops[i]? = some o) (hw : Region.wanted o (yielded ops a.tmps) = true) (hr : (execOp a.eval o).run P w = .ok (.comm #[scase c v z] true .send) w₁)
    (hc : w₁.heap[c]? = some (.chan cap buf false s r tm)) (hroom : buf.size < cap) (h : AtC P Q b cs (.inRegion ops rest :: k) (a.put o.dst undef) (w₁.setChan c cap (buf.push v) false (s + 1) r tm)) : AtC P Q b cs (.inRegion ops (i :: rest) :: k) a w := by
  refine LoneTo.step (step_lone_send_room (stepG_comm ho hw (by rw [hb]; simp) hr) hc hroom) ?_
  rw [AtC.fin ho]
  exact h

theorem AtC.recv (hb : b.kind = .normal) (ho : ops[i]? = some o) (hw : Region.wanted o (yielded ops a.tmps) = true) (hr : (execOp a.eval o).run P w = .ok (.comm #[rcase c z] true (.recv true)) w₁)
    (hc : w₁.heap[c]? = some (.chan cap buf closed s r tm)) (hsome : 0 < buf.size) (h : AtC P Q b cs (.inRegion ops rest :: k) (a.put o.dst (.tuple #[buf.getD 0 undef, .bool true])) (w₁.setChan c cap (buf.extract 1 buf.size) closed s (r + 1) tm)) : AtC P Q b cs (.inRegion ops (i :: rest) :: k) a w := by
  refine LoneTo.step (step_lone_recv_buf true (stepG_comm ho hw (by rw [hb]; simp) hr) hc hsome) ?_
  rw [AtC.fin ho]
  exact h

theorem AtC.shut (hb : b.kind = .normal) (ho : ops[i]? = some o) (hw : Region.wanted o (yielded ops a.tmps) = true) (hr : (execOp a.eval o).run P w = .ok (.comm #[rcase c z] true (.recv true)) w₁)
    (hc : w₁.heap[c]? = some (.chan cap #[] true s r tm)) (h : AtC P Q b cs (.inRegion ops rest :: k) (a.put o.dst (.tuple #[z, .bool false])) w₁) : AtC P Q b cs (.inRegion ops (i :: rest) :: k) a w := by
  refine LoneTo.step (step_lone_recv_shut true (stepG_comm ho hw (by rw [hb]; simp) hr) hc) ?_
  rw [AtC.fin ho]
  exact h
end

/-- What a function's machine is to come to. -/
def Leaves (P : Program) (f : FuncId) (R : Ending → World → Prop) (cs : List Frame) (g' : Goroutine) (w' : World) : Prop := ∃ e fr, g' = G fr cs ∧ R e w' ∧ fr.fn = f ∧ fr.leaving P w' e

theorem AtC.ret {P : Program} {f : FuncId} {fn : Func} {R : Ending → World → Prop} {b : Frame} {cs : List Frame} {k : List Item} {a : Act} {w : World} {v : Value} (hf : P.funcs[f]? = some fn) (hk : b.kind = .normal) (hbf : b.fn = f) (hd : a.defers = []) (hr : (results fn a.tmps).run P w = .ok v w) (hR : R (.returned v) w) :
    AtC P (Leaves P f R cs) b cs (.code .ret :: k) a w := by
  refine LoneTo.step step_ret (LoneTo.done ⟨.returned v, _, rfl, hR, hbf, rfl, hd, hk, fn, ?_, hr⟩)
  simpa [Frame.at, hbf] using hf

theorem calls_of_at {P : Program} {f : FuncId} {fn : Func} {c : Code} {args : Array Value} {w : World} {R : Ending → World → Prop} (hf : P.funcs[f]? = some fn) (hb : fn.body = some c)
    (h : ∀ (b : Frame) (cs : List Frame), b.kind = .normal → b.fn = f → AtC P (Leaves P f R cs) b cs [.code c] { tmps := args ++ Array.replicate (fn.ntmps - args.size) undef, defers := [] } w) (hno : ∀ w', ¬ R .outgrown w') : Calls P f args w R := by
  refine calls_of_loneTo (fun cs => ?_) hno
  have e : Frame.enter P f args .normal = ({ (default : Frame) with fn := f, kind := .normal } : Frame).at { tmps := args ++ Array.replicate (fn.ntmps - args.size) undef, defers := [] } [.code c] := by
    simp [Frame.enter, Frame.at, hf, hb]
  rw [e]
  exact h _ cs rfl rfl
end Go.Proofs.YtghbphdipdjekaaGreatDoor

/- impl's runner: one call done on its table. Conditions: the table lies where the runner's cell says; errors.errorType is laid. -/
namespace Go.Proofs.YtghbphdipdjekaaGreatDoor
open Go.RowKit Drw
attribute [local go_sem] Lab.val Rgt.val Cal.val Thg.val

set_option maxRecDepth 100000 in
set_option maxHeartbeats 4000000 in
theorem execute_c (E : Nat) (p : Option Addr) (cap : Nat) (ts : List Thg) (c : Cal) (w : World) (hL : Laid w) (he : w.cell? ⟨E, 0, none⟩ = some (.slice p ts.length cap)) (hf : ∀ j, w.frozen? ⟨E, j, none⟩ = false) (hT : TabAt w (.slice p ts.length cap) ts) :
    Calls Tryz.prog 64 #[.pointer (some ⟨E, 0, none⟩), c.val] w fun e w' => ∃ v xs tag, e = .returned (.int .i64 (callDo ts c).2) ∧ w'.cell? ⟨E, 0, none⟩ = some v ∧ (∀ j, w'.frozen? ⟨E, j, none⟩ = false) ∧ OwnTab w' (fun b => w.heap.size ≤ b) tag v xs ∧ xs.map (·.1) = (callDo ts c).1 ∧ Chg (fun b => b = E) w w' := by
  obtain ⟨us, an, hdo⟩ : ∃ us an, callDo ts c = (us, an) := ⟨_, _, rfl⟩
  rw [hdo]
  dsimp only
  have HL := Lib.hid hL
  have HT := Lib.hid hT
  have hE := World.block_lt_of_cell? _ _ he
  have HC := Lib.hid (fun (w' : World) (hb : Below w.heap.size w w') => callDo_c p cap ts c w' (HL.out.pure hb) (HT.out.pure hb))
  rw [hdo] at HC
  have HE := Lib.hid he
  have HF := Lib.hid hf
  obtain ⟨k0, k1, k2, k3, k4⟩ := c
  clear hL hT hdo
  go_enter Tryz.func64, Tryz.ntmps64
  go_upto_region 1 with (fail)
  generalize hwa : World.alloc _ _ = wa
  have hB0 : Below w.heap.size w wa := by rw [← hwa]; exact (by (repeat (with_reducible first | exact Below.refl _ _ | refine Below.alloc ?_ ?_ _ | refine below_drewN ?_ _ | refine Below.drew ?_ | refine Below.setCell ?_ ?_ _ | refine Below.trans ?_ (Below.mono (by assumption) ?_))) <;> (first | omega | (simp; try omega)))
  have hza : w.heap.size < wa.heap.size := by rw [← hwa]; simp
  have c0 : wa.cell? ⟨w.heap.size, 0, none⟩ = some (.int .i64 k0) := by rw [← hwa]; simp [go_sem]
  have c1 : wa.cell? ⟨w.heap.size, 1, none⟩ = some (.int .i64 k1) := by rw [← hwa]; simp [go_sem]
  have c2 : wa.cell? ⟨w.heap.size, 2, none⟩ = some (.int .i64 k2) := by rw [← hwa]; simp [go_sem]
  have c3 : wa.cell? ⟨w.heap.size, 3, none⟩ = some (.int .i64 k3) := by rw [← hwa]; simp [go_sem]
  have c4 : wa.cell? ⟨w.heap.size, 4, none⟩ = some (.int .i64 k4) := by rw [← hwa]; simp [go_sem]
  have e0 := ((bcell hB0).1 E 0 hE).trans he
  clear hwa he hf
  have hEa := Nat.lt_of_lt_of_le hE hB0.size
  have HS := Lib.hid (show ∀ w' : World, Below wa.heap.size wa w' → (Below wa.heap.size wa w' ∧ w'.cell? ⟨E, 0, none⟩ = some (.slice p ts.length cap) ∧ (w'.cell? ⟨w.heap.size, 0, none⟩ = some (.int .i64 k0) ∧ w'.cell? ⟨w.heap.size, 1, none⟩ = some (.int .i64 k1) ∧ w'.cell? ⟨w.heap.size, 2, none⟩ = some (.int .i64 k2) ∧ w'.cell? ⟨w.heap.size, 3, none⟩ = some (.int .i64 k3) ∧ w'.cell? ⟨w.heap.size, 4, none⟩ = some (.int .i64 k4))) from
    fun w' h => by
      obtain ⟨hc', -⟩ := bcell h
      exact ⟨h, (hc' _ _ hEa).trans e0, (hc' _ _ hza).trans c0, (hc' _ _ hza).trans c1, (hc' _ _ hza).trans c2, (hc' _ _ hza).trans c3, (hc' _ _ hza).trans c4⟩)
  have HB0 := Lib.hid hB0
  clear c0 c1 c2 c3 c4 e0 hB0
  first | (go_region_held3 (fun w' => Below wa.heap.size wa w' ∧ w'.cell? ⟨E, 0, none⟩ = some (.slice p ts.length cap) ∧ (w'.cell? ⟨w.heap.size, 0, none⟩ = some (.int .i64 k0) ∧ w'.cell? ⟨w.heap.size, 1, none⟩ = some (.int .i64 k1) ∧ w'.cell? ⟨w.heap.size, 2, none⟩ = some (.int .i64 k2) ∧ w'.cell? ⟨w.heap.size, 3, none⟩ = some (.int .i64 k3) ∧ w'.cell? ⟨w.heap.size, 4, none⟩ = some (.int .i64 k4)))
    (first | assumption | exact HS.out _ (Below.drew (Below.refl _ _)) | (have hX := And.left (by assumption : Below wa.heap.size wa _ ∧ _); exact HS.out _ (hX.trans (hb3.mono hX.size))))
    (first | (go_at_call 26; have hX := HB0.out.trans ((And.left (by assumption : Below wa.heap.size wa _ ∧ _)).mono HB0.out.size); refine (HC.out _ hX).mono ?_; rintro e w3 ⟨v, xs, tag, rfl, hO, hxs, hb3⟩))) | fail
  all_goals
    have hB3 : Below w.heap.size w w3 := HB0.out.trans ((And.left (by assumption : Below wa.heap.size wa w3 ∧ _)).mono HB0.out.size)
    have hz2 := hX.size
    have e3 := ((bcell hB3).1 E 0 hE).trans HE.out
    have f3 := ((bcell hB3).2 E 0 hE).trans (HF.out 0)
    have hE3 := Nat.lt_of_lt_of_le hE hB3.size
    have hg : Chg (fun b => b = E) w (w3.setCell ⟨E, 0, none⟩ v) := Chg.setCell (S := fun b => b = E) (Chg.of_pure hB3) (p := ⟨E, 0, none⟩) rfl v
    have hv : (w3.setCell ⟨E, 0, none⟩ v).cell? ⟨E, 0, none⟩ = some v := by rw [cell_set, if_pos rfl, e3]; rfl
    have hff : ∀ j, (w3.setCell ⟨E, 0, none⟩ v).frozen? ⟨E, j, none⟩ = false := fun j => by simp [(bcell hB3).2 E j hE, HF.out j]
    have hO' : OwnTab (w3.setCell ⟨E, 0, none⟩ v) (fun b => w.heap.size ≤ b) tag v xs := by
      have h1 := hO.imp (Q := fun b => w.heap.size ≤ b) (tag' := tag) (fun b hb _ => ⟨Nat.le_trans hz2 hb, rfl⟩)
      exact h1.chg (Chg.setCell (S := fun b => b = E) (Chg.refl _ _) (p := ⟨E, 0, none⟩) rfl v) (fun b hb _ h => by subst h; exact absurd hb (by omega))
    have Fin := Lib.hid (And.intro hg (And.intro hv (And.intro hff hO')))
    have Hxs := Lib.hid hxs
    obtain ⟨q, n, k, rfl⟩ : ∃ q n k, v = .slice q n k := by obtain ⟨q, k, e, -, -⟩ := hO.at'.len; exact ⟨q, _, k, e⟩
    clear hg hv hff hO' hxs hO hb3 hB3 hX
    go_wp2
    go_ret
    exact ⟨_, xs, tag, rfl, Fin.out.2.1, Fin.out.2.2.1, Fin.out.2.2.2, Hxs.out, Fin.out.1⟩
end Go.Proofs.YtghbphdipdjekaaGreatDoor

/- impl.RunAll: calls sent into a channel with room, the channel closed, and each call done as it is received. Conditions: the table and the calls lie where their cells say; errors.errorType is laid. -/
namespace Go.Proofs.YtghbphdipdjekaaGreatDoor
open Go.RowKit Drw
attribute [local go_sem] Lab.val Rgt.val Cal.val Thg.val

theorem mk40 (w : World) : (Instr.makeChan 82 (.int .i64 40)).run Tryz.prog w = .ok (.chan (some w.heap.size)) (w.alloc (.chan 40 #[] false 0 0 false)) := by
  obtain ⟨i, hi, -, -, hb⟩ := info_parts info_cal
  simpa using Go.Conc.run_makeChan (P := Tryz.prog) (w := w) Tryz.underlying82 hi .i64 40 (by omega) (by rw [hb]; omega)

theorem runAll_no (p : Option Addr) (cap : Nat) (ts : List Thg) (q : Option Addr) (c2 : Nat) (cs : List Cal) (w : World) (hT : TabAt w (.slice p ts.length cap) ts) (hC : CalsAt w (.slice q cs.length c2) cs) (hno : runCan ts cs = false) :
    Calls Tryz.prog 21 #[.slice p ts.length cap, .slice q cs.length c2] w fun e w' => e = .returned (.tuple #[.slice none 0 0, .slice none 0 0, .bool false]) ∧ Below w.heap.size w w' := by
  have Hno := Lib.hid hno
  have HT := Lib.hid hT
  have HC := Lib.hid hC
  clear hno hT hC
  go_enter Tryz.func21, Tryz.ntmps21
  go_wp2_with (go_at_call 56; refine (scriptOk_t (HT.out.pure (by (repeat (with_reducible first | exact Below.refl _ _ | refine Below.alloc ?_ ?_ _ | refine below_drewN ?_ _ | refine Below.drew ?_ | refine Below.setCell ?_ ?_ _ | refine Below.trans ?_ (Below.mono (by assumption) ?_))) <;> (first | omega | (simp; try omega)))) (HC.out.pure (by (repeat (with_reducible first | exact Below.refl _ _ | refine Below.alloc ?_ ?_ _ | refine below_drewN ?_ _ | refine Below.drew ?_ | refine Below.setCell ?_ ?_ _ | refine Below.trans ?_ (Below.mono (by assumption) ?_))) <;> (first | omega | (simp; try omega)))) Hno.out).mono ?_; rintro e w1 ⟨rfl, hb1⟩)
  go_ret3
  exact ⟨rfl, hb1⟩

theorem RunI.mono {B B' : Nat} {v : Value} {ts : List Thg} {s8 : Value} {zs : List Int} {w : World} (h : RunI B v ts s8 zs w) (hB : B' ≤ B) : RunI B' v ts s8 zs w := by
  obtain ⟨xs, tag, hO, hx, ho⟩ := h
  exact ⟨xs, tag, hO.imp fun b hb _ => ⟨⟨Nat.le_trans hB hb.1, hb.2⟩, rfl⟩, hx, own_mono ho hB⟩
theorem RunI.far {B : Nat} {v : Value} {ts : List Thg} {s8 : Value} {zs : List Int} {w w' : World} {c : Nat} (h : RunI B v ts s8 zs w) (hg : Chg (fun b => b = c) w w') (hc : c < B) : RunI B v ts s8 zs w' := by
  obtain ⟨xs, tag, hO, hx, ho⟩ := h
  exact ⟨xs, tag, hO.chg hg (fun b hb _ h => by have := hb.1; omega), hx, own_keepS ho hg (fun b hb h => by have := (ho.lt b hb).1; omega)⟩

def calBuf (cs : List Cal) : Array Value := (cs.map Cal.val).toArray

theorem Chg_frozen' {S : Nat → Prop} {w w' : World} (h : Chg S w w') {b : Nat} (hb : b < w.heap.size) (hs : ¬ S b) (hf : ∀ j, w.frozen? ⟨b, j, none⟩ = false) : ∀ j, w'.frozen? ⟨b, j, none⟩ = false := fun j =>
  (World.frozen?_of_block (a := ⟨b, j, none⟩) (h.block b hb hs)).trans (hf j)
theorem drop_at {cs : List Cal} {n : Nat} {c : Cal} (h : cs[n]? = some c) : cs.drop n = c :: cs.drop (n + 1) := by
  obtain ⟨hl, rfl⟩ := List.getElem?_eq_some_iff.1 h
  exact List.drop_eq_getElem_cons hl
theorem buf_head {cs : List Cal} {n : Nat} {c : Cal} (h : cs[n]? = some c) : (calBuf (cs.drop n)).getD 0 undef = c.val := by
  rw [drop_at h]; simp [calBuf]
theorem buf_tail {cs : List Cal} {n : Nat} {c : Cal} (h : cs[n]? = some c) : (calBuf (cs.drop n)).extract 1 (calBuf (cs.drop n)).size = calBuf (cs.drop (n + 1)) := by
  rw [drop_at h]
  apply Array.toList_inj.1
  simp [calBuf]
  apply List.take_of_length_le
  simp
theorem buf_size (cs : List Cal) : (calBuf cs).size = cs.length := by simp [calBuf]
theorem setChan_chg (w : World) (c cap : Nat) (buf : Array Value) (cl : Bool) (s r : Nat) (tm : Bool) : Chg (fun b => b = c) w (w.setChan c cap buf cl s r tm) :=
  ⟨rfl, rfl, rfl, by simp [World.setChan], fun k hk hn => by simp only [World.setChan]; rw [Array.getElem?_setIfInBounds_ne (by omega)]⟩

set_option maxRecDepth 100000 in
set_option maxHeartbeats 4000000 in
theorem runAll_yes (p : Option Addr) (cap : Nat) (ts : List Thg) (q : Option Addr) (c2 : Nat) (cs : List Cal) (w : World) (hL : Laid w) (hT : TabAt w (.slice p ts.length cap) ts) (hC : CalsAt w (.slice q cs.length c2) cs) (hyes : runCan ts cs = true) :
    Calls Tryz.prog 21 #[.slice p ts.length cap, .slice q cs.length c2] w fun e w' => ∃ v v2, e = .returned (.tuple #[v, v2, .bool true]) ∧ RunI w.heap.size v (runDo ts cs).1 v2 (runDo ts cs).2 w' ∧ Below w.heap.size w w' := by
  obtain ⟨_, _, h1, hl1, hl2⟩ := hC.len
  cases h1
  unfold maxLen at hl2
  have hcan := runCan_iff.1 hyes
  have h40 : cs.length ≤ 40 := hcan.2.1
  have Hcan := Lib.hid hcan.2.2
  have Hyes := Lib.hid hyes
  have HT := Lib.hid hT
  have HC := Lib.hid hC
  have HL := Lib.hid hL
  have HSh := Lib.hid (short_of_tab hcan.1)
  have Hts := Lib.hid (tab_iff.1 hcan.1).1
  have ht8 : ts.length ≤ 65536 := by have := Hts.out; omega
  clear hyes hT hC hL hcan
  have hmc := mk40
  refine calls_of_at Tryz.func21 rfl (fun b0 cs0 hk hfn => ?_) (by rintro w' ⟨v, v2, h, -⟩; cases h)
  simp only [Tryz.ntmps21, List.size_toArray, List.length_cons, List.length_nil, Nat.reduceAdd, Nat.reduceSub, Array.replicate_succ,
     Array.replicate_zero, List.push_toArray, List.append_toArray, List.nil_append, List.cons_append]
  refine AtC.seq (AtC.code fun K hK => ?_)
  go_wp2
  refine AtC.seq (AtC.code fun K hK => ?_)
  go_wp2_with (go_at_call 56; refine (scriptOk_t (HT.out.pure (by (repeat (with_reducible first | exact Below.refl _ _ | refine Below.alloc ?_ ?_ _ | refine below_drewN ?_ _ | refine Below.drew ?_ | refine Below.setCell ?_ ?_ _ | refine Below.trans ?_ (Below.mono (by assumption) ?_))) <;> (first | omega | (simp; try omega)))) (HC.out.pure (by (repeat (with_reducible first | exact Below.refl _ _ | refine Below.alloc ?_ ?_ _ | refine below_drewN ?_ _ | refine Below.drew ?_ | refine Below.setCell ?_ ?_ _ | refine Below.trans ?_ (Below.mono (by assumption) ?_))) <;> (first | omega | (simp; try omega)))) Hyes.out).mono ?_; rintro e w1 ⟨rfl, hb1⟩)
  refine AtC.seq (AtC.code fun K hK => ?_)
  go_wp2
  refine AtC.seq (AtC.seq (AtC.code fun K hK => ?_))
  go_wp2
  refine AtC.block ?_
  have hc0 : (w1.alloc (.chan 40 #[] false 0 0 false)).heap[w1.heap.size]? = some (.chan 40 (calBuf (cs.take 0)) false 0 0 false) := heap_alloc_new _ _
  have hB0 : Below w1.heap.size w1 (w1.alloc (.chan 40 #[] false 0 0 false)) := (by (repeat (with_reducible first | exact Below.refl _ _ | refine Below.alloc ?_ ?_ _ | refine below_drewN ?_ _ | refine Below.drew ?_ | refine Below.setCell ?_ ?_ _ | refine Below.trans ?_ (Below.mono (by assumption) ?_))) <;> (first | omega | (simp; try omega)))
  generalize w1.alloc (.chan 40 #[] false 0 0 false) = wa at hc0 hB0 ⊢
  have Hb1 := Lib.hid hb1
  have Hc0 := Lib.hid hc0
  clear hc0 hb1
  refine AtC.loop (fun a wr => ∃ (i : Nat) (u9 u22 u23 u24 u25 u26 u27 : Value), a = ⟨#[.slice p ts.length cap, .slice q cs.length c2, undef, undef, .slice none 0 0, .slice none 0 0, .bool false, .chan (some w1.heap.size), undef, u9, undef, undef, undef, undef, .slice p ts.length cap, .slice q cs.length c2, .bool true, .bool false, .chan (some w1.heap.size), .slice q cs.length c2, .int .i64 (cs.length : Int), .int .i64 (i : Int), u22, u23, u24, u25, u26, u27, undef, undef, undef, undef, undef, undef, undef, undef, undef, undef, undef, undef, undef, undef, undef, undef, undef, undef, undef, undef, undef, undef], []⟩ ∧ i ≤ cs.length ∧ wr.heap[w1.heap.size]? = some (.chan 40 (calBuf (cs.take i)) false i 0 false) ∧ Below w1.heap.size w1 wr) (fun a _ => cs.length - (intOf (a.tmps.getD 21 undef)).toNat) ⟨0, undef, undef, undef, undef, undef, undef, undef, rfl, by omega, Hc0.out, hB0⟩ ?_
  rintro a wr ⟨i, u9, u22, u23, u24, u25, u26, u27, rfl, hi, hch, hB⟩ hrec
  have Hch := Lib.hid hch
  have HB := Lib.hid hB
  have Hrec := Lib.hid hrec
  have hBw : Below w.heap.size w wr := Hb1.out.trans (hB.mono Hb1.out.size)
  have hzr : w1.heap.size < wr.heap.size := (Array.getElem?_eq_some_iff.1 hch).1
  clear hch hB hrec hB0
  refine AtC.seq (AtC.code fun K hK => ?_)
  by_cases hlt : i < cs.length
  · obtain ⟨c, hc⟩ : ∃ c, cs[i]? = some c := ⟨_, List.getElem?_eq_getElem hlt⟩
    obtain ⟨b, o, rfl, hb, c0, c1, c2', c3, c4⟩ := (HC.out.pure hBw).at i c hc
    have Hc := Lib.hid hc
    obtain ⟨k0, k1, k2, k3, k4⟩ := c
    dsimp only at c0 c1 c2' c3 c4
    have hj0 : (0 : Int) ≤ (i : Int) := by omega
    have hju : (i : Int) < (cs.length : Int) := by omega
    clear hc
    go_wp2
    refine AtC.seq (AtC.yes rfl (AtC.skip ?_))
    refine AtC.seq (AtC.block (AtC.seq (AtC.code fun K hK => ?_)))
    go_wp2
    generalize hwv : World.alloc wr _ = wv
    have hBv : Below wr.heap.size wr wv := by rw [← hwv]; exact (by (repeat (with_reducible first | exact Below.refl _ _ | refine Below.alloc ?_ ?_ _ | refine below_drewN ?_ _ | refine Below.drew ?_ | refine Below.setCell ?_ ?_ _ | refine Below.trans ?_ (Below.mono (by assumption) ?_))) <;> (first | omega | (simp; try omega)))
    have hcv : wv.heap[w1.heap.size]? = some (.chan 40 (calBuf (cs.take i)) false i 0 false) := by rw [(Chg.of_pure (S := fun _ => False) hBv).block _ hzr (fun h => h)]; exact Hch.out
    have d0 : wv.cell? ⟨wr.heap.size, 0, none⟩ = some (.int .i64 k0) ∧ wv.cell? ⟨wr.heap.size, 1, none⟩ = some (.int .i64 k1) ∧ wv.cell? ⟨wr.heap.size, 2, none⟩ = some (.int .i64 k2) ∧ wv.cell? ⟨wr.heap.size, 3, none⟩ = some (.int .i64 k3) ∧ wv.cell? ⟨wr.heap.size, 4, none⟩ = some (.int .i64 k4) := by rw [← hwv]; simp [go_sem]
    obtain ⟨d0, d1, d2, d3, d4⟩ := d0
    clear hwv
    refine AtC.region ?_
    simp only [List.size_toArray, List.length_cons, List.length_nil, Nat.reduceAdd, Nat.zero_add, List.range, List.range.loop]
    refine AtC.op rfl rfl (v := .chan (some w1.heap.size)) (w' := wv) (by simp [go_sem]) ?_
    simp only [Act.put, List.setIfInBounds_toArray, List.set_cons_zero, List.set_cons_succ]
    refine AtC.op rfl rfl (v := .agg #[.int .i64 k0, .int .i64 k1, .int .i64 k2, .int .i64 k3, .int .i64 k4]) (w' := wv) (by simp [go_sem, d0, d1, d2, d3, d4]) ?_
    simp only [Act.put, List.setIfInBounds_toArray, List.set_cons_zero, List.set_cons_succ]
    have hsz : (calBuf (cs.take i)).size < 40 := by simp [calBuf]; omega
    refine AtC.send hk rfl rfl (c := w1.heap.size) (v := .agg #[.int .i64 k0, .int .i64 k1, .int .i64 k2, .int .i64 k3, .int .i64 k4]) (z := .tuple #[]) (w₁ := wv) (by simp [execOp, Go.Conc.scase, Act.eval]) hcv hsz ?_
    simp only [Act.put, List.setIfInBounds_toArray, List.set_cons_zero, List.set_cons_succ]
    have hBs : Below w1.heap.size w1 (wv.setChan w1.heap.size 40 ((calBuf (cs.take i)).push (.agg #[.int .i64 k0, .int .i64 k1, .int .i64 k2, .int .i64 k3, .int .i64 k4])) false (i + 1) 0 false) := Go.Conc.below_setChan (HB.out.trans (hBv.mono HB.out.size)) (Nat.le_refl _) _ _ _ _ _ _
    have hcs : (wv.setChan w1.heap.size 40 ((calBuf (cs.take i)).push (.agg #[.int .i64 k0, .int .i64 k1, .int .i64 k2, .int .i64 k3, .int .i64 k4])) false (i + 1) 0 false).heap[w1.heap.size]? = some (.chan 40 (calBuf (cs.take (i + 1))) false (i + 1) 0 false) := by
      rw [Go.Conc.heap_setChan _ _ _ _ _ _ _ _ (Array.getElem?_eq_some_iff.1 hcv).1]
      rw [take_one Hc.out]
      simp [calBuf, Cal.val]
    generalize wv.setChan _ _ _ _ _ _ _ = wt at hBs hcs ⊢
    clear d0 d1 d2 d3 d4 hcv hBv
    refine AtC.regionEnd (AtC.inBlock (AtC.code fun K hK => ?_))
    go_wp2
    exact Hrec.out _ _ ⟨i + 1, _, _, _, _, _, _, _, by rfl, by omega, hcs, hBs⟩ (by simp [intOf]; omega)
  · have hil : i = cs.length := by omega
    have Hil := Lib.hid hil
    clear hil
    go_wp2
    refine AtC.seq (AtC.no rfl (AtC.exit rfl ?_))
    have hcl := fun ats ty => run_close_open (P := Tryz.prog) (w := wr) ats ty Hch.out
    refine AtC.seq (AtC.code fun K hK => ?_)
    go_wp2
    clear hcl
    change AtC _ _ _ _ _ _ (wr.setChan w1.heap.size 40 (calBuf (cs.take i)) true i 0 false)
    have hBc : Below w1.heap.size w1 (wr.setChan w1.heap.size 40 (calBuf (cs.take i)) true i 0 false) := Go.Conc.below_setChan HB.out (Nat.le_refl _) _ _ _ _ _ _
    have hcc : (wr.setChan w1.heap.size 40 (calBuf (cs.take i)) true i 0 false).heap[w1.heap.size]? = some (.chan 40 (calBuf (cs.drop 0)) true cs.length 0 false) := by
      rw [Go.Conc.heap_setChan _ _ _ _ _ _ _ _ hzr, Hil.out, List.take_length, List.drop_zero]
    generalize wr.setChan _ _ _ _ _ _ _ = wc at hBc hcc ⊢
    have hBwc : Below w.heap.size w wc := Hb1.out.trans (hBc.mono Hb1.out.size)
    have Hcc := Lib.hid hcc
    have HBwc := Lib.hid hBwc
    have hzc : w1.heap.size < wc.heap.size := (Array.getElem?_eq_some_iff.1 hcc).1
    have hzw1 : w.heap.size ≤ w1.heap.size := Hb1.out.size
    clear hBc hcc hBwc hBw Hch HB Hrec
    refine AtC.seq (AtC.code fun K hK => ?_)
    go_wp2_with (go_at_call 63; refine (copyTable_c p cap ts wc (HT.out.pure HBwc.out) ht8 HSh.out).mono ?_; rintro e w2 ⟨v0, xs0, tag0, rfl, hO, hxs, hb2⟩; obtain ⟨qv0, nv0, kv0, rfl⟩ : ∃ q n k, v0 = .slice q n k := (by obtain ⟨q, k, e, -, -⟩ := hO.at'.len; exact ⟨q, _, k, e⟩))
    have hz2 : wc.heap.size ≤ w2.heap.size := hb2.size
    generalize hwv : World.alloc w2 _ = wv
    have hBv2 : Below w2.heap.size w2 wv := by rw [← hwv]; exact (by (repeat (with_reducible first | exact Below.refl _ _ | refine Below.alloc ?_ ?_ _ | refine below_drewN ?_ _ | refine Below.drew ?_ | refine Below.setCell ?_ ?_ _ | refine Below.trans ?_ (Below.mono (by assumption) ?_))) <;> (first | omega | (simp; try omega)))
    have hzv : w2.heap.size < wv.heap.size := by rw [← hwv]; simp
    have he : wv.cell? ⟨w2.heap.size, 0, none⟩ = some (.slice qv0 nv0 kv0) := by rw [← hwv]; simp [go_sem]
    have hef : ∀ j, wv.frozen? ⟨w2.heap.size, j, none⟩ = false := fun j => by rw [← hwv]; simp [go_sem]
    have hBcv : Below wc.heap.size wc wv := hb2.trans (hBv2.mono hz2)
    have hcv : wv.heap[w1.heap.size]? = some (.chan 40 (calBuf (cs.drop 0)) true cs.length 0 false) := by rw [(Chg.of_pure (S := fun _ => False) hBcv).block _ hzc (fun h => h)]; exact Hcc.out
    have hBwv : Below w.heap.size w wv := HBwc.out.trans (hBcv.mono HBwc.out.size)
    have hR0 : RunI (w1.heap.size + 1) (.slice qv0 nv0 kv0) (runDo ts (cs.take 0)).1 (.slice none 0 0) (runDo ts (cs.take 0)).2 wv := by
      refine ⟨xs0, tag0, ?_, hxs, World.ownsRow_nil _ _ _ _⟩
      exact (hO.pure hBv2).imp fun b hb _ => ⟨⟨Nat.le_trans hzc hb, by simp [Value.ownBlock]⟩, rfl⟩
    have H0 := Lib.hid (And.intro he (And.intro hef (And.intro hcv (And.intro hBwv hR0))))
    clear hwv he hef hcv hBwv hR0 hO hxs hb2 hBv2 hBcv
    refine AtC.seq (AtC.code fun K hK => ?_)
    go_wp2
    refine AtC.seq (AtC.code fun K hK => ?_)
    go_wp2
    refine AtC.seq (AtC.seq (AtC.code fun K hK => ?_))
    go_wp2
    refine AtC.block ?_
    refine AtC.loop (fun a wt => ∃ (n : Nat) (v s12 u13 u36 u37 u38 u39 u40 u41 u42 u43 u44 : Value), a = ⟨#[.slice p ts.length cap, .slice q cs.length c2, undef, undef, .slice none 0 0, .slice none 0 0, .bool false, .chan (some w1.heap.size), undef, u9, .pointer (some ⟨w2.heap.size, 0, none⟩), .func (.func 64) #[.pointer (some ⟨w2.heap.size, 0, none⟩)] #[], s12, u13, .slice p ts.length cap, .slice q cs.length c2, .bool true, .bool false, .chan (some w1.heap.size), .slice q cs.length c2, .int .i64 (cs.length : Int), .int .i64 (i : Int), .bool false, u23, u24, u25, u26, u27, .chan (some w1.heap.size), .slice p ts.length cap, (.slice qv0 nv0 kv0), .agg #[(.slice qv0 nv0 kv0)], .pointer (some ⟨w2.heap.size, 0, none⟩), .pointer (some ⟨w2.heap.size, 0, none⟩), .func (.func 64) #[.pointer (some ⟨w2.heap.size, 0, none⟩)] #[], .chan (some w1.heap.size), u36, u37, u38, u39, u40, u41, u42, u43, u44, undef, undef, undef, undef, undef], []⟩ ∧ n ≤ cs.length ∧ wt.heap[w1.heap.size]? = some (.chan 40 (calBuf (cs.drop n)) true cs.length n false) ∧ wt.cell? ⟨w2.heap.size, 0, none⟩ = some v ∧ (∀ j, wt.frozen? ⟨w2.heap.size, j, none⟩ = false) ∧ RunI (w1.heap.size + 1) v (runDo ts (cs.take n)).1 s12 (runDo ts (cs.take n)).2 wt ∧ (runDo ts (cs.take n)).2.length = n ∧ (∀ b, s12.ownBlock = some b → w2.heap.size < b) ∧ Below w.heap.size w wt)
      (fun _ wt => match wt.heap[w1.heap.size]? with | some (.chan _ buf _ _ _ _) => buf.size | _ => 0) ⟨0, (.slice qv0 nv0 kv0), .slice none 0 0, undef, undef, undef, undef, undef, undef, undef, undef, undef, undef, rfl, by omega, H0.out.2.2.1, H0.out.1, H0.out.2.1, H0.out.2.2.2.2, rfl, fun b h => by simp [Value.ownBlock] at h, H0.out.2.2.2.1⟩ ?_
    rintro a wt ⟨n, v, s12, u13, u36, u37, u38, u39, u40, u41, u42, u43, u44, rfl, hn, hch, he, hef, hR, hlen, hsb, hB⟩ hrec
    obtain ⟨us, hus⟩ : ∃ us, (runDo ts (cs.take n)).1 = us := ⟨_, rfl⟩
    obtain ⟨zs, hzs⟩ : ∃ zs, (runDo ts (cs.take n)).2 = zs := ⟨_, rfl⟩
    rw [hus, hzs] at hR
    rw [hzs] at hlen
    have Hus := Lib.hid hus
    have Hzs := Lib.hid hzs
    have Hlen := Lib.hid hlen
    have HR := Lib.hid hR
    have HB := Lib.hid hB
    have Hrec := Lib.hid hrec
    have Hsb := Lib.hid hsb
    have Hch := Lib.hid hch
    have hzB := hB.size
    have hEt := World.block_lt_of_cell? _ _ he
    have hCt : w1.heap.size < wt.heap.size := (Array.getElem?_eq_some_iff.1 hch).1
    have He := Lib.hid (And.intro he hef)
    clear hus hzs hlen hR hrec hsb hch he hef
    refine AtC.seq (AtC.region ?_)
    simp only [List.size_toArray, List.length_cons, List.length_nil, Nat.reduceAdd, Nat.zero_add, List.range, List.range.loop]
    by_cases hlt : n < cs.length
    · obtain ⟨c, hc⟩ : ∃ c, cs[n]? = some c := ⟨_, List.getElem?_eq_getElem hlt⟩
      obtain ⟨hr1, hr2, hr3, hr4⟩ := run_at (runCan_iff.1 Hyes.out).1 Hcan.out hc
      rw [Hus.out] at hr1 hr2 hr3 hr4
      rw [Hzs.out] at hr4
      have Hc := Lib.hid hc
      have hsz : 0 < (calBuf (cs.drop n)).size := by rw [buf_size, List.length_drop]; omega
      have hcd := callDo_can hr3
      obtain ⟨us', a', hd2⟩ : ∃ us' a', do2 us c = (us', a') := ⟨_, _, rfl⟩
      rw [hd2] at hr4 hcd
      dsimp only at hr4
      have Hr4 := Lib.hid hr4
      have Hcd := Lib.hid hcd
      refine AtC.recv hk rfl rfl (c := w1.heap.size) (z := .agg #[.int .i64 0, .int .i64 0, .int .i64 0, .int .i64 0, .int .i64 0]) (w₁ := wt) (by simp [go_sem, Go.Conc.rcase]) Hch.out hsz ?_
      simp only [Act.put, List.setIfInBounds_toArray, List.set_cons_zero, List.set_cons_succ]
      rw [buf_head Hc.out, buf_tail Hc.out]
      have hgu : Chg (fun b => b = w1.heap.size) wt (wt.setChan w1.heap.size 40 (calBuf (cs.drop (n + 1))) true cs.length (n + 1) false) := setChan_chg _ _ _ _ _ _ _ _
      have hcu := Go.Conc.heap_setChan wt w1.heap.size 40 (calBuf (cs.drop (n + 1))) true cs.length (n + 1) false hCt
      generalize wt.setChan _ _ _ _ _ _ _ = wu at hgu hcu ⊢
      have hEu : w2.heap.size ≠ w1.heap.size := by omega
      have heu := hgu.cell He.out.1 hEu
      have hefu := Chg_frozen' hgu hEt hEu He.out.2
      have hRu := HR.out.far hgu (Nat.lt_succ_self _)
      have hBu : Below w.heap.size w wu := HB.out.trans (hgu.below hzB (fun k hk h => by omega))
      obtain ⟨k0, k1, k2, k3, k4⟩ := c
      clear hc hr1 hr2 hr3 hr4 hcd hd2 hsz hgu
      refine AtC.op rfl rfl (v := .bool true) (w' := wu) (by simp [go_sem]) ?_
      simp only [Act.put, List.setIfInBounds_toArray, List.set_cons_zero, List.set_cons_succ]
      refine AtC.regionEnd (AtC.seq (AtC.yes rfl (AtC.skip ?_)))
      refine AtC.block (AtC.seq (AtC.code fun K hK => ?_))
      dsimp only [Cal.val]
      go_wp2
      generalize hwx : World.alloc wu _ = wx
      have hBx : Below wu.heap.size wu wx := by rw [← hwx]; exact (by (repeat (with_reducible first | exact Below.refl _ _ | refine Below.alloc ?_ ?_ _ | refine below_drewN ?_ _ | refine Below.drew ?_ | refine Below.setCell ?_ ?_ _ | refine Below.trans ?_ (Below.mono (by assumption) ?_))) <;> (first | omega | (simp; try omega)))
      have d : wx.cell? ⟨wu.heap.size, 0, none⟩ = some (.int .i64 k0) ∧ wx.cell? ⟨wu.heap.size, 1, none⟩ = some (.int .i64 k1) ∧ wx.cell? ⟨wu.heap.size, 2, none⟩ = some (.int .i64 k2) ∧ wx.cell? ⟨wu.heap.size, 3, none⟩ = some (.int .i64 k3) ∧ wx.cell? ⟨wu.heap.size, 4, none⟩ = some (.int .i64 k4) := by rw [← hwx]; simp [go_sem]
      obtain ⟨d0, d1, d2, d3, d4⟩ := d
      have hEu' := World.block_lt_of_cell? _ _ heu
      have hex := ((bcell hBx).1 _ _ hEu').trans heu
      have hefx : ∀ j, wx.frozen? ⟨w2.heap.size, j, none⟩ = false := fun j => ((bcell hBx).2 _ _ hEu').trans (hefu j)
      have hCu : w1.heap.size < wu.heap.size := (Array.getElem?_eq_some_iff.1 hcu).1
      have hcx : wx.heap[w1.heap.size]? = some (.chan 40 (calBuf (cs.drop (n + 1))) true cs.length (n + 1) false) := by rw [(Chg.of_pure (S := fun _ => False) hBx).block _ hCu (fun h => h)]; exact hcu
      have hRx := hRu.chg hBx
      have hBwx : Below w.heap.size w wx := hBu.trans (hBx.mono hBu.size)
      have hEx : w2.heap.size < wx.heap.size := Nat.lt_of_lt_of_le hEu' hBx.size
      have hCx : w1.heap.size < wx.heap.size := Nat.lt_of_lt_of_le hCu hBx.size
      clear hwx hBx heu hefu hcu hRu hBu
      obtain ⟨xs1, tag1, hO1, hx1, ho1⟩ := hRx
      have hTx := hO1.at'
      rw [hx1] at hTx
      obtain ⟨qv, kv, rfl, -, -⟩ := hTx.len
      obtain ⟨q12, c12, rfl⟩ := own_slice_n ho1
      have hX := execute_c w2.heap.size qv kv us ⟨k0, k1, k2, k3, k4⟩ wx (HL.out.pure hBwx) hex hefx hTx
      rw [Hcd.out] at hX
      dsimp only at hX
      have HX := Lib.hid hX
      have Hcx := Lib.hid hcx
      have Ho1 := Lib.hid ho1
      have HBwx := Lib.hid hBwx
      have hzx := hBwx.size
      have eg : ∀ args w, (callFunc 64 args).run Tryz.prog w = .ok (.enter 64 args) w := fun _ _ => by kernel_rfl
      clear hX hcx hO1 hx1 ho1 hTx hBwx hex hefx
      obtain ⟨i0, hi0, hz0, hz1, hz2'⟩ := info_parts info_int
      have hzl : zs.length ≤ 40 := by have := Hlen.out; omega
      refine AtC.code fun K hK => ?_
      go_wp2_with (first
        | (go_at_fn 64; refine HX.out.mono ?_; rintro e w5 ⟨v5, xs5, tag5, rfl, he5, hef5, hO5, hx5, hg5⟩; have hown5 := Lib.hid (own_keepS Ho1.out hg5 (fun b h e => by have := Hsb.out b h; omega)); have H5 := Lib.hid (And.intro he5 (And.intro hef5 (And.intro hO5 (And.intro hx5 hg5)))); have hz5 := hg5.size; clear he5 hef5 hO5 hx5 hg5)
        | (at_builtin; refine wpList_append_own_at _ rfl (.tmp 39) (.tmp 43) 32 rfl (w1.heap.size + 1) 3 i0 _ 1 8 Tryz.underlying32 hi0 hz0 hz1 hz2' rfl (by decide) (.slice q12 zs.length c12) zs.length ((zs.map intCells).flatten) rfl (own_below hown5.out (by (repeat (with_reducible first | exact Below.refl _ _ | refine Below.alloc ?_ ?_ _ | refine below_drewN ?_ _ | refine Below.drew ?_ | refine Below.setCell ?_ ?_ _ | refine Below.trans ?_ (Below.mono (by assumption) ?_))) <;> (first | omega | (simp; try omega)))) ⟨w5.heap.size, 0, none⟩ 1 1 [.int .i64 a'] rfl rfl (cell_one_new _ _ _) (by intro u hu; rw [List.mem_singleton] at hu; subst hu; rfl) (by unfold maxLen; omega) (by omega) (by simp; omega) ?_; intro v6 w6 ho6 hg6 _ hat6))
      obtain ⟨he5, hef5, hO5, hx5, hg5⟩ := H5.out
      have hA5 : Below w5.heap.size w5 (w5.alloc (.cells #[.int .i64 a'] 3)) := (by (repeat (with_reducible first | exact Below.refl _ _ | refine Below.alloc ?_ ?_ _ | refine below_drewN ?_ _ | refine Below.drew ?_ | refine Below.setCell ?_ ?_ _ | refine Below.trans ?_ (Below.mono (by assumption) ?_))) <;> (first | omega | (simp; try omega)))
      have hR5 : RunI (w1.heap.size + 1) v5 us' (.slice q12 zs.length c12) zs w5 := ⟨xs5, tag5, hO5.imp fun b hb _ => ⟨⟨by omega, fun e => by have := (Ho1.out.lt b e).2; omega⟩, rfl⟩, hx5, hown5.out⟩
      have hR6 := RunI.put (hR5.chg hA5) ho6 hg6 hat6
      have hE5 := World.block_lt_of_cell? _ _ he5
      have hrow : ∀ b, (Value.slice q12 zs.length c12).ownBlock = some b → w2.heap.size < b := Hsb.out
      have he6 : w6.cell? ⟨w2.heap.size, 0, none⟩ = some v5 := hg6.cell (((bcell hA5).1 _ _ hE5).trans he5) (fun e => absurd (hrow _ e.symm) (Nat.lt_irrefl _))
      have hef6 : ∀ j, w6.frozen? ⟨w2.heap.size, j, none⟩ = false := Chg_frozen' (Chg.of_grown hg6) (by simp; omega) (fun e => absurd (hrow _ e.symm) (Nat.lt_irrefl _)) (fun j => ((bcell hA5).2 _ _ hE5).trans (hef5 j))
      have hc5 : w5.heap[w1.heap.size]? = some (.chan 40 (calBuf (cs.drop (n + 1))) true cs.length (n + 1) false) := by rw [hg5.block _ hCx (by omega)]; exact Hcx.out
      have hc6 : w6.heap[w1.heap.size]? = some (.chan 40 (calBuf (cs.drop (n + 1))) true cs.length (n + 1) false) := by
        rw [hg6.block _ (by simp; omega) (fun e => by have := hrow _ e.symm; omega), (Chg.of_pure (S := fun _ => False) hA5).block _ (by omega) (fun h => h)]
        exact hc5
      have hB6 : Below w.heap.size w w6 := Below.grown ((HBwx.out.trans (hg5.below hzx (fun k hk h => by omega))).alloc (by omega) _) hg6 (by simp; omega) (fun k hk => by have := hrow _ hk; omega)
      have hs6 : ∀ b, v6.ownBlock = some b → w2.heap.size < b := fun b hb => by
        rcases hat6 with h | h
        · exact hrow b (h ▸ hb)
        · rw [h] at hb
          have := Option.some.inj hb
          simp at this
          omega
      have fin : RunI (w1.heap.size + 1) v5 (runDo ts (cs.take (n + 1))).1 v6 (runDo ts (cs.take (n + 1))).2 w6 ∧ (runDo ts (cs.take (n + 1))).2.length = n + 1 := by
        rw [Hr4.out]
        exact ⟨hR6, by simp [Hlen.out]⟩
      have Fin := Lib.hid (And.intro hc6 (And.intro he6 (And.intro hef6 (And.intro fin (And.intro hs6 hB6)))))
      clear he5 hef5 hO5 hx5 hg5 hA5 hR5 hR6 hE5 hrow he6 hef6 hc5 hc6 hB6 hs6 fin ho6 hg6 hat6 H5 hown5
      go_wp2
      refine AtC.inBlock (Hrec.out _ _ ⟨n + 1, v5, v6, _, _, _, _, _, _, _, _, _, _, by rfl, by omega, Fin.out.1, Fin.out.2.1, Fin.out.2.2.1, Fin.out.2.2.2.1.1, Fin.out.2.2.2.1.2, Fin.out.2.2.2.2.1, Fin.out.2.2.2.2.2⟩ ?_)
      simp only [Fin.out.1, Hch.out, buf_size, List.length_drop]
      omega
    · have hnl : n = cs.length := by omega
      have hdr : calBuf (cs.drop n) = #[] := by rw [hnl]; simp [calBuf]
      have hch' := Hch.out
      rw [hdr] at hch'
      refine AtC.shut hk rfl rfl (c := w1.heap.size) (z := .agg #[.int .i64 0, .int .i64 0, .int .i64 0, .int .i64 0, .int .i64 0]) (w₁ := wt) (by simp [go_sem, Go.Conc.rcase]) hch' ?_
      simp only [Act.put, List.setIfInBounds_toArray, List.set_cons_zero, List.set_cons_succ]
      refine AtC.op rfl rfl (v := .bool false) (w' := wt) (by simp [go_sem]) ?_
      simp only [Act.put, List.setIfInBounds_toArray, List.set_cons_zero, List.set_cons_succ]
      refine AtC.regionEnd (AtC.seq (AtC.no rfl (AtC.exit rfl ?_)))
      have h1 := Hus.out
      have h2 := Hzs.out
      rw [hnl, List.take_length] at h1 h2
      have hRf := HR.out.mono (show w.heap.size ≤ w1.heap.size + 1 by omega)
      rw [← h1, ← h2] at hRf
      have HRf := Lib.hid hRf
      obtain ⟨he, hef⟩ := He.out
      obtain ⟨qv, nv, kv, rfl⟩ : ∃ q n k, v = .slice q n k := by
        obtain ⟨xs, tag, hO, -, -⟩ := hRf
        obtain ⟨q, k, e, -, -⟩ := hO.at'.len
        exact ⟨q, _, k, e⟩
      obtain ⟨q12, n12, c12, rfl⟩ : ∃ q n k, s12 = .slice q n k := by
        obtain ⟨xs, tag, -, -, ho⟩ := hRf
        obtain ⟨q, k, e⟩ := own_slice_n ho
        exact ⟨q, _, k, e⟩
      clear hch' hdr hnl h1 h2 hRf hef
      refine AtC.seq (AtC.code fun K hK => ?_)
      go_wp2
      refine AtC.ret Tryz.func21 hk hfn rfl (v := .tuple #[.slice qv nv kv, .slice q12 n12 c12, .bool true]) (by simp [results, Tryz.results21, go_sem]) ⟨_, _, rfl, HRf.out, HB.out⟩
end Go.Proofs.YtghbphdipdjekaaGreatDoor
