/- Calls: what is asked of one ahead of it, both sides. Conditions: the table lies where its cells say. -/
import Derived.Test.YtghbphdipdjekaaGreatDoorG
import Derived.Test.YtghbphdipdjekaaGreatDoorMa
import Derived.LaidEql
import Derived.Stop.Asserts
import Derived.RowKitTokens
set_option linter.unusedVariables false
set_option linter.unusedSimpArgs false
namespace Go.Proofs.YtghbphdipdjekaaGreatDoor
open Go.RowKit Drw
attribute [local go_sem] Lab.val Rgt.val Cal.val Thg.val

set_option maxRecDepth 100000 in
set_option maxHeartbeats 1000000 in
theorem callOk_c (c : Cal) (w : World) :
    Calls Tryz.prog 80 #[c.val] w fun e w' => e = .returned (.bool (calOk c)) ∧ Below w.heap.size w w' := by
  obtain ⟨k, r, a, b, n⟩ := c
  go_enter Tryz.func80, Tryz.ntmps80
  go_wp2_with (go_at_call 73; refine (inRange_c _ _ _ _).mono ?_; rintro e w' ⟨rfl, rfl⟩)
  all_goals (go_ret; exact ⟨ret_bool (by simp [calOk, *]), (by (repeat (with_reducible first | exact Below.refl _ _ | refine Below.alloc ?_ ?_ _ | refine below_drewN ?_ _ | refine Below.drew ?_ | refine Below.setCell ?_ ?_ _ | refine Below.trans ?_ (Below.mono (by assumption) ?_))) <;> (first | omega | (simp; try omega)))⟩)

set_option maxRecDepth 100000 in
set_option maxHeartbeats 1000000 in
theorem scallOk_c (c : Cal) (w : World) :
    Calls Tryz.prog 83 #[c.val] w fun e w' => e = .returned (.bool (calOk c)) ∧ Below w.heap.size w w' := by
  obtain ⟨k, r, a, b, n⟩ := c
  go_enter Tryz.func83, Tryz.ntmps83
  go_wp2_with (go_at_call 62; refine (l6In_c _ _ _ _).mono ?_; rintro e w' ⟨rfl, rfl⟩)
  all_goals (go_ret; exact ⟨ret_bool (by simp [calOk, *]), (by (repeat (with_reducible first | exact Below.refl _ _ | refine Below.alloc ?_ ?_ _ | refine below_drewN ?_ _ | refine Below.drew ?_ | refine Below.setCell ?_ ?_ _ | refine Below.trans ?_ (Below.mono (by assumption) ?_))) <;> (first | omega | (simp; try omega)))⟩)

set_option maxRecDepth 100000 in
set_option maxHeartbeats 1000000 in
theorem callPossible_c (p : Option Addr) (cap : Nat) (ts : List Thg) (c : Cal) (w : World) (hT : TabAt w (.slice p ts.length cap) ts) :
    Calls Tryz.prog 69 #[.slice p ts.length cap, c.val] w fun e w' => e = .returned (.bool (calCan ts c)) ∧ Below w.heap.size w w' := by
  obtain ⟨k, r, a, b, n⟩ := c
  go_enter Tryz.func69, Tryz.ntmps69
  go_wp2_with (first
    | (go_at_call 27; refine (tableOk_c _ _ ts _ (hT.pure (by (repeat (with_reducible first | exact Below.refl _ _ | refine Below.alloc ?_ ?_ _ | refine below_drewN ?_ _ | refine Below.drew ?_ | refine Below.setCell ?_ ?_ _ | refine Below.trans ?_ (Below.mono (by assumption) ?_))) <;> (first | omega | (simp; try omega))))).mono ?_; rintro e w1 ⟨rfl, hb1⟩; obtain ⟨hc1, hf1⟩ := bcell hb1; have hz0 : w.heap.size < w1.heap.size := (by have := hb1.size; (try simp at this); omega))
    | (go_at_call 80; refine (callOk_c ⟨_, _, _, _, _⟩ _).mono ?_; rintro e w2 ⟨rfl, hb2⟩; obtain ⟨hc2, hf2⟩ := bcell hb2; have hz2 : w.heap.size < w2.heap.size := (by have := hb2.size; omega))
    | (go_at_call 75; refine (kindAt_c _ _ ts _ _ _ (hT.pure (by (repeat (with_reducible first | exact Below.refl _ _ | refine Below.alloc ?_ ?_ _ | refine below_drewN ?_ _ | refine Below.drew ?_ | refine Below.setCell ?_ ?_ _ | refine Below.trans ?_ (Below.mono (by assumption) ?_))) <;> (first | omega | (simp; try omega))))).mono ?_; rintro e w' ⟨rfl, rfl⟩))
  all_goals (go_ret; exact ⟨ret_bool (by simp [calCan, *]), (by (repeat (with_reducible first | exact Below.refl _ _ | refine Below.alloc ?_ ?_ _ | refine below_drewN ?_ _ | refine Below.drew ?_ | refine Below.setCell ?_ ?_ _ | refine Below.trans ?_ (Below.mono (by assumption) ?_))) <;> (first | omega | (simp; try omega)))⟩)

def reqKinds (k : Int) : List Int := if k = 1 ∨ k = 2 then [1] else if k = 4 ∨ k = 5 then [2] else if k = 6 ∨ k = 7 then [4] else if k = 9 then [5] else [1, 2, 4]
theorem hasKind_req (k x : Int) : hasKind k x = (reqKinds k).any (fun y => y == x) := by
  unfold hasKind reqKinds
  repeat' split
  all_goals (rw [Bool.eq_iff_iff]; simp; try omega)

set_option maxRecDepth 100000 in
set_option maxHeartbeats 1000000 in
theorem hasKind_c (ca : Int) (ks : List Int) (b1 b2 b3 b4 : Bool) (p : Option Addr) (cap : Nat) (x : Int) (w : World) (hK : IntsAt w (.slice p ks.length cap) ks) :
    Calls Tryz.prog 151 #[.agg #[.int .i64 ca, .slice p ks.length cap, .bool b1, .bool b2, .bool b3, .bool b4], .int .i64 x] w fun e w' => e = .returned (.bool (ks.any (fun y => y == x))) ∧ Below w.heap.size w w' := by
  obtain ⟨_, _, h1, hl1, hl2⟩ := hK.len
  cases h1
  unfold maxLen at hl2
  go_enter Tryz.func151, Tryz.ntmps151
  go_wp2
  go_loop [10] (fun i => ∃ j : Nat, j ≤ ks.length ∧ i = .int .i64 j ∧ (ks.take j).any (fun y => y == x) = false) (fun i => ks.length - (intOf i).toNat)
  case atStart => exact ⟨0, Nat.zero_le _, rfl, by simp⟩
  case round =>
    obtain ⟨j, hj, rfl, hall⟩ := hrel
    have Hall := Lib.hid hall
    clear hall
    by_cases hlt : j < ks.length
    · obtain ⟨y, hy⟩ : ∃ y, ks[j]? = some y := ⟨ks[j], by simp [hlt]⟩
      obtain ⟨b, o, rfl, hbk, hc⟩ := hK.at j _ hy
      have Hy := Lib.hid hy
      clear hy
      go_wp2
      · go_ret
        have hm : y ∈ ks := List.mem_of_getElem? Hy.out
        exact ⟨ret_bool (by symm; rw [List.any_eq_true]; exact ⟨y, hm, by first | assumption | simpa using ‹y = x›⟩), (by (repeat (with_reducible first | exact Below.refl _ _ | refine Below.alloc ?_ ?_ _ | refine below_drewN ?_ _ | refine Below.drew ?_ | refine Below.setCell ?_ ?_ _ | refine Below.trans ?_ (Below.mono (by assumption) ?_))) <;> (first | omega | (simp; try omega)))⟩
      · go_round
        case rel => exact ⟨j + 1, by omega, by go_num, by rw [take_snoc' _ _ _ Hy.out, List.any_append, Hall.out]; simpa using ‹(y == x) = false›⟩
        case measure => simp [intOf]; omega
    · have e : j = ks.length := by omega
      have HQ := Hall.out
      rw [e, List.take_of_length_le (Nat.le_refl _)] at HQ
      have HQ' := Lib.hid HQ
      clear Hall HQ e
      go_wp2
      go_ret
      exact ⟨ret_bool (by rw [HQ'.out]), (by (repeat (with_reducible first | exact Below.refl _ _ | refine Below.alloc ?_ ?_ _ | refine below_drewN ?_ _ | refine Below.drew ?_ | refine Below.setCell ?_ ?_ _ | refine Below.trans ?_ (Below.mono (by assumption) ?_))) <;> (first | omega | (simp; try omega)))⟩

end Go.Proofs.YtghbphdipdjekaaGreatDoor

/- errors.As at a target **refusal: the kit's worked walk of the toy 'toyas', turned to this program. -/
namespace Go.Proofs.YtghbphdipdjekaaGreatDoor
open Go.RowKit Go.Extern.Stop Go.Stop Go.Extern Drw

theorem as_nil (t : Value) (w : World) :
    Calls Tryz.prog 107 #[.nilIface, t] w fun e w' => e = .returned (.bool false) ∧ w' = w := by
  go_enter Tryz.func107, Tryz.ntmps107
  go_wp2
  go_ret
  exact ⟨rfl, rfl⟩


theorem rx_valueOf27 (t : Addr) (w : World) : (ReflectliteValue.unpack (.iface 131 (.pointer (some t)))).run Tryz.prog w
    = .ok (.agg #[.pointer (some ⟨1, 131, none⟩), .pointer (some ⟨w.heap.size, 0, none⟩), .int .u64 150]) (w.alloc (.cells #[.pointer (some t)] 131)) := by kernel_rfl
theorem rx_type27 (a : Addr) (w : World) : (ReflectliteValue.methodAny (ReflectliteValue.valueError "reflectlite.Value.Type" 0) (fun t _ _ _ => ReflectliteType.toType t) #[.agg #[.pointer (some ⟨1, 131, none⟩), .pointer (some a), .int .u64 150]]).run Tryz.prog w
    = .ok (.iface 181 (.agg #[.pointer (some ⟨1, 131, none⟩)])) w := by kernel_rfl
theorem rx_methodKind (h : Value) (w : World) : (Go.method 336 181 (.agg #[h]) "Kind").run Tryz.prog w = .ok (182, h) w := by kernel_rfl
theorem rx_kind27 (w : World) : ((ReflectliteType.abiMethod fun t => (fun a : Nat => Value.int IntKind.u8 (a : Int)) <$> Rtype.kind t) #[.pointer (some ⟨1, 131, none⟩)]).run Tryz.prog w = .ok (.int .u8 22) w := by kernel_rfl
theorem rx_kind25 (w : World) : ((ReflectliteType.abiMethod fun t => (fun a : Nat => Value.int IntKind.u8 (a : Int)) <$> Rtype.kind t) #[.pointer (some ⟨1, 126, none⟩)]).run Tryz.prog w = .ok (.int .u8 22) w := by kernel_rfl


theorem rlm (z : Sem Value) (f : TypeId → Addr → Nat → Nat → Sem Value) (v : Value) :
    ReflectliteValue.method z f #[v] = (do match ← ReflectliteValue.parts v with | none => z | some (t, a, fl) => f t a fl (fl % 32)) := rfl
theorem rx_parts27 (a : Addr) (w : World) : (ReflectliteValue.parts (.agg #[.pointer (some ⟨1, 131, none⟩), .pointer (some a), .int .u64 150])).run Tryz.prog w = .ok (some (131, a, 150)) w := by kernel_rfl
theorem rx_isNil27 (a p : Addr) (W : World) (ha : W.cell? a = some (.pointer (some p))) :
    (ReflectliteValue.method (ReflectliteValue.valueError "reflectlite.Value.IsNil" 0) ReflectliteValue.isNil #[.agg #[.pointer (some ⟨1, 131, none⟩), .pointer (some a), .int .u64 150]]).run Tryz.prog W = .ok (.bool false) W := by
  rw [rlm]
  simp only [Sem.run_bind, rx_parts27, Result.andThen]
  simp [ReflectliteValue.isNil, loadVar, isAgg, underlying, Tryz.underlying131, ha, Result.andThen]

theorem rx_methodElem (h : Value) (w : World) : (Go.method 336 181 (.agg #[h]) "Elem").run Tryz.prog w = .ok (192, .agg #[h]) w := by kernel_rfl
theorem rx_methodImplements (h : Value) (w : World) : (Go.method 336 181 (.agg #[h]) "Implements").run Tryz.prog w = .ok (193, .agg #[h]) w := by kernel_rfl
theorem rx_methodAssignableTo (h : Value) (w : World) : (Go.method 336 181 (.agg #[h]) "AssignableTo").run Tryz.prog w = .ok (190, .agg #[h]) w := by kernel_rfl
theorem rx_elem27 (w : World) : (ReflectliteType.method ReflectliteType.elem #[.agg #[.pointer (some ⟨1, 131, none⟩)]]).run Tryz.prog w = .ok (.iface 181 (.agg #[.pointer (some ⟨1, 126, none⟩)])) w := by kernel_rfl
theorem rx_implements25 (w : World) : (ReflectliteType.relation "Implements" ReflectliteType.implements_ #[.agg #[.pointer (some ⟨1, 126, none⟩)], .iface 181 (.agg #[.pointer (some ⟨1, 129, none⟩)])]).run Tryz.prog w = .ok (.bool true) w := by kernel_rfl
theorem rx_typeOf25 (v : Value) (w : World) : (ReflectliteType.typeOf #[.iface 126 v]).run Tryz.prog w = .ok (.iface 181 (.agg #[.pointer (some ⟨1, 126, none⟩)])) w := by kernel_rfl
theorem rx_assignable25 (w : World) : (ReflectliteType.relation "AssignableTo" ReflectliteType.assignableTo #[.agg #[.pointer (some ⟨1, 126, none⟩)], .iface 181 (.agg #[.pointer (some ⟨1, 126, none⟩)])]).run Tryz.prog w = .ok (.bool true) w := by kernel_rfl
theorem rx_valueOf25 (e : Addr) (w : World) : (ReflectliteValue.unpack (.iface 126 (.pointer (some e)))).run Tryz.prog w
    = .ok (.agg #[.pointer (some ⟨1, 126, none⟩), .pointer (some ⟨w.heap.size, 0, none⟩), .int .u64 150]) (w.alloc (.cells #[.pointer (some e)] 126)) := by kernel_rfl

theorem rx_elemOf27 (w : World) : (Rtype.elem? 131).run Tryz.prog w = .ok (some 126) w := by kernel_rfl
theorem rx_mk25 (p : Addr) (w : World) : (ReflectliteValue.mk 126 p ReflectliteValue.flagAddr).run Tryz.prog w = .ok (.agg #[.pointer (some ⟨1, 126, none⟩), .pointer (some p), .int .u64 406]) w := by kernel_rfl
theorem rx_elemV27 (a p : Addr) (W : World) (ha : W.cell? a = some (.pointer (some p))) :
    (ReflectliteValue.method (ReflectliteValue.valueError "reflectlite.Value.Elem" 0) ReflectliteValue.elem #[.agg #[.pointer (some ⟨1, 131, none⟩), .pointer (some a), .int .u64 150]]).run Tryz.prog W
      = .ok (.agg #[.pointer (some ⟨1, 126, none⟩), .pointer (some p), .int .u64 406]) W := by
  rw [rlm]
  simp only [Sem.run_bind, rx_parts27, Result.andThen]
  simp [ReflectliteValue.elem, loadVar, isAgg, underlying, Tryz.underlying131, ha, Result.andThen, rx_elemOf27, rx_mk25]
theorem rls (v x : Value) : ReflectliteValue.set #[v, x] = (do
    let (some (dst, a, fl), some (src, b, _)) := (← ReflectliteValue.parts v, ← ReflectliteValue.parts x)
      | unsupported (.noEntry "extern/(internal/reflectlite.Value).Set.zeroValue")
    if fl / ReflectliteValue.flagAddr % 2 == 0 then unsupported (.noEntry "extern/(internal/reflectlite.Value).Set.unaddressable")
    let val ← loadVar src b
    if ← Rtype.directlyAssignable dst src then storeVar dst a val
    else if ← Rtype.implements dst src then
      if (← Rtype.kind src) == 20 then
        match val with
        | .nilIface => unsupported (.noEntry "extern/reflectlite: a nil value of one interface type handed on as a value of another")
        | _ => storeVar dst a val
      else storeVar dst a (.iface src val)
    else panicString ("reflectlite.Set: value of type " ++ (← Rtype.spelt src) ++ " is not assignable to type " ++ (← Rtype.spelt dst))
    pure (.tuple #[])) := rfl
theorem rx_parts25a (a : Addr) (w : World) : (ReflectliteValue.parts (.agg #[.pointer (some ⟨1, 126, none⟩), .pointer (some a), .int .u64 406])).run Tryz.prog w = .ok (some (126, a, 406)) w := by kernel_rfl
theorem rx_parts25 (a : Addr) (w : World) : (ReflectliteValue.parts (.agg #[.pointer (some ⟨1, 126, none⟩), .pointer (some a), .int .u64 150])).run Tryz.prog w = .ok (some (126, a, 150)) w := by kernel_rfl
theorem rx_direct25 (w : World) : (Rtype.directlyAssignable 126 126).run Tryz.prog w = .ok true w := by kernel_rfl
theorem rx_size25 (w : World) : (sizeOf 126).run Tryz.prog w = .ok 1 w := by kernel_rfl
theorem rx_set25 (ta b e : Addr) (old : Value) (W : World) (hb : W.cell? b = some (.pointer (some e))) (ht : W.cell? ta = some old) (hf : W.frozen? ta = false) :
    (ReflectliteValue.set #[.agg #[.pointer (some ⟨1, 126, none⟩), .pointer (some ta), .int .u64 406], .agg #[.pointer (some ⟨1, 126, none⟩), .pointer (some b), .int .u64 150]]).run Tryz.prog W
      = .ok (.tuple #[]) (W.setCell ta (.pointer (some e))) := by
  rw [rls]
  simp only [Sem.run_bind, rx_parts25a, rx_parts25, Result.andThen]
  simp [ReflectliteValue.flagAddr, loadVar, isAgg, underlying, Tryz.underlying126, hb, Result.andThen, rx_direct25, storeVar, Value.cells, storeCells, Addr.add]
  rw [run_store Tryz.prog W ta _ _ (by rfl)]
  simp [ht, hf]

set_option maxHeartbeats 4000000 in
theorem as_hit (e t : Addr) (old : Value) (w : World) (hg : w.cell? ⟨0, 0, none⟩ = some (.iface 181 (.agg #[.pointer (some ⟨1, 129, none⟩)]))) (ht0 : w.cell? t = some old) (hf0 : w.frozen? t = false) :
    Calls Tryz.prog 107 #[.iface 126 (.pointer (some e)), .iface 131 (.pointer (some t))] w fun ev w' => ev = .returned (.bool true) ∧ w' = ((((w.alloc (.cells #[.pointer (some t)] 131)).alloc (.cells #[.pointer (some ⟨1, 131, none⟩), .pointer (some ⟨w.heap.size, 0, none⟩), .int .u64 150] 156)).alloc (.cells #[.pointer (some ⟨1, 131, none⟩), .pointer (some ⟨w.heap.size, 0, none⟩), .int .u64 150] 156)).alloc (.cells #[.pointer (some e)] 126)).setCell t (.pointer (some e)) := by
  have h6 := @run_callFunc_extern Tryz.prog 146 _ (fun args => ReflectliteValue.unpack (args.getD 0 (.tuple #[]))) Tryz.func146 (by kernel_rfl) (by kernel_rfl) (by kernel_rfl) (by kernel_rfl)
  have h7 := @run_callFunc_extern Tryz.prog 147 _ (ReflectliteValue.methodAny (ReflectliteValue.valueError "reflectlite.Value.Type" 0) (fun t _ _ _ => ReflectliteType.toType t)) Tryz.func147 (by kernel_rfl) (by kernel_rfl) (by kernel_rfl) (by kernel_rfl)
  have h8 := @run_callFunc_extern Tryz.prog 148 _ (ReflectliteValue.method (ReflectliteValue.valueError "reflectlite.Value.IsNil" 0) ReflectliteValue.isNil) Tryz.func148 (by kernel_rfl) (by kernel_rfl) (by kernel_rfl) (by kernel_rfl)
  have h27 := @run_callFunc_extern Tryz.prog 182 _ (ReflectliteType.abiMethod fun t => do pure (.int .u8 (← Rtype.kind t))) Tryz.func182 (by kernel_rfl) (by kernel_rfl) (by kernel_rfl) (by kernel_rfl)
  have h37 := @run_callFunc_extern Tryz.prog 192 _ (ReflectliteType.method ReflectliteType.elem) Tryz.func192 (by kernel_rfl) (by kernel_rfl) (by kernel_rfl) (by kernel_rfl)
  have h38 := @run_callFunc_extern Tryz.prog 193 _ (ReflectliteType.relation "Implements" ReflectliteType.implements_) Tryz.func193 (by kernel_rfl) (by kernel_rfl) (by kernel_rfl) (by kernel_rfl)
  have h10 := @run_callFunc_extern Tryz.prog 163 _ ReflectliteType.typeOf Tryz.func163 (by kernel_rfl) (by kernel_rfl) (by kernel_rfl) (by kernel_rfl)
  have h35 := @run_callFunc_extern Tryz.prog 190 _ (ReflectliteType.relation "AssignableTo" ReflectliteType.assignableTo) Tryz.func190 (by kernel_rfl) (by kernel_rfl) (by kernel_rfl) (by kernel_rfl)
  have h11 := @run_callFunc_extern Tryz.prog 164 _ (ReflectliteValue.method (ReflectliteValue.valueError "reflectlite.Value.Elem" 0) ReflectliteValue.elem) Tryz.func164 (by kernel_rfl) (by kernel_rfl) (by kernel_rfl) (by kernel_rfl)
  have h12 := @run_callFunc_extern Tryz.prog 165 _ ReflectliteValue.set Tryz.func165 (by kernel_rfl) (by kernel_rfl) (by kernel_rfl) (by kernel_rfl)
  have tO := rx_typeOf25
  have mA := rx_methodAssignableTo
  have a25 := rx_assignable25
  have v25 := rx_valueOf25
  have f6 := rx_valueOf27
  have f7 := rx_type27
  have mK := rx_methodKind
  have mE := rx_methodElem
  have mI := rx_methodImplements
  have k27 := rx_kind27
  have k25 := rx_kind25
  have e27 := rx_elem27
  have i25 := rx_implements25
  have n8 := rx_isNil27 ⟨w.heap.size, 0, none⟩ t ((w.alloc (.cells #[.pointer (some t)] 131)).alloc (.cells #[.pointer (some ⟨1, 131, none⟩), .pointer (some ⟨w.heap.size, 0, none⟩), .int .u64 150] 156)) (by simp)
  have hlt : 0 < w.heap.size := by
    rcases Nat.eq_zero_or_pos w.heap.size with h0 | h
    · simp [World.cell?, h0] at hg
    · exact h
  have hg2 : ((w.alloc (.cells #[.pointer (some t)] 131)).alloc (.cells #[.pointer (some ⟨1, 131, none⟩), .pointer (some ⟨w.heap.size, 0, none⟩), .int .u64 150] 156)).cell? ⟨0, 0, none⟩ = some (.iface 181 (.agg #[.pointer (some ⟨1, 129, none⟩)])) := by
    rw [World.cell?_alloc_lt _ _ ⟨0, 0, none⟩ (by simp), World.cell?_alloc_lt _ _ ⟨0, 0, none⟩ hlt]; exact hg
  have htl : t.block < w.heap.size := by
    rcases Nat.lt_or_ge t.block w.heap.size with h | h
    · exact h
    · simp [World.cell?, Array.getElem?_eq_none h] at ht0
  have el := rx_elemV27 ⟨w.heap.size, 0, none⟩ t (((w.alloc (.cells #[.pointer (some t)] 131)).alloc (.cells #[.pointer (some ⟨1, 131, none⟩), .pointer (some ⟨w.heap.size, 0, none⟩), .int .u64 150] 156)).alloc (.cells #[.pointer (some ⟨1, 131, none⟩), .pointer (some ⟨w.heap.size, 0, none⟩), .int .u64 150] 156)) (by rw [World.cell?_alloc_lt _ _ ⟨w.heap.size, 0, none⟩ (by simp; omega)]; simp)
  have st := rx_set25 t ⟨w.heap.size + 1 + 1 + 1, 0, none⟩ e old ((((w.alloc (.cells #[.pointer (some t)] 131)).alloc (.cells #[.pointer (some ⟨1, 131, none⟩), .pointer (some ⟨w.heap.size, 0, none⟩), .int .u64 150] 156)).alloc (.cells #[.pointer (some ⟨1, 131, none⟩), .pointer (some ⟨w.heap.size, 0, none⟩), .int .u64 150] 156)).alloc (.cells #[.pointer (some e)] 126))
    (by rw [World.cell?_alloc_at _ _ _ _ (by simp)]; rfl)
    (by rw [World.cell?_alloc_lt _ _ t (by simp; omega), World.cell?_alloc_lt _ _ t (by simp; omega), World.cell?_alloc_lt _ _ t (by simp; omega), World.cell?_alloc_lt _ _ t htl]; exact ht0)
    (by rw [World.frozen?_alloc_old _ _ t (by simp; omega), World.frozen?_alloc_old _ _ t (by simp; omega), World.frozen?_alloc_old _ _ t (by simp; omega), World.frozen?_alloc_old _ _ t (Nat.ne_of_lt htl)]; exact hf0)
  go_enter Tryz.func107, Tryz.ntmps107
  go_wp2
  refine wp_loop_rounds 1 ?_
  rw [rounds_succ]
  go_wp2
  go_ret
  exact ⟨rfl, rfl⟩

/-- errors' own variable errorType holds error's type. -/
def Laid (w : World) : Prop := w.cell? ⟨0, 0, none⟩ = some (.iface 181 (.agg #[.pointer (some ⟨1, 129, none⟩)]))
theorem Laid.below {w w' : World} {n : Nat} (h : Laid w) (hb : Below n w w') (hn : 0 < n) : Laid w' := (hb.cell (p := ⟨0, 0, none⟩) hn).trans h
theorem Laid.size {w : World} (h : Laid w) : 0 < w.heap.size := World.block_lt_of_cell? w _ h
theorem Laid.pure {w w' : World} (h : Laid w) (hb : Below w.heap.size w w') : Laid w' := h.below hb h.size
theorem Laid.chg {w w' : World} {S : Nat → Prop} (h : Laid w) (hb : Chg S w w') (hn : ¬ S 0) : Laid w' := hb.cell h hn

theorem as_hit' (e t : Addr) (old : Value) (w : World) (hg : Laid w) (ht0 : w.cell? t = some old) (hf0 : w.frozen? t = false) :
    Calls Tryz.prog 107 #[.iface 126 (.pointer (some e)), .iface 131 (.pointer (some t))] w fun ev w' => ev = .returned (.bool true) ∧ w'.cell? t = some (.pointer (some e)) ∧ Below t.block w w' ∧ Chg (fun k => k = t.block) w w' := by
  refine (as_hit e t old w hg ht0 hf0).mono ?_
  rintro ev w' ⟨rfl, rfl⟩
  have htl := World.block_lt_of_cell? w t ht0
  refine ⟨rfl, ?_, ?_, ?_⟩
  · rw [World.cell?_setCell_same']
    rw [World.cell?_alloc_lt _ _ t (by simp; omega), World.cell?_alloc_lt _ _ t (by simp; omega), World.cell?_alloc_lt _ _ t (by simp; omega), World.cell?_alloc_lt _ _ t htl, ht0]; rfl
  · exact (((((Below.refl _ w).alloc (by omega) _).alloc (by simp; omega) _).alloc (by simp; omega) _).alloc (by simp; omega) _).setCell (Nat.le_refl _) _
  · exact Chg.setCell (S := fun k => k = t.block) (((((Chg.refl _ w).alloc _).alloc _).alloc _).alloc _) rfl _

end Go.Proofs.YtghbphdipdjekaaGreatDoor

/- What is told of a call, by impl. Conditions: the table lies where its cells say; errors.errorType is laid. -/
namespace Go.Proofs.YtghbphdipdjekaaGreatDoor
open Go.RowKit Drw
attribute [local go_sem] Lab.val Rgt.val Cal.val Thg.val

def reqs : List Int := [1, 2, 4, 5, 6, 7, 8, 9]
/-- The table of requirements, in block B; their kinds lie in the blocks from K on. -/
def ReqAt (W : World) (B K : Nat) : Prop := ∀ (j : Nat) (k : Int), reqs[j]? = some k →
  W.cell? ⟨B, j * 6, none⟩ = some (.int .i64 k) ∧ W.cell? ⟨B, j * 6 + 1, none⟩ = some (.slice (some ⟨K + j, 0, none⟩) (reqKinds k).length (reqKinds k).length) ∧
  W.cell? ⟨B, j * 6 + 2, none⟩ = some (.bool (needRd k)) ∧ W.cell? ⟨B, j * 6 + 3, none⟩ = some (.bool (needWr k)) ∧ W.cell? ⟨B, j * 6 + 4, none⟩ = some (.bool (needRd k)) ∧ W.cell? ⟨B, j * 6 + 5, none⟩ = some (.bool (needWr k)) ∧
  ∀ i x, (reqKinds k)[i]? = some x → W.cell? ⟨K + j, i, none⟩ = some (.int .i64 x)

theorem reqKinds_len (k : Int) : (reqKinds k).length ≤ maxLen := by
  unfold reqKinds maxLen
  repeat' split
  all_goals simp

set_option maxRecDepth 100000 in
set_option maxHeartbeats 4000000 in
theorem requirementOf_c (k : Int) (hk : k ∈ reqs) (w : World) :
    Calls Tryz.prog 150 #[.int .i64 k] w fun e w' => ∃ p, e = .returned (.agg #[.int .i64 k, .slice p (reqKinds k).length (reqKinds k).length, .bool (needRd k), .bool (needWr k), .bool (needRd k), .bool (needWr k)]) ∧ IntsAt w' (.slice p (reqKinds k).length (reqKinds k).length) (reqKinds k) ∧ Below w.heap.size w w' := by
  go_enter Tryz.func150, Tryz.ntmps150
  go_upto_region 1 with (fail)
  go_cut [3] (fun s3 wx => s3 = .slice (some ⟨w.heap.size + 9, 0, none⟩) 8 8 ∧ Below w.heap.size w wx ∧ wx.heap.size = w.heap.size + 10 ∧ (wx.cell? ⟨w.heap.size, 0, none⟩ = some (.int .i64 0) ∧ wx.cell? ⟨w.heap.size, 1, none⟩ = some (.slice none 0 0) ∧ wx.cell? ⟨w.heap.size, 2, none⟩ = some (.bool false) ∧ wx.cell? ⟨w.heap.size, 3, none⟩ = some (.bool false) ∧ wx.cell? ⟨w.heap.size, 4, none⟩ = some (.bool false) ∧ wx.cell? ⟨w.heap.size, 5, none⟩ = some (.bool false)) ∧ (∀ o, wx.frozen? ⟨w.heap.size, o, none⟩ = false) ∧ ReqAt wx (w.heap.size + 9) (w.heap.size + 1))
  case first =>
    go_wp2
    go_meet
    refine ⟨rfl, (by (repeat (with_reducible first | exact Below.refl _ _ | refine Below.alloc ?_ ?_ _ | refine below_drewN ?_ _ | refine Below.drew ?_ | refine Below.setCell ?_ ?_ _ | refine Below.trans ?_ (Below.mono (by assumption) ?_))) <;> (first | omega | (simp; try omega))), by simp, ?_, ?_, ?_⟩
    · simp [go_sem]
    · intro o; simp [go_sem]
    · intro j k h
      rcases j with _ | _ | _ | _ | _ | _ | _ | _ | j
      all_goals (simp [reqs] at h; try subst h)
      all_goals (simp [go_sem, needRd, needWr, reqKinds])
      all_goals (try (intro i x hi; rcases i with _ | _ | _ | i <;> simp at hi <;> (try subst hi) <;> simp [go_sem]))
  case rest =>
    obtain ⟨rfl, hB, hsz, ⟨c0, c1, c2, c3, c4, c5⟩, hf, hR⟩ := hcut
    have HR := Lib.hid hR
    clear hR
    go_wp2
    go_loopw [25] (fun i wr => ∃ j : Nat, j ≤ 8 ∧ i = .int .i64 j ∧ (∀ m < j, reqs[m]? ≠ some k) ∧ Below wc.heap.size wc wr) (fun i _ => 8 - (intOf i).toNat)
    case atStart => exact ⟨0, Nat.zero_le _, rfl, by simp, Below.refl _ _⟩
    case round =>
      obtain ⟨j, hj, rfl, hall, hBr⟩ := hrel
      have Hall := Lib.hid hall
      clear hall
      obtain ⟨hcr, hfr⟩ := bcell hBr
      have hszr := hBr.size
      by_cases hlt : j < 8
      · obtain ⟨kj, hkj⟩ : ∃ y, reqs[j]? = some y := ⟨reqs[j]'(by simpa [reqs] using hlt), by simp [reqs, hlt]⟩
        obtain ⟨d0, d1, d2, d3, d4, d5, dk⟩ := HR.out j kj hkj
        have Hkj := Lib.hid hkj
        clear hkj
        rw [← hcr _ _ (by omega)] at d0 d1 d2 d3 d4 d5 c0 c1 c2 c3 c4 c5
        have hf' : ∀ o, wr.frozen? ⟨w.heap.size, o, none⟩ = false := fun o => (hfr _ _ (by omega)).trans (hf o)
        have Dk := Lib.hid dk
        have hz1 : w.heap.size + 9 < wr.heap.size := by omega
        have hz2 : w.heap.size < wr.heap.size := by omega
        clear hcr hfr hf dk
        go_wp2
        · have e : kj = k := by simpa using ‹(kj == k) = true›
          subst e
          have hI : IntsAt wc (.slice (some ⟨w.heap.size + 1 + j, 0, none⟩) (reqKinds kj).length (reqKinds kj).length) (reqKinds kj) := by
            refine ⟨_, _, by rw [List.length_map], by simp, reqKinds_len kj, .inr ⟨_, _, rfl, ?_⟩⟩
            intro i c hi m u hm
            rw [List.getElem?_map] at hi
            obtain ⟨x, hx, rfl⟩ := Option.map_eq_some_iff.1 hi
            obtain rfl : m = 0 := by
              rcases m with _ | m
              · rfl
              · simp [intCells] at hm
            simp [intCells] at hm
            subst hm
            simpa using Dk.out i x hx
          refine bodyPost_ret (v := .agg #[.int .i64 kj, .slice (some ⟨w.heap.size + 1 + j, 0, none⟩) (reqKinds kj).length (reqKinds kj).length, .bool (needRd kj), .bool (needWr kj), .bool (needRd kj), .bool (needWr kj)]) ?_ rfl ⟨_, rfl, ?_, ?_⟩
          · simp [results, Tryz.results150, go_sem, *]
          · refine Rows.kept (S := fun b => b = w.heap.size) hI ?_ (.inr ?_)
            · repeat (with_reducible first | refine Chg.setCell ?_ ?_ _ | refine Chg.alloc ?_ _)
              · exact Chg.of_pure hBr
              all_goals rfl
            · intro b hb
              simp [Value.ownBlock] at hb
              omega
          · exact (by (repeat (with_reducible first | exact Below.refl _ _ | refine Below.alloc ?_ ?_ _ | refine below_drewN ?_ _ | refine Below.drew ?_ | refine Below.setCell ?_ ?_ _ | refine Below.trans ?_ (Below.mono (by assumption) ?_))) <;> (first | omega | (simp; try omega)))
        · refine ⟨⟨j + 1, by omega, by go_num, ?_, hBr.alloc (by omega) _⟩, by simp [intOf]; omega⟩
          intro m hm
          have hne : (kj == k) = false := by assumption
          rcases Nat.lt_or_ge m j with h | h
          · exact Hall.out m h
          · obtain rfl : m = j := by omega
            rw [Hkj.out]; simpa using hne
      · exfalso
        obtain ⟨m, hm⟩ := List.mem_iff_getElem?.1 hk
        have : m < reqs.length := (List.getElem?_eq_some_iff.1 hm).1
        exact Hall.out m (by simp [reqs] at this; omega) hm

end Go.Proofs.YtghbphdipdjekaaGreatDoor

/- Plain facts of a call that can be. Conditions: none. -/
namespace Go.Proofs.YtghbphdipdjekaaGreatDoor
open Go.RowKit Drw

theorem tab_thg {ts : List Thg} (h : tabOk ts = true) {t : Thg} (ht : t ∈ ts) : thgOk t = true ∧ gateOk ts t = true ∧ ∀ r ∈ t.slots, capOk ts r = true := by
  rw [tabOk_row] at h
  simp only [Bool.and_eq_true, List.all_eq_true] at h
  have := h.1 t ht
  simp only [rowOk, Bool.and_eq_true, List.all_eq_true] at this
  exact ⟨this.1.1, this.1.2, this.2⟩

theorem slots_four {t : Thg} (h : thgOk t = true) (hk : t.kind = 2 ∨ t.kind = 3) : t.slots.length = 4 := by
  unfold thgOk at h
  simp only [Bool.and_eq_true] at h
  have := h.1.1.2
  rcases hk with hk | hk <;> simp [slotsOk, hk] at this <;> exact this.1

structure Can (ts : List Thg) (c : Cal) (j m : Nat) (tr : Thg) (r : Rgt) : Prop where
  run : c.run = (j : Int) + 1
  a : c.a = (m : Int)
  tr_at : ts[j]? = some tr
  r_at : tr.slots[m]? = some r
  kind : tr.kind = 3
  four : tr.slots.length = 4
  trOk : thgOk tr = true
  rOk : rgtOk r = true
  cap : capOk ts r = true
  slot : slotOf ts c = r
  m4 : m < 4
  call : c.kind = 3 ∨ c.kind ∈ reqs
  b : 0 ≤ c.b ∧ c.b ≤ 3
  n : 0 ≤ c.n ∧ c.n ≤ 99
  tab : tabOk ts = true
  ok : calOk c = true

theorem can_of {ts : List Thg} {c : Cal} (h : calCan ts c = true) : ∃ j m tr r, Can ts c j m tr r := by
  unfold calCan at h
  simp only [Bool.and_eq_true] at h
  obtain ⟨⟨h1, h2⟩, h3⟩ := h
  unfold kindAt at h3
  simp only [Bool.and_eq_true, beq_iff_eq] at h3
  obtain ⟨j, hj, htr⟩ := ex_idx h3.1
  have hm : getT ts c.run ∈ ts := List.mem_of_getElem? htr
  obtain ⟨t1, t2, t3⟩ := tab_thg h1 hm
  have h4 := slots_four t1 (.inr h3.2)
  have h2' := h2
  simp only [calOk, inR, Bool.and_eq_true, decide_eq_true_eq] at h2'
  obtain ⟨⟨⟨⟨a1, a2⟩, a3⟩, a4⟩, a5⟩ := h2'
  obtain ⟨m, hma⟩ : ∃ m : Nat, c.a = (m : Int) := ⟨c.a.toNat, by omega⟩
  have hm4 : m < 4 := by omega
  have hr : (getT ts c.run).slots[m]? = some (slotOf ts c) := by
    simp [slotOf, getR, hma, h4, hm4]
  have hmr := List.mem_of_getElem? hr
  refine ⟨j, m, _, _, hj, hma, htr, hr, h3.2, h4, t1, slots_rgt t1 _ hmr, t3 _ hmr, rfl, hm4, ?_, a4, a5, h1, h2⟩
  simp only [reqs, List.mem_cons, List.not_mem_nil, or_false]
  omega

/-- The thing of a right that is of some thing. -/
theorem cap_thing {ts : List Thg} {r : Rgt} (h : capOk ts r = true) (h0 : ¬ r.thing = 0) : ∃ x : Nat, r.thing = (x : Int) + 1 ∧ ts[x]? = some (getT ts r.thing) ∧ ex ts r.thing = true ∧ r.vers ≤ (getT ts r.thing).vers := by
  simp only [capOk, Bool.or_eq_true, beq_iff_eq, Bool.and_eq_true, decide_eq_true_eq] at h
  rcases h with h | ⟨h1, h2⟩
  · exact absurd h h0
  · obtain ⟨x, hx, hx'⟩ := ex_idx h1
    exact ⟨x, hx, hx', h1, h2⟩

end Go.Proofs.YtghbphdipdjekaaGreatDoor
