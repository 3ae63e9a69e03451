/- Calls: what is asked of one ahead of it, both sides. Conditions: the table lies where its cells say. -/
import Derived.Test.YthhmolonhpaepaaGreatDoorVG
import Derived.Test.YthhmolonhpaepaaGreatDoorVMa
import Derived.LaidEql
import Derived.Stop.Asserts
import Derived.RowKitTokens
set_option linter.unusedVariables false
set_option linter.unusedSimpArgs false
namespace Go.Proofs.YthhmolonhpaepaaGreatDoor
open Go.RowKit Drw
attribute [local go_sem] Lab.val Rgt.val Cal.val Thg.val
set_option maxRecDepth 100000 in
set_option maxHeartbeats 1000000 in
theorem pW (c:Cal) (w:World) :
  Calls Tryz.prog 61 #[c.val] w fun e w'=>e=.returned (.bool (nQ c))∧Below w.heap.size w w':=by
 obtain ⟨k,r,a,b,n⟩:=c
 go_enter Tryz.func61,Tryz.ntmps61
 go_wp2_with (go_at_call 67;refine (eD _ _ _ _).mono ?_;rintro e w' ⟨rfl,rfl⟩)
 all_goals (go_ret;exact ⟨aj (by simp [nQ, *]),(by (repeat (with_reducible first|exact bA _ _|refine bB ?_ ?_ _|refine bC ?_ _|refine bD ?_|refine bE ?_ ?_ _|refine bF ?_ (by assumption) ?_))<;>first|omega|(simp;try omega))⟩)
set_option maxRecDepth 100000 in
set_option maxHeartbeats 1000000 in
theorem lV (c:Cal) (w:World) :
  Calls Tryz.prog 57 #[c.val] w fun e w'=>e=.returned (.bool (nQ c))∧Below w.heap.size w w':=by
 obtain ⟨k,r,a,b,n⟩:=c
 go_enter Tryz.func57,Tryz.ntmps57
 go_wp2_with (go_at_call 79;refine (jL _ _ _ _).mono ?_;rintro e w' ⟨rfl,rfl⟩)
 all_goals (go_ret;exact ⟨aj (by simp [nQ, *]),(by (repeat (with_reducible first|exact bA _ _|refine bB ?_ ?_ _|refine bC ?_ _|refine bD ?_|refine bE ?_ ?_ _|refine bF ?_ (by assumption) ?_))<;>first|omega|(simp;try omega))⟩)
set_option maxRecDepth 100000 in
set_option maxHeartbeats 1000000 in
theorem dQ (p:Option Addr) (cap:Nat) (ts:List Thg) (c:Cal) (w:World) (hT:TabAt w (.slice p ts.length cap) ts) :
  Calls Tryz.prog 48 #[.slice p ts.length cap,c.val] w fun e w'=>e=.returned (.bool (bP ts c))∧Below w.heap.size w w':=by
 obtain ⟨k,r,a,b,n⟩:=c
 go_enter Tryz.func48,Tryz.ntmps48
 go_wp2_with (first
  | (go_at_call 38;refine (iD _ _ ts _ (hT.pure (by (repeat (with_reducible first|exact bA _ _|refine bB ?_ ?_ _|refine bC ?_ _|refine bD ?_|refine bE ?_ ?_ _|refine bF ?_ (by assumption) ?_))<;>first|omega|(simp;try omega)))).mono ?_;rintro e w1 ⟨rfl,hb1⟩;obtain ⟨hc1,hf1⟩:=ax hb1;have hz0:w.heap.size<w1.heap.size:=(by have:=hb1.size;(try simp at this);omega))
  | (go_at_call 61;refine (pW ⟨_,_,_,_,_⟩ _).mono ?_;rintro e w2 ⟨rfl,hb2⟩;obtain ⟨hc2,hf2⟩:=ax hb2;have hz2:w.heap.size<w2.heap.size:=(by have:=hb2.size;omega))
  | (go_at_call 69;refine (BI _ _ ts _ _ _ (hT.pure (by (repeat (with_reducible first|exact bA _ _|refine bB ?_ ?_ _|refine bC ?_ _|refine bD ?_|refine bE ?_ ?_ _|refine bF ?_ (by assumption) ?_))<;>first|omega|(simp;try omega)))).mono ?_;rintro e w' ⟨rfl,rfl⟩))
 all_goals (go_ret;exact ⟨aj (by simp [bP, *]),(by (repeat (with_reducible first|exact bA _ _|refine bB ?_ ?_ _|refine bC ?_ _|refine bD ?_|refine bE ?_ ?_ _|refine bF ?_ (by assumption) ?_))<;>first|omega|(simp;try omega))⟩)
def aI (k:Int):List Int:=if k=1∨k=2 then [1] else if k=4∨k=5 then [2] else if k=6∨k=7 then [4] else if k=9 then [5] else [1,2,4]
theorem AJ (k x:Int):dU k x=(aI k).any (fun y=>y == x):=by
 unfold dU aI
 repeat' split
 all_goals (rw [Bool.eq_iff_iff];simp;try omega)
set_option maxRecDepth 100000 in
set_option maxHeartbeats 1000000 in
theorem GV (ca:Int) (ks:List Int) (b1 b2 b3 b4:Bool) (p:Option Addr) (cap:Nat) (x:Int) (w:World) (hK:aG w (.slice p ks.length cap) ks) :
  Calls Tryz.prog 146 #[.agg #[.int .i64 ca,.slice p ks.length cap,.bool b1,.bool b2,.bool b3,.bool b4],.int .i64 x] w fun e w'=>e=.returned (.bool (ks.any (fun y=>y == x)))∧Below w.heap.size w w':=by
 obtain ⟨_,_,h1,hl1,hl2⟩:=hK.len
 cases h1
 unfold maxLen at hl2
 go_enter Tryz.func146,Tryz.ntmps146
 go_wp2
 go_loop [10] (fun i=>∃ j:Nat,j≤ks.length∧i=.int .i64 j∧(ks.take j).any (fun y=>y == x)=false) (fun i=>ks.length - (intOf i).toNat)
 case atStart=>exact ⟨0,Nat.zero_le _,rfl,by simp⟩
 case round=>
  obtain ⟨j,hj,rfl,hall⟩:=hrel
  have lL:=Lib.hid hall
  clear hall
  by_cases hlt:j<ks.length
  ·obtain ⟨y,hy⟩:∃ y,ks[j]?=some y:=⟨ks[j],by simp [hlt]⟩
   obtain ⟨b,o,rfl,hbk,hc⟩:=hK.at j _ hy
   have Hy:=Lib.hid hy
   clear hy
   go_wp2
   ·go_ret
    have hm:y∈ks:=List.mem_of_getElem? Hy.out
    exact ⟨aj (by symm;rw [List.any_eq_true];exact ⟨y,hm,by first|assumption|simpa using ‹y=x›⟩),(by (repeat (with_reducible first|exact bA _ _|refine bB ?_ ?_ _|refine bC ?_ _|refine bD ?_|refine bE ?_ ?_ _|refine bF ?_ (by assumption) ?_))<;>first|omega|(simp;try omega))⟩
   ·go_round
    case rel=>exact ⟨j+1,by omega,by go_num,by rw [take_snoc' _ _ _ Hy.out,List.any_append,lL.out];simpa using ‹(y == x)=false›⟩
    case measure=>simp [intOf];omega
  ·have e:j=ks.length:=by omega
   have HQ:=lL.out
   rw [e,List.take_of_length_le (Nat.le_refl _)] at HQ
   have HQ':=Lib.hid HQ
   clear lL HQ e
   go_wp2
   go_ret
   exact ⟨aj (by rw [HQ'.out]),(by (repeat (with_reducible first|exact bA _ _|refine bB ?_ ?_ _|refine bC ?_ _|refine bD ?_|refine bE ?_ ?_ _|refine bF ?_ (by assumption) ?_))<;>first|omega|(simp;try omega))⟩
end Go.Proofs.YthhmolonhpaepaaGreatDoor
namespace Go.Proofs.YthhmolonhpaepaaGreatDoor
open Go.RowKit Go.Extern.Stop Go.Stop Go.Extern Drw
theorem as_nil (t:Value) (w:World) :
  Calls Tryz.prog 89 #[.nilIface,t] w fun e w'=>e=.returned (.bool false)∧w'=w:=by
 go_enter Tryz.func89,Tryz.ntmps89
 go_wp2
 go_ret
 exact ⟨rfl,rfl⟩
theorem xD (t:Addr) (w:World):(ReflectliteValue.unpack (.iface 124 (.pointer (some t)))).run Tryz.prog w
  = .ok (.agg #[.pointer (some ⟨1,124,none⟩),.pointer (some ⟨w.heap.size,0,none⟩),.int .u64 150]) (w.alloc (.cells #[.pointer (some t)] 124)):=by kernel_rfl
theorem Fh (a:Addr) (w:World):(ReflectliteValue.methodAny (ReflectliteValue.valueError "reflectlite.Value.Type" 0) (fun t _ _ _=>ReflectliteType.toType t) #[.agg #[.pointer (some ⟨1,124,none⟩),.pointer (some a),.int .u64 150]]).run Tryz.prog w
  = .ok (.iface 190 (.agg #[.pointer (some ⟨1,124,none⟩)])) w:=by kernel_rfl
theorem vg (h:Value) (w:World):(Go.method 342 190 (.agg #[h]) "Kind").run Tryz.prog w=.ok (182,h) w:=by kernel_rfl
theorem Fj (w:World):((ReflectliteType.abiMethod fun t=>(fun a:Nat=>Value.int IntKind.u8 (a:Int)) <$> Rtype.kind t) #[.pointer (some ⟨1,124,none⟩)]).run Tryz.prog w=.ok (.int .u8 22) w:=by kernel_rfl
theorem Fp (w:World):((ReflectliteType.abiMethod fun t=>(fun a:Nat=>Value.int IntKind.u8 (a:Int)) <$> Rtype.kind t) #[.pointer (some ⟨1,119,none⟩)]).run Tryz.prog w=.ok (.int .u8 22) w:=by kernel_rfl
theorem rlm (z:Sem Value) (f:TypeId→Addr→Nat→Nat→Sem Value) (v:Value) :
  ReflectliteValue.method z f #[v]=(do match ← ReflectliteValue.parts v with|none=>z|some (t,a,fl)=>f t a fl (fl % 32)):=rfl
theorem tY (a:Addr) (w:World):(ReflectliteValue.parts (.agg #[.pointer (some ⟨1,124,none⟩),.pointer (some a),.int .u64 150])).run Tryz.prog w=.ok (some (124,a,150)) w:=by kernel_rfl
theorem CP (a p:Addr) (W:World) (ha:W.cell? a=some (.pointer (some p))) :
  (ReflectliteValue.method (ReflectliteValue.valueError "reflectlite.Value.IsNil" 0) ReflectliteValue.isNil #[.agg #[.pointer (some ⟨1,124,none⟩),.pointer (some a),.int .u64 150]]).run Tryz.prog W=.ok (.bool false) W:=by
 rw [rlm]
 simp only [Sem.run_bind,tY,Result.andThen]
 simp [ReflectliteValue.isNil,loadVar,isAgg,underlying,Tryz.underlying124,ha,Result.andThen]
theorem vk (h:Value) (w:World):(Go.method 342 190 (.agg #[h]) "Elem").run Tryz.prog w=.ok (192,.agg #[h]) w:=by kernel_rfl
theorem ll (h:Value) (w:World):(Go.method 342 190 (.agg #[h]) "Implements").run Tryz.prog w=.ok (193,.agg #[h]) w:=by kernel_rfl
theorem jA (h:Value) (w:World):(Go.method 342 190 (.agg #[h]) "AssignableTo").run Tryz.prog w=.ok (190,.agg #[h]) w:=by kernel_rfl
theorem Fq (w:World):(ReflectliteType.method ReflectliteType.elem #[.agg #[.pointer (some ⟨1,124,none⟩)]]).run Tryz.prog w=.ok (.iface 190 (.agg #[.pointer (some ⟨1,119,none⟩)])) w:=by kernel_rfl
theorem qo (w:World):(ReflectliteType.relation "Implements" ReflectliteType.implements_ #[.agg #[.pointer (some ⟨1,119,none⟩)],.iface 190 (.agg #[.pointer (some ⟨1,122,none⟩)])]).run Tryz.prog w=.ok (.bool true) w:=by kernel_rfl
theorem zK (v:Value) (w:World):(ReflectliteType.typeOf #[.iface 119 v]).run Tryz.prog w=.ok (.iface 190 (.agg #[.pointer (some ⟨1,119,none⟩)])) w:=by kernel_rfl
theorem qw (w:World):(ReflectliteType.relation "AssignableTo" ReflectliteType.assignableTo #[.agg #[.pointer (some ⟨1,119,none⟩)],.iface 190 (.agg #[.pointer (some ⟨1,119,none⟩)])]).run Tryz.prog w=.ok (.bool true) w:=by kernel_rfl
theorem xE (e:Addr) (w:World):(ReflectliteValue.unpack (.iface 119 (.pointer (some e)))).run Tryz.prog w
  = .ok (.agg #[.pointer (some ⟨1,119,none⟩),.pointer (some ⟨w.heap.size,0,none⟩),.int .u64 150]) (w.alloc (.cells #[.pointer (some e)] 119)):=by kernel_rfl
theorem zM (w:World):(Rtype.elem? 124).run Tryz.prog w=.ok (some 119) w:=by kernel_rfl
theorem LU (p:Addr) (w:World):(ReflectliteValue.mk 119 p ReflectliteValue.flagAddr).run Tryz.prog w=.ok (.agg #[.pointer (some ⟨1,119,none⟩),.pointer (some p),.int .u64 406]) w:=by kernel_rfl
theorem CQ (a p:Addr) (W:World) (ha:W.cell? a=some (.pointer (some p))) :
  (ReflectliteValue.method (ReflectliteValue.valueError "reflectlite.Value.Elem" 0) ReflectliteValue.elem #[.agg #[.pointer (some ⟨1,124,none⟩),.pointer (some a),.int .u64 150]]).run Tryz.prog W
   = .ok (.agg #[.pointer (some ⟨1,119,none⟩),.pointer (some p),.int .u64 406]) W:=by
 rw [rlm]
 simp only [Sem.run_bind,tY,Result.andThen]
 simp [ReflectliteValue.elem,loadVar,isAgg,underlying,Tryz.underlying124,ha,Result.andThen,zM,LU]
theorem rls (v x:Value):ReflectliteValue.set #[v,x]=(do
  let (some (dst,a,fl),some (src,b,_)):=(← ReflectliteValue.parts v,← ReflectliteValue.parts x)
   | unsupported (.noEntry "extern/(internal/reflectlite.Value).Set.zeroValue")
  if fl / ReflectliteValue.flagAddr % 2 == 0 then unsupported (.noEntry "extern/(internal/reflectlite.Value).Set.unaddressable")
  let val ← loadVar src b
  if ← Rtype.directlyAssignable dst src then storeVar dst a val
  else if ← Rtype.implements dst src then
   if (← Rtype.kind src) == 20 then
    match val with
    | .nilIface=>unsupported (.noEntry "extern/reflectlite: a nil value of one interface type handed on as a value of another")
    | _=>storeVar dst a val
   else storeVar dst a (.iface src val)
  else panicString ("reflectlite.Set: value of type "++(←Rtype.spelt src)++ " is not assignable to type "++(← Rtype.spelt dst))
  pure (.tuple #[])):=rfl
theorem zL (a:Addr) (w:World):(ReflectliteValue.parts (.agg #[.pointer (some ⟨1,119,none⟩),.pointer (some a),.int .u64 406])).run Tryz.prog w=.ok (some (119,a,406)) w:=by kernel_rfl
theorem CO (a:Addr) (w:World):(ReflectliteValue.parts (.agg #[.pointer (some ⟨1,119,none⟩),.pointer (some a),.int .u64 150])).run Tryz.prog w=.ok (some (119,a,150)) w:=by kernel_rfl
theorem zN (w:World):(Rtype.directlyAssignable 119 119).run Tryz.prog w=.ok true w:=by kernel_rfl
theorem Jl (ta b e:Addr) (old:Value) (W:World) (hb:W.cell? b=some (.pointer (some e))) (ht:W.cell? ta=some old) (hf:W.frozen? ta=false) :
  (ReflectliteValue.set #[.agg #[.pointer (some ⟨1,119,none⟩),.pointer (some ta),.int .u64 406],.agg #[.pointer (some ⟨1,119,none⟩),.pointer (some b),.int .u64 150]]).run Tryz.prog W
   = .ok (.tuple #[]) (W.setCell ta (.pointer (some e))):=by
 rw [rls]
 simp only [Sem.run_bind,zL,CO,Result.andThen]
 simp [ReflectliteValue.flagAddr,loadVar,isAgg,underlying,Tryz.underlying119,hb,Result.andThen,zN,storeVar,Value.cells,storeCells,Addr.add]
 rw [run_store Tryz.prog W ta _ _ (by rfl)]
 simp [ht,hf]
set_option maxHeartbeats 4000000 in
theorem as_hit (e t:Addr) (old:Value) (w:World) (hg:w.cell? ⟨0,0,none⟩=some (.iface 190 (.agg #[.pointer (some ⟨1,122,none⟩)]))) (ht0:w.cell? t=some old) (hf0:w.frozen? t=false) :
  Calls Tryz.prog 89 #[.iface 119 (.pointer (some e)),.iface 124 (.pointer (some t))] w fun ev w'=>ev=.returned (.bool true)∧w'=((((w.alloc (.cells #[.pointer (some t)] 124)).alloc (.cells #[.pointer (some ⟨1,124,none⟩),.pointer (some ⟨w.heap.size,0,none⟩),.int .u64 150] 160)).alloc (.cells #[.pointer (some ⟨1,124,none⟩),.pointer (some ⟨w.heap.size,0,none⟩),.int .u64 150] 160)).alloc (.cells #[.pointer (some e)] 119)).setCell t (.pointer (some e)):=by
 have h6:=@run_callFunc_extern Tryz.prog 141 _ (fun args=>ReflectliteValue.unpack (args.getD 0 (.tuple #[]))) Tryz.func141 (by kernel_rfl) (by kernel_rfl) (by kernel_rfl) (by kernel_rfl)
 have h7:=@run_callFunc_extern Tryz.prog 142 _ (ReflectliteValue.methodAny (ReflectliteValue.valueError "reflectlite.Value.Type" 0) (fun t _ _ _=>ReflectliteType.toType t)) Tryz.func142 (by kernel_rfl) (by kernel_rfl) (by kernel_rfl) (by kernel_rfl)
 have h8:=@run_callFunc_extern Tryz.prog 143 _ (ReflectliteValue.method (ReflectliteValue.valueError "reflectlite.Value.IsNil" 0) ReflectliteValue.isNil) Tryz.func143 (by kernel_rfl) (by kernel_rfl) (by kernel_rfl) (by kernel_rfl)
 have h27:=@run_callFunc_extern Tryz.prog 182 _ (ReflectliteType.abiMethod fun t=>do pure (.int .u8 (← Rtype.kind t))) Tryz.func182 (by kernel_rfl) (by kernel_rfl) (by kernel_rfl) (by kernel_rfl)
 have h37:=@run_callFunc_extern Tryz.prog 192 _ (ReflectliteType.method ReflectliteType.elem) Tryz.func192 (by kernel_rfl) (by kernel_rfl) (by kernel_rfl) (by kernel_rfl)
 have h38:=@run_callFunc_extern Tryz.prog 193 _ (ReflectliteType.relation "Implements" ReflectliteType.implements_) Tryz.func193 (by kernel_rfl) (by kernel_rfl) (by kernel_rfl) (by kernel_rfl)
 have h10:=@run_callFunc_extern Tryz.prog 164 _ ReflectliteType.typeOf Tryz.func164 (by kernel_rfl) (by kernel_rfl) (by kernel_rfl) (by kernel_rfl)
 have h35:=@run_callFunc_extern Tryz.prog 190 _ (ReflectliteType.relation "AssignableTo" ReflectliteType.assignableTo) Tryz.func190 (by kernel_rfl) (by kernel_rfl) (by kernel_rfl) (by kernel_rfl)
 have h11:=@run_callFunc_extern Tryz.prog 165 _ (ReflectliteValue.method (ReflectliteValue.valueError "reflectlite.Value.Elem" 0) ReflectliteValue.elem) Tryz.func165 (by kernel_rfl) (by kernel_rfl) (by kernel_rfl) (by kernel_rfl)
 have h12:=@run_callFunc_extern Tryz.prog 166 _ ReflectliteValue.set Tryz.func166 (by kernel_rfl) (by kernel_rfl) (by kernel_rfl) (by kernel_rfl)
 have tO:=zK
 have mA:=jA
 have a25:=qw
 have v25:=xE
 have f6:=xD
 have f7:=Fh
 have mK:=vg
 have mE:=vk
 have mI:=ll
 have k27:=Fj
 have k25:=Fp
 have e27:=Fq
 have i25:=qo
 have n8:=CP ⟨w.heap.size,0,none⟩ t ((w.alloc (.cells #[.pointer (some t)] 124)).alloc (.cells #[.pointer (some ⟨1,124,none⟩),.pointer (some ⟨w.heap.size,0,none⟩),.int .u64 150] 160)) (by simp)
 have hlt:0<w.heap.size:=by
  rcases Nat.eq_zero_or_pos w.heap.size with h0|h
  ·simp [World.cell?,h0] at hg
  ·exact h
 have hg2:((w.alloc (.cells #[.pointer (some t)] 124)).alloc (.cells #[.pointer (some ⟨1,124,none⟩),.pointer (some ⟨w.heap.size,0,none⟩),.int .u64 150] 160)).cell? ⟨0,0,none⟩=some (.iface 190 (.agg #[.pointer (some ⟨1,122,none⟩)])):=by
  rw [World.cell?_alloc_lt _ _ ⟨0,0,none⟩ (by simp),World.cell?_alloc_lt _ _ ⟨0,0,none⟩ hlt];exact hg
 have htl:t.block<w.heap.size:=by
  rcases Nat.lt_or_ge t.block w.heap.size with h|h
  ·exact h
  ·simp [World.cell?,Array.getElem?_eq_none h] at ht0
 have el:=CQ ⟨w.heap.size,0,none⟩ t (((w.alloc (.cells #[.pointer (some t)] 124)).alloc (.cells #[.pointer (some ⟨1,124,none⟩),.pointer (some ⟨w.heap.size,0,none⟩),.int .u64 150] 160)).alloc (.cells #[.pointer (some ⟨1,124,none⟩),.pointer (some ⟨w.heap.size,0,none⟩),.int .u64 150] 160)) (by rw [World.cell?_alloc_lt _ _ ⟨w.heap.size,0,none⟩ (by simp;omega)];simp)
 have st:=Jl t ⟨w.heap.size+1+1+1,0,none⟩ e old ((((w.alloc (.cells #[.pointer (some t)] 124)).alloc (.cells #[.pointer (some ⟨1,124,none⟩),.pointer (some ⟨w.heap.size,0,none⟩),.int .u64 150] 160)).alloc (.cells #[.pointer (some ⟨1,124,none⟩),.pointer (some ⟨w.heap.size,0,none⟩),.int .u64 150] 160)).alloc (.cells #[.pointer (some e)] 119))
  (by rw [World.cell?_alloc_at _ _ _ _ (by simp)];rfl)
  (by rw [World.cell?_alloc_lt _ _ t (by simp;omega),World.cell?_alloc_lt _ _ t (by simp;omega),World.cell?_alloc_lt _ _ t (by simp;omega),World.cell?_alloc_lt _ _ t htl];exact ht0)
  (by rw [World.frozen?_alloc_old _ _ t (by simp;omega),World.frozen?_alloc_old _ _ t (by simp;omega),World.frozen?_alloc_old _ _ t (by simp;omega),World.frozen?_alloc_old _ _ t (Nat.ne_of_lt htl)];exact hf0)
 go_enter Tryz.func89,Tryz.ntmps89
 go_wp2
 refine wp_loop_rounds 1 ?_
 rw [rounds_succ]
 go_wp2
 go_ret
 exact ⟨rfl,rfl⟩
def Laid (w:World):Prop:=w.cell? ⟨0,0,none⟩=some (.iface 190 (.agg #[.pointer (some ⟨1,122,none⟩)]))
theorem Laid.below {w w':World} {n:Nat} (h:Laid w) (hb:Below n w w') (hn:0<n):Laid w':=(hb.cell (p:=⟨0,0,none⟩) hn).trans h
theorem Laid.size {w:World} (h:Laid w):0<w.heap.size:=World.block_lt_of_cell? w _ h
theorem Laid.pure {w w':World} (h:Laid w) (hb:Below w.heap.size w w'):Laid w':=h.below hb h.size
theorem Nu (e t:Addr) (old:Value) (w:World) (hg:Laid w) (ht0:w.cell? t=some old) (hf0:w.frozen? t=false) :
  Calls Tryz.prog 89 #[.iface 119 (.pointer (some e)),.iface 124 (.pointer (some t))] w fun ev w'=>ev=.returned (.bool true)∧w'.cell? t=some (.pointer (some e))∧Below t.block w w'∧Chg (fun k=>k=t.block) w w':=by
 refine (as_hit e t old w hg ht0 hf0).mono ?_
 rintro ev w' ⟨rfl,rfl⟩
 have htl:=World.block_lt_of_cell? w t ht0
 refine ⟨rfl,?_,?_,?_⟩
 ·rw [World.cell?_setCell_same']
  rw [World.cell?_alloc_lt _ _ t (by simp;omega),World.cell?_alloc_lt _ _ t (by simp;omega),World.cell?_alloc_lt _ _ t (by simp;omega),World.cell?_alloc_lt _ _ t htl,ht0];rfl
 ·exact (((((Below.refl _ w).alloc (by omega) _).alloc (by simp;omega) _).alloc (by simp;omega) _).alloc (by simp;omega) _).setCell (Nat.le_refl _) _
 ·exact Chg.setCell (S:=fun k=>k=t.block) (((((Chg.refl _ w).alloc _).alloc _).alloc _).alloc _) rfl _
end Go.Proofs.YthhmolonhpaepaaGreatDoor
namespace Go.Proofs.YthhmolonhpaepaaGreatDoor
open Go.RowKit Drw
attribute [local go_sem] Lab.val Rgt.val Cal.val Thg.val
def reqs:List Int:=[1,2,4,5,6,7,8,9]
def ReqAt (W:World) (B K:Nat):Prop:=∀ (j:Nat) (k:Int),reqs[j]?=some k →
 W.cell? ⟨B,j * 6,none⟩=some (.int .i64 k)∧W.cell? ⟨B,j * 6+1,none⟩=some (.slice (some ⟨K+j,0,none⟩) (aI k).length (aI k).length) ∧
 W.cell? ⟨B,j * 6+2,none⟩=some (.bool (eH k))∧W.cell? ⟨B,j * 6+3,none⟩=some (.bool (dO k))∧W.cell? ⟨B,j * 6+4,none⟩=some (.bool (eH k))∧W.cell? ⟨B,j * 6+5,none⟩=some (.bool (dO k)) ∧
 ∀ i x,(aI k)[i]?=some x→W.cell? ⟨K+j,i,none⟩=some (.int .i64 x)
theorem xR (k:Int):(aI k).length≤maxLen:=by
 unfold aI maxLen
 repeat' split
 all_goals simp
set_option maxRecDepth 100000 in
set_option maxHeartbeats 4000000 in
theorem qD (k:Int) (hk:k∈reqs) (w:World) :
  Calls Tryz.prog 145 #[.int .i64 k] w fun e w'=>∃ p,e=.returned (.agg #[.int .i64 k,.slice p (aI k).length (aI k).length,.bool (eH k),.bool (dO k),.bool (eH k),.bool (dO k)])∧aG w' (.slice p (aI k).length (aI k).length) (aI k)∧Below w.heap.size w w':=by
 go_enter Tryz.func145,Tryz.ntmps145
 go_upto_region 1 with (fail)
 go_cut [3] (fun s3 wx=>s3=.slice (some ⟨w.heap.size+9,0,none⟩) 8 8∧Below w.heap.size w wx∧wx.heap.size=w.heap.size+10∧(wx.cell? ⟨w.heap.size,0,none⟩=some (.int .i64 0)∧wx.cell? ⟨w.heap.size,1,none⟩=some (.slice none 0 0)∧wx.cell? ⟨w.heap.size,2,none⟩=some (.bool false)∧wx.cell? ⟨w.heap.size,3,none⟩=some (.bool false)∧wx.cell? ⟨w.heap.size,4,none⟩=some (.bool false)∧wx.cell? ⟨w.heap.size,5,none⟩=some (.bool false))∧(∀ o,wx.frozen? ⟨w.heap.size,o,none⟩=false)∧ReqAt wx (w.heap.size+9) (w.heap.size+1))
 case first=>
  go_wp2
  go_meet
  refine ⟨rfl,(by (repeat (with_reducible first|exact bA _ _|refine bB ?_ ?_ _|refine bC ?_ _|refine bD ?_|refine bE ?_ ?_ _|refine bF ?_ (by assumption) ?_))<;>first|omega|(simp;try omega)),by simp,?_,?_,?_⟩
  ·simp [go_sem]
  ·intro o;simp [go_sem]
  ·intro j k h
   rcases j with _|_|_|_|_|_|_|_|j
   all_goals (simp [reqs] at h;try subst h)
   all_goals (simp [go_sem,eH,dO,aI])
   all_goals (try (intro i x hi;rcases i with _|_|_|i<;>simp at hi<;>(try subst hi)<;>simp [go_sem]))
 case rest=>
  obtain ⟨rfl,hB,hsz,⟨c0,c1,c2,c3,c4,c5⟩,hf,hR⟩:=hcut
  have HR:=Lib.hid hR
  clear hR
  go_wp2
  go_loopw [25] (fun i wr=>∃ j:Nat,j≤8∧i=.int .i64 j∧(∀ m<j,reqs[m]?≠some k)∧Below wc.heap.size wc wr) (fun i _=>8 - (intOf i).toNat)
  case atStart=>exact ⟨0,Nat.zero_le _,rfl,by simp,Below.refl _ _⟩
  case round=>
   obtain ⟨j,hj,rfl,hall,hBr⟩:=hrel
   have lL:=Lib.hid hall
   clear hall
   obtain ⟨hcr,hfr⟩:=ax hBr
   have hszr:=hBr.size
   by_cases hlt:j<8
   ·obtain ⟨kj,hkj⟩:∃ y,reqs[j]?=some y:=⟨reqs[j]'(by simpa [reqs] using hlt),by simp [reqs,hlt]⟩
    obtain ⟨d0,d1,d2,d3,d4,d5,dk⟩:=HR.out j kj hkj
    have Hkj:=Lib.hid hkj
    clear hkj
    rw [← hcr _ _ (by omega)] at d0 d1 d2 d3 d4 d5 c0 c1 c2 c3 c4 c5
    have hf':∀ o,wr.frozen? ⟨w.heap.size,o,none⟩=false:=fun o=>(hfr _ _ (by omega)).trans (hf o)
    have Dk:=Lib.hid dk
    have hz1:w.heap.size+9<wr.heap.size:=by omega
    have hz2:w.heap.size<wr.heap.size:=by omega
    clear hcr hfr hf dk
    go_wp2
    ·have e:kj=k:=by simpa using ‹(kj == k)=true›
     subst e
     have hI:aG wc (.slice (some ⟨w.heap.size+1+j,0,none⟩) (aI kj).length (aI kj).length) (aI kj):=by
      refine ⟨_,_,by rw [List.length_map],by simp,xR kj,.inr ⟨_,_,rfl,?_⟩⟩
      intro i c hi m u hm
      rw [List.getElem?_map] at hi
      obtain ⟨x,hx,rfl⟩:=Option.map_eq_some_iff.1 hi
      obtain rfl:m=0:=by
       rcases m with _|m
       ·rfl
       ·simp [intCells] at hm
      simp [intCells] at hm
      subst hm
      simpa using Dk.out i x hx
     refine bodyPost_ret (v:=.agg #[.int .i64 kj,.slice (some ⟨w.heap.size+1+j,0,none⟩) (aI kj).length (aI kj).length,.bool (eH kj),.bool (dO kj),.bool (eH kj),.bool (dO kj)]) ?_ rfl ⟨_,rfl,?_,?_⟩
     ·simp [results,Tryz.results145,go_sem, *]
     ·refine Rows.kept (S:=fun b=>b=w.heap.size) hI ?_ (.inr ?_)
      ·repeat (with_reducible first|refine Chg.setCell ?_ ?_ _|refine Chg.alloc ?_ _)
       ·exact Chg.ah hBr
       all_goals rfl
      ·intro b hb
       simp [Value.ownBlock] at hb
       omega
     ·exact (by (repeat (with_reducible first|exact bA _ _|refine bB ?_ ?_ _|refine bC ?_ _|refine bD ?_|refine bE ?_ ?_ _|refine bF ?_ (by assumption) ?_))<;>first|omega|(simp;try omega))
    ·refine ⟨⟨j+1,by omega,by go_num,?_,hBr.alloc (by omega) _⟩,by simp [intOf];omega⟩
     intro m hm
     have hne:(kj == k)=false:=by assumption
     rcases Nat.lt_or_ge m j with h|h
     ·exact lL.out m h
     ·obtain rfl:m=j:=by omega
      rw [Hkj.out];simpa using hne
   ·exfalso
    obtain ⟨m,hm⟩:=List.mem_iff_getElem?.1 hk
    have:m<reqs.length:=(List.getElem?_eq_some_iff.1 hm).1
    exact lL.out m (by simp [reqs] at this;omega) hm
end Go.Proofs.YthhmolonhpaepaaGreatDoor
namespace Go.Proofs.YthhmolonhpaepaaGreatDoor
open Go.RowKit Drw
theorem LH {ts:List Thg} (h:aU ts=true) {t:Thg} (ht:t∈ts):aP t=true∧dP ts t=true∧∀ r∈t.slots,bK ts r=true:=by
 rw [qh] at h
 simp only [Bool.and_eq_true,List.all_eq_true] at h
 have:=h.1 t ht
 simp only [rowOk,Bool.and_eq_true,List.all_eq_true] at this
 exact ⟨this.1.1,this.1.2,this.2⟩
theorem CB {t:Thg} (h:aP t=true) (hk:t.kind=2∨t.kind=3):t.slots.length=4:=by
 unfold aP at h
 simp only [Bool.and_eq_true] at h
 have:=h.1.1.2
 rcases hk with hk|hk<;>simp [bH,hk] at this<;>exact this.1
structure Can (ts:List Thg) (c:Cal) (j m:Nat) (tr:Thg) (r:Rgt):Prop where
 run:c.run=(j:Int)+1
 a:c.a=(m:Int)
 Cw:ts[j]?=some tr
 r_at:tr.slots[m]?=some r
 kind:tr.kind=3
 four:tr.slots.length=4
 trOk:aP tr=true
 rOk:aZ r=true
 cap:bK ts r=true
 slot:NQ ts c=r
 m4:m<4
 call:c.kind=3∨c.kind∈reqs
 b:0≤c.b∧c.b≤3
 n:0≤c.n∧c.n≤99
 tab:aU ts=true
 ok:nQ c=true
theorem Ic {ts:List Thg} {c:Cal} (h:bP ts c=true):∃ j m tr r,Can ts c j m tr r:=by
 unfold bP at h
 simp only [Bool.and_eq_true] at h
 obtain ⟨⟨h1,h2⟩,h3⟩:=h
 unfold bS at h3
 simp only [Bool.and_eq_true,beq_iff_eq] at h3
 obtain ⟨j,hj,htr⟩:=eO h3.1
 have hm:aC ts c.run∈ts:=List.mem_of_getElem? htr
 obtain ⟨t1,t2,t3⟩:=LH h1 hm
 have h4:=CB t1 (.inr h3.2)
 have h2':=h2
 simp only [nQ,inR,Bool.and_eq_true,decide_eq_true_eq] at h2'
 obtain ⟨⟨⟨⟨a1,a2⟩,a3⟩,a4⟩,a5⟩:=h2'
 obtain ⟨m,hma⟩:∃ m:Nat,c.a=(m:Int):=⟨c.a.toNat,by omega⟩
 have hm4:m<4:=by omega
 have hr:(aC ts c.run).slots[m]?=some (NQ ts c):=by
  simp [NQ,nL,hma,h4,hm4]
 have hmr:=List.mem_of_getElem? hr
 refine ⟨j,m,_,_,hj,hma,htr,hr,h3.2,h4,t1,xx t1 _ hmr,t3 _ hmr,rfl,hm4,?_,a4,a5,h1,h2⟩
 simp only [reqs,List.mem_cons,List.not_mem_nil,or_false]
 omega
theorem zg {ts:List Thg} {r:Rgt} (h:bK ts r=true) (h0:¬ r.thing=0):∃ x:Nat,r.thing=(x:Int)+1∧ts[x]?=some (aC ts r.thing)∧ex ts r.thing=true∧r.aJ≤(aC ts r.thing).aJ:=by
 simp only [bK,Bool.or_eq_true,beq_iff_eq,Bool.and_eq_true,decide_eq_true_eq] at h
 rcases h with h|⟨h1,h2⟩
 ·exact absurd h h0
 ·obtain ⟨x,hx,hx'⟩:=eO h1
  exact ⟨x,hx,hx',h1,h2⟩
end Go.Proofs.YthhmolonhpaepaaGreatDoor
