/- What an activation that calls nothing can yield, whatever the tape ahead of each step. Conditions: none. -/
import Derived.Test.YthhmolonhpaepaaGreatDoorVJZm
import Derived.Test.YthhmolonhpaepaaGreatDoorVJL
import Derived.Test.YthhmolonhpaepaaGreatDoorVJZh
import Derived.Conc.LeavingOf
import Derived.SevenTiedAt
set_option linter.unusedVariables false
set_option linter.unusedSimpArgs false
section
namespace Mz
open Go Go.Conc Ren
def NG (P:Program) (good:Value→Prop):Nat→Frame→World→Prop
 | 0,_,_=>True
 | n+1,fr,w=>∀ t d l,l≠[]→match stepG P true (G fr l) (w.af t d) with
  | .go g w1 _=>(∃ fr1,g=G fr1 l∧(NG P good n fr1 w1∨∃ ch,fr1.mode=.panicking ch))∨∃ c cs v,l=c::cs∧g=G (c.finish v) cs∧good v
  | .comm ..=>False
  | _=>True
def Safe (P:Program) (good:Value→Prop) (fr:Frame) (w:World):Prop:=∀ n,NG P good n fr w
section
variable {P:Program} {good:Value→Prop} {fr fr':Frame} {w w':World}
theorem xC (h:Safe P good fr w) (t:Nat→Question→Nat) (d:Nat):Safe P good fr (w.af t d):=fun n=>by
 cases n with
 | zero=>trivial
 | succ n=>exact fun t' d' l hl=>h (n+1) t' d' l hl
theorem Safe.step (h:Safe P good fr w) (t:Nat→Question→Nat) (d:Nat) (l:List Frame) (hl:l≠[]):match stepG P true (G fr l) (w.af t d) with
  | .go g w1 _=>(∃ fr1,g=G fr1 l∧(Safe P good fr1 w1∨∃ ch,fr1.mode=.panicking ch))∨∃ c cs v,l=c::cs∧g=G (c.finish v) cs∧good v
  | .comm ..=>False
  | _=>True:=by
 have h1:=fun n=>h (n+1) t d l hl
 cases hs:stepG P true (G fr l) (w.af t d) with
 | go g w1 es=>
  have h2:∀ n,(∃ fr1,g=G fr1 l∧(NG P good n fr1 w1∨∃ ch,fr1.mode=.panicking ch))∨∃ c cs v,l=c::cs∧g=G (c.finish v) cs∧good v:=fun n=>by
   have h3:=h1 n
   rw [hs] at h3
   exact h3
  dsimp only
  by_cases hp:∃ c cs v,l=c::cs∧g=G (c.finish v) cs∧good v
  ·exact .inr hp
  ·left
   have h3:=fun n=>(h2 n).resolve_right hp
   obtain ⟨fr1,e,_⟩:=h3 0
   refine ⟨fr1,e,?_⟩
   by_cases hm:∃ ch,fr1.mode=.panicking ch
   ·exact .inr hm
   ·left
    intro n
    obtain ⟨fr2,e2,h4⟩:=h3 n
    have:fr1=fr2:=by rw [e] at e2;exact congrArg Goroutine.frame e2
    subst this
    exact h4.resolve_right hm
 | comm g a b s w1 es=>
  have h3:=h1 0
  rw [hs] at h3
  exact h3
 | _=>trivial
theorem zG (h:∀ t d l,l≠[]→∃ w1 es,stepG P true (G fr l) (w.af t d)=.go (G fr' l) w1 es∧Safe P good fr' w1):Safe P good fr w:=fun n=>by
 cases n with
 | zero=>trivial
 | succ n=>
  intro t d l hl
  obtain ⟨w1,es,e,hs⟩:=h t d l hl
  rw [e]
  exact .inl ⟨fr',rfl,.inl (hs n)⟩
theorem fw (h:∀ w l,stepG P true (G fr l) w=.go (G fr' l) w) (hs:Safe P good fr' w):Safe P good fr w:=
 zG fun t d l _=>⟨_,_,h _ l,xC hs t d⟩
theorem Jj (h:∀ t d c cs,(∃ v w1 es,stepG P true (G fr (c::cs)) (w.af t d)=.go (G (c.finish v) cs) w1 es∧good v)∨∃ o w1 es,stepG P true (G fr (c::cs)) (w.af t d)=.ended o w1 es):Safe P good fr w:=fun n=>by
 cases n with
 | zero=>trivial
 | succ n=>
  intro t d l hl
  cases l with
  | nil=>exact (hl rfl).elim
  | cons c cs=>
   rcases h t d c cs with ⟨v,w1,es,e,hv⟩|⟨o,w1,es,e⟩
   ·rw [e];exact .inr ⟨c,cs,v,rfl,rfl,hv⟩
   ·rw [e];trivial
section
variable {b:Frame} {a:Act} {k:List Item} {ops:Array Oper} {i:Nat} {rest:List Nat} {o:Oper} {v:Value}
theorem gp (ho:ops[i]?=some o) (hw:Region.wanted o (yielded ops a.tmps)=true) (hk:b.kind≠.early) (hr:∀ t d,∃ w1,(execOp a.eval o).run P (w.af t d)=.ok (.value v) w1∧Safe P good (b.at (a.put o.dst v) (.inRegion ops rest::k)) w1):Safe P good (b.at a (.inRegion ops (i::rest)::k)) w:=
 zG fun t d l _=>by
  obtain ⟨w1,e,h⟩:=hr t d
  exact ⟨w1,_,stepG_value ho hw hk e,h⟩
theorem E8 (ho:ops[i]?=some o) (hw:Region.wanted o (yielded ops a.tmps)=true) (hk:b.kind≠.early) (hr:∀ t d,∃ w1,(execOp a.eval o).run P (w.af t d)=.ok .skip w1∧Safe P good (b.at (a.put o.dst undef) (.inRegion ops rest::k)) w1):Safe P good (b.at a (.inRegion ops (i::rest)::k)) w:=
 zG fun t d l _=>by
  obtain ⟨w1,e,h⟩:=hr t d
  exact ⟨w1,_,stepG_none ho hw hk e,h⟩
theorem zH (ho:ops[i]?=some o) (hw:Region.wanted o (yielded ops a.tmps)=true) (hnd:∀ c,o.op≠.defer c) (hb:b.kind=.normal)
  (hr:∀ t d,(∃ v w1,(execOp a.eval o).run P (w.af t d)=.ok (.value v) w1∧Safe P good (b.at (a.put o.dst v) (.inRegion ops rest::k)) w1)∨(∃ v w1,(execOp a.eval o).run P (w.af t d)=.halt (.panic v) w1)∨∃ s w1,(execOp a.eval o).run P (w.af t d)=.halt (.stuck s) w1∨(execOp a.eval o).run P (w.af t d)=.halt (.unsupported .addressObserved) w1):Safe P good (b.at a (.inRegion ops (i::rest)::k)) w:=fun n=>by
 cases n with
 | zero=>trivial
 | succ n=>
  intro t d l hl
  have hk:b.kind≠.early:=by rw [hb];intro e;cases e
  rcases hr t d with ⟨v,w1,e,h⟩|⟨v,w1,e⟩|⟨s,w1,e|e⟩
  ·rw [stepG_value ho hw hk e]
   exact .inl ⟨_,rfl,.inl (h n)⟩
  ·rcases hx:(execOp a.eval o).runT P (w.af t d) #[] with ⟨r,es⟩
   have er:r=.halt (.panic v) w1:=by
    have:=Sem.runT_fst P (execOp a.eval o) (w.af t d) #[]
    rw [hx] at this
    exact this.trans e
   subst er
   have hs:∃ es',stepG P true (G (b.at a (.inRegion ops (i::rest)::k)) l) (w.af t d)=.go (G ((b.at a (.inRegion ops (i::rest)::k)).raise [{ v,recovered:=false }]) l) w1 es':=by
    rw [stepG_oper ho hw]
    simp [stepG.apply,hx,e,Frame.at,hb,GStep.after,G]
   obtain ⟨es',hs⟩:=hs
   rw [hs]
   refine .inl ⟨_,rfl,.inr ?_⟩
   unfold Frame.raise
   split<;>exact ⟨_,rfl⟩
  ·rcases hx:(execOp a.eval o).runT P (w.af t d) #[] with ⟨r,es⟩
   have er:r=.halt (.stuck s) w1:=by
    have:=Sem.runT_fst P (execOp a.eval o) (w.af t d) #[]
    rw [hx] at this
    exact this.trans e
   subst er
   have hs:∃ o' es',stepG P true (G (b.at a (.inRegion ops (i::rest)::k)) l) (w.af t d)=.ended o' w1 es':=by
    rw [stepG_oper ho hw]
    simp [stepG.apply,hx,e,Frame.at,hb,GStep.after,G]
   obtain ⟨o',es',hs⟩:=hs
   rw [hs]
   trivial
  ·rcases hx:(execOp a.eval o).runT P (w.af t d) #[] with ⟨r,es⟩
   have er:r=.halt (.unsupported .addressObserved) w1:=by
    have:=Sem.runT_fst P (execOp a.eval o) (w.af t d) #[]
    rw [hx] at this
    exact this.trans e
   subst er
   have hs:∃ o' es',stepG P true (G (b.at a (.inRegion ops (i::rest)::k)) l) (w.af t d)=.ended o' w1 es':=by
    rw [stepG_oper ho hw]
    simp [stepG.apply,hx,e,Frame.at,hb,GStep.after,G]
   obtain ⟨o',es',hs⟩:=hs
   rw [hs]
   trivial
end
end
end Mz
end
section
namespace Mz
open Go Go.Conc Ren Go.Extern Go.Extern.Rtype
variable [T:Mc]
section
theorem iX (h:Value):MZ Tr (ofHandle h):=by
 unfold ofHandle
 refine MZ.prog ?_
 split<;>first|exact MZ.ok|exact MZ.dead
theorem yo (t:TypeId):MZ Tr (handle t):=MZ.prog MZ.ok
theorem uD (s:String):MZ Tr (cutType s):=by
 unfold cutType
 refine MZ.prog ?_
 split<;>first|exact MZ.ok|exact MZ.dead
theorem ma (s:String) (t:TypeId):MZ Tr (noPack s t):=by
 unfold noPack
 refine MZ.prog ?_
 split<;>first|exact MZ.ok|exact MZ.dead
theorem sJ (s:String) (t:TypeId):MZ Tr (noPackNamed s t):=by
 unfold noPackNamed
 refine MZ.prog (MZ.prog ?_)
 split<;>first|exact MZ.ok|exact MZ.dead
theorem cz (s:String) (t:TypeId):MZ Tr (noPackMethods s t):=by
 unfold noPackMethods
 refine MZ.prog (MZ.prog ?_)
 split<;>first|exact MZ.ok|exact MZ.dead
theorem vJ (t:TypeId):MZ Tr (spelt t):=MZ.bind (sJ _ _) fun _ _=>uu t
theorem kD (t:TypeId):MZ Tr (under t):=by
 unfold under
 refine MZ.bind (aK t) fun i _=>?_
 split
 ·exact MZ.bind (aK _) fun _ _=>MZ.ok
 ·exact MZ.ok
theorem vO (t:TypeId):MZ Tr (kind t):=by
 unfold kind
 refine MZ.bind (kD t) fun i _=>?_
 dsimp only
 split<;>first|exact MZ.ok|exact MZ.dead
theorem uA (t:TypeId):MZ Tr (hasName t):=by
 unfold hasName
 refine MZ.bind (aK t) fun i _=>?_
 split<;>exact MZ.ok
theorem BA (t:TypeId):MZ Tr (elem? t):=by
 unfold elem?
 refine MZ.bind (kD t) fun i _=>?_
 split<;>exact MZ.ok
theorem iY (t v:TypeId):MZ Tr (implements t v):=by
 unfold implements
 refine MZ.bind (cz _ _) fun _ _=>MZ.bind (cz _ _) fun _ _=>MZ.bind (kD _) fun a _=>MZ.bind (kD _) fun b _=>?_
 split
 ·exact MZ.ok
 ·exact MZ.bind (aK _) fun _ _=>MZ.ok
 ·exact MZ.ok
theorem yA (t v:TypeId):MZ Tr (directlyAssignable t v):=by
 unfold directlyAssignable
 have fin:MZ Tr (do
   let (t,ti) ← under t
   let (v,vi) ← under v
   match ti.desc,vi.desc with
   | .chan _ e,.chan .both e'=>pure (t == v || e == e')
   | _,_=>pure (t == v):Sem Bool):=by
  refine MZ.bind (kD _) fun a _=>MZ.bind (kD _) fun b _=>?_
  dsimp only
  split<;>exact MZ.ok
 split
 ·exact MZ.ok
 ·refine MZ.bind (uA t) fun x _=>MZ.bind (uA v) fun y _=>?_
  split
  ·exact MZ.ok
  ·exact fin
theorem qJ (t:TypeId):MZ Tr (ReflectliteType.toType t):=MZ.bind (uD _) fun _ _=>MZ.bind (yo t) fun _ _=>MZ.ok
theorem nD (v:Value):MZ Tr (ReflectliteType.ofRtype v):=by
 cases v with
 | agg a=>
  obtain ⟨l⟩:=a
  match l with
  | []=>exact MZ.dead
  | _::_::_=>exact MZ.dead
  | [h]=>exact MZ.bind (iX h) fun _ _=>MZ.bind (ma _ _) fun _ _=>MZ.ok
 | _=>exact MZ.dead
theorem Ga (a:Array Value):MZ Tr (ReflectliteType.typeOf a):=by
 obtain ⟨l⟩:=a
 match l with
 | []=>exact MZ.dead
 | x::_::_=>cases x<;>exact MZ.dead
 | [x]=>
  cases x with
  | nilIface=>exact MZ.ok
  | iface t v=>exact qJ t
  | _=>exact MZ.dead
theorem Du {f:TypeId→Sem Value} (h:∀ t,MZ Tr (f t)) (a:Array Value):MZ Tr (ReflectliteType.method f a):=by
 obtain ⟨l⟩:=a
 match l with
 | []=>exact MZ.dead
 | _::_::_=>exact MZ.dead
 | [r]=>exact MZ.bind (nD r) fun t _=>h t
theorem JO (t:TypeId):MZ Tr (ReflectliteType.elem t):=by
 unfold ReflectliteType.elem
 refine MZ.bind (BA t) fun e _=>?_
 split
 ·exact qJ _
 ·exact MZ.bind (vJ t) fun _ _=>fB _
theorem qM (s:String) {f:TypeId→TypeId→Sem Bool} (h:∀ t u,MZ Tr (f t u)) (a:Array Value):MZ Tr (ReflectliteType.relation s f a):=by
 obtain ⟨l⟩:=a
 match l with
 | []=>exact MZ.dead
 | [_]=>exact MZ.dead
 | _::x::_::_=>cases x<;>exact MZ.dead
 | [r,x]=>
  cases x with
  | nilIface=>exact fB _
  | iface t u=>exact MZ.bind (nD u) fun _ _=>MZ.bind (nD r) fun _ _=>MZ.bind (h _ _) fun _ _=>MZ.ok
  | _=>exact MZ.dead
theorem sK (u t:TypeId):MZ Tr (ReflectliteType.implements_ u t):=by
 unfold ReflectliteType.implements_
 refine MZ.bind (vO u) fun k _=>?_
 have fin:MZ Tr (do noPackMethods "Implements" t;noPack "Implements" u;implements u t):=MZ.bind (cz _ _) fun _ _=>MZ.bind (ma _ _) fun _ _=>iY u t
 dsimp only
 split
 ·exact MZ.bind (A:=Tr) (fB _) fun _ _=>fin
 ·exact fin
theorem NS (u t:TypeId):MZ Tr (ReflectliteType.assignableTo u t):=by
 unfold ReflectliteType.assignableTo
 have fin:MZ Tr (do pure ((← directlyAssignable u t) || (← implements u t)):Sem Bool):=by
  exact MZ.bind (yA u t) fun x _=>MZ.bind (iY u t) fun y _=>MZ.ok
 dsimp only
 split
 ·exact MZ.bind (cz _ _) fun _ _=>MZ.bind (cz _ _) fun _ _=>fin
 ·exact fin
theorem yD {f:TypeId→Sem Value} (h:∀ t,MZ Tr (f t)) (a:Array Value):MZ Tr (ReflectliteType.abiMethod f a):=by
 obtain ⟨l⟩:=a
 match l with
 | []=>exact MZ.dead
 | _::_::_=>exact MZ.dead
 | [r]=>exact MZ.bind (iX r) fun t _=>MZ.bind (ma _ _) fun _ _=>h t
theorem DL (t:TypeId):MZ Tr (do pure (.int .u8 (← kind t)):Sem Value):=MZ.bind (vO t) fun _ _=>MZ.ok
theorem mz_mk (t:TypeId) (a:Addr) (n:Nat):MZ Tr (ReflectliteValue.mk t a n):=MZ.bind (yo t) fun _ _=>MZ.bind (vO t) fun _ _=>MZ.ok
theorem yg (v:Value):MZ Tr (ReflectliteValue.unpack v):=by
 unfold ReflectliteValue.unpack
 split
 ·exact MZ.ok
 ·exact MZ.bind (iL _ _) fun _ _=>mz_mk _ _ _
 ·exact MZ.dead
theorem dE {α:Type} {A:α→Prop} (s:String) (k:Nat):MZ A (ReflectliteValue.valueError s k:Sem α):=by
 unfold ReflectliteValue.valueError
 exact MZ.bind (uD _) fun t _=>MZ.bind (qZ _) fun e _=>MZ.bind (iL _ _) fun r _=>MZ.pan
theorem qO (v:Value):MZ Tr (ReflectliteValue.partsAny v):=by
 cases v with
 | agg a=>
  obtain ⟨l⟩:=a
  match l with
  | []=>exact MZ.dead
  | [_]=>exact MZ.dead
  | [_,_]=>exact MZ.dead
  | _::_::_::_::_=>exact MZ.dead
  | [h,b,c]=>
   cases c with
   | int k n=>
    cases k with
    | u64=>
     cases n with
     | ofNat m=>
      cases m with
      | zero=>exact MZ.ok
      | succ m=>
       cases b with
       | pointer p=>
        cases p with
        | none=>exact MZ.dead
        | some p=>exact MZ.bind (iX h) fun _ _=>MZ.ok
       | _=>exact MZ.dead
     | negSucc m=>
      cases b with
      | pointer p=>
       cases p with
       | none=>exact MZ.dead
       | some p=>exact MZ.bind (iX h) fun _ _=>MZ.ok
      | _=>exact MZ.dead
    | _=>cases b with
     | pointer p=>cases p<;>exact MZ.dead
     | _=>exact MZ.dead
   | _=>cases b with
    | pointer p=>cases p<;>exact MZ.dead
    | _=>exact MZ.dead
 | _=>exact MZ.dead
theorem vN (v:Value):MZ Tr (ReflectliteValue.parts v):=by
 unfold ReflectliteValue.parts
 refine MZ.bind (qO v) fun x _=>?_
 split
 ·exact MZ.bind (ma _ _) fun _ _=>MZ.ok
 ·exact MZ.ok
theorem nA {z:Sem Value} {f:TypeId→Addr→Nat→Nat→Sem Value} (hz:MZ Tr z) (h:∀ t a n k,MZ Tr (f t a n k)) (xs:Array Value):MZ Tr (ReflectliteValue.method z f xs):=by
 obtain ⟨l⟩:=xs
 match l with
 | []=>exact MZ.dead
 | _::_::_=>exact MZ.dead
 | [r]=>
  refine MZ.bind (vN r) fun x _=>?_
  split
  ·exact hz
  ·exact h _ _ _ _
theorem vH {z:Sem Value} {f:TypeId→Addr→Nat→Nat→Sem Value} (hz:MZ Tr z) (h:∀ t a n k,MZ Tr (f t a n k)) (xs:Array Value):MZ Tr (ReflectliteValue.methodAny z f xs):=by
 obtain ⟨l⟩:=xs
 match l with
 | []=>exact MZ.dead
 | _::_::_=>exact MZ.dead
 | [r]=>
  refine MZ.bind (qO r) fun x _=>?_
  split
  ·exact hz
  ·exact h _ _ _ _
theorem JP (t:TypeId) (a:Addr) (n k:Nat):MZ Tr (ReflectliteValue.isNil t a n k):=by
 unfold ReflectliteValue.isNil
 have fin:MZ Tr (do
   match ← loadVar t a with
   | .chan none|.nilFunc|.nilIface|.map none|.pointer none|.slice none _ _=>pure (.bool true)
   | _=>pure (.bool false):Sem Value):=by
  refine MZ.bind (dX t a) fun v _=>?_
  split<;>exact MZ.ok
 dsimp only
 split
 ·exact MZ.bind (A:=Tr) (dE _ _) fun _ _=>fin
 ·exact fin
theorem JK (t:TypeId) (a:Addr) (n k:Nat):MZ Tr (ReflectliteValue.elem t a n k):=by
 unfold ReflectliteValue.elem
 have fin:MZ Tr (do
   match k,← loadVar t a,← elem? t with
   | 20,i,_=>ReflectliteValue.unpack i
   | 22,.pointer none,_=>pure ReflectliteValue.zeroV
   | 22,.pointer (some p),some e=>ReflectliteValue.mk e p ReflectliteValue.flagAddr
   | _,_,_=>ReflectliteValue.valueError "reflectlite.Value.Elem" k:Sem Value):=by
  refine MZ.bind (dX t a) fun v _=>MZ.bind (BA t) fun e _=>?_
  split
  ·exact yg _
  ·exact MZ.ok
  ·exact mz_mk _ _ _
  ·exact dE _ _
 dsimp only
 split
 ·exact MZ.bind (A:=Tr) (dE _ _) fun _ _=>fin
 ·exact fin
theorem mz_set (xs:Array Value):MZ Tr (ReflectliteValue.set xs):=by
 obtain ⟨l⟩:=xs
 match l with
 | []=>exact MZ.dead
 | [_]=>exact MZ.dead
 | _::_::_::_=>exact MZ.dead
 | [v,x]=>
  refine MZ.bind (vN v) fun x _=>MZ.bind (vN _) fun y _=>?_
  split
  ·dsimp only
   rename_i dst a fl src b _ _
   have fin:MZ Tr (do
     let val ← loadVar src b
     if ← directlyAssignable dst src then storeVar dst a val
     else if ← implements dst src then
      if (← kind src) == 20 then
       match val with
       | .nilIface=>unsupported (.noEntry "extern/reflectlite: a nil value of one interface type handed on as a value of another")
       | _=>storeVar dst a val
      else storeVar dst a (.iface src val)
     else panicString ("reflectlite.Set: value of type "++(←spelt src)++ " is not assignable to type "++(← spelt dst))
     pure (.tuple #[]):Sem Value):=by
    refine MZ.bind (dX _ _) fun val _=>MZ.bind (yA _ _) fun c _=>?_
    dsimp only
    split
    ·exact MZ.bind (iW _ _ _) fun _ _=>MZ.ok
    ·refine MZ.bind (iY _ _) fun c _=>?_
     split
     ·refine MZ.bind (vO _) fun k _=>?_
      split
      ·split
       ·exact bM _
       ·exact MZ.bind (iW _ _ _) fun _ _=>MZ.ok
      ·exact MZ.bind (iW _ _ _) fun _ _=>MZ.ok
     ·exact MZ.bind (vJ _) fun _ _=>MZ.bind (vJ _) fun _ _=>MZ.bind (A:=Tr) (fB _) fun _ _=>MZ.ok
   split
   ·exact bM _
   ·exact fin
  ·exact MZ.dead
end
end Mz
end
section
namespace Mz
open Go Go.Conc Ren
variable [T:Mc]
def Kg (f:FuncId):Bool:=match T.P.funcs[f]? with
 | some fn=>!(fn.name == "runtime.NumGoroutine") && match fn.body with
  | some b=>codeOk f b && match T.kr f with
   | none=>true
   | some c=>T.tr f || match fn.results.toList with
    | [.tmp t]=>(T.kl f).contains (t,c)
    | _=>false
  | none=>false
 | none=>false
theorem G8 {f:FuncId} (h:Kg f=true):Cn f:=by
 unfold Kg at h
 cases hf:T.P.funcs[f]? with
 | none=>rw [hf] at h;cases h
 | some fn=>
  rw [hf] at h
  simp only [Bool.and_eq_true,Bool.not_eq_true'] at h
  refine ⟨fn,hf,h.1,.inl ?_⟩
  cases hb:fn.body with
  | none=>rw [hb] at h;cases h.2
  | some b=>
   rw [hb] at h
   simp only [Bool.and_eq_true] at h
   refine ⟨b,rfl,h.2.1,fun c hc htr=>?_⟩
   have h3:=h.2.2
   rw [hc] at h3
   simp only [htr,Bool.false_or] at h3
   split at h3
   ·rename_i t e
    exact ⟨t,by rw [← Array.toList_inj];exact e,by simpa using h3⟩
   ·cases h3
def Mo:Bool:=T.P.types.all fun i=>i.methods.all fun m=>!(T.nm m.name) || match m.func with
 | some p=>T.fn p.1 && ((T.kl p.1).isEmpty && !T.tr p.1)
 | none=>true
def NoM (x:Option TypeInfo):Prop:=∀ i,x=some i→i.methods=#[]
omit T in
theorem NoM.bind {α:Type} {x:Option α} {f:α→Option TypeInfo} (h:∀ a,NoM (f a)):NoM (x >>= f):=fun i e=>by
 cases x with
 | none=>cases e
 | some a=>exact h a i e
omit T in
theorem NoM.none:NoM none:=fun i e=>by cases e
omit T in
theorem NoM.lit {i:TypeInfo} (h:i.methods=#[]):NoM (some i):=fun j e=>by cases e;exact h
omit T in
theorem Ar {info:TypeId→Option TypeInfo} {fs:Array Field}:NoM (Made.reckonStruct info fs):=by
 unfold Made.reckonStruct
 refine NoM.bind fun r=>?_
 dsimp only
 split<;>exact NoM.lit rfl
omit T in
theorem yE {info:TypeId→Option TypeInfo} {d:TypeDesc} {i:TypeInfo} (h:Made.reckon info d=some i):i.methods=#[]:=by
 have key:NoM (Made.reckon info d):=by
  unfold Made.reckon
  cases d with
  | struct fs=>exact Ar
  | _=>
   dsimp only
   repeat' (first|exact NoM.none|exact NoM.lit rfl|refine NoM.bind fun _=>?_|split)
 exact key i h
omit T in
theorem sN (T:Tables):∀ (n:Nat) (t:TypeId) (i:TypeInfo),Made.infoAt T n t=some i→i.methods=#[]∨∃ k:Nat,T.types[k]?=some i:=by
 intro n
 cases n with
 | zero=>intro t i h;cases h
 | succ n=>
  intro t i h
  unfold Made.infoAt at h
  split at h
  ·exact .inr ⟨t,h⟩
  ·cases hd:Made.decode (t - T.types.size) with
   | none=>rw [hd] at h;cases h
   | some d=>
    rw [hd] at h
    exact .inl (yE h)
theorem nm_of (h:Mo=true):∀ t i (m:Method) f b,T.P.info? t=some i→m∈i.methods→T.nm m.name=true→m.func=some (f,b)→T.fn f=true∧T.kl f=[]∧T.tr f=false:=by
 intro t i m f b hi hm hn hf
 have key:∀ k:Nat,T.P.types[k]?=some i→T.fn f=true∧T.kl f=[]∧T.tr f=false:=fun k hk=>by
  unfold Mo at h
  have h1:=Array.all_eq_true'.1 h i (Array.mem_of_getElem? hk)
  have h2:=Array.all_eq_true'.1 h1 m hm
  rw [hn,hf] at h2
  simp only [Bool.not_true,Bool.false_or,Bool.and_eq_true,List.isEmpty_iff,Bool.not_eq_true'] at h2
  exact h2
 have hi':T.P.toTables.info? t=some i:=hi
 unfold Tables.info? at hi'
 split at hi'
 ·exact key t hi'
 ·rcases sN _ _ _ _ hi' with e|⟨k,hk⟩
  ·rw [e] at hm;simp at hm
  ·exact key k hk
end Mz
end
section
namespace Ren
open Go Go.Conc Go.ConcN
section
variable {P:Program} {Shun:Loc→Prop} {Post:Value→World→Prop}
def Last (P:Program) (Shun:Loc→Prop) (Post:Value→World→Prop) (a:Goroutine) (w:World):Prop:=
 a.status=.running∧∀ n,∃ v es,stepG P true a (w.at n)=.ended (.done v) (w.at n) es∧OkA Shun (w.at n) (w.at n) es∧Post v (w.at n)
def LInv (P:Program) (Shun:Loc→Prop) (Post:Value→World→Prop) (μ:Nat) (m:Machine) (t:Trace):Prop:=
 ∃ (gs:Array Goroutine) (a:Goroutine) (w:World) (sl:Option (Nat × Nat)) (q:Nat→Nat),
  m=crowd gs w sl∧gs[0]?=some a∧Leavers P t gs q∧dh 0 Shun w.heap.size t∧Last P Shun Post a w∧μ=sumTo gs.size q
theorem GH (μ:Nat) (m:Machine) (t:Trace) (h:LInv P Shun Post μ m t) :
  (∃ o w ops,stepT P m=(.ended o w,ops)∧Good P Post m o w (t++ops))∨(∃ m' ops μ',stepT P m=(.next m',ops)∧μ' < μ∧LInv P Shun Post μ' m' (t++ops)):=by
 obtain ⟨gs,a,w,sl,q,rfl,h0,hL,hP,hA,rfl⟩:=h
 have hrun:a.status=.running:=hA.1
 have haw:∀ g∈gs,awake g:=by
  intro g hg
  obtain ⟨i,hi,rfl⟩:=Array.mem_iff_getElem.1 hg
  rcases Nat.eq_zero_or_pos i with rfl|hpos
  ·have:gs[0]=a:=by simpa [Array.getElem?_eq_getElem hi] using h0
   rw [this];exact awake_of (.inl hrun)
  ·exact awake_of ((hL.old i _ hpos (Array.getElem?_eq_getElem hi)).status.elim .inl fun x=>.inr (.inr x))
 obtain ⟨i,g,d,sl',hi,hg,hst⟩:=crowd_pick (P:=P) (w:=w) (sl:=sl) haw ⟨0,a,h0,hrun⟩
 rcases Nat.eq_zero_or_pos i with rfl|hpos
 ·obtain rfl:g=a:=by rw [h0] at hi;exact (Option.some.inj hi).symm
  obtain ⟨v,es,hend,hes,hpost⟩:=hA.2 d
  have hrunT:=runT_many_ended (P:=P) (sl:=sl') (i:=0) hi (show stepG P (0 == 0) g (w.at d)=_ from hend)
  have hP':=hP.own (fn:=g.frame.fn) (pos:=g.frame.place) (es:=es) (fun e he x hx hs=>hes.shun e he x hx hs) hes.low
  refine .inl ⟨_,_,_,hst.trans hrunT,v,rfl,hpost,hP'.clean,hP'.over,⟨fun x hx=>?_,rfl⟩,fun j x hx hj=>?_⟩
  ·obtain ⟨j,hj⟩:=List.mem_iff_getElem?.1 hx
   rw [List.getElem?_drop] at hj
   exact ⟨_,(hL.old (1+j) x (by omega) (by simpa [crowd] using hj)).leaves⟩
  ·have hq:=hL.old j x (by omega) hx
   refine ⟨q j,?_⟩
   have e:(t++MemOp.ofEvents 0 g.frame.fn g.frame.place es).deaf j (t++MemOp.ofEvents 0 g.frame.fn g.frame.place es).size=Deaf t j:=
    Deaf_other t (g:=j) (g':=0) (by omega) _ (fun op hop=>by obtain ⟨e,_,rfl⟩:=mem_ofEvents hop;rfl)
   rw [e]
   exact hq.hears _
 ·have hq:=hL.old i g hpos hi
  have hi0:(i == 0)=false:=by simp;omega
  have hlt:i<gs.size:=(Array.getElem?_eq_some_iff.1 hi).1
  cases hqi:q i with
  | zero=>rw [hqi] at hq;rw [hq.1] at hg;cases hg
  | succ k=>
   rw [hqi] at hq
   rcases hq with ⟨hf,_⟩|⟨_,g',es,hm,hstp,hq'⟩
   ·rw [hf] at hg;cases hg
   have hrunT:=runT_crowd_go (P:=P) (sl:=sl') (i:=i) hi (by rw [hi0];exact hstp (w.at d))
   have hsz:((gs.map (woken P g g' (w.at d))).setIfInBounds i g').size=gs.size:=by simp
   have hsum:sumTo gs.size (upd q i k)+(k+1)=sumTo gs.size q+k:=by
    have:=sumTo_upd q k id hlt
    simpa [hqi] using this
   refine .inr ⟨_,_,sumTo gs.size (upd q i k),hst.trans hrunT,by omega,_,a,w.at d,sl',upd q i k,rfl,?_,⟨fun j x hj hx=>?_,fun j hj=>by
    rw [Deaf_other t (g':=i) (by simp at hj;omega) _ (fun op hop=>by obtain ⟨e,_,rfl⟩:=mem_ofEvents hop;rfl)]
    exact hL.above j (by simpa using hj)⟩,hP.mute (by omega) hm,hA,by rw [hsz]⟩
   ·have hne:i≠0:=by omega
    rw [Array.getElem?_setIfInBounds_ne hne,Array.getElem?_map,h0]
    simp [woken_run hrun]
   ·by_cases hji:i=j
    ·subst hji
     rw [Array.getElem?_setIfInBounds_self_of_lt (by simpa using hlt)] at hx
     obtain rfl:=Option.some.inj hx
     rw [upd_same,Deaf_own]
     exact hq'
    ·rw [Array.getElem?_setIfInBounds_ne hji,Array.getElem?_map] at hx
     obtain ⟨y,hy,rfl⟩:=Option.map_eq_some_iff.1 hx
     have hqj:=hL.old j y hj hy
     rw [woken_quitsD hqj,upd_ne q k (Ne.symm hji),Deaf_other t hji _ (fun op hop=>by obtain ⟨e,_,rfl⟩:=mem_ofEvents hop;rfl)]
     exact hqj
theorem tZ {m m':Machine} {t t':Trace} {N K:Nat} (h:runNT P N m t=(.next m',t')):runNT P (N+K) m t=runNT P K m' t':=by
 induction N generalizing m t with
 | zero=>
  simp only [runNT] at h
  cases h
  rw [Nat.zero_add]
 | succ N ih=>
  rw [Nat.succ_add]
  simp only [runNT] at h ⊢
  split at h
  ·exact ih h
  ·rename_i hne _
   cases h
   exact (hne _ rfl).elim
def Ends (P:Program) (Post:Value→World→Prop) (m:Machine) (t:Trace):Prop:=
 ∃ M last o w' t',runNT P (M+1) m t=(.ended o w',t')∧runN P M m=.next last∧step P last=.ended o w'∧Good P Post last o w' t'
theorem AtM.ends {m:Machine} {t:Trace} (h:AtM P Shun (Last P Shun Post) m t):Ends P Post m t:=by
 obtain ⟨gs,w,sl,q,a,rfl,h0,ha,hL,hP,hs⟩:=h
 exact run_of_inv Nat.lt_wfRel.wf (LInv P Shun Post) (Good P Post) GH _ _ _ ⟨gs,a,w,sl,q,rfl,h0,hL,hP,ha,rfl⟩
theorem lK.ends {m:Machine} {t:Trace} (h:lK P m t fun m' t'=>Ends P Post m' t'):Ends P Post m t:=by
 obtain ⟨N,m',t',h1,M,last,o,w',t'',h2,h3,h4,h5⟩:=h
 refine ⟨N+M,last,o,w',t'',?_,?_,h4,h5⟩
 ·rw [Nat.add_assoc,tZ h1];exact h2
 ·have e:=tZ (K:=M) h1
  rw [← runNT_fst _ _ _ t,e,runNT_fst]
  exact h3
theorem KE {A:Goroutine→World→Prop} {a:Goroutine} {w:World} (ha:A a w):AtM P (fun _=>False) A (solo a w) #[]:=
 ⟨#[a],w,none,fun _=>0,a,rfl,rfl,ha,leavers_one P a,⟨fun said=>by rintro ⟨i,j,_,⟨a,b,ha,_⟩,_⟩;simp [Trace.act?] at ha,fun i a ha=>by simp [touchAt,Trace.act?] at ha,fun i g hg=>by simp [Trace.g?] at hg,rfl,by simp⟩,by simp⟩
end
end Ren
end
section
namespace Ren
open Go Go.Conc
section
variable {H:Type} {enc:TypeId × Value→H}
theorem dY {a:Assume} {C:Checked} {os:Os} {f:FuncId} {fn:Func} {s:ChangeSpec} {conds:List PathCond} {apart fresh handsOn again:Bool} {X:World→Array Value→Prop}
  (hX:∀ (w w':World) (args:Array Value),w.heap=w'.heap→X w args→X w' args)
  (own:ownKnob C.prog.godebug=none) (started:os.Started) (hfn:C.prog.funcs[f]?=some fn)
  (witness:∃ (w:World) (tape:Tape) (i:Input),w.os=os∧(w.forCall tape i).Shaped C.prog∧i.vars=[]∧Input.okWide C.prog (w.forCall tape i) .any w.heap.size f i ∧
   ((s.pre enc C.prog fn conds apart (w.forCall tape i).memory i.args∧X (w.forCall tape i).memory i.args)∧sizedMet enc C.prog fn (OpenSpec.ofChange s) apart (w.forCall tape i).memory i.args)∧a.holds C.prog (lone (Frame.enter C.prog f i.args .normal) [] (w.forCall tape i)))
  (runs:∀ (W:World) (base:Nat) (args:Array Value) (ds gs:List (DataW H)) (before:List MemPlace),
   (∀ (j:Nat) t v,fn.params[j]?=some t→args[j]?=some v→Value.okWide C.prog W .any base t v) →
   DataW.Whole enc C.prog fn.params.toList s.vars apart W args.toList ds gs before →
   conds.all (PathCond.test C.prog ⟨fn.params.toList,ds,s.plain.varTypes C.prog,gs⟩)=true →
   (DataW.weightsEach C.prog (fn.params.toList++s.plain.varTypes C.prog) (ds++gs)).all (·≤reachBytes)=true→X W args →
   a.holds C.prog (lone (Frame.enter C.prog f args .normal) [] W) →
   ∃ M last o w' t',runNT C.prog (M+1) (solo (G (Frame.enter C.prog f args .normal) []) W) #[]=(.ended o w',t')∧runN C.prog M (solo (G (Frame.enter C.prog f args .normal) []) W)=.next last ∧
    step C.prog last=.ended o w'∧Conc.Good C.prog (fun v W'=>s.post enc C.prog fn apart fresh handsOn again W args v W') last o w' t') :
  ReturnsInLeavingWide a C os f .any (fun w args=>(s.pre enc C.prog fn conds apart w args∧X w args)∧sizedMet enc C.prog fn (OpenSpec.ofChange s) apart w args) (s.post enc C.prog fn apart fresh handsOn again):=by
 refine returnsInLeavingWide_of_good own started witness ?_
 intro w tape i _ _ _ hok hpre hholds
 obtain ⟨_,_,_,fn',hfn',_,_,_,_,hval⟩:=hok
 have e:fn'=fn:=Option.some.inj (hfn'.symm.trans hfn)
 subst e
 obtain ⟨⟨⟨ds,gs,before,hw,hc⟩,hx⟩,hz⟩:=hpre
 have hw':=DataW.Whole.of_heap (w':=w.forCall tape i) (by rfl) hw
 obtain ⟨M,last,o,w',t',h1,h2,h3,h4⟩:=runs (w.forCall tape i) w.heap.size i.args ds gs before hval hw' hc (hz.weights hw) (hX _ _ _ (by rfl) hx) hholds
 exact ⟨M,last,o,w',t',h1,h2,h3,h4.mono fun v hp=>ChangeSpec.post_blind hp⟩
end
theorem iN (Lk:Looks) {p:Pinned} {s:OpenSpec} {c:OpenClaim} (al:List (List PathCond)) (kinds:List LaidKind) (tests:Bool) (har:Bool × String) (lk:Bool)
  (hc:c.holds p s) (hal:∀ D∈al,(c.withDomain D).holds p s) (hw:c.wfByText s=true) (hwal:∀ D∈al,(c.withDomain D).wfByText s=true)
  (htie:c.laidByTextAt Lk p kinds tests)
  (hst:c.start=.entering) (hnb:c.noBlocks=false∧c.again=false) (hm:p.checked.prog.mainIs=some (har.1,har.2.toList)) (hn:(!har.1 && har.2.isEmpty && !lk)=false)
  (hl:∀ f fn,p.checked.prog.funcNamed c.func=some f→p.checked.prog.funcs[f]?=some fn→lk=p.checked.prog.looks []∧∀ (j:Nat) t,fn.params[j]?=some t→p.checked.prog.wantsStandIn t=false)
  (hg:true=c.goesBy p.checked.prog) :
  Claim7.holds p (.plain s) { stood:={ row:=c,standIns:=[],harness:=har,looks:=lk },kinds:=[],alts:=al,goes:=true,laidByText:=true,laidKinds:=kinds,laidTests:=tests,laidLooks:=Lk }:=by
 have h6:∀ r:OpenClaim,Claim7.isSixth { stood:={ row:=r,standIns:=[],harness:=har,looks:=lk },kinds:=[] }=false:=fun r=>by simpa [Claim7.isSixth] using hn
 refine ⟨Claim7.tied_new_at Lk kinds tests (Claim7.new_of_sixth hc har lk hst hnb hm (h6 c) hl) hw,fun D hD=>?_,htie,(fun h=>by cases h),hg⟩
 exact Claim7.tied_new_at Lk kinds tests (Claim7.new_of_sixth (hal D hD) har lk hst hnb hm (h6 _) hl) (hwal D hD)
end Ren
end
