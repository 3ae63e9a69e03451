/- A goroutine of given code, whatever memory holds: activations, and what a program of the machine's own makes of them. Conditions: none. -/
import Derived.Test.YthhmolonhpaepaaGreatDoorVJZh
set_option linter.unusedVariables false
set_option linter.unusedSimpArgs false
section
namespace Mz
open Go Go.Conc Ren
open jf (Out ExF over gP dF lZ dI)
variable [T:Mc]
def jN (f:FuncId):Item→Prop
 | .code c=>codeOk f c=true
 | .inBlock _|.beginRound=>True
 | .inLoop b=>codeOk f b=true
 | .inRegion ops _=>ops.all (om f)=true
 | .inRangeFunc l|.endRangeFunc l=>T.n0≤l
 | _=>False
def DfM (ds:List Deferred):Prop:=∀ d∈ds,∃ r,d={ target:=.collected r,args:=#[] }∧T.n0≤r
structure FrM (fr:Frame):Prop where
 fn:sW fr.fn
 tmps:Keys fr.fn fr.tmps
 todo:∀ x∈fr.todo,jN fr.fn x
 defers:DfM fr.defers
 kind:fr.kind=.normal
 mode:fr.mode=.run∨fr.mode=.returning
 round:∀ l,fr.roundOf=some l→T.n0≤l
structure FrW (c:Frame) (g:FuncId):Prop where
 fr:FrM c
 back:∀ v,Ret g v→FrM (c.finish v)
 todo:c.todo≠[]
structure FrB (fr:Frame):Prop where
 fn:sW fr.fn
 defers:DfM fr.defers
 mode:∃ ch,fr.mode=.panicking ch
structure GoesM (w w':World) (es:Array Event):Prop where
 okw:OKW w'
 size:w.heap.size≤w'.heap.size
 bad:∀ b,T.bad b→w'.heap[b]?=w.heap[b]?
 evs:∀ e∈es,EM w'.heap.size e
def Lr (f:FuncId) (w:World):Out→Prop
 | .here fr w' es=>(FrM fr∧fr.fn=f)∧GoesM w w' es
 | .push fr2 fr1 w' es=>(FrM fr2∧FrW fr1 fr2.fn∧fr1.fn=f∧((∃ g args,fr2=Frame.enter T.P g args .normal∧(T.tr g=true→args.size=1))∨T.tr fr2.fn=false))∧GoesM w w' es
 | .pop v w' es=>(T.tr f=false→Ret f v)∧GoesM w w' es
 | .comm fr _ _ _ w' es=>(FrM fr∧(∀ v,FrM (fr.finish v))∧fr.fn=f∧fr.todo≠[]∧T.bR=true)∧GoesM w w' es
 | .bad fr w' es=>(FrB fr∧fr.fn=f)∧GoesM w w' es
 | .ended _ _ _=>False
noncomputable def pz (up:Array Event):Out→Out
 | .here fr w _=>.here fr (Pz w) up
 | .push fr2 fr1 w _=>.push fr2 fr1 (Pz w) up
 | .pop v w _=>.pop v (Pz w) up
 | .comm fr a b s w _=>.comm fr a b s (Pz w) up
 | .bad fr w _=>.bad fr (Pz w) up
 | o=>o
def FarM (fr:Frame) (S:List Item):Prop:=S=[]∨(fr.roundOf=none∧(fr.todo≠[]∨fr.mode=.returning))
def NK (fr:Frame) (S:List Item):Prop:=S=[]∨(ExF S∧fr.roundOf=none∧(fr.todo≠[]∨fr.mode=.returning))
def rW (fr:Frame) (w:World) (t:Nat→Question→Nat) (d:Nat):Prop:=
 (∃ n,∀ U D,Agree t d U D n→∀ S l,NK fr S→over (stepG T.P true (G (fr.app S) l) ((Pz w).af U D))=true) ∨
 ∃ (o:Out) (n:Nat) (up:Array Event),(Lr fr.fn w o∧o.keeps fr.roundOf)∧∀ U D,Agree t d U D n→∀ S l,FarM fr S→(l≠[]∨o.stays=true) →
  stepG T.P true (G (fr.app S) l) (w.af U D)=(o.app S).at l U (D+n)∧stepG T.P true (G (fr.app S) l) ((Pz w).af U D)=((pz up o).app S).at l U (D+n)
theorem GoesM.refl {w:World} (hw:OKW w):GoesM w w #[]:=⟨hw,Nat.le_refl _,fun _ _=>rfl,by simp⟩
theorem GoesM.trans {w w1 w2:World} {es fs:Array Event} (h:GoesM w w1 es) (k:GoesM w1 w2 fs):GoesM w w2 (es++fs):=
 ⟨k.okw,Nat.le_trans h.size k.size,fun b hb=>(k.bad b hb).trans (h.bad b hb),fun e he=>(Array.mem_append.1 he).elim (fun x=>(h.evs e x).mono k.size) (k.evs e)⟩
theorem nU.e {w w':World} {us:Array Event} (h:nU w w' us) (f:FuncId):GoesM w w' (seen T.P f us):=⟨h.okw,h.size,h.bad,fun e he=>h.evs e (mem_seen he)⟩
theorem OKW.tape {w:World} (h:OKW w) (t:Nat→Question→Nat) (d:Nat):OKW (w.af t d):=⟨h.low,h.obj,h.bad,h.nop⟩
theorem Lr.pre {f:FuncId} {w w1:World} {es0:Array Event} (h:GoesM w w1 es0) {o:Out} (k:Lr f w1 o):Lr f w (o.pre es0):=by
 cases o with
 | here fr w es=>exact ⟨k.1,h.trans k.2⟩
 | push fr2 fr1 w es=>exact ⟨k.1,h.trans k.2⟩
 | pop v w es=>exact ⟨k.1,h.trans k.2⟩
 | comm fr a b s w es=>exact ⟨k.1,h.trans k.2⟩
 | bad fr w es=>exact ⟨k.1,h.trans k.2⟩
 | ended o w es=>exact k.elim
section
variable {fr:Frame} {w:World} {t:Nat→Question→Nat} {d:Nat}
theorem mz3 {α:Type} {s:Sem α} {A:α→Prop} (h:MZ A s) (hw:OKW w) (t:Nat→Question→Nat) (d:Nat):∃ c,
  (∀ U D,Agree t d U D c→∃ h w1 fs,mQ h∧s.runT T.P ((Pz w).af U D) #[]=(.halt h w1,fs)∧s.run T.P ((Pz w).af U D)=.halt h w1) ∨
  ∃ r w1 us up,(∀ a,r=.ok a→A a)∧nU w w1 us∧∀ U D,Agree t d U D c →
   (s.runT T.P (w.af U D) #[]=(rv r (w1.af U (D+c)),us)∧s.run T.P (w.af U D)=rv r (w1.af U (D+c))∧s.events T.P (w.af U D) #[]=us) ∧
   s.runT T.P ((Pz w).af U D) #[]=(rv r ((Pz w1).af U (D+c)),up)∧s.run T.P ((Pz w).af U D)=rv r ((Pz w1).af U (D+c))∧s.events T.P ((Pz w).af U D) #[]=up:=by
 obtain ⟨c,h|⟨r,w1,us,up,h1,h2,h3⟩⟩:=h w hw t d
 ·refine ⟨c,.inl fun U D hA=>?_⟩
  obtain ⟨x,w1,fs,hx,e⟩:=h U D hA #[]
  exact ⟨x,w1,fs,hx,e,by rw [← Sem.runT_fst T.P _ _ #[],e]⟩
 ·refine ⟨c,.inr ⟨r,w1,us,up,h1,h2,fun U D hA=>?_⟩⟩
  have e1:=(h3 U D hA).1 #[]
  have e2:=(h3 U D hA).2 #[]
  rw [Array.empty_append] at e1 e2
  exact ⟨⟨e1,by rw [← Sem.runT_fst T.P _ _ #[],e1],by unfold Sem.events;rw [e1]⟩,e2,by rw [← Sem.runT_fst T.P _ _ #[],e2],by unfold Sem.events;rw [e2]⟩
theorem tL {fr':Frame} (hw:OKW w) (hg:FrM fr') (hf:fr'.fn=fr.fn) (hro:fr'.roundOf=fr.roundOf) (h:∀ S w l,FarM fr S→stepG T.P true (G (fr.app S) l) w=.go (G (fr'.app S) l) w):rW fr w t d:=
 .inr ⟨.here fr' w #[],0,#[],⟨⟨⟨hg,hf⟩,.refl hw⟩,hro⟩,fun U D _ S l hS _=>⟨h S _ l hS,h S _ l hS⟩⟩
theorem mY (h:∀ S w l,NK fr S→over (stepG T.P true (G (fr.app S) l) w)=true):rW fr w t d:=.inl ⟨0,fun U D _ S l hS=>h S _ l hS⟩
theorem hev (h:FrM fr):IP fr.fn fr.eval:=by
 refine ⟨fun c o ho=>?_,fun g=>rfl⟩
 cases o with
 | tmp t=>exact h.tmps t c (by simpa [FX] using ho)
 | const v=>exact GJ ho
 | global g=>cases ho
 | func g=>
  cases c with
  | yield=>simp [FX] at ho
  | bound l=>
   simp only [FX,Bool.and_eq_true,List.isEmpty_iff,Bool.not_eq_true'] at ho
   intro f xs ys e
   cases e
   exact ⟨g,rfl,by simpa using ho.1,ho.2.1,ho.2.2.1,ho.2.2.2⟩
  | fn l=>
   simp only [FX,Bool.and_eq_true,Bool.not_eq_true'] at ho
   intro f xs ys e
   cases e
   exact ⟨rfl,by simp,g,rfl,by simpa using ho.1,ho.2.1,ho.2.2⟩
theorem FrM.set (h:FrM fr) {d:Tmp} {v:Value} (hv:DstM fr.fn (some d) v):Keys fr.fn (fr.tmps.setIfInBounds d v):=by
 intro t c hm
 by_cases e:d=t
 ·subst e
  rw [Array.getD_eq_getD_getElem?]
  by_cases hl:d<fr.tmps.size
  ·rw [Array.getElem?_setIfInBounds_self_of_lt hl]
   exact hv (d,c) hm rfl
  ·rw [Array.getElem?_eq_none (by rw [Array.size_setIfInBounds];exact Nat.le_of_not_lt hl)]
   exact mD c
 ·rw [getD_set_ne _ _ _ e];exact h.tmps t c hm
def KM (fr:Frame) (v:Value):Prop:=∀ ops i rest k,fr.todo=.inRegion ops (i::rest)::k→∀ o:Oper,ops[i]?=some o→DstM fr.fn o.dst v
theorem FrM.finish (h:FrM fr) {v:Value} (hv:KM fr v):FrM (fr.finish v):=by
 have ht:=h.todo
 unfold Frame.finish
 split
 ·rename_i ops i rest k e
  rw [e] at ht
  have hk:∀ x∈Item.inRegion ops rest::k,jN fr.fn x:=fun x hx=>by
   rcases List.mem_cons.1 hx with rfl|hx
   ·exact ht (.inRegion ops (i::rest)) (by simp)
   ·exact ht x (by simp [hx])
  split
  ·rename_i dd hd
   refine ⟨h.fn,h.set ?_,hk,h.defers,h.kind,h.mode,h.round⟩
   cases ho:ops[i]? with
   | none=>rw [ho] at hd;cases hd
   | some o=>
    rw [ho] at hd
    have hd:o.dst=some dd:=by simpa using hd
    have:=hv ops i rest k e o ho
    rw [hd] at this
    exact this
  ·exact ⟨h.fn,h.tmps,hk,h.defers,h.kind,h.mode,h.round⟩
 ·rename_i l k e
  rw [e] at ht
  refine ⟨h.fn,h.tmps,fun x hx=>?_,h.defers,h.kind,h.mode,h.round⟩
  rcases List.mem_cons.1 hx with rfl|hx
  ·exact ht (.inRangeFunc l) (by simp)
  ·exact ht x (by simp [hx])
 ·rename_i k e
  rw [e] at ht
  exact ⟨h.fn,h.tmps,fun x hx=>ht x (by simp [hx]),h.defers,h.kind,h.mode,h.round⟩
 ·rename_i e
  rw [e] at ht
  have hx:=ht _ (List.mem_cons_self ..)
  exact (show False from hx).elim
 ·rename_i e
  rw [e] at ht
  have hx:=ht _ (List.mem_cons_self ..)
  exact (show False from hx).elim
 ·exact h
omit T in
theorem fK (fr:Frame) (v:Value):(fr.finish v).fn=fr.fn:=by
 unfold Frame.finish
 split
 ·split<;>rfl
 all_goals rfl
omit T in
theorem Ju (fr:Frame) (ch:List PanicEntry):(fr.raise ch).fn=fr.fn:=by
 unfold Frame.raise
 split<;>rfl
theorem FrM.raise (h:FrM fr) (ch:List PanicEntry):FrB (fr.raise ch):=by
 unfold Frame.raise
 split<;>exact ⟨h.fn,h.defers,_,rfl⟩
theorem FrM.to (h:FrM fr) {k:List Item} (hk:∀ x∈k,jN fr.fn x):FrM { fr with todo:=k }:=⟨h.fn,h.tmps,hk,h.defers,h.kind,h.mode,h.round⟩
theorem FrM.ret (h:FrM fr):FrM { fr with mode:=.returning }:=⟨h.fn,h.tmps,h.todo,h.defers,h.kind,.inr rfl,h.round⟩
theorem J7 {f:FuncId} {args:Array Value} (h:Keys f args) (n:Nat):Keys f (args++Array.replicate n undef):=by
 intro t c hm
 have:=h t c hm
 rw [Array.getD_eq_getD_getElem?] at this ⊢
 rw [Array.getElem?_append]
 split
 ·exact this
 ·rw [Array.getElem?_replicate]
  split<;>exact mD c
theorem G6 {f:FuncId} {args:Array Value} (h:IM f) (ha:Keys f args):FrM (Frame.enter T.P f args .normal):=by
 obtain ⟨fn,b,h1,h2,h3,h4,h5⟩:=h
 refine ⟨⟨fn,b,h1,h2,h5⟩,J7 ha _,?_,?_,rfl,.inl rfl,fun l e=>by cases e⟩
 ·intro x hx
  simp only [Frame.enter,h1,h2,Option.bind_some,Option.getD_some,List.mem_singleton] at hx
  subst hx;exact h3
 ·intro d hd;simp [Frame.enter] at hd
theorem G5 {l:Nat} {f:FuncId} {tmps:Array Value} {a b:Code} (hl:T.n0≤l) (ht:Keys f tmps) (ha:codeOk f a=true) (hb:codeOk f b=true) (hbd:sW f):FrM (Frame.round l f tmps a b .normal):=by
 refine ⟨hbd,ht,?_,fun d hd=>by simp [Frame.round] at hd,rfl,.inl rfl,fun l' e=>by cases e;exact hl⟩
 intro x hx
 simp only [Frame.round,List.mem_cons,List.not_mem_nil,or_false] at hx
 rcases hx with rfl|rfl|rfl
 ·exact ha
 ·trivial
 ·exact hb
theorem qg (fr:Frame):KM fr undef:=fun _ _ _ _ _ _ _ p _ _=>mD p.2
theorem wP (hw:OKW w) {fr1:Frame} (rY:FrM fr1) (hne:fr1.todo≠[]) {s:Sem Next} {D:Value→Prop} (hs:MZ (cu D) s) (hD:∀ v,D v→KM fr1 v) (t:Nat→Question→Nat) (d:Nat) :
  (∃ n,∀ U D,Agree t d U D n→∀ S l,over (stepG.apply T.P true (fr1.app S) l none s ((Pz w).af U D))=true) ∨
  ∃ (o:Out) (n:Nat) (up:Array Event),(Lr fr1.fn w o∧o.keeps fr1.roundOf)∧∀ U D,Agree t d U D n→∀ S l,stepG.apply T.P true (fr1.app S) l none s (w.af U D)=(o.app S).at l U (D+n)∧stepG.apply T.P true (fr1.app S) l none s ((Pz w).af U D)=((pz up o).app S).at l U (D+n):=by
 have hkind:∀ S,(fr1.app S).kind=.normal:=fun S=>rY.kind
 have hfn:∀ S,(fr1.app S).fn=fr1.fn:=fun S=>rfl
 have hck:∀ S,(match (fr1.app S).todo with|.call _ true _ _::_=>CallKind.wrapped|_=>.normal)=CallKind.normal:=fun S=>by
  have htd:(fr1.app S).todo=fr1.todo++S:=rfl
  rw [htd]
  cases hk:fr1.todo with
  | nil=>exact (hne hk).elim
  | cons x k=>
   have hx:=rY.todo x (hk ▸ List.mem_cons_self ..)
   cases x<;>first|rfl|exact (show False from hx).elim
 obtain ⟨n,h|⟨r,w1,us,up,h1,h2,h3⟩⟩:=mz3 hs hw t d
 ·refine .inl ⟨n,fun U D hA S l=>?_⟩
  obtain ⟨x,w1,fs,hx,e1,e2⟩:=h U D hA
  cases x with
  | stuck m=>simp [stepG.apply,e1,e2,hkind,GStep.after,over]
  | unsupported y=>cases y<;>first|exact hx.elim|simp [stepG.apply,e1,e2,hkind,GStep.after,over]
  | _=>exact hx.elim
 ·right
  have hE:GoesM w w1 (seen T.P fr1.fn us):=h2.e _
  cases r with
  | error v=>
   refine ⟨.bad (fr1.raise [{ v,recovered:=false }]) w1 (seen T.P fr1.fn us),n,seen T.P fr1.fn up,⟨⟨⟨rY.raise _,Ju _ _⟩,hE⟩,trivial⟩,fun U D hA S l=>?_⟩
   obtain ⟨⟨a1,a2,a3⟩,b1,b2,b3⟩:=h3 U D hA
   constructor
   ·simp [stepG.apply,a1,a2,a3,rv,hkind,hfn,GStep.after,Out.at,Out.app,G,lZ]
   ·simp [stepG.apply,b1,b2,b3,rv,hkind,hfn,GStep.after,Out.at,Out.app,G,lZ,pz]
  | ok x=>
   have h1:=h1 x rfl
   cases x with
   | value v=>
    refine ⟨.here (fr1.finish v) w1 (seen T.P fr1.fn us),n,seen T.P fr1.fn up,⟨⟨⟨rY.finish (hD v h1),fK _ _⟩,hE⟩,gP _ _⟩,fun U D hA S l=>?_⟩
    obtain ⟨⟨a1,a2,a3⟩,b1,b2,b3⟩:=h3 U D hA
    constructor
    ·simp [stepG.apply,a1,a2,a3,rv,hkind,hfn,GStep.after,Out.at,Out.app,G,dF hne]
    ·simp [stepG.apply,b1,b2,b3,rv,hkind,hfn,GStep.after,Out.at,Out.app,G,dF hne,pz]
   | skip=>
    refine ⟨.here (fr1.finish undef) w1 (seen T.P fr1.fn us),n,seen T.P fr1.fn up,⟨⟨⟨rY.finish (qg _),fK _ _⟩,hE⟩,gP _ _⟩,fun U D hA S l=>?_⟩
    obtain ⟨⟨a1,a2,a3⟩,b1,b2,b3⟩:=h3 U D hA
    constructor
    ·simp [stepG.apply,a1,a2,a3,rv,hkind,hfn,GStep.after,Out.at,Out.app,G,dF hne]
    ·simp [stepG.apply,b1,b2,b3,rv,hkind,hfn,GStep.after,Out.at,Out.app,G,dF hne,pz]
   | enter f args=>
    refine ⟨.push (Frame.enter T.P f args .normal) fr1 w1 (seen T.P fr1.fn us),n,seen T.P fr1.fn up,⟨⟨⟨G6 h1.1 h1.2.1,⟨rY,fun v hv=>rY.finish (hD v (h1.2.2.2 v hv)),hne⟩,rfl,.inl ⟨_,_,rfl,h1.2.2.1⟩⟩,hE⟩,rfl⟩,fun U D hA S l=>?_⟩
    obtain ⟨⟨a1,a2,a3⟩,b1,b2,b3⟩:=h3 U D hA
    constructor
    ·simp [stepG.apply,a1,a2,a3,rv,hkind,hfn,GStep.after,Out.at,Out.app,G]
     exact congrArg _ (hck S)
    ·simp [stepG.apply,b1,b2,b3,rv,hkind,hfn,GStep.after,Out.at,Out.app,G,pz]
     exact congrArg _ (hck S)
   | round l f x a b=>
    refine ⟨.push (Frame.round l f x a b .normal) fr1 w1 (seen T.P fr1.fn us),n,seen T.P fr1.fn up,⟨⟨⟨G5 h1.1 h1.2.2.1 h1.2.2.2.1 h1.2.2.2.2.1 h1.2.1,⟨rY,fun v hv=>rY.finish (hD v (h1.2.2.2.2.2.2 v)),hne⟩,rfl,.inr h1.2.2.2.2.2.1⟩,hE⟩,rfl⟩,fun U D hA S l=>?_⟩
    obtain ⟨⟨a1,a2,a3⟩,b1,b2,b3⟩:=h3 U D hA
    constructor
    ·simp [stepG.apply,a1,a2,a3,rv,hkind,hfn,GStep.after,Out.at,Out.app,G]
    ·simp [stepG.apply,b1,b2,b3,rv,hkind,hfn,GStep.after,Out.at,Out.app,G,pz]
   | comm a b s=>
    refine ⟨.comm fr1 a b s w1 (seen T.P fr1.fn us),n,seen T.P fr1.fn up,⟨⟨⟨rY,fun v=>rY.finish (hD v (h1.2 v)),rfl,hne,h1.1⟩,hE⟩,trivial⟩,fun U D hA S l=>?_⟩
    obtain ⟨⟨a1,a2,a3⟩,b1,b2,b3⟩:=h3 U D hA
    constructor
    ·simp [stepG.apply,a1,a2,a3,rv,hkind,hfn,GStep.after,Out.at,Out.app,G]
    ·simp [stepG.apply,b1,b2,b3,rv,hkind,hfn,GStep.after,Out.at,Out.app,G,pz]
   | _=>exact h1.elim
end
end Mz
end
section
namespace Mz
open Go Go.Conc Ren
open jf (Out ExF over gP dF lZ dI gZ um FU BU mJ)
variable [T:Mc]
theorem Ap {l:Nat} (h:T.n0≤l) {j:Option Code} (hj:∀ c,j=some c→∀ f,codeOk f c=true):MZ (fun v=>∃ b,v=.bool b) (Instr.endRound l j):=by
 unfold Instr.endRound
 exact MZ.bind (iM h) fun r hr=>MZ.bind (jG hr.2 (show Et _ from ⟨hj,hr.1.fn,hr.1.tmps,hr.1.par,hr.1.asg,hr.1.body,hr.1.defers,hr.1.ntr⟩)) fun _ _=>MZ.ret ⟨_,rfl⟩
theorem vU {l:Nat} (h:T.n0≤l):MZ Tr (Instr.beginRound l):=by
 unfold Instr.beginRound
 refine MZ.bind (iM h) fun r hr=>MZ.bind (jG hr.2 (show Et _ from ⟨hr.1.pend,hr.1.fn,hr.1.tmps,hr.1.par,hr.1.asg,hr.1.body,hr.1.defers,hr.1.ntr⟩)) fun _ _=>?_
 split
 ·exact MZ.ok
 ·exact aR _
 ·exact aR _
 ·exact aR _
theorem DF {l:Nat} (h:T.n0≤l):MZ (fun j=>∀ c,j=some c→∀ f,codeOk f c=true) (Instr.endLoop l):=by
 unfold Instr.endLoop
 refine MZ.bind (iM h) fun r hr=>uy (vM _) ?_
 exact MZ.bind (jG hr.2 (show Et _ from ⟨hr.1.pend,hr.1.fn,hr.1.tmps,hr.1.par,hr.1.asg,hr.1.body,hr.1.defers,hr.1.ntr⟩)) fun _ _=>MZ.ret hr.1.pend
theorem yz {f:FuncId} (hf:sW f) (htr:T.tr f=false) {x:Array Value} (hx:Keys f x) {ps:Array Tmp} (hps:∀ t∈ps,∀ p∈T.kl f,p.1≠t) {a b:Code} (ha:codeOk f a=true) (hb:codeOk f b=true) {o:Option Nat} (ho:∀ l,o=some l→T.n0≤l) :
  MZ (fun p=>T.n0≤p.1∧DfM p.2) (Instr.enterLoop f x ps a b o):=by
 unfold Instr.enterLoop
 have fin:∀ {r:Nat} {m:List Deferred},T.n0≤r→DfM m→MZ (fun p:Nat × List Deferred=>T.n0≤p.1∧DfM p.2) (do pure (← newObj (.loop { state:=.ready,pending:=none,fn:=f,tmps:=x,params:=ps,assign:=a,body:=b,defers:=r }),m)):=fun hr hm=>
  MZ.bind (yl (show Et _ from ⟨(fun c e=>by cases e),hf,hx,hps,ha,hb,hr,htr⟩)) fun n hn=>MZ.ret ⟨hn.1,hm⟩
 split
 ·exact MZ.bind (iM (ho _ rfl)) fun r hr=>fin hr.1.defers fun d hd=>by cases hd
 ·exact MZ.bind (yl (o:=.deferred (some [])) (.inr rfl)) fun r hr=>fin hr.1 fun d hd=>⟨r,by simpa using hd,hr.1⟩
theorem jF {r:Nat} (h:T.n0≤r):MZ (fun l=>l=[]) (Instr.takeDeferred r):=by
 unfold Instr.takeDeferred
 refine jH (fun o hb ho=>?_) ⟨.stuck "range over a function: the deferred calls have been taken",trivial,rfl⟩
 split
 ·rename_i ds
  refine MZ.bind (jG hb (.inl rfl)) fun _ _=>MZ.ret ?_
  rcases ho h with e|e
  ·cases e
  ·exact Option.some.inj e
 ·exact MZ.dead
theorem Gg {α:Type} {f:α→Sem Value}:∀ (l:List α),(∀ x∈l,MZ Tr (f x))→MZ Tr (l.mapM f)
 | [],_=>by rw [List.mapM_nil];exact MZ.ok
 | x::l,h=>by
  rw [List.mapM_cons]
  exact MZ.bind (h x (by simp)) fun v _=>MZ.bind (Gg l fun y hy=>h y (by simp [hy])) fun vs _=>MZ.ok
theorem Dv (fn:Func) (x:Array Value):MZ (fun v=>∀ t,fn.results=#[.tmp t]→v=x.getD t undef) (results fn x):=by
 by_cases he:∃ t,fn.results=#[.tmp t]
 ·obtain ⟨t,he⟩:=he
  have e:results fn x=pure (x.getD t undef):=by
   unfold results
   rw [he]
   simp [Array.mapM_eq_mapM_toList]
  rw [e]
  refine MZ.ret fun t' e'=>?_
  rw [he] at e'
  cases e'
  rfl
 ·refine MZ.mono (A:=Tr) ?_ fun v _ t e=>(he ⟨t,e⟩).elim
  unfold results
  rw [Array.mapM_eq_mapM_toList]
  refine MZ.bind (A:=Tr) ?_ fun vs _=>MZ.ok
  refine MZ.bind (Gg _ fun y _=>?_) fun l _=>MZ.ok
  cases y with
  | tmp t=>exact MZ.ok
  | cell a t=>exact MZ.bind (jJ _) fun p _=>dX t p
theorem nO {f:FuncId} {id:Nat}:∀ {k k':List Item},(∀ x∈k,jN f x)→exitTo id k=some k'→∀ x∈k',jN f x
 | [],_,_,h=>by simp [exitTo] at h
 | y::k,k',hk,h=>by
  unfold exitTo at h
  split at h
  ·rename_i id' k2 e
   simp only [List.cons.injEq] at e
   obtain ⟨rfl,rfl⟩:=e
   split at h
   ·simp only [Option.some.injEq] at h;subst h;exact fun x hx=>hk x (by simp [hx])
   ·exact nO (fun x hx=>hk x (by simp [hx])) h
  ·rename_i e
   simp only [List.cons.injEq] at e
   obtain ⟨rfl,rfl⟩:=e
   exact nO (fun x hx=>hk x (by simp [hx])) h
  ·rename_i e;cases e
def uE (fr:Frame) (j:Option Code) (cs:List Frame) (w:World):GStep:=
 match fr.roundOf with
 | none=>if gZ j=true then .go (G { fr with mode:=.returning } cs) w else .ended (.stuck "exit, goto: no such block or label" (fr.pos T.P)) w
 | some l=>GStep.after (seen T.P fr.fn ((Instr.endRound l j).runT T.P w #[]).2) (match ((Instr.endRound l j).runT T.P w #[]).1 with
  | .ok v w=>doReturn T.P true fr cs none v w
  | .halt _ w=>.ended (.stuck "range over a function: no such loop" (fr.pos T.P)) w)
section
variable {fr:Frame} {w:World} {t:Nat→Question→Nat} {d:Nat}
theorem draw1 {f:FuncId} {X:Array Value} {id:Nat} {ops:Array Oper} {k:List Item} {ds:List Deferred} {ro:Option Nat} {U:Nat→Question→Nat} {D:Nat} {cs:List Frame} :
  stepG T.P true (G { fn:=f,tmps:=X,todo:=.code (.region id ops true)::k,defers:=ds,mode:=.run,kind:=.normal,roundOf:=ro } cs) (w.af U D) =
   .go (G { fn:=f,tmps:=X,todo:=.inRegion ops (Region.schedule (T.P.follows .mixedOrders) ops (U D (.order f id)))::k,defers:=ds,mode:=.run,kind:=.normal,roundOf:=ro } cs) (w.af U (D+1)):=by
 simp [G,stepG,stepG.exec,choose,Sem.run,Question.forced,Question.cut,World.af]
theorem aj {f:FuncId} {b:Bool}:Ret f (.bool b):=fun c _ f xs ys e=>by cases e
theorem zB (hfr:FrM fr) (hw:OKW w) (j:Option Code) (hj:∀ c,j=some c→∀ f,codeOk f c=true)
  (h:∀ S w cl,(S=[]∨(gZ j=true∧fr.roundOf=none∧fr.todo≠[])∨(ExF S∧fr.roundOf=none∧fr.todo≠[]))→stepG T.P true (G (fr.app S) cl) w=uE (fr.app S) j cl w) (hm:fr.mode=.run):rW fr w t d:=by
 unfold uE at h
 have hro:∀ S,(fr.app S).roundOf=fr.roundOf:=fun S=>rfl
 have hnr:fr.mode≠.returning:=by rw [hm];intro e;cases e
 cases hr:fr.roundOf with
 | none=>
  by_cases hjj:gZ j=true
  ·refine .inr ⟨.here { fr with mode:=.returning } w #[],0,#[],⟨⟨⟨hfr.ret,rfl⟩,.refl hw⟩,rfl⟩,fun U D _ S cl hS _=>?_⟩
   have key:∀ w,stepG T.P true (G (fr.app S) cl) w=.go (G { fr.app S with mode:=.returning } cl) w:=fun w=>by
    rw [h S _ cl (hS.imp id fun x=>.inl ⟨hjj,hr,x.2.resolve_right hnr⟩),hro,hr]
    simp only [hjj,if_true]
    rw [← hr]
    rfl
   exact ⟨key _,key _⟩
  ·refine mY fun S w cl hS=>?_
   rw [h S _ cl (hS.imp id fun x=>.inr ⟨x.1,hr,x.2.2.resolve_right hnr⟩),hro,hr]
   simp only [hjj,if_false];rfl
 | some l=>
  have fin:∀ {S:List Item},FarM fr S→S=[]:=fun hS=>hS.elim id fun x=>by rw [hr] at x;cases x.1
  have M0:∀ {S:List Item},NK fr S→S=[]:=fun hS=>hS.elim id fun x=>by rw [hr] at x;cases x.2.1
  obtain ⟨n,hh|⟨r,w1,us,up,h1,h2,h3⟩⟩:=mz3 (Ap (hfr.round l hr) hj) hw t d
  ·refine .inl ⟨n,fun U D hA S cl hS=>?_⟩
   obtain rfl:=M0 hS
   obtain ⟨x,w1,fs,_,e,e2⟩:=hh U D hA
   rw [h [] _ cl (.inl rfl),hro,hr,dI]
   simp [e,e2,GStep.after,over]
  ·cases r with
   | error v=>
    refine .inl ⟨n,fun U D hA S cl hS=>?_⟩
    obtain rfl:=M0 hS
    rw [h [] _ cl (.inl rfl),hro,hr,dI]
    simp [(h3 U D hA).2.1,(h3 U D hA).2.2.1,rv,GStep.after,over]
   | ok v=>
    obtain ⟨b,rfl⟩:=h1 v rfl
    refine .inr ⟨.pop (.bool b) w1 (seen T.P fr.fn us),n,seen T.P fr.fn up,⟨⟨fun _=>aj,h2.e _⟩,trivial⟩,fun U D hA S cl hS hl=>?_⟩
    obtain ⟨c,cs,rfl⟩:=FU hl
    obtain rfl:=fin hS
    obtain ⟨⟨a1,a2,a3⟩,b1,b2,b3⟩:=h3 U D hA
    constructor
    ·rw [h [] _ (c::cs) (.inl rfl),hro,hr,dI,Out.dI]
     simp [a1,a2,a3,rv,doReturn,hfr.kind,GStep.after,Out.at,G]
    ·rw [h [] _ (c::cs) (.inl rfl),hro,hr,dI,Out.dI]
     simp [b1,b2,b3,rv,doReturn,hfr.kind,GStep.after,Out.at,G,pz]
variable [L:Lw]
theorem EP (hfr:FrM fr) (hw:OKW w) (hm:fr.mode=.run):rW fr w t d:=by
 have htodo:=hfr.todo
 obtain ⟨f,X,k,ds,m,kd,ro⟩:=fr
 dsimp only at hm htodo
 subst hm
 have hkind:=hfr.kind
 dsimp only at hkind
 subst hkind
 have leave:=fun (j:Option Code) hj h=>zB (t:=t) (d:=d) hfr hw j hj h rfl
 have to:∀ {k':List Item},(∀ x∈k',jN f x)→(∀ S w cl,FarM { fn:=f,tmps:=X,todo:=k,defers:=ds,mode:=.run,kind:=.normal,roundOf:=ro } S→stepG T.P true (G { fn:=f,tmps:=X,todo:=k++S,defers:=ds,mode:=.run,kind:=.normal,roundOf:=ro } cl) w=.go (G { fn:=f,tmps:=X,todo:=k'++S,defers:=ds,mode:=.run,kind:=.normal,roundOf:=ro } cl) w)→rW { fn:=f,tmps:=X,todo:=k,defers:=ds,mode:=.run,kind:=.normal,roundOf:=ro } w t d:=
  fun hk h=>tL hw (hfr.to hk) rfl rfl h
 cases k with
 | nil=>
  refine leave none (fun c e=>by cases e) fun S w cl hS=>?_
  rcases hS with rfl|⟨_,_,h⟩|⟨_,_,h⟩
  ·cases ro<;>simp [G,stepG,stepG.exec,uE,gZ,Frame.app]<;>rfl
  ·exact (h rfl).elim
  ·exact (h rfl).elim
 | cons x k=>
  have hx:=htodo x (by simp)
  have hk:∀ y∈k,jN f y:=fun y hy=>htodo y (by simp [hy])
  have AB:∀ {y:Item},jN f y→∀ z∈y::k,jN f z:=fun hy z hz=>(List.mem_cons.1 hz).elim (fun e=>e ▸ hy) (hk z)
  cases x with
  | code c=>
   cases c with
   | skip=>exact to hk fun S w cl _=>by simp [G,stepG,stepG.exec]
   | label l=>exact to hk fun S w cl _=>by simp [G,stepG,stepG.exec]
   | ret=>
    refine leave (some .ret) (fun c e=>by cases e;exact fun _=>rfl) fun S w cl _=>?_
    cases ro<;>simp [G,stepG,stepG.exec,uE,gZ,Frame.app]<;>rfl
   | seq a b=>
    have h2:codeOk f a=true∧codeOk f b=true:=by simpa [jN,codeOk] using hx
    refine to (k':=.code a::.code b::k) (fun z hz=>?_) fun S w cl _=>by simp [G,stepG,stepG.exec]
    rcases List.mem_cons.1 hz with rfl|hz
    ·exact h2.1
    ·exact AB (y:=.code b) h2.2 z hz
   | cond q a b=>
    have h2:codeOk f a=true∧codeOk f b=true:=by simpa [jN,codeOk] using hx
    have hev:∀ S,Frame.eval { fn:=f,tmps:=X,todo:=.code (.cond q a b)::(k++S),defers:=ds,mode:=.run,kind:=.normal,roundOf:=ro } q=Frame.eval { fn:=f,tmps:=X,todo:=.code (.cond q a b)::k,defers:=ds,mode:=.run,kind:=.normal,roundOf:=ro } q:=fun S=>by cases q<;>rfl
    cases hv:Frame.eval { fn:=f,tmps:=X,todo:=.code (.cond q a b)::k,defers:=ds,mode:=.run,kind:=.normal,roundOf:=ro } q with
    | bool b'=>
     refine to (k':=.code (if b' then a else b)::k) (AB (y:=.code _) ?_) fun S w cl _=>by simp [G,stepG,stepG.exec,hev,hv]
     show codeOk f (if b'=true then a else b)=true
     split
     ·exact h2.1
     ·exact h2.2
    | _=>exact mY fun S w cl _=>by simp [G,stepG,stepG.exec,Frame.app,hev,hv,over]
   | block id b=>exact to (k':=.code b::.inBlock id::k) (fun z hz=>(List.mem_cons.1 hz).elim (fun e=>by subst e;exact (show codeOk f b=true by simpa [jN,codeOk] using hx)) (AB (y:=.inBlock id) trivial z)) fun S w cl _=>by simp [G,stepG,stepG.exec]
   | loop b=>
    have hb:codeOk f b=true:=by simpa [jN,codeOk] using hx
    exact to (k':=.code b::.inLoop b::k) (fun z hz=>(List.mem_cons.1 hz).elim (fun e=>by subst e;exact hb) (AB (y:=.inLoop b) hb z)) fun S w cl _=>by simp [G,stepG,stepG.exec]
   | exit id=>
    cases he:exitTo id k with
    | none=>
     refine leave (some (.exit id)) (fun c e=>by cases e;exact fun _=>rfl) fun S w cl hS=>?_
     rcases hS with rfl|⟨h,_⟩|⟨h,_⟩
     ·cases ro<;>simp [G,stepG,stepG.exec,uE,gZ,he,Frame.app]<;>rfl
     ·cases h
     ·have he2:=mJ he (h id)
      cases ro<;>simp [G,stepG,stepG.exec,uE,gZ,he2,Frame.app]<;>rfl
    | some k1=>exact to (nO hk he) fun S w cl _=>by simp [G,stepG,stepG.exec,BU he]
   | region id ops dr=>
    have hops:ops.all (om f)=true:=by simpa [jN,codeOk] using hx
    cases dr with
    | false=>exact to (k':=.inRegion ops (List.range ops.size)::k) (AB (y:=.inRegion ops _) hops) fun S w cl _=>by simp [G,stepG,stepG.exec]
    | true=>
     refine .inr ⟨.here { fn:=f,tmps:=X,todo:=.inRegion ops (Region.schedule (T.P.follows .mixedOrders) ops (t d (.order f id)))::k,defers:=ds,mode:=.run,kind:=.normal,roundOf:=ro } w #[],1,#[],⟨⟨⟨hfr.to (AB (y:=.inRegion ops _) hops),rfl⟩,.refl hw⟩,rfl⟩,fun U D hA S cl _ hl=>?_⟩
     have e0:U D (.order f id)=t d (.order f id):=by simpa using hA 0 (.order f id) (by omega)
     rw [← e0]
     exact ⟨draw1,draw1⟩
   | rangeFunc q ps a b=>
    have hc:((((match (generalizing:=false) q with
      | .tmp t=>(T.kl f).any fun p=>p.1 == t && match p.2 with
       | .fn l=>l.all fun g=>(T.kl g).all fun p=>if p.1=0 then p.2 == .yield else decide (2≤p.1)
       | _=>false
      | _=>false)=true∧(ps.all fun t=>(T.kl f).all fun p=>p.1 != t)=true)∧(!T.tr f)=true)∧codeOk f a=true)∧codeOk f b=true:=by
     have:codeOk f (.rangeFunc q ps a b)=true:=hx
     unfold codeOk at this
     simp only [Bool.and_eq_true] at this
     exact this
    obtain ⟨⟨⟨⟨hq,hps⟩,htr⟩,ha⟩,hb⟩:=hc
    have htr:T.tr f=false:=by simpa using htr
    obtain ⟨qt,rfl⟩:∃ qt,q=.tmp qt:=by cases q<;>first|exact ⟨_,rfl⟩|cases hq
    have hps':∀ t∈ps,∀ p∈T.kl f,p.1≠t:=fun t ht p hp e=>by
     have:=Array.all_eq_true'.1 hps t ht
     have:=List.all_eq_true.1 this p hp
     simp [e] at this
    obtain ⟨n,hh|⟨r,w1,us,up,h1,h2,h3⟩⟩:=mz3 (yz hfr.fn htr hfr.tmps hps' ha hb hfr.round) hw t d
    ·refine .inl ⟨n,fun U D hA S cl hS=>?_⟩
     obtain ⟨x,w1,fs,_,e,e2⟩:=hh U D hA
     simp [G,stepG,stepG.exec,e,e2,GStep.after,Frame.app,over]
    cases r with
    | error v=>
     refine .inl ⟨n,fun U D hA S cl hS=>?_⟩
     simp [G,stepG,stepG.exec,(h3 U D hA).2.1,(h3 U D hA).2.2.1,rv,GStep.after,Frame.app,over]
    | ok p=>
     have h1:=h1 p rfl
     obtain ⟨l,mk⟩:=p
     have rY:FrM { fn:=f,tmps:=X,todo:=.inRangeFunc l::k,defers:=mk++ds,mode:=.run,kind:=.normal,roundOf:=ro }:=
      ⟨hfr.fn,hfr.tmps,fun z hz=>(List.mem_cons.1 hz).elim (fun e=>by subst e;exact h1.1) (hk z),fun d hd=>(List.mem_append.1 hd).elim (h1.2 d) (hfr.defers d),rfl,.inl rfl,hfr.round⟩
     have hE1:GoesM w w1 (seen T.P f us):=h2.e _
     have hgs:MZ (cu fun _=>True) (do let d ← resolve (Frame.eval { fn:=f,tmps:=X,todo:=.inRangeFunc l::k,defers:=mk++ds,mode:=.run,kind:=.normal,roundOf:=ro }) { callee:=.value (.tmp qt),args:=#[.const (.func (.yield l) #[] #[])],argTypes:=#[] } 0;invoke d.target d.args):=
      yj (hev rY) h1.1 hq (fun v=>rfl) _ _
     have hev2:∀ S,Frame.eval { fn:=f,tmps:=X,todo:=.inRangeFunc l::(k++S),defers:=mk++ds,mode:=.run,kind:=.normal,roundOf:=ro }=Frame.eval { fn:=f,tmps:=X,todo:=.inRangeFunc l::k,defers:=mk++ds,mode:=.run,kind:=.normal,roundOf:=ro }:=fun S=>by funext q;cases q<;>rfl
     have hag1:∀ {m U D},Agree t d U D (n+m)→Agree t d U D n:=fun hA i q hi=>hA i q (by omega)
     have hag:∀ {m U D},Agree t d U D (n+m)→Agree t (d+n) U (D+n) m:=fun {m U D} hA i q hi=>by
      have:=hA (n+i) q (by omega)
      rw [show D+n+i=D+(n+i) by omega,show d+n+i=d+(n+i) by omega];exact this
     have key:∀ U D,Agree t d U D n→∀ S cl,
       stepG T.P true (G { fn:=f,tmps:=X,todo:=.code (.rangeFunc (.tmp qt) ps a b)::(k++S),defers:=ds,mode:=.run,kind:=.normal,roundOf:=ro } cl) (w.af U D)=GStep.after (seen T.P f us) (stepG.apply T.P true { fn:=f,tmps:=X,todo:=.inRangeFunc l::(k++S),defers:=mk++ds,mode:=.run,kind:=.normal,roundOf:=ro } cl none (do let d ← resolve (Frame.eval { fn:=f,tmps:=X,todo:=.inRangeFunc l::k,defers:=mk++ds,mode:=.run,kind:=.normal,roundOf:=ro }) { callee:=.value (.tmp qt),args:=#[.const (.func (.yield l) #[] #[])],argTypes:=#[] } 0;invoke d.target d.args) (w1.af U (D+n))) ∧
       stepG T.P true (G { fn:=f,tmps:=X,todo:=.code (.rangeFunc (.tmp qt) ps a b)::(k++S),defers:=ds,mode:=.run,kind:=.normal,roundOf:=ro } cl) ((Pz w).af U D)=GStep.after (seen T.P f up) (stepG.apply T.P true { fn:=f,tmps:=X,todo:=.inRangeFunc l::(k++S),defers:=mk++ds,mode:=.run,kind:=.normal,roundOf:=ro } cl none (do let d ← resolve (Frame.eval { fn:=f,tmps:=X,todo:=.inRangeFunc l::k,defers:=mk++ds,mode:=.run,kind:=.normal,roundOf:=ro }) { callee:=.value (.tmp qt),args:=#[.const (.func (.yield l) #[] #[])],argTypes:=#[] } 0;invoke d.target d.args) ((Pz w1).af U (D+n))):=fun U D hA S cl=>by
      have e1:=(h3 U D hA).1.1
      have e2:=(h3 U D hA).2.1
      constructor
      ·simp only [G,stepG,stepG.exec,e1,rv,← hev2 S]
      ·simp only [G,stepG,stepG.exec,e2,rv,← hev2 S]
     rcases wP hE1.okw rY (by simp) hgs (fun v _ ops i rest kk e=>by simp at e) t (d+n) with ⟨m,hd⟩|⟨x,m,up2,k1,k2⟩
     ·refine .inl ⟨n+m,fun U D hA S cl _=>?_⟩
      exact (congrArg over (key U D (hag1 hA) S cl).2).trans ((um _ _).trans (hd U (D+n) (hag hA) S cl))
     ·refine .inr ⟨x.pre (seen T.P f us),n+m,seen T.P f up++up2,⟨k1.1.pre hE1,by cases x<;>exact k1.2⟩,fun U D hA S cl hS hl=>?_⟩
      obtain ⟨y1,y2⟩:=k2 U (D+n) (hag hA) S cl
      obtain ⟨z1,z2⟩:=key U D (hag1 hA) S cl
      have happ:(x.pre (seen T.P f us)).app S=(x.app S).pre (seen T.P f us):=by cases x<;>rfl
      have happ2:(pz (seen T.P f up++up2) (x.pre (seen T.P f us))).app S=((pz up2 x).app S).pre (seen T.P f up):=by
       cases x<;>first|rfl|exact k1.1.elim
      rw [happ,jf.Out.Lb,happ2,jf.Out.Lb,← Nat.add_assoc]
      exact ⟨z1.trans (congrArg _ y1),z2.trans (congrArg _ y2)⟩
   | goto l=>cases hx
   | scope b=>cases hx
   | refuse why=>cases hx
  | inBlock id=>exact to hk fun S w cl _=>by simp [G,stepG,stepG.exec]
  | inLoop b=>exact to (k':=.code b::.inLoop b::k) (fun z hz=>(List.mem_cons.1 hz).elim (fun e=>by subst e;exact hx) (AB (y:=.inLoop b) hx z)) fun S w cl _=>by simp [G,stepG,stepG.exec]
  | inRegion ops todo=>
   cases todo with
   | nil=>exact to hk fun S w cl _=>by simp [G,stepG,stepG.exec]
   | cons i rest=>
    cases hwt:((ops[i]?).map (Region.wanted · (yielded ops X))).getD false with
    | false=>
     refine tL hw (hfr.finish (qg _)) (fK _ _) (gP _ _) fun S w cl _=>?_
     rw [← dF (by simp)]
     simp [G,stepG,stepG.exec,hwt,Frame.app]
    | true=>
     cases ho:ops[i]? with
     | none=>rw [ho] at hwt;cases hwt
     | some o=>
      have hop:om f o=true:=Array.all_eq_true'.1 hx o (Array.mem_of_getElem? ho)
      have hev2:∀ S,Frame.eval { fn:=f,tmps:=X,todo:=.inRegion ops (i::rest)::k,defers:=ds,mode:=.run,kind:=.normal,roundOf:=ro }=Frame.eval { fn:=f,tmps:=X,todo:=.inRegion ops (i::rest)::(k++S),defers:=ds,mode:=.run,kind:=.normal,roundOf:=ro }:=fun S=>by funext q;cases q<;>rfl
      have e:∀ S cl w,stepG T.P true (G { fn:=f,tmps:=X,todo:=.inRegion ops (i::rest)::(k++S),defers:=ds,mode:=.run,kind:=.normal,roundOf:=ro } cl) w=stepG.apply T.P true { fn:=f,tmps:=X,todo:=.inRegion ops (i::rest)::(k++S),defers:=ds,mode:=.run,kind:=.normal,roundOf:=ro } cl none (execOp (Frame.eval { fn:=f,tmps:=X,todo:=.inRegion ops (i::rest)::(k++S),defers:=ds,mode:=.run,kind:=.normal,roundOf:=ro }) o) w:=fun S cl w=>by
       have hnd:∀ c,o.op≠.defer c:=fun c e=>by
        unfold om at hop
        rw [e] at hop
        simp [kindOk] at hop
       have hop':∀ ro':Option Nat,(match ro',o.op with
        | some l,.defer c=>stepG.apply T.P true { fn:=f,tmps:=X,todo:=.inRegion ops (i::rest)::(k++S),defers:=ds,mode:=.run,kind:=.normal,roundOf:=ro } cl none (do Instr.deferInRound l (← resolve (Frame.eval { fn:=f,tmps:=X,todo:=.inRegion ops (i::rest)::(k++S),defers:=ds,mode:=.run,kind:=.normal,roundOf:=ro }) c o.type);pure .skip) w
        | _,_=>stepG.apply T.P true { fn:=f,tmps:=X,todo:=.inRegion ops (i::rest)::(k++S),defers:=ds,mode:=.run,kind:=.normal,roundOf:=ro } cl none (execOp (Frame.eval { fn:=f,tmps:=X,todo:=.inRegion ops (i::rest)::(k++S),defers:=ds,mode:=.run,kind:=.normal,roundOf:=ro }) o) w)=stepG.apply T.P true { fn:=f,tmps:=X,todo:=.inRegion ops (i::rest)::(k++S),defers:=ds,mode:=.run,kind:=.normal,roundOf:=ro } cl none (execOp (Frame.eval { fn:=f,tmps:=X,todo:=.inRegion ops (i::rest)::(k++S),defers:=ds,mode:=.run,kind:=.normal,roundOf:=ro }) o) w:=fun ro'=>by
        split
        ·rename_i e;exact (hnd _ e).elim
        ·rfl
       rw [ho] at hwt
       simp only [G,stepG,stepG.exec,stepG.oper,Frame.oper?,ho]
       rw [if_pos hwt]
       exact hop' ro
      have hwant:∀ v,DstM f o.dst v→KM { fn:=f,tmps:=X,todo:=.inRegion ops (i::rest)::k,defers:=ds,mode:=.run,kind:=.normal,roundOf:=ro } v:=fun v hv ops' i' rest' k' e o' ho'=>by
       simp only [List.cons.injEq,Item.inRegion.injEq] at e
       obtain ⟨⟨rfl,rfl,rfl⟩,rfl⟩:=e
       rw [ho] at ho'
       cases ho'
       exact hv
      rcases wP hw hfr (by simp) (Gn (hev hfr) o hop) hwant t d with ⟨n,hd⟩|⟨x,n,up,h1,h2⟩
      ·refine .inl ⟨n,fun U D hA S cl _=>(congrArg over (e S cl _)).trans ?_⟩
       have h3:=hd U D hA S cl
       rw [hev2 S] at h3
       exact h3
      ·refine .inr ⟨x,n,up,h1,fun U D hA S cl _ _=>?_⟩
       have h3:=h2 U D hA S cl
       rw [hev2 S] at h3
       exact ⟨(e S cl _).trans h3.1,(e S cl _).trans h3.2⟩
  | inRangeFunc l=>exact mY fun S w cl _=>by simp [G,stepG,stepG.exec,Frame.app,over]
  | endRangeFunc l=>
   obtain ⟨n,hh|⟨r,w1,us,up,h1,h2,h3⟩⟩:=mz3 (DF hx) hw t d
   ·refine .inl ⟨n,fun U D hA S cl hS=>?_⟩
    obtain ⟨x,w1,fs,hx,e,e2⟩:=hh U D hA
    cases x<;>first|exact hx.elim|simp [G,stepG,stepG.exec,e,e2,GStep.after,Frame.app,over]
   cases r with
   | ok j=>
    have h1:=h1 j rfl
    refine .inr ⟨.here { fn:=f,tmps:=X,todo:=(j.map Item.code).toList++k,defers:=ds,mode:=.run,kind:=.normal,roundOf:=ro } w1 (seen T.P f us),n,seen T.P f up,⟨⟨⟨hfr.to fun z hz=>?_,rfl⟩,h2.e _⟩,rfl⟩,fun U D hA S cl _ hl=>?_⟩
    ·rcases List.mem_append.1 hz with hz|hz
     ·cases j with
      | none=>cases hz
      | some jc=>
       have:z=.code jc:=by simpa using hz
       subst this;exact h1 _ rfl f
     ·exact hk z hz
    ·obtain ⟨⟨a1,a2,a3⟩,b1,b2,b3⟩:=h3 U D hA
     constructor
     ·simp [G,stepG,stepG.exec,a1,a2,a3,rv,GStep.after,Out.at,Out.app,Frame.app]
     ·simp [G,stepG,stepG.exec,b1,b2,b3,rv,GStep.after,Out.at,Out.app,Frame.app,pz]
   | error v=>
    refine .inr ⟨.bad (Frame.raise { fn:=f,tmps:=X,todo:=.endRangeFunc l::k,defers:=ds,mode:=.run,kind:=.normal,roundOf:=ro } [{ v,recovered:=false }]) w1 (seen T.P f us),n,seen T.P f up,⟨⟨⟨hfr.raise _,rfl⟩,h2.e _⟩,trivial⟩,fun U D hA S cl _ hl=>?_⟩
    obtain ⟨⟨a1,a2,a3⟩,b1,b2,b3⟩:=h3 U D hA
    constructor
    ·simp [G,stepG,stepG.exec,a1,a2,a3,rv,GStep.after,Out.at,Out.app,Frame.app,Frame.raise]
    ·simp [G,stepG,stepG.exec,b1,b2,b3,rv,GStep.after,Out.at,Out.app,Frame.app,Frame.raise,pz]
  | beginRound=>
   have hgs:MZ (cu fun _=>True) (do ro.elim (stuck "beginRound: no round") Instr.beginRound;pure .skip:Sem Next):=by
    refine MZ.bind (A:=Tr) ?_ fun _ _=>MZ.ret trivial
    cases ro with
    | none=>exact MZ.dead
    | some l=>exact vU (hfr.round l rfl)
   have e:∀ S cl w,stepG T.P true (G { fn:=f,tmps:=X,todo:=.beginRound::(k++S),defers:=ds,mode:=.run,kind:=.normal,roundOf:=ro } cl) w=stepG.apply T.P true { fn:=f,tmps:=X,todo:=.beginRound::(k++S),defers:=ds,mode:=.run,kind:=.normal,roundOf:=ro } cl none (do ro.elim (stuck "beginRound: no round") Instr.beginRound;pure .skip:Sem Next) w:=fun S cl w=>by
    simp only [G,stepG,stepG.exec]
   rcases wP hw hfr (by simp) hgs (fun v _ ops i rest kk e=>by simp at e) t d with ⟨n,hd⟩|⟨x,n,up,h1,h2⟩
   ·exact .inl ⟨n,fun U D hA S cl _=>(congrArg over (e S cl _)).trans (hd U D hA S cl)⟩
   ·exact .inr ⟨x,n,up,h1,fun U D hA S cl _ _=>⟨(e S cl _).trans (h2 U D hA S cl).1,(e S cl _).trans (h2 U D hA S cl).2⟩⟩
  | inScope b=>cases hx
  | call d w r s=>cases hx
  | extern r a=>cases hx
omit L in
theorem ER (hfr:FrM fr) (hw:OKW w) (hm:fr.mode=.returning):rW fr w t d:=by
 obtain ⟨f,X,k,ds,m,kd,ro⟩:=fr
 dsimp only at hm
 subst hm
 have hkind:=hfr.kind
 dsimp only at hkind
 subst hkind
 cases ds with
 | cons dd ds=>
  obtain ⟨r,rfl,hr⟩:=hfr.defers dd (by simp)
  obtain ⟨n,hh|⟨r',w1,us,up,h1,h2,h3⟩⟩:=mz3 (jF hr) hw t d
  ·refine .inl ⟨n,fun U D hA S cl hS=>?_⟩
   obtain ⟨x,w1,fs,hx,e,e2⟩:=hh U D hA
   simp [G,stepG,unwind,e,e2,GStep.after,Frame.app,over]
  cases r' with
  | ok l=>
   have h1:l=[]:=h1 l rfl
   subst h1
   refine .inr ⟨.here { fn:=f,tmps:=X,todo:=k,defers:=ds,mode:=.returning,kind:=.normal,roundOf:=ro } w1 (seen T.P f us),n,seen T.P f up,⟨⟨⟨⟨hfr.fn,hfr.tmps,hfr.todo,fun d hd=>hfr.defers d (by simp at hd ⊢;exact .inr hd),rfl,.inr rfl,hfr.round⟩,rfl⟩,h2.e _⟩,rfl⟩,fun U D hA S cl _ hl=>?_⟩
   obtain ⟨⟨a1,a2,a3⟩,b1,b2,b3⟩:=h3 U D hA
   constructor
   ·simp [G,stepG,unwind,a1,a2,a3,rv,GStep.after,Out.at,Out.app,Frame.app]
   ·simp [G,stepG,unwind,b1,b2,b3,rv,GStep.after,Out.at,Out.app,Frame.app,pz]
  | error v=>
   refine .inl ⟨n,fun U D hA S cl hS=>?_⟩
   simp [G,stepG,unwind,(h3 U D hA).2.1,(h3 U D hA).2.2.1,rv,GStep.after,Frame.app,over]
 | nil=>
  obtain ⟨fn,b,hf,_,hres⟩:=hfr.fn
  dsimp only at hf
  obtain ⟨n,hh|⟨r',w1,us,up,h1,h2,h3⟩⟩:=mz3 (Dv fn X) hw t d
  ·refine .inl ⟨n,fun U D hA S cl hS=>?_⟩
   obtain ⟨x,w1,fs,hx,e,e2⟩:=hh U D hA
   cases x<;>first|exact hx.elim|simp [G,stepG,unwind,hf,e,e2,GStep.after,Frame.app,over]
  cases r' with
  | ok v=>
   have h1:=h1 v rfl
   refine .inr ⟨.pop v w1 (seen T.P f us),n,seen T.P f up,⟨⟨fun htr c hc=>?_,h2.e _⟩,trivial⟩,fun U D hA S cl _ hl=>?_⟩
   ·obtain ⟨tt,e1,e2⟩:=hres c hc htr
    rw [h1 tt e1]
    exact hfr.tmps tt c e2
   ·obtain ⟨c,cs,rfl⟩:=FU hl
    obtain ⟨⟨a1,a2,a3⟩,b1,b2,b3⟩:=h3 U D hA
    constructor
    ·simp [G,stepG,unwind,hf,doReturn,a1,a2,a3,rv,GStep.after,Out.at,Out.app,Frame.app]
    ·simp [G,stepG,unwind,hf,doReturn,b1,b2,b3,rv,GStep.after,Out.at,Out.app,Frame.app,pz]
  | error v=>
   refine .inl ⟨n,fun U D hA S cl hS=>?_⟩
   simp [G,stepG,unwind,hf,(h3 U D hA).2.1,(h3 U D hA).2.2.1,rv,GStep.after,Frame.app,over]
theorem xu (hfr:FrM fr) (hw:OKW w):rW fr w t d:=hfr.mode.elim (EP hfr hw) (ER hfr hw)
end
end Mz
end
