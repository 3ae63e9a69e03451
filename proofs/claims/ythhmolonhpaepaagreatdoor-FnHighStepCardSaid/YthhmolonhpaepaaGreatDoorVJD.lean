/- From a function's lone contract on every tape to its way beside goroutines that only leave. Conditions: none. -/
import Derived.Test.YthhmolonhpaepaaGreatDoorVJL
import Derived.Test.YthhmolonhpaepaaGreatDoorVJk
set_option linter.unusedVariables false
set_option linter.unusedSimpArgs false
section
namespace Ren
open Go Go.Conc
variable {P:Program} {Good:Goroutine→World→Prop} {Q:Frame→World→Prop}
theorem jS {gl:List Frame} {n:Nat} {g:Goroutine} {w:World} (h:oZ P gl Q n g w):(∃ fr,g=G fr gl∧Q fr w)∨∃ m g' w',m+1=n∧eZ P g w=some (g',w')∧oZ P gl Q m g' w':=
 letI:aW:=⟨0,fun _=>0⟩;fD h
theorem bX {g g':Goroutine} {w w':World} {es es':Array Event} (h:GStep.go g w es=GStep.go g' w' es'):g=g'∧w=w'∧es=es':=by cases h;exact ⟨rfl,rfl,rfl⟩
theorem uO {gl:List Frame} (hsw:∀ g w t d,Good g w→SW P g w t d)
  (hnext:∀ g w t d g1 w1,Good g w→eZ P g (w.af t d)=some (g1,w1)→Good g1 w1∨∀ n t d,¬ oZ P gl Q n g1 (w1.af t d)) (hbl:∀ fr w t d,Q fr w→Q fr (w.af t d))
  (s:{ x:Goroutine × World // Good x.1 x.2∧¬ Rob P gl Q x.1 x.2 }) :
  ∃ (y:(Nat→Question→Nat) × Nat × Nat × Option { x:Goroutine × World // Good x.1 x.2∧¬ Rob P gl Q x.1 x.2 }),∀ T D,Agree y.1 y.2.1 T D y.2.2.1→∀ n,oZ P gl Q n s.1.1 (s.1.2.af T D) →
   ∃ s',y.2.2.2=some s'∧∃ m,m<n∧oZ P gl Q m s'.1.1 (s'.1.2.af T (D+y.2.2.1)):=by
 obtain ⟨⟨g,w⟩,hgd,hnr⟩:=s
 dsimp only at hgd hnr ⊢
 have hstop:∀ T D,¬ ∃ fr,g=G fr gl∧Q fr (w.af T D):=by
  rintro T D ⟨fr,rfl,h⟩
  exact hnr (.stop fr w fun t d=>hbl fr (w.af T D) t d h)
 have hex:∃ t d,¬ ∃ x:Goroutine × World × Array Event,stepG P true g (w.af t d)=.go x.1 x.2.1 x.2.2∧Rob P gl Q x.1 x.2.1:=by
  refine Classical.byContradiction fun hno=>hnr ?_
  have hall:∀ t d,∃ x:Goroutine × World × Array Event,stepG P true g (w.af t d)=.go x.1 x.2.1 x.2.2∧Rob P gl Q x.1 x.2.1:=fun t d=>Classical.byContradiction fun h=>hno ⟨t,d,h⟩
  exact .step g w (fun t d=>(Classical.choose (hall t d)).1) (fun t d=>(Classical.choose (hall t d)).2.1) (fun t d=>(Classical.choose (hall t d)).2.2) (fun t d=>(Classical.choose_spec (hall t d)).1) (fun t d=>(Classical.choose_spec (hall t d)).2)
 have pE:∀ {g:Goroutine} {w:World} (t:Nat→Question→Nat) (d:Nat),Rob P gl Q g w→Rob P gl Q g (w.af t d):=fun t d h=>by
  cases h with
  | stop fr _ h=>exact .stop fr _ h
  | step _ _ g' w' es h hn=>exact .step _ _ g' w' es h hn
 obtain ⟨t,d,hbad⟩:=hex
 obtain ⟨x,w1,c,h1,h2⟩:=hsw g w t d hgd
 cases x with
 | none=>
  refine ⟨(t,d,c,none),fun T D hA n hw=>?_⟩
  rcases jS hw with h|⟨m,g1,w2,_,h3,_⟩
  ·exact (hstop T D h).elim
  ·rw [h2 T D hA] at h3;cases h3
 | some g1=>
  rcases hnext _ _ _ _ _ _ hgd h1 with hg1|hno
  ·have hr1:¬ Rob P gl Q g1 (w1.af t (d+c)):=fun hr=>by
    obtain ⟨es,he⟩:=kJ h1
    exact hbad ⟨(g1,w1.af t (d+c),es),he,hr⟩
   refine ⟨(t,d,c,some ⟨(g1,w1.af t (d+c)),hg1,hr1⟩),fun T D hA n hw=>⟨_,rfl,?_⟩⟩
   rcases jS hw with h|⟨m,g2,w2,hm,h3,h4⟩
   ·exact (hstop T D h).elim
   ·rw [h2 T D hA] at h3
    simp only [Option.map_some,Option.some.injEq,Prod.mk.injEq] at h3
    obtain ⟨rfl,rfl⟩:=h3
    exact ⟨m,by omega,h4⟩
  ·refine ⟨(t,d,c,none),fun T D hA n hw=>?_⟩
   rcases jS hw with h|⟨m,g2,w2,hm,h3,h4⟩
   ·exact (hstop T D h).elim
   ·rw [h2 T D hA] at h3
    simp only [Option.map_some,Option.some.injEq,Prod.mk.injEq] at h3
    obtain ⟨rfl,rfl⟩:=h3
    exact (hno m T (D+c) h4).elim
theorem xL {gl:List Frame} (hsw:∀ g w t d,Good g w→SW P g w t d)
  (hnext:∀ g w t d g1 w1,Good g w→eZ P g (w.af t d)=some (g1,w1)→Good g1 w1∨∀ n t d,¬ oZ P gl Q n g1 (w1.af t d)) (hbl:∀ fr w t d,Q fr w→Q fr (w.af t d)) {g0:Goroutine} {w0:World} (h0:Good g0 w0)
  (hw:∀ T,∃ n,oZ P gl Q n g0 (w0.af T 0)):Rob P gl Q g0 w0:=by
 refine Classical.byContradiction fun hno=>?_
 let S:={ x:Goroutine × World // Good x.1 x.2∧¬ Rob P gl Q x.1 x.2 }
 let adv:S→(Nat→Question→Nat) × Nat × Nat × Option S:=fun s=>Classical.choose (uO hsw hnext hbl s)
 have hadv:∀ s:S,∀ T D,Agree (adv s).1 (adv s).2.1 T D (adv s).2.2.1→∀ n,oZ P gl Q n s.1.1 (s.1.2.af T D) →
   ∃ s',(adv s).2.2.2=some s'∧∃ m,m<n∧oZ P gl Q m s'.1.1 (s'.1.2.af T (D+(adv s).2.2.1)):=fun s=>Classical.choose_spec (uO hsw hnext hbl s)
 let s0:S:=⟨(g0,w0),h0,hno⟩
 let seq:Nat→S:=fun i=>Nat.rec s0 (fun _ s=>((adv s).2.2.2).getD s) i
 let T:=glued (fun s=>(adv s).1) (fun s=>(adv s).2.1) (fun s=>(adv s).2.2.1) seq
 have key:∀ n i,¬ oZ P gl Q n (seq i).1.1 ((seq i).1.2.af T (pos (fun s=>(adv s).2.2.1) seq i)):=by
  intro n
  induction n using Nat.strongRecOn with
  | _ n ih=>
   intro i hway
   obtain ⟨s',h1,m,hm,h2⟩:=hadv (seq i) T _ (rD (fun s=>(adv s).1) (fun s=>(adv s).2.1) (fun s=>(adv s).2.2.1) seq i) n hway
   refine ih m hm (i+1) ?_
   have e:seq (i+1)=s':=by show ((adv (seq i)).2.2.2).getD (seq i)=s';rw [h1];rfl
   rw [e]
   exact h2
 obtain ⟨n,hn⟩:=hw T
 exact key n 0 hn
end Ren
namespace jf
open Go Go.Conc Ren
section
variable {g:Goroutine} {w:World}
variable {Q:Frame→World→Prop}
end
end jf
end
section
namespace Mz
open Go Go.Conc Ren
inductive Cls where
 | fn (l:List FuncId)
 | bound (l:List FuncId)
 | yield
deriving DecidableEq
class Mc where
 P:Program
 fn:FuncId→Bool
 nm:String→Bool
 kl:FuncId→List (Nat × Cls)
 kr:FuncId→Option Cls
 n0:Nat
 bad:Nat→Prop
 shy:Nat→Prop
 GM:∀ b,shy b→bad b
 bR:Bool
 tr:FuncId→Bool
 K:Frame→World→Prop
variable [T:Mc]
def FnV (c:Cls) (f:Fn) (xs ys:Array Value):Prop:=
 match c with
 | .fn l=>xs=#[]∧ys.size≤1∧∃ g,f=.func g∧g∈l∧T.fn g=true∧T.tr g=false
 | .bound l=>∃ g,f=.func g∧g∈l∧T.fn g=true∧T.kl g=[]∧T.tr g=false
 | .yield=>xs=#[]∧ys=#[]∧∃ l,f=.yield l∧T.n0≤l
def KV (c:Cls) (v:Value):Prop:=∀ f xs ys,v=.func f xs ys→FnV c f xs ys
def Keys (f:FuncId) (tmps:Array Value):Prop:=∀ t c,(t,c)∈T.kl f→KV c (tmps.getD t undef)
theorem mD (c:Cls):KV c undef:=fun f xs ys e=>by cases e
def Le:Value→Bool
 | .func ..=>false
 | _=>true
def FX (f:FuncId) (c:Cls):Operand→Bool
 | .tmp t=>(T.kl f).contains (t,c)
 | .const v=>Le v
 | .func g=>match c with
  | .fn l=>l.contains g && (T.fn g && !T.tr g)
  | .bound l=>l.contains g && (T.fn g && ((T.kl g).isEmpty && !T.tr g))
  | .yield=>false
 | .global _=>false
def Ch (f:FuncId) (g:FuncId) (args:Array Operand) (over:Nat):Bool:=
 (T.kl g).all fun p=>match args[p.1]? with
  | some o=>FX f p.2 o
  | none=>decide (args.size+over≤p.1)
def Ie (f:FuncId) (c:Call):Bool:=
 match c.callee with
 | .builtin .len|.builtin .min|.builtin .close|.builtin .append=>true
 | .builtin _=>false
 | .invoke _ name=>T.nm name
 | .value (.func g)=>T.fn g && Ch f g c.args 0 && (!T.tr g || c.args.size == 1)
 | .value (.tmp t)=>(T.kl f).any fun p=>p.1 == t && match p.2 with
  | .fn l=>l.all fun g=>Ch f g c.args 1
  | .bound _=>true
  | .yield=>true
 | .value _=>false
def H9 (s d:TypeId):Bool:=
 match T.P.underlying s,T.P.underlying d with
 | some (.int _),some (.int _)|some .string,some .string|some (.slice _),some .string|some .string,some (.slice _)=>true
 | _,_=>false
def kindOk (f:FuncId):Op→Bool
 | .convert s d _=>H9 s d
 | .move _|.assign _|.load _ _|.nilCheck _|.unOp ..|.binOp ..|.fieldAddr ..|.sliceToArrayPointer ..|.makeInterface ..|.field ..|.extract ..|.makeChan ..|.box ..|.panic _=>true
 | .pick ..|.alloc _|.build ..|.buildSlice ..|.store ..|.makeFunc ..|.makeSlice ..|.slice ..|.indexAddr ..|.index ..|.typeAssert ..=>true
 | .call c=>Ie f c
 | .send ..|.recv ..=>T.bR
 | _=>false
def uI (f:FuncId) (c:Cls):Op→Bool
 | .move x|.assign x=>FX f c x
 | .makeFunc (.func g) xs ys=>(match c with|.bound _=>true|_=>xs.isEmpty && decide (ys.size≤1)) && FX f c (.func g)
 | .call cl=>match cl.callee with
  | .value (.func g)=>T.kr g == some c
  | _=>false
 | _=>false
def om (f:FuncId) (o:Oper):Bool:=
 kindOk f o.op && match o.dst with
  | some d=>(T.kl f).all fun p=>p.1 != d || uI f p.2 o.op
  | none=>true
def codeOk (f:FuncId):Code→Bool
 | .skip|.ret|.label _|.exit _=>true
 | .region _ ops _=>ops.all (om f)
 | .seq a b|.cond _ a b=>codeOk f a && codeOk f b
 | .block _ c|.loop c=>codeOk f c
 | .rangeFunc q ps a b=>(match q with
  | .tmp t=>(T.kl f).any fun p=>p.1 == t && match p.2 with
   | .fn l=>l.all fun g=>(T.kl g).all fun p=>if p.1=0 then p.2 == .yield else decide (2≤p.1)
   | _=>false
  | _=>false) && ps.all (fun t=>(T.kl f).all fun p=>p.1 != t) && !T.tr f && codeOk f a && codeOk f b
 | .goto _|.scope _|.refuse _=>false
def sW (f:FuncId):Prop:=∃ fn b,T.P.funcs[f]?=some fn∧fn.body=some b∧(∀ c,T.kr f=some c→T.tr f=false→∃ t,fn.results=#[.tmp t]∧(t,c)∈T.kl f)
def IM (f:FuncId):Prop:=∃ fn b,T.P.funcs[f]?=some fn∧fn.body=some b∧codeOk f b=true∧T.fn f=true∧(∀ c,T.kr f=some c→T.tr f=false→∃ t,fn.results=#[.tmp t]∧(t,c)∈T.kl f)
structure Et (l:Loop):Prop where
 pend:∀ c,l.pending=some c→∀ f,codeOk f c=true
 fn:sW l.fn
 tmps:Keys l.fn l.tmps
 par:∀ t∈l.params,∀ p∈T.kl l.fn,p.1≠t
 asg:codeOk l.fn l.assign=true
 body:codeOk l.fn l.body=true
 defers:T.n0≤l.defers
 ntr:T.tr l.fn=false
def Lt:Obj→Prop
 | .loop l=>Et l
 | .deferred x=>x=none∨x=some []
 | .pending ..=>False
 | _=>True
structure OKW (w:World):Prop where
 low:T.n0≤w.heap.size
 obj:∀ b o,T.n0≤b→w.heap[b]?=some o→Lt o
 bad:∀ b,T.bad b→(∃ c e,w.heap[b]?=some (.cells c e (0,0))∧0<c.size)∨¬ T.shy b∧∃ c e,w.heap[b]?=some (.pending c e)
 nop:∀ b c e,¬ T.bad b→w.heap[b]?≠some (.pending c e)
open Classical in
noncomputable def iI (b:Nat) (o:Obj):Obj:=if T.bad b then .stringIter ⟨#[]⟩ 0 else o
noncomputable def Pz (w:World):World:={ w with heap:=w.heap.mapIdx iI }
section
variable {w:World} {b:Nat}
theorem Ab (w:World):(Pz w).heap.size=w.heap.size:=by simp [Pz]
theorem jD (w:World) (b:Nat):(Pz w).heap[b]?=(w.heap[b]?).map (iI b):=by simp [Pz]
theorem cZ (h:¬ T.bad b):(Pz w).heap[b]?=w.heap[b]?:=by
 rw [jD]
 cases w.heap[b]? with
 | none=>rfl
 | some o=>simp [iI,h]
theorem OKW.rT (h:OKW w) (hb:T.bad b):(Pz w).heap[b]?=some (.stringIter ⟨#[]⟩ 0):=by
 rcases h.bad b hb with ⟨c,e,h1,_⟩|⟨_,c,e,h1⟩
 ·rw [jD,h1]
  simp [iI,hb]
 ·rw [jD,h1]
  simp [iI,hb]
theorem OKW.lt (h:OKW w) (hb:T.bad b):b<w.heap.size:=by
 rcases h.bad b hb with ⟨c,e,h1,_⟩|⟨_,c,e,h1⟩
 ·exact (Array.getElem?_eq_some_iff.1 h1).1
 ·exact (Array.getElem?_eq_some_iff.1 h1).1
theorem OKW.F7 (h:OKW w) (b:Nat) (c:Array Value) (e:TypeId):(Pz w).heap[b]?≠some (.pending c e):=fun x=>by
 by_cases hb:T.bad b
 ·rw [h.rT hb] at x;cases x
 ·rw [cZ hb] at x;exact h.nop b c e hb x
end
def mQ:Halt→Prop
 | .unsupported (.initOrder _)=>False
 | .stuck _|.unsupported _=>True
 | _=>False
def MG:Mark→Prop
 | .noRoom|.extern _=>True
 | _=>False
def EM (n:Nat) (e:Event):Prop:=
 (∃ a,e.loc=.cell a∧¬ T.shy a.block∧a.block<n)∨(∃ r,e.loc=.obj r∧¬ T.shy r∧r<n)∨e.loc=.output∨e.loc=.mark .noRoom∨∃ f,e.loc=.mark (.extern f)
theorem EM.mono {n m:Nat} (h:n≤m) {e:Event} (k:EM n e):EM m e:=by
 rcases k with ⟨a,h1,h2,h3⟩|⟨a,h1,h2,h3⟩|k
 ·exact .inl ⟨a,h1,h2,by omega⟩
 ·exact .inr (.inl ⟨a,h1,h2,by omega⟩)
 ·exact .inr (.inr k)
structure nU (w w':World) (us:Array Event):Prop where
 okw:OKW w'
 size:w.heap.size≤w'.heap.size
 bad:∀ b,T.bad b→w'.heap[b]?=w.heap[b]?
 evs:∀ e∈us,EM w'.heap.size e
theorem nU.refl {w:World} (h:OKW w):nU w w #[]:=⟨h,Nat.le_refl _,fun _ _=>rfl,by simp⟩
theorem nU.trans {w w1 w2:World} {us vs:Array Event} (h:nU w w1 us) (k:nU w1 w2 vs):nU w w2 (us++vs):=
 ⟨k.okw,Nat.le_trans h.size k.size,fun b hb=>(k.bad b hb).trans (h.bad b hb),fun e he=>(Array.mem_append.1 he).elim (fun x=>(h.evs e x).mono k.size) (k.evs e)⟩
def rv {α:Type}:Except Value α→World→Result α
 | .ok a,w=>.ok a w
 | .error v,w=>.halt (.panic v) w
def MZ {α:Type} (A:α→Prop) (s:Sem α):Prop:=∀ w,OKW w→∀ t d,∃ c,
 (∀ U D,Agree t d U D c→∀ ep,∃ h w1 fs,mQ h∧s.runT T.P ((Pz w).af U D) ep=(.halt h w1,fs)) ∨
 ∃ r w1 us up,(∀ a,r=.ok a→A a)∧nU w w1 us∧∀ U D,Agree t d U D c→(∀ es,s.runT T.P (w.af U D) es=(rv r (w1.af U (D+c)),es++us))∧∀ ep,s.runT T.P ((Pz w).af U D) ep=(rv r ((Pz w1).af U (D+c)),ep++up)
section
variable {α β:Type} {A:α→Prop} {B:β→Prop} {s:Sem α} {f:α→Sem β}
theorem MZ.bnd (h:MZ A s) (k:∀ a,A a→MZ B (f a)):MZ B (s.bind f):=by
 intro w hw t d
 obtain ⟨c,h|⟨r,w1,us,up,h1,h2,h3⟩⟩:=h w hw t d
 ·refine ⟨c,.inl fun U D hA ep=>?_⟩
  obtain ⟨h',w1,fs,hd,e⟩:=h U D hA ep
  exact ⟨h',w1,fs,hd,by rw [Sem.runT_bind',e]⟩
 ·cases r with
  | error v=>exact ⟨c,.inr ⟨.error v,w1,us,up,nofun,h2,fun U D hA=>⟨fun es=>by rw [Sem.runT_bind',(h3 U D hA).1];rfl,fun ep=>by rw [Sem.runT_bind',(h3 U D hA).2];rfl⟩⟩⟩
  | ok a=>
   obtain ⟨c2,hh⟩:=k a (h1 a rfl) w1 h2.okw t (d+c)
   have a1:∀ {U D},Agree t d U D (c+c2)→Agree t d U D c:=fun hA i q hi=>hA i q (by omega)
   have a2:∀ {U D},Agree t d U D (c+c2)→Agree t (d+c) U (D+c) c2:=fun hA i q hi=>by
    have:=hA (c+i) q (by omega)
    rw [Nat.add_assoc,Nat.add_assoc];exact this
   refine ⟨c+c2,?_⟩
   rcases hh with hh|⟨r,w2,us2,up2,k1,k2,k3⟩
   ·left
    intro U D hA ep
    obtain ⟨h',w3,fs,hd,e⟩:=hh U (D+c) (a2 hA) (ep++up)
    exact ⟨h',w3,fs,hd,by rw [Sem.runT_bind',(h3 U D (a1 hA)).2];exact e⟩
   ·right
    refine ⟨r,w2,us++us2,up++up2,k1,h2.trans k2,fun U D hA=>⟨fun es=>?_,fun ep=>?_⟩⟩
    ·rw [Sem.runT_bind',(h3 U D (a1 hA)).1]
     have:=(k3 U (D+c) (a2 hA)).1 (es++us)
     rw [Nat.add_assoc,Array.append_assoc] at this
     exact this
    ·rw [Sem.runT_bind',(h3 U D (a1 hA)).2]
     have:=(k3 U (D+c) (a2 hA)).2 (ep++up)
     rw [Nat.add_assoc,Array.append_assoc] at this
     exact this
theorem MZ.bind (h:MZ A s) (k:∀ a,A a→MZ B (f a)):MZ B (s >>= f):=MZ.bnd h k
theorem MZ.mono {A':α→Prop} (h:MZ A s) (k:∀ a,A a→A' a):MZ A' s:=fun w hw t d=>by
 obtain ⟨c,h|⟨r,w1,us,up,h1,h2⟩⟩:=h w hw t d
 ·exact ⟨c,.inl h⟩
 ·exact ⟨c,.inr ⟨r,w1,us,up,fun a e=>k a (h1 a e),h2⟩⟩
theorem MZ.ret {a:α} (h:A a):MZ A (pure a:Sem α):=fun w hw t d=>⟨0,.inr ⟨.ok a,w,#[],#[],fun _ e=>by cases e;exact h,.refl hw,fun U D _=>⟨fun es=>by rw [Array.append_empty];rfl,fun es=>by rw [Array.append_empty];rfl⟩⟩⟩
theorem MZ.dead {h:Halt} (k:mQ h:=by trivial):MZ A (.halt h:Sem α):=fun w hw t d=>⟨0,.inl fun U D _ ep=>⟨h,(Pz w).af U D,ep,k,rfl⟩⟩
theorem MZ.pan {v:Value}:MZ A (.halt (.panic v):Sem α):=fun w hw t d=>⟨0,.inr ⟨.error v,w,#[],#[],nofun,.refl hw,fun U D _=>⟨fun es=>by rw [Array.append_empty];rfl,fun es=>by rw [Array.append_empty];rfl⟩⟩⟩
theorem MZ.still (h:∀ w,OKW w→(∀ U D ep,∃ h w1 fs,mQ h∧s.runT T.P ((Pz w).af U D) ep=(.halt h w1,fs)) ∨
  ∃ a w1 us up,A a∧nU w w1 us∧∀ U D,(∀ es,s.runT T.P (w.af U D) es=(.ok a (w1.af U D),es++us))∧∀ ep,s.runT T.P ((Pz w).af U D) ep=(.ok a ((Pz w1).af U D),ep++up)):MZ A s:=fun w hw t d=>by
 rcases h w hw with h|⟨a,w1,us,up,h1,h2,h3⟩
 ·exact ⟨0,.inl fun U D _ ep=>h U D ep⟩
 ·exact ⟨0,.inr ⟨.ok a,w1,us,up,fun _ e=>by cases e;exact h1,h2,fun U D _=>⟨fun es=>(h3 U D).1 es,fun ep=>(h3 U D).2 ep⟩⟩⟩
end
end Mz
end
section
namespace Mz
open Go Go.Conc Ren
variable [T:Mc]
abbrev Tr {α:Type}:α→Prop:=fun _=>True
section
variable {w:World}
omit T in
theorem dB (hp:Array Obj) (b:Nat) (f:Obj→Obj) (c:Nat):(hp.modify b f)[c]?=if b=c then (hp[c]?).map f else hp[c]?:=by
 simp only [Array.getElem?_modify]
theorem ky {w':World} (hw:OKW w) (b:Nat) (hb:¬ T.bad b) (hs:w'.heap.size=w.heap.size) (hne:∀ c,c≠b→w'.heap[c]?=w.heap[c]?) (h:T.n0≤b→∀ o,w'.heap[b]?=some o→Lt o) (hp:∀ c e,w'.heap[b]?≠some (.pending c e)):OKW w':=by
 refine ⟨by rw [hs];exact hw.low,fun c o hc ho=>?_,fun c hc=>?_,fun c x e hc=>?_⟩
 ·by_cases e:c=b
  ·subst e;exact h hc o ho
  ·rw [hne c e] at ho;exact hw.obj c o hc ho
 ·rw [hne c (fun e=>hb (e ▸ hc))];exact hw.bad c hc
 ·by_cases e:c=b
  ·subst e;exact hp _ _
  ·rw [hne c e];exact hw.nop _ _ _ hc
theorem l5 {w w':World} {b:Nat} {f:Obj→Obj} (hb:¬ T.bad b) (h:∀ c,w'.heap[c]?=if b=c then (w.heap[c]?).map f else w.heap[c]?) (c:Nat):(Pz w').heap[c]?=if b=c then ((Pz w).heap[c]?).map f else (Pz w).heap[c]?:=by
 by_cases e:b=c
 ·subst e
  rw [cZ hb,cZ hb,h,if_pos rfl]
 ·rw [jD,h,if_neg e,if_neg e,jD]
omit T in
theorem qI {w:World} (hn:∀ (b:Nat) c e,w.heap[b]?≠some (Obj.pending c e)) (a:Addr) (s:String):∀ h,w.noCell a s=h→mQ h:=by
 intro h e
 unfold World.noCell at e
 split at e
 ·rename_i x;exact (hn _ _ _ x).elim
 ·subst e;trivial
 ·subst e;trivial
omit T in
theorem tX {P:Program} {w w':World} {a k:Addr} {u:TypeId} {b:Bool} (h:w'.heap[a.block]?=w.heap[a.block]?):w'.seen P a u k b=w.seen P a u k b:=by
 unfold World.seen
 rw [h]
omit T in
theorem seen_cells {P:Program} {w:World} {a k:Addr} {u:TypeId} {b:Bool} {r} (h:w.seen P a u k b=.ok r):∃ c e z,w.heap[a.block]?=some (.cells c e z):=by
 unfold World.seen at h
 simp only [bind,Except.bind,pure,Except.pure,throwThe,MonadExcept.throw,MonadExceptOf.throw] at h
 cases ho:w.heap[a.block]? with
 | none=>
  exfalso;rw [ho] at h
  (repeat' split at h)<;>first|(cases h;done)|contradiction|(injections;done)
 | some o=>
  cases o with
  | cells c e z=>exact ⟨c,e,z,rfl⟩
  | _=>
   exfalso;rw [ho] at h
   (repeat' split at h)<;>first|(cases h;done)|contradiction|(injections;done)
omit T in
theorem Kk {P:Program} {w:World} (hn:∀ (b:Nat) c e,w.heap[b]?≠some (Obj.pending c e)) {a:Addr} {b:Bool} {h:Halt} (e:w.farLoad P a b=.error h):mQ h:=by
 unfold World.farLoad at e
 split at e
 ·split at e
  ·cases e
  ·cases e;trivial
 ·cases e;exact qI hn _ _ _ rfl
omit T in
theorem yX {P:Program} {w:World} (hn:∀ (b:Nat) c e,w.heap[b]?≠some (Obj.pending c e)) {a:Addr} {v:Value} {b:Bool} {h:Halt} (e:w.farStore P a v b=.error h):mQ h:=by
 unfold World.farStore at e
 split at e
 ·split at e
  ·cases e
  ·cases e;trivial
 ·cases e;exact qI hn _ _ _ rfl
omit T in
theorem rZ {P:Program} {w w':World} {a k:Addr} {u:TypeId} {b:Bool} (h:w'.heap[a.block]?=w.heap[a.block]?):w'.viewLoad P a u k b=w.viewLoad P a u k b:=by
 unfold World.viewLoad
 rw [tX h]
omit T in
theorem nW {P:Program} {w:World} {a k:Addr} {u:TypeId} {b:Bool} {r:Value × List Addr} (h:w.viewLoad P a u k b=.ok r):(∃ c e z,w.heap[a.block]?=some (.cells c e z))∧∀ x∈r.2,x.block=a.block:=by
 unfold World.viewLoad at h
 cases hs:w.seen P a u k b with
 | error e=>rw [hs] at h;cases h
 | ok q=>
  refine ⟨seen_cells hs,?_⟩
  rw [hs] at h
  obtain ⟨q1,q2,q3,q4,q5,q6⟩:=q
  simp only [bind,Except.bind,pure,Except.pure] at h
  split at h
  ·cases h
   intro x hx
   simp only [List.mem_map] at hx
   obtain ⟨y,_,rfl⟩:=hx
   rfl
  ·cases h
omit T in
theorem jq {P:Program} {w:World} {a k:Addr} {u:TypeId} {v:Value} {b:Bool} {r:World × List Addr} (h:w.viewStore P a u k v b=.ok r) :
  ∃ o ts,r=({ w with heap:=w.heap.setIfInBounds a.block o },ts)∧(∃ c e z,o=.cells c e z)∧(∃ c e z,w.heap[a.block]?=some (.cells c e z))∧(∀ x∈ts,x.block=a.block) ∧
   ∀ w':World,w'.heap[a.block]?=w.heap[a.block]?→w'.viewStore P a u k v b=.ok ({ w' with heap:=w'.heap.setIfInBounds a.block o },ts):=by
 have key:∀ w':World,w'.heap[a.block]?=w.heap[a.block]?→w'.viewStore P a u k v b=(w.viewStore P a u k v b).map fun p=>({ w' with heap:=w'.heap.setIfInBounds a.block ((p.1.heap[a.block]?).getD default) },p.2):=by
  intro w' e
  unfold World.viewStore
  rw [tX e]
  cases hs:w.seen P a u k b with
  | error e=>simp only [bind,Except.bind,pure,Except.pure];split<;>first|rfl|(split<;>rfl)
  | ok q=>
   obtain ⟨c,e',z,hc⟩:=seen_cells hs
   have hlt:a.block<w.heap.size:=(Array.getElem?_eq_some_iff.1 hc).1
   obtain ⟨q1,q2,q3,q4,q5,q6⟩:=q
   simp only [bind,Except.bind,pure,Except.pure]
   repeat' (first|rfl|split)
   all_goals first|rfl|simp [Except.map,hlt]|skip
 have inv:(∃ c e z,r.1.heap[a.block]?=some (.cells c e z))∧(∃ c e z,w.heap[a.block]?=some (.cells c e z))∧∀ x∈r.2,x.block=a.block:=by
  unfold World.viewStore at h
  cases hs:w.seen P a u k b with
  | error e=>
   exfalso
   rw [hs] at h
   simp only [bind,Except.bind,pure,Except.pure] at h
   (repeat' split at h)<;>first|(cases h;done)|contradiction
  | ok q=>
   obtain ⟨c,e',z,hc⟩:=seen_cells hs
   have hlt:a.block<w.heap.size:=(Array.getElem?_eq_some_iff.1 hc).1
   obtain ⟨q1,q2,q3,q4,q5,q6⟩:=q
   rw [hs] at h
   simp only [bind,Except.bind,pure,Except.pure] at h
   (repeat' split at h)<;>first|contradiction|(cases h;done)|skip
   all_goals
    cases h
    refine ⟨⟨_,_,_,by simp only [Array.getElem?_setIfInBounds_self_of_lt hlt];rfl⟩,⟨_,_,_,hc⟩,fun x hx=>?_⟩
    simp only [List.mem_map] at hx
    obtain ⟨y,_,rfl⟩:=hx
    rfl
 obtain ⟨⟨c,e,z,h1⟩,h2,h3⟩:=inv
 refine ⟨.cells c e z,r.2,?_,⟨_,_,_,rfl⟩,h2,h3,fun w' e=>?_⟩
 ·have:=key w rfl
  rw [h] at this
  simp only [Except.map,Except.ok.injEq,h1,Option.getD_some] at this
  exact this
 ·rw [key w' e,h]
  simp only [Except.map,h1,Option.getD_some]
end
end Mz
end
section
namespace Mz
open Go Go.Conc Ren
variable [T:Mc]
section
variable {w:World}
theorem wE {w:World} {a:Addr} (hb:¬ T.bad a.block) (hl:a.block<w.heap.size) (x y:Bool):EM w.heap.size ⟨.cell a,x,y⟩:=.inl ⟨a,rfl,fun h=>hb (T.GM _ h),hl⟩
omit T in
theorem Ia {w:World} {a:Addr} {v:Value} (h:w.cell? a=some v):∃ c e z,w.heap[a.block]?=some (.cells c e z):=by
 unfold World.cell? at h
 split at h
 ·exact ⟨_,_,_,by assumption⟩
 ·cases h
theorem wH {w:World} {a:Addr} (h:¬ T.bad a.block):(Pz w).cell? a=w.cell? a:=by
 unfold World.cell?
 rw [cZ h]
theorem rE {w:World} {a:Addr} (h:¬ T.bad a.block):(Pz w).frozen? a=w.frozen? a:=by
 unfold World.frozen?
 rw [cZ h]
theorem wM {w:World} (hw:OKW w) {a:Addr} (h:T.bad a.block):(Pz w).cell? a=none∧∀ b,(Pz w).farLoad T.P a b=.error (.stuck "load: no such cell"):=by
 have:=hw.rT h
 refine ⟨by unfold World.cell?;rw [this],fun b=>?_⟩
 unfold World.farLoad World.noCell
 rw [this]
theorem Ip {w:World} (hw:OKW w) {a:Addr} (h:T.bad a.block) (U:Nat→Question→Nat) (D:Nat) (v:Value) (b:Bool):((Pz w).af U D).farStore T.P a v b=.error (.stuck "store: no such cell"):=by
 have:((Pz w).af U D).heap[a.block]?=_:=hw.rT h
 unfold World.farStore World.noCell
 rw [this]
theorem Gi (a:Addr) (m:Mode:=.plain):MZ Tr (load a m):=by
 refine MZ.still fun w hw=>?_
 by_cases hb:T.bad a.block
 ·left
  intro U D ep
  refine ⟨.stuck "load: no such cell",(Pz w).af U D,ep,trivial,?_⟩
  show (Sem.load m a Sem.pure).runT T.P _ ep=_
  rw [Sem.runT,show ((Pz w).af U D).cell? a=none from (wM hw hb).1,dC,(wM hw hb).2]
 ·cases hc:w.cell? a with
  | some v=>
   right
   obtain ⟨c,e,z,hcc⟩:=Ia hc
   refine ⟨v,w,#[⟨.cell a,false,m == .atomic⟩],#[⟨.cell a,false,m == .atomic⟩],trivial,⟨hw,Nat.le_refl _,fun _ _=>rfl,fun e he=>by simp at he;subst he;exact wE hb (Array.getElem?_eq_some_iff.1 hcc).1 _ _⟩,fun U D=>⟨fun es=>?_,fun ep=>?_⟩⟩
   ·show (Sem.load m a Sem.pure).runT T.P _ es=_
    rw [Sem.runT,show (w.af U D).cell? a=some v from hc,← Array.push_eq_append];rfl
   ·show (Sem.load m a Sem.pure).runT T.P _ ep=_
    rw [Sem.runT,show ((Pz w).af U D).cell? a=some v from (wH hb).trans hc,← Array.push_eq_append];rfl
  | none=>
   have hp:(Pz w).cell? a=none:=(wH hb).trans hc
   have dead:∀ h,(Pz w).farLoad T.P a (m == .atomic)=.error h→∀ U D ep,∃ h w1 fs,mQ h∧(load a m).runT T.P ((Pz w).af U D) ep=(.halt h w1,fs):=fun h e U D ep=>by
    refine ⟨h,(Pz w).af U D,ep,Kk hw.F7 e,?_⟩
    show (Sem.load m a Sem.pure).runT T.P _ ep=_
    rw [Sem.runT,show ((Pz w).af U D).cell? a=none from hp,dC,e]
   cases hpf:(Pz w).farLoad T.P a (m == .atomic) with
   | error h=>exact .inl (dead h hpf)
   | ok r=>
    right
    obtain ⟨v,ts⟩:=r
    have hpf0:=hpf
    unfold World.farLoad at hpf
    rw [cZ hb] at hpf
    split at hpf
    ·rename_i at_ u hv
     have hat:¬ T.bad at_.block:=fun hbad=>by
      split at hpf
      ·rename_i r hr
       obtain ⟨⟨c,e,z,h1⟩,_⟩:=nW hr
       rw [hw.rT hbad] at h1
       cases h1
      ·cases hpf
     split at hpf
     ·rename_i r hr
      cases hpf
      have hr':w.viewLoad T.P at_ u a (m == .atomic)=.ok (v,ts):=by rw [← hr];exact (rZ (cZ hat)).symm
      obtain ⟨⟨c,e,z,h1⟩,h2⟩:=nW hr'
      have hlt:=(Array.getElem?_eq_some_iff.1 h1).1
      have hf:w.farLoad T.P a (m == .atomic)=.ok (v,ts):=by unfold World.farLoad;rw [hv];simp only [hr']
      refine ⟨v,w,ts.toArray.map (⟨.cell ·,false,m == .atomic⟩),ts.toArray.map (⟨.cell ·,false,m == .atomic⟩),trivial,⟨hw,Nat.le_refl _,fun _ _=>rfl,fun e he=>?_⟩,fun U D=>⟨fun es=>?_,fun ep=>?_⟩⟩
      ·simp only [Array.mem_map,List.mem_toArray] at he
       obtain ⟨x,hx,rfl⟩:=he
       have:=h2 x hx
       exact wE (by rw [this];exact hat) (by rw [this];exact hlt) _ _
      ·show (Sem.load m a Sem.pure).runT T.P _ es=_
       rw [Sem.runT,show (w.af U D).cell? a=none from hc,dC,hf];rfl
      ·show (Sem.load m a Sem.pure).runT T.P _ ep=_
       rw [Sem.runT,show ((Pz w).af U D).cell? a=none from hp,dC,hpf0];rfl
     ·cases hpf
    ·cases hpf
theorem FM {w w':World} (hr:{ w with heap:=w'.heap }=w') {hp:Array Obj} (h:∀ c:Nat,hp[c]?=(Pz w').heap[c]?):{ Pz w with heap:=hp }=Pz w':=by
 have e:hp=(Pz w').heap:=Array.ext_getElem? h
 subst e
 rw [← hr]
 rfl
theorem CJ {w:World} {a:Addr} {v:Value} (h:¬ T.bad a.block):(Pz w).setCell a v=Pz (w.setCell a v):=by
 refine FM (w:=w) (w':=w.setCell a v) rfl fun c=>?_
 rw [l5 (w:=w) (w':=w.setCell a v) h (fun c=>dB _ _ _ _)]
 exact dB _ _ _ _
theorem Aj (hw:OKW w) {a:Addr} {v:Value} (h:¬ T.bad a.block) (hc:∃ c e z,w.heap[a.block]?=some (.cells c e z)):OKW (w.setCell a v):=by
 refine ky hw a.block h (by simp [World.setCell]) (fun c hc=>by rw [show (w.setCell a v).heap[c]?=_ from dB _ _ _ _,if_neg (Ne.symm hc)]) (fun _ o ho=>?_) fun c e ho=>?_
 ·obtain ⟨c,e,z,hc⟩:=hc
  rw [show (w.setCell a v).heap[a.block]?=_ from dB _ _ _ _,if_pos rfl,hc] at ho
  cases ho
  trivial
 ·obtain ⟨c,e,z,hc⟩:=hc
  rw [show (w.setCell a v).heap[a.block]?=_ from dB _ _ _ _,if_pos rfl,hc] at ho
  cases ho
theorem JM (a:Addr) (v:Value) (m:Mode:=.plain):MZ Tr (store a v m):=by
 refine MZ.still fun w hw=>?_
 by_cases hagg:(∃ c,v=.agg c)∨∃ c,v=.tuple c
 ·left
  intro U D ep
  exact ⟨.stuck "store: not the value of one cell",_,ep,trivial,Ren.cO hagg⟩
 have hrun:∀ w es,(store a v m).runT T.P w es=_:=fun w es=>Ren.eU (P:=T.P) (k:=(Sem.pure ():Sem Unit)) (m:=m) (a:=a) (w:=w) (es:=es) (fun c e=>hagg (.inl ⟨c,e⟩)) (fun c e=>hagg (.inr ⟨c,e⟩))
 by_cases hb:T.bad a.block
 ·left
  intro U D ep
  refine ⟨.stuck "store: no such cell",(Pz w).af U D,ep,trivial,?_⟩
  rw [hrun,show ((Pz w).af U D).cell? a=none from (wM hw hb).1,Ip hw hb]
 ·cases hc:w.cell? a with
  | some u=>
   have hp:(Pz w).cell? a=some u:=(wH hb).trans hc
   cases hf:w.frozen? a with
   | true=>
    left
    intro U D ep
    refine ⟨.unsupported (.unsafePointer "a write to bytes that a string shares"),(Pz w).af U D,ep,trivial,?_⟩
    rw [hrun,show ((Pz w).af U D).cell? a=some u from hp]
    simp only
    rw [if_pos (show ((Pz w).af U D).frozen? a=true from (rE hb).trans hf)]
   | false=>
    right
    obtain ⟨c,e,z,hcc⟩:=Ia hc
    have hlt:=(Array.getElem?_eq_some_iff.1 hcc).1
    refine ⟨(),w.setCell a v,#[⟨.cell a,true,m == .atomic⟩],#[⟨.cell a,true,m == .atomic⟩],trivial,⟨Aj hw hb ⟨_,_,_,hcc⟩,Nat.le_of_eq (by simp [World.setCell]),fun c hc=>?_,fun e he=>?_⟩,fun U D=>⟨fun es=>?_,fun ep=>?_⟩⟩
    ·rw [show (w.setCell a v).heap[c]?=_ from dB _ _ _ _,if_neg (fun e:a.block=c=>hb (e ▸ hc))]
    ·simp at he;subst he;exact wE hb (by simpa [World.setCell] using hlt) _ _
    ·rw [hrun,show (w.af U D).cell? a=some u from hc]
     simp only
     rw [if_neg (by rw [show (w.af U D).frozen? a=false from hf];exact Bool.false_ne_true),← Array.push_eq_append]
     rfl
    ·rw [hrun,show ((Pz w).af U D).cell? a=some u from hp]
     simp only
     rw [if_neg (by rw [show ((Pz w).af U D).frozen? a=false from (rE hb).trans hf];exact Bool.false_ne_true),← Array.push_eq_append,← CJ hb]
     rfl
  | none=>
   have hp:(Pz w).cell? a=none:=(wH hb).trans hc
   cases hpf:(Pz w).farStore T.P a v (m == .atomic) with
   | error h=>
    left
    intro U D ep
    have hd:=yX hw.F7 hpf
    have hT:∀ U D,∃ h,mQ h∧((Pz w).af U D).farStore T.P a v (m == .atomic)=.error h:=fun U D=>by
     cases hx:((Pz w).af U D).farStore T.P a v (m == .atomic) with
     | error h=>exact ⟨h,yX (w:=(Pz w).af U D) hw.F7 hx,rfl⟩
     | ok r=>
      exfalso
      unfold World.farStore at hx hpf
      rw [show ((Pz w).af U D).heap=(Pz w).heap from rfl] at hx
      split at hx
      ·rename_i at_ u hv
       rw [hv] at hpf
       simp only at hpf
       split at hx
       ·rename_i r' hr
        obtain ⟨o,ts,_,_,_,_,h5⟩:=jq hr
        rw [h5 (Pz w) rfl] at hpf
        cases hpf
       ·cases hx
      ·cases hx
    obtain ⟨h',hd',e⟩:=hT U D
    exact ⟨h',(Pz w).af U D,ep,hd',by rw [hrun,show ((Pz w).af U D).cell? a=none from hp,e]⟩
   | ok r=>
    right
    unfold World.farStore at hpf
    rw [cZ hb] at hpf
    split at hpf
    ·rename_i at_ u hv
     split at hpf
     ·rename_i r' hr
      obtain ⟨o,ts,h1,⟨oc,oe,oz,rfl⟩,⟨c,e,z,h2⟩,h3,h5⟩:=jq hr
      have hat:¬ T.bad at_.block:=fun hbad=>by rw [hw.rT hbad] at h2;cases h2
      have h2w:w.heap[at_.block]?=some (.cells c e z):=(cZ hat).symm.trans h2
      have hlt:=(Array.getElem?_eq_some_iff.1 h2w).1
      let w1:World:={ w with heap:=w.heap.setIfInBounds at_.block (.cells oc oe oz) }
      have hset:∀ (hp:Array Obj) (c:Nat),(hp.setIfInBounds at_.block (Obj.cells oc oe oz))[c]?=if at_.block=c then (hp[c]?).map (fun _=>Obj.cells oc oe oz) else hp[c]?:=fun hp c=>by
       rw [Array.getElem?_setIfInBounds]
       by_cases e:at_.block=c
       ·subst e
        rw [if_pos rfl,if_pos rfl]
        by_cases hl:at_.block<hp.size
        ·rw [if_pos hl,Array.getElem?_eq_getElem hl];rfl
        ·rw [if_neg hl,Array.getElem?_eq_none (by omega)];rfl
       ·rw [if_neg e,if_neg e]
      have hw1:OKW w1:=ky hw at_.block hat (by simp [w1]) (fun c hc=>by rw [show w1.heap[c]?=_ from hset _ _,if_neg (Ne.symm hc)]) (fun _ o ho=>by
       rw [show w1.heap[at_.block]?=_ from hset _ _,if_pos rfl,h2w] at ho
       cases ho
       trivial) fun c e ho=>by
       rw [show w1.heap[at_.block]?=_ from hset _ _,if_pos rfl,h2w] at ho
       cases ho
      have hpz:({ Pz w with heap:=(Pz w).heap.setIfInBounds at_.block (.cells oc oe oz) }:World)=Pz w1:=FM (w:=w) (w':=w1) rfl fun c=>by
       rw [l5 (w:=w) (w':=w1) hat (fun c=>hset _ _)]
       exact hset _ _
      refine ⟨(),w1,ts.toArray.map (⟨.cell ·,true,m == .atomic⟩),ts.toArray.map (⟨.cell ·,true,m == .atomic⟩),trivial,⟨hw1,Nat.le_of_eq (by simp [w1]),fun c hc=>?_,fun e he=>?_⟩,fun U D=>⟨fun es=>?_,fun ep=>?_⟩⟩
      ·rw [show w1.heap[c]?=_ from hset _ _,if_neg (fun e:at_.block=c=>hat (e ▸ hc))]
      ·simp only [Array.mem_map,List.mem_toArray] at he
       obtain ⟨x,hx,rfl⟩:=he
       have:=h3 x hx
       exact wE (by rw [this];exact hat) (by rw [this];simpa [w1] using hlt) _ _
      ·have hf:(w.af U D).farStore T.P a v (m == .atomic)=.ok (w1.af U D,ts):=by
        unfold World.farStore
        rw [show (w.af U D).heap[a.block]?=_ from hv]
        simp only [h5 (w.af U D) (show w.heap[at_.block]?=_ from (cZ hat).symm)]
        rfl
       rw [hrun,show (w.af U D).cell? a=none from hc,hf];rfl
      ·have hf:((Pz w).af U D).farStore T.P a v (m == .atomic)=.ok ((Pz w1).af U D,ts):=by
        unfold World.farStore
        rw [show ((Pz w).af U D).heap[a.block]?=_ from (cZ hb).trans hv]
        simp only [h5 ((Pz w).af U D) rfl]
        rw [← hpz]
        rfl
       rw [hrun,show ((Pz w).af U D).cell? a=none from hp,hf];rfl
     ·cases hpf
    ·cases hpf
end
end Mz
end
