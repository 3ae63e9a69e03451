/- A goroutine of given code, whatever memory holds: its lone walks, in the world in which to touch certain blocks is the end. Conditions: none. -/
import Derived.Test.YthhmolonhpaepaaGreatDoorVJZk
import Derived.Test.YthhmolonhpaepaaGreatDoorVJD
set_option linter.unusedVariables false
set_option linter.unusedSimpArgs false
section
namespace Mz
open Go Go.Conc Ren
open jf (Out ExF over dI)
variable [T:Mc]
def IQ:FuncId→List Frame→Prop
 | _,[]=>True
 | f,c::cs=>(FrW c f∧T.tr c.fn=false)∧IQ c.fn cs
def Kt (fr:Frame) (w:World):Prop:=T.tr fr.fn=true→T.K fr w
def CuOut (fr:Frame) (l:List Frame):GStep→Prop
 | .go g w _=>(∃ fr1,g=G fr1 l∧(T.K fr1 w∨∃ ch,fr1.mode=.panicking ch))∨∃ c cs v,l=c::cs∧g=G (c.finish v) cs∧Ret fr.fn v
 | .comm ..=>False
 | _=>True
class Cu [T:Mc]:Prop where
 enter:∀ f args w,T.tr f=true→args.size=1→T.K (Frame.enter T.P f args .normal) w
 step:∀ fr w t d,T.tr fr.fn=true→FrM fr→OKW w→T.K fr w→∀ l,l≠[]→CuOut fr l (stepG T.P true (G fr l) (w.af t d))
 tape:∀ fr w t d,T.K fr w→T.K fr (w.af t d)
def OutK (f:FuncId):Out→Prop
 | .here fr w _=>Kt fr w
 | .push fr2 _ w _=>Kt fr2 w∧T.tr f=false
 | .pop v _ _=>Ret f v
 | .comm ..=>T.tr f=false
 | _=>True
def On (base:List Frame) (g:Goroutine) (w:World):Prop:=∃ fr cs,g=G fr (cs++base)∧FrM fr∧Kt fr w∧IQ fr.fn cs∧OKW w
def OnP (base:List Frame) (g:Goroutine) (pw:World):Prop:=∃ w,pw=Pz w∧On base g w
def Dead (g:Goroutine) (pw:World):Prop:=(∃ w fr cs,pw=Pz w∧g=G fr (cs++[trap T.P])∧FrB fr∧(∀ c∈cs,FrM c)∧OKW w)∨(∃ ch,g=G ((trap T.P).raise ch) [])∨∃ v,g=G ((trap T.P).finish v) []
section
variable {g:Goroutine} {w:World}
theorem LX (w:World) (t:Nat→Question→Nat) (d:Nat):(Pz w).af t d=Pz (w.af t d):=rfl
theorem ze:∀ {f:FuncId} {cs:List Frame},IQ f cs→∀ c∈cs,FrM c∧c.todo≠[]
 | _,c::cs,h,x,hx=>(List.mem_cons.1 hx).elim (fun e=>e ▸ ⟨h.1.1.fr,h.1.1.todo⟩) (ze h.2 x)
omit T in
theorem uk {s:GStep} (h:over s=true):∃ o w es,s=.ended o w es:=by
 cases s<;>first|exact ⟨_,_,_,rfl⟩|cases h
omit T in
theorem uq {P:Program} (h:over (stepG P true g w)=true):eZ P g w=none:=by
 obtain ⟨o,w1,es,e⟩:=uk h
 exact iV e
theorem lH [C:Cu] {fr:Frame} (h:Kt fr w) (t:Nat→Question→Nat) (d:Nat):Kt fr (w.af t d):=fun x=>C.tape _ _ _ _ (h x)
theorem Ay {fr:Frame} (h:T.tr fr.fn=false):Kt fr w:=fun x=>by rw [h] at x;cases x
def lu:Frame:={ fn:=0,tmps:=#[],todo:=[.extern "" #[]],defers:=[],mode:=.run,kind:=.normal,roundOf:=none }
omit T in
theorem zW {v u:Value} (h:lu.finish v=lu.finish u):v=u:=by
 have:=congrArg Frame.tmps h
 simpa [lu,Frame.finish] using this
theorem outK [C:Cu] {fr:Frame} (hfr:FrM fr) (hw:OKW w) (hk:Kt fr w) {t:Nat→Question→Nat} {d n:Nat} {o:Out} (ho:Lr fr.fn w o) (hs:∀ l,l≠[]→stepG T.P true (G fr l) (w.af t d)=o.at l t (d+n)):OutK fr.fn o:=by
 cases htr:T.tr fr.fn with
 | false=>
  cases o with
  | here fr1 w2 es=>exact Ay (by rw [ho.1.2];exact htr)
  | push fr2 fr1 w2 es=>
   refine ⟨?_,htr⟩
   rcases ho.1.2.2.2 with ⟨g,args,rfl,ha⟩|h
   ·exact fun x=>C.enter _ _ _ x (ha x)
   ·exact Ay h
  | pop v w2 es=>exact ho.1 htr
  | comm fr1 a b s w2 es=>exact htr
  | bad fr1 w2 es=>trivial
  | ended a b c=>trivial
 | true=>
  have h1:=C.step fr w t d htr hfr hw (hk htr) [fr] (by simp)
  rw [hs [fr] (by simp)] at h1
  have hback:∀ {fr1:Frame} {w2:World},Kt fr1 (w2.af t (d+n))→Kt fr1 w2:=fun {fr1 w2} h x=>by
   have:=C.tape _ _ w2.tape w2.drawn (h x)
   exact this
  cases o with
  | here fr1 w2 es=>
   rcases h1 with ⟨fr',e,h|⟨ch,h⟩⟩|⟨c,cs,v,e,e2,_⟩
   ·have:fr1=fr':=congrArg Goroutine.frame e
    subst this
    exact hback fun _=>h
   ·have:fr1=fr':=congrArg Goroutine.frame e
    subst this
    rcases ho.1.1.mode with hm|hm<;>rw [hm] at h<;>cases h
   ·have:=congrArg (fun g:Goroutine=>g.callers.length) e2
    simp only [List.cons.injEq] at e
    obtain ⟨_,rfl⟩:=e
    simp [G] at this
  | push fr2 fr1 w2 es=>
   exfalso
   rcases h1 with ⟨fr',e,_⟩|⟨c,cs,v,e,e2,_⟩
   ·have:=congrArg (fun g:Goroutine=>g.callers.length) e
    simp [G] at this
   ·have:=congrArg (fun g:Goroutine=>g.callers.length) e2
    simp only [List.cons.injEq] at e
    obtain ⟨_,rfl⟩:=e
    simp [G] at this
  | pop v w2 es=>
   have h2:=C.step fr w t d htr hfr hw (hk htr) [lu,fr] (by simp)
   rw [hs [lu,fr] (by simp)] at h2
   rcases h2 with ⟨fr',e,_⟩|⟨c,cs,u,e,e2,h⟩
   ·have:=congrArg (fun g:Goroutine=>g.callers.length) e
    simp [G] at this
   ·simp only [List.cons.injEq] at e
    obtain ⟨rfl,rfl⟩:=e
    have e3:lu.finish v=lu.finish u:=congrArg Goroutine.frame e2
    obtain rfl:=zW e3
    exact h
  | comm fr1 a b s w2 es=>exact h1.elim
  | bad fr1 w2 es=>trivial
  | ended a b c=>trivial
theorem pJ [L:Lw] [C:Cu] {fr:Frame} (hfr:FrM fr) (hw:OKW w) (hk:Kt fr w) (t:Nat→Question→Nat) (d:Nat) :
  (∃ n,∀ U D,Agree t d U D n→∀ l,over (stepG T.P true (G fr l) ((Pz w).af U D))=true) ∨
  ∃ (o:Out) (n:Nat) (up:Array Event),(Lr fr.fn w o∧OutK fr.fn o)∧∀ U D,Agree t d U D n→∀ l,(l≠[]∨o.stays=true)→stepG T.P true (G fr l) (w.af U D)=o.at l U (D+n)∧stepG T.P true (G fr l) ((Pz w).af U D)=(pz up o).at l U (D+n):=by
 rcases xu hfr hw (t:=t) (d:=d) with ⟨n,h⟩|⟨o,n,up,⟨h1,_⟩,h2⟩
 ·exact .inl ⟨n,fun U D hA l=>by have:=h U D hA [] l (.inl rfl);rwa [dI] at this⟩
 ·have h3:∀ U D,Agree t d U D n→∀ l,(l≠[]∨o.stays=true)→stepG T.P true (G fr l) (w.af U D)=o.at l U (D+n)∧stepG T.P true (G fr l) ((Pz w).af U D)=(pz up o).at l U (D+n):=fun U D hA l hl=>by
   have:=h2 U D hA [] l (.inl rfl) hl
   rwa [dI,Out.dI,Out.dI] at this
  exact .inr ⟨o,n,up,⟨h1,outK hfr hw hk h1 fun l hl=>(h3 t d (fun i q _=>rfl) l (.inl hl)).1⟩,h3⟩
theorem xq {fr:Frame} (hfr:FrB fr) (hw:OKW w) (c:Frame) (cs:List Frame):(∃ o w1 es,stepG T.P true (G fr (c::cs)) (Pz w)=.ended o w1 es) ∨
  (∃ fr1 w1 es,stepG T.P true (G fr (c::cs)) (Pz w)=.go (G fr1 (c::cs)) (Pz w1) es∧FrB fr1∧OKW w1)∨∃ ch,stepG T.P true (G fr (c::cs)) (Pz w)=.go (G (c.raise ch) cs) (Pz w):=by
 obtain ⟨f,X,k,ds,m,kd,ro⟩:=fr
 obtain ⟨ch,hm⟩:=hfr.mode
 dsimp only at hm
 subst hm
 cases ds with
 | cons dd ds=>
  obtain ⟨r,rfl,hr⟩:=hfr.defers dd (by simp)
  obtain ⟨n,hh|⟨r',w1,us,up,h1,h2,h3⟩⟩:=mz3 (jF hr) hw w.tape w.drawn
  ·obtain ⟨x,w1,fs,hx,e,e2⟩:=hh w.tape w.drawn (fun i q _=>rfl)
   replace e:Sem.runT T.P (Instr.takeDeferred r) (Pz w) #[]=_:=e
   replace e2:Sem.run T.P (Instr.takeDeferred r) (Pz w)=_:=e2
   left
   simp [G,stepG,unwind,e,e2,GStep.after]
  ·obtain ⟨b1,b2,b3⟩:=(h3 w.tape w.drawn (fun i q _=>rfl)).2
   replace b1:Sem.runT T.P (Instr.takeDeferred r) (Pz w) #[]=_:=b1
   replace b2:Sem.run T.P (Instr.takeDeferred r) (Pz w)=_:=b2
   replace b3:Sem.events T.P (Instr.takeDeferred r) (Pz w) #[]=_:=b3
   cases r' with
   | error v=>left;simp [G,stepG,unwind,b1,b2,rv,GStep.after]
   | ok l=>
    have h1:l=[]:=h1 l rfl
    subst h1
    refine .inr (.inl ⟨{ fn:=f,tmps:=X,todo:=k,defers:=ds,mode:=.panicking ch,kind:=kd,roundOf:=ro },w1.af w.tape (w.drawn+n),seen T.P f up,?_,⟨hfr.fn,fun d hd=>hfr.defers d (by simp at hd ⊢;exact .inr hd),ch,rfl⟩,h2.okw.tape _ _⟩)
    rw [← LX]
    simp [G,stepG,unwind,b1,b2,b3,rv,GStep.after]
 | nil=>
  right;right
  obtain ⟨fn,b,hf,_⟩:=hfr.fn
  dsimp only at hf
  exact ⟨ch,by simp [G,stepG,unwind,Frame.catches,hf]⟩
theorem mO (h:Dead g w):(∃ o w1 es,stepG T.P true g w=.ended o w1 es)∨∃ g1 w1 es,stepG T.P true g w=.go g1 w1 es∧Dead g1 w1:=by
 rcases h with ⟨w,fr,cs,rfl,rfl,hfr,hcs,hw⟩|⟨ch,rfl⟩|⟨v,rfl⟩
 ·cases cs with
  | nil=>
   rcases xq hfr hw (trap T.P) [] with h|⟨fr1,w1,es,h,h1,h2⟩|⟨ch,h⟩
   ·exact .inl h
   ·exact .inr ⟨_,_,_,h,.inl ⟨w1,fr1,[],rfl,rfl,h1,by simp,h2⟩⟩
   ·exact .inr ⟨_,_,_,h,.inr (.inl ⟨ch,rfl⟩)⟩
  | cons c cs=>
   rcases xq hfr hw c (cs++[trap T.P]) with h|⟨fr1,w1,es,h,h1,h2⟩|⟨ch,h⟩
   ·exact .inl h
   ·exact .inr ⟨_,_,_,h,.inl ⟨w1,fr1,c::cs,rfl,rfl,h1,hcs,h2⟩⟩
   ·exact .inr ⟨_,_,_,h,.inl ⟨w,_,cs,rfl,rfl,(hcs c (by simp)).raise ch,fun x hx=>hcs x (by simp [hx]),hw⟩⟩
 ·left
  have hd:=(letI:aW:=⟨0,fun _=>0⟩;door)
  simp [G,stepG,unwind,Frame.raise,trap,Frame.catches,hd]
 ·left
  have hn:Extern.next "fmt's door"=none:=by have:=(letI:aW:=⟨0,fun _=>0⟩;mM);rwa [Option.isNone_iff_eq_none] at this
  simp [G,stepG,stepG.exec,trap,Frame.finish,hn]
theorem lJ (h:Dead g w) {fr:Frame} (e:g=G fr [trap T.P]):∃ ch,fr.mode=.panicking ch:=by
 subst e
 rcases h with ⟨w,fr',cs,_,e,hfr,_⟩|⟨ch,e⟩|⟨v,e⟩
 ·have e1:fr=fr':=congrArg Goroutine.frame e
  subst e1
  exact hfr.mode
 ·cases (congrArg Goroutine.callers e)
 ·cases (congrArg Goroutine.callers e)
variable {Q:Frame→World→Prop}
theorem za (h:Dead g w) (t:Nat→Question→Nat) (d:Nat):Dead g (w.af t d):=by
 rcases h with ⟨w,fr,cs,rfl,e,hfr,hcs,hw⟩|h
 ·exact .inl ⟨w.af t d,fr,cs,rfl,e,hfr,hcs,hw.tape t d⟩
 ·exact .inr h
theorem AX (hQ:∀ fr w,Q fr w→∀ ch,fr.mode≠.panicking ch):∀ (n:Nat) {g:Goroutine} {w:World},Dead g w→¬ oZ T.P [trap T.P] Q n g w:=by
 intro n
 induction n using Nat.strongRecOn with
 | _ n ih=>
  intro g w h hway
  rcases jS hway with ⟨fr,e,hq⟩|⟨m,g1,w1,hm,h3,h4⟩
  ·obtain ⟨ch,hch⟩:=lJ h e;exact hQ _ _ hq ch hch
  ·rcases mO h with ⟨o,w2,es,hs⟩|⟨g2,w2,es,hs,hd⟩
   ·rw [iV hs] at h3;cases h3
   ·rw [aN hs] at h3
    simp only [Option.some.injEq,Prod.mk.injEq] at h3
    obtain ⟨rfl,rfl⟩:=h3
    exact ih m (by omega) hd h4
theorem AY (n:Nat) {g:Goroutine} {w w':World} {fr:Frame} (h:Dead g w) (hq:∀ ch,fr.mode≠.panicking ch):runN T.P n (solo g w)=.next (solo (G fr [trap T.P]) w')→False:=by
 induction n using Nat.strongRecOn generalizing g w with
 | _ n ih=>
  intro hr
  have hst:g.status=.running:=by rcases h with ⟨w,fr,cs,_,rfl,_⟩|⟨ch,rfl⟩|⟨v,rfl⟩<;>rfl
  have hge:o8 T.P g w:=by
   rcases mO h with ⟨o,w2,es,hs⟩|⟨g2,w2,es,hs,hd⟩
   ·exact GZ hs
   ·exact fo hs
  rcases (letI:aW:=⟨0,fun _=>0⟩;gD hst hge hr) with ⟨e,_⟩|⟨m,g1,w1,es,hm,h1,h2⟩
  ·obtain ⟨ch,hch⟩:=lJ h e;exact hq ch hch
  ·rcases mO h with ⟨o,w2,es,hs⟩|⟨g2,w2,es,hs,hd⟩
   ·rw [hs] at h1;cases h1
   ·rw [hs] at h1
    obtain ⟨rfl,rfl,_⟩:=bX h1
    exact ih m (by omega) hd h2
theorem rM (hQ:∀ fr w,Q fr w→∀ ch,fr.mode≠.panicking ch) {g:Goroutine} {w:World} (hr:Rob T.P [trap T.P] Q g w):¬ Dead g w:=by
 induction hr with
 | stop fr w h=>exact fun hd=>by obtain ⟨ch,hch⟩:=lJ hd rfl;exact hQ _ _ (h w.tape w.drawn) ch hch
 | step g w g' w' es h hn ih=>
  intro hd
  rcases mO (za hd w.tape w.drawn) with ⟨o,w2,es,hs⟩|⟨g2,w2,es,hs,hd⟩
  ·rw [h] at hs;cases hs
  ·rw [h] at hs
   obtain ⟨rfl,rfl,_⟩:=bX hs
   exact ih _ _ hd
variable [L:Lw] [C:Cu]
theorem FY {b:Frame} {bs:List Frame} {g1:Goroutine} {w1:World} {es:Array Event} (h:OnP (b::bs) g w) (t:Nat→Question→Nat) (d:Nat) (hs:stepG T.P true g (w.af t d)=.go g1 w1 es) :
  OnP (b::bs) g1 w1∨(∃ w2 fr cs,w1=Pz w2∧g1=G fr (cs++b::bs)∧FrB fr∧(∀ c∈cs,FrM c)∧OKW w2)∨∃ v,g1=G (b.finish v) bs:=by
 obtain ⟨w,rfl,fr,cs,rfl,hfr,hk,hcs,hw⟩:=h
 rcases pJ hfr hw hk t d with ⟨n,h⟩|⟨o,n,up,⟨h1,h1k⟩,h2⟩
 ·have:=h t d (fun i q _=>rfl) (cs++b::bs)
  rw [hs] at this;cases this
 have h3:=(h2 t d (fun i q _=>rfl) (cs++b::bs) (.inl (by simp))).2
 rw [hs] at h3
 cases cs with
 | nil=>
  cases o with
  | here fr1 w2 es2=>
   obtain ⟨rfl,hw1,rfl⟩:=bX h3
   exact .inl ⟨w2.af t (d+n),hw1,fr1,[],rfl,h1.1.1,lH h1k _ _,trivial,h1.2.okw.tape _ _⟩
  | push fr2 fr1 w2 es2=>
   obtain ⟨rfl,hw1,rfl⟩:=bX h3
   exact .inl ⟨w2.af t (d+n),hw1,fr2,[fr1],rfl,h1.1.1,lH h1k.1 _ _,⟨⟨h1.1.2.1,by rw [h1.1.2.2.1];exact h1k.2⟩,trivial⟩,h1.2.okw.tape _ _⟩
  | pop v w2 es2=>
   obtain ⟨rfl,hw1,rfl⟩:=bX h3
   exact .inr (.inr ⟨v,rfl⟩)
  | bad fr1 w2 es2=>
   obtain ⟨rfl,hw1,rfl⟩:=bX h3
   exact .inr (.inl ⟨w2.af t (d+n),fr1,[],hw1,rfl,h1.1.1,by simp,h1.2.okw.tape _ _⟩)
  | comm fr1 a b s w2 es2=>cases h3
  | ended o w2 es2=>exact h1.elim
 | cons c cs=>
  cases o with
  | here fr1 w2 es2=>
   obtain ⟨rfl,hw1,rfl⟩:=bX h3
   exact .inl ⟨w2.af t (d+n),hw1,fr1,c::cs,rfl,h1.1.1,lH h1k _ _,by rw [h1.1.2];exact hcs,h1.2.okw.tape _ _⟩
  | push fr2 fr1 w2 es2=>
   obtain ⟨rfl,hw1,rfl⟩:=bX h3
   exact .inl ⟨w2.af t (d+n),hw1,fr2,fr1::c::cs,rfl,h1.1.1,lH h1k.1 _ _,⟨⟨h1.1.2.1,by rw [h1.1.2.2.1];exact h1k.2⟩,by rw [h1.1.2.2.1];exact hcs⟩,h1.2.okw.tape _ _⟩
  | pop v w2 es2=>
   obtain ⟨rfl,hw1,rfl⟩:=bX h3
   exact .inl ⟨w2.af t (d+n),hw1,c.finish v,cs,rfl,hcs.1.1.back v h1k,Ay (by rw [fK];exact hcs.1.2),by rw [fK];exact hcs.2,h1.2.okw.tape _ _⟩
  | bad fr1 w2 es2=>
   obtain ⟨rfl,hw1,rfl⟩:=bX h3
   exact .inr (.inl ⟨w2.af t (d+n),fr1,c::cs,hw1,rfl,h1.1.1,fun x hx=>(ze hcs x hx).1,h1.2.okw.tape _ _⟩)
  | comm fr1 a b s w2 es2=>cases h3
  | ended o w2 es2=>exact h1.elim
theorem on_sw {b:Frame} {bs:List Frame} (h:OnP (b::bs) g w) (t:Nat→Question→Nat) (d:Nat):SW T.P g w t d:=by
 obtain ⟨w,rfl,fr,cs,rfl,hfr,hk,hcs,hw⟩:=h
 rcases pJ hfr hw hk t d with ⟨n,h⟩|⟨o,n,up,⟨h1,h1k⟩,h2⟩
 ·exact ⟨none,Pz w,n,uq (h t d (fun i q _=>rfl) _),fun U D hA=>uq (h U D hA _)⟩
 have key:∀ (c:Frame) (cs':List Frame),(∀ U D,Agree t d U D n→stepG T.P true (G fr (cs++b::bs)) ((Pz w).af U D)=(pz up o).at (c::cs') U (D+n))→SW T.P (G fr (cs++b::bs)) (Pz w) t d:=by
  intro c cs' h
  have hA:Agree t d t d n:=fun i q _=>rfl
  cases o with
  | here fr1 w2 es2=>exact ⟨some _,Pz w2,n,aN (h t d hA),fun U D hA=>aN (h U D hA)⟩
  | push fr2 fr1 w2 es2=>exact ⟨some _,Pz w2,n,aN (h t d hA),fun U D hA=>aN (h U D hA)⟩
  | pop v w2 es2=>exact ⟨some _,Pz w2,n,aN (h t d hA),fun U D hA=>aN (h U D hA)⟩
  | bad fr1 w2 es2=>exact ⟨some _,Pz w2,n,aN (h t d hA),fun U D hA=>aN (h U D hA)⟩
  | comm fr1 a b s w2 es2=>exact ⟨none,Pz w2,n,by unfold eZ;rw [h t d hA];rfl,fun U D hA=>by unfold eZ;rw [h U D hA];rfl⟩
  | ended o w2 es2=>exact h1.elim
 cases cs with
 | nil=>exact key b bs fun U D hA=>(h2 U D hA (b::bs) (.inl (by simp))).2
 | cons c cs=>exact key c (cs++b::bs) fun U D hA=>(h2 U D hA (c::(cs++b::bs)) (.inl (by simp))).2
theorem JG (sO:T.bR=false) {b:Frame} {bs:List Frame} (h:OnP (b::bs) g w):o8 T.P g w:=by
 obtain ⟨w,rfl,fr,cs,rfl,hfr,hk,hcs,hw⟩:=h
 rcases pJ hfr hw hk w.tape w.drawn with ⟨n,h⟩|⟨o,n,up,⟨h1,h1k⟩,h2⟩
 ·obtain ⟨o,w1,es,e⟩:=uk (h w.tape w.drawn (fun i q _=>rfl) (cs++b::bs))
  exact GZ e
 have key:∀ (c:Frame) (cs':List Frame),stepG T.P true (G fr (cs++b::bs)) (Pz w)=(pz up o).at (c::cs') w.tape (w.drawn+n)→o8 T.P (G fr (cs++b::bs)) (Pz w):=by
  intro c cs' h
  cases o with
  | here fr1 w2 es2=>exact fo h
  | push fr2 fr1 w2 es2=>exact fo h
  | pop v w2 es2=>exact fo h
  | bad fr1 w2 es2=>exact fo h
  | comm fr1 a b s w2 es2=>have:=h1.1.2.2.2.2;rw [sO] at this;cases this
  | ended o w2 es2=>exact h1.elim
 cases cs with
 | nil=>exact key b bs (h2 w.tape w.drawn (fun i q _=>rfl) (b::bs) (.inl (by simp))).2
 | cons c cs=>exact key c (cs++b::bs) (h2 w.tape w.drawn (fun i q _=>rfl) (c::(cs++b::bs)) (.inl (by simp))).2
omit L C in
theorem FZ {g1:Goroutine} {w1:World} (h:OnP [trap T.P] g1 w1∨(∃ w2 fr cs,w1=Pz w2∧g1=G fr (cs++[trap T.P])∧FrB fr∧(∀ c∈cs,FrM c)∧OKW w2)∨∃ v,g1=G ((trap T.P).finish v) []):OnP [trap T.P] g1 w1∨Dead g1 w1:=by
 rcases h with h|h|⟨v,h⟩
 ·exact .inl h
 ·exact .inr (.inl h)
 ·exact .inr (.inr (.inr ⟨v,h⟩))
theorem qf (sO:T.bR=false) (hQ:∀ fr w,Q fr w→∀ ch,fr.mode≠.panicking ch):∀ (n:Nat) {g:Goroutine} {w w':World} {fr:Frame},OnP [trap T.P] g w→Q fr w' →
  runN T.P n (solo g w)=.next (solo (G fr [trap T.P]) w')→oZ T.P [trap T.P] Q n g w:=by
 intro n
 induction n with
 | zero=>
  intro g w w' fr hg hq hr
  simp only [runN,Stepped.next.injEq,solo,Machine.mk.injEq] at hr
  obtain ⟨rfl,h2,_⟩:=hr
  exact ⟨fr,by simpa using h2,hq⟩
 | succ n ih=>
  intro g w w' fr hg hq hr
  have hge:o8 T.P g w:=JG sO hg
  have hrun:g.status=.running:=by obtain ⟨w,_,fr,cs,rfl,_⟩:=hg;rfl
  rcases (letI:aW:=⟨0,fun _=>0⟩;gD hrun hge hr) with ⟨rfl,rfl⟩|⟨m,g1,w1,es,hm,h1,h2⟩
  ·exact .inl ⟨fr,rfl,hq⟩
  ·obtain rfl:m=n:=by omega
   refine .inr ⟨g1,w1,aN h1,?_⟩
   rcases FZ (FY hg w.tape w.drawn h1) with h|h
   ·exact ih h hq h2
   ·exact (AY _ h (hQ _ _ hq) h2).elim
end
end Mz
end
section
namespace jf
open Go Go.Conc Ren
def LocIn (b:Nat):Loc→Prop
 | .cell a=>a.block=b
 | .obj r=>r=b
 | _=>False
section
variable {Shun:Loc→Prop} {w w':World} {es:Array Event} {fr:Frame}
end
end jf
end
section
namespace jf
open Go Go.Conc Ren
def S0:List Item:=[.code (.exit 0)]
theorem ex0:ExF S0:=fun id=>rfl
def KR (b:Frame) (Q:Exit→Act→World→Prop) (fr:Frame) (w:World):Prop:=
 (∃ a',fr=b.at a' S0∧∃ t d,Q .normal a' (w.af t d))∨∃ a' todo,fr={ b.at a' todo with mode:=.returning }∧∃ t d,Q .ret a' (w.af t d)
section
variable {Shun:Loc→Prop} {w:World} {b:Frame} {Q:Exit→Act→World→Prop}
theorem iO (fr:Frame) (w:World) (h:KR b Q fr w) (ch:List PanicEntry):fr.mode≠.panicking ch:=by
 rcases h with ⟨a',rfl,_⟩|⟨a',td,rfl,_⟩<;>(intro e;cases e)
end
end jf
end
section
namespace jf
open Go Go.Conc Ren
def T0 (X:Code):List Item:=.code X::S0
theorem ex1 (X:Code):ExF (T0 X):=fun id=>rfl
section
variable {Shun:Loc→Prop} {w:World} {b:Frame} {Q:Exit→Act→World→Prop}
def spine (ps:List Code) (rest:Code):Code:=ps.foldr .seq rest
theorem lT {P:Program} {fr:Frame} {a c:Code} {S:List Item} {bs:List Frame} {w:World} (hk:fr.todo=[]) (hm:fr.mode=.run) :
  stepG P true (G (fr.app (.code (.seq a c)::S)) bs) w=.go (G (({ fr with todo:=[.code a] }:Frame).app (.code c::S)) bs) w #[]:=by
 obtain ⟨f,X,k,ds,m,kd,ro⟩:=fr
 dsimp only at hk hm
 subst hk hm
 simp [G,stepG,stepG.exec,Frame.app]
end
end jf
end
section
namespace Mz
open Go Go.Conc Ren
open jf (Out ExF over dI dF gP KR S0 T0 ex0 ex1 iO spine lT LocIn)
variable [T:Mc]
def Kept (Shun:Loc→Prop):Prop:=∀ l,Shun l→∃ b,T.shy b∧LocIn b l
section
variable {Shun:Loc→Prop} {w w':World} {es:Array Event} {fr:Frame}
theorem BZ {e:Event} {n:Nat} (h:EM n e) {x:Touch} (hx:(MemAct.ofEvent e).touch?=some x):x.loc=e.loc∧x.loc.low n:=by
 obtain ⟨loc,wr,sy⟩:=e
 rcases h with ⟨a,e1,h1,h2⟩|⟨r,e1,h1,h2⟩|e1|e1|⟨f,e1⟩<;>(dsimp only at e1;subst e1)
 ·cases wr<;>cases sy<;>simp only [MemAct.ofEvent,MemAct.touch?,Option.some.injEq] at hx<;>subst hx<;>exact ⟨rfl,h2⟩
 ·cases wr<;>cases sy<;>simp only [MemAct.ofEvent,MemAct.touch?,Option.some.injEq] at hx<;>first|(subst hx;exact ⟨rfl,h2⟩)|cases hx
 ·cases wr<;>cases sy<;>simp only [MemAct.ofEvent,MemAct.touch?,Option.some.injEq] at hx<;>subst hx<;>exact ⟨rfl,trivial⟩
 ·cases hx
 ·cases hx
theorem Ni (hS:Kept Shun) {e:Event} {n:Nat} (h:EM n e) {x:Touch} (hx:(MemAct.ofEvent e).touch?=some x):¬ Shun x.loc:=by
 intro hs
 obtain ⟨h1,_⟩:=BZ h hx
 obtain ⟨b,hb,hl⟩:=hS _ hs
 rw [h1] at hl
 rcases h with ⟨a,e1,h1,h2⟩|⟨r,e1,h1,h2⟩|e1|e1|⟨f,e1⟩<;>rw [e1] at hl
 ·exact h1 (show T.shy a.block from (show a.block=b from hl) ▸ hb)
 ·exact h1 (show T.shy r from (show r=b from hl) ▸ hb)
 ·exact hl
 ·exact hl
 ·exact hl
theorem GoesM.okA (hS:Kept Shun) (h:GoesM w w' es):OkA Shun w w' es:=
 ⟨h.size,fun e he x hx hs=>(Ni hS (h.evs e he) hx hs).elim,fun e he x hx=>(BZ (h.evs e he) hx).2,fun e he a ha=>by
  obtain ⟨loc,wr,sy⟩:=e
  rcases h.evs _ he with ⟨a,e1,_⟩|⟨a,e1,_⟩|e1|e1|⟨f,e1⟩<;>(dsimp only at e1;subst e1)<;>cases wr<;>cases sy<;>simp [MemAct.ofEvent] at ha⟩
theorem GoesM.deaf (h:GoesM w w' es) (d:Nat):deafBehind d es=d:=by
 refine deafBehind_still (fun e he=>?_) d
 rcases h.evs e he with ⟨a,e1,_⟩|⟨a,e1,_⟩|e1|e1|⟨f,e1⟩<;>rw [e1]<;>exact ⟨fun x=>(by cases x),fun x=>(by cases x)⟩
theorem FrM.app (h:FrM fr) {Z:List Item} (hZ:∀ x∈Z,jN fr.fn x):FrM (fr.app Z):=⟨h.fn,h.tmps,fun x hx=>(List.mem_append.1 hx).elim (h.todo x) (hZ x),h.defers,h.kind,h.mode,h.round⟩
theorem zf:∀ {f:FuncId} {cs:List Frame} {c:Frame},IQ f (cs++[c])→∀ x∈cs,FrM x∧x.todo≠[]
 | f,[],c,_,x,hx=>by cases hx
 | f,y::cs,c,h,x,hx=>(List.mem_cons.1 hx).elim (fun e=>e ▸ ⟨h.1.1.fr,h.1.1.todo⟩) (zf h.2 x)
variable {b:Frame} {Q:Exit→Act→World→Prop}
def KX (b:Frame) (Q:Exit→Act→World→Prop) (Z:List Item) (w0:World) (S:List Item) (cs:List Frame) (d0:Nat) (d:Nat) (g:Goroutine) (w:World):Prop:=
 d=d0∧((∃ fr,g=G (fr.app S) cs∧FrM fr∧fr.fn=b.fn∧fr.todo=[]∧fr.mode=.run∧fr.roundOf=none∧Rob T.P [trap T.P] (KR b Q) (G (fr.app Z) [trap T.P]) (Pz w))∨∃ a' td,g=G { b.at a' td with mode:=.returning } cs∧Q .ret a' (Pz w)∧Keys b.fn a'.tmps∧DfM a'.defers)∧OKW w∧w0.heap.size≤w.heap.size∧∀ b,T.bad b→w.heap[b]?=w0.heap[b]?
theorem pE {gl:List Frame} {Q:Frame→World→Prop} {g:Goroutine} {w:World} (t:Nat→Question→Nat) (d:Nat) (h:Rob T.P gl Q g w):Rob T.P gl Q g (w.af t d):=by
 cases h with
 | stop fr _ h=>exact .stop fr _ fun t d=>h t d
 | step _ _ g' w' es h hn=>exact .step g _ g' w' es (fun t d=>h t d) hn
variable [L:Lw] [C:Cu]
theorem jd (htr:T.tr b.fn=false) {Z:List Item} (hZ:∀ x∈Z,jN b.fn x) (hZe:ExF Z) (hZn:Z≠[]) (hQt:∀ e a w t d,Q e a w→Q e a (w.af t d)) (hS:Kept Shun) (w0:World) (S:List Item) (bs:List Frame) (d0:Nat) {g:Goroutine} {pw:World} (h:Rob T.P [trap T.P] (KR b Q) g pw) :
  ∀ w,pw=Pz w→∀ fr,FrM fr→fr.fn=b.fn→fr.roundOf=none→OKW w→w0.heap.size≤w.heap.size→(∀ b,T.bad b→w.heap[b]?=w0.heap[b]?) →
   (g=G (fr.app Z) [trap T.P]→Alone T.P Shun (KX b Q Z w0 S bs d0) d0 (G (fr.app S) bs) w) ∧
   (∀ top cs,g=G top (cs++fr.app Z::[trap T.P])→FrM top→Kt top w→IQ top.fn (cs++[fr])→Alone T.P Shun (KX b Q Z w0 S bs d0) d0 (G top (cs++fr.app S::bs)) w):=by
 induction h with
 | stop fr0 pw h=>
  intro w e0 fr hfr hfb hro hw h1 h2
  subst e0
  refine ⟨fun e=>?_,fun top cs e=>?_⟩
  ·have e1:fr0=fr.app Z:=congrArg Goroutine.frame e
   subst e1
   rcases h w.tape w.drawn with ⟨a',e2,t,d,hq⟩|⟨a',td,e2,t,d,hq⟩
   ·have ek:fr.todo++Z=S0:=by
     have:=congrArg Frame.todo e2
     simpa [Frame.app,Frame.at] using this
    have hk:fr.todo=[]:=by
     cases hk:fr.todo with
     | nil=>rfl
     | cons x k=>
      exfalso
      rw [hk] at ek
      simp only [S0,List.cons_append,List.cons.injEq,List.append_eq_nil_iff] at ek
      exact hZn ek.2.2
    have hm:fr.mode=.run:=by have:=congrArg Frame.mode e2;simpa [Frame.app,Frame.at] using this
    exact .stop _ _ _ fun n=>⟨rfl,.inl ⟨fr,rfl,hfr,hfb,hk,hm,hro,.stop _ _ fun t d=>h t d⟩,hw.tape w.tape n,h1,h2⟩
   ·have ht:=congrArg Frame.tmps e2
    have hd:=congrArg Frame.defers e2
    simp only [Frame.app,Frame.at] at ht hd
    refine .stop _ _ _ fun n=>⟨rfl,.inr ⟨a',fr.todo++S,?_,hQt _ _ ((Pz w).af t d) w.tape n hq,by rw [← ht,← hfb];exact hfr.tmps,hd ▸ hfr.defers⟩,hw.tape w.tape n,h1,h2⟩
    have e3:=congrArg (fun f=>{ f with todo:=fr.todo++S }) e2
    simp only [Frame.app,Frame.at] at e3 ⊢
    rw [e3]
  ·have:=congrArg (fun g=>g.callers.length) e
   simp [G] at this
 | step g pw g' w' es h hn ih=>
  intro w e0 fr hfr hfb hro hw h1 h2
  subst e0
  have fin:∀ {gr:Goroutine},gr.status=.running→(∀ n,∃ x:Goroutine × World × Array Event,stepG T.P true gr (w.at n)=.go x.1 x.2.1 x.2.2∧GoesM (w.at n) x.2.1 x.2.2∧Alone T.P Shun (KX b Q Z w0 S bs d0) d0 x.1 x.2.1)→Alone T.P Shun (KX b Q Z w0 S bs d0) d0 gr w:=by
   intro gr hst key
   refine .step _ _ _ hst (fun n=>(Classical.choose (key n)).1) (fun n=>(Classical.choose (key n)).2.1) (fun n=>(Classical.choose (key n)).2.2) (fun n=>⟨(Classical.choose_spec (key n)).1,(Classical.choose_spec (key n)).2.1.okA hS⟩) (fun n=>?_)
   rw [(Classical.choose_spec (key n)).2.1.deaf]
   exact (Classical.choose_spec (key n)).2.2
  have hEt:∀ {n k:Nat} {w2:World} {es2:Array Event},GoesM w w2 es2→GoesM (w.at n) (w2.af w.tape (n+k)) es2:=fun h=>⟨h.okw.tape _ _,h.size,h.bad,h.evs⟩
  have hpush:∀ {fr2 fr1:Frame} {w2:World} {es2:Array Event},Lr fr.fn w (.push fr2 fr1 w2 es2)→Kt fr2 w2:=fun {fr2 fr1 w2 es2} h=>by
   rcases h.1.2.2.2 with ⟨g,args,rfl,ha⟩|h
   ·exact fun x=>C.enter _ _ _ x (ha x)
   ·exact Ay h
  refine ⟨fun e=>?_,fun top cs e htop hkt hcs=>?_⟩
  ·subst e
   by_cases hmv:fr.todo≠[]∨fr.mode=.returning
   ·refine fin rfl fun n=>?_
    have a0:=h w.tape n
    rcases xu hfr hw (t:=w.tape) (d:=n) with ⟨k,hd⟩|⟨o,k,up,⟨o1,okp⟩,o2⟩
    ·have:=hd w.tape n (fun i q _=>rfl) Z [trap T.P] (.inr ⟨hZe,hro,hmv⟩)
     rw [a0] at this;cases this
    have a1:=(o2 w.tape n (fun i q _=>rfl) Z [trap T.P] (.inr ⟨hro,hmv⟩) (.inl (by simp))).2
    have a2:=fun hl=>(o2 w.tape n (fun i q _=>rfl) S bs (.inr ⟨hro,hmv⟩) hl).1
    rw [a0] at a1
    have ihn:=ih w.tape n
    have hnn:=hn w.tape n
    generalize g' w.tape n=g1 at a1 ihn hnn
    generalize w' w.tape n=w1 at a1 ihn hnn
    generalize es w.tape n=es1 at a1
    have Br:¬ Dead g1 w1:=rM iO hnn
    cases o with
    | here fr1 w2 es2=>
     have a2:=a2 (.inr rfl)
     obtain ⟨rfl,hw1,rfl⟩:=bX a1
     have GN:fr1.roundOf=none:=Eq.trans okp hro
     exact ⟨(_,_,_),a2,hEt o1.2,(ihn (w2.af w.tape (n+k)) hw1 fr1 o1.1.1 (o1.1.2.trans hfb) GN (o1.2.okw.tape _ _) (Nat.le_trans h1 o1.2.size) fun b hb=>(o1.2.bad b hb).trans (h2 b hb)).1 rfl⟩
    | push fr2 fr1 w2 es2=>
     have a2:=a2 (.inr rfl)
     obtain ⟨rfl,hw1,rfl⟩:=bX a1
     have GN:fr1.roundOf=none:=Eq.trans okp hro
     exact ⟨(_,_,_),a2,hEt o1.2,(ihn (w2.af w.tape (n+k)) hw1 fr1 o1.1.2.1.fr (o1.1.2.2.1.trans hfb) GN (o1.2.okw.tape _ _) (Nat.le_trans h1 o1.2.size) fun b hb=>(o1.2.bad b hb).trans (h2 b hb)).2 fr2 [] rfl o1.1.1 (lH (hpush o1) _ _) ⟨⟨o1.1.2.1,by rw [o1.1.2.2.1,hfb];exact htr⟩,trivial⟩⟩
    | pop v w2 es2=>
     obtain ⟨rfl,hw1,rfl⟩:=bX a1
     exact (Br (.inr (.inr ⟨v,rfl⟩))).elim
    | bad fr1 w2 es2=>
     obtain ⟨rfl,hw1,rfl⟩:=bX a1
     exact (Br (.inl ⟨w2.af w.tape (n+k),fr1.app Z,[],hw1,rfl,⟨o1.1.1.fn,o1.1.1.defers,o1.1.1.mode⟩,by simp,o1.2.okw.tape _ _⟩)).elim
    | comm fr1 a b s w2 es2=>cases a1
    | ended o w2 es2=>exact o1.elim
   ·have hk:fr.todo=[]:=Classical.byContradiction fun x=>hmv (.inl x)
    have hm:fr.mode=.run:=hfr.mode.resolve_right fun x=>hmv (.inr x)
    exact .stop _ _ _ fun n=>⟨rfl,.inl ⟨fr,rfl,hfr,hfb,hk,hm,hro,pE w.tape n (.step _ _ g' w' es h hn)⟩,hw.tape w.tape n,h1,h2⟩
  ·subst e
   refine fin rfl fun n=>?_
   have hS0:FrM (fr.app Z):=hfr.app (by rw [hfb];exact hZ)
   have a0:=h w.tape n
   rcases pJ htop hw hkt w.tape n with ⟨k,hd⟩|⟨o,k,up,⟨o1,o1k⟩,o2⟩
   ·have:=hd w.tape n (fun i q _=>rfl) (cs++fr.app Z::[trap T.P])
    rw [a0] at this;cases this
   have ihn:=ih w.tape n
   have hnn:=hn w.tape n
   have a1:=(o2 w.tape n (fun i q _=>rfl) (cs++fr.app Z::[trap T.P]) (.inl (by simp))).2
   have a2:=(o2 w.tape n (fun i q _=>rfl) (cs++fr.app S::bs) (.inl (by simp))).1
   rw [a0] at a1
   generalize g' w.tape n=g1 at a1 ihn hnn
   generalize w' w.tape n=w1 at a1 ihn hnn
   generalize es w.tape n=es1 at a1
   have Br:¬ Dead g1 w1:=rM iO hnn
   have hbl:∀ {w2:World} {es2:Array Event},GoesM w w2 es2→∀ b,T.bad b→(w2.af w.tape (n+k)).heap[b]?=w0.heap[b]?:=fun h b hb=>(h.bad b hb).trans (h2 b hb)
   cases o with
   | here fr1 w2 es2=>
    obtain ⟨rfl,hw1,rfl⟩:=bX a1
    exact ⟨(_,_,_),a2,hEt o1.2,(ihn (w2.af w.tape (n+k)) hw1 fr hfr hfb hro (o1.2.okw.tape _ _) (Nat.le_trans h1 o1.2.size) (hbl o1.2)).2 fr1 cs rfl o1.1.1 (lH o1k _ _) (by rw [o1.1.2];exact hcs)⟩
   | push fr2 fr1 w2 es2=>
    obtain ⟨rfl,hw1,rfl⟩:=bX a1
    exact ⟨(_,_,_),a2,hEt o1.2,(ihn (w2.af w.tape (n+k)) hw1 fr hfr hfb hro (o1.2.okw.tape _ _) (Nat.le_trans h1 o1.2.size) (hbl o1.2)).2 fr2 (fr1::cs) rfl o1.1.1 (lH o1k.1 _ _) ⟨⟨o1.1.2.1,by rw [o1.1.2.2.1];exact o1k.2⟩,by rw [o1.1.2.2.1];exact hcs⟩⟩
   | pop v w2 es2=>
    cases cs with
    | nil=>
     have a1':GStep.go g1 w1 es1=.go (G ((fr.app Z).finish v) [trap T.P]) ((Pz w2).af w.tape (n+k)) up:=a1
     have a2':stepG T.P true (G top (fr.app S::bs)) (w.at n)=.go (G ((fr.app S).finish v) bs) (w2.af w.tape (n+k)) es2:=a2
     rw [dF hcs.1.1.todo] at a1' a2'
     obtain ⟨rfl,hw1,rfl⟩:=bX a1'
     have GN:(fr.finish v).roundOf=none:=by rw [gP];exact hro
     exact ⟨(_,_,_),a2',hEt o1.2,(ihn (w2.af w.tape (n+k)) hw1 (fr.finish v) (hcs.1.1.back v o1k) (by rw [fK];exact hfb) GN (o1.2.okw.tape _ _) (Nat.le_trans h1 o1.2.size) (hbl o1.2)).1 rfl⟩
    | cons c0 cs=>
     obtain ⟨rfl,hw1,rfl⟩:=bX a1
     exact ⟨(_,_,_),a2,hEt o1.2,(ihn (w2.af w.tape (n+k)) hw1 fr hfr hfb hro (o1.2.okw.tape _ _) (Nat.le_trans h1 o1.2.size) (hbl o1.2)).2 (c0.finish v) cs rfl (hcs.1.1.back v o1k) (Ay (by rw [fK];exact hcs.1.2)) (by rw [fK];exact hcs.2)⟩
   | bad fr1 w2 es2=>
    obtain ⟨rfl,hw1,rfl⟩:=bX a1
    refine (Br (.inl ⟨w2.af w.tape (n+k),fr1,cs++[fr.app Z],hw1,by simp,o1.1.1,fun x hx=>?_,o1.2.okw.tape _ _⟩)).elim
    rcases List.mem_append.1 hx with hx|hx
    ·exact (zf hcs x hx).1
    ·simp at hx;subst hx;exact hS0
   | comm fr1 a b s w2 es2=>cases a1
   | ended o w2 es2=>exact o1.elim
theorem xK (htr:T.tr b.fn=false) (sO:T.bR=false) {a:Act} {c:Code} (hfr:FrM (b.at a (.code c::S0))) (hw:OKW w)
  (hC:∀ U,c.wp T.P Q a ((Pz w).af U 0)) (hQ:∀ e a w,Q e a w→e=.normal∨e=.ret):Rob T.P [trap T.P] (KR b Q) (G (b.at a (.code c::S0)) [trap T.P]) (Pz w):=by
 refine xL (Good:=OnP [trap T.P]) (fun g w t d h=>on_sw h t d) (fun g w t d g1 w1 h hs=>?_) (fun fr w t d h=>h) ⟨w,rfl,_,[],rfl,hfr,Ay htr,trivial,hw⟩ fun U=>?_
 ·obtain ⟨es,hgo⟩:=kJ hs
  exact (FZ (FY h t d hgo)).imp id fun hd n t d=>AX iO n (za hd t d)
 ·obtain ⟨e,a',w',hq,harr⟩:=hC U b S0 [trap T.P]
  have h0:OnP [trap T.P] (G (b.at a ([.code c]++S0)) [trap T.P]) ((Pz w).af U 0):=⟨w.af U 0,rfl,_,[],rfl,hfr,Ay htr,trivial,hw.tape U 0⟩
  rcases hQ e a' w' hq with rfl|rfl
  ·obtain ⟨n,hn⟩:=harr
   exact ⟨n,qf sO iO n h0 (.inl ⟨a',rfl,w'.tape,w'.drawn,hq⟩) hn⟩
  ·obtain ⟨td,n,hn⟩:=harr
   exact ⟨n,qf sO iO n h0 (.inr ⟨a',td,rfl,w'.tape,w'.drawn,hq⟩) hn⟩
omit L C in
theorem LV {fr:Frame} {a c:Code} (hk:fr.todo=[]) (hm:fr.mode=.run) (h:Rob T.P [trap T.P] (KR b Q) (G (fr.app (.code (.seq a c)::S0)) [trap T.P]) w) :
  Rob T.P [trap T.P] (KR b Q) (G (({ fr with todo:=[.code a] }:Frame).app (T0 c)) [trap T.P]) w:=by
 generalize hg:G (fr.app (.code (.seq a c)::S0)) [trap T.P]=g at h
 cases h with
 | stop fr0 _ h=>
  have e1:fr.app (.code (.seq a c)::S0)=fr0:=congrArg Goroutine.frame hg
  subst e1
  rcases h w.tape w.drawn with ⟨a',e2,t,d,hq⟩|⟨a',td,e2,t,d,hq⟩
  ·have:=congrArg (fun f=>f.todo.length) e2
   simp [Frame.app,Frame.at,S0] at this
  ·have:=congrArg Frame.mode e2
   simp [Frame.app,Frame.at,hm] at this
 | step _ _ g' w' es h hn=>
  subst hg
  have h1:=h w.tape w.drawn
  rw [lT hk hm] at h1
  obtain ⟨e1,e2,_⟩:=bX h1
  have h2:=hn w.tape w.drawn
  rw [← e1,← e2] at h2
  exact h2
omit L C in
theorem yV {fr:Frame} (h:FrM fr) {a:Code} (ha:codeOk fr.fn a=true):FrM { fr with todo:=[.code a] }:=
 ⟨h.fn,h.tmps,fun x hx=>(by simp at hx;subst hx;exact ha),h.defers,h.kind,h.mode,h.round⟩
def NL (b:Frame) (Q:Exit→Act→World→Prop) (w0:World) (S:List Item) (cs:List Frame) (d0:Nat) (d:Nat) (g:Goroutine) (w:World):Prop:=
 d=d0∧(∃ a',((g=G (b.at a' S) cs∧Q .normal a' (Pz w))∨∃ td,g=G { b.at a' td with mode:=.returning } cs∧Q .ret a' (Pz w))∧Keys b.fn a'.tmps∧DfM a'.defers)∧OKW w∧w0.heap.size≤w.heap.size∧∀ b,T.bad b→w.heap[b]?=w0.heap[b]?
omit L C in
theorem Bo (hQt:∀ e a w t d,Q e a w→Q e a (w.af t d)) {fr:Frame} (hk:fr.todo=[]) (hm:fr.mode=.run) (hro:fr.roundOf=none) (hr:Rob T.P [trap T.P] (KR b Q) (G (fr.app S0) [trap T.P]) (Pz w)) (S:List Item):∃ a',fr.app S=b.at a' S∧a'.tmps=fr.tmps∧a'.defers=fr.defers∧Q .normal a' (Pz w):=by
 generalize hg:G (fr.app S0) [trap T.P]=g at hr
 cases hr with
 | stop fr0 _ h=>
  have e1:fr.app S0=fr0:=congrArg Goroutine.frame hg
  subst e1
  rcases h w.tape w.drawn with ⟨a',e2,t,d,hq⟩|⟨a',td,e2,t,d,hq⟩
  ·refine ⟨a',?_,(congrArg Frame.tmps e2).symm,(congrArg Frame.defers e2).symm,hQt _ _ _ w.tape w.drawn hq⟩
   have e3:=congrArg (fun f=>{ f with todo:=S }) e2
   simp only [Frame.app,Frame.at,hk,List.nil_append] at e3 ⊢
   exact e3
  ·have:=congrArg Frame.mode e2
   simp [Frame.app,Frame.at,hm] at this
 | step _ _ g' w' es h hn=>
  subst hg
  exfalso
  have a0:=h w.tape w.drawn
  obtain ⟨f,X,k,ds,m,kd,ro⟩:=fr
  dsimp only at hk hm hro
  subst hk hm hro
  simp [G,stepG,stepG.exec,S0,exitTo,Frame.app] at a0
theorem wQ (htr:T.tr b.fn=false) {pk rest:Code} (hpk:codeOk b.fn pk=true) (hQt:∀ e a w t d,Q e a w→Q e a (w.af t d)) (hS:Kept Shun) (w0:World) (S:List Item) (bs:List Frame) (d0:Nat):∀ (ps:List Code),(∀ p∈ps,codeOk b.fn p=true)→codeOk b.fn (spine ps pk)=true→∀ {fr:Frame} {w:World},FrM fr→fr.fn=b.fn→fr.todo=[]→fr.mode=.run→fr.roundOf=none→OKW w→w0.heap.size≤w.heap.size→(∀ b,T.bad b→w.heap[b]?=w0.heap[b]?) →
  Rob T.P [trap T.P] (KR b Q) (G (fr.app (.code (spine ps pk)::S0)) [trap T.P]) (Pz w)→Alone T.P Shun (NL b Q w0 (.code rest::S) bs d0) d0 (G (fr.app (.code (spine ps (.seq pk rest))::S)) bs) w:=by
 intro ps
 induction ps with
 | nil=>
  intro _ _ fr w hfr hfb hk hm hro hw h1 h2 hr
  refine .step _ _ _ rfl (fun _=>G (({ fr with todo:=[.code pk] }:Frame).app (.code rest::S)) bs) (fun n=>w.at n) (fun _=>#[]) (fun n=>⟨lT hk hm,OkA.none _ _⟩) (fun n=>?_)
  have e:({ fr with todo:=[.code pk] }:Frame).app S0=fr.app (.code pk::S0):=by simp [Frame.app,hk]
  refine Alone.bind (((jd htr (Z:=S0) (fun x hx=>by simp [S0] at hx;subst hx;rfl) ex0 (by simp [S0]) hQt hS w0 (.code rest::S) bs d0 hr w rfl { fr with todo:=[.code pk] } (yV hfr (by rw [hfb];exact hpk)) hfb hro hw h1 h2).1 (by rw [e];rfl)).at n) ?_
  rintro d g w1 ⟨rfl,hc,hw1,h3,h4⟩
  refine .stop _ _ _ fun n=>⟨rfl,?_,hw1.tape _ _,h3,h4⟩
  rcases hc with ⟨fr1,rfl,rY,hfb1,hk1,hm1,GN,hr1⟩|⟨a',td,rfl,hq,ha,hd⟩
  ·obtain ⟨a',e1,e2,e3,hq⟩:=Bo hQt hk1 hm1 GN hr1 (.code rest::S)
   exact ⟨a',.inl ⟨by rw [e1],hQt _ _ _ _ _ hq⟩,by rw [e2,← hfb1];exact rY.tmps,by rw [e3];exact rY.defers⟩
  ·exact ⟨a',.inr ⟨td,rfl,hQt _ _ _ _ _ hq⟩,ha,hd⟩
 | cons p ps ih=>
  intro hps hsp fr w hfr hfb hk hm hro hw h1 h2 hr
  have hp:=hps p (by simp)
  have hsp':codeOk b.fn (spine ps pk)=true:=by
   have:(codeOk b.fn p && codeOk b.fn (spine ps pk))=true:=hsp
   simp only [Bool.and_eq_true] at this
   exact this.2
  refine .step _ _ _ rfl (fun _=>G (({ fr with todo:=[.code p] }:Frame).app (.code (spine ps (.seq pk rest))::S)) bs) (fun n=>w.at n) (fun _=>#[]) (fun n=>⟨lT hk hm,OkA.none _ _⟩) (fun n=>?_)
  have hr':=LV hk hm hr
  refine Alone.bind (((jd htr (Z:=T0 (spine ps pk)) (fun x hx=>by
    simp [T0,S0] at hx
    rcases hx with rfl|rfl
    ·exact hsp'
    ·rfl) (ex1 _) (by simp [T0]) hQt hS w0 (.code (spine ps (.seq pk rest))::S) bs d0 hr' w rfl { fr with todo:=[.code p] } (yV hfr (by rw [hfb];exact hp)) hfb hro hw h1 h2).1 rfl).at n) ?_
  rintro d g w1 ⟨rfl,hc,hw1,h3,h4⟩
  rcases hc with ⟨fr1,rfl,rY,hfb1,hk1,hm1,GN,hr1⟩|⟨a',td,rfl,hq,ha,hd⟩
  ·exact ih (fun q hq=>hps q (by simp [hq])) hsp' rY hfb1 hk1 hm1 GN hw1 h3 h4 hr1
  ·exact .stop _ _ _ fun n=>⟨rfl,⟨a',.inr ⟨td,rfl,hQt _ _ _ _ _ hq⟩,ha,hd⟩,hw1.tape _ _,h3,h4⟩
omit L C in
theorem BN (hb:sW b.fn) (hkd:b.kind=.normal) {a:Act} (ha:Keys b.fn a.tmps) (hd:DfM a.defers) (k:List Item) (hk:∀ x∈k,jN b.fn x):FrM (b.at a k):=⟨hb,ha,hk,hd,hkd,.inl rfl,fun l e=>by cases e⟩
theorem jQ (htr:T.tr b.fn=false) (sO:T.bR=false) (hQt:∀ e a w t d,Q e a w→Q e a (w.af t d)) (hQ:∀ e a w,Q e a w→e=.normal∨e=.ret) (hS:Kept Shun) (hb:sW b.fn) (hkd:b.kind=.normal) {a:Act} (ha:Keys b.fn a.tmps) (hd:DfM a.defers) (hw:OKW w)
  {ps:List Code} {pk rest:Code} (hps:∀ p∈ps,codeOk b.fn p=true) (hpk:codeOk b.fn pk=true) (hc:codeOk b.fn (spine ps pk)=true) (hC:∀ U,(spine ps pk).wp T.P Q a ((Pz w).af U 0)) (S:List Item) (bs:List Frame) (d0:Nat) :
  Alone T.P Shun (NL b Q w (.code rest::S) bs d0) d0 (G (b.at a (.code (spine ps (.seq pk rest))::S)) bs) w:=
 wQ htr hpk hQt hS w S bs d0 ps hps hc (fr:=b.at a []) (BN hb hkd ha hd [] (by simp)) rfl rfl rfl rfl hw (Nat.le_refl _) (fun _ _=>rfl) (xK htr sO (BN hb hkd ha hd _ fun x hx=>by
  simp [S0] at hx
  rcases hx with rfl|rfl
  ·exact hc
  ·rfl) hw hC hQ)
theorem Ba (htr:T.tr b.fn=false) (sO:T.bR=false) (hQt:∀ e a w t d,Q e a w→Q e a (w.af t d)) (hQ:∀ e a w,Q e a w→e=.normal∨e=.ret) (hS:Kept Shun) (hb:sW b.fn) (hkd:b.kind=.normal) {a:Act} (ha:Keys b.fn a.tmps) (hd:DfM a.defers) (hw:OKW w)
  {c:Code} (hc:codeOk b.fn c=true) (hC:∀ U,c.wp T.P Q a ((Pz w).af U 0)) (S:List Item) (bs:List Frame) (d0:Nat):Alone T.P Shun (NL b Q w S bs d0) d0 (G (b.at a (.code c::S)) bs) w:=by
 have h1:FrM (b.at a [.code c]):=BN hb hkd ha hd _ fun x hx=>by simp at hx;subst hx;exact hc
 have h2:FrM (b.at a ([.code c]++S0)):=BN hb hkd ha hd _ fun x hx=>by
  simp [S0] at hx
  rcases hx with rfl|rfl
  ·exact hc
  ·rfl
 refine Alone.bind ((jd htr (Z:=S0) (fun x hx=>by simp [S0] at hx;subst hx;rfl) ex0 (by simp [S0]) hQt hS w S bs d0 (xK htr sO h2 hw hC hQ) w rfl (b.at a [.code c]) h1 rfl rfl hw (Nat.le_refl _) (fun _ _=>rfl)).1 rfl) ?_
 rintro d g w1 ⟨rfl,hcc,hw1,h3,h4⟩
 refine .stop _ _ _ fun n=>⟨rfl,?_,hw1.tape _ _,h3,h4⟩
 rcases hcc with ⟨fr1,rfl,rY,hfb1,hk1,hm1,GN,hr1⟩|⟨a',td,rfl,hq,ha,hd⟩
 ·obtain ⟨a',e1,e2,e3,hq⟩:=Bo hQt hk1 hm1 GN hr1 S
  exact ⟨a',.inl ⟨by rw [e1],hQt _ _ _ _ _ hq⟩,by rw [e2,← hfb1];exact rY.tmps,by rw [e3];exact rY.defers⟩
 ·exact ⟨a',.inr ⟨td,rfl,hQt _ _ _ _ _ hq⟩,ha,hd⟩
end
end Mz
end
