/- How a run hangs on the tape: on the answers that it asks for alone. Conditions: none. -/
import Derived.Test.YthhmolonhpaepaaGreatDoorVJg
import Derived.Conc.LoneCalls
import Derived.Conc.Beside
set_option linter.unusedVariables false
set_option linter.unusedSimpArgs false
section
namespace Ren
open Go Go.Conc
variable {P:Program}
def Agree (t:Nat→Question→Nat) (d:Nat) (T:Nat→Question→Nat) (D c:Nat):Prop:=∀ i q,i<c→T (D+i) q=t (d+i) q
def _root_.Go.Result.qa {α:Type}:Result α→World→Result α
 | .ok a _,w=>.ok a w
 | .halt h _,w=>.halt h w
theorem dC (w:World) (t:Nat→Question→Nat) (d:Nat) (a:Addr) (at_:Bool):(w.af t d).farLoad P a at_=w.farLoad P a at_:=rfl
def Win (P:Program) {α:Type} (s:Sem α) (w:World) (t:Nat→Question→Nat) (d:Nat) (es:Array Event):Prop:=
 ∃ (r:Result α) (w1:World) (c:Nat) (fs:Array Event),s.runT P (w.af t d) es=(Result.qa r (w1.af t (d+c)),fs) ∧
  ∀ T D,Agree t d T D c→s.runT P (w.af T D) es=(Result.qa r (w1.af T (D+c)),fs)
section
variable {α:Type} {w:World} {t:Nat→Question→Nat} {d:Nat} {es:Array Event}
theorem ED {o:Obj} {k:Nat→Sem α} (ih:Win P (k w.heap.size) { w with heap:=w.heap.push o } t d es):Win P (.new o k) w t d es:=by
 obtain ⟨r,w1,c,fs,h1,h2⟩:=ih
 exact ⟨r,w1,c,fs,by rw [Sem.runT];exact h1,fun T D hA=>by rw [Sem.runT];exact h2 T D hA⟩
theorem w9 {x:Nat} {k:Option (TypeId × Nat)→Sem α} (ih:Win P (k (w.shape? x)) w t d es):Win P (.shape x k) w t d es:=by
 obtain ⟨r,w1,c,fs,h1,h2⟩:=ih
 exact ⟨r,w1,c,fs,by rw [Sem.runT];exact h1,fun T D hA=>by rw [Sem.runT];exact h2 T D hA⟩
theorem Co {a:Addr} {k:Bool→Sem α} (ih:Win P (k (w.frozen? a)) w t d es):Win P (.frozen a k) w t d es:=by
 obtain ⟨r,w1,c,fs,h1,h2⟩:=ih
 exact ⟨r,w1,c,fs,by rw [Sem.runT];exact h1,fun T D hA=>by rw [Sem.runT];exact h2 T D hA⟩
theorem qb {k:Program→Sem α} (ih:Win P (k P) w t d es):Win P (.program k) w t d es:=by
 obtain ⟨r,w1,c,fs,h1,h2⟩:=ih
 exact ⟨r,w1,c,fs,by rw [Sem.runT];exact h1,fun T D hA=>by rw [Sem.runT];exact h2 T D hA⟩
theorem Bg {m:Mark} {k:Sem α} (ih:Win P k w t d (es.push ⟨.mark m,false,true⟩)):Win P (.mark m k) w t d es:=by
 obtain ⟨r,w1,c,fs,h1,h2⟩:=ih
 exact ⟨r,w1,c,fs,by rw [Sem.runT];exact h1,fun T D hA=>by rw [Sem.runT];exact h2 T D hA⟩
theorem Bh {h:Halt}:Win P (.halt h:Sem α) w t d es:=⟨.halt h w,w,0,es,rfl,fun T D _=>rfl⟩
theorem sZ {q:Question} {k:Nat→Sem α} (ih:∀ n d',Win P (k n) w t d' es):Win P (.choose q k) w t d es:=by
 by_cases hf:q.forced=true
 ·obtain ⟨r,w1,c,fs,h1,h2⟩:=ih 0 d
  exact ⟨r,w1,c,fs,by rw [Sem.runT,if_pos hf];exact h1,fun T D hA=>by rw [Sem.runT,if_pos hf];exact h2 T D hA⟩
 ·obtain ⟨r,w1,c,fs,h1,h2⟩:=ih (q.cut (t d q)) (d+1)
  refine ⟨r,w1,c+1,fs,?_,fun T D hA=>?_⟩
  ·rw [Sem.runT,if_neg hf,show d+(c+1)=d+1+c by omega];exact h1
  ·have e0:T D q=t d q:=by simpa using hA 0 q (by omega)
   have:=h2 T (D+1) fun i q hi=>by
    have:=hA (i+1) q (by omega)
    rw [show D+1+i=D+(i+1) by omega,show d+1+i=d+(i+1) by omega];exact this
   rw [Sem.runT,if_neg hf,show D+(c+1)=D+1+c by omega,← this,← e0]
   rfl
theorem gu {s:Sem α}:∀ {w:World} {d:Nat} {es:Array Event},aD P s→Win P s w t d es:=by
 induction s with
 | new o k ih=>exact fun h=>ED (ih _ (h _))
 | shape x k ih=>exact fun h=>w9 (ih _ (h _))
 | frozen x k ih=>exact fun h=>Co (ih _ (h _))
 | choose q k ih=>exact fun h=>sZ fun n d'=>ih n (h n)
 | program k ih=>exact fun h=>qb (ih P h)
 | mark m k ih=>exact fun h=>Bg (ih h)
 | halt x=>exact fun _=>Bh
 | _=>exact fun h=>h.elim
end
section
variable [aW] {n0:Nat}
theorem RS.win {α β:Type} {A:Map→α→β→Prop} {t:Nat→Question→Nat} {s:Sem α}:∀ {s':Sem β} {ρ:Map} {w wc:World} {d:Nat} {es:Array Event},RS P A ρ s s'→HR ρ n0 (w.af t d) wc→Win P s w t d es:=by
 induction s with
 | pure a=>intro s' ρ w wc d es h hr;exact ⟨.ok a w,w,0,es,rfl,fun T D _=>rfl⟩
 | load m a k ih=>
  rintro s' ρ w wc d es ⟨a',k',rfl,rfl,h2,h⟩ hr
  cases hc:w.cell? a with
  | some v=>
   obtain ⟨v',hv',hvr⟩:=hr.cell h2 (v:=v) hc
   obtain ⟨r,w1,c,fs,h1,h2⟩:=ih v (es:=es.push ⟨.cell a,false,false⟩) (h v v' hvr) hr
   have hc':∀ t d,(w.af t d).cell? a=some v:=fun _ _=>hc
   exact ⟨r,w1,c,fs,by rw [Sem.runT,hc'];exact h1,fun T D hA=>by rw [Sem.runT,hc'];exact h2 T D hA⟩
  | none=>
   have hc':∀ t d,(w.af t d).cell? a=none:=fun _ _=>hc
   obtain ⟨e,he⟩:=hr.Lf (P:=P) h2 (Mode.plain == Mode.atomic)
   rw [dC] at he
   exact ⟨.halt e w,w,0,es,by rw [Sem.runT,hc',dC,he];rfl,fun T D _=>by rw [Sem.runT,hc',dC,he];rfl⟩
 | store m a v k ih=>
  rintro s' ρ w wc d es ⟨a',v',k',rfl,rfl,h2,h3,h⟩ hr
  by_cases hv:(∃ c,v=.agg c)∨∃ c,v=.tuple c
  ·exact ⟨.halt (.stuck "store: not the value of one cell") w,w,0,es,by rw [cO hv];rfl,fun T D _=>by rw [cO hv];rfl⟩
  ·have hs:∀ (w:World),(Sem.store .plain a v k).runT P w es=_:=fun w=>eU (fun c e=>hv (.inl ⟨c,e⟩)) (fun c e=>hv (.inr ⟨c,e⟩))
   cases hc:w.cell? a with
   | some u=>
    have hc':∀ t d,(w.af t d).cell? a=some u:=fun _ _=>hc
    cases hf:w.frozen? a with
    | true=>
     have hf':∀ t d,(w.af t d).frozen? a=true:=fun _ _=>hf
     exact ⟨.halt (.unsupported (.unsafePointer "a write to bytes that a string shares")) w,w,0,es,by rw [hs,hc'];simp only [hf',↓reduceIte];rfl,fun T D _=>by rw [hs,hc'];simp only [hf',↓reduceIte];rfl⟩
    | false=>
     have hf':∀ t d,(w.af t d).frozen? a=false:=fun _ _=>hf
     obtain ⟨r,w1,c,fs,h1,h2⟩:=ih (w:=w.setCell a v) (d:=d) (es:=es.push ⟨.cell a,true,false⟩) h (hr.set h2 (hr.own h2 hc hf) h3)
     exact ⟨r,w1,c,fs,by rw [hs,hc'];simp only [hf',Bool.false_eq_true,↓reduceIte];exact h1,fun T D hA=>by rw [hs,hc'];simp only [hf',Bool.false_eq_true,↓reduceIte];exact h2 T D hA⟩
   | none=>
    have hc':∀ t d,(w.af t d).cell? a=none:=fun _ _=>hc
    obtain ⟨xs,e,z,ys,z',k1,_⟩:=hr.cells _ _ h2.1
    have he:∀ T D,(w.af T D).farStore P a v (Mode.plain == Mode.atomic)=.error (w.noCell a "store: no such cell"):=fun T D=>by
     have:(w.af T D).heap[a.block]?=some (.cells xs e z):=k1
     simp only [World.farStore,this];rfl
    exact ⟨.halt (w.noCell a "store: no such cell") w,w,0,es,by rw [hs,hc',he];rfl,fun T D _=>by rw [hs,hc',he];rfl⟩
 | new o k ih=>
  rintro s' ρ w wc d es (hd|⟨c,e,c',k',rfl,rfl,h2,h⟩) hr
  ·exact gu hd
  ·exact ED (ih _ (h _ _ _ (fun _ _ x=>.inl x) (.inr ⟨rfl,rfl⟩) (Nat.le_trans hr.AL hr.low) (hr.shz _ hr.low)) (hr.new e h2))
 | shape x k ih=>
  rintro s' ρ w wc d es (hd|⟨r',k',rfl,h2,h⟩) hr
  ·exact gu hd
  ·exact w9 (ih _ (h _ _ (hr.iF h2).1 (hr.iF h2).2) hr)
 | frozen a k ih=>intro s' ρ w wc d es h hr;exact gu (s:=.frozen a k) h
 | choose q k ih=>
  rintro s' ρ w wc d es (hd|⟨k',rfl,h⟩) hr
  ·exact gu hd
  ·exact sZ fun n d'=>ih n (wc:={ wc with drawn:=d' }) (h n) ⟨hr.inj,hr.fn,hr.cells,hr.tape,rfl,hr.low,hr.AL,hr.shz⟩
 | program k ih=>
  rintro s' ρ w wc d es (hd|⟨k',rfl,h⟩) hr
  ·exact gu (s:=.program k) hd
  ·exact qb (ih P h hr)
 | mark m k ih=>
  rintro s' ρ w wc d es (hd|⟨k',rfl,rfl,h⟩) hr
  ·exact gu hd
  ·exact Bg (ih h hr)
 | halt h=>intro s' ρ w wc d es _ _;exact Bh
 | _=>intro s' ρ w wc d es h;exact h.elim
end
end Ren
end
section
namespace Ren
open Go Go.Conc
variable {P:Program}
def eZ (P:Program) (g:Goroutine) (w:World):Option (Goroutine × World):=
 match stepG P true g w with
 | .go g' w' _=>some (g',w')
 | _=>none
theorem aN {g g':Goroutine} {w w':World} {es:Array Event} (h:stepG P true g w=.go g' w' es):eZ P g w=some (g',w'):=by unfold eZ;rw [h]
theorem iV {g:Goroutine} {w w':World} {o:Outcome} {es:Array Event} (h:stepG P true g w=.ended o w' es):eZ P g w=none:=by unfold eZ;rw [h]
theorem kJ {g g':Goroutine} {w w':World} (h:eZ P g w=some (g',w')):∃ es,stepG P true g w=.go g' w' es:=by
 unfold eZ at h
 cases hs:stepG P true g w with
 | go g1 w1 es=>
  rw [hs] at h
  simp only [Option.some.injEq,Prod.mk.injEq] at h
  obtain ⟨rfl,rfl⟩:=h
  exact ⟨es,rfl⟩
 | _=>rw [hs] at h;simp at h
def SW (P:Program) (g:Goroutine) (w:World) (t:Nat→Question→Nat) (d:Nat):Prop:=
 ∃ (x:Option Goroutine) (w1:World) (c:Nat),eZ P g (w.af t d)=x.map (fun g=>(g,w1.af t (d+c))) ∧
  ∀ T D,Agree t d T D c→eZ P g (w.af T D)=x.map (fun g=>(g,w1.af T (D+c)))
theorem lg {g g1:Goroutine} {w:World} {t:Nat→Question→Nat} {d:Nat} (h:∀ w,∃ es,stepG P true g w=.go g1 w es):SW P g w t d:=
 ⟨some g1,w,0,by obtain ⟨es,e⟩:=h (w.af t d);exact aN e,fun T D _=>by obtain ⟨es,e⟩:=h (w.af T D);exact aN e⟩
theorem EL {g:Goroutine} {w:World} {t:Nat→Question→Nat} {d:Nat} (h:∀ w,eZ P g w=none):SW P g w t d:=⟨none,w,0,h _,fun T D _=>h _⟩
section
variable [aW] {F:Nat→Option (List Nat)} {ρ:Map} {n0:Nat} {gl gc cs cs':List Frame} {w wc:World} {t:Nat→Question→Nat} {d:Nat}
theorem KY (hF:jo P F) {f:FuncId} {J:List Nat} {T T':Array Value} {k:List Item} (hJ:F f=some J) (hT:RR ρ T T') (hr:HR ρ n0 (w.af t d) wc) {c:Frame} :
  SW P (G { (Go.Conc.base f).at ⟨T,[]⟩ k with mode:=.returning } (c::cs)) w t d:=by
 obtain ⟨fn,cd,hf1,hf2,hf3⟩:=hF f J hJ
 obtain ⟨r,w1,n,fs,h1,h2⟩:=(jX (P:=P) fn hT).win (es:=#[]) hr
 cases r with
 | ok v u=>
  exact ⟨some (G (c.finish v) cs),w1,n,aN (bL hf1 h1),fun T D hA=>aN (bL hf1 (h2 T D hA))⟩
 | halt x u=>
  refine ⟨none,w1,n,?_,fun T D hA=>?_⟩
  ·obtain ⟨o,w2,e1,he⟩:=bQ (P:=P) (main:=true) (k:=k) (c:=c::cs) hf1 h1
   exact iV he
  ·obtain ⟨o,w2,e1,he⟩:=bQ (P:=P) (main:=true) (k:=k) (c:=c::cs) hf1 (h2 T D hA)
   exact iV he
theorem sw_run (hG:P.globals.size≤aW.g) {f:FuncId} {J:List Nat} {T T':Array Value} {k:List Item} (hk:∀ x∈k,jM P F J x=true) (hi:∀ t∈J,Be (T.getD t undef)) (hT:RR ρ T T')
  (hr:HR ρ n0 (w.af t d) wc):SW P (G ((Go.Conc.base f).at ⟨T,[]⟩ k) cs) w t d:=by
 cases k with
 | nil=>exact lg fun w=>⟨_,stepG_end⟩
 | cons x k=>
  have hx:=hk x (by simp)
  cases x with
  | code c=>
   cases c with
   | skip=>exact lg fun w=>⟨_,stepG_skip⟩
   | label l=>exact lg fun w=>⟨_,stepG_label⟩
   | ret=>exact lg fun w=>⟨_,stepG_ret'⟩
   | seq a b=>exact lg fun w=>⟨_,stepG_seq⟩
   | cond c a b=>
    by_cases hb:∃ t,Act.eval ⟨T,[]⟩ c=.bool t
    ·obtain ⟨t,ht⟩:=hb
     exact lg fun w=>⟨_,stepG_cond ht⟩
    ·refine EL fun w=>?_
     have he:((Go.Conc.base f).at ⟨T,[]⟩ (.code (.cond c a b)::k)).eval c=Act.eval ⟨T,[]⟩ c:=Frame.eval_at _ _ _ _
     simp only [Frame.at] at he
     cases hv:Act.eval ⟨T,[]⟩ c with
     | bool t=>exact absurd ⟨t,hv⟩ hb
     | _=>rw [hv] at he;simp [eZ,G,stepG,stepG.exec,Frame.at,he]
   | block id b=>exact lg fun w=>⟨_,stepG_block⟩
   | loop b=>exact lg fun w=>⟨_,stepG_loop⟩
   | exit id=>
    cases he:exitTo id k with
    | none=>exact EL fun w=>by simp [eZ,G,stepG,stepG.exec,Frame.at,he]
    | some k1=>exact lg fun w=>⟨_,stepG_exit he⟩
   | region id ops dr=>
    cases dr with
    | false=>exact lg fun w=>⟨_,stepG_region⟩
    | true=>
     refine ⟨some (G ((Go.Conc.base f).at ⟨T,[]⟩ (.inRegion ops (Region.schedule (P.follows .mixedOrders) ops (t d (.order f id)))::k)) cs),w,1,aN stepG_region_draw,fun T D hA=>?_⟩
     have:T D (.order f id)=t d (.order f id):=by simpa using hA 0 (.order f id) (by omega)
     rw [← this]
     exact aN stepG_region_draw
   | goto l=>cases hx
   | scope b=>cases hx
   | rangeFunc a b c d=>cases hx
   | refuse why=>cases hx
  | inBlock id=>exact lg fun w=>⟨_,stepG_inBlock⟩
  | inLoop b=>exact lg fun w=>⟨_,stepG_inLoop⟩
  | inRegion ops todo=>
   cases todo with
   | nil=>exact lg fun w=>⟨_,stepG_region_end⟩
   | cons i rest=>
    cases ho:ops[i]? with
    | none=>
     refine lg (g1:=G ((Go.Conc.base f).at ⟨T,[]⟩ (.inRegion ops rest::k)) cs) fun w=>⟨#[],?_⟩
     simp [G,stepG,stepG.exec,Frame.at,ho,Frame.finish]
    | some o=>
     have hop:=Array.all_eq_true'.1 hx o (Array.mem_of_getElem? ho)
     simp only [Bool.and_eq_true] at hop
     cases hw:Region.wanted o (yielded ops T) with
     | false=>exact lg fun w=>⟨_,stepG_unwanted ho hw⟩
     | true=>
      have hev:=evR hT hi
      have hrs:=qy (P:=P) (F:=F) hG hev o hop.1
      have hkd:(Go.Conc.base f).kind≠.early:=by simp [Go.Conc.base]
      have hk1:((Go.Conc.base f).kind == CallKind.early)=false:=by simp [Go.Conc.base]
      obtain ⟨r,w1,n,fs,h1,h2⟩:=hrs.win (es:=#[]) hr
      have lW:∀ {w':World} {r':Result Next},(execOp (Act.eval ⟨T,[]⟩) o).runT P w' #[]=(r',fs)→(execOp (Act.eval ⟨T,[]⟩) o).run P w'=r':=fun h=>by rw [← Sem.runT_fst P _ _ #[],h]
      cases r with
      | ok x u=>
       obtain ⟨σ,y,wc2,gs,k1,k2,k3,k4⟩:=hrs.run (es':=#[]) hr h1
       cases k2 with
       | value u v huv=>exact ⟨some _,w1,n,aN (stepG_value ho hw hkd (lW h1)),fun T D hA=>aN (stepG_value ho hw hkd (lW (h2 T D hA)))⟩
       | skip=>exact ⟨some _,w1,n,aN (stepG_none ho hw hkd (lW h1)),fun T D hA=>aN (stepG_none ho hw hkd (lW (h2 T D hA)))⟩
       | enter g xs ys K hK hxK hxy=>exact ⟨some _,w1,n,aN (stepG_enter ho hw hkd (lW h1)),fun T D hA=>aN (stepG_enter ho hw hkd (lW (h2 T D hA)))⟩
      | halt x u=>
       have yQ:=hrs.MU hr h1
       have key:∀ w',(execOp (Act.eval ⟨T,[]⟩) o).runT P w' #[]=(.halt x w',fs)→True:=fun _ _=>trivial
       cases x with
       | panic v=>
        have e:∀ (t:Nat→Question→Nat) (d:Nat),(execOp (Act.eval ⟨T,[]⟩) o).runT P (w.af t d) #[]=(Result.qa (.halt (.panic v) u) (w1.af t (d+n)),fs)→eZ P (G ((Go.Conc.base f).at ⟨T,[]⟩ (.inRegion ops (i::rest)::k)) cs) (w.af t d)=some (G (((Go.Conc.base f).at ⟨T,[]⟩ (.inRegion ops (i::rest)::k)).raise [{ v,recovered:=false }]) cs,w1.af t (d+n)):=by
         intro t d h
         have h':=lW h
         unfold eZ
         rw [stepG_oper ho hw]
         simp [stepG.apply,h,h',Result.qa,GStep.after,Frame.at,hk1,G]
        exact ⟨some _,w1,n,e t d h1,fun T D hA=>e T D (h2 T D hA)⟩
       | stuck s=>
        have e:∀ (t:Nat→Question→Nat) (d:Nat),(execOp (Act.eval ⟨T,[]⟩) o).runT P (w.af t d) #[]=(Result.qa (.halt (.stuck s) u) (w1.af t (d+n)),fs)→eZ P (G ((Go.Conc.base f).at ⟨T,[]⟩ (.inRegion ops (i::rest)::k)) cs) (w.af t d)=none:=by
         intro t d h
         have h':=lW h
         unfold eZ
         rw [stepG_oper ho hw]
         simp [stepG.apply,h,h',Result.qa,GStep.after,Frame.at,hk1]
        exact ⟨none,w1,n,e t d h1,fun T D hA=>e T D (h2 T D hA)⟩
       | unsupported y=>
        have e:∀ (t:Nat→Question→Nat) (d:Nat),(execOp (Act.eval ⟨T,[]⟩) o).runT P (w.af t d) #[]=(Result.qa (.halt (.unsupported y) u) (w1.af t (d+n)),fs)→eZ P (G ((Go.Conc.base f).at ⟨T,[]⟩ (.inRegion ops (i::rest)::k)) cs) (w.af t d)=none:=by
         intro t d h
         have h':=lW h
         unfold eZ
         rw [stepG_oper ho hw]
         cases y<;>first|exact yQ.elim|simp [stepG.apply,h,h',Result.qa,GStep.after,Frame.at,hk1]
        exact ⟨none,w1,n,e t d h1,fun T D hA=>e T D (h2 T D hA)⟩
       | _=>exact yQ.elim
  | inScope b=>cases hx
  | inRangeFunc l=>cases hx
  | endRangeFunc l=>cases hx
  | beginRound=>cases hx
  | call d w r s=>cases hx
  | extern r a=>cases hx
end
end Ren
end
section
namespace Ren
open Go Go.Conc
variable {P:Program}
def oZ (P:Program) (gl:List Frame) (Q:Frame→World→Prop):Nat→Goroutine→World→Prop
 | 0,g,w=>∃ fr,g=G fr gl∧Q fr w
 | n+1,g,w=>(∃ fr,g=G fr gl∧Q fr w)∨∃ g' w',eZ P g w=some (g',w')∧oZ P gl Q n g' w'
section glue
variable {S:Type} (t:S→Nat→Question→Nat) (d c:S→Nat) (seq:Nat→S)
def pos:Nat→Nat
 | 0=>0
 | i+1=>pos i+c (seq i)
theorem Bp {i j:Nat} (h:i≤j):pos c seq i≤pos c seq j:=by
 induction h with
 | refl=>exact Nat.le_refl _
 | step _ ih=>exact Nat.le_trans ih (Nat.le_add_right _ _)
open Classical in
noncomputable def glued:Nat→Question→Nat:=fun x q=>
 if h:∃ i,pos c seq i≤x∧x<pos c seq (i+1) then t (seq (choose h)) (d (seq (choose h))+(x - pos c seq (choose h))) q else 0
theorem rD (i:Nat):Agree (t (seq i)) (d (seq i)) (glued t d c seq) (pos c seq i) (c (seq i)):=by
 intro k q hk
 have hx:∃ i',pos c seq i'≤pos c seq i+k∧pos c seq i+k<pos c seq (i' + 1):=⟨i,Nat.le_add_right _ _,by show _<pos c seq i+c (seq i);omega⟩
 unfold glued
 rw [dif_pos hx]
 have hs:=Classical.choose_spec hx
 generalize Classical.choose hx=j at hs
 have:j=i:=by
  rcases Nat.lt_trichotomy j i with h|h|h
  ·have:=Bp c seq (show j+1≤i from h);omega
  ·exact h
  ·have h1:=Bp c seq (show i+1≤j from h)
   have:pos c seq (i+1)=pos c seq i+c (seq i):=rfl
   omega
 subst this
 rw [Nat.add_sub_cancel_left]
end glue
section
variable [aW] {F:Nat→Option (List Nat)} {gc:List Frame} {Q:Frame→World→Prop} {n0:Nat}
def Gd (P:Program) (F:Nat→Option (List Nat)) (gc:List Frame) (n0:Nat) (g:Goroutine) (w:World):Prop:=
 ∃ (ρ:Map) (fr fr':Frame) (cs cs':List Frame) (wc:World),g=G fr cs∧FR P F ρ fr fr'∧CR P F ρ [trap P] gc cs cs'∧HR ρ n0 (w.af wc.tape wc.drawn) wc
theorem Gd.hr {ρ:Map} {w wc:World} (h:HR ρ n0 (w.af wc.tape wc.drawn) wc) (t:Nat→Question→Nat) (d:Nat):HR ρ n0 (w.af t d) (wc.af t d):=⟨h.inj,h.fn,h.cells,rfl,rfl,h.low,h.AL,h.shz⟩
theorem Gd.sw (hG:P.globals.size≤aW.g) (hF:jo P F) {g:Goroutine} {w:World} (h:Gd P F gc n0 g w) (t:Nat→Question→Nat) (d:Nat):SW P g w t d:=by
 obtain ⟨ρ,fr,fr',cs,cs',wc,rfl,hfr,hcs,hh⟩:=h
 have hh:=Gd.hr hh t d
 cases hfr with
 | run f J T T' k hJ hk hi hT=>exact sw_run hG hk hi hT hh
 | ret f J T T' k hJ hT=>
  cases hcs with
  | ground=>exact KY hF hJ hT hh
  | call=>exact KY hF hJ hT hh
omit [aW] in
theorem fD {gl:List Frame} {n:Nat} {g:Goroutine} {w:World} (h:oZ P gl Q n g w):(∃ fr,g=G fr gl∧Q fr w)∨∃ m g' w',m+1=n∧eZ P g w=some (g',w')∧oZ P gl Q m g' w':=by
 cases n with
 | zero=>exact .inl h
 | succ n=>rcases h with h|⟨g',w',h1,h2⟩;exact .inl h;exact .inr ⟨n,g',w',rfl,h1,h2⟩
theorem A8 (hQ:∀ fr w,Q fr w→fr.mode=.returning) (hF:jo P F) {ρ:Map} {cs cs':List Frame} (hcs:CR P F ρ [trap P] gc cs cs'):∀ {g:Goroutine} {w:World} {n:Nat},Bad P g cs→¬ oZ P [trap P] Q n g w:=by
 have stopped:∀ {g:Goroutine} {w:World} {cs:List Frame},Bad P g cs→¬ ∃ fr,g=G fr [trap P]∧Q fr w:=by
  rintro g w cs hb ⟨fr,rfl,h⟩
  obtain ⟨_,_,_,_,_,⟨ch,h5⟩,_⟩:=hb
  have:=hQ _ _ h
  simp only [G] at h5
  rw [this] at h5;cases h5
 induction hcs with
 | ground=>
  intro g w n hb hr
  rcases fD hr with h|⟨m,g1,w1,_,h1,h2⟩
  ·exact stopped hb h
  ·obtain ⟨g2,hs,hfr,hc,hst,hd⟩:=eQ (main:=true) (w:=w) hb
   rw [aN hs] at h1
   simp only [Option.some.injEq,Prod.mk.injEq] at h1
   obtain ⟨rfl,rfl⟩:=h1
   obtain ⟨_,_,_,_,_,⟨ch,h5⟩,_⟩:=hb
   rw [h5] at hfr
   rcases fD h2 with ⟨fr,rfl,_⟩|⟨m,g3,w3,_,h3,_⟩
   ·simp [G] at hc
   ·obtain ⟨es,h4⟩:=kJ h3
    cases g2 with
    | mk fr callers status dying offers=>
     dsimp only at hfr hc hst hd
     subst hfr hc hst hd
     simp [stepG,unwind,Frame.raise,trap,Frame.catches,door] at h4
 | call f J T T' k cs cs' hJ hk hi hT ops i rest o ho hok hd hc ih=>
  intro g w n hb hr
  rcases fD hr with h|⟨m,g1,w1,_,h1,h2⟩
  ·exact stopped hb h
  ·obtain ⟨g2,hs,hfr,hcl,hst,hdy⟩:=eQ (main:=true) (w:=w) hb
   rw [aN hs] at h1
   simp only [Option.some.injEq,Prod.mk.injEq] at h1
   obtain ⟨rfl,rfl⟩:=h1
   obtain ⟨_,_,_,_,_,⟨ch,h5⟩,_⟩:=hb
   rw [h5] at hfr
   obtain ⟨fn,c,hf1,_⟩:=hF f J hJ
   refine ih ⟨⟨fn,?_⟩,hst,hdy,hcl,?_,⟨ch,?_⟩,?_,?_⟩ h2
   all_goals rw [hfr]
   ·exact hf1
   all_goals rfl
omit [aW] in
theorem xh {v:Value} {w:World} {n:Nat}:¬ oZ P [trap P] Q n (G ((trap P).finish v) []) w:=by
 intro hr
 rcases fD hr with ⟨fr,h,_⟩|⟨m,g1,w1,_,h1,_⟩
 ·simp [G] at h
 ·obtain ⟨es,h4⟩:=kJ h1
  have hn:Extern.next "fmt's door"=none:=by have:=mM;rwa [Option.isNone_iff_eq_none] at this
  simp [G,stepG,stepG.exec,trap,Frame.finish,hn] at h4
theorem Gd.next (hG:P.globals.size≤aW.g) (hF:jo P F) (hQ:∀ fr w,Q fr w→fr.mode=.returning) {g g1:Goroutine} {w w1:World} {t:Nat→Question→Nat} {d:Nat} (h:Gd P F gc n0 g w) (hs:eZ P g (w.af t d)=some (g1,w1)) :
  Gd P F gc n0 g1 w1∨∀ n w2,¬ oZ P [trap P] Q n g1 w2:=by
 obtain ⟨ρ,fr,fr',cs,cs',wc,rfl,hfr,hcs,hh⟩:=h
 have hh:=Gd.hr hh t d
 obtain ⟨es,hgo⟩:=kJ hs
 rcases uW (main:=true) hG hF hfr hcs hh hgo with ⟨σ,fr1,I1,cs1,cs1',wc1,fs,e1,e2,e3,e4,e5,e6⟩|hb|⟨f,J,T,T',k,hJ,e1,e2,e3,e4,e5⟩
 ·exact .inl ⟨σ,fr1,I1,cs1,cs1',wc1,e1,e3,e4,⟨e5.inj,e5.fn,e5.cells,rfl,rfl,e5.low,e5.AL,e5.shz⟩⟩
 ·exact .inr fun n w2=>A8 hQ hF hcs hb
 ·subst e1 e4
  obtain ⟨fn,c,hf1,_⟩:=hF f J hJ
  right
  rcases hrun:(results fn T).runT P (w.af t d) #[] with ⟨r,fs⟩
  cases r with
  | halt x w1=>
   obtain ⟨o1,w2,e1,he⟩:=bQ (P:=P) (main:=true) (k:=k) (c:=[trap P]) hf1 hrun
   rw [he] at hgo;cases hgo
  | ok v wl2=>
   rw [bL hf1 hrun] at hgo
   obtain ⟨rfl,rfl,rfl⟩:=bY hgo
   exact fun n w2=>xh
omit [aW] in
theorem pE {gl:List Frame} {g:Goroutine} {w:World} (t:Nat→Question→Nat) (d:Nat) (h:Rob P gl Q g w):Rob P gl Q g (w.af t d):=by
 cases h with
 | stop fr _ h=>exact .stop fr _ h
 | step _ _ g' w' es h hn=>exact .step g _ g' w' es h hn
theorem zi (hG:P.globals.size≤aW.g) (hF:jo P F) (hQ:∀ fr w,Q fr w→fr.mode=.returning) (hbl:∀ fr w t d,Q fr w→Q fr (w.af t d))
  (s:{ x:Goroutine × World // Gd P F gc n0 x.1 x.2∧¬ Rob P [trap P] Q x.1 x.2 }) :
  ∃ (y:(Nat→Question→Nat) × Nat × Nat × Option { x:Goroutine × World // Gd P F gc n0 x.1 x.2∧¬ Rob P [trap P] Q x.1 x.2 }),∀ T D,Agree y.1 y.2.1 T D y.2.2.1→∀ n,oZ P [trap P] Q n s.1.1 (s.1.2.af T D) →
   ∃ s',y.2.2.2=some s'∧∃ m,m<n∧oZ P [trap P] Q m s'.1.1 (s'.1.2.af T (D+y.2.2.1)):=by
 obtain ⟨⟨g,w⟩,hgd,hnr⟩:=s
 dsimp only at hgd hnr ⊢
 have hstop:∀ T D,¬ ∃ fr,g=G fr [trap P]∧Q fr (w.af T D):=by
  rintro T D ⟨fr,rfl,h⟩
  exact hnr (.stop fr w fun t d=>hbl fr (w.af T D) t d h)
 have hex:∃ t d,¬ ∃ x:Goroutine × World × Array Event,stepG P true g (w.af t d)=.go x.1 x.2.1 x.2.2∧Rob P [trap P] Q x.1 x.2.1:=by
  refine Classical.byContradiction fun hno=>hnr ?_
  have hall:∀ t d,∃ x:Goroutine × World × Array Event,stepG P true g (w.af t d)=.go x.1 x.2.1 x.2.2∧Rob P [trap P] Q x.1 x.2.1:=fun t d=>Classical.byContradiction fun h=>hno ⟨t,d,h⟩
  exact .step g w (fun t d=>(Classical.choose (hall t d)).1) (fun t d=>(Classical.choose (hall t d)).2.1) (fun t d=>(Classical.choose (hall t d)).2.2) (fun t d=>(Classical.choose_spec (hall t d)).1) (fun t d=>(Classical.choose_spec (hall t d)).2)
 obtain ⟨t,d,hbad⟩:=hex
 obtain ⟨x,w1,c,h1,h2⟩:=hgd.sw hG hF t d
 cases x with
 | none=>
  refine ⟨(t,d,c,none),fun T D hA n hw=>?_⟩
  rcases fD hw with h|⟨m,g1,w2,_,h3,_⟩
  ·exact (hstop T D h).elim
  ·rw [h2 T D hA] at h3;cases h3
 | some g1=>
  rcases hgd.next hG hF hQ h1 with hg1|hno
  ·have hr1:¬ Rob P [trap P] Q g1 w1:=fun hr=>by
    obtain ⟨es,he⟩:=kJ h1
    exact hbad ⟨(g1,w1.af t (d+c),es),he,pE _ _ hr⟩
   refine ⟨(t,d,c,some ⟨(g1,w1),hg1,hr1⟩),fun T D hA n hw=>⟨_,rfl,?_⟩⟩
   rcases fD hw with h|⟨m,g2,w2,hm,h3,h4⟩
   ·exact (hstop T D h).elim
   ·rw [h2 T D hA] at h3
    simp only [Option.map_some,Option.some.injEq,Prod.mk.injEq] at h3
    obtain ⟨rfl,rfl⟩:=h3
    exact ⟨m,by omega,h4⟩
  ·refine ⟨(t,d,c,none),fun T D hA n hw=>?_⟩
   rcases fD hw with h|⟨m,g2,w2,hm,h3,h4⟩
   ·exact (hstop T D h).elim
   ·rw [h2 T D hA] at h3
    simp only [Option.map_some,Option.some.injEq,Prod.mk.injEq] at h3
    obtain ⟨rfl,rfl⟩:=h3
    exact (hno _ _ h4).elim
theorem zV (hG:P.globals.size≤aW.g) (hF:jo P F) (hQ:∀ fr w,Q fr w→fr.mode=.returning) (hbl:∀ fr w t d,Q fr w→Q fr (w.af t d)) {g0:Goroutine} {w0:World} (h0:Gd P F gc n0 g0 w0)
  (hw:∀ T,∃ n,oZ P [trap P] Q n g0 (w0.af T 0)):Rob P [trap P] Q g0 w0:=by
 refine Classical.byContradiction fun hno=>?_
 let S:={ x:Goroutine × World // Gd P F gc n0 x.1 x.2∧¬ Rob P [trap P] Q x.1 x.2 }
 let adv:S→(Nat→Question→Nat) × Nat × Nat × Option S:=fun s=>Classical.choose (zi hG hF hQ hbl s)
 have hadv:∀ s:S,∀ T D,Agree (adv s).1 (adv s).2.1 T D (adv s).2.2.1→∀ n,oZ P [trap P] Q n s.1.1 (s.1.2.af T D) →
   ∃ s',(adv s).2.2.2=some s'∧∃ m,m<n∧oZ P [trap P] Q m s'.1.1 (s'.1.2.af T (D+(adv s).2.2.1)):=fun s=>Classical.choose_spec (zi hG hF hQ hbl s)
 let s0:S:=⟨(g0,w0),h0,hno⟩
 let seq:Nat→S:=fun i=>Nat.rec s0 (fun _ s=>((adv s).2.2.2).getD s) i
 let T:=glued (fun s=>(adv s).1) (fun s=>(adv s).2.1) (fun s=>(adv s).2.2.1) seq
 have key:∀ n i,¬ oZ P [trap P] Q n (seq i).1.1 ((seq i).1.2.af T (pos (fun s=>(adv s).2.2.1) seq i)):=by
  intro n
  induction n using Nat.strongRecOn with
  | _ n ih=>
   intro i hway
   obtain ⟨s',h1,m,hm,h2⟩:=hadv (seq i) T _ (rD (fun s=>(adv s).1) (fun s=>(adv s).2.1) (fun s=>(adv s).2.2.1) seq i) n hway
   refine ih m hm (i+1) ?_
   have e:seq (i+1)=s':=by show ((adv (seq i)).2.2.2).getD (seq i)=s';rw [h1];rfl
   rw [e]
   exact h2
 obtain ⟨n,hn⟩:=hw T
 exact key n 0 hn
end
end Ren
end
section
namespace Ren
open Go Go.Conc
variable {P:Program}
def o8 (P:Program) (g:Goroutine) (w:World):Prop:=(∃ g' w' es,stepG P true g w=.go g' w' es)∨∃ o w' es,stepG P true g w=.ended o w' es
theorem fo {g g1:Goroutine} {w w1:World} {es:Array Event} (h:stepG P true g w=.go g1 w1 es):o8 P g w:=.inl ⟨_,_,_,h⟩
theorem GZ {g:Goroutine} {w w1:World} {o:Outcome} {es:Array Event} (h:stepG P true g w=.ended o w1 es):o8 P g w:=.inr ⟨_,_,_,h⟩
section
variable [aW] {F:Nat→Option (List Nat)} {ρ:Map} {n0:Nat} {gc cs cs':List Frame} {w wc:World}
theorem ge_run (hG:P.globals.size≤aW.g) {f:FuncId} {J:List Nat} {T T':Array Value} {k:List Item} (hk:∀ x∈k,jM P F J x=true) (hi:∀ t∈J,Be (T.getD t undef)) (hT:RR ρ T T')
  (hr:HR ρ n0 w wc):o8 P (G ((Go.Conc.base f).at ⟨T,[]⟩ k) cs) w:=by
 cases k with
 | nil=>exact fo stepG_end
 | cons x k=>
  have hx:=hk x (by simp)
  cases x with
  | code c=>
   cases c with
   | skip=>exact fo stepG_skip
   | label l=>exact fo stepG_label
   | ret=>exact fo stepG_ret'
   | seq a b=>exact fo stepG_seq
   | cond c a b=>
    by_cases hb:∃ t,Act.eval ⟨T,[]⟩ c=.bool t
    ·obtain ⟨t,ht⟩:=hb
     exact fo (stepG_cond ht)
    ·right
     have he:((Go.Conc.base f).at ⟨T,[]⟩ (.code (.cond c a b)::k)).eval c=Act.eval ⟨T,[]⟩ c:=Frame.eval_at _ _ _ _
     simp only [Frame.at] at he
     cases hv:Act.eval ⟨T,[]⟩ c with
     | bool t=>exact absurd ⟨t,hv⟩ hb
     | _=>rw [hv] at he;simp [G,stepG,stepG.exec,Frame.at,he]
   | block id b=>exact fo stepG_block
   | loop b=>exact fo stepG_loop
   | exit id=>
    cases he:exitTo id k with
    | none=>right;simp [G,stepG,stepG.exec,Frame.at,he]
    | some k1=>exact fo (stepG_exit he)
   | region id ops dr=>
    cases dr with
    | false=>exact fo stepG_region
    | true=>exact fo stepG_region_draw
   | goto l=>cases hx
   | scope b=>cases hx
   | rangeFunc a b c d=>cases hx
   | refuse why=>cases hx
  | inBlock id=>exact fo stepG_inBlock
  | inLoop b=>exact fo stepG_inLoop
  | inRegion ops todo=>
   cases todo with
   | nil=>exact fo stepG_region_end
   | cons i rest=>
    cases ho:ops[i]? with
    | none=>
     refine fo (g1:=G ((Go.Conc.base f).at ⟨T,[]⟩ (.inRegion ops rest::k)) cs) (w1:=w) (es:=#[]) ?_
     simp [G,stepG,stepG.exec,Frame.at,ho,Frame.finish]
    | some o=>
     have hop:=Array.all_eq_true'.1 hx o (Array.mem_of_getElem? ho)
     simp only [Bool.and_eq_true] at hop
     cases hw:Region.wanted o (yielded ops T) with
     | false=>exact fo (stepG_unwanted ho hw)
     | true=>
      have hev:=evR hT hi
      have hrs:=qy (P:=P) (F:=F) hG hev o hop.1
      have hkd:(Go.Conc.base f).kind≠.early:=by simp [Go.Conc.base]
      have hk1:((Go.Conc.base f).kind == CallKind.early)=false:=by simp [Go.Conc.base]
      rcases h1:(execOp (Act.eval ⟨T,[]⟩) o).runT P w #[] with ⟨r,fs⟩
      have h1r:(execOp (Act.eval ⟨T,[]⟩) o).run P w=r:=by rw [← Sem.runT_fst P _ w #[],h1]
      cases r with
      | ok x u=>
       obtain ⟨σ,y,wc2,gs,k1,k2,k3,k4⟩:=hrs.run (es':=#[]) hr h1
       cases k2 with
       | value u v huv=>exact fo (stepG_value ho hw hkd h1r)
       | skip=>exact fo (stepG_none ho hw hkd h1r)
       | enter g xs ys K hK hxK hxy=>exact fo (stepG_enter ho hw hkd h1r)
      | halt x u=>
       have yQ:=hrs.MU hr h1
       unfold o8
       rw [stepG_oper ho hw]
       cases x with
       | panic v=>left;simp [stepG.apply,h1,h1r,GStep.after,Frame.at,hk1]
       | stuck s=>right;simp [stepG.apply,h1,h1r,GStep.after,Frame.at,hk1]
       | unsupported y=>right;cases y<;>first|exact yQ.elim|simp [stepG.apply,h1,h1r,GStep.after,Frame.at,hk1]
       | _=>exact yQ.elim
  | inScope b=>cases hx
  | inRangeFunc l=>cases hx
  | endRangeFunc l=>cases hx
  | beginRound=>cases hx
  | call d w r s=>cases hx
  | extern r a=>cases hx
theorem Gd.goEnd (hG:P.globals.size≤aW.g) (hF:jo P F) {g:Goroutine} {w:World} (h:Gd P F gc n0 g w) (t:Nat→Question→Nat) (d:Nat):o8 P g (w.af t d):=by
 obtain ⟨ρ,fr,fr',cs,cs',wc,rfl,hfr,hcs,hh⟩:=h
 have hh:=Gd.hr hh t d
 cases hfr with
 | run f J T T' k hJ hk hi hT=>exact ge_run hG hk hi hT hh
 | ret f J T T' k hJ hT=>
  have key:∀ (c:Frame) (cs:List Frame),o8 P (G { (Go.Conc.base f).at ⟨T,[]⟩ k with mode:=.returning } (c::cs)) (w.af t d):=by
   intro c cs
   obtain ⟨fn,cd,hf1,hf2,hf3⟩:=hF f J hJ
   rcases h1:(results fn T).runT P (w.af t d) #[] with ⟨r,fs⟩
   cases r with
   | ok v u=>exact fo (bL hf1 h1)
   | halt x u=>
    obtain ⟨o,w2,e1,he⟩:=bQ (P:=P) (main:=true) (k:=k) (c:=c::cs) hf1 h1
    exact GZ he
  cases hcs with
  | ground=>exact key _ _
  | call=>exact key _ _
omit [aW] in
theorem gD {n:Nat} {g g2:Goroutine} {w w2:World} (hs:g.status=.running) (hge:o8 P g w) (h:runN P n (solo g w)=.next (solo g2 w2)) :
  (g=g2∧w=w2)∨∃ m g1 w1 es,m+1=n∧stepG P true g w=.go g1 w1 es∧runN P m (solo g1 w1)=.next (solo g2 w2):=by
 cases n with
 | zero=>
  simp only [runN,Stepped.next.injEq,solo,Machine.mk.injEq] at h
  exact .inl ⟨by simpa using h.2.1,h.1⟩
 | succ n=>
  right
  rcases hge with ⟨g1,w1,es,he⟩|⟨o,w1,es,he⟩
  ·have e:=step_solo_go hs he
   simp only [runN,e] at h
   exact ⟨n,g1,w1,es,rfl,he,h⟩
  ·exfalso
   have e:step P (solo g w)=.ended o w1:=by
    rw [step,stepT_solo hs,solo_eq_crowd,runT_many_ended (P:=P) (gs:=#[g]) (i:=0) (by simp) he]
   simp [runN,e] at h
variable {Q:Frame→World→Prop}
theorem Eh (hQ:∀ fr w,Q fr w→fr.mode=.returning) (hF:jo P F) {ρ:Map} {cs cs':List Frame} (hcs:CR P F ρ [trap P] gc cs cs'):∀ {g:Goroutine} {w w':World} {n:Nat} {fr:Frame},Bad P g cs→Q fr w' →
  runN P n (solo g w)=.next (solo (G fr [trap P]) w')→False:=by
 have stopped:∀ {g:Goroutine} {w':World} {cs:List Frame} {fr:Frame},Bad P g cs→Q fr w'→g=G fr [trap P]→False:=by
  rintro g w' cs fr hb hq rfl
  obtain ⟨_,_,_,_,_,⟨ch,h5⟩,_⟩:=hb
  have:=hQ _ _ hq
  simp only [G] at h5
  rw [this] at h5;cases h5
 induction hcs with
 | ground=>
  intro g w w' n fr hb hq hr
  obtain ⟨g2,hs,hfr,hc,hst,hd⟩:=eQ (main:=true) (w:=w) hb
  rcases gD hb.2.1 (fo hs) hr with ⟨h,_⟩|⟨m,g1,w1,es,_,h1,h2⟩
  ·exact stopped hb hq h
  ·rw [hs] at h1
   obtain ⟨rfl,rfl,_⟩:=bY h1
   obtain ⟨_,_,_,_,_,⟨ch,h5⟩,_⟩:=hb
   rw [h5] at hfr
   have hend:∃ o w1 es,stepG P true g2 w=.ended o w1 es:=by
    cases g2 with
    | mk fr callers status dying offers=>
     dsimp only at hfr hc hst hd
     subst hfr hc hst hd
     simp [stepG,unwind,Frame.raise,trap,Frame.catches,door]
   rcases gD hst (.inr hend) h2 with ⟨h,_⟩|⟨m,g3,w3,es3,_,h3,_⟩
   ·rw [h] at hc;simp [G] at hc
   ·obtain ⟨o,w4,e4,h4⟩:=hend
    rw [h4] at h3;cases h3
 | call f J T T' k cs cs' hJ hk hi hT ops i rest o ho hok hd hc ih=>
  intro g w w' n fr hb hq hr
  obtain ⟨g2,hs,hfr,hcl,hst,hdy⟩:=eQ (main:=true) (w:=w) hb
  rcases gD hb.2.1 (fo hs) hr with ⟨h,_⟩|⟨m,g1,w1,es,_,h1,h2⟩
  ·exact stopped hb hq h
  ·rw [hs] at h1
   obtain ⟨rfl,rfl,_⟩:=bY h1
   obtain ⟨_,_,_,_,_,⟨ch,h5⟩,_⟩:=hb
   rw [h5] at hfr
   obtain ⟨fn,c,hf1,_⟩:=hF f J hJ
   refine ih ⟨⟨fn,?_⟩,hst,hdy,hcl,?_,⟨ch,?_⟩,?_,?_⟩ hq h2
   all_goals rw [hfr]
   ·exact hf1
   all_goals rfl
omit [aW] in
theorem zy {v:Value} {w w':World} {n:Nat} {fr:Frame} (h:runN P n (solo (G ((trap P).finish v) []) w)=.next (solo (G fr [trap P]) w')):False:=by
 have hn:Extern.next "fmt's door"=none:=by have:=mM;rwa [Option.isNone_iff_eq_none] at this
 have hend:∃ o w1 es,stepG P true (G ((trap P).finish v) []) w=.ended o w1 es:=by simp [G,stepG,stepG.exec,trap,Frame.finish,hn]
 rcases gD rfl (.inr hend) h with ⟨h,_⟩|⟨m,g3,w3,es3,_,h3,_⟩
 ·simp [G] at h
 ·obtain ⟨o,w4,e4,h4⟩:=hend
  rw [h4] at h3;cases h3
theorem Cq (hG:P.globals.size≤aW.g) (hF:jo P F) (hQ:∀ fr w,Q fr w→fr.mode=.returning):∀ (n:Nat) {g:Goroutine} {w w':World} {fr:Frame},Gd P F gc n0 g w→Q fr w' →
  runN P n (solo g w)=.next (solo (G fr [trap P]) w')→oZ P [trap P] Q n g w:=by
 intro n
 induction n with
 | zero=>
  intro g w w' fr hg hq hr
  simp only [runN,Stepped.next.injEq,solo,Machine.mk.injEq] at hr
  obtain ⟨rfl,h2,_⟩:=hr
  exact ⟨fr,by simpa using h2,hq⟩
 | succ n ih=>
  intro g w w' fr hg hq hr
  have hge:o8 P g w:=hg.goEnd hG hF w.tape w.drawn
  have hrun:g.status=.running:=by obtain ⟨ρ,fr,fr',cs,cs',wc,rfl,_⟩:=hg;rfl
  rcases gD hrun hge hr with ⟨rfl,rfl⟩|⟨m,g1,w1,es,hm,h1,h2⟩
  ·exact .inl ⟨fr,rfl,hq⟩
  ·obtain rfl:m=n:=by omega
   refine .inr ⟨g1,w1,aN h1,?_⟩
   have hs:eZ P g (w.af w.tape w.drawn)=some (g1,w1):=aN h1
   obtain ⟨ρ,fr1,fr',cs,cs',wc,rfl,hfr,hcs,hh⟩:=hg
   have hh:=Gd.hr hh w.tape w.drawn
   rcases uW (main:=true) hG hF hfr hcs hh h1 with ⟨σ,fr2,fr2',cs2,cs2',wc1,fs,e1,e2,e3,e4,e5,e6⟩|hb|⟨f,J,T,T',k,hJ,e1,e2,e3,e4,e5⟩
   ·exact ih ⟨σ,fr2,fr2',cs2,cs2',wc1,e1,e3,e4,⟨e5.inj,e5.fn,e5.cells,rfl,rfl,e5.low,e5.AL,e5.shz⟩⟩ hq h2
   ·exact (Eh hQ hF hcs hb hq h2).elim
   ·subst e1 e4
    obtain ⟨fn,c,hf1,_⟩:=hF f J hJ
    rcases hrn:(results fn T).runT P w #[] with ⟨r,fs⟩
    cases r with
    | halt x w1=>
     obtain ⟨o1,w2,e1,he⟩:=bQ (P:=P) (main:=true) (k:=k) (c:=[trap P]) hf1 hrn
     rw [he] at h1;cases h1
    | ok v wl2=>
     rw [bL hf1 hrn] at h1
     obtain ⟨rfl,rfl,rfl⟩:=bY h1
     exact (zy h2).elim
def Back (P:Program) (R:Value→World→Prop) (fr:Frame) (w:World):Prop:=fr.mode=.returning∧∃ t d v,fr.leaving P (w.af t d) (.returned v)∧R v (w.af t d)
theorem xM (hG:P.globals.size≤aW.g) (hF:jo P F) {f:FuncId} {args:Array Value} {R:Value→World→Prop} (h0:Gd P F gc n0 (G (Frame.enter P f args .normal) [trap P]) w)
  (hC:∀ T,Calls P f args (w.af T 0) (fun e w'=>∃ v,e=.returned v∧R v w')):Rob P [trap P] (Back P R) (G (Frame.enter P f args .normal) [trap P]) w:=by
 refine zV hG hF (fun fr w h=>h.1) (fun fr w t d h=>h) h0 fun T=>?_
 obtain ⟨e,w',fr,⟨v,rfl,hv⟩,⟨n,hn⟩,_,hl⟩:=hC T [trap P]
 exact ⟨n,Cq hG hF (fun fr w h=>h.1) n (h0) ⟨hl.1,w'.tape,w'.drawn,v,hl,hv⟩ hn⟩
end
end Ren
end
