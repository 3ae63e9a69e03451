/- One starts n goroutines and waits for them: a step of the starter's keeps what holds, and goes down, or it is the acquire. Conditions: none. -/
import Derived.Test.YthhmolonhpaepaaGreatDoorVJr
set_option linter.unusedVariables false
set_option linter.unusedSimpArgs false
section
namespace Ren
open Go Go.Conc Go.ConcN
open Go.ConcR (KK wgBlock WgAt stA smA rd wr Payload Aside2 DC0 Bk g_of_ofEvents bk_of_mute ofEvent_loc_mark ofEvent_cell deafBehind_cons deafBehind_one)
section
variable {H:Ph} [Payload] {Anch:Goroutine→World→Prop} {gs:Array Goroutine} {w w':World} {sl:Option (Nat × Nat)} {j:Nat} {D:Nat→WD} {M:Nat→WMs} {O:Nat→Nat→Prop} {q:Nat→Nat} {tag tag':Tg} {ob ob':Option (Nat × Value)} {f0 f' d0:Nat} {a a':Goroutine}
 {t:Trace} {st sm st' sm':Int} {es:Array Event}
structure Ph.Eff0 (H:Ph) (j:Nat) (O:Nat→Nat→Prop) (w w':World):Prop where
 tape:w'.tape=w.tape
 os:w'.os=w.os
 output:w'.output=w.output
 size:w.heap.size≤w'.heap.size
 low:∀ c,c<H.Low→c≠H.Wg→w'.heap[c]?=w.heap[c]?
 own:∀ i c,i<j→O i c→w'.heap[c]?=w.heap[c]?
omit [Payload] in
theorem Ph.Eff0.none (w:World):H.Eff0 j O w w:=⟨rfl,rfl,rfl,Nat.le_refl _,fun _ _ _=>rfl,fun _ _ _ _=>rfl⟩
omit [Payload] in
theorem Ph.Eff0.of_wg (ok:H.Ok) (own:∀ i,i<j→∀ c,O i c→H.Low≤c∧c<w.heap.size) (h:Aside H.Wg w w'):H.Eff0 j O w w':=
 ⟨h.tape,h.os,h.output,Nat.le_of_eq h.size.symm,fun c _ hc=>h.block c hc,fun i c hi hc=>h.block c (by have:=own i hi c hc;have:=ok.EA;omega)⟩
theorem callerStep (ok:H.Ok) (ha:gs[0]?=some a) (hcom:H.Com j gs w t D M O q d0) (hgo:stepG H.P true a w=.go a' w' es) (eff:H.Eff0 j O w w')
  (hop:∀ e∈es,∀ x,(MemAct.ofEvent e).touch?=some x→(ShN H.Wg x.loc∧x.kind≠.plain)∨∃ b,x.loc=.cell ⟨b,0,none⟩∧H.Low≤b∧∀ i,i<j→¬ O i b) (hlow:∀ e∈es,∀ x,(MemAct.ofEvent e).touch?=some x→x.loc.low w'.heap.size)
  (hnr:∀ e∈es,e.loc≠.mark (.release (stA H.Wg))) (hcs':CS H Anch tag' ob' j f' (deafBehind d0 es) a' w') (MN:H.Ob ob' j O w') (hwg:WgAt H.ty H.Wg w' st' sm') (hmode:Mode H.n D tag'.ct st' sm')
  (hlt:tag'.phi H.n (Vc H.n D)<tag.phi H.n (Vc H.n D)∨(tag'.phi H.n (Vc H.n D)=tag.phi H.n (Vc H.n D)∧f' < f0)) :
  ∃ m₁ ops μ',runT H.P (crowd gs w sl) 0=(.next m₁,ops)∧Ms.lt H.n μ' (tag.phi H.n (Vc H.n D),sumTo H.lo q,M,f0)∧H.Inv Anch μ' m₁ (t++ops):=by
 have hlo:=ok.lo
 have hrun:=runT_crowd_go (P:=H.P) (sl:=sl) (i:=0) ha (show stepG H.P (0 == 0) a w=_ from hgo)
 have hg0:∀ op∈MemOp.ofEvents 0 a.frame.fn a.frame.place es,op.g=0:=fun op hop=>g_of_ofEvents op hop
 have hfam:Fam (ShN H.Wg) H.Shun (H.Own O) H.Rd H.lo (H.lo+j):=ok.fam (fun i h c hc=>(hcom.own i h c hc).1) hcom.dis
 have hC':w'.heap[H.C]?=w.heap[H.C]?:=eff.low _ ok.EC ok.CW
 have hok:∀ op∈MemOp.ofEvents 0 a.frame.fn a.frame.place es,Op0 (ShN H.Wg) H.Shun (H.Own O) H.Rd H.lo (H.lo+j) op:=by
  intro op hopm
  obtain ⟨e,he,rfl⟩:=Go.Conc.mem_ofEvents hopm
  refine ⟨rfl,fun x hx=>?_⟩
  rcases hop e he x hx with h|⟨b,hb,hb1,hb2⟩
  ·exact .inl h
  ·refine .inr ⟨?_,?_,?_,?_⟩
   ·rintro ⟨ad,e1,e2⟩
    rw [hb] at e1;cases e1
    simp only at e2;have:=ok.EA;omega
   ·intro hs
    obtain ⟨ad,e1,e2,_⟩:=ok.shun _ hs
    rw [hb] at e1;cases e1
    simp only at e2;omega
   ·rintro k k1 k2 ⟨i,ad,rfl,e1,h⟩
    rw [hb] at e1;cases e1
    rcases h with h|⟨h,_⟩
    ·exact hb2 i (by omega) h
    ·simp only at h;have:=ok.EC;omega
   ·rintro ⟨ad,e1,hs⟩
    rw [hb] at e1;cases e1
    have:=(ok.S _ hs).1;simp only at this;omega
 have hturn:∀ i,i<j→H.Turn i (O i) w w':=fun i h=>by
  refine ⟨⟨eff.size,fun c _ hc=>hc.elim (fun hc=>?_) (eff.own i c h),eff.tape⟩,fun _=>⟨_,_,hwg⟩,fun o _ _=>fu hC' o⟩
  obtain ⟨s1,s2,s3,_⟩:=ok.S c hc
  exact eff.low c s1 s3
 have hsz:((gs.map (woken H.P a a' w')).setIfInBounds 0 a').size=gs.size:=by simp
 have hcom':H.Com j ((gs.map (woken H.P a a' w')).setIfInBounds 0 a') w' (t++MemOp.ofEvents 0 a.frame.fn a.frame.place es) D M O q (deafBehind d0 es):=by
  refine ⟨hcom.jn,hsz.trans hcom.size,fun k x hk0 hk hx=>?_,fun i hi=>?_,hcom.rest,hcom.kt.app0 hlo hfam hok,by rw [Deaf_own,hcom.deaf0],fun i hi=>by rw [Deaf_other t (by omega) _ hg0,hcom.deafW i hi],fun k hk=>by rw [Deaf_other t (by omega) _ hg0];exact hcom.above k hk,fun i hi hst=>?_,?_,
   fun op hop=>?_,?_,eff.tape.trans hcom.tape,eff.os.trans hcom.os,eff.output.trans hcom.output,Nat.le_trans hcom.low eff.size,fun c h1 h2 h3=>(eff.low c h1 h3).trans (hcom.below c h1 h2 h3),wU hcom.view hC',fun i hi c hc=>?_,hcom.dis⟩
  ·rw [get_map_set _ _ _ _ (by omega)] at hx
   obtain ⟨y,hy,rfl⟩:=Option.map_eq_some_iff.1 hx
   have hq:=hcom.old k y hk0 hk hy
   rw [woken_quitsD hq,Deaf_other t (by omega) _ hg0]
   exact hq
  ·obtain ⟨x,hx,hsx⟩:=hcom.wk i hi
   exact ⟨x,by rw [get_map_set _ _ _ _ (by omega),hx,Option.map_some,hsx.woken],hsx.turn ok (fun c hc=>(hcom.own i hi c hc).2) (hturn i hi)⟩
  ·obtain ⟨r,hr⟩:=hcom.rel i hi hst
   exact ⟨r,hr.appOther hg0 (by omega)⟩
  ·obtain ⟨u,rfl,hu⟩:=hcom.tr
   exact ⟨u++MemOp.ofEvents 0 a.frame.fn a.frame.place es,by simp,fun op hop=>(Array.mem_append.1 hop).elim (hu op) fun h=>⟨norel_of hnr op h,.inl (hg0 op h)⟩⟩
  ·rcases Array.mem_append.1 hop with h|h
   ·exact hcom.gs op h
   ·have:=hg0 op h;omega
  ·intro op hop x hx
   rcases Array.mem_append.1 hop with h|h
   ·exact Loc.low_mono eff.size (hcom.seen op h x hx)
   ·obtain ⟨e,he,rfl⟩:=Go.Conc.mem_ofEvents h
    exact hlow e he x hx
  ·have:=hcom.own i hi c hc;have:=eff.size;omega
 refine ⟨_,_,(tag'.phi H.n (Vc H.n D),sumTo H.lo q,M,f'),hrun,?_,_,w',sl,j,D,M,O,q,tag',ob',f',_,a',st',sm',rfl,get_map_set_same _ _ _ (by rw [hcom.size];omega),hcs',MN,hcom',hwg,hmode,rfl⟩
 rcases hlt with h|⟨h1,h2⟩
 ·exact Prod.Lex.left _ _ h
 ·rw [h1];exact Prod.Lex.right _ (Prod.Lex.right _ (Prod.Lex.right _ h2))
structure Ph.Done (H:Ph) (m:Machine) (t:Trace):Prop where
 ex:∃ (gs:Array Goroutine) (w:World) (sl:Option (Nat × Nat)) (a:Goroutine) (O:Nat→Nat→Prop) (q:Nat→Nat),m=crowd gs w sl∧gs[0]?=some a∧a.status=.running∧H.oL a w∧gs.size=H.lo+H.n∧Leavers H.P t gs q ∧
  dh 0 (fun l=>H.Shun l∨ShN H.Wg l) w.heap.size t∧(∀ op∈t,op.g<gs.size)∧w.tape=H.w0.tape∧w.os=H.w0.os∧w.output=H.w0.output∧H.Low≤w.heap.size∧(∀ c,c<H.Low→c≠H.C→c≠H.Wg→w.heap[c]?=H.w0.heap[c]?)∧H.View w∧WgLive H.ty H.Wg w ∧
  (∀ i,i<H.n→(∀ c,O i c→H.Low≤c∧c<w.heap.size)∧∃ vals O1,H.Slot i vals w∧(∀ c,O1 c→O i c)∧H.Good i O1 vals w)
theorem someone_runs' (hAr:∀ g w,Anch g w→g.status=.running) (ha:gs[0]?=some a) (hcs:CS H Anch tag ob j f0 d0 a w) (hcom:H.Com j gs w t D M O q d0) (hmode:Mode H.n D tag.ct st sm):∃ (i:Nat) (g:Goroutine),gs[i]?=some g∧g.status=.running:=by
 rcases hcs.status hAr with ⟨hs,_⟩|⟨_,rfl⟩
 ·exact ⟨0,a,ha,hs⟩
 ·have hj:j=H.n:=by cases hcs;rfl
  subst hj
  generalize hct:Tg.ct .blk=ct at hmode
  cases hmode with
  | opn h1 _ _=>subst hct;exact h1.elim
  | reg _ _ h3=>
   obtain ⟨i,hi,h5⟩:=exists_counted h3
   obtain ⟨g,hg,hs⟩:=hcom.wk i hi
   exact ⟨_,g,hg,hs.running (by omega)⟩
  | last L _ h2 h3 _=>
   obtain ⟨g,hg,hs⟩:=hcom.wk L h2
   exact ⟨_,g,hg,hs.running (by omega)⟩
  | sema _=>cases hct
  | fin h1 _=>subst hct;exact h1.elim
theorem Ep (ok:H.Ok) (hAr:∀ g w,Anch g w→g.status=.running) (ha:gs[0]?=some a) (hcs:CS H Anch tag ob j f0 d0 a w) (hcom:H.Com j gs w t D M O q d0):∀ g∈gs,awake g:=by
 intro g hg tm
 obtain ⟨i,hi⟩:=Array.mem_iff_getElem?.1 hg
 rcases Nat.eq_zero_or_pos i with rfl|hpos
 ·rw [ha] at hi;cases hi
  rcases hcs.status hAr with ⟨hs,_⟩|⟨hs,_⟩<;>rw [hs]<;>simp
 ·rcases Nat.lt_or_ge i H.lo with hlt|hge
  ·rcases (hcom.old i g hpos hlt hi).status with h|h<;>rw [h]<;>simp
  ·have hlt:i<gs.size:=(Array.getElem?_eq_some_iff.1 hi).1
   rw [hcom.size] at hlt
   obtain ⟨k,rfl⟩:∃ k,i=H.lo+k:=⟨i - H.lo,by omega⟩
   obtain ⟨g',hg',hs⟩:=hcom.wk k (by omega)
   rw [hi] at hg';cases hg'
   rcases hs.status with h|h<;>rw [h]<;>simp
end
end Ren
end
section
namespace Ren
open Go Go.Conc Go.ConcN
open Go.ConcR (KK wgBlock WgAt stA smA rd wr Payload Aside2 DC0 Bk g_of_ofEvents bk_of_mute ofEvent_loc_mark ofEvent_cell ofEvent_mk deafBehind_cons deafBehind_one)
section
variable {H:Ph} [Payload] {Anch:Goroutine→World→Prop} {gs:Array Goroutine} {w w':World} {sl:Option (Nat × Nat)} {j:Nat} {D:Nat→WD} {M:Nat→WMs} {O:Nat→Nat→Prop} {q:Nat→Nat} {tag tag':Tg} {ob ob':Option (Nat × Value)} {f0 f' d0:Nat} {a a':Goroutine}
 {t:Trace} {st sm st' sm':Int} {es:Array Event}
omit [Payload] in
theorem lF:H.Ob none j O w:=⟨fun b v h=>by cases h⟩
omit [Payload] in
theorem pV (t:Trace) (g:Nat) {x y:MemOp} {k:Nat} (hx:x.act=.go k) (hy:y.act=.start):Deaf (t++#[x,y]) g=Deaf t g:=by
 have e:t++#[x,y]=(t++#[x])++#[y]:=by apply Array.ext';simp
 rw [e,Deaf_push,Deaf_push]
 simp only [deafStep,hx,hy]
theorem idle0 (ok:H.Ok) (ha:gs[0]?=some a) (hob:H.Ob ob j O w) (hcom:H.Com j gs w t D M O q d0) (hwg:WgAt H.ty H.Wg w st sm) (hmode:Mode H.n D tag'.ct st sm) (hgo:stepG H.P true a w=.go a' w #[]) (hcs':CS H Anch tag' ob j f' d0 a' w)
  (hlt:tag'.phi H.n (Vc H.n D)<tag.phi H.n (Vc H.n D)∨(tag'.phi H.n (Vc H.n D)=tag.phi H.n (Vc H.n D)∧f' < f0)) :
  ∃ m₁ ops μ',runT H.P (crowd gs w sl) 0=(.next m₁,ops)∧Ms.lt H.n μ' (tag.phi H.n (Vc H.n D),sumTo H.lo q,M,f0)∧H.Inv Anch μ' m₁ (t++ops):=
 callerStep ok ha hcom hgo (.none w) (by simp) (by simp) (by simp) hcs' hob hwg hmode hlt
theorem book0 (ok:H.Ok) (ha:gs[0]?=some a) (hcom:H.Com j gs w t D M O q d0) (hgo:stepG H.P true a w=.go a' w' es) (hAs:Aside H.Wg w w') (hwg':WgAt H.ty H.Wg w' st' sm') (hbk:∀ e∈es,Bk H.Wg e)
  (hcs':CS H Anch tag' none j f' (deafBehind d0 es) a' w') (hmode':Mode H.n D tag'.ct st' sm') (hlt:tag'.phi H.n (Vc H.n D)<tag.phi H.n (Vc H.n D)) :
  ∃ m₁ ops μ',runT H.P (crowd gs w sl) 0=(.next m₁,ops)∧Ms.lt H.n μ' (tag.phi H.n (Vc H.n D),sumTo H.lo q,M,f0)∧H.Inv Anch μ' m₁ (t++ops):=by
 have hWs:H.Wg<w'.heap.size:=by rw [hAs.size];exact Nat.lt_of_lt_of_le ok.EA hcom.low
 refine callerStep ok ha hcom hgo (.of_wg ok hcom.own hAs) (fun e he x hx=>.inl ?_) (fun e he=>Lg (hbk e he) hWs) (norel_of_Bk hbk) hcs' lF hwg' hmode' (.inl hlt)
 rcases hbk e he with h1|h1|⟨a,wr,rfl,h⟩
 ·simp only [ofEvent_loc_mark h1] at hx;cases hx
 ·simp only [ofEvent_loc_mark h1] at hx;cases hx
 ·simp only [ofEvent_cell,MemAct.touch?,Option.some.injEq] at hx
  subst hx
  exact ⟨⟨a,rfl,h⟩,by simp⟩
theorem w1Step (ok:H.Ok) (ha:gs[0]?=some a) (hcom:H.Com H.n gs w t D M O q 1) (hwg:WgAt H.ty H.Wg w st sm) (hmode:Mode H.n D .w1 st sm) {m:Nat} (h:Goes H.P true (RWg H.ty H.Wg) DC0 (H.AtW1 Anch) m a w)
  (hlt:Tg.phi H.n (Vc H.n D) .w1<tag.phi H.n (Vc H.n D)∨(Tg.phi H.n (Vc H.n D) .w1=tag.phi H.n (Vc H.n D)∧f0=m)) :
  ∃ m₁ ops μ',runT H.P (crowd gs w sl) 0=(.next m₁,ops)∧Ms.lt H.n μ' (tag.phi H.n (Vc H.n D),sumTo H.lo q,M,f0)∧H.Inv Anch μ' m₁ (t++ops):=by
 have hle:Tg.phi H.n (Vc H.n D) .w1≤tag.phi H.n (Vc H.n D):=by omega
 rcases Goes.cases h with hstop|⟨m',rfl,hstep⟩
 ·obtain ⟨_,hall⟩:=hstop w (RWg.refl _ _ w)
  obtain ⟨ho,rfl,rfl,_⟩:=hmode.open_inv trivial
  have hV:=Vc_le H.n D
  have hn:=ok.n31
  obtain ⟨a',hgo,h0,hne⟩:=hall (Vc H.n D) (by omega) (by simpa [pend] using hwg)
  have hbk:∀ e∈#[rd (stA H.Wg)],Bk H.Wg e:=by intro e he;simp at he;subst he;exact bk_cell _ _ rfl
  by_cases hv:Vc H.n D=0
  ·obtain ⟨m₂,hk⟩:=h0 hv
   refine book0 ok ha hcom hgo (.refl _ w) hwg hbk (tag':=.ke) (.ke hk) ?_ (Nat.lt_of_lt_of_le (by simp only [Tg.phi];omega) hle)
   have e:((Vc H.n D+pend .w1:Nat):Int) * KK=0:=by rw [hv];simp [pend]
   rw [e]
   exact .fin trivial (allQuit_of ho hv)
  ·obtain ⟨m₂,hk⟩:=hne hv
   exact book0 ok ha hcom hgo (.refl _ w) hwg hbk (tag':=.w2 (Vc H.n D)) (.w2 hk) (hmode.reopen (tag':=.w2 (Vc H.n D)) trivial trivial rfl (fun vs e=>by cases e;omega)) (Nat.lt_of_lt_of_le (by simp only [Tg.phi];omega) hle)
 ·obtain ⟨a',w',es,hgo,⟨rfl,rfl⟩,hg'⟩:=hstep w (RWg.refl _ _ w)
  exact idle0 ok ha lF hcom hwg (tag':=.w1) hmode hgo (.w1 hg') (hlt.imp id fun h=>⟨h.1,by omega⟩)
theorem ET (ok:H.Ok) {r b:Nat} (hr:r<H.n) (ha:gs[0]?=some a) (hob:H.Ob (some (b,.int .i64 ((H.n - (r+1):Nat):Int))) (H.n - (r+1)) O w) (hcom:H.Com (H.n - (r+1)) gs w t D M O q 0) (hwg:WgAt H.ty H.Wg w st sm)
  (hmode:Mode H.n D (.sp r 4) st sm) (h:H.AtGo (H.n - (r+1)) b (H.Spawns (H.Fin Anch) r) a w) :
  ∃ m₁ ops μ',runT H.P (crowd gs w sl) 0=(.next m₁,ops)∧Ms.lt H.n μ' (Tg.phi H.n (Vc H.n D) (.sp r 0),sumTo H.lo q,M,f0)∧H.Inv Anch μ' m₁ (t++ops):=by
 obtain ⟨_,g',child,hsp,⟨hch,hstart⟩,hnext⟩:=h
 obtain ⟨jj,hj⟩:∃ jj,H.n - (r+1)=jj:=⟨_,rfl⟩
 rw [hj] at hob hcom hstart
 obtain ⟨hb1,hb2,hb3⟩:=hob.at_ b _ rfl
 have hbl:b<w.heap.size:=(Array.getElem?_eq_some_iff.1 hb1).1
 have hlo:=ok.lo
 have hrun:=runT_crowd_spawn (P:=H.P) (sl:=sl) (i:=0) ha (show stepG H.P (0 == 0) a w=_ from hsp)
 obtain ⟨rk,hrk⟩:=hstart w (fun c hc=>by obtain ⟨s1,s2,s3,_⟩:=ok.S c hc;exact hcom.below c s1 s2 s3) hb1 hb2 hcom.low hcom.tape
 -- the two operations
 obtain ⟨x,hx⟩:∃ x:MemOp,x={ g:=0,fn:=a.frame.fn,pos:=a.frame.place,act:=.go gs.size }:=⟨_,rfl⟩
 obtain ⟨y,hy⟩:∃ y:MemOp,y={ g:=gs.size,fn:=child.frame.fn,pos:=a.frame.place,act:=.start }:=⟨_,rfl⟩
 have hops:t++(((MemOp.ofEvents 0 a.frame.fn a.frame.place #[]).push { g:=0,fn:=a.frame.fn,pos:=a.frame.place,act:=.go gs.size }).push { g:=gs.size,fn:=child.frame.fn,pos:=a.frame.place,act:=.start })=t++#[x,y]:=by
  rw [hx,hy];simp [MemOp.ofEvents]
 have hsz:=hcom.size
 have hx1:x.g=0∧x.act=.go (H.lo+jj):=by rw [hx];exact ⟨rfl,by rw [hsz]⟩
 have hy1:y.g=H.lo+jj∧y.act=.start:=by rw [hy];exact ⟨hsz,rfl⟩
 have hm:∀ op∈#[x,y],op=x∨op=y:=by intro op hop;simpa using hop
 have hnt:∀ op∈#[x,y],op.act.touch?=none:=by
  intro op hop
  rcases hm op hop with rfl|rfl
  ·rw [hx1.2];rfl
  ·rw [hy1.2];rfl
 have hown':∀ i,i<jj+1→∀ c,upd O jj (fun c=>c=b) i c→H.Low≤c∧c<w.heap.size:=by
  intro i hi c hc
  by_cases e:i=jj
  ·subst e;rw [upd_same] at hc;subst hc;exact ⟨hb2,hbl⟩
  ·rw [upd_ne O _ e] at hc;exact hcom.own i (by omega) c hc
 have GU:∀ i1 i2 c,i1<jj+1→i2<jj+1→upd O jj (fun c=>c=b) i1 c→upd O jj (fun c=>c=b) i2 c→i1=i2:=by
  intro i1 i2 c h1 h2 hc1 hc2
  by_cases e1:i1=jj<;>by_cases e2:i2=jj
  ·rw [e1,e2]
  ·subst e1;rw [upd_same] at hc1;subst hc1;rw [upd_ne O _ e2] at hc2;exact (hb3 i2 (by omega) hc2).elim
  ·subst e2;rw [upd_same] at hc2;subst hc2;rw [upd_ne O _ e1] at hc1;exact (hb3 i1 (by omega) hc1).elim
  ·rw [upd_ne O _ e1] at hc1;rw [upd_ne O _ e2] at hc2;exact hcom.dis _ _ _ (by omega) (by omega) hc1 hc2
 have hfam:Fam (ShN H.Wg) H.Shun (H.Own (upd O jj (fun c=>c=b))) H.Rd H.lo (H.lo+jj+1):=ok.fam (j:=jj+1) (fun i h c hc=>(hown' i h c hc).1) GU
 have hkt:KT (ShN H.Wg) H.Shun (H.Own (upd O jj (fun c=>c=b))) H.Rd H.lo (H.lo+jj) t:=by
  refine hcom.kt.widen ?_ ?_
  ·rintro k l _ hk ⟨i,ad,rfl,rfl,h⟩
   exact ⟨i,ad,rfl,rfl,h.imp (fun h=>by rw [upd_ne O _ (by omega)];exact h) id⟩
  ·rintro k l _ hk ⟨i,ad,rfl,rfl,h⟩
   exact .inl ⟨i,ad,rfl,rfl,h.imp (fun h=>by rw [upd_ne O _ (by omega)] at h;exact h) id⟩
 have hkt':=hkt.fork hlo (by omega) hfam hx1 hy1 hcom.deaf0 (hcom.above _ (Nat.le_refl _))
 have hget:∀ k,k≠0→k<gs.size→((gs.setIfInBounds 0 g').push child)[k]?=gs[k]?:=fun k h0 hk=>by
  rw [Array.getElem?_push,if_neg (by simp;omega),Array.getElem?_setIfInBounds_ne (by omega)]
 have hcom':H.Com (jj+1) ((gs.setIfInBounds 0 g').push child) w (t++#[x,y]) D (upd M jj (8,rk)) (upd O jj (fun c=>c=b)) q 0:=by
  refine ⟨by omega,by simp [hsz];omega,fun k z hk0 hk hz=>?_,fun i hi=>?_,fun i hi=>hcom.rest i (by omega),by rw [← Nat.add_assoc];exact hkt',by rw [pV t 0 hx1.2 hy1.2,hcom.deaf0],fun i hi=>?_,fun k hk=>by rw [pV t k hx1.2 hy1.2];exact hcom.above k (by omega),
   fun i hi hst=>?_,?_,fun op hop=>?_,fun op hop z hz=>?_,hcom.tape,hcom.os,hcom.output,hcom.low,hcom.below,hcom.view,hown',GU⟩
  ·rw [hget k (by omega) (by omega)] at hz
   rw [pV t k hx1.2 hy1.2]
   exact hcom.old k z hk0 hk hz
  ·by_cases e:i=jj
   ·subst e
    refine ⟨child,?_,?_⟩
    ·rw [← hsz,Array.getElem?_push];simp
    ·rw [upd_same,upd_same,hcom.rest i (Nat.le_refl _)];exact .La hrk
   ·obtain ⟨z,hz,hsz'⟩:=hcom.wk i (by omega)
    refine ⟨z,by rw [hget _ (by omega) (by omega)];exact hz,?_⟩
    rw [upd_ne M _ e,upd_ne O _ e];exact hsz'
  ·rw [pV t _ hx1.2 hy1.2]
   by_cases e:i=jj
   ·subst e;rw [hcom.above _ (Nat.le_refl _),hcom.rest i (Nat.le_refl _)]
   ·exact hcom.deafW i (by omega)
  ·by_cases e:i=jj
   ·subst e;rw [hcom.rest i (Nat.le_refl _)] at hst;simp at hst
   ·obtain ⟨rr,hrr⟩:=hcom.rel i (by omega) hst
    refine ⟨rr,?_⟩
    have e2:t++#[x,y]=(t++#[x])++#[y]:=by apply Array.ext';simp
    rw [e2]
    exact (hrr.appOther (g:=0) (fun op hop=>by simp at hop;rw [hop];exact hx1.1) (by omega)).appOther (g:=H.lo+jj) (fun op hop=>by simp at hop;rw [hop];exact hy1.1) (by omega)
  ·obtain ⟨u,rfl,hu⟩:=hcom.tr
   refine ⟨u++#[x,y],by simp,fun op hop=>(Array.mem_append.1 hop).elim (fun h=>⟨(hu op h).1,(hu op h).2.imp id (·.imp (fun z=>⟨z.1,by omega⟩) id)⟩) fun h=>?_⟩
   rcases hm op h with rfl|rfl
   ·exact ⟨by rw [hx1.2];simp,.inl hx1.1⟩
   ·exact ⟨by rw [hy1.2];simp,.inr (.inl (by omega))⟩
  ·rcases Array.mem_append.1 hop with h|h
   ·have:=hcom.gs op h;omega
   ·rcases hm op h with rfl|rfl
    ·rw [hx1.1];omega
    ·rw [hy1.1];omega
  ·rcases Array.mem_append.1 hop with h|h
   ·exact hcom.seen op h z hz
   ·rw [hnt op h] at hz;cases hz
 rw [← hops] at hcom'
 have hg0':((gs.setIfInBounds 0 g').push child)[0]?=some g':=by
  rw [Array.getElem?_push,if_neg (by simp;omega),Array.getElem?_setIfInBounds_self_of_lt (by omega)]
 cases r with
 | zero=>
  obtain ⟨m,hk⟩:=hnext
  have e:jj+1=H.n:=by omega
  rw [e] at hcom'
  exact ⟨_,_,(Tg.phi H.n (Vc H.n D) .kd,sumTo H.lo q,upd M jj (8,rk),m),hrun,Prod.Lex.left _ _ (by simp only [Tg.phi];omega),_,w,sl,H.n,D,_,_,q,.kd,none,m,0,g',st,sm,rfl,hg0',.kd hk,lF,hcom',hwg,hmode.reopen (tag':=.kd) trivial trivial rfl (by simp),rfl⟩
 | succ r=>
  obtain ⟨m,hk⟩:=hnext
  have e:jj+1=H.n - (r+1):=by omega
  rw [e] at hcom'
  exact ⟨_,_,(Tg.phi H.n (Vc H.n D) (.sp r 2),sumTo H.lo q,upd M jj (8,rk),m),hrun,Prod.Lex.left _ _ (by simp only [Tg.phi];omega),_,w,sl,H.n - (r+1),D,_,_,q,.sp r 2,none,m,0,g',st,sm,rfl,hg0',.new (by omega) hk,lF,hcom',hwg,hmode.reopen (tag':=.sp r 6) trivial trivial rfl (by simp),rfl⟩
theorem NA {B d:Nat} (ok:H.Ok) (hP:dh d H.Shun B H.t0) (hg0:∀ op∈H.t0,op.g<H.lo) (ha:gs[0]?=some a) (hcom:H.Com H.n gs w t D M O q 0) (hwg:WgAt H.ty H.Wg w st sm) (hmode:Mode H.n D .acq st sm) (h:H.AtAcq a w) :
  ∃ m₁ ops,runT H.P (crowd gs w sl) 0=(.next m₁,ops)∧H.Done m₁ (t++ops):=by
 obtain ⟨_,g',hgo,hgr,hcont⟩:=h
 obtain ⟨hq,rfl,rfl⟩:=hmode.fin_inv trivial
 have hlo:=ok.lo
 have hrun:=runT_crowd_go (P:=H.P) (sl:=sl) (i:=0) ha (show stepG H.P (0 == 0) a w=_ from hgo)
 have hge:∀ op∈MemOp.ofEvents 0 a.frame.fn a.frame.place #[Go.ConcR.mk (.acquire (stA H.Wg))],op.g=0:=fun op hop=>g_of_ofEvents op hop
 have e1:MemOp.ofEvents 0 a.frame.fn a.frame.place #[Go.ConcR.mk (.acquire (stA H.Wg))]=#[{ g:=0,fn:=a.frame.fn,pos:=a.frame.place,act:=.mark (.acquire (stA H.Wg)) }]:=by rw [ofEvents_eq];simp [ofEvent_mk]
 -- the workers only leave
 have hwk:∀ i,i<H.n→∃ (m d:Nat) (g:Goroutine) (vals:Array Value) (O1:Nat→Prop),gs[H.lo+i]?=some g∧QuitsD H.P m d g∧Deaf t (H.lo+i)=d∧H.Slot i vals w∧(∀ c,O1 c→O i c)∧H.Good i O1 vals w:=by
  intro i hi
  obtain ⟨g,hg,hs⟩:=hcom.wk i hi
  have h1:=hq i hi
  have hdf:=hcom.deafW i hi
  generalize D i=Di at hs h1 hdf
  generalize M i=Mi at hs
  cases hs with
  | La _=>simp at h1
  | done hD hb hO1 hgood nJ=>
   simp only at h1 hdf
   subst h1
   cases hD with
   | quit hqd=>exact ⟨_,_,g,_,_,hg,hqd,hdf,nJ,fun c hc=>(hO1 c hc).1,hgood⟩
 have hsz:((gs.map (woken H.P a g' w)).setIfInBounds 0 g').size=H.lo+H.n:=by simp [hcom.size]
 have hpast:dh 0 (fun l=>H.Shun l∨ShN H.Wg l) w.heap.size (t++MemOp.ofEvents 0 a.frame.fn a.frame.place #[Go.ConcR.mk (.acquire (stA H.Wg))]):=by
  rw [e1]
  obtain ⟨u,rfl,hu⟩:=hcom.tr
  refine xW (Own:=H.Own O) (Rd:=H.Rd) (lo:=H.lo) (hi:=H.lo+H.n) (a:=stA H.Wg) hP hg0 hcom.kt ⟨rfl,rfl⟩ hcom.deaf0 (fun k k1 k2=>?_) (fun op hop=>(hu op hop).1) (fun op hop=>(hu op hop).2) hcom.seen
  obtain ⟨i,rfl⟩:∃ i,k=H.lo+i:=⟨k - H.lo,by omega⟩
  exact hcom.rel i (by omega) (by rw [hq i (by omega)];omega)
 refine ⟨_,_,hrun,⟨_,w,sl,g',O,fun k=>if k<H.lo then q k else if hk:k - H.lo<H.n then Classical.choose (hwk (k - H.lo) hk) else 0,rfl,get_map_set_same _ _ _ (by rw [hcom.size];omega),hgr,hcont,hsz,⟨fun k z hk0 hz=>?_,fun k hk=>?_⟩,hpast,fun op hop=>?_,hcom.tape,hcom.os,hcom.output,hcom.low,hcom.below,hcom.view,⟨_,_,hwg⟩,fun i hi=>?_⟩⟩
 ·rw [get_map_set _ _ _ _ (by omega)] at hz
  obtain ⟨y,hy,rfl⟩:=Option.map_eq_some_iff.1 hz
  by_cases hkl:k<H.lo
  ·have hqd:=hcom.old k y hk0 hkl hy
   simp only [hkl,if_true]
   rw [woken_quitsD hqd,Deaf_other t (by omega) _ hge]
   exact hqd
  ·have hlt:k<gs.size:=(Array.getElem?_eq_some_iff.1 hy).1
   rw [hcom.size] at hlt
   have hkn:k - H.lo<H.n:=by omega
   simp only [hkl,if_false,hkn,dite_true]
   obtain ⟨d',g1,vals,O1,h1,h2,h3,_⟩:=Classical.choose_spec (hwk (k - H.lo) hkn)
   rw [show H.lo+(k - H.lo)=k by omega] at h1 h3
   rw [hy] at h1;cases h1
   rw [woken_quitsD h2,Deaf_other t (by omega) _ hge,h3]
   exact h2
 ·rw [hsz] at hk
  rw [Deaf_other t (by omega) _ hge]
  exact hcom.above k hk
 ·rw [hsz]
  rcases Array.mem_append.1 hop with h|h
  ·exact hcom.gs op h
  ·have:=hge op h;omega
 ·obtain ⟨m,d,g,vals,O1,_,_,_,h4,h5,h6⟩:=hwk i hi
  exact ⟨fun c hc=>hcom.own i hi c hc,vals,O1,h4,h5,h6⟩
set_option maxHeartbeats 1600000 in
theorem stepCaller {B d:Nat} (ok:H.Ok) (hP:dh d H.Shun B H.t0) (hg0:∀ op∈H.t0,op.g<H.lo) (hAn:∀ g w,Anch g w→∃ m,Goes H.P true (RWg H.ty H.Wg) DC0 (H.AtW1 Anch) m g w)
  (ha:gs[0]?=some a) (hcs:CS H Anch tag ob j f0 d0 a w) (hob:H.Ob ob j O w) (hcom:H.Com j gs w t D M O q d0) (hwg:WgAt H.ty H.Wg w st sm) (hmode:Mode H.n D tag.ct st sm) (hrun:a.status=.running) :
  (∃ m₁ ops,runT H.P (crowd gs w sl) 0=(.next m₁,ops)∧H.Done m₁ (t++ops)) ∨
  ∃ m₁ ops μ',runT H.P (crowd gs w sl) 0=(.next m₁,ops)∧Ms.lt H.n μ' (tag.phi H.n (Vc H.n D),sumTo H.lo q,M,f0)∧H.Inv Anch μ' m₁ (t++ops):=by
 have hV:=Vc_le H.n D
 have hn:=ok.n31
 have hWs:H.Wg<w.heap.size:=Nat.lt_of_lt_of_le ok.EA hcom.low
 have bkm:∀ {m:Mark},(m=.disable∨m=.enable)→∀ e∈#[Go.ConcR.mk m],Bk H.Wg e:=by
  intro m h e he
  simp at he
  subst he
  rcases h with rfl|rfl
  ·exact .inl rfl
  ·exact .inr (.inl rfl)
 cases hcs with
 | @new r m _ _ hr h=>
  right
  rcases Goes.cases h with hstop|⟨m',rfl,hstep⟩
  ·obtain ⟨_,g',hgo,m₂,hk⟩:=hstop w (RWg.refl _ _ w)
   have hget:∀ c,c<w.heap.size→(w.heap.push (.cells #[.int .i64 0] H.tI))[c]?=w.heap[c]?:=fun c hc=>by rw [Array.getElem?_push,if_neg (by omega)]
   refine callerStep ok ha hcom hgo ⟨rfl,rfl,rfl,by simp,fun c h1 _=>hget c (Nat.lt_of_lt_of_le h1 hcom.low),fun i c hi hc=>hget c (hcom.own i hi c hc).2⟩ (by simp) (by simp) (by simp) (tag':=.sp r 1) (ob':=some (w.heap.size,.int .i64 0)) (.sto hr hk) ⟨fun b v hb=>?_⟩ (hwg.of_block (hget _ hWs))
    (hmode.reopen (tag':=.sp r 5) trivial trivial rfl (by simp)) (.inl (by simp only [Tg.phi];omega))
   simp only [Option.some.injEq,Prod.mk.injEq] at hb
   obtain ⟨rfl,rfl⟩:=hb
   exact ⟨by simp,hcom.low,fun i hi hx=>by have:=hcom.own i hi _ hx;omega⟩
  ·obtain ⟨a',w',es,hgo,⟨rfl,rfl⟩,hg'⟩:=hstep w (RWg.refl _ _ w)
   exact idle0 ok ha hob hcom hwg (tag':=.sp r 2) hmode hgo (.new hr hg') (.inr ⟨rfl,by omega⟩)
 | @sto r m b _ _ hr h=>
  right
  rcases Goes.cases h with hstop|⟨m',rfl,hstep⟩
  ·obtain ⟨_,hx⟩:=hstop w (RWg.refl _ _ w)
   obtain ⟨hb1,hb2,hb3⟩:=hob.at_ b _ rfl
   obtain ⟨g',hgo,m₂,hk⟩:=hx hb1
   have hbl:b<w.heap.size:=(Array.getElem?_eq_some_iff.1 hb1).1
   have hset:∀ c,c≠b→(w.setCell ⟨b,0,none⟩ (.int .i64 ((H.n - (r+1):Nat):Int))).heap[c]?=w.heap[c]?:=fun c hc=>by
    simp only [World.setCell,Array.getElem?_modify];rw [if_neg (Ne.symm hc)]
   have hown:∀ i c,i<H.n - (r+1)→O i c→c≠b:=fun i c hi hc e=>hb3 i hi (e ▸ hc)
   refine callerStep ok ha hcom hgo ⟨rfl,rfl,rfl,by simp [World.setCell],fun c h1 _=>hset c (by omega),fun i c hi hc=>hset c (hown i c hi hc)⟩ (fun e he x hx=>?_) (fun e he x hx=>?_) (by simp) (tag':=.sp r 0) (f':=m₂) (ob':=some (b,.int .i64 ((H.n - (r+1):Nat):Int))) ?_ ⟨fun b' v hb=>?_⟩ (hwg.of_block (hset _ (by have:=ok.EA;omega)))
    (hmode.reopen (tag':=.sp r 4) trivial trivial rfl (by simp)) (.inl (by simp only [Tg.phi];omega))
   ·simp at he
    subst he
    simp only [ofEvent_cell,MemAct.touch?,Option.some.injEq] at hx
    subst hx
    exact .inr ⟨b,rfl,hb2,hb3⟩
   ·simp at he
    subst he
    simp only [ofEvent_cell,MemAct.touch?,Option.some.injEq] at hx
    subst hx
    simpa [Loc.low,World.setCell] using hbl
   ·have e:deafBehind 0 #[(⟨.cell ⟨b,0,none⟩,true,false⟩:Event)]=0:=rfl
    rw [e];exact .go hr hk
   ·simp only [Option.some.injEq,Prod.mk.injEq] at hb
    obtain ⟨rfl,rfl⟩:=hb
    exact ⟨by simp [World.setCell,Array.getElem?_modify,hb1],hb2,hb3⟩
  ·obtain ⟨a',w',es,hgo,⟨rfl,rfl⟩,hg'⟩:=hstep w (RWg.refl _ _ w)
   exact idle0 ok ha hob hcom hwg (tag':=.sp r 1) hmode hgo (.sto hr hg') (.inr ⟨rfl,by omega⟩)
 | @go r m b _ _ hr h=>
  right
  rcases Goes.cases h with hstop|⟨m',rfl,hstep⟩
  ·exact ET ok hr ha hob hcom hwg hmode (hstop w (RWg.refl _ _ w))
  ·obtain ⟨a',w',es,hgo,⟨rfl,rfl⟩,hg'⟩:=hstep w (RWg.refl _ _ w)
   exact idle0 ok ha hob hcom hwg (tag':=.sp r 0) hmode hgo (.go hr hg') (.inr ⟨rfl,by omega⟩)
 | kd h=>
  right
  rcases Goes.cases h with hstop|⟨m',rfl,hstep⟩
  ·obtain ⟨_,g',hgo,m₂,hk⟩:=hstop w (RWg.refl _ _ w)
   exact book0 ok ha hcom hgo (.refl _ w) hwg (bkm (.inl rfl)) (tag':=.anch) (.anch hk) (hmode.reopen (tag':=.anch) trivial trivial rfl (by simp)) (by simp only [Tg.phi];omega)
  ·obtain ⟨a',w',es,hgo,⟨rfl,rfl⟩,hg'⟩:=hstep w (RWg.refl _ _ w)
   exact idle0 ok ha hob hcom hwg (tag':=.kd) hmode hgo (.kd hg') (.inr ⟨rfl,by omega⟩)
 | anch h=>
  right
  rcases Goes.cases h with hstop|⟨m',rfl,hstep⟩
  ·obtain ⟨m,hk⟩:=hAn _ _ (hstop w (RWg.refl _ _ w))
   exact w1Step ok ha hcom hwg (hmode.reopen (tag':=.w1) trivial trivial rfl (by simp)) hk (.inl (by simp only [Tg.phi];omega))
  ·obtain ⟨a',w',es,hgo,⟨rfl,rfl⟩,hg'⟩:=hstep w (RWg.refl _ _ w)
   exact idle0 ok ha hob hcom hwg (tag':=.anch) hmode hgo (.anch hg') (.inr ⟨rfl,by omega⟩)
 | w1 h=>exact .inr (w1Step ok ha hcom hwg hmode h (.inr ⟨rfl,rfl⟩))
 | @w2 vs m _ _ h=>
  right
  rcases Goes.cases h with hstop|⟨m',rfl,hstep⟩
  ·obtain ⟨_,hall⟩:=hstop w (RWg.refl _ _ w)
   obtain ⟨ho,rfl,rfl,hvs⟩:=hmode.open_inv trivial
   have hvs:=hvs vs rfl
   obtain ⟨hhit,hmiss⟩:=hall (Vc H.n D) (by omega) (by simpa [pend,Tg.ct] using hwg)
   have hwg0:WgAt H.ty H.Wg w (((Vc H.n D:Nat):Int) * KK) 0:=by simpa [pend,Tg.ct] using hwg
   by_cases hv:Vc H.n D=vs
   ·obtain ⟨g',hgo,m₂,hk⟩:=hhit hv
    exact book0 ok ha hcom hgo (aside_setCell w (stA H.Wg) _) (hwg0.setSt _) (by intro e he;simp at he;rcases he with rfl|rfl<;>exact bk_cell _ _ rfl) (tag':=.wr) (.wr hk) (.reg (tag:=.w3) trivial ho (by omega)) (by simp only [Tg.phi];omega)
   ·obtain ⟨g',hgo,m₂,hk⟩:=hmiss hv
    exact book0 ok ha hcom hgo (.refl _ w) hwg (by intro e he;simp at he;subst he;exact bk_cell _ _ rfl) (tag':=.anch) (.anch hk) (hmode.reopen (tag':=.anch) trivial trivial rfl (by simp)) (by simp only [Tg.phi];omega)
  ·obtain ⟨a',w',es,hgo,⟨rfl,rfl⟩,hg'⟩:=hstep w (RWg.refl _ _ w)
   exact idle0 ok ha hob hcom hwg (tag':=.w2 vs) hmode hgo (.w2 hg') (.inr ⟨rfl,by omega⟩)
 | wr h=>
  right
  rcases Goes.cases h with hstop|⟨m',rfl,hstep⟩
  ·obtain ⟨_,g',hgo,m₂,hk⟩:=hstop w (RWg.refl _ _ w)
   refine callerStep ok ha hcom hgo (.none w) (fun e he x hx=>?_) (fun e he x hx=>?_) (by simp [Go.ConcR.mk]) (tag':=.w3) (ob':=none) (.w3 hk) lF hwg hmode (.inl (by simp only [Tg.phi];omega))
   ·simp at he
    subst he
    simp only [ofEvent_mk,MemAct.touch?,Option.some.injEq] at hx
    subst hx
    exact .inl ⟨⟨_,rfl,rfl⟩,by simp⟩
   ·simp at he
    subst he
    simp only [ofEvent_mk,MemAct.touch?,Option.some.injEq] at hx
    subst hx
    exact hWs
  ·obtain ⟨a',w',es,hgo,⟨rfl,rfl⟩,hg'⟩:=hstep w (RWg.refl _ _ w)
   exact idle0 ok ha hob hcom hwg (tag':=.wr) hmode hgo (.wr hg') (.inr ⟨rfl,by omega⟩)
 | w3 h=>
  right
  rcases Goes.cases h with hstop|⟨m',rfl,hstep⟩
  ·obtain ⟨_,_,hblk,hup⟩:=hstop w (RWg.refl _ _ w)
   generalize hct:Tg.ct .w3=ct at hmode
   cases hmode with
   | opn h1 _ _=>subst hct;exact h1.elim
   | reg _ h2 h3=>exact idle0 ok ha lF hcom hwg (tag':=.blk) (.reg trivial h2 h3) (hblk ⟨_,hwg⟩) (.blk hstop) (.inr ⟨rfl,by omega⟩)
   | last L _ h2 h3 h4=>exact idle0 ok ha lF hcom hwg (tag':=.blk) (.last L trivial h2 h3 h4) (hblk ⟨_,hwg⟩) (.blk hstop) (.inr ⟨rfl,by omega⟩)
   | sema hq=>
    obtain ⟨g',hgo,m₂,hk⟩:=hup hwg
    refine book0 ok ha hcom hgo (aside_setCell w (smA H.Wg) _) (hwg.setSm 0) (fun e he=>?_) (tag':=.w4) (f':=m₂) ?_ (.fin (tag:=.w4) trivial hq) (by simp only [Tg.phi];omega)
    ·simp [semEvents] at he
     rcases he with rfl|rfl|rfl|rfl
     ·exact .inl rfl
     ·exact bk_cell _ _ rfl
     ·exact bk_cell _ _ rfl
     ·exact .inr (.inl rfl)
    ·have e:deafBehind 1 (semEvents (smA H.Wg))=1:=by simp [deafBehind,semEvents]
     rw [e];exact .w4 hk
   | fin h1 _=>subst hct;exact h1.elim
  ·obtain ⟨a',w',es,hgo,⟨rfl,rfl⟩,hg'⟩:=hstep w (RWg.refl _ _ w)
   exact idle0 ok ha hob hcom hwg (tag':=.w3) hmode hgo (.w3 hg') (.inr ⟨rfl,by omega⟩)
 | blk h=>cases hrun
 | w4 h=>
  right
  rcases Goes.cases h with hstop|⟨m',rfl,hstep⟩
  ·obtain ⟨_,hx⟩:=hstop w (RWg.refl _ _ w)
   obtain ⟨hq,rfl,rfl⟩:=hmode.fin_inv trivial
   obtain ⟨g',hgo,m₂,hk⟩:=hx hwg
   exact book0 ok ha hcom hgo (.refl _ w) hwg (by intro e he;simp at he;subst he;exact bk_cell _ _ rfl) (tag':=.ke) (.ke hk) (.fin (tag:=.ke) trivial hq) (by simp only [Tg.phi];omega)
  ·obtain ⟨a',w',es,hgo,⟨rfl,rfl⟩,hg'⟩:=hstep w (RWg.refl _ _ w)
   exact idle0 ok ha hob hcom hwg (tag':=.w4) hmode hgo (.w4 hg') (.inr ⟨rfl,by omega⟩)
 | ke h=>
  right
  rcases Goes.cases h with hstop|⟨m',rfl,hstep⟩
  ·obtain ⟨_,g',hgo,m₂,hk⟩:=hstop w (RWg.refl _ _ w)
   obtain ⟨hq,rfl,rfl⟩:=hmode.fin_inv trivial
   exact book0 ok ha hcom hgo (.refl _ w) hwg (bkm (.inr rfl)) (tag':=.acq) (.acq hk) (.fin (tag:=.acq) trivial hq) (by simp only [Tg.phi];omega)
  ·obtain ⟨a',w',es,hgo,⟨rfl,rfl⟩,hg'⟩:=hstep w (RWg.refl _ _ w)
   exact idle0 ok ha hob hcom hwg (tag':=.ke) hmode hgo (.ke hg') (.inr ⟨rfl,by omega⟩)
 | acq h=>
  rcases Goes.cases h with hstop|⟨m',rfl,hstep⟩
  ·exact .inl (NA ok hP hg0 ha hcom hwg hmode (hstop w (RWg.refl _ _ w)))
  ·obtain ⟨a',w',es,hgo,⟨rfl,rfl⟩,hg'⟩:=hstep w (RWg.refl _ _ w)
   exact .inr (idle0 ok ha hob hcom hwg (tag':=.acq) hmode hgo (.acq hg') (.inr ⟨rfl,by omega⟩))
theorem Ph.Com.at (h:H.Com j gs w t D M O q d0) (ok:H.Ok) (d:Nat):H.Com j gs (w.at d) t D M O q d0:=
 { h with wk:=fun i hi=>let ⟨g,hg,hs⟩:=h.wk i hi;⟨g,hg,hs.turn ok (fun c hc=>(h.own i hi c hc).2) (.at i (O i) w d)⟩ }
theorem Ma (ok:H.Ok) (hAr:∀ g w,Anch g w→g.status=.running) (ha:gs[0]?=some a) (hcs:CS H Anch tag ob j f0 d0 a w) (hob:H.Ob ob j O w) (hcom:H.Com j gs w t D M O q d0) (hwg:WgAt H.ty H.Wg w st sm) (hmode:Mode H.n D tag.ct st sm)
  {k:Nat} (hk0:0<k) (hk:k<H.lo) {g:Goroutine} (hg:gs[k]?=some g) (hrun:g.status=.running) :
  ∃ m₁ ops μ',runT H.P (crowd gs w sl) k=(.next m₁,ops)∧Ms.lt H.n μ' (tag.phi H.n (Vc H.n D),sumTo H.lo q,M,f0)∧H.Inv Anch μ' m₁ (t++ops):=by
 have hqd:=hcom.old k g hk0 hk hg
 cases hqk:q k with
 | zero=>rw [hqk] at hqd;rw [hqd.1] at hrun;cases hrun
 | succ m=>
  rw [hqk] at hqd
  rcases hqd with ⟨hf,_⟩|⟨_,g',es,hm,hstp,hq'⟩
  ·rw [hf] at hrun;cases hrun
  have hi0:(k == 0)=false:=by simp;omega
  have hrunT:=runT_crowd_go (P:=H.P) (sl:=sl) (i:=k) hg (by rw [hi0];exact hstp w)
  obtain ⟨tag',f',hcs',htag,_⟩:=hcs.wokenBy hAr (w':=w) id g g'
  have hgk:∀ op∈MemOp.ofEvents k g.frame.fn g.frame.place es,op.g=k:=fun op hop=>g_of_ofEvents op hop
  have hnt:∀ op∈MemOp.ofEvents k g.frame.fn g.frame.place es,op.act.touch?=none:=fun op hop=>by obtain ⟨e,he,rfl⟩:=Go.Conc.mem_ofEvents hop;exact touch_mute (hm e he)
  have hsum:sumTo H.lo (upd q k m)+(m+1)=sumTo H.lo q+m:=by
   have:=sumTo_upd q m id hk
   simpa [hqk] using this
  have hsz:((gs.map (woken H.P g g' w)).setIfInBounds k g').size=gs.size:=by simp
  have hcom':H.Com j ((gs.map (woken H.P g g' w)).setIfInBounds k g') w (t++MemOp.ofEvents k g.frame.fn g.frame.place es) D M O (upd q k m) d0:=by
   refine ⟨hcom.jn,hsz.trans hcom.size,fun k' z hk0' hk' hz=>?_,fun i hi=>?_,hcom.rest,hcom.kt.appM hgk hnt,by rw [Deaf_other t (by omega) _ hgk,hcom.deaf0],fun i hi=>by rw [Deaf_other t (by omega) _ hgk,hcom.deafW i hi],fun k' hk'=>by rw [Deaf_other t (by omega) _ hgk];exact hcom.above k' hk',
    fun i hi hst=>?_,?_,fun op hop=>?_,fun op hop x hx=>?_,hcom.tape,hcom.os,hcom.output,hcom.low,hcom.below,hcom.view,hcom.own,hcom.dis⟩
   ·by_cases e:k'=k
    ·subst e
     rw [get_map_set_same _ _ _ (by rw [hcom.size];omega)] at hz
     cases hz
     rw [upd_same,Deaf_own];exact hq'
    ·rw [get_map_set _ _ _ _ (Ne.symm e)] at hz
     obtain ⟨y,hy,rfl⟩:=Option.map_eq_some_iff.1 hz
     have hqy:=hcom.old k' y hk0' hk' hy
     rw [woken_quitsD hqy,upd_ne q _ e,Deaf_other t (Ne.symm e) _ hgk]
     exact hqy
   ·obtain ⟨x,hx,hsx⟩:=hcom.wk i hi
    exact ⟨x,by rw [get_map_set _ _ _ _ (by omega),hx,Option.map_some,hsx.woken],hsx⟩
   ·obtain ⟨r,hr⟩:=hcom.rel i hi hst
    exact ⟨r,hr.appOther hgk (by omega)⟩
   ·obtain ⟨u,rfl,hu⟩:=hcom.tr
    refine ⟨u++MemOp.ofEvents k g.frame.fn g.frame.place es,by simp,fun op hop=>(Array.mem_append.1 hop).elim (hu op) fun h=>⟨?_,.inr (.inr (hnt op h))⟩⟩
    obtain ⟨e,he,rfl⟩:=Go.Conc.mem_ofEvents h
    rcases bk_of_mute (Wg:=0) (hm e he) with h1|h1|⟨ad,wr,rfl,_⟩
    ·rw [ofEvent_loc_mark h1];simp
    ·rw [ofEvent_loc_mark h1];simp
    ·simp [ofEvent_cell]
   ·rcases Array.mem_append.1 hop with h|h
    ·exact hcom.gs op h
    ·have:=hgk op h;omega
   ·rcases Array.mem_append.1 hop with h|h
    ·exact hcom.seen op h x hx
    ·rw [hnt op h] at hx;cases hx
  refine ⟨_,_,(tag'.phi H.n (Vc H.n D),sumTo H.lo (upd q k m),M,f'),hrunT,?_,_,w,sl,j,D,M,O,_,tag',ob,f',d0,woken H.P g g' w a,st,sm,rfl,by rw [get_map_set _ _ _ _ (by omega),ha];rfl,hcs',hob,hcom',hwg,hmode.retag (Tg.kK htag),rfl⟩
  rw [Tg.phi_retag H.n _ htag]
  exact Prod.Lex.right _ (Prod.Lex.left _ _ (by omega))
theorem Dl {B d:Nat} (ok:H.Ok) (hP:dh d H.Shun B H.t0) (hg0:∀ op∈H.t0,op.g<H.lo) (hAr:∀ g w,Anch g w→g.status=.running) (hAn:∀ g w,Anch g w→∃ m,Goes H.P true (RWg H.ty H.Wg) DC0 (H.AtW1 Anch) m g w) (μ:Ms) (m:Machine) (t:Trace) (h:H.Inv Anch μ m t) :
  (∃ m₁ ops,stepT H.P m=(.next m₁,ops)∧H.Done m₁ (t++ops))∨∃ m₁ ops μ',stepT H.P m=(.next m₁,ops)∧Ms.lt H.n μ' μ∧H.Inv Anch μ' m₁ (t++ops):=by
 obtain ⟨gs,w,sl,j,D,M,O,q,tag,ob,f0,d0,a,st,sm,rfl,ha,hcs,hob,hcom,hwg,hmode,rfl⟩:=h
 obtain ⟨i,g,d,sl',hg,hrun,hstep⟩:=crowd_pick (P:=H.P) (w:=w) (sl:=sl) (Ep ok hAr ha hcs hcom) (someone_runs' hAr ha hcs hcom hmode)
 rw [hstep]
 have hcs':CS H Anch tag ob j f0 d0 a (w.at d):=hcs.rely fun x=>x
 have hcom':=hcom.at ok d
 have MN:H.Ob ob j O (w.at d):=⟨hob.at_⟩
 have hwg':WgAt H.ty H.Wg (w.at d) st sm:=hwg
 rcases Nat.eq_zero_or_pos i with rfl|hpos
 ·rw [ha] at hg;cases hg
  exact stepCaller ok hP hg0 hAn ha hcs' MN hcom' hwg' hmode hrun
 ·right
  rcases Nat.lt_or_ge i H.lo with hlt|hge
  ·exact Ma ok hAr ha hcs' MN hcom' hwg' hmode hpos hlt hg hrun
  ·have hlt:i<gs.size:=(Array.getElem?_eq_some_iff.1 hg).1
   rw [hcom.size] at hlt
   obtain ⟨k,rfl⟩:∃ k,i=H.lo+k:=⟨i - H.lo,by omega⟩
   exact stepWorker ok hAr ha hcs' MN hcom' hwg' hmode (by omega) hg hrun
theorem Dm {B d:Nat} (ok:H.Ok) (hP:dh d H.Shun B H.t0) (hg0:∀ op∈H.t0,op.g<H.lo) (hAr:∀ g w,Anch g w→g.status=.running) (hAn:∀ g w,Anch g w→∃ m,Goes H.P true (RWg H.ty H.Wg) DC0 (H.AtW1 Anch) m g w):∀ (μ:Ms) (m:Machine) (t:Trace),H.Inv Anch μ m t →
  ∃ N m' t',runNT H.P N m t=(.next m',t')∧H.Done m' t':=by
 intro μ
 induction μ using (Ms.wf H.n).induction with
 | _ μ ih=>
  intro m t h
  rcases Dl ok hP hg0 hAr hAn μ m t h with ⟨m₁,ops,h1,h2⟩|⟨m₁,ops,μ',h1,h2,h3⟩
  ·exact ⟨1,m₁,t++ops,by simp only [runNT,h1],h2⟩
  ·obtain ⟨N,m',t',h4,h5⟩:=ih μ' h2 m₁ _ h3
   exact ⟨N+1,m',t',by simp only [runNT,h1];exact h4,h5⟩
end
end Ren
end
