/- One starts n goroutines and waits for them: what holds of the machine at every moment; a step of a worker's. Conditions: none. -/
import Derived.Test.YthhmolonhpaepaaGreatDoorVJo
set_option linter.unusedVariables false
set_option linter.unusedSimpArgs false
section
namespace Ren
open Go Go.Conc Go.ConcN
open Go.ConcR (KK wgBlock WgAt stA smA rd wr Payload Aside2 DC0 Bk g_of_ofEvents again_blocked bk_of_mute ofEvent_loc_mark ofEvent_cell deafBehind_cons deafBehind_one)
section
variable (H:Ph)
structure Ph.Ok:Prop where
 EA:H.Wg<H.Low
 EC:H.C<H.Low
 CW:H.C≠H.Wg
 lo:0<H.lo
 n31:H.n<2147483648
 S:∀ c,H.S c→c<H.Low∧c≠H.C∧c≠H.Wg∧∀ a:Addr,a.block=c→¬ H.Shun (.cell a)
 shun:∀ l,H.Shun l→∃ a,l=.cell a∧a.block<H.Low∧a.block≠H.C∧a.block≠H.Wg
 good:∀ i O vals w w1,H.Good i O vals w→IR H.S O w w1→H.Good i O vals w1
structure Ph.Ob (ob:Option (Nat × Value)) (j:Nat) (O:Nat→Nat→Prop) (w:World):Prop where
 at_:∀ b v,ob=some (b,v)→w.heap[b]?=some (.cells #[v] H.tI)∧H.Low≤b∧∀ i,i<j→¬ O i b
variable [Payload]
structure Ph.Com (j:Nat) (gs:Array Goroutine) (w:World) (t:Trace) (D:Nat→WD) (M:Nat→WMs) (O:Nat→Nat→Prop) (q:Nat→Nat) (d0:Nat):Prop where
 jn:j≤H.n
 size:gs.size=H.lo+j
 old:∀ i g,0<i→i<H.lo→gs[i]?=some g→QuitsD H.P (q i) (Deaf t i) g
 wk:∀ i,i<j→∃ g,gs[H.lo+i]?=some g∧WS H i (D i) (M i) (O i) g w
 rest:∀ i,j≤i→D i=⟨7,0,0⟩
 kt:KT (ShN H.Wg) H.Shun (H.Own O) H.Rd H.lo (H.lo+j) t
 deaf0:Deaf t 0=d0
 deafW:∀ i,i<j→Deaf t (H.lo+i)=(D i).deaf
 above:∀ k,H.lo+j≤k→Deaf t k=0
 rel:∀ i,i<j→(D i).stage≤6→∃ r,RelBy (stA H.Wg) t (H.lo+i) r
 tr:∃ u,t=H.t0++u∧∀ op∈u,op.act≠.mark (.release (stA H.Wg))∧(op.g=0∨(H.lo≤op.g∧op.g<H.lo+j)∨op.act.touch?=none)
 gs:∀ op∈t,op.g<H.lo+j
 seen:∀ op∈t,∀ x,op.act.touch?=some x→x.loc.low w.heap.size
 tape:w.tape=H.w0.tape
 os:w.os=H.w0.os
 output:w.output=H.w0.output
 low:H.Low≤w.heap.size
 below:∀ c,c<H.Low→c≠H.C→c≠H.Wg→w.heap[c]?=H.w0.heap[c]?
 view:H.View w
 own:∀ i,i<j→∀ c,O i c→H.Low≤c∧c<w.heap.size
 dis:∀ i i' c,i<j→i' < j→O i c→O i' c→i=i'
variable (Anch:Goroutine→World→Prop)
def Ph.Inv (μ:Ms) (m:Machine) (t:Trace):Prop:=
 ∃ (gs:Array Goroutine) (w:World) (sl:Option (Nat × Nat)) (j:Nat) (D:Nat→WD) (M:Nat→WMs) (O:Nat→Nat→Prop) (q:Nat→Nat) (tag:Tg) (ob:Option (Nat × Value)) (f0 d0:Nat) (a:Goroutine) (st sm:Int),
  m=crowd gs w sl∧gs[0]?=some a∧CS H Anch tag ob j f0 d0 a w∧H.Ob ob j O w∧H.Com j gs w t D M O q d0∧WgAt H.ty H.Wg w st sm∧Mode H.n D tag.ct st sm∧μ=(tag.phi H.n (Vc H.n D),sumTo H.lo q,M,f0)
end
section
variable {H:Ph} [Payload] {Anch:Goroutine→World→Prop} {gs:Array Goroutine} {w w':World} {sl:Option (Nat × Nat)} {j:Nat} {D:Nat→WD} {M:Nat→WMs} {O:Nat→Nat→Prop} {q:Nat→Nat} {tag:Tg} {ob:Option (Nat × Value)} {f0 d0:Nat} {a:Goroutine}
 {t:Trace} {st sm:Int}
omit [Payload] in
theorem Ph.Ok.fam (ok:H.Ok) {j:Nat} (own:∀ i,i<j→∀ c,O i c→H.Low≤c) (dis:∀ i i' c,i<j→i' < j→O i c→O i' c→i=i'):Fam (ShN H.Wg) H.Shun (H.Own O) H.Rd H.lo (H.lo+j):=by
 refine ⟨?_,?_,?_,?_,?_,?_⟩
 ·rintro k k' l k1 k2 k3 k4 ⟨i,a,rfl,rfl,h⟩ ⟨i',a',rfl,e,h'⟩
  simp only [Loc.cell.injEq] at e
  subst e
  have hi:i<j:=by omega
  have hi':i' < j:=by omega
  rcases h with h|⟨h1,h2,h3⟩<;>rcases h' with h'|⟨h1',h2',h3'⟩
  ·rw [dis i i' _ hi hi' h h']
  ·have:=own i hi _ h;have:=ok.EC;omega
  ·have:=own i' hi' _ h';have:=ok.EC;omega
  ·have:i=i':=by omega
   rw [this]
 ·rintro k l k1 k2 ⟨i,a,rfl,rfl,h⟩ ⟨a',e,hs⟩
  simp only [Loc.cell.injEq] at e
  subst e
  obtain ⟨s1,s2,s3,s4⟩:=ok.S _ hs
  rcases h with h|⟨h1,h2,h3⟩
  ·have:=own i (by omega) _ h;omega
  ·exact s2 h1
 ·rintro k l k1 k2 ⟨i,a,rfl,rfl,h⟩ ⟨a',e,hs⟩
  simp only [Loc.cell.injEq] at e
  subst e
  rcases h with h|⟨h1,h2,h3⟩
  ·have:=own i (by omega) _ h;have:=ok.EA;omega
  ·exact ok.CW (h1.symm.trans hs)
 ·rintro k l k1 k2 ⟨i,a,rfl,rfl,h⟩ hs
  obtain ⟨a',e,s1,s2,s3⟩:=ok.shun _ hs
  simp only [Loc.cell.injEq] at e
  subst e
  rcases h with h|⟨h1,h2,h3⟩
  ·have:=own i (by omega) _ h;omega
  ·exact s2 h1
 ·rintro k l k1 k2 ⟨i,a,rfl,rfl,h⟩;rfl
 ·rintro l ⟨a,rfl,hs⟩ ⟨a',e,hw⟩
  simp only [Loc.cell.injEq] at e
  subst e
  exact (ok.S _ hs).2.2.1 hw
structure Ph.Turn (H:Ph) (i:Nat) (O:Nat→Prop) (w w1:World):Prop where
 ir:IR H.S O w w1
 live:WgLive H.ty H.Wg w→WgLive H.ty H.Wg w1
 slot:∀ o,8 * i≤o→o<8 * i+8→w1.cell? ⟨H.C,o,none⟩=w.cell? ⟨H.C,o,none⟩
omit [Payload] in
theorem Ph.Turn.at (i:Nat) (O:Nat→Prop) (w:World) (d:Nat):H.Turn i O w (w.at d):=⟨⟨Nat.le_refl _,fun _ _ _=>rfl,rfl⟩,id,fun _ _ _=>rfl⟩
theorem WS.turn (ok:H.Ok) {i:Nat} {d:WD} {m:WMs} {O:Nat→Prop} {g:Goroutine} {w w1:World} (h:WS H i d m O g w) (hO:∀ c,O c→c<w.heap.size) (ht:H.Turn i O w w1):WS H i d m O g w1:=by
 cases h with
 | La h=>exact .La (h.rely ht.ir)
 | @done s m d b val vals _ O1 _ _ h hb hO1 hg hs=>
  have eb:w1.heap[b]?=w.heap[b]?:=ht.ir.mine b (hO b hb) (.inr hb)
  refine .done (b:=b) (val:=val) (vals:=vals) (WSit.rely h ⟨fun b h=>by omega,ht.live,fun ⟨cs,hc,hn⟩=>⟨cs,eb.trans hc,hn⟩,cell_of_block eb 0⟩) hb hO1 (ok.good _ _ _ _ _ hg ⟨ht.ir.size,fun c hc hx=>ht.ir.mine c hc (hx.imp id fun x=>(hO1 c x).1),ht.ir.tape⟩) ⟨hs.1,fun j hj=>?_⟩
  rw [ht.slot _ (by omega) (by omega)];exact hs.2 j hj
theorem WS.status {i:Nat} {d:WD} {m:WMs} {O:Nat→Prop} {g:Goroutine} {w:World} (h:WS H i d m O g w):g.status=.running∨g.status=.finished:=by
 cases h with
 | La h=>
  cases h with
  | stop _ _ _ _ h=>exact .inl (h w (IR.refl _ _ _)).1
  | step _ _ _ _ hs=>exact .inl hs
 | done h=>exact WSit.status h
theorem WS.running {i:Nat} {d:WD} {m:WMs} {O:Nat→Prop} {g:Goroutine} {w:World} (h:WS H i d m O g w) (hs:d.stage≠1):g.status=.running:=by
 cases h with
 | La h=>
  cases h with
  | stop _ _ _ _ h=>exact (h w (IR.refl _ _ _)).1
  | step _ _ _ _ hs=>exact hs
 | done h=>exact WSit.running_of h hs
theorem WS.woken {i:Nat} {d:WD} {m:WMs} {O:Nat→Prop} {g:Goroutine} {w:World} (h:WS H i d m O g w) (x x':Goroutine) (w':World):woken H.P x x' w' g=g:=by
 unfold Go.Conc.woken
 split
 ·exact again_running _ h.status
 ·rfl
theorem CS.rely {f d:Nat} (h:CS H Anch tag ob j f d a w) (hr:RWg H.ty H.Wg w w'):CS H Anch tag ob j f d a w':=by
 cases h with
 | new hn h=>exact .new hn (Goes.rely RWg.trans h hr)
 | sto hn h=>exact .sto hn (Goes.rely RWg.trans h hr)
 | go hn h=>exact .go hn (Goes.rely RWg.trans h hr)
 | kd h=>exact .kd (Goes.rely RWg.trans h hr)
 | anch h=>exact .anch (Goes.rely RWg.trans h hr)
 | w1 h=>exact .w1 (Goes.rely RWg.trans h hr)
 | w2 h=>exact .w2 (Goes.rely RWg.trans h hr)
 | wr h=>exact .wr (Goes.rely RWg.trans h hr)
 | w3 h=>exact .w3 (Goes.rely RWg.trans h hr)
 | blk h=>exact .blk (fun w₂ h₂=>h w₂ (RWg.trans _ _ _ hr h₂))
 | w4 h=>exact .w4 (Goes.rely RWg.trans h hr)
 | ke h=>exact .ke (Goes.rely RWg.trans h hr)
 | acq h=>exact .acq (Goes.rely RWg.trans h hr)
omit [Payload] in
theorem RWg.refl (ty:TypeId) (Wg:Nat) (w:World):RWg ty Wg w w:=id
theorem CS.status (hAr:∀ g w,Anch g w→g.status=.running) {f d:Nat} (h:CS H Anch tag ob j f d a w):(a.status=.running∧tag≠.blk)∨(a.status=.blocked∧tag=.blk):=by
 have r:∀ {Stop:Goroutine→World→Prop} {m:Nat} {g:Goroutine},(∀ g w,Stop g w→g.status=.running)→Goes H.P true (RWg H.ty H.Wg) DC0 Stop m g w→g.status=.running:=fun hs h=>Goes.running hs w (RWg.refl _ _ w) h
 cases h with
 | new _ h=>exact .inl ⟨r (fun _ _ x=>x.1) h,by simp⟩
 | sto _ h=>exact .inl ⟨r (fun _ _ x=>x.1) h,by simp⟩
 | go _ h=>exact .inl ⟨r (fun _ _ x=>x.1) h,by simp⟩
 | kd h=>exact .inl ⟨r (fun _ _ x=>x.1) h,by simp⟩
 | anch h=>exact .inl ⟨r hAr h,by simp⟩
 | w1 h=>exact .inl ⟨r (fun _ _ x=>x.1) h,by simp⟩
 | w2 h=>exact .inl ⟨r (fun _ _ x=>x.1) h,by simp⟩
 | wr h=>exact .inl ⟨r (fun _ _ x=>x.1) h,by simp⟩
 | w3 h=>exact .inl ⟨r (fun _ _ x=>x.1) h,by simp⟩
 | blk h=>exact .inr ⟨rfl,rfl⟩
 | w4 h=>exact .inl ⟨r (fun _ _ x=>x.1) h,by simp⟩
 | ke h=>exact .inl ⟨r (fun _ _ x=>x.1) h,by simp⟩
 | acq h=>exact .inl ⟨r (fun _ _ x=>x.1) h,by simp⟩
theorem CS.wokenBy (hAr:∀ g w,Anch g w→g.status=.running) {f d:Nat} (h:CS H Anch tag ob j f d a w) (hr:RWg H.ty H.Wg w w') (g g':Goroutine) :
  ∃ tag' f',CS H Anch tag' ob j f' d (woken H.P g g' w' a) w'∧(tag'=tag∨(tag=.blk∧tag'=.w3))∧(mayWake H.P g=true→g'.status=.running→tag'≠.blk):=by
 have h':=h.rely hr
 unfold Go.Conc.woken
 split
 ·rcases h'.status hAr with ⟨hs,hne⟩|⟨_,rfl⟩
  ·exact ⟨tag,f,by rw [again_running _ (.inl hs)];exact h',.inl rfl,fun _ _=>hne⟩
  ·cases h' with
   | blk hb=>
    have h3:=hb w' (RWg.refl _ _ w')
    exact ⟨.w3,0+1,by rw [again_blocked h3.1 h3.2.1];exact .w3 (Goes.stop hb),.inr ⟨rfl,rfl⟩,fun _ _=>by simp⟩
 ·rename_i hc
  exact ⟨tag,f,h',.inl rfl,fun h1 h2=>absurd (by simp [h1,h2]) hc⟩
omit [Payload] in
theorem Tg.phi_retag (n v:Nat) {tag tag':Tg} (e:tag'=tag∨(tag=.blk∧tag'=.w3)):tag'.phi n v=tag.phi n v:=by
 rcases e with rfl|⟨rfl,rfl⟩<;>rfl
omit [Payload] in
theorem Tg.kK {tag tag':Tg} (e:tag'=tag∨(tag=.blk∧tag'=.w3)):tag'.ct=tag.ct∨(tag.ct=.blk∧tag'.ct=.w3):=by
 rcases e with rfl|⟨rfl,rfl⟩
 ·exact .inl rfl
 ·exact .inr ⟨rfl,rfl⟩
omit [Payload] in
theorem Tg.phi_mono (n:Nat) {v v':Nat} (h:v'≤v) (tag:Tg):tag.phi n v'≤tag.phi n v:=by
 cases tag<;>simp only [Tg.phi]<;>omega
structure Ph.Eff (H:Ph) (i:Nat) (Oi Oi':Nat→Prop) (w w':World):Prop where
 tape:w'.tape=w.tape
 os:w'.os=w.os
 output:w'.output=w.output
 size:w.heap.size≤w'.heap.size
 frame:∀ c,c<w.heap.size→¬ Oi c→c≠H.C→c≠H.Wg→w'.heap[c]?=w.heap[c]?
 view:H.View w'
 slots:∀ o,o<8 * i∨8 * i+8≤o→w'.cell? ⟨H.C,o,none⟩=w.cell? ⟨H.C,o,none⟩
 le:∀ c,Oi c→Oi' c
 fresh:∀ c,Oi' c→Oi c∨(w.heap.size≤c∧c<w'.heap.size)
theorem workerStep (ok:H.Ok) (hAr:∀ g w,Anch g w→g.status=.running) (ha:gs[0]?=some a) (hcs:CS H Anch tag ob j f0 d0 a w) (hob:H.Ob ob j O w) (hcom:H.Com j gs w t D M O q d0)
  {i:Nat} (hi:i<j) {g g':Goroutine} {es:Array Event} {d':WD} {m':WMs} {O':Nat→Prop} {st' sm':Int} (hg:gs[H.lo+i]?=some g) (hgo:stepG H.P false g w=.go g' w' es)
  (hws:WS H i d' m' O' g' w') (eff:H.Eff i (O i) O' w w') (hwg:WgAt H.ty H.Wg w' st' sm')
  (hok:∀ op∈MemOp.ofEvents (H.lo+i) g.frame.fn g.frame.place es,OpW (ShN H.Wg) (H.Own (upd O i O')) H.Rd (H.lo+i) op) (hlow:∀ e∈es,∀ x,(MemAct.ofEvent e).touch?=some x→x.loc.low w'.heap.size)
  (hnr:∀ e∈es,e.loc≠.mark (.release (stA H.Wg))) (hdeaf:deafBehind (D i).deaf es=d'.deaf)
  (hrel:d'.stage≤6→∃ r,RelBy (stA H.Wg) (t++MemOp.ofEvents (H.lo+i) g.frame.fn g.frame.place es) (H.lo+i) r)
  (hmode:∀ tag',(tag'=tag∨(tag=.blk∧tag'=.w3))→(mayWake H.P g=true→g'.status=.running→tag'≠.blk)→Mode H.n (upd D i d') tag'.ct st' sm')
  (hcnt:cnt d'≤cnt (D i)) (hlt:WMs.lt m' (M i)) :
  ∃ m₁ ops μ',runT H.P (crowd gs w sl) (H.lo+i)=(.next m₁,ops)∧Ms.lt H.n μ' (tag.phi H.n (Vc H.n D),sumTo H.lo q,M,f0)∧H.Inv Anch μ' m₁ (t++ops):=by
 have hlo:=ok.lo
 have hin:i<H.n:=Nat.lt_of_lt_of_le hi hcom.jn
 obtain ⟨tag',f',hcs',htag,hwk⟩:=hcs.wokenBy hAr (w':=w') (fun _=>⟨_,_,hwg⟩) g g'
 have hi0:(H.lo+i == 0)=false:=by simp;omega
 have hrun:=runT_crowd_go (P:=H.P) (sl:=sl) (i:=H.lo+i) hg (by rw [hi0];exact hgo)
 have AA:∀ op∈MemOp.ofEvents (H.lo+i) g.frame.fn g.frame.place es,op.g=H.lo+i:=fun op hop=>g_of_ofEvents op hop
 have hown':∀ i',i' < j→∀ c,upd O i O' i' c→H.Low≤c∧c<w'.heap.size:=by
  intro i' hi' c hc
  by_cases e:i'=i
  ·subst e
   rw [upd_same] at hc
   rcases eff.fresh c hc with h|⟨h1,h2⟩
   ·have:=hcom.own i' hi' c h;have:=eff.size;omega
   ·have:=hcom.low;omega
  ·rw [upd_ne O _ e] at hc
   have:=hcom.own i' hi' c hc;have:=eff.size;omega
 have GU:∀ i1 i2 c,i1<j→i2<j→upd O i O' i1 c→upd O i O' i2 c→i1=i2:=by
  have one:∀ i2 c,i2<j→i2≠i→O' c→O i2 c→False:=fun i2 c h2 hne h h'=>by
   rcases eff.fresh c h with h|⟨h1,_⟩
   ·exact hne (hcom.dis i i2 c hi h2 h h').symm
   ·have:=hcom.own i2 h2 c h';omega
  intro i1 i2 c h1 h2 hc1 hc2
  by_cases e1:i1=i<;>by_cases e2:i2=i
  ·rw [e1,e2]
  ·subst e1;rw [upd_same] at hc1;rw [upd_ne O _ e2] at hc2;exact (one i2 c h2 e2 hc1 hc2).elim
  ·subst e2;rw [upd_same] at hc2;rw [upd_ne O _ e1] at hc1;exact (one i1 c h1 e1 hc2 hc1).elim
  ·rw [upd_ne O _ e1] at hc1;rw [upd_ne O _ e2] at hc2;exact hcom.dis _ _ _ h1 h2 hc1 hc2
 have hfam:Fam (ShN H.Wg) H.Shun (H.Own (upd O i O')) H.Rd H.lo (H.lo+j):=ok.fam (fun i' h c hc=>(hown' i' h c hc).1) GU
 have hkt:KT (ShN H.Wg) H.Shun (H.Own (upd O i O')) H.Rd H.lo (H.lo+j) t:=by
  refine hcom.kt.widen ?_ ?_
  ·rintro k l _ _ ⟨i',a',rfl,rfl,h⟩
   refine ⟨i',a',rfl,rfl,h.imp (fun h=>?_) id⟩
   by_cases e:i'=i
   ·subst e;rw [upd_same];exact eff.le _ h
   ·rw [upd_ne O _ e];exact h
  ·rintro k l _ _ ⟨i',a',rfl,rfl,h⟩
   rcases h with h|h
   ·by_cases e:i'=i
    ·subst e
     rw [upd_same] at h
     rcases eff.fresh _ h with h|⟨h1,_⟩
     ·exact .inl ⟨i',a',rfl,rfl,.inl h⟩
     ·exact .inr (untouched hcom.seen h1)
    ·rw [upd_ne O _ e] at h;exact .inl ⟨i',a',rfl,rfl,.inl h⟩
   ·exact .inl ⟨i',a',rfl,rfl,.inr h⟩
 have hframe:∀ i',i' < j→i'≠i→∀ c,O i' c→w'.heap[c]?=w.heap[c]?:=fun i' h hne c hc=>by
  have h1:=hcom.own i' h c hc
  have:=ok.EC;have:=ok.EA
  exact eff.frame c h1.2 (fun hx=>hne (hcom.dis i i' c hi h hx hc).symm) (by omega) (by omega)
 have hS:∀ c,H.S c→w'.heap[c]?=w.heap[c]?:=fun c hc=>by
  obtain ⟨s1,s2,s3,_⟩:=ok.S c hc
  refine eff.frame c (Nat.lt_of_lt_of_le s1 hcom.low) (fun hx=>?_) s2 s3
  have:=hcom.own i hi c hx;omega
 have hturn:∀ i',i' < j→i'≠i→H.Turn i' (O i') w w':=fun i' h hne=>
  ⟨⟨eff.size,fun c _ hc=>hc.elim (hS c) (hframe i' h hne c),eff.tape⟩,fun _=>⟨_,_,hwg⟩,fun o h1 h2=>eff.slots o (by omega)⟩
 have hsz:((gs.map (woken H.P g g' w')).setIfInBounds (H.lo+i) g').size=gs.size:=by simp
 have hcom':H.Com j ((gs.map (woken H.P g g' w')).setIfInBounds (H.lo+i) g') w' (t++MemOp.ofEvents (H.lo+i) g.frame.fn g.frame.place es) (upd D i d') (upd M i m') (upd O i O') q d0:=by
  refine ⟨hcom.jn,hsz.trans hcom.size,fun k x hk0 hk hx=>?_,fun i' hi'=>?_,fun i' hi'=>?_,hkt.appW hfam (by omega) (by omega) hok,by rw [Deaf_other t (by omega) _ AA,hcom.deaf0],fun i' hi'=>?_,fun k hk=>?_,fun i' hi' hst=>?_,?_,
   fun op hop=>?_,?_,eff.tape.trans hcom.tape,eff.os.trans hcom.os,eff.output.trans hcom.output,Nat.le_trans hcom.low eff.size,fun c h1 h2 h3=>?_,eff.view,hown',GU⟩
  ·rw [get_map_set _ _ _ _ (by omega)] at hx
   obtain ⟨y,hy,rfl⟩:=Option.map_eq_some_iff.1 hx
   have hq:=hcom.old k y hk0 hk hy
   rw [woken_quitsD hq,Deaf_other t (by omega) _ AA]
   exact hq
  ·by_cases e:i'=i
   ·subst e
    exact ⟨g',get_map_set_same _ _ _ (by rw [hcom.size];omega),by rw [upd_same,upd_same,upd_same];exact hws⟩
   ·obtain ⟨x,hx,hsx⟩:=hcom.wk i' hi'
    refine ⟨x,by rw [get_map_set _ _ _ _ (by omega),hx,Option.map_some,hsx.woken],?_⟩
    rw [upd_ne D _ e,upd_ne M _ e,upd_ne O _ e]
    exact hsx.turn ok (fun c hc=>(hcom.own i' hi' c hc).2) (hturn i' hi' e)
  ·rw [upd_ne D _ (by omega)];exact hcom.rest i' hi'
  ·by_cases e:i'=i
   ·subst e;rw [Deaf_own,hcom.deafW i' hi',upd_same];exact hdeaf
   ·rw [Deaf_other t (by omega) _ AA,hcom.deafW i' hi',upd_ne D _ e]
  ·rw [Deaf_other t (by omega) _ AA];exact hcom.above k hk
  ·by_cases e:i'=i
   ·subst e;rw [upd_same] at hst;exact hrel hst
   ·rw [upd_ne D _ e] at hst
    obtain ⟨r,hr⟩:=hcom.rel i' hi' hst
    exact ⟨r,hr.appOther AA (by omega)⟩
  ·obtain ⟨u,rfl,hu⟩:=hcom.tr
   refine ⟨u++MemOp.ofEvents (H.lo+i) g.frame.fn g.frame.place es,by simp,fun op hop=>(Array.mem_append.1 hop).elim (hu op) fun h=>?_⟩
   have:=AA op h
   exact ⟨norel_of hnr op h,.inr (.inl (by omega))⟩
  ·rcases Array.mem_append.1 hop with h|h
   ·exact hcom.gs op h
   ·have:=AA op h;omega
  ·intro op hop x hx
   rcases Array.mem_append.1 hop with h|h
   ·exact Loc.low_mono eff.size (hcom.seen op h x hx)
   ·obtain ⟨e,he,rfl⟩:=Go.Conc.mem_ofEvents h
    exact hlow e he x hx
  ·have:w'.heap[c]?=w.heap[c]?:=eff.frame c (Nat.lt_of_lt_of_le h1 hcom.low) (fun hx=>by have:=hcom.own i hi c hx;omega) h2 h3
   rw [this];exact hcom.below c h1 h2 h3
 have MN:H.Ob ob j (upd O i O') w':=⟨fun b v hb=>by
  obtain ⟨h1,h2,h3⟩:=hob.at_ b v hb
  have hbl:b<w.heap.size:=(Array.getElem?_eq_some_iff.1 h1).1
  have:=ok.EC;have:=ok.EA
  refine ⟨(eff.frame b hbl (h3 i hi) (by omega) (by omega)).trans h1,h2,fun i' hi' hx=>?_⟩
  by_cases e:i'=i
  ·subst e
   rw [upd_same] at hx
   rcases eff.fresh _ hx with h|⟨h,_⟩
   ·exact h3 i' hi' h
   ·omega
  ·rw [upd_ne O _ e] at hx;exact h3 i' hi' hx⟩
 have e1:=sumTo_upd D d' cnt hin
 have hv:Vc H.n (upd D i d')≤Vc H.n D:=by simp only [Vc];omega
 refine ⟨_,_,(tag'.phi H.n (Vc H.n (upd D i d')),sumTo H.lo q,upd M i m',f'),hrun,?_,_,w',sl,j,_,_,_,q,tag',ob,f',d0,woken H.P g g' w' a,st',sm',rfl,by rw [get_map_set _ _ _ _ (by omega),ha];rfl,hcs',MN,hcom',hwg,hmode tag' htag hwk,rfl⟩
 rw [Tg.phi_retag H.n _ htag]
 rcases Nat.lt_or_ge (tag.phi H.n (Vc H.n (upd D i d'))) (tag.phi H.n (Vc H.n D)) with h|h
 ·exact Prod.Lex.left _ _ h
 ·have e:tag.phi H.n (Vc H.n (upd D i d'))=tag.phi H.n (Vc H.n D):=by have:=Tg.phi_mono H.n hv tag;omega
  rw [e]
  exact Prod.Lex.right _ (Prod.Lex.right _ (Prod.Lex.left _ _ ⟨i,hin,by rw [upd_same];exact hlt,fun j hj=>upd_ne M _ hj⟩))
end
end Ren
end
section
namespace Ren
open Go Go.Conc Go.ConcN
open Go.ConcR (KK wgBlock WgAt stA smA rd wr Payload Aside2 DC0 Bk g_of_ofEvents bk_of_mute ofEvent_loc_mark ofEvent_cell deafBehind_cons deafBehind_one)
section
variable {H:Ph} [Payload] {Anch:Goroutine→World→Prop} {gs:Array Goroutine} {w w':World} {sl:Option (Nat × Nat)} {j:Nat} {D:Nat→WD} {M:Nat→WMs} {O:Nat→Nat→Prop} {q:Nat→Nat} {tag:Tg} {ob:Option (Nat × Value)} {f0 d0:Nat} {a:Goroutine}
 {t:Trace} {st sm:Int}
omit [Payload] in
theorem fu {w w':World} {b:Nat} (h:w'.heap[b]?=w.heap[b]?) (o:Nat):w'.cell? ⟨b,o,none⟩=w.cell? ⟨b,o,none⟩:=cell_of_block h o
omit [Payload] in
theorem wU {w w':World} (h:H.View w) (e:w'.heap[H.C]?=w.heap[H.C]?):H.View w':=let ⟨cs,h1,h2⟩:=h;⟨cs,e.trans h1,h2⟩
omit [Payload] in
theorem Ph.Eff.of_wg (ok:H.Ok) {i:Nat} {Oi:Nat→Prop} (hv:H.View w) (hs:Aside H.Wg w w'):H.Eff i Oi Oi w w':=
 ⟨hs.tape,hs.os,hs.output,Nat.le_of_eq hs.size.symm,fun c _ _ _ h=>hs.block c h,wU hv (hs.block _ ok.CW),fun o _=>fu (hs.block _ ok.CW) o,fun _ h=>h,fun _ h=>.inl h⟩
omit [Payload] in
theorem opW_bk {k:Nat} {Ow:Nat→Loc→Prop} {fn:FuncId} {pos:String} {es:Array Event} (h:∀ e∈es,Bk H.Wg e):∀ op∈MemOp.ofEvents k fn pos es,OpW (ShN H.Wg) Ow H.Rd k op:=by
 intro op hop
 obtain ⟨e,he,rfl⟩:=Go.Conc.mem_ofEvents hop
 refine ⟨rfl,fun x hx=>?_⟩
 rcases h e he with h1|h1|⟨a,wr,rfl,ha⟩
 ·simp only [ofEvent_loc_mark h1] at hx;cases hx
 ·simp only [ofEvent_loc_mark h1] at hx;cases hx
 ·simp only [ofEvent_cell,MemAct.touch?,Option.some.injEq] at hx
  subst hx
  exact .inl ⟨⟨a,rfl,ha⟩,by simp⟩
omit [Payload] in
theorem JF {k:Nat} {Ow:Nat→Loc→Prop} {fn:FuncId} {pos:String} {es:Array Event} (h:∀ e∈es,(MemAct.ofEvent e).touch?=none):∀ op∈MemOp.ofEvents k fn pos es,OpW (ShN H.Wg) Ow H.Rd k op:=by
 intro op hop
 obtain ⟨e,he,rfl⟩:=Go.Conc.mem_ofEvents hop
 exact ⟨rfl,fun x hx=>by simp only [h e he] at hx;cases hx⟩
omit [Payload] in
theorem Lg {B:Nat} {e:Event} (h:Bk H.Wg e) (hB:H.Wg<B):∀ x,(MemAct.ofEvent e).touch?=some x→x.loc.low B:=by
 intro x hx
 rcases h with h1|h1|⟨a,wr,rfl,ha⟩
 ·simp only [ofEvent_loc_mark h1] at hx;cases hx
 ·simp only [ofEvent_loc_mark h1] at hx;cases hx
 ·simp only [ofEvent_cell,MemAct.touch?,Option.some.injEq] at hx
  subst hx
  show a.block<B;omega
omit [Payload] in
theorem mt_run {g:Goroutine} {P:Program} {m d:Nat} (h:QuitsD P m d g) (hd:d≠0):g.status=.running:=by
 cases m with
 | zero=>exact absurd h.2 hd
 | succ q=>exact h.elim (fun x=>absurd x.2 hd) (fun x=>x.1)
omit [Payload] in
theorem vW {s s':Nat} {x y:Rank} (h:s' < s):WMs.lt (s',x) (s,y):=Prod.Lex.left _ _ h
omit [Payload] in
theorem Gr (s m:Nat):WMs.lt (s,.nat m) (s,.nat (m+1)):=Prod.Lex.right _ (Rank.nat_lt m)
set_option maxHeartbeats 1600000 in
theorem stepWorker (ok:H.Ok) (hAr:∀ g w,Anch g w→g.status=.running) (ha:gs[0]?=some a) (hcs:CS H Anch tag ob j f0 d0 a w) (hob:H.Ob ob j O w) (hcom:H.Com j gs w t D M O q d0) (hwg:WgAt H.ty H.Wg w st sm) (hmode:Mode H.n D tag.ct st sm)
  {i:Nat} (hi:i<j) {g:Goroutine} (hg:gs[H.lo+i]?=some g) (hrun:g.status=.running) :
  ∃ m₁ ops μ',runT H.P (crowd gs w sl) (H.lo+i)=(.next m₁,ops)∧Ms.lt H.n μ' (tag.phi H.n (Vc H.n D),sumTo H.lo q,M,f0)∧H.Inv Anch μ' m₁ (t++ops):=by
 obtain ⟨g₁,hg₁,hs⟩:=hcom.wk i hi
 obtain rfl:g=g₁:=by rw [hg] at hg₁;exact Option.some.inj hg₁
 have hin:i<H.n:=Nat.lt_of_lt_of_le hi hcom.jn
 have hVj:=Vc_le H.n D
 have hn:=ok.n31
 generalize hDi:D i=Di at hs
 generalize hMi:M i=Mi at hs
 have hdk:Deaf t (H.lo+i)=Di.deaf:=by rw [hcom.deafW i hi,hDi]
 have hWs:H.Wg<w.heap.size:=Nat.lt_of_lt_of_le ok.EA hcom.low
 cases hs with
 | La h=>
  have hc7:cnt (D i)=1:=by rw [hDi];rfl
  have same:∀ m',Mode H.n (upd D i ⟨7,m',0⟩) tag.ct st sm:=fun m'=>by have:=hmode.same (i:=i) m' 0;rwa [hDi] at this
  cases h with
  | stop _ _ _ _ h=>
   obtain ⟨_,vals,O1,hv8,hgood,b,val,g',hb,hO1,hhas,hstep,m,hnext⟩:=h w (IR.refl _ _ _)
   obtain ⟨w',es,hgo,hp,hes⟩:=hstep hcom.view
   have hbC:b≠H.C:=by have:=hcom.own i hi b hb;have:=ok.EC;omega
   have hWC:H.Wg≠H.C:=Ne.symm ok.CW
   have hwg':WgAt H.ty H.Wg w' st sm:=hwg.of_block (hp.block _ hWC)
   refine workerStep ok hAr ha hcs hob hcom hi (d':=⟨7,m,0⟩) (m':=(7,.nat m)) (O':=O i) (st':=st) (sm':=sm) hg hgo ?_ ?_ hwg' ?_ ?_ ?_ ?_ (fun h=>absurd h (by simp)) (fun tag' ht _=>(same m).retag (Tg.kK ht)) (by rw [hc7];simp [cnt]) (by rw [hMi];exact vW (by omega))
   ·refine .done (b:=b) (val:=val) (vals:=vals) (O1:=O1) (.r0 (hnext w' ⟨_,_,hwg'⟩ ?_)) hb hO1 (ok.good _ _ _ _ _ hgood ⟨Nat.le_of_eq hp.size.symm,fun c _ hc=>hp.block c ?_,hp.tape⟩) hp.slot
    ·exact (fu (hp.block b hbC) 0).trans hhas
    ·rcases hc with hc|hc
     ·exact (ok.S c hc).2.1
     ·have:=hcom.own i hi c (hO1 c hc).1;have:=ok.EC;omega
   ·exact ⟨hp.tape,hp.os,hp.output,Nat.le_of_eq hp.size.symm,fun c _ _ h _=>hp.block c h,hp.view,fun o h=>hp.cells o h,fun _ h=>h,fun _ h=>.inl h⟩
   ·intro op hop
    obtain ⟨e,he,rfl⟩:=Go.Conc.mem_ofEvents hop
    obtain ⟨k,hk,rfl⟩:=hes e he
    refine ⟨rfl,fun x hx=>?_⟩
    simp only [ofEvent_cell,MemAct.touch?,Option.some.injEq] at hx
    subst hx
    exact .inr (.inl ⟨⟨i,_,rfl,rfl,.inr ⟨rfl,by simp,by simp;omega⟩⟩,rfl⟩)
   ·intro e he x hx
    obtain ⟨k,hk,rfl⟩:=hes e he
    simp only [ofEvent_cell,MemAct.touch?,Option.some.injEq] at hx
    subst hx
    show H.C<w'.heap.size
    rw [hp.size];have:=ok.EC;have:=hcom.low;omega
   ·intro e he
    obtain ⟨k,hk,rfl⟩:=hes e he
    simp
   ·rw [hDi];exact deafBehind_idle (fun e he=>by obtain ⟨k,hk,rfl⟩:=hes e he;simp) 0
  | step f _ _ _ _ g1 w1 O1 es1 h hn1=>
   obtain ⟨hgo,hd⟩:=h w (IR.refl _ _ _)
   have hnx:=hn1 w (IR.refl _ _ _)
   have hnot:∀ c,c<H.Low→¬ O i c:=fun c hc hx=>by have:=hcom.own i hi c hx;omega
   have hWg':(w1 w).heap[H.Wg]?=w.heap[H.Wg]?:=hd.same _ hWs (hnot _ ok.EA)
   have hC':(w1 w).heap[H.C]?=w.heap[H.C]?:=hd.same _ (Nat.lt_of_lt_of_le ok.EC hcom.low) (hnot _ ok.EC)
   refine workerStep ok hAr ha hcs hob hcom hi (d':=⟨7,0,0⟩) (m':=(8,f w)) (O':=O1 w) (st':=st) (sm':=sm) hg hgo (.La hnx) ?_ (hwg.of_block hWg') ?_ ?_ ?_ ?_ (fun h=>absurd h (by simp)) (fun tag' ht _=>(same 0).retag (Tg.kK ht)) (by rw [hc7];decide) (by rw [hMi];exact Prod.Lex.right _ ⟨f,w,rfl,rfl⟩)
   ·exact ⟨hd.tape,hd.os,hd.output,hd.size,fun c h1 h2 _ _=>hd.same c h1 h2,wU hcom.view hC',fun o _=>fu hC' o,hd.le,hd.fresh⟩
   ·intro op hop
    obtain ⟨e,he,rfl⟩:=Go.Conc.mem_ofEvents hop
    refine ⟨rfl,fun x hx=>?_⟩
    rcases hd.evs e he with ⟨ad,wr,rfl,h2⟩|rfl
    ·simp only [ofEvent_cell,MemAct.touch?,Option.some.injEq] at hx
     subst hx
     rcases h2 with h2|⟨rfl,h2⟩
     ·exact .inr (.inl ⟨⟨i,ad,rfl,rfl,.inl (by rw [upd_same];exact h2)⟩,rfl⟩)
     ·exact .inr (.inr ⟨⟨ad,rfl,h2⟩,rfl,rfl⟩)
    ·cases hx
   ·intro e he x hx
    rcases hd.evs e he with ⟨ad,wr,rfl,h2⟩|rfl
    ·simp only [ofEvent_cell,MemAct.touch?,Option.some.injEq] at hx
     subst hx
     show ad.block<(w1 w).heap.size
     have hsz:=hd.size
     rcases h2 with h2|⟨_,h2⟩
     ·rcases hd.fresh _ h2 with h3|h3
      ·have:=hcom.own i hi _ h3;omega
      ·exact h3.2
     ·have:=(ok.S _ h2).1;have:=hcom.low;omega
    ·cases hx
   ·intro e he
    rcases hd.evs e he with ⟨ad,wr,rfl,h2⟩|rfl<;>simp
   ·rw [hDi]
    refine deafBehind_idle (fun e he=>?_) 0
    rcases hd.evs e he with ⟨ad,wr,rfl,h2⟩|rfl<;>simp
 | @done s m d b val vals _ O1 _ _ hD hb hO1 hgood nJ=>
  have hbl:=hcom.own i hi b hb
  have hbW:b≠H.Wg:=by have:=ok.EA;omega
  have hbC:b≠H.C:=by have:=ok.EC;omega
  have hdk:Deaf t (H.lo+i)=d:=hdk
  -- bookkeeping
  have bookG:∀ {g':Goroutine} {w':World} {es:Array Event} {s' m' dd':Nat} {st' sm':Int},stepG H.P false g w=.go g' w' es→Aside H.Wg w w'→WgAt H.ty H.Wg w' st' sm'→(∀ e∈es,Bk H.Wg e) →
    (∀ jx e,es[jx]?=some e→(MemAct.ofEvent e).touch?=none∨0<deafBehind d (es.extract 0 jx))→H.KU b val s' m' dd' g' w'→deafBehind d es=dd'→s≤6 →
    (∀ tag',(tag'=tag∨(tag=.blk∧tag'=.w3))→(mayWake H.P g=true→g'.status=.running→tag'≠.blk)→Mode H.n (upd D i ⟨s',m',dd'⟩) tag'.ct st' sm')→(s' < s∨(s'=s∧m' + 1=m))→cnt ⟨s',m',dd'⟩≤cnt (D i) →
    ∃ m₁ ops μ',runT H.P (crowd gs w sl) (H.lo+i)=(.next m₁,ops)∧Ms.lt H.n μ' (tag.phi H.n (Vc H.n D),sumTo H.lo q,M,f0)∧H.Inv Anch μ' m₁ (t++ops):=by
   intro g' w' es s' m' dd' st' sm' hgo hAs hwg' hbk hd hs' hdd h6 hmode' hlt hcnt
   refine workerStep ok hAr ha hcs hob hcom hi (d':=⟨s',m',dd'⟩) (m':=(s',.nat m')) (O':=O i) hg hgo (.done hs' hb hO1 (ok.good _ _ _ _ _ hgood ⟨Nat.le_of_eq hAs.size.symm,fun c _ hc=>hAs.block c ?_,hAs.tape⟩) ⟨nJ.1,fun k hk=>?_⟩) (.of_wg ok hcom.view hAs) hwg' (opW_bk hbk) (fun e he=>Lg (hbk e he) (by rw [hAs.size];exact hWs)) (norel_of_Bk hbk) (by rw [hDi];exact hdd)
    (fun _=>let ⟨r,hr⟩:=hcom.rel i hi (by rw [hDi];exact h6);⟨r,hr.book hdk _ _ hbk hd⟩) hmode' hcnt (by rw [hMi];exact hlt.elim vW fun h=>by obtain ⟨rfl,rfl⟩:=h;exact Gr _ _)
   ·rcases hc with hc|hc
    ·exact (ok.S c hc).2.2.1
    ·have:=hcom.own i hi c (hO1 c hc).1;have:=ok.EA;omega
   ·rw [fu (hAs.block _ ok.CW)];exact nJ.2 k hk
  have book:∀ {g':Goroutine} {w':World} {es:Array Event} {s' m' dd':Nat} {st' sm':Int},stepG H.P false g w=.go g' w' es→Aside H.Wg w w'→WgAt H.ty H.Wg w' st' sm'→(∀ e∈es,Bk H.Wg e) →
    (∀ jx e,es[jx]?=some e→(MemAct.ofEvent e).touch?=none∨0<deafBehind d (es.extract 0 jx))→H.KU b val s' m' dd' g' w'→deafBehind d es=dd'→s≤6 →
    Mode H.n (upd D i ⟨s',m',dd'⟩) tag.ct st' sm'→(s' < s∨(s'=s∧m' + 1=m))→cnt ⟨s',m',dd'⟩≤cnt (D i) →
    ∃ m₁ ops μ',runT H.P (crowd gs w sl) (H.lo+i)=(.next m₁,ops)∧Ms.lt H.n μ' (tag.phi H.n (Vc H.n D),sumTo H.lo q,M,f0)∧H.Inv Anch μ' m₁ (t++ops):=
   fun hgo hAs hwg' hbk hd hs' hdd h6 hmode' hlt hcnt=>bookG hgo hAs hwg' hbk hd hs' hdd h6 (fun _ ht _=>hmode'.retag (Tg.kK ht)) hlt hcnt
  have same:∀ m',Mode H.n (upd D i ⟨s,m',d⟩) tag.ct st sm:=fun m'=>by have:=hmode.same (i:=i) m' d;rwa [hDi] at this
  have idle:∀ {g':Goroutine} {m':Nat},stepG H.P false g w=.go g' w #[]→H.KU b val s m' d g' w→m' + 1=m→s≤6 →
    ∃ m₁ ops μ',runT H.P (crowd gs w sl) (H.lo+i)=(.next m₁,ops)∧Ms.lt H.n μ' (tag.phi H.n (Vc H.n D),sumTo H.lo q,M,f0)∧H.Inv Anch μ' m₁ (t++ops):=by
   intro g' m' hgo hs' hm h6
   exact book hgo (.refl H.Wg w) hwg (by simp) (by simp) hs' rfl h6 (same m') (.inr ⟨rfl,hm⟩) (by rw [hDi];exact Nat.le_refl _)
  have hst:(D i).stage=s:=by rw [hDi]
  cases hD with
  | r0 h=>
   rcases Goes.cases h with hstop|⟨m',rfl,hstep⟩
   ·obtain ⟨_,hhas,g',hgo,m₂,hk⟩:=hstop w (RW.refl w)
    refine workerStep ok hAr ha hcs hob hcom hi (d':=⟨6,m₂,0⟩) (m':=(6,.nat m₂)) (O':=O i) hg hgo (.done (b:=b) (val:=val) (.k1 hk) hb hO1 hgood nJ) (.of_wg ok hcom.view (.refl _ w)) hwg (JF (by intro e he;simp at he;subst he;rfl)) (by intro e he x hx;simp at he;subst he;cases hx) (by intro e he;simp at he;subst he;simp [Go.ConcR.mk]) (by rw [hDi];rfl)
     (fun _=>⟨t.size,RelBy.new hdk _ _⟩) (fun _ ht _=>(hmode.counted hin (by omega) (.inl rfl) _ _).retag (Tg.kK ht)) (by rw [hDi];simp [cnt]) (by rw [hMi];exact vW (by omega))
   ·obtain ⟨g',w',es,hgo,⟨hac,hev⟩,hg'⟩:=hstep w (RW.refl w)
    have hWg':w'.heap[H.Wg]?=w.heap[H.Wg]?:=hac.block _ (Ne.symm hbW)
    have hC':w'.heap[H.C]?=w.heap[H.C]?:=hac.block _ (Ne.symm hbC)
    refine workerStep ok hAr ha hcs hob hcom hi (d':=⟨7,m',0⟩) (m':=(7,.nat m')) (O':=O i) hg hgo (.done (b:=b) (val:=val) (.r0 hg') hb hO1 (ok.good _ _ _ _ _ hgood ⟨Nat.le_of_eq hac.size.symm,fun c _ hc=>hac.block c ?_,hac.tape⟩) ⟨nJ.1,fun k hk=>(fu hC' _).trans (nJ.2 k hk)⟩)
     ⟨hac.tape,hac.os,hac.output,Nat.le_of_eq hac.size.symm,fun c _ h1 _ _=>hac.block c fun e=>h1 (e ▸ hb),wU hcom.view hC',fun o _=>fu hC' o,fun _ h=>h,fun _ h=>.inl h⟩ (hwg.of_block hWg') ?_ ?_ (fun e he=>(hev e he).2.2.2)
     (by rw [hDi];exact deafBehind_idle (fun e he=>⟨(hev e he).2.1,(hev e he).2.2.1⟩) 0) (fun h=>absurd h (by simp)) (fun _ ht _=>(same m').retag (Tg.kK ht)) (by rw [hDi];simp [cnt]) (by rw [hMi];exact Gr _ _)
    ·rcases hc with hc|hc
     ·have:=(ok.S c hc).1;omega
     ·exact (hO1 c hc).2
    ·intro op hop
     obtain ⟨e,he,rfl⟩:=Go.Conc.mem_ofEvents hop
     refine ⟨rfl,fun x hx=>?_⟩
     rcases ((hev e he).1 0 "").2 x hx with ⟨h1,h2,h3⟩|h1|⟨h1,_⟩
     ·refine .inl ⟨h1,?_⟩
      cases hk:x.kind<;>simp_all
     ·exact h1.elim
     ·exact h1.elim
    ·intro e he x hx
     rcases ((hev e he).1 0 "").2 x hx with ⟨⟨ad,h1,h2⟩,_⟩|h1|⟨h1,_⟩
     ·rw [h1];show ad.block<w'.heap.size
      rw [hac.size,h2];exact hWs
     ·exact h1.elim
     ·exact h1.elim
  | k1 h=>
   rcases Goes.cases h with hstop|⟨m',rfl,hstep⟩
   ·obtain ⟨_,g',hgo,m₂,hk⟩:=hstop w (RW.refl w)
    exact book hgo (.refl _ w) hwg (by intro e he;simp at he;subst he;exact .inl rfl) (by intro jx e he;exact .inl (by have:=Array.mem_of_getElem? he;simp at this;subst this;rfl)) (.d1 hk) rfl (by omega)
     (hmode.counted hin (by omega) (.inr rfl) _ _) (.inl (by omega)) (by rw [hDi];simp [cnt])
   ·obtain ⟨g',w',es,hgo,⟨rfl,rfl⟩,hg'⟩:=hstep w (RW.refl w)
    exact idle hgo (.k1 hg') rfl (by omega)
  | d1 h=>
   rcases Goes.cases h with hstop|⟨m',rfl,hstep⟩
   ·obtain ⟨_,hall⟩:=hstop w (RW.refl w)
    have hc1:cnt (D i)=1:=by rw [hDi];rfl
    have hV1:1≤Vc H.n D:=by have:=le_sumTo (f:=fun x=>cnt (D x)) hin;simp only [Vc];omega
    have bk2:∀ e∈#[rd (stA H.Wg),wr (stA H.Wg)],Bk H.Wg e:=by intro e he;simp at he;rcases he with rfl|rfl<;>exact bk_cell _ _ rfl
    have df2:∀ jx e,(#[rd (stA H.Wg),wr (stA H.Wg)]:Array Event)[jx]?=some e→(MemAct.ofEvent e).touch?=none∨0<deafBehind 1 ((#[rd (stA H.Wg),wr (stA H.Wg)]:Array Event).extract 0 jx):=by
     intro jx e he
     match jx,he with
     | 0,_=>exact .inr (by simp [deafBehind])
     | 1,_=>exact .inr (by simp [deafBehind,rd])
     | jx+2,he=>simp at he
    have hq0:∀ q,cnt (⟨1,q,1⟩:WD)=0:=fun _=>rfl
    have opq:∀ q,OpenSt H.n D→OpenSt H.n (upd D i ⟨1,q,1⟩):=fun q h a ha=>by
     by_cases e:a=i
     ·subst e;rw [upd_same];simp
     ·rw [upd_ne D _ e];exact h a ha
    generalize hct:tag.ct=ct at hmode
    have hpend:pend ct=0:=by subst hct;cases tag<;>simp [Tg.ct,pend]
    cases hmode with
    | opn h1 h2 h3=>
     obtain ⟨v,hv⟩:∃ v,Vc H.n D+pend ct=v+1:=⟨Vc H.n D+pend ct - 1,by omega⟩
     rw [hv] at hwg
     have hw1:WgAt H.ty H.Wg w (((v:Nat)+1) * KK+((0:Nat):Int)) 0:=by simpa using hwg
     obtain ⟨g',hgo,_,hq⟩:=hall v 0 (by omega) (by omega) hw1
     obtain ⟨q,hq⟩:=hq (by omega)
     have hv':Vc H.n (upd D i ⟨1,q,1⟩)+pend ct=v:=by have:=Vc_upd D (⟨1,q,1⟩:WD) hin;have:=hq0 q;omega
     refine book hgo (aside_setCell w (stA H.Wg) _) (hwg.setSt _) bk2 df2 (.quit hq) rfl (by omega) ?_ (.inl (by omega)) (by rw [hc1];simp [cnt])
     have e:((v:Nat):Int) * KK+((0:Nat):Int)=((Vc H.n (upd D i ⟨1,q,1⟩)+pend ct:Nat):Int) * KK:=by rw [hv'];simp
     rw [e,hct]
     exact .opn h1 (opq q h2) (fun vs ev=>by have:=h3 vs ev;omega)
    | reg h1 h2 h3=>
     obtain ⟨v,hv⟩:∃ v,Vc H.n D=v+1:=⟨Vc H.n D - 1,by omega⟩
     rw [hv] at hwg
     have hw1:WgAt H.ty H.Wg w (((v:Nat)+1) * KK+((1:Nat):Int)) 0:=by simpa using hwg
     obtain ⟨g',hgo,hl,hq⟩:=hall v 1 (by omega) (by omega) hw1
     by_cases hv0:v=0
     ·subst hv0
      obtain ⟨m₂,hk⟩:=hl ⟨rfl,rfl⟩
      refine book hgo (aside_setCell w (stA H.Wg) _) (hwg.setSt _) bk2 df2 (.d2 hk) rfl (by omega) ?_ (.inl (by omega)) (by rw [hc1];simp [cnt])
      have hoth:∀ a,a<H.n→a≠i→(D a).stage=1:=fun a ha e=>by
       have c0:=others_uncounted hin hv hc1 a ha e
       have:=h2 a ha
       simp only [cnt] at c0
       split at c0<;>omega
      have:=Mode.last (j:=H.n) (D:=upd D i ⟨4,m₂,1⟩) (tag:=ct) i h1 hin (by rw [upd_same];simp) (fun a ha e=>by rw [upd_ne D _ e];exact hoth a ha e)
      rw [upd_same] at this
      rw [hct]
      simpa using this
     ·obtain ⟨q,hq⟩:=hq (by omega)
      have hv':Vc H.n (upd D i ⟨1,q,1⟩)=v:=by have:=Vc_upd D (⟨1,q,1⟩:WD) hin;have:=hq0 q;omega
      refine book hgo (aside_setCell w (stA H.Wg) _) (hwg.setSt _) bk2 df2 (.quit hq) rfl (by omega) ?_ (.inl (by omega)) (by rw [hc1];simp [cnt])
      have e:((v:Nat):Int) * KK+((1:Nat):Int)=((Vc H.n (upd D i ⟨1,q,1⟩):Nat):Int) * KK+1:=by rw [hv'];simp
      rw [e,hct]
      exact .reg h1 (opq q h2) (by omega)
    | last L _ h2 h3 h4=>
     by_cases e:i=L
     ·subst e;omega
     ·have:=h4 i hin e;omega
    | sema h2=>have:=h2 i hin;omega
    | fin _ h2=>have:=h2 i hin;omega
   ·obtain ⟨g',w',es,hgo,⟨rfl,rfl⟩,hg'⟩:=hstep w (RW.refl w)
    exact idle hgo (.d1 hg') rfl (by omega)
  | d2 h=>
   rcases Goes.cases h with hstop|⟨m',rfl,hstep⟩
   ·obtain ⟨_,hx⟩:=hstop w (RW.refl w)
    obtain ⟨hW3,hoth,rfl,rfl⟩:=hmode.isLast hin (by omega)
    simp only [hst] at hwg
    obtain ⟨g',hgo,m₂,hk⟩:=hx (by simpa using hwg)
    refine book hgo (.refl _ w) hwg (by intro e he;simp at he;subst he;exact bk_cell _ _ rfl) (by intro jx e he;match jx,he with|0,_=>exact .inr (by simp [deafBehind])|jx+1,he=>simp at he) (.d3 hk) rfl (by omega) ?_ (.inl (by omega)) (by rw [hDi];simp [cnt])
    have:=Mode.last (j:=H.n) (D:=upd D i ⟨3,m₂,1⟩) (tag:=tag.ct) i hW3 hin (by rw [upd_same];simp) (fun a ha e=>by rw [upd_ne D _ e];exact hoth a ha e)
    rw [upd_same] at this
    simpa using this
   ·obtain ⟨g',w',es,hgo,⟨rfl,rfl⟩,hg'⟩:=hstep w (RW.refl w)
    exact idle hgo (.d2 hg') rfl (by omega)
  | d3 h=>
   rcases Goes.cases h with hstop|⟨m',rfl,hstep⟩
   ·obtain ⟨_,hx⟩:=hstop w (RW.refl w)
    obtain ⟨hW3,hoth,rfl,rfl⟩:=hmode.isLast hin (by omega)
    simp only [hst] at hwg
    obtain ⟨g',hgo,m₂,hk⟩:=hx (by simpa using hwg)
    refine book hgo (aside_setCell w (stA H.Wg) _) (hwg.setSt 0) (by intro e he;simp at he;subst he;exact bk_cell _ _ rfl) (by intro jx e he;match jx,he with|0,_=>exact .inr (by simp [deafBehind])|jx+1,he=>simp at he) (.d4 hk) rfl (by omega) ?_ (.inl (by omega)) (by rw [hDi];simp [cnt])
    have:=Mode.last (j:=H.n) (D:=upd D i ⟨2,m₂,1⟩) (tag:=tag.ct) i hW3 hin (by rw [upd_same];simp) (fun a ha e=>by rw [upd_ne D _ e];exact hoth a ha e)
    rw [upd_same] at this
    simpa using this
   ·obtain ⟨g',w',es,hgo,⟨rfl,rfl⟩,hg'⟩:=hstep w (RW.refl w)
    exact idle hgo (.d3 hg') rfl (by omega)
  | d4 h=>
   rcases Goes.cases h with hstop|⟨m',rfl,hstep⟩
   ·obtain ⟨_,hmw,hx⟩:=hstop w (RW.refl w)
    obtain ⟨hW3,hoth,rfl,rfl⟩:=hmode.isLast hin (by omega)
    simp only [hst] at hwg
    obtain ⟨g',hgo,q,hq⟩:=hx (by simpa using hwg)
    have hrun':g'.status=.running:=mt_run hq (by decide)
    refine bookG hgo (aside_setCell w (smA H.Wg) _) (hwg.setSm 1) (es:=semEvents (smA H.Wg)) ?_ ?_ (.quit hq) (by simp [deafBehind,semEvents]) (by omega) ?_ (.inl (by omega)) (by rw [hDi];simp [cnt])
    ·intro e he
     simp [semEvents] at he
     rcases he with rfl|rfl|rfl|rfl
     ·exact .inl rfl
     ·exact bk_cell _ _ rfl
     ·exact bk_cell _ _ rfl
     ·exact .inr (.inl rfl)
    ·intro jx e he
     match jx,he with
     | 0,he=>simp [semEvents] at he;subst he;exact .inl rfl
     | 1,_=>exact .inr (by simp [deafBehind,semEvents])
     | 2,_=>exact .inr (by simp [deafBehind,semEvents])
     | 3,he=>simp [semEvents] at he;subst he;exact .inl rfl
     | jx+4,he=>simp [semEvents] at he
    ·intro tag' ht hw
     have hnb:=hw hmw hrun'
     have e3:tag'.ct=.w3:=by
      rcases ht with rfl|⟨_,rfl⟩
      ·cases tag'<;>first|rfl|exact hW3.elim|exact absurd rfl hnb
      ·rfl
     rw [e3]
     simp only [if_true]
     exact .sema fun a ha=>by
      by_cases e:a=i
      ·subst e;rw [upd_same]
      ·rw [upd_ne D _ e];exact hoth a ha e
   ·obtain ⟨g',w',es,hgo,⟨rfl,rfl⟩,hg'⟩:=hstep w (RW.refl w)
    exact idle hgo (.d4 hg') rfl (by omega)
  | quit h=>
   cases m with
   | zero=>rw [h.1] at hrun;cases hrun
   | succ q=>
    rcases h with ⟨hf,_⟩|⟨_,g',es,hmute,hstep,hq⟩
    ·rw [hf] at hrun;cases hrun
    ·have hbk:∀ e∈es,Bk H.Wg e:=fun e he=>bk_of_mute (hmute e he)
     have hno:∀ jx e,es[jx]?=some e→(MemAct.ofEvent e).touch?=none∨0<deafBehind d (es.extract 0 jx):=fun jx e he=>.inl (touch_mute (hmute e (Array.mem_of_getElem? he)))
     exact book (hstep w) (.refl _ w) hwg hbk hno (.quit hq) rfl (by omega) (by have:=hmode.same (i:=i) q (deafBehind d es);rwa [hDi] at this) (.inr ⟨rfl,rfl⟩) (by rw [hDi];exact Nat.le_refl _)
end
end Ren
end
