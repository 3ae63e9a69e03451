/- A region that draws its order, operation by operation; a goroutine in company beside a block more. Conditions: none. -/
import Derived.Test.YthhmolonhpaepaaGreatDoorVJt
import Derived.Conc.CompanyDraw
import Derived.Test.YthhmolonhpaepaaGreatDoorVJk
import Derived.Test.YthhmolonhpaepaaGreatDoorVJG
import Derived.Test.YthhmolonhpaepaaGreatDoorVJo
set_option linter.unusedVariables false
set_option linter.unusedSimpArgs false
section
namespace Ren
open Go Go.Conc
section
variable {ops:Array Oper} {md:Region.Mode} {St:Type} {J:Array Bool→St→Prop} {Pg:List Nat→St→Prop}
theorem jZ {i:Nat} {listed:Array Bool} (h:i∈Region.ready md ops listed):i<ops.size∧listed.getD i true=false:=by
 obtain ⟨h1,o,h2,_⟩:=mem_ready.1 h
 exact ⟨(Array.getElem?_eq_some_iff.1 h2).1,h1⟩
theorem MH {l:List Bool} {i:Nat} (h:l[i]?=some false):(l.set i true).count false<l.count false:=by
 induction l generalizing i with
 | nil=>simp at h
 | cons x l ih=>
  cases i with
  | zero=>
   simp only [List.getElem?_cons_zero,Option.some.injEq] at h
   subst h
   simp
  | succ i=>
   simp only [List.getElem?_cons_succ] at h
   have:=ih h
   simp only [List.set_cons_succ,List.count_cons]
   omega
omit St J Pg in
theorem go_nil {listed:Array Bool} (h:Region.ready md ops listed=[]):∀ fuel t,Region.linearise.go md ops fuel t listed []=[]:=by
 intro fuel t
 cases fuel with
 | zero=>rfl
 | succ fuel=>
  simp only [Region.linearise.go]
  change (match (Region.ready md ops listed)[t % (Region.ready md ops listed).length]? with
   | some i=>Region.linearise.go md ops fuel (t / (Region.ready md ops listed).length) (listed.setIfInBounds i true) [i]
   | none=>[].reverse)=[]
  rw [h]
  rfl
theorem ni (hstep:∀ (listed:Array Bool) (s:St) (i:Nat) (rest:List Nat),listed.size=ops.size→J listed s→i∈Region.ready md ops listed→(Region.ready md ops (listed.setIfInBounds i true)=[]→rest=[])→(∀ s',J (listed.setIfInBounds i true) s'→Pg rest s')→Pg (i::rest) s)
  (hend:∀ (listed:Array Bool) (s:St),listed.size=ops.size→J listed s→Region.ready md ops listed=[]→Pg [] s) :
  ∀ (fuel t:Nat) (listed:Array Bool) (s:St),listed.size=ops.size→listed.toList.count false≤fuel→J listed s→Pg (Region.linearise.go md ops fuel t listed []) s:=by
 intro fuel
 induction fuel with
 | zero=>
  intro t listed s hs hc hJ
  refine hend listed s hs hJ ?_
  cases hr:Region.ready md ops listed with
  | nil=>rfl
  | cons i l=>
   exfalso
   obtain ⟨h1,h2⟩:=jZ (hr ▸ List.mem_cons_self:i∈Region.ready md ops listed)
   have h3:i<listed.size:=hs ▸ h1
   have h4:listed[i]=false:=by simpa [Array.getD_eq_getD_getElem?,Array.getElem?_eq_getElem h3] using h2
   have:false∈listed.toList:=by rw [← h4];simp
   have:=List.count_pos_iff.2 this
   omega
 | succ fuel ih=>
  intro t listed s hs hc hJ
  simp only [Region.linearise.go]
  change Pg (match (Region.ready md ops listed)[t % (Region.ready md ops listed).length]? with
   | some i=>Region.linearise.go md ops fuel (t / (Region.ready md ops listed).length) (listed.setIfInBounds i true) [i]
   | none=>[].reverse) s
  cases hi:(Region.ready md ops listed)[t % (Region.ready md ops listed).length]? with
  | none=>
   refine hend listed s hs hJ ?_
   cases hr:Region.ready md ops listed with
   | nil=>rfl
   | cons x xs=>
    rw [hr] at hi
    have hlt:t % (x::xs).length<(x::xs).length:=Nat.mod_lt _ (by simp)
    simp at hi
    simp at hlt
    omega
  | some i=>
   have hm:i∈Region.ready md ops listed:=List.mem_of_getElem? hi
   simp only []
   rw [linearise_go_acc,List.reverse_singleton,List.singleton_append]
   obtain ⟨h1,h2⟩:=jZ hm
   have h3:i<listed.size:=hs ▸ h1
   have h4:listed[i]=false:=by simpa [Array.getD_eq_getD_getElem?,Array.getElem?_eq_getElem h3] using h2
   refine hstep listed s i _ hs hJ hm (fun h=>go_nil h _ _) fun s' hJ'=>ih _ _ s' (by simpa using hs) ?_ hJ'
   have h5:listed.toList[i]?=some false:=by simp [h3,h4]
   have:=MH h5
   rw [Array.toList_setIfInBounds]
   omega
end
theorem lU {ops:Array Oper} {St:Type} {J:Array Bool→St→Prop} {Pg:List Nat→St→Prop} (mixed:Bool)
  (hstep:∀ (md:Region.Mode) (listed:Array Bool) (s:St) (i:Nat) (rest:List Nat),listed.size=ops.size→J listed s→i∈Region.ready md ops listed→(Region.ready md ops (listed.setIfInBounds i true)=[]→rest=[])→(∀ s',J (listed.setIfInBounds i true) s'→Pg rest s')→Pg (i::rest) s)
  (hend:∀ (md:Region.Mode) (listed:Array Bool) (s:St),listed.size=ops.size→J listed s→Region.ready md ops listed=[]→Pg [] s)
  (t:Nat) {s:St} (h:J (Array.replicate ops.size false) s):Pg (Region.schedule mixed ops t) s:=by
 unfold Region.schedule
 split
 ·exact ni (hstep .any) (hend .any) _ _ _ s (by simp) (by simp) h
 ·split
  ·exact ni (hstep .text) (hend .text) _ _ _ s (by simp) (by simp) h
  ·exact ni (hstep .gc) (hend .gc) _ _ _ s (by simp) (by simp) h
section
variable {P:Program} {main:Bool} {S O:Nat→Prop} {Fin:(Nat→Prop)→Goroutine→World→Prop} {g g':Goroutine} {w:World} {es:Array Event}
theorem dZ.draw {b:Frame} {a:Act} {id:Nat} {ops:Array Oper} {k:List Item} {cs:List Frame} (hn:∀ t,dZ P main S Fin O (G (b.at a (.inRegion ops (Region.schedule (P.follows .mixedOrders) ops t)::k)) cs) w) :
  dZ P main S Fin O (G (b.at a (.code (.region id ops true)::k)) cs) w:=
 .step O _ w rfl (fun w1=>G (b.at a (.inRegion ops (Region.schedule (P.follows .mixedOrders) ops (w1.tape w1.drawn (.order b.fn id)))::k)) cs) (fun w1=>{ w1 with drawn:=w1.drawn+1 }) (fun _=>O) (fun _=>#[])
  (fun w1 hi=>⟨stepG_region_draw,fun _ x=>x,fun _ x=>.inl x,fun c h1 h2=>absurd h1 (Nat.not_le.2 h2),Nat.le_refl _,fun _ _ _=>rfl,rfl,rfl,rfl,fun e hm=>by simp at hm⟩)
  fun w1 hi=>(hn _).rely ⟨hi.size,hi.mine,hi.tape⟩
theorem dZ.beside {b:Nat} {o:Option Obj} (h:dZ P main S Fin O g w) (hb:¬ O b) (hlt:b<w.heap.size) (ho:w.heap[b]?=o):∀ O2:Nat→Prop,(∀ c,O2 c↔O c∨c=b)→dZ P main S (fun O2 g w=>∃ O1,(∀ c,O2 c↔O1 c∨c=b)∧¬ O1 b∧w.heap[b]?=o∧Fin O1 g w) O2 g w:=by
 induction h with
 | stop O g w h=>exact fun O2 hO=>.stop O2 g w fun w1 hi=>⟨O,hO,hb,(hi.mine b hlt (.inr ((hO b).2 (.inr rfl)))).trans ho,h w1 ⟨hi.size,fun c hc x=>hi.mine c hc (x.imp _root_.id fun x=>(hO c).2 (.inl x)),hi.tape⟩⟩
 | step O g w hs g' w' O' es h hn ih=>
  intro O2 hO
  have hir:∀ w1,IR S O2 w w1→IR S O w w1:=fun w1 hi=>⟨hi.size,fun c hc x=>hi.mine c hc (x.imp _root_.id fun x=>(hO c).2 (.inl x)),hi.tape⟩
  have hb':∀ w1,IR S O w w1→¬ O' w1 b:=fun w1 hi x=>((h w1 hi).2.fresh b x).elim hb fun y=>by have:=hi.size;omega
  refine .step O2 g w hs g' w' (fun w1 c=>O' w1 c∨c=b) es (fun w1 hi=>?_) fun w1 hi=>?_
  ·obtain ⟨h1,h2⟩:=h w1 (hir w1 hi)
   refine ⟨h1,fun c x=>((hO c).1 x).imp (h2.le c) _root_.id,fun c x=>x.elim (fun x=>(h2.fresh c x).imp (fun x=>(hO c).2 (.inl x)) _root_.id) fun e=>.inl ((hO c).2 (.inr e)),fun c x y=>.inl (h2.all c x y),h2.size,fun c x y=>h2.same c x fun z=>y ((hO c).2 (.inl z)),h2.tape,h2.os,h2.output,fun e he=>?_⟩
   exact (h2.evs e he).imp (fun ⟨a,wr,e1,e2⟩=>⟨a,wr,e1,e2.imp (fun x=>.inl x) _root_.id⟩) _root_.id
  ·have h1:w1.heap[b]?=w.heap[b]?:=hi.mine b hlt (.inr ((hO b).2 (.inr rfl)))
   exact ih w1 (hir w1 hi) (hb' w1 (hir w1 hi)) (Nat.lt_of_lt_of_le hlt (Nat.le_trans hi.size (h w1 (hir w1 hi)).2.size)) (((h w1 (hir w1 hi)).2.same b (Nat.lt_of_lt_of_le hlt hi.size) hb).trans (h1.trans ho)) _ fun c=>Iff.rfl
theorem dZ.wider {S2:Nat→Prop} (h:dZ P main S Fin O g w) (hS:∀ c,S c→S2 c):dZ P main S2 Fin O g w:=by
 have hir:∀ {O:Nat→Prop} {w w1:World},IR S2 O w w1→IR S O w w1:=fun hi=>⟨hi.size,fun c hc x=>hi.mine c hc (x.imp (hS c) _root_.id),hi.tape⟩
 induction h with
 | stop O g w h=>exact .stop O g w fun w1 hi=>h w1 (hir hi)
 | step O g w hs g' w' O' es h hn ih=>
  refine .step O g w hs g' w' O' es (fun w1 hi=>?_) fun w1 hi=>ih w1 (hir hi)
  obtain ⟨h1,h2⟩:=h w1 (hir hi)
  exact ⟨h1,h2.le,h2.fresh,h2.all,h2.size,h2.same,h2.tape,h2.os,h2.output,fun e he=>(h2.evs e he).imp (fun ⟨a,wr,e1,e2⟩=>⟨a,wr,e1,e2.imp _root_.id fun x=>⟨x.1,hS _ x.2⟩⟩) _root_.id⟩
theorem dZ.keep {w0:World} (h:dZ P main S Fin O g w):(∀ c,S c→c<w0.heap.size∧¬ O c∧w.heap[c]?=w0.heap[c]?)→w0.heap.size≤w.heap.size→(∀ c,O c→w0.heap.size≤c)→dZ P main S (fun O g w=>Fin O g w∧(∀ c,S c→w.heap[c]?=w0.heap[c]?)∧w0.heap.size≤w.heap.size∧∀ c,O c→w0.heap.size≤c) O g w:=by
 induction h with
 | stop O g w h=>exact fun h1 h2 h3=>.stop O g w fun w1 hi=>⟨h w1 hi,fun c hc=>(hi.mine c (Nat.lt_of_lt_of_le (h1 c hc).1 h2) (.inl hc)).trans (h1 c hc).2.2,Nat.le_trans h2 hi.size,h3⟩
 | step O g w hs g' w' O' es h hn ih=>
  intro h1 h2 h3
  refine .step O g w hs g' w' O' es h fun w1 hi=>ih w1 hi (fun c hc=>?_) (Nat.le_trans (Nat.le_trans h2 hi.size) (h w1 hi).2.size) fun c hc=>((h w1 hi).2.fresh c hc).elim (h3 c) fun x=>Nat.le_trans (Nat.le_trans h2 hi.size) x.1
  obtain ⟨k1,k2,k3⟩:=h1 c hc
  have k4:c<w1.heap.size:=Nat.lt_of_lt_of_le k1 (Nat.le_trans h2 hi.size)
  exact ⟨k1,fun x=>((h w1 hi).2.fresh c x).elim k2 fun y=>by omega,((h w1 hi).2.same c k4 k2).trans ((hi.mine c (Nat.lt_of_lt_of_le k1 h2) (.inl hc)).trans k3)⟩
end
end Ren
end
section
namespace Ren
open Go Go.Conc
variable [aW] {P:Program}
section
variable {F:Nat→Option (List Nat)} {n0:Nat} {main:Bool} {S O:Nat→Prop} {R:Value→World→Prop} {c:Frame} {cs:List Frame} {g:Goroutine} {w:World}
omit [aW] in
theorem dZ.bind2 {Fin Fin':(Nat→Prop)→Goroutine→World→Prop} (h:dZ P main S Fin O g w) (k:∀ O g w,(∀ w1,IR S O w w1→Fin O g w1)→dZ P main S Fin' O g w):dZ P main S Fin' O g w:=by
 induction h with
 | stop O g w h=>exact k _ _ _ h
 | step O g w hs g' w' O' es h hn ih=>exact .step O g w hs g' w' O' es h ih
def Ey (R:Value→World→Prop) (n0:Nat) (S:Nat→Prop) (c:Frame) (cs:List Frame) (O:Nat→Prop) (g:Goroutine) (w:World):Prop:=
 ∃ (ρ:Map) (v v':Value) (wl:World),g=G (c.finish v') cs∧VR ρ v v'∧HR ρ n0 wl w∧R v wl∧(∀ b c,ρ b c→b<n0→S c)∧∀ c,O c↔nz ρ n0 c
theorem HR.retape {ρ:Map} {wl w:World} (h:HR ρ n0 wl w) (t:Nat→Question→Nat) (d:Nat):HR ρ n0 (wl.af t d) (w.af t d):=⟨h.inj,h.fn,h.cells,rfl,rfl,h.low,h.AL,h.shz⟩
theorem FT (hF:jo P F) (hR:∀ v w t d,R v w→R v (w.af t d)) (h:FinR P F (c::cs) (Back P R) n0 S O g w) (hst:∀ w1,IR S O w w1→FinR P F (c::cs) (Back P R) n0 S O g w1):dZ P main S (Ey R n0 S c cs) O g w:=by
 have key:∀ w1,IR S O w w1→∃ x:Goroutine × World × (Nat→Prop) × Array Event,stepG P main g w1=.go x.1 x.2.1 x.2.2.2∧Does S O x.2.2.1 w1 x.2.1 x.2.2.2∧Ey R n0 S c cs x.2.2.1 x.1 x.2.1:=by
  intro w1 hi
  obtain ⟨ρ,f,J,T,T',k,wl,hJ,rfl,hT,hh,⟨hm,t,d,v,hl,hv⟩,hS,hO⟩:=hst w1 hi
  obtain ⟨fn,cd,hf1,hf2,hf3⟩:=hF f J hJ
  obtain ⟨_,_,_,fn',hf',hr⟩:=hl
  have e1:fn'=fn:=Option.some.inj (hf'.symm.trans hf1)
  subst e1
  obtain ⟨r,wr,n,fs,h1,h2⟩:=(jX (P:=P) fn' hT).win (es:=#[]) (hh.retape t d)
  have h3:=Sem.runT_fst P (results fn' T) (wl.af t d) #[]
  rw [h1] at h3
  have h4:Result.qa r (wr.af t (d+n))=.ok v (wl.af t d):=h3.trans hr
  cases r with
  | halt x u=>cases h4
  | ok v0 u=>
   simp only [Result.qa,Result.ok.injEq] at h4
   obtain ⟨rfl,e⟩:=h4
   have en:n=0:=by have:=congrArg World.drawn e;simp only [World.af] at this;omega
   subst en
   have ew:wr.af wl.tape wl.drawn=wl:=by have:=congrArg (fun w:World=>w.af wl.tape wl.drawn) e;exact this
   have h5:=h2 wl.tape wl.drawn (fun i q hi=>absurd hi (by omega))
   rw [Nat.add_zero] at h5
   have h6:(results fn' T).runT P wl #[]=(.ok v0 wl,fs):=by
    have:wl.af wl.tape wl.drawn=wl:=rfl
    rw [this] at h5
    simp only [Result.qa] at h5
    rw [ew] at h5
    exact h5
   obtain ⟨σ,v',wc',gs,k1,k2,k3,k4⟩:=RS.run (es':=#[]) (jX (P:=P) fn' hT) hh h6
   rw [Array.empty_append] at k1
   have k5:Grow ρ σ n0 wl w1 wl wc' (seen P f gs):=⟨k4.le,k4.fresh,k4.mine,k4.xy,k4.size,k4.same,k4.tape,k4.os,k4.output,fun e he=>k4.evs e (mem_seen he)⟩
   obtain ⟨k6,k7⟩:=H6 hh.low hS hO k5
   exact ⟨(_,_,_,_),bL hf1 k1,k6,σ,v0,v',wl,rfl,k2,k3,hR v0 (wl.af t d) wl.tape wl.drawn hv,k7,fun c=>Iff.rfl⟩
 have hrun:g.status=.running:=by
  obtain ⟨ρ,f,J,T,T',k,wl,hJ,rfl,_⟩:=h
  rfl
 classical
 let pick:World→Goroutine × World × (Nat→Prop) × Array Event:=fun w1=>if hi:IR S O w w1 then Classical.choose (key w1 hi) else (g,w1,O,#[])
 have hp:∀ w1,IR S O w w1→stepG P main g w1=.go (pick w1).1 (pick w1).2.1 (pick w1).2.2.2∧Does S O (pick w1).2.2.1 w1 (pick w1).2.1 (pick w1).2.2.2∧Ey R n0 S c cs (pick w1).2.2.1 (pick w1).1 (pick w1).2.1:=fun w1 hi=>by
  simp only [pick,hi,↓reduceDIte];exact Classical.choose_spec (key w1 hi)
 refine .step O g w hrun (fun w1=>(pick w1).1) (fun w1=>(pick w1).2.1) (fun w1=>(pick w1).2.2.1) (fun w1=>(pick w1).2.2.2) (fun w1 hi=>⟨(hp w1 hi).1,(hp w1 hi).2.1⟩) fun w1 hi=>.stop _ _ _ fun w2 h2=>?_
 obtain ⟨ρ,v,v',wl,e1,e2,e3,e4,e5,e6⟩:=(hp w1 hi).2.2
 exact ⟨ρ,v,v',_,e1,e2,e3.turn e5 e6 h2,hR _ _ _ _ e4,e5,e6⟩
theorem vC (hG:P.globals.size≤aW.g) (hF:jo P F) (hR:∀ v w t d,R v w→R v (w.af t d)) {f:FuncId} {J:List Nat} (hJ:F f=some J) {args args':Array Value} {ρ:Map} {wl:World} (hargs:RR ρ args args') (hle:∀ t∈J,args.size≤t)
  (hh:HR ρ n0 (wl.af w.tape w.drawn) w) (hS:∀ b c,ρ b c→b<n0→S c) (hO:∀ c,O c↔nz ρ n0 c) (hC:∀ T,Calls P f args (wl.af T 0) (fun e w'=>∃ v,e=.returned v∧R v w')) :
  dZ P main S (Ey R n0 S c cs) O (G (Frame.enter P f args' .normal) (c::cs)) w:=by
 obtain ⟨fn,cd,hf1,hf2,hf3⟩:=hF f J hJ
 have hfr:FR P F ρ (Frame.enter P f args .normal) (Frame.enter P f args' .normal):=by
  rw [enter_at args hf1 hf2,enter_at args' hf1 hf2]
  refine .run f J _ _ _ hJ (fun y hy=>?_) (fun t ht=>?_) ?_
  ·simp only [List.mem_singleton] at hy;subst hy;exact hf3
  ·right
   have hle:=hle t ht
   simp only [Array.getD_eq_getD_getElem?,Array.getElem?_append,Nat.not_lt.2 hle,↓reduceIte]
   by_cases hlt:t - args.size<fn.ntmps - args.size
   ·simp [hlt,undef]
   ·simp [hlt,undef]
  ·rw [← hargs.size]
   exact hargs.append ⟨rfl,fun i h1 h2=>by simpa using gV⟩
 have h0:Gd P F (c::cs) n0 (G (Frame.enter P f args .normal) [trap P]) wl:=⟨ρ,_,_,_,_,w,rfl,hfr,.ground,hh⟩
 have hr:=xM hG hF h0 hC
 exact (Ad hG hF (fun fr w h=>h.1) hr rfl hfr .ground hh hS hO).bind2 fun O g w hst=>FT hF hR (hst w (IR.refl _ _ _)) hst
end
end Ren
end
section
namespace Ren
open Go Go.Conc
section
variable {P:Program} {A:Addr→Bool→Prop}
def Tch (P:Program) (A:Addr→Bool→Prop) {α:Type}:Sem α→Prop
 | .pure _|.halt _=>True
 | .load m a k=>m=.plain∧A a false∧∀ v,Tch P A (k v)
 | .store m a _ k=>m=.plain∧A a true∧Tch P A k
 | .program k=>Tch P A (k P)
 | _=>False
theorem Tch.bind {α β:Type} {s:Sem α} {f:α→Sem β} (h:Tch P A s) (k:∀ a,Tch P A (f a)):Tch P A (s.bind f):=by
 induction s with
 | pure a=>exact k a
 | halt x=>trivial
 | load m a q ih=>exact ⟨h.1,h.2.1,fun v=>ih v (h.2.2 v)⟩
 | store m a v q ih=>exact ⟨h.1,h.2.1,ih h.2.2⟩
 | program q ih=>exact ih P h
 | _=>exact h.elim
theorem Tch.bnd {α β:Type} {s:Sem α} {f:α→Sem β} (h:Tch P A s) (k:∀ a,Tch P A (f a)):Tch P A (s >>= f):=h.bind k
theorem Tch.sound {α:Type} {s:Sem α}:∀ {w:World} {es:Array Event} {r:Result α} {fs:Array Event},Tch P A s→(∀ a wr,A a wr→∃ xs e z,w.heap[a.block]?=some (.cells xs e z))→s.runT P w es=(r,fs) →
  ∀ e∈fs,e∈es∨∃ a wr,e=⟨.cell a,wr,false⟩∧A a wr:=by
 induction s with
 | pure a=>intro w es r fs h hw hr e he;rw [Sem.runT] at hr;cases hr;exact .inl he
 | halt x=>intro w es r fs h hw hr e he;rw [Sem.runT] at hr;cases hr;exact .inl he
 | load m a q ih=>
  rintro w es r fs ⟨rfl,ha,hk⟩ hw hr e he
  rw [Sem.runT] at hr
  cases hc:w.cell? a with
  | some v=>
   rw [hc] at hr
   rcases ih v (hk v) hw hr e he with h|h
   ·rcases Array.mem_push.1 h with h|h
    ·exact .inl h
    ·exact .inr ⟨a,false,h,ha⟩
   ·exact .inr h
  | none=>
   obtain ⟨xs,e',z,h1⟩:=hw a false ha
   simp only [hc,World.farLoad,h1,Prod.mk.injEq] at hr
   rw [← hr.2] at he
   exact .inl he
 | store m a v q ih=>
  rintro w es r fs ⟨rfl,ha,hk⟩ hw hr e he
  have hw':∀ b wr,A b wr→∃ xs e z,(w.setCell a v).heap[b.block]?=some (.cells xs e z):=fun b wr hb=>by
   obtain ⟨xs,e',z,h1⟩:=hw b wr hb
   simp only [World.setCell,Array.getElem?_modify]
   by_cases h:a.block=b.block
   ·simp only [h,↓reduceIte,h1];exact ⟨_,_,_,rfl⟩
   ·simp only [h,↓reduceIte,h1];exact ⟨_,_,_,rfl⟩
  have gen:(∀ c,v≠.agg c)→(∀ c,v≠.tuple c)→e∈es∨∃ a wr,e=⟨.cell a,wr,false⟩∧A a wr:=by
   intro n1 n2
   rw [eU n1 n2] at hr
   split at hr
   ·split at hr
    ·simp only [Prod.mk.injEq] at hr
     rw [← hr.2] at he
     exact .inl he
    ·rcases ih hk hw' hr e he with h|h
     ·rcases Array.mem_push.1 h with h|h
      ·exact .inl h
      ·exact .inr ⟨a,true,h,ha⟩
     ·exact .inr h
   ·rename_i hc
    obtain ⟨xs,e',z,h1⟩:=hw a true ha
    simp only [World.farStore,h1,Prod.mk.injEq] at hr
    rw [← hr.2] at he
    exact .inl he
  by_cases hv:(∃ c,v=.agg c)∨∃ c,v=.tuple c
  ·rw [cO hv] at hr
   simp only [Prod.mk.injEq] at hr
   rw [← hr.2] at he
   exact .inl he
  ·exact gen (fun c e=>hv (.inl ⟨c,e⟩)) (fun c e=>hv (.inr ⟨c,e⟩))
 | program q ih=>intro w es r fs h hw hr e he;rw [Sem.runT] at hr;exact ih P h hw hr e he
 | _=>intro w es r fs h;exact h.elim
theorem xk (t:TypeId):Tch P A (typeInfo t):=by
 unfold typeInfo
 refine Tch.bnd (s:=program) (show Tch P A (.program .pure) from trivial) fun p=>?_
 split<;>trivial
theorem si (t:TypeId):Tch P A (underlying t):=by
 unfold underlying
 refine Tch.bnd (s:=program) (show Tch P A (.program .pure) from trivial) fun p=>?_
 split<;>trivial
theorem EI (t:TypeId):Tch P A (isAgg t):=by
 unfold isAgg
 refine Tch.bnd (si t) fun u=>?_
 split<;>trivial
theorem tK (t:TypeId):Tch P A (sizeOf t):=by
 unfold Go.sizeOf
 exact Tch.bnd (xk t) fun _=>trivial
theorem Iy (a:Addr) (n:Nat):(a.add n).block=a.block∧(a.spot=none→a.add n=⟨a.block,a.off+n,none⟩):=by
 unfold Addr.add
 obtain ⟨b,o,s⟩:=a
 split
 ·rename_i h;subst h;exact ⟨rfl,fun h=>by simp at h;subst h;rfl⟩
 ·exact ⟨rfl,fun h=>by simp at h ⊢⟩
theorem iB {a:Addr} (h:∀ b:Addr,b.block=a.block→A b false):∀ (n i:Nat) (xs:Array Value),Tch P A (loadCellsFrom a i n xs)
 | 0,_,_=>trivial
 | n+1,i,_=>Tch.bnd (s:=load (a.add i)) ⟨rfl,h _ (Iy a i).1,fun _=>trivial⟩ fun v=>iB h n (i+1) _
theorem zz (t:TypeId) {a:Addr} (h:∀ b:Addr,b.block=a.block→A b false):Tch P A (loadVar t a):=by
 unfold loadVar
 refine Tch.bnd (EI t) fun b=>?_
 split
 ·exact Tch.bnd (tK t) fun n=>Tch.bnd (iB h n 0 _) fun cs=>trivial
 ·exact ⟨rfl,h _ rfl,fun _=>trivial⟩
theorem kN {a:Addr} {N:Nat} (h:∀ j,j<N→A (a.add j) true):∀ (l:List Value) (i:Nat),i+l.length≤N→Tch P A (storeCells a l i)
 | [],_,_=>trivial
 | v::l,i,hl=>Tch.bnd (s:=store (a.add i) v) ⟨rfl,h _ (by simp at hl;omega),trivial⟩ fun _=>kN h l (i+1) (by simp at hl;omega)
theorem xm (t:TypeId) {a:Addr} {v:Value} (h:∀ j,j<v.cells.size→A (a.add j) true):Tch P A (storeVar t a v):=by
 unfold storeVar
 refine Tch.bnd (tK t) fun n=>?_
 split
 ·trivial
 ·exact kN h _ _ (by simp)
end
section
variable {P:Program} {main:Bool} {a:Act} {o:Oper} {fn:FuncId} {w:World} {t:TypeId} {x y:Operand} {ad:Addr}
theorem HV (hop:o.op=.load t x) (hx:a.eval x=.pointer (some ad)) (hb:∃ xs e z,w.heap[ad.block]?=some (.cells xs e z)):∀ e∈listed P fn a o w,∃ b:Addr,e=⟨.cell b,false,false⟩∧b.block=ad.block:=by
 intro e he
 have hm:=mem_listed he
 have ht:Tch P (fun b wr=>b.block=ad.block∧wr=false) (execOp a.eval o):=by
  unfold execOp
  simp only [hop,hx]
  exact Tch.bnd (s:=Instr.loadAt t (.pointer (some ad))) (zz t fun b hb=>⟨hb,rfl⟩) fun v=>trivial
 rcases ht.sound (es:=#[]) (fun b wr h=>h.1 ▸ hb) rfl e hm with h|⟨b,wr,h1,h2,h3⟩
 ·simp at h
 ·exact ⟨b,h3 ▸ h1,h2⟩
theorem Km (hop:o.op=.store t x y) (hx:a.eval x=.pointer (some ad)) (hs:ad.spot=none) (hb:∃ xs e z,w.heap[ad.block]?=some (.cells xs e z)):∀ e∈listed P fn a o w,∃ j,j<(a.eval y).cells.size∧e=⟨.cell ⟨ad.block,ad.off+j,none⟩,true,false⟩:=by
 intro e he
 have hm:=mem_listed he
 have ht:Tch P (fun b wr=>wr=true∧∃ j,j<(a.eval y).cells.size∧b=⟨ad.block,ad.off+j,none⟩) (execOp a.eval o):=by
  unfold execOp
  simp only [hop,hx]
  exact Tch.bnd (s:=Instr.storeAt t (.pointer (some ad)) (a.eval y)) (xm t fun j hj=>⟨rfl,j,hj,(Iy ad j).2 hs⟩) fun v=>trivial
 rcases ht.sound (es:=#[]) (fun b wr h=>by obtain ⟨_,j,_,rfl⟩:=h;exact hb) rfl e hm with h|⟨b,wr,h1,h2,j,h3,h4⟩
 ·simp at h
 ·subst h2 h4;exact ⟨j,h3,h1⟩
end
theorem pq {P:Program} {s:Sem Value} {v:Value} {w:World} (h:s.run P w=.ok v w):(Next.value <$> s:Sem Next).run P w=.ok (.value v) w:=by
 rw [Sem.run_map,h];rfl
section
variable {P:Program} {main:Bool} {S O:Nat→Prop} {Fin:(Nat→Prop)→Goroutine→World→Prop} {w:World} {b:Frame} {a:Act} {k:List Item} {cs:List Frame} {ops:Array Oper} {i:Nat} {rest:List Nat} {o:Oper} {t:TypeId} {x y:Operand} {ad:Addr} {v:Value}
theorem dZ.EO {g g':Goroutine} (hs:g.status=.running) (h:∀ w1,IR S O w w1→∃ es,stepG P main g w1=.go g' w1 es∧∀ e∈es,∃ a,e=⟨.cell a,false,false⟩∧(O a.block∨S a.block)) (hn:dZ P main S Fin O g' w):dZ P main S Fin O g w:=by
 classical
 let f:World→Array Event:=fun w1=>if hi:IR S O w w1 then Classical.choose (h w1 hi) else #[]
 have hf:∀ w1,IR S O w w1→stepG P main g w1=.go g' w1 (f w1)∧∀ e∈f w1,∃ a,e=⟨.cell a,false,false⟩∧(O a.block∨S a.block):=fun w1 hi=>by
  simp only [f,hi,↓reduceDIte];exact Classical.choose_spec (h w1 hi)
 refine .step O g w hs (fun _=>g') (fun w1=>w1) (fun _=>O) f (fun w1 hi=>⟨(hf w1 hi).1,fun _ x=>x,fun _ x=>.inl x,fun c h1 h2=>absurd h1 (Nat.not_le.2 h2),Nat.le_refl _,fun _ _ _=>rfl,rfl,rfl,rfl,fun e hm=>?_⟩) fun w1 hi=>hn.rely hi
 obtain ⟨a,rfl,ha⟩:=(hf w1 hi).2 e hm
 exact .inl ⟨a,false,rfl,ha.imp id fun x=>⟨rfl,x⟩⟩
theorem dZ.ctl {g g':Goroutine} (hs:g.status=.running) (h:∀ w1,stepG P main g w1=.go g' w1 #[]) (hn:dZ P main S Fin O g' w):dZ P main S Fin O g w:=
 .EO hs (fun w1 _=>⟨#[],h w1,fun e he=>by simp at he⟩) hn
theorem dZ.load (ho:ops[i]?=some o) (hw:Region.wanted o (yielded ops a.tmps)=true) (hk:b.kind≠.early) (hop:o.op=.load t x) (hx:a.eval x=.pointer (some ad)) (hblk:S ad.block∨O ad.block) (hc:∃ xs e z,w.heap[ad.block]?=some (.cells xs e z))
  (hr:∀ w1,w1.heap[ad.block]?=w.heap[ad.block]?→(Instr.loadAt t (.pointer (some ad))).run P w1=.ok v w1) (hn:dZ P main S Fin O (G (b.at (a.put o.dst v) (.inRegion ops rest::k)) cs) w):dZ P main S Fin O (G (b.at a (.inRegion ops (i::rest)::k)) cs) w:=by
 refine .EO rfl (fun w1 hi=>?_) hn
 obtain ⟨xs,e,z,hc⟩:=hc
 have h1:w1.heap[ad.block]?=w.heap[ad.block]?:=hi.mine _ (Array.getElem?_eq_some_iff.1 hc).1 hblk
 have h2:(execOp a.eval o).run P w1=.ok (.value v) w1:=by
  unfold execOp
  simp only [hop,hx]
  rw [bind_pure_comp]
  exact pq (hr w1 h1)
 refine ⟨_,stepG_value ho hw hk h2,fun e he=>?_⟩
 obtain ⟨c,rfl,hc2⟩:=HV hop hx ⟨xs,_,z,h1.trans hc⟩ e he
 exact ⟨c,rfl,hc2 ▸ hblk.symm⟩
theorem dZ.index (ho:ops[i]?=some o) (hw:Region.wanted o (yielded ops a.tmps)=true) (hk:b.kind≠.early) (hop:o.op=.indexAddr t x y) (hr:∀ w1,(Instr.indexAt t (a.eval x) (a.eval y)).run P w1=.ok v w1) (he:∀ w1,(Instr.indexAt t (a.eval x) (a.eval y)).events P w1 #[]=#[])
  (hn:dZ P main S Fin O (G (b.at (a.put o.dst v) (.inRegion ops rest::k)) cs) w):dZ P main S Fin O (G (b.at a (.inRegion ops (i::rest)::k)) cs) w:=by
 refine .EO rfl (fun w1 hi=>?_) hn
 have e0:execOp a.eval o=Next.value <$> Instr.indexAt t (a.eval x) (a.eval y):=by
  unfold execOp
  simp only [hop]
  exact bind_pure_comp _ _
 have h1:(execOp a.eval o).run P w1=.ok (.value v) w1:=by rw [e0];exact pq (hr w1)
 refine ⟨_,stepG_value ho hw hk h1,fun e hm=>?_⟩
 have hm:=mem_listed hm
 rw [e0,Sem.events_map,he w1] at hm
 simp at hm
end
end Ren
end
section
namespace Ren
open Go Go.Conc Go.ConcN
open Go.ConcR (KK wgBlock WgAt stA smA rd wr mk Payload Aside2 DC0 Bk)
section
variable {H:Ph} [Payload] {Anch:Goroutine→World→Prop}
omit [Payload] in
theorem EN (n c:Nat):sumTo n (fun _=>c)=n * c:=by
 induction n with
 | zero=>simp [sumTo]
 | succ n ih=>rw [sumTo,ih,Nat.succ_mul]
omit [Payload] in
theorem Mx {B:Nat} {l:Loc} (h:l.low B) {Wg:Nat} (hW:B≤Wg):¬ ShN Wg l:=by
 rintro ⟨a,rfl,rfl⟩
 have:a.block<B:=h
 omega
omit [Payload] in
theorem quiet_of {B lo:Nat} {Shun:Loc→Prop} {t0 t:Trace} {Wg:Nat} (hW:B≤Wg) (hs:∀ op∈t0,∀ x,op.act.touch?=some x→x.loc.low B) (hw:Er (fun l=>Shun l∨ShN Wg l) lo t0 t):Quiet (ShN Wg) t:=by
 obtain ⟨u,rfl,hu⟩:=hw
 refine Quiet.app (fun i op x hi hx hS=>?_) fun op hop x hx hS=>?_
 ·exact (Mx (hs op (mem_of_getElem? hi) x hx) hW hS).elim
 ·obtain ⟨h1,h2⟩:=(hu op hop).2.2 x hx
  exact ⟨h2 (.inr hS),fun _=>h1⟩
theorem phase_begin (ok:H.Ok) {B d:Nat} (hP0:dh d H.Shun B H.t0) (hBW:B≤H.Wg) (hg0:∀ op∈H.t0,op.g<H.lo) {gs:Array Goroutine} {w:World} {sl:Option (Nat × Nat)} {t:Trace} {q:Nat→Nat} {a:Goroutine}
  (hgs:gs[0]?=some a) (hsz:gs.size=H.lo) (hL:Leavers H.P t gs q) (hP:dh 0 H.Shun w.heap.size t) (hwk:Er (fun l=>H.Shun l∨ShN H.Wg l) H.lo H.t0 t)
  (ht:w.tape=H.w0.tape) (ho:w.os=H.w0.os) (hu:w.output=H.w0.output) (hlow:H.Low≤w.heap.size) (hbelow:∀ c,c<H.Low→c≠H.C→c≠H.Wg→w.heap[c]?=H.w0.heap[c]?) (ML:H.View w)
  (hwg:WgAt H.ty H.Wg w ((H.n:Int) * KK) 0) (hsp:H.Spawns (H.Fin Anch) H.n a w):∃ μ,H.Inv Anch μ (crowd gs w sl) t:=by
 have hgt:∀ op∈t,op.g<H.lo:=by
  obtain ⟨u,rfl,hu⟩:=hwk
  exact fun op hop=>(Array.mem_append.1 hop).elim (hg0 op) fun h=>(hu op h).1
 have hV:Vc H.n (fun _=>(⟨7,0,0⟩:WD))=H.n:=by
  show sumTo H.n (fun _=>1)=H.n
  rw [EN];omega
 have hcom:H.Com 0 gs w t (fun _=>⟨7,0,0⟩) (fun _=>(8,.zero)) (fun _ _=>False) q 0:=by
  refine ⟨Nat.zero_le _,hsz,fun i g h1 h2 h3=>hL.old i g h1 h3,fun i h=>(by omega),fun _ _=>rfl,?_,hP.hears,fun i h=>(by omega),fun k h=>hL.above k (by omega),fun i h=>(by omega),?_,hgt,hP.seen,ht,ho,hu,hlow,hbelow,ML,fun i h=>(by omega),fun i i' c h=>(by omega)⟩
  ·exact KT.begin_ hP hgt (quiet_of hBW hP0.seen hwk) fun l hl=>by
    obtain ⟨a,rfl,hS⟩:=hl
    exact ⟨rfl,(ok.S _ hS).2.2.2 a rfl⟩
  ·obtain ⟨u,rfl,hu⟩:=hwk
   refine ⟨u,rfl,fun op hop=>⟨(hu op hop).2.1 _,?_⟩⟩
   cases hx:op.act.touch? with
   | none=>exact .inr (.inr rfl)
   | some x=>exact .inl ((hu op hop).2.2 x hx).1
 have hopen:OpenSt H.n (fun _=>(⟨7,0,0⟩:WD)):=fun i _=>.inl rfl
 have hob:H.Ob none 0 (fun _ _=>False) w:=⟨fun b v e=>by cases e⟩
 cases hn:H.n with
 | zero=>
  rw [hn] at hsp
  obtain ⟨m,hm⟩:=hsp
  have hcs:CS H Anch .kd none H.n m 0 a w:=.kd hm
  rw [hn] at hcs
  refine ⟨_,gs,w,sl,0,_,_,_,q,.kd,none,m,0,a,_,0,rfl,hgs,hcs,hob,hcom,hwg,?_,rfl⟩
  have:=Mode.opn (j:=H.n) (D:=fun _=>(⟨7,0,0⟩:WD)) (tag:=.kd) trivial hopen (fun vs e=>by cases e)
  rw [hV] at this
  exact this
 | succ r=>
  rw [hn] at hsp
  obtain ⟨m,hm⟩:=hsp
  have hcs:CS H Anch (.sp r 2) none (H.n - (r+1)) m 0 a w:=.new (by omega) hm
  rw [show H.n - (r+1)=0 by omega] at hcs
  refine ⟨_,gs,w,sl,0,_,_,_,q,.sp r 2,none,m,0,a,_,0,rfl,hgs,hcs,hob,hcom,hwg,?_,rfl⟩
  have:=Mode.opn (j:=H.n) (D:=fun _=>(⟨7,0,0⟩:WD)) (tag:=.sp r (2+4)) trivial hopen (fun vs e=>by cases e)
  rw [hV] at this
  exact this
end
end Ren
end
section
namespace Ren
open Go Go.Conc
def putRow (cs:Array Value) (k:Nat):List Value→Array Value
 | []=>cs
 | v::l=>putRow (cs.setIfInBounds k v) (k+1) l
theorem qG (l:List Value):∀ (cs:Array Value) (k:Nat),(putRow cs k l).size=cs.size:=by
 induction l with
 | nil=>intro cs k;rfl
 | cons v l ih=>intro cs k;rw [putRow,ih,Array.size_setIfInBounds]
theorem uj (l:List Value):∀ (cs:Array Value) (k j:Nat),j<k∨k+l.length≤j→(putRow cs k l)[j]?=cs[j]?:=by
 induction l with
 | nil=>intro cs k j h;rfl
 | cons v l ih=>
  intro cs k j h
  simp only [List.length_cons] at h
  rw [putRow,ih _ _ _ (by omega),Array.getElem?_setIfInBounds_ne (by omega)]
theorem xS (l:List Value):∀ (cs:Array Value) (k j:Nat),j<l.length→k+l.length≤cs.size→(putRow cs k l)[k+j]?=l[j]?:=by
 induction l with
 | nil=>intro cs k j h;simp at h
 | cons v l ih=>
  intro cs k j h hs
  simp only [List.length_cons] at h hs
  cases j with
  | zero=>
   rw [putRow,uj _ _ _ _ (.inl (by omega))]
   simp only [Nat.add_zero,List.getElem?_cons_zero]
   rw [Array.getElem?_setIfInBounds_self_of_lt (by omega)]
  | succ j=>
   rw [putRow,show k+(j+1)=(k+1)+j by omega,ih _ _ _ (by omega) (by simp;omega)]
   simp
def wV (w:World) (C:Nat) (t:TypeId) (cs:Array Value):World:={ w with heap:=w.heap.setIfInBounds C (.cells cs t (0,0)) }
theorem gH (w:World) (C:Nat) (t:TypeId) (cs:Array Value) (b:Nat) (hC:C<w.heap.size):(wV w C t cs).heap[b]?=if C=b then some (.cells cs t (0,0)) else w.heap[b]?:=by
 simp only [wV,Array.getElem?_setIfInBounds]
 by_cases h:C=b
 ·subst h;simp [hC]
 ·simp [h]
theorem xz {w:World} {C:Nat} {t:TypeId} {cs:Array Value} (h:w.heap[C]?=some (.cells cs t (0,0))) (k:Nat) (v:Value):w.setCell ⟨C,k,none⟩ v=wV w C t (cs.setIfInBounds k v):=by
 have hC:C<w.heap.size:=(Array.getElem?_eq_some_iff.1 h).1
 have e:(w.setCell ⟨C,k,none⟩ v).heap=(wV w C t (cs.setIfInBounds k v)).heap:=by
  apply Array.ext_getElem?
  intro b
  rw [gH _ _ _ _ _ hC]
  simp only [World.setCell,Array.getElem?_modify]
  by_cases hb:C=b
  ·subst hb;simp [h]
  ·simp [hb]
 have e2:w.setCell ⟨C,k,none⟩ v={ w with heap:=(w.setCell ⟨C,k,none⟩ v).heap }:=rfl
 rw [e2,e]
 rfl
theorem FO (w:World) (C:Nat) (t:TypeId) (cs cs':Array Value):wV (wV w C t cs) C t cs'=wV w C t cs':=by
 simp [wV,Array.setIfInBounds_setIfInBounds]
theorem kQ {P:Program} {C:Nat} {t:TypeId} (off:Nat):∀ (l:List Value) (i:Nat) {w:World} {cs:Array Value},w.heap[C]?=some (.cells cs t (0,0))→off+i+l.length≤cs.size→(∀ v∈l,(∀ c,v≠.agg c)∧∀ c,v≠.tuple c)→l≠[] →
  (storeCells ⟨C,off,none⟩ l i).run P w=.ok () (wV w C t (putRow cs (off+i) l)):=by
 intro l
 induction l with
 | nil=>intro i w cs h hs hv hne;exact (hne rfl).elim
 | cons v l ih=>
  intro i w cs h hs hv _
  simp only [List.length_cons] at hs
  have hC:C<w.heap.size:=(Array.getElem?_eq_some_iff.1 h).1
  have ea:(⟨C,off,none⟩:Addr).add i=⟨C,off+i,none⟩:=(Iy _ _).2 rfl
  have h1:(store (⟨C,off+i,none⟩:Addr) v).run P w=.ok () (wV w C t (cs.setIfInBounds (off+i) v)):=by
   have:=Sem.runT_fst P (store (⟨C,off+i,none⟩:Addr) v) w #[]
   rw [← this]
   unfold store
   rw [eU (hv v (by simp)).1 (hv v (by simp)).2]
   have hc:w.cell? ⟨C,off+i,none⟩=some cs[off+i]:=by simp [World.cell?,h,show off+i<cs.size by omega]
   have hf:w.frozen? ⟨C,off+i,none⟩=false:=by simp [World.frozen?,h]
   simp only [hc,hf,Bool.false_eq_true,↓reduceIte]
   rw [xz h]
   rfl
  have h2:(wV w C t (cs.setIfInBounds (off+i) v)).heap[C]?=some (.cells (cs.setIfInBounds (off+i) v) t (0,0)):=by rw [gH _ _ _ _ _ hC];simp
  rw [storeCells,ea,Sem.run_bind,h1]
  simp only [Result.andThen_ok]
  by_cases hl:l=[]
  ·subst hl
   rfl
  ·rw [ih (i+1) h2 (by simp;omega) (fun u hu=>hv u (by simp [hu])) hl,FO]
   rfl
end Ren
end
section
namespace Ren
open Go Go.Conc Go.ConcN
open Go.ConcR (KK wgBlock WgAt stA smA rd wr mk Payload Aside2 DC0)
section
variable {P:Program} {Shun:Loc→Prop} {End:Nat→Goroutine→World→Prop} {d:Nat} {g g':Goroutine} {w w':World} {b:Frame} {a:Act} {k:List Item} {cs:List Frame} {ops:Array Oper} {i:Nat} {rest:List Nat} {o:Oper} {v:Value}
theorem Alone.ctl (hs:g.status=.running) (h:∀ w1,stepG P true g w1=.go g' w1 #[]) (hn:Alone P Shun End d g' w):Alone P Shun End d g w:=
 .one hs (fun n=>h _) (OkA.none _ _) hn
theorem Ec {es:Array Event} (h:∀ e∈es,∃ ad wr,e=⟨.cell ad,wr,false⟩) (d:Nat):deafBehind d es=d:=
 deafBehind_still (fun e he=>by obtain ⟨ad,wr,rfl⟩:=h e he;exact ⟨fun x=>(by cases x),fun x=>(by cases x)⟩) d
theorem Alone.value (ho:ops[i]?=some o) (hw:Region.wanted o (yielded ops a.tmps)=true) (hk:b.kind≠.early) (hr:∀ n,(execOp a.eval o).run P (w.at n)=.ok (.value v) (w'.at n)) (hsz:w.heap.size≤w'.heap.size)
  (he:∀ n,∀ e∈listed P b.fn a o (w.at n),∃ ad wr,e=⟨.cell ad,wr,false⟩∧ad.block<w'.heap.size∧¬ Shun (.cell ad)) (hn:Alone P Shun End d (G (b.at (a.put o.dst v) (.inRegion ops rest::k)) cs) w') :
  Alone P Shun End d (G (b.at a (.inRegion ops (i::rest)::k)) cs) w:=by
 refine .step _ _ _ rfl (fun _=>G (b.at (a.put o.dst v) (.inRegion ops rest::k)) cs) (fun n=>w'.at n) (fun n=>listed P b.fn a o (w.at n)) (fun n=>⟨stepG_value ho hw hk (hr n),hsz,fun e hm x hx hs=>?_,fun e hm x hx=>?_,fun e hm a ha=>?_⟩) fun n=>?_
 ·obtain ⟨ad,wr,rfl,h1,h2⟩:=he n e hm
  have:x.loc=.cell ad:=by cases wr<;>(simp only [MemAct.ofEvent,MemAct.touch?,Option.some.injEq] at hx;subst hx;rfl)
  exact (h2 (this ▸ hs)).elim
 ·obtain ⟨ad,wr,rfl,h1,h2⟩:=he n e hm
  have:x.loc=.cell ad:=by cases wr<;>(simp only [MemAct.ofEvent,MemAct.touch?,Option.some.injEq] at hx;subst hx;rfl)
  rw [this];exact h1
 ·obtain ⟨ad,wr,rfl,_⟩:=he n e hm
  cases wr<;>simp [MemAct.ofEvent] at ha
 ·rw [Ec fun e hm=>by obtain ⟨ad,wr,e1,_⟩:=he n e hm;exact ⟨ad,wr,e1⟩]
  exact hn.at n
theorem Alone.quiet (ho:ops[i]?=some o) (hw:Region.wanted o (yielded ops a.tmps)=true) (hk:b.kind≠.early) (hr:∀ w1,(execOp a.eval o).run P w1=.ok (.value v) w1) (he:∀ w1,(execOp a.eval o).events P w1 #[]=#[]) (hn:Alone P Shun End d (G (b.at (a.put o.dst v) (.inRegion ops rest::k)) cs) w) :
  Alone P Shun End d (G (b.at a (.inRegion ops (i::rest)::k)) cs) w:=
 .value ho hw hk (fun n=>hr _) (Nat.le_refl _) (fun n e hm=>by have:=mem_listed hm;rw [he] at this;simp at this) hn
theorem Alone.load {t:TypeId} {x:Operand} {ad:Addr} (ho:ops[i]?=some o) (hw:Region.wanted o (yielded ops a.tmps)=true) (hk:b.kind≠.early) (hop:o.op=.load t x) (hx:a.eval x=.pointer (some ad)) (hc:∃ xs e z,w.heap[ad.block]?=some (.cells xs e z))
  (hS:∀ b:Addr,b.block=ad.block→¬ Shun (.cell b)) (hr:∀ n,(Instr.loadAt t (.pointer (some ad))).run P (w.at n)=.ok v (w.at n)) (hn:Alone P Shun End d (G (b.at (a.put o.dst v) (.inRegion ops rest::k)) cs) w):Alone P Shun End d (G (b.at a (.inRegion ops (i::rest)::k)) cs) w:=by
 refine .value ho hw hk (fun n=>?_) (Nat.le_refl _) (fun n e hm=>?_) hn
 ·unfold execOp
  simp only [hop,hx]
  rw [bind_pure_comp]
  exact pq (hr n)
 ·obtain ⟨xs,e0,z,hc⟩:=hc
  obtain ⟨c,rfl,hc2⟩:=HV (w:=w.at n) hop hx ⟨xs,e0,z,hc⟩ e hm
  exact ⟨c,false,rfl,hc2 ▸ (Array.getElem?_eq_some_iff.1 hc).1,hS c hc2⟩
end
section
variable [Payload] {H:Ph} {A B:Goroutine→World→Prop} {g:Goroutine} {w:World}
omit [Payload] in
theorem gq {P:Program} {R:World→World→Prop} {D:World→World→Array Event→Prop} {S T:Goroutine→World→Prop} (h:∀ g w,S g w→T g w):∀ {n:Nat} {g:Goroutine} {w:World},Goes P true R D S n g w→Goes P true R D T n g w:=by
 intro n
 induction n with
 | zero=>intro g w k;exact fun w1 h1=>h _ _ (k w1 h1)
 | succ n ih=>
  intro g w k
  rcases k with k|⟨hs,k⟩
  ·exact .inl fun w1 h1=>h _ _ (k w1 h1)
  ·refine .inr ⟨hs,fun w1 h1=>?_⟩
   obtain ⟨g',w',es,e1,e2,e3⟩:=goes_elim (k w1 h1)
   rw [e1]
   exact ⟨e2,ih e3⟩
omit [Payload] in
theorem IX (h:∀ g w,A g w→B g w) (k:H.AtKd A g w):H.AtKd B g w:=by
 obtain ⟨k1,g',k2,m,k3⟩:=k
 exact ⟨k1,g',k2,m,gq h k3⟩
omit [Payload] in
theorem IV (h:∀ g w,A g w→B g w) {vs:Nat} (k:H.AtW2 A vs g w):H.AtW2 B vs g w:=by
 refine ⟨k.1,fun v hv hw=>⟨(k.2 v hv hw).1,fun hne=>?_⟩⟩
 obtain ⟨g',k2,m,k3⟩:=(k.2 v hv hw).2 hne
 exact ⟨g',k2,m,gq h k3⟩
omit [Payload] in
theorem IW (h:∀ g w,A g w→B g w) (k:H.AtW1 A g w):H.AtW1 B g w:=by
 refine ⟨k.1,fun v hv hw=>?_⟩
 obtain ⟨g',k2,k3,k4⟩:=k.2 v hv hw
 exact ⟨g',k2,k3,fun hne=>by obtain ⟨m,k5⟩:=k4 hne;exact ⟨m,gq (fun g w x=>IV h x) k5⟩⟩
end
end Ren
end
section
namespace Ren
open Go Go.Conc Go.ConcN
section
variable {P:Program} {Shun:Loc→Prop} {A B:Goroutine→World→Prop} {m:Machine} {t:Trace}
theorem qx {m m' m'':Machine} {t t' t'':Trace} {N K:Nat} (h:runNT P N m t=(.next m',t')) (hk:runNT P K m' t'=(.next m'',t'')):runNT P (N+K) m t=(.next m'',t''):=by
 induction N generalizing m t with
 | zero=>
  simp only [runNT] at h
  cases h
  rw [Nat.zero_add];exact hk
 | succ N ih=>
  rw [Nat.succ_add]
  simp only [runNT] at h ⊢
  split at h
  ·exact ih h
  ·rename_i hne _
   cases h
   exact (hne _ rfl).elim
def AtM (P:Program) (Shun:Loc→Prop) (A:Goroutine→World→Prop) (m:Machine) (t:Trace):Prop:=
 ∃ (gs:Array Goroutine) (w:World) (sl:Option (Nat × Nat)) (q:Nat→Nat) (a:Goroutine),m=crowd gs w sl∧gs[0]?=some a∧A a w∧Leavers P t gs q∧dh 0 Shun w.heap.size t∧∀ op∈t,op.g<gs.size
def lK (P:Program) (m:Machine) (t:Trace) (B:Machine→Trace→Prop):Prop:=∃ N m' t',runNT P N m t=(.next m',t')∧B m' t'
theorem lK.refl {B:Machine→Trace→Prop} (h:B m t):lK P m t B:=⟨0,m,t,rfl,h⟩
theorem lK.bind {B C:Machine→Trace→Prop} (h:lK P m t B) (k:∀ m t,B m t→lK P m t C):lK P m t C:=by
 obtain ⟨N,m',t',h1,h2⟩:=h
 obtain ⟨K,m'',t'',k1,k2⟩:=k m' t' h2
 exact ⟨N+K,m'',t'',qx h1 k1,k2⟩
theorem tC {n:Nat} {t t':Trace} (h:∀ op∈t,op.g<n) (hw:Er Shun n t t'):∀ op∈t',op.g<n:=by
 obtain ⟨u,rfl,hu⟩:=hw
 exact fun op hop=>(Array.mem_append.1 hop).elim (h op) fun x=>(hu op x).1
theorem AtM.alone (h:AtM P Shun A m t) (hA:∀ a w,A a w→Alone P Shun (fun d g w=>d=0∧B g w) 0 a w):lK P m t (AtM P Shun B):=by
 obtain ⟨gs,w,sl,q,a,rfl,h0,ha,hL,hP,hs⟩:=h
 obtain ⟨N,gs',d',g',w',sl',t',q',hr,hsz,h0',⟨rfl,hB⟩,hL',hP',hw⟩:=nR (fun l x=>x) (hA a w ha) (m:=w.drawn) (sl:=sl) h0 hL hP
 exact ⟨N,_,t',hr,gs',w',sl',q',g',rfl,h0',hB,hL',hP',by rw [hsz];exact tC hs hw⟩
end
end Ren
end
section
namespace jf
open Go Go.Conc Ren
theorem kZ (w:World):w.sys .env=(.strings w.os.env,{ w with os:={ w.os with wall:=w.os.wall+0,mono:=w.os.mono+0 } }):=by
 simp [World.sys,Kernel.perform,World.ask,Ask.bind,pure,bind,Kernel.lengthOf,Kernel.named,Kernel.ofKernel,Kernel.stamps,Kernel.each,Kernel.env]
section
variable {α:Type}
end
end jf
end
section
namespace jf
open Go Go.Conc Ren
inductive Out
 | here (fr:Frame) (w:World) (es:Array Event)
 | push (fr2 fr1:Frame) (w:World) (es:Array Event)
 | pop (v:Value) (w:World) (es:Array Event)
 | comm (fr:Frame) (cases:Array CommCase) (b:Bool) (s:CommShape) (w:World) (es:Array Event)
 | bad (fr:Frame) (w:World) (es:Array Event)
 | ended (o:Outcome) (w:World) (es:Array Event)
def Out.at (l:List Frame) (U:Nat→Question→Nat) (D:Nat):Out→GStep
 | .here fr w es=>.go (G fr l) (w.af U D) es
 | .push fr2 fr1 w es=>.go (G fr2 (fr1::l)) (w.af U D) es
 | .pop v w es=>match l with
  | c::cs=>.go (G (c.finish v) cs) (w.af U D) es
  | []=>.ended (.stuck "" "") (w.af U D) es
 | .comm fr a b s w es=>.comm (G fr l) a b s (w.af U D) es
 | .bad fr w es=>.go (G fr l) (w.af U D) es
 | .ended o w es=>.ended o (w.af U D) es
def Out.stays:Out→Bool
 | .pop _ _ _=>false
 | _=>true
def _root_.Go.Frame.app (fr:Frame) (S:List Item):Frame:={ fr with todo:=fr.todo++S }
def Out.app (S:List Item):Out→Out
 | .here fr w es=>.here (fr.app S) w es
 | .push fr2 fr1 w es=>.push fr2 (fr1.app S) w es
 | .comm fr a b s w es=>.comm (fr.app S) a b s w es
 | .bad fr w es=>.bad (fr.app S) w es
 | o=>o
def Out.keeps (ro:Option Nat):Out→Prop
 | .here fr _ _=>fr.roundOf=ro
 | .push _ fr _ _=>fr.roundOf=ro
 | _=>True
def over:GStep→Bool
 | .ended _ _ _=>true
 | _=>false
def ExF (S:List Item):Prop:=∀ id,exitTo id S=none
theorem dI (fr:Frame):fr.app []=fr:=by simp [Frame.app]
theorem lZ (fr:Frame) (S:List Item) (ch:List PanicEntry):(fr.app S).raise ch=(fr.raise ch).app S:=by
 obtain ⟨f,X,k,ds,m,kd,ro⟩:=fr
 cases m<;>rfl
theorem gP (fr:Frame) (v:Value):(fr.finish v).roundOf=fr.roundOf:=by
 unfold Frame.finish
 split
 ·split<;>rfl
 all_goals rfl
theorem dF {fr:Frame} (h:fr.todo≠[]) (S:List Item) (v:Value):(fr.app S).finish v=(fr.finish v).app S:=by
 obtain ⟨f,X,k,ds,m,kd,ro⟩:=fr
 cases k with
 | nil=>exact (h rfl).elim
 | cons x k=>
  cases x with
  | inRegion ops todo=>cases todo<;>rfl
  | _=>rfl
theorem Out.dI (o:Out):o.app []=o:=by cases o<;>simp [Out.app,jf.dI]
def Out.pre (es0:Array Event):Out→Out
 | .here fr w es=>.here fr w (es0++es)
 | .push fr2 fr1 w es=>.push fr2 fr1 w (es0++es)
 | .pop v w es=>.pop v w (es0++es)
 | .comm fr a b s w es=>.comm fr a b s w (es0++es)
 | .bad fr w es=>.bad fr w (es0++es)
 | .ended o w es=>.ended o w (es0++es)
theorem Out.Lb {o:Out} {es0:Array Event} {l:List Frame} {U:Nat→Question→Nat} {D:Nat}:(o.pre es0).at l U D=GStep.after es0 (o.at l U D):=by cases o<;>first|rfl|(cases l<;>rfl)
section
variable {fr:Frame} {w:World} {t:Nat→Question→Nat} {d:Nat}
end
end jf
end
section
namespace jf
open Go Go.Conc Ren
theorem um (es:Array Event) (x:GStep):over (GStep.after es x)=over x:=by cases x<;>rfl
theorem FU {l:List Frame} {v:Value} {w:World} {es:Array Event} (h:l≠[]∨(Out.pop v w es).stays=true):∃ c cs,l=c::cs:=by
 rcases h with h|h
 ·cases l with
  | nil=>exact (h rfl).elim
  | cons c cs=>exact ⟨c,cs,rfl⟩
 ·cases h
def gZ:Option Code→Bool
 | none|some .ret=>true
 | _=>false
section
variable {fr:Frame} {w:World} {t:Nat→Question→Nat} {d:Nat}
theorem BU {id:Nat} {S:List Item} {k k':List Item} (h:exitTo id k=some k'):exitTo id (k++S)=some (k'++S):=by
 induction k with
 | nil=>simp [exitTo] at h
 | cons y k ih=>
  cases y with
  | inBlock id'=>
   simp only [exitTo,List.cons_append] at h ⊢
   split at h
   ·rename_i e;simp only [Option.some.injEq] at h;subst h;rw [if_pos e]
   ·rename_i e;rw [if_neg e];exact ih h
  | _=>exact ih h
theorem mJ {id:Nat} {S:List Item} {k:List Item} (h:exitTo id k=none) (hS:exitTo id S=none):exitTo id (k++S)=none:=by
 induction k with
 | nil=>exact hS
 | cons y k ih=>
  cases y with
  | inBlock id'=>
   simp only [exitTo,List.cons_append] at h ⊢
   split at h
   ·cases h
   ·rename_i e;rw [if_neg e];exact ih h
  | _=>exact ih h
end
end jf
end
