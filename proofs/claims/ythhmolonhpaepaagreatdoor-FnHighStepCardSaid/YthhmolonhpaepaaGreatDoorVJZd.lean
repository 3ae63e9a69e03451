/- A goroutine of given code, whatever memory holds: the model's primitives, the rest. Conditions: none. -/
import Derived.Test.YthhmolonhpaepaaGreatDoorVJD
set_option linter.unusedVariables false
set_option linter.unusedSimpArgs false
section
namespace Mz
open Go Go.Conc Ren
variable [T:Mc]
section
variable {α β:Type} {A:α→Prop} {B:β→Prop}
theorem yl {o:Obj} (ho:Lt o):MZ (fun r=>T.n0≤r∧¬ T.bad r) (newObj o):=by
 refine MZ.still fun w hw=>.inr ?_
 have hbs:¬ T.bad w.heap.size:=fun h=>absurd (hw.lt h) (by omega)
 let w1:World:={ w with heap:=w.heap.push o }
 have hpush:∀ (hp:Array Obj) (c:Nat),(hp.push o)[c]?=if c=hp.size then some o else hp[c]?:=fun hp c=>by
  rw [Array.getElem?_push]
 have hne:∀ {c:Nat},T.bad c→w1.heap[c]?=w.heap[c]?:=fun {c} hc=>by rw [show w1.heap[c]?=_ from hpush _ _,if_neg (fun e:c=w.heap.size=>hbs (e ▸ hc))]
 have hw1:OKW w1:=⟨by show _≤(w.heap.push o).size;rw [Array.size_push];exact Nat.le_succ_of_le hw.low,fun c o' hc ho'=>by
   rw [show w1.heap[_]?=_ from hpush _ _] at ho'
   split at ho'
   ·cases ho';exact ho
   ·exact hw.obj c o' hc ho',fun c hc=>by rw [hne hc];exact hw.bad c hc,fun c x e hc ho'=>by
   rw [show w1.heap[_]?=_ from hpush _ _] at ho'
   split at ho'
   ·cases ho';exact ho
   ·exact hw.nop _ _ _ hc ho'⟩
 have hpz:({ Pz w with heap:=(Pz w).heap.push o }:World)=Pz w1:=FM (w:=w) (w':=w1) rfl fun c=>by
  rw [hpush,Ab]
  by_cases e:c=w.heap.size
  ·subst e
   rw [if_pos rfl,cZ hbs,show w1.heap[_]?=_ from hpush _ _,if_pos rfl]
  ·rw [if_neg e,jD,jD,show w1.heap[_]?=_ from hpush _ _,if_neg e]
 refine ⟨w.heap.size,w1,#[],#[],⟨hw.low,hbs⟩,⟨hw1,by show _≤(w.heap.push o).size;rw [Array.size_push];omega,fun b hb=>hne hb,by simp⟩,fun U D=>⟨fun es=>?_,fun ep=>?_⟩⟩
 ·show (Sem.new o Sem.pure).runT T.P _ es=_
  rw [Sem.runT,Array.append_empty];rfl
 ·show (Sem.new o Sem.pure).runT T.P _ ep=_
  rw [Sem.runT,Array.append_empty,← hpz,show ((Pz w).af U D).heap.size=w.heap.size from Ab w];rfl
theorem MZ.look {s:Sem α} (f:World→α) (hA:∀ w,OKW w→A (f w)) (up:World→Array Event) (us:World→Array Event) (hu:∀ w,OKW w→∀ e∈us w,EM w.heap.size e) (h:∀ w,OKW w→∀ U D,(∀ es,s.runT T.P (w.af U D) es=(.ok (f w) (w.af U D),es++us w))∧∀ ep,s.runT T.P ((Pz w).af U D) ep=(.ok (f w) ((Pz w).af U D),ep++up w)):MZ A s:=
 MZ.still fun w hw=>.inr ⟨f w,w,us w,up w,hA w hw,⟨hw,Nat.le_refl _,fun _ _=>rfl,hu w hw⟩,h w hw⟩
theorem OKW.frozen {w:World} (hw:OKW w) (a:Addr):(Pz w).frozen? a=w.frozen? a:=by
 by_cases hb:T.bad a.block
 ·unfold World.frozen?
  rcases hw.bad _ hb with ⟨c,e,h,_⟩|⟨_,c,e,h⟩
  ·rw [hw.rT hb,h]
   simp
  ·rw [hw.rT hb,h]
 ·exact rE hb
theorem mg (a:Addr):MZ Tr (frozen a):=
 MZ.look (fun w=>w.frozen? a) (fun _ _=>trivial) (fun _=>#[]) (fun _=>#[]) (fun _ _=>by simp) fun w hw U D=>by
  refine ⟨fun es=>?_,fun ep=>?_⟩
  ·show (Sem.frozen a Sem.pure).runT T.P _ es=_
   rw [Sem.runT,Array.append_empty];rfl
  ·show (Sem.frozen a Sem.pure).runT T.P _ ep=_
   rw [Sem.runT,Array.append_empty,show ((Pz w).af U D).frozen? a=w.frozen? a from hw.frozen a];rfl
theorem G7 {w:World} {a:Addr} {n:Nat} (h:¬ T.bad a.block):(Pz w).freeze a n=Pz (w.freeze a n):=by
 unfold World.freeze
 by_cases e:n=0
 ·rw [if_pos e,if_pos e]
 ·rw [if_neg e,if_neg e]
  refine FM (w:=w) rfl fun c=>?_
  rw [l5 (w:=w) h (fun c=>dB _ _ _ _)]
  exact dB _ _ _ _
theorem Gm {a:Addr} (n:Nat) (h:¬ T.bad a.block):MZ Tr (freeze a n):=by
 refine MZ.still fun w hw=>.inr ?_
 have hne:∀ c,c≠a.block→(w.freeze a n).heap[c]?=w.heap[c]?:=fun c hc=>by
  unfold World.freeze
  split
  ·rfl
  ·rw [dB,if_neg (Ne.symm hc)]
 have hs:(w.freeze a n).heap.size=w.heap.size:=by unfold World.freeze;split<;>simp
 have hw1:OKW (w.freeze a n):=ky hw a.block h hs hne (fun hl o ho=>by
  unfold World.freeze at ho
  split at ho
  ·exact hw.obj _ _ hl ho
  ·rw [dB,if_pos rfl] at ho
   cases hb:w.heap[a.block]? with
   | none=>rw [hb] at ho;cases ho
   | some o1=>
    have h1:=hw.obj _ _ hl hb
    rw [hb] at ho
    simp only [Option.map_some,Option.some.injEq] at ho
    subst ho
    cases o1<;>first|exact h1|trivial) fun c e ho=>by
  unfold World.freeze at ho
  split at ho
  ·exact hw.nop _ _ _ h ho
  ·rw [dB,if_pos rfl] at ho
   cases hb:w.heap[a.block]? with
   | none=>rw [hb] at ho;cases ho
   | some o1=>
    rw [hb] at ho
    simp only [Option.map_some,Option.some.injEq] at ho
    cases o1<;>first|(cases ho;done)|(cases ho;exact hw.nop _ _ _ h hb)
 refine ⟨(),w.freeze a n,#[],#[],trivial,⟨hw1,by omega,fun b hb=>hne b (fun e=>h (e ▸ hb)),by simp⟩,fun U D=>⟨fun es=>?_,fun ep=>?_⟩⟩
 ·show (Sem.freeze a n (Sem.pure ())).runT T.P _ es=_
  rw [Sem.runT,Array.append_empty]
  have:(w.af U D).freeze a n=(w.freeze a n).af U D:=by unfold World.freeze;split<;>rfl
  rw [this];rfl
 ·show (Sem.freeze a n (Sem.pure ())).runT T.P _ ep=_
  rw [Sem.runT,Array.append_empty]
  have:((Pz w).af U D).freeze a n=(Pz (w.freeze a n)).af U D:=by rw [← G7 h];unfold World.freeze;split<;>rfl
  rw [this];rfl
theorem bN (q:Question):MZ Tr (choose q):=by
 intro w hw t d
 by_cases hf:q.forced=true
 ·refine ⟨0,.inr ⟨.ok 0,w,#[],#[],fun _ _=>trivial,.refl hw,fun U D _=>⟨fun es=>?_,fun ep=>?_⟩⟩⟩
  ·show (Sem.choose q Sem.pure).runT T.P _ es=_
   rw [Sem.runT,if_pos hf,Array.append_empty];rfl
  ·show (Sem.choose q Sem.pure).runT T.P _ ep=_
   rw [Sem.runT,if_pos hf,Array.append_empty];rfl
 ·refine ⟨1,.inr ⟨.ok (q.cut (t d q)),w,#[],#[],fun _ _=>trivial,.refl hw,fun U D hA=>?_⟩⟩
  have e0:U D q=t d q:=by simpa using hA 0 q (by omega)
  refine ⟨fun es=>?_,fun ep=>?_⟩
  ·show (Sem.choose q Sem.pure).runT T.P _ es=_
   rw [Sem.runT,if_neg hf,Array.append_empty,← e0];rfl
  ·show (Sem.choose q Sem.pure).runT T.P _ ep=_
   rw [Sem.runT,if_neg hf,Array.append_empty,← e0];rfl
theorem MZ.prog {g:Program→Sem β} (h:MZ B (g T.P)):MZ B (program >>= g):=by
 intro w hw t d
 obtain ⟨c,h|⟨r,w1,us,up,h1,h2,h3⟩⟩:=h w hw t d
 ·refine ⟨c,.inl fun U D hA ep=>?_⟩
  obtain ⟨h',w1,fs,hd,e⟩:=h U D hA ep
  refine ⟨h',w1,fs,hd,?_⟩
  show (Sem.program g).runT T.P _ ep=_
  rw [Sem.runT];exact e
 ·refine ⟨c,.inr ⟨r,w1,us,up,h1,h2,fun U D hA=>⟨fun es=>?_,fun ep=>?_⟩⟩⟩
  ·show (Sem.program g).runT T.P _ es=_
   rw [Sem.runT];exact (h3 U D hA).1 es
  ·show (Sem.program g).runT T.P _ ep=_
   rw [Sem.runT];exact (h3 U D hA).2 ep
theorem Gf {m:Mark} (hm:MG m):MZ Tr (mark m):=
 MZ.look (fun _=>()) (fun _ _=>trivial) (fun _=>#[⟨.mark m,false,true⟩]) (fun _=>#[⟨.mark m,false,true⟩]) (fun w _ e he=>by
  simp at he;subst he
  cases m<;>first|exact hm.elim|exact .inr (.inr (.inr (.inl rfl)))|exact .inr (.inr (.inr (.inr ⟨_,rfl⟩)))) fun w hw U D=>by
  refine ⟨fun es=>?_,fun ep=>?_⟩
  ·show (Sem.mark m (Sem.pure ())).runT T.P _ es=_
   rw [Sem.runT,← Array.push_eq_append];rfl
  ·show (Sem.mark m (Sem.pure ())).runT T.P _ ep=_
   rw [Sem.runT,← Array.push_eq_append];rfl
theorem uB {r:Nat} (hb:¬ T.bad r) {k:Obj→Sem β} (h:∀ o,(T.n0≤r→Lt o)→MZ B (k o)):MZ B (getObj r >>= k):=by
 refine MZ.bind (A:=fun o=>T.n0≤r→Lt o) ?_ fun o ho=>h o ho
 refine MZ.still fun w hw=>?_
 have key:∀ (w:World) es,(getObj r).runT T.P w es=match w.heap[r]? with
  | some (.cells ..)=>(.halt (.stuck "getObj: a row of cells") w,es)
  | some o=>(.ok o w,es.push ⟨.obj r,false,o.isChan⟩)
  | none=>(.halt (.stuck "getObj: no such block") w,es):=fun w es=>by
  show (Sem.getObj r Sem.pure).runT T.P _ es=_
  rw [Sem.runT]
  cases w.heap[r]? with
  | none=>rfl
  | some o=>cases o<;>rfl
 have hp:∀ U D,((Pz w).af U D).heap[r]?=w.heap[r]?:=fun U D=>cZ hb
 cases ho:w.heap[r]? with
 | none=>exact .inl fun U D ep=>⟨.stuck "getObj: no such block",_,ep,trivial,by rw [key,hp,ho]⟩
 | some o=>
  have hlt:=(Array.getElem?_eq_some_iff.1 ho).1
  have fin:(∀ c e z,o≠.cells c e z)→∃ a w1 us up,(T.n0≤r→Lt a)∧nU w w1 us∧∀ U D,(∀ es,(getObj r).runT T.P (w.af U D) es=(.ok a (w1.af U D),es++us))∧∀ ep,(getObj r).runT T.P ((Pz w).af U D) ep=(.ok a ((Pz w1).af U D),ep++up):=fun hne=>by
   refine ⟨o,w,#[⟨.obj r,false,o.isChan⟩],#[⟨.obj r,false,o.isChan⟩],fun hl=>hw.obj r o hl ho,⟨hw,Nat.le_refl _,fun _ _=>rfl,fun e he=>by simp at he;subst he;exact .inr (.inl ⟨r,rfl,fun h=>hb (T.GM _ h),hlt⟩)⟩,fun U D=>⟨fun es=>?_,fun ep=>?_⟩⟩
   ·rw [key,show (w.af U D).heap[r]?=some o from ho,← Array.push_eq_append]
    cases o<;>first|rfl|exact (hne _ _ _ rfl).elim
   ·rw [key,hp,ho,← Array.push_eq_append]
    cases o<;>first|rfl|exact (hne _ _ _ rfl).elim
  cases o with
  | cells c e z=>exact .inl fun U D ep=>⟨.stuck "getObj: a row of cells",_,ep,trivial,by rw [key,hp,ho]⟩
  | _=>exact .inr (fin nofun)
theorem jH {r:Nat} {k:Obj→Sem β} (h:∀ o,¬ T.bad r→(T.n0≤r→Lt o)→MZ B (k o)) (hd:∃ x,mQ x∧k (.stringIter ⟨#[]⟩ 0)=.halt x):MZ B (getObj r >>= k):=by
 by_cases hb:T.bad r
 ·refine MZ.still fun w hw=>.inl fun U D ep=>?_
  obtain ⟨x,hx,e⟩:=hd
  refine ⟨x,(Pz w).af U D,ep.push ⟨.obj r,false,false⟩,hx,?_⟩
  show (Sem.getObj r k).runT T.P _ ep=_
  rw [Sem.runT,show ((Pz w).af U D).heap[r]?=_ from hw.rT hb]
  simp only
  rw [e];rfl
 ·exact uB hb (h · hb)
theorem jG {r:Nat} {o:Obj} (hb:¬ T.bad r) (ho:Lt o):MZ Tr (setObj r o):=by
 refine MZ.still fun w hw=>?_
 have key:∀ (w:World) es,(setObj r o).runT T.P w es=match w.heap[r]? with
  | some (.cells ..)=>(.halt (.stuck "setObj: a row of cells") w,es)
  | some _=>(.ok () { w with heap:=w.heap.setIfInBounds r o },es.push ⟨.obj r,true,o.isChan⟩)
  | none=>(.halt (.stuck "setObj: no such block") w,es):=fun w es=>by
  show (Sem.setObj r o (Sem.pure ())).runT T.P _ es=_
  rw [Sem.runT]
  cases w.heap[r]? with
  | none=>rfl
  | some o=>cases o<;>rfl
 have hp:∀ U D,((Pz w).af U D).heap[r]?=w.heap[r]?:=fun U D=>cZ hb
 cases hr:w.heap[r]? with
 | none=>exact .inl fun U D ep=>⟨.stuck "setObj: no such block",_,ep,trivial,by rw [key,hp,hr]⟩
 | some o1=>
  have hlt:=(Array.getElem?_eq_some_iff.1 hr).1
  let w1:World:={ w with heap:=w.heap.setIfInBounds r o }
  have hset:∀ (hp:Array Obj) (c:Nat),(hp.setIfInBounds r o)[c]?=if r=c then (hp[c]?).map (fun _=>o) else hp[c]?:=fun hp c=>by
   rw [Array.getElem?_setIfInBounds]
   by_cases e:r=c
   ·subst e
    rw [if_pos rfl,if_pos rfl]
    by_cases hl:r<hp.size
    ·rw [if_pos hl,Array.getElem?_eq_getElem hl];rfl
    ·rw [if_neg hl,Array.getElem?_eq_none (by omega)];rfl
   ·rw [if_neg e,if_neg e]
  have hw1:OKW w1:=ky hw r hb (by simp [w1]) (fun c hc=>by rw [show w1.heap[c]?=_ from hset _ _,if_neg (Ne.symm hc)]) (fun _ o' ho'=>by
   rw [show w1.heap[r]?=_ from hset _ _,if_pos rfl,hr] at ho'
   cases ho'
   exact ho) fun c e ho'=>by
   rw [show w1.heap[r]?=_ from hset _ _,if_pos rfl,hr] at ho'
   cases ho'
   exact ho
  have hpz:({ Pz w with heap:=(Pz w).heap.setIfInBounds r o }:World)=Pz w1:=FM (w:=w) (w':=w1) rfl fun c=>by
   rw [l5 (w:=w) (w':=w1) hb (fun c=>hset _ _)]
   exact hset _ _
  have fin:(∀ c e z,o1≠.cells c e z)→∃ a w1 us up,Tr a∧nU w w1 us∧∀ U D,(∀ es,(setObj r o).runT T.P (w.af U D) es=(.ok a (w1.af U D),es++us))∧∀ ep,(setObj r o).runT T.P ((Pz w).af U D) ep=(.ok a ((Pz w1).af U D),ep++up):=fun hne=>by
   refine ⟨(),w1,#[⟨.obj r,true,o.isChan⟩],#[⟨.obj r,true,o.isChan⟩],trivial,⟨hw1,Nat.le_of_eq (by simp [w1]),fun c hc=>by rw [show w1.heap[c]?=_ from hset _ _,if_neg (fun e:r=c=>hb (e ▸ hc))],fun e he=>by simp at he;subst he;exact .inr (.inl ⟨r,rfl,fun h=>hb (T.GM _ h),by simpa [w1] using hlt⟩)⟩,fun U D=>⟨fun es=>?_,fun ep=>?_⟩⟩
   ·rw [key,show (w.af U D).heap[r]?=some o1 from hr,← Array.push_eq_append]
    cases o1<;>first|rfl|exact (hne _ _ _ rfl).elim
   ·rw [key,hp,hr,← Array.push_eq_append,← hpz]
    cases o1<;>first|rfl|exact (hne _ _ _ rfl).elim
  cases o1 with
  | cells c e z=>exact .inl fun U D ep=>⟨.stuck "setObj: a row of cells",_,ep,trivial,by rw [key,hp,hr]⟩
  | _=>exact .inr (fin nofun)
theorem dz {w:World} {r:Nat} (k:Option (TypeId × Nat)→Sem β) (es:Array Event):(shape r >>= k).runT T.P w es=(k (w.shape? r)).runT T.P w es:=by
 show (Sem.shape r k).runT T.P _ es=_
 rw [Sem.runT]
theorem ng {w:World} {r:Nat} (h:¬ T.bad r):(Pz w).shape? r=w.shape? r:=by
 unfold World.shape?
 rw [cZ h]
theorem OKW.shape {w:World} (hw:OKW w) {r:Nat} (h:T.bad r):(Pz w).shape? r=none∧((∃ e n,w.shape? r=some (e,n)∧0<n)∨w.shape? r=none∧¬ T.shy r∧r<w.heap.size∧∃ c e,w.heap[r]?=some (.pending c e)):=by
 unfold World.shape?
 rcases hw.bad r h with ⟨c,e,h1,h2⟩|⟨hs,c,e,h1⟩
 ·rw [hw.rT h,h1]
  exact ⟨rfl,.inl ⟨e,c.size,rfl,h2⟩⟩
 ·rw [hw.rT h,h1]
  exact ⟨rfl,.inr ⟨rfl,hs,(Array.getElem?_eq_some_iff.1 h1).1,c,e,rfl⟩⟩
theorem kE {r:Nat} {k:Option (TypeId × Nat)→Sem β} (h:∀ x,MZ B (k x)) (hd:¬ T.bad r∨∃ x,mQ x∧k none=.halt x):MZ B (shape r >>= k):=by
 by_cases hb:T.bad r
 ·obtain ⟨x,hx,e⟩:=hd.resolve_left (fun h=>h hb)
  refine MZ.still fun w hw=>.inl fun U D ep=>⟨x,(Pz w).af U D,ep,hx,?_⟩
  rw [dz,show ((Pz w).af U D).shape? r=none from (hw.shape hb).1,e];rfl
 ·intro w hw t d
  obtain ⟨c,hh|⟨q,w1,us,up,h1,h2,h3⟩⟩:=h (w.shape? r) w hw t d
  ·refine ⟨c,.inl fun U D hA ep=>?_⟩
   obtain ⟨h',w1,fs,hd,e⟩:=hh U D hA ep
   refine ⟨h',w1,fs,hd,?_⟩
   rw [dz,show ((Pz w).af U D).shape? r=w.shape? r from ng hb];exact e
  ·refine ⟨c,.inr ⟨q,w1,us,up,h1,h2,fun U D hA=>⟨fun es=>?_,fun ep=>?_⟩⟩⟩
   ·rw [dz];exact (h3 U D hA).1 es
   ·rw [dz,show ((Pz w).af U D).shape? r=w.shape? r from ng hb];exact (h3 U D hA).2 ep
end
end Mz
end
section
namespace Mz
open Go Go.Conc Ren
variable [T:Mc]
section
variable {α β γ:Type} {A:α→Prop} {B:β→Prop}
theorem MZ.any {s:Sem α} (h:MZ A s):MZ Tr s:=h.mono fun _ _=>trivial
theorem MZ.ok {a:α}:MZ Tr (pure a:Sem α):=MZ.ret trivial
theorem oC (t:TypeId):MZ (fun i=>T.P.info? t=some i) (typeInfo t):=by
 unfold typeInfo
 refine MZ.prog ?_
 split
 ·rename_i h;exact MZ.ret h
 ·exact MZ.dead
theorem aK (t:TypeId):MZ Tr (typeInfo t):=(oC t).any
theorem il (t:TypeId):MZ (fun d=>T.P.underlying t=some d) (underlying t):=by
 unfold underlying
 refine MZ.prog ?_
 split
 ·rename_i h;exact MZ.ret h
 ·exact MZ.dead
theorem ak (t:TypeId):MZ Tr (underlying t):=(il t).any
theorem aY (t:TypeId):MZ Tr (sizeOf t):=MZ.bind (aK t) fun _ _=>MZ.ok
theorem Bw (t:TypeId):MZ Tr (isAgg t):=MZ.bind (ak t) fun a _=>by split<;>exact MZ.ok
theorem qZ (t:TypeId):MZ Tr (elemOf t):=MZ.bind (ak t) fun a _=>by split<;>first|exact MZ.ok|exact MZ.dead
theorem bG (t:TypeId):MZ Tr (zeroValue t):=MZ.bind (aK t) fun i _=>by split<;>first|exact MZ.ok|exact MZ.dead
theorem jk (a:Addr):∀ (n i:Nat) (xs:Array Value),MZ Tr (loadCellsFrom a i n xs)
 | 0,_,_=>MZ.ok
 | n+1,i,_=>MZ.bind (Gi _) fun v _=>jk a n (i+1) _
theorem gY (a:Addr) (n:Nat):MZ Tr (loadCells a n):=jk a n 0 _
theorem fZ (a:Addr):∀ (l:List Value) (i:Nat),MZ Tr (storeCells a l i)
 | [],_=>MZ.ok
 | v::l,i=>MZ.bind (JM _ _) fun _ _=>fZ a l (i+1)
theorem dX (t:TypeId) (a:Addr):MZ Tr (loadVar t a):=by
 unfold loadVar
 refine MZ.bind (Bw t) fun b _=>?_
 split
 ·exact MZ.bind (aY t) fun n _=>MZ.bind (gY a n) fun cs _=>MZ.ok
 ·exact Gi a
theorem iW (t:TypeId) (a:Addr) (v:Value):MZ Tr (storeVar t a v):=by
 unfold storeVar
 refine MZ.bind (aY t) fun n _=>?_
 split
 ·exact MZ.dead
 ·exact fZ a _ _
theorem fG (t:TypeId) (xs:Array Value):MZ (fun a=>¬ T.bad a.block) (newRow t xs):=MZ.bind (yl trivial) fun _ h=>MZ.ret h.2
theorem iL (t:TypeId) (v:Value):MZ Tr (newVar t v):=(fG t v.cells).any
theorem fP (t:TypeId) (cs:Array Value) (off:Nat):MZ Tr (part t cs off):=by
 unfold part
 refine MZ.bind (Bw t) fun b _=>?_
 split
 ·exact MZ.bind (aY t) fun n _=>MZ.ok
 ·split
  ·exact MZ.ok
  ·exact MZ.dead
theorem nE (n:Nat):MZ Tr (askRoom n):=by
 unfold askRoom
 split
 ·exact Gf trivial
 ·exact MZ.ok
theorem aR (e:RuntimeError):MZ A (runtimePanic e:Sem α):=by
 unfold runtimePanic
 refine MZ.prog ?_
 cases e with
 | bounds x y s c=>exact MZ.pan
 | error m=>exact MZ.pan
 | plain m=>exact MZ.pan
 | nilDeref=>exact MZ.pan
 | typeAssertion i c a m=>exact MZ.bind (qZ _) fun t _=>MZ.bind (iL t _) fun r _=>MZ.pan
 | panicNil=>exact MZ.bind (qZ _) fun t _=>MZ.bind (iL t _) fun r _=>MZ.pan
 | unhashable t=>exact MZ.pan
theorem fB (m:String):MZ A (panicString m:Sem α):=by
 unfold panicString
 exact MZ.prog MZ.pan
theorem jI (k:IntKind) (x y:Int) (c:BoundsCode):MZ A (boundsPanic k x y c:Sem α):=by
 unfold boundsPanic
 split
 ·exact MZ.bind (A:=Tr) (MZ.bind (bN _) fun _ _=>MZ.ok) fun s _=>aR _
 ·exact MZ.bind (A:=Tr) MZ.ok fun s _=>aR _
theorem kF (v:Value):MZ Tr (asIntOf v):=by unfold asIntOf;split<;>first|exact MZ.ok|exact MZ.dead
theorem kG (v:Value):MZ Tr (asInt v):=MZ.bind (kF v) fun _ _=>MZ.ok
theorem rf (v:Value):MZ Tr (asBool v):=by unfold asBool;split<;>first|exact MZ.ok|exact MZ.dead
theorem JW (v:Value):MZ Tr (asAgg v):=by unfold asAgg;split<;>first|exact MZ.ok|exact MZ.dead
theorem gJ (v:Value):MZ Tr (Instr.sureAddr v):=by unfold Instr.sureAddr;split<;>first|exact MZ.ok|exact MZ.dead
theorem jJ (v:Value):MZ Tr (asAddr v):=by unfold asAddr;split<;>first|exact MZ.ok|exact MZ.dead|exact aR _
theorem Gc {k:Obj→Sem (Option γ)} (h:∀ o,MZ Tr (k o)) (hk:k (.stringIter ⟨#[]⟩ 0)=Sem.pure none) (hk2:∀ c e,k (.pending c e)=Sem.pure none) (r:Nat):MZ Tr (shape r >>= fun x=>if x.isSome=true then pure none else getObj r >>= k):=by
 by_cases hb:T.bad r
 ·refine MZ.still fun w hw=>.inr ?_
  have hpz:∀ U D ep,(shape r >>= fun x=>if x.isSome=true then pure none else getObj r >>= k).runT T.P ((Pz w).af U D) ep=(.ok none ((Pz w).af U D),ep++#[⟨.obj r,false,false⟩]):=fun U D ep=>by
   rw [dz,show ((Pz w).af U D).shape? r=none from (hw.shape hb).1]
   show (Sem.getObj r k).runT T.P _ ep=_
   rw [Sem.runT,show ((Pz w).af U D).heap[r]?=_ from hw.rT hb]
   simp only
   rw [hk];rfl
  rcases (hw.shape hb).2 with ⟨e,n,he,_⟩|⟨he,hs,hlt,c,e,ho⟩
  ·refine ⟨none,w,#[],#[⟨.obj r,false,false⟩],trivial,⟨hw,Nat.le_refl _,fun _ _=>rfl,by simp⟩,fun U D=>⟨fun es=>?_,hpz U D⟩⟩
   rw [dz,show (w.af U D).shape? r=some (e,n) from he,Array.append_empty];rfl
  ·refine ⟨none,w,#[⟨.obj r,false,false⟩],#[⟨.obj r,false,false⟩],trivial,⟨hw,Nat.le_refl _,fun _ _=>rfl,fun x hx=>by simp at hx;subst hx;exact .inr (.inl ⟨r,rfl,hs,hlt⟩)⟩,fun U D=>⟨fun es=>?_,hpz U D⟩⟩
   rw [dz,show (w.af U D).shape? r=none from he]
   show (Sem.getObj r k).runT T.P _ es=_
   rw [Sem.runT,show (w.af U D).heap[r]?=_ from ho]
   simp only
   rw [hk2];rfl
 ·refine kE (fun x=>?_) (.inl hb)
  split
  ·exact MZ.ok
  ·exact uB hb fun o _=>h o
theorem yc (r:Nat):MZ Tr (viewAt r):=Gc (k:=fun o=>match o with|.view a t=>pure (some (a,t))|_=>pure none) (fun o=>by split<;>exact MZ.ok) rfl (fun _ _=>rfl) r
theorem qP (r:Nat):MZ Tr (numberAt r):=Gc (k:=fun o=>match o with|.number a lost=>pure (some (a,lost))|_=>pure none) (fun o=>by split<;>exact MZ.ok) rfl (fun _ _=>rfl) r
theorem bf (a:Addr):MZ Tr (behindNumber a):=MZ.bind (qP _) fun _ _=>MZ.ok
theorem qQ (a:Addr):MZ Tr (noView a):=MZ.bind (yc _) fun x _=>by split<;>first|exact MZ.ok|exact MZ.dead
theorem yh (g:Option (TypeId × Nat)→γ) (hg:∀ e n,0<n→g (some (e,n))=g none) (r:Nat):MZ Tr (do pure (g (← shape r)):Sem γ):=
 MZ.look (fun w=>g (w.shape? r)) (fun _ _=>trivial) (fun _=>#[]) (fun _=>#[]) (fun _ _=>by simp) fun w hw U D=>by
  refine ⟨fun es=>?_,fun ep=>?_⟩
  ·refine (dz _ es).trans ?_
   rw [Array.append_empty];rfl
  ·refine (dz _ ep).trans ?_
   rw [Array.append_empty]
   by_cases hb:T.bad r
   ·obtain ⟨h1,⟨e,n,h2,h3⟩|⟨h2,_⟩⟩:=hw.shape hb
    ·rw [show ((Pz w).af U D).shape? r=none from h1,h2,hg e n h3];rfl
    ·rw [show ((Pz w).af U D).shape? r=none from h1,h2];rfl
   ·rw [show ((Pz w).af U D).shape? r=w.shape? r from ng hb];rfl
theorem oF (a:Addr):MZ Tr (stringish a):=by
 unfold stringish
 refine MZ.bind (mg a) fun b _=>?_
 split
 ·exact MZ.ok
 ·by_cases hb:T.bad a.block
  ·refine MZ.still fun w hw=>.inr ⟨false,w,#[],#[],trivial,⟨hw,Nat.le_refl _,fun _ _=>rfl,by simp⟩,fun U D=>⟨fun es=>?_,fun ep=>?_⟩⟩
   ·refine (dz _ es).trans ?_
    rcases hw.bad _ hb with ⟨c,e,h1,h2⟩|⟨_,c,e,h1⟩
    ·have hs:(w.af U D).shape? a.block=some (e,c.size):=by
      show w.shape? a.block=_
      unfold World.shape?;rw [h1]
     rw [hs,Array.append_empty]
     show (Sem.frozen { block:=a.block,off:=c.size } Sem.pure).runT T.P _ es=_
     rw [Sem.runT]
     have:(w.af U D).frozen? { block:=a.block,off:=c.size }=false:=by
      show w.frozen? _=_
      unfold World.frozen?;rw [h1];simp
     rw [this];rfl
    ·have hs:(w.af U D).shape? a.block=none:=by
      show w.shape? a.block=_
      unfold World.shape?;rw [h1]
     rw [hs,Array.append_empty];rfl
   ·refine (dz _ ep).trans ?_
    rw [show ((Pz w).af U D).shape? a.block=none from (hw.shape hb).1,Array.append_empty];rfl
  ·refine kE (fun x=>?_) (.inl hb)
   split
   ·exact mg _
   ·exact MZ.ok
theorem Am (a b:Addr):MZ Tr (mayBeOne a b):=by
 unfold mayBeOne
 have hn:∀ x:Addr,MZ Tr (do pure ((← shape x.block) matches some (_,0)):Sem Bool):=fun x=>yh (fun s=>s matches some (_,0)) (fun e n hn=>by
  cases n with
  | zero=>omega
  | succ n=>rfl) _
 exact MZ.bind (oF a) fun x _=>MZ.bind (oF b) fun y _=>MZ.bind (hn a) fun _ _=>MZ.bind (hn b) fun _ _=>MZ.ok
theorem qL (a b:Addr):MZ Tr (sameAddr a b):=by
 unfold sameAddr
 split
 ·exact MZ.ok
 ·refine MZ.bind (mg a) fun x _=>MZ.bind (mg b) fun y _=>?_
  dsimp only
  split
  ·exact MZ.dead
  ·refine MZ.bind (qQ a) fun _ _=>MZ.bind (qQ b) fun _ _=>MZ.bind (Am a b) fun z _=>?_
   split
   ·exact MZ.bind (bN _) fun _ _=>MZ.ok
   ·exact MZ.ok
theorem gK (a:Addr):MZ Tr (byteOf a):=by
 unfold byteOf
 split
 ·exact MZ.ok
 ·refine MZ.prog (MZ.bind (qQ a) fun _ _=>kE (fun x=>?_) (.inr ⟨.stuck "byteOf: no such block",trivial,rfl⟩))
  split
  ·dsimp only
   split
   ·exact MZ.ok
   ·split<;>first|exact MZ.ok|exact MZ.dead
  ·exact MZ.dead
theorem Gb:MZ Tr (Sem.sys .env Sem.pure):=by
 refine MZ.still fun w hw=>.inr ⟨.strings w.os.env,(w.sys .env).2,#[⟨.output,true,false⟩],#[⟨.output,true,false⟩],trivial,⟨?_,?_,fun b _=>?_,fun e he=>by simp at he;subst he;exact .inr (.inr (.inl rfl))⟩,fun U D=>⟨fun es=>?_,fun ep=>?_⟩⟩
 ·have e:(w.sys .env).2.heap=w.heap:=by rw [jf.kZ]
  exact ⟨by rw [e];exact hw.low,fun b o h1 h2=>hw.obj b o h1 (by rw [← e];exact h2),fun b hb=>by rw [e];exact hw.bad b hb,fun b c x hb=>by rw [e];exact hw.nop b c x hb⟩
 ·rw [jf.kZ];exact Nat.le_refl _
 ·rw [jf.kZ]
 ·rw [Sem.runT,jf.kZ,jf.kZ,← Array.push_eq_append];rfl
 ·rw [Sem.runT,jf.kZ,jf.kZ,← Array.push_eq_append];rfl
end
end Mz
end
section
namespace Mz
open Go Go.Conc Ren
variable [T:Mc]
section
variable {α β:Type} {A:α→Prop} {B:β→Prop}
theorem vM (e:RuntimeError) {f:α→Sem β}:MZ B (runtimePanic e >>= f):=MZ.bind (A:=fun _=>False) (aR e) fun _ h=>h.elim
theorem l9 (s:String) {f:α→Sem β}:MZ B (stuck s >>= f):=MZ.bind (A:=fun _=>False) MZ.dead fun _ h=>h.elim
theorem bM (u:Unsupported) {f:α→Sem β} (k:mQ (.unsupported u):=by trivial):MZ B (unsupported u >>= f):=MZ.bind (A:=fun _=>False) (MZ.dead k) fun _ h=>h.elim
theorem uy {c:Prop} [Decidable c] {s t:Sem α} (h:MZ A s) (k:MZ A t):MZ A (if c then s else t):=by split<;>assumption
theorem qW {f:α→β→Sem (ForInStep β)} (h:∀ x s,MZ Tr (f x s)):∀ (l:List α) (s:β),MZ Tr (forIn l s f)
 | [],s=>MZ.ok
 | x::l,s=>by
  simp only [List.forIn_cons]
  refine MZ.bind (h x s) fun p _=>?_
  cases p with
  | done b=>exact MZ.ok
  | yield b=>exact qW h l b
theorem mh {f:α→β→Sem (ForInStep β)} (h:∀ x s,MZ Tr (f x s)) (xs:Array α) (s:β):MZ Tr (forIn xs s f):=by
 rw [← Array.forIn_toList];exact qW h _ _
theorem yw {f:Nat→β→Sem (ForInStep β)} (h:∀ x s,MZ Tr (f x s)) (n:Nat) (s:β):MZ Tr (forIn [0:n] s f):=by
 rw [Std.Legacy.Range.forIn_eq_forIn_range'];exact qW h _ _
theorem Mt {f:α→Sem β} (h:∀ x,MZ Tr (f x)) (xs:Array α):MZ Tr (xs.mapM f):=by
 rw [Array.mapM_eq_mapM_toList]
 have:∀ l:List α,MZ Tr (l.mapM f):=by
  intro l
  induction l with
  | nil=>rw [List.mapM_nil];exact MZ.ok
  | cons x l ih=>rw [List.mapM_cons];exact MZ.bind (h x) fun _ _=>MZ.bind ih fun _ _=>MZ.ok
 show MZ Tr (xs.toList.mapM f >>= fun a=>Sem.pure a.toArray)
 exact MZ.bind (this _) fun _ _=>MZ.ok
theorem JX (t:TypeId):MZ Tr (Instr.alloc t true (.tuple #[])):=MZ.bind (bG _) fun v _=>MZ.bind (iL t v) fun a _=>MZ.ok
theorem mz_box (t:TypeId) (v:Value):MZ Tr (Instr.box t v):=MZ.bind (iL t v) fun a _=>MZ.ok
theorem Gh (t:TypeId) (v:Value):MZ Tr (Instr.loadAt t v):=MZ.bind (gJ v) fun a _=>dX t a
theorem Dr (t:TypeId) (v u:Value):MZ Tr (Instr.storeAt t v u):=MZ.bind (gJ v) fun a _=>iW t a u
theorem Dz (v:Value) (i:Nat):MZ Tr (Instr.extract v i):=by
 unfold Instr.extract
 split
 ·split<;>first|exact MZ.ok|exact MZ.dead
 ·exact MZ.dead
theorem qV (op:BinOp) (k:IntKind) (a b:Int):MZ Tr (Op.intArith op k a b):=by
 unfold Op.intArith;split<;>first|exact MZ.ok|exact MZ.dead
theorem uz (op:BinOp) (k:IntKind) (a b:Int):MZ Tr (Op.intBits op k a b):=by
 unfold Op.intBits;split<;>first|exact MZ.ok|exact MZ.dead
theorem Gl (op:BinOp) (a b:Int):MZ Tr (Op.intCmp op a b):=by
 unfold Op.intCmp;split<;>first|exact MZ.ok|exact MZ.dead
theorem Gj (op:BinOp) (k:IntKind) (a b:Int):MZ Tr (Op.intDiv op k a b):=by
 unfold Op.intDiv
 split
 ·exact aR _
 ·split<;>first|exact MZ.ok|exact MZ.dead
theorem Bu (op:BinOp) (k:IntKind) (a:Int) (k':IntKind) (b:Int):MZ Tr (Op.shift op k a k' b):=by
 unfold Op.shift
 split
 ·exact aR _
 ·dsimp only;split<;>first|exact MZ.ok|exact MZ.dead
theorem qK (op:BinOp) (a b:ByteArray):MZ Tr (Op.stringOp op a b):=by
 unfold Op.stringOp
 dsimp only
 split<;>first|exact MZ.ok|(split<;>first|exact MZ.dead|exact MZ.ok)|exact MZ.dead
theorem JQ (t:TypeId) (v u:Value):MZ Tr (Instr.index t v u):=by
 unfold Instr.index
 refine MZ.bind (kF u) fun p _=>MZ.bind (ak t) fun d _=>?_
 split
 ·split
  ·exact MZ.bind (aY _) fun n _=>fP _ _ _
  ·exact jI _ _ _ _
 ·split
  ·exact MZ.ok
  ·exact jI _ _ _ _
 ·exact MZ.dead
theorem DJ (t:TypeId) (v:Value):MZ Tr (Instr.arrayAt t v):=by
 unfold Instr.arrayAt
 refine MZ.bind (ak t) fun d _=>?_
 split
 ·split
  ·split
   ·exact aR _
   ·exact MZ.ok
  ·exact MZ.dead
 ·exact MZ.dead
theorem Dx (t:TypeId) (v u:Value):MZ Tr (Instr.indexAt t v u):=by
 unfold Instr.indexAt
 refine MZ.bind (kF u) fun p _=>MZ.bind (ak t) fun d _=>?_
 have fin:∀ (x:Option Addr × Nat × TypeId) (tiny:Bool),MZ Tr (match x.1 with
    | some a=>if 0≤p.2∧p.2<x.2.1 then (do pure (.pointer (some (a.add (p.2.toNat * (← sizeOf x.2.2)))))) else if tiny then unsupported (.noEntry "op/indexAddr.an index out of range at an array of length 0 or 1 (ledger 616)") else boundsPanic p.1 p.2 x.2.1 .index
    | none=>boundsPanic p.1 p.2 0 .index:Sem Value):=fun x tiny=>by
  split
  ·split
   ·exact MZ.bind (aY _) fun n _=>MZ.ok
   ·split
    ·exact MZ.dead
    ·exact jI _ _ _ _
  ·exact jI _ _ _ _
 split
 ·refine MZ.bind (gJ v) fun a _=>MZ.bind (A:=Tr) MZ.ok fun x _=>MZ.bind (ak t) fun d _=>?_
  split<;>exact fin _ _
 ·refine MZ.bind (A:=Tr) MZ.ok fun x _=>MZ.bind (ak t) fun d _=>?_
  split<;>exact fin _ _
 ·exact MZ.dead
theorem iZ (a:Addr) (f:Field):MZ Tr (fieldPlace a f):=by
 unfold fieldPlace
 refine MZ.bind (aY _) fun n _=>?_
 split
 ·unfold partAt
  exact MZ.bind (gK a) fun x _=>MZ.bind (gK _) fun y _=>MZ.ok
 ·exact MZ.ok
theorem Dy (t:TypeId) (v:Value) (i:Nat):MZ Tr (Instr.fieldAt t v i):=by
 unfold Instr.fieldAt
 refine MZ.bind (ak t) fun d _=>?_
 split
 ·split
  ·exact MZ.bind (gJ v) fun a _=>MZ.bind (iZ a _) fun b _=>MZ.ok
  ·exact MZ.dead
 ·exact MZ.dead
theorem JR (t:TypeId) (v:Value) (i:Nat):MZ Tr (Instr.field t v i):=by
 unfold Instr.field
 refine MZ.bind (ak t) fun d _=>?_
 split
 ·split
  ·exact MZ.bind (JW v) fun cs _=>fP _ _ _
  ·exact MZ.dead
 ·exact MZ.dead
theorem vK (x:Value) (y:Nat) (c:BoundsCode):MZ Tr (Instr.sliceBound x y c):=by
 unfold Instr.sliceBound
 refine MZ.bind (kF x) fun p _=>?_
 dsimp only
 split
 ·exact MZ.ok
 ·exact jI _ _ _ _
theorem fA (b:Bool) (l c:Nat) (lo hi mx:Option Value):MZ Tr (Instr.sliceBounds b l c lo hi mx):=by
 unfold Instr.sliceBounds
 dsimp only
 repeat' (with_reducible first|exact MZ.ok|exact l9 _|refine MZ.bind (vK _ _ _) fun _ _=>?_|refine MZ.bind (A:=Tr) MZ.ok fun _ _=>?_|split)
theorem JN (t:TypeId) (v:Value) (lo hi mx:Option Value):MZ Tr (Instr.slice t v lo hi mx):=by
 unfold Instr.slice
 refine MZ.bind (ak t) fun d _=>?_
 split
 ·split
  ·exact MZ.dead
  ·exact MZ.bind (fA _ _ _ _ _ _) fun p _=>MZ.ok
 ·exact MZ.bind (fA _ _ _ _ _ _) fun p _=>MZ.bind (aY _) fun n _=>MZ.ok
 ·refine MZ.bind (jJ _) fun a _=>MZ.bind (ak _) fun d _=>?_
  split
  ·exact MZ.bind (fA _ _ _ _ _ _) fun p _=>MZ.bind (aY _) fun n _=>MZ.ok
  ·exact MZ.dead
 ·exact MZ.dead
theorem Dt (t:TypeId) (v:Value) (lo hi mx:Option Value):MZ Tr (Instr.sliceAt t v lo hi mx):=by
 unfold Instr.sliceAt
 refine MZ.bind (ak t) fun d _=>?_
 split
 ·exact MZ.bind (gJ v) fun a _=>MZ.bind (fA _ _ _ _ _ _) fun p _=>MZ.bind (aY _) fun n _=>MZ.ok
 ·exact JN t v lo hi mx
theorem oQ (t:TypeId) (v:Value):MZ Tr (Instr.makeInterface t v):=by
 unfold Instr.makeInterface
 refine MZ.bind (ak t) fun d _=>?_
 split<;>first|exact MZ.dead|exact MZ.ok
theorem Ao (t:TypeId) (v:Value):MZ Tr (Instr.makeChan t v):=by
 unfold Instr.makeChan
 refine MZ.bind (kG v) fun n _=>MZ.bind (ak t) fun d _=>?_
 split
 ·refine MZ.bind (aK _) fun i _=>?_
  split
  ·exact vM _
  ·exact MZ.bind (yl trivial) fun r _=>MZ.ok
 ·exact MZ.dead
theorem yn (t:TypeId) (l c:Value):MZ Tr (Instr.makeSlice t l c):=by
 unfold Instr.makeSlice
 refine MZ.bind (ak t) fun d _=>?_
 split
 ·refine MZ.bind (kG l) fun n _=>MZ.bind (kG c) fun m _=>MZ.bind (aK _) fun i _=>?_
  dsimp only
  split
  ·split
   ·exact vM _
   ·split
    ·exact vM _
    ·exact MZ.bind (bN _) fun _ _=>vM _
  ·refine MZ.bind (nE _) fun _ _=>MZ.bind (aY _) fun k _=>?_
   split
   ·exact MZ.bind (A:=Tr) MZ.ok fun z _=>MZ.bind (fG _ _) fun a _=>MZ.ok
   ·exact MZ.bind (bG _) fun v _=>MZ.bind (A:=Tr) MZ.ok fun z _=>MZ.bind (fG _ _) fun a _=>MZ.ok
 ·exact MZ.dead
theorem JU (t:TypeId) (xs:Array (Nat × Value)):MZ Tr (Instr.build t xs):=by
 unfold Instr.build
 refine MZ.bind (bG t) fun z _=>MZ.bind (ak t) fun d _=>?_
 split
 ·refine MZ.bind (Mt (fun f=>MZ.bind (aY _) fun _ _=>MZ.ok) _) fun pl _=>?_
  split<;>first|exact MZ.ok|exact MZ.dead
 ·refine MZ.bind (aY _) fun n _=>?_
  split<;>first|exact MZ.ok|exact MZ.dead
 ·exact MZ.dead
theorem vR (t:TypeId) (n:Nat) (xs:Array (Nat × Value)):MZ Tr (Instr.buildSlice t n xs):=by
 unfold Instr.buildSlice
 refine MZ.bind (ak t) fun d hd=>?_
 clear hd
 split
 ·rename_i elem
  refine MZ.bind (aY _) fun k _=>?_
  have fin:∀ z:Array Value,MZ Tr (match Instr.fill (fun i=>some (i * k,k)) ((Array.range (n * k)).map (z[· % z.size]!)) xs.toList with
    | some cells=>do pure (.slice (some (← newRow elem cells)) n n)
    | _=>stuck "buildSlice: a part of the wrong size":Sem Value):=fun z=>by
   split
   ·exact MZ.bind (fG _ _) fun a _=>MZ.ok
   ·exact MZ.dead
  dsimp only
  repeat' (first|exact MZ.dead|exact MZ.bind (A:=Tr) MZ.ok fun z _=>fin z|exact MZ.bind (bG _) fun v _=>MZ.bind (A:=Tr) MZ.ok fun z _=>fin z|exact l9 _|exact bM _|split)
 ·exact MZ.dead
theorem vI (v:Value) (t u:TypeId) (ok:Bool):MZ Tr (Instr.typeAssert v t u ok):=by
 unfold Instr.typeAssert
 dsimp only
 have holds:∀ v,MZ Tr (pure (if ok then .tuple #[v,.bool true] else v):Sem Value):=fun v=>MZ.ok
 have fails:∀ (s d:Option TypeId) (m:String),MZ Tr (do if ok then pure (.tuple #[← zeroValue u,.bool false]) else runtimePanic (.typeAssertion s d u m):Sem Value):=fun s d m=>by
  split
  ·exact MZ.bind (bG u) fun z _=>MZ.ok
  ·exact aR _
 refine MZ.bind (ak u) fun d _=>?_
 split
 ·exact fails _ _ _
 ·refine MZ.bind (aK _) fun i _=>?_
  split
  ·exact holds _
  ·exact fails _ _ _
 ·exact fails _ _ _
 ·split
  ·exact holds _
  ·exact fails _ _ _
 ·exact MZ.dead
theorem Dw (v:Value) {A:Value→Prop}:MZ A (Instr.panic v):=by
 unfold Instr.panic
 split
 ·exact MZ.pan
 ·refine MZ.bind (A:=Tr) ?_ fun n _=>?_
  ·unfold Instr.panicnil
   refine MZ.bind (A:=Tr) Gb fun r _=>?_
   split
   ·exact MZ.prog MZ.ok
   ·exact MZ.dead
  ·split
   ·exact MZ.pan
   ·exact aR _
 ·exact MZ.dead
theorem mz_len (ts:Array TypeId) (t:TypeId) (xs:Array Value):MZ Tr (Builtin.len_ ts t xs):=by
 unfold Builtin.len_
 split
 ·refine MZ.bind (ak _) fun d _=>?_
  split<;>first|exact MZ.ok|exact MZ.dead|skip
  ·refine MZ.bind (ak _) fun d _=>?_
   split<;>first|exact MZ.ok|exact MZ.dead
  ·refine jH (fun o _ _=>?_) ⟨.stuck "len: map expected",trivial,rfl⟩
   split<;>first|exact MZ.ok|exact MZ.dead
  ·refine jH (fun o _ _=>?_) ⟨.stuck "len: channel expected",trivial,rfl⟩
   split<;>first|exact MZ.ok|exact MZ.dead
 ·exact MZ.dead
theorem JS (ts:Array TypeId) (t:TypeId) (xs:Array Value):MZ Tr (Builtin.close_ ts t xs):=by
 obtain ⟨l⟩:=xs
 match l with
 | []=>exact MZ.dead
 | a::b::l=>cases a with
  | chan r=>cases r<;>exact MZ.dead
  | _=>exact MZ.dead
 | [a]=>
  cases a with
  | chan r=>
   cases r with
   | none=>exact (aR _:MZ Tr (runtimePanic (.plain "close of nil channel")))
   | some r=>
    refine jH (fun o hb _=>?_) ⟨.stuck "close: no channel in this block",trivial,rfl⟩
    split
    ·dsimp only
     split
     ·exact vM _
     ·exact MZ.bind (jG hb trivial) fun _ _=>MZ.ok
    ·exact MZ.dead
  | _=>exact MZ.dead
theorem Mr (x y:Value):MZ Tr (Builtin.min2 x y):=by
 unfold Builtin.min2
 split<;>first|exact MZ.ok|exact MZ.dead|exact MZ.bind (qK _ _ _) fun v _=>MZ.bind (rf v) fun _ _=>MZ.ok|(split<;>first|exact MZ.ok|exact MZ.bind (bN _) fun _ _=>MZ.ok)
theorem mz_min (ts:Array TypeId) (t:TypeId) (xs:Array Value):MZ Tr (Builtin.min_ ts t xs):=by
 unfold Builtin.min_
 split
 ·exact MZ.dead
 ·rename_i x rest he
  have key:∀ (l:List Value) (x:Value),MZ Tr (l.foldlM Builtin.min2 x):=by
   intro l
   induction l with
   | nil=>intro x;exact MZ.ok
   | cons y l ih=>intro x;rw [List.foldlM_cons];exact MZ.bind (Mr x y) fun z _=>ih z
  exact key rest x
theorem Bv (v:Value):MZ Tr (Builtin.lenOf v):=by unfold Builtin.lenOf;split<;>first|exact MZ.ok|exact MZ.dead
theorem mq (size n:Nat) (v:Value):MZ Tr (Builtin.firstCells size n v):=by
 unfold Builtin.firstCells
 split<;>first|exact MZ.ok|exact MZ.dead|exact gY _ _
end
end Mz
end
section
namespace Mz
open Go Go.Conc Ren
variable [T:Mc]
section
variable {α β:Type} {A:α→Prop} {B:β→Prop}
def zl {α:Type}:Sem α→Prop
 | .pure _=>True
 | .shape _ k=>∀ x,zl (k x)
 | .frozen _ k=>∀ x,zl (k x)
 | _=>False
def NC {α:Type}:Sem α→Prop
 | .halt h=>mQ h
 | .shape _ k=>∀ x,NC (k x)
 | .frozen _ k=>∀ x,NC (k x)
 | .mark _ k=>NC k
 | _=>False
omit T in
theorem zl.bnd {s:Sem α} {f:α→Sem β} (h:zl s) (k:∀ a,NC (f a)):NC (s.bind f):=by
 induction s with
 | pure a=>exact k a
 | shape r q ih=>exact fun x=>ih x (h x)
 | frozen r q ih=>exact fun x=>ih x (h x)
 | _=>exact h.elim
omit T in
theorem zl.bind {s:Sem α} {f:α→Sem β} (h:zl s) (k:∀ a,zl (f a)):zl (s >>= f):=by
 show zl (s.bind f)
 induction s with
 | pure a=>exact k a
 | shape r q ih=>exact fun x=>ih x (h x)
 | frozen r q ih=>exact fun x=>ih x (h x)
 | _=>exact h.elim
theorem Jc {s:Sem α}:∀ (w:World) (es:Array Event),NC s→∃ h w1 fs,mQ h∧s.runT T.P w es=(.halt h w1,fs):=by
 induction s with
 | halt x=>intro w es h;exact ⟨x,w,es,h,by rw [Sem.runT]⟩
 | shape r q ih=>intro w es h;rw [Sem.runT];exact ih _ _ _ (h _)
 | frozen r q ih=>intro w es h;rw [Sem.runT];exact ih _ _ _ (h _)
 | mark m q ih=>intro w es h;rw [Sem.runT];exact ih _ _ h
 | _=>intro w es h;exact h.elim
theorem MZ.sure {s:Sem α} (h:NC s):MZ A s:=fun w _ _ _=>⟨0,.inl fun U D _ ep=>Jc _ _ h⟩
omit T in
theorem tQ (a:Addr) (n:Nat):zl (Builtin.holdsCells a n):=by
 unfold Builtin.holdsCells
 intro x
 show zl (match x with
  | some (_,m)=>pure (a.spot.isNone && decide (a.off+n≤m))
  | none=>pure false:Sem Bool)
 split<;>trivial
omit T in
theorem uX (size l n:Nat) (b:Option Addr) (x:Value):zl (Builtin.mayShare size l n b x):=by
 unfold Builtin.mayShare
 dsimp only
 have h2:∀ there:Bool,zl (if (!there)=true then pure true else match x with
   | .slice (some c) _ _=>do pure (!(← Builtin.holdsCells c (n * size)) || b.any (·.block == c.block))
   | _=>pure false:Sem Bool):=fun there=>by
  split
  ·trivial
  ·split
   ·exact zl.bind (tQ _ _) fun _=>trivial
   ·trivial
 cases b with
 | none=>exact h2 true
 | some a=>exact zl.bind (tQ _ _) fun c=>zl.bind (s:=frozen _) (fun _=>trivial) fun f=>h2 (c && !f)
theorem pK (size l n:Nat) (b:Option Addr) (x:Value) (u:String):MZ A (do
  if !(← Builtin.mayShare size l n b x) then mark .noRoom
  unsupported (.resourceLimit u):Sem α):=MZ.sure (zl.bnd (uX size l n b x) fun c=>by split<;>trivial)
theorem Gp (ts:Array TypeId) (t:TypeId) (xs:Array Value):MZ Tr (Builtin.append_ ts t xs):=by
 unfold Builtin.append_
 split
 ·rename_i sType s x e
  clear e
  refine MZ.bind (ak _) fun d _=>?_
  split
  ·rename_i elem _ _
   split
   ·rename_i base sLen sCap
    refine MZ.bind (aY _) fun size _=>?_
    have hzs:∀ zeros:Bool,zeros=true∨zeros=false:=fun z=>by cases z<;>simp
    dsimp only
    have fin:∀ zeros:Bool,∀ X:Bool→Sem Value,(∀ z,MZ Tr (X z))→MZ Tr (X zeros):=fun z X h=>h z
    split
    ·refine MZ.bind (ak _) fun _ _=>MZ.bind (A:=Tr) MZ.ok fun zeros _=>?_
     rcases hzs zeros with rfl|rfl
     all_goals simp only [Bool.not_true,Bool.not_false,Bool.false_eq_true,↓reduceIte]
     all_goals repeat' (first
      | with_reducible exact vM _
      | with_reducible exact bM _
      | with_reducible exact pK _ _ _ _ _ _
      | with_reducible exact MZ.bind (A:=fun _=>False) (pK _ _ _ _ _ _) fun _ h=>h.elim
      | with_reducible exact MZ.ok
      | with_reducible refine MZ.bind (A:=Tr) MZ.ok fun _ _=>?_
      | with_reducible refine MZ.bind (kG _) fun _ _=>?_
      | with_reducible refine MZ.bind (aK _) fun _ _=>?_
      | with_reducible refine MZ.bind (bN _) fun _ _=>?_
      | with_reducible refine MZ.bind (Bv _) fun _ _=>?_
      | with_reducible refine MZ.bind (nE _) fun _ _=>?_
      | with_reducible refine MZ.bind (mq _ _ _) fun _ _=>?_
      | with_reducible refine MZ.bind (fZ _ _ _) fun _ _=>?_
      | with_reducible refine MZ.bind (bG _) fun _ _=>?_
      | with_reducible refine MZ.bind (fG _ _) fun _ _=>?_
      | with_reducible refine MZ.bind (A:=Tr) (MZ.bind (bG _) fun _ _=>MZ.ok) fun _ _=>?_
      | split)
    ·refine MZ.bind (A:=fun z=>z=false) (MZ.ret rfl) fun zeros e=>?_
     subst e
     simp only [Bool.not_true,Bool.not_false,Bool.false_eq_true,↓reduceIte]
     repeat' (first
      | with_reducible exact vM _
      | with_reducible exact bM _
      | with_reducible exact pK _ _ _ _ _ _
      | with_reducible exact MZ.bind (A:=fun _=>False) (pK _ _ _ _ _ _) fun _ h=>h.elim
      | with_reducible exact MZ.ok
      | with_reducible refine MZ.bind (A:=Tr) MZ.ok fun _ _=>?_
      | with_reducible refine MZ.bind (kG _) fun _ _=>?_
      | with_reducible refine MZ.bind (aK _) fun _ _=>?_
      | with_reducible refine MZ.bind (bN _) fun _ _=>?_
      | with_reducible refine MZ.bind (Bv _) fun _ _=>?_
      | with_reducible refine MZ.bind (nE _) fun _ _=>?_
      | with_reducible refine MZ.bind (mq _ _ _) fun _ _=>?_
      | with_reducible refine MZ.bind (fZ _ _ _) fun _ _=>?_
      | with_reducible refine MZ.bind (bG _) fun _ _=>?_
      | with_reducible refine MZ.bind (fG _ _) fun _ _=>?_
      | with_reducible refine MZ.bind (A:=Tr) (MZ.bind (bG _) fun _ _=>MZ.ok) fun _ _=>?_
      | split)
   ·exact MZ.dead
  ·exact MZ.dead
 ·exact MZ.dead
end
end Mz
end
