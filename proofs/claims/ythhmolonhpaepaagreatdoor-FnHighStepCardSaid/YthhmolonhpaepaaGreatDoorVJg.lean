/- What one walk does, another one does that lies on other numbers of blocks: one step of a goroutine. Conditions: none. -/
import Derived.Test.YthhmolonhpaepaaGreatDoorVJc
import Derived.Conc.Own5
import Derived.Conc.Listed
import Derived.RunT
import Derived.StepT
import Derived.Conc.CompanyDraw
set_option linter.unusedVariables false
set_option linter.unusedSimpArgs false
section
namespace Ren
open Go Go.Conc
variable [aW] {P:Program}
def Ai (P:Program) (F:Nat→Option (List Nat)) (I:List Nat) (ops:Array Oper):Bool:=ops.all fun o=>om P F I o.op && H5 I o
def codeOk (P:Program) (F:Nat→Option (List Nat)) (I:List Nat):Code→Bool
 | .skip|.ret|.label _|.exit _=>true
 | .seq a b=>codeOk P F I a && codeOk P F I b
 | .cond c a b=>iK c && codeOk P F I a && codeOk P F I b
 | .block _ b|.loop b=>codeOk P F I b
 | .region _ ops _=>Ai P F I ops
 | _=>false
def jM (P:Program) (F:Nat→Option (List Nat)) (I:List Nat):Item→Bool
 | .code c|.inLoop c=>codeOk P F I c
 | .inBlock _=>true
 | .inRegion ops _=>Ai P F I ops
 | _=>false
def jo (P:Program) (F:Nat→Option (List Nat)):Prop:=∀ f J,F f=some J→∃ fn c,P.funcs[f]?=some fn∧fn.body=some c∧codeOk P F J c=true
def Be (v:Value):Prop:=(∃ k n,v=.int k n)∨v=.tuple #[]
variable (P) in
inductive FR (F:Nat→Option (List Nat)) (ρ:Map):Frame→Frame→Prop
 | run (f:FuncId) (J:List Nat) (T T':Array Value) (k:List Item) (hJ:F f=some J) (hk:∀ x∈k,jM P F J x=true) (hi:∀ t∈J,Be (T.getD t undef)) (hT:RR ρ T T') :
   FR F ρ ((Go.Conc.base f).at ⟨T,[]⟩ k) ((Go.Conc.base f).at ⟨T',[]⟩ k)
 | ret (f:FuncId) (J:List Nat) (T T':Array Value) (k:List Item) (hJ:F f=some J) (hT:RR ρ T T') :
   FR F ρ { (Go.Conc.base f).at ⟨T,[]⟩ k with mode:=.returning } { (Go.Conc.base f).at ⟨T',[]⟩ k with mode:=.returning }
variable (P) in
inductive CR (F:Nat→Option (List Nat)) (ρ:Map) (gl gc:List Frame):List Frame→List Frame→Prop
 | ground:CR F ρ gl gc gl gc
 | call (f:FuncId) (J:List Nat) (T T':Array Value) (k:List Item) (cs cs':List Frame) (hJ:F f=some J) (hk:∀ x∈k,jM P F J x=true) (hi:∀ t∈J,Be (T.getD t undef)) (hT:RR ρ T T')
   (ops:Array Oper) (i:Nat) (rest:List Nat) (o:Oper) (ho:ops[i]?=some o) (hok:Ai P F J ops=true) (hd:∀ d,o.dst=some d→d ∉ J) (hc:CR F ρ gl gc cs cs') :
   CR F ρ gl gc ((Go.Conc.base f).at ⟨T,[]⟩ (.inRegion ops (i::rest)::k)::cs) ((Go.Conc.base f).at ⟨T',[]⟩ (.inRegion ops (i::rest)::k)::cs')
theorem CR.mono {F:Nat→Option (List Nat)} {ρ σ:Map} (h:ρ.le σ) {gl gc cs cs':List Frame} (k:CR P F ρ gl gc cs cs'):CR P F σ gl gc cs cs':=by
 induction k with
 | ground=>exact .ground
 | call f J T T' k cs cs' hJ hk hi hT ops i rest o ho hok hd _ ih=>exact .call f J T T' k cs cs' hJ hk hi (hT.mono h) ops i rest o ho hok hd ih
section
variable {F:Nat→Option (List Nat)} {ρ:Map} {J:List Nat} {T T':Array Value}
theorem gV:VR ρ undef undef:=.tuple _ _ rfl fun i h1=>by simp at h1
theorem evR (hT:RR ρ T T') (hi:∀ t∈J,Be (T.getD t undef)):EvR J ρ (Act.eval ⟨T,[]⟩) (Act.eval ⟨T',[]⟩):=by
 refine ⟨fun x hx=>?_,fun x hx=>?_,fun f=>⟨rfl,rfl⟩,fun v=>⟨rfl,rfl⟩⟩
 ·cases x with
  | tmp t=>exact hT.getD t gV
  | const v=>exact BR hx
  | func f=>cases hx
  | global g=>cases hx
 ·cases x with
  | tmp t=>
   have hv:=hT.getD t (gV (ρ:=ρ))
   rcases hi t (by simpa [kR] using hx) with ⟨k,n,e⟩|e
   ·rw [e] at hv
    left
    refine ⟨k,n,e,?_⟩
    show T'.getD t undef=_
    generalize T'.getD t undef=y at hv
    cases hv;rfl
   ·exact .inr e
  | const v=>
   cases v<;>first|exact Bool.noConfusion hx|exact .inl ⟨_,_,rfl,rfl⟩
  | func f=>cases hx
  | global g=>cases hx
theorem Ii {c:Operand} (hT:RR ρ T T') (hc:iK c=true) {b:Bool} (h:Act.eval ⟨T,[]⟩ c=.bool b):Act.eval ⟨T',[]⟩ c=.bool b:=by
 have:=(evR (J:=[]) hT (fun t ht=>by simp at ht)).vr c hc
 rw [h] at this
 generalize Act.eval ⟨T',[]⟩ c=y at this
 cases this;rfl
theorem xc (hT:RR ρ T T') (ops:Array Oper) (o:Oper):Region.wanted o (yielded ops T)=Region.wanted o (yielded ops T'):=by
 unfold Region.wanted
 cases o.guard with
 | none=>rfl
 | some g=>
  obtain ⟨j,want⟩:=g
  have:yielded ops T j=yielded ops T' j:=by
   unfold yielded
   cases hd:(ops[j]?).bind (·.dst) with
   | none=>rfl
   | some d=>
    simp only [Option.bind_some]
    rcases hT.get? d with ⟨e1,e2⟩|⟨u,v,e1,e2,r⟩
    ·rw [e1,e2]
    ·rw [e1,e2];cases r<;>rfl
  dsimp only
  rw [this]
omit [aW] in
theorem DX {e:Operand→Value} {o:Oper} (hint:∀ x,kR J x=true→Be (e x)) (hd:H5 J o=true) {d:Nat} (ho:o.dst=some d) (hdJ:d∈J) {w w':World} {es fs:Array Event} {v:Value}
  (h:(execOp e o).runT P w es=(.ok (.value v) w',fs)):Be v:=by
 unfold H5 at hd
 simp only [ho,Bool.or_eq_true,Bool.not_eq_true',List.contains_eq_mem,decide_eq_false_iff_not] at hd
 have hd:=hd.resolve_left (fun x=>x hdJ)
 unfold execOp at h
 revert hd h
 cases o.op<;>intro h hd<;>first|(exact Bool.noConfusion hd)|skip
 case move x=>
  simp only [pure,Sem.runT,Prod.mk.injEq,Result.ok.injEq,Next.value.injEq] at h
  exact h.1.1 ▸ hint x hd
 case assign x=>
  simp only [pure,Sem.runT,Prod.mk.injEq,Result.ok.injEq,Next.value.injEq] at h
  exact h.1.1 ▸ hint x hd
 case binOp op t x y u=>
  cases op<;>first|(exact Bool.noConfusion hd)|skip
  simp only [Bool.and_eq_true] at hd
  rcases hint x hd.1 with ⟨k,n,e1⟩|e1
  ·rcases hint y hd.2 with ⟨k',n',f1⟩|f1
   ·simp only [e1,f1] at h
    by_cases hk:k=k'
    ·subst hk
     simp [eqGuard,binOp,Op.intArith,bind,Sem.bind,pure,Sem.runT] at h
     exact .inl ⟨_,_,h.1.1.symm⟩
    ·simp [eqGuard,binOp,hk,stuck,bind,Sem.bind,pure,Sem.runT] at h
   ·simp only [e1,f1] at h
    simp [eqGuard,binOp,stuck,bind,Sem.bind,pure,Sem.runT] at h
  ·rcases hint y hd.2 with ⟨k',n',f1⟩|f1
   ·simp only [e1,f1] at h
    simp [eqGuard,binOp,stuck,bind,Sem.bind,pure,Sem.runT] at h
   ·simp only [e1,f1] at h
    simp [eqGuard,binOp,stuck,bind,Sem.bind,pure,Sem.runT] at h
omit [aW] in
theorem BJ {d:Option Tmp} {v:Value} (hi:∀ t∈J,Be (T.getD t undef)) (hv:∀ t,d=some t→t∈J→Be v):∀ t∈J,Be ((Act.put ⟨T,[]⟩ d v).tmps.getD t undef):=by
 intro t ht
 cases d with
 | none=>exact hi t ht
 | some d=>
  show Be ((T.setIfInBounds d v).getD t undef)
  by_cases hd:d=t
  ·subst hd
   by_cases hb:d<T.size
   ·simpa [Array.getD_eq_getD_getElem?,hb] using hv d rfl ht
   ·have:T.setIfInBounds d v=T:=by simp [Array.setIfInBounds,hb]
    rw [this];exact hi d ht
  ·have:=hi t ht
   simpa [Array.getD_eq_getD_getElem?,Array.getElem?_setIfInBounds_ne hd] using this
theorem K4 {d:Option Tmp} {v v':Value} (hT:RR ρ T T') (hv:VR ρ v v'):RR ρ (Act.put ⟨T,[]⟩ d v).tmps (Act.put ⟨T',[]⟩ d v').tmps:=by
 cases d with
 | none=>exact hT
 | some d=>exact hT.set d hv
end
end Ren
end
section
namespace Ren
open Go Go.Conc
variable [aW] {P:Program}
section
variable {F:Nat→Option (List Nat)} {ρ:Map} {J:List Nat} {T T':Array Value}
omit [aW] in
theorem y8 {e:Operand→Value} {o:Oper} (hd:H5 J o=true) {w w':World} {es fs:Array Event} {f:FuncId} {xs:Array Value} (hint:∀ x,kR J x=true→Be (e x))
  (h:(execOp e o).runT P w es=(.ok (.enter f xs) w',fs)):∀ d,o.dst=some d→d ∉ J:=by
 intro d ho hdJ
 unfold H5 at hd
 simp only [ho,Bool.or_eq_true,Bool.not_eq_true',List.contains_eq_mem,decide_eq_false_iff_not] at hd
 have hd:=hd.resolve_left (fun x=>x hdJ)
 unfold execOp at h
 revert hd h
 cases o.op<;>intro h hd<;>first|(exact Bool.noConfusion hd)|skip
 case move x=>simp [pure,Sem.runT] at h
 case assign x=>simp [pure,Sem.runT] at h
 case binOp op t x y u=>
  cases op<;>first|(exact Bool.noConfusion hd)|skip
  simp only [Bool.and_eq_true] at hd
  rcases hint x hd.1 with ⟨k,n,e1⟩|e1
  ·rcases hint y hd.2 with ⟨k',n',f1⟩|f1
   ·simp only [e1,f1] at h
    by_cases hk:k=k'
    ·subst hk
     simp [eqGuard,binOp,Op.intArith,bind,Sem.bind,pure,Sem.runT] at h
    ·simp [eqGuard,binOp,hk,stuck,bind,Sem.bind,pure,Sem.runT] at h
   ·simp only [e1,f1] at h
    simp [eqGuard,binOp,stuck,bind,Sem.bind,pure,Sem.runT] at h
  ·rcases hint y hd.2 with ⟨k',n',f1⟩|f1
   ·simp only [e1,f1] at h
    simp [eqGuard,binOp,stuck,bind,Sem.bind,pure,Sem.runT] at h
   ·simp only [e1,f1] at h
    simp [eqGuard,binOp,stuck,bind,Sem.bind,pure,Sem.runT] at h
end
def Mate (P:Program) (F:Nat→Option (List Nat)) (main:Bool) (n0:Nat) (gl gc:List Frame) (ρ:Map) (g':Goroutine) (wl wc:World) (g1:Goroutine) (wl1:World):Prop:=
 ∃ σ fr1 I1 cs1 cs1' wc1 fs,g1=G fr1 cs1∧stepG P main g' wc=.go (G I1 cs1') wc1 fs∧FR P F σ fr1 I1∧CR P F σ gl gc cs1 cs1'∧HR σ n0 wl1 wc1∧Grow ρ σ n0 wl wc wl1 wc1 fs
def Bad (P:Program) (g:Goroutine) (cs:List Frame):Prop:=(∃ fn,P.funcs[g.frame.fn]?=some fn)∧g.status=.running∧g.dying=none∧g.callers=cs∧g.frame.defers=[]∧(∃ ch,g.frame.mode=.panicking ch)∧g.frame.kind=.normal∧g.frame.roundOf=none
section
variable {F:Nat→Option (List Nat)} {ρ:Map} {n0:Nat} {gl gc cs cs':List Frame} {wl wc:World} {main:Bool}
theorem aV {f:FuncId} {fr1 I1:Frame} {g':Goroutine} (hr:HR ρ n0 wl wc) (hcs:CR P F ρ gl gc cs cs') (hfr:FR P F ρ fr1 I1) (h:stepG P main g' wc=.go (G I1 cs') wc #[]) :
  Mate P F main n0 gl gc ρ g' wl wc (G fr1 cs) wl:=⟨ρ,fr1,I1,cs,cs',wc,#[],rfl,h,hfr,hcs,hr,.refl _ _ _ _⟩
omit [aW] in
theorem Ea {id:Nat}:∀ {k k':List Item},exitTo id k=some k'→∀ x∈k',x∈k:=by
 intro k
 induction k with
 | nil=>intro k' h;simp [exitTo] at h
 | cons y k ih=>
  intro k' h x hx
  unfold exitTo at h
  split at h
  ·rename_i heq
   cases heq
   split at h
   ·cases h;exact List.mem_cons_of_mem _ hx
   ·exact List.mem_cons_of_mem _ (ih h x hx)
  ·rename_i heq
   cases heq
   exact List.mem_cons_of_mem _ (ih h x hx)
  ·rename_i heq;cases heq
omit [aW] in
theorem bY {g1 g2:Goroutine} {w1 w2:World} {e1 e2:Array Event} (h:GStep.go g1 w1 e1=.go g2 w2 e2):g1=g2∧w1=w2∧e1=e2:=by
 cases h;exact ⟨rfl,rfl,rfl⟩
theorem Jd (hG:P.globals.size≤aW.g) (hF:jo P F) {f:FuncId} {J:List Nat} {T T':Array Value} {k:List Item} (hJ:F f=some J) (hk:∀ x∈k,jM P F J x=true) (hi:∀ t∈J,Be (T.getD t undef)) (hT:RR ρ T T')
  (hcs:CR P F ρ gl gc cs cs') (hr:HR ρ n0 wl wc) {g1:Goroutine} {wl1:World} {es:Array Event} (h:stepG P true (G ((Go.Conc.base f).at ⟨T,[]⟩ k) cs) wl=.go g1 wl1 es) :
  Mate P F main n0 gl gc ρ (G ((Go.Conc.base f).at ⟨T',[]⟩ k) cs') wl wc g1 wl1∨Bad P g1 cs:=by
 have frR:∀ k',(∀ x∈k',jM P F J x=true)→FR P F ρ ((Go.Conc.base f).at ⟨T,[]⟩ k') ((Go.Conc.base f).at ⟨T',[]⟩ k'):=fun k' h'=>.run f J T T' k' hJ h' hi hT
 cases k with
 | nil=>
  rw [stepG_end] at h
  obtain ⟨rfl,rfl,rfl⟩:=bY h
  exact .inl (aV (f:=f) hr hcs (.ret f J T T' [] hJ hT) stepG_end)
 | cons x k=>
  have hx:=hk x (by simp)
  have hk':∀ y∈k,jM P F J y=true:=fun y hy=>hk y (by simp [hy])
  cases x with
  | code c=>
   cases c with
   | skip=>
    rw [stepG_skip] at h
    obtain ⟨rfl,rfl,rfl⟩:=bY h
    exact .inl (aV (f:=f) hr hcs (frR _ hk') stepG_skip)
   | label l=>
    rw [stepG_label] at h
    obtain ⟨rfl,rfl,rfl⟩:=bY h
    exact .inl (aV (f:=f) hr hcs (frR _ hk') stepG_label)
   | ret=>
    rw [stepG_ret'] at h
    obtain ⟨rfl,rfl,rfl⟩:=bY h
    exact .inl (aV (f:=f) hr hcs (.ret f J T T' _ hJ hT) stepG_ret')
   | seq a b=>
    rw [stepG_seq] at h
    obtain ⟨rfl,rfl,rfl⟩:=bY h
    simp only [jM,codeOk,Bool.and_eq_true] at hx
    refine .inl (aV (f:=f) hr hcs (frR _ fun y hy=>?_) stepG_seq)
    rcases List.mem_cons.1 hy with rfl|hy
    ·exact hx.1
    ·rcases List.mem_cons.1 hy with rfl|hy
     ·exact hx.2
     ·exact hk' y hy
   | cond c a b=>
    simp only [jM,codeOk,Bool.and_eq_true] at hx
    by_cases hb:∃ t,Act.eval ⟨T,[]⟩ c=.bool t
    ·obtain ⟨t,ht⟩:=hb
     rw [stepG_cond ht] at h
     obtain ⟨rfl,rfl,rfl⟩:=bY h
     refine .inl (aV (f:=f) hr hcs (frR _ fun y hy=>?_) (stepG_cond (Ii hT hx.1.1 ht)))
     rcases List.mem_cons.1 hy with rfl|hy
     ·cases t
      ·exact hx.2
      ·exact hx.1.2
     ·exact hk' y hy
    ·exfalso
     have he:((Go.Conc.base f).at ⟨T,[]⟩ (.code (.cond c a b)::k)).eval c=Act.eval ⟨T,[]⟩ c:=Frame.eval_at _ _ _ _
     simp only [Frame.at] at he
     revert h
     cases hv:Act.eval ⟨T,[]⟩ c with
     | bool t=>exact absurd ⟨t,hv⟩ hb
     | _=>rw [hv] at he;simp [G,stepG,stepG.exec,Frame.at,he]
   | block id b=>
    rw [stepG_block] at h
    obtain ⟨rfl,rfl,rfl⟩:=bY h
    refine .inl (aV (f:=f) hr hcs (frR _ fun y hy=>?_) stepG_block)
    rcases List.mem_cons.1 hy with rfl|hy
    ·exact hx
    ·rcases List.mem_cons.1 hy with rfl|hy
     ·rfl
     ·exact hk' y hy
   | loop b=>
    rw [stepG_loop] at h
    obtain ⟨rfl,rfl,rfl⟩:=bY h
    refine .inl (aV (f:=f) hr hcs (frR _ fun y hy=>?_) stepG_loop)
    rcases List.mem_cons.1 hy with rfl|hy
    ·exact hx
    ·rcases List.mem_cons.1 hy with rfl|hy
     ·exact hx
     ·exact hk' y hy
   | exit id=>
    cases he:exitTo id k with
    | none=>exfalso;revert h;simp [G,stepG,stepG.exec,Frame.at,he]
    | some k1=>
     rw [stepG_exit he] at h
     obtain ⟨rfl,rfl,rfl⟩:=bY h
     exact .inl (aV (f:=f) hr hcs (frR _ fun y hy=>hk' y (Ea he y hy)) (stepG_exit he))
   | region id ops d=>
    have hreg:∀ l:List Nat,∀ y∈Item.inRegion ops l::k,jM P F J y=true:=fun l y hy=>by
     rcases List.mem_cons.1 hy with rfl|hy
     ·exact hx
     ·exact hk' y hy
    cases d with
    | false=>
     rw [stepG_region] at h
     obtain ⟨rfl,rfl,rfl⟩:=bY h
     exact .inl (aV (f:=f) hr hcs (frR _ (hreg _)) stepG_region)
    | true=>
     rw [stepG_region_draw] at h
     obtain ⟨rfl,rfl,rfl⟩:=bY h
     refine .inl ⟨ρ,_,(Go.Conc.base f).at ⟨T',[]⟩ (.inRegion ops (Region.schedule (P.follows .mixedOrders) ops (wl.tape wl.drawn (.order f id)))::k),cs,cs',{ wc with drawn:=wc.drawn+1 },#[],rfl,?_,frR _ (hreg _),hcs,⟨hr.inj,hr.fn,hr.cells,hr.tape,by show wl.drawn+1=wc.drawn+1;rw [hr.drawn],hr.low,hr.AL,hr.shz⟩,
      ⟨Map.le_refl ρ,fun _ _ h=>.inl h,fun c h1 h2=>absurd h1 (Nat.not_le.2 h2),Nat.le_refl _,Nat.le_refl _,fun _ _ _=>rfl,rfl,rfl,rfl,fun e he=>by simp at he⟩⟩
     rw [stepG_region_draw,← hr.tape,← hr.drawn]
     rfl
   | goto l=>cases hx
   | scope b=>cases hx
   | rangeFunc a b c d=>cases hx
   | refuse why=>cases hx
  | inBlock id=>
   rw [stepG_inBlock] at h
   obtain ⟨rfl,rfl,rfl⟩:=bY h
   exact .inl (aV (f:=f) hr hcs (frR _ hk') stepG_inBlock)
  | inLoop b=>
   rw [stepG_inLoop] at h
   obtain ⟨rfl,rfl,rfl⟩:=bY h
   refine .inl (aV (f:=f) hr hcs (frR _ fun y hy=>?_) stepG_inLoop)
   rcases List.mem_cons.1 hy with rfl|hy
   ·exact hx
   ·rcases List.mem_cons.1 hy with rfl|hy
    ·exact hx
    ·exact hk' y hy
  | inRegion ops todo=>
   have hreg:∀ l:List Nat,∀ y∈Item.inRegion ops l::k,jM P F J y=true:=fun l y hy=>by
    rcases List.mem_cons.1 hy with rfl|hy
    ·exact hx
    ·exact hk' y hy
   cases todo with
   | nil=>
    rw [stepG_region_end] at h
    obtain ⟨rfl,rfl,rfl⟩:=bY h
    exact .inl (aV (f:=f) hr hcs (frR _ hk') stepG_region_end)
   | cons i rest=>
    cases ho:ops[i]? with
    | none=>
     have e1:∀ (m:Bool) (T:Array Value) (cs:List Frame) (w:World),stepG P m (G ((Go.Conc.base f).at ⟨T,[]⟩ (.inRegion ops (i::rest)::k)) cs) w=.go (G ((Go.Conc.base f).at ⟨T,[]⟩ (.inRegion ops rest::k)) cs) w:=by
      intro m T cs w
      simp [G,stepG,stepG.exec,Frame.at,ho,Frame.finish]
     rw [e1] at h
     obtain ⟨rfl,rfl,rfl⟩:=bY h
     exact .inl (aV (f:=f) hr hcs (frR _ (hreg _)) (e1 _ _ _ _))
    | some o=>
     have hop:=Array.all_eq_true'.1 hx o (Array.mem_of_getElem? ho)
     simp only [Bool.and_eq_true] at hop
     have put:∀ (σ:Map) (v v':Value),ρ.le σ→VR σ v v'→(∀ t,o.dst=some t→t∈J→Be v)→FR P F σ ((Go.Conc.base f).at (Act.put ⟨T,[]⟩ o.dst v) (.inRegion ops rest::k)) ((Go.Conc.base f).at (Act.put ⟨T',[]⟩ o.dst v') (.inRegion ops rest::k)):=by
      intro σ v v' hl hv hint
      have h1:=K4 (d:=o.dst) (hT.mono hl) hv
      have h2:=BJ (d:=o.dst) (v:=v) hi hint
      have e:∀ (T:Array Value) (v:Value),Act.put ⟨T,[]⟩ o.dst v=⟨(Act.put ⟨T,[]⟩ o.dst v).tmps,[]⟩:=by
       intro T v;unfold Act.put;split<;>rfl
      rw [e T v,e T' v']
      exact .run f J _ _ _ hJ (hreg _) h2 h1
     cases hw:Region.wanted o (yielded ops T) with
     | false=>
      rw [stepG_unwanted ho hw] at h
      obtain ⟨rfl,rfl,rfl⟩:=bY h
      exact .inl (aV (f:=f) hr hcs (put ρ _ _ (Map.le_refl ρ) gV fun _ _ _=>.inr rfl) (stepG_unwanted ho ((xc hT ops o).symm.trans hw)))
     | true=>
      have hev:=evR hT hi
      have hrs:=qy (P:=P) (F:=F) hG hev o hop.1
      have hint:∀ x,kR J x=true→Be (Act.eval ⟨T,[]⟩ x):=fun x hx=>by
       rcases hev.int x hx with ⟨k,n,e,_⟩|e
       ·exact .inl ⟨k,n,e⟩
       ·exact .inr e
      have hw':Region.wanted o (yielded ops T')=true:=(xc hT ops o).symm.trans hw
      have hkd:(Go.Conc.base f).kind≠.early:=by simp [Go.Conc.base]
      rcases hrun:(execOp (Act.eval ⟨T,[]⟩) o).runT P wl #[] with ⟨r,fs⟩
      have DZ:(execOp (Act.eval ⟨T,[]⟩) o).run P wl=r:=by rw [← Sem.runT_fst P _ wl #[],hrun]
      cases r with
      | ok x wl2=>
       obtain ⟨σ,y,wc2,gs,h1,h2,h3,h4⟩:=hrs.run (es':=#[]) hr hrun
       have MM:(execOp (Act.eval ⟨T',[]⟩) o).run P wc=.ok y wc2:=by rw [← Sem.runT_fst P _ wc #[],h1]
       have hevC:listed P f ⟨T',[]⟩ o wc=seen P f gs:=by unfold listed Sem.events;rw [h1];simp
       have evs:∀ e∈listed P f ⟨T',[]⟩ o wc,Ev σ n0 e:=fun e he=>h4.evs e (mem_seen (hevC ▸ he))
       have gw:Grow ρ σ n0 wl wc wl2 wc2 (listed P f ⟨T',[]⟩ o wc):=⟨h4.le,h4.fresh,h4.mine,h4.xy,h4.size,h4.same,h4.tape,h4.os,h4.output,evs⟩
       cases h2 with
       | value u v huv=>
        rw [stepG_value ho hw hkd DZ] at h
        obtain ⟨rfl,rfl,rfl⟩:=bY h
        exact .inl ⟨σ,_,_,cs,cs',wc2,_,rfl,stepG_value ho hw' hkd MM,put σ u v h4.le huv (fun t ht htJ=>DX hint hop.2 ht htJ hrun),hcs.mono h4.le,h3,gw⟩
       | skip=>
        rw [stepG_none ho hw hkd DZ] at h
        obtain ⟨rfl,rfl,rfl⟩:=bY h
        exact .inl ⟨σ,_,_,cs,cs',wc2,_,rfl,stepG_none ho hw' hkd MM,put σ _ _ h4.le gV (fun _ _ _=>.inr rfl),hcs.mono h4.le,h3,gw⟩
       | enter g xs ys K hK hxK hxy=>
        rw [stepG_enter ho hw hkd DZ] at h
        obtain ⟨rfl,rfl,rfl⟩:=bY h
        obtain ⟨fn,c,hf1,hf2,hf3⟩:=hF g K hK
        refine .inl ⟨σ,_,_,_,_,wc2,_,rfl,stepG_enter ho hw' hkd MM,?_,.call f J T T' k cs cs' hJ hk' hi (hT.mono h4.le) ops i rest o ho hx (y8 hop.2 hint hrun) (hcs.mono h4.le),h3,gw⟩
        rw [enter_at xs hf1 hf2,enter_at ys hf1 hf2]
        refine .run g K _ _ _ hK (fun y hy=>?_) (fun t ht=>?_) ?_
        ·simp only [List.mem_singleton] at hy;subst hy;exact hf3
        ·right
         have hle:=hxK t ht
         simp only [Array.getD_eq_getD_getElem?,Array.getElem?_append,Nat.not_lt.2 hle,↓reduceIte]
         by_cases hlt:t - xs.size<fn.ntmps - xs.size
         ·simp [hlt,undef]
         ·simp [hlt,undef]
        ·rw [← hxy.size]
         exact hxy.append ⟨rfl,fun i h1 h2=>by simpa using gV⟩
      | halt x wl2=>
       have yQ:=hrs.MU hr hrun
       right
       rw [stepG_oper ho hw] at h
       have hk1:((Go.Conc.base f).kind == CallKind.early)=false:=by simp [Go.Conc.base]
       cases x with
       | panic v=>
        simp [stepG.apply,hrun,DZ,GStep.after,Frame.at,hk1] at h
        obtain ⟨rfl,_,_⟩:=h
        obtain ⟨fn,c,hf1,_⟩:=hF f J hJ
        exact ⟨⟨fn,hf1⟩,rfl,rfl,rfl,rfl,⟨_,rfl⟩,rfl,rfl⟩
       | stuck s=>simp [stepG.apply,hrun,DZ,GStep.after,Frame.at,hk1] at h
       | unsupported u=>
        cases u<;>first|exact yQ.elim|simp [stepG.apply,hrun,DZ,GStep.after,Frame.at,hk1] at h
       | _=>exact yQ.elim
  | inScope b=>cases hx
  | inRangeFunc l=>cases hx
  | endRangeFunc l=>cases hx
  | beginRound=>cases hx
  | call d w r s=>cases hx
  | extern r a=>cases hx
end
end Ren
end
section
namespace Ren
open Go Go.Conc
variable [aW] {P:Program}
section
variable {F:Nat→Option (List Nat)} {ρ:Map} {n0:Nat} {gl gc cs cs':List Frame} {wl wc:World} {main:Bool} {T T':Array Value}
theorem Fs {α:Type} {f g:α→Sem Value}:∀ (l:List α) {ρ:Map},(∀ x∈l,∀ σ,ρ.le σ→RS P VR σ (f x) (g x)) →
  RS P (fun σ a b=>a.length=b.length∧∀ (i:Nat) (h1:i<a.length) (h2:i<b.length),VR σ a[i] b[i]) ρ (l.mapM f) (l.mapM g)
 | [],_,_=>by
  rw [List.mapM_nil,List.mapM_nil]
  exact RS.ret ⟨rfl,fun i h1=>by simp at h1⟩
 | x::l,ρ,h=>by
  rw [List.mapM_cons,List.mapM_cons]
  refine RS.bnd (h x (by simp) ρ (Map.le_refl ρ)) fun σ u v hl huv=>?_
  refine RS.bnd (Fs l fun y hy τ ht=>h y (by simp [hy]) τ (Map.le_trans hl ht)) fun τ us vs hl2 hs=>?_
  refine RS.ret ⟨by simp [hs.1],fun i h1 h2=>?_⟩
  cases i with
  | zero=>exact huv.mono hl2
  | succ i=>exact hs.2 i (by simpa using h1) (by simpa using h2)
theorem jX (fn:Func) (hT:RR ρ T T'):RS P VR ρ (results fn T) (results fn T'):=by
 unfold results
 rw [Array.mapM_eq_mapM_toList,Array.mapM_eq_mapM_toList]
 refine RS.bnd (A:=RR) ?_ fun σ us vs hl h=>?_
 ·refine RS.bnd (Fs _ fun x hx σ hl=>?_) fun σ us vs hl h=>RS.ret (RR.Mj h.1 h.2)
  cases x with
  | tmp t=>exact RS.ret ((hT.mono hl).getD t gV)
  | cell a t=>exact RS.bnd (Fz ((hT.mono hl).getD a gV)) fun τ p q h2 hp=>ug t hp
 ·refine RS.ret ?_
  by_cases h1:us.size=1
  ·have h2:vs.size=1:=h.size ▸ h1
   simp only [h1,h2,↓reduceDIte]
   exact h.at_ 0 (by omega) (by omega)
  ·have h2:¬ vs.size=1:=h.size ▸ h1
   simp only [h1,h2,↓reduceDIte]
   exact h.tup
omit [aW] in
theorem bL {f:FuncId} {fn:Func} {k:List Item} {v:Value} {w w':World} {es:Array Event} {c:Frame} (hf:P.funcs[f]?=some fn) (h:(results fn T).runT P w #[]=(.ok v w',es)) :
  stepG P main (G { (Go.Conc.base f).at ⟨T,[]⟩ k with mode:=.returning } (c::cs)) w=.go (G (c.finish v) cs) w' (seen P f es):=by
 have h2:(results fn T).run P w=.ok v w':=by rw [← Sem.runT_fst P _ w #[],h]
 have h3:(results fn T).events P w #[]=es:=by unfold Sem.events;rw [h]
 simp [G,stepG,unwind,doReturn,Frame.at,hf,h,h2,h3,Go.Conc.base,GStep.after]
omit [aW] in
theorem bQ {f:FuncId} {fn:Func} {k:List Item} {x:Halt} {w w':World} {es:Array Event} {c:List Frame} (hf:P.funcs[f]?=some fn) (h:(results fn T).runT P w #[]=(.halt x w',es)) :
  ∃ o w1 e1,stepG P main (G { (Go.Conc.base f).at ⟨T,[]⟩ k with mode:=.returning } c) w=.ended o w1 e1:=by
 have h2:(results fn T).run P w=.halt x w':=by rw [← Sem.runT_fst P _ w #[],h]
 cases x<;>simp [G,stepG,unwind,doReturn,Frame.at,hf,h,h2,Go.Conc.base,GStep.after]
theorem uW (hG:P.globals.size≤aW.g) (hF:jo P F) {fr fr':Frame} (hfr:FR P F ρ fr fr') (hcs:CR P F ρ gl gc cs cs') (hr:HR ρ n0 wl wc) {g1:Goroutine} {wl1:World} {es:Array Event} (h:stepG P true (G fr cs) wl=.go g1 wl1 es) :
  Mate P F main n0 gl gc ρ (G fr' cs') wl wc g1 wl1∨Bad P g1 cs ∨
   ∃ f J T T' k,F f=some J∧fr={ (Go.Conc.base f).at ⟨T,[]⟩ k with mode:=.returning }∧fr'={ (Go.Conc.base f).at ⟨T',[]⟩ k with mode:=.returning }∧RR ρ T T'∧cs=gl∧cs'=gc:=by
 cases hfr with
 | run f J T T' k hJ hk hi hT=>exact (Jd hG hF hJ hk hi hT hcs hr h).imp id .inl
 | ret f J T T' k hJ hT=>
  obtain ⟨fn,c,hf1,hf2,hf3⟩:=hF f J hJ
  cases hcs with
  | ground=>exact .inr (.inr ⟨f,J,T,T',k,hJ,rfl,rfl,hT,rfl,rfl⟩)
  | call f2 J2 T2 T2' k2 cs2 cs2' hJ2 hk2 hi2 hT2 ops i rest o ho hok hd hc=>
   rcases hrun:(results fn T).runT P wl #[] with ⟨r,fs⟩
   cases r with
   | halt x w1=>
    obtain ⟨o1,w2,e1,he⟩:=bQ (P:=P) (main:=true) (k:=k) (c:=(Go.Conc.base f2).at ⟨T2,[]⟩ (.inRegion ops (i::rest)::k2)::cs2) hf1 hrun
    rw [he] at h;cases h
   | ok v wl2=>
    obtain ⟨σ,v',wc2,gs,h1,h2,h3,h4⟩:=(jX (P:=P) fn hT).run (es':=#[]) hr hrun
    rw [bL hf1 hrun] at h
    obtain ⟨rfl,rfl,rfl⟩:=bY h
    have h1':(results fn T').runT P wc #[]=(.ok v' wc2,gs):=by rw [h1];simp
    have hfin:∀ (T:Array Value) (v:Value),((Go.Conc.base f2).at ⟨T,[]⟩ (.inRegion ops (i::rest)::k2)).finish v=(Go.Conc.base f2).at ⟨(Act.put ⟨T,[]⟩ o.dst v).tmps,[]⟩ (.inRegion ops rest::k2):=by
     intro T v
     rw [Frame.finish_at,ho]
     have:Act.put ⟨T,[]⟩ ((some o).bind (·.dst)) v=⟨(Act.put ⟨T,[]⟩ o.dst v).tmps,[]⟩:=by
      simp only [Option.bind_some];unfold Act.put;split<;>rfl
     rw [this]
    refine .inl ⟨σ,_,_,cs2,cs2',wc2,_,rfl,bL hf1 h1',?_,hc.mono h4.le,h3,⟨h4.le,h4.fresh,h4.mine,h4.xy,h4.size,h4.same,h4.tape,h4.os,h4.output,fun e he=>h4.evs e (mem_seen he)⟩⟩
    rw [hfin,hfin]
    refine .run f2 J2 _ _ _ hJ2 (fun y hy=>?_) (BJ hi2 fun t ht htJ=>absurd htJ (hd t ht)) (K4 (hT2.mono h4.le) h2)
    rcases List.mem_cons.1 hy with rfl|hy
    ·exact hok
    ·exact hk2 y hy
end
def _root_.Go.World.af (w:World) (t:Nat→Question→Nat) (d:Nat):World:={ w with tape:=t,drawn:=d }
inductive Rob (P:Program) (gl:List Frame) (Q:Frame→World→Prop):Goroutine→World→Prop
 | stop (fr:Frame) (w:World) (h:∀ t d,Q fr (w.af t d)):Rob P gl Q (G fr gl) w
 | step (g:Goroutine) (w:World) (g':(Nat→Question→Nat)→Nat→Goroutine) (w':(Nat→Question→Nat)→Nat→World) (es:(Nat→Question→Nat)→Nat→Array Event)
   (h:∀ t d,stepG P true g (w.af t d)=.go (g' t d) (w' t d) (es t d)) (hn:∀ t d,Rob P gl Q (g' t d) (w' t d)):Rob P gl Q g w
def trap (P:Program):Frame:={ fn:=P.funcs.size,tmps:=#[],todo:=[.call { target:=.nil,args:=#[] } false "fmt's door" #[]],defers:=[],mode:=.run,kind:=.normal }
omit [aW] in
theorem door:("fmt's door".startsWith "fmt's door")=true:=by decide +kernel
section
variable {F:Nat→Option (List Nat)} {ρ:Map} {gc cs cs':List Frame} {main:Bool}
omit [aW] in
theorem eQ {g:Goroutine} {w:World} {c:Frame} {cs:List Frame} (hb:Bad P g (c::cs)):∃ g',stepG P main g w=.go g' w∧g'.frame=c.raise (match g.frame.mode with|.panicking ch=>ch|_=>[])∧g'.callers=cs∧g'.status=.running∧g'.dying=none:=by
 obtain ⟨⟨fn,hf⟩,h1,h2,h3,h4,⟨ch,h5⟩,h6,h7⟩:=hb
 cases g with
 | mk fr callers status dying offers=>
  dsimp only at *
  subst h1 h2 h3
  have hc:fr.catches P=false:=by unfold Frame.catches;rw [hf]
  exact ⟨{ frame:=c.raise ch,callers:=cs,status:=.running,dying:=none },by simp [stepG,h5,unwind,h4,hc],by simp [h5],rfl,rfl,rfl⟩
theorem Nn {Q:Frame→World→Prop} (hQ:∀ fr w,Q fr w→fr.mode=.returning) (hF:jo P F) (hcs:CR P F ρ [trap P] gc cs cs'):∀ {g:Goroutine} {w:World},Bad P g cs→¬ Rob P [trap P] Q g w:=by
 induction hcs with
 | ground=>
  intro g w hb hr
  cases hr with
  | stop fr w h=>
   have:=hQ _ _ (h w.tape w.drawn)
   obtain ⟨_,_,_,_,_,⟨ch,h5⟩,_⟩:=hb
   simp only [G] at h5
   rw [this] at h5;cases h5
  | step g w g' w' es h hn=>
   obtain ⟨g1,hs,hfr,hc,hst,hd⟩:=eQ (main:=true) (w:=w.af w.tape w.drawn) hb
   rw [h] at hs
   obtain ⟨e1,e2,e3⟩:=bY hs
   have hr1:=hn w.tape w.drawn
   rw [e1] at hr1
   obtain ⟨_,_,_,_,_,⟨ch,h5⟩,_⟩:=hb
   rw [h5] at hfr
   generalize w' w.tape w.drawn=w1 at hr1
   cases hr1 with
   | stop fr w h=>simp [G] at hc
   | step _ _ g2 w2 es2 h2 hn2=>
    have:=h2 w1.tape w1.drawn
    cases g1 with
    | mk fr callers status dying offers=>
     dsimp only at hfr hc hst hd
     subst hfr hc hst hd
     have hcat:∀ x,Frame.catches P { (trap P) with mode:=.panicking x }=true:=fun x=>by
      simp [Frame.catches,trap,door]
     simp [stepG,unwind,Frame.raise,trap,Frame.catches,door] at this
 | call f J T T' k cs cs' hJ hk hi hT ops i rest o ho hok hd hc ih=>
  intro g w hb hr
  cases hr with
  | stop fr w h=>
   have:=hQ _ _ (h w.tape w.drawn)
   obtain ⟨_,_,_,_,_,⟨ch,h5⟩,_⟩:=hb
   simp only [G] at h5
   rw [this] at h5;cases h5
  | step g w g' w' es h hn=>
   obtain ⟨g1,hs,hfr,hcl,hst,hdy⟩:=eQ (main:=true) (w:=w.af w.tape w.drawn) hb
   rw [h] at hs
   obtain ⟨e1,e2,e3⟩:=bY hs
   have hr1:=hn w.tape w.drawn
   rw [e1] at hr1
   obtain ⟨_,_,_,_,_,⟨ch,h5⟩,_⟩:=hb
   rw [h5] at hfr
   obtain ⟨fn,c,hf1,_⟩:=hF f J hJ
   refine ih ⟨⟨fn,?_⟩,hst,hdy,hcl,?_,⟨ch,?_⟩,?_,?_⟩ hr1
   all_goals rw [hfr]
   ·exact hf1
   all_goals rfl
end
end Ren
end
section
namespace Ren
open Go Go.Conc
variable [aW] {P:Program}
omit [aW] in
theorem mM:(Extern.next "fmt's door").isNone=true:=by decide +kernel
section
variable {F:Nat→Option (List Nat)} {ρ:Map} {gc cs cs':List Frame} {main:Bool} {Q:Frame→World→Prop}
omit [aW] in
theorem sF {f:FuncId} {fn:Func} {T:Array Value} {k:List Item} (hf:P.funcs[f]?=some fn) {w w1:World} {g1:Goroutine} {es:Array Event}
  (h:stepG P true (G { (Go.Conc.base f).at ⟨T,[]⟩ k with mode:=.returning } [trap P]) w=.go g1 w1 es):¬ Rob P [trap P] Q g1 w1:=by
 intro hr
 rcases hrun:(results fn T).runT P w #[] with ⟨r,fs⟩
 cases r with
 | halt x w1=>
  obtain ⟨o1,w2,e1,he⟩:=bQ (P:=P) (main:=true) (k:=k) (c:=[trap P]) hf hrun
  rw [he] at h;cases h
 | ok v wl2=>
  rw [bL hf hrun] at h
  obtain ⟨rfl,rfl,rfl⟩:=bY h
  cases hr with
  | step _ _ g2 w2 es2 h2 hn2=>
   have:=h2 wl2.tape wl2.drawn
   have hn:Extern.next "fmt's door"=none:=by have:=mM;rwa [Option.isNone_iff_eq_none] at this
   simp [G,stepG,stepG.exec,trap,Frame.finish,hn] at this
end
structure IR (S O:Nat→Prop) (w w1:World):Prop where
 size:w.heap.size≤w1.heap.size
 mine:∀ c,c<w.heap.size→(S c∨O c)→w1.heap[c]?=w.heap[c]?
 tape:w1.tape=w.tape
omit [aW] in
theorem IR.refl (S O:Nat→Prop) (w:World):IR S O w w:=⟨Nat.le_refl _,fun _ _ _=>rfl,rfl⟩
omit [aW] in
theorem IR.trans {S O:Nat→Prop} {w w1 w2:World} (h:IR S O w w1) (k:IR S O w1 w2):IR S O w w2:=
 ⟨Nat.le_trans h.size k.size,fun c hc x=>(k.mine c (Nat.lt_of_lt_of_le hc h.size) x).trans (h.mine c hc x),k.tape.trans h.tape⟩
structure Does (S O O':Nat→Prop) (w w':World) (es:Array Event):Prop where
 le:∀ c,O c→O' c
 fresh:∀ c,O' c→O c∨(w.heap.size≤c∧c<w'.heap.size)
 all:∀ c,w.heap.size≤c→c<w'.heap.size→O' c
 size:w.heap.size≤w'.heap.size
 same:∀ c,c<w.heap.size→¬ O c→w'.heap[c]?=w.heap[c]?
 tape:w'.tape=w.tape
 os:w'.os=w.os
 output:w'.output=w.output
 evs:∀ e∈es,(∃ a wr,e=⟨.cell a,wr,false⟩∧(O' a.block∨(wr=false∧S a.block)))∨e=⟨.mark .noRoom,false,true⟩
inductive dZ (P:Program) (main:Bool) (S:Nat→Prop) (Fin:(Nat→Prop)→Goroutine→World→Prop):(Nat→Prop)→Goroutine→World→Prop
 | stop (O:Nat→Prop) (g:Goroutine) (w:World) (h:∀ w1,IR S O w w1→Fin O g w1):dZ P main S Fin O g w
 | step (O:Nat→Prop) (g:Goroutine) (w:World) (hs:g.status=.running) (g':World→Goroutine) (w':World→World) (O':World→Nat→Prop) (es:World→Array Event)
   (h:∀ w1,IR S O w w1→stepG P main g w1=.go (g' w1) (w' w1) (es w1)∧Does S O (O' w1) w1 (w' w1) (es w1))
   (hn:∀ w1,IR S O w w1→dZ P main S Fin (O' w1) (g' w1) (w' w1)):dZ P main S Fin O g w
section
variable {F:Nat→Option (List Nat)} {gc:List Frame} {main:Bool} {Q:Frame→World→Prop} {n0:Nat}
def nz (ρ:Map) (n0:Nat):Nat→Prop:=fun c=>∃ b,ρ b c∧n0≤b
def FinR (P:Program) (F:Nat→Option (List Nat)) (gc:List Frame) (Q:Frame→World→Prop) (n0:Nat) (S:Nat→Prop) (O:Nat→Prop) (g:Goroutine) (w:World):Prop:=
 ∃ (ρ:Map) (f:FuncId) (J:List Nat) (T T':Array Value) (k:List Item) (wl:World),F f=some J∧g=G { (Go.Conc.base f).at ⟨T',[]⟩ k with mode:=.returning } gc∧RR ρ T T'∧HR ρ n0 wl w ∧
  Q { (Go.Conc.base f).at ⟨T,[]⟩ k with mode:=.returning } wl∧(∀ b c,ρ b c→b<n0→S c)∧(∀ c,O c↔nz ρ n0 c)
theorem HR.turn {ρ:Map} {wl w w1:World} (h:HR ρ n0 wl w) {S O:Nat→Prop} (hS:∀ b c,ρ b c→b<n0→S c) (hO:∀ c,O c↔nz ρ n0 c) (hi:IR S O w w1):HR ρ n0 (wl.af w1.tape w1.drawn) w1:=by
 refine ⟨h.inj,h.fn,fun b c hbc=>?_,rfl,rfl,h.low,h.AL,h.shz⟩
 obtain ⟨xs,e,z,ys,z',h1,h2,h3,h4⟩:=h.cells b c hbc
 refine ⟨xs,e,z,ys,z',h1,?_,h3,h4⟩
 rw [hi.mine c (h.ltC hbc),h2]
 rcases Nat.lt_or_ge b n0 with hb|hb
 ·exact .inl (hS b c hbc hb)
 ·exact .inr ((hO c).2 ⟨b,hbc,hb⟩)
omit [aW] in
theorem H6 {ρ σ:Map} {wl w wl' w':World} {es:Array Event} {S O:Nat→Prop} (hn:n0≤wl.heap.size) (hS:∀ b c,ρ b c→b<n0→S c) (hO:∀ c,O c↔nz ρ n0 c) (h:Grow ρ σ n0 wl w wl' w' es) :
  Does S O (nz σ n0) w w' es∧∀ b c,σ b c→b<n0→S c:=by
 have hS':∀ b c,σ b c→b<n0→S c:=fun b c hb hlt=>by
  rcases h.fresh b c hb with x|⟨x,_⟩
  ·exact hS b c x hlt
  ·omega
 refine ⟨⟨fun c hc=>?_,fun c hc=>?_,fun c h1 h2=>?_,h.size,fun c hc hno=>?_,h.tape,h.os,h.output,fun e he=>?_⟩,hS'⟩
 ·obtain ⟨b,hb,hn⟩:=(hO c).1 hc
  exact ⟨b,h.le _ _ hb,hn⟩
 ·obtain ⟨b,hb,hn⟩:=hc
  rcases h.fresh b c hb with x|⟨_,x,y⟩
  ·exact .inl ((hO c).2 ⟨b,x,hn⟩)
  ·exact .inr ⟨x,y⟩
 ·obtain ⟨b,hb,hs⟩:=h.mine c h1 h2
  exact ⟨b,hs,Nat.le_trans hn hb⟩
 ·exact h.same c hc fun b hb=>Nat.lt_of_not_le fun hle=>hno ((hO c).2 ⟨b,hb,hle⟩)
 ·rcases h.evs e he with ⟨a,b,wr,e1,e2,e3⟩|x
  ·left
   refine ⟨a,wr,e1,?_⟩
   rcases Nat.lt_or_ge b n0 with hb|hb
   ·cases wr with
    | true=>exact absurd (e3 rfl) (by omega)
    | false=>exact .inr ⟨rfl,hS' b _ e2 hb⟩
   ·exact .inl ⟨b,e2,hb⟩
  ·exact .inr x
theorem Ad (hG:P.globals.size≤aW.g) (hF:jo P F) (hQ:∀ fr w,Q fr w→fr.mode=.returning) {S:Nat→Prop} {gL:Goroutine} {wL:World} (hr:Rob P [trap P] Q gL wL) :
  ∀ {ρ:Map} {fr fr':Frame} {cs cs':List Frame} {w:World} {O:Nat→Prop},gL=G fr cs→FR P F ρ fr fr'→CR P F ρ [trap P] gc cs cs'→HR ρ n0 (wL.af w.tape w.drawn) w→(∀ b c,ρ b c→b<n0→S c)→(∀ c,O c↔nz ρ n0 c) →
   dZ P main S (FinR P F gc Q n0 S) O (G fr' cs') w:=by
 induction hr with
 | stop fr0 w0 hq=>
  intro ρ fr fr' cs cs' w O he hfr hcs hh hS hO
  have e1:fr=fr0:=by have:=congrArg Goroutine.frame he;exact this.symm
  have e2:cs=[trap P]:=by have:=congrArg Goroutine.callers he;exact this.symm
  subst e1
  refine .stop O _ w fun w1 hi=>?_
  have hh1:=hh.turn hS hO hi
  cases hfr with
  | run f J T T' k hJ hk hi hT=>have:=hQ _ _ (hq w.tape w.drawn);cases this
  | ret f J T T' k hJ hT=>
   cases hcs with
   | ground=>exact ⟨ρ,f,J,T,T',k,_,hJ,rfl,hT,hh1,hq _ _,hS,hO⟩
   | call f2 J2 T2 T2' k2 cs2 cs2' hJ2 hk2 hi2 hT2 ops i rest o ho hok hd hc=>
    have:=congrArg (fun l=>l.map Frame.todo) e2
    simp [trap,Frame.at] at this
 | step g0 w0 g1 w1 es1 h hn ih=>
  intro ρ fr fr' cs cs' w O he hfr hcs hh hS hO
  subst he
  have key:∀ wc,IR S O w wc→∃ x:Goroutine × World × (Nat→Prop) × Array Event,stepG P main (G fr' cs') wc=.go x.1 x.2.1 x.2.2.2∧Does S O x.2.2.1 wc x.2.1 x.2.2.2∧dZ P main S (FinR P F gc Q n0 S) x.2.2.1 x.1 x.2.1:=by
   intro wc hi
   have hh1:HR ρ n0 (w0.af wc.tape wc.drawn) wc:=hh.turn hS hO hi
   have hst:=h wc.tape wc.drawn
   rcases uW (main:=main) hG hF hfr hcs hh1 hst with ⟨σ,fr1,I1,cs1,cs1',wc1,fs,e1,e2,e3,e4,e5,e6⟩|hb|⟨f,J,T,T',k,hJ,e1,e2,e3,e4,e5⟩
   ·obtain ⟨hd,hS'⟩:=H6 hh1.low hS hO e6
    refine ⟨(G I1 cs1',wc1,nz σ n0,fs),e2,hd,?_⟩
    refine ih wc.tape wc.drawn e1 e3 e4 ?_ hS' (fun c=>Iff.rfl)
    refine ⟨e5.inj,e5.fn,e5.cells,rfl,rfl,e5.low,e5.AL,e5.shz⟩
   ·exact (Nn hQ hF hcs hb (hn wc.tape wc.drawn)).elim
   ·subst e1 e4
    obtain ⟨fn,c,hf1,_⟩:=hF f J hJ
    exact (sF hf1 hst (hn wc.tape wc.drawn)).elim
  have hrun:(G fr' cs').status=.running:=rfl
  classical
  let pick:World→Goroutine × World × (Nat→Prop) × Array Event:=fun wc=>if hi:IR S O w wc then Classical.choose (key wc hi) else (G fr' cs',wc,O,#[])
  have hp:∀ wc,(hi:IR S O w wc)→pick wc=Classical.choose (key wc hi):=fun wc hi=>by simp only [pick,hi,↓reduceDIte]
  refine .step O _ w hrun (fun wc=>(pick wc).1) (fun wc=>(pick wc).2.1) (fun wc=>(pick wc).2.2.1) (fun wc=>(pick wc).2.2.2) (fun wc hi=>?_) (fun wc hi=>?_)
  ·rw [hp wc hi]
   have:=Classical.choose_spec (key wc hi)
   exact ⟨this.1,this.2.1⟩
  ·rw [hp wc hi]
   exact (Classical.choose_spec (key wc hi)).2.2
end
end Ren
end
