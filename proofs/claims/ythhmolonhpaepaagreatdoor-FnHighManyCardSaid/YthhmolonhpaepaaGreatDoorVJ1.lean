/- impl.ViewOf's phase: from its group to behind Wait, with all slots filled. Conditions: none. -/
import Derived.Test.YthhmolonhpaepaaGreatDoorVJT
import Derived.Test.YthhmolonhpaepaaGreatDoorVJL
import Derived.Test.YthhmolonhpaepaaGreatDoorChecked
import Derived.Test.YthhmolonhpaepaaGreatDoorVJZq
import Derived.Laws.PanicsMore
import Derived.Test.YthhmolonhpaepaaGreatDoorVQa
set_option linter.unusedVariables false
set_option linter.unusedSimpArgs false
section
namespace Go.Proofs.YthhmolonhpaepaaGreatDoor
open Go.RowKit Drw Go.Conc Go.ConcN Go.Conc.Lib Go.ConcR.Gen Go.ConcN.Gen
open Go.ConcR (KK wgBlock WgAt stA smA rd wr mk Payload Aside2 DC0)
open Ren (Alone Ph RWg AnchW gQ AtM lK dh)
def uT (w:World) (n:Nat):World:=(w.alloc iA).setCell (stA w.heap.size) (.int .u64 (n * KK))
def phD (w:World) (nb:Nat→Prop) (C bt bl bv:Nat) (xs:List Thx) (l:Lab) (p:Option Addr) (cap lim:Nat):VD:=
 { w0:=uT w xs.length,S:=fun c=>c<w.heap.size∧c≠C∧¬ nb c,lim:=lim,Low:=w.heap.size+1,C:=C,Wg:=w.heap.size,bt:=bt,bl:=bl,bv:=bv,xs:=xs,l:=l,p:=p,cap:=cap }
structure Lv (D:VD) (w w':World):Prop where
 tape:w'.tape=w.tape
 os:w'.os=w.os
 output:w'.output=w.output
 size:w.heap.size<w'.heap.size
 below:∀ c,c<w.heap.size→c≠D.C→w'.heap[c]?=w.heap[c]?
 view:∃ cs,w'.heap[D.C]?=some (.cells cs 32)∧cs.size=8 * D.n
 wg:∃ cs e,w'.heap[w.heap.size]?=some (.cells cs e)∧0<cs.size
 slots:∀ i,i<D.n→∃ vals O1,vals.size=8∧(∀ j,j<8→w'.cell? ⟨D.C,8 * i+j,none⟩=vals[j]?)∧(∀ c,O1 c→w.heap.size<c∧c<w'.heap.size)∧D.Good i O1 vals w'
theorem gN (w:World) (n:Nat) {c:Nat} (hc:c<w.heap.size):(uT w n).heap[c]?=w.heap[c]?:=by
 unfold uT
 rw [Ren.heap_setCell,if_neg (show ¬ (stA w.heap.size).block=c from fun e=>by have e:w.heap.size=c:=e;omega)]
 show (w.heap.push _)[c]?=_
 rw [Array.getElem?_push,if_neg (by omega)]
theorem EX (w:World) (n:Nat):(uT w n).heap.size=w.heap.size+1:=by
 unfold uT
 rw [Ren.size_setCell]
 show (w.heap.push _).size=_
 simp
theorem xe {cs:List Frame} {gs:Array Goroutine} {w:World} {sl:Option (Nat × Nat)} {q:Nat→Nat} {t:Trace} {Shun:Loc→Prop} {nb:Nat→Prop} {lim:Nat} {C bt bl bv:Nat} {xs:List Thx} {l:Lab} {p:Option Addr} {cap:Nat} {T:Array Value}
  (ok:(phD w nb C bt bl bv xs l p cap lim).Ok) (hnb:∀ a,Shun (.cell a)→nb a.block) (hsh:∀ x,Shun x→∃ a,x=.cell a∧a.block<w.heap.size∧a.block≠C) (hC:∃ cs,w.heap[C]?=some (.cells cs 32)∧cs.size=8 * xs.length)
  (hT:T.size=31) (h2:T[2]?=some (.pointer (some ⟨bt,0,none⟩))) (h3:T[3]?=some (.pointer (some ⟨bl,0,none⟩))) (h5:T[5]?=some (.pointer (some ⟨bv,0,none⟩)))
  (h0:gs[0]?=some (G (b40.at ⟨T,[]⟩ [.code FJ]) cs)) (hL:Leavers Tryz.prog t gs q) (hP:dh 0 Shun w.heap.size t) (hs:∀ op∈t,op.g<gs.size) :
  lK Tryz.prog (crowd gs w sl) t (AtM Tryz.prog (fun x=>Shun x∨ShN w.heap.size x) fun a w'=>KW (phD w nb C bt bl bv xs l p cap lim) cs a w'∧Lv (phD w nb C bt bl bv xs l p cap lim) w w'):=by
 have hn31:xs.length<2147483648:=by have h:=ok.n16;have h:xs.length≤65536:=h;omega
 obtain ⟨cs0,hC1,hC2⟩:=hC
 have hCw:C<w.heap.size:=(Array.getElem?_eq_some_iff.1 hC1).1
 have hbtw:bt<w.heap.size:=ok.tS.1
 have hbt:w.heap[bt]?=some (.cells #[.slice p xs.length cap] 23):=by
  have h1:(uT w xs.length).heap[bt]?=some (.cells #[.slice p xs.length cap] 23):=ok.tb
  rwa [gN w _ hbtw] at h1
 have hnS:∀ b:Addr,b.block=bt→¬ (Shun (.cell b)∨ShN w.heap.size (.cell b)):=fun b hb h=>h.elim (fun h=>ok.tS.2.2 (hb ▸ hnb b h)) fun ⟨a,e,h⟩=>by
  cases e
  omega
 have hal:=LD (V:=(phD w nb C bt bl bv xs l p cap lim).vat) (cs:=cs) (w:=w) (Shun:=fun x=>Shun x∨ShN w.heap.size x) hT h2 h3 h5 rfl hbt hnS hn31
 obtain ⟨N,gs',d',g',w',sl',t',q',hr,hsz,h0',⟨rfl,hB,k,rfl⟩,hL',hP',hwk⟩:=Ren.nR (zm:=Shun) (fun x h=>.inl h) hal (m:=w.drawn) (sl:=sl) h0 hL hP
 have hw':((w.alloc iA).setCell (stA (phD w nb C bt bl bv xs l p cap lim).vat.Wg) (.int .u64 ((phD w nb C bt bl bv xs l p cap lim).vat.n * KK))).at k=(uT w xs.length).at k:=rfl
 rw [hw'] at hr hP'
 clear hw'
 have hsz':((uT w xs.length).at k).heap.size=w.heap.size+1:=EX w _
 obtain ⟨H,hH⟩:∃ H:Ph,(phD w nb C bt bl bv xs l p cap lim).ph gs.size Shun t (KW (phD w nb C bt bl bv xs l p cap lim) cs)=H:=⟨_,rfl⟩
 have hok:H.Ok:=by
  subst hH
  exact ⟨Nat.lt_succ_self _,Nat.lt_succ_of_lt hCw,by show C≠w.heap.size;omega,(Array.getElem?_eq_some_iff.1 h0).1,hn31,
   fun c hc=>⟨Nat.lt_succ_of_lt hc.1,hc.2.1,by show c≠w.heap.size;have:=hc.1;omega,fun a ha h=>hc.2.2 (ha ▸ hnb a h)⟩,
   fun x hx=>by obtain ⟨a,e1,e2,e3⟩:=hsh x hx;exact ⟨a,e1,Nat.lt_succ_of_lt e2,e3,by show a.block≠w.heap.size;omega⟩,
   fun i O vals w1 w2 h hi=>yS h fun c hc=>by
    obtain ⟨x,sv,qv,-,-,-,-,-,-,-,-,g9⟩:=h
    obtain ⟨ys,e,z,k1,_⟩:=g9 c hc
    exact hi.mine c (Array.getElem?_eq_some_iff.1 k1).1 (.inr hc)⟩
 have hlive:WgAt 101 w.heap.size ((uT w xs.length).at k) ((xs.length:Int) * KK) 0:=by
  show (uT w xs.length).heap[w.heap.size]?=_
  unfold uT
  rw [Ren.heap_setCell,if_pos (show (stA w.heap.size).block=w.heap.size from rfl)]
  have:(w.alloc iA).heap[w.heap.size]?=some iA:=by
   show (w.heap.push _)[w.heap.size]?=_
   simp
  rw [this]
  simp [iA,wgBlock,stA]
 obtain ⟨μ,hI⟩:=Ren.phase_begin (H:=H) (Anch:=uS (phD w nb C bt bl bv xs l p cap lim) cs) hok (B:=w.heap.size) (d:=0) (by subst hH;exact hP) (by subst hH;exact Nat.le_refl _) (by subst hH;exact hs) (gs:=gs') (w:=(uT w xs.length).at k) (sl:=sl') (t:=t') (q:=q') h0' (by subst hH;exact hsz) (by subst hH;exact hL') (by subst hH;exact hP') (by subst hH;exact hwk)
  (by subst hH;rfl) (by subst hH;rfl) (by subst hH;rfl) (by subst hH;show w.heap.size+1≤_;rw [hsz'];exact Nat.le_refl _) (by subst hH;exact fun c _ _ _=>rfl) (by
   subst hH
   refine ⟨cs0,?_,hC2⟩
   show (uT w xs.length).heap[C]?=_
   rw [gN w _ hCw];exact hC1) (by subst hH;exact hlive) (by
   subst hH
   exact spawns ok xs.length (Nat.le_refl _) 0 _ _ (fun w1 h1=>⟨by show uQ _ _ (xs.length - xs.length) _;rw [Nat.sub_self];exact hB,h1 ⟨_,_,hlive⟩⟩))
 obtain ⟨M,m'',t'',hr2,hD⟩:=Ren.Dm (H:=H) (Anch:=uS (phD w nb C bt bl bv xs l p cap lim) cs) (B:=w.heap.size) (d:=0) hok (by subst hH;exact hP) (by subst hH;exact hs) (fun g w h=>by obtain ⟨c,_,T,rfl,_⟩:=h;rfl) (by subst hH;exact fun g w h=>Eo rfl g w h) μ _ _ hI
 subst hH
 refine ⟨N+M,m'',t'',Ren.qx hr hr2,?_⟩
 obtain ⟨gs2,w2,sl2,a2,O,q2,rfl,k0,_,kC,ksz,kL,kP,kg,kt,ko,ku,klow,kb,kv,kwg,ks⟩:=hD.ex
 have hlt:w.heap.size<w2.heap.size:=klow
 refine ⟨gs2,w2,sl2,q2,a2,rfl,k0,⟨kC,kt,ko,ku,hlt,fun c hc hcC=>?_,kv,?_,fun i hi=>?_⟩,kL,kP,kg⟩
 ·exact (kb c (Nat.lt_succ_of_lt hc) hcC (by show c≠w.heap.size;omega)).trans (gN w _ hc)
 ·obtain ⟨st,sm,hwg⟩:=kwg
  exact ⟨_,_,hwg,by simp⟩
 ·obtain ⟨hO,vals,O1,hsl,hO1,hg⟩:=ks i hi
  exact ⟨vals,O1,hsl.1,hsl.2,fun c hc=>⟨(hO c (hO1 c hc)).1,(hO c (hO1 c hc)).2⟩,hg⟩
end Go.Proofs.YthhmolonhpaepaaGreatDoor
end
section
namespace Go.Proofs.YthhmolonhpaepaaGreatDoor
open Go.RowKit Drw Go.Conc Go.ConcN Go.Conc.Lib Go.ConcR.Gen Go.ConcN.Gen
open Go.ConcR (KK wgBlock WgAt stA smA rd wr mk Payload Aside2 DC0)
open Ren (Alone Ph RWg AnchW gQ AtM lK dh)
section
variable {D:VD} {c0:Frame} {cs0:List Frame} {Shun:Loc→Prop}
set_option maxRecDepth 100000 in
set_option maxHeartbeats 4000000 in
theorem Ct {a:Goroutine} {w:World} (hbv:w.heap[D.bv]?=some (.cells #[.slice (some ⟨D.C,0,none⟩) D.n D.n] 23)) (hS:∀ b:Addr,b.block=D.bv→¬ Shun (.cell b)) (h:KW D (c0::cs0) a w) :
  Alone Tryz.prog Shun (fun d g w'=>d=0∧g=G (c0.finish (.slice (some ⟨D.C,0,none⟩) D.n D.n)) cs0∧∃ k,w'=w.at k) 0 a w:=by
 obtain ⟨c,⟨T,rfl,hT,h5⟩,m,hm⟩:=h
 refine Ren.Alone.goes (n:=m) (Ren.gq (fun g w1 h1=>?_) hm)
 obtain ⟨rfl,k,rfl⟩:=h1
 obtain ⟨v0,v1,v2,v3,v4,v5,v6,v7,v8,v9,v10,v11,v12,v13,v14,v15,v16,v17,v18,v19,v20,v21,v22,v23,v24,v25,v26,v27,v28,v29,v30,rfl⟩:=wO T hT
 simp only [List.getElem?_toArray,List.getElem?_cons_zero,List.getElem?_cons_succ,Option.some.injEq] at h5
 subst h5
 have hb2:(w.at k).heap[D.bv]?=some (.cells #[.slice (some ⟨D.C,0,none⟩) D.n D.n] 23):=hbv
 rw [Frame.finish_at]
 have ho:(ops11[0]?).bind (·.dst)=some 29:=by kernel_rfl
 rw [ho]
 walk_nrm
 refine Alone.ctl rfl (fun _=>stepG_region_end) ?_
 unfold K5 ui ic
 simp only [Tryz.f40,Option.getD_some]
 refine Alone.ctl rfl (fun _=>stepG_seq) ?_
 refine Alone.ctl rfl (fun _=>stepG_region) ?_
 simp only [List.size_toArray,List.length_cons,List.length_nil,Nat.reduceAdd,Nat.zero_add,List.range,List.range.loop]
 refine Alone.load (v:=.slice (some ⟨D.C,0,none⟩) D.n D.n) (ad:=⟨D.bv,0,none⟩) rfl rfl Ei rfl rfl ⟨_,_,_,hb2⟩ hS (fun k'=>lq Tryz.isAgg23 (wI hb2 k')) ?_
 walk_nrm
 refine Alone.quiet (v:=.slice (some ⟨D.C,0,none⟩) D.n D.n) rfl rfl Ei (fun w1=>?_) (fun w1=>?_) ?_
 ·unfold execOp
  simp [go_sem]
 ·unfold execOp
  simp [go_sem]
 walk_nrm
 refine Alone.ctl rfl (fun _=>stepG_region_end) ?_
 refine Alone.ctl rfl (fun _=>stepG_ret') ?_
 refine Alone.ctl rfl (fun w1=>stepG_leave (v:=.slice (some ⟨D.C,0,none⟩) D.n D.n) rfl rfl Tryz.func40 ?_ ?_) ?_
 ·simp [results,Tryz.f40,go_sem]
 ·simp [results,Tryz.f40,go_sem]
 exact .stop _ _ _ fun m=>⟨rfl,rfl,m,rfl⟩
end
end Go.Proofs.YthhmolonhpaepaaGreatDoor
end
section
namespace Go.Proofs.YthhmolonhpaepaaGreatDoor
open Go.RowKit Go.Conc Mz
def jw:List Nat:=[132,133,134,135,136,137,138,139,140]
def ig (v:Value):Prop:=∀ f xs ys,v=.func f xs ys→∃ g,f=.func g∧g∈jw
noncomputable def uN:Code:=(Tryz.f86).body.getD .skip
noncomputable def LW:Code:=match uN with|.seq r _=>r|_=>.skip
noncomputable def JA:Code:=match uN with|.seq _ (.seq r _)=>r|_=>.skip
noncomputable def zZ:Code:=match uN with|.seq _ (.seq _ (.seq r _))=>r|_=>.skip
noncomputable def o0_86:Array Oper:=match LW with|.region _ o _=>o|_=>#[]
noncomputable def Dp:Array Oper:=match JA with|.region _ o _=>o|_=>#[]
noncomputable def sH:Array Oper:=match zZ with|.region _ o _=>o|_=>#[]
theorem Ij:uN=.seq LW (.seq JA (.seq zZ .ret)):=rfl
theorem JB:LW=.region 0 o0_86 false:=rfl
theorem Jz:JA=.region 1 Dp false:=rfl
theorem Jy:zZ=.region 2 sH false:=rfl
abbrev b86:Frame:=Go.Conc.base 86
theorem Nr:b86.kind≠.early:=by simp [b86,Go.Conc.base]
def fv (n:Nat):Value:=.func (.func n) #[] #[]
def iH:Array Value:=#[.nilFunc,fv 132,fv 133,fv 134,fv 135,fv 136,fv 137,fv 138,fv 139,fv 140]
theorem De:∀ v∈iH,ig v:=by
 intro v hv f xs ys e
 subst e
 simp [iH,fv] at hv
 rcases hv with ⟨rfl,_⟩|⟨rfl,_⟩|⟨rfl,_⟩|⟨rfl,_⟩|⟨rfl,_⟩|⟨rfl,_⟩|⟨rfl,_⟩|⟨rfl,_⟩|⟨rfl,_⟩<;>exact ⟨_,rfl,by decide⟩
theorem gW {s:Sem Value} {w w':World} {h:Halt} (e:s.run Tryz.prog w=.halt h w'):(Next.value <$> s:Sem Next).run Tryz.prog w=.halt h w':=by
 rw [← bind_pure_comp,Sem.run_bind,e]
 rfl
abbrev S86:=Mz.Safe Tryz.prog ig
section
variable {w:World} {x0 x1 x2 x3 x4 x5 x6 x7:Value}
theorem LP (h:ig x2) {td:List Item}:S86 ({ b86.at ⟨#[x0,x1,x2,x3,x4,x5,x6,x7],[]⟩ td with mode:=.returning }:Frame) w:=by
 refine Jj fun t d c cs=>.inl ⟨x2,w.af t d,#[],?_,h⟩
 have hf:Tryz.prog.funcs[86]?=some Tryz.f86:=by kernel_rfl
 have hr:∀ w,(results Tryz.f86 #[x0,x1,x2,x3,x4,x5,x6,x7]).runT Tryz.prog w #[]=(.ok x2 w,#[]):=fun w=>by kernel_rfl
 have hr2:∀ w,(results Tryz.f86 #[x0,x1,x2,x3,x4,x5,x6,x7]).run Tryz.prog w=.ok x2 w:=fun w=>by kernel_rfl
 have hr3:∀ w,(results Tryz.f86 #[x0,x1,x2,x3,x4,x5,x6,x7]).events Tryz.prog w #[]=#[]:=fun w=>by kernel_rfl
 simp [G,stepG,unwind,b86,Go.Conc.base,Frame.at,hf,doReturn,hr,hr2,hr3,GStep.after,seen]
theorem LQ (h:ig x2):S86 (b86.at ⟨#[x0,x1,x2,x3,x4,x5,x6,x7],[]⟩ [.code .ret]) w:=
 fw (fun w l=>stepG_ret') (LP h)
theorem CL (h:ig x7):S86 (b86.at ⟨#[x0,x1,x2,x3,x4,x5,x6,x7],[]⟩ [.inRegion sH [3],.code .ret]) w:=
 gp (o:=sH[3]!) (v:=x7) (by kernel_rfl) (by kernel_rfl) Nr fun t d=>⟨w.af t d,by kernel_rfl,fw (fun w l=>stepG_region_end) (LQ (x2:=x7) h)⟩
theorem Js (i:Nat) (hi:i<10):∃ v,iH[i]?=some v∧ig v:=by
 have hs:iH.size=10:=rfl
 exact ⟨iH[i]'(by omega),Array.getElem?_eq_getElem (by omega),De _ (Array.getElem_mem _)⟩
def IE (b:Nat) (w:World):Prop:=w.heap[b]?=some (.cells iH 157 (0,0))
theorem Jk {b i:Nat} (hb:IE b w) (hi:i<10):S86 (b86.at ⟨#[x0,x1,x2,x3,x4,x5,.pointer (some ⟨b,i,none⟩),x7],[]⟩ [.inRegion sH [2,3],.code .ret]) w:=by
 obtain ⟨v,h1,h2⟩:=Js i hi
 refine gp (o:=sH[2]!) (v:=v) (by kernel_rfl) (by kernel_rfl) Nr fun t d=>⟨w.af t d,?_,CL (x7:=v) h2⟩
 have e:∀ w,w.cell? ⟨b,i,none⟩=some v→(execOp (Act.eval ⟨#[x0,x1,x2,x3,x4,x5,.pointer (some ⟨b,i,none⟩),x7],[]⟩) sH[2]!).run Tryz.prog w=.ok (.value v) w:=fun w hc=>by
  have hl:(load ⟨b,i,none⟩).run Tryz.prog w=.ok v w:=by
   show (Sem.load .plain ⟨b,i,none⟩ Sem.pure).run Tryz.prog w=_
   rw [← Sem.runT_fst Tryz.prog _ _ #[],Sem.runT,hc]
   rfl
  have ha:(isAgg 116).run Tryz.prog w=.ok false w:=by kernel_rfl
  show ((loadVar 116 ⟨b,i,none⟩) >>= fun v=>pure (Next.value v)).run Tryz.prog w=_
  unfold loadVar
  rw [Sem.run_bind,Sem.run_bind,ha]
  simp only [Result.andThen,Bool.false_eq_true,↓reduceIte,hl]
  rfl
 exact e _ (by
  show w.cell? ⟨b,i,none⟩=some v
  unfold IE at hb
  simp only [World.cell?]
  rw [hb]
  exact h1)
theorem xg:Tryz.prog.underlying 157=some (.array 10 116):=by kernel_rfl
theorem Fa {b:Nat} (hb:IE b w):S86 (b86.at ⟨#[x0,x1,x2,.pointer (some ⟨b,0,none⟩),x4,x5,x6,x7],[]⟩ [.inRegion sH [1,2,3],.code .ret]) w:=by
 refine zH (o:=sH[1]!) (by kernel_rfl) (by kernel_rfl) (fun c e=>by cases e) rfl fun t d=>?_
 have e0:execOp (Act.eval ⟨#[x0,x1,x2,.pointer (some ⟨b,0,none⟩),x4,x5,x6,x7],[]⟩) sH[1]! = Next.value <$> Instr.indexAt 157 (.pointer (some ⟨b,0,none⟩)) x5:=rfl
 rw [e0]
 cases x5 with
 | int k n=>
  by_cases hn:0≤n∧n<10
  ·obtain ⟨j,rfl⟩:=Int.eq_ofNat_of_zero_le hn.1
   have hj:j<10:=by omega
   refine .inl ⟨.pointer (some ⟨b,j,none⟩),w.af t d,?_,Jk (w:=w.af t d) hb hj⟩
   rw [Ren.pq (P:=Tryz.prog) (v:=.pointer (some ⟨b,j,none⟩)) (w:=w.af t d)]
   have hE:Tryz.prog.elem 157=116:=by kernel_rfl
   have hL:Tryz.prog.arrayLen 157=10:=by kernel_rfl
   rw [run_indexAt_array (t:=157) (h:=by rw [hE,hL];exact xg),hE,hL]
   rw [if_pos ⟨hn.1,hn.2⟩]
   have hz:(sizeOf 116).run Tryz.prog (w.af t d)=.ok 1 (w.af t d):=by kernel_rfl
   rw [hz]
   simp [Result.andThen,Addr.add]
   exact fun h=>h.symm
  ·obtain ⟨sg,w',e⟩:=run_indexAt_array_out (P:=Tryz.prog) (w:=w.af t d) 157 116 10 ⟨b,0,none⟩ k n xg (by decide) (by omega)
   exact .inr (.inl ⟨_,w',gW e⟩)
 | pointer p=>
  cases p with
  | some a=>exact .inr (.inr ⟨ "",w.af t d,.inr (gW (by kernel_rfl))⟩)
  | none=>exact .inr (.inr ⟨ "int expected",w.af t d,.inl (gW (by kernel_rfl))⟩)
 | _=>exact .inr (.inr ⟨ "int expected",w.af t d,.inl (gW (by kernel_rfl))⟩)
theorem s86_r2 {b:Nat} (hb:IE b w):S86 (b86.at ⟨#[x0,x1,x2,.pointer (some ⟨b,0,none⟩),x4,x5,x6,x7],[]⟩ [.code (.seq zZ .ret)]) w:=by
 refine fw (fun w l=>stepG_seq) ?_
 rw [Jy]
 refine fw (fun w l=>stepG_region) ?_
 exact gp (o:=sH[0]!) (v:=x0) (by kernel_rfl) (by kernel_rfl) Nr fun t d=>⟨w.af t d,by kernel_rfl,Fa (x5:=x0) (w:=w.af t d) hb⟩
theorem E9 {b:Nat} {cs:Array Value} (hs:cs.size=10) (hb:w.heap[b]?=some (.cells cs 157 (0,0))):S86 (b86.at ⟨#[x0,x1,x2,.pointer (some ⟨b,0,none⟩),.agg iH,x5,x6,x7],[]⟩ [.inRegion Dp [2],.code (.seq zZ .ret)]) w:=by
 refine E8 (o:=Dp[2]!) (by kernel_rfl) (by kernel_rfl) Nr fun t d=>⟨Ren.wV (w.af t d) b 157 iH,?_,fw (fun w l=>stepG_region_end) (s86_r2 (x4:=.agg iH) (b:=b) (by
  unfold IE
  have:=Ren.gH (w.af t d) b 157 iH b (Array.getElem?_eq_some_iff.1 hb).1
  rw [this,if_pos rfl]))⟩
 have hrow:Ren.putRow cs 0 iH.toList=iH:=by
  apply Array.ext_getElem?
  intro i
  by_cases hi:i<10
  ·have:=Ren.xS iH.toList cs 0 i hi (by rw [hs];exact Nat.le_refl _)
   rw [Nat.zero_add] at this
   rw [this]
   simp
  ·rw [Array.getElem?_eq_none (by rw [Ren.qG];omega),Array.getElem?_eq_none (by show iH.size≤i;show 10≤i;omega)]
 have h1:=Ren.kQ (P:=Tryz.prog) (C:=b) (t:=157) 0 iH.toList 0 (w:=w.af t d) hb (by rw [hs];exact Nat.le_refl _) (fun v hv=>by
  simp [iH,fv] at hv
  rcases hv with rfl|rfl|rfl|rfl|rfl|rfl|rfl|rfl|rfl|rfl<;>exact ⟨fun c e=>(by cases e),fun c e=>(by cases e)⟩) (by decide)
 rw [hrow] at h1
 have hz:(sizeOf 157).run Tryz.prog (w.af t d)=.ok 10 (w.af t d):=by kernel_rfl
 show ((storeVar 157 ⟨b,0,none⟩ (.agg iH)) >>= fun _=>pure Next.skip).run Tryz.prog (w.af t d)=_
 unfold storeVar
 rw [Sem.run_bind,Sem.run_bind,hz]
 show ((storeCells ⟨b,0,none⟩ iH.toList 0).run Tryz.prog (w.af t d)).andThen _=_
 rw [h1]
 rfl
theorem Fg:S86 (b86.at ⟨#[x0,x1,x2,x3,.agg iH,x5,x6,x7],[]⟩ [.inRegion Dp [1,2],.code (.seq zZ .ret)]) w:=by
 refine gp (o:=Dp[1]!) (v:=.pointer (some ⟨w.heap.size,0,none⟩)) (by kernel_rfl) (by kernel_rfl) Nr fun t d=>⟨(w.af t d).alloc (.cells (Array.replicate 10 .nilFunc) 157),by kernel_rfl,E9 (cs:=Array.replicate 10 .nilFunc) (by simp) (by
  show (w.heap.push _)[w.heap.size]?=_
  simp)⟩
theorem Fe:S86 (b86.at ⟨#[x0,x1,x2,x3,x4,x5,x6,x7],[]⟩ [.code (.seq JA (.seq zZ .ret))]) w:=by
 refine fw (fun w l=>stepG_seq) ?_
 rw [Jz]
 refine fw (fun w l=>stepG_region) ?_
 exact gp (o:=Dp[0]!) (v:=.agg iH) (by kernel_rfl) (by kernel_rfl) Nr fun t d=>⟨w.af t d,by kernel_rfl,Fg⟩
theorem Ff:S86 (b86.at ⟨#[x0,x1,x2,x3,x4,x5,x6,x7],[]⟩ [.code uN]) w:=by
 rw [Ij]
 refine fw (fun w l=>stepG_seq) ?_
 rw [JB]
 refine fw (fun w l=>stepG_region) ?_
 exact gp (o:=o0_86[0]!) (v:=.nilFunc) (by kernel_rfl) (by kernel_rfl) Nr fun t d=>⟨w.af t d,by kernel_rfl,fw (fun w l=>stepG_region_end) Fe⟩
theorem Fb (args:Array Value) (ha:args.size=1):S86 (Go.Frame.enter Tryz.prog 86 args .normal) w:=by
 obtain ⟨l⟩:=args
 match l,ha with
 | [x],_=>
  have e:Go.Frame.enter Tryz.prog 86 #[x] .normal=b86.at ⟨#[x,undef,undef,undef,undef,undef,undef,undef],[]⟩ [.code uN]:=by kernel_rfl
  show S86 (Go.Frame.enter Tryz.prog 86 #[x] .normal) w
  rw [e]
  exact Ff
end
end Go.Proofs.YthhmolonhpaepaaGreatDoor
end
section
namespace Go.Proofs.YthhmolonhpaepaaGreatDoor
open Go.RowKit
def mBod:List Nat:=[13,15,16,17,19,20,21,22,23,24,25,26,27,28,29,30,31,32,33,34,35,36,37,38,39,41,42,43,44,45,46,47,48,49,50,51,52,53,54,55,56,57,58,59,60,61,62,63,64,65,66,67,68,69,70,76,77,78,79,80,81,82,83,84,85,86,87,88,89,90,91,92,93,94,95,96,97,98,99,100,101,102,103,104,105,106,107,121,127,128,129,130,131,132,133,134,135,136,137,138,139,140,144,145,146,147,148,149,150,155,157,158,159,160,161,162,163,167,200,202]
def mExt:List Nat:=[141,142,143,164,165,166,181,182,187,190,192,193]
def mKl (f:Nat):List (Nat × Mz.Cls):=
 if f=38 then [(31,.fn [107])]
 else if f=70 then [(2,.fn [107]),(3,.fn [107])]
 else if f=107 then [(0,.yield),(20,.yield)]
 else if f=50 then [(16,.bound jw),(49,.bound jw)]
 else if f=18 then [(11,.bound [54]),(34,.bound [54]),(40,.bound [54])]
 else []
def mKr (f:Nat):Option Mz.Cls:=
 if f=70 then some (.fn [107])
 else if f=86 then some (.bound jw)
 else none
noncomputable abbrev mc (bR:Bool) (w:World) (shy:Nat→Prop):Mz.Mc:={ P:=Tryz.prog,fn:=fun f=>mBod.contains f || mExt.contains f || (bR && f == 18),nm:=fun s=>["Kind","Elem","Implements","AssignableTo","As","Unwrap","loop.example/drawbar/impl.less"].contains s,kl:=mKl,kr:=mKr,n0:=w.heap.size,bad:=fun b=>shy b∨∃ c e,w.heap[b]?=some (.pending c e),shy:=shy,GM:=fun b h=>.inl h,bR:=bR,tr:=fun f=>f == 86,K:=Mz.Safe Tryz.prog ig }
section
variable (bR:Bool) (w:World) (shy:Nat→Prop)
theorem mc_bod:(mBod.all fun f=>@Mz.Kg (mc bR w shy) f)=true:=by cases bR<;>kernel_rfl
theorem Mw:@Mz.Kg (mc true w shy) 18=true:=by kernel_rfl
theorem mc_nm:@Mz.Mo (mc bR w shy)=true:=by cases bR<;>kernel_rfl
theorem mx_0:@Mz.Cn (mc bR w shy) 141:=by
 letI:=mc bR w shy
 refine ⟨Tryz.f141,by kernel_rfl,by kernel_rfl,.inr ⟨by kernel_rfl,by kernel_rfl,by kernel_rfl,fun e he=>?_⟩⟩
 have:Extern.find Tryz.f141=some (fun args=>Extern.ReflectliteValue.unpack (args.getD 0 (.tuple #[]))):=by kernel_rfl
 rw [this] at he;cases he;exact fun a=>Mz.yg _
theorem mx_1:@Mz.Cn (mc bR w shy) 142:=by
 letI:=mc bR w shy
 refine ⟨Tryz.f142,by kernel_rfl,by kernel_rfl,.inr ⟨by kernel_rfl,by kernel_rfl,by kernel_rfl,fun e he=>?_⟩⟩
 have:Extern.find Tryz.f142=some (Extern.ReflectliteValue.methodAny (Extern.ReflectliteValue.valueError "reflectlite.Value.Type" 0) fun t _ _ _=>Extern.ReflectliteType.toType t):=by kernel_rfl
 rw [this] at he;cases he;exact fun a=>Mz.vH (Mz.dE _ _) (fun t _ _ _=>Mz.qJ t) a
theorem mx_2:@Mz.Cn (mc bR w shy) 143:=by
 letI:=mc bR w shy
 refine ⟨Tryz.f143,by kernel_rfl,by kernel_rfl,.inr ⟨by kernel_rfl,by kernel_rfl,by kernel_rfl,fun e he=>?_⟩⟩
 have:Extern.find Tryz.f143=some (Extern.ReflectliteValue.method (Extern.ReflectliteValue.valueError "reflectlite.Value.IsNil" 0) Extern.ReflectliteValue.isNil):=by kernel_rfl
 rw [this] at he;cases he;exact fun a=>Mz.nA (Mz.dE _ _) Mz.JP a
theorem mx_3:@Mz.Cn (mc bR w shy) 164:=by
 letI:=mc bR w shy
 refine ⟨Tryz.f164,by kernel_rfl,by kernel_rfl,.inr ⟨by kernel_rfl,by kernel_rfl,by kernel_rfl,fun e he=>?_⟩⟩
 have:Extern.find Tryz.f164=some (Extern.ReflectliteType.typeOf):=by kernel_rfl
 rw [this] at he;cases he;exact Mz.Ga
theorem mx_4:@Mz.Cn (mc bR w shy) 165:=by
 letI:=mc bR w shy
 refine ⟨Tryz.f165,by kernel_rfl,by kernel_rfl,.inr ⟨by kernel_rfl,by kernel_rfl,by kernel_rfl,fun e he=>?_⟩⟩
 have:Extern.find Tryz.f165=some (Extern.ReflectliteValue.method (Extern.ReflectliteValue.valueError "reflectlite.Value.Elem" 0) Extern.ReflectliteValue.elem):=by kernel_rfl
 rw [this] at he;cases he;exact fun a=>Mz.nA (Mz.dE _ _) Mz.JK a
theorem mx_5:@Mz.Cn (mc bR w shy) 166:=by
 letI:=mc bR w shy
 refine ⟨Tryz.f166,by kernel_rfl,by kernel_rfl,.inr ⟨by kernel_rfl,by kernel_rfl,by kernel_rfl,fun e he=>?_⟩⟩
 have:Extern.find Tryz.f166=some (Extern.ReflectliteValue.set):=by kernel_rfl
 rw [this] at he;cases he;exact Mz.mz_set
theorem mx_6:@Mz.Cn (mc bR w shy) 181:=by
 letI:=mc bR w shy
 refine ⟨Tryz.f181,by kernel_rfl,by kernel_rfl,.inr ⟨by kernel_rfl,by kernel_rfl,by kernel_rfl,fun e he=>?_⟩⟩
 have:Extern.find Tryz.f181=none:=by kernel_rfl
 rw [this] at he;cases he
theorem mx_7:@Mz.Cn (mc bR w shy) 182:=by
 letI:=mc bR w shy
 refine ⟨Tryz.f182,by kernel_rfl,by kernel_rfl,.inr ⟨by kernel_rfl,by kernel_rfl,by kernel_rfl,fun e he=>?_⟩⟩
 have:Extern.find Tryz.f182=some (Extern.ReflectliteType.abiMethod fun t=>do pure (.int .u8 (← Extern.Rtype.kind t))):=by kernel_rfl
 rw [this] at he;cases he;exact fun a=>Mz.yD Mz.DL a
theorem mx_8:@Mz.Cn (mc bR w shy) 187:=by
 letI:=mc bR w shy
 refine ⟨Tryz.f187,by kernel_rfl,by kernel_rfl,.inr ⟨by kernel_rfl,by kernel_rfl,by kernel_rfl,fun e he=>?_⟩⟩
 have:Extern.find Tryz.f187=some (Extern.ReflectliteValue.method (pure (.int .u8 0)) fun _ _ _ k=>pure (.int .u8 (Int.ofNat k))):=by kernel_rfl
 rw [this] at he;cases he;exact fun a=>Mz.nA Mz.MZ.ok (fun _ _ _ _=>Mz.MZ.ok) a
theorem mx_9:@Mz.Cn (mc bR w shy) 190:=by
 letI:=mc bR w shy
 refine ⟨Tryz.f190,by kernel_rfl,by kernel_rfl,.inr ⟨by kernel_rfl,by kernel_rfl,by kernel_rfl,fun e he=>?_⟩⟩
 have:Extern.find Tryz.f190=some (Extern.ReflectliteType.relation "AssignableTo" Extern.ReflectliteType.assignableTo):=by kernel_rfl
 rw [this] at he;cases he;exact fun a=>Mz.qM _ Mz.NS a
theorem mx_10:@Mz.Cn (mc bR w shy) 192:=by
 letI:=mc bR w shy
 refine ⟨Tryz.f192,by kernel_rfl,by kernel_rfl,.inr ⟨by kernel_rfl,by kernel_rfl,by kernel_rfl,fun e he=>?_⟩⟩
 have:Extern.find Tryz.f192=some (Extern.ReflectliteType.method Extern.ReflectliteType.elem):=by kernel_rfl
 rw [this] at he;cases he;exact fun a=>Mz.Du Mz.JO a
theorem mx_11:@Mz.Cn (mc bR w shy) 193:=by
 letI:=mc bR w shy
 refine ⟨Tryz.f193,by kernel_rfl,by kernel_rfl,.inr ⟨by kernel_rfl,by kernel_rfl,by kernel_rfl,fun e he=>?_⟩⟩
 have:Extern.find Tryz.f193=some (Extern.ReflectliteType.relation "Implements" Extern.ReflectliteType.implements_):=by kernel_rfl
 rw [this] at he;cases he;exact fun a=>Mz.qM _ Mz.sK a
theorem JY:@Mz.Lw (mc bR w shy):=by
 letI:=mc bR w shy
 refine @Mz.Lw.mk (mc bR w shy) (fun f hf=>?_) (Mz.nm_of (mc_nm bR w shy))
 replace hf:(mBod.contains f || mExt.contains f || (bR && f == 18))=true:=hf
 simp only [Bool.or_eq_true,Bool.and_eq_true,beq_iff_eq] at hf
 rcases hf with (hf|hf)|⟨rfl,rfl⟩
 ·exact Mz.G8 (List.all_eq_true.1 (mc_bod bR w shy) f (by simpa using hf))
 ·have e:f∈mExt:=by simpa using hf
  simp only [mExt,List.mem_cons,List.not_mem_nil,or_false] at e
  rcases e with rfl|rfl|rfl|rfl|rfl|rfl|rfl|rfl|rfl|rfl|rfl|rfl
  ·exact mx_0 bR w shy
  ·exact mx_1 bR w shy
  ·exact mx_2 bR w shy
  ·exact mx_3 bR w shy
  ·exact mx_4 bR w shy
  ·exact mx_5 bR w shy
  ·exact mx_6 bR w shy
  ·exact mx_7 bR w shy
  ·exact mx_8 bR w shy
  ·exact mx_9 bR w shy
  ·exact mx_10 bR w shy
  ·exact mx_11 bR w shy
 ·exact Mz.G8 (Mw w shy)
theorem JZ:@Mz.Cu (mc bR w shy):=by
 letI:=mc bR w shy
 refine @Mz.Cu.mk (mc bR w shy) (fun f args w hf ha=>?_) (fun fr w t d hf hfr hw hk l hl=>?_) (fun fr w t d h=>Mz.xC h t d)
 ·obtain rfl:f=86:=by simpa using (show (f == 86)=true from hf)
  show Mz.Safe Tryz.prog ig (Go.Frame.enter Tryz.prog 86 args .normal) w
  exact Fb args ha
 ·obtain hf:fr.fn=86:=by simpa using (show (fr.fn == 86)=true from hf)
  have h:=Mz.Safe.step hk t d l hl
  show Mz.CuOut fr l (Go.stepG Tryz.prog true (Go.Conc.G fr l) (w.af t d))
  cases hs:Go.stepG Tryz.prog true (Go.Conc.G fr l) (w.af t d) with
  | go g w1 es=>
   rw [hs] at h
   rcases h with h|⟨c,cs,v,e1,e2,hv⟩
   ·exact .inl h
   ·refine .inr ⟨c,cs,v,e1,e2,fun cl hcl f xs ys e=>?_⟩
    rw [hf] at hcl
    have:cl=.bound jw:=by
     have:mKr 86=some cl:=hcl
     exact (Option.some.inj this).symm
    subst this
    obtain ⟨g,rfl,hg⟩:=hv _ _ _ e
    refine ⟨g,rfl,hg,?_,?_,?_⟩
    ·simp only [jw,List.mem_cons,List.not_mem_nil,or_false] at hg
     rcases hg with rfl|rfl|rfl|rfl|rfl|rfl|rfl|rfl|rfl<;>(cases bR<;>rfl)
    ·simp only [jw,List.mem_cons,List.not_mem_nil,or_false] at hg
     rcases hg with rfl|rfl|rfl|rfl|rfl|rfl|rfl|rfl|rfl<;>rfl
    ·simp only [jw,List.mem_cons,List.not_mem_nil,or_false] at hg
     rcases hg with rfl|rfl|rfl|rfl|rfl|rfl|rfl|rfl|rfl<;>rfl
  | comm g a b s w1 es=>rw [hs] at h;exact h
  | _=>trivial
end
end Go.Proofs.YthhmolonhpaepaaGreatDoor
end
section
namespace Go.Proofs.YthhmolonhpaepaaGreatDoor
open Go.RowKit Drw Go.Conc
noncomputable abbrev pw (shy:Nat→Prop) (w:World):World:=@Mz.Pz (mc false w shy) w
def IC (shy:Nat→Prop) (w:World):Prop:=∀ b,shy b→∃ c e,w.heap[b]?=some (.cells c e)∧0<c.size
section
variable {shy Ji:Nat→Prop} {w w':World} {bR:Bool}
theorem l7 (h:IC shy w):@Mz.OKW (mc bR w shy) w:=
 @Mz.OKW.mk (mc bR w shy) w (Nat.le_refl _) (fun b o hb ho=>by
  have:w.heap.size≤b:=hb
  have:=(Array.getElem?_eq_some_iff.1 ho).1
  omega) (fun b hb=>by
  by_cases hs:shy b
  ·exact .inl (h b hs)
  ·exact .inr ⟨hs,hb.resolve_left hs⟩) (fun b c e hb he=>hb (.inr ⟨c,e,he⟩))
theorem lC:(pw shy w).heap.size=w.heap.size:=@Mz.Ab (mc false w shy) w
theorem FN {b:Nat} (h:¬ shy b) (hp:∀ c e,w.heap[b]?≠some (.pending c e)):(pw shy w).heap[b]?=w.heap[b]?:=
 @Mz.cZ (mc false w shy) w b (fun x=>x.elim h fun ⟨c,e,he⟩=>hp c e he)
theorem vB {b:Nat} {c:Array Value} {e:TypeId} {z:Nat × Nat}:(pw shy w).heap[b]?=some (.cells c e z)↔¬ shy b∧w.heap[b]?=some (.cells c e z):=by
 constructor
 ·intro h
  by_cases hb:@Mz.Mc.bad (mc false w shy) b
  ·have e1:=@Mz.jD (mc false w shy) w b
   have h:=e1.symm.trans h
   cases hw:w.heap[b]? with
   | none=>rw [hw] at h;cases h
   | some o=>
    rw [hw] at h
    simp only [Option.map_some,Mz.iI,if_pos hb,Option.some.injEq] at h
    cases h
  ·have e1:=@Mz.cZ (mc false w shy) w b hb
   exact ⟨fun x=>hb (.inl x),e1.symm.trans h⟩
 ·rintro ⟨h1,h2⟩
  rw [FN h1 (fun c e he=>by rw [h2] at he;cases he)]
  exact h2
theorem nk {a:Addr} {u:Value}:(pw shy w).cell? a=some u↔¬ shy a.block∧w.cell? a=some u:=by
 unfold World.cell?
 constructor
 ·intro h
  cases ho:(pw shy w).heap[a.block]? with
  | none=>rw [ho] at h;cases h
  | some o=>
   cases o with
   | cells c e z=>
    obtain ⟨h1,h2⟩:=vB.1 ho
    rw [ho] at h
    rw [h2]
    exact ⟨h1,h⟩
   | _=>rw [ho] at h;cases h
 ·rintro ⟨h1,h⟩
  cases ho:w.heap[a.block]? with
  | none=>rw [ho] at h;cases h
  | some o=>
   cases o with
   | cells c e z=>
    rw [vB.2 ⟨h1,ho⟩]
    rw [ho] at h
    exact h
   | _=>rw [ho] at h;cases h
def jg (w w':World):Prop:=∀ a u,w.cell? a=some u→w'.cell? a=some u
theorem vw {v:Value} {s:Nat} {cs:List (List Value)} (h:Drw.Rows w v s cs) (hi:jg w w'):Drw.Rows w' v s cs:=by
 obtain ⟨p,cap,e,h1,h2,h3⟩:=h
 refine ⟨p,cap,e,h1,h2,h3.imp id ?_⟩
 rintro ⟨b,o,e,h⟩
 exact ⟨b,o,e,fun k c hk j u hj=>hi _ _ (h k c hk j u hj)⟩
theorem jW {v:Value} {xs:List Thx} (h:rV w v xs) (hi:jg w w'):rV w' v xs:=⟨vw h.1 hi,fun x hx=>⟨vw (h.2 x hx).1 hi,vw (h.2 x hx).2 hi⟩⟩
theorem pw_out:jg (pw shy w) w:=fun a u h=>(nk.1 h).2
theorem K6 (hb:∀ k,k<w.heap.size→¬ shy k→w'.heap[k]?=w.heap[k]?) (hs:∀ b,Ji b→shy b∨w.heap.size≤b):jg (pw shy w) (pw Ji w'):=fun a u h=>by
 obtain ⟨h1,h2⟩:=nk.1 h
 have hlt:=World.block_lt_of_cell? _ _ h2
 refine nk.2 ⟨fun x=>(hs _ x).elim h1 fun y=>by omega,?_⟩
 unfold World.cell? at h2 ⊢
 rw [hb _ hlt h1];exact h2
theorem zU {v:Value} {s:Nat} {cs:List (List Value)} (h:Drw.Rows w v s cs) (ho:fQ (fun b=>¬ shy b) v):Drw.Rows (pw shy w) v s cs:=by
 obtain ⟨p,cap,e,h1,h2,h3⟩:=h
 refine ⟨p,cap,e,h1,h2,?_⟩
 rcases h3 with h3|⟨b,o,e2,h⟩
 ·exact .inl h3
 ·by_cases hc:cs=[]
  ·exact .inl hc
  ·refine .inr ⟨b,o,e2,fun k c hk j u hj=>nk.2 ⟨?_,h k c hk j u hj⟩⟩
   exact ho b o _ _ (by rw [e,e2]) (by cases cs with|nil=>exact (hc rfl).elim|cons x l=>simp)
theorem LJ {v:Value} {xs:List Thx} (h:rV w v xs) (hv:fQ (fun b=>¬ shy b) v) (hx:∀ x∈xs,fQ (fun b=>¬ shy b) x.2.1∧fQ (fun b=>¬ shy b) x.2.2):rV (pw shy w) v xs:=
 ⟨zU h.1 hv,fun x hm=>⟨zU (h.2 x hm).1 (hx x hm).1,zU (h.2 x hm).2 (hx x hm).2⟩⟩
theorem vv {v:Value} {s:Nat} {cs:List (List Value)} (h:Drw.Rows (pw shy w) v s cs) (hl:∀ c∈cs,0<c.length):fQ (fun b=>¬ shy b∧b<w.heap.size) v:=by
 intro b o n c e hn
 obtain ⟨p,cap,e1,h1,h2,h3⟩:=h
 rw [e] at e1
 cases e1
 have hne:cs≠[]:=fun e=>by rw [e] at hn;simp at hn
 obtain ⟨b',o',e2,hc⟩:=h3.resolve_left hne
 cases e2
 obtain ⟨x,l,rfl⟩:∃ x l,cs=x::l:=by cases cs with|nil=>exact (hne rfl).elim|cons x l=>exact ⟨x,l,rfl⟩
 have hx:=hl x (by simp)
 obtain ⟨u,hu⟩:∃ u,x[0]?=some u:=⟨_,List.getElem?_eq_getElem hx⟩
 obtain ⟨h1,h2⟩:=nk.1 (hc 0 x rfl 0 u hu)
 exact ⟨h1,World.block_lt_of_cell? _ _ h2⟩
theorem Ja {v:Value} {xs:List Thx} (h:rV (pw shy w) v xs):fQ (fun b=>¬ shy b∧b<w.heap.size) v∧∀ x∈xs,fQ (fun b=>¬ shy b∧b<w.heap.size) x.2.1∧fQ (fun b=>¬ shy b∧b<w.heap.size) x.2.2:=
 ⟨vv h.1 (fun c hc=>by obtain ⟨x,_,rfl⟩:=List.mem_map.1 hc;show 0<8;decide),fun x hx=>⟨vv (h.2 x hx).1 (fun c hc=>by obtain ⟨x,_,rfl⟩:=List.mem_map.1 hc;show 0<5;decide),vv (h.2 x hx).2 (fun c hc=>by obtain ⟨x,_,rfl⟩:=List.mem_map.1 hc;show 0<1;decide)⟩⟩
theorem qE (h:@Mz.OKW (mc bR w shy) w') (hb:∀ b,@Mz.Mc.bad (mc bR w shy) b→w'.heap[b]?=w.heap[b]?):@Mz.Pz (mc bR w shy) w'=pw shy w':=by
 have hbad:∀ b,@Mz.Mc.bad (mc bR w shy) b↔@Mz.Mc.bad (mc false w' shy) b:=fun b=>by
  constructor
  ·rintro (h1|⟨c,e,he⟩)
   ·exact .inl h1
   ·by_cases hs:shy b
    ·exact .inl hs
    ·exact .inr ⟨c,e,by rw [hb b (.inr ⟨c,e,he⟩)];exact he⟩
  ·rintro (h1|⟨c,e,he⟩)
   ·exact .inl h1
   ·refine Classical.byContradiction fun hx=>@Mz.OKW.nop (mc bR w shy) w' h b c e hx he
 have hp:∀ b o,@Mz.iI (mc bR w shy) b o=@Mz.iI (mc false w' shy) b o:=fun b o=>by
  unfold Mz.iI
  by_cases hx:@Mz.Mc.bad (mc bR w shy) b
  ·rw [if_pos hx,if_pos ((hbad b).1 hx)]
  ·rw [if_neg hx,if_neg (fun y=>hx ((hbad b).2 y))]
 show ({ w' with heap:=w'.heap.mapIdx (@Mz.iI (mc bR w shy)) }:World)={ w' with heap:=w'.heap.mapIdx (@Mz.iI (mc false w' shy)) }
 have:(w'.heap.mapIdx (@Mz.iI (mc bR w shy)))=w'.heap.mapIdx (@Mz.iI (mc false w' shy)):=by
  apply Array.ext (by simp)
  intro i h1 h2
  simp only [Array.getElem_mapIdx]
  exact hp _ _
 rw [this]
end
end Go.Proofs.YthhmolonhpaepaaGreatDoor
end
section
namespace Go.Proofs.YthhmolonhpaepaaGreatDoor
open Go.RowKit Drw
attribute [local go_sem] Lab.val Rgt.val Cal.val Thg.val
noncomputable def z8:Code:=match ic with|.seq r _=>r|_=>.skip
noncomputable def zI:Code:=match ic with|.seq _ (.seq r _)=>r|_=>.skip
noncomputable def zY:Code:=match ic with|.seq _ (.seq _ (.seq r _))=>r|_=>.skip
theorem Im:ic=jf.spine [z8,zI] (.seq zY FJ):=rfl
theorem hpush (w:World) (o:Obj) (k:Nat):(w.alloc o).heap[k]?=if k=w.heap.size then some o else w.heap[k]?:=by
 show (w.heap.push o)[k]?=_
 rw [Array.getElem?_push]
theorem K9 (w:World) (o o':Obj):((w.alloc o).alloc o').heap[w.heap.size]?=some o:=by
 rw [hpush,if_neg (by show ¬ w.heap.size=(w.heap.push o).size;simp),hpush,if_pos rfl]
theorem K8 (w:World) (o o':Obj):((w.alloc o).alloc o').heap[w.heap.size+1]?=some o':=by
 rw [hpush,if_pos (by show w.heap.size+1=(w.heap.push o).size;simp)]
def Pre40 (w:World) (p:Option Addr) (n cap:Nat) (l:Lab) (e:Exit) (a:Act) (w':World):Prop:=
 e=.normal∧a.defers=[]∧a.tmps.size=31∧w'.os=w.os∧w'.output=w.output∧(∀ k,k<w.heap.size→w'.heap[k]?=w.heap[k]?)∧∃ C bv,w.heap.size+1<C∧C<bv∧bv<w'.heap.size ∧
  a.tmps[2]?=some (.pointer (some ⟨w.heap.size,0,none⟩))∧a.tmps[3]?=some (.pointer (some ⟨w.heap.size+1,0,none⟩))∧a.tmps[5]?=some (.pointer (some ⟨bv,0,none⟩)) ∧
  w'.heap[w.heap.size]?=some (.cells #[.slice p n cap] 23)∧w'.heap[w.heap.size+1]?=some (.cells #[.int .i64 l.s,.int .i64 l.v] 25)∧(∃ cs,w'.heap[C]?=some (.cells cs 32)∧cs.size=8 * n)∧w'.heap[bv]?=some (.cells #[.slice (some ⟨C,0,none⟩) n n] 23)
set_option maxRecDepth 100000 in
set_option maxHeartbeats 1000000 in
theorem JC {p:Option Addr} {cap:Nat} {ts:List Thg} {l:Lab} {w:World} (hT:TabAt w (.slice p ts.length cap) ts) (ht:aU ts=true) (hl:dw l=true) :
  (jf.spine [z8,zI] zY).wp Tryz.prog (Pre40 w p ts.length cap l) ⟨#[.slice p ts.length cap,l.val,undef,undef,undef,undef,undef,undef,undef,undef,undef,undef,undef,undef,undef,undef,undef,undef,undef,undef,undef,undef,undef,undef,undef,undef,undef,undef,undef,undef,undef],[]⟩ w:=by
 show (Code.seq z8 (.seq zI zY)).wp _ _ _ _
 unfold z8 zI zY ic
 simp only [Tryz.f40,Option.getD_some]
 obtain ⟨ls,lv⟩:=l
 have hn:ts.length≤65536:=by
  have:=ht
  unfold aU at this
  simp [inR] at this
  omega
 have hmk:=BB ts.length hn
 have HT:=Lib.hid hT
 have Ht:=Lib.hid ht
 have Hl:=Lib.hid hl
 have Hn:=Lib.hid hn
 clear hT ht hl hn
 go_wp2_with (first
  | (go_at_call 38;refine (lQ (HT.out.pure (by (repeat (with_reducible first|exact bA _ _|refine bB ?_ ?_ _|refine bC ?_ _|refine bD ?_|refine bE ?_ ?_ _|refine bF ?_ (by assumption) ?_))<;>first|omega|(simp;try omega))) Ht.out).mono ?_;rintro e w1 ⟨rfl,hb1⟩;have b0:w1.heap[w.heap.size]?=some (.cells #[.slice p ts.length cap] 23):=(hb1.block _ (by simp<;>omega)).trans (K9 _ _ _);have b1:w1.heap[w.heap.size+1]?=some (.cells #[.int .i64 ls,.int .i64 lv] 25):=(hb1.block _ (by simp<;>omega)).trans (K8 _ _ _);have c0:w1.cell? ⟨w.heap.size,0,none⟩=some (.slice p ts.length cap):=(by simp [World.cell?,b0]);have c1:w1.cell? ⟨w.heap.size+1,0,none⟩=some (.int .i64 ls):=(by simp [World.cell?,b1]);have c2:w1.cell? ⟨w.heap.size+1,1,none⟩=some (.int .i64 lv):=(by simp [World.cell?,b1]))
  | (go_at_call 39;refine (rA (l:=⟨_,_⟩) Hl.out).mono ?_;rintro e w2 ⟨rfl,hb2⟩;have hz1:w.heap.size+1<w1.heap.size:=(Array.getElem?_eq_some_iff.1 b1).1;have b0':w2.heap[w.heap.size]?=some (.cells #[.slice p ts.length cap] 23):=(hb2.block _ (by omega)).trans b0;have b1':w2.heap[w.heap.size+1]?=some (.cells #[.int .i64 ls,.int .i64 lv] 25):=(hb2.block _ hz1).trans b1;have d0:w2.cell? ⟨w.heap.size,0,none⟩=some (.slice p ts.length cap):=(by simp [World.cell?,b0'])))
 have hz2:w1.heap.size≤w2.heap.size:=hb2.size
 have hz1:w.heap.size+1<w1.heap.size:=(Array.getElem?_eq_some_iff.1 b1).1
 have hB:∀ k,k<w.heap.size→w2.heap[k]?=w.heap[k]?:=fun k hk=>by
  rw [hb2.block k (by omega),hb1.block k (by simp<;>omega),hpush,if_neg (by show ¬ k=(w.heap.push _).size;simp;omega),hpush,if_neg (by omega)]
 have hold:∀ (o o':Obj) k,k<w2.heap.size→((w2.alloc o).alloc o').heap[k]?=w2.heap[k]?:=fun o o' k hk=>by
  rw [hpush,if_neg (by show ¬ k=(w2.heap.push _).size;simp;omega),hpush,if_neg (by omega)]
 refine ⟨rfl,rfl,rfl,?_,?_,fun k hk=>(hold _ _ k (by omega)).trans (hB k hk),w2.heap.size,w2.heap.size+1,by omega,by omega,by simp,rfl,rfl,rfl,(hold _ _ _ (by omega)).trans b0',(hold _ _ _ (by omega)).trans b1',⟨_,K9 _ _ _,?_⟩,K8 _ _ _⟩
 ·show w2.os=w.os
  rw [hb2.os,hb1.os];rfl
 ·show w2.output=w.output
  rw [hb2.output,hb1.output];rfl
 ·simp [madeCells,Nat.mul_comm]
end Go.Proofs.YthhmolonhpaepaaGreatDoor
end
section
namespace Go.Proofs.YthhmolonhpaepaaGreatDoor
open Go.RowKit Drw Go.Conc Go.ConcN Go.Conc.Lib Go.ConcR.Gen Go.ConcN.Gen
open Go.ConcR (KK wgBlock WgAt stA smA rd wr mk Payload Aside2 DC0)
open Ren (Alone Ph RWg AnchW gQ AtM lK dh)
structure IA (w w':World) (xs:List Thx) (l:Lab) (C Wg:Nat):Prop where
 os:w'.os=w.os
 output:w'.output=w.output
 size:w.heap.size≤w'.heap.size
 below:∀ k,k<w.heap.size→w'.heap[k]?=w.heap[k]?
 Clow:w.heap.size≤C
 Wlow:w.heap.size≤Wg
 CW:C≠Wg
 wg:∃ cs e,w'.heap[Wg]?=some (.cells cs e)∧0<cs.size
 ex:∃ ys:List Thx,ys.map (·.1)=xs.map (fun x=>tH l x.1)∧rV w' (.slice (some ⟨C,0,none⟩) xs.length xs.length) ys∧∀ x∈ys,fQ (fun c=>w.heap.size≤c∧c≠Wg) x.2.1∧fQ (fun c=>w.heap.size≤c∧c≠Wg) x.2.2
theorem AO {nb:Nat→Prop} {w0 w w':World} {C bt bl bv lim:Nat} {xs:List Thx} {l:Lab} {p:Option Addr} {cap:Nat} (h0:w0.heap.size≤w.heap.size) (hos:w.os=w0.os) (hou:w.output=w0.output) (hbel:∀ k,k<w0.heap.size→w.heap[k]?=w0.heap[k]?)
  (hC:w0.heap.size≤C) (hCw:C<w.heap.size) (hn:xs.length≤65536) (hf:Lv (phD w nb C bt bl bv xs l p cap lim) w w'):IA w0 w' xs l C w.heap.size:=by
 have hsz:=hf.size
 have key:∀ i,i<xs.length→∃ z:Thx,z.1=tH l (xs[i]?.getD (Thg.zero,undef,undef)).1∧(∀ j u,z.cells[j]?=some u→w'.cell? ⟨C,8 * i+j,none⟩=some u)∧o5 w' z∧fQ (fun c=>w0.heap.size≤c∧c≠w.heap.size) z.2.1∧fQ (fun c=>w0.heap.size≤c∧c≠w.heap.size) z.2.2:=by
  intro i hi
  obtain ⟨vals,O1,h8,hcell,hO,x,sv,qv,e1,e2,e3,e4,e5,e6,_⟩:=hf.slots i hi
  have hN:∀ c,O1 c→w0.heap.size≤c∧c≠w.heap.size:=fun c hc=>by have:=(hO c hc).1;exact ⟨by omega,by omega⟩
  have e1':xs[i]?=some x:=e1
  refine ⟨(tH l x.1,sv,qv),by rw [e1'];rfl,fun j u hu=>?_,⟨e3,e4⟩,fun b o n c e hn=>hN b (e5 b o n c e hn),fun b o n c e hn=>hN b (e6 b o n c e hn)⟩
  have hj:j<8:=(List.getElem?_eq_some_iff.1 hu).1
  rw [show w'.cell? ⟨C,8 * i+j,none⟩=vals[j]? from hcell j hj,e2]
  rw [List.getElem?_toArray]
  exact hu
 classical
 let F:Nat→Thx:=fun i=>if h:i<xs.length then Classical.choose (key i h) else (Thg.zero,undef,undef)
 have hFe:∀ i (h:i<xs.length),F i=Classical.choose (key i h):=fun i h=>by simp [F,h]
 have hF:∀ i (h:i<xs.length),(F i).1=tH l (xs[i]?.getD (Thg.zero,undef,undef)).1∧(∀ j u,(F i).cells[j]?=some u→w'.cell? ⟨C,8 * i+j,none⟩=some u)∧o5 w' (F i)∧fQ (fun c=>w0.heap.size≤c∧c≠w.heap.size) (F i).2.1∧fQ (fun c=>w0.heap.size≤c∧c≠w.heap.size) (F i).2.2:=fun i h=>by
  rw [hFe i h];exact Classical.choose_spec (key i h)
 refine ⟨hf.os.trans hos,hf.output.trans hou,by omega,fun k hk=>(hf.below k (by omega) (by show k≠C;omega)).trans (hbel k hk),hC,h0,by omega,hf.wg,(List.range xs.length).map F,?_,?_,?_⟩
 ·apply List.ext_getElem?
  intro i
  simp only [List.map_map,List.getElem?_map]
  by_cases hi:i<xs.length
  ·have:=(hF i hi).1
   simp [hi,this]
  ·simp [hi]
 ·refine ⟨⟨_,xs.length,by simp,by simp,by simp [maxLen];omega,.inr ⟨C,0,rfl,fun k c hk j u hj=>?_⟩⟩,fun x hx=>?_⟩
  ·simp only [List.map_map,List.getElem?_map] at hk
   by_cases hi:k<xs.length
   ·simp only [List.getElem?_range hi,Option.map_some,Option.some.injEq,Function.comp] at hk
    subst hk
    have h2:=(hF k hi).2.1 j u hj
    rwa [show 8 * k+j=0+k * 8+j by omega] at h2
   ·simp [hi] at hk
  ·obtain ⟨i,hi,rfl⟩:=List.mem_map.1 hx
   have hi:i<xs.length:=by simpa using hi
   exact (hF i hi).2.2.1
 ·intro x hx
  obtain ⟨i,hi,rfl⟩:=List.mem_map.1 hx
  have hi:i<xs.length:=by simpa using hi
  exact (hF i hi).2.2.2
end Go.Proofs.YthhmolonhpaepaaGreatDoor
end
