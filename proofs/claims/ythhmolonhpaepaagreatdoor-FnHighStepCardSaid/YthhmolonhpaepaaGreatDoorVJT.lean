/- The worker's call of impl.viewThing in company. Conditions: none. -/
import Derived.Test.YthhmolonhpaepaaGreatDoorVJM
import Derived.Test.YthhmolonhpaepaaGreatDoorVJL
set_option linter.unusedVariables false
set_option linter.unusedSimpArgs false
section
namespace Go.Proofs.YthhmolonhpaepaaGreatDoor
open Go.RowKit Drw Go.Conc Go.ConcN Go.Conc.Lib Go.ConcR.Gen Go.ConcN.Gen
open Go.ConcR (KK wgBlock WgAt stA smA rd wr mk Payload Aside2 DC0)
open Ren (dZ nS IR Ph HR VR RR WR AR nz Ey)
theorem iG {w0 w:World} {S:Nat→Prop} {v:Value} {s:Nat} {cs:List (List Value)} (h:Drw.Rows w0 v s cs) (hS:fQ S v) (hw:∀ c,S c→w.heap[c]?=w0.heap[c]?):Drw.Rows w v s cs:=by
 obtain ⟨p,cap,rfl,h1,h2,h3⟩:=h
 refine ⟨p,cap,rfl,h1,h2,?_⟩
 by_cases e:cs=[]
 ·exact .inl e
 ·obtain ⟨b,o,rfl,hc⟩:=h3.resolve_left e
  have hb:=hS b o _ _ rfl (List.length_pos_iff.2 e)
  refine .inr ⟨b,o,rfl,fun k c hk j u hj=>?_⟩
  rw [← hc k c hk j u hj]
  simp only [World.cell?]
  rw [hw b hb]
section
variable [Ren.aW] {ρ:Ren.Map} {n0:Nat} {wl w:World}
theorem gB {u v:Value} (hu:oJ u) (h:VR ρ u v):v=u:=by
 rcases hu with ⟨k,n,rfl⟩|⟨b,rfl⟩<;>cases h<;>rfl
theorem FE {v v':Value} {s:Nat} {cs:List (List Value)} (hsim:∀ c∈cs,∀ u∈c,oJ u) (h:Drw.Rows wl v s cs) (hv:VR ρ v v') (hh:HR ρ n0 wl w):Drw.Rows w v' s cs:=by
 obtain ⟨p,cap,e0,h1,h2,h3⟩:=h
 obtain ⟨n,hn⟩:∃ n,cs.length=n:=⟨_,rfl⟩
 rw [hn] at e0 h1
 subst e0
 cases hv with
 | tV l c=>exact ⟨none,cap,by rw [hn],by omega,h2,.inl (h3.resolve_right (by rintro ⟨b,o,e,_⟩;cases e))⟩
 | nY q c=>exact ⟨q,cap,by rw [hn],by omega,h2,.inl (List.length_eq_zero_iff.1 hn)⟩
 | slice a b l c hab=>
  obtain ⟨b1,b2,b3⟩:=b
  by_cases e:cs=[]
  ·exact ⟨_,cap,by rw [hn],by omega,h2,.inl e⟩
  ·obtain ⟨bb,o,e2,hc⟩:=h3.resolve_left e
   cases e2
   obtain ⟨hρ,ho,hs,hg⟩:=hab
   dsimp only at hρ ho hs hg
   subst hs
   refine ⟨_,cap,by rw [hn],by omega,h2,.inr ⟨b1,b2,rfl,fun k c hk j u hj=>?_⟩⟩
   obtain ⟨u',e1,e2⟩:=hh.cell (a:=⟨bb,o+k * s+j,none⟩) (a':=⟨b1,b2+k * s+j,none⟩) ⟨hρ,by show o+k * s+j+Ren.aW.sh bb=b2+k * s+j;omega,rfl,hg⟩ (hc k c hk j u hj)
   rw [e1,gB (hsim c (List.mem_of_getElem? hk) u (List.mem_of_getElem? hj)) e2]
theorem I6 {t:Thg} {sv qv v':Value} (h:VR ρ (t.val sv qv) v'):∃ sv' qv',v'=t.val sv' qv'∧VR ρ sv sv'∧VR ρ qv qv':=by
 unfold Thg.val at h
 cases h with
 | agg xs ys hs h=>
  obtain ⟨l⟩:=ys
  have hl:l.length=8:=by simpa using hs.symm
  obtain ⟨y0,y1,y2,y3,y4,y5,y6,y7,rfl⟩:∃ y0 y1 y2 y3 y4 y5 y6 y7,l=[y0,y1,y2,y3,y4,y5,y6,y7]:=by
   match l,hl with
   | [y0,y1,y2,y3,y4,y5,y6,y7],_=>exact ⟨_,_,_,_,_,_,_,_,rfl⟩
  have k0:VR ρ _ y0:=h 0 (by simp) (by simp)
  have k1:VR ρ _ y1:=h 1 (by simp) (by simp)
  have k2:VR ρ _ y2:=h 2 (by simp) (by simp)
  have k3:VR ρ _ y3:=h 3 (by simp) (by simp)
  have k4:VR ρ _ y4:=h 4 (by simp) (by simp)
  have k5:VR ρ sv y5:=h 5 (by simp) (by simp)
  have k6:VR ρ qv y6:=h 6 (by simp) (by simp)
  have k7:VR ρ _ y7:=h 7 (by simp) (by simp)
  refine ⟨y5,y6,?_,k5,k6⟩
  have e0:=gB (.inl ⟨_,_,rfl⟩) k0
  have e1:=gB (.inl ⟨_,_,rfl⟩) k1
  have e2:=gB (.inl ⟨_,_,rfl⟩) k2
  have e3:=gB (.inl ⟨_,_,rfl⟩) k3
  have e4:=gB (.inl ⟨_,_,rfl⟩) k4
  have e7:=gB (.inl ⟨_,_,rfl⟩) k7
  rw [e0,e1,e2,e3,e4,e7]
  rfl
theorem I9 {t:Thg} {sv qv sv' qv':Value} (h1:VR ρ sv sv') (h2:VR ρ qv qv'):VR ρ (t.val sv qv) (t.val sv' qv'):=by
 refine .agg _ _ rfl fun i hi _=>?_
 have:i=0∨i=1∨i=2∨i=3∨i=4∨i=5∨i=6∨i=7:=by simp at hi;omega
 rcases this with rfl|rfl|rfl|rfl|rfl|rfl|rfl|rfl<;>first|exact .int _ _|exact h1|exact h2
theorem Lc {v v':Value} {O1:Nat→Prop} (hv:VR ρ v v') (hh:fQ (fun b=>n0≤b) v) (hO:∀ c,O1 c↔nz ρ n0 c):fQ O1 v':=by
 intro b o n c e hn
 cases hv<;>cases e
 ·omega
 ·rename_i a h
  obtain ⟨a1,a2,a3⟩:=a
  obtain ⟨h1,h2,h3,h4⟩:=h
  dsimp only at h1 h3
  subst h3
  exact (hO b).2 ⟨a1,h1,hh a1 a2 _ _ rfl hn⟩
end
theorem Kc:Tryz.prog.globals.size=1:=by kernel_rfl
section
variable {D:VD} {i b:Nat} {x:Thx} {listed:Array Bool} {a:Act} {w:World} {O:Nat→Prop} {Fin:(Nat→Prop)→Goroutine→World→Prop} {bot:Frame} {rest:List Nat}
def LoneR (t:Thg) (n0:Nat) (v:Value) (w:World):Prop:=∃ sv qv,v=t.val sv qv∧aF w sv t.slots∧aG w qv t.queue∧fQ (fun b=>n0≤b) sv∧fQ (fun b=>n0≤b) qv
theorem MV [Ren.aW] {ρ:Ren.Map} {wl w':World} {v v':Value} {O1:Nat→Prop} (hx:D.xs[i]?=some x) (hv:VR ρ v v') (hh:HR ρ 2 wl w') (hR:LoneR (tH D.l x.1) 2 v wl) (hS:∀ b c,ρ b c→b<2→D.S' c) (hO:∀ c,O1 c↔nz ρ 2 c) :
  ∃ vals,v'=.agg vals∧D.Good i O1 vals w':=by
 obtain ⟨sv,qv,rfl,hr,hq,h1,h2⟩:=hR
 obtain ⟨sv',qv',rfl,k1,k2⟩:=I6 hv
 have hn:∀ b c,ρ b c→D.S' c∨O1 c:=fun b c hb=>by
  rcases Nat.lt_or_ge b 2 with h|h
  ·exact .inl (hS b c hb h)
  ·exact .inr ((hO c).2 ⟨b,hb,h⟩)
 refine ⟨_,rfl,x,sv',qv',hx,rfl,FE jY.2 hr k1 hh,FE kI.2 hq k2 hh,Lc k1 h1 hO,Lc k2 h2 hO,⟨inferInstance,ρ,sv,k1,hn⟩,⟨inferInstance,ρ,qv,k2,hn⟩,fun c hc=>?_⟩
 obtain ⟨bl,hb,hge⟩:=(hO c).1 hc
 obtain ⟨xs,e,z,ys,z',e1,e2,e3,e4,_⟩:=hh.cells bl c hb
 obtain ⟨e5,e6,_⟩:=e4 hge
 refine ⟨ys,e,z',e2,fun u hu=>?_⟩
 obtain ⟨j,hj,rfl⟩:=Array.mem_iff_getElem.1 hu
 obtain ⟨h3,h4⟩:=e3 j (e6 ▸ hj)
 simp only [e5,Nat.add_zero] at h4
 exact ⟨inferInstance,ρ,_,h4,hn⟩
theorem wK {P:Program} {main:Bool} {b:Frame} {a:Act} {k:List Item} {cs:List Frame} {w:World} {ops:Array Oper} {i:Nat} {rest:List Nat} {o:Oper} {f:FuncId} {fn:Func} {c:Code} {args:Array Operand} {ats:Array TypeId}
  (ho:ops[i]?=some o) (hw:Region.wanted o (yielded ops a.tmps)=true) (hk:b.kind≠.early) (hop:o.op=.call { callee:=.value (.func f),args,argTypes:=ats })
  (hf:P.funcs[f]?=some fn) (hname:(fn.name == "runtime.NumGoroutine")=false) (hb:fn.body=some c) :
  stepG P main (G (b.at a (.inRegion ops (i::rest)::k)) cs) w=.go (G (Frame.enter P f (args.map a.eval) .normal) (b.at a (.inRegion ops (i::rest)::k)::cs)) w #[]:=by
 have hb':fn.body.isNone=false:=by rw [hb];rfl
 rw [stepG_enter ho hw hk (run_call_body hop hf hname hb')]
 have:listed P b.fn a o w=#[]:=by unfold listed;rw [events_call_body hop hf hname hb'];exact seen_none P _
 rw [this]
theorem wj_7 (ok:D.Ok) (hx:D.xs[i]?=some x) (hs:listed.size=10) (h:WJ D i b x listed (a,w,O)) (h5:listed.getD 5 false=true) (h6:listed.getD 6 false=true) (h7:listed.getD 7 false=false) (hbS:¬ D.S b)
  (hn:∀ s',WJ D i b x (listed.setIfInBounds 7 true) s'→WPg D Fin bot rest s'):WPg D Fin bot (7::rest) (a,w,O):=by
 obtain ⟨X,ha,hX⟩:=h.act
 replace ha:a=⟨wT D b X,wD D⟩:=ha
 have e10:X 10=x.1.val x.2.1 x.2.2:=hX.1 5 (by decide) (by decide) h5
 have e11:X 11=D.l.val:=hX.1 6 (by decide) (by decide) h6
 have q1:a.eval (.tmp 10)=x.1.val x.2.1 x.2.2:=by rw [ha,← e10];rfl
 have q2:a.eval (.tmp 11)=D.l.val:=by rw [ha,← e11];rfl
 have hxm:x∈D.xs:=List.mem_of_getElem? hx
 have hSw:∀ c,D.S c→c<w.heap.size:=fun c hc=>Nat.lt_of_lt_of_le (ok.low c hc) h.low
 have hbw:b<w.heap.size:=(Array.getElem?_eq_some_iff.1 (show w.heap[b]?=_ from h.ib)).1
 have jl:o5 w x:=⟨iG (ok.thx x hxm).1 (ok.sS x hxm) (fun c hc=>h.same c hc.1),iG (ok.thx x hxm).2 (ok.qS x hxm) (fun c hc=>h.same c hc.1)⟩
 obtain ⟨G1,ρ,wl,sl,ql,hg,hh,hz,v1,v2,hr,hq,hρ⟩:=DR jl (ok.fine x hxm) (ok.sS x hxm) (ok.qS x hxm)
 letI:=G1
 have hstep:=fun w1=>wK (P:=Tryz.prog) (main:=false) (b:=baseD 72) (a:=a) (k:=[]) (cs:=[bot]) (w:=w1) (ops:=dN) (i:=7) (rest:=rest) (o:=_) rfl rfl (bk _) rfl Tryz.func74 (by kernel_rfl) rfl
 refine dZ.ctl rfl hstep ?_
 have eargs:(#[Operand.tmp 10,Operand.tmp 11].map a.eval)=#[x.1.val x.2.1 x.2.2,D.l.val]:=by
  simp only [List.map_toArray,List.map_cons,List.map_nil,q1,q2]
 have hargs:RR ρ #[x.1.val sl ql,D.l.val] (#[Operand.tmp 10,Operand.tmp 11].map a.eval):=by
  rw [eargs]
  refine ⟨rfl,fun j hj _=>?_⟩
  have:j=0∨j=1:=by simp at hj;omega
  rcases this with rfl|rfl
  ·exact I9 v1 v2
  ·refine .agg _ _ rfl fun j hj _=>?_
   have:j=0∨j=1:=by simp at hj;omega
   rcases this with rfl|rfl<;>exact .int _ _
 have hcall:=Ren.vC (main:=false) (S:=D.S') (O:=fun _=>False) (w:=w) (c:=(baseD 72).at a [.inRegion dN (7::rest)]) (cs:=[bot]) (f:=74) (J:=[]) (R:=LoneR (tH D.l x.1) 2)
  (by rw [Kc,hg];exact Nat.le_refl 1) vF_ok (fun v w t d h=>h) rfl hargs (fun t ht=>by cases ht) hh (fun b c hb _=>(hρ b c hb).2) (fun c=>⟨fun h=>h.elim,fun ⟨b,hb,hge⟩=>by have:=(hρ b c hb).1;omega⟩)
  (fun T=>(zw x.1 sl ql D.l (wl.af T 0) hr hq (ok.fine x hxm)).mono fun e w' ⟨sv',qv',e1,e2,e3,e4,e5,_⟩=>⟨_,e1,sv',qv',rfl,e2,e3,fun b o n c e hn=>by have:=(e4 b o n c e hn).1;rwa [show (wl.af T 0).heap.size=2 from hz] at this,fun b o n c e hn=>by have:=(e5 b o n c e hn).1;rwa [show (wl.af T 0).heap.size=2 from hz] at this⟩)
 have hkeep:=((hcall.wider (S2:=D.S) fun c h=>h.1).keep (w0:=w) (fun c hc=>⟨hSw c hc,fun h=>h,rfl⟩) (Nat.le_refl _) (fun c h=>h.elim)).beside (b:=b) (fun h=>h) hbw h.ib O (fun c=>⟨fun hc=>.inr ((h.only h7 c).1 hc),fun hc=>hc.elim (fun h=>h.elim) fun e=>e ▸ h.own⟩)
 refine hkeep.bind fun O2 g w' ⟨O1,k1,k2,k3,⟨ρ',v,v',wl',e1,e2,e3,e4,e5,e6⟩,k4,k5,k6⟩=>?_
 obtain ⟨vals,rfl,hgood⟩:=MV hx e2 e3 e4 e5 e6
 have e7:((baseD 72).at a [.inRegion dN (7::rest)]).finish (.agg vals)=(baseD 72).at ⟨wT D b (mW X 12 (.agg vals)),wD D⟩ [.inRegion dN rest]:=by
  rw [Frame.finish_at,ha]
  have ho:(dN[7]?).bind (·.dst)=some 12:=by kernel_rfl
  rw [ho]
  simp only [Act.put]
  simp [wT,mW]
 rw [e7] at e1
 subst e1
 refine hn (_,w',O2) ⟨⟨_,rfl,fun j hj hj7 hl=>?_,fun hl=>?_⟩,fun c hc=>(k4 c hc).trans (h.same c hc),k3,(k1 b).2 (.inr rfl),fun hl=>?_,Nat.le_trans h.low k5⟩
 ·rw [fJ (by omega),if_neg (by omega)] at hl
  have:mW X 12 (.agg vals) (j+5)=X (j+5):=by simp only [mW];rw [if_neg (by omega)]
  rw [this]
  exact hX.1 j hj hj7 hl
 ·exact ⟨vals,O1,by simp [mW],hgood,fun c hc=>⟨(k1 c).2 (.inl hc),fun e=>k2 (e ▸ hc)⟩⟩
 ·rw [fJ (by omega),if_pos rfl] at hl
  cases hl
end
end Go.Proofs.YthhmolonhpaepaaGreatDoor
end
section
namespace Go.Proofs.YthhmolonhpaepaaGreatDoor
open Go.RowKit Drw Go.Conc Go.ConcN Go.Conc.Lib Go.ConcR.Gen Go.ConcN.Gen
open Go.ConcR (KK wgBlock WgAt stA smA rd wr mk Payload Aside2 DC0)
open Ren (dZ nS IR Ph HR VR RR WR AR nz Ey Nf putRow wV)
noncomputable def VD.ph (D:VD) (lo:Nat) (Shun:Loc→Prop) (t0:Trace) (oL:Goroutine→World→Prop):Ph:=
 { P:=Tryz.prog,ty:=101,tT:=32,tI:=3,Wg:=D.Wg,C:=D.C,n:=D.n,lo:=lo,Low:=D.Low,S:=D.S,Shun:=Shun,w0:=D.w0,t0:=t0,Good:=D.Good,oL:=oL }
noncomputable def bot:Frame:={ (default:Frame) with fn:=Tryz.prog.funcs.size,defers:=[],mode:=.panicking [goexitEntry] }
theorem FK (T:Array Value) (k:List Item):QuitsD Tryz.prog 2 0 (G { (baseD 72).at ⟨T,[]⟩ k with mode:=.returning } [bot]):=by
 refine QuitsD.ctl (g':=G bot []) rfl (fun w=>?_) ?_
 ·simp [G,stepG,unwind,doReturn,results,Frame.at,baseD,bot,Tryz.func72,Tryz.f72,seen,GStep.after,goexitEntry]
 refine QuitsD.ctl (g':={ G bot [] with status:=.finished }) rfl (fun w=>?_) ⟨rfl,rfl⟩
 simp [G,stepG,unwind,bot,goexitEntry,Frame.catches]
 rfl
section
variable {D:VD} {i b:Nat} {x:Thx} {listed:Array Bool} {a:Act} {w:World} {O:Nat→Prop} {lo:Nat} {Shun:Loc→Prop} {t0:Trace} {oL:Goroutine→World→Prop}
theorem yS {O1:Nat→Prop} {vals:Array Value} {w1:World} (h:D.Good i O1 vals w) (hO:∀ c,O1 c→w1.heap[c]?=w.heap[c]?):D.Good i O1 vals w1:=by
 obtain ⟨x,sv,qv,h1,h2,h3,h4,h5,h6,h7,h8,h9⟩:=h
 exact ⟨x,sv,qv,h1,h2,iG h3 h5 hO,iG h4 h6 hO,h5,h6,h7,h8,fun c hc=>by obtain ⟨ys,e,z,k1,k2⟩:=h9 c hc;exact ⟨ys,e,z,(hO c hc).trans k1,k2⟩⟩
set_option maxRecDepth 100000 in
set_option maxHeartbeats 2000000 in
theorem LF (T:Array Value) (v:Int) (w2:World) (h1:WgLive 101 D.Wg w2) (h2:Has b 0 (.int .i64 v) w2) :
  Goes Tryz.prog false (RW 101 D.Wg b 1 0 0) (DWs D.Wg Nf Nf b 1 1) (AtR0 Tryz.prog 101 D.Wg b 1 0 1 (.int .i64 v)) 26 (G ((baseD 72).at ⟨T,wD D⟩ [.inRegion dN []]) [bot]) w2:=by
 have hK:=And.intro h1 h2
 clear h1 h2
 unfold wD
 u_c stepG_region_end kn_rely hK
 u_c stepG_end kn_rely hK
 u_in kn_rely hK
 rw [stepG_unwind_enter rfl Tryz.func73 (nm_done Tryz.link) rfl]
 simp only [goes_go]
 refine ⟨by u_nil,?_⟩
 walk_nrmf Tryz.f73
 have hA:=@doneN _ Tryz.link Tryz.prog Tryz.I5 Nf Nf D.Wg b 1 0 1 (.int .i64 v)
 simp only [body_done,doneFn,Option.getD_some] at hA
 exact hA rfl (FK _ _) _ hK
theorem Ae (t:Thg) {sv qv:Value} (h1:∃ p n c,sv=.slice p n c) (h2:∃ p n c,qv=.slice p n c):∀ v∈t.cells sv qv,(∀ c,v≠.agg c)∧∀ c,v≠.tuple c:=by
 obtain ⟨p,n,c,rfl⟩:=h1
 obtain ⟨p',n',c',rfl⟩:=h2
 intro v hv
 simp [Thg.cells] at hv
 rcases hv with rfl|rfl|rfl|rfl|rfl|rfl|rfl|rfl<;>exact ⟨fun c e=>(by cases e),fun c e=>(by cases e)⟩
theorem xG {w1:World} {C off:Nat} {cs vals:Array Value} (h:w1.heap[C]?=some (.cells cs 32)) (hs:off+8≤cs.size) (h8:vals.size=8) (hv:∀ v∈vals.toList,(∀ c,v≠.agg c)∧∀ c,v≠.tuple c) :
  (storeVar 32 ⟨C,off,none⟩ (.agg vals)).run Tryz.prog w1=.ok () (wV w1 C 32 (putRow cs off vals.toList)):=by
 unfold storeVar
 have hl:vals.toList.length=8:=by simpa using h8
 have hk:=Ren.kQ (P:=Tryz.prog) off vals.toList 0 h (by omega) hv (by intro e;rw [e] at hl;simp at hl)
 have hc:(Value.agg vals).cells=vals:=rfl
 rw [Nat.add_zero] at hk
 simp [Tryz.sizeOf32,hc,h8,hk]
set_option maxRecDepth 100000 in
theorem wj_9 (h:WJ D i b x listed (a,w,O)) (hx:D.xs[i]?=some x) (h7:listed.getD 7 false=true) (h8:listed.getD 8 false=true):WPg D ((D.ph lo Shun t0 oL).FinS i) bot [9] (a,w,O):=by
 obtain ⟨X,ha,hX⟩:=h.act
 replace ha:a=⟨wT D b X,wD D⟩:=ha
 have e13:X 13=.pointer (some ⟨D.C,i * 8,none⟩):=hX.1 8 (by decide) (by decide) h8
 obtain ⟨vals,O1,e12,hgood,hO1⟩:=hX.2 h7
 replace hO1:∀ c,O1 c→O c∧c≠b:=hO1
 have q1:a.eval (.tmp 13)=.pointer (some ⟨D.C,i * 8,none⟩):=by rw [ha,← e13];rfl
 have q2:a.eval (.tmp 12)=.agg vals:=by rw [ha,← e12];rfl
 have hi8:i<D.n:=(List.getElem?_eq_some_iff.1 hx).1
 have hbw:b<w.heap.size:=(Array.getElem?_eq_some_iff.1 (show w.heap[b]?=_ from h.ib)).1
 obtain ⟨x',sv,qv,g1,g2,g3,g4,_,_,_,_,g9⟩:=id hgood
 have hs8:vals.size=8:=by rw [g2];rfl
 have hpl:∀ v∈vals.toList,(∀ c,v≠.agg c)∧∀ c,v≠.tuple c:=by
  rw [g2]
  obtain ⟨p,c,e1,_⟩:=g3
  obtain ⟨p',c',e1',_⟩:=g4
  exact Ae _ ⟨p,_,c,e1⟩ ⟨p',_,c',e1'⟩
 refine dZ.stop _ _ _ fun w1 hi=>?_
 have hib:w1.heap[b]?=some (.cells #[.int .i64 i] 3):=(hi.mine b hbw (.inr h.own)).trans h.ib
 have hg1:D.Good i O1 vals w1:=yS hgood fun c hc=>by
  obtain ⟨ys,e,z,k1,_⟩:=g9 c hc
  exact hi.mine c (Array.getElem?_eq_some_iff.1 k1).1 (.inr (hO1 c hc).1)
 refine ⟨rfl,vals,O1,hs8,hg1,b,.int .i64 i,G ((baseD 72).at a [.inRegion dN []]) [bot],h.own,hO1,by simp [Has,World.cell?,hib],?_,26,fun w2 h1 h2=>?_⟩
 ·rintro ⟨cs,hc,hcs⟩
  replace hc:w1.heap[D.C]?=some (.cells cs 32):=hc
  replace hcs:cs.size=8 * D.n:=hcs
  have hC:D.C<w1.heap.size:=(Array.getElem?_eq_some_iff.1 hc).1
  have hlen:vals.toList.length=8:=by simpa using hs8
  have hrun:=xG (off:=i * 8) hc (by omega) hs8 hpl
  have hr:∀ o:Oper,o.op=.store 32 (.tmp 13) (.tmp 12)→(execOp a.eval o).run Tryz.prog w1=.ok .skip (wV w1 D.C 32 (putRow cs (i * 8) vals.toList)):=by
   intro o ho
   unfold execOp
   simp only [ho,q1,q2]
   simp [Instr.storeAt,Instr.sureAddr,hrun]
  obtain ⟨o9,ho9,hop9,hg9,hd9⟩:∃ o9,dN[9]?=some o9∧o9.op=.store 32 (.tmp 13) (.tmp 12)∧o9.guard=none∧o9.dst=none:=⟨_,rfl,rfl,rfl,rfl⟩
  have hst:=stepG_none (main:=false) (b:=baseD 72) (k:=[]) (cs:=[bot]) (rest:=[]) ho9 (show Region.wanted o9 (yielded dN a.tmps)=true by simp [Region.wanted,hg9]) (bk _) (hr o9 hop9)
  rw [hd9] at hst
  refine ⟨_,_,hst,?_,fun e he=>?_⟩
  ·refine ⟨rfl,rfl,rfl,by simp [wV],fun b' hb'=>?_,⟨putRow cs (i * 8) vals.toList,?_,by rw [Ren.qG];exact hcs⟩,⟨hs8,fun j hj=>?_⟩,fun o ho=>?_⟩
   ·rw [Ren.gH _ _ _ _ _ hC,if_neg (fun e:D.C=b'=>hb' e.symm)]
   ·rw [Ren.gH _ _ _ _ _ hC];exact if_pos rfl
   ·have e1:(wV w1 D.C 32 (putRow cs (i * 8) vals.toList)).heap[D.C]?=some (.cells (putRow cs (i * 8) vals.toList) 32 (0,0)):=by rw [Ren.gH _ _ _ _ _ hC];exact if_pos rfl
    have e2:=Ren.xS vals.toList cs (i * 8) j (by omega) (by omega)
    show World.cell? _ ⟨D.C,8 * i+j,none⟩=_
    rw [Nat.mul_comm 8 i]
    simp [World.cell?,e1,e2]
   ·have e1:(wV w1 D.C 32 (putRow cs (i * 8) vals.toList)).heap[D.C]?=some (.cells (putRow cs (i * 8) vals.toList) 32 (0,0)):=by rw [Ren.gH _ _ _ _ _ hC];exact if_pos rfl
    have e2:=Ren.uj vals.toList cs (i * 8) o (by omega)
    show World.cell? _ ⟨D.C,o,none⟩=World.cell? _ ⟨D.C,o,none⟩
    simp [World.cell?,e1,e2,hc]
  ·obtain ⟨j,hj,rfl⟩:=Ren.Km hop9 q1 rfl ⟨_,_,_,hc⟩ e he
   refine ⟨j,?_,?_⟩
   ·rw [q2] at hj
    have:(Value.agg vals).cells.size=8:=hs8
    omega
   ·show (⟨.cell ⟨D.C,i * 8+j,none⟩,true,false⟩:Event)=⟨.cell ⟨D.C,8 * i+j,none⟩,true,false⟩
    rw [Nat.mul_comm 8 i]
 ·have:=LF (D:=D) (wT D b X) i w2 h1 h2
  rw [ha]
  exact this
def call72 (D:VD) (b:Nat):Deferred:={ target:=.fn (.func 72) #[.pointer (some ⟨D.Wg,0,none⟩),.pointer (some ⟨D.bt,0,none⟩),.pointer (some ⟨b,0,none⟩),.pointer (some ⟨D.bl,0,none⟩),.pointer (some ⟨D.bv,0,none⟩)],args:=#[] }
noncomputable def Il:Code:=Tryz.f72.body.getD .skip
theorem Ih (D:VD) (b:Nat) (w:World):stepG Tryz.prog false (born Tryz.prog (call72 D b)) w =
  .go (G ((baseD 72).at ⟨wT D b (fun _=>undef),[]⟩ [.code Il]) [bot]) w #[]:=by
 simp [born,call72,stepG,unwind,callDeferred,invoke,callFunc,Tryz.func72,Tryz.f72,seen,GStep.after,G,Frame.enter,Frame.at,baseD,bot,Il,wT]
theorem eP {md:Region.Mode} {k:Nat} (h:k∈Region.ready md dN listed) (j d:Nat) (hj:((dN[k]?).bind fun o=>(o.after[j]?).map (·.on))=some d):listed.getD d false=true:=by
 obtain ⟨o,ho,he⟩:=Option.bind_eq_some_iff.1 hj
 obtain ⟨e,he1,he2⟩:=Option.map_eq_some_iff.1 he
 have:=dep72 h ho e (Array.mem_of_getElem? he1)
 rwa [he2] at this
theorem Np:(List.range 10).all (fun i=>((dN[i]?).map (·.after.all fun e=>decide (e.on<i))).getD false)=true:=by kernel_rfl
theorem back72:∀ (i:Nat) (o:Oper),dN[i]?=some o→∀ e∈o.after,e.on<i:=by
 intro i o ho e he
 have hi:i<10:=by have:=(Array.getElem?_eq_some_iff.1 ho).1;rwa [eY] at this
 have h3:=List.all_eq_true.1 Np i (by simpa using hi)
 rw [ho] at h3
 simp only [Option.map_some,Option.getD_some,Array.all_eq_true_iff_forall_mem,decide_eq_true_eq] at h3
 exact h3 e he
theorem last72 {md:Region.Mode} (hs:listed.size=10) (h:9∈Region.ready md dN listed):Region.ready md dN (listed.setIfInBounds 9 true)=[]:=by
 have key:∀ m,m<9→listed.getD m false=true:=by
  intro m hm
  have hc:m=0∨m=1∨m=2∨m=3∨m=4∨m=5∨m=6∨m=7∨m=8:=by omega
  rcases hc with rfl|rfl|rfl|rfl|rfl|rfl|rfl|rfl|rfl
  ·exact eP h 3 0 (by kernel_rfl)
  ·exact eP h 4 1 (by kernel_rfl)
  ·exact eP h 5 2 (by kernel_rfl)
  ·exact eP h 6 3 (by kernel_rfl)
  ·exact eP h 7 4 (by kernel_rfl)
  ·exact eP h 8 5 (by kernel_rfl)
  ·exact eP h 9 6 (by kernel_rfl)
  ·exact eP h 10 7 (by kernel_rfl)
  ·exact eP h 0 8 (by kernel_rfl)
 refine List.eq_nil_iff_forall_not_mem.2 fun m hm=>?_
 obtain ⟨h1,h2⟩:=Ren.jZ hm
 rw [eY] at h1
 have h3:(listed.setIfInBounds 9 true).getD m false=true:=by
  rw [fJ (by omega)]
  by_cases e:9=m
  ·simp [e]
  ·rw [if_neg e];exact key m (by omega)
 simp only [Array.getD_eq_getD_getElem?] at h2 h3
 rw [Array.getElem?_eq_getElem (by simp;omega)] at h2 h3
 simp only [Option.getD_some] at h2 h3
 rw [h2] at h3
 cases h3
theorem LA (ok:D.Ok) (hx:D.xs[i]?=some x) (hbS:¬ D.S b) (md:Region.Mode) (listed:Array Bool) (s:WSt) (k:Nat) (rest:List Nat) (hs:listed.size=dN.size) (h:WJ D i b x listed s) (hr:k∈Region.ready md dN listed)
  (hlast:Region.ready md dN (listed.setIfInBounds k true)=[]→rest=[]) (hn:k≠9→∀ s',WJ D i b x (listed.setIfInBounds k true) s'→WPg D ((D.ph lo Shun t0 oL).FinS i) bot rest s'):WPg D ((D.ph lo Shun t0 oL).FinS i) bot (k::rest) s:=by
 obtain ⟨a,w,O⟩:=s
 have hk:=(Ren.jZ hr).1
 have hs':listed.size=10:=by rw [hs,eY]
 have hk10:k<10:=by rwa [eY] at hk
 have h7:k=7→listed.getD 7 false=false:=fun e=>by
  have:=(Ren.jZ hr).2
  subst e
  simp only [Array.getD_eq_getD_getElem?] at this ⊢
  rw [Array.getElem?_eq_getElem (by omega)] at this ⊢
  exact this
 have hc:k=0∨k=1∨k=2∨k=3∨k=4∨k=5∨k=6∨k=7∨k=8∨k=9:=by omega
 rcases hc with rfl|rfl|rfl|rfl|rfl|rfl|rfl|rfl|rfl|rfl
 ·exact wj_0 ok hs' h (hn (by decide))
 ·exact wj_13 ok hs' h (.inl rfl) (hn (by decide))
 ·exact wj_2 ok hs' h (hn (by decide))
 ·exact wj_13 ok hs' h (.inr rfl) (hn (by decide))
 ·exact wj_4 ok hx hs' h (eP hr 0 2 (by kernel_rfl)) (eP hr 1 3 (by kernel_rfl)) (hn (by decide))
 ·exact wj_5 ok hs' h (eP hr 0 4 (by kernel_rfl)) (hn (by decide))
 ·exact wj_6 ok hs' h (hn (by decide))
 ·exact wj_7 ok hx hs' h (eP hr 0 5 (by kernel_rfl)) (eP hr 1 6 (by kernel_rfl)) (h7 rfl) hbS (hn (by decide))
 ·exact wj_8 hx hs' h (eP hr 0 0 (by kernel_rfl)) (eP hr 1 1 (by kernel_rfl)) (hn (by decide))
 ·have e:rest=[]:=hlast (last72 hs' hr)
  subst e
  exact wj_9 h hx (eP hr 1 7 (by kernel_rfl)) (eP hr 0 8 (by kernel_rfl))
noncomputable def opsD:Array Oper:=match Tryz.f72.body with
 | some (.seq (.region _ ops _) _)=>ops
 | _=>#[]
theorem Ik:Il=.seq (.region 0 opsD false) (.region 1 dN true):=rfl
set_option maxRecDepth 100000 in
theorem wZ (ok:D.Ok) (hi:i<D.n):(D.ph lo Shun t0 oL).Start i b (born Tryz.prog (call72 D b)):=by
 refine ⟨rfl,fun w hS hb hbL hLs ht=>Ren.dZ.rank ?_⟩
 replace hbL:D.Low≤b:=hbL
 replace hS:∀ c,D.S c→w.heap[c]?=D.w0.heap[c]?:=hS
 replace hb:w.heap[b]?=some (.cells #[.int .i64 i] 3):=hb
 replace hLs:D.Low≤w.heap.size:=hLs
 obtain ⟨x,hx⟩:∃ x,D.xs[i]?=some x:=⟨_,List.getElem?_eq_getElem hi⟩
 refine dZ.ctl rfl (Ih D b) ?_
 rw [Ik]
 refine dZ.ctl rfl (fun w1=>stepG_seq) ?_
 refine dZ.ctl rfl (fun w1=>stepG_region) ?_
 obtain ⟨o,ho,hop,hg,hd⟩:∃ o,opsD[0]?=some o∧o.op=.defer { callee:=.value (.func 73),args:=#[.tmp 0],argTypes:=#[101] }∧o.guard=none∧o.dst=none:=⟨_,rfl,rfl,rfl,rfl⟩
 have hr:List.range opsD.size=[0]:=by kernel_rfl
 rw [hr]
 have hdef:∀ w1,stepG Tryz.prog false (G ((baseD 72).at ⟨wT D b (fun _=>undef),[]⟩ (.inRegion opsD [0]::[.code (.region 1 dN true)])) [bot]) w1=.go (G ((baseD 72).at ⟨wT D b (fun _=>undef),wD D⟩ (.inRegion opsD []::[.code (.region 1 dN true)])) [bot]) w1 #[]:=fun w1=>by
  rw [stepG_defer ho (by simp [Region.wanted,hg]) (bk _) hop,hd]
  simp [wD,wT,Act.eval,Act.put]
 refine dZ.ctl rfl hdef ?_
 refine dZ.ctl rfl (fun w1=>stepG_region_end) ?_
 refine dZ.draw fun t=>?_
 have hJ:WJ D i b x (Array.replicate dN.size false) (⟨wT D b (fun _=>undef),wD D⟩,w,fun c=>c=b):=by
  have hf:∀ k,(Array.replicate dN.size false).getD k false=false:=fun k=>by
   simp only [Array.getD_eq_getD_getElem?,Array.getElem?_replicate]
   split<;>rfl
  exact ⟨⟨fun _=>undef,rfl,fun k _ _ hl=>(by rw [hf] at hl;cases hl),fun hl=>(by rw [hf] at hl;cases hl)⟩,hS,hb,rfl,fun _ c=>Iff.rfl,hLs⟩
 have h9:(Array.replicate dN.size false).getD 9 false=false:=by
  simp only [Array.getD_eq_getD_getElem?,Array.getElem?_replicate]
  split<;>rfl
 refine Ren.lU (ops:=dN) (J:=fun listed s=>WJ D i b x listed s∧listed.getD 9 false=false) (Pg:=WPg D ((D.ph lo Shun t0 oL).FinS i) bot) (Tryz.prog.follows .mixedOrders)
  (fun md listed s k rest hs h hr hlast hn=>LA ok hx (fun h=>by have:=ok.low b h;omega) md listed s k rest hs h.1 hr hlast fun hk s' hs'=>hn s' ⟨hs',?_⟩)
  (fun md listed s hs h hr=>?_) t (s:=(⟨wT D b (fun _=>undef),wD D⟩,w,fun c=>c=b)) ⟨hJ,h9⟩
 ·rw [fJ (by rw [hs,eY];decide),if_neg hk];exact h.2
 ·have:=j3 hs back72 hr 10 9 (by decide) (by rw [eY];decide)
  rw [h.2] at this;cases this
end
end Go.Proofs.YthhmolonhpaepaaGreatDoor
end
section
namespace Go.Proofs.YthhmolonhpaepaaGreatDoor
open Go.RowKit Drw Go.Conc Go.ConcN Go.Conc.Lib Go.ConcR.Gen Go.ConcN.Gen
open Go.ConcR (KK wgBlock WgAt stA smA rd wr mk Payload Aside2 DC0)
open Ren (Alone Ph RWg)
theorem wO (T:Array Value) (h:T.size=31):∃ v0 v1 v2 v3 v4 v5 v6 v7 v8 v9 v10 v11 v12 v13 v14 v15 v16 v17 v18 v19 v20 v21 v22 v23 v24 v25 v26 v27 v28 v29 v30,T=#[v0,v1,v2,v3,v4,v5,v6,v7,v8,v9,v10,v11,v12,v13,v14,v15,v16,v17,v18,v19,v20,v21,v22,v23,v24,v25,v26,v27,v28,v29,v30]:=by
 obtain ⟨l⟩:=T
 replace h:l.length=31:=h
 match l,h with
 | [v0,v1,v2,v3,v4,v5,v6,v7,v8,v9,v10,v11,v12,v13,v14,v15,v16,v17,v18,v19,v20,v21,v22,v23,v24,v25,v26,v27,v28,v29,v30],_=>exact ⟨_,_,_,_,_,_,_,_,_,_,_,_,_,_,_,_,_,_,_,_,_,_,_,_,_,_,_,_,_,_,_,rfl⟩
noncomputable def ic:Code:=Tryz.f40.body.getD .skip
noncomputable def FJ:Code:=match ic with|.seq _ (.seq _ (.seq _ r))=>r|_=>.skip
noncomputable def Kz:Code:=match ic with|.seq _ (.seq _ (.seq _ (.seq _ (.seq _ (.seq (.seq _ (.block _ (.loop c))) _)))))=>c|_=>.skip
noncomputable def ui:Code:=match ic with|.seq _ (.seq _ (.seq _ (.seq _ (.seq _ (.seq _ r)))))=>r|_=>.skip
abbrev b40:Frame:=Go.Conc.base 40
structure VAt where
 bt:Nat
 bl:Nat
 bv:Nat
 Wg:Nat
 n:Nat
def uQ (V:VAt) (cs:List Frame) (j:Nat) (g:Goroutine):Prop:=
 ∃ T:Array Value,g=G (b40.at ⟨T,[]⟩ (.code Kz::.inLoop Kz::.inBlock 0::[.code ui])) cs∧T.size=31∧T[2]?=some (.pointer (some ⟨V.bt,0,none⟩))∧T[3]?=some (.pointer (some ⟨V.bl,0,none⟩))∧T[5]?=some (.pointer (some ⟨V.bv,0,none⟩))∧T[6]?=some (.pointer (some ⟨V.Wg,0,none⟩))∧T[23]?=some (.int .i64 V.n)∧T[24]?=some (.int .i64 j)
section
variable {V:VAt} {cs:List Frame} {w:World} {Shun:Loc→Prop}
theorem Ei:b40.kind≠.early:=by simp [b40,Go.Conc.base]
theorem wI {w:World} {b:Nat} {v:Value} {e:TypeId} (h:w.heap[b]?=some (.cells #[v] e)) (k:Nat):(w.at k).cell? ⟨b,0,none⟩=some v:=by
 have:(w.at k).heap=w.heap:=rfl
 simp [World.cell?,this,h]
def iA:Obj:=.cells #[.int .u64 0,.int .u32 0] 101
set_option maxRecDepth 100000 in
set_option maxHeartbeats 8000000 in
theorem LD {T:Array Value} (hT:T.size=31) (h2:T[2]?=some (.pointer (some ⟨V.bt,0,none⟩))) (h3:T[3]?=some (.pointer (some ⟨V.bl,0,none⟩))) (h5:T[5]?=some (.pointer (some ⟨V.bv,0,none⟩)))
  (hWg:V.Wg=w.heap.size) {p:Option Addr} {cap:Nat} (hbt:w.heap[V.bt]?=some (.cells #[.slice p V.n cap] 23)) (hS:∀ b:Addr,b.block=V.bt→¬ Shun (.cell b)) (hn:V.n<2147483648) :
  Alone Tryz.prog Shun (fun d g w'=>d=0∧uQ V cs 0 g∧∃ k,w'=((w.alloc iA).setCell (stA V.Wg) (.int .u64 (V.n * KK))).at k) 0 (G (b40.at ⟨T,[]⟩ [.code FJ]) cs) w:=by
 obtain ⟨v0,v1,v2,v3,v4,v5,v6,v7,v8,v9,v10,v11,v12,v13,v14,v15,v16,v17,v18,v19,v20,v21,v22,v23,v24,v25,v26,v27,v28,v29,v30,rfl⟩:=wO T hT
 simp only [List.getElem?_toArray,List.getElem?_cons_zero,List.getElem?_cons_succ,Option.some.injEq] at h2 h3 h5
 subst h2 h3 h5
 have hblt:V.bt<w.heap.size:=(Array.getElem?_eq_some_iff.1 hbt).1
 unfold FJ ic
 simp only [Tryz.f40,Option.getD_some]
 refine Alone.ctl rfl (fun _=>stepG_seq) ?_
 refine Alone.ctl rfl (fun _=>stepG_region) ?_
 simp only [List.size_toArray,List.length_cons,List.length_nil,Nat.reduceAdd,Nat.zero_add,List.range,List.range.loop]
 have hal:(w.alloc iA).heap.size=w.heap.size+1:=by show (w.heap.push _).size=_;simp
 have hbt':(w.alloc iA).heap[V.bt]?=some (.cells #[.slice p V.n cap] 23):=by
  show (w.heap.push _)[V.bt]?=_
  rw [Array.getElem?_push,if_neg (by omega)]
  exact hbt
 have hwg:WgAt 101 V.Wg (w.alloc iA) 0 0:=by
  show (w.heap.push _)[V.Wg]?=_
  rw [hWg,Array.getElem?_push,if_pos rfl]
  rfl
 refine Alone.value (w':=w.alloc iA) (v:=.pointer (some ⟨w.heap.size,0,none⟩)) rfl rfl Ei (fun k=>?_) (by rw [hal];omega) (fun k e he=>?_) ?_
 ·unfold execOp
  simp [go_sem]
  exact ⟨rfl,rfl⟩
 ·have hm:=mem_listed he
  unfold execOp at hm
  simp [go_sem] at hm
 walk_nrm
 rw [← hWg]
 refine Alone.ctl rfl (fun _=>stepG_region_end) ?_
 refine Alone.ctl rfl (fun _=>stepG_seq) ?_
 refine Alone.ctl rfl (fun _=>stepG_region) ?_
 simp only [List.size_toArray,List.length_cons,List.length_nil,Nat.reduceAdd,Nat.zero_add,List.range,List.range.loop]
 refine Alone.load (v:=.slice p V.n cap) (ad:=⟨V.bt,0,none⟩) rfl rfl Ei rfl rfl ⟨_,_,_,hbt'⟩ hS (fun k=>lq Tryz.isAgg23 (wI hbt' k)) ?_
 walk_nrm
 refine Alone.quiet (v:=.int .i64 V.n) rfl rfl Ei (fun w1=>?_) (fun w1=>?_) ?_
 ·unfold execOp
  simp [go_sem]
 ·unfold execOp
  simp [go_sem]
 walk_nrm
 refine Alone.ctl rfl (fun w1=>wK rfl rfl Ei rfl Tryz.func71 (nm_add Tryz.link) rfl) ?_
 simp only [List.map_toArray,List.map_cons,List.map_nil]
 refine Alone.bind (Ren.KL (L:=Tryz.link) Tryz.I5 hn hwg (by rw [hal,hWg];omega) (End:=fun d g w'=>d=0∧g=_∧∃ k,w'=((w.alloc iA).setCell (stA V.Wg) (.int .u64 (V.n * KK))).at k) (fun k=>⟨rfl,rfl,k,rfl⟩)) ?_
 rintro d g w1 ⟨rfl,rfl,k,rfl⟩
 rw [Frame.finish_at]
 simp only [List.getElem?_toArray,List.getElem?_cons_zero,List.getElem?_cons_succ,Option.bind_some]
 walk_nrm
 refine Alone.ctl rfl (fun _=>stepG_region_end) ?_
 refine Alone.ctl rfl (fun _=>stepG_seq) ?_
 refine Alone.ctl rfl (fun _=>stepG_seq) ?_
 refine Alone.ctl rfl (fun _=>stepG_region) ?_
 simp only [List.size_toArray,List.length_cons,List.length_nil,Nat.reduceAdd,Nat.zero_add,List.range,List.range.loop]
 have hb2:(((w.alloc iA).setCell (stA V.Wg) (.int .u64 (V.n * KK))).at k).heap[V.bt]?=some (.cells #[.slice p V.n cap] 23):=by
  show ((w.alloc iA).setCell (stA V.Wg) (.int .u64 (V.n * KK))).heap[V.bt]?=_
  rw [Ren.heap_setCell,if_neg (show ¬ (stA V.Wg).block=V.bt from fun e=>by have e:V.Wg=V.bt:=e;omega)]
  exact hbt'
 refine Alone.load (v:=.slice p V.n cap) (ad:=⟨V.bt,0,none⟩) rfl rfl Ei rfl rfl ⟨_,_,_,hb2⟩ hS (fun k'=>lq Tryz.isAgg23 (wI hb2 k')) ?_
 walk_nrm
 refine Alone.quiet (v:=.int .i64 V.n) rfl rfl Ei (fun w1=>?_) (fun w1=>?_) ?_
 ·unfold execOp
  simp [go_sem]
 ·unfold execOp
  simp [go_sem]
 walk_nrm
 refine Alone.quiet (v:=.int .i64 0) rfl rfl Ei (fun w1=>?_) (fun w1=>?_) ?_
 ·unfold execOp
  simp [go_sem]
 ·unfold execOp
  simp [go_sem]
 walk_nrm
 refine Alone.ctl rfl (fun _=>stepG_region_end) ?_
 refine Alone.ctl rfl (fun _=>stepG_block) ?_
 refine Alone.ctl rfl (fun _=>stepG_loop) ?_
 exact .stop _ _ _ fun m=>⟨rfl,⟨_,rfl,rfl,rfl,rfl,rfl,rfl,rfl,rfl⟩,m,rfl⟩
end
end Go.Proofs.YthhmolonhpaepaaGreatDoor
end
section
namespace Go.Proofs.YthhmolonhpaepaaGreatDoor
open Go.RowKit Drw Go.Conc Go.ConcN Go.Conc.Lib Go.ConcR.Gen Go.ConcN.Gen
open Go.ConcR (KK wgBlock WgAt stA smA rd wr mk Payload Aside2 DC0)
open Ren (Alone Ph RWg AnchW gQ)
def VD.vat (D:VD):VAt:=⟨D.bt,D.bl,D.bv,D.Wg,D.n⟩
theorem dn {Wg:Nat} {w w1:World} (h:WgLive 101 Wg w) (r:RWg 101 Wg w w1):WgLive 101 Wg w1:=r h
theorem yT {P:Program} {R:World→World→Prop} {Dd:World→World→Array Event→Prop} {S T:Goroutine→World→Prop} (hrefl:∀ w,R w w) {M:Nat} (h:∀ g w,S g w→Goes P true R Dd T M g w):∀ {n:Nat} {g:Goroutine} {w:World},Goes P true R Dd S n g w→Goes P true R Dd T (n+M) g w:=by
 have key:∀ {g:Goroutine} {w:World},(∀ w1,R w w1→S g w1)→Goes P true R Dd T M g w:=fun {g w} k=>h g w (k w (hrefl w))
 intro n
 induction n with
 | zero=>intro g w k;exact (key k).mono (by omega)
 | succ n ih=>
  intro g w k
  rcases k with k|⟨hs,k⟩
  ·exact (key k).mono (by omega)
  ·rw [show n+1+M=(n+M)+1 by omega]
   refine .inr ⟨hs,fun w1 h1=>?_⟩
   obtain ⟨g',w',es,e1,e2,e3⟩:=goes_elim (k w1 h1)
   rw [e1]
   exact ⟨e2,ih e3⟩
theorem I8 {P:Program} {main:Bool} {b:Frame} {a:Act} {k:List Item} {cs:List Frame} {w:World} {ops:Array Oper} {i:Nat} {rest:List Nat} {o:Oper} {v:Value} {w':World} (ho:ops[i]?=some o) (hw:Region.wanted o (yielded ops a.tmps)=true)
  (hk:b.kind≠.early) (hr:(execOp a.eval o).run P w=.ok (.value v) w') (he:(execOp a.eval o).events P w #[]=#[]):stepG P main (G (b.at a (.inRegion ops (i::rest)::k)) cs) w=.go (G (b.at (a.put o.dst v) (.inRegion ops rest::k)) cs) w' #[]:=by
 rw [stepG_value ho hw hk hr]
 have:listed P b.fn a o w=#[]:=by unfold listed;rw [he];exact seen_none P _
 rw [this]
theorem xw {main:Bool} {b:Frame} {a:Act} {kk:List Item} {cs:List Frame} {w:World} {ops:Array Oper} {i:Nat} {rest:List Nat} {o:Oper} {x y:Operand} (ho:ops[i]?=some o) (hw:Region.wanted o (yielded ops a.tmps)=true) (hk:b.kind≠.early) (hop:o.op=.store 3 x y)
  {ad:Addr} {v:Int} {u:Value} (hx:a.eval x=.pointer (some ad)) (hy:a.eval y=.int .i64 v) (hc:w.cell? ad=some u) (hz:w.frozen? ad=false) (hq:(Tryz.prog.funcs[b.fn]?).any (·.norace)=false) :
  stepG Tryz.prog main (G (b.at a (.inRegion ops (i::rest)::kk)) cs) w=.go (G (b.at (a.put o.dst undef) (.inRegion ops rest::kk)) cs) (w.setCell ad (.int .i64 v)) #[⟨.cell ad,true,false⟩]:=by
 have hr:(execOp a.eval o).run Tryz.prog w=.ok .skip (w.setCell ad (.int .i64 v)):=by
  unfold execOp
  simp only [hop,hx,hy]
  simp [go_sem,stored,hc,hz]
 have he:(execOp a.eval o).events Tryz.prog w #[]=#[⟨.cell ad,true,false⟩]:=by
  unfold execOp
  simp only [hop,hx,hy]
  simp [go_sem,storedEv,hc,hz]
 rw [stepG_none ho hw hk hr]
 unfold listed
 rw [he,seen_eq hq (by simp)]
theorem loud40:(Tryz.prog.funcs[b40.fn]?).any (·.norace)=false:=by kernel_rfl
theorem Jf {P:Program} {main:Bool} {b:Frame} {a:Act} {k:List Item} {cs:List Frame} {w:World} {ops:Array Oper} {i:Nat} {rest:List Nat} {o:Oper} {dd:Deferred} {f:Fn} {c:Array Value} (ho:ops[i]?=some o) (hw:Region.wanted o (yielded ops a.tmps)=true)
  (hk:b.kind≠.early) (hr:(execOp a.eval o).run P w=.ok (.spawn dd) w) (hd:dd.target=.fn f c) (he:(execOp a.eval o).events P w #[]=#[]):stepG P main (G (b.at a (.inRegion ops (i::rest)::k)) cs) w=.spawn (G (b.at (a.put o.dst undef) (.inRegion ops rest::k)) cs) (born P dd) w #[]:=by
 rw [stepG_spawn ho hw hk hr hd]
 have:listed P b.fn a o w=#[]:=by unfold listed;rw [he];exact seen_none P _
 rw [this]
section
variable {D:VD} {cs:List Frame} {lo:Nat} {Shun:Loc→Prop} {t0:Trace} {oL:Goroutine→World→Prop} {Anch:Goroutine→World→Prop}
set_option maxRecDepth 100000 in
set_option maxHeartbeats 8000000 in
theorem DN {j:Nat} (hj:j<D.n) {Next:Goroutine→World→Prop} (ok:D.Ok)
  (hN:∀ (T:Array Value) (g:Goroutine) (w:World),WgLive 101 D.Wg w→(Goes Tryz.prog true (RWg 101 D.Wg) DC0 (fun g w=>uQ D.vat cs (j+1) g∧WgLive 101 D.Wg w) 20 g w)→Next g w) {g:Goroutine} {w:World} (hg:uQ D.vat cs j g) (hF:WgLive 101 D.Wg w) :
  Goes Tryz.prog true (RWg 101 D.Wg) DC0 ((D.ph lo Shun t0 oL).NN j Next) 20 g w:=by
 obtain ⟨T,rfl,hT,h2,h3,h5,h6,h23,h24⟩:=hg
 obtain ⟨v0,v1,v2,v3,v4,v5,v6,v7,v8,v9,v10,v11,v12,v13,v14,v15,v16,v17,v18,v19,v20,v21,v22,v23,v24,v25,v26,v27,v28,v29,v30,rfl⟩:=wO T hT
 simp only [List.getElem?_toArray,List.getElem?_cons_zero,List.getElem?_cons_succ,Option.some.injEq] at h2 h3 h5 h6 h23 h24
 subst h2 h3 h5 h6 h23 h24
 have hq:decide ((j:Int)<(D.n:Int))=true:=decide_eq_true (by omega)
 have hq2:(j:Int)<(D.n:Int):=by omega
 have hw1:IntKind.i64.wrap ((j:Int)+1)=((j+1:Nat):Int):=by have:=ok.n16;rw [IntWalk.i64_in _ (by omega)];omega
 simp only [VD.vat]
 unfold Kz ui ic
 simp only [Tryz.f40,Option.getD_some]
 u_c stepG_seq dn hF
 u_reg dn hF
 u_op dn hF
 u_c stepG_region_end dn hF
 u_c stepG_seq dn hF
 u_cond true dn hF
 u_c stepG_skip dn hF
 u_c stepG_seq dn hF
 u_c stepG_block dn hF
 u_c stepG_seq dn hF
 u_reg dn hF
 u_op dn hF
 refine Goes.stop (fun w₁ h₁=>?_)
 replace hF:=dn hF h₁
 clear h₁
 refine ⟨rfl,_,I8 (P:=Tryz.prog) (v:=.pointer (some ⟨w₁.heap.size,0,none⟩)) (w':={ w₁ with heap:=w₁.heap.push (.cells #[.int .i64 0] 3) }) rfl rfl Ei ?_ ?_,1,?_⟩
 ·unfold execOp
  simp [go_sem]
 ·unfold execOp
  simp [go_sem]
 walk_nrm
 have hb:w₁.heap.size≠D.Wg:=by
  obtain ⟨st,sm,h⟩:=hF
  have:=(Array.getElem?_eq_some_iff.1 (show w₁.heap[D.Wg]?=_ from h)).1
  omega
 replace hF:WgLive 101 D.Wg { w₁ with heap:=w₁.heap.push (.cells #[.int .i64 0] 3) }:=by
  obtain ⟨st,sm,h⟩:=hF
  refine ⟨st,sm,?_⟩
  show (w₁.heap.push _)[D.Wg]?=_
  have:=(Array.getElem?_eq_some_iff.1 (show w₁.heap[D.Wg]?=_ from h)).1
  rw [Array.getElem?_push,if_neg (by omega)]
  exact h
 show Goes Tryz.prog true (RWg 101 D.Wg) DC0 ((D.ph lo Shun t0 oL).NM j w₁.heap.size Next) 1 _ { w₁ with heap:=w₁.heap.push (.cells #[.int .i64 0] 3) }
 generalize w₁.heap.size=b at hb ⊢
 generalize { w₁ with heap:=w₁.heap.push (.cells #[.int .i64 0] 3) }=w2 at hF ⊢
 refine Goes.stop (fun w₃ h₁=>?_)
 replace hF:=dn hF h₁
 clear h₁
 refine ⟨rfl,fun hc=>?_⟩
 replace hc:w₃.heap[b]?=some (.cells #[.int .i64 0] 3):=hc
 have hc0:w₃.cell? ⟨b,0,none⟩=some (.int .i64 0):=by simp [World.cell?,hc]
 have hf0:w₃.frozen? ⟨b,0,none⟩=false:=by simp [World.frozen?,hc]
 refine ⟨_,xw rfl rfl Ei rfl rfl rfl hc0 hf0 loud40,12,?_⟩
 show Goes Tryz.prog true (RWg 101 D.Wg) DC0 ((D.ph lo Shun t0 oL).AtGo j b Next) 12 _ (w₃.setCell ⟨b,0,none⟩ (.int .i64 j))
 walk_nrm
 replace hF:WgLive 101 D.Wg (w₃.setCell ⟨b,0,none⟩ (.int .i64 j)):=by
  obtain ⟨st,sm,h⟩:=hF
  refine ⟨st,sm,?_⟩
  show (w₃.setCell _ _).heap[D.Wg]?=_
  rw [Ren.heap_setCell,if_neg (show ¬ b=D.Wg from hb)]
  exact h
 generalize w₃.setCell ⟨b,0,none⟩ (.int .i64 j)=w4 at hF ⊢
 u_c stepG_region_end dn hF
 u_reg dn hF
 u_op dn hF
 refine Goes.stop (fun w₅ h₁=>?_)
 replace hF:=dn hF h₁
 clear h₁
 refine ⟨rfl,_,_,Jf (P:=Tryz.prog) (dd:=call72 D b) rfl rfl Ei ?_ rfl ?_,wZ ok hj,hN #[] _ _ hF ?_⟩
 ·unfold execOp
  simp [go_sem,call72]
 ·unfold execOp
  simp [go_sem]
 walk_nrm
 u_c stepG_region_end dn hF
 u_c stepG_inBlock dn hF
 u_reg dn hF
 u_op dn hF
 u_op dn hF
 u_c stepG_region_end dn hF
 u_c stepG_inLoop dn hF
 exact Goes.stop (fun w₆ h₁=>⟨⟨_,rfl,rfl,rfl,rfl,rfl,rfl,rfl,by simp⟩,dn hF h₁⟩)
noncomputable def ops11:Array Oper:=match ui with|.seq (.region _ ops _) _=>ops|_=>#[]
noncomputable def K5:Code:=match ui with|.seq _ r=>r|_=>.skip
def Cok (D:VD) (c:Frame):Prop:=∃ T:Array Value,c=b40.at ⟨T,[]⟩ (.inRegion ops11 [0]::[.code K5])∧T.size=31∧T[5]?=some (.pointer (some ⟨D.bv,0,none⟩))
def uS (D:VD) (cs:List Frame) (g:Goroutine) (w:World):Prop:=∃ c,Cok D c∧AnchW Tryz.link D.Wg c cs g w
set_option maxRecDepth 100000 in
set_option maxHeartbeats 8000000 in
theorem Gs {g:Goroutine} {w:World} (hg:uQ D.vat cs D.n g) (hF:WgLive 101 D.Wg w) :
  Goes Tryz.prog true (RWg 101 D.Wg) DC0 ((D.ph lo Shun t0 oL).AtKd (uS D cs)) 60 g w:=by
 obtain ⟨T,rfl,hT,h2,h3,h5,h6,h23,h24⟩:=hg
 obtain ⟨v0,v1,v2,v3,v4,v5,v6,v7,v8,v9,v10,v11,v12,v13,v14,v15,v16,v17,v18,v19,v20,v21,v22,v23,v24,v25,v26,v27,v28,v29,v30,rfl⟩:=wO T hT
 simp only [List.getElem?_toArray,List.getElem?_cons_zero,List.getElem?_cons_succ,Option.some.injEq] at h2 h3 h5 h6 h23 h24
 subst h2 h3 h5 h6 h23 h24
 have hq:decide ((D.n:Int)<(D.n:Int))=false:=decide_eq_false (by omega)
 have hq2:¬ (D.n:Int)<(D.n:Int):=by omega
 simp only [VD.vat]
 unfold Kz ui ic
 simp only [Tryz.f40,Option.getD_some]
 u_c stepG_seq dn hF
 u_reg dn hF
 u_op dn hF
 u_c stepG_region_end dn hF
 u_c stepG_seq dn hF
 u_cond false dn hF
 u_exit dn hF
 u_c stepG_seq dn hF
 u_reg dn hF
 u_in dn hF
 refine goes_call rfl rfl Ei rfl Tryz.func75 (nm_wait Tryz.link) rfl ⟨by u_nil,?_⟩
 simp only [List.map_toArray,List.map_cons,List.map_nil]
 have hw:=fun (c:Frame) w (hF:WgLive 101 D.Wg w)=>Ren.Cr (L:=Tryz.link) (c:=c) (cs:=cs) Tryz.I5 (D.ph lo Shun t0 oL) rfl rfl w hF
 simp only [enter_at _ Tryz.func75 (rfl:Tryz.f75.body=some _)] at hw
 refine (Ren.gq (fun g w h=>Ren.IX (fun g w h=>⟨_,⟨_,rfl,rfl,rfl⟩,h⟩) h) (hw _ _ hF)).mono (by omega)
theorem spawns (ok:D.Ok):∀ r,r≤D.n→∀ (m:Nat) (g:Goroutine) (w:World),Goes Tryz.prog true (RWg 101 D.Wg) DC0 (fun g w=>uQ D.vat cs (D.n - r) g∧WgLive 101 D.Wg w) m g w →
  (D.ph lo Shun t0 oL).Spawns ((D.ph lo Shun t0 oL).Fin (uS D cs)) r g w:=by
 intro r
 induction r with
 | zero=>
  intro _ m g w h
  exact ⟨m+60,yT (fun w x=>x) (fun g w h=>Gs h.1 h.2) h⟩
 | succ r ih=>
  intro hr m g w h
  refine ⟨m+20,yT (fun w x=>x) (fun g w h=>DN (j:=D.n - (r+1)) (by omega) ok (fun T g w hF hg=>?_) h.1 h.2) h⟩
  rw [show D.n - (r+1)+1=D.n - r by omega] at hg
  exact ih (by omega) 20 g w hg
def KW (D:VD) (cs:List Frame) (g:Goroutine) (w:World):Prop:=∃ c,Cok D c∧gQ Tryz.prog c cs g w
theorem Eo (hCont:oL=KW D cs) (g:Goroutine) (w:World) (h:uS D cs g w):∃ m,Goes Tryz.prog true (RWg 101 D.Wg) DC0 ((D.ph lo Shun t0 oL).AtW1 (uS D cs)) m g w:=by
 obtain ⟨c,hc,ha⟩:=h
 obtain ⟨m,hm⟩:=Ren.Cs (L:=Tryz.link) Tryz.I5 (D.ph lo Shun t0 oL) rfl rfl (fun g w _ _ hE=>by show oL g w;rw [hCont];exact ⟨c,hc,hE⟩) g w ha
 exact ⟨m,Ren.gq (fun g w h=>Ren.IW (fun g w h=>⟨c,hc,h⟩) h) hm⟩
end
end Go.Proofs.YthhmolonhpaepaaGreatDoor
end
