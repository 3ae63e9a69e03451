/- The reference's doing of a call to a thing that is as the right says, for each kind of call. Conditions: the table is the call's own. -/
import Derived.Test.YthhmolonhpaepaaGreatDoorVF1
import Derived.Test.YthhmolonhpaepaaGreatDoorVF3
import Derived.Test.YthhmolonhpaepaaGreatDoorVF6
import Derived.Deep.CutBlock
import Derived.Test.YthhmolonhpaepaaGreatDoorVY
set_option linter.unusedVariables false
set_option linter.unusedSimpArgs false
namespace Go.Proofs.YthhmolonhpaepaaGreatDoor
open Go.RowKit Drw
theorem far_c {P:Nat→Prop} {tag:Nat→Nat} {T o n cap:Nat} {xs:List Thx} {c:Cal} {w:World} (hO:au w P tag (.slice (some ⟨T,o,none⟩) n cap) xs) (hup:∀ b,w.heap.size≤b→P b) (hn:n≤65536) (hc:nV (xs.map (·.1)) c) (h3:c.kind≠3) (hk:dU c.kind (aC (xs.map (·.1)) (NQ (xs.map (·.1)) c).thing).kind=true) (he:ex (xs.map (·.1)) (NQ (xs.map (·.1)) c).thing=true) :
  Calls Tryz.prog 96 #[.slice (some ⟨T,o,none⟩) n cap,c.val,(NQ (xs.map (·.1)) c).val] w fun e w'=>e=.returned (.int .i64 (act (xs.map (·.1)) c (NQ (xs.map (·.1)) c)).2)∧aA w w' P (.slice (some ⟨T,o,none⟩) n cap) (act (xs.map (·.1)) c (NQ (xs.map (·.1)) c)).1:=by
 have hn0:=hc.n
 have ho:=bW hc.tab he
 have hrun:=oH hc.ex
 obtain ⟨j,svr,qvr,hj,htr⟩:=hrun
 obtain ⟨x,sv,qv,hx,ht⟩:=oH he
 have hbb:∃ bb:Nat,c.b=(bb:Int)∧bb<4:=⟨c.b.toNat,by have:=hc.b;omega,by have:=hc.b;omega⟩
 obtain ⟨bb,hbb,hb4⟩:=hbb
 have hro:=hc.thg
 have h4r:=hc.four
 have hrk:=hc.kind
 generalize hr:NQ (xs.map (·.1)) c=r at *
 generalize htt:aC (xs.map (·.1)) r.thing=t at *
 generalize htr':aC (xs.map (·.1)) c.run=tr at *
 rcases mF hk hc.call h3 with ⟨e,k⟩|⟨e,k⟩|⟨e,k⟩|⟨e,k⟩|⟨e,k⟩|⟨e,k⟩|⟨e,k⟩|⟨e,k⟩<;>simp only [act,e,if_true,Int.reduceEq,if_false,htt,htr']
 ·exact far1 hO hup hx ht hj htr hn0 hn e
 ·rw [hx]
  exact far2 hO hup hx ht hj htr hn0 hn e
 ·rw [hj,hbb]
  exact far4 hO hup hx ht hj htr hn0 hn e (gz ho (.inl k)) h4r hbb hb4
 ·have hxj:j≠x:=by
   intro e;subst e
   rw [ht] at htr
   simp only [Option.some.injEq,Prod.mk.injEq] at htr
   rw [htr.1] at k;omega
  rw [hx,hbb]
  exact far5 hO hup hx ht hj htr hn0 hn e hxj (gz ho (.inl k)) h4r hbb hb4
 ·have hq:=(iU ho).1
  split
  ·rename_i h3q
   exact Kl hO hup hx ht hj htr hn0 hn e h3q
  ·rename_i h3q
   rw [hx]
   exact far6 hO hup hx ht hj htr hn0 hn e (by omega)
 ·have hq:=(iU ho).1
  split
  ·rename_i h3q
   exact Hu hO hup hx ht hj htr hn0 hn e h3q
  ·rename_i y ys h3q
   rw [hx]
   exact far7 hO hup hx ht hj htr hn0 hn e h3q (by rw [h3q] at hq;simp at hq;omega)
 ·have hg:=Drw.nM hc.tab he (by rw [htt];exact k)
  rw [htt] at hg
  obtain ⟨g,svp,qvp,hgi,htp⟩:=oH hg.1
  have hgx:g≠x:=by
   intro e;subst e
   have h2:=hg.2
   rw [ht] at htp
   simp only [Option.some.injEq,Prod.mk.injEq] at htp
   rw [← htp.1] at h2;omega
  have Lh:=vD ho (.inr k)
  rw [hgi,hx]
  exact far9 hO hup hx ht hj htr hn0 hn e hgi htp hgx Lh.1 Lh.2
 ·have hv:=EG ho
  split
  ·rename_i h5
   exact M3 hO hup hx ht hj htr hn0 hn e h5
  ·rename_i h5
   rw [hx]
   exact far8 hO hup hx ht hj htr hn0 hn e h5 hv.1 (F4 ho k)
end Go.Proofs.YthhmolonhpaepaaGreatDoor
namespace Go.Proofs.YthhmolonhpaepaaGreatDoor
open Go.RowKit Drw
attribute [local go_sem] Lab.val Rgt.val Cal.val Thg.val
attribute [local go_sem] NU NT
theorem wS {w wx w2:World} {P P':Nat→Prop} {v:Value} {ts:List Thg} (h:aA wx w2 P' v ts) (hb:Chg P w wx) (himp:∀ b,P' b→P b):aA w w2 P v ts:=by
 obtain ⟨xs,tag,hO,e,hg⟩:=h
 exact ⟨xs,tag,hO.imp (fun b h1 _=>⟨himp b h1,rfl⟩),e,hb.trans (hg.mono (fun b _ h=>himp b h))⟩
theorem Bc {w wz:World} {P:Nat→Prop} {T o n cap j:Nat} {ts:List Thg} (h:aA w wz P (.slice (some ⟨T,o,none⟩) n cap) ts) (hj:j<ts.length) (k:Int) :
  aA w (wz.setCell ⟨T,o+j * 8+4,none⟩ (.int .i64 k)) P (.slice (some ⟨T,o,none⟩) n cap) (dD ts ((j:Int)+1) (aS k))∧j<n∧T<wz.heap.size∧(∃ v,wz.cell? ⟨T,o+j * 8+4,none⟩=some (.int .i64 v))∧∀ i,wz.frozen? ⟨T,i,none⟩=false:=by
 obtain ⟨xs,tag,hO,e,hg⟩:=h
 have hl:j<xs.length:=by rw [← e] at hj;simpa using hj
 obtain ⟨t,sv,qv,hx⟩:∃ t sv qv,xs[j]?=some (t,sv,qv):=⟨(xs[j]).1,(xs[j]).2.1,(xs[j]).2.2,by simp [hl]⟩
 have hh:=hO.num hx k
 have hc:=hO.cells hx
 have hp:=hO.pos hx
 refine ⟨⟨_,_,hh.1,by rw [← e];exact aB hx rfl,hg.trans hh.2⟩,by rw [hO.len];exact hl,hp.2.2.2.1,⟨_,hc.2.2.2.2.1⟩,hp.2.2.2.2⟩
section
variable {P:Nat→Prop} {tag:Nat→Nat} {T o n cap:Nat} {xs:List Thx} {c:Cal} {w:World}
set_option maxRecDepth 100000 in
set_option maxHeartbeats 4000000 in
theorem MK (hO:au w P tag (.slice (some ⟨T,o,none⟩) n cap) xs) (hup:∀ b,w.heap.size≤b→P b) (hn:n≤65536) (hc:nV (xs.map (·.1)) c) :
  Calls Tryz.prog 59 #[.slice (some ⟨T,o,none⟩) n cap,c.val] w fun e w'=>e=.returned (.tuple #[.slice (some ⟨T,o,none⟩) n cap,.int .i64 (do2 (xs.map (·.1)) c).2])∧aA w w' P (.slice (some ⟨T,o,none⟩) n cap) (do2 (xs.map (·.1)) c).1:=by
 obtain ⟨ts,hts⟩:∃ ts,xs.map (·.1)=ts:=⟨_,rfl⟩
 have hnl:n=ts.length:=by rw [hO.len,← hts];simp
 subst hnl
 have hT:TabAt w (.slice (some ⟨T,o,none⟩) ts.length cap) ts:=by rw [← hts];rw [← hts] at hO;exact hO.at'
 rw [hts] at hc ⊢
 have oV:=Nk.2 hc
 have hchk:=nI (some ⟨T,o,none⟩) cap ts c
 obtain ⟨j,svr,qvr,hj,htr⟩:=oH (xs:=xs) (i:=c.run) (by rw [hts];exact hc.ex)
 rw [hts] at htr
 have hjl:j<ts.length:=by rw [hO.len];exact (List.getElem?_eq_some_iff.1 htr).1
 obtain ⟨m,hm,hm4⟩:∃ m:Nat,c.a=(m:Int)∧m<4:=⟨c.a.toNat,by have:=hc.a;omega,by have:=hc.a;omega⟩
 obtain ⟨bb,hbb,hb4⟩:∃ bb:Nat,c.b=(bb:Int)∧bb<4:=⟨c.b.toNat,by have:=hc.b;omega,by have:=hc.b;omega⟩
 have HN:=hc.n
 obtain ⟨tr,htre⟩:∃ tr,aC ts c.run=tr:=⟨_,rfl⟩
 have h4r:=hc.four
 rw [htre] at htr h4r
 have hmm:=(hO.dK.2 _ (List.mem_of_getElem? htr)).1
 obtain ⟨B2,o2,cap2,rfl⟩:=cK hmm h4r
 obtain ⟨r,hr⟩:∃ r,tr.slots[m]?=some r:=⟨tr.slots[m]'(by omega),by simp [show m<tr.slots.length by omega]⟩
 have nJ:NQ ts c=r:=by unfold NQ nL;rw [htre,hm];simp [hr]
 obtain ⟨bq,oq,e2,hBl,d0,d1,d2,d3,d4⟩:=hmm.at m r hr
 cases e2
 obtain ⟨-,hPT,hT0,hTl,hf⟩:=hO.pos htr
 obtain ⟨-,-,-,-,-,c5,-,-⟩:=hO.cells htr
 have HC:=Lib.hid hc
 have Hy:=Lib.hid oV
 have o7:=Lib.hid nJ
 have Htr:=Lib.hid htr
 have Htre:=Lib.hid htre
 have Hts:=Lib.hid hts
 have HchkR:=rP ts c
 have HR:=Lib.hid HchkR
 have HTh:=Lib.hid hT
 have hchk2:=hchk w
 clear hc oV nJ htr htre hts hr HchkR hmm hT hchk
 obtain ⟨ck,H7,ca,cb,cn⟩:=c
 dsimp only at hj hm hbb HN
 subst hj
 subst hm
 subst hbb
 have hw1:IntKind.i64.wrap ((j:Int)+1 - 1)=(j:Int):=by rw [show (j:Int)+1 - 1=j by omega];exact IntWalk.i64_in _ (by omega)
 have hw2:IntKind.i64.wrap (j:Int)=(j:Int):=IntWalk.i64_in _ (by omega)
 have hj0:(0:Int)≤(j:Int):=by omega
 have hjn:(j:Int)<(ts.length:Int):=by omega
 have hm0:(0:Int)≤(m:Int):=by omega
 have hml:(m:Int)<4:=by omega
 have hb0:(0:Int)≤(bb:Int):=by omega
 have hbl:(bb:Int)<4:=by omega
 have hTs:T<w.heap.size+1:=by omega
 have hBs:B2<w.heap.size+1:=by omega
 clear hchk2
 go_enter Tryz.func59,Tryz.ntmps59
 go_upto_region 2 with (go_at_call 93;refine (nI (some ⟨T,o,none⟩) cap ts ⟨_,_,_,_,_⟩ _ ((HTh.out).pure (by (repeat (with_reducible first|exact bA _ _|refine bB ?_ ?_ _|refine bC ?_ _|refine bD ?_|refine bE ?_ ?_ _|refine bF ?_ (by assumption) ?_))<;>first|omega|(simp;try omega))) Hy.out).mono ?_;rintro e w1 ⟨rfl,hb1⟩;obtain ⟨hc1,hf1⟩:=ax hb1;have hz1:w.heap.size<w1.heap.size:=(by have:=hb1.size;(try simp at this);omega))
 have hOx1:=hO.pure (w':=w1) (by (repeat (with_reducible first|exact bA _ _|refine bB ?_ ?_ _|refine bC ?_ _|refine bD ?_|refine bE ?_ ?_ _|refine bF ?_ (by assumption) ?_))<;>first|omega|(simp;try omega))
 go_cut [7] (fun s7 wx=>s7=.pointer (some ⟨w1.heap.size,0,none⟩)∧Below w1.heap.size w1 wx∧w1.heap.size<wx.heap.size∧(wx.cell? ⟨w1.heap.size,0,none⟩=some (.int .i64 r.thing)∧wx.cell? ⟨w1.heap.size,1,none⟩=some (.int .i64 r.aJ)∧wx.cell? ⟨w1.heap.size,2,none⟩=some (.bool r.rd)∧wx.cell? ⟨w1.heap.size,3,none⟩=some (.bool r.wr)∧wx.cell? ⟨w1.heap.size,4,none⟩=some (.bool r.wk)))
 case first=>
  have k1:w1.cell? ⟨w.heap.size,1,none⟩=some (.int .i64 ((j:Int)+1)):=by rw [hc1 _ _ (by simp)];simp [go_sem]
  have k2:w1.cell? ⟨w.heap.size,2,none⟩=some (.int .i64 (m:Int)):=by rw [hc1 _ _ (by simp)];simp [go_sem]
  have k5:w1.cell? ⟨T,o+j * 8+5,none⟩=some (.slice (some ⟨B2,o2,none⟩) 4 cap2):=by rw [hc1 _ _ (by simp;omega)];simp [go_sem, *]
  have hcB:∀ i,w1.cell? ⟨B2,i,none⟩=w.cell? ⟨B2,i,none⟩:=fun i=>by rw [hc1 _ _ (by simp;omega),World.cell?_alloc_lt];exact hBl
  rw [← hcB] at d0 d1 d2 d3 d4
  clear hcB hc1 hf1 hf c5
  go_region_held3 (fun w'=>w'.cell? ⟨w.heap.size,1,none⟩=some (.int .i64 ((j:Int)+1))∧w'.cell? ⟨w.heap.size,2,none⟩=some (.int .i64 (m:Int))∧w'.cell? ⟨T,o+j * 8+5,none⟩=some (.slice (some ⟨B2,o2,none⟩) 4 cap2)∧w'.cell? ⟨B2,o2+m * 5,none⟩=some (.int .i64 r.thing)∧w'.cell? ⟨B2,o2+m * 5+1,none⟩=some (.int .i64 r.aJ)∧w'.cell? ⟨B2,o2+m * 5+2,none⟩=some (.bool r.rd)∧w'.cell? ⟨B2,o2+m * 5+3,none⟩=some (.bool r.wr)∧w'.cell? ⟨B2,o2+m * 5+4,none⟩=some (.bool r.wk)) (go_keep) (fail)
  all_goals
   go_wp2
   go_meet
   refine ⟨rfl,(by (repeat (with_reducible first|exact bA _ _|refine bB ?_ ?_ _|refine bC ?_ _|refine bD ?_|refine bE ?_ ?_ _|refine bF ?_ (by assumption) ?_))<;>first|omega|(simp;try omega)),by simp [World.setCell],?_⟩
   simp [ag]
 case rest=>
  obtain ⟨rfl,hb2,hz2,q0,q1,q2,q3,q4⟩:=hcut
  obtain ⟨wx,rfl⟩:∃ wx:World,wx=wc:=⟨_,rfl⟩
  have hbx:Below w.heap.size w wx:=((by (repeat (with_reducible first|exact bA _ _|refine bB ?_ ?_ _|refine bC ?_ _|refine bD ?_|refine bE ?_ ?_ _|refine bF ?_ (by assumption) ?_))<;>first|omega|(simp;try omega)):Below w.heap.size w w1).trans (hb2.mono (by omega))
  have hOx:au wx P tag (.slice (some ⟨T,o,none⟩) ts.length cap) xs:=hO.pure hbx
  have k1:wx.cell? ⟨w.heap.size,1,none⟩=some (.int .i64 ((j:Int)+1)):=by rw [hb2.cell (p:=⟨w.heap.size,1,none⟩) hz1,hc1 _ _ (by simp)];simp [go_sem]
  have k3:wx.cell? ⟨w.heap.size,3,none⟩=some (.int .i64 (bb:Int)):=by rw [hb2.cell (p:=⟨w.heap.size,3,none⟩) hz1,hc1 _ _ (by simp)];simp [go_sem]
  have k4:wx.cell? ⟨w.heap.size,4,none⟩=some (.int .i64 cn):=by rw [hb2.cell (p:=⟨w.heap.size,4,none⟩) hz1,hc1 _ _ (by simp)];simp [go_sem]
  have k0:wx.cell? ⟨w.heap.size,0,none⟩=some (.int .i64 ck):=by rw [hb2.cell (p:=⟨w.heap.size,0,none⟩) hz1,hc1 _ _ (by simp)];simp [go_sem]
  have k2:wx.cell? ⟨w.heap.size,2,none⟩=some (.int .i64 (m:Int)):=by rw [hb2.cell (p:=⟨w.heap.size,2,none⟩) hz1,hc1 _ _ (by simp)];simp [go_sem]
  have GX:TabAt wx (.slice (some ⟨T,o,none⟩) ts.length cap) ts:=HTh.out.pure hbx
  have HTx:=Lib.hid GX
  have y1:w.heap.size<wx.heap.size:=by omega
  clear hc1 hf1 GX d0 d1 d2 d3 d4 c5
  obtain ⟨rt,rv,rrd,rwr,rwk⟩:=r
  dsimp only at q0 q1 q2 q3 q4
  have gT:=HC.out
  have hsl:=o7.out
  obtain ⟨D,hD⟩:∃ D,do1 ts ⟨ck,(j:Int)+1,(m:Int),(bb:Int),cn⟩=D:=⟨_,rfl⟩
  have hdo2:do2 ts ⟨ck,(j:Int)+1,(m:Int),(bb:Int),cn⟩=(dD D.1 ((j:Int)+1) (aS D.2),D.2):=by rw [do2,hD]
  have hDl:j<D.1.length:=by
   have:=(wF gT).same.len
   rw [hD] at this
   rw [this];exact hjl
  have Hdo2:=Lib.hid hdo2
  have HD:=Lib.hid hD
  have Hhr:=HR.out
  obtain ⟨k,hk⟩:∃ k,aT ts ⟨ck,(j:Int)+1,(m:Int),(bb:Int),cn⟩=k:=⟨_,rfl⟩
  rw [hk] at Hhr ⊢
  have Hk:=Lib.hid hk
  clear gT hsl hD hdo2 hk HR
  go_upto_block 0 with (fail)
  go_cut [6] (fun s6 wz=>s6=.int .i64 D.2∧aA w wz P (.slice (some ⟨T,o,none⟩) ts.length cap) D.1∧wz.cell? ⟨w.heap.size,1,none⟩=some (.int .i64 ((j:Int)+1)))
  case first=>
   by_cases hk0:k=0
   ·subst hk0
    clear Hhr
    by_cases hc3:ck=3
    ·subst hc3
     have hDe:=HD.out
     rw [pU rfl,o7.out] at hDe
     obtain ⟨a0,ha0⟩:∃ a,cn % 2=a:=⟨_,rfl⟩
     obtain ⟨q2',hq2'⟩:∃ a,cn / 2=a:=⟨_,rfl⟩
     obtain ⟨q4',hq4'⟩:∃ a,cn / 4=a:=⟨_,rfl⟩
     obtain ⟨a1,ha1⟩:∃ a,q2' % 2=a:=⟨_,rfl⟩
     obtain ⟨a2,ha2⟩:∃ a,q4' % 2=a:=⟨_,rfl⟩
     have u0:cn.tmod 2=a0:=by rw [Int.tmod_eq_emod_of_nonneg HN.1];exact ha0
     have u1:IntKind.i64.wrap a0=a0:=IntWalk.i64_in _ (by omega)
     have u2:cn.tdiv 2=q2':=by rw [Int.tdiv_eq_ediv_of_nonneg HN.1];exact hq2'
     have u3:IntKind.i64.wrap q2'=q2':=IntWalk.i64_in _ (by omega)
     have u4:cn.tdiv 4=q4':=by rw [Int.tdiv_eq_ediv_of_nonneg HN.1];exact hq4'
     have u5:IntKind.i64.wrap q4'=q4':=IntWalk.i64_in _ (by omega)
     have u6:q2'.tmod 2=a1:=by rw [Int.tmod_eq_emod_of_nonneg (by omega)];exact ha1
     have u7:IntKind.i64.wrap a1=a1:=IntWalk.i64_in _ (by omega)
     have u8:q4'.tmod 2=a2:=by rw [Int.tmod_eq_emod_of_nonneg (by omega)];exact ha2
     have u9:IntKind.i64.wrap a2=a2:=IntWalk.i64_in _ (by omega)
     dsimp only at hDe
     unfold odd at hDe
     rw [hq2',hq4',ha0,ha1,ha2] at hDe
     obtain ⟨⟨zt,zv,zrd,zwr,zwk⟩,hz⟩:∃ z,eG ⟨rt,rv,rrd,rwr,rwk⟩ (a0 == 1) (a1 == 1) (a2 == 1)=z:=⟨_,rfl⟩
     rw [hz] at hDe
     have Hz:=Lib.hid hz
     have HDe:=Lib.hid hDe
     clear hz hDe ha0 hq2' hq4' ha1 ha2 HN
     have hBx:B2<wx.heap.size:=by omega
     have hxt:=hOx.slots j _ Htr.out B2 o2 4 cap2 rfl (by decide)
     have hBf:=hxt.2.2.2
     have hBT:¬ B2=T:=by intro e;subst e;have:=hxt.2.1;omega
     have hBw:¬ B2=w.heap.size:=by omega
     have hBw1:¬ B2=w1.heap.size:=by have:=hb1.size;simp at this;omega
     have hmmx:=(hOx.dK.2 _ (List.mem_of_getElem? Htr.out)).1
     obtain ⟨y,hy⟩:∃ y,tr.slots[bb]?=some y:=⟨tr.slots[bb]'(by omega),by simp [show bb<tr.slots.length by omega]⟩
     obtain ⟨bq,oq,e2,-,d0,d1,d2,d3,d4⟩:=hmmx.at bb y hy
     cases e2
     obtain ⟨-,-,-,-,-,c5,-,-⟩:=hOx.cells Htr.out
     have v1:IntKind.i64.wrap (bb:Int)=(bb:Int):=IntWalk.i64_in _ (by omega)
     clear hxt hmmx hy hf
     go_upto_region 5 with (fail)
     go_region_held3 (fun w'=>w'.cell? ⟨w.heap.size,1,none⟩=some (.int .i64 ((j:Int)+1))∧w'.cell? ⟨w.heap.size,3,none⟩=some (.int .i64 (bb:Int))∧w'.cell? ⟨w.heap.size,4,none⟩=some (.int .i64 cn)∧w'.cell? ⟨T,o+j * 8+5,none⟩=some (.slice (some ⟨B2,o2,none⟩) 4 cap2)∧w'.cell? ⟨w1.heap.size,0,none⟩=some (.int .i64 rt)∧w'.cell? ⟨w1.heap.size,1,none⟩=some (.int .i64 rv)∧w'.cell? ⟨w1.heap.size,2,none⟩=some (.bool rrd)∧w'.cell? ⟨w1.heap.size,3,none⟩=some (.bool rwr)∧w'.cell? ⟨w1.heap.size,4,none⟩=some (.bool rwk))
      (go_keep) (first|(go_at_call 94;refine (BG ⟨_,_,_,_,_⟩ _ _ _ _).mono ?_;rw [Hz.out];rintro e w2 ⟨rfl,hb3⟩;obtain ⟨hc3,hf3⟩:=ax hb3;have hcA:=(fun i=>hc3 w.heap.size i (by simp;omega));have hcT:=(fun i=>hc3 T i (by simp;omega));have hcR:=(fun i=>hc3 w1.heap.size i (by simp;omega));have hcB:=(fun i=>hc3 B2 i (by simp;omega));have hfB:=(fun i=>hf3 B2 i (by simp;omega));have hB2l:B2<w2.heap.size:=(by have:=hb3.size;simp at this;omega);clear hc3 hf3))
     all_goals
      go_wp2
      go_meet
      have hbw2:Below wx.heap.size wx w2:=(by (repeat (with_reducible first|exact bA _ _|refine bB ?_ ?_ _|refine bC ?_ _|refine bD ?_|refine bE ?_ ?_ _|refine bF ?_ (by assumption) ?_))<;>first|omega|(simp;try omega))
      have hO2:=hOx.pure hbw2
      have hh:=hO2.slot Htr.out (k:=bb) (by omega) ⟨zt,zv,zrd,zwr,zwk⟩
      rw [← HDe.out]
      refine ⟨rfl,⟨_,_,hh.1,by rw [← Hts.out];exact aB Htr.out rfl,((Chg.ah hbx).trans (Chg.ah hbw2)).trans hh.2⟩,?_⟩
      simp [ag,hcA,hBw,k1]
    ·have hc:=HC.out
     obtain ⟨z1,z2,z3,z4,z5⟩:=iQ Hk.out hc3
     have he:=Cc hc.rCap z1
     rw [o7.out] at z1 z2 z5 he
     obtain ⟨li,hli⟩:∃ li,live ts ⟨rt,rv,rrd,rwr,rwk⟩=li:=⟨_,rfl⟩
     have Hli:=Lib.hid hli
     have hDe:=HD.out
     have hck3:(ck == 3)=false:=by simpa using hc3
     cases li
     ·rw [pR Hk.out hc3 (by rw [o7.out];exact hli)] at hDe
      have HDe:=Lib.hid hDe
      clear hDe hc z1 z2 z3 z4 z5 he hli hc3
      go_wp2_with (go_at_call 95;refine (vY _ _ ts ⟨_,_,_,_,_⟩ _ HTx.out).mono ?_;rw [Hli.out];rintro e w2 ⟨rfl,hb3⟩)
      go_meet
      rw [← HDe.out]
      exact ⟨rfl,⟨_,_,hO.pure (by (repeat (with_reducible first|exact bA _ _|refine bB ?_ ?_ _|refine bC ?_ _|refine bD ?_|refine bE ?_ ?_ _|refine bF ?_ (by assumption) ?_))<;>first|omega|(simp;try omega)),Hts.out,Chg.ah (by (repeat (with_reducible first|exact bA _ _|refine bB ?_ ?_ _|refine bC ?_ _|refine bD ?_|refine bE ?_ ?_ _|refine bF ?_ (by assumption) ?_))<;>first|omega|(simp;try omega))⟩,(hb3.cell (p:=⟨w.heap.size,1,none⟩) y1).trans k1⟩
     ·rw [pQ Hk.out hc3 (by rw [o7.out];exact hli),o7.out] at hDe
      dsimp only at hDe
      have HDe:=Lib.hid hDe
      have hfar:=fun (w2:World) (hb:Below wx.heap.size wx w2)=>far_c (P:=fun b=>(P b∧b<w.heap.size)∨wx.heap.size≤b) (w:=w2) (tag:=tag) (T:=T) (o:=o) (cap:=cap) (xs:=xs) (c:=⟨ck,(j:Int)+1,(m:Int),(bb:Int),cn⟩)
       (((hO.imp (Q:=fun b=>(P b∧b<w.heap.size)∨wx.heap.size≤b) (tag':=tag) (fun b h1 h2=>⟨.inl ⟨h1,h2⟩,rfl⟩)).pure hbx).pure hb) (fun b h=>.inr (Nat.le_trans hb.size h)) hn (by rw [Hts.out];exact hc) hc3 (by rw [Hts.out,o7.out];exact z2) (by rw [Hts.out,o7.out];exact he)
      rw [Hts.out,o7.out] at hfar
      have hfin:=Ci hc hc3 (by rw [o7.out];exact z2) (by rw [o7.out];exact he)
      rw [o7.out] at hfin
      obtain ⟨AC,hAC⟩:∃ AC,act ts ⟨ck,(j:Int)+1,(m:Int),(bb:Int),cn⟩ ⟨rt,rv,rrd,rwr,rwk⟩=AC:=⟨_,rfl⟩
      rw [hAC] at hfar hfin HDe
      have hsm:=hfin.same
      have hex:=hc.ex
      have hsee:sees AC.1 ((j:Int)+1) rt=sees ts ((j:Int)+1) rt:=by
       unfold sees
       rw [hsm.lab _ he,hsm.lab _ hex]
      have hex3:ex AC.1 ((j:Int)+1)=true:=by rw [hsm.ex];exact hex
      have he3:ex AC.1 rt=true:=by rw [hsm.ex];exact he
      have hl1:dw (aC AC.1 ((j:Int)+1)).lab=true:=(aQ.1 (bW hfin.tab hex3)).2.1
      have hl2:dw (aC AC.1 rt).lab=true:=(aQ.1 (bW hfin.tab he3)).2.1
      have hsl:=fun (w3:World) (hT3:TabAt w3 (.slice (some ⟨T,o,none⟩) AC.1.length cap) AC.1)=>yM (some ⟨T,o,none⟩) cap AC.1 ((j:Int)+1) rt w3 hT3 hex3 he3 hl1 hl2
      rw [hsee,hsm.len] at hsl
      have hlen3:=hsm.len
      obtain ⟨se,hse⟩:∃ se,sees ts ((j:Int)+1) rt=se:=⟨_,rfl⟩
      rw [hse] at hsl HDe
      have Hfar:=Lib.hid hfar
      have Hsl:=Lib.hid hsl
      have Hlen3:=Lib.hid hlen3
      have nP0:¬ ((P w.heap.size∧w.heap.size<w.heap.size)∨wx.heap.size≤w.heap.size):=by intro h;rcases h with h|h<;>omega
      have nP1:¬ ((P w1.heap.size∧w1.heap.size<w.heap.size)∨wx.heap.size≤w1.heap.size):=by have:=hb1.size;simp at this;intro h;rcases h with h|h<;>omega
      clear hDe hc z1 z2 z3 z4 z5 he hli hc3 hfar hfin hsm hex hsee hex3 he3 hl1 hl2 hsl hse hAC hlen3
      cases se
      all_goals
       go_wp2_with (first
        | (go_at_call 95;refine (vY _ _ ts ⟨_,_,_,_,_⟩ _ HTx.out).mono ?_;rw [Hli.out];rintro e w2 ⟨rfl,hb3⟩;have hbw2:Below wx.heap.size wx w2:=hb3;obtain ⟨hc3,hf3⟩:=ax hb3)
        | (go_at_call 96;refine (Hfar.out _ hbw2).mono ?_;rintro e w3 ⟨rfl,xs3,tag3,hO3,e3,hg3⟩;have r1:=hg3.cell ((hc3 _ _ y1).trans k1) nP0;have s0:=hg3.cell ((hc3 _ _ hz2).trans q0) nP1;have hT3:TabAt w3 (.slice (some ⟨T,o,none⟩) ts.length cap) AC.1:=(by rw [← e3];exact hO3.at'))
        | (go_at_call 97;refine (Hsl.out _ hT3).mono ?_;rintro e w4 ⟨rfl,hb4⟩))
       go_meet
       rw [← HDe.out]
       refine ⟨rfl,?_,(hb4.cell (p:=⟨w.heap.size,1,none⟩) (by have:=hg3.size;have:=hb3.size;show w.heap.size<w3.heap.size;omega)).trans r1⟩
       refine aA.below (wS ⟨_,_,hO3,e3,hg3⟩ ((Chg.ah hbx).trans ((Chg.ah hb3))) (fun b h=>?_)) hb4
       rcases h with h|h
       ·exact h.1
       ·exact hup b (by omega)
   ·have hneg:k<0:=by omega
    have hDe:=HD.out
    rw [wG (by rw [Hk.out];exact hk0),Hk.out] at hDe
    subst hDe
    go_wp2
    go_meet
    exact ⟨rfl,⟨_,_,hOx,Hts.out,Chg.ah hbx⟩,k1⟩
  case rest=>
   obtain ⟨rfl,hAP,k1'⟩:=hcut
   obtain ⟨wz,rfl⟩:∃ wz:World,wz=wc:=⟨_,rfl⟩
   obtain ⟨hfin,-,hTz,⟨v0,hv0⟩,hfz⟩:=Bc hAP hDl D.2
   have Fin:=Lib.hid hfin
   clear hfin hAP k1 k2 k3 k4 k0 q0 q1 q2 q3 q4 hf
   go_wp2
   go_ret2
   rw [Hdo2.out]
   exact ⟨rfl,aA.below Fin.out (by (repeat (with_reducible refine Below.alloc ?_ ?_ _))<;>first|exact Below.refl _ _|(simp [World.setCell];done)|(simp [World.setCell];omega))⟩
end
end Go.Proofs.YthhmolonhpaepaaGreatDoor
namespace Go.Proofs.YthhmolonhpaepaaGreatDoor
open Go.RowKit Drw
attribute [local go_sem] Lab.val Rgt.val Cal.val Thg.val
attribute [local go_sem] NU NT
set_option maxRecDepth 100000 in
set_option maxHeartbeats 2000000 in
theorem CK (p:Option Addr) (cap:Nat) (ts:List Thg) (c:Cal) (w:World) (hT:TabAt w (.slice p ts.length cap) ts) (hno:bP ts c=false) :
  Calls Tryz.prog 20 #[.slice p ts.length cap,c.val] w fun e w'=>∃ q,e=.returned (.tuple #[.slice q 0 0,.int .i64 (-1)])∧Below w.heap.size w w':=by
 obtain ⟨k,r,a,b,n⟩:=c
 obtain ⟨t1,h1⟩:∃ x,aU ts=x:=⟨_,rfl⟩
 obtain ⟨t2,h2⟩:∃ x,nQ ⟨k,r,a,b,n⟩=x:=⟨_,rfl⟩
 obtain ⟨t3,h3⟩:∃ x,bS ts r 3=x:=⟨_,rfl⟩
 have hx:(t1 && t2 && t3)=false:=by rw [← hno,← h1,← h2,← h3];rfl
 have H1:=Lib.hid h1
 have H2:=Lib.hid h2
 have H3:=Lib.hid h3
 clear h1 h2 h3 hno
 have key:∀ x y z:Bool,(x && y && z)=false→x=false∨(x=true∧y=false)∨(x=true∧y=true∧z=false):=by decide
 rcases key _ _ _ hx with rfl|⟨rfl,rfl⟩|⟨rfl,rfl,rfl⟩
 all_goals
  clear hx key
  go_enter Tryz.func20,Tryz.ntmps20
  go_wp2_with (first
   | (go_at_call 42;refine (gm _ _ ts _ (hT.pure (by (repeat (with_reducible first|exact bA _ _|refine bB ?_ ?_ _|refine bC ?_ _|refine bD ?_|refine bE ?_ ?_ _|refine bF ?_ (by assumption) ?_))<;>first|omega|(simp;try omega)))).mono ?_;rw [H1.out];rintro e w1 ⟨rfl,hb1⟩;obtain ⟨hc1,hf1⟩:=ax hb1;have hz0:w.heap.size<w1.heap.size:=(by have:=hb1.size;(try simp at this);omega))
   | (go_at_call 57;refine (lV ⟨_,_,_,_,_⟩ _).mono ?_;rw [H2.out];rintro e w2 ⟨rfl,hb2⟩;obtain ⟨hc2,hf2⟩:=ax hb2;have hz2:w.heap.size<w2.heap.size:=(by have:=hb2.size;omega))
   | (go_at_call 58;refine (pM _ _ ts _ _ (hT.pure (by (repeat (with_reducible first|exact bA _ _|refine bB ?_ ?_ _|refine bC ?_ _|refine bD ?_|refine bE ?_ ?_ _|refine bF ?_ (by assumption) ?_))<;>first|omega|(simp;try omega)))).mono ?_;rw [H3.out];rintro e w' ⟨rfl,rfl⟩))
  go_ret2
  exact ⟨_,rfl,(by (repeat (with_reducible first|exact bA _ _|refine bB ?_ ?_ _|refine bC ?_ _|refine bD ?_|refine bE ?_ ?_ _|refine bF ?_ (by assumption) ?_))<;>first|omega|(simp;try omega))⟩
set_option maxRecDepth 100000 in
set_option maxHeartbeats 4000000 in
theorem zD (p:Option Addr) (cap:Nat) (ts:List Thg) (c:Cal) (w:World) (hT:TabAt w (.slice p ts.length cap) ts) (oV:bP ts c=true) :
  Calls Tryz.prog 20 #[.slice p ts.length cap,c.val] w fun e w'=>∃ v xs tag,e=.returned (.tuple #[v,.int .i64 (do2 ts c).2])∧au w' (fun b=>w.heap.size≤b) tag v xs∧xs.map (·.1)=(do2 ts c).1∧Below w.heap.size w w':=by
 have hcB:=Nk.1 oV
 have MP:=(jr.1 hcB.tab).1
 have hkr:bS ts c.run 3=true:=by simp [bS,hcB.ex,hcB.kind]
 have H1:=Lib.hid hcB.tab
 have H2:=Lib.hid hcB.ok
 have H3:=Lib.hid hkr
 have HcB:=Lib.hid hcB
 have Hsh:=Lib.hid (nZ hcB.tab)
 clear oV hcB hkr
 obtain ⟨k,r,a,b,n⟩:=c
 dsimp only at H3
 go_enter Tryz.func20,Tryz.ntmps20
 go_upto_region 3 with (first
  | (go_at_call 42;refine (gm _ _ ts _ (hT.pure (by (repeat (with_reducible first|exact bA _ _|refine bB ?_ ?_ _|refine bC ?_ _|refine bD ?_|refine bE ?_ ?_ _|refine bF ?_ (by assumption) ?_))<;>first|omega|(simp;try omega)))).mono ?_;rw [H1.out];rintro e w1 ⟨rfl,hb1⟩;obtain ⟨hc1,hf1⟩:=ax hb1;have hz0:w.heap.size<w1.heap.size:=(by have:=hb1.size;(try simp at this);omega))
  | (go_at_call 57;refine (lV ⟨_,_,_,_,_⟩ _).mono ?_;rw [H2.out];rintro e w2 ⟨rfl,hb2⟩;obtain ⟨hc2,hf2⟩:=ax hb2;have hz2:w.heap.size<w2.heap.size:=(by have:=hb2.size;omega))
  | (go_at_call 58;refine (pM _ _ ts _ _ (hT.pure (by (repeat (with_reducible first|exact bA _ _|refine bB ?_ ?_ _|refine bC ?_ _|refine bD ?_|refine bE ?_ ?_ _|refine bF ?_ (by assumption) ?_))<;>first|omega|(simp;try omega)))).mono ?_;rw [H3.out];rintro e w' ⟨rfl,rfl⟩))
 have k0:w2.cell? ⟨w.heap.size,0,none⟩=some (.int .i64 k):=by rw [hc2 _ _ hz0,hc1 _ _ (by simp)];simp [go_sem]
 have k1:w2.cell? ⟨w.heap.size,1,none⟩=some (.int .i64 r):=by rw [hc2 _ _ hz0,hc1 _ _ (by simp)];simp [go_sem]
 have k2:w2.cell? ⟨w.heap.size,2,none⟩=some (.int .i64 a):=by rw [hc2 _ _ hz0,hc1 _ _ (by simp)];simp [go_sem]
 have k3:w2.cell? ⟨w.heap.size,3,none⟩=some (.int .i64 b):=by rw [hc2 _ _ hz0,hc1 _ _ (by simp)];simp [go_sem]
 have k4:w2.cell? ⟨w.heap.size,4,none⟩=some (.int .i64 n):=by rw [hc2 _ _ hz0,hc1 _ _ (by simp)];simp [go_sem]
 have hB2:Below w.heap.size w w2:=(by (repeat (with_reducible first|exact bA _ _|refine bB ?_ ?_ _|refine bC ?_ _|refine bD ?_|refine bE ?_ ?_ _|refine bF ?_ (by assumption) ?_))<;>first|omega|(simp;try omega))
 have hT2:TabAt w2 (.slice p ts.length cap) ts:=hT.pure hB2
 obtain ⟨wy,rfl⟩:∃ wy:World,wy=w2:=⟨_,rfl⟩
 clear hc1 hf1 hc2 hf2
 have hlo:w.heap.size<wy.heap.size:=hz2
 have hTd:∀ W:World,Below wy.heap.size wy W→TabAt W (.slice p ts.length cap) ts:=fun W h=>hT2.pure h
 have HTd:=Lib.hid hTd
 clear hTd
 go_region_held3 (fun w'=>Below w.heap.size w w'∧wy.heap.size≤w'.heap.size∧w'.cell? ⟨w.heap.size,0,none⟩=some (.int .i64 k)∧w'.cell? ⟨w.heap.size,1,none⟩=some (.int .i64 r)∧w'.cell? ⟨w.heap.size,2,none⟩=some (.int .i64 a)∧w'.cell? ⟨w.heap.size,3,none⟩=some (.int .i64 b)∧w'.cell? ⟨w.heap.size,4,none⟩=some (.int .i64 n))
  (first|exact ⟨hB2.drew,Nat.le_refl _,k0,k1,k2,k3,k4⟩|exact ⟨hb4,hs4,r0,r1,r2,r3,r4⟩|exact ⟨hb3',hs3,q0,q1,q2,q3,q4⟩)
  (first
   | (go_at_call 59;refine (MK (c:=⟨_,_,_,_,_⟩) hO (fun b h=>Nat.le_trans hs3 h) (by omega) (by rw [hxs];exact HcB.out)).mono ?_;rintro e w4 ⟨rfl,xs4,tag4,hO4,hxs4,hg4⟩;have nP:¬ wy.heap.size≤w.heap.size:=(by omega);have hb4:Below w.heap.size w w4:=hb3'.trans (Chg.below hg4 (by omega) (fun k hk h=>by have h':wy.heap.size≤k:=h;omega));have hs4:wy.heap.size≤w4.heap.size:=(by have:=hg4.size;omega);have r0:=hg4.cell q0 nP;have r1:=hg4.cell q1 nP;have r2:=hg4.cell q2 nP;have r3:=hg4.cell q3 nP;have r4:=hg4.cell q4 nP)
   | (go_at_call 35;refine (J6 p cap ts _ (HTd.out _ (by (repeat (with_reducible first|exact bA _ _|refine bB ?_ ?_ _|refine bC ?_ _|refine bD ?_|refine bE ?_ ?_ _|refine bF ?_ (by assumption) ?_))<;>first|omega|(simp;try omega))) (by omega) Hsh.out).mono ?_;rintro e w3 ⟨v,xs,tag,rfl,hO,hxs,hb3⟩;obtain ⟨T,o,cap',rfl⟩:=Bq hO hxs (by omega);obtain ⟨hc3,hf3⟩:=ax hb3;have hb3':Below w.heap.size w w3:=(by (repeat (with_reducible first|exact bA _ _|refine bB ?_ ?_ _|refine bC ?_ _|refine bD ?_|refine bE ?_ ?_ _|refine bF ?_ (by assumption) ?_))<;>first|omega|(simp;try omega));have hs3:wy.heap.size≤w3.heap.size:=hb3.size;have q0:=(hc3 w.heap.size 0 hlo).trans k0;have q1:=(hc3 w.heap.size 1 hlo).trans k1;have q2:=(hc3 w.heap.size 2 hlo).trans k2;have q3:=(hc3 w.heap.size 3 hlo).trans k3;have q4:=(hc3 w.heap.size 4 hlo).trans k4))
 all_goals
  go_wp2
  go_ret2
  rw [hxs] at *
  exact ⟨_,xs4,tag4,rfl,hO4.imp (fun b h _=>⟨by have h':wy.heap.size≤b:=h;omega,rfl⟩),hxs4,hb4⟩
theorem JE (w:World) (q:Option Addr) (P:Nat→Prop) (tag:Nat→Nat):au w P tag (.slice q 0 0) []:=
 ⟨⟨⟨q,0,rfl,by simp,by simp,.inl rfl⟩,fun x hx=>by cases hx⟩,Held.nil,fun i x hx=>by simp at hx,fun i x hx=>by simp at hx⟩
theorem EZ (p:Option Addr) (cap:Nat) (ts:List Thg) (c:Cal) (w:World) (hT:TabAt w (.slice p ts.length cap) ts) :
  Calls Tryz.prog 20 #[.slice p ts.length cap,c.val] w fun e w'=>∃ v xs tag,e=.returned (.tuple #[v,.int .i64 (fU ts c).2])∧au w' (fun b=>w.heap.size≤b) tag v xs∧xs.map (·.1)=(fU ts c).1∧Below w.heap.size w w':=by
 cases h:bP ts c
 ·refine (CK p cap ts c w hT h).mono ?_
  rintro e w' ⟨q,rfl,hb⟩
  refine ⟨.slice q 0 0,[],fun _=>0,by simp [fU,h],JE _ _ _ _,by simp [fU,h],hb⟩
 ·have:=zD p cap ts c w hT h
  simpa [fU,h] using this
end Go.Proofs.YthhmolonhpaepaaGreatDoor
