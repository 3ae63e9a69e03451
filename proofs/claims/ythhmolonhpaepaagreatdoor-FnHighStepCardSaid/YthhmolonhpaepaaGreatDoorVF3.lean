/- The reference's doing of a call to a thing that is as the right says. Conditions: the table is the call's own. -/
import Derived.Test.YthhmolonhpaepaaGreatDoorVZ
import Derived.Test.YthhmolonhpaepaaGreatDoorVY
import Derived.Test.YthhmolonhpaepaaGreatDoorVW
import Derived.Test.YthhmolonhpaepaaGreatDoorVDt
import Derived.Deep.RegionLaw
set_option linter.unusedVariables false
set_option linter.unusedSimpArgs false
namespace Go.Proofs.YthhmolonhpaepaaGreatDoor
open Go.RowKit Drw
attribute [local go_sem] Lab.val Rgt.val Cal.val Thg.val
attribute [local go_sem] NU NT
section
variable {P:Nat→Prop} {tag:Nat→Nat} {T o n cap:Nat} {xs:List Thx} {c:Cal} {r:Rgt} {w:World} {x j:Nat} {t tr:Thg} {sv qv svr qvr:Value}
set_option maxRecDepth 100000 in
set_option maxHeartbeats 4000000 in
theorem far7 {q:Int} {qs:List Int} (hO:au w P tag (.slice (some ⟨T,o,none⟩) n cap) xs) (hup:∀ b,w.heap.size≤b→P b) (hx:r.thing=(x:Int)+1) (ht:xs[x]?=some (t,sv,qv)) (hj:c.run=(j:Int)+1) (htr:xs[j]?=some (tr,svr,qvr)) (HN:0≤c.n∧c.n≤99) (hn:n≤65536) (hk:c.kind=7)  (hq:t.queue=q::qs) (hql:qs.length≤3):
  Calls Tryz.prog 96 #[.slice (some ⟨T,o,none⟩) n cap,c.val,r.val] w fun e w'=>e=.returned (.int .i64 (q))∧aA w w' P (.slice (some ⟨T,o,none⟩) n cap) (dD (xs.map (·.1)) ((x:Int)+1) (bJ qs)):=by
 obtain ⟨ck,H7,ca,cb,cn⟩:=c
 obtain ⟨rt,rv,rrd,rwr,rwk⟩:=r
 dsimp only at hx hj hk HN
 subst hx
 subst hj
 subst hk
 obtain ⟨c0,c1,c2,c3,c4,c5,c6,c7⟩:=hO.cells ht
 obtain ⟨f0,f1,f2,f3,f4,f5,f6,f7⟩:=hO.cells htr
 obtain ⟨-,hPT,hT0,hTl,hf⟩:=hO.pos ht
 have jl:=hO.dK.2 _ (List.mem_of_getElem? ht)
 have kS:=hO.dK.2 _ (List.mem_of_getElem? htr)
 have hS:=jl.1
 have hQ:=jl.2
 have hSr:=kS.1
 have hQr:=kS.2
 dsimp only at hS hQ hSr hQr
 obtain ⟨qp,j4,rfl,-,sP⟩:=hQ.len
 obtain ⟨qpr,sG,rfl,-,-⟩:=hQr.len
 have hxl:x<n:=by rw [hO.len];exact (List.getElem?_eq_some_iff.1 ht).1
 have hjl:j<n:=by rw [hO.len];exact (List.getElem?_eq_some_iff.1 htr).1
 have Ht:=Lib.hid ht
 have Htr:=Lib.hid htr
 have t1:T<w.heap.size+1:=by omega
 have t2:T<w.heap.size+1+1:=by omega
 have t3:T<w.heap.size+1+1+1:=by omega
 have x0:(0:Int)≤(x:Int):=by omega
 have xn:(x:Int)<(n:Int):=by omega
 have j0:(0:Int)≤(j:Int):=by omega
 have jn:(j:Int)<(n:Int):=by omega
 obtain ⟨sp,fE,rfl,-,-⟩:=hS.len
 obtain ⟨spr,xB,rfl,-,-⟩:=hSr.len
 clear ht htr hSr hQr
 go_enter Tryz.func96,Tryz.ntmps96
 go_upto_region 3 with (fail)
 go_cut [4,5,6,7,8,9] (fun s4 s5 s6 s7 s8 s9 wx=>s6=.int .i64 0∧s9=.int .i64 0∧s4=.pointer (some ⟨w.heap.size,0,none⟩)∧s5=.pointer (some ⟨w.heap.size+1,0,none⟩)∧s7=.pointer (some ⟨w.heap.size+1+1,0,none⟩)∧s8=.pointer (some ⟨w.heap.size+1+1+1,0,none⟩)∧Below w.heap.size w wx∧w.heap.size+1+1+1<wx.heap.size ∧
  (wx.cell? ⟨w.heap.size+1+1,0,none⟩=some (.int .i64 t.kind)∧wx.cell? ⟨w.heap.size+1+1,1,none⟩=some (.int .i64 t.lab.s)∧wx.cell? ⟨w.heap.size+1+1,2,none⟩=some (.int .i64 t.lab.v)∧wx.cell? ⟨w.heap.size+1+1,3,none⟩=some (.int .i64 t.aJ)∧wx.cell? ⟨w.heap.size+1+1,4,none⟩=some (.int .i64 t.num)∧wx.cell? ⟨w.heap.size+1+1,5,none⟩=some (.slice sp t.slots.length fE)∧wx.cell? ⟨w.heap.size+1+1,6,none⟩=some (.slice qp t.queue.length j4)∧wx.cell? ⟨w.heap.size+1+1,7,none⟩=some (.int .i64 t.to))∧wx.cell? ⟨w.heap.size,4,none⟩=some (.int .i64 cn)∧wx.cell? ⟨w.heap.size,0,none⟩=some (.int .i64 7)∧wx.cell? ⟨w.heap.size+1,0,none⟩=some (.int .i64 ((x:Int)+1))∧(∀ j,j<8→wx.frozen? ⟨w.heap.size+1+1,j,none⟩=false))
 case first=>
  go_wp2
  go_meet
  refine ⟨rfl,rfl,rfl,rfl,rfl,rfl,(by (repeat (with_reducible first|exact bA _ _|refine bB ?_ ?_ _|refine bC ?_ _|refine bD ?_|refine bE ?_ ?_ _|refine bF ?_ (by assumption) ?_))<;>first|omega|(simp;try omega)),by simp [World.setCell],?_,?_,?_,?_,?_⟩<;>first|(intro j hj;go_simp;done)|go_simp
 case rest=>
  obtain ⟨rfl,rfl,rfl,rfl,rfl,rfl,hBw,hzx,⟨p0,p1,p2,p3,p4,p5,p6,p7⟩,g1,g2,q3,hfz⟩:=hcut
  obtain ⟨wx,rfl⟩:∃ wx:World,wx=wc:=⟨_,rfl⟩
  have hO':=hO.pure hBw
  have hf':∀ j,wx.frozen? ⟨T,j,none⟩=false:=fun j=>(hBw.frozen (p:=⟨T,j,none⟩) hTl).trans (hf j)
  have z0:¬ w.heap.size+1+1=T:=by omega
  have z1:w.heap.size<wx.heap.size:=by omega
  have z2:w.heap.size+1<wx.heap.size:=by omega
  have z3:w.heap.size+1+1<wx.heap.size:=by omega
  have hTx:T<wx.heap.size:=by omega
  have hc4:∀ o,wx.cell? ⟨T,o,none⟩=w.cell? ⟨T,o,none⟩:=fun o=>hBw.cell (p:=⟨T,o,none⟩) hTl
  rw [← hc4] at c0 c1 c2 c3 c4 c5 c6 c7
  have fz0:=hfz 0 (by decide)
  have fz1:=hfz 1 (by decide)
  have fz2:=hfz 2 (by decide)
  have fz3:=hfz 3 (by decide)
  have fz4:=hfz 4 (by decide)
  have fz5:=hfz 5 (by decide)
  have fz6:=hfz 6 (by decide)
  have fz7:=hfz 7 (by decide)
  clear hc4 hf hfz f0 f1 f2 f3 f4 f5 f6 f7
  obtain ⟨i1,hi1,hy0,hy1,hy2⟩:=info_parts jb
  have hQx:aG wx (.slice qp t.queue.length j4) t.queue:=hQ.pure hBw
  rw [hq,List.length_cons] at p6 c6 hQx
  obtain ⟨bq,oq,e,hbl,qc0⟩:=hQx.at 0 q rfl
  subst e
  rw [Nat.add_zero] at qc0
  have hQ2:=hQx
  clear hQ hQx
  have hQt:=Rows.tail1 (c:=intCells q) (cs:=qs.map intCells) (by rw [List.length_map];exact hQ2)
  rw [List.length_map] at hQt
  have Hq:=Lib.hid hq
  have hqn:((qs.length:Nat):Int)+1≠0:=by omega
  clear hq
  go_upto_region 35 with (at_builtin;go_loud (refine aL rfl (.tmp 94) (.tmp 97) 30 rfl wx.heap.size 3 i1 _ 1 8 Tryz.underlying30 hi1 hy0 hy1 hy2 rfl (by decide) (.slice (some ⟨wx.heap.size,0,none⟩) 0 0) 0 [] rfl (ny wx.heap.size rfl (Nat.le_refl _)) _ (qs.map intCells) rfl (bI _) (Rows.pure hQt (by (repeat (with_reducible first|exact bA _ _|refine bB ?_ ?_ _|refine bC ?_ _|refine bD ?_|refine bE ?_ ?_ _|refine bF ?_ (by assumption) ?_))<;>first|omega|(simp;try omega))) (by simp [maxLen]<;>omega) (by simp<;>omega) (by simp) ?_);intro v1 w1 ho1 hg1;obtain ⟨q1,n1,k1,rfl⟩:=gI ho1;have hb1:Below wx.heap.size wx w1:=((Below.refl _ wx).alloc (Nat.le_refl _) _).grown hg1 (by simp) (fun k hk=>by simp [Value.ownBlock] at hk;omega);obtain ⟨hc1,hf1⟩:=ax hb1;have p6x:=(hc1 (w.heap.size+1+1) 6 z3).trans p6)
  all_goals
   have Ez:w1.ownsRow wx.heap.size 3 1 (Value.slice q1 n1 k1) (qs.map intCells).length ((qs.map intCells).flatten):=by simpa using ho1
   have hI1:aG w1 (Value.slice q1 n1 k1) qs:=Rows.dH (bI qs) Ez
   have hB1:∀ k,(Value.slice q1 n1 k1).ownBlock=some k→wx.heap.size≤k:=fun k hk=>(Ez.lt k hk).1
   have hH1:Held w1 (fun b=>wx.heap.size≤b) (fun _=>0) 0 (Value.slice q1 n1 k1):=Held.dH Ez (fun b hb=>⟨hB1 b hb,rfl⟩)
   clear ho1 Ez hQ2 hQt hc1 hf1 p6x
   obtain ⟨wy,hwy⟩:∃ wy:World,wy=w1.setCell ⟨w.heap.size+1+1,6,none⟩ (Value.slice q1 n1 k1):=⟨_,rfl⟩
   have hby:Below w.heap.size w wy:=by rw [hwy];exact (hBw.trans (hb1.mono (by omega))).setCell (p:=⟨w.heap.size+1+1,6,none⟩) (by show w.heap.size≤w.heap.size+1+1;omega) _
   have hcP:∀ a:Nat,a≠6→wy.cell? ⟨w.heap.size+1+1,a,none⟩=wx.cell? ⟨w.heap.size+1+1,a,none⟩:=by
    intro a ha
    rw [hwy,ag,if_neg (by intro e;simp only [Addr.mk.injEq] at e;omega)]
    exact hb1.cell (p:=⟨w.heap.size+1+1,a,none⟩) z3
   have p6':wy.cell? ⟨w.heap.size+1+1,6,none⟩=some (Value.slice q1 n1 k1):=by
    rw [hwy,ag,if_pos rfl,hb1.cell (p:=⟨w.heap.size+1+1,6,none⟩) z3,p6];rfl
   have q3':wy.cell? ⟨w.heap.size+1,0,none⟩=some (.int .i64 ((x:Int)+1)):=by
    rw [hwy,ag,if_neg (by intro e;simp only [Addr.mk.injEq] at e;omega),hb1.cell (p:=⟨w.heap.size+1,0,none⟩) z2];exact q3
   have hcT:∀ a:Nat,wy.cell? ⟨T,a,none⟩=w.cell? ⟨T,a,none⟩:=fun a=>hby.cell (p:=⟨T,a,none⟩) hTl
   have Li:∀ a:Nat,wx.cell? ⟨T,a,none⟩=w.cell? ⟨T,a,none⟩:=fun a=>hBw.cell (p:=⟨T,a,none⟩) hTl
   rw [Li,← hcT] at c0 c1 c2 c3 c4 c5 c6 c7
   rw [← hcP _ (by decide)] at p0 p1 p2 p3 p4 p5 p7
   have hf2:∀ j,wy.frozen? ⟨T,j,none⟩=false:=fun j=>(hby.frozen (p:=⟨T,j,none⟩) hTl).trans ((hBw.frozen (p:=⟨T,j,none⟩) hTl).symm.trans (hf' j))
   have hIy:aG wy (Value.slice q1 n1 k1) (qs):=by
    rw [hwy]
    refine Rows.kept (S:=fun b=>b=w.heap.size+1+1) hI1 (Chg.setCell (S:=fun b=>b=w.heap.size+1+1) (p:=⟨w.heap.size+1+1,6,none⟩) (Chg.refl _ _) rfl _) (.inr fun k hk e=>?_)
    have:=hB1 k hk
    omega
   have hHy:dJ wy w.heap.size (Value.slice q1 n1 k1):=by
    rw [hwy]
    exact (hH1.chg (S:=fun b=>b=w.heap.size+1+1) (Chg.setCell (S:=fun b=>b=w.heap.size+1+1) (p:=⟨w.heap.size+1+1,6,none⟩) (Chg.refl _ _) rfl _) (fun b _ h1 h2=>by omega)).imp (fun b h1 h2 h3=>⟨by omega,rfl⟩)
   obtain ⟨tag',hh,hh2⟩:=hO.FH (w1:=wy) (t':=bJ (qs) t) (sv:=.slice sp t.slots.length fE) (qv:=(Value.slice q1 n1 k1)) Ht.out hby hup (hS.pure hby) hIy (.inl rfl) hHy (fun b c h1 h2 h3 h4 h5=>by
    have h3':0<t.slots.length:=h3
    obtain ⟨b',o',e,hl,-⟩:=hS.at 0 (t.slots[0]'h3') (by simp)
    subst e
    cases h1
    exact absurd hl (Nat.not_lt.2 h5))
   have fin:aA w _ P (.slice (some ⟨T,o,none⟩) n cap) (dD (xs.map (·.1)) ((x:Int)+1) (bJ (qs))):=⟨_,_,hh,aB Ht.out rfl,hh2⟩
   have Fin:=Lib.hid fin
   have y0:T<wy.heap.size:=by have:=hby.size;omega
   rw [← hwy]
   clear fin hh hh2 hwy hcP hcT Li p6 q3 hf'
   go_wp2
   all_goals (go_ret;exact ⟨rfl,Fin.out⟩)
end
end Go.Proofs.YthhmolonhpaepaaGreatDoor
namespace Go.Proofs.YthhmolonhpaepaaGreatDoor
open Go.RowKit Drw
attribute [local go_sem] Lab.val Rgt.val Cal.val Thg.val
attribute [local go_sem] NU NT
section
variable {P:Nat→Prop} {tag:Nat→Nat} {T o n cap:Nat} {xs:List Thx} {c:Cal} {r:Rgt} {w:World} {x j:Nat} {t tr:Thg} {sv qv svr qvr:Value}
set_option maxRecDepth 100000 in
set_option maxHeartbeats 4000000 in
theorem far8 (hO:au w P tag (.slice (some ⟨T,o,none⟩) n cap) xs) (hup:∀ b,w.heap.size≤b→P b) (hx:r.thing=(x:Int)+1) (ht:xs[x]?=some (t,sv,qv)) (hj:c.run=(j:Int)+1) (htr:xs[j]?=some (tr,svr,qvr)) (HN:0≤c.n∧c.n≤99) (hn:n≤65536) (hk:c.kind=8)  (hv:¬ 5≤t.aJ) (hv0:0≤t.aJ) (hok:aP (az t.kind t.lab t.to)=true):
  Calls Tryz.prog 96 #[.slice (some ⟨T,o,none⟩) n cap,c.val,r.val] w fun e w'=>e=.returned (.int .i64 (0))∧aA w w' P (.slice (some ⟨T,o,none⟩) n cap) (dD (xs.map (·.1)) ((x:Int)+1) dA):=by
 obtain ⟨ck,H7,ca,cb,cn⟩:=c
 obtain ⟨rt,rv,rrd,rwr,rwk⟩:=r
 dsimp only at hx hj hk HN
 subst hx
 subst hj
 subst hk
 obtain ⟨c0,c1,c2,c3,c4,c5,c6,c7⟩:=hO.cells ht
 obtain ⟨f0,f1,f2,f3,f4,f5,f6,f7⟩:=hO.cells htr
 obtain ⟨-,hPT,hT0,hTl,hf⟩:=hO.pos ht
 have jl:=hO.dK.2 _ (List.mem_of_getElem? ht)
 have kS:=hO.dK.2 _ (List.mem_of_getElem? htr)
 have hS:=jl.1
 have hQ:=jl.2
 have hSr:=kS.1
 have hQr:=kS.2
 dsimp only at hS hQ hSr hQr
 obtain ⟨qp,j4,rfl,-,sP⟩:=hQ.len
 obtain ⟨qpr,sG,rfl,-,-⟩:=hQr.len
 have hxl:x<n:=by rw [hO.len];exact (List.getElem?_eq_some_iff.1 ht).1
 have hjl:j<n:=by rw [hO.len];exact (List.getElem?_eq_some_iff.1 htr).1
 have Ht:=Lib.hid ht
 have Htr:=Lib.hid htr
 have t1:T<w.heap.size+1:=by omega
 have t2:T<w.heap.size+1+1:=by omega
 have t3:T<w.heap.size+1+1+1:=by omega
 have x0:(0:Int)≤(x:Int):=by omega
 have xn:(x:Int)<(n:Int):=by omega
 have j0:(0:Int)≤(j:Int):=by omega
 have jn:(j:Int)<(n:Int):=by omega
 obtain ⟨sp,fE,rfl,-,-⟩:=hS.len
 obtain ⟨spr,xB,rfl,-,-⟩:=hSr.len
 clear ht htr hSr hQr
 go_enter Tryz.func96,Tryz.ntmps96
 go_upto_region 3 with (fail)
 go_cut [4,5,6,7,8,9] (fun s4 s5 s6 s7 s8 s9 wx=>s6=.int .i64 0∧s9=.int .i64 0∧s4=.pointer (some ⟨w.heap.size,0,none⟩)∧s5=.pointer (some ⟨w.heap.size+1,0,none⟩)∧s7=.pointer (some ⟨w.heap.size+1+1,0,none⟩)∧s8=.pointer (some ⟨w.heap.size+1+1+1,0,none⟩)∧Below w.heap.size w wx∧w.heap.size+1+1+1<wx.heap.size ∧
  (wx.cell? ⟨w.heap.size+1+1,0,none⟩=some (.int .i64 t.kind)∧wx.cell? ⟨w.heap.size+1+1,1,none⟩=some (.int .i64 t.lab.s)∧wx.cell? ⟨w.heap.size+1+1,2,none⟩=some (.int .i64 t.lab.v)∧wx.cell? ⟨w.heap.size+1+1,3,none⟩=some (.int .i64 t.aJ)∧wx.cell? ⟨w.heap.size+1+1,4,none⟩=some (.int .i64 t.num)∧wx.cell? ⟨w.heap.size+1+1,5,none⟩=some (.slice sp t.slots.length fE)∧wx.cell? ⟨w.heap.size+1+1,6,none⟩=some (.slice qp t.queue.length j4)∧wx.cell? ⟨w.heap.size+1+1,7,none⟩=some (.int .i64 t.to))∧wx.cell? ⟨w.heap.size,4,none⟩=some (.int .i64 cn)∧wx.cell? ⟨w.heap.size,0,none⟩=some (.int .i64 8)∧wx.cell? ⟨w.heap.size+1,0,none⟩=some (.int .i64 ((x:Int)+1))∧(∀ j,j<8→wx.frozen? ⟨w.heap.size+1+1,j,none⟩=false))
 case first=>
  go_wp2
  go_meet
  refine ⟨rfl,rfl,rfl,rfl,rfl,rfl,(by (repeat (with_reducible first|exact bA _ _|refine bB ?_ ?_ _|refine bC ?_ _|refine bD ?_|refine bE ?_ ?_ _|refine bF ?_ (by assumption) ?_))<;>first|omega|(simp;try omega)),by simp [World.setCell],?_,?_,?_,?_,?_⟩<;>first|(intro j hj;go_simp;done)|go_simp
 case rest=>
  obtain ⟨rfl,rfl,rfl,rfl,rfl,rfl,hBw,hzx,⟨p0,p1,p2,p3,p4,p5,p6,p7⟩,g1,g2,q3,hfz⟩:=hcut
  obtain ⟨wx,rfl⟩:∃ wx:World,wx=wc:=⟨_,rfl⟩
  have hO':=hO.pure hBw
  have hf':∀ j,wx.frozen? ⟨T,j,none⟩=false:=fun j=>(hBw.frozen (p:=⟨T,j,none⟩) hTl).trans (hf j)
  have z0:¬ w.heap.size+1+1=T:=by omega
  have z1:w.heap.size<wx.heap.size:=by omega
  have z2:w.heap.size+1<wx.heap.size:=by omega
  have z3:w.heap.size+1+1<wx.heap.size:=by omega
  have hTx:T<wx.heap.size:=by omega
  have hc4:∀ o,wx.cell? ⟨T,o,none⟩=w.cell? ⟨T,o,none⟩:=fun o=>hBw.cell (p:=⟨T,o,none⟩) hTl
  rw [← hc4] at c0 c1 c2 c3 c4 c5 c6 c7
  have fz0:=hfz 0 (by decide)
  have fz1:=hfz 1 (by decide)
  have fz2:=hfz 2 (by decide)
  have fz3:=hfz 3 (by decide)
  have fz4:=hfz 4 (by decide)
  have fz5:=hfz 5 (by decide)
  have fz6:=hfz 6 (by decide)
  have fz7:=hfz 7 (by decide)
  clear hc4 hf hfz f0 f1 f2 f3 f4 f5 f6 f7
  have hnew:dx t.kind t.lab t.to=az t.kind t.lab t.to:=by rw [dx,if_pos hok]
  have Hnew:=Lib.hid hnew
  have Hok:=Lib.hid hok
  obtain ⟨lm,hlm⟩:∃ lm,(az t.kind t.lab t.to).slots.length=lm:=⟨_,rfl⟩
  have Hlm:=Lib.hid hlm
  clear hnew hok hlm
  go_upto_region 35 with (go_at_call 82;refine (zA _ ⟨_,_⟩ _ _).mono ?_;rintro e w1 ⟨sv1,qv1,rfl,hS1,hQ1,hHs,hHq,hb1⟩;rw [Hnew.out] at hS1 hQ1 ⊢;rw [Hok.out];obtain ⟨sp1,sc1,hsv,-,-⟩:=hS1.len;rw [Hlm.out] at hsv;subst hsv;obtain ⟨qp1,qc1,hqv,-,hqc1⟩:=hQ1.len;have hqv':qv1=.slice qp1 0 qc1:=hqv;clear hqv;subst hqv';dsimp only [az,Thg.val];obtain ⟨hc1,hf1⟩:=ax hb1;have y1:w.heap.size+1+1<w1.heap.size:=(by have:=hb1.size;omega);have y2:w.heap.size+1<w1.heap.size:=(by omega))
  obtain ⟨wz,hwz⟩:∃ wz:World,wz=(((((((w1.setCell ⟨w.heap.size+1+1,0,none⟩ (.int .i64 t.kind)).setCell ⟨w.heap.size+1+1,1,none⟩ (.int .i64 t.lab.s)).setCell ⟨w.heap.size+1+1,2,none⟩ (.int .i64 t.lab.v)).setCell ⟨w.heap.size+1+1,3,none⟩ (.int .i64 (t.aJ+1))).setCell ⟨w.heap.size+1+1,4,none⟩ (.int .i64 0)).setCell ⟨w.heap.size+1+1,5,none⟩ (.slice sp1 lm sc1)).setCell ⟨w.heap.size+1+1,6,none⟩ (.slice qp1 0 qc1)).setCell ⟨w.heap.size+1+1,7,none⟩ (.int .i64 t.to):=⟨_,rfl⟩
  have hgz:Chg (fun b=>b=w.heap.size+1+1) w1 wz:=by
   rw [hwz]
   (repeat (with_reducible refine Chg.setCell ?_ ?_ _))<;>first|exact Chg.refl _ _|rfl
  have h1p:∀ a v,wx.cell? ⟨w.heap.size+1+1,a,none⟩=some v→(w1.cell? ⟨w.heap.size+1+1,a,none⟩).isSome=true:=fun a v e=>by rw [hc1 _ _ z3,e];rfl
  have g0:wz.cell? ⟨w.heap.size+1+1,0,none⟩=some (.int .i64 t.kind):=by rw [hwz];simp [ag,hc1 _ _ z3,p0]
  have g1':wz.cell? ⟨w.heap.size+1+1,1,none⟩=some (.int .i64 t.lab.s):=by rw [hwz];simp [ag,hc1 _ _ z3,p1]
  have g2':wz.cell? ⟨w.heap.size+1+1,2,none⟩=some (.int .i64 t.lab.v):=by rw [hwz];simp [ag,hc1 _ _ z3,p2]
  have g3:wz.cell? ⟨w.heap.size+1+1,3,none⟩=some (.int .i64 (t.aJ+1)):=by rw [hwz];simp [ag,hc1 _ _ z3,p3]
  have g4:wz.cell? ⟨w.heap.size+1+1,4,none⟩=some (.int .i64 0):=by rw [hwz];simp [ag,hc1 _ _ z3,p4]
  have g5:wz.cell? ⟨w.heap.size+1+1,5,none⟩=some (.slice sp1 lm sc1):=by rw [hwz];simp [ag,hc1 _ _ z3,p5]
  have g6:wz.cell? ⟨w.heap.size+1+1,6,none⟩=some (.slice qp1 0 qc1):=by rw [hwz];simp [ag,hc1 _ _ z3,p6]
  have g7:wz.cell? ⟨w.heap.size+1+1,7,none⟩=some (.int .i64 t.to):=by rw [hwz];simp [ag,hc1 _ _ z3,p7]
  have q3':wz.cell? ⟨w.heap.size+1,0,none⟩=some (.int .i64 ((x:Int)+1)):=(hgz.cell ((hc1 _ _ z2).trans q3) (by show ¬ w.heap.size+1=_;omega))
  have hbz:Below w.heap.size w wz:=(hBw.trans (hb1.mono (by omega))).trans (Chg.below hgz (by omega) (fun k hk e=>by omega))
  have hcT:∀ a:Nat,wz.cell? ⟨T,a,none⟩=w.cell? ⟨T,a,none⟩:=fun a=>hbz.cell (p:=⟨T,a,none⟩) hTl
  have Li:∀ a:Nat,wx.cell? ⟨T,a,none⟩=w.cell? ⟨T,a,none⟩:=fun a=>hBw.cell (p:=⟨T,a,none⟩) hTl
  rw [Li,← hcT] at c0 c1 c2 c3 c4 c5 c6 c7
  have hf2:∀ j,wz.frozen? ⟨T,j,none⟩=false:=fun j=>(hbz.frozen (p:=⟨T,j,none⟩) hTl).trans ((hBw.frozen (p:=⟨T,j,none⟩) hTl).symm.trans (hf' j))
  have y0:T<wz.heap.size:=by have:=hbz.size;omega
  have y3:w.heap.size+1+1<wz.heap.size:=by have:=hgz.size;omega
  have y4:w.heap.size+1<wz.heap.size:=by omega
  have hz1:w.heap.size≤wx.heap.size:=by omega
  have hSz:aF wz (.slice sp1 lm sc1) (az t.kind t.lab t.to).slots:=Rows.held hS1 hHs hgz (fun b _ h1 h2=>by omega)
  have hHz:dJ wz w.heap.size (.slice sp1 lm sc1):=(hHs.chg hgz (fun b _ h1 h2=>by omega)).imp (fun b h1 h2 h3=>⟨by omega,rfl⟩)
  rw [← hwz]
  clear hwz h1p hc1 hf1 p0 p1 p2 p3 p4 p5 p6 p7 q3 hf' hcT Li fz0 fz1 fz2 fz3 fz4 fz5 fz6 fz7 g1 g2
  obtain ⟨tag',hh,hh2⟩:=hO.FH (t':=dA t) (sv:=.slice sp1 lm sc1) (qv:=.slice qp1 0 qc1) Ht.out hbz hup hSz ⟨_,_,rfl,by simp [dA],hqc1,.inl rfl⟩ (.inr hHz) Held.nil (fun b c h1 h2 h3 h4 h5=>by
   have h4':0<0:=h4
   omega)
  simp only [show (dA t).kind=t.kind from rfl,show (dA t).lab=t.lab from rfl,show (dA t).aJ=t.aJ+1 from rfl,show (dA t).num=0 from rfl,show (dA t).to=t.to from rfl] at hh hh2
  have fin:aA w _ P (.slice (some ⟨T,o,none⟩) n cap) (dD (xs.map (·.1)) ((x:Int)+1) dA):=⟨_,_,hh,aB Ht.out rfl,hh2⟩
  have Fin:=Lib.hid fin
  clear fin hh hh2
  go_wp2
  all_goals (go_ret;exact ⟨rfl,aA.below Fin.out (by (repeat (with_reducible refine Below.alloc ?_ ?_ _))<;>first|exact Below.refl _ _|(simp [World.setCell];done)|(simp [World.setCell];omega))⟩)
end
end Go.Proofs.YthhmolonhpaepaaGreatDoor
namespace Go.Proofs.YthhmolonhpaepaaGreatDoor
open Go.RowKit Drw
attribute [local go_sem] Lab.val Rgt.val Cal.val Thg.val
attribute [local go_sem] NU NT
section
variable {P:Nat→Prop} {tag:Nat→Nat} {T o n cap:Nat} {xs:List Thx} {c:Cal} {r:Rgt} {w:World} {x j:Nat} {t tr:Thg} {sv qv svr qvr:Value}
set_option maxRecDepth 100000 in
set_option maxHeartbeats 4000000 in
theorem far9 {g:Nat} {tp:Thg} {svp qvp:Value} (hO:au w P tag (.slice (some ⟨T,o,none⟩) n cap) xs) (hup:∀ b,w.heap.size≤b→P b) (hx:r.thing=(x:Int)+1) (ht:xs[x]?=some (t,sv,qv)) (hj:c.run=(j:Int)+1) (htr:xs[j]?=some (tr,svr,qvr)) (HN:0≤c.n∧c.n≤99) (hn:n≤65536) (hk:c.kind=9)  (hto:t.to=(g:Int)+1) (hg:xs[g]?=some (tp,svp,qvp)) (hgx:g≠x) (h0:0≤t.num) (h9:t.num≤99):
  Calls Tryz.prog 96 #[.slice (some ⟨T,o,none⟩) n cap,c.val,r.val] w fun e w'=>e=.returned (.int .i64 (0))∧aA w w' P (.slice (some ⟨T,o,none⟩) n cap) (dD (dD (xs.map (·.1)) ((g:Int)+1) (aS (c.n % 2))) ((x:Int)+1) (fun t=>aS (min (t.num+1) 99) t)):=by
 obtain ⟨ck,H7,ca,cb,cn⟩:=c
 obtain ⟨rt,rv,rrd,rwr,rwk⟩:=r
 dsimp only at hx hj hk HN
 subst hx
 subst hj
 subst hk
 obtain ⟨c0,c1,c2,c3,c4,c5,c6,c7⟩:=hO.cells ht
 obtain ⟨f0,f1,f2,f3,f4,f5,f6,f7⟩:=hO.cells htr
 obtain ⟨-,hPT,hT0,hTl,hf⟩:=hO.pos ht
 have jl:=hO.dK.2 _ (List.mem_of_getElem? ht)
 have kS:=hO.dK.2 _ (List.mem_of_getElem? htr)
 have hS:=jl.1
 have hQ:=jl.2
 have hSr:=kS.1
 have hQr:=kS.2
 dsimp only at hS hQ hSr hQr
 obtain ⟨qp,j4,rfl,-,sP⟩:=hQ.len
 obtain ⟨qpr,sG,rfl,-,-⟩:=hQr.len
 have hxl:x<n:=by rw [hO.len];exact (List.getElem?_eq_some_iff.1 ht).1
 have hjl:j<n:=by rw [hO.len];exact (List.getElem?_eq_some_iff.1 htr).1
 have Ht:=Lib.hid ht
 have Htr:=Lib.hid htr
 have t1:T<w.heap.size+1:=by omega
 have t2:T<w.heap.size+1+1:=by omega
 have t3:T<w.heap.size+1+1+1:=by omega
 have x0:(0:Int)≤(x:Int):=by omega
 have xn:(x:Int)<(n:Int):=by omega
 have j0:(0:Int)≤(j:Int):=by omega
 have jn:(j:Int)<(n:Int):=by omega
 obtain ⟨d0,d1,d2,d3,d4,d5,d6,d7⟩:=hO.cells hg
 have hgl:g<n:=by rw [hO.len];exact (List.getElem?_eq_some_iff.1 hg).1
 have Hg:=Lib.hid hg
 have Hgx:=Lib.hid hgx
 obtain ⟨m1,m2⟩:=mod2 HN.1 HN.2
 obtain ⟨k2',hk2⟩:∃ k,cn % 2=k:=⟨_,rfl⟩
 dsimp only
 rw [hk2] at m1 m2 ⊢
 have Hto:=Lib.hid hto
 clear hg hgx hto hk2
 obtain ⟨sp,fE,rfl,-,-⟩:=hS.len
 obtain ⟨spr,xB,rfl,-,-⟩:=hSr.len
 clear ht htr hSr hQr
 go_enter Tryz.func96,Tryz.ntmps96
 go_upto_region 3 with (fail)
 go_cut [4,5,6,7,8,9] (fun s4 s5 s6 s7 s8 s9 wx=>s6=.int .i64 0∧s9=.int .i64 0∧s4=.pointer (some ⟨w.heap.size,0,none⟩)∧s5=.pointer (some ⟨w.heap.size+1,0,none⟩)∧s7=.pointer (some ⟨w.heap.size+1+1,0,none⟩)∧s8=.pointer (some ⟨w.heap.size+1+1+1,0,none⟩)∧Below w.heap.size w wx∧w.heap.size+1+1+1<wx.heap.size ∧
  (wx.cell? ⟨w.heap.size+1+1,0,none⟩=some (.int .i64 t.kind)∧wx.cell? ⟨w.heap.size+1+1,1,none⟩=some (.int .i64 t.lab.s)∧wx.cell? ⟨w.heap.size+1+1,2,none⟩=some (.int .i64 t.lab.v)∧wx.cell? ⟨w.heap.size+1+1,3,none⟩=some (.int .i64 t.aJ)∧wx.cell? ⟨w.heap.size+1+1,4,none⟩=some (.int .i64 t.num)∧wx.cell? ⟨w.heap.size+1+1,5,none⟩=some (.slice sp t.slots.length fE)∧wx.cell? ⟨w.heap.size+1+1,6,none⟩=some (.slice qp t.queue.length j4)∧wx.cell? ⟨w.heap.size+1+1,7,none⟩=some (.int .i64 t.to))∧wx.cell? ⟨w.heap.size,4,none⟩=some (.int .i64 cn)∧wx.cell? ⟨w.heap.size,0,none⟩=some (.int .i64 9)∧wx.cell? ⟨w.heap.size+1,0,none⟩=some (.int .i64 ((x:Int)+1))∧(∀ j,j<8→wx.frozen? ⟨w.heap.size+1+1,j,none⟩=false))
 case first=>
  go_wp2
  go_meet
  refine ⟨rfl,rfl,rfl,rfl,rfl,rfl,(by (repeat (with_reducible first|exact bA _ _|refine bB ?_ ?_ _|refine bC ?_ _|refine bD ?_|refine bE ?_ ?_ _|refine bF ?_ (by assumption) ?_))<;>first|omega|(simp;try omega)),by simp [World.setCell],?_,?_,?_,?_,?_⟩<;>first|(intro j hj;go_simp;done)|go_simp
 case rest=>
  obtain ⟨rfl,rfl,rfl,rfl,rfl,rfl,hBw,hzx,⟨p0,p1,p2,p3,p4,p5,p6,p7⟩,q1,q2,q3,hfz⟩:=hcut
  obtain ⟨wx,rfl⟩:∃ wx:World,wx=wc:=⟨_,rfl⟩
  have hO':=hO.pure hBw
  have hf':∀ j,wx.frozen? ⟨T,j,none⟩=false:=fun j=>(hBw.frozen (p:=⟨T,j,none⟩) hTl).trans (hf j)
  have z0:¬ w.heap.size+1+1=T:=by omega
  have z1:w.heap.size<wx.heap.size:=by omega
  have z2:w.heap.size+1<wx.heap.size:=by omega
  have z3:w.heap.size+1+1<wx.heap.size:=by omega
  have hTx:T<wx.heap.size:=by omega
  have hc4:∀ o,wx.cell? ⟨T,o,none⟩=w.cell? ⟨T,o,none⟩:=fun o=>hBw.cell (p:=⟨T,o,none⟩) hTl
  rw [← hc4] at c0 c1 c2 c3 c4 c5 c6 c7
  have k0:=hfz 0 (by decide)
  have k1:=hfz 1 (by decide)
  have k2:=hfz 2 (by decide)
  have k3:=hfz 3 (by decide)
  have k4:=hfz 4 (by decide)
  have k5:=hfz 5 (by decide)
  have k6:=hfz 6 (by decide)
  have k7:=hfz 7 (by decide)
  clear hc4 hf hfz f0 f1 f2 f3 f4 f5 f6 f7
  rw [Hto.out] at p7 c7
  have hg0:(0:Int)≤(g:Int):=by omega
  have hgn:(g:Int)<(n:Int):=by omega
  have hw1:IntKind.i64.wrap ((g:Int)+1 - 1)=(g:Int):=by rw [show (g:Int)+1 - 1=g by omega];exact IntWalk.i64_in _ (by omega)
  have hw2:IntKind.i64.wrap (g:Int)=(g:Int):=IntWalk.i64_in _ (by omega)
  have hc4:∀ o,wx.cell? ⟨T,o,none⟩=w.cell? ⟨T,o,none⟩:=fun o=>hBw.cell (p:=⟨T,o,none⟩) hTl
  rw [← hc4] at d0 d1 d2 d3 d4 d5 d6 d7
  clear hc4
  have hsx:(xs.set g (aS k2' tp,svp,qvp))[x]?=some (t,.slice sp t.slots.length fE,.slice qp t.queue.length j4):=by rw [List.getElem?_set_ne Hgx.out];exact Ht.out
  have z5:¬ T=w.heap.size+1+1:=by omega
  go_upto_region 35 with (fail)
  obtain ⟨v,hv⟩:∃ v:Int,(if 99<t.num+1 then (99:Int) else t.num+1)=v:=⟨_,rfl⟩
  have hv':v=min (t.num+1) 99:=by rw [← hv];split<;>omega
  rw [hv]
  obtain ⟨wy,hwy⟩:∃ wy:World,wy=(wx.setCell ⟨w.heap.size+1+1,4,none⟩ (.int .i64 v)).setCell ⟨T,o+g * 8+4,none⟩ (.int .i64 k2'):=⟨_,rfl⟩
  have hne:∀ a:Nat,a<8→¬ (o+g * 8+4=o+x * 8+a):=fun a ha e=>by have:=Hgx.out;omega
  have hcT:∀ a:Nat,a<8→wy.cell? ⟨T,o+x * 8+a,none⟩=wx.cell? ⟨T,o+x * 8+a,none⟩:=by
   intro a ha
   rw [hwy,ag,if_neg (by intro e;simp only [Addr.mk.injEq] at e;exact hne a ha e.2.1),ag,if_neg (by intro e;simp only [Addr.mk.injEq] at e;omega)]
  have hcP:∀ a:Nat,a<8→a≠4→wy.cell? ⟨w.heap.size+1+1,a,none⟩=wx.cell? ⟨w.heap.size+1+1,a,none⟩:=by
   intro a ha h4
   rw [hwy,ag,if_neg (by intro e;simp only [Addr.mk.injEq] at e;omega),ag,if_neg (by intro e;simp only [Addr.mk.injEq] at e;omega)]
  have p4':wy.cell? ⟨w.heap.size+1+1,4,none⟩=some (.int .i64 v):=by
   rw [hwy,ag,if_neg (by intro e;simp only [Addr.mk.injEq] at e;omega),ag,if_pos rfl,p4];rfl
  rw [← hcT 1 (by decide)] at c1
  rw [← hcT 2 (by decide)] at c2
  rw [← hcT 3 (by decide)] at c3
  rw [← hcT 4 (by decide)] at c4
  rw [← hcT 5 (by decide)] at c5
  rw [← hcT 6 (by decide)] at c6
  rw [← hcT 7 (by decide)] at c7
  have c0':=(hcT 0 (by decide)).trans c0
  rw [Nat.add_zero] at c0'
  rw [← hcP 0 (by decide) (by decide)] at p0
  rw [← hcP 1 (by decide) (by decide)] at p1
  rw [← hcP 2 (by decide) (by decide)] at p2
  rw [← hcP 3 (by decide) (by decide)] at p3
  rw [← hcP 5 (by decide) (by decide)] at p5
  rw [← hcP 6 (by decide) (by decide)] at p6
  rw [← hcP 7 (by decide) (by decide)] at p7
  have q3':wy.cell? ⟨w.heap.size+1,0,none⟩=some (.int .i64 ((x:Int)+1)):=by
   rw [hwy,ag,if_neg (by intro e;simp only [Addr.mk.injEq] at e;omega),ag,if_neg (by intro e;simp only [Addr.mk.injEq] at e;omega)];exact q3
  have hf2:∀ j,wy.frozen? ⟨T,j,none⟩=false:=fun j=>by rw [hwy,World.frozen?_setCell,World.frozen?_setCell];exact hf' j
  have hOg:au wy P tag (.slice (some ⟨T,o,none⟩) n cap) (xs.set g (aS k2' tp,svp,qvp))∧Chg P w wy:=by
   have hh0:=hO.chg (S:=fun b=>w.heap.size≤b) (w':=wx.setCell ⟨w.heap.size+1+1,4,none⟩ (.int .i64 v)) ((Chg.of_below (hBw.setCell (p:=⟨w.heap.size+1+1,4,none⟩) (by show w.heap.size≤w.heap.size+1+1;omega) _))) (fun b _ h1 h2=>by omega)
   have hh1:=hh0.num Hg.out k2'
   rw [hwy]
   exact ⟨hh1.1,(((Chg.ah hBw).setCell (S:=P) (p:=⟨w.heap.size+1+1,4,none⟩) (hup _ (by show w.heap.size≤w.heap.size+1+1;omega)) _)).trans hh1.2⟩
  rw [← hwy]
  have hh2:=hOg.1.row hsx (aS v t) rfl rfl
  have e:(aS v t).to=(g:Int)+1:=Hto.out
  rw [e] at hh2
  have fin:aA w _ P (.slice (some ⟨T,o,none⟩) n cap) (dD (dD (xs.map (·.1)) ((g:Int)+1) (aS k2')) ((x:Int)+1) (fun t=>aS (min (t.num+1) 99) t)):=
   ⟨_,_,hh2.1,by rw [aB (f:=fun t=>aS (min (t.num+1) 99) t) hsx (by rw [hv']),aB Hg.out rfl],hOg.2.trans hh2.2⟩
  have Fin:=Lib.hid fin
  have y0:T<wy.heap.size:=by rw [hwy];simpa [World.setCell] using hTx
  clear fin hh2 hOg hwy hv hv' hsx hne hcT hcP d0 d1 d2 d3 d4 d5 d6 d7 p4 q3 c0 hf' e k0 k1 k2 k3 k4 k5 k6 k7 q1 q2
  go_wp2
  go_ret
  exact ⟨rfl,Fin.out⟩
end
end Go.Proofs.YthhmolonhpaepaaGreatDoor
