/- The reference's doing of a call to a thing that is as the right says. Conditions: the table is the call's own. -/
import Derived.Test.YthhmolonhpaepaaGreatDoorVZ
import Derived.Test.YthhmolonhpaepaaGreatDoorVY
import Derived.Test.YthhmolonhpaepaaGreatDoorVW
import Derived.Test.YthhmolonhpaepaaGreatDoorVDt
import Derived.Deep.RegionLaw
set_option linter.unusedVariables false
set_option linter.unusedSimpArgs false
namespace Go.Proofs.YthhmolonhpaepaaGreatDoor
open Go.RowKit Drw
attribute [local go_sem] Lab.val Rgt.val Cal.val Thg.val
attribute [local go_sem] NU NT
section
variable {P:Nat→Prop} {tag:Nat→Nat} {T o n cap:Nat} {xs:List Thx} {c:Cal} {r:Rgt} {w:World} {x j:Nat} {t tr:Thg} {sv qv svr qvr:Value}
set_option maxRecDepth 100000 in
set_option maxHeartbeats 4000000 in
theorem far1 (hO:au w P tag (.slice (some ⟨T,o,none⟩) n cap) xs) (hup:∀ b,w.heap.size≤b→P b) (hx:r.thing=(x:Int)+1) (ht:xs[x]?=some (t,sv,qv)) (hj:c.run=(j:Int)+1) (htr:xs[j]?=some (tr,svr,qvr)) (HN:0≤c.n∧c.n≤99) (hn:n≤65536) (hk:c.kind=1) :
  Calls Tryz.prog 96 #[.slice (some ⟨T,o,none⟩) n cap,c.val,r.val] w fun e w'=>e=.returned (.int .i64 (t.num))∧aA w w' P (.slice (some ⟨T,o,none⟩) n cap) (xs.map (·.1)):=by
 obtain ⟨ck,H7,ca,cb,cn⟩:=c
 obtain ⟨rt,rv,rrd,rwr,rwk⟩:=r
 dsimp only at hx hj hk HN
 subst hx
 subst hj
 subst hk
 obtain ⟨c0,c1,c2,c3,c4,c5,c6,c7⟩:=hO.cells ht
 obtain ⟨f0,f1,f2,f3,f4,f5,f6,f7⟩:=hO.cells htr
 obtain ⟨-,hPT,hT0,hTl,hf⟩:=hO.pos ht
 have jl:=hO.dK.2 _ (List.mem_of_getElem? ht)
 have kS:=hO.dK.2 _ (List.mem_of_getElem? htr)
 have hS:=jl.1
 have hQ:=jl.2
 have hSr:=kS.1
 have hQr:=kS.2
 dsimp only at hS hQ hSr hQr
 obtain ⟨qp,j4,rfl,-,sP⟩:=hQ.len
 obtain ⟨qpr,sG,rfl,-,-⟩:=hQr.len
 have hxl:x<n:=by rw [hO.len];exact (List.getElem?_eq_some_iff.1 ht).1
 have hjl:j<n:=by rw [hO.len];exact (List.getElem?_eq_some_iff.1 htr).1
 have Ht:=Lib.hid ht
 have Htr:=Lib.hid htr
 have t1:T<w.heap.size+1:=by omega
 have t2:T<w.heap.size+1+1:=by omega
 have t3:T<w.heap.size+1+1+1:=by omega
 have x0:(0:Int)≤(x:Int):=by omega
 have xn:(x:Int)<(n:Int):=by omega
 have j0:(0:Int)≤(j:Int):=by omega
 have jn:(j:Int)<(n:Int):=by omega
 obtain ⟨sp,fE,rfl,-,-⟩:=hS.len
 obtain ⟨spr,xB,rfl,-,-⟩:=hSr.len
 clear ht htr
 go_enter Tryz.func96,Tryz.ntmps96
 go_wp2
 go_ret
 exact ⟨rfl,aA.same hO (by (repeat (with_reducible first|exact bA _ _|refine bB ?_ ?_ _|refine bC ?_ _|refine bD ?_|refine bE ?_ ?_ _|refine bF ?_ (by assumption) ?_))<;>first|omega|(simp;try omega))⟩
set_option maxRecDepth 100000 in
set_option maxHeartbeats 4000000 in
theorem far2 (hO:au w P tag (.slice (some ⟨T,o,none⟩) n cap) xs) (hup:∀ b,w.heap.size≤b→P b) (hx:r.thing=(x:Int)+1) (ht:xs[x]?=some (t,sv,qv)) (hj:c.run=(j:Int)+1) (htr:xs[j]?=some (tr,svr,qvr)) (HN:0≤c.n∧c.n≤99) (hn:n≤65536) (hk:c.kind=2) :
  Calls Tryz.prog 96 #[.slice (some ⟨T,o,none⟩) n cap,c.val,r.val] w fun e w'=>e=.returned (.int .i64 (0))∧aA w w' P (.slice (some ⟨T,o,none⟩) n cap) (dD (xs.map (·.1)) ((x:Int)+1) (aS c.n)):=by
 obtain ⟨ck,H7,ca,cb,cn⟩:=c
 obtain ⟨rt,rv,rrd,rwr,rwk⟩:=r
 dsimp only at hx hj hk HN
 subst hx
 subst hj
 subst hk
 obtain ⟨c0,c1,c2,c3,c4,c5,c6,c7⟩:=hO.cells ht
 obtain ⟨f0,f1,f2,f3,f4,f5,f6,f7⟩:=hO.cells htr
 obtain ⟨-,hPT,hT0,hTl,hf⟩:=hO.pos ht
 have jl:=hO.dK.2 _ (List.mem_of_getElem? ht)
 have kS:=hO.dK.2 _ (List.mem_of_getElem? htr)
 have hS:=jl.1
 have hQ:=jl.2
 have hSr:=kS.1
 have hQr:=kS.2
 dsimp only at hS hQ hSr hQr
 obtain ⟨qp,j4,rfl,-,sP⟩:=hQ.len
 obtain ⟨qpr,sG,rfl,-,-⟩:=hQr.len
 have hxl:x<n:=by rw [hO.len];exact (List.getElem?_eq_some_iff.1 ht).1
 have hjl:j<n:=by rw [hO.len];exact (List.getElem?_eq_some_iff.1 htr).1
 have Ht:=Lib.hid ht
 have Htr:=Lib.hid htr
 have t1:T<w.heap.size+1:=by omega
 have t2:T<w.heap.size+1+1:=by omega
 have t3:T<w.heap.size+1+1+1:=by omega
 have x0:(0:Int)≤(x:Int):=by omega
 have xn:(x:Int)<(n:Int):=by omega
 have j0:(0:Int)≤(j:Int):=by omega
 have jn:(j:Int)<(n:Int):=by omega
 obtain ⟨sp,fE,rfl,-,-⟩:=hS.len
 obtain ⟨spr,xB,rfl,-,-⟩:=hSr.len
 clear ht htr
 go_enter Tryz.func96,Tryz.ntmps96
 go_wp2
 go_ret
 have hh:=hO.row Ht.out (aS cn t) rfl rfl
 exact ⟨rfl,aA.below ⟨_,_,hh.1,aB Ht.out rfl,hh.2⟩ (by (repeat (with_reducible refine Below.alloc ?_ ?_ _))<;>first|exact Below.refl _ _|(simp [World.setCell];done)|(simp [World.setCell];omega))⟩
set_option maxRecDepth 100000 in
set_option maxHeartbeats 4000000 in
theorem Kl (hO:au w P tag (.slice (some ⟨T,o,none⟩) n cap) xs) (hup:∀ b,w.heap.size≤b→P b) (hx:r.thing=(x:Int)+1) (ht:xs[x]?=some (t,sv,qv)) (hj:c.run=(j:Int)+1) (htr:xs[j]?=some (tr,svr,qvr)) (HN:0≤c.n∧c.n≤99) (hn:n≤65536) (hk:c.kind=6)  (hq:t.queue.length=3):
  Calls Tryz.prog 96 #[.slice (some ⟨T,o,none⟩) n cap,c.val,r.val] w fun e w'=>e=.returned (.int .i64 (-4))∧aA w w' P (.slice (some ⟨T,o,none⟩) n cap) (xs.map (·.1)):=by
 obtain ⟨ck,H7,ca,cb,cn⟩:=c
 obtain ⟨rt,rv,rrd,rwr,rwk⟩:=r
 dsimp only at hx hj hk HN
 subst hx
 subst hj
 subst hk
 obtain ⟨c0,c1,c2,c3,c4,c5,c6,c7⟩:=hO.cells ht
 obtain ⟨f0,f1,f2,f3,f4,f5,f6,f7⟩:=hO.cells htr
 obtain ⟨-,hPT,hT0,hTl,hf⟩:=hO.pos ht
 have jl:=hO.dK.2 _ (List.mem_of_getElem? ht)
 have kS:=hO.dK.2 _ (List.mem_of_getElem? htr)
 have hS:=jl.1
 have hQ:=jl.2
 have hSr:=kS.1
 have hQr:=kS.2
 dsimp only at hS hQ hSr hQr
 obtain ⟨qp,j4,rfl,-,sP⟩:=hQ.len
 obtain ⟨qpr,sG,rfl,-,-⟩:=hQr.len
 have hxl:x<n:=by rw [hO.len];exact (List.getElem?_eq_some_iff.1 ht).1
 have hjl:j<n:=by rw [hO.len];exact (List.getElem?_eq_some_iff.1 htr).1
 have Ht:=Lib.hid ht
 have Htr:=Lib.hid htr
 have t1:T<w.heap.size+1:=by omega
 have t2:T<w.heap.size+1+1:=by omega
 have t3:T<w.heap.size+1+1+1:=by omega
 have x0:(0:Int)≤(x:Int):=by omega
 have xn:(x:Int)<(n:Int):=by omega
 have j0:(0:Int)≤(j:Int):=by omega
 have jn:(j:Int)<(n:Int):=by omega
 obtain ⟨sp,fE,rfl,-,-⟩:=hS.len
 obtain ⟨spr,xB,rfl,-,-⟩:=hSr.len
 clear ht htr hSr hQr
 go_enter Tryz.func96,Tryz.ntmps96
 go_upto_region 3 with (fail)
 go_cut [4,5,6,7,8,9] (fun s4 s5 s6 s7 s8 s9 wx=>s6=.int .i64 0∧s9=.int .i64 0∧s4=.pointer (some ⟨w.heap.size,0,none⟩)∧s5=.pointer (some ⟨w.heap.size+1,0,none⟩)∧s7=.pointer (some ⟨w.heap.size+1+1,0,none⟩)∧s8=.pointer (some ⟨w.heap.size+1+1+1,0,none⟩)∧Below w.heap.size w wx∧w.heap.size+1+1+1<wx.heap.size ∧
  (wx.cell? ⟨w.heap.size+1+1,0,none⟩=some (.int .i64 t.kind)∧wx.cell? ⟨w.heap.size+1+1,1,none⟩=some (.int .i64 t.lab.s)∧wx.cell? ⟨w.heap.size+1+1,2,none⟩=some (.int .i64 t.lab.v)∧wx.cell? ⟨w.heap.size+1+1,3,none⟩=some (.int .i64 t.aJ)∧wx.cell? ⟨w.heap.size+1+1,4,none⟩=some (.int .i64 t.num)∧wx.cell? ⟨w.heap.size+1+1,5,none⟩=some (.slice sp t.slots.length fE)∧wx.cell? ⟨w.heap.size+1+1,6,none⟩=some (.slice qp t.queue.length j4)∧wx.cell? ⟨w.heap.size+1+1,7,none⟩=some (.int .i64 t.to))∧wx.cell? ⟨w.heap.size,4,none⟩=some (.int .i64 cn)∧wx.cell? ⟨w.heap.size,0,none⟩=some (.int .i64 6)∧wx.cell? ⟨w.heap.size+1,0,none⟩=some (.int .i64 ((x:Int)+1))∧(∀ j,j<8→wx.frozen? ⟨w.heap.size+1+1,j,none⟩=false))
 case first=>
  go_wp2
  go_meet
  refine ⟨rfl,rfl,rfl,rfl,rfl,rfl,(by (repeat (with_reducible first|exact bA _ _|refine bB ?_ ?_ _|refine bC ?_ _|refine bD ?_|refine bE ?_ ?_ _|refine bF ?_ (by assumption) ?_))<;>first|omega|(simp;try omega)),by simp [World.setCell],?_,?_,?_,?_,?_⟩<;>first|(intro j hj;go_simp;done)|go_simp
 case rest=>
  obtain ⟨rfl,rfl,rfl,rfl,rfl,rfl,hBw,hzx,⟨p0,p1,p2,p3,p4,p5,p6,p7⟩,q1,q2,q3,hfz⟩:=hcut
  obtain ⟨wx,rfl⟩:∃ wx:World,wx=wc:=⟨_,rfl⟩
  have hO':=hO.pure hBw
  have hf':∀ j,wx.frozen? ⟨T,j,none⟩=false:=fun j=>(hBw.frozen (p:=⟨T,j,none⟩) hTl).trans (hf j)
  have z0:¬ w.heap.size+1+1=T:=by omega
  have z1:w.heap.size<wx.heap.size:=by omega
  have z2:w.heap.size+1<wx.heap.size:=by omega
  have z3:w.heap.size+1+1<wx.heap.size:=by omega
  have hTx:T<wx.heap.size:=by omega
  have hc4:∀ o,wx.cell? ⟨T,o,none⟩=w.cell? ⟨T,o,none⟩:=fun o=>hBw.cell (p:=⟨T,o,none⟩) hTl
  rw [← hc4] at c0 c1 c2 c3 c4 c5 c6 c7
  have k0:=hfz 0 (by decide)
  have k1:=hfz 1 (by decide)
  have k2:=hfz 2 (by decide)
  have k3:=hfz 3 (by decide)
  have k4:=hfz 4 (by decide)
  have k5:=hfz 5 (by decide)
  have k6:=hfz 6 (by decide)
  have k7:=hfz 7 (by decide)
  clear hc4 hf hfz f0 f1 f2 f3 f4 f5 f6 f7
  have hq':((t.queue.length:Nat):Int)=3:=by omega
  rw [hq] at p6 c6
  go_wp2
  go_ret
  exact ⟨rfl,_,_,hO',rfl,Chg.ah hBw⟩
end
end Go.Proofs.YthhmolonhpaepaaGreatDoor
namespace Go.Proofs.YthhmolonhpaepaaGreatDoor
open Go.RowKit Drw
attribute [local go_sem] Lab.val Rgt.val Cal.val Thg.val
attribute [local go_sem] NU NT
section
variable {P:Nat→Prop} {tag:Nat→Nat} {T o n cap:Nat} {xs:List Thx} {c:Cal} {r:Rgt} {w:World} {x j:Nat} {t tr:Thg} {sv qv svr qvr:Value}
set_option maxRecDepth 100000 in
set_option maxHeartbeats 4000000 in
theorem far4 {bb:Nat} (hO:au w P tag (.slice (some ⟨T,o,none⟩) n cap) xs) (hup:∀ b,w.heap.size≤b→P b) (hx:r.thing=(x:Int)+1) (ht:xs[x]?=some (t,sv,qv)) (hj:c.run=(j:Int)+1) (htr:xs[j]?=some (tr,svr,qvr)) (HN:0≤c.n∧c.n≤99) (hn:n≤65536) (hk:c.kind=4) (h4:t.slots.length=4) (h42:tr.slots.length=4) (hb:c.b=(bb:Int)) (hbb:bb<4) :
  Calls Tryz.prog 96 #[.slice (some ⟨T,o,none⟩) n cap,c.val,r.val] w fun e w'=>e=.returned (.int .i64 (0))∧aA w w' P (.slice (some ⟨T,o,none⟩) n cap) (dD (xs.map (·.1)) ((j:Int)+1) (setSlot (bb:Int) (if r.wk then eG (nL t (c.n % 4)) true false false else nL t (c.n % 4)))):=by
 obtain ⟨ck,H7,ca,cb,cn⟩:=c
 obtain ⟨rt,rv,rrd,rwr,rwk⟩:=r
 dsimp only at hx hj hk HN
 subst hx
 subst hj
 subst hk
 obtain ⟨c0,c1,c2,c3,c4,c5,c6,c7⟩:=hO.cells ht
 obtain ⟨f0,f1,f2,f3,f4,f5,f6,f7⟩:=hO.cells htr
 obtain ⟨-,hPT,hT0,hTl,hf⟩:=hO.pos ht
 have jl:=hO.dK.2 _ (List.mem_of_getElem? ht)
 have kS:=hO.dK.2 _ (List.mem_of_getElem? htr)
 have hS:=jl.1
 have hQ:=jl.2
 have hSr:=kS.1
 have hQr:=kS.2
 dsimp only at hS hQ hSr hQr
 obtain ⟨qp,j4,rfl,-,sP⟩:=hQ.len
 obtain ⟨qpr,sG,rfl,-,-⟩:=hQr.len
 have hxl:x<n:=by rw [hO.len];exact (List.getElem?_eq_some_iff.1 ht).1
 have hjl:j<n:=by rw [hO.len];exact (List.getElem?_eq_some_iff.1 htr).1
 have Ht:=Lib.hid ht
 have Htr:=Lib.hid htr
 have t1:T<w.heap.size+1:=by omega
 have t2:T<w.heap.size+1+1:=by omega
 have t3:T<w.heap.size+1+1+1:=by omega
 have x0:(0:Int)≤(x:Int):=by omega
 have xn:(x:Int)<(n:Int):=by omega
 have j0:(0:Int)≤(j:Int):=by omega
 have jn:(j:Int)<(n:Int):=by omega
 obtain ⟨kk,hkk,m1,m2,m3⟩:=mod4 HN.1 HN.2
 obtain ⟨B,o',cap',rfl⟩:=cK hS h4
 obtain ⟨B2,o2,cap2,rfl⟩:=cK hSr h42
 obtain ⟨y,hy⟩:∃ y,t.slots[kk]?=some y:=⟨t.slots[kk]'(by omega),by simp [show kk<t.slots.length by omega]⟩
 obtain ⟨z,hz⟩:∃ z,tr.slots[bb]?=some z:=⟨tr.slots[bb]'(by omega),by simp [show bb<tr.slots.length by omega]⟩
 have hgy:nL t (cn % 4)=y:=by simp [nL,m1,hy]
 dsimp only at hb
 subst hb
 obtain ⟨bq,oq,e2,hBl,d0,d1,d2,d3,d4⟩:=hS.at kk y hy
 cases e2
 obtain ⟨bq,oq,e2,hBl2,g0,g1,g2,g3,g4⟩:=hSr.at bb z hz
 cases e2
 have BM:=hO.slots j _ htr B2 o2 4 cap2 rfl (by decide)
 have hBf:=BM.2.2.2
 have u1:B<w.heap.size+1:=by omega
 have u2:B<w.heap.size+1+1:=by omega
 have u3:B<w.heap.size+1+1+1:=by omega
 have u4:B<w.heap.size+1+1+1+1:=by omega
 have v1:B2<w.heap.size+1:=by omega
 have v2:B2<w.heap.size+1+1:=by omega
 have v3:B2<w.heap.size+1+1+1:=by omega
 have v4:B2<w.heap.size+1+1+1+1:=by omega
 have v5:B2<w.heap.size+1+1+1+1+1:=by omega
 have hb0:(0:Int)≤(bb:Int):=by omega
 have hb4:(bb:Int)<4:=by omega
 have hk0:(0:Int)≤(kk:Int):=by omega
 have hk4:(kk:Int)<4:=by omega
 have Hgy:=Lib.hid hgy
 clear ht htr hy hz hgy BM m1
 obtain ⟨yt,yv,yrd,ywr,ywk⟩:=y
 dsimp only at d0 d1 d2 d3 d4
 cases rwk with
 | false=>
  go_enter Tryz.func96,Tryz.ntmps96
  go_wp2
  go_ret
  rw [Hgy.out]
  have hh:=hO.slot Htr.out (k:=bb) (by omega) ⟨yt,yv,yrd,ywr,ywk⟩
  exact ⟨rfl,aA.below ⟨_,_,hh.1,aB Htr.out rfl,hh.2⟩ (by (repeat (with_reducible refine Below.alloc ?_ ?_ _))<;>first|exact Below.refl _ _|(simp [World.setCell];done)|(simp [World.setCell];omega))⟩
 | true=>
  obtain ⟨⟨zt,zv,zrd,zwr,zwk⟩,hz⟩:∃ z,eG ⟨yt,yv,yrd,ywr,ywk⟩ true false false=z:=⟨_,rfl⟩
  have Hz:=Lib.hid hz
  clear hz
  have n1:¬ w.heap.size+1+1+1+1=B2:=by omega
  have n2:¬ B2=w.heap.size+1+1+1+1:=by omega
  go_enter Tryz.func96,Tryz.ntmps96
  go_wp2_with (go_at_call 94;refine (BG ⟨_,_,_,_,_⟩ _ _ _ _).mono ?_;rw [Hz.out];rintro e w1 ⟨rfl,hb1⟩;obtain ⟨hc1,hf1⟩:=ax hb1;have y0:w.heap.size<w1.heap.size:=(by have:=hb1.size;simp at this;omega);have y1:w.heap.size+3<w1.heap.size:=(by have:=hb1.size;simp at this;omega);have y2:w.heap.size+4<w1.heap.size:=(by have:=hb1.size;simp at this;omega);have y3:B2<w1.heap.size:=(by omega);have hcB:=(fun o=>hc1 B2 o (by simp;omega));have hfB:=(fun o=>hf1 B2 o (by simp;omega));have hcQ:=(fun o=>hc1 (w.heap.size+4) o (by simp));have hfQ:=(fun o=>hf1 (w.heap.size+4) o (by simp));have hcR:=(fun o=>hc1 (w.heap.size+3) o (by simp));have hcC:=(fun o=>hc1 w.heap.size o (by simp;omega));clear hc1 hf1)
  go_ret
  rw [Hgy.out]
  have hbw:Below w.heap.size w w1:=(by (repeat (with_reducible first|exact bA _ _|refine bB ?_ ?_ _|refine bC ?_ _|refine bD ?_|refine bE ?_ ?_ _|refine bF ?_ (by assumption) ?_))<;>first|omega|(simp;try omega))
  have hg2:Chg (fun b=>b=w.heap.size+1+1+1+1) w1 (((((w1.setCell ⟨w.heap.size+1+1+1+1,0,none⟩ (.int .i64 zt)).setCell ⟨w.heap.size+1+1+1+1,1,none⟩ (.int .i64 zv)).setCell ⟨w.heap.size+1+1+1+1,2,none⟩ (.bool zrd)).setCell ⟨w.heap.size+1+1+1+1,3,none⟩ (.bool zwr)).setCell ⟨w.heap.size+1+1+1+1,4,none⟩ (.bool zwk)):=((((Chg.setCell (S:=fun b=>b=w.heap.size+1+1+1+1) (Chg.refl _ _) rfl _).setCell rfl _).setCell rfl _).setCell rfl _).setCell rfl _
  have hOy:=hO.chg ((Chg.ah hbw).trans (hg2.mono (T:=fun b=>w.heap.size≤b) (fun b _ e=>by omega))) (fun b _ h1 h2=>by omega)
  have hh:=hOy.slot Htr.out (k:=bb) (by omega) ⟨zt,zv,zrd,zwr,zwk⟩
  exact ⟨rfl,_,_,hh.1,by first|(rw [if_pos rfl,Hz.out];exact aB Htr.out rfl)|(rw [Hz.out];exact aB Htr.out rfl),(Chg.ah hbw).trans ((hg2.mono (fun b _ e=>hup b (by omega))).trans hh.2)⟩
end
end Go.Proofs.YthhmolonhpaepaaGreatDoor
namespace Go.Proofs.YthhmolonhpaepaaGreatDoor
open Go.RowKit Drw
attribute [local go_sem] Lab.val Rgt.val Cal.val Thg.val
attribute [local go_sem] NU NT
section
variable {P:Nat→Prop} {tag:Nat→Nat} {T o n cap:Nat} {xs:List Thx} {c:Cal} {r:Rgt} {w:World} {x j:Nat} {t tr:Thg} {sv qv svr qvr:Value}
set_option maxRecDepth 100000 in
set_option maxHeartbeats 4000000 in
theorem far5 {bb:Nat} (hO:au w P tag (.slice (some ⟨T,o,none⟩) n cap) xs) (hup:∀ b,w.heap.size≤b→P b) (hx:r.thing=(x:Int)+1) (ht:xs[x]?=some (t,sv,qv)) (hj:c.run=(j:Int)+1) (htr:xs[j]?=some (tr,svr,qvr)) (HN:0≤c.n∧c.n≤99) (hn:n≤65536) (hk:c.kind=5)  (hjx:j≠x) (h4:t.slots.length=4) (h42:tr.slots.length=4) (hb:c.b=(bb:Int)) (hbb:bb<4):
  Calls Tryz.prog 96 #[.slice (some ⟨T,o,none⟩) n cap,c.val,r.val] w fun e w'=>e=.returned (.int .i64 (0))∧aA w w' P (.slice (some ⟨T,o,none⟩) n cap) (dD (xs.map (·.1)) ((x:Int)+1) (setSlot (c.n % 4) (nL tr (bb:Int)))):=by
 obtain ⟨ck,H7,ca,cb,cn⟩:=c
 obtain ⟨rt,rv,rrd,rwr,rwk⟩:=r
 dsimp only at hx hj hk HN
 subst hx
 subst hj
 subst hk
 obtain ⟨c0,c1,c2,c3,c4,c5,c6,c7⟩:=hO.cells ht
 obtain ⟨f0,f1,f2,f3,f4,f5,f6,f7⟩:=hO.cells htr
 obtain ⟨-,hPT,hT0,hTl,hf⟩:=hO.pos ht
 have jl:=hO.dK.2 _ (List.mem_of_getElem? ht)
 have kS:=hO.dK.2 _ (List.mem_of_getElem? htr)
 have hS:=jl.1
 have hQ:=jl.2
 have hSr:=kS.1
 have hQr:=kS.2
 dsimp only at hS hQ hSr hQr
 obtain ⟨qp,j4,rfl,-,sP⟩:=hQ.len
 obtain ⟨qpr,sG,rfl,-,-⟩:=hQr.len
 have hxl:x<n:=by rw [hO.len];exact (List.getElem?_eq_some_iff.1 ht).1
 have hjl:j<n:=by rw [hO.len];exact (List.getElem?_eq_some_iff.1 htr).1
 have Ht:=Lib.hid ht
 have Htr:=Lib.hid htr
 have t1:T<w.heap.size+1:=by omega
 have t2:T<w.heap.size+1+1:=by omega
 have t3:T<w.heap.size+1+1+1:=by omega
 have x0:(0:Int)≤(x:Int):=by omega
 have xn:(x:Int)<(n:Int):=by omega
 have j0:(0:Int)≤(j:Int):=by omega
 have jn:(j:Int)<(n:Int):=by omega
 obtain ⟨kk,hkk,m1,m2,m3⟩:=mod4 HN.1 HN.2
 obtain ⟨B,o',cap',rfl⟩:=cK hS h4
 obtain ⟨B2,o2,cap2,rfl⟩:=cK hSr h42
 obtain ⟨y,hy⟩:∃ y,t.slots[kk]?=some y:=⟨t.slots[kk]'(by omega),by simp [show kk<t.slots.length by omega]⟩
 obtain ⟨z,hz⟩:∃ z,tr.slots[bb]?=some z:=⟨tr.slots[bb]'(by omega),by simp [show bb<tr.slots.length by omega]⟩
 have hgz:nL tr (bb:Int)=z:=by simp [nL,hz]
 dsimp only at hb
 subst hb
 obtain ⟨bq,oq,e2,hBl,d0,d1,d2,d3,d4⟩:=hS.at kk y hy
 cases e2
 obtain ⟨bq,oq,e2,hBl2,g0,g1,g2,g3,g4⟩:=hSr.at bb z hz
 cases e2
 have hBh:=hO.slots x _ Ht.out B o' 4 cap' rfl (by decide)
 have hBf:=hBh.2.2.2
 have BM:=hO.slots j _ Htr.out B2 o2 4 cap2 rfl (by decide)
 have hBB:¬ B=B2:=by intro e;subst e;have h1:=hBh.2.1;have h2:=BM.2.1;omega
 have hBT:¬ B=T:=by intro e;subst e;have h1:=hBh.2.1;omega
 have u1:B<w.heap.size+1:=by omega
 have u2:B<w.heap.size+1+1:=by omega
 have u3:B<w.heap.size+1+1+1:=by omega
 have u4:B<w.heap.size+1+1+1+1:=by omega
 have v1:B2<w.heap.size+1:=by omega
 have v2:B2<w.heap.size+1+1:=by omega
 have v3:B2<w.heap.size+1+1+1:=by omega
 have v4:B2<w.heap.size+1+1+1+1:=by omega
 have hb0:(0:Int)≤(bb:Int):=by omega
 have hb4:(bb:Int)<4:=by omega
 have hk0:(0:Int)≤(kk:Int):=by omega
 have hk4:(kk:Int)<4:=by omega
 have hw2:IntKind.i64.wrap (bb:Int)=(bb:Int):=IntWalk.i64_in _ (by omega)
 have hw3:IntKind.i64.wrap (kk:Int)=(kk:Int):=IntWalk.i64_in _ (by omega)
 have Hgz:=Lib.hid hgz
 have HkN:=Lib.hid m1
 have hS4:=Lib.hid h4
 clear ht htr hy hz hgz hBh m1 BM
 obtain ⟨yt,yv,yrd,ywr,ywk⟩:=y
 obtain ⟨zt,zv,zrd,zwr,zwk⟩:=z
 dsimp only at d0 d1 d2 d3 d4 g0 g1 g2 g3 g4
 go_enter Tryz.func96,Tryz.ntmps96
 go_upto_region 3 with (fail)
 go_cut [4,5,6,7,8,9] (fun s4 s5 s6 s7 s8 s9 wx=>s6=.int .i64 0∧s9=.int .i64 0∧s4=.pointer (some ⟨w.heap.size,0,none⟩)∧s5=.pointer (some ⟨w.heap.size+1,0,none⟩)∧s7=.pointer (some ⟨w.heap.size+1+1,0,none⟩)∧s8=.pointer (some ⟨w.heap.size+1+1+1,0,none⟩)∧Below w.heap.size w wx∧w.heap.size+1+1+1<wx.heap.size ∧
  (wx.cell? ⟨w.heap.size+1+1,0,none⟩=some (.int .i64 t.kind)∧wx.cell? ⟨w.heap.size+1+1,1,none⟩=some (.int .i64 t.lab.s)∧wx.cell? ⟨w.heap.size+1+1,2,none⟩=some (.int .i64 t.lab.v)∧wx.cell? ⟨w.heap.size+1+1,3,none⟩=some (.int .i64 t.aJ)∧wx.cell? ⟨w.heap.size+1+1,4,none⟩=some (.int .i64 t.num)∧wx.cell? ⟨w.heap.size+1+1,5,none⟩=some (.slice (some ⟨B,o',none⟩) 4 cap')∧wx.cell? ⟨w.heap.size+1+1,6,none⟩=some (.slice qp t.queue.length j4)∧wx.cell? ⟨w.heap.size+1+1,7,none⟩=some (.int .i64 t.to))∧wx.cell? ⟨w.heap.size+1+1+1,5,none⟩=some (.slice (some ⟨B2,o2,none⟩) 4 cap2)∧wx.cell? ⟨w.heap.size,4,none⟩=some (.int .i64 cn)∧wx.cell? ⟨w.heap.size,3,none⟩=some (.int .i64 (bb:Int))∧wx.cell? ⟨w.heap.size,0,none⟩=some (.int .i64 5)∧wx.cell? ⟨w.heap.size+1,0,none⟩=some (.int .i64 ((x:Int)+1)))
 case first=>
  go_wp2
  go_meet
  refine ⟨rfl,rfl,rfl,rfl,rfl,rfl,(by (repeat (with_reducible first|exact bA _ _|refine bB ?_ ?_ _|refine bC ?_ _|refine bD ?_|refine bE ?_ ?_ _|refine bF ?_ (by assumption) ?_))<;>first|omega|(simp;try omega)),by simp [World.setCell],?_,?_,?_,?_,?_,?_⟩<;>go_simp
 case rest=>
  obtain ⟨rfl,rfl,rfl,rfl,rfl,rfl,hBw,hzx,⟨p0,p1,p2,p3,p4,p5,p6,p7⟩,q1,q2,q3,q5,q4⟩:=hcut
  obtain ⟨wx,rfl⟩:∃ wx:World,wx=wc:=⟨_,rfl⟩
  have hc2:∀ o,wx.cell? ⟨B2,o,none⟩=w.cell? ⟨B2,o,none⟩:=fun o=>hBw.cell (p:=⟨B2,o,none⟩) hBl2
  have hO':=hO.pure hBw
  rw [← hc2] at g0 g1 g2 g3 g4
  have hc3:∀ o,wx.cell? ⟨B,o,none⟩=w.cell? ⟨B,o,none⟩:=fun o=>hBw.cell (p:=⟨B,o,none⟩) hBl
  rw [← hc3] at d0 d1 d2 d3 d4
  have hc4:∀ o,wx.cell? ⟨T,o,none⟩=w.cell? ⟨T,o,none⟩:=fun o=>hBw.cell (p:=⟨T,o,none⟩) hTl
  rw [← hc4] at c0 c1 c2 c3 c4 c5 c6 c7
  have hf':∀ j,wx.frozen? ⟨T,j,none⟩=false:=fun j=>(hBw.frozen (p:=⟨T,j,none⟩) hTl).trans (hf j)
  have hBf':∀ j,wx.frozen? ⟨B,j,none⟩=false:=fun j=>(hBw.frozen (p:=⟨B,j,none⟩) hBl).trans (hBf j)
  have hTx:T<wx.heap.size:=by omega
  have hBx:B<wx.heap.size:=by omega
  have m1:¬ B=w.heap.size:=by omega
  have m2:¬ B=w.heap.size+1:=by omega
  have m3:¬ B=w.heap.size+1+1:=by omega
  have m4:¬ B=w.heap.size+1+1+1:=by omega
  have m5:¬ T=w.heap.size+1+1:=by omega
  clear hc2 hc3 hc4 f0 f1 f2 f3 f4 f5 f6 f7 hf hBf
  go_wp2
  go_region_held3 (fun w'=>w'.cell? ⟨w.heap.size+1+1,5,none⟩=some (.slice (some ⟨B,o',none⟩) 4 cap')∧w'.cell? ⟨w.heap.size+1+1+1,5,none⟩=some (.slice (some ⟨B2,o2,none⟩) 4 cap2)∧w'.cell? ⟨w.heap.size,4,none⟩=some (.int .i64 cn)∧w'.cell? ⟨w.heap.size,3,none⟩=some (.int .i64 (bb:Int))∧w'.cell? ⟨B2,o2+bb * 5,none⟩=some (.int .i64 zt)∧w'.cell? ⟨B2,o2+bb * 5+1,none⟩=some (.int .i64 zv)∧w'.cell? ⟨B2,o2+bb * 5+2,none⟩=some (.bool zrd)∧w'.cell? ⟨B2,o2+bb * 5+3,none⟩=some (.bool zwr)∧w'.cell? ⟨B2,o2+bb * 5+4,none⟩=some (.bool zwk))
   (go_keep) (fail)
  all_goals
   go_wp2
   go_ret
   rw [Hgz.out,HkN.out]
   have hh:=hO'.slot Ht.out (k:=kk) (by omega) ⟨zt,zv,zrd,zwr,zwk⟩
   have hh2:=hh.1.row (i:=x) (by rw [List.getElem?_set_self (by rw [← hO.len];exact hxl)]) (setSlot (kk:Int) ⟨zt,zv,zrd,zwr,zwk⟩ t) rfl rfl
   rw [List.set_set] at hh2
   exact ⟨rfl,_,_,hh2.1.chg (S:=fun _=>False) (Chg.drew (Chg.refl _ _)) (fun _ _ _=>id),aB Ht.out rfl,(Chg.ah hBw).trans ((hh.2.trans hh2.2).drew)⟩
end
end Go.Proofs.YthhmolonhpaepaaGreatDoor
namespace Go.Proofs.YthhmolonhpaepaaGreatDoor
open Go.RowKit Drw
attribute [local go_sem] Lab.val Rgt.val Cal.val Thg.val
attribute [local go_sem] NU NT
section
variable {P:Nat→Prop} {tag:Nat→Nat} {T o n cap:Nat} {xs:List Thx} {c:Cal} {r:Rgt} {w:World} {x j:Nat} {t tr:Thg} {sv qv svr qvr:Value}
set_option maxRecDepth 100000 in
set_option maxHeartbeats 4000000 in
theorem Hu (hO:au w P tag (.slice (some ⟨T,o,none⟩) n cap) xs) (hup:∀ b,w.heap.size≤b→P b) (hx:r.thing=(x:Int)+1) (ht:xs[x]?=some (t,sv,qv)) (hj:c.run=(j:Int)+1) (htr:xs[j]?=some (tr,svr,qvr)) (HN:0≤c.n∧c.n≤99) (hn:n≤65536) (hk:c.kind=7)  (hq:t.queue=[]):
  Calls Tryz.prog 96 #[.slice (some ⟨T,o,none⟩) n cap,c.val,r.val] w fun e w'=>e=.returned (.int .i64 (-4))∧aA w w' P (.slice (some ⟨T,o,none⟩) n cap) (xs.map (·.1)):=by
 obtain ⟨ck,H7,ca,cb,cn⟩:=c
 obtain ⟨rt,rv,rrd,rwr,rwk⟩:=r
 dsimp only at hx hj hk HN
 subst hx
 subst hj
 subst hk
 obtain ⟨c0,c1,c2,c3,c4,c5,c6,c7⟩:=hO.cells ht
 obtain ⟨f0,f1,f2,f3,f4,f5,f6,f7⟩:=hO.cells htr
 obtain ⟨-,hPT,hT0,hTl,hf⟩:=hO.pos ht
 have jl:=hO.dK.2 _ (List.mem_of_getElem? ht)
 have kS:=hO.dK.2 _ (List.mem_of_getElem? htr)
 have hS:=jl.1
 have hQ:=jl.2
 have hSr:=kS.1
 have hQr:=kS.2
 dsimp only at hS hQ hSr hQr
 obtain ⟨qp,j4,rfl,-,sP⟩:=hQ.len
 obtain ⟨qpr,sG,rfl,-,-⟩:=hQr.len
 have hxl:x<n:=by rw [hO.len];exact (List.getElem?_eq_some_iff.1 ht).1
 have hjl:j<n:=by rw [hO.len];exact (List.getElem?_eq_some_iff.1 htr).1
 have Ht:=Lib.hid ht
 have Htr:=Lib.hid htr
 have t1:T<w.heap.size+1:=by omega
 have t2:T<w.heap.size+1+1:=by omega
 have t3:T<w.heap.size+1+1+1:=by omega
 have x0:(0:Int)≤(x:Int):=by omega
 have xn:(x:Int)<(n:Int):=by omega
 have j0:(0:Int)≤(j:Int):=by omega
 have jn:(j:Int)<(n:Int):=by omega
 obtain ⟨sp,fE,rfl,-,-⟩:=hS.len
 obtain ⟨spr,xB,rfl,-,-⟩:=hSr.len
 clear ht htr hSr hQr
 go_enter Tryz.func96,Tryz.ntmps96
 go_upto_region 3 with (fail)
 go_cut [4,5,6,7,8,9] (fun s4 s5 s6 s7 s8 s9 wx=>s6=.int .i64 0∧s9=.int .i64 0∧s4=.pointer (some ⟨w.heap.size,0,none⟩)∧s5=.pointer (some ⟨w.heap.size+1,0,none⟩)∧s7=.pointer (some ⟨w.heap.size+1+1,0,none⟩)∧s8=.pointer (some ⟨w.heap.size+1+1+1,0,none⟩)∧Below w.heap.size w wx∧w.heap.size+1+1+1<wx.heap.size ∧
  (wx.cell? ⟨w.heap.size+1+1,0,none⟩=some (.int .i64 t.kind)∧wx.cell? ⟨w.heap.size+1+1,1,none⟩=some (.int .i64 t.lab.s)∧wx.cell? ⟨w.heap.size+1+1,2,none⟩=some (.int .i64 t.lab.v)∧wx.cell? ⟨w.heap.size+1+1,3,none⟩=some (.int .i64 t.aJ)∧wx.cell? ⟨w.heap.size+1+1,4,none⟩=some (.int .i64 t.num)∧wx.cell? ⟨w.heap.size+1+1,5,none⟩=some (.slice sp t.slots.length fE)∧wx.cell? ⟨w.heap.size+1+1,6,none⟩=some (.slice qp t.queue.length j4)∧wx.cell? ⟨w.heap.size+1+1,7,none⟩=some (.int .i64 t.to))∧wx.cell? ⟨w.heap.size,4,none⟩=some (.int .i64 cn)∧wx.cell? ⟨w.heap.size,0,none⟩=some (.int .i64 7)∧wx.cell? ⟨w.heap.size+1,0,none⟩=some (.int .i64 ((x:Int)+1))∧(∀ j,j<8→wx.frozen? ⟨w.heap.size+1+1,j,none⟩=false))
 case first=>
  go_wp2
  go_meet
  refine ⟨rfl,rfl,rfl,rfl,rfl,rfl,(by (repeat (with_reducible first|exact bA _ _|refine bB ?_ ?_ _|refine bC ?_ _|refine bD ?_|refine bE ?_ ?_ _|refine bF ?_ (by assumption) ?_))<;>first|omega|(simp;try omega)),by simp [World.setCell],?_,?_,?_,?_,?_⟩<;>first|(intro j hj;go_simp;done)|go_simp
 case rest=>
  obtain ⟨rfl,rfl,rfl,rfl,rfl,rfl,hBw,hzx,⟨p0,p1,p2,p3,p4,p5,p6,p7⟩,q1,q2,q3,hfz⟩:=hcut
  obtain ⟨wx,rfl⟩:∃ wx:World,wx=wc:=⟨_,rfl⟩
  have hO':=hO.pure hBw
  have hf':∀ j,wx.frozen? ⟨T,j,none⟩=false:=fun j=>(hBw.frozen (p:=⟨T,j,none⟩) hTl).trans (hf j)
  have z0:¬ w.heap.size+1+1=T:=by omega
  have z1:w.heap.size<wx.heap.size:=by omega
  have z2:w.heap.size+1<wx.heap.size:=by omega
  have z3:w.heap.size+1+1<wx.heap.size:=by omega
  have hTx:T<wx.heap.size:=by omega
  have hc4:∀ o,wx.cell? ⟨T,o,none⟩=w.cell? ⟨T,o,none⟩:=fun o=>hBw.cell (p:=⟨T,o,none⟩) hTl
  rw [← hc4] at c0 c1 c2 c3 c4 c5 c6 c7
  have k0:=hfz 0 (by decide)
  have k1:=hfz 1 (by decide)
  have k2:=hfz 2 (by decide)
  have k3:=hfz 3 (by decide)
  have k4:=hfz 4 (by decide)
  have k5:=hfz 5 (by decide)
  have k6:=hfz 6 (by decide)
  have k7:=hfz 7 (by decide)
  clear hc4 hf hfz f0 f1 f2 f3 f4 f5 f6 f7
  have hq':((t.queue.length:Nat):Int)=0:=by rw [hq];rfl
  rw [hq,List.length_nil] at p6 c6
  go_wp2
  go_ret
  exact ⟨rfl,_,_,hO',rfl,Chg.ah hBw⟩
set_option maxRecDepth 100000 in
set_option maxHeartbeats 4000000 in
theorem M3 (hO:au w P tag (.slice (some ⟨T,o,none⟩) n cap) xs) (hup:∀ b,w.heap.size≤b→P b) (hx:r.thing=(x:Int)+1) (ht:xs[x]?=some (t,sv,qv)) (hj:c.run=(j:Int)+1) (htr:xs[j]?=some (tr,svr,qvr)) (HN:0≤c.n∧c.n≤99) (hn:n≤65536) (hk:c.kind=8)  (hv:5≤t.aJ):
  Calls Tryz.prog 96 #[.slice (some ⟨T,o,none⟩) n cap,c.val,r.val] w fun e w'=>e=.returned (.int .i64 (-4))∧aA w w' P (.slice (some ⟨T,o,none⟩) n cap) (xs.map (·.1)):=by
 obtain ⟨ck,H7,ca,cb,cn⟩:=c
 obtain ⟨rt,rv,rrd,rwr,rwk⟩:=r
 dsimp only at hx hj hk HN
 subst hx
 subst hj
 subst hk
 obtain ⟨c0,c1,c2,c3,c4,c5,c6,c7⟩:=hO.cells ht
 obtain ⟨f0,f1,f2,f3,f4,f5,f6,f7⟩:=hO.cells htr
 obtain ⟨-,hPT,hT0,hTl,hf⟩:=hO.pos ht
 have jl:=hO.dK.2 _ (List.mem_of_getElem? ht)
 have kS:=hO.dK.2 _ (List.mem_of_getElem? htr)
 have hS:=jl.1
 have hQ:=jl.2
 have hSr:=kS.1
 have hQr:=kS.2
 dsimp only at hS hQ hSr hQr
 obtain ⟨qp,j4,rfl,-,sP⟩:=hQ.len
 obtain ⟨qpr,sG,rfl,-,-⟩:=hQr.len
 have hxl:x<n:=by rw [hO.len];exact (List.getElem?_eq_some_iff.1 ht).1
 have hjl:j<n:=by rw [hO.len];exact (List.getElem?_eq_some_iff.1 htr).1
 have Ht:=Lib.hid ht
 have Htr:=Lib.hid htr
 have t1:T<w.heap.size+1:=by omega
 have t2:T<w.heap.size+1+1:=by omega
 have t3:T<w.heap.size+1+1+1:=by omega
 have x0:(0:Int)≤(x:Int):=by omega
 have xn:(x:Int)<(n:Int):=by omega
 have j0:(0:Int)≤(j:Int):=by omega
 have jn:(j:Int)<(n:Int):=by omega
 obtain ⟨sp,fE,rfl,-,-⟩:=hS.len
 obtain ⟨spr,xB,rfl,-,-⟩:=hSr.len
 clear ht htr hSr hQr
 go_enter Tryz.func96,Tryz.ntmps96
 go_upto_region 3 with (fail)
 go_cut [4,5,6,7,8,9] (fun s4 s5 s6 s7 s8 s9 wx=>s6=.int .i64 0∧s9=.int .i64 0∧s4=.pointer (some ⟨w.heap.size,0,none⟩)∧s5=.pointer (some ⟨w.heap.size+1,0,none⟩)∧s7=.pointer (some ⟨w.heap.size+1+1,0,none⟩)∧s8=.pointer (some ⟨w.heap.size+1+1+1,0,none⟩)∧Below w.heap.size w wx∧w.heap.size+1+1+1<wx.heap.size ∧
  (wx.cell? ⟨w.heap.size+1+1,0,none⟩=some (.int .i64 t.kind)∧wx.cell? ⟨w.heap.size+1+1,1,none⟩=some (.int .i64 t.lab.s)∧wx.cell? ⟨w.heap.size+1+1,2,none⟩=some (.int .i64 t.lab.v)∧wx.cell? ⟨w.heap.size+1+1,3,none⟩=some (.int .i64 t.aJ)∧wx.cell? ⟨w.heap.size+1+1,4,none⟩=some (.int .i64 t.num)∧wx.cell? ⟨w.heap.size+1+1,5,none⟩=some (.slice sp t.slots.length fE)∧wx.cell? ⟨w.heap.size+1+1,6,none⟩=some (.slice qp t.queue.length j4)∧wx.cell? ⟨w.heap.size+1+1,7,none⟩=some (.int .i64 t.to))∧wx.cell? ⟨w.heap.size,4,none⟩=some (.int .i64 cn)∧wx.cell? ⟨w.heap.size,0,none⟩=some (.int .i64 8)∧wx.cell? ⟨w.heap.size+1,0,none⟩=some (.int .i64 ((x:Int)+1))∧(∀ j,j<8→wx.frozen? ⟨w.heap.size+1+1,j,none⟩=false))
 case first=>
  go_wp2
  go_meet
  refine ⟨rfl,rfl,rfl,rfl,rfl,rfl,(by (repeat (with_reducible first|exact bA _ _|refine bB ?_ ?_ _|refine bC ?_ _|refine bD ?_|refine bE ?_ ?_ _|refine bF ?_ (by assumption) ?_))<;>first|omega|(simp;try omega)),by simp [World.setCell],?_,?_,?_,?_,?_⟩<;>first|(intro j hj;go_simp;done)|go_simp
 case rest=>
  obtain ⟨rfl,rfl,rfl,rfl,rfl,rfl,hBw,hzx,⟨p0,p1,p2,p3,p4,p5,p6,p7⟩,q1,q2,q3,hfz⟩:=hcut
  obtain ⟨wx,rfl⟩:∃ wx:World,wx=wc:=⟨_,rfl⟩
  have hO':=hO.pure hBw
  have hf':∀ j,wx.frozen? ⟨T,j,none⟩=false:=fun j=>(hBw.frozen (p:=⟨T,j,none⟩) hTl).trans (hf j)
  have z0:¬ w.heap.size+1+1=T:=by omega
  have z1:w.heap.size<wx.heap.size:=by omega
  have z2:w.heap.size+1<wx.heap.size:=by omega
  have z3:w.heap.size+1+1<wx.heap.size:=by omega
  have hTx:T<wx.heap.size:=by omega
  have hc4:∀ o,wx.cell? ⟨T,o,none⟩=w.cell? ⟨T,o,none⟩:=fun o=>hBw.cell (p:=⟨T,o,none⟩) hTl
  rw [← hc4] at c0 c1 c2 c3 c4 c5 c6 c7
  have k0:=hfz 0 (by decide)
  have k1:=hfz 1 (by decide)
  have k2:=hfz 2 (by decide)
  have k3:=hfz 3 (by decide)
  have k4:=hfz 4 (by decide)
  have k5:=hfz 5 (by decide)
  have k6:=hfz 6 (by decide)
  have k7:=hfz 7 (by decide)
  clear hc4 hf hfz f0 f1 f2 f3 f4 f5 f6 f7
  go_wp2
  go_ret
  exact ⟨rfl,_,_,hO',rfl,Chg.ah hBw⟩
end
end Go.Proofs.YthhmolonhpaepaaGreatDoor
