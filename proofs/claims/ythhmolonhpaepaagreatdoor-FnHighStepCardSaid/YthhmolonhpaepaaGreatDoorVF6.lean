/- The reference's doing of a call to a thing that is as the right says. Conditions: the table is the call's own. -/
import Derived.Test.YthhmolonhpaepaaGreatDoorVZ
import Derived.Test.YthhmolonhpaepaaGreatDoorVY
import Derived.Test.YthhmolonhpaepaaGreatDoorVW
import Derived.Test.YthhmolonhpaepaaGreatDoorVDt
import Derived.Deep.RegionLaw
import Derived.Test.YthhmolonhpaepaaGreatDoorVIv
set_option linter.unusedVariables false
set_option linter.unusedSimpArgs false
namespace Go.Proofs.YthhmolonhpaepaaGreatDoor
open Go.RowKit Drw
attribute [local go_sem] Lab.val Rgt.val Cal.val Thg.val
attribute [local go_sem] NU NT
structure ND (wx:World) (T0 T2:Nat) (q:List Int) (cn:Int) (qv:Value) (d:Nat→Bool) (w':World) (v75 v76 v77 v78 v79 v80 v81 v82 v83:Value):Prop where
 q9:∀ j,j<9→d 9=true→d j=true
 c7:d 7=true→d 3=true∧d 6=true
 bel:d 9=false→Below wx.heap.size wx w'
 p0:d 9=false→d 0=true→d 3=false→w'.ownsRow wx.heap.size 3 1 v75 0 []
 p1:d 9=false→d 1=true→v76=.pointer (some ⟨T2,6,none⟩)
 p2:d 9=false→d 2=true→v77=qv
 p3:d 9=false→d 3=true→d 7=false→w'.ownsRow wx.heap.size 3 1 v78 q.length ((q.map intCells).flatten)
 p4:d 9=false→d 4=true→v79=.pointer (some ⟨T0,4,none⟩)
 p5:d 9=false→d 5=true→v80=.int .i64 cn
 p6:d 9=false→d 6=true→d 7=false→∃ b,v81=.slice (some ⟨b,0,none⟩) 1 1∧b<w'.heap.size∧w'.cell? ⟨b,0,none⟩=some (.int .i64 cn)∧(d 0=true→d 3=false→v75.ownBlock≠some b)
 p7:d 9=false→d 7=true→w'.ownsRow wx.heap.size 3 1 v82 (q.length+1) (((q++[cn]).map intCells).flatten)
 p8:d 9=false→d 8=true→v83=.pointer (some ⟨T2,6,none⟩)
 p9:d 9=true→∃ w1 v,w'=w1.setCell ⟨T2,6,none⟩ v∧Below wx.heap.size wx w1∧w1.ownsRow wx.heap.size 3 1 v (q.length+1) (((q++[cn]).map intCells).flatten)
theorem ND.h9 {wx:World} {T0 T2:Nat} {q:List Int} {cn:Int} {qv:Value} {d:Nat→Bool} {w':World} {v75 v76 v77 v78 v79 v80 v81 v82 v83:Value} (H:ND wx T0 T2 q cn qv d w' v75 v76 v77 v78 v79 v80 v81 v82 v83) {k:Nat} (hk:k<9) (hd:d k=false):d 9=false:=by
 cases h:d 9
 ·rfl
 ·have:=H.q9 k hk h
  rw [hd] at this;cases this
section
variable {P:Nat→Prop} {tag:Nat→Nat} {T o n cap:Nat} {xs:List Thx} {c:Cal} {r:Rgt} {w:World} {x j:Nat} {t tr:Thg} {sv qv svr qvr:Value}
set_option maxRecDepth 100000 in
set_option maxHeartbeats 4000000 in
theorem far6 (hO:au w P tag (.slice (some ⟨T,o,none⟩) n cap) xs) (hup:∀ b,w.heap.size≤b→P b) (hx:r.thing=(x:Int)+1) (ht:xs[x]?=some (t,sv,qv)) (hj:c.run=(j:Int)+1) (htr:xs[j]?=some (tr,svr,qvr)) (HN:0≤c.n∧c.n≤99) (hn:n≤65536) (hk:c.kind=6)  (hq:t.queue.length<3):
  Calls Tryz.prog 96 #[.slice (some ⟨T,o,none⟩) n cap,c.val,r.val] w fun e w'=>e=.returned (.int .i64 (0))∧aA w w' P (.slice (some ⟨T,o,none⟩) n cap) (dD (xs.map (·.1)) ((x:Int)+1) (bJ (t.queue++[c.n]))):=by
 obtain ⟨ck,H7,ca,cb,cn⟩:=c
 obtain ⟨rt,rv,rrd,rwr,rwk⟩:=r
 dsimp only at hx hj hk HN
 subst hx
 subst hj
 subst hk
 obtain ⟨c0,c1,c2,c3,c4,c5,c6,c7⟩:=hO.cells ht
 obtain ⟨f0,f1,f2,f3,f4,f5,f6,f7⟩:=hO.cells htr
 obtain ⟨-,hPT,hT0,hTl,hf⟩:=hO.pos ht
 have jl:=hO.dK.2 _ (List.mem_of_getElem? ht)
 have kS:=hO.dK.2 _ (List.mem_of_getElem? htr)
 have hS:=jl.1
 have hQ:=jl.2
 have hSr:=kS.1
 have hQr:=kS.2
 dsimp only at hS hQ hSr hQr
 obtain ⟨qp,j4,rfl,-,sP⟩:=hQ.len
 obtain ⟨qpr,sG,rfl,-,-⟩:=hQr.len
 have hxl:x<n:=by rw [hO.len];exact (List.getElem?_eq_some_iff.1 ht).1
 have hjl:j<n:=by rw [hO.len];exact (List.getElem?_eq_some_iff.1 htr).1
 have Ht:=Lib.hid ht
 have Htr:=Lib.hid htr
 have t1:T<w.heap.size+1:=by omega
 have t2:T<w.heap.size+1+1:=by omega
 have t3:T<w.heap.size+1+1+1:=by omega
 have x0:(0:Int)≤(x:Int):=by omega
 have xn:(x:Int)<(n:Int):=by omega
 have j0:(0:Int)≤(j:Int):=by omega
 have jn:(j:Int)<(n:Int):=by omega
 obtain ⟨sp,fE,rfl,-,-⟩:=hS.len
 obtain ⟨spr,xB,rfl,-,-⟩:=hSr.len
 clear ht htr hSr hQr
 go_enter Tryz.func96,Tryz.ntmps96
 go_upto_region 3 with (fail)
 go_cut [4,5,6,7,8,9] (fun s4 s5 s6 s7 s8 s9 wx=>s6=.int .i64 0∧s9=.int .i64 0∧s4=.pointer (some ⟨w.heap.size,0,none⟩)∧s5=.pointer (some ⟨w.heap.size+1,0,none⟩)∧s7=.pointer (some ⟨w.heap.size+1+1,0,none⟩)∧s8=.pointer (some ⟨w.heap.size+1+1+1,0,none⟩)∧Below w.heap.size w wx∧w.heap.size+1+1+1<wx.heap.size ∧
  (wx.cell? ⟨w.heap.size+1+1,0,none⟩=some (.int .i64 t.kind)∧wx.cell? ⟨w.heap.size+1+1,1,none⟩=some (.int .i64 t.lab.s)∧wx.cell? ⟨w.heap.size+1+1,2,none⟩=some (.int .i64 t.lab.v)∧wx.cell? ⟨w.heap.size+1+1,3,none⟩=some (.int .i64 t.aJ)∧wx.cell? ⟨w.heap.size+1+1,4,none⟩=some (.int .i64 t.num)∧wx.cell? ⟨w.heap.size+1+1,5,none⟩=some (.slice sp t.slots.length fE)∧wx.cell? ⟨w.heap.size+1+1,6,none⟩=some (.slice qp t.queue.length j4)∧wx.cell? ⟨w.heap.size+1+1,7,none⟩=some (.int .i64 t.to))∧wx.cell? ⟨w.heap.size,4,none⟩=some (.int .i64 cn)∧wx.cell? ⟨w.heap.size,0,none⟩=some (.int .i64 6)∧wx.cell? ⟨w.heap.size+1,0,none⟩=some (.int .i64 ((x:Int)+1))∧(∀ j,j<8→wx.frozen? ⟨w.heap.size+1+1,j,none⟩=false))
 case first=>
  go_wp2
  go_meet
  refine ⟨rfl,rfl,rfl,rfl,rfl,rfl,(by (repeat (with_reducible first|exact bA _ _|refine bB ?_ ?_ _|refine bC ?_ _|refine bD ?_|refine bE ?_ ?_ _|refine bF ?_ (by assumption) ?_))<;>first|omega|(simp;try omega)),by simp [World.setCell],?_,?_,?_,?_,?_⟩<;>first|(intro j hj;go_simp;done)|go_simp
 case rest=>
  obtain ⟨rfl,rfl,rfl,rfl,rfl,rfl,hBw,hzx,⟨p0,p1,p2,p3,p4,p5,p6,p7⟩,g1,g2,q3,hfz⟩:=hcut
  obtain ⟨wx,rfl⟩:∃ wx:World,wx=wc:=⟨_,rfl⟩
  have hO':=hO.pure hBw
  have hf':∀ j,wx.frozen? ⟨T,j,none⟩=false:=fun j=>(hBw.frozen (p:=⟨T,j,none⟩) hTl).trans (hf j)
  have z0:¬ w.heap.size+1+1=T:=by omega
  have z1:w.heap.size<wx.heap.size:=by omega
  have z2:w.heap.size+1<wx.heap.size:=by omega
  have z3:w.heap.size+1+1<wx.heap.size:=by omega
  have hTx:T<wx.heap.size:=by omega
  have hc4:∀ o,wx.cell? ⟨T,o,none⟩=w.cell? ⟨T,o,none⟩:=fun o=>hBw.cell (p:=⟨T,o,none⟩) hTl
  rw [← hc4] at c0 c1 c2 c3 c4 c5 c6 c7
  have fz0:=hfz 0 (by decide)
  have fz1:=hfz 1 (by decide)
  have fz2:=hfz 2 (by decide)
  have fz3:=hfz 3 (by decide)
  have fz4:=hfz 4 (by decide)
  have fz5:=hfz 5 (by decide)
  have fz6:=hfz 6 (by decide)
  have fz7:=hfz 7 (by decide)
  clear hc4 hf hfz f0 f1 f2 f3 f4 f5 f6 f7
  obtain ⟨i1,hi1,hy0,hy1,hy2⟩:=info_parts jb
  have hQx:aG wx (.slice qp t.queue.length j4) t.queue:=hQ.pure hBw
  have hql:((t.queue.length:Nat):Int)<3:=by omega
  have hqn:¬ (3:Int)≤((t.queue.length:Nat):Int):=by omega
  clear hQ
  go_upto_region 20 with (fail)
  refine lM (fun d a w'=>∃ v75 v76 v77 v78 v79 v80 v81 v82 v83,a={ tmps:=#[Value.slice (some { block:=T,off:=o }) n cap,Cal.val { kind:=6,run:=(j:Int)+1,a:=ca,b:=cb,n:=cn },Rgt.val { thing:=(x:Int)+1,aJ:=rv,rd:=rrd,wr:=rwr,wk:=rwk },undef,Value.pointer (some { block:=w.heap.size,off:=0 }),Value.pointer (some { block:=w.heap.size+1,off:=0 }),Value.int IntKind.i64 0,Value.pointer (some { block:=w.heap.size+1+1,off:=0 }),Value.pointer (some { block:=w.heap.size+1+1+1,off:=0 }),Value.int IntKind.i64 0,undef,undef,undef,u13,u14,u15,u16,u17,u18,u19,u20,u21,u22,u23,u24,Value.pointer (some { block:=w.heap.size,off:=0 }),Value.int IntKind.i64 6,Value.bool false,Value.bool false,u29,u30,Value.bool false,Value.bool false,u33,u34,u35,Value.bool false,Value.bool false,u38,u39,u40,u41,u42,u43,u44,u45,u46,u47,u48,u49,u50,u51,u52,u53,u54,Value.bool false,Value.bool false,u57,u58,u59,u60,u61,u62,u63,u64,u65,u66,u67,u68,Value.bool true,Value.bool true,Value.pointer (some { block:=w.heap.size+1+1,off:=6 }),Value.slice qp t.queue.length j4,Value.int IntKind.i64 (t.queue.length:Int),Value.bool false,v75,v76,v77,v78,v79,v80,v81,v82,v83,undef,u85,u86,u87,u88,u89,u90,u91,u92,u93,u94,u95,u96,u97,u98,u99,undef,u101,u102,u103,u104,u105,u106,u107,u108,u109,u110,u111,u112,u113,u114,u115,u116,u117,u118,u119,undef,u121,u122,u123,u124,u125,u126,u127,u128,u129,u130,u131,u132,u133,u134,u135,u136,u137,u138,u139,u140,u141,u142],defers:=[] }∧ND wx w.heap.size (w.heap.size+1+1) t.queue cn (.slice qp t.queue.length j4) d w' v75 v76 v77 v78 v79 v80 v81 v82 v83) (by kernel_rfl) (by kernel_rfl) ?_ ?_ ?_
  ·refine ⟨_,_,_,_,_,_,_,_,_,rfl,?_⟩
   constructor
   ·intro j hj h;simp at h
   ·intro h;simp at h
   ·intro _;exact Below.drew (Below.refl _ _)
   ·intro _ h;simp at h
   ·intro _ h;simp at h
   ·intro _ h;simp at h
   ·intro _ h;simp at h
   ·intro _ h;simp at h
   ·intro _ h;simp at h
   ·intro _ h;simp at h
   ·intro _ h;simp at h
   ·intro _ h;simp at h
   ·intro h;simp at h
  ·refine ⟨?_,?_,?_,?_,?_,?_,?_,?_,?_,?_,trivial⟩
   ·rintro d a w' hd di ⟨v75,v76,v77,v78,v79,v80,v81,v82,v83,rfl,H⟩ K hK
    simp [Region.binds] at di
    have h9:=H.h9 (by decide) hd
    have hB:=H.bel h9
    go_simp
    refine hK _ _ ⟨_,_,_,_,_,_,_,_,_,rfl,?_⟩
    constructor
    ·intro i hi h9';simp [h9] at h9'
    ·intro h7;simp at h7 ⊢;have:=H.c7 h7;simp [this]
    ·intro _;exact Below.alloc hB hB.size _
    ·intro _ _ _;exact ny _ rfl hB.size
    ·intro _ hj;simp at hj;exact H.p1 h9 hj
    ·intro _ hj;simp at hj;exact H.p2 h9 hj
    ·intro _ hj h7;simp at hj h7;exact World.ownsRow.alloc (H.p3 h9 hj h7) _
    ·intro _ hj;simp at hj;exact H.p4 h9 hj
    ·intro _ hj;simp at hj;exact H.p5 h9 hj
    ·intro _ hj h7;simp at hj h7;obtain ⟨b,e1,e2,e3,e4⟩:=H.p6 h9 hj h7;exact ⟨b,e1,by simp;omega,by (first|rw [World.cell?_alloc_past _ _ _ e2]|rw [World.cell?_alloc_past _ _ _ _ e2]);exact e3,fun _ _=>by simp [Value.ownBlock];omega⟩
    ·intro _ hj;simp at hj;exact World.ownsRow.alloc (H.p7 h9 hj) _
    ·intro _ hj;simp at hj;exact H.p8 h9 hj
    ·intro h9';simp [h9] at h9'
   ·rintro d a w' hd di ⟨v75,v76,v77,v78,v79,v80,v81,v82,v83,rfl,H⟩ K hK
    simp [Region.binds] at di
    have h9:=H.h9 (by decide) hd
    have hB:=H.bel h9
    go_simp
    refine hK _ _ ⟨_,_,_,_,_,_,_,_,_,rfl,?_⟩
    constructor
    ·intro i hi h9';simp [h9] at h9'
    ·intro h7;simp at h7 ⊢;have:=H.c7 h7;simp [this]
    ·intro _;exact hB
    ·intro _ hj h3;simp at hj h3;exact H.p0 h9 hj h3
    ·intro _ _;rfl
    ·intro _ hj;simp at hj;exact H.p2 h9 hj
    ·intro _ hj h7;simp at hj h7;exact H.p3 h9 hj h7
    ·intro _ hj;simp at hj;exact H.p4 h9 hj
    ·intro _ hj;simp at hj;exact H.p5 h9 hj
    ·intro _ hj h7;simp at hj h7;obtain ⟨b,e1,e2,e3,e4⟩:=H.p6 h9 hj h7;exact ⟨b,e1,e2,e3,fun a b=>e4 (by simpa using a) (by simpa using b)⟩
    ·intro _ hj;simp at hj;exact H.p7 h9 hj
    ·intro _ hj;simp at hj;exact H.p8 h9 hj
    ·intro h9';simp [h9] at h9'
   ·rintro d a w' hd di ⟨v75,v76,v77,v78,v79,v80,v81,v82,v83,rfl,H⟩ K hK
    simp [Region.binds] at di
    have h9:=H.h9 (by decide) hd
    have hB:=H.bel h9
    have e76:=H.p1 h9 di
    subst e76
    have hq6:=(hB.cell (p:=⟨w.heap.size+1+1,6,none⟩) z3).trans p6
    go_simp
    refine hK _ _ ⟨_,_,_,_,_,_,_,_,_,rfl,?_⟩
    constructor
    ·intro i hi h9';simp [h9] at h9'
    ·intro h7;simp at h7 ⊢;have:=H.c7 h7;simp [this]
    ·intro _;exact hB
    ·intro _ hj h3;simp at hj h3;exact H.p0 h9 hj h3
    ·intro _ hj;simp at hj;exact H.p1 h9 hj
    ·intro _ _;rfl
    ·intro _ hj h7;simp at hj h7;exact H.p3 h9 hj h7
    ·intro _ hj;simp at hj;exact H.p4 h9 hj
    ·intro _ hj;simp at hj;exact H.p5 h9 hj
    ·intro _ hj h7;simp at hj h7;obtain ⟨b,e1,e2,e3,e4⟩:=H.p6 h9 hj h7;exact ⟨b,e1,e2,e3,fun a b=>e4 (by simpa using a) (by simpa using b)⟩
    ·intro _ hj;simp at hj;exact H.p7 h9 hj
    ·intro _ hj;simp at hj;exact H.p8 h9 hj
    ·intro h9';simp [h9] at h9'
   ·rintro d a w' hd di ⟨v75,v76,v77,v78,v79,v80,v81,v82,v83,rfl,H⟩ K hK
    simp [Region.binds] at di
    have h9:=H.h9 (by decide) hd
    have hB:=H.bel h9
    simp only [Region.wanted,if_true]
    have h7f:d 7=false:=by
     cases h:d 7
     ·rfl
     ·have:=(H.c7 h).1
      rw [hd] at this;cases this
    have e77:=H.p2 h9 di.2
    subst e77
    have ho:=H.p0 h9 di.1 hd
    refine ik (.tmp 75) (.tmp 77) 30 rfl wx.heap.size 3 i1 _ 1 8 Tryz.underlying30 hi1 hy0 hy1 hy2 rfl (by decide) v75 0 [] rfl ho (.slice qp t.queue.length j4) (t.queue.map intCells) rfl (bI _) (Rows.pure hQx hB) (by simp [maxLen];omega) (by simp;omega) hB.size ?_
    intro v' w'' ho' hg'
    have hb':Below wx.heap.size wx w'':=hB.grown hg' hB.size (fun k hk=>(ho.lt k hk).1)
    have ho2:w''.ownsRow wx.heap.size 3 1 v' t.queue.length ((t.queue.map intCells).flatten):=by simpa using ho'
    refine hK _ _ ⟨_,_,_,_,_,_,_,_,_,rfl,?_⟩
    constructor
    ·intro i hi h9';simp [h9] at h9'
    ·intro h7;simp at h7 ⊢;rw [h7f] at h7;cases h7
    ·intro _;exact hb'
    ·intro _ hj h3;simp at hj h3
    ·intro _ hj;simp at hj;exact H.p1 h9 hj
    ·intro _ hj;simp at hj;exact H.p2 h9 hj
    ·intro _ hj h7;simp at hj h7;exact ho2
    ·intro _ hj;simp at hj;exact H.p4 h9 hj
    ·intro _ hj;simp at hj;exact H.p5 h9 hj
    ·intro _ hj h7;simp at hj h7;obtain ⟨b,e1,e2,e3,e4⟩:=H.p6 h9 hj h7f;exact ⟨b,e1,by have:=hg'.size;omega,by rw [World.cell?_of_block (a:=⟨b,0,none⟩) (hg'.block b e2 (fun e=>e4 di.1 hd e.symm))];exact e3,fun _ h=>by simp at h⟩
    ·intro _ hj;simp at hj;rw [h7f] at hj;cases hj
    ·intro _ hj;simp at hj;exact H.p8 h9 hj
    ·intro h9';simp [h9] at h9'
   ·rintro d a w' hd di ⟨v75,v76,v77,v78,v79,v80,v81,v82,v83,rfl,H⟩ K hK
    simp [Region.binds] at di
    have h9:=H.h9 (by decide) hd
    have hB:=H.bel h9
    go_simp
    refine hK _ _ ⟨_,_,_,_,_,_,_,_,_,rfl,?_⟩
    constructor
    ·intro i hi h9';simp [h9] at h9'
    ·intro h7;simp at h7 ⊢;have:=H.c7 h7;simp [this]
    ·intro _;exact hB
    ·intro _ hj h3;simp at hj h3;exact H.p0 h9 hj h3
    ·intro _ hj;simp at hj;exact H.p1 h9 hj
    ·intro _ hj;simp at hj;exact H.p2 h9 hj
    ·intro _ hj h7;simp at hj h7;exact H.p3 h9 hj h7
    ·intro _ _;rfl
    ·intro _ hj;simp at hj;exact H.p5 h9 hj
    ·intro _ hj h7;simp at hj h7;obtain ⟨b,e1,e2,e3,e4⟩:=H.p6 h9 hj h7;exact ⟨b,e1,e2,e3,fun a b=>e4 (by simpa using a) (by simpa using b)⟩
    ·intro _ hj;simp at hj;exact H.p7 h9 hj
    ·intro _ hj;simp at hj;exact H.p8 h9 hj
    ·intro h9';simp [h9] at h9'
   ·rintro d a w' hd di ⟨v75,v76,v77,v78,v79,v80,v81,v82,v83,rfl,H⟩ K hK
    simp [Region.binds] at di
    have h9:=H.h9 (by decide) hd
    have hB:=H.bel h9
    have e79:=H.p4 h9 di
    subst e79
    have hq6:=(hB.cell (p:=⟨w.heap.size,4,none⟩) z1).trans g1
    go_simp
    refine hK _ _ ⟨_,_,_,_,_,_,_,_,_,rfl,?_⟩
    constructor
    ·intro i hi h9';simp [h9] at h9'
    ·intro h7;simp at h7 ⊢;have:=H.c7 h7;simp [this]
    ·intro _;exact hB
    ·intro _ hj h3;simp at hj h3;exact H.p0 h9 hj h3
    ·intro _ hj;simp at hj;exact H.p1 h9 hj
    ·intro _ hj;simp at hj;exact H.p2 h9 hj
    ·intro _ hj h7;simp at hj h7;exact H.p3 h9 hj h7
    ·intro _ hj;simp at hj;exact H.p4 h9 hj
    ·intro _ _;rfl
    ·intro _ hj h7;simp at hj h7;obtain ⟨b,e1,e2,e3,e4⟩:=H.p6 h9 hj h7;exact ⟨b,e1,e2,e3,fun a b=>e4 (by simpa using a) (by simpa using b)⟩
    ·intro _ hj;simp at hj;exact H.p7 h9 hj
    ·intro _ hj;simp at hj;exact H.p8 h9 hj
    ·intro h9';simp [h9] at h9'
   ·rintro d a w' hd di ⟨v75,v76,v77,v78,v79,v80,v81,v82,v83,rfl,H⟩ K hK
    simp [Region.binds] at di
    have h9:=H.h9 (by decide) hd
    have hB:=H.bel h9
    have e80:=H.p5 h9 di
    subst e80
    have h7f:d 7=false:=by
     cases h:d 7
     ·rfl
     ·have:=(H.c7 h).2
      rw [hd] at this;cases this
    go_simp
    refine hK _ _ ⟨_,_,_,_,_,_,_,_,_,rfl,?_⟩
    constructor
    ·intro i hi h9';simp [h9] at h9'
    ·intro h7;simp at h7 ⊢;have:=H.c7 h7;simp [this]
    ·intro _;exact Below.alloc hB hB.size _
    ·intro _ hj h3;simp at hj h3;exact World.ownsRow.alloc (H.p0 h9 hj h3) _
    ·intro _ hj;simp at hj;exact H.p1 h9 hj
    ·intro _ hj;simp at hj;exact H.p2 h9 hj
    ·intro _ hj h7;simp at hj h7;exact World.ownsRow.alloc (H.p3 h9 hj h7) _
    ·intro _ hj;simp at hj;exact H.p4 h9 hj
    ·intro _ hj;simp at hj;exact H.p5 h9 hj
    ·intro _ _ _;exact ⟨_,rfl,by simp,by rw [World.cell?_alloc_new];rfl,fun h0 h3 e=>by have:=(H.p0 h9 (by simpa using h0) (by simpa using h3)).lt _ e;omega⟩
    ·intro _ hj;simp at hj;exact World.ownsRow.alloc (H.p7 h9 hj) _
    ·intro _ hj;simp at hj;exact H.p8 h9 hj
    ·intro h9';simp [h9] at h9'
   ·rintro d a w' hd di ⟨v75,v76,v77,v78,v79,v80,v81,v82,v83,rfl,H⟩ K hK
    simp [Region.binds] at di
    have h9:=H.h9 (by decide) hd
    have hB:=H.bel h9
    simp only [Region.wanted,if_true]
    obtain ⟨b,e1,e2,e3,-⟩:=H.p6 h9 di.2.1 hd
    subst e1
    have ho:=H.p3 h9 di.1 hd
    refine ik (.tmp 78) (.tmp 81) 30 rfl wx.heap.size 3 i1 _ 1 8 Tryz.underlying30 hi1 hy0 hy1 hy2 rfl (by decide) v78 t.queue.length ((t.queue.map intCells).flatten) rfl ho (.slice (some ⟨b,0,none⟩) 1 1) ([intCells cn]) rfl (bI [cn]) (Rows.one (by intro i u hu;rcases i with _|i;(simp [intCells] at hu;subst hu;exact e3);(simp [intCells] at hu))) (by simp [maxLen];omega) (by simp;omega) hB.size ?_
    intro v' w'' ho' hg'
    have hb':Below wx.heap.size wx w'':=hB.grown hg' hB.size (fun k hk=>(ho.lt k hk).1)
    have ho2:w''.ownsRow wx.heap.size 3 1 v' (t.queue.length+1) (((t.queue++[cn]).map intCells).flatten):=by simpa using ho'
    refine hK _ _ ⟨_,_,_,_,_,_,_,_,_,rfl,?_⟩
    constructor
    ·intro i hi h9';simp [h9] at h9'
    ·intro _;simp [di]
    ·intro _;exact hb'
    ·intro _ hj h3;simp at hj h3;simp [di] at h3
    ·intro _ hj;simp at hj;exact H.p1 h9 hj
    ·intro _ hj;simp at hj;exact H.p2 h9 hj
    ·intro _ hj h7;simp at hj h7
    ·intro _ hj;simp at hj;exact H.p4 h9 hj
    ·intro _ hj;simp at hj;exact H.p5 h9 hj
    ·intro _ hj h7;simp at hj h7
    ·intro _ hj;simp at hj;exact ho2
    ·intro _ hj;simp at hj;exact H.p8 h9 hj
    ·intro h9';simp [h9] at h9'
   ·rintro d a w' hd di ⟨v75,v76,v77,v78,v79,v80,v81,v82,v83,rfl,H⟩ K hK
    simp [Region.binds] at di
    have h9:=H.h9 (by decide) hd
    have hB:=H.bel h9
    go_simp
    refine hK _ _ ⟨_,_,_,_,_,_,_,_,_,rfl,?_⟩
    constructor
    ·intro i hi h9';simp [h9] at h9'
    ·intro h7;simp at h7 ⊢;have:=H.c7 h7;simp [this]
    ·intro _;exact hB
    ·intro _ hj h3;simp at hj h3;exact H.p0 h9 hj h3
    ·intro _ hj;simp at hj;exact H.p1 h9 hj
    ·intro _ hj;simp at hj;exact H.p2 h9 hj
    ·intro _ hj h7;simp at hj h7;exact H.p3 h9 hj h7
    ·intro _ hj;simp at hj;exact H.p4 h9 hj
    ·intro _ hj;simp at hj;exact H.p5 h9 hj
    ·intro _ hj h7;simp at hj h7;obtain ⟨b,e1,e2,e3,e4⟩:=H.p6 h9 hj h7;exact ⟨b,e1,e2,e3,fun a b=>e4 (by simpa using a) (by simpa using b)⟩
    ·intro _ hj;simp at hj;exact H.p7 h9 hj
    ·intro _ _;rfl
    ·intro h9';simp [h9] at h9'
   ·rintro d a w' hd di ⟨v75,v76,v77,v78,v79,v80,v81,v82,v83,rfl,H⟩ K hK
    simp [Region.binds] at di
    have hB:=H.bel hd
    have e83:=H.p8 hd (by simp [di])
    subst e83
    have ho:=H.p7 hd (by simp [di])
    obtain ⟨q1,n1,k1,rfl⟩:=gI ho
    have hq6:=(hB.cell (p:=⟨w.heap.size+1+1,6,none⟩) z3).trans p6
    have hf6:w'.frozen? ⟨w.heap.size+1+1,6,none⟩=false:=(hB.frozen (p:=⟨w.heap.size+1+1,6,none⟩) z3).trans fz6
    go_simp
    refine hK _ _ ⟨_,_,_,_,_,_,_,_,_,rfl,?_⟩
    constructor
    ·intro i hi _
     have:i=0∨i=1∨i=2∨i=3∨i=4∨i=5∨i=6∨i=7∨i=8:=by omega
     rcases this with rfl|rfl|rfl|rfl|rfl|rfl|rfl|rfl|rfl<;>simp [di]
    ·intro _;simp [di]
    ·intro h;simp at h
    ·intro h;simp at h
    ·intro h;simp at h
    ·intro h;simp at h
    ·intro h;simp at h
    ·intro h;simp at h
    ·intro h;simp at h
    ·intro h;simp at h
    ·intro h;simp at h
    ·intro h;simp at h
    ·exact fun _=>⟨w',_,rfl,hB,ho⟩
  ·rintro d a w' hd ⟨v75,v76,v77,v78,v79,v80,v81,v82,v83,rfl,H⟩
   obtain ⟨w1,v,rfl,hb1,ho1⟩:=H.p9 (hd 9 (by decide))
   obtain ⟨q1,n1,k1,rfl⟩:=gI ho1
   clear H hd
   have Ez:w1.ownsRow wx.heap.size 3 1 (Value.slice q1 n1 k1) (((t.queue++[cn]).map intCells).length) (((t.queue++[cn]).map intCells).flatten):=by simpa using ho1
   have hI1:aG w1 (Value.slice q1 n1 k1) (t.queue++[cn]):=Rows.dH (bI (t.queue++[cn])) Ez
   have hB1:∀ k,(Value.slice q1 n1 k1).ownBlock=some k→wx.heap.size≤k:=fun k hk=>(Ez.lt k hk).1
   have hH1:Held w1 (fun b=>wx.heap.size≤b) (fun _=>0) 0 (Value.slice q1 n1 k1):=Held.dH Ez (fun b hb=>⟨hB1 b hb,rfl⟩)
   clear ho1 Ez hQx
   obtain ⟨wy,hwy⟩:∃ wy:World,wy=w1.setCell ⟨w.heap.size+1+1,6,none⟩ (Value.slice q1 n1 k1):=⟨_,rfl⟩
   have hby:Below w.heap.size w wy:=by rw [hwy];exact (hBw.trans (hb1.mono (by omega))).setCell (p:=⟨w.heap.size+1+1,6,none⟩) (by show w.heap.size≤w.heap.size+1+1;omega) _
   have hcP:∀ a:Nat,a≠6→wy.cell? ⟨w.heap.size+1+1,a,none⟩=wx.cell? ⟨w.heap.size+1+1,a,none⟩:=by
    intro a ha
    rw [hwy,ag,if_neg (by intro e;simp only [Addr.mk.injEq] at e;omega)]
    exact hb1.cell (p:=⟨w.heap.size+1+1,a,none⟩) z3
   have p6':wy.cell? ⟨w.heap.size+1+1,6,none⟩=some (Value.slice q1 n1 k1):=by
    rw [hwy,ag,if_pos rfl,hb1.cell (p:=⟨w.heap.size+1+1,6,none⟩) z3,p6];rfl
   have q3':wy.cell? ⟨w.heap.size+1,0,none⟩=some (.int .i64 ((x:Int)+1)):=by
    rw [hwy,ag,if_neg (by intro e;simp only [Addr.mk.injEq] at e;omega),hb1.cell (p:=⟨w.heap.size+1,0,none⟩) z2];exact q3
   have hcT:∀ a:Nat,wy.cell? ⟨T,a,none⟩=w.cell? ⟨T,a,none⟩:=fun a=>hby.cell (p:=⟨T,a,none⟩) hTl
   have Li:∀ a:Nat,wx.cell? ⟨T,a,none⟩=w.cell? ⟨T,a,none⟩:=fun a=>hBw.cell (p:=⟨T,a,none⟩) hTl
   rw [Li,← hcT] at c0 c1 c2 c3 c4 c5 c6 c7
   rw [← hcP _ (by decide)] at p0 p1 p2 p3 p4 p5 p7
   have hf2:∀ j,wy.frozen? ⟨T,j,none⟩=false:=fun j=>(hby.frozen (p:=⟨T,j,none⟩) hTl).trans ((hBw.frozen (p:=⟨T,j,none⟩) hTl).symm.trans (hf' j))
   have hIy:aG wy (Value.slice q1 n1 k1) (t.queue++[cn]):=by
    rw [hwy]
    refine Rows.kept (S:=fun b=>b=w.heap.size+1+1) hI1 (Chg.setCell (S:=fun b=>b=w.heap.size+1+1) (p:=⟨w.heap.size+1+1,6,none⟩) (Chg.refl _ _) rfl _) (.inr fun k hk e=>?_)
    have:=hB1 k hk
    omega
   have hHy:dJ wy w.heap.size (Value.slice q1 n1 k1):=by
    rw [hwy]
    exact (hH1.chg (S:=fun b=>b=w.heap.size+1+1) (Chg.setCell (S:=fun b=>b=w.heap.size+1+1) (p:=⟨w.heap.size+1+1,6,none⟩) (Chg.refl _ _) rfl _) (fun b _ h1 h2=>by omega)).imp (fun b h1 h2 h3=>⟨by omega,rfl⟩)
   obtain ⟨tag',hh,hh2⟩:=hO.FH (w1:=wy) (t':=bJ (t.queue++[cn]) t) (sv:=.slice sp t.slots.length fE) (qv:=(Value.slice q1 n1 k1)) Ht.out hby hup (hS.pure hby) hIy (.inl rfl) hHy (fun b c h1 h2 h3 h4 h5=>by
    have h3':0<t.slots.length:=h3
    obtain ⟨b',o',e,hl,-⟩:=hS.at 0 (t.slots[0]'h3') (by simp)
    subst e
    cases h1
    exact absurd hl (Nat.not_lt.2 h5))
   have fin:aA w _ P (.slice (some ⟨T,o,none⟩) n cap) (dD (xs.map (·.1)) ((x:Int)+1) (bJ (t.queue++[cn]))):=⟨_,_,hh,aB Ht.out rfl,hh2⟩
   have Fin:=Lib.hid fin
   have y0:T<wy.heap.size:=by have:=hby.size;omega
   rw [← hwy]
   clear fin hh hh2 hwy hcP hcT Li p6 q3 hf'
   go_wp2
   all_goals (go_ret;exact ⟨rfl,Fin.out⟩)
end
end Go.Proofs.YthhmolonhpaepaaGreatDoor
