/- impl's actions: what each makes of the table, and its answer. Conditions: the table is the call's own; the action's cells are as said. -/
import Derived.Test.YthhmolonhpaepaaGreatDoorVS
import Derived.Test.YthhmolonhpaepaaGreatDoorVAct
import Derived.StillTailTactics
import Derived.Test.YthhmolonhpaepaaGreatDoorVY
import Derived.Deep.RegionHeld3
import Derived.Deep.QuietTactic
import Derived.BigQuiet
import Derived.Deep.DeepCutAuto
import Derived.IntWalk
set_option linter.unusedVariables false
set_option linter.unusedSimpArgs false
namespace Go.Proofs.YthhmolonhpaepaaGreatDoor
open Go.RowKit Drw
attribute [local go_sem] Lab.val Rgt.val Cal.val Thg.val
section
variable {P:Nat→Prop} {tag:Nat→Nat} {A T o n cap:Nat} {xs:List Thx} {c:Cal} {r:Rgt} {w:World} {x:Nat} {t:Thg} {sv qv:Value}
set_option maxRecDepth 100000 in
set_option maxHeartbeats 1000000 in
theorem Nv (hA:iy w A (.slice (some ⟨T,o,none⟩) n cap) c r) (hO:au w P tag (.slice (some ⟨T,o,none⟩) n cap) xs) (hx:r.thing=(x:Int)+1) (ht:xs[x]?=some (t,sv,qv)) (hn:n≤65536) :
  Calls Tryz.prog 132 #[.pointer (some ⟨A,0,none⟩)] w fun e w'=>e=.returned (.int .i64 t.num)∧aA w w' P (.slice (some ⟨T,o,none⟩) n cap) (xs.map (·.1)):=by
 obtain ⟨a0,a1,a2,a3,a4,a5,a6,a7,a8,a9,a10⟩:=hA
 rw [hx] at a6
 obtain ⟨c0,c1,c2,c3,c4,c5,c6,c7⟩:=hO.cells ht
 have hxl:x<n:=by rw [hO.len];exact (List.getElem?_eq_some_iff.1 ht).1
 clear hx ht
 go_enter Tryz.func132,Tryz.ntmps132
 go_wp2_with (go_at_call 158;refine (eB A T o n cap x _ a0 a6 hxl hn).mono ?_;rintro e w' ⟨rfl,m,rfl⟩)
 go_ret
 exact ⟨rfl,xs,tag,hO.chg (S:=fun _=>False) (by (repeat (with_reducible first|exact Chg.refl _ _|refine Chg.alloc ?_ _|refine Chg.drew ?_|refine Chg.drewN ?_ _|refine Chg.setCell ?_ ?_ _|refine Chg.trans ?_ (Chg.ah (by assumption))))<;>(first|omega|(simp;done)|(simp;omega))) (fun _ _ _=>id),rfl,(by (repeat (with_reducible first|exact Chg.refl _ _|refine Chg.alloc ?_ _|refine Chg.drew ?_|refine Chg.drewN ?_ _|refine Chg.setCell ?_ ?_ _|refine Chg.trans ?_ (Chg.ah (by assumption))))<;>(first|omega|(simp;done)|(simp;omega)))⟩
set_option maxRecDepth 100000 in
set_option maxHeartbeats 1000000 in
theorem KD (hA:iy w A (.slice (some ⟨T,o,none⟩) n cap) c r) (hO:au w P tag (.slice (some ⟨T,o,none⟩) n cap) xs) (hP:¬ P A) (hx:r.thing=(x:Int)+1) (ht:xs[x]?=some (t,sv,qv)) (hn:n≤65536) :
  Calls Tryz.prog 133 #[.pointer (some ⟨A,0,none⟩)] w fun e w'=>e=.returned (.int .i64 0)∧aA w w' P (.slice (some ⟨T,o,none⟩) n cap) (dD (xs.map (·.1)) ((x:Int)+1) (aS c.n)):=by
 obtain ⟨a0,a1,a2,a3,a4,a5,a6,a7,a8,a9,a10⟩:=hA
 rw [hx] at a6
 obtain ⟨c0,c1,c2,c3,c4,c5,c6,c7⟩:=hO.cells ht
 obtain ⟨-,hPT,-,-,hf⟩:=hO.pos ht
 have hne:¬ T=A:=by intro e;subst e;exact hP hPT
 have hxl:x<n:=by rw [hO.len];exact (List.getElem?_eq_some_iff.1 ht).1
 have Ht:=Lib.hid ht
 clear hx ht
 go_enter Tryz.func133,Tryz.ntmps133
 go_wp2
 go_region_held3 (fun w'=>w'.cell? ⟨A,0,none⟩=some (.slice (some ⟨T,o,none⟩) n cap)∧w'.cell? ⟨A,6,none⟩=some (.int .i64 ((x:Int)+1))∧w'.cell? ⟨A,5,none⟩=some (.int .i64 c.n)) (go_keep)
  (first|(go_at_call 158;refine (eB A T o n cap x _ (by simp [*]) (by simp [*]) hxl hn).mono ?_;rintro e w' ⟨rfl,m,rfl⟩))
 go_wp2
 go_ret
 refine ⟨rfl,?_⟩
 have hOd:au (w.drewN (1+m)) P tag (.slice (some ⟨T,o,none⟩) n cap) xs:=hO.chg (S:=fun _=>False) (by (repeat (with_reducible first|exact Chg.refl _ _|refine Chg.alloc ?_ _|refine Chg.drew ?_|refine Chg.drewN ?_ _|refine Chg.setCell ?_ ?_ _|refine Chg.trans ?_ (Chg.ah (by assumption))))<;>(first|omega|(simp;done)|(simp;omega))) (fun _ _ _=>id)
 have hh:=hOd.num Ht.out c.n
 exact ⟨_,_,hh.1,aB Ht.out rfl,(by (repeat (with_reducible first|exact Chg.refl _ _|refine Chg.alloc ?_ _|refine Chg.drew ?_|refine Chg.drewN ?_ _|refine Chg.setCell ?_ ?_ _|refine Chg.trans ?_ (Chg.ah (by assumption))))<;>(first|omega|(simp;done)|(simp;omega)))⟩
theorem KI (k:Fin 100):(bits BinOp.and IntKind.i64 ((k:Nat):Int) 1 != 0)=odd ((k:Nat):Int)∧(bits BinOp.and IntKind.i64 ((k:Nat):Int) 2 != 0)=odd (((k:Nat):Int) / 2)∧(bits BinOp.and IntKind.i64 ((k:Nat):Int) 4 != 0)=odd (((k:Nat):Int) / 4):=by
 revert k;decide
theorem Ny {n:Int} (h0:0≤n) (h:n≤99):(bits BinOp.and IntKind.i64 n 1 != 0)=odd n∧(bits BinOp.and IntKind.i64 n 2 != 0)=odd (n / 2)∧(bits BinOp.and IntKind.i64 n 4 != 0)=odd (n / 4):=by
 obtain ⟨k,rfl⟩:=Int.eq_ofNat_of_zero_le h0
 exact KI ⟨k,by omega⟩
set_option maxRecDepth 100000 in
set_option maxHeartbeats 2000000 in
theorem NB {B o' cap' bb j:Nat} (hA:iy w A (.slice (some ⟨T,o,none⟩) n cap) c r) (hO:au w P tag (.slice (some ⟨T,o,none⟩) n cap) xs) (hP:¬ P A) (hj:c.run=(j:Int)+1) (ht:xs[j]?=some (t,.slice (some ⟨B,o',none⟩) 4 cap',qv)) (h4:t.slots.length=4)
  (hb:c.b=(bb:Int)) (hbb:bb<4) (hn0:0≤c.n) (hn9:c.n≤99) (hr:aZ r=true) (hn:n≤65536) :
  Calls Tryz.prog 134 #[.pointer (some ⟨A,0,none⟩)] w fun e w'=>e=.returned (.int .i64 0)∧aA w w' P (.slice (some ⟨T,o,none⟩) n cap) (dD (xs.map (·.1)) ((j:Int)+1) (setSlot (bb:Int) (eG r (odd c.n) (odd (c.n / 2)) (odd (c.n / 4))))):=by
 obtain ⟨a0,a1,a2,a3,a4,a5,a6,a7,a8,a9,a10⟩:=hA
 rw [hj] at a2
 rw [hb] at a4
 obtain ⟨c0,c1,c2,c3,c4,c5,c6,c7⟩:=hO.cells ht
 obtain ⟨-,hPT,hT0,hTl,hf⟩:=hO.pos ht
 have hBh:=hO.slots j _ ht B o' 4 cap' rfl (by decide)
 have hm:=(hO.dK.2 _ (List.mem_of_getElem? ht)).1
 obtain ⟨y,hy⟩:∃ y,t.slots[bb]?=some y:=⟨t.slots[bb]'(by omega),by simp [show bb<t.slots.length by omega]⟩
 obtain ⟨b2,o2,e2,-,d0,d1,d2,d3,d4⟩:=hm.at bb y hy
 cases e2
 have hne:¬ T=A:=by intro e;subst e;exact hP hPT
 have hBA:¬ B=A:=by intro e;subst e;exact hP hBh.1
 have hBT:¬ B=T:=by intro e;subst e;have:=hBh.2.1;omega
 have hBl:=hBh.2.2.1
 have hBf:=hBh.2.2.2
 have hAl:A<w.heap.size:=World.block_lt_of_cell? w _ a0
 have hxl:j<n:=by rw [hO.len];exact (List.getElem?_eq_some_iff.1 ht).1
 have Ht:=Lib.hid ht
 obtain ⟨e1,e2,e3⟩:=Ny hn0 hn9
 have hl:less r (odd c.n) (odd (c.n / 2)) (odd (c.n / 4))=eG r (odd c.n) (odd (c.n / 2)) (odd (c.n / 4)):=by simp [less,hr]
 have Hl:=Lib.hid hl
 have hb0:(0:Int)≤(bb:Int):=by omega
 have hb4:(bb:Int)<4:=by omega
 have hw2:IntKind.i64.wrap (bb:Int)=(bb:Int):=IntWalk.i64_in _ (by omega)
 clear hj ht hy hBh hl hb
 obtain ⟨rt,rv,rrd,rwr,rwk⟩:=r
 dsimp only at a6 a7 a8 a9 a10
 go_enter Tryz.func134,Tryz.ntmps134
 go_wp2
 go_region_held3 (fun w'=>w'.cell? ⟨A,0,none⟩=some (.slice (some ⟨T,o,none⟩) n cap)∧w'.cell? ⟨A,2,none⟩=some (.int .i64 ((j:Int)+1))∧w'.cell? ⟨A,4,none⟩=some (.int .i64 (bb:Int))∧w'.cell? ⟨A,6,none⟩=some (.int .i64 rt)∧w'.cell? ⟨A,7,none⟩=some (.int .i64 rv)∧w'.cell? ⟨A,8,none⟩=some (.bool rrd)∧w'.cell? ⟨A,9,none⟩=some (.bool rwr)∧w'.cell? ⟨A,10,none⟩=some (.bool rwk) ∧
   w'.cell? ⟨T,o+j * 8+5,none⟩=some (.slice (some ⟨B,o',none⟩) 4 cap')) (go_keep)
  (first
   | (go_at_call 52;refine (jE A T o n cap j _ (by simp [*]) (by simp [*]) hxl hn).mono ?_;rintro e w' ⟨rfl,m,rfl⟩)
   | (go_at_call 159;refine (qB ⟨_,_,_,_,_⟩ _ _ _ _).mono ?_;rw [Hl.out];rintro e w1 ⟨rfl,hb1⟩;obtain ⟨hc1,hf1⟩:=ax hb1;have hcA:=fun o=>hc1 A o (by simpa using hAl);have hcT:=fun o=>hc1 T o (by simpa using hTl);have hcB:=fun o=>hc1 B o (by simpa using hBl);have hfB:=fun o=>hf1 B o (by simpa using hBl);clear hc1 hf1))
 all_goals
  go_wp2
  go_ret
  refine ⟨rfl,?_⟩
  have hg1:Chg (fun _=>False) w w1:=Chg.trans (by first|exact Chg.drewN (Chg.refl _ _) _|exact Chg.drew (Chg.refl _ _)|exact Chg.refl _ _) (Chg.ah hb1)
  have hh:=(hO.chg hg1 (fun _ _ _=>id)).slot Ht.out (k:=bb) (by omega) (eG ⟨rt,rv,rrd,rwr,rwk⟩ (odd c.n) (odd (c.n / 2)) (odd (c.n / 4)))
  exact ⟨_,_,hh.1,aB Ht.out rfl,(hg1.mono (fun _ _=>False.elim)).trans hh.2⟩
theorem NU (w:World) (n:Nat) (o:Obj):(w.drewN n).alloc o=(w.alloc o).drewN n:=rfl
theorem NT (w:World) (n:Nat) (a:Addr) (v:Value):(w.drewN n).setCell a v=(w.setCell a v).drewN n:=rfl
attribute [local go_sem] NU NT
theorem mod4 {n:Int} (h0:0≤n) (h9:n≤99):∃ k:Nat,k<4∧n % 4=(k:Int)∧n.tmod 4=(k:Int)∧IntKind.i64.wrap (n.tmod 4)=(k:Int):=by
 refine ⟨(n % 4).toNat,by omega,by omega,by rw [Int.tmod_eq_emod_of_nonneg h0];omega,?_⟩
 rw [Int.tmod_eq_emod_of_nonneg h0,IntWalk.i64_in _ (by omega)];omega
set_option maxRecDepth 100000 in
set_option maxHeartbeats 2000000 in
theorem KJ {B o' cap' B2 o2 cap2 bb j:Nat} {tr:Thg} {qv2:Value} (hA:iy w A (.slice (some ⟨T,o,none⟩) n cap) c r) (hO:au w P tag (.slice (some ⟨T,o,none⟩) n cap) xs) (hP:¬ P A) (hx:r.thing=(x:Int)+1) (ht:xs[x]?=some (t,.slice (some ⟨B,o',none⟩) 4 cap',qv)) (h4:t.slots.length=4)
  (hj:c.run=(j:Int)+1) (htr:xs[j]?=some (tr,.slice (some ⟨B2,o2,none⟩) 4 cap2,qv2)) (h42:tr.slots.length=4)
  (hb:c.b=(bb:Int)) (hbb:bb<4) (hn0:0≤c.n) (hn9:c.n≤99) (hr:∀ y∈t.slots,aZ y=true) (hup:∀ b,w.heap.size≤b→P b) (hn:n≤65536) :
  Calls Tryz.prog 135 #[.pointer (some ⟨A,0,none⟩)] w fun e w'=>e=.returned (.int .i64 0)∧aA w w' P (.slice (some ⟨T,o,none⟩) n cap) (dD (xs.map (·.1)) ((j:Int)+1) (setSlot (bb:Int) (if r.wk then eG (nL t (c.n % 4)) true false false else nL t (c.n % 4)))):=by
 obtain ⟨kk,hkk,m1,m2,m3⟩:=mod4 hn0 hn9
 obtain ⟨y,hy⟩:∃ y,t.slots[kk]?=some y:=⟨t.slots[kk]'(by omega),by simp [show kk<t.slots.length by omega]⟩
 have hgy:nL t (c.n % 4)=y:=by simp [nL,m1,hy]
 have hyo:=hr y (List.mem_of_getElem? hy)
 rw [hgy]
 obtain ⟨a0,a1,a2,a3,a4,a5,a6,a7,a8,a9,a10⟩:=hA
 rw [hj] at a2
 rw [hb] at a4
 rw [hx] at a6
 obtain ⟨-,-,-,-,-,c5,-,-⟩:=hO.cells ht
 obtain ⟨-,-,-,-,-,f5,-,-⟩:=hO.cells htr
 obtain ⟨-,hPT,hT0,hTl,hf⟩:=hO.pos ht
 have hBh:=hO.slots x _ ht B o' 4 cap' rfl (by decide)
 have BM:=hO.slots j _ htr B2 o2 4 cap2 rfl (by decide)
 have hm:=(hO.dK.2 _ (List.mem_of_getElem? ht)).1
 have hm2:=(hO.dK.2 _ (List.mem_of_getElem? htr)).1
 obtain ⟨b2,o3,e2,-,d0,d1,d2,d3,d4⟩:=hm.at kk y hy
 cases e2
 obtain ⟨z,hz⟩:∃ z,tr.slots[bb]?=some z:=⟨tr.slots[bb]'(by omega),by simp [show bb<tr.slots.length by omega]⟩
 obtain ⟨b2,o3,e2,-,g0,g1,g2,g3,g4⟩:=hm2.at bb z hz
 cases e2
 have hne:¬ T=A:=by intro e;subst e;exact hP hPT
 have hBA:¬ B2=A:=by intro e;subst e;exact hP BM.1
 have hBT:¬ B2=T:=by intro e;subst e;have:=BM.2.1;omega
 have hBl:=hBh.2.2.1
 have hBl2:=BM.2.2.1
 have hBf:=BM.2.2.2
 have hAl:A<w.heap.size:=World.block_lt_of_cell? w _ a0
 have hxl:x<n:=by rw [hO.len];exact (List.getElem?_eq_some_iff.1 ht).1
 have hjl:j<n:=by rw [hO.len];exact (List.getElem?_eq_some_iff.1 htr).1
 have Htr:=Lib.hid htr
 have hl:less y true false false=eG y true false false:=by simp [less,hyo]
 have Hl:=Lib.hid hl
 have hb0:(0:Int)≤(bb:Int):=by omega
 have hb4:(bb:Int)<4:=by omega
 have hk0:(0:Int)≤(kk:Int):=by omega
 have hk4:(kk:Int)<4:=by omega
 have hw2:IntKind.i64.wrap (bb:Int)=(bb:Int):=IntWalk.i64_in _ (by omega)
 have hw3:IntKind.i64.wrap (kk:Int)=(kk:Int):=IntWalk.i64_in _ (by omega)
 clear hj ht htr hy hz hBh BM hl hb hx hgy hr m1
 obtain ⟨rt,rv,rrd,rwr,rwk⟩:=r
 obtain ⟨yt,yv,yrd,ywr,ywk⟩:=y
 dsimp only at a6 a7 a8 a9 a10 d0 d1 d2 d3 d4
 go_enter Tryz.func135,Tryz.ntmps135
 go_upto_region 1 with (fail)
 go_cut [3] (fun s3 wx=>∃ Q,s3=.pointer (some ⟨Q,0,none⟩)∧w.heap.size≤Q∧Below w.heap.size w wx∧(wx.cell? ⟨Q,0,none⟩=some (.int .i64 yt)∧wx.cell? ⟨Q,1,none⟩=some (.int .i64 yv)∧wx.cell? ⟨Q,2,none⟩=some (.bool yrd)∧wx.cell? ⟨Q,3,none⟩=some (.bool ywr)∧wx.cell? ⟨Q,4,none⟩=some (.bool ywk))∧∀ j,wx.frozen? ⟨Q,j,none⟩=false)
 case first=>
  go_region_held3 (fun w'=>w'.cell? ⟨A,0,none⟩=some (.slice (some ⟨T,o,none⟩) n cap)∧w'.cell? ⟨A,6,none⟩=some (.int .i64 ((x:Int)+1))∧w'.cell? ⟨A,5,none⟩=some (.int .i64 c.n)∧w'.cell? ⟨T,o+x * 8+5,none⟩=some (.slice (some ⟨B,o',none⟩) 4 cap')∧w'.cell? ⟨B,o' + kk * 5,none⟩=some (.int .i64 yt)∧w'.cell? ⟨B,o' + kk * 5+1,none⟩=some (.int .i64 yv)∧w'.cell? ⟨B,o' + kk * 5+2,none⟩=some (.bool yrd)∧w'.cell? ⟨B,o' + kk * 5+3,none⟩=some (.bool ywr)∧w'.cell? ⟨B,o' + kk * 5+4,none⟩=some (.bool ywk))
   (go_keep) (first|(go_at_call 158;refine (eB A T o n cap x _ (by simp [*]) (by simp [*]) hxl hn).mono ?_;rintro e w' ⟨rfl,m,rfl⟩))
  all_goals
   go_wp2
   go_meet
   refine ⟨w.heap.size,rfl,Nat.le_refl _,(by (repeat (with_reducible first|exact bA _ _|refine bB ?_ ?_ _|refine bC ?_ _|refine bD ?_|refine bE ?_ ?_ _|refine bF ?_ (by assumption) ?_))<;>first|omega|(simp;try omega)),?_,?_⟩
   ·simp [ag]
   ·intro j;simp [go_sem]
 case rest=>
  obtain ⟨Q,rfl,hQ,hBx,⟨q0,q1,q2,q3,q4⟩,hqf⟩:=hcut
  obtain ⟨wx,rfl⟩:∃ wx:World,wx=wc:=⟨_,rfl⟩
  obtain ⟨hcx,hfx⟩:=ax hBx
  rw [← hcx _ _ hAl] at a0 a2 a4 a10
  rw [← hcx _ _ hTl] at f5
  rw [← hcx _ _ hBl2] at g0 g1 g2 g3 g4
  have hfB:∀ j,wx.frozen? ⟨B2,j,none⟩=false:=fun j=>(hfx _ _ hBl2).trans (hBf j)
  have hQl:Q<wx.heap.size:=World.block_lt_of_cell? wx _ q0
  have hAx:A<wx.heap.size:=World.block_lt_of_cell? wx _ a0
  have hTx:T<wx.heap.size:=World.block_lt_of_cell? wx _ f5
  have hBx2:B2<wx.heap.size:=World.block_lt_of_cell? wx _ g0
  have hQA:¬ A=Q:=by intro e;omega
  have hQT:¬ T=Q:=by intro e;omega
  have hQB:¬ B2=Q:=by intro e;omega
  have hAQ:¬ Q=A:=by intro e;omega
  have hTQ:¬ Q=T:=by intro e;omega
  have hOx:=hO.pure hBx
  have hPQ:=hup Q hQ
  clear hcx hfx hBf d0 d1 d2 d3 d4 c5 a1 a3 a5 a6 a7 a8 a9
  cases rwk with
  | false=>
   go_upto_region 4 with (fail)
   go_region_held3 (fun w'=>w'.cell? ⟨A,0,none⟩=some (.slice (some ⟨T,o,none⟩) n cap)∧w'.cell? ⟨A,2,none⟩=some (.int .i64 ((j:Int)+1))∧w'.cell? ⟨A,4,none⟩=some (.int .i64 (bb:Int))∧w'.cell? ⟨T,o+j * 8+5,none⟩=some (.slice (some ⟨B2,o2,none⟩) 4 cap2)∧(w'.cell? ⟨Q,0,none⟩=some (.int .i64 yt)∧w'.cell? ⟨Q,1,none⟩=some (.int .i64 yv)∧w'.cell? ⟨Q,2,none⟩=some (.bool yrd)∧w'.cell? ⟨Q,3,none⟩=some (.bool ywr)∧w'.cell? ⟨Q,4,none⟩=some (.bool ywk)))
    (go_keep) (first|(go_at_call 52;refine (jE A T o n cap j _ (by simp [*]) (by simp [*]) hjl hn).mono ?_;rintro e w' ⟨rfl,m,rfl⟩))
   all_goals
    go_wp2
    go_ret
    refine ⟨rfl,?_⟩
    have hh:=hOx.slot Htr.out (k:=bb) (by omega) ⟨yt,yv,yrd,ywr,ywk⟩
    exact ⟨_,_,hh.1.chg (S:=fun _=>False) (by (repeat (with_reducible first|exact Chg.refl _ _|refine Chg.alloc ?_ _|refine Chg.drew ?_|refine Chg.drewN ?_ _|refine Chg.setCell ?_ ?_ _|refine Chg.trans ?_ (Chg.ah (by assumption))))<;>(first|omega|(simp;done)|(simp;omega))) (fun _ _ _=>id),aB Htr.out rfl,(Chg.ah hBx).trans (hh.2.trans (by (repeat (with_reducible first|exact Chg.refl _ _|refine Chg.alloc ?_ _|refine Chg.drew ?_|refine Chg.drewN ?_ _|refine Chg.setCell ?_ ?_ _|refine Chg.trans ?_ (Chg.ah (by assumption))))<;>(first|omega|(simp;done)|(simp;omega))))⟩
  | true=>
   obtain ⟨⟨zt,zv,zrd,zwr,zwk⟩,hz⟩:∃ z,eG ⟨yt,yv,yrd,ywr,ywk⟩ true false false=z:=⟨_,rfl⟩
   have Hl2:=Lib.hid (Hl.out.trans hz)
   have Hz:=Lib.hid hz
   clear hz
   go_upto_region 4 with (go_at_call 159;refine (qB ⟨_,_,_,_,_⟩ _ _ _ _).mono ?_;rw [Hl2.out];rintro e w1 ⟨rfl,hb1⟩;obtain ⟨hc1,hf1⟩:=ax hb1;have hcA:=fun o=>hc1 A o (by simpa using hAx);have hcT:=fun o=>hc1 T o (by simpa using hTx);have hcB:=fun o=>hc1 B2 o (by simpa using hBx2);have hfB1:=fun o=>hf1 B2 o (by simpa using hBx2);have hcQ:=fun o=>hc1 Q o (by simpa using hQl);have hfQ:=fun o=>hf1 Q o (by simpa using hQl);clear hc1 hf1)
   go_region_held3 (fun w'=>w'.cell? ⟨A,0,none⟩=some (.slice (some ⟨T,o,none⟩) n cap)∧w'.cell? ⟨A,2,none⟩=some (.int .i64 ((j:Int)+1))∧w'.cell? ⟨A,4,none⟩=some (.int .i64 (bb:Int))∧w'.cell? ⟨T,o+j * 8+5,none⟩=some (.slice (some ⟨B2,o2,none⟩) 4 cap2)∧(w'.cell? ⟨Q,0,none⟩=some (.int .i64 zt)∧w'.cell? ⟨Q,1,none⟩=some (.int .i64 zv)∧w'.cell? ⟨Q,2,none⟩=some (.bool zrd)∧w'.cell? ⟨Q,3,none⟩=some (.bool zwr)∧w'.cell? ⟨Q,4,none⟩=some (.bool zwk)))
    ((simp [*,ag])) (first|(go_at_call 52;refine (jE A T o n cap j _ (by simp [*]) (by simp [*]) hjl hn).mono ?_;rintro e w' ⟨rfl,m,rfl⟩))
   all_goals
    go_wp2
    go_ret
    refine ⟨rfl,?_⟩
    have hg1:Chg (fun b=>b=Q) wx w1:=Chg.ah hb1
    have hg2:Chg (fun b=>b=Q) wx (((((w1.setCell ⟨Q,0,none⟩ (.int .i64 zt)).setCell ⟨Q,1,none⟩ (.int .i64 zv)).setCell ⟨Q,2,none⟩ (.bool zrd)).setCell ⟨Q,3,none⟩ (.bool zwr)).setCell ⟨Q,4,none⟩ (.bool zwk)):=(((((hg1.setCell rfl _).setCell rfl _).setCell rfl _).setCell rfl _).setCell rfl _)
    have hOy:=hO.chg ((Chg.ah hBx).trans (hg2.mono (T:=fun b=>w.heap.size≤b) (fun b _ e=>by subst e;exact hQ))) (fun b _ h1 h2=>by omega)
    have hh:=hOy.slot Htr.out (k:=bb) (by omega) ⟨zt,zv,zrd,zwr,zwk⟩
    rw [Hz.out]
    exact ⟨_,_,hh.1.chg (S:=fun _=>False) (by (repeat (with_reducible first|exact Chg.refl _ _|refine Chg.alloc ?_ _|refine Chg.drew ?_|refine Chg.drewN ?_ _|refine Chg.setCell ?_ ?_ _|refine Chg.trans ?_ (Chg.ah (by assumption))))<;>(first|omega|(simp;done)|(simp;omega))) (fun _ _ _=>id),aB Htr.out rfl,(Chg.ah hBx).trans ((hg2.mono (fun b _ e=>by subst e;exact hPQ)).trans (hh.2.trans (by (repeat (with_reducible first|exact Chg.refl _ _|refine Chg.alloc ?_ _|refine Chg.drew ?_|refine Chg.drewN ?_ _|refine Chg.setCell ?_ ?_ _|refine Chg.trans ?_ (Chg.ah (by assumption))))<;>(first|omega|(simp;done)|(simp;omega)))))⟩
set_option maxRecDepth 100000 in
set_option maxHeartbeats 2000000 in
theorem KG {B o' cap' B2 o2 cap2 bb j:Nat} {tr:Thg} {qv2:Value} (hA:iy w A (.slice (some ⟨T,o,none⟩) n cap) c r) (hO:au w P tag (.slice (some ⟨T,o,none⟩) n cap) xs) (hP:¬ P A) (hx:r.thing=(x:Int)+1) (ht:xs[x]?=some (t,.slice (some ⟨B,o',none⟩) 4 cap',qv)) (h4:t.slots.length=4)
  (hj:c.run=(j:Int)+1) (htr:xs[j]?=some (tr,.slice (some ⟨B2,o2,none⟩) 4 cap2,qv2)) (h42:tr.slots.length=4) (hxj:x≠j)
  (hb:c.b=(bb:Int)) (hbb:bb<4) (hn0:0≤c.n) (hn9:c.n≤99) (hn:n≤65536) :
  Calls Tryz.prog 136 #[.pointer (some ⟨A,0,none⟩)] w fun e w'=>e=.returned (.int .i64 0)∧aA w w' P (.slice (some ⟨T,o,none⟩) n cap) (dD (xs.map (·.1)) ((x:Int)+1) (setSlot (c.n % 4) (nL tr c.b))):=by
 obtain ⟨kk,hkk,m1,m2,m3⟩:=mod4 hn0 hn9
 obtain ⟨y,hy⟩:∃ y,t.slots[kk]?=some y:=⟨t.slots[kk]'(by omega),by simp [show kk<t.slots.length by omega]⟩
 obtain ⟨z,hz⟩:∃ z,tr.slots[bb]?=some z:=⟨tr.slots[bb]'(by omega),by simp [show bb<tr.slots.length by omega]⟩
 have hgz:nL tr c.b=z:=by simp [nL,hb,hz]
 rw [hgz,m1]
 obtain ⟨a0,a1,a2,a3,a4,a5,a6,a7,a8,a9,a10⟩:=hA
 rw [hj] at a2
 rw [hb] at a4
 rw [hx] at a6
 obtain ⟨-,-,-,-,-,c5,-,-⟩:=hO.cells ht
 obtain ⟨-,-,-,-,-,f5,-,-⟩:=hO.cells htr
 obtain ⟨-,hPT,hT0,hTl,hf⟩:=hO.pos ht
 have hBh:=hO.slots x _ ht B o' 4 cap' rfl (by decide)
 have BM:=hO.slots j _ htr B2 o2 4 cap2 rfl (by decide)
 have hm:=(hO.dK.2 _ (List.mem_of_getElem? ht)).1
 have hm2:=(hO.dK.2 _ (List.mem_of_getElem? htr)).1
 obtain ⟨b2,o3,e2,-,d0,d1,d2,d3,d4⟩:=hm.at kk y hy
 cases e2
 obtain ⟨b2,o3,e2,-,g0,g1,g2,g3,g4⟩:=hm2.at bb z hz
 cases e2
 have hne:¬ T=A:=by intro e;subst e;exact hP hPT
 have hBA:¬ B=A:=by intro e;subst e;exact hP hBh.1
 have hBT:¬ B=T:=by intro e;subst e;have:=hBh.2.1;omega
 have hBB:¬ B=B2:=by intro e;subst e;have h1:=hBh.2.1;have h2:=BM.2.1;omega
 have hBf:=hBh.2.2.2
 have hxl:x<n:=by rw [hO.len];exact (List.getElem?_eq_some_iff.1 ht).1
 have hjl:j<n:=by rw [hO.len];exact (List.getElem?_eq_some_iff.1 htr).1
 have Ht:=Lib.hid ht
 have hb0:(0:Int)≤(bb:Int):=by omega
 have hb4:(bb:Int)<4:=by omega
 have hk0:(0:Int)≤(kk:Int):=by omega
 have hk4:(kk:Int)<4:=by omega
 have hw2:IntKind.i64.wrap (bb:Int)=(bb:Int):=IntWalk.i64_in _ (by omega)
 have hw3:IntKind.i64.wrap (kk:Int)=(kk:Int):=IntWalk.i64_in _ (by omega)
 clear hj ht htr hy hz hBh BM hb hx hgz m1
 obtain ⟨zt,zv,zrd,zwr,zwk⟩:=z
 dsimp only at g0 g1 g2 g3 g4
 go_enter Tryz.func136,Tryz.ntmps136
 go_wp2
 go_region_held3 (fun w'=>w'.cell? ⟨A,0,none⟩=some (.slice (some ⟨T,o,none⟩) n cap)∧w'.cell? ⟨A,2,none⟩=some (.int .i64 ((j:Int)+1))∧w'.cell? ⟨A,6,none⟩=some (.int .i64 ((x:Int)+1))∧w'.cell? ⟨A,5,none⟩=some (.int .i64 c.n)∧w'.cell? ⟨A,4,none⟩=some (.int .i64 (bb:Int))∧w'.cell? ⟨T,o+x * 8+5,none⟩=some (.slice (some ⟨B,o',none⟩) 4 cap')∧w'.cell? ⟨T,o+j * 8+5,none⟩=some (.slice (some ⟨B2,o2,none⟩) 4 cap2)∧w'.cell? ⟨B2,o2+bb * 5,none⟩=some (.int .i64 zt)∧w'.cell? ⟨B2,o2+bb * 5+1,none⟩=some (.int .i64 zv)∧w'.cell? ⟨B2,o2+bb * 5+2,none⟩=some (.bool zrd)∧w'.cell? ⟨B2,o2+bb * 5+3,none⟩=some (.bool zwr)∧w'.cell? ⟨B2,o2+bb * 5+4,none⟩=some (.bool zwk))
  (go_keep) (first
   | (go_at_call 158;refine (eB A T o n cap x _ (by simp [*]) (by simp [*]) hxl hn).mono ?_;rintro e w' ⟨rfl,m,rfl⟩)
   | (go_at_call 52;refine (jE A T o n cap j _ (by simp [*]) (by simp [*]) hjl hn).mono ?_;rintro e w' ⟨rfl,m,rfl⟩))
 all_goals
  go_wp2
  go_ret
  refine ⟨rfl,?_⟩
  have hh:=hO.slot Ht.out (k:=kk) (by omega) ⟨zt,zv,zrd,zwr,zwk⟩
  exact ⟨_,_,hh.1.chg (S:=fun _=>False) (by (repeat (with_reducible first|exact Chg.refl _ _|refine Chg.alloc ?_ _|refine Chg.drew ?_|refine Chg.drewN ?_ _|refine Chg.setCell ?_ ?_ _|refine Chg.trans ?_ (Chg.ah (by assumption))))<;>(first|omega|(simp;done)|(simp;omega))) (fun _ _ _=>id),aB Ht.out rfl,hh.2.trans (by (repeat (with_reducible first|exact Chg.refl _ _|refine Chg.alloc ?_ _|refine Chg.drew ?_|refine Chg.drewN ?_ _|refine Chg.setCell ?_ ?_ _|refine Chg.trans ?_ (Chg.ah (by assumption))))<;>(first|omega|(simp;done)|(simp;omega)))⟩
end
end Go.Proofs.YthhmolonhpaepaaGreatDoor
namespace Go.Proofs.YthhmolonhpaepaaGreatDoor
open Go.RowKit Drw
attribute [local go_sem] Lab.val Rgt.val Cal.val Thg.val
def RingAt (w:World) (R:Nat) (u0 u1 u2 f s:Int):Prop:=(w.cell? ⟨R,0,none⟩=some (.int .i64 u0)∧w.cell? ⟨R,1,none⟩=some (.int .i64 u1)∧w.cell? ⟨R,2,none⟩=some (.int .i64 u2)∧w.cell? ⟨R,3,none⟩=some (.int .i64 f)∧w.cell? ⟨R,4,none⟩=some (.int .i64 s))∧∀ j,w.frozen? ⟨R,j,none⟩=false
set_option maxHeartbeats 400000 in
theorem FQ (R:Nat) (u0 u1 u2 f k:Int) (w:World) (h:RingAt w R u0 u1 u2 f 3) :
  Calls Tryz.prog 161 #[.pointer (some ⟨R,0,none⟩),.int .i64 k] w fun e w'=>e=.returned (.bool false)∧w'=w:=by
 obtain ⟨⟨h0,h1,h2,h3,h4⟩,hf⟩:=h
 go_enter Tryz.func161,Tryz.ntmps161
 go_wp2
 go_ret
 exact ⟨rfl,rfl⟩
set_option maxRecDepth 100000 in
set_option maxHeartbeats 1000000 in
theorem Dj (R:Nat) (u0 u1 u2 k:Int) (w:World) (h:RingAt w R u0 u1 u2 0 0) :
  Calls Tryz.prog 161 #[.pointer (some ⟨R,0,none⟩),.int .i64 k] w fun e w'=>e=.returned (.bool true)∧RingAt w' R k u1 u2 0 1∧Chg (fun b=>b=R) w w':=by
 obtain ⟨⟨h0,h1,h2,h3,h4⟩,hf⟩:=h
 go_enter Tryz.func161,Tryz.ntmps161
 go_wp2
 go_region
 all_goals go_wp2
 all_goals go_ret
 all_goals refine ⟨rfl,⟨?_,?_⟩,(by (repeat (with_reducible first|exact Chg.refl _ _|refine Chg.alloc ?_ _|refine Chg.drew ?_|refine Chg.drewN ?_ _|refine Chg.setCell ?_ ?_ _|refine Chg.trans ?_ (Chg.ah (by assumption))))<;>(first|omega|(simp;done)|(simp;omega)))⟩
 ·simp [ag, *]
 ·intro j;simp [hf]
set_option maxRecDepth 100000 in
set_option maxHeartbeats 1000000 in
theorem Dh (R:Nat) (u0 u1 u2 k:Int) (w:World) (h:RingAt w R u0 u1 u2 0 1) :
  Calls Tryz.prog 161 #[.pointer (some ⟨R,0,none⟩),.int .i64 k] w fun e w'=>e=.returned (.bool true)∧RingAt w' R u0 k u2 0 2∧Chg (fun b=>b=R) w w':=by
 obtain ⟨⟨h0,h1,h2,h3,h4⟩,hf⟩:=h
 go_enter Tryz.func161,Tryz.ntmps161
 go_wp2
 go_region
 all_goals go_wp2
 all_goals go_ret
 all_goals refine ⟨rfl,⟨?_,?_⟩,(by (repeat (with_reducible first|exact Chg.refl _ _|refine Chg.alloc ?_ _|refine Chg.drew ?_|refine Chg.drewN ?_ _|refine Chg.setCell ?_ ?_ _|refine Chg.trans ?_ (Chg.ah (by assumption))))<;>(first|omega|(simp;done)|(simp;omega)))⟩
 ·simp [ag, *]
 ·intro j;simp [hf]
set_option maxRecDepth 100000 in
set_option maxHeartbeats 1000000 in
theorem Df (R:Nat) (u0 u1 u2 k:Int) (w:World) (h:RingAt w R u0 u1 u2 0 2) :
  Calls Tryz.prog 161 #[.pointer (some ⟨R,0,none⟩),.int .i64 k] w fun e w'=>e=.returned (.bool true)∧RingAt w' R u0 u1 k 0 3∧Chg (fun b=>b=R) w w':=by
 obtain ⟨⟨h0,h1,h2,h3,h4⟩,hf⟩:=h
 go_enter Tryz.func161,Tryz.ntmps161
 go_wp2
 go_region
 all_goals go_wp2
 all_goals go_ret
 all_goals refine ⟨rfl,⟨?_,?_⟩,(by (repeat (with_reducible first|exact Chg.refl _ _|refine Chg.alloc ?_ _|refine Chg.drew ?_|refine Chg.drewN ?_ _|refine Chg.setCell ?_ ?_ _|refine Chg.trans ?_ (Chg.ah (by assumption))))<;>(first|omega|(simp;done)|(simp;omega)))⟩
 ·simp [ag, *]
 ·intro j;simp [hf]
def zn (w:World) (R:Nat) (l:List Int):Prop:=∃ u0 u1 u2:Int,RingAt w R u0 u1 u2 0 l.length∧[u0,u1,u2].take l.length=l
def RingM (w:World) (R:Nat) (l:List Int):Prop:=∃ u0 u1 u2:Int,RingAt w R u0 u1 u2 1 l.length∧[u1,u2].take l.length=l
theorem K7 (R:Nat) (l:List Int) (k:Int) (w:World) (h:zn w R l) (hl:l.length<3) :
  Calls Tryz.prog 161 #[.pointer (some ⟨R,0,none⟩),.int .i64 k] w fun e w'=>e=.returned (.bool true)∧zn w' R (l++[k])∧Chg (fun b=>b=R) w w':=by
 obtain ⟨u0,u1,u2,h1,h2⟩:=h
 match l,hl with
 | [],_=>exact (Dj R u0 u1 u2 k w h1).mono fun e w' ⟨a,b,c⟩=>⟨a,⟨_,_,_,b,rfl⟩,c⟩
 | [a],_=>
  simp at h2;subst h2
  exact (Dh R _ u1 u2 k w h1).mono fun e w' ⟨a,b,c⟩=>⟨a,⟨_,_,_,b,rfl⟩,c⟩
 | [a,b],_=>
  simp at h2;obtain ⟨rfl,rfl⟩:=h2
  exact (Df R _ _ u2 k w h1).mono fun e w' ⟨a,b,c⟩=>⟨a,⟨_,_,_,b,rfl⟩,c⟩
theorem LZ (R:Nat) (l:List Int) (k:Int) (w:World) (h:zn w R l) (hl:l.length=3) :
  Calls Tryz.prog 161 #[.pointer (some ⟨R,0,none⟩),.int .i64 k] w fun e w'=>e=.returned (.bool false)∧w'=w:=by
 obtain ⟨u0,u1,u2,h1,h2⟩:=h
 rw [hl] at h1
 exact FQ R u0 u1 u2 0 k w h1
set_option maxRecDepth 100000 in
set_option maxHeartbeats 1000000 in
theorem pF (p:Option Addr) (cap:Nat) (q:List Int) (w:World) (hQ:aG w (.slice p q.length cap) q) (hq:q.length≤3) :
  Calls Tryz.prog 160 #[.slice p q.length cap] w fun e w'=>∃ R,e=.returned (.pointer (some ⟨R,0,none⟩))∧w.heap.size≤R∧zn w' R q∧Below w.heap.size w w':=by
 obtain ⟨_,_,h1,hl1,hl2⟩:=hQ.len
 cases h1
 unfold maxLen at hl2
 go_enter Tryz.func160,Tryz.ntmps160
 go_wp2
 go_loopw [10] (fun i wr=>∃ j:Nat,j≤q.length∧i=.int .i64 j∧Below w.heap.size w wr∧w.heap.size<wr.heap.size∧zn wr w.heap.size (q.take j)) (fun i _=>q.length - (intOf i).toNat)
 case atStart=>
  refine ⟨0,Nat.zero_le _,rfl,(by (repeat (with_reducible first|exact bA _ _|refine bB ?_ ?_ _|refine bC ?_ _|refine bD ?_|refine bE ?_ ?_ _|refine bF ?_ (by assumption) ?_))<;>first|omega|(simp;try omega)),by simp,0,0,0,⟨?_,?_⟩,by simp⟩
  ·simp [ag]
  ·intro j;simp [go_sem]
 case round=>
  obtain ⟨j,hj,rfl,hB,hz,hI⟩:=hrel
  by_cases hlt:j<q.length
  ·obtain ⟨t,ht⟩:∃ t,q[j]?=some t:=⟨q[j],by simp [hlt]⟩
   obtain ⟨b,o,rfl,hbk,c0⟩:=(hQ.pure hB).at j t ht
   have Ht:=Lib.hid ht
   clear ht
   have htl:(q.take j).length<3:=by simp;omega
   go_wp2_with (go_at_call 161;refine (K7 _ _ _ _ hI htl).mono ?_;rintro e w1 ⟨rfl,hI1,hg1⟩)
   go_roundw
   case rel=>exact ⟨j+1,by omega,by go_num,hB.trans (hg1.below hB.size (fun k hk e=>by omega)),Nat.lt_of_lt_of_le hz hg1.size,by rw [take_one Ht.out];exact hI1⟩
   case measure=>simp [intOf];omega
  ·have e:j=q.length:=by omega
   subst e
   rw [List.take_length] at hI
   go_wp2
   go_ret
   exact ⟨_,rfl,Nat.le_refl _,hI,hB⟩
set_option maxHeartbeats 400000 in
theorem pop_no (R:Nat) (w:World) (h:zn w R []) :
  Calls Tryz.prog 163 #[.pointer (some ⟨R,0,none⟩)] w fun e w'=>e=.returned (.tuple #[.int .i64 0,.bool false])∧w'=w:=by
 obtain ⟨u0,u1,u2,⟨⟨h0,h1,h2,h3,h4⟩,hf⟩,-⟩:=h
 go_enter Tryz.func163,Tryz.ntmps163
 go_wp2
 go_ret2
 exact ⟨rfl,rfl⟩
set_option maxRecDepth 100000 in
set_option maxHeartbeats 1000000 in
theorem pop_at (R:Nat) (u0 u1 u2 s:Int) (w:World) (h:RingAt w R u0 u1 u2 0 s) (h1:1≤s) (h9:s≤3) :
  Calls Tryz.prog 163 #[.pointer (some ⟨R,0,none⟩)] w fun e w'=>e=.returned (.tuple #[.int .i64 u0,.bool true])∧RingAt w' R u0 u1 u2 1 (s - 1)∧Chg (fun b=>b=R) w w':=by
 obtain ⟨⟨h0,h1',h2,h3,h4⟩,hf⟩:=h
 go_enter Tryz.func163,Tryz.ntmps163
 go_wp2
 go_quiet (fail)
 go_wp2
 go_ret2
 refine ⟨rfl,⟨?_,?_⟩,(by (repeat (with_reducible first|exact Chg.refl _ _|refine Chg.alloc ?_ _|refine Chg.drew ?_|refine Chg.drewN ?_ _|refine Chg.setCell ?_ ?_ _|refine Chg.trans ?_ (Chg.ah (by assumption))))<;>(first|omega|(simp;done)|(simp;omega)))⟩
 ·simp [ag, *]
 ·intro j;simp [hf]
theorem pop_c (R:Nat) (x:Int) (l:List Int) (w:World) (h:zn w R (x::l)) (hl:l.length<3) :
  Calls Tryz.prog 163 #[.pointer (some ⟨R,0,none⟩)] w fun e w'=>e=.returned (.tuple #[.int .i64 x,.bool true])∧RingM w' R l∧Chg (fun b=>b=R) w w':=by
 obtain ⟨u0,u1,u2,h1,h2⟩:=h
 simp only [List.length_cons,List.take_succ_cons,List.cons.injEq] at h1 h2
 obtain ⟨rfl,h2⟩:=h2
 refine (pop_at R _ u1 u2 _ w h1 (by omega) (by omega)).mono fun e w' ⟨a,b,c⟩=>⟨a,⟨u0,u1,u2,?_,h2⟩,c⟩
 have e:((l.length+1:Nat):Int) - 1=(l.length:Int):=by omega
 rw [e] at b
 exact b
def nth3 (u0 u1 u2:Int) (f j:Nat):Int:=if (f+j) % 3=0 then u0 else if (f+j) % 3=1 then u1 else u2
set_option maxRecDepth 100000 in
set_option maxHeartbeats 2000000 in
theorem Gw (R:Nat) (u0 u1 u2:Int) (f s:Nat) (l:List Int) (w:World) (h:RingAt w R u0 u1 u2 f s) (hf3:f≤1) (hs3:s≤3) (hl:l.length=s) (hn:∀ j x,l[j]?=some x→x=nth3 u0 u1 u2 f j) :
  Calls Tryz.prog 162 #[.pointer (some ⟨R,0,none⟩)] w fun e w'=>∃ v,e=.returned v∧aG w' v l∧dJ w' w.heap.size v∧Below w.heap.size w w':=by
 obtain ⟨i0,hi,hz0,hz1,hz2⟩:=info_parts jb
 obtain ⟨⟨h0,h1,h2,h3,h4⟩,hf⟩:=h
 have Hl:=Lib.hid hl
 clear hl
 go_enter Tryz.func162,Tryz.ntmps162
 go_wp2
 go_loopw [3,9] (fun v i wr=>∃ j:Nat,j≤s∧i=.int .i64 j∧wr.ownsRow w.heap.size 3 1 v j (((l.take j).map intCells).flatten)∧Below w.heap.size w wr) (fun _ i _=>s - (intOf i).toNat)
 case atStart=>exact ⟨0,Nat.zero_le _,rfl,by simpa using World.ownsRow_nil _ _ _ _,Below.refl _ _⟩
 case round=>
  obtain ⟨j,hj,rfl,hown,hB⟩:=hrel
  by_cases hlt:j<s
  ·obtain ⟨hcr,-⟩:=ax hB
   have hRl:R<w.heap.size:=World.block_lt_of_cell? w _ h0
   rw [← hcr _ _ hRl] at h0 h1 h2 h3 h4
   obtain ⟨y,hy⟩:∃ y,l[j]?=some y:=⟨l[j]'(by rw [Hl.out];exact hlt),by simp [Hl.out,hlt]⟩
   have hyn:=hn j y hy
   have Hy:=Lib.hid hy
   have hlj:(l.take j).length=j:=by simp [Hl.out];omega
   have Hlj:=Lib.hid hlj
   obtain ⟨g,hg⟩:∃ g:Nat,(f+j) % 3=g:=⟨_,rfl⟩
   have hg3:g<3:=by omega
   have s1:IntKind.i64.wrap ((f:Int)+(j:Int))=(f:Int)+(j:Int):=IntWalk.i64_in _ (by omega)
   have s2:((f:Int)+(j:Int)).tmod 3=(g:Int):=by rw [Int.tmod_eq_emod_of_nonneg (by omega)];omega
   have s3:IntKind.i64.wrap (g:Int)=(g:Int):=IntWalk.i64_in _ (by omega)
   have g0:(0:Int)≤(g:Int):=by omega
   have g3:(g:Int)<3:=by omega
   have hcell:wr.cell? ⟨R,g,none⟩=some (.int .i64 y):=by
    rw [hyn]
    unfold nth3
    rw [hg]
    have:g=0∨g=1∨g=2:=by omega
    rcases this with rfl|rfl|rfl
    ·exact h0
    ·exact h1
    ·exact h2
   have hRr:R<wr.heap.size:=by have:=hB.size;omega
   clear hyn hy hlj hg h0 h1 h2 hcr hn hf
   go_upto_region 5 with (fail)
   go_region_held3 (fun w'=>w'.cell? ⟨R,3,none⟩=some (.int .i64 (f:Int))∧w'.cell? ⟨R,g,none⟩=some (.int .i64 y)) (go_keep)
    (first|(refine jh rfl (.tmp 12) (.tmp 25) 30 rfl w.heap.size 3 i0 _ 1 8 Tryz.underlying30 hi hz0 hz1 hz2 rfl (by decide) _ j _ rfl (hown.alloc _) (.slice (some ⟨wr.heap.size,0,none⟩) 1 1) [intCells y] rfl (bI [y]) (Rows.one (by intro i u hu;rcases i with _|i;(simp [intCells] at hu;subst hu;simp [go_sem]);(simp [intCells] at hu))) (by simp [maxLen];omega) (by simp;omega) (by simp;have:=hB.size;omega) ?_;intro v1 w1 hown1 hg1;have hcR:=fun o=>World.cell?_of_block (a:=⟨R,o,none⟩) (hg1.block R (by simp;omega) (by intro e;have:=(hown.lt _ e.symm).1;omega))))
   all_goals
    go_wp2
    go_roundw
    case rel=>
     refine ⟨j+1,by omega,by go_num,?_,?_⟩
     ·rw [take_one Hy.out,List.map_append,List.flatten_append];exact hown1
     ·exact (Below.drew (hB.alloc hB.size _)).grown hg1 (by simp;have:=hB.size;omega) (fun k hk=>(hown.lt k hk).1)
    case measure=>simp [intOf];omega
  ·have e:j=s:=by omega
   subst e
   have hw:=Lib.hid hown
   clear hown
   go_wp2
   go_ret
   have ho:=hw.out
   rw [List.take_of_length_le (by rw [Hl.out];exact Nat.le_refl _)] at ho
   rw [← Hl.out,show l.length=(l.map intCells).length by simp] at ho
   exact ⟨_,rfl,Rows.dH (bI l) ho,Held.dH ho (fun b hb=>⟨(ho.lt b hb).1,rfl⟩),hB⟩
theorem ME (R:Nat) (l:List Int) (w:World) (h:zn w R l) (hl:l.length≤3) :
  Calls Tryz.prog 162 #[.pointer (some ⟨R,0,none⟩)] w fun e w'=>∃ v,e=.returned v∧aG w' v l∧dJ w' w.heap.size v∧Below w.heap.size w w':=by
 obtain ⟨u0,u1,u2,h1,h2⟩:=h
 refine Gw R u0 u1 u2 0 l.length l w h1 (by omega) hl rfl (fun j x hx=>?_)
 have hjl:=(List.getElem?_eq_some_iff.1 hx).1
 rw [← h2,List.getElem?_take,if_pos hjl] at hx
 have:j=0∨j=1∨j=2:=by omega
 rcases this with rfl|rfl|rfl<;>simp at hx<;>simp [nth3,hx]
theorem MC (R:Nat) (l:List Int) (w:World) (h:RingM w R l) (hl:l.length≤2) :
  Calls Tryz.prog 162 #[.pointer (some ⟨R,0,none⟩)] w fun e w'=>∃ v,e=.returned v∧aG w' v l∧dJ w' w.heap.size v∧Below w.heap.size w w':=by
 obtain ⟨u0,u1,u2,h1,h2⟩:=h
 refine Gw R u0 u1 u2 1 l.length l w h1 (by omega) (by omega) rfl (fun j x hx=>?_)
 have hjl:=(List.getElem?_eq_some_iff.1 hx).1
 rw [← h2,List.getElem?_take,if_pos hjl] at hx
 have:j=0∨j=1:=by omega
 rcases this with rfl|rfl<;>simp at hx<;>simp [nth3,hx]
end Go.Proofs.YthhmolonhpaepaaGreatDoor
