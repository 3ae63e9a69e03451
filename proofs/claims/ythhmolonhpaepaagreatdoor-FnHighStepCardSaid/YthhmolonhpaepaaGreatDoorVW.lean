/- impl's perform, and CallDo. Conditions: the table lies where its cells say; errors.errorType is laid. -/
import Derived.Test.YthhmolonhpaepaaGreatDoorVU
import Derived.Test.YthhmolonhpaepaaGreatDoorVDo
set_option linter.unusedVariables false
set_option linter.unusedSimpArgs false
namespace Go.Proofs.YthhmolonhpaepaaGreatDoor
open Go.RowKit Drw
attribute [local go_sem] Lab.val Rgt.val Cal.val Thg.val
theorem oH {xs:List Thx} {i:Int} (h:ex (xs.map (·.1)) i=true):∃ (k:Nat) (sv qv:Value),i=(k:Int)+1∧xs[k]?=some (aC (xs.map (·.1)) i,sv,qv):=by
 have h1:=BV h
 have h2:=fM.1 h
 rw [List.getElem?_map] at h1
 obtain ⟨⟨t,sv,qv⟩,hx,he⟩:=Option.map_eq_some_iff.1 h1
 dsimp only at he
 subst he
 exact ⟨(i - 1).toNat,sv,qv,by omega,hx⟩
theorem cK {w:World} {v:Value} {rs:List Rgt} (h:aF w v rs) (h4:rs.length=4):∃ B o cap,v=.slice (some ⟨B,o,none⟩) 4 cap:=by
 obtain ⟨p,cap,rfl,-,-⟩:=h.len
 obtain ⟨x,hx⟩:∃ x,rs[0]?=some x:=⟨rs[0]'(by omega),by simp [show 0<rs.length by omega]⟩
 obtain ⟨b,o,rfl,-⟩:=h.at 0 x hx
 exact ⟨b,o,cap,by rw [h4]⟩
theorem F4 {t:Thg} (h:aP t=true) (hk:t.kind=1∨t.kind=2∨t.kind=4):aP (az t.kind t.lab t.to)=true:=by
 obtain ⟨k,l,v,n,s,q,tg⟩:=t
 rw [aQ] at h ⊢
 obtain ⟨h1,h2,h3,h4,h5,h6,h7⟩:=h
 dsimp only at hk
 refine ⟨h1,h2,?_,?_,?_,?_,h7⟩
 ·rcases hk with rfl|rfl|rfl<;>rfl
 ·rcases hk with rfl|rfl|rfl<;>simp [qH,az,inR]
 ·rcases hk with rfl|rfl|rfl<;>simp [bH,az,Al]
 ·simp [dS,az]
theorem Nb (args:Array Value) (w:World):(callFunc 132 args).run Tryz.prog w=.ok (.enter 132 args) w:=by kernel_rfl
theorem Na (args:Array Value) (w:World):(callFunc 133 args).run Tryz.prog w=.ok (.enter 133 args) w:=by kernel_rfl
theorem M9 (args:Array Value) (w:World):(callFunc 135 args).run Tryz.prog w=.ok (.enter 135 args) w:=by kernel_rfl
theorem M8 (args:Array Value) (w:World):(callFunc 136 args).run Tryz.prog w=.ok (.enter 136 args) w:=by kernel_rfl
theorem M7 (args:Array Value) (w:World):(callFunc 137 args).run Tryz.prog w=.ok (.enter 137 args) w:=by kernel_rfl
theorem M6 (args:Array Value) (w:World):(callFunc 138 args).run Tryz.prog w=.ok (.enter 138 args) w:=by kernel_rfl
theorem M5 (args:Array Value) (w:World):(callFunc 139 args).run Tryz.prog w=.ok (.enter 139 args) w:=by kernel_rfl
theorem M4 (args:Array Value) (w:World):(callFunc 140 args).run Tryz.prog w=.ok (.enter 140 args) w:=by kernel_rfl
theorem exec_c {P:Nat→Prop} {tag:Nat→Nat} {A T o n cap:Nat} {xs:List Thx} {c:Cal} (hP:¬ P A) (hn:n≤65536) (hc:nV (xs.map (·.1)) c) (h3:c.kind≠3) (hk:dU c.kind (aC (xs.map (·.1)) (NQ (xs.map (·.1)) c).thing).kind=true) (he:ex (xs.map (·.1)) (NQ (xs.map (·.1)) c).thing=true) :
  ∃ F:FuncId,(∀ w:World,Calls Tryz.prog 86 #[.int .i64 c.kind] w fun e w'=>e=.returned (.func (.func F) #[] #[])∧Below w.heap.size w w')∧(∀ (args:Array Value) (w:World),(callFunc F args).run Tryz.prog w=.ok (.enter F args) w) ∧
   ∀ w:World,iy w A (.slice (some ⟨T,o,none⟩) n cap) c (NQ (xs.map (·.1)) c)→au w P tag (.slice (some ⟨T,o,none⟩) n cap) xs→(∀ b,w.heap.size≤b→P b) →
    Calls Tryz.prog F #[.pointer (some ⟨A,0,none⟩)] w fun e w'=>e=.returned (.int .i64 (act (xs.map (·.1)) c (NQ (xs.map (·.1)) c)).2)∧aA w w' P (.slice (some ⟨T,o,none⟩) n cap) (act (xs.map (·.1)) c (NQ (xs.map (·.1)) c)).1:=by
 have hn0:=hc.n
 have ho:=bW hc.tab he
 have hrun:=oH hc.ex
 obtain ⟨j,svr,qvr,hj,htr⟩:=hrun
 obtain ⟨x,sv,qv,hx,ht⟩:=oH he
 have hbb:∃ bb:Nat,c.b=(bb:Int)∧bb<4:=⟨c.b.toNat,by have:=hc.b;omega,by have:=hc.b;omega⟩
 obtain ⟨bb,hbb,hb4⟩:=hbb
 have hro:=hc.thg
 have h4r:=hc.four
 have hrk:=hc.kind
 generalize hr:NQ (xs.map (·.1)) c=r at *
 rcases mF hk hc.call h3 with ⟨e,k⟩|⟨e,k⟩|⟨e,k⟩|⟨e,k⟩|⟨e,k⟩|⟨e,k⟩|⟨e,k⟩|⟨e,k⟩<;>simp only [act,e,if_true,Int.reduceEq,if_false]
 ·exact ⟨_,step1,Nb,fun w hA hO up=>Nv hA hO hx ht hn⟩
 ·refine ⟨_,step2,Na,fun w hA hO up=>?_⟩
  rw [hx]
  exact KD hA hO hP hx ht hn
 ·refine ⟨_,step4,M9,fun w hA hO up=>?_⟩
  have h4:=gz ho (.inl k)
  obtain ⟨B,o',cap',rfl⟩:=cK (hO.dK.2 _ (List.mem_of_getElem? ht)).1 h4
  obtain ⟨B2,o2,cap2,rfl⟩:=cK (hO.dK.2 _ (List.mem_of_getElem? htr)).1 h4r
  rw [hj,hbb]
  exact KJ hA hO hP hx ht h4 hj (by first|exact htr|(rw [← hj];exact htr)) (by first|exact h4r|(rw [← hj];exact h4r)) hbb hb4 hn0.1 hn0.2 (fun y hy=>qj ho hy) up hn
 ·refine ⟨_,step5,M8,fun w hA hO up=>?_⟩
  have h4:=gz ho (.inl k)
  obtain ⟨B,o',cap',rfl⟩:=cK (hO.dK.2 _ (List.mem_of_getElem? ht)).1 h4
  obtain ⟨B2,o2,cap2,rfl⟩:=cK (hO.dK.2 _ (List.mem_of_getElem? htr)).1 h4r
  have hxj:x≠j:=by
   intro e;subst e
   rw [← hx] at hj;rw [hj] at hrk;omega
  rw [hx]
  exact KG hA hO hP hx (by first|exact ht|(rw [← hx];exact ht)) (by first|exact h4|(rw [← hx];exact h4)) hj htr h4r hxj hbb hb4 hn0.1 hn0.2 hn
 ·refine ⟨_,step6,M7,fun w hA hO up=>?_⟩
  have hq:=(iU ho).1
  split
  ·rename_i h3q
   exact En hA hO hx ht h3q hn
  ·rename_i h3q
   rw [hx]
   exact Em hA hO hP up hx (by first|exact ht|(rw [← hx];exact ht)) (by first|omega|(rw [← hx];omega)) hn
 ·refine ⟨_,step7,M6,fun w hA hO up=>?_⟩
  have hq:=(iU ho).1
  split
  ·rename_i h3q
   exact El hA hO hx ht h3q hn
  ·rename_i y ys h3q
   rw [hx]
   exact Ej hA hO up hx (by first|exact ht|(rw [← hx];exact ht)) (by first|exact h3q|(rw [← hx];exact h3q)) (by first|exact hq|(rw [← hx];exact hq)) hn
 ·refine ⟨_,step9,M4,fun w hA hO up=>?_⟩
  have hg:=Drw.nM hc.tab he k
  obtain ⟨g,svp,qvp,hgi,htp⟩:=oH hg.1
  have hgx:g≠x:=by
   intro e;subst e
   have h2:=hg.2
   rw [hgi,← hx,k] at h2;omega
  have Lh:=vD ho (.inr k)
  rw [hgi,hx]
  exact Nz hA hO hP hx (by first|exact ht|(rw [← hx];exact ht)) (by first|exact hgi|(rw [← hx];exact hgi)) htp hgx hn0.1 hn0.2 (by first|exact Lh.1|(rw [← hx];exact Lh.1)) (by first|exact Lh.2|(rw [← hx];exact Lh.2)) hn
 ·refine ⟨_,step8,M5,fun w hA hO up=>?_⟩
  have hv:=EG ho
  split
  ·rename_i h5
   exact A9 hA hO hx ht h5 hn
  ·rename_i h5
   rw [hx]
   refine Iw hA hO up hx (by first|exact ht|(rw [← hx];exact ht)) (by first|exact h5|(rw [← hx];exact h5)) (by first|exact hv.1|(rw [← hx];exact hv.1)) ?_ hn
   exact F4 ho k
section
variable {P:Nat→Prop} {tag:Nat→Nat} {A T o n cap:Nat} {xs:List Thx} {c:Cal} {w:World}
theorem Ag (k:Int) (hk:k≠0) (w:World) :
  Calls Tryz.prog 50 #[.pointer (some ⟨A,0,none⟩),.int .i64 k] w fun e w'=>e=.returned (.int .i64 k)∧w'=w:=by
 have h:(k == 0)=false:=by simpa using hk
 have h2:(k != 0)=true:=by simpa using hk
 clear hk
 go_enter Tryz.func50,Tryz.ntmps50
 go_wp2
 go_ret
 exact ⟨rfl,rfl⟩
set_option maxRecDepth 100000 in
set_option maxHeartbeats 1000000 in
theorem xV (hA:iy w A (.slice (some ⟨T,o,none⟩) n cap) c (NQ (xs.map (·.1)) c)) (hO:au w P tag (.slice (some ⟨T,o,none⟩) n cap) xs) (hP:¬ P A) (hup:∀ b,w.heap.size≤b→P b) (hn:n≤65536) (hc:nV (xs.map (·.1)) c) (h3:c.kind=3) :
  Calls Tryz.prog 50 #[.pointer (some ⟨A,0,none⟩),.int .i64 0] w fun e w'=>e=.returned (.int .i64 (do1 (xs.map (·.1)) c).2)∧aA w w' P (.slice (some ⟨T,o,none⟩) n cap) (do1 (xs.map (·.1)) c).1:=by
 rw [pU h3]
 obtain ⟨j,svr,qvr,hj,htr⟩:=oH hc.ex
 obtain ⟨bb,hbb,hb4⟩:∃ bb:Nat,c.b=(bb:Int)∧bb<4:=⟨c.b.toNat,by have:=hc.b;omega,by have:=hc.b;omega⟩
 obtain ⟨B2,o2,cap2,rfl⟩:=cK (hO.dK.2 _ (List.mem_of_getElem? htr)).1 hc.four
 have hA':=hA
 obtain ⟨a0,a1,a2,a3,a4,a5,a6,a7,a8,a9,a10⟩:=hA
 rw [h3] at a1
 have key:=fun (w1:World) (hb:Below w.heap.size w w1)=>NB (hA'.chg (S:=fun _=>False) (Chg.ah hb) id) (hO.pure hb) hP hj htr hc.four hbb hb4 hc.n.1 hc.n.2 hc.rOk hn
 have Key:=Lib.hid key
 have Hj:=Lib.hid hj
 have Hbb:=Lib.hid hbb
 have H3:=Lib.hid h3
 clear key hj hbb h3 a0 a2 a3 a4 a5 a6 a7 a8 a9 a10 hA' htr hc
 go_enter Tryz.func50,Tryz.ntmps50
 go_wp2_with (first
  | (go_at_call 86;refine (step3 _).mono ?_;rintro e w1 ⟨rfl,hb1⟩)
  | (go_at_call 134;refine (Key.out _ (by assumption)).mono ?_;rintro e w2 ⟨rfl,hp⟩))
 go_ret
 obtain ⟨xs',tag',k1,k2,k3⟩:=hp
 rw [Hj.out,Hbb.out]
 exact ⟨rfl,xs',tag',k1,k2,(Chg.ah hb1).trans k3⟩
set_option maxRecDepth 100000 in
set_option maxHeartbeats 2000000 in
theorem Af (hA:iy w A (.slice (some ⟨T,o,none⟩) n cap) c (NQ (xs.map (·.1)) c)) (hO:au w P tag (.slice (some ⟨T,o,none⟩) n cap) xs) (hP:¬ P A) (hup:∀ b,w.heap.size≤b→P b) (hn:n≤65536) (hc:nV (xs.map (·.1)) c) (h0:aT (xs.map (·.1)) c=0) (h3:c.kind≠3) :
  Calls Tryz.prog 50 #[.pointer (some ⟨A,0,none⟩),.int .i64 0] w fun e w'=>e=.returned (.int .i64 (do1 (xs.map (·.1)) c).2)∧aA w w' P (.slice (some ⟨T,o,none⟩) n cap) (do1 (xs.map (·.1)) c).1:=by
 obtain ⟨z1,z2,z3,z4,z5⟩:=iQ h0 h3
 have he:=Cc hc.rCap z1
 obtain ⟨F,hF1,hF3,hF2⟩:=exec_c (P:=P) (tag:=tag) (A:=A) (T:=T) (o:=o) (cap:=cap) hP hn hc h3 z2 he
 obtain ⟨li,hli⟩:∃ li,live (xs.map (·.1)) (NQ (xs.map (·.1)) c)=li:=⟨_,rfl⟩
 obtain ⟨se,hse⟩:∃ se,sees (xs.map (·.1)) c.run (NQ (xs.map (·.1)) c).thing=se:=⟨_,rfl⟩
 have GX:TabAt w (.slice (some ⟨T,o,none⟩) (xs.map (·.1)).length cap) (xs.map (·.1)):=by
  have:=hO.at'
  rw [hO.len] at this
  simpa using this
 have hlen:n=(xs.map (·.1)).length:=by rw [hO.len];simp
 have hex:=hc.ex
 have hA':=hA
 have hk3:(c.kind == 3)=false:=by simpa using h3
 have hdo:do1 (xs.map (·.1)) c=if li then ((act (xs.map (·.1)) c (NQ (xs.map (·.1)) c)).1,if se then (act (xs.map (·.1)) c (NQ (xs.map (·.1)) c)).2 else 0) else (xs.map (·.1),0):=by
  cases li with
  | true=>rw [pQ h0 h3 hli,hse];simp
  | false=>rw [pR h0 h3 hli];simp
 rw [hdo]
 have hex2:=Lib.hid (fun w1 (hb:Below w.heap.size w w1)=>hF2 w1 (hA'.chg (S:=fun _=>False) (Chg.ah hb) id) (hO.pure hb) (fun b hb2=>hup b (Nat.le_trans hb.size hb2)))
 have HF1:=Lib.hid hF1
 obtain ⟨a0,a1,a2,a3,a4,a5,a6,a7,a8,a9,a10⟩:=hA
 generalize hr:NQ (xs.map (·.1)) c=r at *
 generalize hts:xs.map (·.1)=ts at *
 have Hli:=Lib.hid hli
 have Hse:=Lib.hid hse
 have Hex:=Lib.hid hex
 have He:=Lib.hid he
 have Hts:=Lib.hid hts
 have hAl:A<w.heap.size:=World.block_lt_of_cell? w _ a0
 clear hF1 hF2 hli hse hdo z1 z2 z3 z4 z5 h0 hex he hc hr hA' h3 hts
 subst hlen
 obtain ⟨rt,rv,rrd,rwr,rwk⟩:=r
 dsimp only at a6 a7 a8 a9 a10
 go_enter Tryz.func50,Tryz.ntmps50
 go_upto_region 5 with (fail)
 have HS:=Lib.hid (show ∀ w':World,Below w.heap.size w w'→(Below w.heap.size w w'∧w'.cell? ⟨A,0,none⟩=some (.slice (some ⟨T,o,none⟩) ts.length cap)∧w'.cell? ⟨A,1,none⟩=some (.int .i64 c.kind)∧w'.cell? ⟨A,2,none⟩=some (.int .i64 c.run)∧w'.cell? ⟨A,6,none⟩=some (.int .i64 rt)∧w'.cell? ⟨A,7,none⟩=some (.int .i64 rv)∧w'.cell? ⟨A,8,none⟩=some (.bool rrd)∧w'.cell? ⟨A,9,none⟩=some (.bool rwr)∧w'.cell? ⟨A,10,none⟩=some (.bool rwk)) from
  fun w' h=>by
   obtain ⟨hc',-⟩:=ax h
   exact ⟨h,(hc' _ _ hAl).trans a0,(hc' _ _ hAl).trans a1,(hc' _ _ hAl).trans a2,(hc' _ _ hAl).trans a6,(hc' _ _ hAl).trans a7,(hc' _ _ hAl).trans a8,(hc' _ _ hAl).trans a9,(hc' _ _ hAl).trans a10⟩)
 go_cut [28] (fun s28 wx=>s28=.bool (!li)∧Below w.heap.size w wx)
 case first=>
  go_region_held3 (fun w'=>Below w.heap.size w w'∧w'.cell? ⟨A,0,none⟩=some (.slice (some ⟨T,o,none⟩) ts.length cap)∧w'.cell? ⟨A,1,none⟩=some (.int .i64 c.kind)∧w'.cell? ⟨A,2,none⟩=some (.int .i64 c.run)∧w'.cell? ⟨A,6,none⟩=some (.int .i64 rt)∧w'.cell? ⟨A,7,none⟩=some (.int .i64 rv)∧w'.cell? ⟨A,8,none⟩=some (.bool rrd)∧w'.cell? ⟨A,9,none⟩=some (.bool rwr)∧w'.cell? ⟨A,10,none⟩=some (.bool rwk))
   (first|exact HS.out _ (Below.drew (Below.refl _ _))|(have hX:=And.left (by assumption:Below w.heap.size w _∧_);exact HS.out _ (hX.trans (hb3.mono hX.size))))
   (first|(go_at_call 87;refine (qA _ _ ts ⟨_,_,_,_,_⟩ _ (GX.pure (And.left (by assumption:Below w.heap.size w _∧_)))).mono ?_;rw [Hli.out];rintro e w3 ⟨rfl,hb3⟩))
  all_goals (go_wp2;go_meet;exact ⟨rfl,And.left (by assumption:Below w.heap.size w _∧_)⟩)
 case rest=>
  obtain ⟨rfl,hBx⟩:=hcut
  obtain ⟨wx,rfl⟩:∃ wx:World,wx=wc:=⟨_,rfl⟩
  cases li with
  | false=>
   go_wp2
   go_ret
   have hp:=aA.same hO hBx
   rw [Hts.out] at hp
   exact ⟨rfl,hp⟩
  | true=>
   obtain ⟨-,b0,b1,b2,b6,b7,b8,b9,b10⟩:=HS.out wx hBx
   clear a0 a1 a2 a3 a4 a5 a6 a7 a8 a9 a10
   go_upto_region 7 with (fail)
   go_cut [5] (fun s5 wy=>s5=.bool se∧Below w.heap.size w wy)
   case first=>
    go_region_held3 (fun w'=>Below w.heap.size w w'∧w'.cell? ⟨A,0,none⟩=some (.slice (some ⟨T,o,none⟩) ts.length cap)∧w'.cell? ⟨A,1,none⟩=some (.int .i64 c.kind)∧w'.cell? ⟨A,2,none⟩=some (.int .i64 c.run)∧w'.cell? ⟨A,6,none⟩=some (.int .i64 rt)∧w'.cell? ⟨A,7,none⟩=some (.int .i64 rv)∧w'.cell? ⟨A,8,none⟩=some (.bool rrd)∧w'.cell? ⟨A,9,none⟩=some (.bool rwr)∧w'.cell? ⟨A,10,none⟩=some (.bool rwk))
     (first|exact HS.out _ (Below.drew hBx)|(have hX:=And.left (by assumption:Below w.heap.size w _∧_);exact HS.out _ (hX.trans (hb3.mono hX.size))))
     (first|(go_at_call 88;refine (ru _ _ ts _ _ _ (GX.pure (And.left (by assumption:Below w.heap.size w _∧_))) Hex.out He.out).mono ?_;rw [Hse.out];rintro e w3 ⟨rfl,hb3⟩))
    all_goals (go_wp2;go_meet;exact ⟨rfl,And.left (by assumption:Below w.heap.size w _∧_)⟩)
   case rest=>
    obtain ⟨rfl,hBy⟩:=hcut
    obtain ⟨wy,rfl⟩:∃ wy:World,wy=wc:=⟨_,rfl⟩
    obtain ⟨-,d0,d1,-⟩:=HS.out wy hBy
    clear b0 b1 b2 b6 b7 b8 b9 b10
    cases se with
    | true=>
     go_wp2_with (first
      | (go_at_call 86;refine (HF1.out _).mono ?_;rintro e w1 ⟨rfl,hb1⟩)
      | (refine (hex2.out _ (hBy.trans (hb1.mono hBy.size))).mono ?_;rintro e w2 ⟨rfl,hp⟩))
     go_ret
     obtain ⟨xs',tag',k1,k2,k3⟩:=hp
     exact ⟨rfl,xs',tag',k1,k2,(Chg.ah (hBy.trans (hb1.mono hBy.size))).trans k3⟩
    | false=>
     go_wp2_with (first
      | (go_at_call 86;refine (HF1.out _).mono ?_;rintro e w1 ⟨rfl,hb1⟩)
      | (refine (hex2.out _ (hBy.trans (hb1.mono hBy.size))).mono ?_;rintro e w2 ⟨rfl,hp⟩))
     go_ret
     obtain ⟨xs',tag',k1,k2,k3⟩:=hp
     exact ⟨rfl,xs',tag',k1,k2,(Chg.ah (hBy.trans (hb1.mono hBy.size))).trans k3⟩
theorem FV (hA:iy w A (.slice (some ⟨T,o,none⟩) n cap) c (NQ (xs.map (·.1)) c)) (hO:au w P tag (.slice (some ⟨T,o,none⟩) n cap) xs) (hP:¬ P A) (hup:∀ b,w.heap.size≤b→P b) (hn:n≤65536) (hc:nV (xs.map (·.1)) c) :
  Calls Tryz.prog 50 #[.pointer (some ⟨A,0,none⟩),.int .i64 (aT (xs.map (·.1)) c)] w fun e w'=>e=.returned (.int .i64 (do1 (xs.map (·.1)) c).2)∧aA w w' P (.slice (some ⟨T,o,none⟩) n cap) (do1 (xs.map (·.1)) c).1:=by
 by_cases h0:aT (xs.map (·.1)) c=0
 ·rw [h0]
  by_cases h3:c.kind=3
  ·exact xV hA hO hP hup hn hc h3
  ·exact Af hA hO hP hup hn hc h0 h3
 ·refine (Ag _ h0 w).mono ?_
  rintro e w' ⟨rfl,rfl⟩
  rw [wG h0]
  exact ⟨rfl,xs,tag,hO,rfl,Chg.refl _ _⟩
end
theorem Bq {w:World} {P:Nat→Prop} {tag:Nat→Nat} {v:Value} {xs:List Thx} {ts:List Thg} (h:au w P tag v xs) (hts:xs.map (·.1)=ts) (h0:0<ts.length):∃ T o cap,v=.slice (some ⟨T,o,none⟩) ts.length cap:=by
 subst hts
 obtain ⟨p,cap,rfl,-,-⟩:=h.dK.len
 have h0':0<xs.length:=by simpa using h0
 obtain ⟨b,o,rfl,-⟩:=h.dK.at 0 _ (List.getElem?_eq_getElem h0')
 exact ⟨b,o,cap,by simp⟩
theorem L8 (w:World) (P:Nat→Prop) (tag:Nat→Nat):au w P tag (.slice none 0 0) []:=
 ⟨⟨⟨none,0,rfl,by simp,by simp,.inl rfl⟩,fun x hx=>by cases hx⟩,Held.nil,fun i x hx=>by simp at hx,fun i x hx=>by simp at hx⟩
set_option maxRecDepth 100000 in
set_option maxHeartbeats 1000000 in
theorem Ig (p:Option Addr) (cap:Nat) (ts:List Thg) (c:Cal) (w:World) (hT:TabAt w (.slice p ts.length cap) ts) (hno:bP ts c=false) :
  Calls Tryz.prog 17 #[.slice p ts.length cap,c.val] w fun e w'=>e=.returned (.tuple #[.slice none 0 0,.int .i64 (-1)])∧Below w.heap.size w w':=by
 have Hno:=Lib.hid hno
 clear hno
 obtain ⟨k,r,a,b,n⟩:=c
 go_enter Tryz.func17,Tryz.ntmps17
 go_wp2_with (go_at_call 48;refine (dQ _ _ ts ⟨_,_,_,_,_⟩ _ (hT.pure (by (repeat (with_reducible first|exact bA _ _|refine bB ?_ ?_ _|refine bC ?_ _|refine bD ?_|refine bE ?_ ?_ _|refine bF ?_ (by assumption) ?_))<;>first|omega|(simp;try omega)))).mono ?_;rw [Hno.out];rintro e w1 ⟨rfl,hb1⟩;obtain ⟨hc1,hf1⟩:=ax hb1;have hz0:w.heap.size<w1.heap.size:=(by have:=hb1.size;(try simp at this);omega))
 go_ret2
 exact ⟨rfl,(by (repeat (with_reducible first|exact bA _ _|refine bB ?_ ?_ _|refine bC ?_ _|refine bD ?_|refine bE ?_ ?_ _|refine bF ?_ (by assumption) ?_))<;>first|omega|(simp;try omega))⟩
set_option maxRecDepth 100000 in
set_option maxHeartbeats 4000000 in
theorem Ef (p:Option Addr) (cap:Nat) (ts:List Thg) (c:Cal) (w:World) (hL:Laid w) (hT:TabAt w (.slice p ts.length cap) ts) (oV:bP ts c=true) :
  Calls Tryz.prog 17 #[.slice p ts.length cap,c.val] w fun e w'=>∃ v xs tag,e=.returned (.tuple #[v,.int .i64 (do2 ts c).2])∧au w' (fun b=>w.heap.size≤b) tag v xs∧xs.map (·.1)=(do2 ts c).1∧Below w.heap.size w w':=by
 obtain ⟨j,m,tr,r,gT⟩:=Ic oV
 have hcB:=Nk.1 oV
 have MP:=(jr.1 hcB.tab).1
 have HcB:=Lib.hid hcB
 have NI:=Lib.hid oV
 have Hsh:=Lib.hid (nZ hcB.tab)
 have Hck:=Lib.hid (zb oV)
 have Hdone:Hid (do2 ts c=do2 ts c):=Lib.hid rfl
 obtain ⟨_,_,h1,hl1,hl2⟩:=hT.len
 cases h1
 unfold maxLen at hl2
 obtain ⟨b,o,sv,qv,rfl,hbk,hS,hQ,c0,c1,c2,c3,c4,c5,c6,c7⟩:=hT.at j tr gT.Cw
 obtain ⟨p',cap',rfl,GR,GQ⟩:=hS.len
 rw [gT.four] at GR
 obtain ⟨b',o',rfl,hbk',r0,r1,r2,r3,r4⟩:=hS.at m r gT.r_at
 have hj:j<ts.length:=(List.getElem?_eq_some_iff.1 gT.Cw).1
 have hm4:=gT.m4
 have hrun:=gT.run
 have ha:=gT.a
 rw [gT.four] at c5
 have Ew:=Lib.hid gT
 clear gT oV hcB
 obtain ⟨k,rn,a,bb,n⟩:=c
 dsimp only at hrun ha
 subst hrun
 subst ha
 obtain ⟨rt,rv,rrd,rwr,rwk⟩:=r
 dsimp only at r0 r1 r2 r3 r4
 go_enter Tryz.func17,Tryz.ntmps17
 go_upto_region 3 with (go_at_call 48;refine (dQ _ _ ts ⟨_,_,_,_,_⟩ _ (hT.pure (by (repeat (with_reducible first|exact bA _ _|refine bB ?_ ?_ _|refine bC ?_ _|refine bD ?_|refine bE ?_ ?_ _|refine bF ?_ (by assumption) ?_))<;>first|omega|(simp;try omega)))).mono ?_;rw [NI.out];rintro e w1 ⟨rfl,hb1⟩;obtain ⟨hc1,hf1⟩:=ax hb1;have hz1:w.heap.size<w1.heap.size:=(by have:=hb1.size;(try simp at this);omega))
 have hB1:Below w.heap.size w w1:=((Below.refl _ w).alloc (Nat.le_refl _) _).trans (hb1.mono (by simp))
 obtain ⟨hc3,hf3⟩:=ax hB1
 rw [← hc3 _ _ hbk'] at r0 r1 r2 r3 r4
 rw [← hc3 _ _ hbk] at c5
 have k0:w1.cell? ⟨w.heap.size,0,none⟩=some (.int .i64 k):=by rw [hc1 _ _ (by simp)];simp [go_sem]
 have k1:w1.cell? ⟨w.heap.size,1,none⟩=some (.int .i64 ((j:Int)+1)):=by rw [hc1 _ _ (by simp)];simp [go_sem]
 have k2:w1.cell? ⟨w.heap.size,2,none⟩=some (.int .i64 (m:Int)):=by rw [hc1 _ _ (by simp)];simp [go_sem]
 have k3:w1.cell? ⟨w.heap.size,3,none⟩=some (.int .i64 bb):=by rw [hc1 _ _ (by simp)];simp [go_sem]
 have k4:w1.cell? ⟨w.heap.size,4,none⟩=some (.int .i64 n):=by rw [hc1 _ _ (by simp)];simp [go_sem]
 have hbk1:b<w1.heap.size:=by omega
 have D8:b' < w1.heap.size:=by omega
 have hw1:IntKind.i64.wrap ((j:Int)+1 - 1)=(j:Int):=by rw [show (j:Int)+1 - 1=j by omega];exact IntWalk.i64_in _ (by omega)
 have hw2:IntKind.i64.wrap (j:Int)=(j:Int):=IntWalk.i64_in _ (by omega)
 have hj0:(0:Int)≤(j:Int):=by omega
 have hjl:(j:Int)<(ts.length:Int):=by omega
 have hm0:(0:Int)≤(m:Int):=by omega
 have hml:(m:Int)<4:=by omega
 have hT1:TabAt w1 (.slice (some ⟨b,o,none⟩) ts.length cap) ts:=hT.pure hB1
 have hn16:ts.length≤65536:=by omega
 clear hc1 hc3 hf1 hf3 c0 c1 c2 c3 c4 c6 c7
 have HS:=Lib.hid (show ∀ w':World,Below w1.heap.size w1 w'→(Below w1.heap.size w1 w'∧w'.cell? ⟨w.heap.size,0,none⟩=some (.int .i64 k)∧w'.cell? ⟨w.heap.size,1,none⟩=some (.int .i64 ((j:Int)+1))∧w'.cell? ⟨w.heap.size,2,none⟩=some (.int .i64 (m:Int))∧w'.cell? ⟨w.heap.size,3,none⟩=some (.int .i64 bb)∧w'.cell? ⟨w.heap.size,4,none⟩=some (.int .i64 n)∧w'.cell? ⟨b,o+j * 8+5,none⟩=some (.slice (some ⟨b',o',none⟩) 4 cap')∧w'.cell? ⟨b',o' + m * 5,none⟩=some (.int .i64 rt)∧w'.cell? ⟨b',o' + m * 5+1,none⟩=some (.int .i64 rv)∧w'.cell? ⟨b',o' + m * 5+2,none⟩=some (.bool rrd)∧w'.cell? ⟨b',o' + m * 5+3,none⟩=some (.bool rwr)∧w'.cell? ⟨b',o' + m * 5+4,none⟩=some (.bool rwk)) from
  fun w' h=>by
   obtain ⟨hc',-⟩:=ax h
   exact ⟨h,(hc' _ _ hz1).trans k0,(hc' _ _ hz1).trans k1,(hc' _ _ hz1).trans k2,(hc' _ _ hz1).trans k3,(hc' _ _ hz1).trans k4,(hc' _ _ hbk1).trans c5,(hc' _ _ D8).trans r0,(hc' _ _ D8).trans r1,(hc' _ _ D8).trans r2,(hc' _ _ D8).trans r3,(hc' _ _ D8).trans r4⟩)
 go_cut [6] (fun s6 wx=>∃ A T o2 cap2 xs tag,s6=.pointer (some ⟨A,0,none⟩)∧Below w1.heap.size w1 wx∧w1.heap.size≤A∧A<wx.heap.size∧iy wx A (.slice (some ⟨T,o2,none⟩) ts.length cap2) ⟨k,(j:Int)+1,(m:Int),bb,n⟩ ⟨rt,rv,rrd,rwr,rwk⟩∧au wx (fun b=>w1.heap.size≤b∧¬ b=A) tag (.slice (some ⟨T,o2,none⟩) ts.length cap2) xs∧xs.map (·.1)=ts)
 case first=>
  go_region_held3 (fun w'=>Below w1.heap.size w1 w'∧w'.cell? ⟨w.heap.size,0,none⟩=some (.int .i64 k)∧w'.cell? ⟨w.heap.size,1,none⟩=some (.int .i64 ((j:Int)+1))∧w'.cell? ⟨w.heap.size,2,none⟩=some (.int .i64 (m:Int))∧w'.cell? ⟨w.heap.size,3,none⟩=some (.int .i64 bb)∧w'.cell? ⟨w.heap.size,4,none⟩=some (.int .i64 n)∧w'.cell? ⟨b,o+j * 8+5,none⟩=some (.slice (some ⟨b',o',none⟩) 4 cap')∧w'.cell? ⟨b',o' + m * 5,none⟩=some (.int .i64 rt)∧w'.cell? ⟨b',o' + m * 5+1,none⟩=some (.int .i64 rv)∧w'.cell? ⟨b',o' + m * 5+2,none⟩=some (.bool rrd)∧w'.cell? ⟨b',o' + m * 5+3,none⟩=some (.bool rwr)∧w'.cell? ⟨b',o' + m * 5+4,none⟩=some (.bool rwk))
   (first|exact HS.out _ (Below.drew (Below.refl _ _))|(have hX:=And.left (by assumption:Below w1.heap.size w1 _∧_);exact HS.out _ (hX.trans (hb2.mono hX.size)))|(have hX:=And.left (by assumption:Below w1.heap.size w1 _∧_);exact HS.out _ (hX.alloc hX.size _)))
   (first|(go_at_call 49;refine (AZ _ _ ts _ (hT1.pure (And.left (by assumption:Below w1.heap.size w1 _∧_))) hn16 Hsh.out).mono ?_;rintro e w2 ⟨v,xs,tag,rfl,hO,hxs,hb2⟩;obtain ⟨T,o2,cap2,rfl⟩:=Bq hO hxs (by omega)))
  go_wp2
  go_meet
  have hz:w1.heap.size≤w2.heap.size:=by have:=hb2.size;simpa using this
  have hOq:au w2 (fun b=>w1.heap.size≤b∧¬ b=w2.heap.size) tag (.slice (some ⟨T,o2,none⟩) ts.length cap2) xs:=hO.imp (fun b h hlt=>⟨⟨by simpa using h,by omega⟩,rfl⟩)
  refine ⟨w2.heap.size,T,o2,cap2,xs,tag,rfl,(by (repeat (with_reducible first|exact bA _ _|refine bB ?_ ?_ _|refine bC ?_ _|refine bD ?_|refine bE ?_ ?_ _|refine bF ?_ (by assumption) ?_))<;>first|omega|(simp;try omega)),hz,by simp,?_,hOq.chg (S:=fun _=>False) (by (repeat (with_reducible first|exact Chg.refl _ _|refine Chg.alloc ?_ _|refine Chg.drew ?_|refine Chg.drewN ?_ _|refine Chg.setCell ?_ ?_ _|refine Chg.trans ?_ (Chg.ah (by assumption))))<;>(first|omega|(simp;done)|(simp;omega))) (fun _ _ _=>id),hxs⟩
  simp [iy,go_sem]
 case rest=>
  obtain ⟨A,T,o2,cap2,xs,tag,rfl,hBx,hA1,hAx,hAct,hO,hxs⟩:=hcut
  obtain ⟨wx,rfl⟩:∃ wx:World,wx=wc:=⟨_,rfl⟩
  obtain ⟨-,k0,k1,k2,k3,k4,-⟩:=HS.out wx hBx
  have hBw:Below w.heap.size w wx:=hB1.trans (hBx.mono hB1.size)
  have hTx:TabAt wx (.slice (some ⟨b,o,none⟩) ts.length cap) ts:=hT.pure hBw
  have hLx:Laid wx:=hL.pure hBw
  have hn0:0<ts.length:=by omega
  have HA1:=Lib.hid hA1
  have nJ:NQ ts ⟨k,(j:Int)+1,(m:Int),bb,n⟩=⟨rt,rv,rrd,rwr,rwk⟩:=Ew.out.slot
  have key:=fun (w4:World) (hb:Below wx.heap.size wx w4)=>FV (P:=fun b=>w1.heap.size≤b∧¬ b=A) (tag:=tag) (A:=A) (c:=⟨k,(j:Int)+1,(m:Int),bb,n⟩) (n:=ts.length) (xs:=xs) (o:=o2) (cap:=cap2) (T:=T) (w:=w4) (by rw [hxs,nJ];exact hAct.chg (S:=fun _=>False) (Chg.ah hb) id) (hO.pure hb) (by simp) (fun b hb2=>⟨by have:=hb.size;have:=hBx.size;omega,by have:=hb.size;omega⟩) hn16 (by rw [hxs];exact HcB.out)
  rw [hxs] at key
  have hsame:=(wF HcB.out).same
  have hexj:ex ts ((j:Int)+1)=true:=HcB.out.ex
  have hdo2:do2 ts ⟨k,(j:Int)+1,(m:Int),bb,n⟩=(dD (do1 ts ⟨k,(j:Int)+1,(m:Int),bb,n⟩).1 ((j:Int)+1) (aS (do1 ts ⟨k,(j:Int)+1,(m:Int),bb,n⟩).2),(do1 ts ⟨k,(j:Int)+1,(m:Int),bb,n⟩).2):=rfl
  obtain ⟨d1,hd1⟩:∃ d1,do1 ts ⟨k,(j:Int)+1,(m:Int),bb,n⟩=d1:=⟨_,rfl⟩
  rw [hd1] at key hsame hdo2
  have Key:=Lib.hid key
  have Hdo2:=Lib.hid hdo2
  have hlen5:=hsame.len
  have Hlen5:=Lib.hid hlen5
  clear key hdo2 hd1 hlen5 hsame nJ hexj hT1 hbk1 D8 hbk hbk' hS hQ r0 r1 r2 r3 r4 c5
  go_upto_region 5 with (first
   | (go_at_call 51;refine (A7 _ _ ts ⟨_,_,_,_,_⟩ _ (hLx.pure (by (repeat (with_reducible first|exact bA _ _|refine bB ?_ ?_ _|refine bC ?_ _|refine bD ?_|refine bE ?_ ?_ _|refine bF ?_ (by assumption) ?_))<;>first|omega|(simp;try omega))) (hTx.pure (by (repeat (with_reducible first|exact bA _ _|refine bB ?_ ?_ _|refine bC ?_ _|refine bD ?_|refine bE ?_ ?_ _|refine bF ?_ (by assumption) ?_))<;>first|omega|(simp;try omega)))).mono ?_;rw [Hck.out];rintro e w4 ⟨rfl,hb4⟩)
   | (go_at_call 50;refine (Key.out _ hb4).mono ?_;rintro e w5 ⟨rfl,hp⟩;obtain ⟨xs5,tag5,hO5,hx5,hg5⟩:=hp))
  have hAct5:=(hAct.chg (S:=fun _=>False) (Chg.ah hb4) id).chg hg5 (by simp)
  obtain ⟨a0,a1,a2,-⟩:=hAct5
  have hl5:xs5.length=ts.length:=by rw [← Hlen5.out,← hx5];simp
  obtain ⟨⟨t5,sv5,qv5⟩,ht5⟩:∃ x,xs5[j]?=some x:=⟨xs5[j]'(by omega),by simp [show j<xs5.length by omega]⟩
  obtain ⟨d0,d1',d2,d3,d4,d5,d6,d7⟩:=hO5.cells ht5
  obtain ⟨-,hPT,-,-,hf5⟩:=hO5.pos ht5
  have Ht5:=Lib.hid ht5
  have Hx5:=Lib.hid hx5
  have Hl5:=Lib.hid hl5
  have hTA:¬ T=A:=hPT.2
  have hjn:j<ts.length:=by omega
  clear ht5 hx5 hl5 hxs
  go_wp2_with (go_at_call 52;refine (jE A T o2 ts.length cap2 j _ a0 a2 hjn hn16).mono ?_;rintro e w' ⟨rfl,mm,rfl⟩)
  go_ret2
  have hh:=((hO5.chg (S:=fun _=>False) (w':=w5.drewN mm) (by (repeat (with_reducible first|exact Chg.refl _ _|refine Chg.alloc ?_ _|refine Chg.drew ?_|refine Chg.drewN ?_ _|refine Chg.setCell ?_ ?_ _|refine Chg.trans ?_ (Chg.ah (by assumption))))<;>(first|omega|(simp;done)|(simp;omega))) (fun _ _ _=>id)).num Ht5.out d1.2).1
  have hw4:Below w.heap.size w w4:=hBw.trans (hb4.mono hBw.size)
  have hz1':=hB1.size
  have hw5:Below w.heap.size w w5:=hw4.trans (hg5.below hw4.size (fun k hk h=>by omega))
  rw [Hdo2.out]
  refine ⟨_,_,_,rfl,hh.imp (fun b h _=>⟨Nat.le_trans hB1.size h.1,rfl⟩),?_,(below_drewN hw5 _).setCell (by show w.heap.size≤T;have:=hPT.1;omega) _⟩
  rw [aB Ht5.out rfl,Hx5.out]
theorem Ky (p:Option Addr) (cap:Nat) (ts:List Thg) (c:Cal) (w:World) (hL:Laid w) (hT:TabAt w (.slice p ts.length cap) ts) :
  Calls Tryz.prog 17 #[.slice p ts.length cap,c.val] w fun e w'=>∃ v xs tag,e=.returned (.tuple #[v,.int .i64 (fU ts c).2])∧au w' (fun b=>w.heap.size≤b) tag v xs∧xs.map (·.1)=(fU ts c).1∧Below w.heap.size w w':=by
 cases h:bP ts c with
 | false=>
  have e:fU ts c=([],-1):=by simp [fU,h]
  rw [e]
  exact (Ig p cap ts c w hT h).mono fun e w' ⟨h1,h2⟩=>⟨_,[],fun _=>0,h1,L8 _ _ _,rfl,h2⟩
 | true=>
  have e:fU ts c=do2 ts c:=by simp [fU,h]
  rw [e]
  exact Ef p cap ts c w hL hT h
end Go.Proofs.YthhmolonhpaepaaGreatDoor
