/- Drawn calls: whatever the bytes are, there is one. Conditions: few numbers were drawn so far. -/
import Derived.Test.YthhmolonhpaepaaGreatDoorVRb
import Derived.Test.YthhmolonhpaepaaGreatDoorVZ
set_option linter.unusedVariables false
set_option linter.unusedSimpArgs false
namespace Go.Proofs.YthhmolonhpaepaaGreatDoor
open Go.RowKit Drw
attribute [local go_sem] Lab.val Rgt.val Cal.val Thg.val
def CalP (w wa:World) (R N n b:Nat):Prop:=∃ c:Cal,R<b∧wa.heap.size≤b∧(w.cell? ⟨b,0,none⟩=some (.int .i64 c.kind)∧w.cell? ⟨b,1,none⟩=some (.int .i64 c.run)∧w.cell? ⟨b,2,none⟩=some (.int .i64 c.a)∧w.cell? ⟨b,3,none⟩=some (.int .i64 c.b)∧w.cell? ⟨b,4,none⟩=some (.int .i64 c.n))∧(∀ j,w.frozen? ⟨b,j,none⟩=false)∧1≤c.run∧c.run≤n∧0≤c.a∧c.a<4∧Chg (fun b=>b=R) wa w∧Rd w R N
theorem nH {w w':World} {R k n:Nat} {cs:Array Value} {t:TypeId} (hR:R<w.heap.size) (hg:Chg (fun b=>b=R) (w.alloc (.cells cs t)) w') (h:∀ k,k<n→∃ x,cs[k]?=some (.int .i64 x)) (hk:k<n) :
  ∃ x,w'.cell? ⟨w.heap.size,k,none⟩=some (.int .i64 x):=by
 obtain ⟨x,hx⟩:=h k hk
 exact ⟨x,hg.cell (by rw [World.cell?_alloc_new];exact hx) (by show ¬ w.heap.size=R;omega)⟩
theorem lit2a:∀ k,k<2→∃ x,(#[Value.int .i64 0,.int .i64 10]:Array Value)[k]?=some (.int .i64 x):=by
 intro k hk
 rcases k with _|_|k
 ·exact ⟨_,rfl⟩
 ·exact ⟨_,rfl⟩
 ·omega
theorem lit2b:∀ k,k<2→∃ x,(#[Value.int .i64 (-1),.int .i64 4]:Array Value)[k]?=some (.int .i64 x):=by
 intro k hk
 rcases k with _|_|k
 ·exact ⟨_,rfl⟩
 ·exact ⟨_,rfl⟩
 ·omega
theorem lit2c:∀ k,k<2→∃ x,(#[Value.int .i64 (-1),.int .i64 100]:Array Value)[k]?=some (.int .i64 x):=by
 intro k hk
 rcases k with _|_|k
 ·exact ⟨_,rfl⟩
 ·exact ⟨_,rfl⟩
 ·omega
set_option maxRecDepth 100000 in
set_option maxHeartbeats 4000000 in
theorem yK (R N:Nat) (p:Option Addr) (cap:Nat) (ts:List Thg) (w:World) (h:Rd w R N) (hN:N≤890000) (hT:∀ wz:World,Chg (fun b=>b=R) w wz→TabAt wz (.slice p ts.length cap) ts) (h1:1≤ts.length) (h8:ts.length≤65536) :
  Calls Tryz.prog 55 #[.pointer (some ⟨R,0,none⟩),.slice p ts.length cap] w fun e w'=>∃ c:Cal,e=.returned c.val∧Chg (fun b=>b=R) w w'∧Rd w' R (N+60):=by
 have hR:=h.lt
 have hlen:(1:Int)≤(ts.length:Int):=by omega
 have HT:=Lib.hid hT
 clear hT
 go_enter Tryz.func55,Tryz.ntmps55
 go_upto_region 1 with (fail)
 obtain ⟨wa,hwa⟩:∃ wa:World,wa=w.alloc (.cells #[.int .i64 0,.int .i64 0,.int .i64 0,.int .i64 0,.int .i64 0] 35):=⟨_,rfl⟩
 have D5:Rd wa R N:=by rw [hwa];exact h.pure (by (repeat (with_reducible first|exact bA _ _|refine bB ?_ ?_ _|refine bC ?_ _|refine bD ?_|refine bE ?_ ?_ _|refine bF ?_ (by assumption) ?_))<;>first|omega|(simp;try omega))
 have zq:Chg (fun b=>b=R) w wa:=by rw [hwa];exact (by (repeat (with_reducible first|exact Chg.refl _ _|refine Chg.alloc ?_ _|refine Chg.drew ?_|refine Chg.drewN ?_ _|refine Chg.setCell ?_ ?_ _|refine Chg.trans ?_ (Chg.ah (by assumption))))<;>(first|omega|(simp;done)|(simp;omega)))
 rw [← hwa]
 have gc:wa.cell? ⟨w.heap.size,0,none⟩=some (.int .i64 0)∧wa.cell? ⟨w.heap.size,1,none⟩=some (.int .i64 0)∧wa.cell? ⟨w.heap.size,2,none⟩=some (.int .i64 0)∧wa.cell? ⟨w.heap.size,3,none⟩=some (.int .i64 0)∧wa.cell? ⟨w.heap.size,4,none⟩=some (.int .i64 0):=by rw [hwa];simp [go_sem]
 have gf:∀ j,wa.frozen? ⟨w.heap.size,j,none⟩=false:=by intro j;rw [hwa];simp [go_sem]
 have gl:w.heap.size<wa.heap.size:=by rw [hwa];simp
 have hLR:w.heap.size≠R:=by omega
 have hRa:R<wa.heap.size:=D5.lt
 clear hwa
 go_cut [5] (fun s5 wz=>∃ b,s5=.pointer (some ⟨b,0,none⟩)∧CalP wz wa R (N+17) ts.length b)
 case first=>
  go_wp2_with (first
   | (go_at_call 36;refine (aO R _ _ _ hr4 (by omega) (by omega)).mono ?_;rintro e w5 ⟨k5,rfl,h5a,h5b,hr5,hg5⟩)
   | (go_at_call 36;refine (aO R _ _ _ hr3 (by omega) (by omega)).mono ?_;rintro e w4 ⟨k4,rfl,h4a,h4b,hr4,hg4⟩)
   | (go_at_call 36;refine (aO R _ _ _ hr2 (by omega) (by omega)).mono ?_;rintro e w3 ⟨k3,rfl,h3a,h3b,hr3,hg3⟩)
   | (go_at_call 91;refine (J5 R _ p cap ts _ hr1 (by omega) (fun wz hg=>HT.out _ ((zq.trans hg1).trans hg)) h1 h8).mono ?_;rintro e w2 ⟨k2,rfl,h2,hg2,hr2⟩)
   | (go_at_call 36;refine (aO R _ _ _ D5 (by omega) (by omega)).mono ?_;rintro e w1 ⟨k1,rfl,h1a,h1b,hr1,hg1⟩))
  go_meet
  have hgx:=(((hg1.trans hg2).trans hg3).trans hg4).trans hg5
  exact ⟨w5.heap.size,rfl,⟨1+k1,(k2:Int)+1,k3,k4,k5⟩,hr5.lt,hgx.size,by simp [go_sem],fun j=>by simp [go_sem],by show (1:Int)≤(k2:Int)+1;omega,by show (k2:Int)+1≤ts.length;omega,h3a,h3b,Chg.alloc hgx _,Rd.pure (hr5.mono (by omega)) (by (repeat (with_reducible first|exact bA _ _|refine bB ?_ ?_ _|refine bC ?_ _|refine bD ?_|refine bE ?_ ?_ _|refine bF ?_ (by assumption) ?_))<;>first|omega|(simp;try omega))⟩
 case rest=>
  obtain ⟨b,rfl,hC⟩:=hcut
  obtain ⟨wx,rfl⟩:∃ wx:World,wx=wc:=⟨_,rfl⟩
  go_wp2
  go_loopw [6] (fun s6 wr=>∃ a:Nat,s6=.int .i64 (a:Int)∧a≤6∧CalP wr wa R (N+17+3 * a) ts.length b) (fun s6 _=>6 - (intOf s6).toNat)
  case atStart=>exact ⟨0,rfl,by omega,hC⟩
  case round=>
   clear hC
   obtain ⟨a,rfl,ha,hC⟩:=hrel
   obtain ⟨⟨ck,cr,ca,cb,cn⟩,hRb,hwab,⟨q0,q1,q2,q3,q4⟩,hfz,hr1,hrn,ha0,ha4,hch,hrd⟩:=hC
   dsimp only at q0 q1 q2 q3 q4 hr1 hrn ha0 ha4
   obtain ⟨x,rfl⟩:∃ x:Nat,cr=(x:Int)+1:=⟨(cr - 1).toNat,by omega⟩
   obtain ⟨m,rfl⟩:∃ m:Nat,ca=(m:Int):=⟨ca.toNat,by omega⟩
   have hxl:x<ts.length:=by omega
   have hbR:b≠R:=by omega
   have hbs:=World.block_lt_of_cell? _ _ q0
   obtain ⟨kk,hkk⟩:∃ kk,bS ts ((x:Int)+1) 3=kk:=⟨_,rfl⟩
   have Hkk:=Lib.hid hkk
   clear hkk
   obtain ⟨t,ht⟩:∃ t,ts[x]=t:=⟨_,rfl⟩
   have ht':ts[x]?=some t:=by rw [← ht];simp [hxl]
   have Ht:=Lib.hid ht'
   clear ht ht'
   have hw1:IntKind.i64.wrap ((x:Int)+1 - 1)=(x:Int):=by rw [show (x:Int)+1 - 1=x by omega];exact IntWalk.i64_in _ (by omega)
   have hw2:IntKind.i64.wrap (x:Int)=(x:Int):=IntWalk.i64_in _ (by omega)
   have hx0:(0:Int)≤(x:Int):=by omega
   have hxn:(x:Int)<(ts.length:Int):=by omega
   have hm0:(0:Int)≤(m:Int):=by omega
   have hm4:(m:Int)<4:=by omega
   have hchr:=zq.trans hch
   go_upto_region 3 with (fail)
   go_cut [44] (fun s44 wz=>∃ bb:Bool,s44=.bool bb∧(bb=true→a<6∧t.slots.length=4)∧Chg (fun b=>b=R) wr wz∧Rd wz R (N+17+3 * a+1))
   case first=>
    by_cases hlt:a<6
    ·have hlt2:(a:Int)<6:=by omega
     go_wp2_with (first
      | (go_at_call 58;refine (pM _ cap ts _ _ (HT.out _ (hchr.trans hg2))).mono ?_;rw [Hkk.out];rintro e w3 ⟨rfl,rfl⟩)
      | (go_at_call 36;refine (aO R _ _ _ hrd (by omega) (by omega)).mono ?_;rintro e w2 ⟨k2,rfl,h2a,h2b,hr2,hg2⟩;have q0:=hg2.cell q0 hbR;have q1:=hg2.cell q1 hbR;have hbs:=World.block_lt_of_cell? _ _ q0;obtain ⟨bt,ot,sv,qv,e2,hbt,hS,-,-,-,-,-,-,c5,-⟩:=(HT.out _ (hchr.trans hg2)).at x t Ht.out;obtain ⟨ps,cs,rfl,hs1,hs2⟩:=hS.len;cases e2))
     all_goals go_meet
     all_goals refine ⟨_,rfl,?_,hg2,hr2.mono (by omega)⟩
     all_goals (first|(intro hh;cases hh;done)|(intro hh;simp at hh;exact ⟨hlt,by omega⟩))
    ·have ha6:a=6:=by omega
     subst ha6
     go_wp2
     go_meet
     exact ⟨false,rfl,fun h=>(by cases h),Chg.refl _ _,hrd.mono (by omega)⟩
   case rest=>
    obtain ⟨bb,rfl,hbb,hg,hr⟩:=hcut
    obtain ⟨wx,rfl⟩:∃ wx:World,wx=wc:=⟨_,rfl⟩
    have q0:=hg.cell q0 hbR
    have q1:=hg.cell q1 hbR
    have q2:=hg.cell q2 hbR
    have q3:=hg.cell q3 hbR
    have q4:=hg.cell q4 hbR
    have hfz:=ai hg hbs hbR hfz
    have hbs:=World.block_lt_of_cell? _ _ q0
    have hgw:=hchr.trans hg
    have pO:=hch.trans hg
    cases bb
    ·obtain ⟨wT,rfl⟩:∃ wT:World,wT=wx:=⟨_,rfl⟩
     have yR:=pO
     have hTrd:=hr.mono (show N+17+3 * a+1≤N+45 by omega)
     have HZ:=trivial
     have HG:=trivial
     have hL:=hLR
     have hbs:=World.block_lt_of_cell? _ _ q0
     have n0:=yR.cell gc.1 hL
     have n1:=yR.cell gc.2.1 hL
     have n2:=yR.cell gc.2.2.1 hL
     have n3:=yR.cell gc.2.2.2.1 hL
     have n4:=yR.cell gc.2.2.2.2 hL
     have nf:=ai yR gl hL gf
     have hL1:w.heap.size<wT.heap.size:=by have:=yR.size;omega
     have hLb:¬ w.heap.size=b:=by omega
     have hbL:¬ b=w.heap.size:=fun e=>hLb e.symm
     have hbw:w.heap.size≤b:=by omega
     clear gc gf HT HG HZ hgw pO hch hchr hrd hg hr
     go_upto_region 10 with (go_at_call 36;refine (aO R _ _ _ hTrd (by omega) (by omega)).mono ?_;rintro e w2 ⟨k2,rfl,h2a,h2b,hr2,hg2⟩;have q0:=hg2.cell q0 hbR;have q1:=hg2.cell q1 hbR;have q2:=hg2.cell q2 hbR;have q3:=hg2.cell q3 hbR;have q4:=hg2.cell q4 hbR;have hfz:=ai hg2 hbs hbR hfz;have n0:=hg2.cell n0 hL;have n1:=hg2.cell n1 hL;have n2:=hg2.cell n2 hL;have n3:=hg2.cell n3 hL;have n4:=hg2.cell n4 hL;have nf:=ai hg2 hL1 hL nf)
     have nK:=(zq.trans yR).trans hg2
     have hks:k2=0∨k2=1∨k2=2∨3≤k2:=by omega
     rcases hks with rfl|rfl|rfl|hks
     ·have lI:Below w2.heap.size w2 (w2.alloc (.cells #[.int .i64 0,.int .i64 10] 3)):=(by (repeat (with_reducible first|exact bA _ _|refine bB ?_ ?_ _|refine bC ?_ _|refine bD ?_|refine bE ?_ ?_ _|refine bF ?_ (by assumption) ?_))<;>first|omega|(simp;try omega))
      have hgA:Chg (fun b=>b=R) w2 (w2.alloc (.cells #[.int .i64 0,.int .i64 10] 3)):=Chg.ah lI
      have hA2:w2.heap.size≠R:=by have:=hr2.lt;omega
      have hA3:w.heap.size<w2.heap.size:=by have:=hg2.size;omega
      have hA4:b<w2.heap.size:=by have:=hg2.size;omega
      go_wp2_with (go_at_call 36;refine (aO R _ _ _ (hr2.pure lI) (by omega) (by omega)).mono ?_;rintro e w3 ⟨k3,rfl,h3a,h3b,hr3,hg3⟩;have hgB:=hgA.trans hg3;have q0:=hgB.cell q0 hbR;have q1:=hgB.cell q1 hbR;have q2:=hgB.cell q2 hbR;have q3:=hgB.cell q3 hbR;have q4:=hgB.cell q4 hbR;have hfz:=ai hgB hA4 hbR hfz;have n0:=hgB.cell n0 hL;have n1:=hgB.cell n1 hL;have n2:=hgB.cell n2 hL;have n3:=hgB.cell n3 hL;have n4:=hgB.cell n4 hL;have nf:=ai hgB hA3 hL nf;obtain ⟨k3,rfl⟩:∃ n:Nat,k3=(n:Int):=⟨k3.toNat,by omega⟩;have h3n:k3<2:=(by omega);obtain ⟨x3,hx3⟩:=nH (n:=2) (w:=w2) (by have:=hr2.lt;omega) hg3 lit2a h3n;have wX:=nK.trans hgB;clear hgB hg3 hgA nK lI)
      exact bodyPost_ret (v:=(Cal.mk x3 ((x:Int)+1) (m:Int) cb cn).val) (by simp [results,Tryz.results55,go_sem,Cal.val,ag, *]) rfl ⟨⟨x3,(x:Int)+1,(m:Int),cb,cn⟩,rfl,by (repeat refine Chg.av ?_ ?_ _)<;>first|exact wX|(simp;done)|(simp;omega),by (repeat refine Rd.av ?_ ?_ _)<;>first|exact Rd.mono hr3 (by omega)|(simp;done)|(simp;omega)⟩
     ·have lI:Below w2.heap.size w2 (w2.alloc (.cells #[.int .i64 (-1),.int .i64 4] 3)):=(by (repeat (with_reducible first|exact bA _ _|refine bB ?_ ?_ _|refine bC ?_ _|refine bD ?_|refine bE ?_ ?_ _|refine bF ?_ (by assumption) ?_))<;>first|omega|(simp;try omega))
      have hgA:Chg (fun b=>b=R) w2 (w2.alloc (.cells #[.int .i64 (-1),.int .i64 4] 3)):=Chg.ah lI
      have hA2:w2.heap.size≠R:=by have:=hr2.lt;omega
      have hA3:w.heap.size<w2.heap.size:=by have:=hg2.size;omega
      have hA4:b<w2.heap.size:=by have:=hg2.size;omega
      go_wp2_with (go_at_call 36;refine (aO R _ _ _ (hr2.pure lI) (by omega) (by omega)).mono ?_;rintro e w3 ⟨k3,rfl,h3a,h3b,hr3,hg3⟩;have hgB:=hgA.trans hg3;have q0:=hgB.cell q0 hbR;have q1:=hgB.cell q1 hbR;have q2:=hgB.cell q2 hbR;have q3:=hgB.cell q3 hbR;have q4:=hgB.cell q4 hbR;have hfz:=ai hgB hA4 hbR hfz;have n0:=hgB.cell n0 hL;have n1:=hgB.cell n1 hL;have n2:=hgB.cell n2 hL;have n3:=hgB.cell n3 hL;have n4:=hgB.cell n4 hL;have nf:=ai hgB hA3 hL nf;obtain ⟨k3,rfl⟩:∃ n:Nat,k3=(n:Int):=⟨k3.toNat,by omega⟩;have h3n:k3<2:=(by omega);obtain ⟨x3,hx3⟩:=nH (n:=2) (w:=w2) (by have:=hr2.lt;omega) hg3 lit2b h3n;have wX:=nK.trans hgB;clear hgB hg3 hgA nK lI)
      exact bodyPost_ret (v:=(Cal.mk ck ((x:Int)+1) x3 cb cn).val) (by simp [results,Tryz.results55,go_sem,Cal.val,ag, *]) rfl ⟨⟨ck,(x:Int)+1,x3,cb,cn⟩,rfl,by (repeat refine Chg.av ?_ ?_ _)<;>first|exact wX|(simp;done)|(simp;omega),by (repeat refine Rd.av ?_ ?_ _)<;>first|exact Rd.mono hr3 (by omega)|(simp;done)|(simp;omega)⟩
     ·have lI:Below w2.heap.size w2 (w2.alloc (.cells #[.int .i64 (-1),.int .i64 100] 3)):=(by (repeat (with_reducible first|exact bA _ _|refine bB ?_ ?_ _|refine bC ?_ _|refine bD ?_|refine bE ?_ ?_ _|refine bF ?_ (by assumption) ?_))<;>first|omega|(simp;try omega))
      have hgA:Chg (fun b=>b=R) w2 (w2.alloc (.cells #[.int .i64 (-1),.int .i64 100] 3)):=Chg.ah lI
      have hA2:w2.heap.size≠R:=by have:=hr2.lt;omega
      have hA3:w.heap.size<w2.heap.size:=by have:=hg2.size;omega
      have hA4:b<w2.heap.size:=by have:=hg2.size;omega
      go_wp2_with (go_at_call 36;refine (aO R _ _ _ (hr2.pure lI) (by omega) (by omega)).mono ?_;rintro e w3 ⟨k3,rfl,h3a,h3b,hr3,hg3⟩;have hgB:=hgA.trans hg3;have q0:=hgB.cell q0 hbR;have q1:=hgB.cell q1 hbR;have q2:=hgB.cell q2 hbR;have q3:=hgB.cell q3 hbR;have q4:=hgB.cell q4 hbR;have hfz:=ai hgB hA4 hbR hfz;have n0:=hgB.cell n0 hL;have n1:=hgB.cell n1 hL;have n2:=hgB.cell n2 hL;have n3:=hgB.cell n3 hL;have n4:=hgB.cell n4 hL;have nf:=ai hgB hA3 hL nf;obtain ⟨k3,rfl⟩:∃ n:Nat,k3=(n:Int):=⟨k3.toNat,by omega⟩;have h3n:k3<2:=(by omega);obtain ⟨x3,hx3⟩:=nH (n:=2) (w:=w2) (by have:=hr2.lt;omega) hg3 lit2c h3n;have wX:=nK.trans hgB;clear hgB hg3 hgA nK lI)
      exact bodyPost_ret (v:=(Cal.mk ck ((x:Int)+1) (m:Int) cb x3).val) (by simp [results,Tryz.results55,go_sem,Cal.val,ag, *]) rfl ⟨⟨ck,(x:Int)+1,(m:Int),cb,x3⟩,rfl,by (repeat refine Chg.av ?_ ?_ _)<;>first|exact wX|(simp;done)|(simp;omega),by (repeat refine Rd.av ?_ ?_ _)<;>first|exact Rd.mono hr3 (by omega)|(simp;done)|(simp;omega)⟩
     ·have m0:¬ k2=0:=by omega
      have m1:¬ k2=1:=by omega
      have m2:¬ k2=2:=by omega
      go_wp2
      exact bodyPost_ret (v:=(Cal.mk ck ((x:Int)+1) (m:Int) cb cn).val) (by simp [results,Tryz.results55,go_sem,Cal.val,ag, *]) rfl ⟨⟨ck,(x:Int)+1,(m:Int),cb,cn⟩,rfl,by (repeat refine Chg.av ?_ ?_ _)<;>first|exact nK|(simp;done)|(simp;omega),by (repeat refine Rd.av ?_ ?_ _)<;>first|exact Rd.mono hr2 (by omega)|(simp;done)|(simp;omega)⟩
    ·obtain ⟨hlt,h4⟩:=hbb rfl
     clear hbb
     obtain ⟨bt,ot,sv,qv,e2,hbt,hS,-,-,-,-,-,-,c5,-⟩:=(HT.out _ hgw).at x t Ht.out
     subst e2
     obtain ⟨r,hr'⟩:∃ r,t.slots[m]?=some r:=⟨_,List.getElem?_eq_getElem (by omega)⟩
     obtain ⟨ps,cs,rfl,hs1,hs2⟩:=hS.len
     obtain ⟨bz,oz,rfl,hbz,r0,r1,r2,r3,r4⟩:=hS.at m r hr'
     rw [h4] at c5 hs1
     have hs1':(4:Nat)≤cs:=hs1
     clear hS hr' hs1
     have HZ:=Lib.hid hr
     have HG:=Lib.hid hg
     go_upto_region 5 with (fail)
     go_cut [7] (fun s7 wy=>∃ B,s7=.pointer (some ⟨B,0,none⟩)∧B<wy.heap.size∧Below wx.heap.size wx wy∧wx.heap.size≤B∧(wy.cell? ⟨B,0,none⟩=some (.int .i64 r.thing)∧wy.cell? ⟨B,1,none⟩=some (.int .i64 r.aJ)∧wy.cell? ⟨B,2,none⟩=some (.bool r.rd)∧wy.cell? ⟨B,3,none⟩=some (.bool r.wr)∧wy.cell? ⟨B,4,none⟩=some (.bool r.wk)))
     case first=>
      go_region_held3 (fun w'=>w'.cell? ⟨b,1,none⟩=some (.int .i64 ((x:Int)+1))∧w'.cell? ⟨b,2,none⟩=some (.int .i64 (m:Int))∧w'.cell? ⟨bt,ot+x * 8+5,none⟩=some (.slice (some ⟨bz,oz,none⟩) 4 cs)∧w'.cell? ⟨bz,oz+m * 5,none⟩=some (.int .i64 r.thing)∧w'.cell? ⟨bz,oz+m * 5+1,none⟩=some (.int .i64 r.aJ)∧w'.cell? ⟨bz,oz+m * 5+2,none⟩=some (.bool r.rd)∧w'.cell? ⟨bz,oz+m * 5+3,none⟩=some (.bool r.wr)∧w'.cell? ⟨bz,oz+m * 5+4,none⟩=some (.bool r.wk)) (go_keep) (fail)
      go_wp2
      go_meet
      refine ⟨_,rfl,by simp,(by (repeat (with_reducible first|exact bA _ _|refine bB ?_ ?_ _|refine bC ?_ _|refine bD ?_|refine bE ?_ ?_ _|refine bF ?_ (by assumption) ?_))<;>first|omega|(simp;try omega)),?_,?_⟩
      ·simp
      ·simp [go_sem]
     case rest=>
      obtain ⟨B,rfl,hBl,hBy,hBx,⟨n0,n1,n2,n3,n4⟩⟩:=hcut
      obtain ⟨wy,rfl⟩:∃ wx:World,wx=wc:=⟨_,rfl⟩
      obtain ⟨hcy,-⟩:=ax hBy
      have hRx:R<wx.heap.size:=hr.lt
      have q0:=(hcy _ _ hbs).trans q0
      have q1:=(hcy _ _ hbs).trans q1
      have q2:=(hcy _ _ hbs).trans q2
      have q3:=(hcy _ _ hbs).trans q3
      have q4:=(hcy _ _ hbs).trans q4
      have hgY:Chg (fun b=>b=R) wx wy:=Chg.ah hBy
      have hfz:=ai hgY hbs hbR hfz
      have hbs:=World.block_lt_of_cell? _ _ q0
      have hrY:=hr.pure hBy
      have hgw:=hgw.trans hgY
      have pO:=pO.trans hgY
      clear r0 r1 r2 r3 r4 c5 hbz hbt hs1' hs2
      go_upto_region 6 with (fail)
      go_cut [79] (fun s79 wz=>∃ b2:Bool,s79=.bool b2∧Below wy.heap.size wy wz)
      case first=>
       by_cases hk3:ck=3
       ·subst hk3
        go_quiet (fail)
        go_wp2
        go_meet
        exact ⟨_,rfl,(by (repeat (with_reducible first|exact bA _ _|refine bB ?_ ?_ _|refine bC ?_ _|refine bD ?_|refine bE ?_ ?_ _|refine bF ?_ (by assumption) ?_))<;>first|omega|(simp;try omega))⟩
       ·obtain ⟨rt,rv,rrd,rwr,rwk⟩:=r
        dsimp only at n0 n1 n2 n3 n4
        have hk3':(ck == 3)=false:=by simp;exact hk3
        obtain ⟨ir,hir⟩:∃ ir,inR rt 1 (ts.length:Int)=ir:=⟨_,rfl⟩
        cases ir
        ·go_quiet ((go_at_call 79;refine Calls.quiet_of_same (BF _ _ _ _ hir)))
         go_wp2
         go_meet
         exact ⟨_,rfl,(by (repeat (with_reducible first|exact bA _ _|refine bB ?_ ?_ _|refine bC ?_ _|refine bD ?_|refine bE ?_ ?_ _|refine bF ?_ (by assumption) ?_))<;>first|omega|(simp;try omega))⟩
        ·have hir2:1≤rt∧rt≤ts.length:=by simpa [inR] using hir
         obtain ⟨y,rfl⟩:∃ y:Nat,rt=(y:Int)+1:=⟨(rt - 1).toNat,by omega⟩
         have hyl:y<ts.length:=by omega
         obtain ⟨bu,ou,sv3,qv3,e3,hbu,-,-,d0,-⟩:=(HT.out _ hgw).at y ts[y] (by simp [hyl])
         cases e3
         have hy1:IntKind.i64.wrap ((y:Int)+1 - 1)=(y:Int):=by rw [show (y:Int)+1 - 1=y by omega];exact IntWalk.i64_in _ (by omega)
         have hy2:IntKind.i64.wrap (y:Int)=(y:Int):=IntWalk.i64_in _ (by omega)
         have hy0:(0:Int)≤(y:Int):=by omega
         have hyn:(y:Int)<(ts.length:Int):=by omega
         obtain ⟨hk,hhk⟩:∃ hk,dU ck ts[y].kind=hk:=⟨_,rfl⟩
         generalize ts[y].kind=kz at d0 hhk
         go_quiet (first
          | (go_at_call 79;refine Calls.quiet_of_same (BF _ _ _ _ hir))
          | (go_at_call 92;exact Calls.quiet_of_same ((rC _ _ _).mono (fun e w' h=>by rw [hhk] at h;exact h))))
         go_wp2
         go_meet
         exact ⟨_,rfl,(by (repeat (with_reducible first|exact bA _ _|refine bB ?_ ?_ _|refine bC ?_ _|refine bD ?_|refine bE ?_ ?_ _|refine bF ?_ (by assumption) ?_))<;>first|omega|(simp;try omega))⟩
      case rest=>
       obtain ⟨b2,rfl,hBz⟩:=hcut
       obtain ⟨wz,rfl⟩:∃ wx:World,wx=wc:=⟨_,rfl⟩
       have hgZ:Chg (fun b=>b=R) wy wz:=Chg.ah hBz
       have q0:=hgZ.cell q0 hbR
       have q1:=hgZ.cell q1 hbR
       have q2:=hgZ.cell q2 hbR
       have q3:=hgZ.cell q3 hbR
       have q4:=hgZ.cell q4 hbR
       have hfz:=ai hgZ hbs hbR hfz
       have hbs:=World.block_lt_of_cell? _ _ q0
       have hrZ:=hrY.pure hBz
       have hchz:=pO.trans hgZ
       clear n0 n1 n2 n3 n4
       cases b2
       ·go_wp2_with (first
         | (go_at_call 36;refine (aO R _ _ _ (Rd.av hr4 hRb (.int .i64 k4)) (by omega) (by omega)).mono ?_;rintro e w5 ⟨k5,rfl,h5a,h5b,hr5,hg5⟩;have q0:=hg5.cell (show (w4.setCell ⟨b,2,none⟩ (.int .i64 k4)).cell? ⟨b,0,none⟩=some (.int .i64 ck) by simp [ag,q0]) hbR;have q1:=hg5.cell (show (w4.setCell ⟨b,2,none⟩ (.int .i64 k4)).cell? ⟨b,1,none⟩=some (.int .i64 ((x:Int)+1)) by simp [ag,q1]) hbR;have q2:=hg5.cell (show (w4.setCell ⟨b,2,none⟩ (.int .i64 k4)).cell? ⟨b,2,none⟩=some (.int .i64 k4) by simp [ag,q2]) hbR;have q3:=hg5.cell (show (w4.setCell ⟨b,2,none⟩ (.int .i64 k4)).cell? ⟨b,3,none⟩=some (.int .i64 cb) by simp [ag,q3]) hbR;have q4:=hg5.cell (show (w4.setCell ⟨b,2,none⟩ (.int .i64 k4)).cell? ⟨b,4,none⟩=some (.int .i64 cn) by simp [ag,q4]) hbR;have hfz:=ai hg5 (show b<(w4.setCell ⟨b,2,none⟩ (.int .i64 k4)).heap.size by simp;exact hbs) hbR (fun j=>by simp [hfz]);have hbs:=World.block_lt_of_cell? _ _ q0)
         | (go_at_call 36;refine (aO R _ _ _ hrZ (by omega) (by omega)).mono ?_;rintro e w4 ⟨k4,rfl,h4a,h4b,hr4,hg4⟩;have q0:=hg4.cell q0 hbR;have q1:=hg4.cell q1 hbR;have q2:=hg4.cell q2 hbR;have q3:=hg4.cell q3 hbR;have q4:=hg4.cell q4 hbR;have hfz:=ai hg4 hbs hbR hfz;have hbs:=World.block_lt_of_cell? _ _ q0))
        refine ⟨⟨a+1,by go_num,by omega,⟨1+k5,(x:Int)+1,k4,cb,cn⟩,hRb,hwab,by simp [ag, *],fun j=>by simp [hfz],hr1,hrn,h4a,h4b,Chg.av ((Chg.av (hchz.trans hg4) hwab _).trans hg5) hwab _,Rd.av (hr5.mono (by omega)) hRb _⟩,by simp [intOf];omega⟩
       ·obtain ⟨wT,rfl⟩:∃ wT:World,wT=wz:=⟨_,rfl⟩
        have yR:=hchz
        have hTrd:=hrZ.mono (show N+17+3 * a+1≤N+45 by omega)
        have hL:=hLR
        have hbs:=World.block_lt_of_cell? _ _ q0
        have n0:=yR.cell gc.1 hL
        have n1:=yR.cell gc.2.1 hL
        have n2:=yR.cell gc.2.2.1 hL
        have n3:=yR.cell gc.2.2.2.1 hL
        have n4:=yR.cell gc.2.2.2.2 hL
        have nf:=ai yR gl hL gf
        have hL1:w.heap.size<wT.heap.size:=by have:=yR.size;omega
        have hLb:¬ w.heap.size=b:=by omega
        have hbL:¬ b=w.heap.size:=fun e=>hLb e.symm
        have hbw:w.heap.size≤b:=by omega
        clear gc gf HT HG HZ hgw pO hch hchr hrd hg hr
        go_upto_region 10 with (go_at_call 36;refine (aO R _ _ _ hTrd (by omega) (by omega)).mono ?_;rintro e w2 ⟨k2,rfl,h2a,h2b,hr2,hg2⟩;have q0:=hg2.cell q0 hbR;have q1:=hg2.cell q1 hbR;have q2:=hg2.cell q2 hbR;have q3:=hg2.cell q3 hbR;have q4:=hg2.cell q4 hbR;have hfz:=ai hg2 hbs hbR hfz;have n0:=hg2.cell n0 hL;have n1:=hg2.cell n1 hL;have n2:=hg2.cell n2 hL;have n3:=hg2.cell n3 hL;have n4:=hg2.cell n4 hL;have nf:=ai hg2 hL1 hL nf)
        have nK:=(zq.trans yR).trans hg2
        have hks:k2=0∨k2=1∨k2=2∨3≤k2:=by omega
        rcases hks with rfl|rfl|rfl|hks
        ·have lI:Below w2.heap.size w2 (w2.alloc (.cells #[.int .i64 0,.int .i64 10] 3)):=(by (repeat (with_reducible first|exact bA _ _|refine bB ?_ ?_ _|refine bC ?_ _|refine bD ?_|refine bE ?_ ?_ _|refine bF ?_ (by assumption) ?_))<;>first|omega|(simp;try omega))
         have hgA:Chg (fun b=>b=R) w2 (w2.alloc (.cells #[.int .i64 0,.int .i64 10] 3)):=Chg.ah lI
         have hA2:w2.heap.size≠R:=by have:=hr2.lt;omega
         have hA3:w.heap.size<w2.heap.size:=by have:=hg2.size;omega
         have hA4:b<w2.heap.size:=by have:=hg2.size;omega
         go_wp2_with (go_at_call 36;refine (aO R _ _ _ (hr2.pure lI) (by omega) (by omega)).mono ?_;rintro e w3 ⟨k3,rfl,h3a,h3b,hr3,hg3⟩;have hgB:=hgA.trans hg3;have q0:=hgB.cell q0 hbR;have q1:=hgB.cell q1 hbR;have q2:=hgB.cell q2 hbR;have q3:=hgB.cell q3 hbR;have q4:=hgB.cell q4 hbR;have hfz:=ai hgB hA4 hbR hfz;have n0:=hgB.cell n0 hL;have n1:=hgB.cell n1 hL;have n2:=hgB.cell n2 hL;have n3:=hgB.cell n3 hL;have n4:=hgB.cell n4 hL;have nf:=ai hgB hA3 hL nf;obtain ⟨k3,rfl⟩:∃ n:Nat,k3=(n:Int):=⟨k3.toNat,by omega⟩;have h3n:k3<2:=(by omega);obtain ⟨x3,hx3⟩:=nH (n:=2) (w:=w2) (by have:=hr2.lt;omega) hg3 lit2a h3n;have wX:=nK.trans hgB;clear hgB hg3 hgA nK lI)
         exact bodyPost_ret (v:=(Cal.mk x3 ((x:Int)+1) (m:Int) cb cn).val) (by simp [results,Tryz.results55,go_sem,Cal.val,ag, *]) rfl ⟨⟨x3,(x:Int)+1,(m:Int),cb,cn⟩,rfl,by (repeat refine Chg.av ?_ ?_ _)<;>first|exact wX|(simp;done)|(simp;omega),by (repeat refine Rd.av ?_ ?_ _)<;>first|exact Rd.mono hr3 (by omega)|(simp;done)|(simp;omega)⟩
        ·have lI:Below w2.heap.size w2 (w2.alloc (.cells #[.int .i64 (-1),.int .i64 4] 3)):=(by (repeat (with_reducible first|exact bA _ _|refine bB ?_ ?_ _|refine bC ?_ _|refine bD ?_|refine bE ?_ ?_ _|refine bF ?_ (by assumption) ?_))<;>first|omega|(simp;try omega))
         have hgA:Chg (fun b=>b=R) w2 (w2.alloc (.cells #[.int .i64 (-1),.int .i64 4] 3)):=Chg.ah lI
         have hA2:w2.heap.size≠R:=by have:=hr2.lt;omega
         have hA3:w.heap.size<w2.heap.size:=by have:=hg2.size;omega
         have hA4:b<w2.heap.size:=by have:=hg2.size;omega
         go_wp2_with (go_at_call 36;refine (aO R _ _ _ (hr2.pure lI) (by omega) (by omega)).mono ?_;rintro e w3 ⟨k3,rfl,h3a,h3b,hr3,hg3⟩;have hgB:=hgA.trans hg3;have q0:=hgB.cell q0 hbR;have q1:=hgB.cell q1 hbR;have q2:=hgB.cell q2 hbR;have q3:=hgB.cell q3 hbR;have q4:=hgB.cell q4 hbR;have hfz:=ai hgB hA4 hbR hfz;have n0:=hgB.cell n0 hL;have n1:=hgB.cell n1 hL;have n2:=hgB.cell n2 hL;have n3:=hgB.cell n3 hL;have n4:=hgB.cell n4 hL;have nf:=ai hgB hA3 hL nf;obtain ⟨k3,rfl⟩:∃ n:Nat,k3=(n:Int):=⟨k3.toNat,by omega⟩;have h3n:k3<2:=(by omega);obtain ⟨x3,hx3⟩:=nH (n:=2) (w:=w2) (by have:=hr2.lt;omega) hg3 lit2b h3n;have wX:=nK.trans hgB;clear hgB hg3 hgA nK lI)
         exact bodyPost_ret (v:=(Cal.mk ck ((x:Int)+1) x3 cb cn).val) (by simp [results,Tryz.results55,go_sem,Cal.val,ag, *]) rfl ⟨⟨ck,(x:Int)+1,x3,cb,cn⟩,rfl,by (repeat refine Chg.av ?_ ?_ _)<;>first|exact wX|(simp;done)|(simp;omega),by (repeat refine Rd.av ?_ ?_ _)<;>first|exact Rd.mono hr3 (by omega)|(simp;done)|(simp;omega)⟩
        ·have lI:Below w2.heap.size w2 (w2.alloc (.cells #[.int .i64 (-1),.int .i64 100] 3)):=(by (repeat (with_reducible first|exact bA _ _|refine bB ?_ ?_ _|refine bC ?_ _|refine bD ?_|refine bE ?_ ?_ _|refine bF ?_ (by assumption) ?_))<;>first|omega|(simp;try omega))
         have hgA:Chg (fun b=>b=R) w2 (w2.alloc (.cells #[.int .i64 (-1),.int .i64 100] 3)):=Chg.ah lI
         have hA2:w2.heap.size≠R:=by have:=hr2.lt;omega
         have hA3:w.heap.size<w2.heap.size:=by have:=hg2.size;omega
         have hA4:b<w2.heap.size:=by have:=hg2.size;omega
         go_wp2_with (go_at_call 36;refine (aO R _ _ _ (hr2.pure lI) (by omega) (by omega)).mono ?_;rintro e w3 ⟨k3,rfl,h3a,h3b,hr3,hg3⟩;have hgB:=hgA.trans hg3;have q0:=hgB.cell q0 hbR;have q1:=hgB.cell q1 hbR;have q2:=hgB.cell q2 hbR;have q3:=hgB.cell q3 hbR;have q4:=hgB.cell q4 hbR;have hfz:=ai hgB hA4 hbR hfz;have n0:=hgB.cell n0 hL;have n1:=hgB.cell n1 hL;have n2:=hgB.cell n2 hL;have n3:=hgB.cell n3 hL;have n4:=hgB.cell n4 hL;have nf:=ai hgB hA3 hL nf;obtain ⟨k3,rfl⟩:∃ n:Nat,k3=(n:Int):=⟨k3.toNat,by omega⟩;have h3n:k3<2:=(by omega);obtain ⟨x3,hx3⟩:=nH (n:=2) (w:=w2) (by have:=hr2.lt;omega) hg3 lit2c h3n;have wX:=nK.trans hgB;clear hgB hg3 hgA nK lI)
         exact bodyPost_ret (v:=(Cal.mk ck ((x:Int)+1) (m:Int) cb x3).val) (by simp [results,Tryz.results55,go_sem,Cal.val,ag, *]) rfl ⟨⟨ck,(x:Int)+1,(m:Int),cb,x3⟩,rfl,by (repeat refine Chg.av ?_ ?_ _)<;>first|exact wX|(simp;done)|(simp;omega),by (repeat refine Rd.av ?_ ?_ _)<;>first|exact Rd.mono hr3 (by omega)|(simp;done)|(simp;omega)⟩
        ·have m0:¬ k2=0:=by omega
         have m1:¬ k2=1:=by omega
         have m2:¬ k2=2:=by omega
         go_wp2
         exact bodyPost_ret (v:=(Cal.mk ck ((x:Int)+1) (m:Int) cb cn).val) (by simp [results,Tryz.results55,go_sem,Cal.val,ag, *]) rfl ⟨⟨ck,(x:Int)+1,(m:Int),cb,cn⟩,rfl,by (repeat refine Chg.av ?_ ?_ _)<;>first|exact nK|(simp;done)|(simp;omega),by (repeat refine Rd.av ?_ ?_ _)<;>first|exact Rd.mono hr2 (by omega)|(simp;done)|(simp;omega)⟩
end Go.Proofs.YthhmolonhpaepaaGreatDoor
namespace Go.Proofs.YthhmolonhpaepaaGreatDoor
open Go.RowKit Drw
attribute [local go_sem] Lab.val Rgt.val Cal.val Thg.val
set_option maxRecDepth 100000 in
set_option maxHeartbeats 4000000 in
theorem xA (p:Option Addr) (cap:Nat) (ts:List Thg) (c:Cal) (w:World) (hT:TabAt w (.slice p ts.length cap) ts) :
  Calls Tryz.prog 56 #[.slice p ts.length cap,c.val] w fun e w'=>e=.returned (.int .i64 (check ts c))∧Below w.heap.size w w':=by
 obtain ⟨tok,J8⟩:∃ b,aU ts=b:=⟨_,rfl⟩
 obtain ⟨cok,IY⟩:∃ b,nQ c=b:=⟨_,rfl⟩
 obtain ⟨kok,D6⟩:∃ b,bS ts c.run 3=b:=⟨_,rfl⟩
 have gT:bP ts c=(tok && cok && kok):=by simp [bP,J8,IY,D6]
 have hchk:check ts c=if (tok && cok && kok)=true then aT ts c else -1:=by rw [check,gT]
 have Hc:=Lib.hid gT
 have Hk:=Lib.hid hchk
 have H1:=Lib.hid J8
 have H2:=Lib.hid IY
 have H3:=Lib.hid D6
 clear gT hchk J8 IY D6
 obtain ⟨ck,cr,ca,cb,cn⟩:=c
 dsimp only at H3
 rw [Hk.out]
 cases tok
 ·go_enter Tryz.func56,Tryz.ntmps56
  go_wp2_with (go_at_call 42;refine (gm p cap ts _ (hT.pure (by (repeat (with_reducible first|exact bA _ _|refine bB ?_ ?_ _|refine bC ?_ _|refine bD ?_|refine bE ?_ ?_ _|refine bF ?_ (by assumption) ?_))<;>first|omega|(simp;try omega)))).mono ?_;rw [H1.out];rintro e w1 ⟨rfl,hb1⟩;obtain ⟨hc1,hf1⟩:=ax hb1;have hz0:w.heap.size<w1.heap.size:=(by have:=hb1.size;(try simp at this);omega))
  go_ret
  exact ⟨rfl,(by (repeat (with_reducible first|exact bA _ _|refine bB ?_ ?_ _|refine bC ?_ _|refine bD ?_|refine bE ?_ ?_ _|refine bF ?_ (by assumption) ?_))<;>first|omega|(simp;try omega))⟩
 ·cases cok
  ·go_enter Tryz.func56,Tryz.ntmps56
   go_wp2_with (first
    | (go_at_call 57;refine (lV ⟨_,_,_,_,_⟩ _).mono ?_;rw [H2.out];rintro e w2 ⟨rfl,hb2⟩;obtain ⟨hc2,hf2⟩:=ax hb2;have hz2:w.heap.size<w2.heap.size:=(by have:=hb2.size;have:=hb1.size;simp at *;omega))
    | (go_at_call 42;refine (gm p cap ts _ (hT.pure (by (repeat (with_reducible first|exact bA _ _|refine bB ?_ ?_ _|refine bC ?_ _|refine bD ?_|refine bE ?_ ?_ _|refine bF ?_ (by assumption) ?_))<;>first|omega|(simp;try omega)))).mono ?_;rw [H1.out];rintro e w1 ⟨rfl,hb1⟩;obtain ⟨hc1,hf1⟩:=ax hb1;have hz0:w.heap.size<w1.heap.size:=(by have:=hb1.size;(try simp at this);omega)))
   go_ret
   exact ⟨rfl,(by (repeat (with_reducible first|exact bA _ _|refine bB ?_ ?_ _|refine bC ?_ _|refine bD ?_|refine bE ?_ ?_ _|refine bF ?_ (by assumption) ?_))<;>first|omega|(simp;try omega))⟩
  ·cases kok
   all_goals
    go_enter Tryz.func56,Tryz.ntmps56
    go_wp2_with (first
     | (go_at_call 93;refine (nI p cap ts ⟨_,_,_,_,_⟩ _ (hT.pure (by (repeat (with_reducible first|exact bA _ _|refine bB ?_ ?_ _|refine bC ?_ _|refine bD ?_|refine bE ?_ ?_ _|refine bF ?_ (by assumption) ?_))<;>first|omega|(simp;try omega))) (by rw [Hc.out];rfl)).mono ?_;rintro e w4 ⟨rfl,hb4⟩)
     | (go_at_call 58;refine (pM p cap ts _ _ (hT.pure (by (repeat (with_reducible first|exact bA _ _|refine bB ?_ ?_ _|refine bC ?_ _|refine bD ?_|refine bE ?_ ?_ _|refine bF ?_ (by assumption) ?_))<;>first|omega|(simp;try omega)))).mono ?_;rw [H3.out];rintro e w3 ⟨rfl,rfl⟩)
     | (go_at_call 57;refine (lV ⟨_,_,_,_,_⟩ _).mono ?_;rw [H2.out];rintro e w2 ⟨rfl,hb2⟩;obtain ⟨hc2,hf2⟩:=ax hb2;have hz2:w.heap.size<w2.heap.size:=(by have:=hb2.size;have:=hb1.size;simp at *;omega))
     | (go_at_call 42;refine (gm p cap ts _ (hT.pure (by (repeat (with_reducible first|exact bA _ _|refine bB ?_ ?_ _|refine bC ?_ _|refine bD ?_|refine bE ?_ ?_ _|refine bF ?_ (by assumption) ?_))<;>first|omega|(simp;try omega)))).mono ?_;rw [H1.out];rintro e w1 ⟨rfl,hb1⟩;obtain ⟨hc1,hf1⟩:=ax hb1;have hz0:w.heap.size<w1.heap.size:=(by have:=hb1.size;(try simp at this);omega)))
    go_ret
    exact ⟨rfl,(by (repeat (with_reducible first|exact bA _ _|refine bB ?_ ?_ _|refine bC ?_ _|refine bD ?_|refine bE ?_ ?_ _|refine bF ?_ (by assumption) ?_))<;>first|omega|(simp;try omega))⟩
theorem zu.tabS {w wr:World} {R N n:Nat} {v:Value} (h:zu w wr R N v n):∃ ts p cap,ts.length=n∧v=.slice p ts.length cap∧(∀ (S:Nat→Prop) (wz:World),Chg S wr wz→(∀ b,w.heap.size≤b→¬ S b)→TabAt wz (.slice p ts.length cap) ts)∧Es ts∧Chg (fun b=>b=R) w wr∧Rd wr R N:=by
 obtain ⟨xs,tag,h1,h2,h3,h4,h5⟩:=h
 obtain ⟨p,cap,e,-,-⟩:=h1.at'.len
 refine ⟨xs.map (·.1),p,cap,by simp [h2],e,fun S wz hg hS=>by rw [← e];exact (h1.chg hg (fun b hb _ e=>hS b hb e)).at',?_,h4,h5⟩
 intro t ht
 obtain ⟨x,hx,rfl⟩:=List.mem_map.1 ht
 have:=h3 x hx
 omega
def uR (w:World) (B:Nat) (c:Cal):Prop:=(w.cell? ⟨B,0,none⟩=some (.int .i64 c.kind)∧w.cell? ⟨B,1,none⟩=some (.int .i64 c.run)∧w.cell? ⟨B,2,none⟩=some (.int .i64 c.a)∧w.cell? ⟨B,3,none⟩=some (.int .i64 c.b)∧w.cell? ⟨B,4,none⟩=some (.int .i64 c.n))∧∀ j,w.frozen? ⟨B,j,none⟩=false
set_option maxRecDepth 100000 in
set_option maxHeartbeats 4000000 in
theorem y9 (p:Option Addr) (n cap:Nat) (w:World) (hc:n≤cap) (hb:∀ i,i<n→∃ b o,∃ x:Nat,p=some ⟨b,o,none⟩∧b<w.heap.size∧w.cell? ⟨b,o+i,none⟩=some (.int .u8 (x:Int))∧x<256) (hn:n≤2 ^ 40) :
  Calls Tryz.prog 19 #[.slice p n cap] w fun e w'=>∃ (q:Option Addr) (k:Nat) (ts:List Thg) (c:Cal),e=.returned (.tuple #[.slice q ts.length k,c.val])∧TabAt w' (.slice q ts.length k) ts∧3≤ts.length∧ts.length≤8∧Es ts∧Below w.heap.size w w':=by
 go_enter Tryz.func19,Tryz.ntmps19
 go_upto_region 1 with (fail)
 generalize hwa:World.alloc _ _=wa
 have hB0:Below w.heap.size w wa:=by rw [← hwa];exact (by (repeat (with_reducible first|exact bA _ _|refine bB ?_ ?_ _|refine bC ?_ _|refine bD ?_|refine bE ?_ ?_ _|refine bF ?_ (by assumption) ?_))<;>first|omega|(simp;try omega))
 have gc:wa.cell? ⟨w.heap.size,0,none⟩=some (.int .i64 0)∧wa.cell? ⟨w.heap.size,1,none⟩=some (.int .i64 0)∧wa.cell? ⟨w.heap.size,2,none⟩=some (.int .i64 0)∧wa.cell? ⟨w.heap.size,3,none⟩=some (.int .i64 0)∧wa.cell? ⟨w.heap.size,4,none⟩=some (.int .i64 0):=by rw [← hwa];simp [go_sem]
 have gf:∀ j,wa.frozen? ⟨w.heap.size,j,none⟩=false:=by intro j;rw [← hwa];simp [go_sem]
 have gl:w.heap.size<wa.heap.size:=by rw [← hwa];simp
 have hb':∀ i,i<n→∃ b o,∃ x:Nat,p=some ⟨b,o,none⟩∧b<wa.heap.size∧wa.cell? ⟨b,o+i,none⟩=some (.int .u8 (x:Int))∧x<256:=by
  intro i hi
  obtain ⟨b,o,x,e1,e2,e3,e4⟩:=hb i hi
  exact ⟨b,o,x,e1,by omega,(hB0.cell (p:=⟨b,o+i,none⟩) e2).trans e3,e4⟩
 have Hb:=Lib.hid hb'
 clear hwa hb hb'
 go_upto_region 2 with (go_at_call 32;refine (open_c p n cap _ hc Hb.out hn).mono ?_;rintro e w1 ⟨rfl,hr1,hb1⟩)
 have Hb1:=hb1
 obtain ⟨R,hRe⟩:∃ R,wa.heap.size=R:=⟨_,rfl⟩
 rw [hRe] at hr1 hb1 gl ⊢
 have hR1:=hr1.lt
 go_upto_region 3 with (go_at_call 33;refine (GI R 0 _ hr1 (by omega)).mono ?_;rintro e w2 ⟨v,m,rfl,hm3,hm8,hT⟩)
 obtain ⟨ts,q,k,hl,rfl,GX,hS,hg2,hr2⟩:=hT.tabS
 subst hl
 clear hT
 have HTab:=Lib.hid GX
 have HS:=Lib.hid hS
 have hD1:w.heap.size<w1.heap.size:=by omega
 have hB2:Below w.heap.size w w1:=hB0.trans (hb1.mono (by omega))
 have HB2:=Lib.hid hB2
 have hsz:=hg2.size
 have hDR:¬ w.heap.size=R:=by omega
 have hr2:=hr2.mono (show 0+6000≤6000 by omega)
 obtain ⟨hch,hfh⟩:=ax Hb1
 have hBc:∀ (i:Nat) v,wa.cell? ⟨w.heap.size,i,none⟩=some v→w1.cell? ⟨w.heap.size,i,none⟩=some v:=fun i v h=>(hch _ _ (by omega)).trans h
 have g1:w2.cell? ⟨w.heap.size,0,none⟩=some (.int .i64 0)∧w2.cell? ⟨w.heap.size,1,none⟩=some (.int .i64 0)∧w2.cell? ⟨w.heap.size,2,none⟩=some (.int .i64 0)∧w2.cell? ⟨w.heap.size,3,none⟩=some (.int .i64 0)∧w2.cell? ⟨w.heap.size,4,none⟩=some (.int .i64 0):=
  ⟨hg2.cell (hBc _ _ gc.1) hDR,hg2.cell (hBc _ _ gc.2.1) hDR,hg2.cell (hBc _ _ gc.2.2.1) hDR,hg2.cell (hBc _ _ gc.2.2.2.1) hDR,hg2.cell (hBc _ _ gc.2.2.2.2) hDR⟩
 have gf1:∀ j,w2.frozen? ⟨w.heap.size,j,none⟩=false:=ai hg2 hD1 hDR (fun j=>(hfh _ _ (by omega)).trans (gf j))
 clear gc gf hch hfh GX hS hBc Hb hc hn hB2 hB0 Hb1 hb1
 have hR2:R<w2.heap.size:=hr2.lt
 have hlen3:3≤ts.length:=by omega
 have MP:ts.length≤8:=by omega
 have hDR:¬ w.heap.size=R:=by omega
 have HT2:=Lib.hid (show ∀ wz:World,Chg (fun b=>b=R) w2 wz→TabAt wz (.slice q ts.length k) ts from fun wz hg=>HTab.out _ _ hg (fun b hb e=>by subst e;omega))
 go_cut [6] (fun s6 wz=>∃ c B,s6=.pointer (some ⟨B,0,none⟩)∧R<B∧w2.heap.size≤B∧uR wz B c∧Chg (fun b=>b=R) w2 wz∧Rd wz R 6060)
 case first=>
  go_wp2_with (go_at_call 55;refine (yK R _ q k ts _ hr2 (by omega) HT2.out (by omega) (by omega)).mono ?_;rintro e w3 ⟨⟨ck,cr,ca,cb,cn⟩,rfl,hg3,hr3⟩)
  go_meet
  have hs3:=hg3.size
  exact ⟨⟨ck,cr,ca,cb,cn⟩,w3.heap.size,rfl,hr3.lt,hs3,⟨by simp [go_sem],fun j=>by simp [go_sem]⟩,Chg.alloc hg3 _,Rd.pure (hr3.mono (by omega)) (by (repeat (with_reducible first|exact bA _ _|refine bB ?_ ?_ _|refine bC ?_ _|refine bD ?_|refine bE ?_ ?_ _|refine bF ?_ (by assumption) ?_))<;>first|omega|(simp;try omega))⟩
 case rest=>
  obtain ⟨c,B,rfl,hRB,hwB,hC,hch,hrd⟩:=hcut
  obtain ⟨wx,rfl⟩:∃ wx:World,wx=wc:=⟨_,rfl⟩
  go_wp2
  go_loopw [7] (fun s7 wr=>∃ a:Nat,s7=.int .i64 (a:Int)∧a≤4∧∃ c,uR wr B c∧Chg (fun b=>b=R) w2 wr∧Rd wr R (6060+70 * a)) (fun s7 _=>4 - (intOf s7).toNat)
  case atStart=>exact ⟨0,rfl,by omega,c,hC,hch,hrd⟩
  case round=>
   clear hC hch hrd
   obtain ⟨a,rfl,ha,⟨ck,cr,ca,cb,cn⟩,⟨⟨q0,q1,q2,q3,q4⟩,hfz⟩,hch,hrd⟩:=hrel
   dsimp only at q0 q1 q2 q3 q4
   have hBR:¬ B=R:=by omega
   have hBs:=World.block_lt_of_cell? _ _ q0
   obtain ⟨v,hv⟩:∃ v,check ts ⟨ck,cr,ca,cb,cn⟩=v:=⟨_,rfl⟩
   have Hv:=Lib.hid hv
   clear hv
   go_upto_region 5 with (fail)
   go_cut [27] (fun s27 wz=>∃ bb:Bool,s27=.bool bb∧(bb=true→a<4)∧Chg (fun b=>b=R) wr wz∧Rd wz R (6060+70 * a+1))
   case first=>
    by_cases hlt:a<4
    ·have hlt2:(a:Int)<4:=by omega
     go_wp2_with (first
      | (go_at_call 56;refine (xA q k ts ⟨_,_,_,_,_⟩ _ (HT2.out _ (hch.trans hg3))).mono ?_;rw [Hv.out];rintro e w4 ⟨rfl,hb4⟩)
      | (go_at_call 36;refine (aO R _ _ _ hrd (by omega) (by omega)).mono ?_;rintro e w3 ⟨k3,rfl,h3a,h3b,hr3,hg3⟩;have q0:=hg3.cell q0 hBR;have q1:=hg3.cell q1 hBR;have q2:=hg3.cell q2 hBR;have q3:=hg3.cell q3 hBR;have q4:=hg3.cell q4 hBR))
     all_goals go_meet
     all_goals (first|exact ⟨_,rfl,fun _=>hlt,hg3.trans (Chg.ah hb4),(hr3.pure hb4).mono (by omega)⟩|exact ⟨_,rfl,fun _=>hlt,hg3,hr3.mono (by omega)⟩)
    ·have ha4:a=4:=by omega
     subst ha4
     go_wp2
     go_meet
     exact ⟨false,rfl,fun h=>(by cases h),Chg.refl _ _,hrd.mono (by omega)⟩
   case rest=>
    obtain ⟨bb,rfl,hbb,hg,hr⟩:=hcut
    obtain ⟨wx,rfl⟩:∃ wx:World,wx=wc:=⟨_,rfl⟩
    have q0:=hg.cell q0 hBR
    have q1:=hg.cell q1 hBR
    have q2:=hg.cell q2 hBR
    have q3:=hg.cell q3 hBR
    have q4:=hg.cell q4 hBR
    have hfz:=ai hg hBs hBR hfz
    have pO:=hch.trans hg
    have hBs:=World.block_lt_of_cell? _ _ q0
    clear hch hrd hg
    cases bb
    ·have d0:=pO.cell g1.1 hDR
     have d1:=pO.cell g1.2.1 hDR
     have d2:=pO.cell g1.2.2.1 hDR
     have d3:=pO.cell g1.2.2.2.1 hDR
     have d4:=pO.cell g1.2.2.2.2 hDR
     have df:=ai pO (show w.heap.size<w2.heap.size by omega) hDR gf1
     have hDs:=World.block_lt_of_cell? _ _ d0
     have hDB:¬ w.heap.size=B:=by omega
     go_upto_region 8 with (fail)
     go_region
     go_wp2
     have hF:=(((((((hg2.trans pO).mono (T:=fun b=>b=R∨b=w.heap.size) (fun k _ h=>Or.inl h)).setCell (p:=⟨w.heap.size,0,none⟩) (Or.inr rfl) (.int .i64 ck)).setCell (p:=⟨w.heap.size,1,none⟩) (Or.inr rfl) (.int .i64 cr)).setCell (p:=⟨w.heap.size,2,none⟩) (Or.inr rfl) (.int .i64 ca)).setCell (p:=⟨w.heap.size,3,none⟩) (Or.inr rfl) (.int .i64 cb)).setCell (p:=⟨w.heap.size,4,none⟩) (Or.inr rfl) (.int .i64 cn)).drew
     have hE:=((((((pO.mono (T:=fun b=>b=R∨b=w.heap.size) (fun k _ h=>Or.inl h)).setCell (p:=⟨w.heap.size,0,none⟩) (Or.inr rfl) (.int .i64 ck)).setCell (p:=⟨w.heap.size,1,none⟩) (Or.inr rfl) (.int .i64 cr)).setCell (p:=⟨w.heap.size,2,none⟩) (Or.inr rfl) (.int .i64 ca)).setCell (p:=⟨w.heap.size,3,none⟩) (Or.inr rfl) (.int .i64 cb)).setCell (p:=⟨w.heap.size,4,none⟩) (Or.inr rfl) (.int .i64 cn)).drew
     exact bodyPost_ret (v:=.tuple #[.slice q ts.length k,(Cal.mk ck cr ca cb cn).val]) (by simp [results,Tryz.results19,go_sem,Cal.val,ag, *]) rfl ⟨q,k,ts,⟨Cal.mk ck cr ca cb cn,rfl⟩,HTab.out _ _ hE (fun b hb e=>by omega),hlen3,MP,HS.out,HB2.out.trans (hF.below (by omega) (fun b hb e=>by omega))⟩
    ·have hlt:=hbb rfl
     go_wp2_with (go_at_call 55;refine (yK R _ q k ts _ hr (by omega) (fun wz hg=>HT2.out _ (pO.trans hg)) (by omega) (by omega)).mono ?_;rintro e w3 ⟨⟨ek,er,ea,eb,en⟩,rfl,hg3,hr3⟩;have q0:=hg3.cell q0 hBR;have q1:=hg3.cell q1 hBR;have q2:=hg3.cell q2 hBR;have q3:=hg3.cell q3 hBR;have q4:=hg3.cell q4 hBR;have hfz:=ai hg3 hBs hBR hfz;have hBs:=World.block_lt_of_cell? _ _ q0)
     have hB5:w2.heap.size≤B:=hwB
     refine ⟨⟨a+1,by go_num,by omega,⟨ek,er,ea,eb,en⟩,⟨by simp [ag, *],fun j=>by simp [hfz]⟩,Chg.av (Chg.av (Chg.av (Chg.av (Chg.av (pO.trans hg3) hB5 _) hB5 _) hB5 _) hB5 _) hB5 _,Rd.av (Rd.av (Rd.av (Rd.av (Rd.av (hr3.mono (by omega)) hRB _) hRB _) hRB _) hRB _) hRB _⟩,by simp [intOf];omega⟩
end Go.Proofs.YthhmolonhpaepaaGreatDoor
