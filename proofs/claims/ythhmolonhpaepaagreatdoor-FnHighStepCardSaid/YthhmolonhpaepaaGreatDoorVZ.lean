/- The reference's check of a call. Conditions: the table lies where its cells say; the call is one that can be. -/
import Derived.Test.YthhmolonhpaepaaGreatDoorVS
import Derived.Test.YthhmolonhpaepaaGreatDoorVMa
import Derived.Test.YthhmolonhpaepaaGreatDoorVAct
set_option linter.unusedVariables false
set_option linter.unusedSimpArgs false
namespace Go.Proofs.YthhmolonhpaepaaGreatDoor
open Go.RowKit Drw
attribute [local go_sem] Lab.val Rgt.val Cal.val Thg.val
set_option maxHeartbeats 1000000 in
theorem rC (c k:Int) (w:World) :
  Calls Tryz.prog 92 #[.int .i64 c,.int .i64 k] w fun e w'=>e=.returned (.bool (dU c k))∧w'=w:=by
 go_enter Tryz.func92,Tryz.ntmps92
 go_wp2
 all_goals (go_ret;exact ⟨aj (by unfold dU;grind),rfl⟩)
set_option maxHeartbeats 400000 in
theorem uH (c:Int) (w:World) :
  Calls Tryz.prog 148 #[.int .i64 c] w fun e w'=>e=.returned (.slice (some ⟨w.heap.size,0,none⟩) 4 4)∧w'=w.alloc (.cells #[.bool (eH c),.bool (dO c),.bool (eH c),.bool (dO c)] 4):=by
 go_enter Tryz.func148,Tryz.ntmps148
 go_wp2
 all_goals go_ret
 all_goals exact ⟨rfl,by simp [eH,dO, *]⟩
set_option maxHeartbeats 400000 in
theorem vZ (p:Option Addr) (cap:Nat) (ts:List Thg) (c:Cal) (w:World) (h3:c.kind=3) :
  Calls Tryz.prog 93 #[.slice p ts.length cap,c.val] w fun e w'=>e=.returned (.int .i64 (aT ts c))∧Below w.heap.size w w':=by
 have hc:aT ts c=0:=by simp [aT,h3]
 rw [hc]
 clear hc
 obtain ⟨k,r,a,b,n⟩:=c
 dsimp only at h3
 subst h3
 go_enter Tryz.func93,Tryz.ntmps93
 go_wp2
 go_ret
 exact ⟨rfl,(by (repeat (with_reducible first|exact bA _ _|refine bB ?_ ?_ _|refine bC ?_ _|refine bD ?_|refine bE ?_ ?_ _|refine bF ?_ (by assumption) ?_))<;>first|omega|(simp;try omega))⟩
set_option maxRecDepth 100000 in
set_option maxHeartbeats 8000000 in
theorem yN (p:Option Addr) (cap:Nat) (ts:List Thg) (c:Cal) (w:World) (hT:TabAt w (.slice p ts.length cap) ts) (oV:bP ts c=true) (h3:¬ c.kind=3) :
  Calls Tryz.prog 93 #[.slice p ts.length cap,c.val] w fun e w'=>e=.returned (.int .i64 (aT ts c))∧Below w.heap.size w w':=by
 obtain ⟨j,m,tr,r,gT⟩:=Ic oV
 have NI:=Lib.hid oV
 have hB0:=Nk.1 oV
 clear oV
 obtain ⟨_,_,h1,hl1,hl2⟩:=hT.len
 cases h1
 unfold maxLen at hl2
 obtain ⟨b,o,sv,qv,rfl,hbk,hS,hQ,c0,c1,c2,c3,c4,c5,c6,c7⟩:=hT.at j tr gT.Cw
 obtain ⟨p',cap',rfl,GR,GQ⟩:=hS.len
 rw [gT.four] at GR
 obtain ⟨b',o',rfl,hbk',r0,r1,r2,r3,r4⟩:=hS.at m r gT.r_at
 have hj:j<ts.length:=(List.getElem?_eq_some_iff.1 gT.Cw).1
 have hm4:=gT.m4
 have hrun:=gT.run
 have ha:=gT.a
 rw [gT.four] at c5
 have Ew:=Lib.hid gT
 have hk3:(c.kind == 3)=false:=by simpa using h3
 have hexr:=hB0.ex
 have MQ:dw (aC ts c.run).lab=true:=(aQ.1 hB0.thg).2.1
 have htab:=hB0.tab
 clear gT h3 hB0
 obtain ⟨k,rn,a,bb,n⟩:=c
 dsimp only at hrun ha hk3 hexr MQ
 subst hrun
 subst ha
 have hw1:IntKind.i64.wrap ((j:Int)+1 - 1)=(j:Int):=by rw [show (j:Int)+1 - 1=j by omega];exact IntWalk.i64_in _ (by omega)
 have hw2:IntKind.i64.wrap (j:Int)=(j:Int):=IntWalk.i64_in _ (by omega)
 have hj0:(0:Int)≤(j:Int):=by omega
 have hjl:(j:Int)<(ts.length:Int):=by omega
 have hm0:(0:Int)≤(m:Int):=by omega
 have hml:(m:Int)<4:=by omega
 have Hexr:=Lib.hid hexr
 have Hlabr:=Lib.hid MQ
 have Htab:=Lib.hid htab
 clear c0 c1 c2 c3 c4 c6 c7 hexr MQ htab
 go_enter Tryz.func93,Tryz.ntmps93
 go_upto_region 3 with (fail)
 go_cut [5] (fun s5 wx=>s5=.pointer (some ⟨w.heap.size+1,0,none⟩)∧Below w.heap.size w wx∧wx.heap.size=w.heap.size+2∧(wx.cell? ⟨w.heap.size+1,0,none⟩=some (.int .i64 r.thing)∧wx.cell? ⟨w.heap.size+1,1,none⟩=some (.int .i64 r.aJ)∧wx.cell? ⟨w.heap.size+1,2,none⟩=some (.bool r.rd)∧wx.cell? ⟨w.heap.size+1,3,none⟩=some (.bool r.wr)∧wx.cell? ⟨w.heap.size+1,4,none⟩=some (.bool r.wk))∧(wx.cell? ⟨w.heap.size,0,none⟩=some (.int .i64 k)∧wx.cell? ⟨w.heap.size,1,none⟩=some (.int .i64 ((j:Int)+1))∧wx.cell? ⟨w.heap.size,2,none⟩=some (.int .i64 (m:Int))∧wx.cell? ⟨w.heap.size,3,none⟩=some (.int .i64 bb)∧wx.cell? ⟨w.heap.size,4,none⟩=some (.int .i64 n)))
 case first=>
  go_region_held3 (fun w'=>w'.cell? ⟨w.heap.size,1,none⟩=some (.int .i64 ((j:Int)+1))∧w'.cell? ⟨w.heap.size,2,none⟩=some (.int .i64 (m:Int))∧w'.cell? ⟨b,o+j * 8+5,none⟩=some (.slice (some ⟨b',o',none⟩) 4 cap')∧w'.cell? ⟨b',o' + m * 5,none⟩=some (.int .i64 r.thing)∧w'.cell? ⟨b',o' + m * 5+1,none⟩=some (.int .i64 r.aJ)∧w'.cell? ⟨b',o' + m * 5+2,none⟩=some (.bool r.rd)∧w'.cell? ⟨b',o' + m * 5+3,none⟩=some (.bool r.wr)∧w'.cell? ⟨b',o' + m * 5+4,none⟩=some (.bool r.wk)) ((simp [*,ag,World.cell?_alloc_some])) (fail)
  all_goals
   go_wp2
   go_meet
   refine ⟨rfl,(by (repeat (with_reducible first|exact bA _ _|refine bB ?_ ?_ _|refine bC ?_ _|refine bD ?_|refine bE ?_ ?_ _|refine bF ?_ (by assumption) ?_))<;>first|omega|(simp;try omega)),by simp [World.setCell],?_,?_⟩
   ·simp [ag]
   ·simp [ag]
 case rest=>
  obtain ⟨rfl,hBw,hzx,⟨q0,q1,q2,q3,q4⟩,⟨k0,k1,k2,k3,k4⟩⟩:=hcut
  clear r0 r1 r2 r3 r4 c5
  obtain ⟨wx,rfl⟩:∃ wx:World,wx=wc:=⟨_,rfl⟩
  have hz0:w.heap.size<wx.heap.size:=by omega
  have hz1:w.heap.size+1<wx.heap.size:=by omega
  have Hzx:=Lib.hid hzx
  clear hzx
  by_cases h0:r.thing=0
  ·rw [h0] at q0
   have hc:aT ts ⟨k,(j:Int)+1,(m:Int),bb,n⟩=-1:=by
    have hs:=Ew.out.slot
    simp at hk3
    simp [aT,hk3,hs,h0]
   have Hc:=Lib.hid hc
   clear hc
   go_upto_region 5 with (go_at_call 148;refine (uH _ _).mono ?_;rintro e w' ⟨rfl,rfl⟩)
   go_quiet (fail)
   go_wp2
   go_ret
   exact ⟨qC (by rw [Hc.out]),(by (repeat (with_reducible first|exact bA _ _|refine bB ?_ ?_ _|refine bC ?_ _|refine bD ?_|refine bE ?_ ?_ _|refine bF ?_ (by assumption) ?_))<;>first|omega|(simp;try omega))⟩
  ·obtain ⟨x,hx,htx,hex,hvx⟩:=zg Ew.out.cap h0
   have hcx:(NQ ts ⟨k,(j:Int)+1,(m:Int),bb,n⟩)=r:=Ew.out.slot
   have hck:=uM (ts:=ts) (c:=⟨k,(j:Int)+1,(m:Int),bb,n⟩) hk3 (by rw [hcx];exact h0)
   rw [hcx] at hck
   obtain ⟨rt,rv,rrd,rwr,rwk⟩:=r
   dsimp only at hx htx hex hvx hck q0 q1 q2 q3 q4
   subst hx
   have hlabx:dw (aC ts ((x:Int)+1)).lab=true:=(aQ.1 (bW Htab.out hex)).2.1
   obtain ⟨b2,o2,sv2,qv2,hp2,hbk2,hS2,hQ2,d0,-⟩:=(hT.pure hBw).at x _ htx
   cases hp2
   have hxl:x<ts.length:=(List.getElem?_eq_some_iff.1 htx).1
   obtain ⟨hk,hhk⟩:∃ hk,dU k (aC ts ((x:Int)+1)).kind=hk:=⟨_,rfl⟩
   obtain ⟨se,hse⟩:∃ se,sees ts ((j:Int)+1) ((x:Int)+1)=se:=⟨_,rfl⟩
   obtain ⟨tu,htu⟩:∃ tu,touches ts ((j:Int)+1) ((x:Int)+1)=tu:=⟨_,rfl⟩
   obtain ⟨li,hli⟩:∃ li,live ts ⟨(x:Int)+1,rv,rrd,rwr,rwk⟩=li:=⟨_,rfl⟩
   obtain ⟨nr,hnr⟩:∃ nr,eH k=nr:=⟨_,rfl⟩
   obtain ⟨nw,hnw⟩:∃ nw,dO k=nw:=⟨_,rfl⟩
   rw [hhk,hse,htu,hli,hnr,hnw] at hck
   have Hhk:=Lib.hid hhk
   have Hse:=Lib.hid hse
   have Htu:=Lib.hid htu
   have Hli:=Lib.hid (show ∀ a b c,live ts ⟨(x:Int)+1,rv,a,b,c⟩=li from fun _ _ _=>hli)
   have Hck:=Lib.hid hck
   have Hex:=Lib.hid hex
   have Hlabx:=Lib.hid hlabx
   have Hnr:=Lib.hid hnr
   have Hnw:=Lib.hid hnw
   have h00:(((x:Int)+1) == 0)=false:=by simp;omega
   have e2:(0:Int)≤(x:Int):=by omega
   have e3:(x:Int)<(ts.length:Int):=by omega
   have s2:IntKind.i64.wrap (x:Int)=(x:Int):=IntWalk.i64_in _ (by omega)
   have s3:IntKind.i64.wrap ((x:Int)+1 - 1)=(x:Int):=by rw [show (x:Int)+1 - 1=x by omega];exact IntWalk.i64_in _ (by omega)
   clear hhk hse htu hli hck hcx hex htx h0 hvx hnr hnw hlabx hS2 hQ2
   go_upto_region 5 with (go_at_call 148;refine (uH _ _).mono ?_;rw [Hnr.out,Hnw.out];rintro e w' ⟨rfl,rfl⟩)
   go_cut [60] (fun s60 wy=>s60=.bool (!hk || (nr && !rrd) || (nw && !rwr))∧∃ m,wy=(wx.alloc (.cells #[.bool nr,.bool nw,.bool nr,.bool nw] 4)).drewN m)
   case first=>
    cases hk with
    | false=>
     go_quiet ((go_at_call 92;exact Calls.quiet_of_same ((rC _ _ _).mono (fun e w' h=>by rw [Hhk.out] at h;exact h))))
     go_wp2
     go_meet
     exact ⟨rfl,_,rfl⟩
    | true=>
     cases nr<;>cases rrd<;>cases nw<;>cases rwr
     all_goals
      go_quiet ((go_at_call 92;exact Calls.quiet_of_same ((rC _ _ _).mono (fun e w' h=>by rw [Hhk.out] at h;exact h))))
      go_wp2
      go_meet
      exact ⟨rfl,_,rfl⟩
   case rest=>
    obtain ⟨rfl,mm,hwy⟩:=hcut
    obtain ⟨wy,rfl⟩:∃ wy:World,wy=wc:=⟨_,rfl⟩
    have hBy:Below wx.heap.size wx wy:=by rw [hwy];exact (by (repeat (with_reducible first|exact bA _ _|refine bB ?_ ?_ _|refine bC ?_ _|refine bD ?_|refine bE ?_ ?_ _|refine bF ?_ (by assumption) ?_))<;>first|omega|(simp;try omega))
    have hcy:=(ax hBy).1
    rw [← hcy _ _ hz1] at q0 q1 q2 q3 q4
    rw [← hcy _ _ hz0] at k0 k1 k2 k3 k4
    have n2:wy.cell? ⟨wx.heap.size,2,none⟩=some (.bool nr):=by rw [hwy];simp [go_sem]
    have n3:wy.cell? ⟨wx.heap.size,3,none⟩=some (.bool nw):=by rw [hwy];simp [go_sem]
    have hTy:TabAt wy (.slice (some ⟨b,o,none⟩) ts.length cap) ts:=hT.pure (hBw.trans (hBy.mono hBw.size))
    have hBwy:Below w.heap.size w wy:=hBw.trans (hBy.mono hBw.size)
    have hsw:=hBwy.size
    have hBxy:w.heap.size+1<wy.heap.size:=by have:=hBy.size;omega
    have hzy:wx.heap.size<wy.heap.size:=World.block_lt_of_cell? wy _ n2
    have hzwy:w.heap.size<wy.heap.size:=by omega
    have Hwy:=Lib.hid hwy
    clear hcy hT d0 hwy
    go_wp2_with (first
     | (go_at_call 97;refine (yM _ _ ts _ _ _ (hTy.pure (by (repeat (with_reducible first|exact bA _ _|refine bB ?_ ?_ _|refine bC ?_ _|refine bD ?_|refine bE ?_ ?_ _|refine bF ?_ (by assumption) ?_))<;>first|omega|(simp;try omega))) Hexr.out Hex.out Hlabr.out Hlabx.out).mono ?_;rw [Hse.out];rintro e w4 ⟨rfl,hb4⟩;obtain ⟨hc4,hf4⟩:=ax hb4;have hz4:w.heap.size+1<w4.heap.size∧wx.heap.size<w4.heap.size∧w.heap.size<w4.heap.size:=(by have:=hb4.size;omega);obtain ⟨hz4a,hz4b,hz4c⟩:=hz4;have hy4:=hb4.size)
     | (go_at_call 149;refine (yL _ _ ts _ _ _ (hTy.pure (by (repeat (with_reducible first|exact bA _ _|refine bB ?_ ?_ _|refine bC ?_ _|refine bD ?_|refine bE ?_ ?_ _|refine bF ?_ (by assumption) ?_))<;>first|omega|(simp;try omega))) Hexr.out Hex.out Hlabr.out Hlabx.out).mono ?_;rw [Htu.out];rintro e w5 ⟨rfl,hb5⟩;obtain ⟨hc5,hf5⟩:=ax hb5;have hz5:w.heap.size+1<w5.heap.size∧wx.heap.size<w5.heap.size∧w.heap.size<w5.heap.size:=(by have:=hb5.size;omega);obtain ⟨hz5a,hz5b,hz5c⟩:=hz5;have hy5:=hb5.size)
     | (go_at_call 95;refine (vY _ _ ts ⟨_,_,_,_,_⟩ _ (hTy.pure (by (repeat (with_reducible first|exact bA _ _|refine bB ?_ ?_ _|refine bC ?_ _|refine bD ?_|refine bE ?_ ?_ _|refine bF ?_ (by assumption) ?_))<;>first|omega|(simp;try omega)))).mono ?_;rw [Hli.out _ _ _];rintro e w6 ⟨rfl,hb6⟩;obtain ⟨hc6,hf6⟩:=ax hb6;have hy6:=hb6.size))
    all_goals
     go_ret
     refine ⟨qC ?_,(by (repeat (with_reducible first|exact bA _ _|refine bB ?_ ?_ _|refine bC ?_ _|refine bD ?_|refine bE ?_ ?_ _|refine bF ?_ (by assumption) ?_))<;>first|omega|(simp;try omega))⟩
     rw [Hck.out]
     grind [chk]
theorem nI (p:Option Addr) (cap:Nat) (ts:List Thg) (c:Cal) (w:World) (hT:TabAt w (.slice p ts.length cap) ts) (oV:bP ts c=true) :
  Calls Tryz.prog 93 #[.slice p ts.length cap,c.val] w fun e w'=>e=.returned (.int .i64 (aT ts c))∧Below w.heap.size w w':=by
 by_cases h3:c.kind=3
 ·exact vZ p cap ts c w h3
 ·exact yN p cap ts c w hT oV h3
end Go.Proofs.YthhmolonhpaepaaGreatDoor
