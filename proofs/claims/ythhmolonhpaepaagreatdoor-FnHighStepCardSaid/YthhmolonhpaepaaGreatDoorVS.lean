/- impl.examineCall and CheckCall. Conditions: the table lies where its cells say; errors.errorType is laid. -/
import Derived.Test.YthhmolonhpaepaaGreatDoorVK
import Derived.Test.YthhmolonhpaepaaGreatDoorVDo
import Derived.StillTailTactics
import Derived.Test.YthhmolonhpaepaaGreatDoorVY
import Derived.Laws.EntriesVeiled
set_option linter.unusedVariables false
set_option linter.unusedSimpArgs false
namespace Go.Proofs.YthhmolonhpaepaaGreatDoor
open Go.RowKit Drw
attribute [local go_sem] Lab.val Rgt.val Cal.val Thg.val
def KP (w':World) (v:Value) (c:Int):Prop:=(c=0∧v=.nilIface)∨(c≠0∧∃ b,v=.iface 119 (.pointer (some ⟨b,0,none⟩))∧w'.cell? ⟨b,0,none⟩=some (.int .i64 c))
def chk (hk nr nw rd wr se tu li:Bool):Int:=if !hk || (nr && !rd) || (nw && !wr) then -1 else if (nr && !se) || (nw && !tu) then -2 else if se && !li then -3 else 0
theorem uM {ts:List Thg} {c:Cal} (h3:(c.kind == 3)=false) (h0:¬ (NQ ts c).thing=0):aT ts c=chk (dU c.kind (aC ts (NQ ts c).thing).kind) (eH c.kind) (dO c.kind) (NQ ts c).rd (NQ ts c).wr (sees ts c.run (NQ ts c).thing) (touches ts c.run (NQ ts c).thing) (live ts (NQ ts c)):=by
 have h3':¬ c.kind=3:=by simpa using h3
 have h0':((NQ ts c).thing == 0)=false:=by simpa using h0
 unfold aT chk
 rw [if_neg h3']
 simp only [h0',Bool.false_or]
set_option maxRecDepth 100000 in
set_option maxHeartbeats 4000000 in
theorem Eb (p:Option Addr) (cap:Nat) (ts:List Thg) (c:Cal) (w:World) (hT:TabAt w (.slice p ts.length cap) ts) (hno:bP ts c=false) :
  Calls Tryz.prog 90 #[.slice p ts.length cap,c.val] w fun e w'=>∃ v,e=.returned v∧KP w' v (check ts c)∧Below w.heap.size w w':=by
 have hc:check ts c=-1:=by simp [check,hno]
 rw [hc]
 have Hno:=Lib.hid hno
 clear hno hc
 obtain ⟨k,r,a,b,n⟩:=c
 go_enter Tryz.func90,Tryz.ntmps90
 go_wp2_with (go_at_call 48;refine (dQ _ _ ts ⟨_,_,_,_,_⟩ _ (hT.pure (by (repeat (with_reducible first|exact bA _ _|refine bB ?_ ?_ _|refine bC ?_ _|refine bD ?_|refine bE ?_ ?_ _|refine bF ?_ (by assumption) ?_))<;>first|omega|(simp;try omega)))).mono ?_;rw [Hno.out];rintro e w1 ⟨rfl,hb1⟩;obtain ⟨hc1,hf1⟩:=ax hb1;have hz0:w.heap.size<w1.heap.size:=(by have:=hb1.size;(try simp at this);omega))
 go_ret
 refine ⟨_,rfl,.inr ⟨by decide,_,rfl,?_⟩,(by (repeat (with_reducible first|exact bA _ _|refine bB ?_ ?_ _|refine bC ?_ _|refine bD ?_|refine bE ?_ ?_ _|refine bF ?_ (by assumption) ?_))<;>first|omega|(simp;try omega))⟩
 simp [go_sem]
set_option maxRecDepth 100000 in
set_option maxHeartbeats 4000000 in
theorem AQ (p:Option Addr) (cap:Nat) (ts:List Thg) (c:Cal) (w:World) (hT:TabAt w (.slice p ts.length cap) ts) (oV:bP ts c=true) (h3:¬ c.kind=3) :
  Calls Tryz.prog 90 #[.slice p ts.length cap,c.val] w fun e w'=>∃ v,e=.returned v∧KP w' v (aT ts c)∧Below w.heap.size w w':=by
 obtain ⟨j,m,tr,r,gT⟩:=Ic oV
 have NI:=Lib.hid oV
 clear oV
 obtain ⟨_,_,h1,hl1,hl2⟩:=hT.len
 cases h1
 unfold maxLen at hl2
 have hreq:c.kind∈reqs:=gT.call.resolve_left h3
 obtain ⟨b,o,sv,qv,rfl,hbk,hS,hQ,c0,c1,c2,c3,c4,c5,c6,c7⟩:=hT.at j tr gT.Cw
 obtain ⟨p',cap',rfl,GR,GQ⟩:=hS.len
 rw [gT.four] at GR
 obtain ⟨b',o',rfl,hbk',r0,r1,r2,r3,r4⟩:=hS.at m r gT.r_at
 have hj:j<ts.length:=(List.getElem?_eq_some_iff.1 gT.Cw).1
 have hm4:=gT.m4
 have hrun:=gT.run
 have ha:=gT.a
 rw [gT.four] at c5
 have Ew:=Lib.hid gT
 have hk3:(c.kind == 3)=false:=by simpa using h3
 clear gT h3
 obtain ⟨k,rn,a,bb,n⟩:=c
 dsimp only at hrun ha hreq hk3
 subst hrun
 subst ha
 go_enter Tryz.func90,Tryz.ntmps90
 go_upto_region 6 with (first
  | (go_at_call 48;refine (dQ _ _ ts ⟨_,_,_,_,_⟩ _ (hT.pure (by (repeat (with_reducible first|exact bA _ _|refine bB ?_ ?_ _|refine bC ?_ _|refine bD ?_|refine bE ?_ ?_ _|refine bF ?_ (by assumption) ?_))<;>first|omega|(simp;try omega)))).mono ?_;rw [NI.out];rintro e w1 ⟨rfl,hb1⟩;obtain ⟨hc1,hf1⟩:=ax hb1;have hz1:w.heap.size<w1.heap.size:=(by have:=hb1.size;(try simp at this);omega))
  | (go_at_call 145;refine (qD _ hreq _).mono ?_;rintro e w2 ⟨pk,rfl,hK,hb2⟩;obtain ⟨hc2,hf2⟩:=ax hb2;have hz2:w.heap.size<w2.heap.size:=(by have:=hb2.size;(try simp at this);omega)))
 have hB2:Below w.heap.size w w2:=(((Below.refl _ w).alloc (Nat.le_refl _) _).trans (hb1.mono (by simp))).trans (hb2.mono (by have:=hb1.size;(try simp at this);omega))
 obtain ⟨hc3,hf3⟩:=ax hB2
 rw [← hc3 _ _ hbk'] at r0 r1 r2 r3 r4
 rw [← hc3 _ _ hbk] at c5
 have k0:w2.cell? ⟨w.heap.size,0,none⟩=some (.int .i64 k):=by rw [hc2 _ _ hz1,hc1 _ _ (by simp)];simp [go_sem]
 have k1:w2.cell? ⟨w.heap.size,1,none⟩=some (.int .i64 ((j:Int)+1)):=by rw [hc2 _ _ hz1,hc1 _ _ (by simp)];simp [go_sem]
 have k2:w2.cell? ⟨w.heap.size,2,none⟩=some (.int .i64 (m:Int)):=by rw [hc2 _ _ hz1,hc1 _ _ (by simp)];simp [go_sem]
 have k3:w2.cell? ⟨w.heap.size,3,none⟩=some (.int .i64 bb):=by rw [hc2 _ _ hz1,hc1 _ _ (by simp)];simp [go_sem]
 have k4:w2.cell? ⟨w.heap.size,4,none⟩=some (.int .i64 n):=by rw [hc2 _ _ hz1,hc1 _ _ (by simp)];simp [go_sem]
 have hz0:w.heap.size<w2.heap.size:=by omega
 have hbk2:b<w2.heap.size:=by omega
 have hbk2':b' < w2.heap.size:=by omega
 have hw1:IntKind.i64.wrap ((j:Int)+1 - 1)=(j:Int):=by rw [show (j:Int)+1 - 1=j by omega];exact IntWalk.i64_in _ (by omega)
 have hw2:IntKind.i64.wrap (j:Int)=(j:Int):=IntWalk.i64_in _ (by omega)
 have hj0:(0:Int)≤(j:Int):=by omega
 have hjl:(j:Int)<(ts.length:Int):=by omega
 have hm0:(0:Int)≤(m:Int):=by omega
 have hml:(m:Int)<4:=by omega
 clear hc1 hc2 hc3 hf1 hf2 hf3 c0 c1 c2 c3 c4 c6 c7
 go_cut [6] (fun s6 wx=>∃ B,s6=.pointer (some ⟨B,0,none⟩)∧B<wx.heap.size∧Below w.heap.size w wx∧w2.heap.size<wx.heap.size∧(wx.cell? ⟨B,0,none⟩=some (.int .i64 r.thing)∧wx.cell? ⟨B,1,none⟩=some (.int .i64 r.aJ)∧wx.cell? ⟨B,2,none⟩=some (.bool r.rd)∧wx.cell? ⟨B,3,none⟩=some (.bool r.wr)∧wx.cell? ⟨B,4,none⟩=some (.bool r.wk))∧(wx.cell? ⟨w.heap.size,0,none⟩=some (.int .i64 k)∧wx.cell? ⟨w.heap.size,1,none⟩=some (.int .i64 ((j:Int)+1))∧wx.cell? ⟨w.heap.size,2,none⟩=some (.int .i64 (m:Int))∧wx.cell? ⟨w.heap.size,3,none⟩=some (.int .i64 bb)∧wx.cell? ⟨w.heap.size,4,none⟩=some (.int .i64 n))∧(wx.cell? ⟨w2.heap.size,0,none⟩=some (.int .i64 k)∧wx.cell? ⟨w2.heap.size,1,none⟩=some (.slice pk (aI k).length (aI k).length)∧wx.cell? ⟨w2.heap.size,2,none⟩=some (.bool (eH k))∧wx.cell? ⟨w2.heap.size,3,none⟩=some (.bool (dO k))∧wx.cell? ⟨w2.heap.size,4,none⟩=some (.bool (eH k))∧wx.cell? ⟨w2.heap.size,5,none⟩=some (.bool (dO k)))∧aG wx (.slice pk (aI k).length (aI k).length) (aI k))
 case first=>
  go_region_held3 (fun w'=>w'.cell? ⟨w.heap.size,1,none⟩=some (.int .i64 ((j:Int)+1))∧w'.cell? ⟨w.heap.size,2,none⟩=some (.int .i64 (m:Int))∧w'.cell? ⟨b,o+j * 8+5,none⟩=some (.slice (some ⟨b',o',none⟩) 4 cap')∧w'.cell? ⟨b',o' + m * 5,none⟩=some (.int .i64 r.thing)∧w'.cell? ⟨b',o' + m * 5+1,none⟩=some (.int .i64 r.aJ)∧w'.cell? ⟨b',o' + m * 5+2,none⟩=some (.bool r.rd)∧w'.cell? ⟨b',o' + m * 5+3,none⟩=some (.bool r.wr)∧w'.cell? ⟨b',o' + m * 5+4,none⟩=some (.bool r.wk) ) (go_keep) (fail)
  go_wp2
  go_meet
  refine ⟨_,rfl,by simp,?_,by simp;omega,?_,?_,?_,?_⟩
  ·exact ((hB2.alloc (by omega) _).alloc (by simp;omega) _).drew
  ·simp [go_sem]
  ·simp [go_sem,k0,k1,k2,k3,k4, *]
  ·simp [go_sem]
  ·exact hK.pure ((((Below.refl _ w2).alloc (Nat.le_refl _) _).alloc (by simp) _).drew)
 case rest=>
  obtain ⟨B,rfl,hBx,hBw,hzx,⟨q0,q1,q2,q3,q4⟩,⟨k0,k1,k2,k3,k4⟩,⟨n0,n1,n2,n3,n4,n5⟩,hKx⟩:=hcut
  clear r0 r1 r2 r3 r4 c5 hK hbk2 hbk2' hB2 hb2 hb1 hz0 hz2 hz1
  obtain ⟨hcx,hfx⟩:=ax hBw
  by_cases h0:r.thing=0
  ·rw [h0] at q0
   go_wp2
   go_quiet (fail)
   go_wp2
   go_ret
   have hc:aT ts ⟨k,(j:Int)+1,(m:Int),bb,n⟩=-1:=by
    have hs:=Ew.out.slot
    simp at hk3
    simp [aT,hk3,hs,h0]
   refine ⟨_,rfl,.inr ⟨by rw [hc];decide,_,rfl,?_⟩,?_⟩
   ·rw [hc];exact (World.cell?_alloc_at _ _ _ _ rfl).trans rfl
   ·exact (below_drewN hBw _).alloc hBw.size _
  ·obtain ⟨x,hx,htx,hex,hvx⟩:=zg Ew.out.cap h0
   have hcx:(NQ ts ⟨k,(j:Int)+1,(m:Int),bb,n⟩)=r:=Ew.out.slot
   have hck:=uM (ts:=ts) (c:=⟨k,(j:Int)+1,(m:Int),bb,n⟩) hk3 (by rw [hcx];exact h0)
   rw [hcx] at hck
   have hexr:=(Nk.1 NI.out).ex
   obtain ⟨rt,rv,rrd,rwr,rwk⟩:=r
   dsimp only at hx htx hex hvx hck q0 q1 q2 q3 q4
   subst hx
   obtain ⟨b2,o2,sv2,qv2,hp2,hbk2,hS2,hQ2,d0,-⟩:=(hT.pure hBw).at x _ htx
   cases hp2
   have hxl:x<ts.length:=(List.getElem?_eq_some_iff.1 htx).1
   obtain ⟨hk,hhk⟩:∃ hk,(aI k).any (fun y=>y == (aC ts ((x:Int)+1)).kind)=hk:=⟨_,rfl⟩
   rw [AJ,hhk] at hck
   have Hhk:=Lib.hid hhk
   obtain ⟨se,hse⟩:∃ se,sees ts ((j:Int)+1) ((x:Int)+1)=se:=⟨_,rfl⟩
   obtain ⟨tu,htu⟩:∃ tu,touches ts ((j:Int)+1) ((x:Int)+1)=tu:=⟨_,rfl⟩
   obtain ⟨li,hli⟩:∃ li,live ts ⟨(x:Int)+1,rv,rrd,rwr,rwk⟩=li:=⟨_,rfl⟩
   rw [hse,htu,hli] at hck
   obtain ⟨nr,hnr⟩:∃ nr,eH k=nr:=⟨_,rfl⟩
   obtain ⟨nw,hnw⟩:∃ nw,dO k=nw:=⟨_,rfl⟩
   try dsimp only at hck
   rw [hnr,hnw] at hck
   have Hse:=Lib.hid hse
   have Htu:=Lib.hid htu
   have Hli:=Lib.hid (show ∀ a b c,live ts ⟨(x:Int)+1,rv,a,b,c⟩=li from fun _ _ _=>hli)
   have Hck:=Lib.hid hck
   have Hex:=Lib.hid hex
   have Hexr:=Lib.hid hexr
   have h00:(((x:Int)+1) == 0)=false:=by simp;omega
   have e2:(0:Int)≤(x:Int):=by omega
   have e3:(x:Int)<(ts.length:Int):=by omega
   have s2:IntKind.i64.wrap (x:Int)=(x:Int):=IntWalk.i64_in _ (by omega)
   clear hhk hse htu hli hck hcx hex htx h0 hexr hvx
   rw [hnr] at n2 n4
   rw [hnw] at n3 n5
   have Hnr:=Lib.hid hnr
   have Hnw:=Lib.hid hnw
   clear hnr hnw
   obtain ⟨wx,rfl⟩:∃ wx:World,wx=wc:=⟨_,rfl⟩
   have HS:=Lib.hid (show ∀ w':World,Below wx.heap.size wx w'→(Below wx.heap.size wx w'∧w'.cell? ⟨B,0,none⟩=some (.int .i64 ((x:Int)+1))∧w'.cell? ⟨b,o+x * 8,none⟩=some (.int .i64 (aC ts ((x:Int)+1)).kind) ∧
     (w'.cell? ⟨w2.heap.size,0,none⟩=some (.int .i64 k)∧w'.cell? ⟨w2.heap.size,1,none⟩=some (.slice pk (aI k).length (aI k).length)∧w'.cell? ⟨w2.heap.size,2,none⟩=some (.bool nr)∧w'.cell? ⟨w2.heap.size,3,none⟩=some (.bool nw)∧w'.cell? ⟨w2.heap.size,4,none⟩=some (.bool nr)∧w'.cell? ⟨w2.heap.size,5,none⟩=some (.bool nw))) from
    fun w' h=>by
     obtain ⟨hc',-⟩:=ax h
     exact ⟨h,(hc' _ _ hBx).trans q0,(hc' _ _ hbk2).trans d0,(hc' _ _ hzx).trans n0,(hc' _ _ hzx).trans n1,(hc' _ _ hzx).trans n2,(hc' _ _ hzx).trans n3,(hc' _ _ hzx).trans n4,(hc' _ _ hzx).trans n5⟩)
   go_upto_region 7 with (fail)
   go_cut [46] (fun s46 wy=>s46=.bool (!hk)∧Below wx.heap.size wx wy)
   case first=>
    go_region_held3 (fun w'=>Below wx.heap.size wx w'∧w'.cell? ⟨B,0,none⟩=some (.int .i64 ((x:Int)+1))∧w'.cell? ⟨b,o+x * 8,none⟩=some (.int .i64 (aC ts ((x:Int)+1)).kind) ∧
     (w'.cell? ⟨w2.heap.size,0,none⟩=some (.int .i64 k)∧w'.cell? ⟨w2.heap.size,1,none⟩=some (.slice pk (aI k).length (aI k).length)∧w'.cell? ⟨w2.heap.size,2,none⟩=some (.bool nr)∧w'.cell? ⟨w2.heap.size,3,none⟩=some (.bool nw)∧w'.cell? ⟨w2.heap.size,4,none⟩=some (.bool nr)∧w'.cell? ⟨w2.heap.size,5,none⟩=some (.bool nw)))
     (first|exact HS.out _ (Below.drew (Below.refl _ _))|(have hX:=And.left (by assumption:Below wx.heap.size wx _∧_);exact HS.out _ (hX.trans (hb3.mono hX.size))))
     (first|(go_at_call 146;refine (GV _ _ _ _ _ _ _ _ _ _ (hKx.pure (And.left (by assumption:Below wx.heap.size wx _∧_)))).mono ?_;rw [Hhk.out];rintro e w3 ⟨rfl,hb3⟩))
    all_goals (go_wp2;go_meet;exact ⟨rfl,And.left (by assumption:Below wx.heap.size wx _∧_)⟩)
   case rest=>
    obtain ⟨rfl,hBy⟩:=hcut
    obtain ⟨wy,rfl⟩:∃ wy:World,wy=wc:=⟨_,rfl⟩
    have hcy:=(ax hBy).1
    have hzw:w.heap.size<wx.heap.size:=World.block_lt_of_cell? wx _ k0
    rw [← hcy _ _ hBx] at q0 q1 q2 q3 q4
    rw [← hcy _ _ hzw] at k0 k1 k2 k3 k4
    rw [← hcy _ _ hzx] at n0 n1 n2 n3 n4 n5
    have hTy:TabAt wy (.slice (some ⟨b,o,none⟩) ts.length cap) ts:=hT.pure (hBw.trans (hBy.mono hBw.size))
    have hBwy:Below w.heap.size w wy:=hBw.trans (hBy.mono hBw.size)
    have hsy:=hBy.size
    have hsw:=hBwy.size
    have hBxy:B<wy.heap.size:=by omega
    have hzy:w2.heap.size<wy.heap.size:=by omega
    have hzwy:w.heap.size<wy.heap.size:=by omega
    clear hcy hKx hcx hfx HS hS2 hQ2 hT d0
    go_wp2_with (first
     | (go_at_call 88;refine (ru _ _ ts _ _ _ (hTy.pure (by (repeat (with_reducible first|exact bA _ _|refine bB ?_ ?_ _|refine bC ?_ _|refine bD ?_|refine bE ?_ ?_ _|refine bF ?_ (by assumption) ?_))<;>first|omega|(simp;try omega))) Hexr.out Hex.out).mono ?_;rw [Hse.out];rintro e w4 ⟨rfl,hb4⟩;obtain ⟨hc4,hf4⟩:=ax hb4;have hz4:B<w4.heap.size∧w2.heap.size<w4.heap.size∧w.heap.size<w4.heap.size:=(by have:=hb4.size;omega);obtain ⟨hz4a,hz4b,hz4c⟩:=hz4;have hy4:=hb4.size)
     | (go_at_call 147;refine (sM _ _ ts _ _ _ (hTy.pure (by (repeat (with_reducible first|exact bA _ _|refine bB ?_ ?_ _|refine bC ?_ _|refine bD ?_|refine bE ?_ ?_ _|refine bF ?_ (by assumption) ?_))<;>first|omega|(simp;try omega))) Hexr.out Hex.out).mono ?_;rw [Htu.out];rintro e w5 ⟨rfl,hb5⟩;obtain ⟨hc5,hf5⟩:=ax hb5;have hz5:B<w5.heap.size∧w2.heap.size<w5.heap.size∧w.heap.size<w5.heap.size:=(by have:=hb5.size;omega);obtain ⟨hz5a,hz5b,hz5c⟩:=hz5;have hy5:=hb5.size)
     | (go_at_call 87;refine (qA _ _ ts ⟨_,_,_,_,_⟩ _ (hTy.pure (by (repeat (with_reducible first|exact bA _ _|refine bB ?_ ?_ _|refine bC ?_ _|refine bD ?_|refine bE ?_ ?_ _|refine bF ?_ (by assumption) ?_))<;>first|omega|(simp;try omega)))).mono ?_;rw [Hli.out _ _ _];rintro e w6 ⟨rfl,hb6⟩;obtain ⟨hc6,hf6⟩:=ax hb6;have hy6:=hb6.size))
    all_goals
     go_ret
     refine ⟨_,rfl,?_,(by (repeat (with_reducible first|exact bA _ _|refine bB ?_ ?_ _|refine bC ?_ _|refine bD ?_|refine bE ?_ ?_ _|refine bF ?_ (by assumption) ?_))<;>first|omega|(simp;try omega))⟩
     rw [Hck.out]
     first
      | exact .inl ⟨by simp [chk, *],rfl⟩
      | (refine .inr ⟨by simp [chk, *],_,rfl,?_⟩;exact (World.cell?_alloc_at _ _ _ _ rfl).trans (by simp [chk, *]))
end Go.Proofs.YthhmolonhpaepaaGreatDoor
namespace Go.Proofs.YthhmolonhpaepaaGreatDoor
open Go.RowKit Drw
attribute [local go_sem] Lab.val Rgt.val Cal.val Thg.val
theorem zb {ts:List Thg} {c:Cal} (h:bP ts c=true):check ts c=aT ts c:=by simp [check,h]
set_option maxRecDepth 100000 in
set_option maxHeartbeats 1000000 in
theorem yY (p:Option Addr) (cap:Nat) (ts:List Thg) (c:Cal) (w:World) (hT:TabAt w (.slice p ts.length cap) ts) (oV:bP ts c=true) (h3:c.kind=3) :
  Calls Tryz.prog 90 #[.slice p ts.length cap,c.val] w fun e w'=>∃ v,e=.returned v∧KP w' v (aT ts c)∧Below w.heap.size w w':=by
 have hc:aT ts c=0:=by simp [aT,h3]
 rw [hc]
 have NI:=Lib.hid oV
 clear oV hc
 obtain ⟨k,r,a,b,n⟩:=c
 dsimp only at h3
 subst h3
 go_enter Tryz.func90,Tryz.ntmps90
 go_wp2_with (go_at_call 48;refine (dQ _ _ ts ⟨_,_,_,_,_⟩ _ (hT.pure (by (repeat (with_reducible first|exact bA _ _|refine bB ?_ ?_ _|refine bC ?_ _|refine bD ?_|refine bE ?_ ?_ _|refine bF ?_ (by assumption) ?_))<;>first|omega|(simp;try omega)))).mono ?_;rw [NI.out];rintro e w1 ⟨rfl,hb1⟩;obtain ⟨hc1,hf1⟩:=ax hb1;have hz0:w.heap.size<w1.heap.size:=(by have:=hb1.size;(try simp at this);omega))
 go_ret
 exact ⟨_,rfl,.inl ⟨rfl,rfl⟩,(by (repeat (with_reducible first|exact bA _ _|refine bB ?_ ?_ _|refine bC ?_ _|refine bD ?_|refine bE ?_ ?_ _|refine bF ?_ (by assumption) ?_))<;>first|omega|(simp;try omega))⟩
theorem yZ (p:Option Addr) (cap:Nat) (ts:List Thg) (c:Cal) (w:World) (hT:TabAt w (.slice p ts.length cap) ts) :
  Calls Tryz.prog 90 #[.slice p ts.length cap,c.val] w fun e w'=>∃ v,e=.returned v∧KP w' v (check ts c)∧Below w.heap.size w w':=by
 cases h:bP ts c with
 | false=>exact Eb p cap ts c w hT h
 | true=>
  rw [zb h]
  by_cases h3:c.kind=3
  ·exact yY p cap ts c w hT h h3
  ·exact AQ p cap ts c w hT h h3
set_option maxRecDepth 100000 in
set_option maxHeartbeats 1000000 in
theorem A7 (p:Option Addr) (cap:Nat) (ts:List Thg) (c:Cal) (w:World) (hL:Laid w) (hT:TabAt w (.slice p ts.length cap) ts) :
  Calls Tryz.prog 51 #[.slice p ts.length cap,c.val] w fun e w'=>e=.returned (.int .i64 (check ts c))∧Below w.heap.size w w':=by
 obtain ⟨cc,hcc⟩:∃ cc,check ts c=cc:=⟨_,rfl⟩
 rw [hcc]
 have Hcc:=Lib.hid hcc
 clear hcc
 have hL1:=hL.size
 obtain ⟨k,r,a,b,n⟩:=c
 by_cases h0:cc=0
 ·subst h0
  go_enter Tryz.func51,Tryz.ntmps51
  go_wp2_with (first
   | (go_at_call 90;refine (yZ _ _ ts ⟨_,_,_,_,_⟩ _ (hT.pure (by (repeat (with_reducible first|exact bA _ _|refine bB ?_ ?_ _|refine bC ?_ _|refine bD ?_|refine bE ?_ ?_ _|refine bF ?_ (by assumption) ?_))<;>first|omega|(simp;try omega)))).mono ?_;rw [Hcc.out];rintro e w1 ⟨v,rfl,hE,hb1⟩;obtain rfl:v=.nilIface:=(hE.resolve_right (fun h=>h.1 rfl)).2)
   | (go_at_call 89;refine (as_nil _ _).mono ?_;rintro e w' ⟨rfl,rfl⟩))
  go_ret
  exact ⟨rfl,(by (repeat (with_reducible first|exact bA _ _|refine bB ?_ ?_ _|refine bC ?_ _|refine bD ?_|refine bE ?_ ?_ _|refine bF ?_ (by assumption) ?_))<;>first|omega|(simp;try omega))⟩
 ·have H0:=Lib.hid h0
  clear h0
  go_enter Tryz.func51,Tryz.ntmps51
  go_wp2_with (first
   | (go_at_call 90;refine (yZ _ _ ts ⟨_,_,_,_,_⟩ _ (hT.pure (by (repeat (with_reducible first|exact bA _ _|refine bB ?_ ?_ _|refine bC ?_ _|refine bD ?_|refine bE ?_ ?_ _|refine bF ?_ (by assumption) ?_))<;>first|omega|(simp;try omega)))).mono ?_;rw [Hcc.out];rintro e w1 ⟨v,rfl,hE,hb1⟩;obtain ⟨-,eb,rfl,hec⟩:=hE.resolve_left (fun h=>H0.out h.1);obtain ⟨hc1,hf1⟩:=ax hb1;have hz1:w.heap.size+1<w1.heap.size:=(by have:=hb1.size;(try simp at this);omega);have hzb:=World.block_lt_of_cell? w1 _ hec)
   | (go_at_call 89;refine (Nu ⟨eb,0,none⟩ ⟨w.heap.size+1,0,none⟩ (.pointer none) _ ((hL.pure (by (repeat (with_reducible first|exact bA _ _|refine bB ?_ ?_ _|refine bC ?_ _|refine bD ?_|refine bE ?_ ?_ _|refine bF ?_ (by assumption) ?_))<;>first|omega|(simp;try omega)))) (by rw [hc1 _ _ (by simp)];simp [go_sem]) (by rw [hf1 _ _ (by simp)];simp [go_sem])).mono ?_;rintro e w2 ⟨rfl,ht2,hb2,hg2⟩;have he2:=hg2.cell hec (by intro e;have e1:eb=w.heap.size+1:=e;rw [e1,hc1 _ _ (by simp)] at hec;simp [go_sem] at hec)))
  go_ret
  exact ⟨rfl,(by (repeat (with_reducible first|exact bA _ _|refine bB ?_ ?_ _|refine bC ?_ _|refine bD ?_|refine bE ?_ ?_ _|refine bF ?_ (by assumption) ?_))<;>first|omega|(simp;try omega))⟩
end Go.Proofs.YthhmolonhpaepaaGreatDoor
namespace Go.Proofs.YthhmolonhpaepaaGreatDoor
open Go.RowKit Drw
attribute [local go_sem] Lab.val Rgt.val Cal.val Thg.val
set_option maxHeartbeats 400000 in
theorem jE (A T o n cap j:Nat) (w:World) (h0:w.cell? ⟨A,0,none⟩=some (.slice (some ⟨T,o,none⟩) n cap)) (h2:w.cell? ⟨A,2,none⟩=some (.int .i64 ((j:Int)+1))) (hj:j<n) (hn:n≤65536) :
  Calls Tryz.prog 52 #[.pointer (some ⟨A,0,none⟩)] w fun e w'=>e=.returned (.pointer (some ⟨T,o+j * 8,none⟩))∧∃ m,w'=w.drewN m:=by
 have hw1:IntKind.i64.wrap ((j:Int)+1 - 1)=(j:Int):=by rw [show (j:Int)+1 - 1=j by omega];exact IntWalk.i64_in _ (by omega)
 have hw2:IntKind.i64.wrap (j:Int)=(j:Int):=IntWalk.i64_in _ (by omega)
 have hj0:(0:Int)≤(j:Int):=by omega
 have hjl:(j:Int)<(n:Int):=by omega
 go_enter Tryz.func52,Tryz.ntmps52
 go_wp2
 go_quiet (fail)
 go_wp2
 go_ret
 exact ⟨rfl,_,rfl⟩
set_option maxHeartbeats 400000 in
theorem eB (A T o n cap j:Nat) (w:World) (h0:w.cell? ⟨A,0,none⟩=some (.slice (some ⟨T,o,none⟩) n cap)) (h2:w.cell? ⟨A,6,none⟩=some (.int .i64 ((j:Int)+1))) (hj:j<n) (hn:n≤65536) :
  Calls Tryz.prog 158 #[.pointer (some ⟨A,0,none⟩)] w fun e w'=>e=.returned (.pointer (some ⟨T,o+j * 8,none⟩))∧∃ m,w'=w.drewN m:=by
 have hw1:IntKind.i64.wrap ((j:Int)+1 - 1)=(j:Int):=by rw [show (j:Int)+1 - 1=j by omega];exact IntWalk.i64_in _ (by omega)
 have hw2:IntKind.i64.wrap (j:Int)=(j:Int):=IntWalk.i64_in _ (by omega)
 have hj0:(0:Int)≤(j:Int):=by omega
 have hjl:(j:Int)<(n:Int):=by omega
 go_enter Tryz.func158,Tryz.ntmps158
 go_wp2
 go_quiet (fail)
 go_wp2
 go_ret
 exact ⟨rfl,_,rfl⟩
set_option maxRecDepth 100000 in
set_option maxHeartbeats 1000000 in
theorem step1 (w:World):Calls Tryz.prog 86 #[.int .i64 1] w fun e w'=>e=.returned (.func (.func 132) #[] #[])∧Below w.heap.size w w':=by
 go_enter Tryz.func86,Tryz.ntmps86
 go_wp2
 go_ret
 exact ⟨rfl,(by (repeat (with_reducible first|exact bA _ _|refine bB ?_ ?_ _|refine bC ?_ _|refine bD ?_|refine bE ?_ ?_ _|refine bF ?_ (by assumption) ?_))<;>first|omega|(simp;try omega))⟩
set_option maxRecDepth 100000 in
set_option maxHeartbeats 1000000 in
theorem step2 (w:World):Calls Tryz.prog 86 #[.int .i64 2] w fun e w'=>e=.returned (.func (.func 133) #[] #[])∧Below w.heap.size w w':=by
 go_enter Tryz.func86,Tryz.ntmps86
 go_wp2
 go_ret
 exact ⟨rfl,(by (repeat (with_reducible first|exact bA _ _|refine bB ?_ ?_ _|refine bC ?_ _|refine bD ?_|refine bE ?_ ?_ _|refine bF ?_ (by assumption) ?_))<;>first|omega|(simp;try omega))⟩
set_option maxRecDepth 100000 in
set_option maxHeartbeats 1000000 in
theorem step3 (w:World):Calls Tryz.prog 86 #[.int .i64 3] w fun e w'=>e=.returned (.func (.func 134) #[] #[])∧Below w.heap.size w w':=by
 go_enter Tryz.func86,Tryz.ntmps86
 go_wp2
 go_ret
 exact ⟨rfl,(by (repeat (with_reducible first|exact bA _ _|refine bB ?_ ?_ _|refine bC ?_ _|refine bD ?_|refine bE ?_ ?_ _|refine bF ?_ (by assumption) ?_))<;>first|omega|(simp;try omega))⟩
set_option maxRecDepth 100000 in
set_option maxHeartbeats 1000000 in
theorem step4 (w:World):Calls Tryz.prog 86 #[.int .i64 4] w fun e w'=>e=.returned (.func (.func 135) #[] #[])∧Below w.heap.size w w':=by
 go_enter Tryz.func86,Tryz.ntmps86
 go_wp2
 go_ret
 exact ⟨rfl,(by (repeat (with_reducible first|exact bA _ _|refine bB ?_ ?_ _|refine bC ?_ _|refine bD ?_|refine bE ?_ ?_ _|refine bF ?_ (by assumption) ?_))<;>first|omega|(simp;try omega))⟩
set_option maxRecDepth 100000 in
set_option maxHeartbeats 1000000 in
theorem step5 (w:World):Calls Tryz.prog 86 #[.int .i64 5] w fun e w'=>e=.returned (.func (.func 136) #[] #[])∧Below w.heap.size w w':=by
 go_enter Tryz.func86,Tryz.ntmps86
 go_wp2
 go_ret
 exact ⟨rfl,(by (repeat (with_reducible first|exact bA _ _|refine bB ?_ ?_ _|refine bC ?_ _|refine bD ?_|refine bE ?_ ?_ _|refine bF ?_ (by assumption) ?_))<;>first|omega|(simp;try omega))⟩
set_option maxRecDepth 100000 in
set_option maxHeartbeats 1000000 in
theorem step6 (w:World):Calls Tryz.prog 86 #[.int .i64 6] w fun e w'=>e=.returned (.func (.func 137) #[] #[])∧Below w.heap.size w w':=by
 go_enter Tryz.func86,Tryz.ntmps86
 go_wp2
 go_ret
 exact ⟨rfl,(by (repeat (with_reducible first|exact bA _ _|refine bB ?_ ?_ _|refine bC ?_ _|refine bD ?_|refine bE ?_ ?_ _|refine bF ?_ (by assumption) ?_))<;>first|omega|(simp;try omega))⟩
set_option maxRecDepth 100000 in
set_option maxHeartbeats 1000000 in
theorem step7 (w:World):Calls Tryz.prog 86 #[.int .i64 7] w fun e w'=>e=.returned (.func (.func 138) #[] #[])∧Below w.heap.size w w':=by
 go_enter Tryz.func86,Tryz.ntmps86
 go_wp2
 go_ret
 exact ⟨rfl,(by (repeat (with_reducible first|exact bA _ _|refine bB ?_ ?_ _|refine bC ?_ _|refine bD ?_|refine bE ?_ ?_ _|refine bF ?_ (by assumption) ?_))<;>first|omega|(simp;try omega))⟩
set_option maxRecDepth 100000 in
set_option maxHeartbeats 1000000 in
theorem step8 (w:World):Calls Tryz.prog 86 #[.int .i64 8] w fun e w'=>e=.returned (.func (.func 139) #[] #[])∧Below w.heap.size w w':=by
 go_enter Tryz.func86,Tryz.ntmps86
 go_wp2
 go_ret
 exact ⟨rfl,(by (repeat (with_reducible first|exact bA _ _|refine bB ?_ ?_ _|refine bC ?_ _|refine bD ?_|refine bE ?_ ?_ _|refine bF ?_ (by assumption) ?_))<;>first|omega|(simp;try omega))⟩
set_option maxRecDepth 100000 in
set_option maxHeartbeats 1000000 in
theorem step9 (w:World):Calls Tryz.prog 86 #[.int .i64 9] w fun e w'=>e=.returned (.func (.func 140) #[] #[])∧Below w.heap.size w w':=by
 go_enter Tryz.func86,Tryz.ntmps86
 go_wp2
 go_ret
 exact ⟨rfl,(by (repeat (with_reducible first|exact bA _ _|refine bB ?_ ?_ _|refine bC ?_ _|refine bD ?_|refine bE ?_ ?_ _|refine bF ?_ (by assumption) ?_))<;>first|omega|(simp;try omega))⟩
end Go.Proofs.YthhmolonhpaepaaGreatDoor
