/- impl.copyList, copyThing, copyTable: a table anew, in memory of its own. Conditions: the table lies where its cells say; its rows are short. -/
import Derived.Test.YthhmolonhpaepaaGreatDoorChecked
import Derived.Test.YthhmolonhpaepaaGreatDoorVAct
import Derived.WalkLawsBesides
import Derived.LoopTactic
import Derived.Laws.MakeOwn
set_option linter.unusedVariables false
set_option linter.unusedSimpArgs false
namespace Go.Proofs.YthhmolonhpaepaaGreatDoor
open Go.RowKit Drw
attribute [local go_sem] Lab.val Rgt.val Cal.val Thg.val
theorem BK:(Tryz.prog.info? 69).map (fun i=>(i.zero,i.size,i.bytes))=some (some (.agg #[.int .i64 0,.int .i64 0,.bool false,.bool false,.bool false]),5,24):=by kernel_rfl
theorem jb:(Tryz.prog.info? 3).map (fun i=>(i.zero,i.size,i.bytes))=some (some (.int .i64 0),1,8):=by kernel_rfl
set_option maxHeartbeats 400000 in
theorem uL (v:Value) (rs:List Rgt) (w:World) (h:aF w v rs) (hl:rs.length≤65536) :
  Calls Tryz.prog 130 #[v] w fun e w'=>∃ v',e=.returned v'∧aF w' v' rs∧dJ w' w.heap.size v'∧Below w.heap.size w w':=by
 obtain ⟨i0,hi,hz0,hz1,hz2⟩:=info_parts BK
 go_enter Tryz.func130,Tryz.ntmps130
 go_wp2_with (at_builtin;refine aL rfl _ _ 29 rfl w.heap.size 69 i0 _ 5 24 Tryz.underlying29 hi hz0 hz1 hz2 rfl (by decide) (.slice none 0 0) 0 [] rfl (World.ownsRow_nil _ _ _ _) v (rs.map Rgt.cells) rfl (jO rs) h ?c1 ?c2 ?c3 ?_)
 case c1=>simp only [List.length_map,maxLen];omega
 case c2=>simp only [List.length_map];omega
 case c3=>exact Nat.le_refl _
 intro v' w' ho hg
 go_wp2
 go_ret
 replace ho:=(by simpa using ho:w'.ownsRow w.heap.size _ _ v' (rs.map Rgt.cells).length (rs.map Rgt.cells).flatten)
 exact ⟨v',rfl,Rows.dH (jO rs) ho,Held.dH ho (fun b hb=>⟨(ho.lt b hb).1,rfl⟩),⟨hg.os,hg.tape,hg.output,hg.size,fun k hk=>hg.block k hk (by simp [Value.ownBlock])⟩⟩
set_option maxHeartbeats 400000 in
theorem Ed (v:Value) (rs:List Int) (w:World) (h:aG w v rs) (hl:rs.length≤65536) :
  Calls Tryz.prog 131 #[v] w fun e w'=>∃ v',e=.returned v'∧aG w' v' rs∧dJ w' w.heap.size v'∧Below w.heap.size w w':=by
 obtain ⟨i0,hi,hz0,hz1,hz2⟩:=info_parts jb
 go_enter Tryz.func131,Tryz.ntmps131
 go_wp2_with (at_builtin;refine aL rfl _ _ 30 rfl w.heap.size 3 i0 _ 1 8 Tryz.underlying30 hi hz0 hz1 hz2 rfl (by decide) (.slice none 0 0) 0 [] rfl (World.ownsRow_nil _ _ _ _) v (rs.map intCells) rfl (bI rs) h ?c1 ?c2 ?c3 ?_)
 case c1=>simp only [List.length_map,maxLen];omega
 case c2=>simp only [List.length_map];omega
 case c3=>exact Nat.le_refl _
 intro v' w' ho hg
 go_wp2
 go_ret
 replace ho:=(by simpa using ho:w'.ownsRow w.heap.size _ _ v' (rs.map intCells).length (rs.map intCells).flatten)
 exact ⟨v',rfl,Rows.dH (bI rs) ho,Held.dH ho (fun b hb=>⟨(ho.lt b hb).1,rfl⟩),⟨hg.os,hg.tape,hg.output,hg.size,fun k hk=>hg.block k hk (by simp [Value.ownBlock])⟩⟩
set_option maxRecDepth 100000 in
set_option maxHeartbeats 1000000 in
theorem rO (t:Thg) (sv qv:Value) (w:World) (hs:aF w sv t.slots) (hq:aG w qv t.queue) (h1:t.slots.length≤65536) (h2:t.queue.length≤65536) :
  Calls Tryz.prog 85 #[t.val sv qv] w fun e w'=>∃ sv' qv',e=.returned (t.val sv' qv')∧aF w' sv' t.slots∧aG w' qv' t.queue∧dJ w' w.heap.size sv'∧dJ w' w.heap.size qv' ∧
   (∀ b c,sv'.ownBlock=some b→qv'.ownBlock=some c→0<t.slots.length→0<t.queue.length→b≠c)∧Below w.heap.size w w':=by
 obtain ⟨k,⟨s,v⟩,ve,nu,sl,qu,tg⟩:=t
 dsimp only [Thg.val] at hs hq h1 h2 ⊢
 go_enter Tryz.func85,Tryz.ntmps85
 go_wp2_with (first
  | (go_at_call 130;refine (uL _ sl _ (hs.pure (by (repeat (with_reducible first|exact bA _ _|refine bB ?_ ?_ _|refine bC ?_ _|refine bD ?_|refine bE ?_ ?_ _|refine bF ?_ (by assumption) ?_))<;>first|omega|(simp;try omega))) h1).mono ?_;rintro e w1 ⟨sv',rfl,hS,hH,hb1⟩;obtain ⟨sp,fE,rfl,hsl1,hsl2⟩:=hS.len;obtain ⟨hc1,hf1⟩:=ax hb1;have d5:=World.cell?_setCell_same' w1 ⟨w.heap.size,5,none⟩ (.slice sp sl.length fE) (by rw [hc1 _ _ (by simp<;>omega)];simp [go_sem]);have hz1:w.heap.size+1<w1.heap.size:=(by have:=hb1.size;(try simp at this);omega);have hz2:w.heap.size<w1.heap.size:=(by omega))
  | (go_at_call 131;refine (Ed _ qu _ (hq.pure (by (repeat (with_reducible first|exact bA _ _|refine bB ?_ ?_ _|refine bC ?_ _|refine bD ?_|refine bE ?_ ?_ _|refine bF ?_ (by assumption) ?_))<;>first|omega|(simp;try omega))) h2).mono ?_;rintro e w2 ⟨qv',rfl,hQ,hH2,hb2⟩;obtain ⟨qp,j4,rfl,hql1,hql2⟩:=hQ.len;obtain ⟨hc2,hf2⟩:=ax hb2;have d6:=World.cell?_setCell_same' w2 ⟨w.heap.size,6,none⟩ (.slice qp qu.length j4) (by rw [hc2 _ _ (by simp;omega),World.cell?_setCell_other _ _ _ _ (by simp),hc1 _ _ (by simp<;>omega)];simp [go_sem]);have hz3:w.heap.size+1<w2.heap.size:=(by have:=hb2.size;(try simp at this);omega);have hz4:w.heap.size<w2.heap.size:=(by omega)))
 have zo:Chg (fun b=>b≤w.heap.size+1) w1 w2:=(Chg.setCell (Chg.refl _ w1) (by simp) _).trans (Chg.ah hb2)
 have hsz1:w.heap.size+2≤w1.heap.size:=by have:=hb1.size;simp at this;omega
 have hsz2:w1.heap.size≤w2.heap.size:=zo.size
 have hHs:dJ w1 (w.heap.size+2) (.slice sp sl.length fE):=hH.retag (fun b _ h _=>⟨by simpa using h,rfl⟩)
 have hHq:dJ w2 w1.heap.size (.slice qp qu.length j4):=hH2.retag (fun b _ h _=>⟨by simpa [World.setCell] using h,rfl⟩)
 have hS2:aF w2 (.slice sp sl.length fE) sl:=Rows.held hS hHs zo (fun b _ h _=>by omega)
 have hHs2:=hHs.chg zo (fun b _ h _=>by omega)
 refine bodyPost_ret (v:=.agg #[.int .i64 k,.int .i64 s,.int .i64 v,.int .i64 ve,.int .i64 nu,.slice sp sl.length fE,.slice qp qu.length j4,.int .i64 tg]) ?_ rfl ⟨_,_,rfl,?_,?_,?_,?_,?_,?_⟩
 ·simp [results,Tryz.results85,go_sem, *]
 ·exact Rows.held hS2 hHs2 (S:=fun b=>b≤w.heap.size+1) (by (repeat (with_reducible first|exact Chg.refl _ _|refine Chg.alloc ?_ _|refine Chg.drew ?_|refine Chg.drewN ?_ _|refine Chg.setCell ?_ ?_ _|refine Chg.trans ?_ (Chg.ah (by assumption))))<;>(first|omega|(simp;done)|(simp;omega))) (fun b _ h _=>by omega)
 ·exact Rows.held hQ hHq (S:=fun b=>b≤w.heap.size+1) (by (repeat (with_reducible first|exact Chg.refl _ _|refine Chg.alloc ?_ _|refine Chg.drew ?_|refine Chg.drewN ?_ _|refine Chg.setCell ?_ ?_ _|refine Chg.trans ?_ (Chg.ah (by assumption))))<;>(first|omega|(simp;done)|(simp;omega))) (fun b _ h _=>by omega)
 ·exact (hHs2.chg (S:=fun b=>b≤w.heap.size+1) (by (repeat (with_reducible first|exact Chg.refl _ _|refine Chg.alloc ?_ _|refine Chg.drew ?_|refine Chg.drewN ?_ _|refine Chg.setCell ?_ ?_ _|refine Chg.trans ?_ (Chg.ah (by assumption))))<;>(first|omega|(simp;done)|(simp;omega))) (fun b _ h _=>by omega)).retag (fun b _ h _=>⟨by omega,rfl⟩)
 ·exact (hHq.chg (S:=fun b=>b≤w.heap.size+1) (by (repeat (with_reducible first|exact Chg.refl _ _|refine Chg.alloc ?_ _|refine Chg.drew ?_|refine Chg.drewN ?_ _|refine Chg.setCell ?_ ?_ _|refine Chg.trans ?_ (Chg.ah (by assumption))))<;>(first|omega|(simp;done)|(simp;omega))) (fun b _ h _=>by omega)).retag (fun b _ h _=>⟨by omega,rfl⟩)
 ·intro b c hb hc hlb hlc e
  subst e
  have q1:=Held.blk hHs hS (by simpa using hlb) hb
  have q2:=Held.blk hHq hQ (by simpa using hlc) hc
  omega
 ·exact (by (repeat (with_reducible first|exact bA _ _|refine bB ?_ ?_ _|refine bC ?_ _|refine bD ?_|refine bE ?_ ?_ _|refine bF ?_ (by assumption) ?_))<;>first|omega|(simp;try omega))
theorem wh:(Tryz.prog.info? 32).map (fun i=>(i.zero,i.size,i.bytes))=some (some (.agg #[.int .i64 0,.int .i64 0,.int .i64 0,.int .i64 0,.int .i64 0,.slice none 0 0,.slice none 0 0,.int .i64 0]),8,96):=by kernel_rfl
theorem BB (n:Nat) (hn:n≤65536) (w:World):(Instr.makeSlice 23 (.int .i64 (n:Int)) (.int .i64 (n:Int))).run Tryz.prog w=.ok (.slice (some ⟨w.heap.size,0,none⟩) n n) (w.alloc (.cells (madeCells (Value.agg #[.int .i64 0,.int .i64 0,.int .i64 0,.int .i64 0,.int .i64 0,.slice none 0 0,.slice none 0 0,.int .i64 0]).cells (n * 8)) 32)):=by
 obtain ⟨i0,hi,hz0,hz1,hz2⟩:=info_parts wh
 have:=run_make (P:=Tryz.prog) w 23 32 i0 _ Tryz.underlying23 hi hz0 .i64 .i64 (n:Int) (n:Int) (by omega) (by omega) (by rw [hz2];omega) (by omega)
 rw [hz1] at this
 simpa using this
def Es (ts:List Thg):Prop:=∀ t∈ts,t.slots.length≤65536∧t.queue.length≤65536
theorem nZ {ts:List Thg} (h:aU ts=true):Es ts:=fun t ht=>by
 obtain ⟨i,hi,rfl⟩:=vV ht
 have ho:=bW h hi
 have hq:=(iU ho).1
 refine ⟨?_,by omega⟩
 by_cases hk:(aC ts i).kind=2∨(aC ts i).kind=3
 ·rw [gz ho hk];omega
 ·rw [Cz ho hk];simp
set_option maxRecDepth 100000 in
set_option maxHeartbeats 2000000 in
theorem AZ (p:Option Addr) (cap:Nat) (ts:List Thg) (w:World) (hT:TabAt w (.slice p ts.length cap) ts) (hn:ts.length≤65536) (hS:Es ts) :
  Calls Tryz.prog 49 #[.slice p ts.length cap] w fun e w'=>∃ v xs tag,e=.returned v∧au w' (fun b=>w.heap.size≤b) tag v xs∧xs.map (·.1)=ts∧Below w.heap.size w w':=by
 obtain ⟨_,_,h1,hl1,hl2⟩:=hT.len
 cases h1
 unfold maxLen at hl2
 have hmk:=BB ts.length hn
 have HS:=Lib.hid hS
 clear hS
 go_enter Tryz.func49,Tryz.ntmps49
 go_wp2
 go_loopw [11] (fun i wr=>∃ j:Nat,j≤ts.length∧i=.int .i64 j∧Below w.heap.size w wr∧w.heap.size<wr.heap.size∧fT (fun b=>w.heap.size≤b) (.slice (some ⟨w.heap.size,0,none⟩) ts.length ts.length) ts j wr) (fun i _=>ts.length - (intOf i).toNat)
 case atStart=>
  exact ⟨0,Nat.zero_le _,rfl,(by (repeat (with_reducible first|exact bA _ _|refine bB ?_ ?_ _|refine bC ?_ _|refine bD ?_|refine bE ?_ ?_ _|refine bF ?_ (by assumption) ?_))<;>first|omega|(simp;try omega)),by simp,fT.zero (J3 w ts.length 32 (by unfold maxLen;omega) (z:=.agg #[.int .i64 0,.int .i64 0,.int .i64 0,.int .i64 0,.int .i64 0,.slice none 0 0,.slice none 0 0,.int .i64 0]) rfl)⟩
 case round=>
  obtain ⟨j,hj,rfl,hB,hz,hI⟩:=hrel
  by_cases hlt:j<ts.length
  ·obtain ⟨t,ht⟩:∃ t,ts[j]?=some t:=⟨ts[j],by simp [hlt]⟩
   obtain ⟨b,o,sv,qv,rfl,hbk,hS,hQ,c0,c1,c2,c3,c4,c5,c6,c7⟩:=(hT.pure hB).at j t ht
   have Ht:=Lib.hid ht
   have hm:=HS.out t (List.mem_of_getElem? ht)
   clear ht
   obtain ⟨_,_,rfl,-,-⟩:=hS.len
   obtain ⟨_,_,rfl,-,-⟩:=hQ.len
   obtain ⟨hms,hmq⟩:=hm
   obtain ⟨⟨x0,x1,x2,x3,x4,x5,x6,x7,g0,g1,g2,g3,g4,g5,g6,g7⟩,hfz⟩:=hI.row hlt
   go_wp2_with (go_at_call 85;refine (rO ⟨t.kind,⟨t.lab.s,t.lab.v⟩,t.aJ,t.num,t.slots,t.queue,t.to⟩ _ _ _ (hS.pure (by (repeat (with_reducible first|exact bA _ _|refine bB ?_ ?_ _|refine bC ?_ _|refine bD ?_|refine bE ?_ ?_ _|refine bF ?_ (by assumption) ?_))<;>first|omega|(simp;try omega))) (hQ.pure (by (repeat (with_reducible first|exact bA _ _|refine bB ?_ ?_ _|refine bC ?_ _|refine bD ?_|refine bE ?_ ?_ _|refine bF ?_ (by assumption) ?_))<;>first|omega|(simp;try omega))) hms hmq).mono ?_;rintro e w1 ⟨sv',qv',rfl,hS',hQ',hh1,hh2,hd,hb1⟩;obtain ⟨_,_,rfl,-,-⟩:=hS'.len;obtain ⟨_,_,rfl,-,-⟩:=hQ'.len;obtain ⟨hc1,hf1⟩:=ax hb1)
   have hszr:wr.heap.size<w1.heap.size:=by have:=hb1.size;simp at this;omega
   have hgg:∀ o,w1.cell? ⟨w.heap.size,o,none⟩=wr.cell? ⟨w.heap.size,o,none⟩:=fun o=>(hc1 _ _ (by simp;omega)).trans (World.cell?_alloc_past _ _ _ hz)
   have hBr:Below wr.heap.size wr w1:=((Below.refl _ _).alloc (Nat.le_refl _) _).trans (hb1.mono (by simp))
   have hr1:=hh1.retag (Q:=fun b=>wr.heap.size≤b) (tag':=fun _=>0) (m':=0) (fun b _ h _=>⟨by simp at h;omega,rfl⟩)
   have hr2:=hh2.retag (Q:=fun b=>wr.heap.size≤b) (tag':=fun _=>0) (m':=0) (fun b _ h _=>⟨by simp at h;omega,rfl⟩)
   go_roundw
   case rel=>
    refine ⟨j+1,by omega,by go_num,(by (repeat (with_reducible first|exact bA _ _|refine bB ?_ ?_ _|refine bC ?_ _|refine bD ?_|refine bE ?_ ?_ _|refine bF ?_ (by assumption) ?_))<;>first|omega|(simp;try omega)),by simp [World.setCell];omega,?_⟩
    refine fT.step hI Ht.out hBr (by omega) hS' hQ' hr1 hr2 hd ?_ ?_ ?_ ?_
    ·exact (by (repeat (with_reducible first|exact Chg.refl _ _|refine Chg.alloc ?_ _|refine Chg.drew ?_|refine Chg.drewN ?_ _|refine Chg.setCell ?_ ?_ _|refine Chg.trans ?_ (Chg.ah (by assumption))))<;>(first|omega|(simp;done)|(simp;omega)))
    ·intro o;simp [go_sem]
    ·intro i u hu
     rcases i with _|_|_|_|_|_|_|_|i
     all_goals (simp [Thg.cells] at hu)
     all_goals (try subst hu)
     all_goals (simp [ag,g0,g1,g2,g3,g4,g5,g6,g7,hgg];done)
    ·intro off hoff
     repeat (rw [ag,if_neg (by intro e;simp only [Addr.mk.injEq] at e;omega)])
   case measure=>simp [intOf];omega
  ·have e:j=ts.length:=by omega
   subst e
   obtain ⟨xs,tag,hO,hxs⟩:=hI.done
   go_wp2
   go_ret
   exact ⟨_,xs,tag,rfl,hO,hxs,hB⟩
end Go.Proofs.YthhmolonhpaepaaGreatDoor
namespace Go.Proofs.YthhmolonhpaepaaGreatDoor
open Go.RowKit Drw
attribute [local go_sem] Lab.val Rgt.val Cal.val Thg.val
theorem ny {w:World} {B e s:Nat} (k:Nat) (hk:w.heap.size=k) (hB:B≤k):(w.alloc (.cells #[] e)).ownsRow B e s (.slice (some ⟨k,0,none⟩) 0 0) 0 []:=by
 subst hk
 exact World.ownsRow_made w #[] 0 hB (by simp [maxLen]) (by simp)
set_option maxRecDepth 100000 in
set_option maxHeartbeats 4000000 in
theorem J6 (p:Option Addr) (cap:Nat) (ts:List Thg) (w:World) (hT:TabAt w (.slice p ts.length cap) ts) (hn:ts.length≤65536) (hS:Es ts) :
  Calls Tryz.prog 35 #[.slice p ts.length cap] w fun e w'=>∃ v xs tag,e=.returned v∧au w' (fun b=>w.heap.size≤b) tag v xs∧xs.map (·.1)=ts∧Below w.heap.size w w':=by
 obtain ⟨_,_,h1,hl1,hl2⟩:=hT.len
 cases h1
 unfold maxLen at hl2
 obtain ⟨i0,hi,hz0,hz1,hz2⟩:=info_parts BK
 obtain ⟨i1,hi1,hy0,hy1,hy2⟩:=info_parts jb
 obtain ⟨i2,hi2,hx0,hx1,hx2⟩:=info_parts wh
 have HS:=Lib.hid hS
 clear hS
 go_enter Tryz.func35,Tryz.ntmps35
 go_wp2
 go_loopw [3,4] (fun v i wr=>∃ j:Nat,j≤ts.length∧i=.int .i64 j∧Below w.heap.size w wr∧(∃ q c,v=.slice q j c)∧jR w.heap.size 32 69 3 v ts j wr) (fun _ i _=>ts.length - (intOf i).toNat)
 case atStart=>exact ⟨0,Nat.zero_le _,rfl,(by (repeat (with_reducible first|exact bA _ _|refine bB ?_ ?_ _|refine bC ?_ _|refine bD ?_|refine bE ?_ ?_ _|refine bF ?_ (by assumption) ?_))<;>first|omega|(simp;try omega)),⟨_,_,rfl⟩,jR.zero (ny _ rfl (Nat.le_refl _))⟩
 case round=>
  obtain ⟨j,hj,rfl,hB,⟨vq,vc,rfl⟩,hI⟩:=hrel
  by_cases hlt:j<ts.length
  ·obtain ⟨t,ht⟩:∃ t,ts[j]?=some t:=⟨ts[j],by simp [hlt]⟩
   obtain ⟨b,o,sv,qv,rfl,hbk,hS,hQ,c0,c1,c2,c3,c4,c5,c6,c7⟩:=(hT.pure hB).at j t ht
   have Ht:=Lib.hid ht
   have hm:=HS.out t (List.mem_of_getElem? ht)
   clear ht
   obtain ⟨_,_,rfl,-,-⟩:=hS.len
   obtain ⟨_,_,rfl,-,-⟩:=hQ.len
   obtain ⟨hms,hmq⟩:=hm
   have hszB:=hB.size
   obtain ⟨xs0,tag0,he1,he2,he3⟩:=hI
   have Hxs:=Lib.hid he1
   have NJ:=Lib.hid he3
   clear he1 he3
   go_wp2_with (first
    | (at_builtin;refine aL rfl (.tmp 17) (.tmp 19) 29 rfl (wr.heap.size+1) 69 i0 _ 5 24 Tryz.underlying29 hi hz0 hz1 hz2 rfl (by decide) (.slice (some ⟨wr.heap.size+1,0,none⟩) 0 0) 0 [] rfl (ny (wr.heap.size+1) (by simp) (by omega)) _ (t.slots.map Rgt.cells) rfl (jO _) (Rows.pure hS (by (repeat (with_reducible first|exact bA _ _|refine bB ?_ ?_ _|refine bC ?_ _|refine bD ?_|refine bE ?_ ?_ _|refine bF ?_ (by assumption) ?_))<;>first|omega|(simp;try omega))) (by simp [maxLen]<;>omega) (by simp<;>omega) (by simp<;>omega) ?_;intro v1 w1 ho1 hg1;obtain ⟨q1,n1,k1,rfl⟩:=gI ho1;have hc1:=(fun o=>World.cell?_of_block (a:=⟨wr.heap.size,o,none⟩) (hg1.block wr.heap.size (by simp<;>omega) (by simp [Value.ownBlock]<;>omega)));have hf1:=(fun o=>World.frozen?_of_block (a:=⟨wr.heap.size,o,none⟩) (hg1.block wr.heap.size (by simp<;>omega) (by simp [Value.ownBlock]<;>omega)));have hb1:Below wr.heap.size wr w1:=(((Below.refl _ wr).alloc (Nat.le_refl _) _).alloc (by simp) _).grown hg1 (by simp<;>omega) (fun k hk=>by simp [Value.ownBlock] at hk;omega);have hs1:wr.heap.size+2≤w1.heap.size:=(by have:=hg1.size;simpa using this);have hs1b:wr.heap.size<w1.heap.size:=(by omega);have hs1c:¬ w1.heap.size=wr.heap.size:=(by omega);have d5:=World.cell?_setCell_same' w1 ⟨wr.heap.size,5,none⟩ (.slice q1 n1 k1) (by rw [hc1];simp [go_sem]))
    | (at_builtin;(refine aL rfl (.tmp 22) (.tmp 24) 30 rfl w1.heap.size 3 i1 _ 1 8 Tryz.underlying30 hi1 hy0 hy1 hy2 rfl (by decide) (.slice (some ⟨w1.heap.size,0,none⟩) 0 0) 0 [] rfl (ny w1.heap.size (by simp [World.setCell]) (by omega)) _ (t.queue.map intCells) rfl (bI _) (Rows.pure hQ (by (repeat (with_reducible first|exact bA _ _|refine bB ?_ ?_ _|refine bC ?_ _|refine bD ?_|refine bE ?_ ?_ _|refine bF ?_ (by assumption) ?_))<;>first|omega|(simp;try omega))) (by simp [maxLen]<;>omega) (by simp<;>omega) (by simp [World.setCell]) ?_);intro v2 w2 ho2 hg2;obtain ⟨q2,n2,k2,rfl⟩:=gI ho2;go_loud (have hc2:=(fun o=>World.cell?_of_block (a:=⟨wr.heap.size,o,none⟩) (hg2.block wr.heap.size (by simp [World.setCell]<;>omega) (by simp [Value.ownBlock]<;>omega))));go_loud (have hf2:=(fun o=>World.frozen?_of_block (a:=⟨wr.heap.size,o,none⟩) (hg2.block wr.heap.size (by simp [World.setCell]<;>omega) (by simp [Value.ownBlock]<;>omega))));have hb2:Below wr.heap.size wr w2:=(((hb1.setCell (p:=⟨wr.heap.size,5,none⟩) (Nat.le_refl _) _).alloc (by simp [World.setCell]<;>omega) _).grown hg2 (by simp [World.setCell]<;>omega) (fun k hk=>by simp [Value.ownBlock] at hk;omega));have hs2:w1.heap.size+1≤w2.heap.size:=(by have:=hg2.size;simpa [World.setCell] using this);have hs2b:wr.heap.size<w2.heap.size:=(by omega);have hs2c:¬ w2.heap.size=wr.heap.size:=(by omega);go_loud (have d6:=World.cell?_setCell_same' w2 ⟨wr.heap.size,6,none⟩ (.slice q2 n2 k2) (by rw [hc2];simp [go_sem,hc1,hs1b])))
    | (at_builtin;refine aL rfl (.tmp 27) (.tmp 29) 23 rfl w.heap.size 32 i2 _ 8 96 Tryz.underlying23 hi2 hx0 hx1 hx2 rfl (by decide) (.slice vq j vc) j ((xs0.map Thx.cells).flatten) rfl (own_below he2 (by (repeat (with_reducible first|exact bA _ _|refine bB ?_ ?_ _|refine bC ?_ _|refine bD ?_|refine bE ?_ ?_ _|refine bF ?_ (by assumption) ?_))<;>first|omega|(simp;try omega))) (.slice (some ⟨w2.heap.size,0,none⟩) 1 1) [Thg.cells t (.slice q1 n1 k1) (.slice q2 n2 k2)] rfl (BO _ _ _ _ _ _ _) (Rows.one (by intro i u hu;rcases i with _|_|_|_|_|_|_|_|i<;>simp [Thg.cells] at hu<;>(try subst hu)<;>simp [go_sem])) (by simp [maxLen]<;>omega) (by simp<;>omega) (by simp [World.setCell]<;>omega) ?_;intro v3 w3 ho3 hg3))
   have hgA:Chg (fun b=>b=wr.heap.size∨w1.heap.size≤b) w1 w2:=(Chg.alloc (Chg.setCell (S:=fun b=>b=wr.heap.size∨w1.heap.size≤b) (Chg.refl _ w1) (.inl rfl) _) _).trans ((Chg.gX hg2).mono (fun k _ e=>.inr (by simp [Value.ownBlock] at e;omega)))
   have Ez:w1.ownsRow (wr.heap.size+1) 69 5 (.slice q1 n1 k1) t.slots.length ((t.slots.map Rgt.cells).flatten):=by simpa using ho1
   have ho2':w2.ownsRow w1.heap.size 3 1 (.slice q2 n2 k2) t.queue.length ((t.queue.map intCells).flatten):=by simpa using ho2
   have ho3':w3.ownsRow w.heap.size 32 8 v3 (j+1) ((xs0.map Thx.cells).flatten++Thg.cells t (.slice q1 n1 k1) (.slice q2 n2 k2)):=by simpa using ho3
   have fin:jR w.heap.size 32 69 3 v3 ts (j+1) w3:=by
    refine jR.step Hxs.out he2 NJ.out (by decide) (by decide) (by decide) Ht.out ?_ hszB ?_ ?_ ho3' hg3
    ·exact (by (repeat (with_reducible first|exact bA _ _|refine bB ?_ ?_ _|refine bC ?_ _|refine bD ?_|refine bE ?_ ?_ _|refine bF ?_ (by assumption) ?_))<;>first|omega|(simp;try omega))
    ·exact dR (lD Ez (hgA.trans (Chg.alloc (Chg.setCell (S:=fun b=>b=wr.heap.size∨w1.heap.size≤b) (Chg.refl _ w2) (.inl rfl) _) _)) (fun b h1 h2 h3=>by rcases h3 with h|h<;>omega)) (by omega)
    ·exact dR (lD ho2' (Chg.alloc (Chg.setCell (S:=fun b=>b=wr.heap.size) (Chg.refl _ w2) rfl _) _) (fun b h1 h2 h3=>by omega)) (by omega)
   have M0:Below w.heap.size w w3:=by
    refine Below.grown (((hB.trans (hb2.mono hszB)).setCell (p:=⟨wr.heap.size,6,none⟩) hszB _).alloc (by simp [World.setCell]<;>omega) _) hg3 (by simp [World.setCell]<;>omega) (fun k hk=>(he2.lt k hk).1)
   have fin3:=aH ho3'
   have Fin:=Lib.hid fin
   have Fin3:=Lib.hid fin3
   clear fin fin3 ho1 ho2 ho3 Ez ho2' ho3' he2 hgA
   go_wp2
   go_roundw
   case rel=>exact ⟨j+1,by omega,by go_num,M0,Fin3.out,Fin.out⟩
   case measure=>simp [intOf];omega
  ·have e:j=ts.length:=by omega
   subst e
   obtain ⟨xs,tag,hO,hxs⟩:=hI.done (by decide) (by decide)
   go_wp2
   go_ret
   exact ⟨_,xs,tag,rfl,hO,hxs,hB⟩
end Go.Proofs.YthhmolonhpaepaaGreatDoor
