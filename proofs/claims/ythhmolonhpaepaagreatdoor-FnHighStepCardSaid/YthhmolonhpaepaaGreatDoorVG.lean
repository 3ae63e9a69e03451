/- A right among rights, by impl. Conditions: none but bounds as they stand. -/
import Derived.Test.YthhmolonhpaepaaGreatDoorVIv
import Derived.Deep.RegionWith
import Derived.Test.YthhmolonhpaepaaGreatDoorVBase
import Derived.Sort.QuietIn
import Derived.Test.YthhmolonhpaepaaGreatDoorVMa
set_option linter.unusedVariables false
set_option linter.unusedSimpArgs false
namespace Go.Proofs.YthhmolonhpaepaaGreatDoor
open Go.RowKit Drw
attribute [local go_sem] Lab.val Rgt.val Cal.val Thg.val
theorem ta_ee (v:Value) (w:World):(Instr.typeAssert (.iface 211 v) 205 211 true).run Tryz.prog w=.ok (.tuple #[v,.bool true]) w:=by kernel_rfl
theorem ta_oo (v:Value) (w:World):(Instr.typeAssert (.iface 213 v) 205 213 true).run Tryz.prog w=.ok (.tuple #[v,.bool true]) w:=by kernel_rfl
theorem ta_oe (v:Value) (w:World):(Instr.typeAssert (.iface 213 v) 205 211 true).run Tryz.prog w=.ok (.tuple #[.agg #[],.bool false]) w:=by kernel_rfl
theorem ta_eo (v:Value) (w:World):(Instr.typeAssert (.iface 211 v) 205 213 true).run Tryz.prog w=.ok (.tuple #[Rgt.null.val,.bool false]) w:=by kernel_rfl
attribute [local go_sem] ta_ee ta_oo ta_oe ta_eo
end Go.Proofs.YthhmolonhpaepaaGreatDoor
namespace Drw
open Go Go.RowKit
section
variable {F:Fence} {n:Nat} {P:Program} {ops:Array Oper} {md:Region.Mode} {C:World→Prop}
theorem pY {o:Oper} {a:Act} {K:Act→Prop} {K':Act→World→Prop} {Q':Exit→Act→World→Prop} {w:World} (hnd:∀ c,o.op≠.defer c) (hw:C w) (h:∀ a w',C w'→K a→K' a w')
  (ha:o.askedIn F P a C) (hh:o.quietIn F n P a C K):o.wpIn F n P a w K' Q':=by
 obtain ⟨v,h1,h2⟩:=hh
 have h3:=h1 w hw
 unfold Oper.quietAtIn at h3
 unfold Oper.wpIn
 refine ⟨ha w hw,?_⟩
 rw [Oper.semAt_eq _ _ _ hnd]
 generalize (execOp a.eval o).run P w=r at *
 cases r with
 | ok x w'=>
  cases x<;>simp only [Oper.quietUponIn] at h3<;>simp only [Oper.uponIn]
  case value u=>
   obtain ⟨e1,e2⟩:=h3
   rw [e1,e2]
   exact h _ _ hw h2
  case skip=>
   obtain ⟨e1,e2⟩:=h3
   rw [e1,← e2]
   exact h _ _ hw h2
  case enter f args=>
   obtain ⟨e1,hd,hc⟩:=h3
   rw [e1]
   exact ⟨hd,hc.mono fun e w'' ⟨he,hw''⟩=>by subst he;exact h _ _ hw'' h2⟩
 | halt x w'=>simp only [Oper.quietUponIn] at h3
theorem mR {i:Nat} {a:Act} {K:Act→Prop} {K':Act→World→Prop} {Q':Exit→Act→World→Prop} {w:World} (hnd:∀ (j:Nat) (o:Oper) c,ops[j]?=some o→o.op≠.defer c) (hC:C w) (h:∀ a w',C w'→K a→K' a w')
  (hh:qOpIn F n P ops C i K a):wpOpIn F n P ops Q' i K' a w:=by
 unfold qOpIn at hh
 unfold wpOpIn
 split
 ·rename_i ho;simp only [ho] at hh;exact h _ _ hC hh
 ·rename_i o ho
  simp only [ho] at hh
  obtain ⟨ha,hh⟩:=hh
  split
  ·rename_i hw;simp only [hw,if_true] at hh;exact pY (fun c=>hnd i o c ho) hC h ha hh
  ·rename_i hw;simp only [hw] at hh;exact ⟨ha w hC,h _ _ hC hh⟩
theorem gU {Q:Act→Prop} {Q':Exit→Act→World→Prop} (hnd:∀ (j:Nat) (o:Oper) c,ops[j]?=some o→o.op≠.defer c) (hQ:∀ a w,C w→Q a→Q' .normal a w):∀ (fuel:Nat) (listed:Array Bool) (a:Act) (w:World),C w →
  wpAnyQIn F n P md ops C Q fuel listed a→wpAnyIn F n P md ops Q' fuel listed a w
 | 0,_,_,_,hw,h=>⟨h.1,hQ _ _ hw h.2⟩
 | fuel+1,_,_,_,hw,h=>⟨fun h0=>hQ _ _ hw (h.1 h0),fun i hi=>mR hnd hw (fun a' w' hw'=>gU hnd hQ fuel _ a' w' hw') (h.2 i hi)⟩
theorem kX {id:Nat} {Q:Exit→Act→World→Prop} {a:Act} {w:World} (hnd:∀ (j:Nat) (o:Oper) c,ops[j]?=some o→o.op≠.defer c) (hm:P.follows .mixedOrders=true) (hB:Region.lexB .any ops=true) (hC:C { w with drawn:=w.drawn+1 })
  (h:wpQuietIn F n P ops C (fun a'=>∀ w',C w'→Q .normal a' w') ops.toList a):(Code.region id ops true).wpIn F n P Q a w:=by
 simp only [Region.lexB,Bool.and_eq_true] at hB
 refine wpIn_region_any hm (gU (Q:=fun a'=>∀ w',C w'→Q .normal a' w') hnd (fun _ w' hw' h=>h w' hw') _ _ _ _ hC ?_)
 have:=wpAnyQIn_lex (F:=F) (n:=n) (C:=C) (md:=.any) hB.1 ops.toList 0 (Array.replicate ops.size false) a (by simp) (by simpa using hB.2) h
 simpa using this
def F8 (l:List Oper):Bool:=l.all fun o=>match o.op with|.defer _=>false|_=>true
theorem xZ {l:List Oper} (h:F8 l=true):∀ (j:Nat) (o:Oper) c,l.toArray[j]?=some o→o.op≠.defer c:=by
 intro j o c ho e
 have hm:o∈l:=by
  rw [List.getElem?_toArray] at ho
  exact List.mem_of_getElem? ho
 have:=List.all_eq_true.1 h o hm
 rw [e] at this
 exact absurd this (by simp)
theorem bZ {id:Nat} {Q:Exit→Act→World→Prop} {a:Act} {w:World} {l:List Oper} (hnd:F8 l=true) (hm:P.follows .mixedOrders=true) (hB:Region.lexB .any l.toArray=true)
  (h:wpQuietIn F n P l.toArray (fun w'=>∃ n,w'=w.drewN n) (fun a'=>∀ w',(∃ n,w'=w.drewN n)→Q .normal a' w') l a):(Code.region id l.toArray true).wpIn F n P Q a w:=
 kX (C:=fun w'=>∃ n,w'=w.drewN n) (xZ hnd) hm hB ⟨1,rfl⟩ (by simpa using h)
end
end Drw
namespace Go.Proofs.YthhmolonhpaepaaGreatDoor
open Go.RowKit Drw Go.Shelf Go.BigFrame
attribute [local go_sem] Oper.semAt_some
attribute [local go_sem] Lab.val Rgt.val Cal.val Thg.val
set_option maxHeartbeats 400000 in
theorem Bb (p:Option Addr) (n cap:Nat) (w:World) :
  Calls Tryz.prog 70 #[.slice p n cap] w fun e w'=>e=.returned (.func (.func 107) #[] #[.pointer (some ⟨w.heap.size,0,none⟩)])∧w'=w.alloc (.cells #[.slice p n cap] 23):=by
 go_enter Tryz.func70,Tryz.ntmps70
 go_wp2
 go_ret
 exact ⟨rfl,rfl⟩
theorem xN (n Bn n₀:Nat) (p:Option Addr) (cap:Nat) (ts:List Thg) (hn:1≤n) (w₀:World) (hw₀:w₀.heap.size=n₀) (hBn:w₀.cell? ⟨Bn,0,none⟩=some (.slice p ts.length cap)) (hT:TabAt w₀ (.slice p ts.length cap) ts) :
  SeqStopsK Fence.wide n Tryz.prog 107 #[.pointer (some ⟨Bn,0,none⟩)] (fun r:Rgt=>#[r.val]) (Below n₀) (fun xs=>xs=flat ts) (fun pre=>pre <+: flat ts) (flat ts).length w₀:=by
 intro l J Jx W hb hJ _ hY h0
 exact wR n l Bn n₀ p cap ts hn J Jx (fun pre W' o hp=>hJ pre W' (W'.alloc o) none hp (World.grownBy_alloc _ _ _) (fun r e=>by cases e)) hY w₀ W hw₀ (by rw [← hw₀];exact hb) hBn hT h0
theorem iE (ts:List Thg):aU ts=(inR ts.length 1 8 && ts.all (fun t=>aP t && dP ts t) && (flat ts).all (bK ts)):=by
 unfold aU flat
 rw [List.all_flatMap]
set_option maxRecDepth 100000 in
set_option maxHeartbeats 2000000 in
theorem Cy (p:Option Addr) (cap:Nat) (ts:List Thg) (w:World) (hT:TabAt w (.slice p ts.length cap) ts) :
  CallsIn Fence.wide 5 Tryz.prog 38 #[.slice p ts.length cap] w fun e w'=>e=.returned (.bool (aU ts))∧Below w.heap.size w w':=by
 obtain ⟨_,_,h1,hl1,hl2⟩:=hT.len
 cases h1
 unfold maxLen at hl2
 refine callsIn_of_wp_marks Tryz.func38 rfl trivial ?_ rfl
 simp only [Tryz.ntmps38,List.size_toArray,List.length_cons,List.length_nil,Nat.reduceAdd,Nat.reduceSub,Array.replicate_succ,Array.replicate_zero,List.push_toArray,List.append_toArray,List.nil_append,List.cons_append]
 by_cases hlen:inR ts.length 1 8=true
 ·have Hlen:=Lib.hid hlen
  clear hlen
  gi_wp2_with (refine ⟨trivial,?_⟩;gi_at_call 67;refine (callsIn_wide.2 (eD _ _ _ _)).mono ?_;rw [Hlen.out];rintro e w' ⟨rfl,rfl⟩)
  gi_loopw [12] (fun i wr=>∃ j:Nat,j≤ts.length∧i=.int .i64 j∧(ts.take j).all (fun t=>aP t && dP ts t)=true∧Below w.heap.size w wr∧w.heap.size+1<wr.heap.size ∧
   wr.cell? ⟨w.heap.size,0,none⟩=some (.slice p ts.length cap)∧wr.cell? ⟨w.heap.size+1,0,none⟩=some (.bool false)∧wr.frozen? ⟨w.heap.size+1,0,none⟩=false) (fun i _=>ts.length - (intOf i).toNat)
  case atStart=>exact ⟨0,Nat.zero_le _,rfl,by simp,(by (repeat (with_reducible first|exact bA _ _|refine bB ?_ ?_ _|refine bC ?_ _|refine bD ?_|refine bE ?_ ?_ _|refine bF ?_ (by assumption) ?_))<;>first|omega|(simp;try omega)),by simp,by simp [go_sem],by simp [go_sem],by simp [go_sem]⟩
  case round=>
   obtain ⟨j,hj,rfl,hall,hB,hz,cb,cr,cf⟩:=hrel
   have lL:=Lib.hid hall
   clear hall
   by_cases hlt:j<ts.length
   ·obtain ⟨tj,htj⟩:∃ t,ts[j]?=some t:=⟨ts[j],by simp [hlt]⟩
    have Htj:=Lib.hid htj
    obtain ⟨b,o,sv,qv,rfl,hbk,hS,hQ,c0,c1,c2,c3,c4,c5,c6,c7⟩:=(hT.pure hB).at j tj htj
    obtain ⟨p',cap',rfl,GR,GQ⟩:=hS.len
    obtain ⟨p'',cap'',rfl,hl1'',hl2''⟩:=hQ.len
    clear htj
    have hz0:w.heap.size<wr.heap.size:=by omega
    gi_wp2_with (first
     | (refine ⟨trivial,?_⟩;gi_at_call 68;refine (callsIn_wide.2 (lN ⟨_,⟨_,_⟩,_,_,tj.slots,tj.queue,_⟩ _ _ _ ((hS.pure (by (repeat (with_reducible first|exact bA _ _|refine bB ?_ ?_ _|refine bC ?_ _|refine bD ?_|refine bE ?_ ?_ _|refine bF ?_ (by assumption) ?_))<;>first|omega|(simp;try omega)))) ((hQ.pure (by (repeat (with_reducible first|exact bA _ _|refine bB ?_ ?_ _|refine bC ?_ _|refine bD ?_|refine bE ?_ ?_ _|refine bF ?_ (by assumption) ?_))<;>first|omega|(simp;try omega)))))).mono ?_;rintro e w1 ⟨rfl,hb1⟩;obtain ⟨hc1,hf1⟩:=ax hb1;have hz1:wr.heap.size<w1.heap.size:=(by have:=hb1.size;(try simp at this);omega);have hz2:w.heap.size<w1.heap.size:=(by omega);have hz3:w.heap.size+1<w1.heap.size:=(by omega))
     | (refine ⟨trivial,?_⟩;gi_at_call 69;refine (callsIn_wide.2 (BI _ _ ts _ _ _ (hT.pure (by (repeat (with_reducible first|exact bA _ _|refine bB ?_ ?_ _|refine bC ?_ _|refine bD ?_|refine bE ?_ ?_ _|refine bF ?_ (by assumption) ?_))<;>first|omega|(simp;try omega))))).mono ?_;rintro e w' ⟨rfl,rfl⟩)
     | (refine ⟨trivial,?_⟩))
    ·
     have hB':Below wr.heap.size wr w1:=((Below.refl _ _).alloc (Nat.le_refl _) _).trans (hb1.mono (by simp))
     have cb':=(hB'.cell (p:=⟨w.heap.size,0,none⟩) hz0).trans cb
     have cr':=(hB'.cell (p:=⟨w.heap.size+1,0,none⟩) hz).trans cr
     have cf':=(hB'.frozen (p:=⟨w.heap.size+1,0,none⟩) hz).trans cf
     have hBw':Below w.heap.size w w1:=hB.trans (hB'.mono hB.size)
     have hmem:tj∈ts:=List.mem_of_getElem? Htj.out
     have hb:(!aP tj)=true:=by assumption
     refine ⟨.bool false,?_,aj ?_,hBw'.setCell (p:=⟨w.heap.size+1,0,none⟩) (by simp) _⟩
     ·simp [results,Tryz.f38,go_sem,World.cell?_setCell_same' w1 ⟨w.heap.size+1,0,none⟩ (.bool false) (by rw [cr'];rfl)]
     ·have hx:ts.all (fun t=>aP t && dP ts t)=false:=by
       rw [List.all_eq_false];exact ⟨tj,hmem,by simp at hb;simp [hb]⟩
      rw [iE,hx];simp
    ·
     have hB':Below wr.heap.size wr w1:=((Below.refl _ _).alloc (Nat.le_refl _) _).trans (hb1.mono (by simp))
     have cb':=(hB'.cell (p:=⟨w.heap.size,0,none⟩) hz0).trans cb
     have cr':=(hB'.cell (p:=⟨w.heap.size+1,0,none⟩) hz).trans cr
     have cf':=(hB'.frozen (p:=⟨w.heap.size+1,0,none⟩) hz).trans cf
     have hBw':Below w.heap.size w w1:=hB.trans (hB'.mono hB.size)
     have hmem:tj∈ts:=List.mem_of_getElem? Htj.out
     have hb:(!bS ts tj.to 1)=true:=by assumption
     have hk5:tj.kind=5:=by first|assumption|exact eq_of_beq (by assumption)
     refine ⟨.bool false,?_,aj ?_,hBw'.setCell (p:=⟨w.heap.size+1,0,none⟩) (by simp) _⟩
     ·simp [results,Tryz.f38,go_sem,World.cell?_setCell_same' w1 ⟨w.heap.size+1,0,none⟩ (.bool false) (by rw [cr'];rfl)]
     ·have hx:ts.all (fun t=>aP t && dP ts t)=false:=by
       rw [List.all_eq_false];exact ⟨tj,hmem,by simp at hb;simp [dP,hk5,hb]⟩
      rw [iE,hx];simp
    ·
     have hB':Below wr.heap.size wr w1:=((Below.refl _ _).alloc (Nat.le_refl _) _).trans (hb1.mono (by simp))
     have cb':=(hB'.cell (p:=⟨w.heap.size,0,none⟩) hz0).trans cb
     have cr':=(hB'.cell (p:=⟨w.heap.size+1,0,none⟩) hz).trans cr
     have cf':=(hB'.frozen (p:=⟨w.heap.size+1,0,none⟩) hz).trans cf
     have hBw':Below w.heap.size w w1:=hB.trans (hB'.mono hB.size)
     have hmem:tj∈ts:=List.mem_of_getElem? Htj.out
     have hb:(!bS ts tj.to 1)=false:=by assumption
     have hb2:(!aP tj)=false:=by assumption
     refine ⟨⟨j+1,by omega,by go_num,?_,hBw',hz3,cb',cr',cf'⟩,by simp [intOf];omega⟩
     rw [take_snoc' _ _ _ Htj.out,List.all_append,lL.out]
     simp at hb hb2
     simp [dP,hb,hb2]
    ·
     have hB':Below wr.heap.size wr w1:=((Below.refl _ _).alloc (Nat.le_refl _) _).trans (hb1.mono (by simp))
     have cb':=(hB'.cell (p:=⟨w.heap.size,0,none⟩) hz0).trans cb
     have cr':=(hB'.cell (p:=⟨w.heap.size+1,0,none⟩) hz).trans cr
     have cf':=(hB'.frozen (p:=⟨w.heap.size+1,0,none⟩) hz).trans cf
     have hBw':Below w.heap.size w w1:=hB.trans (hB'.mono hB.size)
     have hmem:tj∈ts:=List.mem_of_getElem? Htj.out
     have hb2:(!aP tj)=false:=by assumption
     have hk5:(tj.kind == 5)=false:=by first|assumption|exact beq_eq_false_iff_ne.2 (by assumption)
     refine ⟨⟨j+1,by omega,by go_num,?_,hBw',hz3,cb',cr',cf'⟩,by simp [intOf];omega⟩
     rw [take_snoc' _ _ _ Htj.out,List.all_append,lL.out]
     simp at hb2 hk5
     simp [dP,hk5,hb2]
   ·have HA:=lL.out
    have e:j=ts.length:=by omega
    subst e
    rw [List.take_length] at HA
    have HA':=Lib.hid HA
    clear HA lL
    have hz0:w.heap.size<wr.heap.size:=by omega
    gi_wp2_with (refine ⟨trivial,?_⟩;gi_at_call 70;refine (callsIn_wide.2 (Bb _ _ _ _)).mono ?_;rintro e w' ⟨rfl,rfl⟩)
    obtain ⟨W1,hW1⟩:∃ W1,wr.alloc (.cells #[.slice p ts.length cap] 23)=W1:=⟨_,rfl⟩
    have hsz:W1.heap.size=wr.heap.size+1:=by rw [← hW1];simp
    have hB1:Below w.heap.size w W1:=by rw [← hW1];exact hB.alloc hB.size _
    have cb1:W1.cell? ⟨w.heap.size,0,none⟩=some (.slice p ts.length cap):=by rw [← hW1,World.cell?_alloc_past _ _ _ hz0];exact cb
    have cr1:W1.cell? ⟨w.heap.size+1,0,none⟩=some (.bool false):=by rw [← hW1,World.cell?_alloc_past _ _ _ hz];exact cr
    have cf1:W1.frozen? ⟨w.heap.size+1,0,none⟩=false:=by rw [← hW1,World.frozen?_alloc_past _ _ _ hz];exact cf
    have cB:W1.cell? ⟨wr.heap.size,0,none⟩=some (.slice p ts.length cap):=by rw [← hW1,World.cell?_alloc_at _ _ _ _ rfl];rfl
    have hT1:=hT.pure hB1
    rw [hW1]
    have Hsz:=Lib.hid hsz
    clear hW1 hsz cb cr cf
    refine wpIn_rangeFunc_ownH rfl (by omega) (gf:=107) (lb:=#[.pointer (some ⟨wr.heap.size,0,none⟩)]) rfl trivial (enters_of Tryz.func107 (by kernel_rfl) rfl)
     (xN 4 wr.heap.size W1.heap.size p cap ts (by omega) W1 rfl cB hT1) belowK_t (belowK_b (Nat.le_refl _)) (Below.refl _ _) (fun _=>rfl)
     (fun pre W=>pre.all (bK ts)=true∧Below W1.heap.size W1 W)
     (fun c pre W=>(c=.ret∧(∃ r∈pre,bK ts r=false)∧W.cell? ⟨w.heap.size+1,0,none⟩=some (.bool false))∧Below w.heap.size w W)
     (OwnFrom.and (Own.from (fun s A B row hs hg hr=>hs) _) (ownFrom_below (Nat.le_refl _) (Nat.le_refl _)))
     (fun c=>OwnFrom.and (Own.from (fun s A B row hs hg hr=>⟨hs.1,hs.2.1,cell_kept hs.2.2 hg hr⟩) _) (ownFrom_below (Nat.le_refl _) (by have:=Hsz.out;omega)))
     ⟨by simp,Below.refl _ _⟩
     (fun x a' W=>∃ Bx,W1.heap.size≤Bx∧(W.cell? ⟨Bx,0,none⟩=some (.int .i64 x.thing)∧W.cell? ⟨Bx,1,none⟩=some (.int .i64 x.aJ)∧W.cell? ⟨Bx,2,none⟩=some (.bool x.rd)∧W.cell? ⟨Bx,3,none⟩=some (.bool x.wr)∧W.cell? ⟨Bx,4,none⟩=some (.bool x.wk))∧a'={ tmps:=#[.slice p ts.length cap,.pointer (some ⟨w.heap.size,0,none⟩),.pointer (some ⟨w.heap.size+1,0,none⟩),undef,u4,.pointer (some ⟨Bx,0,none⟩),.slice p ts.length cap,.int .i64 ts.length,.bool true,.bool false,.slice p ts.length cap,.int .i64 ts.length,.int .i64 ts.length,.bool false,u14,u15,u16,u17,u18,u19,u20,u21,u22,u23,u24,u25,u26,u27,u28,u29,.slice p ts.length cap,.func (.func 107) #[] #[.pointer (some ⟨wr.heap.size,0,none⟩)],.agg #[.int .i64 x.thing,.int .i64 x.aJ,.bool x.rd,.bool x.wr,.bool x.wk],undef,undef,undef,undef,undef,undef,undef,undef,undef,undef,undef,undef,undef,undef,undef,undef,undef,undef,undef,undef],defers:=[] })
     (fun x a'=>fun s A B row hs hg hr=>by
      obtain ⟨Bx,h1,⟨d0,d1,d2,d3,d4⟩,h2⟩:=hs
      have hr:=fun r e=>(hr r e).2
      exact ⟨Bx,h1,⟨cell_kept d0 hg hr,cell_kept d1 hg hr,cell_kept d2 hg hr,cell_kept d3 hg hr,cell_kept d4 hg hr⟩,h2⟩)
     ?assign ?body ?done ?stop
    case assign=>
     rintro l pre x W K ⟨hp,hBW⟩ hK
     gi_wp2
     exact hK _ _ ((KeepsOthers.alloc _ _).from _) ((Below.refl _ W).alloc hBW.size _) ⟨hp,hBW.alloc hBW.size _⟩ ⟨W.heap.size,hBW.size,by simp [go_sem],rfl⟩
    case body=>
     rintro l pre ⟨th,ve,rd,wt,wk⟩ a' W hl ⟨rr,hrr⟩ ⟨hp,hBW⟩ ⟨Bx,hBx,⟨d0,d1,d2,d3,d4⟩,rfl⟩ hlt'
     dsimp only at d0 d1 d2 d3 d4
     have cbW:W.cell? ⟨w.heap.size,0,none⟩=some (.slice p ts.length cap):=(hBW.cell (p:=⟨w.heap.size,0,none⟩) (by have:=Hsz.out;simp;omega)).trans cb1
     have crW:W.cell? ⟨w.heap.size+1,0,none⟩=some (.bool false):=(hBW.cell (p:=⟨w.heap.size+1,0,none⟩) (by have:=Hsz.out;simp;omega)).trans cr1
     have cfW:W.frozen? ⟨w.heap.size+1,0,none⟩=false:=(hBW.frozen (p:=⟨w.heap.size+1,0,none⟩) (by have:=Hsz.out;simp;omega)).trans cf1
     have hBw:Below w.heap.size w W:=hB1.trans (hBW.mono hB1.size)
     by_cases h0:th=0
     ·have hc0:bK ts ⟨th,ve,rd,wt,wk⟩=true:=by simp [bK,h0]
      subst h0
      gi_wp2
      exact ⟨KeepsFrom.refl _ _,Below.refl _ _,by simp [List.all_append,hp,hc0],hBW⟩
     ·by_cases hex:ex ts th=true
      ·obtain ⟨k,rfl,hk⟩:=eO hex
       obtain ⟨b,o,sv,qv,rfl,hbk,hS,hQ,c0,c1,c2,c3,-⟩:=(hT1.pure hBW).at k _ hk
       have hlt2:k<ts.length:=(List.getElem?_eq_some_iff.1 hk).1
       have Hr:=Lib.hid (show inR ((k:Int)+1) 1 ts.length=true from hex)
       have Hex:=Lib.hid hex
       have h00:(((k:Int)+1) == 0)=false:=by simp;omega
       have e2:(0:Int)≤(k:Int):=by omega
       have e3:(k:Int)<(ts.length:Int):=by omega
       have s2:IntKind.i64.wrap (k:Int)=(k:Int):=IntWalk.i64_in _ (by omega)
       have hF:∀ g,(Fence.wide.inRound l).fn g:=fun _=>trivial
       by_cases hv:ve≤(aC ts ((k:Int)+1)).aJ
       ·have hcap:bK ts ⟨(k:Int)+1,ve,rd,wt,wk⟩=true:=by simp [bK,hex,hv]
        have Lu:=Lib.hid hcap
        have hv':decide ((aC ts ((k:Int)+1)).aJ<ve)=false:=by simp;omega
        clear hex hk h0 hv hcap
        gi_wp2
        refine bZ (by kernel_rfl) (by kernel_rfl) (by kernel_rfl) ?_
        repeat (gi_big_quiet_step ((gi_at_call 46;refine CallsIn.quiet_of_same (CallsIn.inRound l (callsIn_wide.2 (eu _ _ _ _ _ Hr.out))))))
        refine wpQuietIn_nil ?_
        intro _ hw'
        obtain ⟨nq,hw''⟩:=hw'
        subst hw''
        gi_wp2
        exact ⟨⟨Nat.le_refl _,fun _ _ _ h _=>h⟩,below_drewN (Below.refl _ _) _,by simp [List.all_append,hp,Lu.out],below_drewN hBW _⟩
       ·have hcap:bK ts ⟨(k:Int)+1,ve,rd,wt,wk⟩=false:=by simp [bK,hex,hv];omega
        have Lu:=Lib.hid hcap
        have hv':decide ((aC ts ((k:Int)+1)).aJ<ve)=true:=by simp;omega
        clear hex hk h0 hv hcap
        gi_wp2
        refine bZ (by kernel_rfl) (by kernel_rfl) (by kernel_rfl) ?_
        repeat (gi_big_quiet_step ((gi_at_call 46;refine CallsIn.quiet_of_same (CallsIn.inRound l (callsIn_wide.2 (eu _ _ _ _ _ Hr.out))))))
        refine wpQuietIn_nil ?_
        intro _ hw'
        obtain ⟨nq,hw''⟩:=hw'
        subst hw''
        gi_wp2
        exact ⟨(show KeepsFrom _ W (W.drewN nq) from ⟨Nat.le_refl _,fun _ _ _ h _=>h⟩).trans ((KeepsOthers.setCell _ _ _).from _),⟨rfl,⟨_,List.mem_append.2 (.inr (by simp)),Lu.out⟩,World.cell?_setCell_same' _ _ _ (by show (W.cell? _).isSome=true;rw [crW];rfl)⟩,
         (below_drewN hBw _).setCell (p:=⟨w.heap.size+1,0,none⟩) (by simp) _⟩
      ·have hcap:bK ts ⟨th,ve,rd,wt,wk⟩=false:=by simp [bK,hex,h0]
       have Lu:=Lib.hid hcap
       have Hr:=Lib.hid (show inR th 1 ts.length=false by simpa [ex] using hex)
       have h00:(th == 0)=false:=by simpa using h0
       have hF:∀ g,(Fence.wide.inRound l).fn g:=fun _=>trivial
       clear hex h0 hcap
       gi_wp2
       refine bZ (by kernel_rfl) (by kernel_rfl) (by kernel_rfl) ?_
       repeat (gi_big_quiet_step ((gi_at_call 46;refine CallsIn.quiet_of_same (CallsIn.inRound l (callsIn_wide.2 (eu _ _ _ _ _ Hr.out))))))
       refine wpQuietIn_nil ?_
       intro _ hw'
       obtain ⟨nq,hw''⟩:=hw'
       subst hw''
       gi_wp2
       exact ⟨(show KeepsFrom _ W (W.drewN nq) from ⟨Nat.le_refl _,fun _ _ _ h _=>h⟩).trans ((KeepsOthers.setCell _ _ _).from _),⟨rfl,⟨_,List.mem_append.2 (.inr (by simp)),Lu.out⟩,World.cell?_setCell_same' _ _ _ (by show (W.cell? _).isSome=true;rw [crW];rfl)⟩,
        (below_drewN hBw _).setCell (p:=⟨w.heap.size+1,0,none⟩) (by simp) _⟩
    case done=>
     rintro D ys W hD rfl ⟨hp,hBW⟩ hK
     have crW:W.cell? ⟨w.heap.size+1,0,none⟩=some (.bool false):=(hBW.cell (p:=⟨w.heap.size+1,0,none⟩) (by have:=Hsz.out;simp;omega)).trans cr1
     have cfW:W.frozen? ⟨w.heap.size+1,0,none⟩=false:=(hBW.frozen (p:=⟨w.heap.size+1,0,none⟩) (by have:=Hsz.out;simp;omega)).trans cf1
     have hBw:Below w.heap.size w W:=hB1.trans (hBW.mono hB1.size)
     gi_wp2
     have hK':=(KeepsOthers.setCell W ⟨w.heap.size+1,0,none⟩ (.bool true)).same D _ hK rfl
     refine ⟨by simp,.inl ⟨_,_,rfl,run_takeDeferred hK',?_⟩⟩
     have hc5:=cell_kept (World.cell?_setCell_same' W ⟨w.heap.size+1,0,none⟩ (.bool true) (by rw [crW];rfl)) (grownBy_putObj' _ D (.deferred none)) (fun r e=>by cases e;exact ⟨_,hK',rfl⟩)
     refine ⟨.bool true,?_,by rw [iE,Hlen.out,HA'.out,hp];rfl,(hBw.setCell (p:=⟨w.heap.size+1,0,none⟩) (by simp) _).trans (belowK_b (w:=w) (Nat.le_refl _) _ D _ _ (by have:=Hsz.out;omega) hK' rfl rfl)⟩
     simp [results,Tryz.f38,go_sem,hc5]
    case stop=>
     rintro D c pre W hD hpre ⟨⟨rfl,⟨r,hr,hbad⟩,hcr⟩,hBw⟩ hK
     gi_wp2
     refine ⟨by simp,.inl ⟨_,_,rfl,run_takeDeferred hK,?_⟩⟩
     have hc5:=cell_kept hcr (grownBy_putObj' _ D (.deferred none)) (fun r e=>by cases e;exact ⟨_,hK,rfl⟩)
     have hx:(flat ts).all (bK ts)=false:=by rw [List.all_eq_false];exact ⟨r,hpre.subset hr,by simp [hbad]⟩
     refine ⟨.bool false,?_,by rw [iE,hx];simp,hBw.trans (belowK_b (w:=w) (Nat.le_refl _) W D _ _ (by have:=Hsz.out;omega) hK rfl rfl)⟩
     simp [results,Tryz.f38,go_sem,hc5]
 ·have hlen':inR ts.length 1 8=false:=by simpa using hlen
  have Hlen:=Lib.hid hlen'
  clear hlen hlen'
  gi_wp2_with (refine ⟨trivial,?_⟩;gi_at_call 67;refine (callsIn_wide.2 (eD _ _ _ _)).mono ?_;rw [Hlen.out];rintro e w' ⟨rfl,rfl⟩)
  refine ⟨.bool false,?_,aj (by rw [iE,Hlen.out];simp),(by (repeat (with_reducible first|exact bA _ _|refine bB ?_ ?_ _|refine bC ?_ _|refine bD ?_|refine bE ?_ ?_ _|refine bF ?_ (by assumption) ?_))<;>first|omega|(simp;try omega))⟩
  simp [results,Tryz.f38,go_sem]
theorem iD (p:Option Addr) (cap:Nat) (ts:List Thg) (w:World) (hT:TabAt w (.slice p ts.length cap) ts) :
  Calls Tryz.prog 38 #[.slice p ts.length cap] w fun e w'=>e=.returned (.bool (aU ts))∧Below w.heap.size w w':=
 (callsIn_wide (n:=5)).1 (Cy p cap ts w hT)
end Go.Proofs.YthhmolonhpaepaaGreatDoor
