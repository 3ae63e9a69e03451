/- spec.ThingNew, whatever the arguments. Conditions: none. -/
import Derived.Test.YthhmolonhpaepaaGreatDoorVD
import Derived.Test.YthhmolonhpaepaaGreatDoorVAct
import Derived.Test.YthhmolonhpaepaaGreatDoorVY
import Derived.Test.YthhmolonhpaepaaGreatDoorVDr
import Derived.Test.YthhmolonhpaepaaGreatDoorVPk
import Derived.Deep.CutBlock
import Derived.Deep.RegionLaw
set_option linter.unusedVariables false
set_option linter.unusedSimpArgs false
namespace Go.Proofs.YthhmolonhpaepaaGreatDoor
open Go.RowKit Drw
attribute [local go_sem] Lab.val Rgt.val Cal.val Thg.val
def II (k:Int) (l:Lab) (tg:Int) (w:World) (e:Ending) (w':World):Prop:=∃ sv qv,e=.returned (.tuple #[(dx k l tg).val sv qv,.bool (aP (az k l tg))])∧aF w' sv (dx k l tg).slots∧aG w' qv (dx k l tg).queue∧dJ w' w.heap.size sv∧dJ w' w.heap.size qv∧Below w.heap.size w w'
def mP (k:Int) (l:Lab) (tg:Int) (w:World) (e:Ending) (w':World):Prop:=∃ sv qv,e=.returned (.tuple #[(dx k l tg).val sv qv,.bool (aP (az k l tg))])∧w'.ownsRow w.heap.size 69 5 sv (dx k l tg).slots.length (((dx k l tg).slots.map Rgt.cells).flatten)∧w'.ownsRow w.heap.size 3 1 qv (dx k l tg).queue.length (((dx k l tg).queue.map intCells).flatten)∧Below w.heap.size w w'
theorem mP.post {k:Int} {l:Lab} {tg:Int} {w:World} {e:Ending} {w':World} (h:mP k l tg w e w'):II k l tg w e w':=by
 obtain ⟨sv,qv,h1,h2,h3,h4⟩:=h
 have h2':=h2
 have h3':=h3
 rw [show (dx k l tg).slots.length=((dx k l tg).slots.map Rgt.cells).length by simp] at h2'
 rw [show (dx k l tg).queue.length=((dx k l tg).queue.map intCells).length by simp] at h3'
 exact ⟨sv,qv,h1,Rows.dH (jO _) h2',Rows.dH (bI _) h3',Held.dH h2' (fun b hb=>⟨(h2'.lt b hb).1,rfl⟩),Held.dH h3' (fun b hb=>⟨(h3'.lt b hb).1,rfl⟩),h4⟩
theorem fI (w:World) (o:Obj) (k:Nat):(w.alloc o).heap[k]?=if k=w.heap.size then some o else w.heap[k]?:=by
 show (w.heap.push o)[k]?=_
 rw [Array.getElem?_push]
theorem fH (w:World) (p:Addr) (u:Value) (k:Nat) (h:p.block≠k):(w.setCell p u).heap[k]?=w.heap[k]?:=Below.heap_setCell _ _ _ _ (Ne.symm h)
theorem xX {w:World} {B e s k n:Nat} {cur:Array Value} (h:w.heap[k]?=some (.cells cur e (0,0))) (hB:B≤k) (hm:n≤maxLen) (hs:cur.size=n * s):w.ownsRow B e s (.slice (some ⟨k,0,none⟩) n n) n cur.toList:=
 ⟨by simpa using hs,.inr ⟨k,n,cur,rfl,hB,h,Nat.le_refl _,hm,hs,by rw [List.take_of_length_le (by simp [hs])]⟩⟩
theorem Gq (w:World):(Instr.makeSlice 29 (.int .i64 4) (.int .i64 4)).run Tryz.prog w=.ok (.slice (some ⟨w.heap.size,0,none⟩) 4 4) (w.alloc (.cells #[.int .i64 0,.int .i64 0,.bool false,.bool false,.bool false,.int .i64 0,.int .i64 0,.bool false,.bool false,.bool false,.int .i64 0,.int .i64 0,.bool false,.bool false,.bool false,.int .i64 0,.int .i64 0,.bool false,.bool false,.bool false] 69)):=by kernel_rfl
theorem Bt (w:World) (p:Option Addr):aF w (.slice p 0 0) []:=⟨p,0,rfl,by simp,by simp,.inl rfl⟩
theorem vE (w:World) (p:Option Addr):aG w (.slice p 0 0) []:=⟨p,0,rfl,by simp,by simp,.inl rfl⟩
set_option maxRecDepth 100000 in
set_option maxHeartbeats 2000000 in
theorem sj (k:Int) (l:Lab) (tg:Int) (w:World) (hk:¬ (k=2∨k=3)):Calls Tryz.prog 82 #[.int .i64 k,l.val,.int .i64 tg] w (mP k l tg w):=by
 obtain ⟨s,v⟩:=l
 have e0:az k ⟨s,v⟩ tg=⟨k,⟨s,v⟩,0,0,[],[],tg⟩:=by simp [az,hk]
 have hk2:(k == 2 || k == 3)=false:=by simp at hk ⊢;exact hk
 obtain ⟨b,hb⟩:∃ b,aP ⟨k,⟨s,v⟩,0,0,[],[],tg⟩=b:=⟨_,rfl⟩
 have Hb:=Lib.hid hb
 have Hk2:=Lib.hid hk2
 have E0:=Lib.hid e0
 clear hb hk hk2 e0
 cases b
 ·go_enter Tryz.func82,Tryz.ntmps82
  go_wp2_with (first
   | (go_at_call 127;refine (mr _ _).mono ?_;rw [Hk2.out];rintro e w' ⟨rfl,rfl⟩)
   | (go_at_call 78;refine (dW ⟨_,⟨_,_⟩,_,_,[],[],_⟩ _ _ _ (Bt _ _) (vE _ _)).mono ?_;rw [Hb.out];rintro e w2 ⟨rfl,hb2⟩;obtain ⟨hc2,hf2⟩:=ax hb2;have hz2:w.heap.size+4<w2.heap.size:=(by have:=hb2.size;(try simp at this);omega);have hz2b:w.heap.size+1<w2.heap.size:=(by omega)))
  refine bodyPost_ret (v:=.tuple #[.agg #[.int .i64 0,.int .i64 0,.int .i64 0,.int .i64 0,.int .i64 0,.slice none 0 0,.slice none 0 0,.int .i64 0],.bool false]) ?_ rfl ?_
  ·simp [results,Tryz.results82,go_sem, *]
  ·unfold mP dx
   rw [E0.out,Hb.out,if_neg (by decide)]
   exact ⟨_,_,rfl,World.ownsRow_nil _ _ _ _,World.ownsRow_nil _ _ _ _,(by (repeat (with_reducible first|exact bA _ _|refine bB ?_ ?_ _|refine bC ?_ _|refine bD ?_|refine bE ?_ ?_ _|refine bF ?_ (by assumption) ?_))<;>first|omega|(simp;try omega))⟩
 ·go_enter Tryz.func82,Tryz.ntmps82
  go_wp2_with (first
   | (go_at_call 127;refine (mr _ _).mono ?_;rw [Hk2.out];rintro e w' ⟨rfl,rfl⟩)
   | (go_at_call 78;refine (dW ⟨_,⟨_,_⟩,_,_,[],[],_⟩ _ _ _ (Bt _ _) (vE _ _)).mono ?_;rw [Hb.out];rintro e w2 ⟨rfl,hb2⟩;obtain ⟨hc2,hf2⟩:=ax hb2;have hz2:w.heap.size+4<w2.heap.size:=(by have:=hb2.size;(try simp at this);omega);have hz2b:w.heap.size+1<w2.heap.size:=(by omega)))
  refine bodyPost_ret (v:=.tuple #[.agg #[.int .i64 k,.int .i64 s,.int .i64 v,.int .i64 0,.int .i64 0,.slice (some ⟨w.heap.size+2,0,none⟩) 0 0,.slice (some ⟨w.heap.size+3,0,none⟩) 0 0,.int .i64 tg],.bool true]) ?_ rfl ?_
  ·simp [results,Tryz.results82,go_sem, *]
  ·unfold mP dx
   rw [E0.out,Hb.out,if_pos rfl]
   have hk2:w2.heap[w.heap.size+2]?=some (.cells #[] 69 (0,0)):=(hb2.block _ (by simp [World.setCell];try omega)).trans (by repeat (first|rw [fH _ _ _ _ (by simp [World.setCell])]|rw [fI,if_neg (by first|(simp [World.setCell];done)|(exfalso;fail))]|rw [fI,if_pos (by first|(simp [World.setCell];done)|(exfalso;fail))]))
   have hk3:w2.heap[w.heap.size+3]?=some (.cells #[] 3 (0,0)):=(hb2.block _ (by simp [World.setCell];try omega)).trans (by repeat (first|rw [fH _ _ _ _ (by simp [World.setCell])]|rw [fI,if_neg (by first|(simp [World.setCell];done)|(exfalso;fail))]|rw [fI,if_pos (by first|(simp [World.setCell];done)|(exfalso;fail))]))
   exact ⟨_,_,rfl,xX (cur:=#[]) (by (repeat rw [fH _ _ _ _ (by simp [World.setCell])]);exact hk2) (by omega) (by simp [maxLen]) rfl,xX (cur:=#[]) (by (repeat rw [fH _ _ _ _ (by simp [World.setCell])]);exact hk3) (by omega) (by simp [maxLen]) rfl,(by (repeat (with_reducible first|exact bA _ _|refine bB ?_ ?_ _|refine bC ?_ _|refine bD ?_|refine bE ?_ ?_ _|refine bF ?_ (by assumption) ?_))<;>first|omega|(simp;try omega))⟩
set_option maxRecDepth 100000 in
set_option maxHeartbeats 4000000 in
theorem qi (k:Int) (l:Lab) (tg:Int) (w:World) (hk:k=2∨k=3):Calls Tryz.prog 82 #[.int .i64 k,l.val,.int .i64 tg] w (mP k l tg w):=by
 obtain ⟨s,v⟩:=l
 have e0:az k ⟨s,v⟩ tg=⟨k,⟨s,v⟩,0,0,[Rgt.null,Rgt.null,Rgt.null,Rgt.null],[],tg⟩:=by simp [az,hk]
 have hk2:(k == 2 || k == 3)=true:=by simp;exact hk
 obtain ⟨b,hb⟩:∃ b,aP ⟨k,⟨s,v⟩,0,0,[Rgt.null,Rgt.null,Rgt.null,Rgt.null],[],tg⟩=b:=⟨_,rfl⟩
 have Hb:=Lib.hid hb
 have Hk2:=Lib.hid hk2
 have E0:=Lib.hid e0
 have hmk:=Gq
 have hS4:∀ w':World,Below (w.heap.size+6) (((((((w.alloc (.cells #[.int .i64 s,.int .i64 v] 25)).alloc (.cells #[.int .i64 0,.int .i64 0,.int .i64 0,.int .i64 0,.int .i64 0,.slice none 0 0,.slice none 0 0,.int .i64 0] 32)).alloc (.cells #[] 69)).alloc (.cells #[] 3)).alloc (.cells #[.int .i64 k,.int .i64 s,.int .i64 v,.int .i64 0,.int .i64 0,.slice (some ⟨w.heap.size+2,0,none⟩) 0 0,.slice (some ⟨w.heap.size+3,0,none⟩) 0 0,.int .i64 tg] 32)).alloc (.cells #[.int .i64 0,.int .i64 0,.bool false,.bool false,.bool false,.int .i64 0,.int .i64 0,.bool false,.bool false,.bool false,.int .i64 0,.int .i64 0,.bool false,.bool false,.bool false,.int .i64 0,.int .i64 0,.bool false,.bool false,.bool false] 69))) w'→True:=fun _ _=>trivial
 clear hb hk hk2 e0 hS4
 cases b
 all_goals
  go_enter Tryz.func82,Tryz.ntmps82
  go_wp2_with (first
   | (go_at_call 127;refine (mr _ _).mono ?_;rw [Hk2.out];rintro e w' ⟨rfl,rfl⟩)
   | (go_at_call 78;refine (dW ⟨_,⟨_,_⟩,_,_,[Rgt.null,Rgt.null,Rgt.null,Rgt.null],[],_⟩ _ _ _ ⟨_,4,rfl,by simp,by simp [maxLen],.inr ⟨_,_,rfl,by intro k c hk j u hj;rcases k with _|_|_|_|k<;>simp at hk<;>subst hk<;>rcases j with _|_|_|_|_|j<;>simp [Rgt.cells,Rgt.null] at hj<;>subst hj<;>simp [go_sem]⟩⟩ (vE _ _)).mono ?_;rw [Hb.out];rintro e w2 ⟨rfl,hb2⟩;obtain ⟨hc2,hf2⟩:=ax hb2;have hz2:w.heap.size+5<w2.heap.size:=(by have:=hb2.size;(try simp [World.setCell] at this);omega);have hz2c:w.heap.size+4<w2.heap.size:=(by omega);have hz2b:w.heap.size+1<w2.heap.size:=(by omega)))
 ·refine bodyPost_ret (v:=.tuple #[.agg #[.int .i64 0,.int .i64 0,.int .i64 0,.int .i64 0,.int .i64 0,.slice none 0 0,.slice none 0 0,.int .i64 0],.bool false]) ?_ rfl ?_
  ·simp [results,Tryz.results82,go_sem, *]
  ·unfold mP dx
   rw [E0.out,Hb.out,if_neg (by decide)]
   exact ⟨_,_,rfl,World.ownsRow_nil _ _ _ _,World.ownsRow_nil _ _ _ _,(by (repeat (with_reducible first|exact bA _ _|refine bB ?_ ?_ _|refine bC ?_ _|refine bD ?_|refine bE ?_ ?_ _|refine bF ?_ (by assumption) ?_))<;>first|omega|(simp;try omega))⟩
 ·refine bodyPost_ret (v:=.tuple #[.agg #[.int .i64 k,.int .i64 s,.int .i64 v,.int .i64 0,.int .i64 0,.slice (some ⟨w.heap.size+5,0,none⟩) 4 4,.slice (some ⟨w.heap.size+3,0,none⟩) 0 0,.int .i64 tg],.bool true]) ?_ rfl ?_
  ·simp [results,Tryz.results82,go_sem, *]
  ·unfold mP dx
   rw [E0.out,Hb.out,if_pos rfl]
   have hk5:w2.heap[w.heap.size+5]?=some (.cells #[.int .i64 0,.int .i64 0,.bool false,.bool false,.bool false,.int .i64 0,.int .i64 0,.bool false,.bool false,.bool false,.int .i64 0,.int .i64 0,.bool false,.bool false,.bool false,.int .i64 0,.int .i64 0,.bool false,.bool false,.bool false] 69 (0,0)):=(hb2.block _ (by simp [World.setCell];try omega)).trans (by repeat (first|rw [fH _ _ _ _ (by simp [World.setCell])]|rw [fI,if_neg (by first|(simp [World.setCell];done)|(exfalso;fail))]|rw [fI,if_pos (by first|(simp [World.setCell];done)|(exfalso;fail))]))
   have hk3:w2.heap[w.heap.size+3]?=some (.cells #[] 3 (0,0)):=(hb2.block _ (by simp [World.setCell];try omega)).trans (by repeat (first|rw [fH _ _ _ _ (by simp [World.setCell])]|rw [fI,if_neg (by first|(simp [World.setCell];done)|(exfalso;fail))]|rw [fI,if_pos (by first|(simp [World.setCell];done)|(exfalso;fail))]))
   exact ⟨_,_,rfl,xX (cur:=#[.int .i64 0,.int .i64 0,.bool false,.bool false,.bool false,.int .i64 0,.int .i64 0,.bool false,.bool false,.bool false,.int .i64 0,.int .i64 0,.bool false,.bool false,.bool false,.int .i64 0,.int .i64 0,.bool false,.bool false,.bool false]) (n:=4) (by (repeat rw [fH _ _ _ _ (by simp [World.setCell])]);exact hk5) (by omega) (by simp [maxLen]) rfl,xX (cur:=#[]) (by (repeat rw [fH _ _ _ _ (by simp [World.setCell])]);exact hk3) (by omega) (by simp [maxLen]) rfl,(by (repeat (with_reducible first|exact bA _ _|refine bB ?_ ?_ _|refine bC ?_ _|refine bD ?_|refine bE ?_ ?_ _|refine bF ?_ (by assumption) ?_))<;>first|omega|(simp;try omega))⟩
theorem lh (k:Int) (l:Lab) (tg:Int) (w:World):Calls Tryz.prog 82 #[.int .i64 k,l.val,.int .i64 tg] w (mP k l tg w):=by
 by_cases hk:k=2∨k=3
 ·exact qi k l tg w hk
 ·exact sj k l tg w hk
theorem zA (k:Int) (l:Lab) (tg:Int) (w:World):Calls Tryz.prog 82 #[.int .i64 k,l.val,.int .i64 tg] w (II k l tg w):=
 (lh k l tg w).mono fun _ _ h=>h.post
end Go.Proofs.YthhmolonhpaepaaGreatDoor
namespace Go.Proofs.YthhmolonhpaepaaGreatDoor
open Go.RowKit Drw
attribute [local go_sem] Lab.val Rgt.val Cal.val Thg.val
def ThgP (w wa:World) (R N b m:Nat):Prop:=∃ (t:Thg) (sv qv:Value),R<b∧wa.heap.size≤b∧(w.cell? ⟨b,0,none⟩=some (.int .i64 t.kind)∧w.cell? ⟨b,1,none⟩=some (.int .i64 t.lab.s)∧w.cell? ⟨b,2,none⟩=some (.int .i64 t.lab.v)∧w.cell? ⟨b,3,none⟩=some (.int .i64 t.aJ)∧w.cell? ⟨b,4,none⟩=some (.int .i64 t.num)∧w.cell? ⟨b,5,none⟩=some (sv)∧w.cell? ⟨b,6,none⟩=some (qv)∧w.cell? ⟨b,7,none⟩=some (.int .i64 t.to))∧(∀ j,w.frozen? ⟨b,j,none⟩=false)∧typeAt w b=some 32 ∧
 w.ownsRow wa.heap.size 69 5 sv t.slots.length ((t.slots.map Rgt.cells).flatten)∧w.ownsRow wa.heap.size 3 1 qv t.queue.length ((t.queue.map intCells).flatten)∧t.slots.length≤4∧t.queue.length+m≤3∧Chg (fun b=>b=R) wa w∧Rd w R N
def KS (w:World) (R N:Nat) (e:Ending) (w':World):Prop:=∃ (t:Thg) (sv qv:Value),e=.returned (t.val sv qv) ∧
 w'.ownsRow w.heap.size 69 5 sv t.slots.length ((t.slots.map Rgt.cells).flatten)∧w'.ownsRow w.heap.size 3 1 qv t.queue.length ((t.queue.map intCells).flatten)∧t.slots.length≤4∧t.queue.length≤3∧Chg (fun b=>b=R) w w'∧Rd w' R (N+12)
theorem oo (k:Int) (l:Lab) (tg:Int):(dx k l tg).slots.length≤4∧(dx k l tg).queue=[]:=by
 unfold dx
 by_cases h:aP (az k l tg)=true
 ·rw [if_pos h]
  unfold az
  by_cases h2:k=2∨k=3
  ·simp [h2]
  ·simp [h2]
 ·rw [if_neg h]
  exact ⟨by simp [Thg.zero],rfl⟩
set_option maxRecDepth 100000 in
set_option maxHeartbeats 4000000 in
theorem DU (R N:Nat) (k tg:Int) (w:World) (h:Rd w R N) (hN:N≤900000) :
  Calls Tryz.prog 99 #[.pointer (some ⟨R,0,none⟩),.int .i64 k,.int .i64 tg] w (KS w R N):=by
 have hR:=h.lt
 obtain ⟨i0,hi,hz0,hz1,hz2⟩:=info_parts jb
 go_enter Tryz.func99,Tryz.ntmps99
 go_upto_region 1 with (fail)
 obtain ⟨wa,hwa⟩:∃ wa:World,wa=w.alloc (.cells #[.int .i64 0,.int .i64 0,.int .i64 0,.int .i64 0,.int .i64 0,.slice none 0 0,.slice none 0 0,.int .i64 0] 32):=⟨_,rfl⟩
 have D5:Rd wa R N:=by rw [hwa];exact h.pure (by (repeat (with_reducible first|exact bA _ _|refine bB ?_ ?_ _|refine bC ?_ _|refine bD ?_|refine bE ?_ ?_ _|refine bF ?_ (by assumption) ?_))<;>first|omega|(simp;try omega))
 have zq:Chg (fun b=>b=R) w wa:=by rw [hwa];exact (by (repeat (with_reducible first|exact Chg.refl _ _|refine Chg.alloc ?_ _|refine Chg.drew ?_|refine Chg.drewN ?_ _|refine Chg.setCell ?_ ?_ _|refine Chg.trans ?_ (Chg.ah (by assumption))))<;>(first|omega|(simp;done)|(simp;omega)))
 rw [← hwa]
 have gc:wa.cell? ⟨w.heap.size,0,none⟩=some (.int .i64 0)∧wa.cell? ⟨w.heap.size,1,none⟩=some (.int .i64 0)∧wa.cell? ⟨w.heap.size,2,none⟩=some (.int .i64 0)∧wa.cell? ⟨w.heap.size,3,none⟩=some (.int .i64 0)∧wa.cell? ⟨w.heap.size,4,none⟩=some (.int .i64 0)∧wa.cell? ⟨w.heap.size,5,none⟩=some (.slice none 0 0)∧wa.cell? ⟨w.heap.size,6,none⟩=some (.slice none 0 0)∧wa.cell? ⟨w.heap.size,7,none⟩=some (.int .i64 0):=by rw [hwa];simp [go_sem]
 have gf:∀ j,wa.frozen? ⟨w.heap.size,j,none⟩=false:=by intro j;rw [hwa];simp [go_sem]
 have gl:w.heap.size<wa.heap.size:=by rw [hwa];simp
 have hL:w.heap.size≠R:=by omega
 clear hwa
 go_cut [7] (fun s7 wz=>∃ b,s7=.pointer (some ⟨b,0,none⟩)∧ThgP wz wa R (N+4) b 3)
 case first=>
  go_wp2_with (first
   | (go_at_call 34;refine (DW R _ _ D5 (by omega)).mono ?_;rintro e w1 ⟨⟨ls,lv⟩,rfl,hr1,hg1⟩)
   | (go_at_call 82;refine (lh k ⟨ls,lv⟩ tg _).mono ?_;rintro e w2 ⟨sv,qv,rfl,ho1,ho2,hb2⟩;obtain ⟨sp,sc,rfl⟩:=aH ho1;obtain ⟨qp,qc,rfl⟩:=aH ho2;obtain ⟨hsl,hql⟩:=oo k ⟨ls,lv⟩ tg;obtain ⟨tn,htn⟩:∃ tn,tn=dx k ⟨ls,lv⟩ tg:=⟨_,rfl⟩;rw [← htn] at ho1 ho2 hsl hql ⊢;clear htn;obtain ⟨tk,⟨tls,tlv⟩,tv,tnu,ts,tq,tt⟩:=tn;dsimp only at ho1 ho2 hsl hql;subst hql;have hL2:w.heap.size<w2.heap.size:=(by have:=hg1.size;have:=hb2.size;omega)))
  go_meet
  exact ⟨w2.heap.size,rfl,⟨tk,⟨tls,tlv⟩,tv,tnu,ts,[],tt⟩,_,_,by have:=hr1.lt;have:=hb2.size;omega,by have:=hg1.size;have:=hb2.size;omega,by simp [go_sem],fun j=>by simp [go_sem],Cv _ _ _,dR (own_below ho1 (by (repeat (with_reducible first|exact bA _ _|refine bB ?_ ?_ _|refine bC ?_ _|refine bD ?_|refine bE ?_ ?_ _|refine bF ?_ (by assumption) ?_))<;>first|omega|(simp;try omega))) hg1.size,dR (own_below ho2 (by (repeat (with_reducible first|exact bA _ _|refine bB ?_ ?_ _|refine bC ?_ _|refine bD ?_|refine bE ?_ ?_ _|refine bF ?_ (by assumption) ?_))<;>first|omega|(simp;try omega))) hg1.size,hsl,by simp,Chg.alloc (hg1.trans (Chg.ah hb2)) _,(hr1.pure hb2).pure (by (repeat (with_reducible first|exact bA _ _|refine bB ?_ ?_ _|refine bC ?_ _|refine bD ?_|refine bE ?_ ?_ _|refine bF ?_ (by assumption) ?_))<;>first|omega|(simp;try omega))⟩
 case rest=>
  obtain ⟨b,rfl,hT⟩:=hcut
  obtain ⟨wx,rfl⟩:∃ wx:World,wx=wc:=⟨_,rfl⟩
  obtain ⟨t,sv,qv,hRb,hbl,⟨c0,c1,c2,c3,c4,c5,c6,c7⟩,fz,hty,ho1,ho2,hsl,hql,hch,hrd⟩:=hT
  obtain ⟨tk,⟨tls,tlv⟩,tv,tnu,ts,tq,tt⟩:=t
  dsimp only at c0 c1 c2 c3 c4 c7 ho1 ho2 hsl hql
  obtain ⟨sp,sc,rfl⟩:=aH ho1
  obtain ⟨qp,qc,rfl⟩:=aH ho2
  have hbs:b<_:=World.block_lt_of_cell? _ _ c0
  have hbR:b≠R:=by omega
  go_upto_if 20 with (fail)
  go_cut [] (fun wz=>ThgP wz wa R (N+4) b 3)
  case first=>
   by_cases h0:tk=0
   ·subst h0
    go_wp2_with (go_at_call 82;refine (lh 1 ⟨0,0⟩ 0 _).mono ?_;rintro e w2 ⟨sv,qv,rfl,o1,o2,hb2⟩;obtain ⟨sp',sc',rfl⟩:=aH o1;obtain ⟨qp',qc',rfl⟩:=aH o2;obtain ⟨hsl',hql'⟩:=oo 1 ⟨0,0⟩ 0;obtain ⟨tn,htn⟩:∃ tn,tn=dx 1 ⟨0,0⟩ 0:=⟨_,rfl⟩;rw [← htn] at o1 o2 hsl' hql' ⊢;clear htn;obtain ⟨tk',⟨tls',tlv'⟩,tv',tnu',ts',tq',tt'⟩:=tn;dsimp only at o1 o2 hsl' hql';subst hql';have hgn:=(Chg.ah (S:=fun c=>c=R) hb2);have c0:=hgn.cell c0 hbR;have c1:=hgn.cell c1 hbR;have c2:=hgn.cell c2 hbR;have c3:=hgn.cell c3 hbR;have c4:=hgn.cell c4 hbR;have c5:=hgn.cell c5 hbR;have c6:=hgn.cell c6 hbR;have c7:=hgn.cell c7 hbR;have fz:=ai hgn hbs hbR fz;have hty:=dV hgn hty hbR;have hbs:b<_:=World.block_lt_of_cell? _ _ c0)
    go_meet
    have hx1:=hch.size
    exact ⟨⟨tk',⟨tls',tlv'⟩,tv',tnu',ts',[],tt'⟩,_,_,hRb,hbl,by simp [ag,c0,c1,c2,c3,c4,c5,c6,c7],fun j=>by simp [fz],by simp only [dL];exact hty,dR (aM (S:=fun c=>c=b) o1 (by (repeat refine Chg.setCell ?_ ?_ _)<;>first|exact Chg.refl _ _|rfl) (aX o1 hty (by decide))) (by omega),dR (aM (S:=fun c=>c=b) o2 (by (repeat refine Chg.setCell ?_ ?_ _)<;>first|exact Chg.refl _ _|rfl) (aX o2 hty (by decide))) (by omega),hsl',by simp<;>omega,(by (repeat refine Chg.av ?_ ?_ _)<;>first|exact (hch.trans hgn)|(show _≤b;omega)),(by (repeat refine Rd.av ?_ ?_ _)<;>first|exact Rd.mono (hrd.pure hb2) (by omega)|(show R<b;omega))⟩
   ·go_wp2
    go_meet
    exact ⟨⟨tk,⟨tls,tlv⟩,tv,tnu,ts,tq,tt⟩,_,_,hRb,hbl,⟨c0,c1,c2,c3,c4,c5,c6,c7⟩,fz,hty,ho1,ho2,hsl,hql,hch,hrd⟩
  case rest=>
   clear c0 c1 c2 c3 c4 c5 c6 c7 fz hty ho1 ho2 hsl hql hch hrd hbs hbR hbl hRb
   obtain ⟨wy,rfl⟩:∃ wx:World,wx=wc:=⟨_,rfl⟩
   obtain ⟨t,sv,qv,hRb,hbl,⟨c0,c1,c2,c3,c4,c5,c6,c7⟩,fz,hty,ho1,ho2,hsl,hql,hch,hrd⟩:=hcut
   obtain ⟨tk,⟨tls,tlv⟩,tv,tnu,ts,tq,tt⟩:=t
   dsimp only at c0 c1 c2 c3 c4 c7 ho1 ho2 hsl hql
   obtain ⟨sp,sc,rfl⟩:=aH ho1
   obtain ⟨qp,qc,rfl⟩:=aH ho2
   have hbs:b<_:=World.block_lt_of_cell? _ _ c0
   have hbR:b≠R:=by omega
   go_upto_block 0 with (fail)
   go_cut [] (fun wz=>ThgP wz wa R (N+8) b 0)
   case first=>
    have hRa:R<wa.heap.size:=D5.lt
    by_cases h1:tk=1
    ·subst h1
     go_wp2_with (first
      | (go_at_call 36;refine (aO R _ _ _ (hrd) (by omega) (by omega)).mono ?_;rintro e w2 ⟨k2,rfl,h2a,h2b,hr2,hg2⟩;have c0:=hg2.cell c0 hbR;have c1:=hg2.cell c1 hbR;have c2:=hg2.cell c2 hbR;have c3:=hg2.cell c3 hbR;have c4:=hg2.cell c4 hbR;have c5:=hg2.cell c5 hbR;have c6:=hg2.cell c6 hbR;have c7:=hg2.cell c7 hbR;have fz:=ai hg2 hbs hbR fz;have hty:=dV hg2 hty hbR;have hbs:b<_:=World.block_lt_of_cell? _ _ c0;have ho1:=aM ho1 hg2 (fun c hc=>by have:=(ho1.lt c hc).1;omega);have ho2:=aM ho2 hg2 (fun c hc=>by have:=(ho2.lt c hc).1;omega);have hchA:=hch.trans hg2)
      | (go_at_call 36;refine (aO R _ _ _ (Rd.av hr2 (show R<b by omega) _) (by omega) (by omega)).mono ?_;rintro e w3 ⟨k3,rfl,h3a,h3b,hr3,hg3⟩;have ho1:=aM (aM (S:=fun c=>c=b) ho1 (Chg.setCell (S:=fun c=>c=b) (p:=⟨b,4,none⟩) (Chg.refl _ _) rfl _) (aX ho1 hty (by decide))) hg3 (fun c hc=>by have:=(ho1.lt c hc).1;omega);have ho2:=aM (aM (S:=fun c=>c=b) ho2 (Chg.setCell (S:=fun c=>c=b) (p:=⟨b,4,none⟩) (Chg.refl _ _) rfl _) (aX ho2 hty (by decide))) hg3 (fun c hc=>by have:=(ho2.lt c hc).1;omega);have c0:w3.cell? ⟨b,0,none⟩=some (.int .i64 1):=hg3.cell (by simp [ag,c0]) hbR;have c1:w3.cell? ⟨b,1,none⟩=some (.int .i64 tls):=hg3.cell (by simp [ag,c1]) hbR;have c2:w3.cell? ⟨b,2,none⟩=some (.int .i64 tlv):=hg3.cell (by simp [ag,c2]) hbR;have c3:w3.cell? ⟨b,3,none⟩=some (.int .i64 tv):=hg3.cell (by simp [ag,c3]) hbR;have c4:w3.cell? ⟨b,4,none⟩=some (.int .i64 k2):=hg3.cell (by simp [ag,c4]) hbR;have c5:w3.cell? ⟨b,5,none⟩=some (.slice sp ts.length sc):=hg3.cell (by simp [ag,c5]) hbR;have c6:w3.cell? ⟨b,6,none⟩=some (.slice qp tq.length qc):=hg3.cell (by simp [ag,c6]) hbR;have c7:w3.cell? ⟨b,7,none⟩=some (.int .i64 tt):=hg3.cell (by simp [ag,c7]) hbR;have fz:=ai hg3 (by simpa using hbs) hbR (fun j=>by simp [fz]);have hty:=dV hg3 (by rw [dL];exact hty) hbR))
     go_meet
     exact ⟨⟨1,⟨tls,tlv⟩,k3 / 2,k2,ts,tq,tt⟩,_,_,hRb,hbl,by simp [ag,c0,c1,c2,c3,c4,c5,c6,c7],fun j=>by simp [fz],by simp only [dL];exact hty,dR (aM (S:=fun c=>c=b) ho1 (by (repeat refine Chg.setCell ?_ ?_ _)<;>first|exact Chg.refl _ _|rfl) (aX ho1 hty (by decide))) (by omega),dR (aM (S:=fun c=>c=b) ho2 (by (repeat refine Chg.setCell ?_ ?_ _)<;>first|exact Chg.refl _ _|rfl) (aX ho2 hty (by decide))) (by omega),hsl,by simp<;>omega,(by (repeat refine Chg.av ?_ ?_ _)<;>first|exact ((hchA.av (by show _≤b;omega) _).trans hg3)|(show _≤b;omega)),(by (repeat refine Rd.av ?_ ?_ _)<;>first|exact Rd.mono hr3 (by omega)|(show R<b;omega))⟩
    ·by_cases h4:tk=4
     ·subst h4
      go_wp2_with (go_at_call 36;refine (aO R _ _ _ (hrd) (by omega) (by omega)).mono ?_;rintro e w2 ⟨k2,rfl,h2a,h2b,hr2,hg2⟩;have c0:=hg2.cell c0 hbR;have c1:=hg2.cell c1 hbR;have c2:=hg2.cell c2 hbR;have c3:=hg2.cell c3 hbR;have c4:=hg2.cell c4 hbR;have c5:=hg2.cell c5 hbR;have c6:=hg2.cell c6 hbR;have c7:=hg2.cell c7 hbR;have fz:=ai hg2 hbs hbR fz;have hty:=dV hg2 hty hbR;have hbs:b<_:=World.block_lt_of_cell? _ _ c0;have ho1:=aM ho1 hg2 (fun c hc=>by have:=(ho1.lt c hc).1;omega);have ho2:=aM ho2 hg2 (fun c hc=>by have:=(ho2.lt c hc).1;omega))
      obtain ⟨k2,rfl⟩:∃ n:Nat,k2=(n:Int):=⟨k2.toNat,by omega⟩
      go_loopw [9] (fun s9 wr=>∃ m:Nat,s9=.int .i64 (m:Int)∧m≤3∧ThgP wr wa R (N+8 - m) b m) (fun s9 _=>(intOf s9).toNat)
      case atStart=>exact ⟨k2,rfl,by omega,⟨4,⟨tls,tlv⟩,tv,tnu,ts,tq,tt⟩,_,_,hRb,hbl,⟨c0,c1,c2,c3,c4,c5,c6,c7⟩,fz,hty,ho1,ho2,hsl,by show tq.length+k2≤3;omega,hch.trans hg2,hr2.mono (by omega)⟩
      case round=>
       obtain ⟨wz,rfl⟩:∃ wx:World,wx=wr:=⟨_,rfl⟩
       clear c0 c1 c2 c3 c4 c5 c6 c7 fz hty ho1 ho2 hsl hql hch hrd hbs hbR hbl hRb hg2 hr2
       obtain ⟨m,rfl,hm,hT⟩:=hrel
       by_cases hm0:m=0
       ·subst hm0
        go_wp2
        go_meet
        exact hT
       ·obtain ⟨m,rfl⟩:∃ m',m=m' + 1:=⟨m - 1,by omega⟩
        have hm1:0<m+1:=by omega
        obtain ⟨t,sv,qv,hRb,hbl,⟨c0,c1,c2,c3,c4,c5,c6,c7⟩,fz,hty,ho1,ho2,hsl,hql,hch,hrd⟩:=hT
        obtain ⟨tk,⟨tls,tlv⟩,tv,tnu,ts,tq,tt⟩:=t
        dsimp only at c0 c1 c2 c3 c4 c7 ho1 ho2 hsl hql
        obtain ⟨sp,sc,rfl⟩:=aH ho1
        obtain ⟨qp,qc,rfl⟩:=aH ho2
        have hbs:b<_:=World.block_lt_of_cell? _ _ c0
        have hbR:b≠R:=by omega
        have hq3:tq.length+(m+1)≤3:=hql
        go_upto_region 12 with (fail)
        have hrd':Rd wz.drew R (N+8 - (m+1)):=hrd.pure (Below.drew (Below.refl _ _))
        have hgd:Chg (fun b=>b=R) wz wz.drew:=Chg.drew (Chg.refl _ _)
        go_region_law (first|(go_simp;go_at_call 36;refine (aO R _ _ _ (hrd') (by omega) (by omega)).mono ?_;rintro e w2 ⟨k2,rfl,h2a,h2b,hr2,hg2⟩;have BL:=hgd.trans hg2;have c0:=BL.cell c0 hbR;have c1:=BL.cell c1 hbR;have c2:=BL.cell c2 hbR;have c3:=BL.cell c3 hbR;have c4:=BL.cell c4 hbR;have c5:=BL.cell c5 hbR;have c6:=BL.cell c6 hbR;have c7:=BL.cell c7 hbR;have fz:=ai BL hbs hbR fz;have hty:=dV BL hty hbR;have hbs:b<_:=World.block_lt_of_cell? _ _ c0;have ho1:=aM ho1 BL (fun c hc=>by have:=(ho1.lt c hc).1;omega);have ho2:=aM ho2 BL (fun c hc=>by have:=(ho2.lt c hc).1;omega);have hchA:=hch.trans BL)|(refine jh rfl (.tmp 46) (.tmp 49) 30 rfl wa.heap.size 3 i0 _ 1 8 Tryz.underlying30 hi hz0 hz1 hz2 rfl (by decide) _ tq.length _ rfl (ho2.alloc _) (.slice (some ⟨w2.heap.size,0,none⟩) 1 1) [intCells k2] rfl (bI [k2]) (Rows.one (by intro i u hu;rcases i with _|i;(simp [intCells] at hu;subst hu;simp [go_sem]);(simp [intCells] at hu))) (by simp [maxLen];omega) (by simp;omega) (by simp;have:=hchA.size;omega) ?_;intro v1 w3 ho3 hg3;obtain ⟨q1,n1,rfl⟩:=aH ho3;have hne:=aX ho2 hty (by decide);have hgb:=hg3.block b (by simp;omega) (fun e=>hne b e.symm rfl);have hcb:=(fun o=>World.cell?_of_block (a:=⟨b,o,none⟩) hgb);have hfb:=(fun o=>World.frozen?_of_block (a:=⟨b,o,none⟩) hgb);have hc6:=hcb 6))
        all_goals
         have e0:=(hcb 0).trans ((World.cell?_alloc_lt _ _ _ hbs).trans c0)
         have e1:=(hcb 1).trans ((World.cell?_alloc_lt _ _ _ hbs).trans c1)
         have e2:=(hcb 2).trans ((World.cell?_alloc_lt _ _ _ hbs).trans c2)
         have e3:=(hcb 3).trans ((World.cell?_alloc_lt _ _ _ hbs).trans c3)
         have e4:=(hcb 4).trans ((World.cell?_alloc_lt _ _ _ hbs).trans c4)
         have e5:=(hcb 5).trans ((World.cell?_alloc_lt _ _ _ hbs).trans c5)
         have e6:=(hcb 6).trans ((World.cell?_alloc_lt _ _ _ hbs).trans c6)
         have e7:=(hcb 7).trans ((World.cell?_alloc_lt _ _ _ hbs).trans c7)
         have hg3':(w2.alloc (.cells #[.int .i64 k2] 3)).grownBy w3 (Value.slice qp tq.length qc).ownBlock:=hg3
         have hgA:Chg (fun b=>b=R) w2 (w2.alloc (.cells #[.int .i64 k2] 3)):=Chg.alloc (Chg.refl _ _) _
         have hblA:Below w2.heap.size w2 (w2.alloc (.cells #[.int .i64 k2] 3)):=(by (repeat (with_reducible first|exact bA _ _|refine bB ?_ ?_ _|refine bC ?_ _|refine bD ?_|refine bE ?_ ?_ _|refine bF ?_ (by assumption) ?_))<;>first|omega|(simp;try omega))
         have hchB:Chg (fun b=>b=R) wa w3:=Chg.wm (hchA.trans hgA) hg3' (fun k hk=>(ho2.lt k hk).1)
         have hrB:Rd w3 R (N+8 - (m+1)+1):=(hr2.pure hblA).chg (Chg.gX hg3') (fun c hc e=>by have:=(ho2.lt c e.symm).1;omega)
         have htyB:typeAt w3 b=some 32:=dV (Chg.gX hg3') (dV hgA hty hbR) (fun e=>hne b e.symm rfl)
         have hoB1:=aM (own_below ho1 hblA) (Chg.gX hg3') (FW ho1 ho2 (by decide))
         have hoB2:w3.ownsRow wa.heap.size 3 1 (.slice q1 ((tq++[k2]).length) n1) (tq++[k2]).length (((tq++[k2]).map intCells).flatten):=by simpa using ho3
         have hfB:∀ j,w3.frozen? ⟨b,j,none⟩=false:=fun j=>(hfb j).trans ((World.frozen?_of_block (w:=w2) (hgA.block b hbs hbR)).trans (fz j))
         have HoB1:=Lib.hid hoB1
         have HoB2:=Lib.hid hoB2
         have Hch:=Lib.hid hchB
         have HrB:=Lib.hid hrB
         have HtyB:=Lib.hid htyB
         clear hcb hfb hgb hc6 ho3 hg3 hg3' hgA hblA hchB hrB htyB hoB1 hoB2 ho1 ho2 hne hchA hr2 hg2 BL hgd hrd' hrd hch
         go_wp2
         go_roundw
         case rel=>exact ⟨m,by go_num,by omega,⟨tk,⟨tls,tlv⟩,tv,tnu,ts,tq++[k2],tt⟩,_,_,hRb,hbl,by simp [ag,e0,e1,e2,e3,e4,e5,e6,e7],fun j=>by simp [hfB],by simp only [dL];exact HtyB.out,aM (S:=fun c=>c=b) HoB1.out (by (repeat refine Chg.setCell ?_ ?_ _)<;>first|exact Chg.refl _ _|rfl) (aX HoB1.out HtyB.out (by decide)),aM (S:=fun c=>c=b) HoB2.out (by (repeat refine Chg.setCell ?_ ?_ _)<;>first|exact Chg.refl _ _|rfl) (aX HoB2.out HtyB.out (by decide)),hsl,by simp;omega,Chg.av Hch.out hbl _,(Rd.av HrB.out hRb _).mono (by omega)⟩
         case measure=>simp [intOf]
     ·by_cases h3:tk=3
      ·subst h3
       go_wp2_with (go_at_call 36;refine (aO R _ _ _ (hrd) (by omega) (by omega)).mono ?_;rintro e w2 ⟨k2,rfl,h2a,h2b,hr2,hg2⟩;have c0:=hg2.cell c0 hbR;have c1:=hg2.cell c1 hbR;have c2:=hg2.cell c2 hbR;have c3:=hg2.cell c3 hbR;have c4:=hg2.cell c4 hbR;have c5:=hg2.cell c5 hbR;have c6:=hg2.cell c6 hbR;have c7:=hg2.cell c7 hbR;have fz:=ai hg2 hbs hbR fz;have hty:=dV hg2 hty hbR;have hbs:b<_:=World.block_lt_of_cell? _ _ c0;have ho1:=aM ho1 hg2 (fun c hc=>by have:=(ho1.lt c hc).1;omega);have ho2:=aM ho2 hg2 (fun c hc=>by have:=(ho2.lt c hc).1;omega))
       go_meet
       exact ⟨⟨3,⟨tls,tlv⟩,tv,k2 - 4,ts,tq,tt⟩,_,_,hRb,hbl,by simp [ag,c0,c1,c2,c3,c4,c5,c6,c7],fun j=>by simp [fz],by simp only [dL];exact hty,dR (aM (S:=fun c=>c=b) ho1 (by (repeat refine Chg.setCell ?_ ?_ _)<;>first|exact Chg.refl _ _|rfl) (aX ho1 hty (by decide))) (by omega),dR (aM (S:=fun c=>c=b) ho2 (by (repeat refine Chg.setCell ?_ ?_ _)<;>first|exact Chg.refl _ _|rfl) (aX ho2 hty (by decide))) (by omega),hsl,by simp<;>omega,(by (repeat refine Chg.av ?_ ?_ _)<;>first|exact (hch.trans hg2)|(show _≤b;omega)),(by (repeat refine Rd.av ?_ ?_ _)<;>first|exact Rd.mono hr2 (by omega)|(show R<b;omega))⟩
      ·go_wp2
       go_meet
       exact ⟨⟨tk,⟨tls,tlv⟩,tv,tnu,ts,tq,tt⟩,_,_,hRb,hbl,⟨c0,c1,c2,c3,c4,c5,c6,c7⟩,fz,hty,ho1,ho2,hsl,by simp;omega,hch,hrd.mono (by omega)⟩
   case rest=>
    clear c0 c1 c2 c3 c4 c5 c6 c7 fz hty ho1 ho2 hsl hql hch hrd hbs hbR hbl hRb
    obtain ⟨wz,rfl⟩:∃ wx:World,wx=wc:=⟨_,rfl⟩
    obtain ⟨t,sv,qv,hRb,hbl,⟨c0,c1,c2,c3,c4,c5,c6,c7⟩,fz,hty,ho1,ho2,hsl,hql,hch,hrd⟩:=hcut
    obtain ⟨tk,⟨tls,tlv⟩,tv,tnu,ts,tq,tt⟩:=t
    dsimp only at c0 c1 c2 c3 c4 c7 ho1 ho2 hsl hql
    obtain ⟨sp,sc,rfl⟩:=aH ho1
    obtain ⟨qp,qc,rfl⟩:=aH ho2
    have hbs:b<_:=World.block_lt_of_cell? _ _ c0
    have hbR:b≠R:=by omega
    have nK:=zq.trans hch
    have hL1:w.heap.size<wz.heap.size:=by have:=hch.size;omega
    obtain ⟨a0,a1,a2,a3,a4,a5,a6,a7⟩:=gc
    have n0:=hch.cell a0 hL
    have n1:=hch.cell a1 hL
    have n2:=hch.cell a2 hL
    have n3:=hch.cell a3 hL
    have n4:=hch.cell a4 hL
    have n5:=hch.cell a5 hL
    have n6:=hch.cell a6 hL
    have n7:=hch.cell a7 hL
    have nf:=ai hch gl hL gf
    have hLb:¬ w.heap.size=b:=by omega
    have hbL:¬ b=w.heap.size:=by omega
    clear a0 a1 a2 a3 a4 a5 a6 a7 gf
    go_wp2
    refine bodyPost_ret (v:=(Thg.mk tk ⟨tls,tlv⟩ tv tnu ts tq tt).val (.slice sp ts.length sc) (.slice qp tq.length qc)) (by simp [results,Tryz.results99,go_sem,Thg.val,ag, *]) rfl ⟨_,_,_,rfl,dR (aM (S:=fun c=>c=w.heap.size) ho1 (by (repeat refine Chg.setCell ?_ ?_ _)<;>first|exact Chg.refl _ _|rfl) (fun k hk e=>by have:=(ho1.lt k hk).1;omega)) (by omega),dR (aM (S:=fun c=>c=w.heap.size) ho2 (by (repeat refine Chg.setCell ?_ ?_ _)<;>first|exact Chg.refl _ _|rfl) (fun k hk e=>by have:=(ho2.lt k hk).1;omega)) (by omega),hsl,by omega,?_,?_⟩
    ·(repeat refine Chg.av ?_ ?_ _)<;>first|exact nK|exact Nat.le_refl _
    ·(repeat refine Rd.av ?_ ?_ _)<;>first|exact Rd.mono hrd (by omega)|exact hR
end Go.Proofs.YthhmolonhpaepaaGreatDoor
