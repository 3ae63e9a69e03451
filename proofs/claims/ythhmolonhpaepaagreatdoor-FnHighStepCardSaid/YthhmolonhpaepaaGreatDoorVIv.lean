/- The functions on one thing return what their plain functions say. Conditions: the thing's rights and numbers lie where its cells say. -/
import Derived.Test.YthhmolonhpaepaaGreatDoorVB
import Derived.Deep.DeepCutAuto
import Derived.LoopTactic
import Derived.Deep.MidRow
import Derived.Deep.RegionHeld3
import Derived.IntWalk
import Derived.WalkKit
import Derived.RegionTactic
import Derived.Orders
set_option linter.unusedVariables false
set_option linter.unusedSimpArgs false
namespace Go.Proofs.YthhmolonhpaepaaGreatDoor
open Go.RowKit Drw
attribute [local go_sem] Lab.val Rgt.val Cal.val Thg.val
set_option maxHeartbeats 400000 in
theorem Mm (t:Thg) (sv qv:Value) (w:World) :
  Calls Tryz.prog 103 #[t.val sv qv] w fun e w'=>e=.returned (.bool (qH t))∧Below w.heap.size w w':=by
 obtain ⟨k,⟨s,v⟩,ve,nu,sl,qu,tg⟩:=t
 go_enter Tryz.func103,Tryz.ntmps103
 go_wp2_with (go_at_call 67;refine (eD _ _ _ _).mono ?_;rintro e w' ⟨rfl,rfl⟩)
 all_goals go_ret
 all_goals refine ⟨aj ?_,(by (repeat (with_reducible first|exact bA _ _|refine bB ?_ ?_ _|refine bC ?_ _|refine bD ?_|refine bE ?_ ?_ _|refine bF ?_ (by assumption) ?_))<;>first|omega|(simp;try omega))⟩
 all_goals grind [qH]
set_option maxHeartbeats 400000 in
theorem I7 (t:Thg) (sv qv:Value) (w:World) :
  Calls Tryz.prog 102 #[t.val sv qv] w fun e w'=>e=.returned (.bool (kM t))∧Below w.heap.size w w':=by
 obtain ⟨k,⟨s,v⟩,ve,nu,sl,qu,tg⟩:=t
 go_enter Tryz.func102,Tryz.ntmps102
 go_wp2_with (go_at_call 67;refine (eD _ _ _ _).mono ?_;rintro e w' ⟨rfl,rfl⟩)
 all_goals go_ret
 all_goals refine ⟨aj ?_,(by (repeat (with_reducible first|exact bA _ _|refine bB ?_ ?_ _|refine bC ?_ _|refine bD ?_|refine bE ?_ ?_ _|refine bF ?_ (by assumption) ?_))<;>first|omega|(simp;try omega))⟩
 all_goals grind [kM]
set_option maxHeartbeats 400000 in
theorem Cx (t:Thg) (sv qv:Value) (w:World) :
  Calls Tryz.prog 106 #[t.val sv qv] w fun e w'=>e=.returned (.bool (jT t))∧Below w.heap.size w w':=by
 obtain ⟨k,⟨s,v⟩,ve,nu,sl,qu,tg⟩:=t
 go_enter Tryz.func106,Tryz.ntmps106
 go_wp2_with (go_at_call 67;refine (eD _ _ _ _).mono ?_;rintro e w' ⟨rfl,rfl⟩)
 all_goals go_ret
 all_goals refine ⟨aj ?_,(by (repeat (with_reducible first|exact bA _ _|refine bB ?_ ?_ _|refine bC ?_ _|refine bD ?_|refine bE ?_ ?_ _|refine bF ?_ (by assumption) ?_))<;>first|omega|(simp;try omega))⟩
 all_goals grind [jT]
theorem je {α:Type} (p:α→Bool) (xs:List α) (k:Nat) (h:k<xs.length):(xs.take (k+1)).all p=((xs.take k).all p && p xs[k]):=by
 rw [List.take_succ_eq_append_getElem h,List.all_append];simp
set_option maxHeartbeats 1000000 in
theorem FL (t:Thg) (sv qv:Value) (w:World) (hq:aG w qv t.queue) :
  Calls Tryz.prog 105 #[t.val sv qv] w fun e w'=>e=.returned (.bool (dS t))∧Below w.heap.size w w':=by
 obtain ⟨k,⟨s,v⟩,ve,nu,sl,qu,tg⟩:=t
 dsimp only [Thg.val] at hq ⊢
 obtain ⟨p,cap,rfl,hl1,hl2⟩:=hq.len
 unfold maxLen at hl2
 by_cases h4:k=4
 ·by_cases h3:qu.length≤3
  ·subst h4
   go_enter Tryz.func105,Tryz.ntmps105
   go_wp2
   go_loop [4,19] (fun _ i=>∃ j:Nat,j≤qu.length∧i=.int .i64 j∧(qu.take j).all (fun n=>inR n 0 99)=true) (fun _ i=>qu.length - (intOf i).toNat)
   case atStart=>exact ⟨0,Nat.zero_le _,rfl,by simp⟩
   case round=>
    obtain ⟨j,hj,rfl,hall⟩:=hrel
    have lL:=Lib.hid hall
    clear hall
    by_cases hlt:j<qu.length
    ·obtain ⟨b,o,rfl,hbk,hc⟩:=hq.at j qu[j] (by simp [hlt])
     go_wp2_with (go_at_call 67;refine (eD _ _ _ _).mono ?_;rintro e w' ⟨rfl,rfl⟩)
     ·go_ret
      refine ⟨aj ?_,(by (repeat (with_reducible first|exact bA _ _|refine bB ?_ ?_ _|refine bC ?_ _|refine bD ?_|refine bE ?_ ?_ _|refine bF ?_ (by assumption) ?_))<;>first|omega|(simp;try omega))⟩
      have hb:(!inR qu[j] 0 99)=true:=by assumption
      simp [dS,h3]
      exact ⟨qu[j],by simp,by simpa using hb⟩
     ·go_round
      case rel=>
       have hb:(!inR qu[j] 0 99)=false:=by assumption
       exact ⟨j+1,by omega,by go_num,by rw [je _ _ _ hlt,lL.out];simpa using hb⟩
      case measure=>simp [intOf];omega
    ·go_wp2
     go_ret
     refine ⟨aj ?_,(by (repeat (with_reducible first|exact bA _ _|refine bB ?_ ?_ _|refine bC ?_ _|refine bD ?_|refine bE ?_ ?_ _|refine bF ?_ (by assumption) ?_))<;>first|omega|(simp;try omega))⟩
     have e:j=qu.length:=by omega
     have:=lL.out
     rw [e,List.take_of_length_le (Nat.le_refl _)] at this
     simp [dS,h3,this]
  ·go_enter Tryz.func105,Tryz.ntmps105
   go_wp2
   go_ret
   refine ⟨aj ?_,(by (repeat (with_reducible first|exact bA _ _|refine bB ?_ ?_ _|refine bC ?_ _|refine bD ?_|refine bE ?_ ?_ _|refine bF ?_ (by assumption) ?_))<;>first|omega|(simp;try omega))⟩
   simp [dS,h3,h4]
 ·go_enter Tryz.func105,Tryz.ntmps105
  go_wp2
  go_ret
  refine ⟨aj ?_,(by (repeat (with_reducible first|exact bA _ _|refine bB ?_ ?_ _|refine bC ?_ _|refine bD ?_|refine bE ?_ ?_ _|refine bF ?_ (by assumption) ?_))<;>first|omega|(simp;try omega))⟩
  rw [Bool.eq_iff_iff]
  simp [dS,h4]
theorem four {α:Type} {l:List α} (h:l.length=4):∃ a b c d,l=[a,b,c,d]:=by
 match l,h with
 | [a,b,c,d],_=>exact ⟨a,b,c,d,rfl⟩
theorem KH (w:World) (a:Addr) (c:Nat):(Instr.arrayAt 175 (.slice (some a) 4 c)).run Tryz.prog w=.ok (.pointer (some a)) w:=by
 simp [Instr.arrayAt,run_underlying Tryz.underlying175]
set_option maxRecDepth 100000 in
set_option maxHeartbeats 1000000 in
theorem zC (t:Thg) (sv qv:Value) (w:World) (hs:aF w sv t.slots) (hk:t.kind=2∨t.kind=3) (h4:t.slots.length=4) :
  Calls Tryz.prog 104 #[t.val sv qv] w fun e w'=>e=.returned (.bool (bH t))∧Below w.heap.size w w':=by
 obtain ⟨k,⟨s,v⟩,ve,nu,sl,qu,tg⟩:=t
 dsimp only [Thg.val] at hs hk h4 ⊢
 obtain ⟨r0,r1,r2,r3,rfl⟩:=four h4
 obtain ⟨p,cap,rfl,hl1,hl2⟩:=hs.len
 unfold maxLen at hl2
 simp only [List.length_cons,List.length_nil] at hl1 h4
 obtain ⟨b,o,rfl,hbk,c0,c1,c2,c3,c4⟩:=hs.at 0 r0 rfl
 obtain ⟨b',o',h',_,c5,c6,c7,c8,c9⟩:=hs.at 1 r1 rfl
 cases h'
 obtain ⟨b',o',h',_,d0,d1,d2,d3,d4⟩:=hs.at 2 r2 rfl
 cases h'
 obtain ⟨b',o',h',_,d5,d6,d7,d8,d9⟩:=hs.at 3 r3 rfl
 cases h'
 simp only [Nat.reduceMul,Nat.add_zero,Nat.add_assoc,Nat.reduceAdd] at c0 c1 c2 c3 c4 c5 c6 c7 c8 c9 d0 d1 d2 d3 d4 d5 d6 d7 d8 d9
 clear h4
 have hlen:(4:Nat)≤cap:=hl1
 have hrg:w.rangeAt b o [.int .i64 r0.thing,.int .i64 r0.aJ,.bool r0.rd,.bool r0.wr,.bool r0.wk,.int .i64 r1.thing,.int .i64 r1.aJ,.bool r1.rd,.bool r1.wr,.bool r1.wk,.int .i64 r2.thing,.int .i64 r2.aJ,.bool r2.rd,.bool r2.wr,.bool r2.wk,.int .i64 r3.thing,.int .i64 r3.aJ,.bool r3.rd,.bool r3.wr,.bool r3.wk]:=by
  intro j v hj
  have hj':j<20:=(List.getElem?_eq_some_iff.1 hj).1
  have:j=0∨j=1∨j=2∨j=3∨j=4∨j=5∨j=6∨j=7∨j=8∨j=9∨j=10∨j=11∨j=12∨j=13∨j=14∨j=15∨j=16∨j=17∨j=18∨j=19:=by omega
  rcases this with rfl|rfl|rfl|rfl|rfl|rfl|rfl|rfl|rfl|rfl|rfl|rfl|rfl|rfl|rfl|rfl|rfl|rfl|rfl|rfl<;>(cases hj;assumption)
 clear c0 c1 c2 c3 c4 c5 c6 c7 c8 c9 d0 d1 d2 d3 d4 d5 d6 d7 d8 d9
 have ha:=KH
 have i0:∀ (w:World),(Instr.index 175 (.agg #[.int .i64 r0.thing,.int .i64 r0.aJ,.bool r0.rd,.bool r0.wr,.bool r0.wk,.int .i64 r1.thing,.int .i64 r1.aJ,.bool r1.rd,.bool r1.wr,.bool r1.wk,.int .i64 r2.thing,.int .i64 r2.aJ,.bool r2.rd,.bool r2.wr,.bool r2.wk,.int .i64 r3.thing,.int .i64 r3.aJ,.bool r3.rd,.bool r3.wr,.bool r3.wk]) (.int .i64 0)).run Tryz.prog w=.ok (.agg #[.int .i64 r0.thing,.int .i64 r0.aJ,.bool r0.rd,.bool r0.wr,.bool r0.wk]) w:=fun _=>by kernel_rfl
 have i1:∀ (w:World),(Instr.index 175 (.agg #[.int .i64 r0.thing,.int .i64 r0.aJ,.bool r0.rd,.bool r0.wr,.bool r0.wk,.int .i64 r1.thing,.int .i64 r1.aJ,.bool r1.rd,.bool r1.wr,.bool r1.wk,.int .i64 r2.thing,.int .i64 r2.aJ,.bool r2.rd,.bool r2.wr,.bool r2.wk,.int .i64 r3.thing,.int .i64 r3.aJ,.bool r3.rd,.bool r3.wr,.bool r3.wk]) (.int .i64 1)).run Tryz.prog w=.ok (.agg #[.int .i64 r1.thing,.int .i64 r1.aJ,.bool r1.rd,.bool r1.wr,.bool r1.wk]) w:=fun _=>by kernel_rfl
 have i2:∀ (w:World),(Instr.index 175 (.agg #[.int .i64 r0.thing,.int .i64 r0.aJ,.bool r0.rd,.bool r0.wr,.bool r0.wk,.int .i64 r1.thing,.int .i64 r1.aJ,.bool r1.rd,.bool r1.wr,.bool r1.wk,.int .i64 r2.thing,.int .i64 r2.aJ,.bool r2.rd,.bool r2.wr,.bool r2.wk,.int .i64 r3.thing,.int .i64 r3.aJ,.bool r3.rd,.bool r3.wr,.bool r3.wk]) (.int .i64 2)).run Tryz.prog w=.ok (.agg #[.int .i64 r2.thing,.int .i64 r2.aJ,.bool r2.rd,.bool r2.wr,.bool r2.wk]) w:=fun _=>by kernel_rfl
 have i3:∀ (w:World),(Instr.index 175 (.agg #[.int .i64 r0.thing,.int .i64 r0.aJ,.bool r0.rd,.bool r0.wr,.bool r0.wk,.int .i64 r1.thing,.int .i64 r1.aJ,.bool r1.rd,.bool r1.wr,.bool r1.wk,.int .i64 r2.thing,.int .i64 r2.aJ,.bool r2.rd,.bool r2.wr,.bool r2.wk,.int .i64 r3.thing,.int .i64 r3.aJ,.bool r3.rd,.bool r3.wr,.bool r3.wk]) (.int .i64 3)).run Tryz.prog w=.ok (.agg #[.int .i64 r3.thing,.int .i64 r3.aJ,.bool r3.rd,.bool r3.wr,.bool r3.wk]) w:=fun _=>by kernel_rfl
 rcases hk with rfl|rfl
 all_goals
  go_enter Tryz.func104,Tryz.ntmps104
  go_wp2_with (refine wpList_load_mid rfl 175 _ rfl b o rfl [.int .i64 r0.thing,.int .i64 r0.aJ,.bool r0.rd,.bool r0.wr,.bool r0.wk,.int .i64 r1.thing,.int .i64 r1.aJ,.bool r1.rd,.bool r1.wr,.bool r1.wk,.int .i64 r2.thing,.int .i64 r2.aJ,.bool r2.rd,.bool r2.wr,.bool r2.wk,.int .i64 r3.thing,.int .i64 r3.aJ,.bool r3.rd,.bool r3.wr,.bool r3.wk] _ (World.rangeAt_alloc hrg _) Tryz.underlying175 rfl (by kernel_rfl) ?_)
  go_loopw [25] (fun i wr=>∃ j:Nat,j≤4∧i=.int .i64 j∧Below w.heap.size w wr∧([r0,r1,r2,r3].take j).all aZ=true) (fun i _=>4 - (intOf i).toNat)
  case atStart=>exact ⟨0,by omega,rfl,(by (repeat (with_reducible first|exact bA _ _|refine bB ?_ ?_ _|refine bC ?_ _|refine bD ?_|refine bE ?_ ?_ _|refine bF ?_ (by assumption) ?_))<;>first|omega|(simp;try omega)),rfl⟩
  case round=>
   obtain ⟨j,hj,rfl,hB,hall⟩:=hrel
   have lL:=Lib.hid hall
   clear hall
   have hj:j=0∨j=1∨j=2∨j=3∨j=4:=by omega
   have hle:=hB.size
   rcases hj with rfl|rfl|rfl|rfl|rfl
   ·go_wp2_with (go_at_call 150;refine (gG ⟨_,_,_,_,_⟩ _).mono ?_;rintro e w1 ⟨rfl,hb1⟩)
    ·go_ret
     have hb:aZ r0=false:=by have h:=‹(!aZ _)=true›;simpa using h
     exact ⟨aj (by simp [bH,hb]),(by (repeat (with_reducible first|exact bA _ _|refine bB ?_ ?_ _|refine bC ?_ _|refine bD ?_|refine bE ?_ ?_ _|refine bF ?_ (by assumption) ?_))<;>first|omega|(simp;try omega))⟩
    ·have hb:aZ r0=true:=by have h:=‹(!aZ _)=false›;simpa using h
     exact ⟨⟨1,by omega,rfl,(by (repeat (with_reducible first|exact bA _ _|refine bB ?_ ?_ _|refine bC ?_ _|refine bD ?_|refine bE ?_ ?_ _|refine bF ?_ (by assumption) ?_))<;>first|omega|(simp;try omega)),by simp [hb]⟩,by simp [intOf]⟩
   ·go_wp2_with (go_at_call 150;refine (gG ⟨_,_,_,_,_⟩ _).mono ?_;rintro e w1 ⟨rfl,hb1⟩)
    ·go_ret
     have hb:aZ r1=false:=by have h:=‹(!aZ _)=true›;simpa using h
     exact ⟨aj (by simp [bH,hb]),(by (repeat (with_reducible first|exact bA _ _|refine bB ?_ ?_ _|refine bC ?_ _|refine bD ?_|refine bE ?_ ?_ _|refine bF ?_ (by assumption) ?_))<;>first|omega|(simp;try omega))⟩
    ·have hb:aZ r1=true:=by have h:=‹(!aZ _)=false›;simpa using h
     have:=lL.out
     exact ⟨⟨2,by omega,rfl,(by (repeat (with_reducible first|exact bA _ _|refine bB ?_ ?_ _|refine bC ?_ _|refine bD ?_|refine bE ?_ ?_ _|refine bF ?_ (by assumption) ?_))<;>first|omega|(simp;try omega)),by simpa [hb] using this⟩,by simp [intOf]⟩
   ·go_wp2_with (go_at_call 150;refine (gG ⟨_,_,_,_,_⟩ _).mono ?_;rintro e w1 ⟨rfl,hb1⟩)
    ·go_ret
     have hb:aZ r2=false:=by have h:=‹(!aZ _)=true›;simpa using h
     exact ⟨aj (by simp [bH,hb]),(by (repeat (with_reducible first|exact bA _ _|refine bB ?_ ?_ _|refine bC ?_ _|refine bD ?_|refine bE ?_ ?_ _|refine bF ?_ (by assumption) ?_))<;>first|omega|(simp;try omega))⟩
    ·have hb:aZ r2=true:=by have h:=‹(!aZ _)=false›;simpa using h
     have:=lL.out
     exact ⟨⟨3,by omega,rfl,(by (repeat (with_reducible first|exact bA _ _|refine bB ?_ ?_ _|refine bC ?_ _|refine bD ?_|refine bE ?_ ?_ _|refine bF ?_ (by assumption) ?_))<;>first|omega|(simp;try omega)),by simpa [hb] using this⟩,by simp [intOf]⟩
   ·go_wp2_with (go_at_call 150;refine (gG ⟨_,_,_,_,_⟩ _).mono ?_;rintro e w1 ⟨rfl,hb1⟩)
    ·go_ret
     have hb:aZ r3=false:=by have h:=‹(!aZ _)=true›;simpa using h
     exact ⟨aj (by simp [bH,hb]),(by (repeat (with_reducible first|exact bA _ _|refine bB ?_ ?_ _|refine bC ?_ _|refine bD ?_|refine bE ?_ ?_ _|refine bF ?_ (by assumption) ?_))<;>first|omega|(simp;try omega))⟩
    ·have hb:aZ r3=true:=by have h:=‹(!aZ _)=false›;simpa using h
     have:=lL.out
     exact ⟨⟨4,by omega,rfl,(by (repeat (with_reducible first|exact bA _ _|refine bB ?_ ?_ _|refine bC ?_ _|refine bD ?_|refine bE ?_ ?_ _|refine bF ?_ (by assumption) ?_))<;>first|omega|(simp;try omega)),by simpa [hb] using this⟩,by simp [intOf]⟩
   ·go_wp2
    go_ret
    have:=lL.out
    exact ⟨aj (by simpa [bH] using this),hB⟩
set_option maxRecDepth 100000 in
set_option maxHeartbeats 1000000 in
theorem CE (t:Thg) (sv qv:Value) (w:World) (hs:aF w sv t.slots) (h:¬ ((t.kind=2∨t.kind=3)∧t.slots.length=4)) :
  Calls Tryz.prog 104 #[t.val sv qv] w fun e w'=>e=.returned (.bool (bH t))∧Below w.heap.size w w':=by
 obtain ⟨k,⟨s,v⟩,ve,nu,sl,qu,tg⟩:=t
 dsimp only [Thg.val] at hs h ⊢
 obtain ⟨p,cap,rfl,hl1,hl2⟩:=hs.len
 unfold maxLen at hl2
 by_cases hk:k=2∨k=3
 ·have h4:((sl.length:Int) != 4)=true:=by have:¬ sl.length=4:=fun e=>h ⟨hk,e⟩;simp;omega
  have h4':¬ sl.length=4:=fun e=>h ⟨hk,e⟩
  clear h
  rcases hk with rfl|rfl
  all_goals
   go_enter Tryz.func104,Tryz.ntmps104
   go_wp2
   all_goals go_ret
   all_goals refine ⟨aj ?_,(by (repeat (with_reducible first|exact bA _ _|refine bB ?_ ?_ _|refine bC ?_ _|refine bD ?_|refine bE ?_ ?_ _|refine bF ?_ (by assumption) ?_))<;>first|omega|(simp;try omega))⟩
   all_goals (simp [bH,h4'])
 ·have h2:(k != 2)=true:=by simp;omega
  have h3:(k != 3)=true:=by simp;omega
  have hk2:¬ k=2:=by omega
  have hk3:¬ k=3:=by omega
  clear h
  go_enter Tryz.func104,Tryz.ntmps104
  go_wp2
  all_goals go_ret
  all_goals refine ⟨aj ?_,(by (repeat (with_reducible first|exact bA _ _|refine bB ?_ ?_ _|refine bC ?_ _|refine bD ?_|refine bE ?_ ?_ _|refine bF ?_ (by assumption) ?_))<;>first|omega|(simp;try omega))⟩
  all_goals (rw [Bool.eq_iff_iff];simp [bH,hk2,hk3])
theorem EU (t:Thg) (sv qv:Value) (w:World) (hs:aF w sv t.slots) :
  Calls Tryz.prog 104 #[t.val sv qv] w fun e w'=>e=.returned (.bool (bH t))∧Below w.heap.size w w':=by
 by_cases h:(t.kind=2∨t.kind=3)∧t.slots.length=4
 ·exact zC t sv qv w hs h.1 h.2
 ·exact CE t sv qv w hs h
set_option maxRecDepth 100000 in
set_option maxHeartbeats 1000000 in
theorem lN (t:Thg) (sv qv:Value) (w:World) (hs:aF w sv t.slots) (hq:aG w qv t.queue) :
  Calls Tryz.prog 68 #[t.val sv qv] w fun e w'=>e=.returned (.bool (aP t))∧Below w.heap.size w w':=by
 obtain ⟨k,⟨s,v⟩,ve,nu,sl,qu,tg⟩:=t
 dsimp only [Thg.val] at hs hq ⊢
 go_enter Tryz.func68,Tryz.ntmps68
 go_wp2_with (first
  | (go_at_call 67;refine (eD _ _ _ _).mono ?_;rintro e w' ⟨rfl,rfl⟩)
  | (go_at_call 39;refine (jK ⟨_,_⟩ _).mono ?_;rintro e w1 ⟨rfl,hb1⟩;obtain ⟨hc1,hf1⟩:=ax hb1;have hz0:w.heap.size<w1.heap.size:=(by have:=hb1.size;(try simp at this);omega))
  | (go_at_call 102;refine (I7 ⟨_,⟨_,_⟩,_,_,sl,qu,_⟩ _ _ _).mono ?_;rintro e w1 ⟨rfl,hb1⟩;obtain ⟨hc1,hf1⟩:=ax hb1;have hz0:w.heap.size<w1.heap.size:=(by have:=hb1.size;(try simp at this);omega))
  | (go_at_call 103;refine (Mm ⟨_,⟨_,_⟩,_,_,sl,qu,_⟩ _ _ _).mono ?_;rintro e w1 ⟨rfl,hb1⟩;obtain ⟨hc1,hf1⟩:=ax hb1;have hz0:w.heap.size<w1.heap.size:=(by have:=hb1.size;(try simp at this);omega))
  | (go_at_call 104;refine (EU ⟨_,⟨_,_⟩,_,_,sl,qu,_⟩ _ _ _ (hs.pure (by (repeat (with_reducible first|exact bA _ _|refine bB ?_ ?_ _|refine bC ?_ _|refine bD ?_|refine bE ?_ ?_ _|refine bF ?_ (by assumption) ?_))<;>first|omega|(simp;try omega)))).mono ?_;rintro e w1 ⟨rfl,hb1⟩;obtain ⟨hc1,hf1⟩:=ax hb1;have hz0:w.heap.size<w1.heap.size:=(by have:=hb1.size;(try simp at this);omega))
  | (go_at_call 105;refine (FL ⟨_,⟨_,_⟩,_,_,sl,qu,_⟩ _ _ _ (hq.pure (by (repeat (with_reducible first|exact bA _ _|refine bB ?_ ?_ _|refine bC ?_ _|refine bD ?_|refine bE ?_ ?_ _|refine bF ?_ (by assumption) ?_))<;>first|omega|(simp;try omega)))).mono ?_;rintro e w1 ⟨rfl,hb1⟩;obtain ⟨hc1,hf1⟩:=ax hb1;have hz0:w.heap.size<w1.heap.size:=(by have:=hb1.size;(try simp at this);omega))
  | (go_at_call 106;refine (Cx ⟨_,⟨_,_⟩,_,_,sl,qu,_⟩ _ _ _).mono ?_;rintro e w1 ⟨rfl,hb1⟩;obtain ⟨hc1,hf1⟩:=ax hb1;have hz0:w.heap.size<w1.heap.size:=(by have:=hb1.size;(try simp at this);omega)))
 all_goals go_ret
 all_goals refine ⟨aj ?_,(by (repeat (with_reducible first|exact bA _ _|refine bB ?_ ?_ _|refine bC ?_ _|refine bD ?_|refine bE ?_ ?_ _|refine bF ?_ (by assumption) ?_))<;>first|omega|(simp;try omega))⟩
 all_goals simp [aP, *]
end Go.Proofs.YthhmolonhpaepaaGreatDoor
namespace Go.Proofs.YthhmolonhpaepaaGreatDoor
open Go.RowKit Drw
attribute [local go_sem] Lab.val Rgt.val Cal.val Thg.val
theorem eO {ts:List Thg} {i:Int} (h:ex ts i=true):∃ k:Nat,i=(k:Int)+1∧ts[k]?=some (aC ts i):=by
 simp [ex,inR] at h
 obtain ⟨k,hk⟩:=Int.eq_ofNat_of_zero_le (show 0≤i - 1 by omega)
 refine ⟨k,by omega,?_⟩
 have hlt:k<ts.length:=by omega
 simp [aC,hk,hlt]
set_option maxHeartbeats 400000 in
theorem fV (p:Option Addr) (n cap:Nat) (i:Int) (w:World) :
  Calls Tryz.prog 46 #[.slice p n cap,.int .i64 i] w fun e w'=>e=.returned (.bool (inR i 1 n))∧w=w':=by
 go_enter Tryz.func46,Tryz.ntmps46
 go_wp2_with (go_at_call 67;refine (eD _ _ _ _).mono ?_;rintro e w' ⟨rfl,rfl⟩)
 go_ret
 exact ⟨rfl,rfl⟩
set_option maxHeartbeats 400000 in
theorem BI (p:Option Addr) (cap:Nat) (ts:List Thg) (i k:Int) (w:World) (hT:TabAt w (.slice p ts.length cap) ts) :
  Calls Tryz.prog 69 #[.slice p ts.length cap,.int .i64 i,.int .i64 k] w fun e w'=>e=.returned (.bool (bS ts i k))∧w=w':=by
 obtain ⟨_,_,h1,hl1,hl2⟩:=hT.len
 cases h1
 unfold maxLen at hl2
 by_cases h:ex ts i=true
 ·obtain ⟨j,rfl,hj⟩:=eO h
  obtain ⟨b,o,sv,qv,rfl,hbk,hS,hQ,c0,-⟩:=hT.at j _ hj
  have hlt:j<ts.length:=(List.getElem?_eq_some_iff.1 hj).1
  have H:=Lib.hid h
  have Hr:=Lib.hid (show inR ((j:Int)+1) 1 ts.length=true from h)
  clear h hj
  go_enter Tryz.func69,Tryz.ntmps69
  go_wp2_with (go_at_call 46;refine (fV _ _ _ _ _).mono ?_;rw [Hr.out];rintro e w' ⟨rfl,rfl⟩)
  go_ret
  exact ⟨aj (by simp [bS,H.out]),rfl⟩
 ·have h':ex ts i=false:=by simpa using h
  have H:=Lib.hid h'
  have Hr:=Lib.hid (show inR i 1 ts.length=false from h')
  clear h h'
  go_enter Tryz.func69,Tryz.ntmps69
  go_wp2_with (go_at_call 46;refine (fV _ _ _ _ _).mono ?_;rw [Hr.out];rintro e w' ⟨rfl,rfl⟩)
  go_ret
  exact ⟨aj (by simp [bS,H.out]),rfl⟩
set_option maxHeartbeats 400000 in
theorem pM (p:Option Addr) (cap:Nat) (ts:List Thg) (i:Int) (w:World) (hT:TabAt w (.slice p ts.length cap) ts) :
  Calls Tryz.prog 58 #[.slice p ts.length cap,.int .i64 i] w fun e w'=>e=.returned (.bool (bS ts i 3))∧w=w':=by
 obtain ⟨_,_,h1,hl1,hl2⟩:=hT.len
 cases h1
 unfold maxLen at hl2
 by_cases h:ex ts i=true
 ·obtain ⟨j,rfl,hj⟩:=eO h
  obtain ⟨b,o,sv,qv,rfl,hbk,hS,hQ,c0,-⟩:=hT.at j _ hj
  have hlt:j<ts.length:=(List.getElem?_eq_some_iff.1 hj).1
  have H:=Lib.hid h
  have Hr:=Lib.hid (show inR ((j:Int)+1) 1 ts.length=true from h)
  clear h hj
  go_enter Tryz.func58,Tryz.ntmps58
  go_wp2_with (go_at_call 79;refine (jL _ _ _ _).mono ?_;rw [Hr.out];rintro e w' ⟨rfl,rfl⟩)
  go_ret
  exact ⟨aj (by simp [bS,H.out]),rfl⟩
 ·have h':ex ts i=false:=by simpa using h
  have H:=Lib.hid h'
  have Hr:=Lib.hid (show inR i 1 ts.length=false from h')
  clear h h'
  go_enter Tryz.func58,Tryz.ntmps58
  go_wp2_with (go_at_call 79;refine (jL _ _ _ _).mono ?_;rw [Hr.out];rintro e w' ⟨rfl,rfl⟩)
  go_ret
  exact ⟨aj (by simp [bS,H.out]),rfl⟩
theorem eu (p:Option Addr) (n cap:Nat) (i:Int) (w:World) {v:Bool} (h:inR i 1 n=v) :
  Calls Tryz.prog 46 #[.slice p n cap,.int .i64 i] w fun e w'=>e=.returned (.bool v)∧w'=w:=
 (fV p n cap i w).mono fun _ _ h'=>⟨by rw [h'.1,h],h'.2.symm⟩
theorem BF (n lo hi:Int) (w:World) {v:Bool} (h:inR n lo hi=v) :
  Calls Tryz.prog 79 #[.int .i64 n,.int .i64 lo,.int .i64 hi] w fun e w'=>e=.returned (.bool v)∧w'=w:=
 (jL n lo hi w).mono fun _ _ h'=>⟨by rw [h'.1,h],h'.2.symm⟩
set_option maxHeartbeats 400000 in
theorem qA (p:Option Addr) (cap:Nat) (ts:List Thg) (r:Rgt) (w:World) (hT:TabAt w (.slice p ts.length cap) ts) :
  Calls Tryz.prog 87 #[.slice p ts.length cap,r.val] w fun e w'=>e=.returned (.bool (live ts r))∧Below w.heap.size w w':=by
 obtain ⟨th,ve,rd,wr,wk⟩:=r
 obtain ⟨_,_,h1,hl1,hl2⟩:=hT.len
 cases h1
 unfold maxLen at hl2
 by_cases h:ex ts th=true
 ·obtain ⟨j,rfl,hj⟩:=eO h
  obtain ⟨b,o,sv,qv,rfl,hbk,hS,hQ,c0,c1,c2,c3,-⟩:=hT.at j _ hj
  have hlt:j<ts.length:=(List.getElem?_eq_some_iff.1 hj).1
  have H:=Lib.hid h
  have Hr:=Lib.hid (show inR ((j:Int)+1) 1 ts.length=true from h)
  clear h hj
  go_enter Tryz.func87,Tryz.ntmps87
  go_wp2
  go_quiet ((go_at_call 46;refine Calls.quiet_of_same (eu _ _ _ _ _ Hr.out)))
  go_wp2
  go_ret
  exact ⟨aj (by simp [live,H.out]),(by (repeat (with_reducible first|exact bA _ _|refine bB ?_ ?_ _|refine bC ?_ _|refine bD ?_|refine bE ?_ ?_ _|refine bF ?_ (by assumption) ?_))<;>first|omega|(simp;try omega))⟩
 ·have h':ex ts th=false:=by simpa using h
  have H:=Lib.hid h'
  have Hr:=Lib.hid (show inR th 1 ts.length=false from h')
  clear h h'
  go_enter Tryz.func87,Tryz.ntmps87
  go_wp2
  go_quiet ((go_at_call 46;refine Calls.quiet_of_same (eu _ _ _ _ _ Hr.out)))
  go_wp2
  go_ret
  exact ⟨aj (by simp [live,H.out]),(by (repeat (with_reducible first|exact bA _ _|refine bB ?_ ?_ _|refine bC ?_ _|refine bD ?_|refine bE ?_ ?_ _|refine bF ?_ (by assumption) ?_))<;>first|omega|(simp;try omega))⟩
set_option maxHeartbeats 400000 in
theorem vY (p:Option Addr) (cap:Nat) (ts:List Thg) (r:Rgt) (w:World) (hT:TabAt w (.slice p ts.length cap) ts) :
  Calls Tryz.prog 95 #[.slice p ts.length cap,r.val] w fun e w'=>e=.returned (.bool (live ts r))∧Below w.heap.size w w':=by
 obtain ⟨th,ve,rd,wr,wk⟩:=r
 obtain ⟨_,_,h1,hl1,hl2⟩:=hT.len
 cases h1
 unfold maxLen at hl2
 by_cases h:ex ts th=true
 ·obtain ⟨j,rfl,hj⟩:=eO h
  obtain ⟨b,o,sv,qv,rfl,hbk,hS,hQ,c0,c1,c2,c3,-⟩:=hT.at j _ hj
  have hlt:j<ts.length:=(List.getElem?_eq_some_iff.1 hj).1
  have H:=Lib.hid h
  have Hr:=Lib.hid (show inR ((j:Int)+1) 1 ts.length=true from h)
  clear h hj
  go_enter Tryz.func95,Tryz.ntmps95
  go_wp2
  go_quiet ((go_at_call 79;refine Calls.quiet_of_same (BF _ _ _ _ Hr.out)))
  go_wp2
  go_ret
  exact ⟨aj (by simp [live,H.out]),(by (repeat (with_reducible first|exact bA _ _|refine bB ?_ ?_ _|refine bC ?_ _|refine bD ?_|refine bE ?_ ?_ _|refine bF ?_ (by assumption) ?_))<;>first|omega|(simp;try omega))⟩
 ·have h':ex ts th=false:=by simpa using h
  have H:=Lib.hid h'
  have Hr:=Lib.hid (show inR th 1 ts.length=false from h')
  clear h h'
  go_enter Tryz.func95,Tryz.ntmps95
  go_wp2
  go_quiet ((go_at_call 79;refine Calls.quiet_of_same (BF _ _ _ _ Hr.out)))
  go_wp2
  go_ret
  exact ⟨aj (by simp [live,H.out]),(by (repeat (with_reducible first|exact bA _ _|refine bB ?_ ?_ _|refine bC ?_ _|refine bD ?_|refine bE ?_ ?_ _|refine bF ?_ (by assumption) ?_))<;>first|omega|(simp;try omega))⟩
set_option maxHeartbeats 1000000 in
theorem ru (p:Option Addr) (cap:Nat) (ts:List Thg) (run thing:Int) (w:World) (hT:TabAt w (.slice p ts.length cap) ts) (hr:ex ts run=true) (ht:ex ts thing=true) :
  Calls Tryz.prog 88 #[.slice p ts.length cap,.int .i64 run,.int .i64 thing] w fun e w'=>e=.returned (.bool (sees ts run thing))∧Below w.heap.size w w':=by
 obtain ⟨_,_,h1,hl1,hl2⟩:=hT.len
 cases h1
 unfold maxLen at hl2
 obtain ⟨j,rfl,hj⟩:=eO hr
 obtain ⟨k,rfl,hk⟩:=eO ht
 obtain ⟨b,o,sv,qv,rfl,hbk,hS,hQ,c0,c1,c2,-⟩:=hT.at j _ hj
 obtain ⟨b',o',sv',qv',hp,-,hS',hQ',d0,d1,d2,-⟩:=hT.at k _ hk
 cases hp
 have hlt:j<ts.length:=(List.getElem?_eq_some_iff.1 hj).1
 have hlt':k<ts.length:=(List.getElem?_eq_some_iff.1 hk).1
 have e0:(0:Int)≤(j:Int):=by omega
 have e1:(j:Int)<(ts.length:Int):=by omega
 have e2:(0:Int)≤(k:Int):=by omega
 have e3:(k:Int)<(ts.length:Int):=by omega
 have s1:IntKind.i64.wrap (j:Int)=(j:Int):=IntWalk.i64_in _ (by omega)
 have s2:IntKind.i64.wrap (k:Int)=(k:Int):=IntWalk.i64_in _ (by omega)
 clear hj hk hr ht
 go_enter Tryz.func88,Tryz.ntmps88
 go_wp2
 go_region_held3 (fun w'=>w'.cell? ⟨b,o+j * 8+1,none⟩=some (.int .i64 (aC ts ((j:Int)+1)).lab.s)∧w'.cell? ⟨b,o+j * 8+2,none⟩=some (.int .i64 (aC ts ((j:Int)+1)).lab.v)∧w'.cell? ⟨b,o+k * 8+1,none⟩=some (.int .i64 (aC ts ((k:Int)+1)).lab.s)∧w'.cell? ⟨b,o+k * 8+2,none⟩=some (.int .i64 (aC ts ((k:Int)+1)).lab.v)∧b<w'.heap.size)
  (first|go_keep|(go_split_ands;refine ⟨?_,?_,?_,?_,?_⟩<;>first|omega|(rw [hc1 _ _ (by omega)];assumption)))
  (first|(go_at_call 47;refine (gM ⟨_,_⟩ ⟨_,_⟩ _).mono ?_;rintro e w1 ⟨rfl,hb1⟩;obtain ⟨hc1,hf1⟩:=ax hb1;have hz:=hb1.size))
 all_goals go_wp2
 all_goals go_ret
 all_goals exact ⟨rfl,(by (repeat (with_reducible first|exact bA _ _|refine bB ?_ ?_ _|refine bC ?_ _|refine bD ?_|refine bE ?_ ?_ _|refine bF ?_ (by assumption) ?_))<;>first|omega|(simp;try omega))⟩
set_option maxHeartbeats 1000000 in
theorem sM (p:Option Addr) (cap:Nat) (ts:List Thg) (run thing:Int) (w:World) (hT:TabAt w (.slice p ts.length cap) ts) (hr:ex ts run=true) (ht:ex ts thing=true) :
  Calls Tryz.prog 147 #[.slice p ts.length cap,.int .i64 run,.int .i64 thing] w fun e w'=>e=.returned (.bool (touches ts run thing))∧Below w.heap.size w w':=by
 obtain ⟨_,_,h1,hl1,hl2⟩:=hT.len
 cases h1
 unfold maxLen at hl2
 obtain ⟨j,rfl,hj⟩:=eO hr
 obtain ⟨k,rfl,hk⟩:=eO ht
 obtain ⟨b,o,sv,qv,rfl,hbk,hS,hQ,c0,c1,c2,-⟩:=hT.at j _ hj
 obtain ⟨b',o',sv',qv',hp,-,hS',hQ',d0,d1,d2,-⟩:=hT.at k _ hk
 cases hp
 have hlt:j<ts.length:=(List.getElem?_eq_some_iff.1 hj).1
 have hlt':k<ts.length:=(List.getElem?_eq_some_iff.1 hk).1
 have e0:(0:Int)≤(j:Int):=by omega
 have e1:(j:Int)<(ts.length:Int):=by omega
 have e2:(0:Int)≤(k:Int):=by omega
 have e3:(k:Int)<(ts.length:Int):=by omega
 have s1:IntKind.i64.wrap (j:Int)=(j:Int):=IntWalk.i64_in _ (by omega)
 have s2:IntKind.i64.wrap (k:Int)=(k:Int):=IntWalk.i64_in _ (by omega)
 clear hj hk hr ht
 go_enter Tryz.func147,Tryz.ntmps147
 go_wp2
 go_region_held3 (fun w'=>w'.cell? ⟨b,o+j * 8+1,none⟩=some (.int .i64 (aC ts ((j:Int)+1)).lab.s)∧w'.cell? ⟨b,o+j * 8+2,none⟩=some (.int .i64 (aC ts ((j:Int)+1)).lab.v)∧w'.cell? ⟨b,o+k * 8+1,none⟩=some (.int .i64 (aC ts ((k:Int)+1)).lab.s)∧w'.cell? ⟨b,o+k * 8+2,none⟩=some (.int .i64 (aC ts ((k:Int)+1)).lab.v)∧b<w'.heap.size)
  (first|go_keep|(go_split_ands;refine ⟨?_,?_,?_,?_,?_⟩<;>first|omega|(rw [hc1 _ _ (by omega)];assumption)))
  (first|(go_at_call 47;refine (gM ⟨_,_⟩ ⟨_,_⟩ _).mono ?_;rintro e w1 ⟨rfl,hb1⟩;obtain ⟨hc1,hf1⟩:=ax hb1;have hz:=hb1.size))
 all_goals go_wp2
 all_goals go_ret
 all_goals exact ⟨rfl,(by (repeat (with_reducible first|exact bA _ _|refine bB ?_ ?_ _|refine bC ?_ _|refine bD ?_|refine bE ?_ ?_ _|refine bF ?_ (by assumption) ?_))<;>first|omega|(simp;try omega))⟩
set_option maxHeartbeats 1000000 in
theorem yM (p:Option Addr) (cap:Nat) (ts:List Thg) (run thing:Int) (w:World) (hT:TabAt w (.slice p ts.length cap) ts) (hr:ex ts run=true) (ht:ex ts thing=true) (hl3:dw (aC ts run).lab=true) (hl4:dw (aC ts thing).lab=true) :
  Calls Tryz.prog 97 #[.slice p ts.length cap,.int .i64 run,.int .i64 thing] w fun e w'=>e=.returned (.bool (sees ts run thing))∧Below w.heap.size w w':=by
 obtain ⟨_,_,h1,hl1,hl2⟩:=hT.len
 cases h1
 unfold maxLen at hl2
 obtain ⟨j,rfl,hj⟩:=eO hr
 obtain ⟨k,rfl,hk⟩:=eO ht
 obtain ⟨b,o,sv,qv,rfl,hbk,hS,hQ,c0,c1,c2,-⟩:=hT.at j _ hj
 obtain ⟨b',o',sv',qv',hp,-,hS',hQ',d0,d1,d2,-⟩:=hT.at k _ hk
 cases hp
 have hlt:j<ts.length:=(List.getElem?_eq_some_iff.1 hj).1
 have hlt':k<ts.length:=(List.getElem?_eq_some_iff.1 hk).1
 have e0:(0:Int)≤(j:Int):=by omega
 have e1:(j:Int)<(ts.length:Int):=by omega
 have e2:(0:Int)≤(k:Int):=by omega
 have e3:(k:Int)<(ts.length:Int):=by omega
 have s1:IntKind.i64.wrap (j:Int)=(j:Int):=IntWalk.i64_in _ (by omega)
 have s2:IntKind.i64.wrap (k:Int)=(k:Int):=IntWalk.i64_in _ (by omega)
 have H3:=Lib.hid hl3
 have H4:=Lib.hid hl4
 clear hj hk hr ht hl3 hl4
 go_enter Tryz.func97,Tryz.ntmps97
 go_wp2
 go_region_held3 (fun w'=>w'.cell? ⟨b,o+j * 8+1,none⟩=some (.int .i64 (aC ts ((j:Int)+1)).lab.s)∧w'.cell? ⟨b,o+j * 8+2,none⟩=some (.int .i64 (aC ts ((j:Int)+1)).lab.v)∧w'.cell? ⟨b,o+k * 8+1,none⟩=some (.int .i64 (aC ts ((k:Int)+1)).lab.s)∧w'.cell? ⟨b,o+k * 8+2,none⟩=some (.int .i64 (aC ts ((k:Int)+1)).lab.v)∧b<w'.heap.size)
  (first|go_keep|(go_split_ands;refine ⟨?_,?_,?_,?_,?_⟩<;>first|omega|(rw [hc1 _ _ (by omega)];assumption)))
  (first|(go_at_call 64;refine (BH (aC ts ((k:Int)+1)).lab (aC ts ((j:Int)+1)).lab _ H4.out H3.out).mono ?_;rintro e w1 ⟨rfl,hb1⟩;obtain ⟨hc1,hf1⟩:=ax hb1;have hz:=hb1.size))
 all_goals go_wp2
 all_goals go_ret
 all_goals exact ⟨rfl,(by (repeat (with_reducible first|exact bA _ _|refine bB ?_ ?_ _|refine bC ?_ _|refine bD ?_|refine bE ?_ ?_ _|refine bF ?_ (by assumption) ?_))<;>first|omega|(simp;try omega))⟩
set_option maxHeartbeats 1000000 in
theorem yL (p:Option Addr) (cap:Nat) (ts:List Thg) (run thing:Int) (w:World) (hT:TabAt w (.slice p ts.length cap) ts) (hr:ex ts run=true) (ht:ex ts thing=true) (hl3:dw (aC ts run).lab=true) (hl4:dw (aC ts thing).lab=true) :
  Calls Tryz.prog 149 #[.slice p ts.length cap,.int .i64 run,.int .i64 thing] w fun e w'=>e=.returned (.bool (touches ts run thing))∧Below w.heap.size w w':=by
 obtain ⟨_,_,h1,hl1,hl2⟩:=hT.len
 cases h1
 unfold maxLen at hl2
 obtain ⟨j,rfl,hj⟩:=eO hr
 obtain ⟨k,rfl,hk⟩:=eO ht
 obtain ⟨b,o,sv,qv,rfl,hbk,hS,hQ,c0,c1,c2,-⟩:=hT.at j _ hj
 obtain ⟨b',o',sv',qv',hp,-,hS',hQ',d0,d1,d2,-⟩:=hT.at k _ hk
 cases hp
 have hlt:j<ts.length:=(List.getElem?_eq_some_iff.1 hj).1
 have hlt':k<ts.length:=(List.getElem?_eq_some_iff.1 hk).1
 have e0:(0:Int)≤(j:Int):=by omega
 have e1:(j:Int)<(ts.length:Int):=by omega
 have e2:(0:Int)≤(k:Int):=by omega
 have e3:(k:Int)<(ts.length:Int):=by omega
 have s1:IntKind.i64.wrap (j:Int)=(j:Int):=IntWalk.i64_in _ (by omega)
 have s2:IntKind.i64.wrap (k:Int)=(k:Int):=IntWalk.i64_in _ (by omega)
 have H3:=Lib.hid hl3
 have H4:=Lib.hid hl4
 clear hj hk hr ht hl3 hl4
 go_enter Tryz.func149,Tryz.ntmps149
 go_wp2
 go_region_held3 (fun w'=>w'.cell? ⟨b,o+j * 8+1,none⟩=some (.int .i64 (aC ts ((j:Int)+1)).lab.s)∧w'.cell? ⟨b,o+j * 8+2,none⟩=some (.int .i64 (aC ts ((j:Int)+1)).lab.v)∧w'.cell? ⟨b,o+k * 8+1,none⟩=some (.int .i64 (aC ts ((k:Int)+1)).lab.s)∧w'.cell? ⟨b,o+k * 8+2,none⟩=some (.int .i64 (aC ts ((k:Int)+1)).lab.v)∧b<w'.heap.size)
  (first|go_keep|(go_split_ands;refine ⟨?_,?_,?_,?_,?_⟩<;>first|omega|(rw [hc1 _ _ (by omega)];assumption)))
  (first|(go_at_call 64;refine (BH (aC ts ((j:Int)+1)).lab (aC ts ((k:Int)+1)).lab _ H3.out H4.out).mono ?_;rintro e w1 ⟨rfl,hb1⟩;obtain ⟨hc1,hf1⟩:=ax hb1;have hz:=hb1.size))
 all_goals go_wp2
 all_goals go_ret
 all_goals exact ⟨rfl,(by (repeat (with_reducible first|exact bA _ _|refine bB ?_ ?_ _|refine bC ?_ _|refine bD ?_|refine bE ?_ ?_ _|refine bF ?_ (by assumption) ?_))<;>first|omega|(simp;try omega))⟩
end Go.Proofs.YthhmolonhpaepaaGreatDoor
namespace Go
theorem kU:∀ (l:List Bool) (i:Nat),l[i]?=some false→(l.set i true).count false+1=l.count false
 | [],i,h=>by simp at h
 | x::l,0,h=>by
  have:x=false:=by simpa using h
  subst this
  simp
 | x::l,i+1,h=>by
  have:=kU l i (by simpa using h)
  simp only [List.set_cons_succ,List.count_cons]
  omega
section
variable {P:Program} {ops:Array Oper} {Q:Exit→Act→World→Prop} {md:Region.Mode}
theorem j3 {listed:Array Bool} (hs:listed.size=ops.size) (hback:∀ (i:Nat) (o:Oper),ops[i]?=some o→∀ e∈o.after,e.on<i) (hr:Region.ready md ops listed=[]):∀ n i,i<n→i<ops.size→listed.getD i false=true:=by
 intro n
 induction n with
 | zero=>intro i h;omega
 | succ n ih=>
  intro i hi hlt
  apply Classical.byContradiction
  intro hf
  have hmem:i∈Region.ready md ops listed:=by
   refine mem_ready.2 ⟨?_,ops[i],by simp [hlt],fun e he _=>?_⟩
   ·have h2:i<listed.size:=by omega
    simp only [Array.getD_eq_getD_getElem?,Array.getElem?_eq_getElem h2,Option.getD_some] at hf ⊢
    simpa using hf
   ·have hb:=hback i _ (by simp [hlt]) e he
    exact ih e.on (by omega) (by omega)
  rw [hr] at hmem
  cases hmem
theorem wY {I:(Nat→Bool)→Act→World→Prop} (hback:∀ (i:Nat) (o:Oper),ops[i]?=some o→∀ e∈o.after,e.on<i)
  (step:∀ (d:Nat→Bool) (i:Nat) (o:Oper) (a:Act) (w:World),ops[i]?=some o→d i=false→(∀ e∈o.after,Region.binds md e=true→d e.on=true)→I d a w→wpOp P ops Q i (fun a' w'=>I (fun j=>d j || decide (j=i)) a' w') a w)
  (fin:∀ d a w,(∀ i,i<ops.size→d i=true)→I d a w→Q .normal a w) :
  ∀ (fuel:Nat) (listed:Array Bool) (a:Act) (w:World),listed.size=ops.size→listed.toList.count false≤fuel→I (fun j=>listed.getD j false) a w→wpAny P md ops Q fuel listed a w
 | 0,listed,a,w,hs,hc,hI=>by
  have hall:∀ i,i<ops.size→listed.getD i false=true:=by
   intro i hi
   have h0:listed.toList.count false=0:=by omega
   rw [List.count_eq_zero] at h0
   have h2:i<listed.size:=by omega
   simp only [Array.getD_eq_getD_getElem?,Array.getElem?_eq_getElem h2,Option.getD_some]
   cases hv:listed[i] with
   | true=>rfl
   | false=>exact absurd (by rw [← hv];exact Array.getElem_mem_toList ..) h0
  refine ⟨?_,fin _ _ _ hall hI⟩
  apply List.eq_nil_iff_forall_not_mem.2
  intro i hi
  obtain ⟨h1,o,ho,-⟩:=mem_ready.1 hi
  have hlt:i<ops.size:=(Array.getElem?_eq_some_iff.1 ho).1
  have h2:i<listed.size:=by omega
  have:=hall i hlt
  simp only [Array.getD_eq_getD_getElem?,Array.getElem?_eq_getElem h2,Option.getD_some] at this h1
  rw [h1] at this;cases this
 | fuel+1,listed,a,w,hs,hc,hI=>by
  refine ⟨fun hr=>fin _ _ _ (fun i hi=>j3 hs hback hr (i+1) i (by omega) hi) hI,fun i hi=>?_⟩
  obtain ⟨h1,o,ho,h3⟩:=mem_ready.1 hi
  have hlt:i<ops.size:=(Array.getElem?_eq_some_iff.1 ho).1
  have h2:i<listed.size:=by omega
  have hf:listed[i]?=some false:=by
   simp only [Array.getD_eq_getD_getElem?,Array.getElem?_eq_getElem h2,Option.getD_some] at h1 ⊢
   rw [h1]
  refine wpOp_mono (fun a' w' h=>?_) (step (fun j=>listed.getD j false) i o a w ho (by simp [Array.getD_eq_getD_getElem?,hf]) h3 hI)
  refine wY hback step fin fuel _ a' w' (by simpa using hs) ?_ ?_
  ·have:=kU listed.toList i (by simpa using hf)
   simp only [Array.toList_setIfInBounds]
   omega
  ·have e:(fun j=>(listed.setIfInBounds i true).getD j false)=(fun j=>listed.getD j false || decide (j=i)):=by
    funext j
    simp only [Array.getD_eq_getD_getElem?,Array.getElem?_setIfInBounds]
    by_cases hj:i=j
    ·subst hj;simp [h2]
    ·have hj':¬ j=i:=fun e=>hj e.symm
     simp [hj,hj']
   rw [e];exact h
def nT (P:Program) (md:Region.Mode) (ops:Array Oper) (Q:Exit→Act→World→Prop) (I:(Nat→Bool)→Act→World→Prop):Nat→List Oper→Prop
 | _,[]=>True
 | k,o::l=>(∀ d a w,d k=false→(∀ e∈o.after,Region.binds md e=true→d e.on=true)→I d a w→∀ K:Act→World→Prop,(∀ a' w',I (fun j=>d j || decide (j=k)) a' w'→K a' w') →
   if Region.wanted o (yielded ops a.tmps)=true then Oper.wp P o a w K Q else K (a.put o.dst undef) w)∧nT P md ops Q I (k+1) l
theorem nT.at {I:(Nat→Bool)→Act→World→Prop}:∀ (l:List Oper) (k i:Nat) (o:Oper),nT P md ops Q I k l→l[i]?=some o→∀ d a w,d (k+i)=false→(∀ e∈o.after,Region.binds md e=true→d e.on=true)→I d a w→∀ K:Act→World→Prop,(∀ a' w',I (fun j=>d j || decide (j=k+i)) a' w'→K a' w') →
   if Region.wanted o (yielded ops a.tmps)=true then Oper.wp P o a w K Q else K (a.put o.dst undef) w
 | [],_,_,_,_,h=>by simp at h
 | x::l,k,0,o,hS,h=>by
  have:x=o:=by simpa using h
  subst this
  exact hS.1
 | x::l,k,i+1,o,hS,h=>by
  have:=nT.at l (k+1) i o hS.2 (by simpa using h)
  rw [show k+1+i=k+(i+1) by omega] at this
  exact this
def Iq:Nat→List Oper→Bool
 | _,[]=>true
 | k,o::l=>o.after.all (fun e=>decide (e.on<k)) && Iq (k+1) l
theorem Cg:∀ (l:List Oper) (k i:Nat) (o:Oper),Iq k l=true→l[i]?=some o→∀ e∈o.after,e.on<k+i
 | [],_,_,_,_,h=>by simp at h
 | x::l,k,0,o,hb,h=>by
  have:x=o:=by simpa using h
  subst this
  simp only [Iq,Bool.and_eq_true,Array.all_eq_true_iff_forall_mem,decide_eq_true_eq] at hb
  exact hb.1
 | x::l,k,i+1,o,hb,h=>by
  simp only [Iq,Bool.and_eq_true] at hb
  have:=Cg l (k+1) i o hb.2 (by simpa using h)
  intro e he
  have:=this e he
  omega
theorem lM {id:Nat} {l:List Oper} {a:Act} {w:World} (I:(Nat→Bool)→Act→World→Prop) (hm:P.follows .mixedOrders=true) (hb:Iq 0 l=true)
  (h0:I (fun _=>false) a w.drew) (step:nT P .any l.toArray Q I 0 l) (fin:∀ d a w,(∀ i,i<l.length→d i=true)→I d a w→Q .normal a w):(Code.region id l.toArray true).wp P Q a w:=by
 refine wp_region_any hm ?_
 refine wY (I:=I) (fun i o ho e he=>by have:=Cg l 0 i o hb (by simpa using ho) e he;omega) (fun d i o a w ho hd di hI=>wpOp_step ho fun K hK=>?_) (fun d a w hd hI=>fin d a w (by simpa using hd) hI) _ _ _ _ (by simp) (by simp) ?_
 ·have:=nT.at l 0 i o step (by simpa using ho) d a w (by simpa using hd) di hI K
  simp only [Nat.zero_add] at this
  exact this hK
 ·have e:(fun j=>(Array.replicate l.toArray.size false).getD j false)=(fun _=>false):=by
   funext j
   simp only [Array.getD_eq_getD_getElem?,Array.getElem?_replicate]
   split<;>rfl
  rw [e];exact h0
end
end Go
