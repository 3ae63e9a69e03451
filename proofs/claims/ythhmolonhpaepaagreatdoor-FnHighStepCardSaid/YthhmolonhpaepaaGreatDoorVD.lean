/- The reference's finding of what can be come to have, whole. Conditions: the table lies where its cells say, and is one. -/
import Derived.Test.YthhmolonhpaepaaGreatDoorVIv
import Derived.Test.YthhmolonhpaepaaGreatDoorVB
import Derived.Test.YthhmolonhpaepaaGreatDoorVBase
import Derived.Test.YthhmolonhpaepaaGreatDoorVDo
import Derived.Test.YthhmolonhpaepaaGreatDoorVY
import Derived.Deep.CutBlock
import Derived.Deep.LoopGhost
set_option linter.unusedVariables false
set_option linter.unusedSimpArgs false
namespace Go.Proofs.YthhmolonhpaepaaGreatDoor
open Go.RowKit Drw
attribute [local go_sem] Lab.val Rgt.val Cal.val Thg.val
end Go.Proofs.YthhmolonhpaepaaGreatDoor
namespace Go.Proofs.YthhmolonhpaepaaGreatDoor
open Go.RowKit Drw
attribute [local go_sem] Lab.val Rgt.val Cal.val Thg.val
set_option maxHeartbeats 400000 in
theorem mr (k:Int) (w:World) :
  Calls Tryz.prog 127 #[.int .i64 k] w fun e w'=>e=.returned (.bool (k == 2 || k == 3))∧w=w':=by
 go_enter Tryz.func127,Tryz.ntmps127
 go_wp2
 all_goals (go_ret;exact ⟨aj (by simp [*]),rfl⟩)
def bad2 (k ve nu:Int):Bool:=!inR nu (if k=3 then -4 else 0) 99 || (nu != 0 && (k == 2 || k == 4)) || (ve != 0 && (k == 3 || k == 5))
def bad3 (k:Int) (n:Nat):Bool:=((k == 2 || k == 3) && n != 4) || (!(k == 2 || k == 3) && n != 0)
def fin3 (k tg:Int) (n:Nat):Bool:=(k == 4 || n == 0) && ((k == 5 && inR tg 1 8) || (k != 5 && tg == 0))
theorem eT (t:Thg):aP t=(inR t.kind 1 5 && dw t.lab && inR t.aJ 0 5 && decide (t.queue.length≤3) && !bad2 t.kind t.aJ t.num && t.queue.all (fun n=>inR n 0 99) && t.slots.all aZ && !bad3 t.kind t.slots.length && fin3 t.kind t.to t.queue.length):=by
 obtain ⟨k,l,ve,nu,sl,qu,tg⟩:=t
 by_cases hk:inR k 1 5=true
 ·have:k=1∨k=2∨k=3∨k=4∨k=5:=by simp [inR] at hk;omega
  rcases this with rfl|rfl|rfl|rfl|rfl
  all_goals simp [aP,kM,qH,bH,dS,jT,bad2,bad3,fin3,hk]
  all_goals rw [Bool.eq_iff_iff]
  all_goals simp [inR,List.length_eq_zero_iff]
  all_goals grind
 ·simp [aP,hk]
set_option maxRecDepth 100000 in
set_option maxHeartbeats 2000000 in
theorem dW (t:Thg) (sv qv:Value) (w:World) (hs:aF w sv t.slots) (hq:aG w qv t.queue) :
  Calls Tryz.prog 78 #[t.val sv qv] w fun e w'=>e=.returned (.bool (aP t))∧Below w.heap.size w w':=by
 obtain ⟨k,⟨s,v⟩,ve,nu,sl,qu,tg⟩:=t
 dsimp only [Thg.val] at hs hq ⊢
 obtain ⟨p,cap,rfl,hl1,hl2⟩:=hq.len
 obtain ⟨p',cap',rfl,GR,GQ⟩:=hs.len
 unfold maxLen at hl2 GQ
 go_enter Tryz.func78,Tryz.ntmps78
 go_upto_region 6 with (first
  | (go_at_call 79;refine (jL _ _ _ _).mono ?_;rintro e w' ⟨rfl,rfl⟩)
  | (go_at_call 43;refine (CF ⟨_,_⟩ _).mono ?_;rintro e w1 ⟨rfl,hb1⟩;obtain ⟨hc1,hf1⟩:=ax hb1;have hz0:w.heap.size<w1.heap.size:=(by have:=hb1.size;(try simp at this);omega)))
 any_goals (go_ret;refine ⟨aj ?_,(by (repeat (with_reducible first|exact bA _ _|refine bB ?_ ?_ _|refine bC ?_ _|refine bD ?_|refine bE ?_ ?_ _|refine bF ?_ (by assumption) ?_))<;>first|omega|(simp;try omega))⟩;first|(simp [eT, *];done)|(simp [eT, *];omega))
 all_goals
  go_cut [0,65] (fun s0 s65 wx=>s0=.agg #[.int .i64 k,.int .i64 s,.int .i64 v,.int .i64 ve,.int .i64 nu,.slice p' sl.length cap',.slice p qu.length cap,.int .i64 tg]∧s65=.bool (bad2 k ve nu)∧Below w.heap.size w wx∧w.heap.size<wx.heap.size∧wx.cell? ⟨w.heap.size,0,none⟩=some (.int .i64 k)∧wx.cell? ⟨w.heap.size,1,none⟩=some (.int .i64 s)∧wx.cell? ⟨w.heap.size,2,none⟩=some (.int .i64 v)∧wx.cell? ⟨w.heap.size,3,none⟩=some (.int .i64 ve)∧wx.cell? ⟨w.heap.size,4,none⟩=some (.int .i64 nu)∧wx.cell? ⟨w.heap.size,5,none⟩=some (.slice p' sl.length cap')∧wx.cell? ⟨w.heap.size,6,none⟩=some (.slice p qu.length cap)∧wx.cell? ⟨w.heap.size,7,none⟩=some (.int .i64 tg))
  case first=>
   go_wp2_with (go_at_call 79;refine (jL _ _ _ _).mono ?_;rintro e w' ⟨rfl,rfl⟩)
   all_goals go_meet
   all_goals
    refine ⟨by simp [*],?_,(by (repeat (with_reducible first|exact bA _ _|refine bB ?_ ?_ _|refine bC ?_ _|refine bD ?_|refine bE ?_ ?_ _|refine bF ?_ (by assumption) ?_))<;>first|omega|(simp;try omega)),by assumption,?_⟩
    ·exact congrArg Value.bool (by grind [bad2])
    ·simp [*]
  case rest=>
   obtain ⟨rfl,rfl,hB,hlt,c0,c1,c2,c3,c4,c5,c6,c7⟩:=hcut
   go_wp2
   ·go_ret
    exact ⟨aj (by simp [eT, *]),hB⟩
   have hbad:bad2 k ve nu=false:=by assumption
   simp only [hbad]
   go_loop [4] (fun i=>∃ j:Nat,j≤qu.length∧i=.int .i64 j∧(qu.take j).all (fun n=>inR n 0 99)=true) (fun i=>qu.length - (intOf i).toNat)
   case atStart=>exact ⟨0,Nat.zero_le _,rfl,by simp⟩
   case round=>
    obtain ⟨j,hj,rfl,hall⟩:=hrel
    have lL:=Lib.hid hall
    clear hall
    by_cases hlq:j<qu.length
    ·obtain ⟨b,o,rfl,hbk,hc⟩:=(hq.pure hB).at j qu[j] (by simp [hlq])
     go_wp2_with (go_at_call 79;refine (jL _ _ _ _).mono ?_;rintro e w' ⟨rfl,rfl⟩)
     ·go_ret
      have hb:(!inR qu[j] 0 99)=true:=by assumption
      have hx:qu.all (fun n=>inR n 0 99)=false:=by
       rw [List.all_eq_false];exact ⟨qu[j],by simp,by simpa using hb⟩
      exact ⟨aj (by simp only [eT,hx];simp),hB⟩
     ·go_round
      case rel=>
       have hb:(!inR qu[j] 0 99)=false:=by assumption
       exact ⟨j+1,by omega,by go_num,by rw [je _ _ _ hlq,lL.out];simpa using hb⟩
      case measure=>simp [intOf];omega
    ·have e:j=qu.length:=by omega
     have HQ:=lL.out
     rw [e,List.take_of_length_le (Nat.le_refl _)] at HQ
     have HQ':=Lib.hid HQ
     clear lL e HQ
     go_wp2
     go_loopw [5] (fun i wr=>∃ j:Nat,j≤sl.length∧i=.int .i64 j∧(sl.take j).all aZ=true∧Below wc.heap.size wc wr) (fun i _=>sl.length - (intOf i).toNat)
     case atStart=>exact ⟨0,Nat.zero_le _,rfl,by simp,Below.refl _ _⟩
     case round=>
      obtain ⟨m,hm,rfl,hall,hBr⟩:=hrel
      have lL:=Lib.hid hall
      clear hall
      obtain ⟨hcr,hfr⟩:=ax hBr
      by_cases hls:m<sl.length
      ·obtain ⟨b',o',rfl,hbk',hrg⟩:=((hs.pure hB).pure hBr).at m sl[m] (by simp [hls])
       obtain ⟨hr0,hr1,hr2,hr3,hr4⟩:=hrg
       go_wp2_with (go_at_call 101;refine (mZ ⟨_,_,_,_,_⟩ _).mono ?_;rintro e w2 ⟨rfl,hb2⟩)
       ·go_ret
        have hb:(!aZ sl[m])=true:=by assumption
        have hx:sl.all aZ=false:=by
         rw [List.all_eq_false];exact ⟨sl[m],by simp,by simpa using hb⟩
        exact ⟨aj (by simp only [eT,hx];simp),hB.trans ((hBr.trans (hb2.mono hBr.size)).mono hB.size)⟩
       ·go_roundw
        case rel=>
         have hb:(!aZ sl[m])=false:=by assumption
         exact ⟨m+1,by omega,by go_num,by rw [je _ _ _ hls,lL.out];simpa using hb,hBr.trans (hb2.mono hBr.size)⟩
        case measure=>simp [intOf];omega
      ·have e:m=sl.length:=by omega
       have HS:=lL.out
       rw [e,List.take_of_length_le (Nat.le_refl _)] at HS
       have HS':=Lib.hid HS
       clear lL e HS
       go_wp2_with (first
        | (go_at_call 127;refine (mr _ _).mono ?_;rintro e w' ⟨rfl,rfl⟩)
        | (go_at_call 79;refine (jL _ _ _ _).mono ?_;rintro e w' ⟨rfl,rfl⟩))
       all_goals
        go_ret
        refine ⟨aj ?_,hB.trans (hBr.mono hB.size)⟩
        have HQ:=HQ'.out
        have HS:=HS'.out
        rw [eT]
        dsimp only
        clear hc1 hf1 hb1 hcr hfr c0 c1 c2 c3 c4 c5 c6 c7 hs hq
        grind [bad3,fin3]
end Go.Proofs.YthhmolonhpaepaaGreatDoor
