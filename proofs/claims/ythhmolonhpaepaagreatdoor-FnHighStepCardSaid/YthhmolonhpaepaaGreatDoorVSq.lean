/- The program's own comparing of things, and the library's comparing of slices below it. Conditions: what is compared lies where its cells say. -/
import Derived.Test.YthhmolonhpaepaaGreatDoorVLd
set_option linter.unusedVariables false
set_option linter.unusedSimpArgs false
namespace Go.Proofs.YthhmolonhpaepaaGreatDoor
open Go.RowKit Drw
attribute [local go_sem] Lab.val Rgt.val Cal.val Thg.val
attribute [local go_sem 5000] Oc F9
set_option maxRecDepth 100000 in
set_option maxHeartbeats 4000000 in
theorem Kq (xs ys:List Int) (va vb:Value) (w:World) (ha:aG w va xs) (hb:aG w vb ys) :
  Calls Tryz.prog 77 #[va,vb] w fun e w'=>e=.returned (.bool (decide (xs=ys)))∧Below w.heap.size w w':=by
 obtain ⟨pa,ca,rfl,hla,hma⟩:=ha.len
 obtain ⟨pb,cb,rfl,hlb,hmb⟩:=hb.len
 unfold maxLen at hma hmb
 have Ha:=Lib.hid ha
 have Hb:=Lib.hid hb
 clear ha hb
 by_cases hl:xs.length=ys.length
 ·have hl':(xs.length:Int)=(ys.length:Int):=by omega
  have Hl:=Lib.hid hl
  clear hl
  go_enter Tryz.func77,Tryz.ntmps77
  go_wp2
  go_loopw [13] (fun s13 wr=>∃ j:Nat,s13=.int .i64 (j:Int)∧j≤xs.length∧(∀ i,i<j→xs[i]?=ys[i]?)∧Below w.heap.size w wr) (fun s13 _=>xs.length - (intOf s13).toNat)
  case atStart=>exact ⟨0,rfl,by omega,fun i h=>absurd h (by omega),Below.refl _ _⟩
  case round=>
   obtain ⟨j,rfl,hj,heq,hBr⟩:=hrel
   have hzr:=hBr.size
   have Heq:=Lib.hid heq
   clear heq
   have hl:=Hl.out
   by_cases hlt:j<xs.length
   ·have hlt1:(j:Int)<(xs.length:Int):=by omega
    have hlt2:(j:Int)<(ys.length:Int):=by omega
    have h00:(0:Int)≤(j:Int):=by omega
    obtain ⟨b1,o1,rfl,hb1,p0⟩:=(Ha.out.pure hBr).at j xs[j] (by simp [hlt])
    obtain ⟨b2,o2,rfl,hb2,q0⟩:=(Hb.out.pure hBr).at j ys[j] (by simp [show j<ys.length by omega])
    clear hl
    go_wp2
    go_quiet (fail)
    go_wp2
    ·go_ret
     have hne:xs[j]≠ys[j]:=by have h:(xs[j] != ys[j]'(by omega))=true:=(by assumption);simpa using h
     refine ⟨aj ?_,(by (repeat (with_reducible first|exact bA _ _|refine bB ?_ ?_ _|refine bC ?_ _|refine bD ?_|refine bE ?_ ?_ _|refine bF ?_ (by assumption) ?_))<;>first|omega|(simp;try omega))⟩
     rw [eq_comm,decide_eq_false_iff_not]
     intro hh
     subst hh
     exact hne rfl
    ·have he:xs[j]=ys[j]:=by have h:(xs[j] != ys[j]'(by omega))=false:=(by assumption);simpa using h
     refine ⟨⟨j+1,by go_num,by omega,fun i hi=>?_,(by (repeat (with_reducible first|exact bA _ _|refine bB ?_ ?_ _|refine bC ?_ _|refine bD ?_|refine bE ?_ ?_ _|refine bF ?_ (by assumption) ?_))<;>first|omega|(simp;try omega))⟩,by simp [intOf];omega⟩
     by_cases hij:i<j
     ·exact Heq.out i hij
     ·obtain rfl:i=j:=by omega
      rw [List.getElem?_eq_getElem hlt,List.getElem?_eq_getElem (by omega),he]
   ·have hj:j=xs.length:=by omega
    subst hj
    have hE:xs=ys:=mX hl Heq.out
    subst hE
    clear hl
    go_wp2
    go_ret
    exact ⟨aj (by simp),(by (repeat (with_reducible first|exact bA _ _|refine bB ?_ ?_ _|refine bC ?_ _|refine bD ?_|refine bE ?_ ?_ _|refine bF ?_ (by assumption) ?_))<;>first|omega|(simp;try omega))⟩
 ·have hl':¬ (xs.length:Int)=(ys.length:Int):=by omega
  have hne:xs≠ys:=fun h=>hl (by rw [h])
  have Hne:=Lib.hid hne
  clear hl hne
  go_enter Tryz.func77,Tryz.ntmps77
  go_wp2
  go_ret
  exact ⟨aj (by simp [Hne.out]),(by (repeat (with_reducible first|exact bA _ _|refine bB ?_ ?_ _|refine bC ?_ _|refine bD ?_|refine bE ?_ ?_ _|refine bF ?_ (by assumption) ?_))<;>first|omega|(simp;try omega))⟩
set_option maxRecDepth 100000 in
set_option maxHeartbeats 4000000 in
theorem Kn (xs ys:List Rgt) (va vb:Value) (w:World) (ha:aF w va xs) (hb:aF w vb ys) :
  Calls Tryz.prog 76 #[va,vb] w fun e w'=>e=.returned (.bool (decide (xs=ys)))∧Below w.heap.size w w':=by
 obtain ⟨pa,ca,rfl,hla,hma⟩:=ha.len
 obtain ⟨pb,cb,rfl,hlb,hmb⟩:=hb.len
 unfold maxLen at hma hmb
 have Ha:=Lib.hid ha
 have Hb:=Lib.hid hb
 clear ha hb
 by_cases hl:xs.length=ys.length
 ·have hl':(xs.length:Int)=(ys.length:Int):=by omega
  have Hl:=Lib.hid hl
  clear hl
  go_enter Tryz.func76,Tryz.ntmps76
  go_wp2
  go_loopw [13] (fun s13 wr=>∃ j:Nat,s13=.int .i64 (j:Int)∧j≤xs.length∧(∀ i,i<j→xs[i]?=ys[i]?)∧Below w.heap.size w wr) (fun s13 _=>xs.length - (intOf s13).toNat)
  case atStart=>exact ⟨0,rfl,by omega,fun i h=>absurd h (by omega),Below.refl _ _⟩
  case round=>
   obtain ⟨j,rfl,hj,heq,hBr⟩:=hrel
   have hzr:=hBr.size
   have Heq:=Lib.hid heq
   clear heq
   have hl:=Hl.out
   by_cases hlt:j<xs.length
   ·have hlt1:(j:Int)<(xs.length:Int):=by omega
    have hlt2:(j:Int)<(ys.length:Int):=by omega
    have h00:(0:Int)≤(j:Int):=by omega
    obtain ⟨b1,o1,rfl,hb1,p0,p1,p2,p3,p4⟩:=(Ha.out.pure hBr).at j xs[j] (by simp [hlt])
    obtain ⟨b2,o2,rfl,hb2,q0,q1,q2,q3,q4⟩:=(Hb.out.pure hBr).at j ys[j] (by simp [show j<ys.length by omega])
    clear hl
    go_wp2
    go_quiet (fail)
    go_wp2
    ·go_ret
     have hne:xs[j]≠ys[j]:=xP.1 (by have h:(!sD xs[j] (ys[j]'(by omega)))=true:=(by assumption);simpa using h)
     refine ⟨aj ?_,(by (repeat (with_reducible first|exact bA _ _|refine bB ?_ ?_ _|refine bC ?_ _|refine bD ?_|refine bE ?_ ?_ _|refine bF ?_ (by assumption) ?_))<;>first|omega|(simp;try omega))⟩
     rw [eq_comm,decide_eq_false_iff_not]
     intro hh
     subst hh
     exact hne rfl
    ·have he:xs[j]=ys[j]:=xQ.1 (by have h:(!sD xs[j] (ys[j]'(by omega)))=false:=(by assumption);simpa using h)
     refine ⟨⟨j+1,by go_num,by omega,fun i hi=>?_,(by (repeat (with_reducible first|exact bA _ _|refine bB ?_ ?_ _|refine bC ?_ _|refine bD ?_|refine bE ?_ ?_ _|refine bF ?_ (by assumption) ?_))<;>first|omega|(simp;try omega))⟩,by simp [intOf];omega⟩
     by_cases hij:i<j
     ·exact Heq.out i hij
     ·obtain rfl:i=j:=by omega
      rw [List.getElem?_eq_getElem hlt,List.getElem?_eq_getElem (by omega),he]
   ·have hj:j=xs.length:=by omega
    subst hj
    have hE:xs=ys:=mX hl Heq.out
    subst hE
    clear hl
    go_wp2
    go_ret
    exact ⟨aj (by simp),(by (repeat (with_reducible first|exact bA _ _|refine bB ?_ ?_ _|refine bC ?_ _|refine bD ?_|refine bE ?_ ?_ _|refine bF ?_ (by assumption) ?_))<;>first|omega|(simp;try omega))⟩
 ·have hl':¬ (xs.length:Int)=(ys.length:Int):=by omega
  have hne:xs≠ys:=fun h=>hl (by rw [h])
  have Hne:=Lib.hid hne
  clear hl hne
  go_enter Tryz.func76,Tryz.ntmps76
  go_wp2
  go_ret
  exact ⟨aj (by simp [Hne.out]),(by (repeat (with_reducible first|exact bA _ _|refine bB ?_ ?_ _|refine bC ?_ _|refine bD ?_|refine bE ?_ ?_ _|refine bF ?_ (by assumption) ?_))<;>first|omega|(simp;try omega))⟩
theorem Ko {xs ys:List Int} {va vb:Value} {w:World} {v:Bool} (ha:aG w va xs) (hb:aG w vb ys) (h:decide (xs=ys)=v) :
  Calls Tryz.prog 77 #[va,vb] w fun e w'=>e=.returned (.bool v)∧Below w.heap.size w w':=by
 subst h;exact Kq xs ys va vb w ha hb
theorem BX {xs ys:List Rgt} {va vb:Value} {w:World} {v:Bool} (ha:aF w va xs) (hb:aF w vb ys) (h:decide (xs=ys)=v) :
  Calls Tryz.prog 76 #[va,vb] w fun e w'=>e=.returned (.bool v)∧Below w.heap.size w w':=by
 subst h;exact Kn xs ys va vb w ha hb
set_option maxRecDepth 100000 in
set_option maxHeartbeats 4000000 in
theorem zF (ta tb:Thg) (sva qva svb qvb:Value) (w:World) (hsa:aF w sva ta.slots) (hqa:aG w qva ta.queue) (hsb:aF w svb tb.slots) (hqb:aG w qvb tb.queue) :
  Calls Tryz.prog 41 #[ta.val sva qva,tb.val svb qvb] w fun e w'=>e=.returned (.bool (decide (ta=tb)))∧Below w.heap.size w w':=by
 obtain ⟨k,⟨s,v⟩,ve,nu,sl,qu,tg⟩:=ta
 obtain ⟨k',⟨s',v'⟩,ve',nu',sl',qu',tg'⟩:=tb
 dsimp only [Thg.val] at hsa hqa hsb hqb ⊢
 obtain ⟨pa,ca,rfl,hla,hma⟩:=hsa.len
 obtain ⟨pb,cb,rfl,hlb,hmb⟩:=hsb.len
 obtain ⟨ra,da,rfl,hlc,hmc⟩:=hqa.len
 obtain ⟨rb,db,rfl,hld,hmd⟩:=hqb.len
 obtain ⟨vs,hvs⟩:∃ b,decide (sl=sl')=b:=⟨_,rfl⟩
 obtain ⟨vq,hvq⟩:∃ b,decide (qu=qu')=b:=⟨_,rfl⟩
 obtain ⟨va,hva⟩:∃ b,decide ((⟨k,⟨s,v⟩,ve,nu,sl,qu,tg⟩:Thg)=⟨k',⟨s',v'⟩,ve',nu',sl',qu',tg'⟩)=b:=⟨_,rfl⟩
 have hand:va=(decide (k=k') && decide (s=s') && decide (v=v') && decide (ve=ve') && decide (nu=nu') && decide (tg=tg') && vs && vq):=by
  rw [← hva,← hvs,← hvq,Bool.eq_iff_iff]
  simp only [Thg.mk.injEq,Lab.mk.injEq,decide_eq_true_eq,Bool.and_eq_true]
  constructor
  ·rintro ⟨h1,⟨h2,h3⟩,h4,h5,h6,h7,h8⟩;exact ⟨⟨⟨⟨⟨⟨⟨h1,h2⟩,h3⟩,h4⟩,h5⟩,h8⟩,h6⟩,h7⟩
  ·rintro ⟨⟨⟨⟨⟨⟨⟨h1,h2⟩,h3⟩,h4⟩,h5⟩,h8⟩,h6⟩,h7⟩;exact ⟨h1,⟨h2,h3⟩,h4,h5,h6,h7,h8⟩
 rw [hva]
 have Hsa:=Lib.hid hsa
 have Hsb:=Lib.hid hsb
 have Hqa:=Lib.hid hqa
 have Hqb:=Lib.hid hqb
 have Hvs:=Lib.hid hvs
 have Hvq:=Lib.hid hvq
 have Hand:=Lib.hid hand
 clear hsa hsb hqa hqb hvs hvq hva hand
 by_cases h1:k=k'
 ·by_cases h2:s=s'
  ·by_cases h3:v=v'
   ·by_cases h4:ve=ve'
    ·by_cases h5:nu=nu'
     ·by_cases h6:tg=tg'
      ·subst h1;subst h2;subst h3;subst h4;subst h5;subst h6
       cases vs
       ·have e:va=false:=by rw [Hand.out];simp
        subst e
        go_enter Tryz.func41,Tryz.ntmps41
        go_wp2_with (first
         | (go_at_call 76;refine (BX (Hsa.out.pure (by (repeat (with_reducible first|exact bA _ _|refine bB ?_ ?_ _|refine bC ?_ _|refine bD ?_|refine bE ?_ ?_ _|refine bF ?_ (by assumption) ?_))<;>first|omega|(simp;try omega))) (Hsb.out.pure (by (repeat (with_reducible first|exact bA _ _|refine bB ?_ ?_ _|refine bC ?_ _|refine bD ?_|refine bE ?_ ?_ _|refine bF ?_ (by assumption) ?_))<;>first|omega|(simp;try omega))) Hvs.out).mono ?_;rintro e w1 ⟨rfl,hb1⟩;have hz1:=hb1.size))
        go_ret
        exact ⟨rfl,(by (repeat (with_reducible first|exact bA _ _|refine bB ?_ ?_ _|refine bC ?_ _|refine bD ?_|refine bE ?_ ?_ _|refine bF ?_ (by assumption) ?_))<;>first|omega|(simp;try omega))⟩
       ·have e:va=vq:=by rw [Hand.out];simp
        subst e
        go_enter Tryz.func41,Tryz.ntmps41
        go_wp2_with (first
         | (go_at_call 76;refine (BX (Hsa.out.pure (by (repeat (with_reducible first|exact bA _ _|refine bB ?_ ?_ _|refine bC ?_ _|refine bD ?_|refine bE ?_ ?_ _|refine bF ?_ (by assumption) ?_))<;>first|omega|(simp;try omega))) (Hsb.out.pure (by (repeat (with_reducible first|exact bA _ _|refine bB ?_ ?_ _|refine bC ?_ _|refine bD ?_|refine bE ?_ ?_ _|refine bF ?_ (by assumption) ?_))<;>first|omega|(simp;try omega))) Hvs.out).mono ?_;rintro e w1 ⟨rfl,hb1⟩;obtain ⟨hc1,hf1⟩:=ax hb1;have hz0:w.heap.size<w1.heap.size:=(by have:=hb1.size;(try simp at this);omega);have hz1:w.heap.size+1<w1.heap.size:=(by have:=hb1.size;(try simp at this);omega))
         | (go_at_call 77;refine (Ko (Hqa.out.pure (by (repeat (with_reducible first|exact bA _ _|refine bB ?_ ?_ _|refine bC ?_ _|refine bD ?_|refine bE ?_ ?_ _|refine bF ?_ (by assumption) ?_))<;>first|omega|(simp;try omega))) (Hqb.out.pure (by (repeat (with_reducible first|exact bA _ _|refine bB ?_ ?_ _|refine bC ?_ _|refine bD ?_|refine bE ?_ ?_ _|refine bF ?_ (by assumption) ?_))<;>first|omega|(simp;try omega))) Hvq.out).mono ?_;rintro e w2 ⟨rfl,hb2⟩))
        go_ret
        exact ⟨rfl,(by (repeat (with_reducible first|exact bA _ _|refine bB ?_ ?_ _|refine bC ?_ _|refine bD ?_|refine bE ?_ ?_ _|refine bF ?_ (by assumption) ?_))<;>first|omega|(simp;try omega))⟩
      ·have e:va=false:=by rw [Hand.out];simp [h6]
       subst e
       go_enter Tryz.func41,Tryz.ntmps41
       go_wp2
       go_ret
       exact ⟨rfl,(by (repeat (with_reducible first|exact bA _ _|refine bB ?_ ?_ _|refine bC ?_ _|refine bD ?_|refine bE ?_ ?_ _|refine bF ?_ (by assumption) ?_))<;>first|omega|(simp;try omega))⟩
     ·have e:va=false:=by rw [Hand.out];simp [h5]
      subst e
      go_enter Tryz.func41,Tryz.ntmps41
      go_wp2
      go_ret
      exact ⟨rfl,(by (repeat (with_reducible first|exact bA _ _|refine bB ?_ ?_ _|refine bC ?_ _|refine bD ?_|refine bE ?_ ?_ _|refine bF ?_ (by assumption) ?_))<;>first|omega|(simp;try omega))⟩
    ·have e:va=false:=by rw [Hand.out];simp [h4]
     subst e
     go_enter Tryz.func41,Tryz.ntmps41
     go_wp2
     go_ret
     exact ⟨rfl,(by (repeat (with_reducible first|exact bA _ _|refine bB ?_ ?_ _|refine bC ?_ _|refine bD ?_|refine bE ?_ ?_ _|refine bF ?_ (by assumption) ?_))<;>first|omega|(simp;try omega))⟩
   ·have e:va=false:=by rw [Hand.out];simp [h3]
    subst e
    go_enter Tryz.func41,Tryz.ntmps41
    go_wp2
    go_ret
    exact ⟨rfl,(by (repeat (with_reducible first|exact bA _ _|refine bB ?_ ?_ _|refine bC ?_ _|refine bD ?_|refine bE ?_ ?_ _|refine bF ?_ (by assumption) ?_))<;>first|omega|(simp;try omega))⟩
  ·have e:va=false:=by rw [Hand.out];simp [h2]
   subst e
   go_enter Tryz.func41,Tryz.ntmps41
   go_wp2
   go_ret
   exact ⟨rfl,(by (repeat (with_reducible first|exact bA _ _|refine bB ?_ ?_ _|refine bC ?_ _|refine bD ?_|refine bE ?_ ?_ _|refine bF ?_ (by assumption) ?_))<;>first|omega|(simp;try omega))⟩
 ·have e:va=false:=by rw [Hand.out];simp [h1]
  subst e
  go_enter Tryz.func41,Tryz.ntmps41
  go_wp2
  go_ret
  exact ⟨rfl,(by (repeat (with_reducible first|exact bA _ _|refine bB ?_ ?_ _|refine bC ?_ _|refine bD ?_|refine bE ?_ ?_ _|refine bF ?_ (by assumption) ?_))<;>first|omega|(simp;try omega))⟩
end Go.Proofs.YthhmolonhpaepaaGreatDoor
