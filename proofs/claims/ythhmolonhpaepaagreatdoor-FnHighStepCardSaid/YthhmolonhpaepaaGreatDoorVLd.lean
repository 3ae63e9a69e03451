/- The laws' own comparing of things and of tables. Conditions: what is compared lies where its cells say. -/
import Derived.Test.YthhmolonhpaepaaGreatDoorVIv
import Derived.Test.YthhmolonhpaepaaGreatDoorVK
import Derived.Test.YthhmolonhpaepaaGreatDoorVG
set_option linter.unusedVariables false
set_option linter.unusedSimpArgs false
namespace Go.Proofs.YthhmolonhpaepaaGreatDoor
open Go.RowKit Drw
attribute [local go_sem] Lab.val Rgt.val Cal.val Thg.val
def sD (a b:Rgt):Bool:=decide (a=b)
theorem xQ {a b:Rgt}:sD a b=true↔a=b:=by simp [sD]
theorem xP {a b:Rgt}:sD a b=false↔a≠b:=by simp [sD]
theorem Oc (a1 a2 b1 b2:Int) (a3 a4 a5 b3 b4 b5:Bool) (w:World):(binOp .eql 69 (.agg #[.int .i64 a1,.int .i64 a2,.bool a3,.bool a4,.bool a5]) (.agg #[.int .i64 b1,.int .i64 b2,.bool b3,.bool b4,.bool b5])).run Tryz.prog w=.ok (.bool (sD ⟨a1,a2,a3,a4,a5⟩ ⟨b1,b2,b3,b4,b5⟩)) w:=by
 simp [go_sem,sD]
 by_cases h1:a1=b1<;>by_cases h2:a2=b2<;>by_cases h3:a3=b3<;>by_cases h4:a4=b4<;>by_cases h5:a5=b5<;>simp [h1,h2,h3,h4,h5]
theorem F9 (a1 a2 b1 b2:Int) (a3 a4 a5 b3 b4 b5:Bool) (w:World):(binOp .neq 69 (.agg #[.int .i64 a1,.int .i64 a2,.bool a3,.bool a4,.bool a5]) (.agg #[.int .i64 b1,.int .i64 b2,.bool b3,.bool b4,.bool b5])).run Tryz.prog w=.ok (.bool (!sD ⟨a1,a2,a3,a4,a5⟩ ⟨b1,b2,b3,b4,b5⟩)) w:=by
 simp [go_sem,sD]
 by_cases h1:a1=b1<;>by_cases h2:a2=b2<;>by_cases h3:a3=b3<;>by_cases h4:a4=b4<;>by_cases h5:a5=b5<;>simp [h1,h2,h3,h4,h5]
attribute [local go_sem 5000] Oc F9
theorem mX {α:Type} {xs ys:List α} (hl:xs.length=ys.length) (h:∀ i,i<xs.length→xs[i]?=ys[i]?):xs=ys:=by
 apply List.ext_getElem?
 intro i
 by_cases hi:i<xs.length
 ·exact h i hi
 ·rw [List.getElem?_eq_none (by omega),List.getElem?_eq_none (by omega)]
set_option maxRecDepth 100000 in
set_option maxHeartbeats 4000000 in
theorem Gx (ta tb:Thg) (sva qva svb qvb:Value) (w:World) (hsa:aF w sva ta.slots) (hqa:aG w qva ta.queue) (hsb:aF w svb tb.slots) (hqb:aG w qvb tb.queue) :
  Calls Tryz.prog 60 #[ta.val sva qva,tb.val svb qvb] w fun e w'=>e=.returned (.bool (decide (ta=tb)))∧Below w.heap.size w w':=by
 obtain ⟨k,⟨s,v⟩,ve,nu,sl,qu,tg⟩:=ta
 obtain ⟨k',⟨s',v'⟩,ve',nu',sl',qu',tg'⟩:=tb
 dsimp only [Thg.val] at hsa hqa hsb hqb ⊢
 obtain ⟨pa,ca,rfl,hla,hma⟩:=hsa.len
 obtain ⟨pb,cb,rfl,hlb,hmb⟩:=hsb.len
 obtain ⟨ra,da,rfl,hlc,hmc⟩:=hqa.len
 obtain ⟨rb,db,rfl,hld,hmd⟩:=hqb.len
 unfold maxLen at hma hmb hmc hmd
 go_enter Tryz.func60,Tryz.ntmps60
 have Hsa:=Lib.hid hsa
 have Hsb:=Lib.hid hsb
 have Hqa:=Lib.hid hqa
 have Hqb:=Lib.hid hqb
 clear hsa hsb hqa hqb
 go_upto_region 3 with (fail)
 all_goals first
  | (go_ret;refine ⟨aj ?_,(by (repeat (with_reducible first|exact bA _ _|refine bB ?_ ?_ _|refine bC ?_ _|refine bD ?_|refine bE ?_ ?_ _|refine bF ?_ (by assumption) ?_))<;>first|omega|(simp;try omega))⟩;grind)
  | skip
 have hl1:sl.length=sl'.length:=by omega
 have hl2:qu.length=qu'.length:=by have h:=‹((qu.length:Int) != (qu'.length:Int))=false›;simp at h;omega
 generalize hwa:(w.alloc _).alloc _=wa
 have hBa:Below w.heap.size w wa:=by rw [← hwa];exact (by (repeat (with_reducible first|exact bA _ _|refine bB ?_ ?_ _|refine bC ?_ _|refine bD ?_|refine bE ?_ ?_ _|refine bF ?_ (by assumption) ?_))<;>first|omega|(simp;try omega))
 have hza:w.heap.size+1<wa.heap.size:=by rw [← hwa];simp
 have ga:wa.cell? ⟨w.heap.size,5,none⟩=some (.slice pa sl.length ca)∧wa.cell? ⟨w.heap.size,6,none⟩=some (.slice ra qu.length da):=by rw [← hwa];simp [go_sem]
 have gb:wa.cell? ⟨w.heap.size+1,5,none⟩=some (.slice pb sl'.length cb)∧wa.cell? ⟨w.heap.size+1,6,none⟩=some (.slice rb qu'.length db):=by rw [← hwa];simp [go_sem]
 clear hwa
 go_wp2
 go_loopw [5] (fun s5 wr=>∃ j:Nat,s5=.int .i64 (j:Int)∧j≤sl.length∧(∀ i,i<j→sl[i]?=sl'[i]?)∧Below wa.heap.size wa wr) (fun s5 _=>sl.length - (intOf s5).toNat)
 case atStart=>exact ⟨0,rfl,by omega,fun i h=>absurd h (by omega),Below.refl _ _⟩
 case round=>
  obtain ⟨j,rfl,hj,heq,hBr⟩:=hrel
  obtain ⟨hcr,-⟩:=ax hBr
  have hzr:=hBr.size
  obtain ⟨ga5,ga6⟩:=ga
  obtain ⟨gb5,gb6⟩:=gb
  rw [← hcr _ _ (by omega)] at ga5 ga6 gb5 gb6
  clear hcr
  have Heq:=Lib.hid heq
  clear heq
  by_cases hlt:j<sl.length
  ·have hlt1:(j:Int)<(sl.length:Int):=by omega
   have hlt2:(j:Int)<(sl'.length:Int):=by omega
   have h00:(0:Int)≤(j:Int):=by omega
   obtain ⟨b1,o1,rfl,hb1,p0,p1,p2,p3,p4⟩:=(Hsa.out.pure (hBa.trans (hBr.mono hBa.size))).at j sl[j] (by simp [hlt])
   obtain ⟨b2,o2,rfl,hb2,q0,q1,q2,q3,q4⟩:=(Hsb.out.pure (hBa.trans (hBr.mono hBa.size))).at j sl'[j] (by simp [show j<sl'.length by omega])
   go_wp2
   go_quiet (fail)
   go_wp2
   ·go_ret
    have hne:sl[j]≠sl'[j]:=xP.1 (by have h:(!sD sl[j] sl'[j])=true:=(by assumption);simpa using h)
    refine ⟨aj ?_,(by (repeat (with_reducible first|exact bA _ _|refine bB ?_ ?_ _|refine bC ?_ _|refine bD ?_|refine bE ?_ ?_ _|refine bF ?_ (by assumption) ?_))<;>first|omega|(simp;try omega))⟩
    rw [eq_comm,decide_eq_false_iff_not]
    intro hh
    injection hh with _ _ _ _ h5
    subst h5
    exact hne rfl
   ·have he:sl[j]=sl'[j]:=xQ.1 (by have h:(!sD sl[j] sl'[j])=false:=(by assumption);simpa using h)
    refine ⟨⟨j+1,by go_num,by omega,fun i hi=>?_,(by (repeat (with_reducible first|exact bA _ _|refine bB ?_ ?_ _|refine bC ?_ _|refine bD ?_|refine bE ?_ ?_ _|refine bF ?_ (by assumption) ?_))<;>first|omega|(simp;try omega))⟩,by simp [intOf];omega⟩
    by_cases hij:i<j
    ·exact Heq.out i hij
    ·obtain rfl:i=j:=by omega
     rw [List.getElem?_eq_getElem hlt,List.getElem?_eq_getElem (by omega),he]
  ·have hj:j=sl.length:=by omega
   subst hj
   have hE:sl=sl':=mX hl1 Heq.out
   subst hE
   have hBw:Below w.heap.size w wr:=hBa.trans (hBr.mono hBa.size)
   obtain ⟨wb,rfl⟩:∃ wb:World,wb=wr:=⟨_,rfl⟩
   clear Heq Hsa Hsb
   go_wp2
   go_loopw [6] (fun s6 wr=>∃ j:Nat,s6=.int .i64 (j:Int)∧j≤qu.length∧(∀ i,i<j→qu[i]?=qu'[i]?)∧Below wb.heap.size wb wr) (fun s6 _=>qu.length - (intOf s6).toNat)
   case atStart=>exact ⟨0,rfl,by omega,fun i h=>absurd h (by omega),Below.refl _ _⟩
   case round=>
    obtain ⟨j,rfl,hj,heq,hBr2⟩:=hrel
    obtain ⟨hcr,-⟩:=ax hBr2
    have hzr2:=hBr2.size
    rw [← hcr _ _ (by omega)] at ga5 ga6 gb5 gb6
    clear hcr
    have Heq:=Lib.hid heq
    clear heq
    by_cases hlt:j<qu.length
    ·have hlt1:(j:Int)<(qu.length:Int):=by omega
     have hlt2:(j:Int)<(qu'.length:Int):=by omega
     have h00:(0:Int)≤(j:Int):=by omega
     obtain ⟨b1,o1,rfl,hb1,p0⟩:=(Hqa.out.pure (hBw.trans (hBr2.mono hBw.size))).at j qu[j] (by simp [hlt])
     obtain ⟨b2,o2,rfl,hb2,q0⟩:=(Hqb.out.pure (hBw.trans (hBr2.mono hBw.size))).at j qu'[j] (by simp [show j<qu'.length by omega])
     go_wp2
     go_quiet (fail)
     go_wp2
     ·go_ret
      have hne:qu[j]≠qu'[j]:=by have h:(qu[j] != qu'[j])=true:=(by assumption);simpa using h
      refine ⟨aj ?_,(by (repeat (with_reducible first|exact bA _ _|refine bB ?_ ?_ _|refine bC ?_ _|refine bD ?_|refine bE ?_ ?_ _|refine bF ?_ (by assumption) ?_))<;>first|omega|(simp;try omega))⟩
      rw [eq_comm,decide_eq_false_iff_not]
      intro hh
      injection hh with _ _ _ _ _ h6
      subst h6
      exact hne rfl
     ·have he:qu[j]=qu'[j]:=by have h:(qu[j] != qu'[j])=false:=(by assumption);simpa using h
      refine ⟨⟨j+1,by go_num,by omega,fun i hi=>?_,(by (repeat (with_reducible first|exact bA _ _|refine bB ?_ ?_ _|refine bC ?_ _|refine bD ?_|refine bE ?_ ?_ _|refine bF ?_ (by assumption) ?_))<;>first|omega|(simp;try omega))⟩,by simp [intOf];omega⟩
      by_cases hij:i<j
      ·exact Heq.out i hij
      ·obtain rfl:i=j:=by omega
       rw [List.getElem?_eq_getElem hlt,List.getElem?_eq_getElem (by omega),he]
    ·have hj:j=qu.length:=by omega
     subst hj
     have hE:qu=qu':=mX hl2 Heq.out
     subst hE
     go_wp2
     go_ret
     exact ⟨aj (by simp),(by (repeat (with_reducible first|exact bA _ _|refine bB ?_ ?_ _|refine bC ?_ _|refine bD ?_|refine bE ?_ ?_ _|refine bF ?_ (by assumption) ?_))<;>first|omega|(simp;try omega))⟩
end Go.Proofs.YthhmolonhpaepaaGreatDoor
namespace Go.Proofs.YthhmolonhpaepaaGreatDoor
open Go.RowKit Drw
attribute [local go_sem] Lab.val Rgt.val Cal.val Thg.val
set_option maxRecDepth 100000 in
set_option maxHeartbeats 4000000 in
theorem Gy (pa pb:Option Addr) (ca cb:Nat) (ts us:List Thg) (w:World) (hA:TabAt w (.slice pa ts.length ca) ts) (hB:TabAt w (.slice pb us.length cb) us) :
  Calls Tryz.prog 21 #[.slice pa ts.length ca,.slice pb us.length cb] w fun e w'=>e=.returned (.bool (decide (ts=us)))∧Below w.heap.size w w':=by
 obtain ⟨pa',ca',hea,hla,hma⟩:=hA.len
 cases hea
 obtain ⟨pb',cb',heb,hlb,hmb⟩:=hB.len
 cases heb
 unfold maxLen at hma hmb
 by_cases hl:ts.length=us.length
 ·have hl':(ts.length:Int)=(us.length:Int):=by omega
  have Hl:=Lib.hid hl
  have HA:=Lib.hid hA
  have HB:=Lib.hid hB
  clear hl hA hB
  go_enter Tryz.func21,Tryz.ntmps21
  go_wp2
  go_loopw [5] (fun s5 wr=>∃ j:Nat,s5=.int .i64 (j:Int)∧j≤ts.length∧(∀ i,i<j→ts[i]?=us[i]?)∧Below w.heap.size w wr) (fun s5 _=>ts.length - (intOf s5).toNat)
  case atStart=>exact ⟨0,rfl,by omega,fun i h=>absurd h (by omega),Below.refl _ _⟩
  case round=>
   obtain ⟨j,rfl,hj,heq,hBr⟩:=hrel
   have Heq:=Lib.hid heq
   clear heq
   by_cases hlt:j<ts.length
   ·have hlt0:j<us.length:=by rw [← Hl.out];exact hlt
    have hlt1:(j:Int)<(ts.length:Int):=by omega
    have hlt2:(j:Int)<(us.length:Int):=by omega
    have h00:(0:Int)≤(j:Int):=by omega
    obtain ⟨ta,hta⟩:∃ t,ts[j]=t:=⟨_,rfl⟩
    obtain ⟨tb,htb⟩:∃ t,us[j]=t:=⟨_,rfl⟩
    obtain ⟨b1,o1,sv1,qv1,rfl,hb1,hS1,hQ1,p0,p1,p2,p3,p4,p5,p6,p7⟩:=(HA.out.pure hBr).at j ta (by rw [← hta];simp [hlt])
    obtain ⟨b2,o2,sv2,qv2,rfl,hb2,hS2,hQ2,q0,q1,q2,q3,q4,q5,q6,q7⟩:=(HB.out.pure hBr).at j tb (by rw [← htb];simp [hlt0])
    have Hta:=Lib.hid hta
    have Htb:=Lib.hid htb
    clear hta htb
    obtain ⟨dd,hdd⟩:∃ d,decide (ta=tb)=d:=⟨_,rfl⟩
    have Hdd:=Lib.hid hdd
    clear hdd
    obtain ⟨wx,rfl⟩:∃ wx:World,wx=wr:=⟨_,rfl⟩
    obtain ⟨k1,⟨s1,l1⟩,ve1,nu1,sl1,qu1,tg1⟩:=ta
    obtain ⟨k2,⟨s2,l2⟩,ve2,nu2,sl2,qu2,tg2⟩:=tb
    dsimp only at hS1 hQ1 hS2 hQ2 p0 p1 p2 p3 p4 p5 p6 p7 q0 q1 q2 q3 q4 q5 q6 q7
    go_upto_region 5 with (fail)
    have HS:=Lib.hid (show ∀ w':World,Below wx.heap.size wx w'→(Below wx.heap.size wx w'∧w'.cell? ⟨b1,o1+j * 8,none⟩=some (.int .i64 k1)∧w'.cell? ⟨b1,o1+j * 8+1,none⟩=some (.int .i64 s1)∧w'.cell? ⟨b1,o1+j * 8+2,none⟩=some (.int .i64 l1)∧w'.cell? ⟨b1,o1+j * 8+3,none⟩=some (.int .i64 ve1)∧w'.cell? ⟨b1,o1+j * 8+4,none⟩=some (.int .i64 nu1)∧w'.cell? ⟨b1,o1+j * 8+5,none⟩=some (sv1)∧w'.cell? ⟨b1,o1+j * 8+6,none⟩=some (qv1)∧w'.cell? ⟨b1,o1+j * 8+7,none⟩=some (.int .i64 tg1)∧w'.cell? ⟨b2,o2+j * 8,none⟩=some (.int .i64 k2)∧w'.cell? ⟨b2,o2+j * 8+1,none⟩=some (.int .i64 s2)∧w'.cell? ⟨b2,o2+j * 8+2,none⟩=some (.int .i64 l2)∧w'.cell? ⟨b2,o2+j * 8+3,none⟩=some (.int .i64 ve2)∧w'.cell? ⟨b2,o2+j * 8+4,none⟩=some (.int .i64 nu2)∧w'.cell? ⟨b2,o2+j * 8+5,none⟩=some (sv2)∧w'.cell? ⟨b2,o2+j * 8+6,none⟩=some (qv2)∧w'.cell? ⟨b2,o2+j * 8+7,none⟩=some (.int .i64 tg2)) from
     fun w' h=>by
      obtain ⟨hc',-⟩:=ax h
      exact ⟨h,(hc' _ _ hb1).trans p0,(hc' _ _ hb1).trans p1,(hc' _ _ hb1).trans p2,(hc' _ _ hb1).trans p3,(hc' _ _ hb1).trans p4,(hc' _ _ hb1).trans p5,(hc' _ _ hb1).trans p6,(hc' _ _ hb1).trans p7,
       (hc' _ _ hb2).trans q0,(hc' _ _ hb2).trans q1,(hc' _ _ hb2).trans q2,(hc' _ _ hb2).trans q3,(hc' _ _ hb2).trans q4,(hc' _ _ hb2).trans q5,(hc' _ _ hb2).trans q6,(hc' _ _ hb2).trans q7⟩)
    go_cut [26] (fun s26 wy=>s26=.bool (!dd)∧Below wx.heap.size wx wy)
    case first=>
     go_region_held3 (fun w'=>Below wx.heap.size wx w'∧w'.cell? ⟨b1,o1+j * 8,none⟩=some (.int .i64 k1)∧w'.cell? ⟨b1,o1+j * 8+1,none⟩=some (.int .i64 s1)∧w'.cell? ⟨b1,o1+j * 8+2,none⟩=some (.int .i64 l1)∧w'.cell? ⟨b1,o1+j * 8+3,none⟩=some (.int .i64 ve1)∧w'.cell? ⟨b1,o1+j * 8+4,none⟩=some (.int .i64 nu1)∧w'.cell? ⟨b1,o1+j * 8+5,none⟩=some (sv1)∧w'.cell? ⟨b1,o1+j * 8+6,none⟩=some (qv1)∧w'.cell? ⟨b1,o1+j * 8+7,none⟩=some (.int .i64 tg1)∧w'.cell? ⟨b2,o2+j * 8,none⟩=some (.int .i64 k2)∧w'.cell? ⟨b2,o2+j * 8+1,none⟩=some (.int .i64 s2)∧w'.cell? ⟨b2,o2+j * 8+2,none⟩=some (.int .i64 l2)∧w'.cell? ⟨b2,o2+j * 8+3,none⟩=some (.int .i64 ve2)∧w'.cell? ⟨b2,o2+j * 8+4,none⟩=some (.int .i64 nu2)∧w'.cell? ⟨b2,o2+j * 8+5,none⟩=some (sv2)∧w'.cell? ⟨b2,o2+j * 8+6,none⟩=some (qv2)∧w'.cell? ⟨b2,o2+j * 8+7,none⟩=some (.int .i64 tg2))
      (first|exact HS.out _ (Below.drew (Below.refl _ _))|(have hX:=And.left (by assumption:Below wx.heap.size wx _∧_);exact HS.out _ (hX.trans (hb3.mono hX.size))))
      (first|(go_at_call 60;have hX:=And.left (by assumption:Below wx.heap.size wx _∧_);refine (Gx ⟨k1,⟨s1,l1⟩,ve1,nu1,sl1,qu1,tg1⟩ ⟨k2,⟨s2,l2⟩,ve2,nu2,sl2,qu2,tg2⟩ sv1 qv1 sv2 qv2 _ (hS1.pure hX) (hQ1.pure hX) (hS2.pure hX) (hQ2.pure hX)).mono ?_;rw [Hdd.out];rintro e w3 ⟨rfl,hb3⟩))
     all_goals (go_wp2;go_meet;exact ⟨rfl,And.left (by assumption:Below wx.heap.size wx _∧_)⟩)
    case rest=>
     obtain ⟨rfl,hBy⟩:=hcut
     obtain ⟨wy,rfl⟩:∃ wy:World,wy=wc:=⟨_,rfl⟩
     cases dd
     ·go_wp2
      go_ret
      refine ⟨aj ?_,hBr.trans (hBy.mono hBr.size)⟩
      rw [eq_comm,decide_eq_false_iff_not]
      intro h
      subst h
      have:=Hdd.out
      rw [← Hta.out,← Htb.out] at this
      simp at this
     ·go_wp2
      refine ⟨⟨j+1,by go_num,by omega,fun i hi=>?_,hBr.trans (hBy.mono hBr.size)⟩,by simp [intOf];omega⟩
      by_cases hij:i<j
      ·exact Heq.out i hij
      ·obtain rfl:i=j:=by omega
       have:=of_decide_eq_true Hdd.out
       rw [← Hta.out,← Htb.out] at this
       rw [List.getElem?_eq_getElem hlt,List.getElem?_eq_getElem hlt0,this]
   ·have hj:j=ts.length:=by omega
    subst hj
    have hE:ts=us:=mX Hl.out Heq.out
    subst hE
    go_wp2
    go_ret
    exact ⟨aj (by simp),(by (repeat (with_reducible first|exact bA _ _|refine bB ?_ ?_ _|refine bC ?_ _|refine bD ?_|refine bE ?_ ?_ _|refine bF ?_ (by assumption) ?_))<;>first|omega|(simp;try omega))⟩
 ·have hl':((ts.length:Int) != (us.length:Int))=true:=by simp;omega
  clear hA hB
  go_enter Tryz.func21,Tryz.ntmps21
  go_wp2
  go_ret
  refine ⟨aj ?_,(by (repeat (with_reducible first|exact bA _ _|refine bB ?_ ?_ _|refine bC ?_ _|refine bD ?_|refine bE ?_ ?_ _|refine bF ?_ (by assumption) ?_))<;>first|omega|(simp;try omega))⟩
  rw [eq_comm,decide_eq_false_iff_not]
  intro h
  exact hl (by rw [h])
end Go.Proofs.YthhmolonhpaepaaGreatDoor
namespace Go.Proofs.YthhmolonhpaepaaGreatDoor
open Go.RowKit Drw
attribute [local go_sem] Lab.val Rgt.val Cal.val Thg.val
set_option maxRecDepth 100000 in
set_option maxHeartbeats 4000000 in
theorem MI (p:Option Addr) (cap:Nat) (ts:List Thg) (c:Cal) (w:World) (hT:TabAt w (.slice p ts.length cap) ts) :
  Calls Tryz.prog 22 #[.slice p ts.length cap,c.val] w fun e w'=>e=.returned (.bool (bP ts c))∧Below w.heap.size w w':=by
 obtain ⟨tok,J8⟩:∃ b,aU ts=b:=⟨_,rfl⟩
 obtain ⟨cok,IY⟩:∃ b,nQ c=b:=⟨_,rfl⟩
 obtain ⟨kok,D6⟩:∃ b,bS ts c.run 3=b:=⟨_,rfl⟩
 have gT:bP ts c=(tok && cok && kok):=by simp [bP,J8,IY,D6]
 rw [gT]
 clear gT
 have H1:=Lib.hid J8
 have H2:=Lib.hid IY
 cases tok
 ·clear J8 IY D6
  obtain ⟨ck,cr,ca,cb,cn⟩:=c
  go_enter Tryz.func22,Tryz.ntmps22
  go_wp2_with (go_at_call 38;refine (iD p cap ts _ (hT.pure (by (repeat (with_reducible first|exact bA _ _|refine bB ?_ ?_ _|refine bC ?_ _|refine bD ?_|refine bE ?_ ?_ _|refine bF ?_ (by assumption) ?_))<;>first|omega|(simp;try omega)))).mono ?_;rw [H1.out];rintro e w1 ⟨rfl,hb1⟩;obtain ⟨hc1,hf1⟩:=ax hb1;have hz0:w.heap.size<w1.heap.size:=(by have:=hb1.size;(try simp at this);omega))
  go_ret
  exact ⟨rfl,(by (repeat (with_reducible first|exact bA _ _|refine bB ?_ ?_ _|refine bC ?_ _|refine bD ?_|refine bE ?_ ?_ _|refine bF ?_ (by assumption) ?_))<;>first|omega|(simp;try omega))⟩
 ·cases cok
  ·clear J8 IY D6
   obtain ⟨ck,cr,ca,cb,cn⟩:=c
   go_enter Tryz.func22,Tryz.ntmps22
   go_wp2_with (first
    | (go_at_call 61;refine (pW ⟨_,_,_,_,_⟩ _).mono ?_;rw [H2.out];rintro e w2 ⟨rfl,hb2⟩;obtain ⟨hc2,hf2⟩:=ax hb2;have hz2:w.heap.size<w2.heap.size:=(by have:=hb2.size;have:=hb1.size;simp at *;omega))
    | (go_at_call 38;refine (iD p cap ts _ (hT.pure (by (repeat (with_reducible first|exact bA _ _|refine bB ?_ ?_ _|refine bC ?_ _|refine bD ?_|refine bE ?_ ?_ _|refine bF ?_ (by assumption) ?_))<;>first|omega|(simp;try omega)))).mono ?_;rw [H1.out];rintro e w1 ⟨rfl,hb1⟩;obtain ⟨hc1,hf1⟩:=ax hb1;have hz0:w.heap.size<w1.heap.size:=(by have:=hb1.size;(try simp at this);omega)))
   go_ret
   exact ⟨rfl,(by (repeat (with_reducible first|exact bA _ _|refine bB ?_ ?_ _|refine bC ?_ _|refine bD ?_|refine bE ?_ ?_ _|refine bF ?_ (by assumption) ?_))<;>first|omega|(simp;try omega))⟩
  ·obtain ⟨ck,cr,ca,cb,cn⟩:=c
   simp only [nQ,inR,Bool.and_eq_true,decide_eq_true_eq] at IY
   simp only [bS] at D6
   have hlow:1≤cr:=by omega
   have hhi:cr≤8:=by omega
   clear IY J8
   by_cases hle:cr≤ts.length
   ·have hex:ex ts cr=true:=by simp [ex,inR];omega
    obtain ⟨k,rfl,hk⟩:=eO hex
    obtain ⟨t,ht⟩:∃ t,aC ts ((k:Int)+1)=t:=⟨_,rfl⟩
    rw [ht] at hk
    rw [hex,ht] at D6
    have hkk:(t.kind == 3)=kok:=by simpa using D6
    have hk0:(0:Int)≤(k:Int):=by omega
    have hkn:(k:Int)<(ts.length:Int):=by omega
    have hw1:IntKind.i64.wrap ((k:Int)+1 - 1)=(k:Int):=by rw [show (k:Int)+1 - 1=k by omega];exact IntWalk.i64_in _ (by omega)
    have Hk:=Lib.hid hk
    clear ht hk D6 hex
    obtain ⟨b,o,sv,qv,rfl,hb,-,-,q0,-⟩:=hT.at k t Hk.out
    go_enter Tryz.func22,Tryz.ntmps22
    go_wp2_with (first
     | (go_at_call 61;refine (pW ⟨_,_,_,_,_⟩ _).mono ?_;rw [H2.out];rintro e w2 ⟨rfl,hb2⟩;obtain ⟨hc2,hf2⟩:=ax hb2;have hz2:w.heap.size<w2.heap.size:=(by have:=hb2.size;have:=hb1.size;simp at *;omega);have q2:w2.cell? ⟨b,o+k * 8,none⟩=some (.int .i64 t.kind):=(by rw [hc2 _ _ (by omega)];exact q1))
     | (go_at_call 38;refine (iD _ cap ts _ (hT.pure (by (repeat (with_reducible first|exact bA _ _|refine bB ?_ ?_ _|refine bC ?_ _|refine bD ?_|refine bE ?_ ?_ _|refine bF ?_ (by assumption) ?_))<;>first|omega|(simp;try omega)))).mono ?_;rw [H1.out];rintro e w1 ⟨rfl,hb1⟩;obtain ⟨hc1,hf1⟩:=ax hb1;have hz0:w.heap.size<w1.heap.size:=(by have:=hb1.size;(try simp at this);omega);have q1:w1.cell? ⟨b,o+k * 8,none⟩=some (.int .i64 t.kind):=(by rw [hc1 _ _ (by simp;omega),World.cell?_alloc_past _ _ _ hb];exact q0)))
    go_ret
    refine ⟨aj ?_,(by (repeat (with_reducible first|exact bA _ _|refine bB ?_ ?_ _|refine bC ?_ _|refine bD ?_|refine bE ?_ ?_ _|refine bF ?_ (by assumption) ?_))<;>first|omega|(simp;try omega))⟩
    rw [← hkk]
    grind
   ·have hex:ex ts cr=false:=by simp [ex,inR];omega
    have hkk:kok=false:=by rw [← D6,hex];rfl
    subst hkk
    clear D6 hex
    have hle2:¬ cr≤(ts.length:Int):=by omega
    go_enter Tryz.func22,Tryz.ntmps22
    go_wp2_with (first
     | (go_at_call 61;refine (pW ⟨_,_,_,_,_⟩ _).mono ?_;rw [H2.out];rintro e w2 ⟨rfl,hb2⟩;obtain ⟨hc2,hf2⟩:=ax hb2;have hz2:w.heap.size<w2.heap.size:=(by have:=hb2.size;have:=hb1.size;simp at *;omega))
     | (go_at_call 38;refine (iD p cap ts _ (hT.pure (by (repeat (with_reducible first|exact bA _ _|refine bB ?_ ?_ _|refine bC ?_ _|refine bD ?_|refine bE ?_ ?_ _|refine bF ?_ (by assumption) ?_))<;>first|omega|(simp;try omega)))).mono ?_;rw [H1.out];rintro e w1 ⟨rfl,hb1⟩;obtain ⟨hc1,hf1⟩:=ax hb1;have hz0:w.heap.size<w1.heap.size:=(by have:=hb1.size;(try simp at this);omega)))
    go_ret
    exact ⟨rfl,(by (repeat (with_reducible first|exact bA _ _|refine bB ?_ ?_ _|refine bC ?_ _|refine bD ?_|refine bE ?_ ?_ _|refine bF ?_ (by assumption) ?_))<;>first|omega|(simp;try omega))⟩
end Go.Proofs.YthhmolonhpaepaaGreatDoor
