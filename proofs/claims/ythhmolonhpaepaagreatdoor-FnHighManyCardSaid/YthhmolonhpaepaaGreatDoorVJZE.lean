/- The lone part of the law FnHighMany, up to ViewSame. Conditions: the bytes lie where their cells say; errors.errorType is laid. -/
import Derived.Test.YthhmolonhpaepaaGreatDoorVJZv
import Derived.Test.YthhmolonhpaepaaGreatDoorVKa
import Derived.Test.YthhmolonhpaepaaGreatDoorCards
import Derived.Test.YthhmolonhpaepaaGreatDoorTie
import Derived.SevenTiedAt
import Derived.Deep.Frames
set_option linter.unusedVariables false
set_option linter.unusedSimpArgs false
section
namespace Go.Proofs.YthhmolonhpaepaaGreatDoor
open Go.RowKit Drw
attribute [local go_sem] Lab.val Rgt.val Cal.val Thg.val
noncomputable def NV:Code:=Tryz.f7.body.getD .skip
noncomputable def Oq:Code:=match NV with|.seq r _=>r|_=>.skip
noncomputable def Og:Code:=match NV with|.seq _ (.seq r _)=>r|_=>.skip
noncomputable def Oo:Code:=match NV with|.seq _ (.seq _ (.seq r _))=>r|_=>.skip
noncomputable def Om:Code:=match NV with|.seq _ (.seq _ (.seq _ (.seq r _)))=>r|_=>.skip
noncomputable def Ol:Code:=match NV with|.seq _ (.seq _ (.seq _ (.seq _ (.seq r _))))=>r|_=>.skip
noncomputable def Oe:Code:=match NV with|.seq _ (.seq _ (.seq _ (.seq _ (.seq _ (.seq r _)))))=>r|_=>.skip
noncomputable def Oj:Code:=match NV with|.seq _ (.seq _ (.seq _ (.seq _ (.seq _ (.seq _ (.seq r _))))))=>r|_=>.skip
noncomputable def Oh:Code:=match NV with|.seq _ (.seq _ (.seq _ (.seq _ (.seq _ (.seq _ (.seq _ (.seq r _)))))))=>r|_=>.skip
noncomputable def N8:Code:=match NV with|.seq _ (.seq _ (.seq _ (.seq _ (.seq _ (.seq _ (.seq _ (.seq _ (.seq r _))))))))=>r|_=>.skip
noncomputable def N9:Code:=match NV with|.seq _ (.seq _ (.seq _ (.seq _ (.seq _ (.seq _ (.seq _ (.seq _ (.seq _ (.seq r _)))))))))=>r|_=>.skip
noncomputable def N7:Code:=match NV with|.seq _ (.seq _ (.seq _ (.seq _ (.seq _ (.seq _ (.seq _ (.seq _ (.seq _ (.seq _ (.seq r _))))))))))=>r|_=>.skip
noncomputable def Ox:Code:=match NV with|.seq _ (.seq _ (.seq _ (.seq _ (.seq _ (.seq _ (.seq _ (.seq _ (.seq _ (.seq _ (.seq _ r))))))))))=>r|_=>.skip
theorem Ou:NV=jf.spine [Oq,Og,Oo,Om,Ol,Oe,Oj,Oh,N8,N9] (.seq N7 Ox):=rfl
theorem Oa (n i:Nat) (hn:n≤1048576) (hi:i<10):∃ a1 a2 a3 kk b1 b2 aa c1 bb d1 d2 mm:Int,
  IntKind.i64.wrap (3 * (i:Int))=a1∧IntKind.i64.wrap ((n:Int)+a1)=a2∧Int.tmod a2 8=a3∧IntKind.i64.wrap a3=a3∧IntKind.i64.wrap (1+a3)=kk ∧
  Int.tdiv (n:Int) 2=b1∧IntKind.i64.wrap b1=b1∧IntKind.i64.wrap (b1+(i:Int))=b2∧Int.tmod b2 4=aa∧IntKind.i64.wrap aa=aa ∧
  IntKind.i64.wrap ((n:Int)+(i:Int))=c1∧Int.tmod c1 4=bb∧IntKind.i64.wrap bb=bb ∧
  IntKind.i64.wrap (7 * (i:Int))=d1∧IntKind.i64.wrap (d1+(n:Int))=d2∧Int.tmod d2 80=mm∧IntKind.i64.wrap mm=mm ∧
  (1≤kk∧kk≤8)∧(0≤aa∧aa≤3)∧(0≤bb∧bb≤3)∧(0≤mm∧mm≤99):=by
 refine ⟨3 * i,n+3 * i,(n+3 * i) % 8,1+(n+3 * i) % 8,n / 2,n / 2+i,(n / 2+i) % 4,n+i,(n+i) % 4,7 * i,7 * i+n,(7 * i+n) % 80,?_⟩
 refine ⟨IntWalk.i64_in _ (by omega),IntWalk.i64_in _ (by omega),Int.tmod_eq_emod_of_nonneg (by omega),IntWalk.i64_in _ (by omega),IntWalk.i64_in _ (by omega),Int.tdiv_eq_ediv_of_nonneg (by omega),IntWalk.i64_in _ (by omega),IntWalk.i64_in _ (by omega),Int.tmod_eq_emod_of_nonneg (by omega),IntWalk.i64_in _ (by omega),
  IntWalk.i64_in _ (by omega),Int.tmod_eq_emod_of_nonneg (by omega),IntWalk.i64_in _ (by omega),IntWalk.i64_in _ (by omega),IntWalk.i64_in _ (by omega),Int.tmod_eq_emod_of_nonneg (by omega),IntWalk.i64_in _ (by omega),by omega,by omega,by omega,by omega⟩
set_option maxRecDepth 100000 in
set_option maxHeartbeats 4000000 in
theorem Oy (p:Option Addr) (n cap:Nat) (p2:Option Addr) (n2 cap2:Nat) (w:World) (hL:Laid w) (hc:n≤cap) (hb:BytesAt w p n) :
  (jf.spine [Oq,Og,Oo,Om,Ol,Oe,Oj,Oh,N8,N9] N7).wp Tryz.prog (Ck 113 4 13 5 12 w) ⟨#[.slice p n cap,.slice p2 n2 cap2,undef,undef,undef,undef,undef,undef,undef,undef,undef,undef,undef,undef,undef,undef,undef,undef,undef,undef,undef,undef,undef,undef,undef,undef,undef,undef,undef,undef,undef,undef,undef,undef,undef,undef,undef,undef,undef,undef,undef,undef,undef,undef,undef,undef,undef,undef,undef,undef,undef,undef,undef,undef,undef,undef,undef,undef,undef,undef,undef,undef,undef,undef,undef,undef,undef,undef,undef,undef,undef,undef,undef,undef,undef,undef,undef,undef,undef,undef,undef,undef,undef,undef,undef,undef,undef,undef,undef,undef,undef,undef,undef,undef,undef,undef,undef,undef,undef,undef,undef,undef,undef,undef,undef,undef,undef,undef,undef,undef,undef,undef,undef],[]⟩ w:=by
 by_cases hbig:n≤1048576∧n2≤1048576
 ·have hle:¬ (1048576:Int)<(n:Int):=by omega
  have hle2:¬ (1048576:Int)<(n2:Int):=by omega
  have hle3:(n:Int)≤1048576:=by omega
  have hle4:(n2:Int)≤1048576:=by omega
  have Hb:=Lib.hid hb
  have HL:=Lib.hid hL
  clear hb hL
  (show (Code.seq Oq (.seq Og (.seq Oo (.seq Om (.seq Ol (.seq Oe (.seq Oj (.seq Oh (.seq N8 (.seq N9 N7)))))))))).wp _ _ _ _);unfold Oq Og Oo Om Ol Oe Oj Oh N8 N9 N7 NV;simp only [Tryz.f7,Option.getD_some]
  go_upto_region 3 with (fail)
  go_cut [5,6] from 17 to 29 (fun s3 s4 wz=>∃ q k ts c B,s3=.slice q ts.length k∧s4=.pointer (some ⟨B,0,none⟩)∧w.heap.size≤B∧uR wz B c∧TabAt wz (.slice q ts.length k) ts∧3≤ts.length∧ts.length≤8∧Below w.heap.size w wz)
  case first=>
   go_wp2_with (go_at_call 19;refine (y9 p n cap _ hc Hb.out (by omega)).mono ?_;rintro e w1 ⟨q,k,ts,⟨ck,cr,ca,cb,cn⟩,rfl,hT,h3,h8,-,hb1⟩)
   go_meet
   have hz1:=hb1.size
   exact ⟨q,k,ts,⟨ck,cr,ca,cb,cn⟩,w1.heap.size,rfl,rfl,hb1.size,⟨by simp [go_sem],fun j=>by simp [go_sem]⟩,hT.pure (by (repeat (with_reducible first|exact bA _ _|refine bB ?_ ?_ _|refine bC ?_ _|refine bD ?_|refine bE ?_ ?_ _|refine bF ?_ (by assumption) ?_))<;>first|omega|(simp;try omega)),h3,h8,(by (repeat (with_reducible first|exact bA _ _|refine bB ?_ ?_ _|refine bC ?_ _|refine bD ?_|refine bE ?_ ?_ _|refine bF ?_ (by assumption) ?_))<;>first|omega|(simp;try omega))⟩
  case rest=>
   obtain ⟨q,k,ts,⟨ck,cr,ca,cb,cn⟩,B,rfl,rfl,hwB,hC,hT,hl3,hl8,hB1⟩:=hcut
   obtain ⟨wx,rfl⟩:∃ wx:World,wx=wc:=⟨_,rfl⟩
   have hL1:=HL.out.below hB1 HL.out.size
   obtain ⟨us,an,hdo⟩:∃ us an,fU ts ⟨ck,cr,ca,cb,cn⟩=(us,an):=⟨_,_,rfl⟩
   obtain ⟨can,gT⟩:∃ can,bP ts ⟨ck,cr,ca,cb,cn⟩=can:=⟨_,rfl⟩
   have Hdo:=Lib.hid hdo
   have Ew:=Lib.hid gT
   have HB1:=Lib.hid hB1
   have HC:=Lib.hid hC
   clear hdo gT HL Hb hB1 hwB
   obtain ⟨⟨q0,q1,q2,q3,q4⟩,-⟩:=hC
   dsimp only at q0 q1 q2 q3 q4
   have hBs:=World.block_lt_of_cell? _ _ q0
   go_upto_region 6 with (first
    | (go_at_call 17;refine (Kw (hL1.pure hb1) (hT.pure hb1) Hdo.out).mono ?_;rintro e w2 ⟨p2',k2,rfl,hX,hb2⟩)
    | (go_at_call 20;refine (EY (c:=⟨_,_,_,_,_⟩) hT Hdo.out).mono ?_;rintro e w1 ⟨p1,k1,rfl,hW,hb1⟩;have q0:=(HC.out.pure hb1).1.1;have q1:=(HC.out.pure hb1).1.2.1;have q2:=(HC.out.pure hb1).1.2.2.1;have q3:=(HC.out.pure hb1).1.2.2.2.1;have q4:=(HC.out.pure hb1).1.2.2.2.2))
   have hT2:=(hT.pure hb1).pure hb2
   have hW2:=hW.pure hb2
   have hC2:=(HC.out.pure hb1).pure hb2
   have hL2:=(hL1.pure hb1).pure hb2
   have hB2:Below w.heap.size w w2:=(HB1.out.trans (hb1.mono HB1.out.size)).trans (hb2.mono (Nat.le_trans HB1.out.size hb1.size))
   clear hT hW hL1 hb1 hb2 q0 q1 q2 q3 q4 hBs HC HB1
   have HB2:=Lib.hid hB2
   have HC2:=Lib.hid hC2
   obtain ⟨⟨q0,q1,q2,q3,q4⟩,-⟩:=hC2
   dsimp only at q0 q1 q2 q3 q4
   have hBs:=World.block_lt_of_cell? _ _ q0
   clear hB2
   cases can
   ·go_wp2_with (first
     | (go_at_call 22;refine (GA (hT2.pure (by (repeat (with_reducible first|exact bA _ _|refine bB ?_ ?_ _|refine bC ?_ _|refine bD ?_|refine bE ?_ ?_ _|refine bF ?_ (by assumption) ?_))<;>first|omega|(simp;try omega))) Ew.out).mono ?_;rintro e w4 ⟨rfl,hb4⟩;have hz4:=hb4.size)
     | (go_at_call 21;refine (rq (hX.pure (by (repeat (with_reducible first|exact bA _ _|refine bB ?_ ?_ _|refine bC ?_ _|refine bD ?_|refine bE ?_ ?_ _|refine bF ?_ (by assumption) ?_))<;>first|omega|(simp;try omega))) (hW2.pure (by (repeat (with_reducible first|exact bA _ _|refine bB ?_ ?_ _|refine bC ?_ _|refine bD ?_|refine bE ?_ ?_ _|refine bF ?_ (by assumption) ?_))<;>first|omega|(simp;try omega)))).mono ?_;rintro e w3 ⟨rfl,hb3⟩;have hz3:=hb3.size;have q0:=(HC2.out.pure hb3).1.1;have q1:=(HC2.out.pure hb3).1.2.1;have q2:=(HC2.out.pure hb3).1.2.2.1;have q3:=(HC2.out.pure hb3).1.2.2.2.1;have q4:=(HC2.out.pure hb3).1.2.2.2.2)
     | (go_at_call 21;refine (rq (hX.pure (by (repeat (with_reducible first|exact bA _ _|refine bB ?_ ?_ _|refine bC ?_ _|refine bD ?_|refine bE ?_ ?_ _|refine bF ?_ (by assumption) ?_))<;>first|omega|(simp;try omega))) (hW2.pure (by (repeat (with_reducible first|exact bA _ _|refine bB ?_ ?_ _|refine bC ?_ _|refine bD ?_|refine bE ?_ ?_ _|refine bF ?_ (by assumption) ?_))<;>first|omega|(simp;try omega)))).mono ?_;rintro e w5 ⟨rfl,hb5⟩;have hz5:=hb5.size))
    have h2:=HB2.out.size
    exact ⟨Later.of (HB2.out.trans (Below.mono (show Below w2.heap.size w2 _ from (by (repeat (with_reducible first|exact bA _ _|refine bB ?_ ?_ _|refine bC ?_ _|refine bD ?_|refine bE ?_ ?_ _|refine bF ?_ (by assumption) ?_))<;>first|omega|(simp;try omega))) h2)),rfl,rfl,.inl ⟨rfl,rfl⟩⟩
   ·go_upto_region 8 with (first
     | (go_at_call 22;refine (GA (hT2.pure (by (repeat (with_reducible first|exact bA _ _|refine bB ?_ ?_ _|refine bC ?_ _|refine bD ?_|refine bE ?_ ?_ _|refine bF ?_ (by assumption) ?_))<;>first|omega|(simp;try omega))) Ew.out).mono ?_;rintro e w4 ⟨rfl,hb4⟩;have hz4:=hb4.size)
     | (go_at_call 21;refine (rq (hX.pure (by (repeat (with_reducible first|exact bA _ _|refine bB ?_ ?_ _|refine bC ?_ _|refine bD ?_|refine bE ?_ ?_ _|refine bF ?_ (by assumption) ?_))<;>first|omega|(simp;try omega))) (hW2.pure (by (repeat (with_reducible first|exact bA _ _|refine bB ?_ ?_ _|refine bC ?_ _|refine bD ?_|refine bE ?_ ?_ _|refine bF ?_ (by assumption) ?_))<;>first|omega|(simp;try omega)))).mono ?_;rintro e w3 ⟨rfl,hb3⟩;have hz3:=hb3.size;have q0:=(HC2.out.pure hb3).1.1;have q1:=(HC2.out.pure hb3).1.2.1;have q2:=(HC2.out.pure hb3).1.2.2.1;have q3:=(HC2.out.pure hb3).1.2.2.2.1;have q4:=(HC2.out.pure hb3).1.2.2.2.2))
    have hb5:Below w2.heap.size w2 w4:=(by (repeat (with_reducible first|exact bA _ _|refine bB ?_ ?_ _|refine bC ?_ _|refine bD ?_|refine bE ?_ ?_ _|refine bF ?_ (by assumption) ?_))<;>first|omega|(simp;try omega))
    have hT4:=hT2.pure hb5
    have hX4:=hX.pure hb5
    have hL4:=hL2.pure hb5
    have hC4:=HC2.out.pure hb5
    have HB4:=Lib.hid (HB2.out.trans (hb5.mono HB2.out.size))
    have HC4:=Lib.hid hC4
    clear hT2 hX hL2 HC2 HB2 hb3 hb4 hz3 hz4 q0 q1 q2 q3 q4 hBs hW2 hb5
    obtain ⟨wx,rfl⟩:∃ wx:World,wx=w4:=⟨_,rfl⟩
    obtain ⟨⟨q0,q1,q2,q3,q4⟩,-⟩:=hC4
    dsimp only at q0 q1 q2 q3 q4
    have hBs:=World.block_lt_of_cell? _ _ q0
    obtain ⟨⟨ls,lv⟩,hlok,hlab⟩:=Gz n2 hbig.2
    have hCan:=Nk.1 Ew.out
    obtain ⟨fl,hfl⟩:∃ fl,uJ (aC ts cr).lab ⟨ls,lv⟩=fl:=⟨_,rfl⟩
    have Hfl:=Lib.hid hfl
    have Ov:=Lib.hid hlok
    have KO:=Lib.hid hCan
    have HT4:=Lib.hid hT4
    have HL4:=Lib.hid hL4
    have Hn2:=Lib.hid hbig.2
    clear hfl hlok hCan hT4 hX4 hL4 hle hle2 hle3 hle4
    go_upto_region 10 with (first
     | (go_at_call 23;refine (hlab _).mono ?_;rintro e w6 ⟨rfl,hb6⟩;have q0:=(HC4.out.pure hb6).1.1;have q1:=(HC4.out.pure hb6).1.2.1))
    generalize hwa:World.alloc _ _=wa
    have hba:Below wx.heap.size wx wa:=by rw [← hwa];exact Below.alloc hb6 hb6.size _
    have hlb:wa.heap[w6.heap.size]?=some (.cells #[.int .i64 ls,.int .i64 lv] 25):=by rw [← hwa,hpush,if_pos rfl]
    have l0:wa.cell? ⟨w6.heap.size,0,none⟩=some (.int .i64 ls):=by simp [World.cell?,hlb]
    have l1:wa.cell? ⟨w6.heap.size,1,none⟩=some (.int .i64 lv):=by simp [World.cell?,hlb]
    have hz6:wx.heap.size≤w6.heap.size:=hb6.size
    have hza:w6.heap.size<wa.heap.size:=by rw [← hwa];simp
    clear hwa hb6 q0 q1 q2 q3 q4 hBs
    have hCa:=HC4.out.pure hba
    have q1:=hCa.1.2.1
    dsimp only at q1
    have hBs:=World.block_lt_of_cell? _ _ q1
    have HLb:=Lib.hid hlb
    have HTa:=Lib.hid (HT4.out.pure hba)
    have HLa:=Lib.hid (HL4.out.pure hba)
    have HBa:=Lib.hid (HB4.out.trans (hba.mono HB4.out.size))
    obtain ⟨B6,hB6⟩:∃ B6,w6.heap.size=B6:=⟨_,rfl⟩
    rw [hB6] at HLb l0 l1 hz6 hza
    rw [hB6]
    have hwB:w.heap.size≤B6:=Nat.le_trans HB4.out.size hz6
    clear hB6 hlb hCa hba HB4 HC4 hlab HT4 HL4
    cases fl
    ·have Hq1:=Lib.hid q1
     go_wp2_with (first|(go_at_call 16;refine (mV (l:=⟨ls,lv⟩) (HTa.out.pure (by (repeat (with_reducible first|exact bA _ _|refine bB ?_ ?_ _|refine bC ?_ _|refine bD ?_|refine bE ?_ ?_ _|refine bF ?_ (by assumption) ?_))<;>first|omega|(simp;try omega))) KO.out.tab Ov.out KO.out.ex Hfl.out).mono ?_;rintro e w7 ⟨rfl,hb7⟩))
     clear q1 l0 l1
     go_loopw [13,14] (fun s13 s14 wr=>∃ (i k':Nat) (q':Option Addr) (zs:List Thg),s13=.slice q' zs.length k'∧s14=.int .i64 (i:Int)∧i≤10∧TabAt wr (.slice q' zs.length k') zs∧(aU zs=true∧VS ⟨ls,lv⟩ ts zs∧Same ts zs)∧Below wa.heap.size wa wr) (fun _ s14 _=>10 - (intOf s14).toNat)
     case atStart=>exact ⟨0,k,q,ts,rfl,rfl,by omega,HTa.out.pure (by (repeat (with_reducible first|exact bA _ _|refine bB ?_ ?_ _|refine bC ?_ _|refine bD ?_|refine bE ?_ ?_ _|refine bF ?_ (by assumption) ?_))<;>first|omega|(simp;try omega)),⟨KO.out.tab,VS.refl _ _,Same.refl _⟩,(by (repeat (with_reducible first|exact bA _ _|refine bB ?_ ?_ _|refine bC ?_ _|refine bD ?_|refine bE ?_ ?_ _|refine bF ?_ (by assumption) ?_))<;>first|omega|(simp;try omega))⟩
     case round=>
      obtain ⟨i,k',q',zs,rfl,rfl,hi,hZ,hvs,hBr⟩:=hrel
      have Hvs:=Lib.hid hvs
      have HZ:=Lib.hid hZ
      clear hvs hZ
      obtain ⟨wy,rfl⟩:∃ wy:World,wy=wr:=⟨_,rfl⟩
      by_cases hlt:i<10
      ·have hlt1:(i:Int)<10:=by omega
       have q1:=((ax hBr).1 _ _ hBs).trans Hq1.out
       obtain ⟨a1,a2,a3,kk,b1,b2,aa,c1,bb,d1,d2,mm,e1,e2,e3,e4,e5,e6,e7,e8,e9,e10,e11,e12,e13,e14,e15,e16,e17,g1,g2,g3,g4⟩:=Oa n2 i Hn2.out hlt
       have hcz:nV zs ⟨kk,cr,aa,bb,mm⟩:=Od KO.out Hvs.out.2.2 Hvs.out.1 (by have:=KO.out.ok;unfold nQ inR at this ⊢;simp at this ⊢;omega) rfl
       obtain ⟨ys,ay,hdo⟩:∃ ys ay,fU zs ⟨kk,cr,aa,bb,mm⟩=(ys,ay):=⟨_,_,rfl⟩
       have Hdz:=Lib.hid hdo
       have Hyz:=Lib.hid (show aU ys=true∧VS ⟨ls,lv⟩ ts ys∧Same ts ys by
        have e:ys=(do2 zs ⟨kk,cr,aa,bb,mm⟩).1:=by rw [Eg hcz] at hdo;rw [hdo]
        have hf:=Cb hcz
        have hlab:(aC zs cr).lab=(aC ts cr).lab:=Hvs.out.2.2.lab _ KO.out.ex
        rw [e]
        refine ⟨hf.tab,Hvs.out.2.1.trans (ES hcz (by show uJ (aC zs cr).lab _=false;rw [hlab];exact Hfl.out) (by show kk≠9;omega)),Hvs.out.2.2.trans hf.same⟩)
       clear hdo hcz g1 g2 g3 g4
       go_wp2_with (first|(go_at_call 17;refine (Kw (c:=⟨_,_,_,_,_⟩) (HLa.out.pure (by (repeat (with_reducible first|exact bA _ _|refine bB ?_ ?_ _|refine bC ?_ _|refine bD ?_|refine bE ?_ ?_ _|refine bF ?_ (by assumption) ?_))<;>first|omega|(simp;try omega))) (HZ.out.pure (by (repeat (with_reducible first|exact bA _ _|refine bB ?_ ?_ _|refine bC ?_ _|refine bD ?_|refine bE ?_ ?_ _|refine bF ?_ (by assumption) ?_))<;>first|omega|(simp;try omega))) Hdz.out).mono ?_;rintro e w8 ⟨q8,k8,rfl,hX8,hb8⟩))
       exact ⟨⟨i+1,k8,q8,ys,rfl,by go_num,by omega,hX8.pure (by (repeat (with_reducible first|exact bA _ _|refine bB ?_ ?_ _|refine bC ?_ _|refine bD ?_|refine bE ?_ ?_ _|refine bF ?_ (by assumption) ?_))<;>first|omega|(simp;try omega)),Hyz.out,hBr.trans (Below.mono (show Below wy.heap.size wy _ from (by (repeat (with_reducible first|exact bA _ _|refine bB ?_ ?_ _|refine bC ?_ _|refine bD ?_|refine bE ?_ ?_ _|refine bF ?_ (by assumption) ?_))<;>first|omega|(simp;try omega))) hBr.size)⟩,by simp [intOf];omega⟩
      ·have hi10:i=10:=by omega
       subst hi10
       go_wp2
       have hbz:Below wa.heap.size wa wy:=hBr
       exact ⟨Later.of (HBa.out.trans (Below.mono hbz HBa.out.size)),rfl,rfl,.inr ⟨rfl,q',q,k',k,ts,zs,⟨ls,lv⟩,B6,rfl,rfl,rfl,hwB,(hbz.block _ hza).trans HLb.out,HZ.out,HTa.out.pure hbz,Hvs.out.1,KO.out.tab,Ov.out,Hvs.out.2.1⟩⟩
    ·go_wp2_with (first|(go_at_call 16;refine (mV (l:=⟨ls,lv⟩) (HTa.out.pure (by (repeat (with_reducible first|exact bA _ _|refine bB ?_ ?_ _|refine bC ?_ _|refine bD ?_|refine bE ?_ ?_ _|refine bF ?_ (by assumption) ?_))<;>first|omega|(simp;try omega))) KO.out.tab Ov.out KO.out.ex Hfl.out).mono ?_;rintro e w7 ⟨rfl,hb7⟩))
     exact ⟨Later.of (HBa.out.trans (Below.mono (show Below wa.heap.size wa _ from (by (repeat (with_reducible first|exact bA _ _|refine bB ?_ ?_ _|refine bC ?_ _|refine bD ?_|refine bE ?_ ?_ _|refine bF ?_ (by assumption) ?_))<;>first|omega|(simp;try omega))) HBa.out.size)),rfl,rfl,.inl ⟨rfl,rfl⟩⟩
 ·clear hb hL
  by_cases hgt:(1048576:Int)<(n:Int)
  ·clear hbig
   (show (Code.seq Oq (.seq Og (.seq Oo (.seq Om (.seq Ol (.seq Oe (.seq Oj (.seq Oh (.seq N8 (.seq N9 N7)))))))))).wp _ _ _ _);unfold Oq Og Oo Om Ol Oe Oj Oh N8 N9 N7 NV;simp only [Tryz.f7,Option.getD_some]
   go_wp2
   exact ⟨Later.of (by (repeat (with_reducible first|exact bA _ _|refine bB ?_ ?_ _|refine bC ?_ _|refine bD ?_|refine bE ?_ ?_ _|refine bF ?_ (by assumption) ?_))<;>first|omega|(simp;try omega)),rfl,rfl,.inl ⟨rfl,rfl⟩⟩
  ·have hgt2:(1048576:Int)<(n2:Int):=by omega
   clear hbig
   (show (Code.seq Oq (.seq Og (.seq Oo (.seq Om (.seq Ol (.seq Oe (.seq Oj (.seq Oh (.seq N8 (.seq N9 N7)))))))))).wp _ _ _ _);unfold Oq Og Oo Om Ol Oe Oj Oh N8 N9 N7 NV;simp only [Tryz.f7,Option.getD_some]
   go_wp2
   exact ⟨Later.of (by (repeat (with_reducible first|exact bA _ _|refine bB ?_ ?_ _|refine bC ?_ _|refine bD ?_|refine bE ?_ ?_ _|refine bF ?_ (by assumption) ?_))<;>first|omega|(simp;try omega)),rfl,rfl,.inl ⟨rfl,rfl⟩⟩
noncomputable def ops7:Array Oper:=match Ox with|.seq (.region _ o _) _=>o|_=>#[]
end Go.Proofs.YthhmolonhpaepaaGreatDoor
end
section
namespace Go.Proofs.YthhmolonhpaepaaGreatDoor
open Go.RowKit Drw Go.Conc Go.ConcN
theorem Ot:Ox=.seq (.region 18 ops7 false) .ret:=by kernel_rfl
theorem same7:NF ops7 13 5 12 109 110 111 112 4 113:=⟨by kernel_rfl,⟨_,rfl,rfl,rfl,rfl⟩,⟨_,rfl,rfl,rfl,rfl⟩,⟨_,rfl,rfl,rfl,rfl⟩,⟨_,rfl,rfl,rfl,rfl⟩,⟨_,rfl,rfl,rfl,rfl⟩,by decide,by decide⟩
theorem Oz (va vb:Value):Frame.enter Tryz.prog 7 #[va,vb] .normal=(Go.Conc.base 7).at ⟨#[va,vb,undef,undef,undef,undef,undef,undef,undef,undef,undef,undef,undef,undef,undef,undef,undef,undef,undef,undef,undef,undef,undef,undef,undef,undef,undef,undef,undef,undef,undef,undef,undef,undef,undef,undef,undef,undef,undef,undef,undef,undef,undef,undef,undef,undef,undef,undef,undef,undef,undef,undef,undef,undef,undef,undef,undef,undef,undef,undef,undef,undef,undef,undef,undef,undef,undef,undef,undef,undef,undef,undef,undef,undef,undef,undef,undef,undef,undef,undef,undef,undef,undef,undef,undef,undef,undef,undef,undef,undef,undef,undef,undef,undef,undef,undef,undef,undef,undef,undef,undef,undef,undef,undef,undef,undef,undef,undef,undef,undef,undef,undef,undef],[]⟩ [.code NV]:=by kernel_rfl
section
variable {W:World} {p p2:Option Addr} {n cap n2 cap2:Nat}
theorem ok7:∀ x∈[Oq,Og,Oo,Om,Ol,Oe,Oj,Oh,N8,N9],@Mz.codeOk (mc false W fun _=>False) 7 x=true:=fun x hx=>by
 simp only [List.mem_cons,List.not_mem_nil,or_false] at hx
 rcases hx with rfl|rfl|rfl|rfl|rfl|rfl|rfl|rfl|rfl|rfl<;>kernel_rfl
theorem ok7_k:@Mz.codeOk (mc false W fun _=>False) 7 N7=true:=by kernel_rfl
theorem ok7_sp:@Mz.codeOk (mc false W fun _=>False) 7 (jf.spine [Oq,Og,Oo,Om,Ol,Oe,Oj,Oh,N8,N9] N7)=true:=by kernel_rfl
theorem NZ (hL:Laid W) (hc:n≤cap) (hb:BytesAt W p n) :
  Ren.Ends Tryz.prog (fun v w'=>v=.bool true∧Later W w') (solo (G (Frame.enter Tryz.prog 7 #[.slice p n cap,.slice p2 n2 cap2] .normal) []) W) #[]:=
 J4 Tryz.func7 rfl (by kernel_rfl) rfl rfl rfl same7 rfl ⟨_,rfl,by rw [Oz,Ou,Ot],fun U=>Oy p n cap p2 n2 cap2 _ (MJ hL) hc (KA hb)⟩ ok7 ok7_k ok7_sp
end
end Go.Proofs.YthhmolonhpaepaaGreatDoor
end
section
namespace Go.Proofs.YthhmolonhpaepaaGreatDoor
open Go Go.Conc Go.ConcN Go.ChangeShapes Go.WideShapes Go.RowKit Drw
set_option maxRecDepth 100000 in
theorem NW (os:Os) (started:os.Started) (H:Type) (enc:TypeId × Value→H) :
  ReturnsInLeavingWide {} Tryz.checked os 7 .any (fun w args=>(Rows.fnHighManySpec.pre enc Tryz.prog Tryz.f7 [] false w args∧laidMetH Tryz.prog Rows.fnHighManyRow.laid w)∧sizedMet enc Tryz.prog Tryz.f7 (OpenSpec.ofChange Rows.fnHighManySpec) false w args)
   (Rows.fnHighManySpec.post enc Tryz.prog Tryz.f7 false true false false):=by
 refine Ren.dY (C:=Tryz.checked) (X:=fun w _=>laidMetH Tryz.prog Rows.fnHighManyRow.laid w) (fun _ _ _ hh h=>h.of_heap hh) own started Tryz.func7
  (ChangeSpec.witness_at (enc:=enc) (C:=Tryz.checked) (os:=os) (X:=fun w _=>laidMetH Tryz.prog Rows.fnHighManyRow.laid w) false (yJ os) #[.slice none 0 0,.slice none 0 0] 8 rfl (by kernel_rfl) (by kernel_rfl) (by kernel_rfl) (by kernel_rfl) (by kernel_rfl) (vX os _)) ?_
 intro W base args ds gs before hval0 hW _ _ hL _
 have hval:∀ (j:Nat) t v,Tryz.f7.params[j]?=some t→args[j]?=some v→Value.okWide Tryz.prog W .any base t v:=hval0
 have hW':=hW
 obtain ⟨p,q,hA0,hV0,rfl,hfz,hnd⟩:=hW
 have hA:DataW.TrodAll enc Tryz.prog W 0 (fun _=>true) true Tryz.f7.params.toList args.toList ds p:=hA0
 have hV:DataW.TrodVars enc Tryz.prog W (fun _=>true) [] gs q:=hV0
 rw [Tryz.params7] at hA hval
 obtain ⟨v0,v1,d0,d1,p0,p1,rfl,rfl,rfl,h0,h1⟩:=trodAll_two hA
 have hlt:∀ x∈p0++p1,x.block<W.heap.size:=fun x hx=>hW'.lt x (List.mem_append_left _ hx)
 obtain ⟨a,n,cap,rfl,hn,hm,hB,hcl⟩:=Ce (hval 0 22 v0 rfl rfl) h0
 obtain ⟨a2,n2,cap2,rfl,hn2,hm2,hB2,hcl2⟩:=Ce (hval 1 22 v1 rfl rfl) h1
 have hl:=Av hL
 obtain ⟨rfl,rfl⟩:gs=[]∧q=[]:=by
  cases gs with
  | nil=>exact ⟨rfl,hV⟩
  | cons g r=>exact absurd hV (by intro h;cases h)
 have e1:Rows.fnHighManySpec.fn H ([d0,d1]++[])={ results:=[.lit (.bool true)],args:=[d0,d1] }:=by simp [Rows.fnHighManySpec]
 obtain ⟨M,last,o,w',t',r1,r2,r3,r4⟩:=NZ (W:=W) hl hn hB
 refine ⟨M,last,o,w',t',r1,r2,r3,r4.mono fun v ⟨he,hw⟩=>?_⟩
 subst he
 refine ⟨_,_,_,[],p0++p1,[],hW',?_,?_,?_,(Later.frame hw) _,fun h=>by cases h⟩
 ·rw [e1];exact trodAll_mk1 (shut_bool Tryz.underlying4 true)
 ·rw [e1];exact trodAll_mk2 (WideElems.Trod_stays uF (by kernel_rfl) (of_decide_eq_true (by kernel_rfl)) h0 (fun x hx=>World.keptBut.sameAt ((Later.frame hw) (fun _=>False)) (hlt x (List.mem_append_left _ hx)) (fun h=>h) (fun b e=>by obtain ⟨b',o',e'⟩:=hcl x hx;rw [e'] at e;cases e)) (fun x hx=>by simpa using hlt x (List.mem_append_left _ hx))) (WideElems.Trod_stays uF (by kernel_rfl) (of_decide_eq_true (by kernel_rfl)) h1 (fun x hx=>World.keptBut.sameAt ((Later.frame hw) (fun _=>False)) (hlt x (List.mem_append_right _ hx)) (fun h=>h) (fun b e=>by obtain ⟨b',o',e'⟩:=hcl2 x hx;rw [e'] at e;cases e)) (fun x hx=>by simpa using hlt x (List.mem_append_right _ hx)))
 ·rw [e1];rfl
theorem NY:Rows.FnHighManySaid:=
 OpenClaim.holds_of_wide_leaving 7 Tryz.f7 rfl rfl rfl rfl rfl rfl rfl ⟨rfl,rfl,rfl,rfl,rfl⟩ rfl rfl rfl rfl rfl (by kernel_rfl) Tryz.func7 (by kernel_rfl)
  (of_decide_eq_true (by kernel_rfl)) (by unfold Func.isWrapper;rw [if_neg (of_decide_eq_false (by kernel_rfl))];exact ⟨rfl,rfl⟩)
  (fun os started H enc _=>NW os started H enc)
theorem fnHighMany_holds:Rows.FnHighManyCardSaid:=
 Ren.iN .later [] [.handle] true (true,"cfa7d737ade949a4791bf4e9597b30e6c6f1bae7b45633feb6924f20a283dbfb") true
  NY (fun _ h=>by cases h) (by kernel_rfl) (fun _ h=>by cases h) fnHighMany_row_tie rfl ⟨rfl,rfl⟩ (by kernel_rfl) rfl
  (fun f fn hf hfn=>by
   obtain rfl:f=7:=Option.some.inj ((show Tryz.prog.funcNamed "loop.example/drawbar/laws.FnHighMany"=some 7 by kernel_rfl).symm.trans hf) |>.symm
   obtain rfl:fn=Tryz.f7:=(Option.some.inj (Tryz.func7.symm.trans hfn)).symm
   exact ⟨by kernel_rfl,fun j t ht=>by
    rw [Tryz.params7] at ht
    have h3:t=22:=by
     rcases j with _|_|j
     ·simpa using ht.symm
     ·simpa using ht.symm
     ·simp at ht
    subst h3
    exact (show Tryz.prog.wantsStandIn 22=false by kernel_rfl)⟩)
  (by kernel_rfl)
#print axioms fnHighMany_holds
end Go.Proofs.YthhmolonhpaepaaGreatDoor
end
