/- The lone part of the law FnHighStep, up to ViewSame. Conditions: the bytes lie where their cells say; errors.errorType is laid. -/
import Derived.Test.YthhmolonhpaepaaGreatDoorVJZv
import Derived.Test.YthhmolonhpaepaaGreatDoorVKa
import Derived.Test.YthhmolonhpaepaaGreatDoorCards
import Derived.Test.YthhmolonhpaepaaGreatDoorTie
import Derived.SevenTiedAt
import Derived.Deep.Frames
set_option linter.unusedVariables false
set_option linter.unusedSimpArgs false
section
namespace Go.Proofs.YthhmolonhpaepaaGreatDoor
open Go.RowKit Drw
attribute [local go_sem] Lab.val Rgt.val Cal.val Thg.val
noncomputable def oW:Code:=Tryz.f8.body.getD .skip
noncomputable def OG:Code:=match oW with|.seq r _=>r|_=>.skip
noncomputable def OA:Code:=match oW with|.seq _ (.seq r _)=>r|_=>.skip
noncomputable def OE:Code:=match oW with|.seq _ (.seq _ (.seq r _))=>r|_=>.skip
noncomputable def OD:Code:=match oW with|.seq _ (.seq _ (.seq _ (.seq r _)))=>r|_=>.skip
noncomputable def OC:Code:=match oW with|.seq _ (.seq _ (.seq _ (.seq _ (.seq r _))))=>r|_=>.skip
noncomputable def Hd:Code:=match oW with|.seq _ (.seq _ (.seq _ (.seq _ (.seq _ (.seq r _)))))=>r|_=>.skip
noncomputable def OB:Code:=match oW with|.seq _ (.seq _ (.seq _ (.seq _ (.seq _ (.seq _ (.seq r _))))))=>r|_=>.skip
noncomputable def GG:Code:=match oW with|.seq _ (.seq _ (.seq _ (.seq _ (.seq _ (.seq _ (.seq _ (.seq r _)))))))=>r|_=>.skip
noncomputable def LK:Code:=match oW with|.seq _ (.seq _ (.seq _ (.seq _ (.seq _ (.seq _ (.seq _ (.seq _ r)))))))=>r|_=>.skip
theorem KC:oW=jf.spine [OG,OA,OE,OD,OC,Hd,OB] (.seq GG LK):=rfl
set_option maxRecDepth 100000 in
set_option maxHeartbeats 4000000 in
theorem L6 (p:Option Addr) (n cap:Nat) (p2:Option Addr) (n2 cap2:Nat) (w:World) (hL:Laid w) (hc:n≤cap) (hb:BytesAt w p n) :
  (jf.spine [OG,OA,OE,OD,OC,Hd,OB] GG).wp Tryz.prog (Ck 78 4 9 5 11 w) ⟨#[.slice p n cap,.slice p2 n2 cap2,undef,undef,undef,undef,undef,undef,undef,undef,undef,undef,undef,undef,undef,undef,undef,undef,undef,undef,undef,undef,undef,undef,undef,undef,undef,undef,undef,undef,undef,undef,undef,undef,undef,undef,undef,undef,undef,undef,undef,undef,undef,undef,undef,undef,undef,undef,undef,undef,undef,undef,undef,undef,undef,undef,undef,undef,undef,undef,undef,undef,undef,undef,undef,undef,undef,undef,undef,undef,undef,undef,undef,undef,undef,undef,undef,undef],[]⟩ w:=by
 by_cases hbig:n≤1048576∧n2≤1048576
 ·have hle:¬ (1048576:Int)<(n:Int):=by omega
  have hle2:¬ (1048576:Int)<(n2:Int):=by omega
  have hle3:(n:Int)≤1048576:=by omega
  have hle4:(n2:Int)≤1048576:=by omega
  have Hb:=Lib.hid hb
  have HL:=Lib.hid hL
  clear hb hL
  (show (Code.seq OG (.seq OA (.seq OE (.seq OD (.seq OC (.seq Hd (.seq OB GG))))))).wp _ _ _ _);unfold OG OA OE OD OC Hd OB GG oW;simp only [Tryz.f8,Option.getD_some]
  go_upto_region 3 with (fail)
  go_cut [5,6] from 12 to 24 (fun s3 s4 wz=>∃ q k ts c B,s3=.slice q ts.length k∧s4=.pointer (some ⟨B,0,none⟩)∧w.heap.size≤B∧uR wz B c∧TabAt wz (.slice q ts.length k) ts∧3≤ts.length∧ts.length≤8∧Below w.heap.size w wz)
  case first=>
   go_wp2_with (go_at_call 19;refine (y9 p n cap _ hc Hb.out (by omega)).mono ?_;rintro e w1 ⟨q,k,ts,⟨ck,cr,ca,cb,cn⟩,rfl,hT,h3,h8,-,hb1⟩)
   go_meet
   have hz1:=hb1.size
   exact ⟨q,k,ts,⟨ck,cr,ca,cb,cn⟩,w1.heap.size,rfl,rfl,hb1.size,⟨by simp [go_sem],fun j=>by simp [go_sem]⟩,hT.pure (by (repeat (with_reducible first|exact bA _ _|refine bB ?_ ?_ _|refine bC ?_ _|refine bD ?_|refine bE ?_ ?_ _|refine bF ?_ (by assumption) ?_))<;>first|omega|(simp;try omega)),h3,h8,(by (repeat (with_reducible first|exact bA _ _|refine bB ?_ ?_ _|refine bC ?_ _|refine bD ?_|refine bE ?_ ?_ _|refine bF ?_ (by assumption) ?_))<;>first|omega|(simp;try omega))⟩
  case rest=>
   obtain ⟨q,k,ts,⟨ck,cr,ca,cb,cn⟩,B,rfl,rfl,hwB,hC,hT,hl3,hl8,hB1⟩:=hcut
   obtain ⟨wx,rfl⟩:∃ wx:World,wx=wc:=⟨_,rfl⟩
   have hL1:=HL.out.below hB1 HL.out.size
   obtain ⟨us,an,hdo⟩:∃ us an,fU ts ⟨ck,cr,ca,cb,cn⟩=(us,an):=⟨_,_,rfl⟩
   obtain ⟨can,gT⟩:∃ can,bP ts ⟨ck,cr,ca,cb,cn⟩=can:=⟨_,rfl⟩
   have Hdo:=Lib.hid hdo
   have Ew:=Lib.hid gT
   have HB1:=Lib.hid hB1
   have HC:=Lib.hid hC
   clear hdo gT HL Hb hB1 hwB
   obtain ⟨⟨q0,q1,q2,q3,q4⟩,-⟩:=hC
   dsimp only at q0 q1 q2 q3 q4
   have hBs:=World.block_lt_of_cell? _ _ q0
   go_upto_region 6 with (first
    | (go_at_call 17;refine (Kw (hL1.pure hb1) (hT.pure hb1) Hdo.out).mono ?_;rintro e w2 ⟨p2',k2,rfl,hX,hb2⟩)
    | (go_at_call 20;refine (EY (c:=⟨_,_,_,_,_⟩) hT Hdo.out).mono ?_;rintro e w1 ⟨p1,k1,rfl,hW,hb1⟩;have q0:=(HC.out.pure hb1).1.1;have q1:=(HC.out.pure hb1).1.2.1;have q2:=(HC.out.pure hb1).1.2.2.1;have q3:=(HC.out.pure hb1).1.2.2.2.1;have q4:=(HC.out.pure hb1).1.2.2.2.2))
   have hT2:=(hT.pure hb1).pure hb2
   have hW2:=hW.pure hb2
   have hC2:=(HC.out.pure hb1).pure hb2
   have hL2:=(hL1.pure hb1).pure hb2
   have hB2:Below w.heap.size w w2:=(HB1.out.trans (hb1.mono HB1.out.size)).trans (hb2.mono (Nat.le_trans HB1.out.size hb1.size))
   clear hT hW hL1 hb1 hb2 q0 q1 q2 q3 q4 hBs HC HB1
   have HB2:=Lib.hid hB2
   have HC2:=Lib.hid hC2
   obtain ⟨⟨q0,q1,q2,q3,q4⟩,-⟩:=hC2
   dsimp only at q0 q1 q2 q3 q4
   have hBs:=World.block_lt_of_cell? _ _ q0
   clear hB2
   cases can
   ·go_wp2_with (first
     | (go_at_call 22;refine (GA (hT2.pure (by (repeat (with_reducible first|exact bA _ _|refine bB ?_ ?_ _|refine bC ?_ _|refine bD ?_|refine bE ?_ ?_ _|refine bF ?_ (by assumption) ?_))<;>first|omega|(simp;try omega))) Ew.out).mono ?_;rintro e w4 ⟨rfl,hb4⟩;have hz4:=hb4.size)
     | (go_at_call 21;refine (rq (hX.pure (by (repeat (with_reducible first|exact bA _ _|refine bB ?_ ?_ _|refine bC ?_ _|refine bD ?_|refine bE ?_ ?_ _|refine bF ?_ (by assumption) ?_))<;>first|omega|(simp;try omega))) (hW2.pure (by (repeat (with_reducible first|exact bA _ _|refine bB ?_ ?_ _|refine bC ?_ _|refine bD ?_|refine bE ?_ ?_ _|refine bF ?_ (by assumption) ?_))<;>first|omega|(simp;try omega)))).mono ?_;rintro e w3 ⟨rfl,hb3⟩;have hz3:=hb3.size;have q0:=(HC2.out.pure hb3).1.1;have q1:=(HC2.out.pure hb3).1.2.1;have q2:=(HC2.out.pure hb3).1.2.2.1;have q3:=(HC2.out.pure hb3).1.2.2.2.1;have q4:=(HC2.out.pure hb3).1.2.2.2.2)
     | (go_at_call 21;refine (rq (hX.pure (by (repeat (with_reducible first|exact bA _ _|refine bB ?_ ?_ _|refine bC ?_ _|refine bD ?_|refine bE ?_ ?_ _|refine bF ?_ (by assumption) ?_))<;>first|omega|(simp;try omega))) (hW2.pure (by (repeat (with_reducible first|exact bA _ _|refine bB ?_ ?_ _|refine bC ?_ _|refine bD ?_|refine bE ?_ ?_ _|refine bF ?_ (by assumption) ?_))<;>first|omega|(simp;try omega)))).mono ?_;rintro e w5 ⟨rfl,hb5⟩;have hz5:=hb5.size))
    have h2:=HB2.out.size
    exact ⟨Later.of (HB2.out.trans (Below.mono (show Below w2.heap.size w2 _ from (by (repeat (with_reducible first|exact bA _ _|refine bB ?_ ?_ _|refine bC ?_ _|refine bD ?_|refine bE ?_ ?_ _|refine bF ?_ (by assumption) ?_))<;>first|omega|(simp;try omega))) h2)),rfl,rfl,.inl ⟨rfl,rfl⟩⟩
   ·go_upto_region 8 with (first
     | (go_at_call 22;refine (GA (hT2.pure (by (repeat (with_reducible first|exact bA _ _|refine bB ?_ ?_ _|refine bC ?_ _|refine bD ?_|refine bE ?_ ?_ _|refine bF ?_ (by assumption) ?_))<;>first|omega|(simp;try omega))) Ew.out).mono ?_;rintro e w4 ⟨rfl,hb4⟩;have hz4:=hb4.size)
     | (go_at_call 21;refine (rq (hX.pure (by (repeat (with_reducible first|exact bA _ _|refine bB ?_ ?_ _|refine bC ?_ _|refine bD ?_|refine bE ?_ ?_ _|refine bF ?_ (by assumption) ?_))<;>first|omega|(simp;try omega))) (hW2.pure (by (repeat (with_reducible first|exact bA _ _|refine bB ?_ ?_ _|refine bC ?_ _|refine bD ?_|refine bE ?_ ?_ _|refine bF ?_ (by assumption) ?_))<;>first|omega|(simp;try omega)))).mono ?_;rintro e w3 ⟨rfl,hb3⟩;have hz3:=hb3.size;have q0:=(HC2.out.pure hb3).1.1;have q1:=(HC2.out.pure hb3).1.2.1;have q2:=(HC2.out.pure hb3).1.2.2.1;have q3:=(HC2.out.pure hb3).1.2.2.2.1;have q4:=(HC2.out.pure hb3).1.2.2.2.2))
    have hb5:Below w2.heap.size w2 w4:=(by (repeat (with_reducible first|exact bA _ _|refine bB ?_ ?_ _|refine bC ?_ _|refine bD ?_|refine bE ?_ ?_ _|refine bF ?_ (by assumption) ?_))<;>first|omega|(simp;try omega))
    have hT4:=hT2.pure hb5
    have hX4:=hX.pure hb5
    have hL4:=hL2.pure hb5
    have hC4:=HC2.out.pure hb5
    have HB4:=Lib.hid (HB2.out.trans (hb5.mono HB2.out.size))
    have HC4:=Lib.hid hC4
    clear hT2 hX hL2 HC2 HB2 hb3 hb4 hz3 hz4 q0 q1 q2 q3 q4 hBs hW2 hb5
    obtain ⟨wx,rfl⟩:∃ wx:World,wx=w4:=⟨_,rfl⟩
    obtain ⟨⟨q0,q1,q2,q3,q4⟩,-⟩:=hC4
    dsimp only at q0 q1 q2 q3 q4
    have hBs:=World.block_lt_of_cell? _ _ q0
    obtain ⟨⟨ls,lv⟩,hlok,hlab⟩:=Gz n2 hbig.2
    have hCan:=Nk.1 Ew.out
    obtain ⟨fl,hfl⟩:∃ fl,uJ (aC ts cr).lab ⟨ls,lv⟩=fl:=⟨_,rfl⟩
    have Hfl:=Lib.hid hfl
    have Ov:=Lib.hid hlok
    have KO:=Lib.hid hCan
    have HT4:=Lib.hid hT4
    have HX4:=Lib.hid hX4
    have Hus:=Lib.hid (show us=(do2 ts ⟨ck,cr,ca,cb,cn⟩).1 by have:=Hdo.out;rw [Eg hCan] at this;exact (congrArg Prod.fst this).symm)
    clear hfl hlok hCan hT4 hX4 hle hle2 hle3 hle4
    go_upto_region 9 with (first
     | (go_at_call 23;refine (hlab _).mono ?_;rintro e w6 ⟨rfl,hb6⟩;have q0:=(HC4.out.pure hb6).1.1;have q1:=(HC4.out.pure hb6).1.2.1))
    generalize hwa:World.alloc _ _=wa
    have hba:Below wx.heap.size wx wa:=by rw [← hwa];exact Below.alloc hb6 hb6.size _
    have hlb:wa.heap[w6.heap.size]?=some (.cells #[.int .i64 ls,.int .i64 lv] 25):=by rw [← hwa,hpush,if_pos rfl]
    have l0:wa.cell? ⟨w6.heap.size,0,none⟩=some (.int .i64 ls):=by simp [World.cell?,hlb]
    have l1:wa.cell? ⟨w6.heap.size,1,none⟩=some (.int .i64 lv):=by simp [World.cell?,hlb]
    have hz6:wx.heap.size≤w6.heap.size:=hb6.size
    have hza:w6.heap.size<wa.heap.size:=by rw [← hwa];simp
    clear hwa hb6 q0 q1 q2 q3 q4 hBs
    have hCa:=HC4.out.pure hba
    have q0:=hCa.1.1
    have q1:=hCa.1.2.1
    dsimp only at q0 q1
    have hBs:=World.block_lt_of_cell? _ _ q0
    have HLb:=Lib.hid hlb
    have HTa:=Lib.hid (HT4.out.pure hba)
    have HXa:=Lib.hid (HX4.out.pure hba)
    have HBa:=Lib.hid (HB4.out.trans (hba.mono HB4.out.size))
    obtain ⟨B6,hB6⟩:∃ B6,w6.heap.size=B6:=⟨_,rfl⟩
    rw [hB6] at HLb l0 l1 hz6 hza
    rw [hB6]
    have hwB:w.heap.size≤B6:=Nat.le_trans HB4.out.size hz6
    clear hB6 hlb hCa hba HB4 HC4 hlab HT4 HX4 hL4
    cases fl
    ·by_cases h9:ck=9
     ·subst h9
      go_wp2_with (first|(go_at_call 16;refine (mV (l:=⟨ls,lv⟩) (HTa.out.pure (by (repeat (with_reducible first|exact bA _ _|refine bB ?_ ?_ _|refine bC ?_ _|refine bD ?_|refine bE ?_ ?_ _|refine bF ?_ (by assumption) ?_))<;>first|omega|(simp;try omega))) KO.out.tab Ov.out KO.out.ex Hfl.out).mono ?_;rintro e w7 ⟨rfl,hb7⟩;have q0:=((ax hb7).1 _ _ hBs).trans q0))
      exact ⟨Later.of (HBa.out.trans (Below.mono (show Below wa.heap.size wa _ from (by (repeat (with_reducible first|exact bA _ _|refine bB ?_ ?_ _|refine bC ?_ _|refine bD ?_|refine bE ?_ ?_ _|refine bF ?_ (by assumption) ?_))<;>first|omega|(simp;try omega))) HBa.out.size)),rfl,rfl,.inl ⟨rfl,rfl⟩⟩
     ·have h9':(ck == 9)=false:=by simpa using h9
      go_wp2_with (first|(go_at_call 16;refine (mV (l:=⟨ls,lv⟩) (HTa.out.pure (by (repeat (with_reducible first|exact bA _ _|refine bB ?_ ?_ _|refine bC ?_ _|refine bD ?_|refine bE ?_ ?_ _|refine bF ?_ (by assumption) ?_))<;>first|omega|(simp;try omega))) KO.out.tab Ov.out KO.out.ex Hfl.out).mono ?_;rintro e w7 ⟨rfl,hb7⟩;have q0:=((ax hb7).1 _ _ hBs).trans q0))
      have hbz:Below wa.heap.size wa w7:=(by (repeat (with_reducible first|exact bA _ _|refine bB ?_ ?_ _|refine bC ?_ _|refine bD ?_|refine bE ?_ ?_ _|refine bF ?_ (by assumption) ?_))<;>first|omega|(simp;try omega))
      refine ⟨Later.of (HBa.out.trans (Below.mono hbz HBa.out.size)),rfl,rfl,.inr ⟨rfl,p2',q,k2,k,ts,us,⟨ls,lv⟩,B6,rfl,rfl,rfl,hwB,(hbz.block _ hza).trans HLb.out,HXa.out.pure hbz,HTa.out.pure hbz,?_,KO.out.tab,Ov.out,?_⟩⟩
      ·rw [Hus.out];exact (Cb KO.out).tab
      ·rw [Hus.out];exact ES KO.out Hfl.out h9
    ·have hund:undef=Value.tuple #[]:=rfl
     go_wp2_with (first|(go_at_call 16;refine (mV (l:=⟨ls,lv⟩) (HTa.out.pure (by (repeat (with_reducible first|exact bA _ _|refine bB ?_ ?_ _|refine bC ?_ _|refine bD ?_|refine bE ?_ ?_ _|refine bF ?_ (by assumption) ?_))<;>first|omega|(simp;try omega))) KO.out.tab Ov.out KO.out.ex Hfl.out).mono ?_;rintro e w7 ⟨rfl,hb7⟩))
     exact ⟨Later.of (HBa.out.trans (Below.mono (show Below wa.heap.size wa _ from (by (repeat (with_reducible first|exact bA _ _|refine bB ?_ ?_ _|refine bC ?_ _|refine bD ?_|refine bE ?_ ?_ _|refine bF ?_ (by assumption) ?_))<;>first|omega|(simp;try omega))) HBa.out.size)),rfl,rfl,.inl ⟨rfl,rfl⟩⟩
 ·clear hb hL
  by_cases hgt:(1048576:Int)<(n:Int)
  ·clear hbig
   (show (Code.seq OG (.seq OA (.seq OE (.seq OD (.seq OC (.seq Hd (.seq OB GG))))))).wp _ _ _ _);unfold OG OA OE OD OC Hd OB GG oW;simp only [Tryz.f8,Option.getD_some]
   go_wp2
   exact ⟨Later.of (by (repeat (with_reducible first|exact bA _ _|refine bB ?_ ?_ _|refine bC ?_ _|refine bD ?_|refine bE ?_ ?_ _|refine bF ?_ (by assumption) ?_))<;>first|omega|(simp;try omega)),rfl,rfl,.inl ⟨rfl,rfl⟩⟩
  ·have hgt2:(1048576:Int)<(n2:Int):=by omega
   clear hbig
   (show (Code.seq OG (.seq OA (.seq OE (.seq OD (.seq OC (.seq Hd (.seq OB GG))))))).wp _ _ _ _);unfold OG OA OE OD OC Hd OB GG oW;simp only [Tryz.f8,Option.getD_some]
   go_wp2
   exact ⟨Later.of (by (repeat (with_reducible first|exact bA _ _|refine bB ?_ ?_ _|refine bC ?_ _|refine bD ?_|refine bE ?_ ?_ _|refine bF ?_ (by assumption) ?_))<;>first|omega|(simp;try omega)),rfl,rfl,.inl ⟨rfl,rfl⟩⟩
end Go.Proofs.YthhmolonhpaepaaGreatDoor
end
section
namespace Go.Proofs.YthhmolonhpaepaaGreatDoor
open Go.RowKit Drw Go.Conc Go.ConcN
noncomputable def ops8:Array Oper:=match LK with|.seq (.region _ o _) _=>o|_=>#[]
theorem Jb:LK=.seq (.region 11 ops8 false) .ret:=by kernel_rfl
theorem same8:NF ops8 9 5 11 74 75 76 77 4 78:=⟨by kernel_rfl,⟨_,rfl,rfl,rfl,rfl⟩,⟨_,rfl,rfl,rfl,rfl⟩,⟨_,rfl,rfl,rfl,rfl⟩,⟨_,rfl,rfl,rfl,rfl⟩,⟨_,rfl,rfl,rfl,rfl⟩,by decide,by decide⟩
theorem Nc (va vb:Value):Frame.enter Tryz.prog 8 #[va,vb] .normal=(Go.Conc.base 8).at ⟨#[va,vb,undef,undef,undef,undef,undef,undef,undef,undef,undef,undef,undef,undef,undef,undef,undef,undef,undef,undef,undef,undef,undef,undef,undef,undef,undef,undef,undef,undef,undef,undef,undef,undef,undef,undef,undef,undef,undef,undef,undef,undef,undef,undef,undef,undef,undef,undef,undef,undef,undef,undef,undef,undef,undef,undef,undef,undef,undef,undef,undef,undef,undef,undef,undef,undef,undef,undef,undef,undef,undef,undef,undef,undef,undef,undef,undef,undef],[]⟩ [.code oW]:=by kernel_rfl
section
variable {W:World} {p p2:Option Addr} {n cap n2 cap2:Nat}
theorem ok8:∀ x∈[OG,OA,OE,OD,OC,Hd,OB],@Mz.codeOk (mc false W fun _=>False) 8 x=true:=fun x hx=>by
 simp only [List.mem_cons,List.not_mem_nil,or_false] at hx
 rcases hx with rfl|rfl|rfl|rfl|rfl|rfl|rfl<;>kernel_rfl
theorem ok8_k:@Mz.codeOk (mc false W fun _=>False) 8 GG=true:=by kernel_rfl
theorem ok8_sp:@Mz.codeOk (mc false W fun _=>False) 8 (jf.spine [OG,OA,OE,OD,OC,Hd,OB] GG)=true:=by kernel_rfl
theorem rG (hL:Laid W) (hc:n≤cap) (hb:BytesAt W p n) :
  Ren.Ends Tryz.prog (fun v w'=>v=.bool true∧Later W w') (solo (G (Frame.enter Tryz.prog 8 #[.slice p n cap,.slice p2 n2 cap2] .normal) []) W) #[]:=
 J4 Tryz.func8 rfl (by kernel_rfl) rfl rfl rfl same8 rfl ⟨_,rfl,by rw [Nc,KC,Jb],fun U=>L6 p n cap p2 n2 cap2 _ (MJ hL) hc (KA hb)⟩ ok8 ok8_k ok8_sp
end
end Go.Proofs.YthhmolonhpaepaaGreatDoor
end
section
namespace Go.Proofs.YthhmolonhpaepaaGreatDoor
open Go Go.Conc Go.ConcN Go.ChangeShapes Go.WideShapes Go.RowKit Drw
set_option maxRecDepth 100000 in
theorem nN (os:Os) (started:os.Started) (H:Type) (enc:TypeId × Value→H) :
  ReturnsInLeavingWide {} Tryz.checked os 8 .any (fun w args=>(Rows.fnHighStepSpec.pre enc Tryz.prog Tryz.f8 [] false w args∧laidMetH Tryz.prog Rows.fnHighStepRow.laid w)∧sizedMet enc Tryz.prog Tryz.f8 (OpenSpec.ofChange Rows.fnHighStepSpec) false w args)
   (Rows.fnHighStepSpec.post enc Tryz.prog Tryz.f8 false true false false):=by
 refine Ren.dY (C:=Tryz.checked) (X:=fun w _=>laidMetH Tryz.prog Rows.fnHighStepRow.laid w) (fun _ _ _ hh h=>h.of_heap hh) own started Tryz.func8
  (ChangeSpec.witness_at (enc:=enc) (C:=Tryz.checked) (os:=os) (X:=fun w _=>laidMetH Tryz.prog Rows.fnHighStepRow.laid w) false (yJ os) #[.slice none 0 0,.slice none 0 0] 8 rfl (by kernel_rfl) (by kernel_rfl) (by kernel_rfl) (by kernel_rfl) (by kernel_rfl) (vX os _)) ?_
 intro W base args ds gs before hval0 hW _ _ hL _
 have hval:∀ (j:Nat) t v,Tryz.f8.params[j]?=some t→args[j]?=some v→Value.okWide Tryz.prog W .any base t v:=hval0
 have hW':=hW
 obtain ⟨p,q,hA0,hV0,rfl,hfz,hnd⟩:=hW
 have hA:DataW.TrodAll enc Tryz.prog W 0 (fun _=>true) true Tryz.f8.params.toList args.toList ds p:=hA0
 have hV:DataW.TrodVars enc Tryz.prog W (fun _=>true) [] gs q:=hV0
 rw [Tryz.params8] at hA hval
 obtain ⟨v0,v1,d0,d1,p0,p1,rfl,rfl,rfl,h0,h1⟩:=trodAll_two hA
 have hlt:∀ x∈p0++p1,x.block<W.heap.size:=fun x hx=>hW'.lt x (List.mem_append_left _ hx)
 obtain ⟨a,n,cap,rfl,hn,hm,hB,hcl⟩:=Ce (hval 0 22 v0 rfl rfl) h0
 obtain ⟨a2,n2,cap2,rfl,hn2,hm2,hB2,hcl2⟩:=Ce (hval 1 22 v1 rfl rfl) h1
 have hl:=Av hL
 obtain ⟨rfl,rfl⟩:gs=[]∧q=[]:=by
  cases gs with
  | nil=>exact ⟨rfl,hV⟩
  | cons g r=>exact absurd hV (by intro h;cases h)
 have e1:Rows.fnHighStepSpec.fn H ([d0,d1]++[])={ results:=[.lit (.bool true)],args:=[d0,d1] }:=by simp [Rows.fnHighStepSpec]
 obtain ⟨M,last,o,w',t',r1,r2,r3,r4⟩:=rG (W:=W) hl hn hB
 refine ⟨M,last,o,w',t',r1,r2,r3,r4.mono fun v ⟨he,hw⟩=>?_⟩
 subst he
 refine ⟨_,_,_,[],p0++p1,[],hW',?_,?_,?_,(Later.frame hw) _,fun h=>by cases h⟩
 ·rw [e1];exact trodAll_mk1 (shut_bool Tryz.underlying4 true)
 ·rw [e1];exact trodAll_mk2 (WideElems.Trod_stays uF (by kernel_rfl) (of_decide_eq_true (by kernel_rfl)) h0 (fun x hx=>World.keptBut.sameAt ((Later.frame hw) (fun _=>False)) (hlt x (List.mem_append_left _ hx)) (fun h=>h) (fun b e=>by obtain ⟨b',o',e'⟩:=hcl x hx;rw [e'] at e;cases e)) (fun x hx=>by simpa using hlt x (List.mem_append_left _ hx))) (WideElems.Trod_stays uF (by kernel_rfl) (of_decide_eq_true (by kernel_rfl)) h1 (fun x hx=>World.keptBut.sameAt ((Later.frame hw) (fun _=>False)) (hlt x (List.mem_append_right _ hx)) (fun h=>h) (fun b e=>by obtain ⟨b',o',e'⟩:=hcl2 x hx;rw [e'] at e;cases e)) (fun x hx=>by simpa using hlt x (List.mem_append_right _ hx)))
 ·rw [e1];rfl
theorem rF:Rows.FnHighStepSaid:=
 OpenClaim.holds_of_wide_leaving 8 Tryz.f8 rfl rfl rfl rfl rfl rfl rfl ⟨rfl,rfl,rfl,rfl,rfl⟩ rfl rfl rfl rfl rfl (by kernel_rfl) Tryz.func8 (by kernel_rfl)
  (of_decide_eq_true (by kernel_rfl)) (by unfold Func.isWrapper;rw [if_neg (of_decide_eq_false (by kernel_rfl))];exact ⟨rfl,rfl⟩)
  (fun os started H enc _=>nN os started H enc)
theorem fnHighStep_holds:Rows.FnHighStepCardSaid:=
 Ren.iN .later [] [.handle] true (true,"cfa7d737ade949a4791bf4e9597b30e6c6f1bae7b45633feb6924f20a283dbfb") true
  rF (fun _ h=>by cases h) (by kernel_rfl) (fun _ h=>by cases h) fnHighStep_row_tie rfl ⟨rfl,rfl⟩ (by kernel_rfl) rfl
  (fun f fn hf hfn=>by
   obtain rfl:f=8:=Option.some.inj ((show Tryz.prog.funcNamed "loop.example/drawbar/laws.FnHighStep"=some 8 by kernel_rfl).symm.trans hf) |>.symm
   obtain rfl:fn=Tryz.f8:=(Option.some.inj (Tryz.func8.symm.trans hfn)).symm
   exact ⟨by kernel_rfl,fun j t ht=>by
    rw [Tryz.params8] at ht
    have h3:t=22:=by
     rcases j with _|_|j
     ·simpa using ht.symm
     ·simpa using ht.symm
     ·simp at ht
    subst h3
    exact (show Tryz.prog.wantsStandIn 22=false by kernel_rfl)⟩)
  (by kernel_rfl)
#print axioms fnHighStep_holds
end Go.Proofs.YthhmolonhpaepaaGreatDoor
end
