/- impl.ViewSame, whole, beside goroutines that only leave. Conditions: the tables and the label are fine, the tables of one length. -/
import Derived.Test.YthhmolonhpaepaaGreatDoorVJ6
import Derived.Test.YthhmolonhpaepaaGreatDoorVJZq
import Derived.Test.YthhmolonhpaepaaGreatDoorVVh
import Derived.Test.YthhmolonhpaepaaGreatDoorVDk
set_option linter.unusedVariables false
set_option linter.unusedSimpArgs false
section
namespace Go.Proofs.YthhmolonhpaepaaGreatDoor
open Go.RowKit Drw Go.Conc Go.ConcN Go.Conc.Lib Go.ConcR.Gen Go.ConcN.Gen
open Go.ConcR (KK wgBlock WgAt stA smA rd wr mk Payload Aside2 DC0)
open Ren (Alone Ph RWg AnchW gQ AtM lK dh)
structure Ls (shy:Nat→Prop) (w:World) (Ji:Nat→Prop) (w':World):Prop where
 os:w'.os=w.os
 output:w'.output=w.output
 below:∀ k,k<w.heap.size→w'.heap[k]?=w.heap[k]?
 size:w.heap.size≤w'.heap.size
 shy:∀ b,Ji b→shy b∨w.heap.size≤b
 K3:IC Ji w'
theorem Nh (va vb:Value) (l:Lab):Frame.enter Tryz.prog 14 #[va,vb,l.val] .normal =
  b14.at ⟨#[va,vb,l.val,undef,undef,undef,undef,undef,undef,undef,undef,undef,undef,undef,undef,undef,undef,undef,undef,undef,undef,undef,undef,undef,undef,undef,undef,undef,undef,undef,undef,undef,undef,undef,undef,undef,undef,undef,undef,undef,undef,undef,undef,undef,undef,undef,undef,undef,undef,undef,undef,undef],[]⟩ [.code oI]:=by kernel_rfl
theorem Ir (T:Array Value) (h:T.size=52):∃ X:Nat→Value,T=T14 X:=by
 refine ⟨fun i=>T.getD i undef,?_⟩
 apply Array.ext
 ·rw [h];rfl
 ·intro i h1 h2
  have hi:i<52:=by omega
  have key:∀ i,i<52→(T14 fun i=>T.getD i undef)[i]?=some (T.getD i undef):=by
   intro i hi
   have h3:∀ (X:Nat→Value) (i:Nat),i<52→(T14 X)[i]?=some (X i):=fun X i hi=>by
    have:∀ k,k<52→(T14 X)[k]?=some (X k):=by
     intro k hk
     match k,hk with
     | 0,_|1,_|2,_|3,_|4,_|5,_|6,_|7,_|8,_|9,_|10,_|11,_|12,_|13,_|14,_|15,_|16,_|17,_|18,_|19,_|20,_|21,_|22,_|23,_|24,_|25,_|26,_|27,_|28,_|29,_|30,_|31,_|32,_|33,_|34,_|35,_|36,_|37,_|38,_|39,_|40,_|41,_|42,_|43,_|44,_|45,_|46,_|47,_|48,_|49,_|50,_|51,_=>rfl
     | n+52,h=>exact absurd h (by omega)
    exact this i hi
   exact h3 _ i hi
  have h4:=key i hi
  rw [Array.getElem?_eq_getElem h2] at h4
  have h5:T.getD i undef=T[i]:=by simp [h1]
  rw [h5] at h4
  exact (Option.some.inj h4).symm
section
variable {shy:Nat→Prop} {Shun:Loc→Prop} {w:World} {xs ys:List Thx} {pa pb:Option Addr} {ca cb:Nat} {l:Lab}
theorem Mh:@Mz.codeOk (mc false w shy) 14 Aa=true:=by kernel_rfl
theorem Mg:@Mz.codeOk (mc false w shy) 14 zJ=true:=by kernel_rfl
theorem Mf:@Mz.codeOk (mc false w shy) 14 (jf.spine [Aa] zJ)=true:=by kernel_rfl
theorem F5:@Mz.codeOk (mc false w shy) 14 iC=true:=by kernel_rfl
theorem Je {D:D14} {cs:List Frame} {B:Machine→Trace→Prop} (hta:aU (D.xs.map (·.1))=true) (htb:aU (D.ys.map (·.1))=true) (hl:dw D.l=true) (md:Region.Mode) (listed:Array Bool) (s:Cj) (k:Nat) (rest:List Nat) (hs:listed.size=fF.size) (h:J14 D listed s) (hr:k∈Region.ready md fF listed)
  (hn:∀ s',J14 D (listed.setIfInBounds k true) s'→EB cs B rest s'):EB cs B (k::rest) s:=by
 have hs':listed.size=8:=by rw [hs,iJ]
 have hk:k<8:=by have:=(Ren.jZ hr).1;rwa [iJ] at this
 have hc:k=0∨k=1∨k=2∨k=3∨k=4∨k=5∨k=6∨k=7:=by omega
 rcases hc with rfl|rfl|rfl|rfl|rfl|rfl|rfl|rfl
 ·exact j6 h hs' hk (o:=_) (x:=.tmp 0) rfl rfl (.inl rfl) h.x0 rfl hn
 ·exact uo h hs' hk (o:=_) rfl rfl rfl rfl rfl hn
 ·obtain ⟨p,c,e,hX⟩:=h.inv.ta
  have f0:s.X 30=D.va:=h.facts 0 (by decide) (uK hr 0 0 (by kernel_rfl))
  have f1:s.X 31=D.l.val:=h.facts 1 (by decide) (uK hr 1 1 (by kernel_rfl))
  exact xY h hs' hk (o:=_) (y:=.tmp 30) (z:=.tmp 31) (p:=p) (cap:=c) (xs:=D.xs) rfl rfl rfl (by show s.X 30=_;rw [f0,e]) f1 (by rw [← e];exact hX) hta hl (fun s' v hv=>hv) rfl hn
 ·exact j6 h hs' hk (o:=_) (x:=.tmp 1) rfl rfl (.inl rfl) h.x1 rfl hn
 ·exact uo h hs' hk (o:=_) rfl rfl rfl rfl rfl hn
 ·obtain ⟨p,c,e,hX⟩:=h.inv.tb
  have f0:s.X 33=D.vb:=h.facts 3 (by decide) (uK hr 0 3 (by kernel_rfl))
  have f1:s.X 34=D.l.val:=h.facts 4 (by decide) (uK hr 1 4 (by kernel_rfl))
  exact xY h hs' hk (o:=_) (y:=.tmp 33) (z:=.tmp 34) (p:=p) (cap:=c) (xs:=D.ys) rfl rfl rfl (by show s.X 33=_;rw [f0,e]) f1 (by rw [← e];exact hX) htb hl (fun s' v hv=>hv) rfl hn
 ·exact j6 h hs' hk (o:=_) (x:=.tmp 32) rfl rfl (.inr rfl) (h.facts 2 (by decide) (uK hr 0 2 (by kernel_rfl))) rfl hn
 ·exact j6 h hs' hk (o:=_) (x:=.tmp 35) rfl rfl (.inr rfl) (h.facts 5 (by decide) (uK hr 0 5 (by kernel_rfl))) rfl hn
def IU (shy:Nat→Prop) (w:World) (xs ys:List Thx) (l:Lab) (c0:Frame) (cs0:List Frame) (m:Machine) (t:Trace):Prop:=∃ Shun' Ji,AtM Tryz.prog Shun' (fun a w'=>a=G (c0.finish (.bool (decide (views l xs=views l ys)))) cs0∧uP Shun' Ji∧Ls shy w Ji w') m t
theorem ed (l:Lab) (xs:List Thx):(views l xs).length=xs.length:=by simp [views]
theorem end14 {D:D14} {c0:Frame} {cs0:List Frame} (hlen:D.xs.length=D.ys.length) (hn:D.xs.length≤65536) {s:Cj} (hi:Eu D s) (hx:iw s D.l D.xs (s.X 7)) (hy:iw s D.l D.ys (s.X 8)):EB (c0::cs0) (IU D.shy0 D.W D.xs D.ys D.l c0 cs0) [] s:=by
 intro m t hm
 letI T:=mc false s.w s.shy
 letI Lw:=JY false s.w s.shy
 letI Cu:=JZ false s.w s.shy
 obtain ⟨C1,z1,e1,h1,h2⟩:=hx
 obtain ⟨C2,z2,e2,h3,h4⟩:=hy
 have hw:=l7 (bR:=false) hi.K3
 have hz1:z1.length=D.xs.length:=by have:=congrArg List.length h2;rwa [List.length_map,ed] at this
 have hz2:z2.length=D.ys.length:=by have:=congrArg List.length h4;rwa [List.length_map,ed] at this
 have hlow:∀ {b:Nat},s.shy b→b<s.w.heap.size:=fun hb=>by obtain ⟨c,e,h,_⟩:=hi.K3 _ hb;exact (Array.getElem?_eq_some_iff.1 h).1
 have hA:=Mz.Ba (T:=mc false s.w s.shy) (Shun:=s.Shun) (b:=b14) (Q:=fun e a w=>∃ t d t' d',Cm (views D.l D.xs) (views D.l D.ys) ((pw s.shy s.w).af t' d') e a (w.af t d)) (w:=s.w) rfl rfl (fun e a w t d h=>h) (fun e a w ⟨_,_,_,_,h⟩=>.inr h.1) (Az hi.kept) (Kb Tryz.func14 rfl rfl) rfl
  (a:=⟨T14 s.X,[]⟩) (mG rfl _) (fun d hd=>by simp at hd) hw (c:=iC) F5 (fun U=>by
   unfold T14
   rw [e1,e2]
   have hA:TabAt ((pw s.shy s.w).af U 0) (.slice (some ⟨C1,0,none⟩) (views D.l D.xs).length D.xs.length) (views D.l D.xs):=⟨z1,h2,by rw [ed,← e1];exact h1⟩
   have hB:TabAt ((pw s.shy s.w).af U 0) (.slice (some ⟨C2,0,none⟩) (views D.l D.ys).length D.ys.length) (views D.l D.ys):=⟨z2,h4,by rw [ed,← e2];exact h3⟩
   have:=EJ hA hB (by rw [ed,ed];exact hlen) (by rw [ed];exact hn) (s.X 0) (s.X 1) (s.X 2) (s.X 3) (s.X 4) (s.X 5) (s.X 6) (s.X 9) (s.X 10) (s.X 11) (s.X 12) (s.X 13) (s.X 14) (s.X 15) (s.X 16) (s.X 17) (s.X 18) (s.X 19) (s.X 20) (s.X 21) (s.X 22) (s.X 23) (s.X 24) (s.X 25) (s.X 26) (s.X 27) (s.X 28) (s.X 29) (s.X 30) (s.X 31) (s.X 32) (s.X 33) (s.X 34) (s.X 35) (s.X 36) (s.X 37) (s.X 38) (s.X 39) (s.X 40) (s.X 41) (s.X 42) (s.X 43) (s.X 44) (s.X 45) (s.X 46) (s.X 47) (s.X 48) (s.X 49) (s.X 50) (s.X 51)
   rw [ed,ed] at this
   exact Go.Code.wp_mono (fun e a w h=>⟨w.tape,w.drawn,U,0,h⟩) this) [] (c0::cs0) 0
 refine (hm.alone (B:=fun g w'=>g=G (c0.finish (.bool (decide (views D.l D.xs=views D.l D.ys)))) cs0∧uP s.Shun s.shy∧Ls D.shy0 D.W s.shy w') fun a w ⟨ha,j,hw'⟩=>?_).bind fun m t hm=>.refl ⟨s.Shun,s.shy,hm⟩
 subst ha hw'
 refine Alone.ctl rfl (fun _=>stepG_region_end) ?_
 refine (hA.at j).bind ?_
 rintro d g w2 ⟨rfl,⟨a1,hcase,hag,hdf⟩,hw2,hsz2,hnb2⟩
 rcases hcase with ⟨rfl,hQ⟩|⟨td,rfl,hQ⟩
 ·obtain ⟨_,_,_,_,hQ⟩:=hQ;cases hQ.1
 rw [qE hw2 hnb2] at hQ
 obtain ⟨t1,d1,t2,d2,_,hd,h6,hT,hB⟩:=hQ
 obtain ⟨T1,ds⟩:=a1
 dsimp only at hd h6 hT
 subst hd
 obtain ⟨X,rfl⟩:=Ir T1 hT
 have h6':X 6=.bool (decide (views D.l D.xs=views D.l D.ys)):=Option.some.inj h6
 have hbel:∀ k,k<s.w.heap.size→w2.heap[k]?=s.w.heap[k]?:=pG hw2 hnb2 fun k hk=>hB.block k (show k<(pw s.shy s.w).heap.size by rw [lC];exact hk)
 refine Alone.ctl rfl (fun w1=>stepG_leave (v:=.bool (decide (views D.l D.xs=views D.l D.ys))) rfl rfl Tryz.func14 ?_ ?_) ?_
 ·rw [← h6'];simp [results,Tryz.f14,go_sem,T14]
 ·simp [results,Tryz.f14,go_sem,T14]
 refine .stop _ _ _ fun n=>⟨rfl,rfl,hi.kept,?_⟩
 exact ⟨hB.os.trans hi.os,hB.output.trans hi.output,fun k hk=>(hbel k (Nat.lt_of_lt_of_le hk hi.size)).trans (hi.below k hk),Nat.le_trans hi.size hsz2,hi.shy,fun b hb=>by
  obtain ⟨c,e,h1,h2⟩:=hi.K3 b hb
  exact ⟨c,e,(hbel b (hlow hb)).trans h1,h2⟩⟩
theorem uU (hK:uP Shun shy) (GM:IC shy w) (hA:rV (pw shy w) (.slice pa xs.length ca) xs) (hB:rV (pw shy w) (.slice pb ys.length cb) ys) (hta:aU (xs.map (·.1))=true) (htb:aU (ys.map (·.1))=true) (hl:dw l=true) (hlen:xs.length=ys.length)
  {m:Machine} {t:Trace} {c0:Frame} {cs0:List Frame} (hm:AtM Tryz.prog Shun (fun a w'=>a=G (Frame.enter Tryz.prog 14 #[.slice pa xs.length ca,.slice pb ys.length cb,l.val] .normal) (c0::cs0)∧∃ k,w'=w.at k) m t) :
  lK Tryz.prog m t (IU shy w xs ys l c0 cs0):=by
 letI T:=mc false w shy
 letI Lw:=JY false w shy
 letI Cu:=JZ false w shy
 have hw:=l7 (bR:=false) GM
 have hlow:∀ {b:Nat},shy b→b<w.heap.size:=fun hb=>by obtain ⟨c,e,h,_⟩:=GM _ hb;exact (Array.getElem?_eq_some_iff.1 h).1
 have hn:xs.length≤65536:=by
  have:=hta
  unfold aU at this
  simp [inR] at this
  omega
 have hma:(xs.map (·.1)).length=xs.length:=by simp
 have hmb:(ys.map (·.1)).length=ys.length:=by simp
 rw [Nh] at hm
 have hP:=Mz.jQ (T:=mc false w shy) (Shun:=Shun) (b:=b14) (Q:=Pre14 (pw shy w) (.slice pa xs.length ca) (.slice pb ys.length cb) l) (w:=w) rfl rfl (fun e a w t d h=>h) (fun e a w h=>.inl h.1) (Az hK) (Kb Tryz.func14 rfl rfl) rfl
  (a:=⟨#[.slice pa xs.length ca,.slice pb ys.length cb,l.val,undef,undef,undef,undef,undef,undef,undef,undef,undef,undef,undef,undef,undef,undef,undef,undef,undef,undef,undef,undef,undef,undef,undef,undef,undef,undef,undef,undef,undef,undef,undef,undef,undef,undef,undef,undef,undef,undef,undef,undef,undef,undef,undef,undef,undef,undef,undef,undef,undef],[]⟩)
  (mG rfl _) (fun d hd=>by simp at hd) hw (ps:=[Aa]) (pk:=zJ) (rest:=.seq Jw iC) (fun x hx=>by
   simp only [List.mem_cons,List.not_mem_nil,or_false] at hx
   subst hx
   exact Mh) Mg Mf
  (fun U=>by
   have:=JD (w:=(pw shy w).af U 0) (pa:=pa) (pb:=pb) (ca:=ca) (cb:=cb) (ts:=xs.map (·.1)) (us:=ys.map (·.1)) (l:=l) ⟨xs,rfl,by rw [hma];exact hA⟩ ⟨ys,rfl,by rw [hmb];exact hB⟩ hta htb hl (by rw [hma,hmb];exact hlen)
   rw [hma,hmb] at this
   exact this) [] (c0::cs0) 0
 rw [← Io] at hP
 refine lK.bind (hm.alone (B:=fun g w'=>∃ (X:Nat→Value) (w1:World) (tt:Nat),g=G (b14.at ⟨T14 X,[]⟩ (.inRegion fF (Region.schedule (Tryz.prog.follows .mixedOrders) fF tt)::[.code iC])) (c0::cs0)∧(∃ k,w'=w1.at k)∧X 0=.slice pa xs.length ca∧X 1=.slice pb ys.length cb∧X 5=.pointer (some ⟨w.heap.size,0,none⟩) ∧
   w1.heap[w.heap.size]?=some (.cells #[.int .i64 l.s,.int .i64 l.v] 25)∧w1.os=w.os∧w1.output=w.output∧(∀ k,k<w.heap.size→w1.heap[k]?=w.heap[k]?)∧w.heap.size≤w1.heap.size) fun a w0 ⟨ha,j,hw0⟩=>?_) fun m t hm=>?_
 ·subst ha hw0
  refine (hP.at j).bind ?_
  rintro d g w1 ⟨rfl,⟨a1,hcase,hag,hdf⟩,hw1,hsz1,J9⟩
  rcases hcase with ⟨rfl,hQ⟩|⟨td,rfl,hQ⟩
  rotate_left
  ·cases hQ.1
  rw [qE hw1 J9] at hQ
  obtain ⟨_,hd,hT,hos,hou,hbel,hgr,k0,k1,k5,klb⟩:=hQ
  rw [lC] at hbel k5 klb
  obtain ⟨T1,ds⟩:=a1
  dsimp only at hd hT k0 k1 k5
  subst hd
  obtain ⟨X,rfl⟩:=Ir T1 hT
  refine Alone.ctl rfl (fun _=>stepG_seq) ?_
  rw [Jv]
  refine .step _ _ _ rfl (fun n=>G (b14.at ⟨T14 X,[]⟩ (.inRegion fF (Region.schedule (Tryz.prog.follows .mixedOrders) fF ((w1.at n).tape (w1.at n).drawn (.order b14.fn 3)))::[.code iC])) (c0::cs0)) (fun n=>(w1.at n).at ((w1.at n).drawn+1)) (fun n=>#[]) (fun n=>⟨stepG_region_draw,⟨Nat.le_refl _,fun e he=>by simp at he,fun e he=>by simp at he,fun e he=>by simp at he⟩⟩) fun n=>?_
  exact .stop _ _ _ fun n'=>⟨rfl,X,w1,_,rfl,⟨n',rfl⟩,Option.some.inj k0,Option.some.inj k1,Option.some.inj k5,j5 klb rfl,hos,hou,pG hw1 J9 hbel,hsz1⟩
 ·obtain ⟨gs,w',sl,q,a,rfl,h0,⟨X,w1,tt,rfl,⟨k,rfl⟩,x0,x1,x5,hlb,hos,hou,hbel,hgr⟩,hL,hPd,hg⟩:=hm
  let D:D14:=⟨w,shy,.slice pa xs.length ca,.slice pb ys.length cb,xs,ys,l,w.heap.size⟩
  let s0:Cj:=⟨X,w1,Shun,shy⟩
  have him:jg (pw shy w) (pw shy w1):=K6 (fun k hk _=>hbel k hk) fun b hb=>.inl hb
  have hi:Eu D s0:=⟨hK,fun b hb=>by
   obtain ⟨c,e,h1,h2⟩:=GM b hb
   exact ⟨c,e,(hbel b (hlow hb)).trans h1,h2⟩,⟨_,_,rfl,jW hA him⟩,⟨_,_,rfl,jW hB him⟩,hlb,fun hx=>by have h:=hlow hx;exact absurd h (Nat.lt_irrefl _),hos,hou,hbel,hgr,fun b hb=>.inl hb⟩
  have hf:∀ k,(Array.replicate fF.size false).getD k false=false:=fun k=>by
   simp only [Array.getD_eq_getD_getElem?,Array.getElem?_replicate]
   split<;>rfl
  have hJ:J14 D (Array.replicate fF.size false) s0:=⟨hi,x0,x1,x5,fun k _ hk=>by rw [hf] at hk;cases hk⟩
  have hall:=Ren.lU (ops:=fF) (J:=J14 D) (Pg:=EB (c0::cs0) (IU shy w xs ys l c0 cs0)) (Tryz.prog.follows .mixedOrders)
   (fun md listed s k rest hs h hr _ hn=>Je hta htb hl md listed s k rest hs h hr hn)
   (fun md listed s hs h hr=>end14 (D:=D) hlen hn h.inv (h.facts 6 (by decide) (j3 hs Lm hr 8 6 (by decide) (by rw [iJ];decide))) (h.facts 7 (by decide) (j3 hs Lm hr 8 7 (by decide) (by rw [iJ];decide)))) tt (s:=s0) hJ
  exact hall _ _ ⟨gs,_,sl,q,_,rfl,h0,⟨rfl,k,rfl⟩,hL,hPd,hg⟩
end
end Go.Proofs.YthhmolonhpaepaaGreatDoor
end
section
namespace Go.Proofs.YthhmolonhpaepaaGreatDoor
open Go.RowKit Drw
attribute [local go_sem] Lab.val Rgt.val Cal.val Thg.val
set_option maxRecDepth 100000 in
theorem Gz (n:Nat) (hn:n≤1048576):∃ l:Lab,dw l=true∧∀ w:World,
  Calls Tryz.prog 23 #[.int .i64 (n:Int)] w fun e w'=>e=.returned l.val∧Below w.heap.size w w':=by
 have h1:Int.tmod (n:Int) 4=((n % 4:Nat):Int):=by rw [Int.tmod_eq_emod_of_nonneg (by omega)];omega
 have h2:Int.tdiv (n:Int) 4=((n / 4:Nat):Int):=by rw [Int.tdiv_eq_ediv_of_nonneg (by omega)];omega
 have h3:Int.tmod ((n / 4:Nat):Int) 4=((n / 4 % 4:Nat):Int):=by rw [Int.tmod_eq_emod_of_nonneg (by omega)];omega
 have w1:IntKind.i64.wrap ((n % 4:Nat):Int)=((n % 4:Nat):Int):=IntWalk.i64_in _ (by omega)
 have w2:IntKind.i64.wrap ((n / 4:Nat):Int)=((n / 4:Nat):Int):=IntWalk.i64_in _ (by omega)
 have w3:IntKind.i64.wrap ((n / 4 % 4:Nat):Int)=((n / 4 % 4:Nat):Int):=IntWalk.i64_in _ (by omega)
 generalize hs:((n % 4:Nat):Int)=s at h1 w1
 generalize hq:((n / 4:Nat):Int)=q at h2 h3 w2
 generalize hv:((n / 4 % 4:Nat):Int)=v at h3 w3
 refine ⟨⟨s,v⟩,by unfold dw inR;simp;omega,fun w=>?_⟩
 clear hs hq hv hn
 go_enter Tryz.func23,Tryz.ntmps23
 go_wp2
 exact bodyPost_ret (v:=(Lab.mk s v).val) (by simp [results,Tryz.results23,go_sem,Lab.val]) rfl ⟨rfl,(by (repeat (with_reducible first|exact bA _ _|refine bB ?_ ?_ _|refine bC ?_ _|refine bD ?_|refine bE ?_ ?_ _|refine bF ?_ (by assumption) ?_))<;>first|omega|(simp;try omega))⟩
theorem LB {l:Lab} {ts us:List Thg} (h:VS l ts us):ts.map (tH l)=us.map (tH l):=by
 apply List.ext_getElem
 ·simp [h.len]
 intro i h1 h2
 simp only [List.length_map] at h1 h2
 simp only [List.getElem_map]
 have he:ex ts ((i:Int)+1)=true:=by unfold ex inR;simp;omega
 have e1:aC ts ((i:Int)+1)=ts[i]:=by simp [aC,h1]
 have e2:aC us ((i:Int)+1)=us[i]:=by simp [aC,h2]
 have k1:=h.kind _ he
 have k2:=h.lab _ he
 have k3:=h.to _ he
 have k4:=h.low _ he
 rw [e1,e2] at k1 k2 k3 k4
 unfold tH
 rw [k1,k2,k3]
 by_cases hf:uJ (ts[i]).lab l=true
 ·rw [if_pos hf,if_pos hf,k4 hf]
 ·rw [if_neg hf,if_neg hf]
end Go.Proofs.YthhmolonhpaepaaGreatDoor
end
section
namespace Go.Proofs.YthhmolonhpaepaaGreatDoor
open Go.RowKit Drw
attribute [local go_sem] Lab.val Rgt.val Cal.val Thg.val
def Later (w w':World):Prop:=w'.os=w.os∧w'.output=w.output∧w.heap.size≤w'.heap.size∧∀ k,k<w.heap.size→w'.heap[k]?=w.heap[k]?
theorem Later.of {w w':World} (h:Below w.heap.size w w'):Later w w':=⟨h.os,h.output,h.size,h.block⟩
def Ready (sa sb sl:Nat) (w:World) (a:Act) (w':World):Prop:=
 ∃ p q k1 k2 ts us l B,a.tmps[sa]?=some (.slice p us.length k1)∧a.tmps[sb]?=some (.slice q ts.length k2)∧a.tmps[sl]?=some (.pointer (some ⟨B,0,none⟩))∧w.heap.size≤B∧w'.heap[B]?=some (.cells #[.int .i64 (Lab.s l),.int .i64 (Lab.v l)] 25) ∧
  TabAt w' (.slice p us.length k1) us∧TabAt w' (.slice q ts.length k2) ts∧aU us=true∧aU ts=true∧dw l=true∧VS l ts us
def Ck (n sr sa sb sl:Nat) (w:World) (e:Exit) (a:Act) (w':World):Prop:=
 Later w w'∧a.defers=[]∧a.tmps.size=n∧(e=.ret∧a.tmps[sr]?=some (.bool true)∨e=.normal∧Ready sa sb sl w a w')
end Go.Proofs.YthhmolonhpaepaaGreatDoor
end
section
namespace Go.Proofs.YthhmolonhpaepaaGreatDoor
open Go.RowKit Drw Go.Conc Go.ConcN Go.Conc.Lib Go.ConcR.Gen Go.ConcN.Gen
open Go.ConcR (KK wgBlock WgAt stA smA rd wr mk Payload Aside2 DC0)
open Ren (Alone Ph RWg AnchW gQ AtM lK dh Last)
theorem tN {P:Program} {b:Frame} {a:Act} {fn:Func} {todo:List Item} {v:Value} {w:World} (hn:b.kind=.normal) (hd:a.defers=[]) (hf:P.funcs[b.fn]?=some fn) (hi:P.inits.idxOf? b.fn=none)
  (hr:(results fn a.tmps).run P w=.ok v w) (he:(results fn a.tmps).events P w #[]=#[]) :
  stepG P true (G { b.at a todo with mode:=.returning } []) w=.ended (.done v) w #[]:=by
 simp [G,stepG,unwind,doReturn,Frame.at,hn,hd,hf,hi,hr,he,seen,GStep.after]
theorem eval_put {a:Act} {i:Nat} {v:Value} (h:i<a.tmps.size):(a.put (some i) v).eval (.tmp i)=v:=by
 simp [Act.put,Act.eval,Array.getD_eq_getD_getElem?,h]
theorem eval_put_ne {a:Act} {i j:Nat} {v:Value} (h:i≠j):(a.put (some i) v).eval (.tmp j)=a.eval (.tmp j):=by
 simp [Act.put,Act.eval,Array.getD_eq_getD_getElem?,h]
theorem l6 {a:Act} {i:Option Nat} {v:Value}:(a.put i v).tmps.size=a.tmps.size:=by
 cases i<;>simp [Act.put]
theorem put_defers {a:Act} {i:Option Nat} {v:Value}:(a.put i v).defers=a.defers:=by
 cases i<;>rfl
theorem AU {a:Act} {i:Nat} {v:Value} (h:a.tmps[i]?=some v):a.eval (.tmp i)=v:=by
 simp [Act.eval,Array.getD_eq_getD_getElem?,h]
theorem Ml {a:Act} {i:Nat} {v:Value} (hi:i<a.tmps.size) (h:a.eval (.tmp i)=v):a.tmps[i]?=some v:=by
 simp [Act.eval,Array.getD_eq_getD_getElem?,hi] at h
 rw [Array.getElem?_eq_getElem hi,h]
theorem Later.trans {a b c:World} (h:Later a b) (k:Later b c):Later a c:=⟨k.1.trans h.1,k.2.1.trans h.2.1,Nat.le_trans h.2.2.1 k.2.2.1,fun i hi=>(k.2.2.2 i (Nat.lt_of_lt_of_le hi h.2.2.1)).trans (h.2.2.2 i hi)⟩
theorem Later.frame {w w':World} (h:Later w w') (may:MemPlace→Prop):w.keptBut w' may:=by
 refine ⟨h.1,h.2.1,fun i hi=>?_⟩
 rw [h.2.2.2 i hi]
 split<;>simp_all
structure NF (ops:Array Oper) (sx sy sl u0 u1 u2 u3 sr n:Nat):Prop where
 size:ops.size=5
 h0:∃ o,ops[0]?=some o∧o.op=.move (.tmp sx)∧o.dst=some u0∧o.guard=none
 h1:∃ o,ops[1]?=some o∧o.op=.move (.tmp sy)∧o.dst=some u1∧o.guard=none
 h2:∃ o,ops[2]?=some o∧o.op=.load 25 (.tmp sl)∧o.dst=some u2∧o.guard=none
 h3:∃ o,ops[3]?=some o∧o.op=.call { callee:=.value (.func 14),args:=#[.tmp u0,.tmp u1,.tmp u2],argTypes:=#[23,23,25] }∧o.dst=some u3∧o.guard=none
 h4:∃ o,ops[4]?=some o∧o.op=.assign (.tmp u3)∧o.dst=some sr∧o.guard=none
 lt:u0<n∧u1<n∧u2<n∧u3<n∧sr<n
 ne:u0≠sy∧u0≠sl∧u1≠sl∧u1≠u0∧u2≠u0∧u2≠u1
theorem gy {o:Oper} {y:Nat→Option Bool} (h:o.guard=none):Region.wanted o y=true:=by simp [Region.wanted,h]
section
variable {w:World} {b:Frame} {a:Act}
theorem E5 {ops:Array Oper} {sx sy sl u0 u1 u2 u3 sr n:Nat} (hR:NF ops sx sy sl u0 u1 u2 u3 sr n) (hb:b.kind=.normal) (hn:a.tmps.size=n) (hd:a.defers=[]) {fn:Func} (hf:Tryz.prog.funcs[b.fn]?=some fn) (hres:fn.results=#[.tmp sr]) (hini:Tryz.prog.inits.idxOf? b.fn=none)
  {ts us:List Thg} {l:Lab} {p q:Option Addr} {k1 k2 B:Nat} (hx:a.tmps[sx]?=some (.slice p us.length k1)) (hy:a.tmps[sy]?=some (.slice q ts.length k2)) (hl:a.tmps[sl]?=some (.pointer (some ⟨B,0,none⟩))) (hlb:w.heap[B]?=some (.cells #[.int .i64 l.s,.int .i64 l.v] 25))
  (hX:TabAt (pw (fun _=>False) w) (.slice p us.length k1) us) (hY:TabAt (pw (fun _=>False) w) (.slice q ts.length k2) ts) (hu:aU us=true) (ht:aU ts=true) (hlo:dw l=true) (hv:VS l ts us)
  {m:Machine} {t:Trace} {id:Nat} (hm:AtM Tryz.prog (fun _=>False) (fun g w'=>g=G (b.at a [.code (.seq (.region id ops false) .ret)]) []∧∃ k,w'=w.at k) m t) :
  Ren.Ends Tryz.prog (fun v w'=>v=.bool true∧Later w w') m t:=by
 have hk:b.kind≠.early:=by rw [hb];simp
 obtain ⟨o0,g0,p0,d0,c0⟩:=hR.h0
 obtain ⟨o1,g1,p1,d1,c1⟩:=hR.h1
 obtain ⟨o2,g2,p2,d2,c2⟩:=hR.h2
 obtain ⟨o3,g3,p3,d3,c3⟩:=hR.h3
 obtain ⟨o4,g4,p4,d4,c4⟩:=hR.h4
 obtain ⟨l0,l1,l2,l3,l4⟩:=hR.lt
 obtain ⟨n1,n2,n3,n4,n5,n6⟩:=hR.ne
 obtain ⟨xs,rfl,hX⟩:=hX
 obtain ⟨ys,rfl,hY⟩:=hY
 rw [List.length_map] at hx hy
 rw [List.length_map] at hX hY
 have hlen:xs.length=ys.length:=by have:=hv.len;rwa [List.length_map,List.length_map] at this
 have hvw:views l xs=views l ys:=by have:=LB hv;rw [List.map_map,List.map_map] at this;exact this.symm
 generalize ha1:a.put (some u0) (.slice p xs.length k1)=a1
 generalize ha2:a1.put (some u1) (.slice q ys.length k2)=a2
 generalize ha3:a2.put (some u2) l.val=a3
 have z1:a1.tmps.size=n:=by rw [← ha1,l6,hn]
 have z2:a2.tmps.size=n:=by rw [← ha2,l6,z1]
 have z3:a3.tmps.size=n:=by rw [← ha3,l6,z2]
 have f3:a3.defers=[]:=by rw [← ha3,put_defers,← ha2,put_defers,← ha1,put_defers,hd]
 have e0:a3.eval (.tmp u0)=.slice p xs.length k1:=by rw [← ha3,eval_put_ne n5,← ha2,eval_put_ne n4,← ha1,eval_put (by omega)]
 have e1:a3.eval (.tmp u1)=.slice q ys.length k2:=by rw [← ha3,eval_put_ne n6,← ha2,eval_put (by omega)]
 have e2:a3.eval (.tmp u2)=l.val:=by rw [← ha3,eval_put (by omega)]
 refine lK.ends (lK.bind (hm.alone (B:=fun g w'=>g=G (Frame.enter Tryz.prog 14 #[.slice p xs.length k1,.slice q ys.length k2,l.val] .normal) (b.at a3 (.inRegion ops [3,4]::[.code .ret])::[])∧∃ k,w'=w.at k) fun g w' ⟨hg,j,hw'⟩=>?_) fun m t hm=>?_)
 ·subst hg hw'
  refine Alone.ctl rfl (fun _=>stepG_seq) ?_
  refine Alone.ctl rfl (fun _=>stepG_region) ?_
  rw [hR.size]
  show Alone _ _ _ _ (G (b.at a (.inRegion ops [0,1,2,3,4]::[.code .ret])) []) _
  refine Alone.quiet (v:=.slice p xs.length k1) g0 (gy c0) hk (fun w1=>by unfold execOp;rw [p0];simp only [AU hx];rfl) (fun w1=>by unfold execOp;rw [p0];rfl) ?_
  rw [d0,ha1]
  refine Alone.quiet (v:=.slice q ys.length k2) g1 (gy c1) hk (fun w1=>by unfold execOp;rw [p1];simp only [← ha1,eval_put_ne n1,AU hy];rfl) (fun w1=>by unfold execOp;rw [p1];rfl) ?_
  rw [d1,ha2]
  refine Alone.load (ad:=⟨B,0,none⟩) (v:=l.val) g2 (gy c2) hk p2 (by rw [← ha2,eval_put_ne n3,← ha1,eval_put_ne n2,AU hl]) ⟨_,_,_,hlb⟩ (fun b hb hS=>hS) (fun n=>?_) ?_
  ·have c0:((w.at j).at n).cell? ⟨B,0,none⟩=some (.int .i64 l.s):=by
    show w.cell? _=_
    simp [World.cell?,hlb]
   have c1:((w.at j).at n).cell? ⟨B,1,none⟩=some (.int .i64 l.v):=by
    show w.cell? _=_
    simp [World.cell?,hlb]
   simp [go_sem,c0,c1]
   rfl
  rw [d2,ha3]
  refine Alone.ctl rfl (fun w1=>wK g3 (gy c3) hk p3 Tryz.func14 (by kernel_rfl) rfl) (.stop _ _ _ fun n=>⟨rfl,?_,n,rfl⟩)
  rw [List.map_toArray,List.map_cons,List.map_cons,List.map_cons,List.map_nil,e0,e1,e2]
 ·refine lK.bind (uU (shy:=fun _=>False) (fun x hx=>hx.elim) (fun b hb=>hb.elim) hX hY hu ht hlo hlen hm) fun m t ⟨Shun',Ji,hm⟩=>?_
  refine lK.bind (hm.alone (B:=Last Tryz.prog Shun' fun v w'=>v=.bool true∧Later w w') fun g w' ⟨hg,hK,ho⟩=>?_) fun m t hm=>.refl hm.ends
  subst hg
  rw [decide_eq_true hvw,Frame.finish_at,g3]
  simp only [Option.bind_some,d3]
  generalize ha4:a3.put (some u3) (.bool true)=a4
  have z4:a4.tmps.size=n:=by rw [← ha4,l6,z3]
  have e3:a4.eval (.tmp u3)=.bool true:=by rw [← ha4,eval_put (by omega)]
  refine Alone.quiet (v:=.bool true) g4 (gy c4) hk (fun w1=>by unfold execOp;rw [p4];simp only [e3];rfl) (fun w1=>by unfold execOp;rw [p4];rfl) ?_
  rw [d4]
  generalize ha5:a4.put (some sr) (.bool true)=a5
  have f5:a5.defers=[]:=by rw [← ha5,put_defers,← ha4,put_defers,f3]
  have e4:a5.eval (.tmp sr)=.bool true:=by rw [← ha5,eval_put (by omega)]
  have e5:a5.tmps[sr]?=some (.bool true):=Ml (by rw [← ha5,l6,z4];omega) e4
  refine Alone.ctl rfl (fun _=>stepG_region_end) ?_
  refine Alone.ctl rfl (fun _=>stepG_ret') ?_
  refine .stop _ _ _ fun n=>⟨rfl,rfl,fun n'=>⟨_,_,tN hb f5 hf hini (by simp [results,hres,go_sem,e5]) (by simp [results,hres,go_sem]),⟨Nat.le_refl _,fun e he=>by simp at he,fun e he=>by simp at he,fun e he=>by simp at he⟩,rfl,ho.os,ho.output,ho.size,ho.below⟩⟩
end
end Go.Proofs.YthhmolonhpaepaaGreatDoor
end
section
namespace Go.Proofs.YthhmolonhpaepaaGreatDoor
open Go.RowKit Drw Go.Conc Go.ConcN Go.Conc.Lib Go.ConcR.Gen Go.ConcN.Gen
open Go.ConcR (KK wgBlock WgAt stA smA rd wr mk Payload Aside2 DC0)
open Ren (Alone Ph RWg AnchW gQ AtM lK dh Last)
theorem J4 {f:FuncId} {fn:Func} {args:Array Value} {W:World} (hf:Tryz.prog.funcs[f]?=some fn) (hfb:fn.body.isSome=true) (hini:Tryz.prog.inits.idxOf? f=none) (htr:@Mz.Mc.tr (mc false W fun _=>False) f=false) (hkl:mKl f=[]) (hkr:mKr f=none)
  {ps:List Code} {pk:Code} {ops:Array Oper} {id sx sy sl u0 u1 u2 u3 sr n:Nat} (hR:NF ops sx sy sl u0 u1 u2 u3 sr n) (hres:fn.results=#[.tmp sr])
  (henter:∃ a:Act,a.defers=[]∧Frame.enter Tryz.prog f args .normal=(Go.Conc.base f).at a [.code (jf.spine ps (.seq pk (.seq (.region id ops false) .ret)))]∧∀ U,(jf.spine ps pk).wp Tryz.prog (Ck n sr sx sy sl ((pw (fun _=>False) W).af U 0)) a ((pw (fun _=>False) W).af U 0))
  (hps:∀ p∈ps,@Mz.codeOk (mc false W fun _=>False) f p=true) (hpk:@Mz.codeOk (mc false W fun _=>False) f pk=true) (hsp:@Mz.codeOk (mc false W fun _=>False) f (jf.spine ps pk)=true) :
  Ren.Ends Tryz.prog (fun v w'=>v=.bool true∧Later W w') (solo (G (Frame.enter Tryz.prog f args .normal) []) W) #[]:=by
 letI T:=mc false W fun _=>False
 letI Lw:=JY false W fun _=>False
 letI Cu:=JZ false W fun _=>False
 have hw:=l7 (bR:=false) (shy:=fun _=>False) (w:=W) fun b hb=>hb.elim
 obtain ⟨a,had,hen,hwp⟩:=henter
 have hP:=Mz.jQ (T:=mc false W fun _=>False) (Shun:=fun _=>False) (b:=Go.Conc.base f) (Q:=Ck n sr sx sy sl (pw (fun _=>False) W)) (w:=W) htr rfl (fun e a w t d h=>h) (fun e a w h=>h.2.2.2.elim (fun x=>.inr x.1) fun x=>.inl x.1) (fun x hx=>hx.elim) (Kb hf hfb hkr) rfl
  (a:=a) (mG hkl _) (fun d hd=>by rw [had] at hd;cases hd) hw (ps:=ps) (pk:=pk) (rest:=.seq (.region id ops false) .ret) hps hpk hsp hwp [] [] 0
 have hm:AtM Tryz.prog (fun _=>False) (fun g w'=>g=G (Frame.enter Tryz.prog f args .normal) []∧w'=W) (solo (G (Frame.enter Tryz.prog f args .normal) []) W) #[]:=Ren.KE ⟨rfl,rfl⟩
 refine lK.ends (lK.bind (hm.alone (B:=fun g w1=>(g=G g.frame []∧Last Tryz.prog (fun _=>False) (fun v w'=>v=.bool true∧Later W w') g w1) ∨
   ∃ a1,g=G ((Go.Conc.base f).at a1 [.code (.seq (.region id ops false) .ret)]) []∧a1.defers=[]∧a1.tmps.size=n∧∃ w2,(∃ k,w1=w2.at k)∧Later W w2∧∃ p q k1 k2 ts us l B,a1.tmps[sx]?=some (.slice p us.length k1)∧a1.tmps[sy]?=some (.slice q ts.length k2)∧a1.tmps[sl]?=some (.pointer (some ⟨B,0,none⟩))∧w2.heap[B]?=some (.cells #[.int .i64 (Lab.s l),.int .i64 (Lab.v l)] 25) ∧
    TabAt (pw (fun _=>False) w2) (.slice p us.length k1) us∧TabAt (pw (fun _=>False) w2) (.slice q ts.length k2) ts∧aU us=true∧aU ts=true∧dw l=true∧VS l ts us) fun g w0 ⟨hg,hw0⟩=>?_) fun m t hm=>?_)
 ·rw [hg,hw0,hen]
  refine hP.bind ?_
  rintro d g w1 ⟨rfl,⟨a1,hcase,hag,hdf⟩,hw1,hsz1,J9⟩
  have hlat:∀ {e},Ck n sr sx sy sl (pw (fun _=>False) W) e a1 (pw (fun _=>False) w1)→Later W w1:=fun {e} h=>by
   obtain ⟨⟨h1,h2,h3,h4⟩,-⟩:=h
   refine ⟨h1,h2,?_,pG hw1 J9 fun k hk=>h4 k (by rw [lC];exact hk)⟩
   rw [lC,lC] at h3;exact h3
  rcases hcase with ⟨rfl,hQ⟩|⟨td,rfl,hQ⟩
  ·rw [qE hw1 J9] at hQ
   have hl:=hlat hQ
   obtain ⟨-,hd,hz,hc⟩:=hQ
   obtain ⟨-,p,q,k1,k2,ts,us,l,B,x1,x2,x3,x4,x5,x6,x7,x8,x9,x10,x11⟩:=hc.resolve_left (fun h=>by cases h.1)
   exact .stop _ _ _ fun n=>⟨rfl,.inr ⟨a1,rfl,hd,hz,w1,⟨n,rfl⟩,hl,p,q,k1,k2,ts,us,l,B,x1,x2,x3,j5 x5 rfl,x6,x7,x8,x9,x10,x11⟩⟩
  ·rw [qE hw1 J9] at hQ
   have hl:=hlat hQ
   obtain ⟨-,hd,hz,hc⟩:=hQ
   obtain ⟨-,hr⟩:=hc.resolve_right (fun h=>by cases h.1)
   exact .stop _ _ _ fun n=>⟨rfl,.inl ⟨rfl,rfl,fun n'=>⟨_,_,tN rfl hd hf hini (by simp [results,hres,go_sem,hr]) (by simp [results,hres,go_sem]),⟨Nat.le_refl _,fun e he=>by simp at he,fun e he=>by simp at he,fun e he=>by simp at he⟩,rfl,hl⟩⟩⟩
 ·obtain ⟨gs,w1,sl',q',g,rfl,h0,hA,hL,hP',hg⟩:=hm
  rcases hA with ⟨-,hA⟩|⟨a1,rfl,hd,hz,w2,hk,hl,p,q,k1,k2,ts,us,l,B,x1,x2,x3,x4,x5,x6,x7,x8,x9,x10⟩
  ·exact .refl (AtM.ends ⟨gs,w1,sl',q',g,rfl,h0,hA,hL,hP',hg⟩)
  ·have:=E5 (w:=w2) (b:=Go.Conc.base f) (a:=a1) hR rfl hz hd hf hres hini x1 x2 x3 x4 x5 x6 x7 x8 x9 x10 (id:=id) ⟨gs,w1,sl',q',_,rfl,h0,⟨rfl,hk⟩,hL,hP',hg⟩
   obtain ⟨M,last,o,w',t',e1,e2,e3,e4⟩:=this
   exact .refl ⟨M,last,o,w',t',e1,e2,e3,e4.mono fun v hv=>⟨hv.1,hl.trans hv.2⟩⟩
section
variable {W:World} {p:Option Addr} {n:Nat}
theorem qF {w:World}:jg w (pw (fun _=>False) w):=fun a u h=>nk.2 ⟨fun x=>x,h⟩
theorem MJ (h:Laid W):Laid (pw (fun _=>False) W):=qF _ _ h
theorem KA (h:BytesAt W p n):BytesAt (pw (fun _=>False) W) p n:=fun i hi=>by
 obtain ⟨b,o,x,e,h1,h2,h3⟩:=h i hi
 exact ⟨b,o,x,e,by rw [lC];exact h1,qF _ _ h2,h3⟩
end
end Go.Proofs.YthhmolonhpaepaaGreatDoor
end
