/- A thing as one of a label may know it (impl.viewThing). Conditions: the thing is fine. -/
import Derived.Test.YthhmolonhpaepaaGreatDoorVU
import Derived.Test.YthhmolonhpaepaaGreatDoorVB
import Derived.Test.YthhmolonhpaepaaGreatDoorVJG
import Derived.Test.YthhmolonhpaepaaGreatDoorVJL
set_option linter.unusedVariables false
set_option linter.unusedSimpArgs false
section
namespace Go.Proofs.YthhmolonhpaepaaGreatDoor
open Go.RowKit Drw
attribute [local go_sem] Lab.val Rgt.val Cal.val Thg.val
def tH (l:Lab) (t:Thg):Thg:=if uJ t.lab l=true then t else az t.kind t.lab t.to
theorem Md {t:Thg} (h:aP t=true):aP (az t.kind t.lab t.to)=true:=by
 obtain ⟨k,l,v,n,s,q,tg⟩:=t
 rw [aQ] at h ⊢
 obtain ⟨h1,h2,h3,h4,h5,h6,h7⟩:=h
 have hk:k=1∨k=2∨k=3∨k=4∨k=5:=by
  simp [inR] at h1;omega
 refine ⟨h1,h2,?_,?_,?_,?_,h7⟩
 ·simp [kM,az,inR]
 ·rcases hk with rfl|rfl|rfl|rfl|rfl<;>simp [qH,az,inR]
 ·rcases hk with rfl|rfl|rfl|rfl|rfl<;>simp [bH,az,Al]
 ·simp [dS,az]
theorem Me {t:Thg} (h:aP t=true):t.slots.length≤4∧t.queue.length≤3:=by
 obtain ⟨k,l,v,n,s,q,tg⟩:=t
 rw [aQ] at h
 obtain ⟨-,-,-,-,h5,h6,-⟩:=h
 dsimp only [bH,dS] at h5 h6 ⊢
 constructor
 ·split at h5
  ·simp at h5;simp [h5]
  ·simp at h5;omega
 ·split at h6
  ·simp at h6;simp [h6]
  ·simp at h6;omega
set_option maxRecDepth 100000 in
set_option maxHeartbeats 4000000 in
theorem zw (t:Thg) (sv qv:Value) (l:Lab) (w:World) (hs:aF w sv t.slots) (hq:aG w qv t.queue) (ht:aP t=true) :
  Calls Tryz.prog 74 #[t.val sv qv,l.val] w fun e w'=>∃ sv' qv',e=.returned ((tH l t).val sv' qv')∧aF w' sv' (tH l t).slots∧aG w' qv' (tH l t).queue∧dJ w' w.heap.size sv'∧dJ w' w.heap.size qv'∧Below w.heap.size w w':=by
 have hok:=Md ht
 obtain ⟨hl1,hl2⟩:=Me ht
 obtain ⟨f,hf⟩:∃ f,uJ t.lab l=f:=⟨_,rfl⟩
 have Hf:=Lib.hid hf
 cases f
 ·have he:tH l t=az t.kind t.lab t.to:=by simp [tH,hf]
  rw [he]
  clear he hf
  obtain ⟨k,⟨s,v⟩,ve,nu,sl,qu,tg⟩:=t
  obtain ⟨ls,lv⟩:=l
  dsimp only [Thg.val] at hs hq hok hl1 hl2 ⊢
  obtain ⟨sp,fE,rfl,-,-⟩:=hs.len
  obtain ⟨qp,j4,rfl,-,-⟩:=hq.len
  have Hok:=Lib.hid hok
  clear hs hq hok ht
  go_enter Tryz.func74,Tryz.ntmps74
  go_wp2_with (first
   | (go_at_call 47;refine (gM ⟨_,_⟩ ⟨_,_⟩ _).mono ?_;rw [Hf.out];rintro e w1 ⟨rfl,hb1⟩;obtain ⟨hc1,hf1⟩:=ax hb1;have hz1:w.heap.size+3≤w1.heap.size:=(by have:=hb1.size;simp at this;omega);have hr1:∀ j,j<8→∃ u,w1.cell? ⟨w.heap.size+1+1,j,none⟩=some u:=(fun j hj=>by rw [hc1 _ _ (by simp)];rcases j with _|_|_|_|_|_|_|_|j<;>first|exact ⟨_,by simp [go_sem];rfl⟩|omega);have hg1:∀ j,w1.frozen? ⟨w.heap.size+1+1,j,none⟩=false:=(fun j=>by rw [hf1 _ _ (by simp)];simp [go_sem]))
   | (go_at_call 121;refine (tJ _ ⟨_,_⟩ _ _ Hok.out).mono ?_;rintro e w2 ⟨sv',rfl,hS,hH,hb2⟩;obtain ⟨hc2,hf2⟩:=ax hb2;obtain ⟨sp',LM,rfl,hsl1,hsl2⟩:=hS.len;have hz2:w1.heap.size≤w2.heap.size:=hb2.size;have hz3:w.heap.size+1+1<w2.heap.size:=(by omega);obtain ⟨u0,r0⟩:=hr1 0 (by decide);obtain ⟨u1,r1⟩:=hr1 1 (by decide);obtain ⟨u2,r2⟩:=hr1 2 (by decide);obtain ⟨u3,r3⟩:=hr1 3 (by decide);obtain ⟨u4,r4⟩:=hr1 4 (by decide);obtain ⟨u5,r5⟩:=hr1 5 (by decide);obtain ⟨u6,r6⟩:=hr1 6 (by decide);obtain ⟨u7,r7⟩:=hr1 7 (by decide);rw [← hc2 _ _ (by omega)] at r0;have g0:=(hf2 (w.heap.size+1+1) 0 (by omega)).trans (hg1 0);rw [← hc2 _ _ (by omega)] at r1;have g1:=(hf2 (w.heap.size+1+1) 1 (by omega)).trans (hg1 1);rw [← hc2 _ _ (by omega)] at r2;have g2:=(hf2 (w.heap.size+1+1) 2 (by omega)).trans (hg1 2);rw [← hc2 _ _ (by omega)] at r3;have g3:=(hf2 (w.heap.size+1+1) 3 (by omega)).trans (hg1 3);rw [← hc2 _ _ (by omega)] at r4;have g4:=(hf2 (w.heap.size+1+1) 4 (by omega)).trans (hg1 4);rw [← hc2 _ _ (by omega)] at r5;have g5:=(hf2 (w.heap.size+1+1) 5 (by omega)).trans (hg1 5);rw [← hc2 _ _ (by omega)] at r6;have g6:=(hf2 (w.heap.size+1+1) 6 (by omega)).trans (hg1 6);rw [← hc2 _ _ (by omega)] at r7;have g7:=(hf2 (w.heap.size+1+1) 7 (by omega)).trans (hg1 7)))
  refine bodyPost_ret (v:=.agg #[.int .i64 (az k ⟨s,v⟩ tg).kind,.int .i64 (az k ⟨s,v⟩ tg).lab.s,.int .i64 (az k ⟨s,v⟩ tg).lab.v,.int .i64 (az k ⟨s,v⟩ tg).aJ,.int .i64 (az k ⟨s,v⟩ tg).num,.slice sp' (az k ⟨s,v⟩ tg).slots.length LM,.slice none 0 0,.int .i64 (az k ⟨s,v⟩ tg).to]) ?_ rfl ⟨_,_,rfl,?_,?_,?_,?_,?_⟩
  ·simp [results,Tryz.results74,go_sem, *]
  ·exact Rows.held hS hH (S:=fun b=>b=w.heap.size+1+1) (by (repeat (with_reducible first|exact Chg.refl _ _|refine Chg.alloc ?_ _|refine Chg.drew ?_|refine Chg.drewN ?_ _|refine Chg.setCell ?_ ?_ _|refine Chg.trans ?_ (Chg.ah (by assumption))))<;>(first|omega|(simp;done)|(simp;omega))) (fun b _ h _=>by omega)
  ·exact ⟨none,0,rfl,by simp [az],by simp [maxLen],.inl (by simp [az])⟩
  ·exact (hH.chg (S:=fun b=>b=w.heap.size+1+1) (by (repeat (with_reducible first|exact Chg.refl _ _|refine Chg.alloc ?_ _|refine Chg.drew ?_|refine Chg.drewN ?_ _|refine Chg.setCell ?_ ?_ _|refine Chg.trans ?_ (Chg.ah (by assumption))))<;>(first|omega|(simp;done)|(simp;omega))) (fun b _ h _=>by omega)).retag (fun b _ h _=>⟨by omega,rfl⟩)
  ·exact fun b o n cap e hn=>by cases e
  ·exact (by (repeat (with_reducible first|exact bA _ _|refine bB ?_ ?_ _|refine bC ?_ _|refine bD ?_|refine bE ?_ ?_ _|refine bF ?_ (by assumption) ?_))<;>first|omega|(simp;try omega))
 ·have he:tH l t=t:=by simp [tH,hf]
  rw [he]
  clear he hf
  obtain ⟨k,⟨s,v⟩,ve,nu,sl,qu,tg⟩:=t
  obtain ⟨ls,lv⟩:=l
  dsimp only [Thg.val] at hs hq hok hl1 hl2 ⊢
  have hs':=hs
  have hq':=hq
  obtain ⟨sp,fE,rfl,-,-⟩:=hs'.len
  obtain ⟨qp,j4,rfl,-,-⟩:=hq'.len
  clear hs' hq' ht hok
  have HS:=Lib.hid hs
  have HQ:=Lib.hid hq
  clear hs hq
  go_enter Tryz.func74,Tryz.ntmps74
  go_wp2_with (first
   | (go_at_call 47;refine (gM ⟨_,_⟩ ⟨_,_⟩ _).mono ?_;rw [Hf.out];rintro e w1 ⟨rfl,hb1⟩;obtain ⟨hc1,hf1⟩:=ax hb1;have hz1:w.heap.size+3≤w1.heap.size:=(by have:=hb1.size;simp at this;omega);have hr1:∀ j,j<8→∃ u,w1.cell? ⟨w.heap.size+1+1,j,none⟩=some u:=(fun j hj=>by rw [hc1 _ _ (by simp)];rcases j with _|_|_|_|_|_|_|_|j<;>first|exact ⟨_,by simp [go_sem];rfl⟩|omega);have hg1:∀ j,w1.frozen? ⟨w.heap.size+1+1,j,none⟩=false:=(fun j=>by rw [hf1 _ _ (by simp)];simp [go_sem]))
   | (go_at_call 85;refine (rO ⟨_,⟨_,_⟩,_,_,sl,qu,_⟩ _ _ _ (HS.out.pure (by (repeat (with_reducible first|exact bA _ _|refine bB ?_ ?_ _|refine bC ?_ _|refine bD ?_|refine bE ?_ ?_ _|refine bF ?_ (by assumption) ?_))<;>first|omega|(simp;try omega))) (HQ.out.pure (by (repeat (with_reducible first|exact bA _ _|refine bB ?_ ?_ _|refine bC ?_ _|refine bD ?_|refine bE ?_ ?_ _|refine bF ?_ (by assumption) ?_))<;>first|omega|(simp;try omega))) (by show sl.length≤_;omega) (by show qu.length≤_;omega)).mono ?_;rintro e w2 ⟨sv',qv',rfl,hS,hQ,hH,hH2,-,hb2⟩;obtain ⟨hc2,hf2⟩:=ax hb2;obtain ⟨sp',LM,rfl,hsl1,hsl2⟩:=hS.len;obtain ⟨qp',qcap',rfl,hql1,hql2⟩:=hQ.len;have hz2:w1.heap.size≤w2.heap.size:=hb2.size;have hz3:w.heap.size+1+1<w2.heap.size:=(by omega);obtain ⟨u0,r0⟩:=hr1 0 (by decide);obtain ⟨u1,r1⟩:=hr1 1 (by decide);obtain ⟨u2,r2⟩:=hr1 2 (by decide);obtain ⟨u3,r3⟩:=hr1 3 (by decide);obtain ⟨u4,r4⟩:=hr1 4 (by decide);obtain ⟨u5,r5⟩:=hr1 5 (by decide);obtain ⟨u6,r6⟩:=hr1 6 (by decide);obtain ⟨u7,r7⟩:=hr1 7 (by decide);rw [← hc2 _ _ (by omega)] at r0;have g0:=(hf2 (w.heap.size+1+1) 0 (by omega)).trans (hg1 0);rw [← hc2 _ _ (by omega)] at r1;have g1:=(hf2 (w.heap.size+1+1) 1 (by omega)).trans (hg1 1);rw [← hc2 _ _ (by omega)] at r2;have g2:=(hf2 (w.heap.size+1+1) 2 (by omega)).trans (hg1 2);rw [← hc2 _ _ (by omega)] at r3;have g3:=(hf2 (w.heap.size+1+1) 3 (by omega)).trans (hg1 3);rw [← hc2 _ _ (by omega)] at r4;have g4:=(hf2 (w.heap.size+1+1) 4 (by omega)).trans (hg1 4);rw [← hc2 _ _ (by omega)] at r5;have g5:=(hf2 (w.heap.size+1+1) 5 (by omega)).trans (hg1 5);rw [← hc2 _ _ (by omega)] at r6;have g6:=(hf2 (w.heap.size+1+1) 6 (by omega)).trans (hg1 6);rw [← hc2 _ _ (by omega)] at r7;have g7:=(hf2 (w.heap.size+1+1) 7 (by omega)).trans (hg1 7)))
  refine bodyPost_ret (v:=.agg #[.int .i64 k,.int .i64 s,.int .i64 v,.int .i64 ve,.int .i64 nu,.slice sp' sl.length LM,.slice qp' qu.length qcap',.int .i64 tg]) ?_ rfl ⟨_,_,rfl,?_,?_,?_,?_,?_⟩
  ·simp [results,Tryz.results74,go_sem, *]
  ·exact Rows.held hS hH (S:=fun b=>b=w.heap.size+1+1) (by (repeat (with_reducible first|exact Chg.refl _ _|refine Chg.alloc ?_ _|refine Chg.drew ?_|refine Chg.drewN ?_ _|refine Chg.setCell ?_ ?_ _|refine Chg.trans ?_ (Chg.ah (by assumption))))<;>(first|omega|(simp;done)|(simp;omega))) (fun b _ h _=>by omega)
  ·exact Rows.held hQ hH2 (S:=fun b=>b=w.heap.size+1+1) (by (repeat (with_reducible first|exact Chg.refl _ _|refine Chg.alloc ?_ _|refine Chg.drew ?_|refine Chg.drewN ?_ _|refine Chg.setCell ?_ ?_ _|refine Chg.trans ?_ (Chg.ah (by assumption))))<;>(first|omega|(simp;done)|(simp;omega))) (fun b _ h _=>by omega)
  ·exact (hH.chg (S:=fun b=>b=w.heap.size+1+1) (by (repeat (with_reducible first|exact Chg.refl _ _|refine Chg.alloc ?_ _|refine Chg.drew ?_|refine Chg.drewN ?_ _|refine Chg.setCell ?_ ?_ _|refine Chg.trans ?_ (Chg.ah (by assumption))))<;>(first|omega|(simp;done)|(simp;omega))) (fun b _ h _=>by omega)).retag (fun b _ h _=>⟨by omega,rfl⟩)
  ·exact (hH2.chg (S:=fun b=>b=w.heap.size+1+1) (by (repeat (with_reducible first|exact Chg.refl _ _|refine Chg.alloc ?_ _|refine Chg.drew ?_|refine Chg.drewN ?_ _|refine Chg.setCell ?_ ?_ _|refine Chg.trans ?_ (Chg.ah (by assumption))))<;>(first|omega|(simp;done)|(simp;omega))) (fun b _ h _=>by omega)).retag (fun b _ h _=>⟨by omega,rfl⟩)
  ·exact (by (repeat (with_reducible first|exact bA _ _|refine bB ?_ ?_ _|refine bC ?_ _|refine bD ?_|refine bE ?_ ?_ _|refine bF ?_ (by assumption) ?_))<;>first|omega|(simp;try omega))
end Go.Proofs.YthhmolonhpaepaaGreatDoor
end
section
namespace Go.Proofs.YthhmolonhpaepaaGreatDoor
open Go.RowKit Drw
open Ren (jo codeOk)
def vFs:List Nat:=[74,47,39,83,84,85,130,131,121,155,68,67,102,103,150,106]
def vF (f:Nat):Option (List Nat):=if f=104 then some [25,31] else if f=105 then some [19,26] else if vFs.contains f then some [] else none
theorem vF_ok [Ren.aW]:jo Tryz.prog vF:=by
 intro f J h
 unfold vF at h
 split at h
 ·rename_i e;subst e;cases h;exact ⟨_,_,Tryz.func104,rfl,by kernel_rfl⟩
 split at h
 ·rename_i e;subst e;cases h;exact ⟨_,_,Tryz.func105,rfl,by kernel_rfl⟩
 split at h
 ·rename_i e
  cases h
  have e:f∈vFs:=by simpa using e
  simp only [vFs,List.mem_cons,List.not_mem_nil,or_false] at e
  rcases e with rfl|rfl|rfl|rfl|rfl|rfl|rfl|rfl|rfl|rfl|rfl|rfl|rfl|rfl|rfl|rfl
  ·exact ⟨_,_,Tryz.func74,rfl,by kernel_rfl⟩
  ·exact ⟨_,_,Tryz.func47,rfl,by kernel_rfl⟩
  ·exact ⟨_,_,Tryz.func39,rfl,by kernel_rfl⟩
  ·exact ⟨_,_,Tryz.func83,rfl,by kernel_rfl⟩
  ·exact ⟨_,_,Tryz.func84,rfl,by kernel_rfl⟩
  ·exact ⟨_,_,Tryz.func85,rfl,by kernel_rfl⟩
  ·exact ⟨_,_,Tryz.func130,rfl,by kernel_rfl⟩
  ·exact ⟨_,_,Tryz.func131,rfl,by kernel_rfl⟩
  ·exact ⟨_,_,Tryz.func121,rfl,by kernel_rfl⟩
  ·exact ⟨_,_,Tryz.func155,rfl,by kernel_rfl⟩
  ·exact ⟨_,_,Tryz.func68,rfl,by kernel_rfl⟩
  ·exact ⟨_,_,Tryz.func67,rfl,by kernel_rfl⟩
  ·exact ⟨_,_,Tryz.func102,rfl,by kernel_rfl⟩
  ·exact ⟨_,_,Tryz.func103,rfl,by kernel_rfl⟩
  ·exact ⟨_,_,Tryz.func150,rfl,by kernel_rfl⟩
  ·exact ⟨_,_,Tryz.func106,rfl,by kernel_rfl⟩
 ·cases h
end Go.Proofs.YthhmolonhpaepaaGreatDoor
end
section
namespace Go.Proofs.YthhmolonhpaepaaGreatDoor
open Go.RowKit Drw Go.Conc Go.ConcN Go.Conc.Lib Go.ConcR.Gen Go.ConcN.Gen
open Go.ConcR (KK wgBlock WgAt stA smA rd wr mk Payload Aside2 DC0)
open Ren (dZ nS IR Ph)
attribute [local go_sem] Lab.val Rgt.val Cal.val Thg.val
instance:Payload:=⟨3⟩
structure VD where
 w0:World
 S:Nat→Prop
 Low:Nat
 C:Nat
 Wg:Nat
 bt:Nat
 bl:Nat
 bv:Nat
 xs:List Thx
 l:Lab
 p:Option Addr
 cap:Nat
 lim:Nat
def VD.S' (D:VD) (c:Nat):Prop:=D.S c∧c<D.lim
def VD.n (D:VD):Nat:=D.xs.length
def fQ (S:Nat→Prop) (v:Value):Prop:=∀ b o n c,v=.slice (some ⟨b,o,none⟩) n c→0<n→S b
structure VD.Ok (D:VD):Prop where
 low:∀ c,D.S c→c<D.Low
 row:∀ i x,D.xs[i]?=some x→∃ b o,D.p=some ⟨b,o,none⟩∧D.S b∧(∃ cs e z,D.w0.heap[b]?=some (.cells cs e z))∧∀ j u,x.cells[j]?=some u→D.w0.cell? ⟨b,o+i * 8+j,none⟩=some u
 thx:∀ x∈D.xs,o5 D.w0 x
 sS:∀ x∈D.xs,fQ D.S' x.2.1
 qS:∀ x∈D.xs,fQ D.S' x.2.2
 fine:∀ x∈D.xs,aP x.1=true
 tS:D.S D.bt
 lS:D.S D.bl
 vS:D.S D.bv
 tb:D.w0.heap[D.bt]?=some (.cells #[.slice D.p D.n D.cap] 23)
 lb:D.w0.heap[D.bl]?=some (.cells #[.int .i64 D.l.s,.int .i64 D.l.v] 25)
 vb:D.w0.heap[D.bv]?=some (.cells #[.slice (some ⟨D.C,0,none⟩) D.n D.n] 23)
 n16:D.n≤65536
def Nice (B:Nat→Prop) (v:Value):Prop:=∃ (hG:Ren.aW) (ρ:Ren.Map) (u:Value),Ren.VR ρ u v∧∀ b c,ρ b c→B c
def VD.Good (D:VD) (i:Nat) (O1:Nat→Prop) (vals:Array Value) (w:World):Prop:=
 ∃ x sv qv,D.xs[i]?=some x∧vals=((tH D.l x.1).cells sv qv).toArray∧aF w sv (tH D.l x.1).slots∧aG w qv (tH D.l x.1).queue∧fQ O1 sv∧fQ O1 qv∧Nice (fun c=>D.S' c∨O1 c) sv∧Nice (fun c=>D.S' c∨O1 c) qv ∧
  ∀ c,O1 c→∃ ys e z,w.heap[c]?=some (.cells ys e z)∧∀ v∈ys,Nice (fun c=>D.S' c∨O1 c) v
def wT (D:VD) (b:Nat) (X:Nat→Value):Array Value:=#[.pointer (some ⟨D.Wg,0,none⟩),.pointer (some ⟨D.bt,0,none⟩),.pointer (some ⟨b,0,none⟩),.pointer (some ⟨D.bl,0,none⟩),.pointer (some ⟨D.bv,0,none⟩),X 5,X 6,X 7,X 8,X 9,X 10,X 11,X 12,X 13]
def mW (X:Nat→Value) (k:Nat) (v:Value):Nat→Value:=fun j=>if j=k then v else X j
def wD (D:VD):List Deferred:=[dcall 73 #[.pointer (some ⟨D.Wg,0,none⟩)]]
noncomputable def dN:Array Oper:=match Tryz.f72.body with
 | some (.seq _ (.region _ ops _))=>ops
 | _=>#[]
def IB (D:VD) (i:Nat) (x:Thx):Nat→Value→Prop
 | 0,v=>v=.slice (some ⟨D.C,0,none⟩) D.n D.n
 | 1,v=>v=.int .i64 i
 | 2,v=>v=.slice D.p D.n D.cap
 | 3,v=>v=.int .i64 i
 | 4,v=>∃ b o,D.p=some ⟨b,o,none⟩∧D.S b∧(∃ cs e z,D.w0.heap[b]?=some (.cells cs e z))∧(∀ j u,x.cells[j]?=some u→D.w0.cell? ⟨b,o+i * 8+j,none⟩=some u)∧v=.pointer (some ⟨b,o+i * 8,none⟩)
 | 5,v=>v=x.1.val x.2.1 x.2.2
 | 6,v=>v=D.l.val
 | 8,v=>v=.pointer (some ⟨D.C,i * 8,none⟩)
 | _,_=>True
def Fact7 (D:VD) (i b:Nat) (v:Value) (w:World) (O:Nat→Prop):Prop:=∃ vals O1,v=.agg vals∧D.Good i O1 vals w∧∀ c,O1 c→O c∧c≠b
abbrev WSt:=Act × World × (Nat→Prop)
structure WJ (D:VD) (i b:Nat) (x:Thx) (listed:Array Bool) (s:WSt):Prop where
 act:∃ X,s.1=⟨wT D b X,wD D⟩∧(∀ k,k<9→k≠7→listed.getD k false=true→IB D i x k (X (k+5)))∧(listed.getD 7 false=true→Fact7 D i b (X 12) s.2.1 s.2.2)
 same:∀ c,D.S c→s.2.1.heap[c]?=D.w0.heap[c]?
 ib:s.2.1.heap[b]?=some (.cells #[.int .i64 i] 3)
 own:s.2.2 b
 only:listed.getD 7 false=false→∀ c,s.2.2 c↔c=b
 low:D.Low≤s.2.1.heap.size
theorem fJ {listed:Array Bool} {i j:Nat} (hj:j<listed.size):(listed.setIfInBounds i true).getD j false=if i=j then true else listed.getD j false:=by
 simp only [Array.getD_eq_getD_getElem?,Array.getElem?_setIfInBounds]
 by_cases h:i=j
 ·subst h;simp [hj]
 ·simp [h]
theorem eY:dN.size=10:=by kernel_rfl
theorem Ah:(List.range 10).all (fun i=>((dN[i]?).map (·.after.all fun e=>Region.binds .any e && Region.binds .text e && Region.binds .gc e)).getD false)=true:=by kernel_rfl
theorem dep72 {md:Region.Mode} {listed:Array Bool} {i:Nat} {o:Oper} (h:i∈Region.ready md dN listed) (ho:dN[i]?=some o):∀ e∈o.after,listed.getD e.on false=true:=by
 obtain ⟨_,o',h1,h2⟩:=mem_ready.1 h
 have e1:o'=o:=Option.some.inj (h1.symm.trans ho)
 subst e1
 have hi:i<10:=by have:=(Array.getElem?_eq_some_iff.1 ho).1;rwa [eY] at this
 have h3:=List.all_eq_true.1 Ah i (by simpa using hi)
 rw [ho] at h3
 simp only [Option.map_some,Option.getD_some,Array.all_eq_true_iff_forall_mem,Bool.and_eq_true] at h3
 intro e he
 refine h2 e he ?_
 cases md<;>first|exact (h3 e he).1.1|exact (h3 e he).1.2|exact (h3 e he).2
section
variable {D:VD} {i b:Nat} {x:Thx} {listed:Array Bool} {a:Act} {w w1:World} {O:Nat→Prop} {X:Nat→Value}
theorem WJ.put (h:WJ D i b x listed (a,w,O)) (hs:listed.size=10) {X:Nat→Value} (ha:a=⟨wT D b X,wD D⟩) (hX:(∀ k,k<9→k≠7→listed.getD k false=true→IB D i x k (X (k+5)))∧(listed.getD 7 false=true→Fact7 D i b (X 12) w O)) {k:Nat} {v:Value} (hk:k<9) (hk7:k≠7) (hv:IB D i x k v) :
  WJ D i b x (listed.setIfInBounds k true) (⟨wT D b (mW X (k+5) v),wD D⟩,w,O):=by
 refine ⟨⟨_,rfl,fun j hj hj7 hl=>?_,fun hl=>?_⟩,h.same,h.ib,h.own,fun hl=>?_,h.low⟩
 ·rw [fJ (by omega)] at hl
  by_cases e:k=j
  ·subst e;simpa [mW] using hv
  ·rw [if_neg e] at hl
   have:mW X (k+5) v (j+5)=X (j+5):=by simp only [mW];rw [if_neg (by omega)]
   rw [this]
   exact hX.1 j hj hj7 hl
 ·rw [fJ (by omega),if_neg (by omega)] at hl
  have:mW X (k+5) v 12=X 12:=by simp only [mW];rw [if_neg (by omega)]
  rw [this]
  exact hX.2 hl
 ·rw [fJ (by omega),if_neg (by omega)] at hl
  exact h.only hl
def WPg (D:VD) (Fin:(Nat→Prop)→Goroutine→World→Prop) (bot:Frame) (rest:List Nat) (s:WSt):Prop:=dZ Tryz.prog false D.S Fin s.2.2 (G ((baseD 72).at s.1 [.inRegion dN rest]) [bot]) s.2.1
theorem bk (k:Nat):(baseD k).kind≠.early:=by simp [baseD]
variable {Fin:(Nat→Prop)→Goroutine→World→Prop} {bot:Frame} {rest:List Nat}
theorem mU (ok:D.Ok) (hs:listed.size=10) (h:WJ D i b x listed (a,w,O)) {k:Nat} {o:Oper} {t:TypeId} {y:Operand} {ad:Addr} {v:Value} (hk:k<9) (hk7:k≠7) (ho:dN[k]?=some o) (hg:o.guard=none) (hd:o.dst=some (k+5)) (hop:o.op=.load t y) (hx:a.eval y=.pointer (some ad)) (hb:D.S ad.block∨ad.block=b)
  (hc:∃ xs e z,w.heap[ad.block]?=some (.cells xs e z)) (hr:∀ w1,w1.heap[ad.block]?=w.heap[ad.block]?→(Instr.loadAt t (.pointer (some ad))).run Tryz.prog w1=.ok v w1) (hv:IB D i x k v)
  (hn:∀ s',WJ D i b x (listed.setIfInBounds k true) s'→WPg D Fin bot rest s'):WPg D Fin bot (k::rest) (a,w,O):=by
 obtain ⟨X,ha,hX⟩:=h.act
 have hblk:D.S ad.block∨O ad.block:=hb.imp id fun e=>by rw [e];exact h.own
 refine dZ.load ho (by simp [Region.wanted,hg]) (bk _) hop hx hblk hc hr ?_
 have e1:a.put o.dst v=⟨wT D b (mW X (k+5) v),wD D⟩:=by
  rw [hd,show a=_ from ha]
  simp only [Act.put]
  have:k=0∨k=1∨k=2∨k=3∨k=4∨k=5∨k=6∨k=8:=by omega
  rcases this with rfl|rfl|rfl|rfl|rfl|rfl|rfl|rfl<;>simp [wT,mW]
 rw [e1]
 exact hn (_,w,O) (h.put hs ha hX hk hk7 hv)
theorem Bf (hs:listed.size=10) (h:WJ D i b x listed (a,w,O)) {k:Nat} {o:Oper} {t:TypeId} {y z:Operand} {v:Value} (hk:k<9) (hk7:k≠7) (ho:dN[k]?=some o) (hg:o.guard=none) (hd:o.dst=some (k+5)) (hop:o.op=.indexAddr t y z)
  (hr:∀ w1,(Instr.indexAt t (a.eval y) (a.eval z)).run Tryz.prog w1=.ok v w1) (he:∀ w1,(Instr.indexAt t (a.eval y) (a.eval z)).events Tryz.prog w1 #[]=#[]) (hv:IB D i x k v) (hn:∀ s',WJ D i b x (listed.setIfInBounds k true) s'→WPg D Fin bot rest s'):WPg D Fin bot (k::rest) (a,w,O):=by
 obtain ⟨X,ha,hX⟩:=h.act
 refine dZ.index ho (by simp [Region.wanted,hg]) (bk _) hop hr he ?_
 have e1:a.put o.dst v=⟨wT D b (mW X (k+5) v),wD D⟩:=by
  rw [hd,show a=_ from ha]
  simp only [Act.put]
  have:k=0∨k=1∨k=2∨k=3∨k=4∨k=5∨k=6∨k=8:=by omega
  rcases this with rfl|rfl|rfl|rfl|rfl|rfl|rfl|rfl<;>simp [wT,mW]
 rw [e1]
 exact hn (_,w,O) (h.put hs ha hX hk hk7 hv)
theorem lq {t:TypeId} {ad:Addr} {v:Value} (hag:∀ w,(isAgg t).run Tryz.prog w=.ok false w) (hc:w1.cell? ad=some v):(Instr.loadAt t (.pointer (some ad))).run Tryz.prog w1=.ok v w1:=by
 simp [go_sem,Instr.loadAt,Instr.sureAddr,loadVar,hag,hc]
set_option maxHeartbeats 1000000 in
theorem wj_0 (ok:D.Ok) (hs:listed.size=10) (h:WJ D i b x listed (a,w,O)) (hn:∀ s',WJ D i b x (listed.setIfInBounds 0 true) s'→WPg D Fin bot rest s'):WPg D Fin bot (0::rest) (a,w,O):=by
 obtain ⟨X,ha,hX⟩:=h.act
 replace ha:a=⟨wT D b X,wD D⟩:=ha
 have hc:w.heap[D.bv]?=_:=(h.same _ ok.vS).trans ok.vb
 refine mU (v:=.slice (some ⟨D.C,0,none⟩) D.n D.n) ok hs h (by decide) (by decide) (o:=_) rfl rfl rfl rfl (ad:=⟨D.bv,0,none⟩) (by rw [ha];rfl) (.inl ok.vS) ⟨_,_,_,hc⟩ (fun w1 h1=>lq (ad:=⟨D.bv,0,none⟩) Tryz.isAgg23 ?_) rfl hn
 simp [World.cell?,h1,hc]
theorem wj_13 (ok:D.Ok) (hs:listed.size=10) (h:WJ D i b x listed (a,w,O)) {k:Nat} (hk:k=1∨k=3) (hn:∀ s',WJ D i b x (listed.setIfInBounds k true) s'→WPg D Fin bot rest s'):WPg D Fin bot (k::rest) (a,w,O):=by
 obtain ⟨X,ha,hX⟩:=h.act
 replace ha:a=⟨wT D b X,wD D⟩:=ha
 have hc:w.heap[b]?=_:=h.ib
 rcases hk with rfl|rfl
 ·refine mU (v:=.int .i64 i) ok hs h (by decide) (by decide) (o:=_) rfl rfl rfl rfl (ad:=⟨b,0,none⟩) (by rw [ha];rfl) (.inr rfl) ⟨_,_,_,hc⟩ (fun w1 h1=>lq (ad:=⟨b,0,none⟩) Tryz.isAgg3 ?_) rfl hn
  simp [World.cell?,h1,hc]
 ·refine mU (v:=.int .i64 i) ok hs h (by decide) (by decide) (o:=_) rfl rfl rfl rfl (ad:=⟨b,0,none⟩) (by rw [ha];rfl) (.inr rfl) ⟨_,_,_,hc⟩ (fun w1 h1=>lq (ad:=⟨b,0,none⟩) Tryz.isAgg3 ?_) rfl hn
  simp [World.cell?,h1,hc]
theorem wj_2 (ok:D.Ok) (hs:listed.size=10) (h:WJ D i b x listed (a,w,O)) (hn:∀ s',WJ D i b x (listed.setIfInBounds 2 true) s'→WPg D Fin bot rest s'):WPg D Fin bot (2::rest) (a,w,O):=by
 obtain ⟨X,ha,hX⟩:=h.act
 replace ha:a=⟨wT D b X,wD D⟩:=ha
 have hc:w.heap[D.bt]?=_:=(h.same _ ok.tS).trans ok.tb
 refine mU (v:=.slice D.p D.n D.cap) ok hs h (by decide) (by decide) (o:=_) rfl rfl rfl rfl (ad:=⟨D.bt,0,none⟩) (by rw [ha];rfl) (.inl ok.tS) ⟨_,_,_,hc⟩ (fun w1 h1=>lq (ad:=⟨D.bt,0,none⟩) Tryz.isAgg23 ?_) rfl hn
 simp [World.cell?,h1,hc]
theorem wj_6 (ok:D.Ok) (hs:listed.size=10) (h:WJ D i b x listed (a,w,O)) (hn:∀ s',WJ D i b x (listed.setIfInBounds 6 true) s'→WPg D Fin bot rest s'):WPg D Fin bot (6::rest) (a,w,O):=by
 obtain ⟨X,ha,hX⟩:=h.act
 replace ha:a=⟨wT D b X,wD D⟩:=ha
 have hc:w.heap[D.bl]?=_:=(h.same _ ok.lS).trans ok.lb
 refine mU (v:=D.l.val) ok hs h (by decide) (by decide) (o:=_) rfl rfl rfl rfl (ad:=⟨D.bl,0,none⟩) (by rw [ha];rfl) (.inl ok.lS) ⟨_,_,_,hc⟩ (fun w1 h1=>?_) rfl hn
 have c0:w1.cell? ⟨D.bl,0,none⟩=some (.int .i64 D.l.s):=by simp [World.cell?,h1,hc]
 have c1:w1.cell? ⟨D.bl,1,none⟩=some (.int .i64 D.l.v):=by simp [World.cell?,h1,hc]
 simp [go_sem,c0,c1]
theorem wj_5 (ok:D.Ok) (hs:listed.size=10) (h:WJ D i b x listed (a,w,O)) (h4:listed.getD 4 false=true) (hn:∀ s',WJ D i b x (listed.setIfInBounds 5 true) s'→WPg D Fin bot rest s'):WPg D Fin bot (5::rest) (a,w,O):=by
 obtain ⟨X,ha,hX⟩:=h.act
 replace ha:a=⟨wT D b X,wD D⟩:=ha
 obtain ⟨bT,oT,hp,hS,⟨cs,e,z,hc⟩,hcells,hv⟩:=hX.1 4 (by decide) (by decide) h4
 replace hc:=(h.same _ hS).trans hc
 have hx:a.eval (.tmp 9)=.pointer (some ⟨bT,oT+i * 8,none⟩):=by rw [ha];exact hv
 refine mU (v:=x.1.val x.2.1 x.2.2) ok hs h (by decide) (by decide) (o:=_) rfl rfl rfl rfl (ad:=⟨bT,oT+i * 8,none⟩) hx (.inl hS) ⟨_,_,_,hc⟩ (fun w1 h1=>?_) rfl hn
 have hcl:∀ j u,x.cells[j]?=some u→w1.cell? ⟨bT,oT+i * 8+j,none⟩=some u:=fun j u hj=>by
  rw [← hcells j u hj]
  simp only [World.cell?]
  rw [h1,h.same _ hS]
 have c0:=hcl 0 _ rfl
 have c1:=hcl 1 _ rfl
 have c2:=hcl 2 _ rfl
 have c3:=hcl 3 _ rfl
 have c4:=hcl 4 _ rfl
 have c5:=hcl 5 _ rfl
 have c6:=hcl 6 _ rfl
 have c7:=hcl 7 _ rfl
 simp only [Nat.add_zero] at c0
 simp [go_sem,c0,c1,c2,c3,c4,c5,c6,c7]
theorem wj_4 (ok:D.Ok) (hx:D.xs[i]?=some x) (hs:listed.size=10) (h:WJ D i b x listed (a,w,O)) (h2:listed.getD 2 false=true) (h3:listed.getD 3 false=true) (hn:∀ s',WJ D i b x (listed.setIfInBounds 4 true) s'→WPg D Fin bot rest s'):WPg D Fin bot (4::rest) (a,w,O):=by
 obtain ⟨X,ha,hX⟩:=h.act
 replace ha:a=⟨wT D b X,wD D⟩:=ha
 have e7:X 7=.slice D.p D.n D.cap:=hX.1 2 (by decide) (by decide) h2
 have e8:X 8=.int .i64 i:=hX.1 3 (by decide) (by decide) h3
 obtain ⟨bT,oT,hp,hS,hc,hcells⟩:=ok.row i x hx
 have hi:i<D.n:=(List.getElem?_eq_some_iff.1 hx).1
 have q1:a.eval (.tmp 7)=.slice (some ⟨bT,oT,none⟩) D.n D.cap:=by rw [ha,← hp,← e7];rfl
 have q2:a.eval (.tmp 8)=.int .i64 i:=by rw [ha,← e8];rfl
 have q3:(i:Int)<(D.n:Int):=by omega
 refine Bf (v:=.pointer (some ⟨bT,oT+i * 8,none⟩)) hs h (by decide) (by decide) (o:=_) rfl rfl rfl rfl (fun w1=>?_) (fun w1=>?_) ⟨bT,oT,hp,hS,hc,hcells,rfl⟩ hn
 ·rw [q1,q2]
  simp [go_sem,q3]
 ·rw [q1,q2]
  exact events_indexAt_slice _ _ _ _ _ _ (by kernel_rfl) ⟨by omega,q3⟩
theorem wj_8 (hx:D.xs[i]?=some x) (hs:listed.size=10) (h:WJ D i b x listed (a,w,O)) (h2:listed.getD 0 false=true) (h3:listed.getD 1 false=true) (hn:∀ s',WJ D i b x (listed.setIfInBounds 8 true) s'→WPg D Fin bot rest s'):WPg D Fin bot (8::rest) (a,w,O):=by
 obtain ⟨X,ha,hX⟩:=h.act
 replace ha:a=⟨wT D b X,wD D⟩:=ha
 have e7:X 5=.slice (some ⟨D.C,0,none⟩) D.n D.n:=hX.1 0 (by decide) (by decide) h2
 have e8:X 6=.int .i64 i:=hX.1 1 (by decide) (by decide) h3
 have hi:i<D.n:=(List.getElem?_eq_some_iff.1 hx).1
 have q1:a.eval (.tmp 5)=.slice (some ⟨D.C,0,none⟩) D.n D.n:=by rw [ha,← e7];rfl
 have q2:a.eval (.tmp 6)=.int .i64 i:=by rw [ha,← e8];rfl
 have q3:(i:Int)<(D.n:Int):=by omega
 refine Bf (v:=.pointer (some ⟨D.C,i * 8,none⟩)) hs h (by decide) (by decide) (o:=_) rfl rfl rfl rfl (fun w1=>?_) (fun w1=>?_) rfl hn
 ·rw [q1,q2]
  simp [go_sem,q3]
 ·rw [q1,q2]
  exact events_indexAt_slice _ _ _ _ _ _ (by kernel_rfl) ⟨by omega,q3⟩
end
end Go.Proofs.YthhmolonhpaepaaGreatDoor
end
section
namespace Go.Proofs.YthhmolonhpaepaaGreatDoor
open Go.RowKit Drw Go.Conc Go.ConcN Go.Conc.Lib Go.ConcR.Gen Go.ConcN.Gen
open Go.ConcR (KK wgBlock WgAt stA smA rd wr mk Payload Aside2 DC0)
open Ren (dZ nS IR Ph HR VR RR WR AR nz)
def bU (s:Nat) (cs:List (List Value)):List Value:=(List.range (cs.length * s)).map fun j=>((cs[j / s]?).bind (·[j % s]?)).getD undef
theorem EE (s:Nat) (cs:List (List Value)):(bU s cs).length=cs.length * s:=by simp [bU]
theorem EF {s:Nat} {cs:List (List Value)} {k r:Nat} {c:List Value} {u:Value} (hk:cs[k]?=some c) (hr:r<s) (hu:c[r]?=some u):(bU s cs)[k * s+r]?=some u:=by
 have hlt:k<cs.length:=(List.getElem?_eq_some_iff.1 hk).1
 have h1:k * s+r<cs.length * s:=Nat.lt_of_lt_of_le (by omega:k * s+r<k * s+s) (by rw [← Nat.succ_mul];exact Nat.mul_le_mul_right s hlt)
 have h2:(k * s+r) / s=k:=by rw [Nat.mul_comm,Nat.mul_add_div (by omega),Nat.div_eq_of_lt hr];omega
 have h3:(k * s+r) % s=r:=by rw [Nat.mul_comm,Nat.mul_add_mod,Nat.mod_eq_of_lt hr]
 simp [bU,h1,h2,h3,hk,hu]
theorem Bi {w:World} {b o:Nat} {s:Nat} {cs:List (List Value)} (hlen:∀ c∈cs,c.length=s) (h:∀ k c,cs[k]?=some c→∀ j u,c[j]?=some u→w.cell? ⟨b,o+k * s+j,none⟩=some u) {j:Nat} (hj:j<(bU s cs).length) :
  ∃ c∈cs,∃ u∈c,(bU s cs)[j]?=some u∧w.cell? ⟨b,o+j,none⟩=some u:=by
 rw [EE] at hj
 have hs:0<s:=Nat.pos_of_ne_zero fun e=>by subst e;omega
 have hk:j / s<cs.length:=Nat.div_lt_of_lt_mul (by rwa [Nat.mul_comm] at hj)
 have hr:j % s<s:=Nat.mod_lt _ hs
 have hc:cs[j / s]?=some cs[j / s]:=List.getElem?_eq_getElem hk
 have hl:cs[j / s].length=s:=hlen _ (List.getElem_mem hk)
 have hu:cs[j / s][j % s]?=some (cs[j / s][j % s]'(by omega)):=List.getElem?_eq_getElem (by omega)
 have e:j / s * s+j % s=j:=by rw [Nat.mul_comm];exact Nat.div_add_mod j s
 have hm:j % s<cs[j / s].length:=by omega
 refine ⟨_,List.getElem_mem hk,cs[j / s][j % s],List.getElem_mem hm,?_,?_⟩
 ·have:=EF hc hr hu
  rwa [e] at this
 ·have:=h _ _ hc _ _ hu
  rwa [Nat.add_assoc,e] at this
def oJ (v:Value):Prop:=(∃ k n,v=.int k n)∨∃ b,v=.bool b
theorem oJ.vr [Ren.aW] {v:Value} (h:oJ v) (ρ:Ren.Map):VR ρ v v:=by
 rcases h with ⟨k,n,rfl⟩|⟨b,rfl⟩
 ·exact .int k n
 ·exact .bool b
theorem jY {rs:List Rgt}:(∀ c∈rs.map Rgt.cells,c.length=5)∧∀ c∈rs.map Rgt.cells,∀ u∈c,oJ u:=by
 constructor
 ·intro c hc
  obtain ⟨r,_,rfl⟩:=List.mem_map.1 hc
  rfl
 ·intro c hc u hu
  obtain ⟨r,_,rfl⟩:=List.mem_map.1 hc
  simp [Rgt.cells] at hu
  rcases hu with rfl|rfl|rfl|rfl|rfl
  ·exact .inl ⟨_,_,rfl⟩
  ·exact .inl ⟨_,_,rfl⟩
  ·exact .inr ⟨_,rfl⟩
  ·exact .inr ⟨_,rfl⟩
  ·exact .inr ⟨_,rfl⟩
theorem kI {ns:List Int}:(∀ c∈ns.map intCells,c.length=1)∧∀ c∈ns.map intCells,∀ u∈c,oJ u:=by
 constructor
 ·intro c hc
  obtain ⟨r,_,rfl⟩:=List.mem_map.1 hc
  rfl
 ·intro c hc u hu
  obtain ⟨r,_,rfl⟩:=List.mem_map.1 hc
  simp [intCells] at hu
  subst hu
  exact .inl ⟨_,_,rfl⟩
abbrev gl (o:Nat):Ren.aW:=⟨1,fun b=>if b=1 then o else 0⟩
def Au (w:World) (cs:List Value) (t:TypeId):World:={ w with heap:=#[.cells #[] 0 (0,0),.cells cs.toArray t (0,cs.length)] }
theorem yG {w:World} {s b o:Nat} {cs:List (List Value)} (hlen:∀ c∈cs,c.length=s) (hsim:∀ c∈cs,∀ u∈c,oJ u) (hne:0<cs.length) (hs:0<s)
  (h:∀ k c,cs[k]?=some c→∀ j u,c[j]?=some u→w.cell? ⟨b,o+k * s+j,none⟩=some u) :
  letI:=gl o
  ∃ t,HR (fun x y=>x=1∧y=b) 2 ((Au w (bU s cs) t).af w.tape w.drawn) w:=by
 letI:=gl o
 have hblk:∃ ys e z,w.heap[b]?=some (.cells ys e z)∧∀ j,j<(bU s cs).length→∃ u,oJ u∧(bU s cs)[j]?=some u∧ys[o+j]?=some u:=by
  have h0:0<(bU s cs).length:=by rw [EE];exact Nat.mul_pos hne hs
  obtain ⟨c,hc,u,hu,e1,e2⟩:=Bi hlen h h0
  cases hb:w.heap[b]? with
  | none=>simp [World.cell?,hb] at e2
  | some ob=>
   cases ob with
   | cells ys e z=>
    refine ⟨ys,e,z,rfl,fun j hj=>?_⟩
    obtain ⟨c,hc,u,hu,e1,e2⟩:=Bi hlen h hj
    refine ⟨u,hsim c hc u hu,e1,?_⟩
    simpa [World.cell?,hb] using e2
   | _=>simp [World.cell?,hb] at e2
 obtain ⟨ys,e,z,hb,hcl⟩:=hblk
 refine ⟨e,?_,?_,?_,rfl,rfl,Nat.le_refl _,(show (1:Nat)≤2 by decide),fun x hx=>?_⟩
 ·rintro x x' y ⟨rfl,rfl⟩ ⟨rfl,_⟩;rfl
 ·rintro x y y' ⟨rfl,rfl⟩ ⟨_,rfl⟩;rfl
 ·rintro x y ⟨rfl,rfl⟩
  refine ⟨(bU s cs).toArray,e,(0,(bU s cs).length),ys,z,rfl,hb,fun i hi=>?_,fun hx=>absurd hx (by decide),fun _ off ho=>?_⟩
  ·obtain ⟨u,h1,h2,h3⟩:=hcl i (by simpa using hi)
   have hlt:o+i<ys.size:=(Array.getElem?_eq_some_iff.1 h3).1
   have e1:ys[o+i]=u:=(Array.getElem?_eq_some_iff.1 h3).2
   have e2:(bU s cs).toArray[i]=u:=by
    have:=(List.getElem?_eq_some_iff.1 h2).2
    simpa using this
   refine ⟨by show i+(if 1=1 then o else 0)<_;simp;omega,?_⟩
   have e3:i+Ren.aW.sh 1=o+i:=by show i+(if 1=1 then o else 0)=_;simp;omega
   simp only [e3]
   rw [e1,e2]
   exact h1.vr _
  ·simp at ho
   simp [Ren.frz,ho]
 ·show (if x=1 then o else 0)=0
  rw [if_neg (by omega)]
theorem Gt {w:World}:letI:=gl 0;HR (fun _ _=>False) 2 ((Au w [] 0).af w.tape w.drawn) w:=by
 letI:=gl 0
 exact ⟨fun _ _ _ h=>h.elim,fun _ _ _ h=>h.elim,fun _ _ h=>h.elim,rfl,rfl,Nat.le_refl _,(show (1:Nat)≤2 by decide),fun x hx=>by show (if x=1 then 0 else 0)=0;simp⟩
theorem Gu {w:World} {s:Nat} {cs:List (List Value)} (hlen:∀ c∈cs,c.length=s) (hs:0<s) (t:TypeId) {cap:Nat} (h1:cs.length≤cap) (h2:cap≤maxLen):Drw.Rows (Au w (bU s cs) t) (.slice (some ⟨1,0,none⟩) cs.length cap) s cs:=by
 refine ⟨_,cap,rfl,h1,h2,.inr ⟨1,0,rfl,fun k c hk j u hj=>?_⟩⟩
 have hl:=hlen c (List.mem_of_getElem? hk)
 have hj':j<s:=hl ▸ (List.getElem?_eq_some_iff.1 hj).1
 have:=EF hk hj' hj
 simp only [World.cell?,Au,Nat.zero_add]
 simpa using this
theorem DR {w:World} {x:Thx} {S:Nat→Prop} (hx:o5 w x) (hf:aP x.1=true) (h1:fQ S x.2.1) (h2:fQ S x.2.2) :
  ∃ (G:Ren.aW) (ρ:Ren.Map) (wl:World) (sl ql:Value),G.g=1∧HR ρ 2 (wl.af w.tape w.drawn) w∧wl.heap.size=2∧VR ρ sl x.2.1∧VR ρ ql x.2.2∧aF wl sl x.1.slots∧aG wl ql x.1.queue∧(∀ b c,ρ b c→b<2∧S c):=by
 obtain ⟨hr,hq⟩:=hx
 obtain ⟨t,sv,qv⟩:=x
 dsimp only at hr hq hf h1 h2 ⊢
 have hone:t.slots=[]∨t.queue=[]:=by
  obtain ⟨k,l,v,n,s,q,tg⟩:=t
  rw [aQ] at hf
  obtain ⟨-,-,-,-,h5,h6,-⟩:=hf
  dsimp only [bH,dS] at h5 h6 ⊢
  by_cases hk:k=4
  ·left
   rw [if_pos (by omega)] at h5
   simpa using h5
  ·right
   rw [if_pos hk] at h6
   simpa using h6
 obtain ⟨p,cap,hv,c1,c2,hc⟩:=hr
 obtain ⟨p',cap',hv',c1',c2',hc'⟩:=hq
 simp only [List.length_map] at hv hv' c1 c1'
 subst hv hv'
 by_cases e1:t.slots=[]
 ·by_cases e2:t.queue=[]
  ·rw [e1,e2]
   letI:=gl 0
   exact ⟨gl 0,fun _ _=>False,Au w [] 0,.slice none 0 cap,.slice none 0 cap',rfl,Gt,rfl,.nY _ _,.nY _ _,⟨none,cap,rfl,by simp,c2,.inl rfl⟩,⟨none,cap',rfl,by simp,c2',.inl rfl⟩,fun _ _ h=>h.elim⟩
  ·obtain ⟨b,o,rfl,hd⟩:=hc'.resolve_left (by simpa using e2)
   have hpos:0<(t.queue.map intCells).length:=by rw [List.length_map];exact List.length_pos_iff.2 e2
   obtain ⟨ty,hh⟩:=yG kI.1 kI.2 hpos (by decide) hd
   rw [e1]
   letI:=gl o
   refine ⟨gl o,_,Au w (bU 1 (t.queue.map intCells)) ty,.slice none 0 cap,.slice (some ⟨1,0,none⟩) t.queue.length cap',rfl,hh,rfl,.nY _ _,.slice _ _ _ _ ⟨⟨rfl,rfl⟩,by show 0+(if 1=1 then o else 0)=o;simp,rfl,Nat.le_refl 1⟩,⟨none,cap,rfl,by simp,c2,.inl rfl⟩,?_,?_⟩
   ·have:=Gu (w:=w) kI.1 (by decide) ty (by simpa using c1') c2' (cs:=t.queue.map intCells)
    simpa [aG] using this
   ·rintro a c ⟨rfl,rfl⟩
    exact ⟨by decide,h2 _ _ _ _ rfl (by simpa using hpos)⟩
 ·have e2:t.queue=[]:=hone.resolve_left e1
  obtain ⟨b,o,rfl,hd⟩:=hc.resolve_left (by simpa using e1)
  have hpos:0<(t.slots.map Rgt.cells).length:=by rw [List.length_map];exact List.length_pos_iff.2 e1
  obtain ⟨ty,hh⟩:=yG jY.1 jY.2 hpos (by decide) hd
  rw [e2]
  letI:=gl o
  refine ⟨gl o,_,Au w (bU 5 (t.slots.map Rgt.cells)) ty,.slice (some ⟨1,0,none⟩) t.slots.length cap,.slice none 0 cap',rfl,hh,rfl,.slice _ _ _ _ ⟨⟨rfl,rfl⟩,by show 0+(if 1=1 then o else 0)=o;simp,rfl,Nat.le_refl 1⟩,.nY _ _,?_,⟨none,cap',rfl,by simp,c2',.inl rfl⟩,?_⟩
  ·have:=Gu (w:=w) jY.1 (by decide) ty (by simpa using c1) c2 (cs:=t.slots.map Rgt.cells)
   simpa [aF] using this
  ·rintro a c ⟨rfl,rfl⟩
   exact ⟨by decide,h1 _ _ _ _ rfl (by simpa using hpos)⟩
end Go.Proofs.YthhmolonhpaepaaGreatDoor
end
