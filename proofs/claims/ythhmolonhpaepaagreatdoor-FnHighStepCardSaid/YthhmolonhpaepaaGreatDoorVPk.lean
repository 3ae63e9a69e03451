/- The reader of drawn bytes, as it lies in memory; no program is named. Conditions: none. -/
import Derived.Test.YthhmolonhpaepaaGreatDoorVAct
import Derived.Laws.BitsAllLaws
import Derived.Test.YthhmolonhpaepaaGreatDoorChecked
import Derived.Deep.QuietTactic
import Derived.BigQuiet
import Derived.IntWalk
import Derived.Deep.DeepCutAuto
set_option linter.unusedVariables false
set_option linter.unusedSimpArgs false
namespace Drw
open Go Go.RowKit
def Rd (w:World) (R N:Nat):Prop:=∃ q n cap p,w.cell? ⟨R,0,none⟩=some (.slice q n cap)∧w.cell? ⟨R,1,none⟩=some (.int .i64 ((p:Nat):Int))∧p≤N∧n≤2000∧(∀ j,w.frozen? ⟨R,j,none⟩=false) ∧
 ∀ i,i<n→∃ b o,∃ x:Nat,q=some ⟨b,o,none⟩∧b<R∧w.cell? ⟨b,o+i,none⟩=some (.int .u8 (x:Int))∧x<256
theorem Rd.lt {w:World} {R N:Nat} (h:Rd w R N):R<w.heap.size:=by
 obtain ⟨q,n,cap,p,h0,-⟩:=h
 exact World.block_lt_of_cell? w _ h0
theorem Rd.mono {w:World} {R N M:Nat} (h:Rd w R N) (hM:N≤M):Rd w R M:=by
 obtain ⟨q,n,cap,p,h0,h1,h2,h3⟩:=h
 exact ⟨q,n,cap,p,h0,h1,by omega,h3⟩
theorem Rd.chg {w w':World} {R N:Nat} {S:Nat→Prop} (h:Rd w R N) (hg:Chg S w w') (hS:∀ b,b≤R→¬ S b):Rd w' R N:=by
 have hR:=h.lt
 obtain ⟨q,n,cap,p,h0,h1,h2,h3,hf,h4⟩:=h
 refine ⟨q,n,cap,p,hg.cell h0 (hS _ (Nat.le_refl _)),hg.cell h1 (hS _ (Nat.le_refl _)),h2,h3,fun j=>?_,fun i hi=>?_⟩
 ·rw [← hf j];exact World.frozen?_of_block (w:=w) (hg.block R hR (hS R (Nat.le_refl _)))
 ·obtain ⟨b,o,x,e,hb,hc,hx⟩:=h4 i hi
  exact ⟨b,o,x,e,hb,hg.cell hc (hS _ (by show b≤R;omega)),hx⟩
theorem Rd.pure {w w':World} {R N:Nat} (h:Rd w R N) (hg:Below w.heap.size w w'):Rd w' R N:=h.chg (S:=fun _=>False) (Chg.ah hg) (fun _ _=>id)
theorem Rd.set {w:World} {R N:Nat} {p:Nat} (h:Rd w R N) {v:Value} (hv:v=.int .i64 ((p:Nat):Int)) (hp:p≤N+1):Rd (w.setCell ⟨R,1,none⟩ v) R (N+1):=by
 subst hv
 obtain ⟨q,n,cap,p',h0,h1,h2,h3,hf,h4⟩:=h
 refine ⟨q,n,cap,p,?_,?_,hp,h3,fun j=>by simp [hf],fun i hi=>?_⟩
 ·rw [ag,if_neg (by simp)];exact h0
 ·rw [ag,if_pos rfl,h1];rfl
 ·obtain ⟨b,o,x,e,hb,hc,hx⟩:=h4 i hi
  exact ⟨b,o,x,e,hb,by rw [ag,if_neg (by intro e;simp only [Addr.mk.injEq] at e;omega)];exact hc,hx⟩
theorem Lx (a b:Nat) (ha:a<2 ^ 62) (hb:b<2 ^ 62):bits .xor .i64 (a:Int) (b:Int)=((a ^^^ b:Nat):Int)∧a ^^^ b<2 ^ 62:=by
 have hx:a ^^^ b<2 ^ 62:=Nat.xor_lt_two_pow ha hb
 refine ⟨?_,hx⟩
 have h1:(BitVec.ofInt 64 (a:Int)).toNat=a:=by
  rw [BitVec.toNat_ofInt];omega
 have h2:(BitVec.ofInt 64 (b:Int)).toNat=b:=by
  rw [BitVec.toNat_ofInt];omega
 show IntKind.i64.wrap (((BitVec.ofInt 64 (a:Int)) ^^^ (BitVec.ofInt 64 (b:Int))).toNat:Int)=_
 rw [BitVec.toNat_xor,h1,h2]
 exact IntWalk.i64_in _ (by omega)
theorem Chg.av {S:Nat→Prop} {a w:World} (h:Chg S a w) {p:Addr} (hp:a.heap.size≤p.block) (u:Value):Chg S a (w.setCell p u):=by
 have g:Chg (fun b=>b=p.block) w (w.setCell p u):=Chg.setCell (S:=fun b=>b=p.block) (Chg.refl _ _) rfl u
 exact ⟨g.os.trans h.os,g.tape.trans h.tape,g.output.trans h.output,Nat.le_trans h.size g.size,fun k hk hs=>(g.block k (Nat.lt_of_lt_of_le hk h.size) (by omega)).trans (h.block k hk hs)⟩
theorem Rd.av {w:World} {R N:Nat} (h:Rd w R N) {p:Addr} (hp:R<p.block) (u:Value):Rd (w.setCell p u) R N:=
 h.chg (S:=fun b=>b=p.block) (Chg.setCell (S:=fun b=>b=p.block) (Chg.refl _ _) rfl u) (fun b hb=>by omega)
end Drw
namespace Drw
open Go Go.RowKit
theorem jR.stepC {S:Nat→Prop} {B E E1 E2 j:Nat} {v v':Value} {ts:List Thg} {wr w2 w3:World} {t:Thg} {sv qv:Value} {xs:List Thx} {tag:Nat→Nat} (h1:xs.map (·.1)=ts.take j) (h2:wr.ownsRow B E 8 v j ((xs.map Thx.cells).flatten)) (h3:NH B E1 E2 xs tag wr) (h01:E1≠E) (h02:E2≠E) (h12:E1≠E2) (ht:ts[j]?=some t) (hb:Chg S wr w2) (hSB:∀ b,B≤b→b<wr.heap.size→¬ S b) (hB:B≤wr.heap.size)
  (hs:w2.ownsRow wr.heap.size E1 5 sv t.slots.length ((t.slots.map Rgt.cells).flatten)) (hq:w2.ownsRow wr.heap.size E2 1 qv t.queue.length ((t.queue.map intCells).flatten))
  (happ:w3.ownsRow B E 8 v' (j+1) ((xs.map Thx.cells).flatten++Thg.cells t sv qv)) (hg:w2.grownBy w3 v.ownBlock):jR B E E1 E2 v' ts (j+1) w3:=by
 have hj:xs.length=j:=by
  have:=congrArg List.length h1
  have:=(List.getElem?_eq_some_iff.1 ht).1
  simp at *;omega
 have h2':=lD h2 hb hSB
 refine ⟨xs++[(t,sv,qv)],fun b=>if b<wr.heap.size then tag b else if sv.ownBlock=some b then 2 * j+1 else 2 * j+2,?_,?_,?_⟩
 ·rw [List.map_append,h1,take_one ht];rfl
 ·simpa [Thx.cells] using happ
 ·have low:∀ {b:Nat},wr.heap.size≤b→∀ (P:Prop),b<wr.heap.size→P:=fun h P h'=>absurd h' (by omega)
  intro i x hx
  rw [List.getElem?_append] at hx
  split at hx
  ·obtain ⟨⟨a1,a2⟩,a3,a4⟩:=h3 i x hx
   have b1:=lD a1 hb hSB
   have b3:=lD a3 hb hSB
   refine ⟨⟨b1.kept hg (own_ne b1 h2' h01),fun b e=>?_⟩,b3.kept hg (own_ne b3 h2' h02),fun b e=>?_⟩
   ·dsimp only;rw [if_pos (a1.lt b e).2];exact a2 b e
   ·dsimp only;rw [if_pos (a3.lt b e).2];exact a4 b e
  ·have hi:i - xs.length=0:=by
    have:=(List.getElem?_eq_some_iff.1 hx).1
    simp at this;omega
   rw [hi] at hx
   simp only [List.getElem?_cons_zero,Option.some.injEq] at hx
   subst hx
   have hij:i=j:=by omega
   subst hij
   have mono:∀ {e s n:Nat} {u:Value} {l:List Value},w3.ownsRow wr.heap.size e s u n l→w3.ownsRow B e s u n l:=by
    intro e s n u l h
    refine ⟨h.1,?_⟩
    rcases h.2 with h|⟨g,cap,cur,q1,q2,q3⟩
    ·exact .inl h
    ·exact .inr ⟨g,cap,cur,q1,Nat.le_trans hB q2,q3⟩
   refine ⟨⟨mono (hs.kept hg (own_ne hs h2' h01)),fun b e=>?_⟩,mono (hq.kept hg (own_ne hq h2' h02)),fun b e=>?_⟩
   ·have:=(hs.lt b e).1
    dsimp only;rw [if_neg (by omega),if_pos e]
   ·have:=(hq.lt b e).1
    dsimp only;rw [if_neg (by omega),if_neg]
    intro e2
    rcases own_ne hs hq h12 with h|h
    ·rw [h] at e2;cases e2
    ·exact h (e2.trans e.symm)
theorem aM {w w':World} {S:Nat→Prop} {B e s n:Nat} {v:Value} {xs:List Value} (h:w.ownsRow B e s v n xs) (hg:Chg S w w') (hS:∀ k,v.ownBlock=some k→¬ S k):w'.ownsRow B e s v n xs:=by
 refine ⟨h.1,?_⟩
 rcases h.2 with h1|⟨g,cap,cur,rfl,q1,q2,q3⟩
 ·exact .inl h1
 ·have hlt:g<w.heap.size:=(h.lt g rfl).2
  exact .inr ⟨g,cap,cur,rfl,q1,by rw [hg.block g hlt (hS g rfl)];exact q2,q3⟩
theorem dV {w w':World} {S:Nat→Prop} (hg:Chg S w w') {b e:Nat} (h:typeAt w b=some e) (hS:¬ S b):typeAt w' b=some e:=by
 have hb:b<w.heap.size:=by
  apply Classical.byContradiction
  intro hn
  simp [typeAt,Array.getElem?_eq_none (Nat.le_of_not_lt hn)] at h
 unfold typeAt
 rw [hg.block b hb hS]
 exact h
theorem dL (w:World) (p:Addr) (u:Value) (b:Nat):typeAt (w.setCell p u) b=typeAt w b:=by
 have e:∃ f:Obj→Obj,(∀ o,(match f o with|.cells _ e _=>some e|_=>(none:Option Nat))=(match o with|.cells _ e _=>some e|_=>none))∧(w.setCell p u).heap[b]?=if p.block=b then (w.heap[b]?).map f else w.heap[b]?:=by
  refine ⟨_,?_,by simp only [World.setCell,Array.getElem?_modify];rfl⟩
  intro o
  cases o<;>rfl
 obtain ⟨f,hf,e⟩:=e
 unfold typeAt
 rw [e]
 by_cases hp:p.block=b
 ·rw [if_pos hp]
  cases ho:w.heap[b]? with
  | none=>rfl
  | some o=>
   have h1:=hf o
   simp only [Option.map_some]
   generalize f o=y at h1 ⊢
   cases o<;>cases y<;>exact h1
 ·rw [if_neg hp]
theorem Cv (w:World) (cs:Array Value) (e:Nat):typeAt (w.alloc (.cells cs e)) w.heap.size=some e:=by
 unfold typeAt;rw [heap_alloc_new]
theorem aX {w:World} {B e e' s n b:Nat} {v:Value} {xs:List Value} (h:w.ownsRow B e s v n xs) (hb:typeAt w b=some e') (he:e≠e'):∀ k,v.ownBlock=some k→k≠b:=by
 intro k hk e1
 subst e1
 rw [pI h hk] at hb
 exact he (by simpa using hb)
theorem Chg.wm {S:Nat→Prop} {a w w':World} {row:Option Nat} (h:Chg S a w) (hg:w.grownBy w' row) (hn:∀ k,row=some k→a.heap.size≤k):Chg S a w':=by
 have g:=Chg.gX hg
 exact ⟨g.os.trans h.os,g.tape.trans h.tape,g.output.trans h.output,Nat.le_trans h.size g.size,fun k hk hs=>(g.block k (Nat.lt_of_lt_of_le hk h.size) (fun e=>by have:=hn k e.symm;omega)).trans (h.block k hk hs)⟩
theorem FW {w:World} {B B' e e' s s' n n':Nat} {v v':Value} {xs xs':List Value} (h:w.ownsRow B e s v n xs) (h':w.ownsRow B' e' s' v' n' xs') (he:e≠e'):∀ k,v.ownBlock=some k→¬ some k=v'.ownBlock:=by
 intro k hk e1
 rcases own_ne h h' he with h1|h1
 ·rw [h1] at hk;cases hk
 ·exact h1 (hk.trans e1)
end Drw
namespace Go.Proofs.YthhmolonhpaepaaGreatDoor
open Go.RowKit Drw
def Picked (w:World) (R N:Nat) (m:Int) (e:Ending) (w':World):Prop:=∃ k:Int,e=.returned (.int .i64 k)∧0≤k∧(1≤m→k<m)∧(m<1→k=0)∧Rd w' R (N+1)∧Chg (fun b=>b=R) w w'
set_option maxRecDepth 100000 in
set_option maxHeartbeats 4000000 in
theorem xU (R N:Nat) (m:Int) (w:World) (h:Rd w R N) (hN:N≤1000000) :
  Calls Tryz.prog 36 #[.pointer (some ⟨R,0,none⟩),.int .i64 m] w (Picked w R N m):=by
 obtain ⟨q,n,cap,p,h0,h1,hp,hn,hf,hb⟩:=h
 have hR:=World.block_lt_of_cell? w _ h0
 have hrd:Rd (w.setCell ⟨R,1,none⟩ (.int .i64 ((p:Int)+1))) R (N+1):=Rd.set (p:=p+1) ⟨q,n,cap,p,h0,h1,hp,hn,hf,hb⟩ (by simp) (by omega)
 have hch:Chg (fun b=>b=R) w (w.setCell ⟨R,1,none⟩ (.int .i64 ((p:Int)+1))):=Chg.setCell (S:=fun b=>b=R) (p:=⟨R,1,none⟩) (Chg.refl _ _) rfl _
 have Hrd:=Lib.hid hrd
 have Hch:=Lib.hid hch
 have hw1:IntKind.i64.wrap ((p:Int)+1)=(p:Int)+1:=IntWalk.i64_in _ (by omega)
 have hw2:IntKind.i64.wrap ((p:Int)+1 - 1)=(p:Int):=by rw [show (p:Int)+1 - 1=p by omega];exact IntWalk.i64_in _ (by omega)
 have hp0:(0:Int)≤(p:Int):=by omega
 clear hrd hch
 by_cases hm:m<1
 ·go_enter Tryz.func36,Tryz.ntmps36
  go_wp2
  go_ret
  exact ⟨0,rfl,by omega,fun h=>by omega,fun _=>rfl,Hrd.out,Hch.out⟩
 ·by_cases hn0:n=0
  ·subst hn0
   go_enter Tryz.func36,Tryz.ntmps36
   go_wp2
   go_ret
   exact ⟨0,rfl,by omega,fun h=>by omega,fun _=>rfl,Hrd.out,Hch.out⟩
  ·have hnb:((n:Int) == 0)=false:=by simp;exact hn0
   by_cases hpn:p<n
   ·obtain ⟨b,o,x,rfl,hbR,hx,hx2⟩:=hb p hpn
    have hpi:(p:Int)<(n:Int):=by omega
    have hne:¬ R=b:=by omega
    have hm1:(1:Int)≤m:=by omega
    clear hb
    go_enter Tryz.func36,Tryz.ntmps36
    go_wp2
    go_ret
    exact ⟨(x:Int) % m,rfl,Int.emod_nonneg _ (by omega),fun _=>Int.emod_lt_of_pos _ (by omega),fun h=>by omega,Hrd.out,Hch.out⟩
   ·have hn1:0<n:=by omega
    obtain ⟨i1,hi1⟩:∃ i,p % n=i:=⟨_,rfl⟩
    obtain ⟨i2,hi2⟩:∃ i,(p * 7+3) % n=i:=⟨_,rfl⟩
    obtain ⟨qd,hqd⟩:∃ i,p / n=i:=⟨_,rfl⟩
    have hi1n:i1<n:=by rw [← hi1];exact Nat.mod_lt _ hn1
    have hi2n:i2<n:=by rw [← hi2];exact Nat.mod_lt _ hn1
    have hqdp:qd≤p:=by rw [← hqd];exact Nat.div_le_self _ _
    obtain ⟨b,o,x1,rfl,hbR,hx1,hx1b⟩:=hb i1 hi1n
    obtain ⟨_,_,x2,e,-,hx2,hx2b⟩:=hb i2 hi2n
    cases e
    have hpi:¬ (p:Int)<(n:Int):=by omega
    have hne:¬ R=b:=by omega
    have hm1:(1:Int)≤m:=by omega
    have t1:((p:Nat):Int).tmod (n:Int)=(i1:Int):=by rw [Int.tmod_eq_emod_of_nonneg (by omega),← hi1];rfl
    have t2:IntKind.i64.wrap (i1:Int)=(i1:Int):=IntWalk.i64_in _ (by omega)
    have t3:IntKind.i64.wrap ((p:Int) * 7)=(p:Int) * 7:=IntWalk.i64_in _ (by omega)
    have t4:IntKind.i64.wrap ((p:Int) * 7+3)=(p:Int) * 7+3:=IntWalk.i64_in _ (by omega)
    have t5:((p:Int) * 7+3).tmod (n:Int)=(i2:Int):=by rw [Int.tmod_eq_emod_of_nonneg (by omega),← hi2];norm_cast
    have t6:IntKind.i64.wrap (i2:Int)=(i2:Int):=IntWalk.i64_in _ (by omega)
    have t7:((p:Nat):Int).tdiv (n:Int)=(qd:Int):=by rw [Int.tdiv_eq_ediv_of_nonneg (by omega),← hqd];rfl
    have t8:IntKind.i64.wrap (qd:Int)=(qd:Int):=IntWalk.i64_in _ (by omega)
    obtain ⟨Y,hY⟩:∃ Y:Nat,x1 * 131+x2 * 1117+p * 29+qd * 53=Y:=⟨_,rfl⟩
    have a1:IntKind.i64.wrap ((x1:Int) * 131)=(x1:Int) * 131:=IntWalk.i64_in _ (by omega)
    have a2:IntKind.i64.wrap ((x2:Int) * 1117)=(x2:Int) * 1117:=IntWalk.i64_in _ (by omega)
    have a3:IntKind.i64.wrap ((x1:Int) * 131+(x2:Int) * 1117)=(x1:Int) * 131+(x2:Int) * 1117:=IntWalk.i64_in _ (by omega)
    have a4:IntKind.i64.wrap ((p:Int) * 29)=(p:Int) * 29:=IntWalk.i64_in _ (by omega)
    have a5:IntKind.i64.wrap ((x1:Int) * 131+(x2:Int) * 1117+(p:Int) * 29)=(x1:Int) * 131+(x2:Int) * 1117+(p:Int) * 29:=IntWalk.i64_in _ (by omega)
    have a6:IntKind.i64.wrap ((qd:Int) * 53)=(qd:Int) * 53:=IntWalk.i64_in _ (by omega)
    have a7:(x1:Int) * 131+(x2:Int) * 1117+(p:Int) * 29+(qd:Int) * 53=(Y:Int):=by omega
    have a8:IntKind.i64.wrap (Y:Int)=(Y:Int):=IntWalk.i64_in _ (by omega)
    have hYb:Y<2 ^ 62:=by omega
    obtain ⟨Z,hZ⟩:∃ Z:Nat,Y / 64=Z:=⟨_,rfl⟩
    have b1:((Y:Nat):Int).tdiv 64=(Z:Int):=by rw [Int.tdiv_eq_ediv_of_nonneg (by omega),← hZ];rfl
    have b1':((Y:Nat):Int) / 64=(Z:Int):=by omega
    have hZb:Z<2 ^ 62:=by omega
    have b2:IntKind.i64.wrap (Z:Int)=(Z:Int):=IntWalk.i64_in _ (by omega)
    obtain ⟨hx,hxb⟩:=Lx Y Z hYb hZb
    obtain ⟨V,hV⟩:∃ V:Nat,Y ^^^ Z=V:=⟨_,rfl⟩
    rw [hV] at hx hxb
    have b3:IntKind.i64.wrap (V:Int)=(V:Int):=IntWalk.i64_in _ (by omega)
    have hl1:(i1:Int)<(n:Int):=by omega
    have hl2:(i2:Int)<(n:Int):=by omega
    have hl3:(0:Int)≤(i1:Int):=by omega
    have hl4:(0:Int)≤(i2:Int):=by omega
    have hn2:(0:Int)<(n:Int):=by omega
    have hn3:¬ ((n:Int)=0):=by omega
    clear hb hi1 hi2 hqd hY hV hZ hYb hZb hpn
    go_enter Tryz.func36,Tryz.ntmps36
    go_upto_region 7 with (fail)
    go_quiet (fail)
    go_wp2
    go_ret
    exact ⟨(V:Int) % m,rfl,Int.emod_nonneg _ (by omega),fun _=>Int.emod_lt_of_pos _ (by omega),fun h=>by omega,Hrd.out.pure (below_drewN (Below.refl _ _) _),(Hch.out).drewN nq⟩
theorem open_c (p:Option Addr) (n cap:Nat) (w:World) (hc:n≤cap) (hb:∀ i,i<n→∃ b o,∃ x:Nat,p=some ⟨b,o,none⟩∧b<w.heap.size∧w.cell? ⟨b,o+i,none⟩=some (.int .u8 (x:Int))∧x<256) (hn:n≤2 ^ 40) :
  Calls Tryz.prog 32 #[.slice p n cap] w fun e w'=>e=.returned (.pointer (some ⟨w.heap.size,0,none⟩))∧Rd w' w.heap.size 0∧Below w.heap.size w w':=by
 by_cases h2:n≤2000
 ·go_enter Tryz.func32,Tryz.ntmps32
  go_wp2
  go_ret
  refine ⟨rfl,⟨p,n,cap,0,by simp [go_sem],by simp [go_sem],Nat.le_refl _,h2,fun j=>by simp [go_sem],fun i hi=>?_⟩,(by (repeat (with_reducible first|exact bA _ _|refine bB ?_ ?_ _|refine bC ?_ _|refine bD ?_|refine bE ?_ ?_ _|refine bF ?_ (by assumption) ?_))<;>first|omega|(simp;try omega))⟩
  obtain ⟨b,o,x,e,hbl,hx,hx2⟩:=hb i hi
  exact ⟨b,o,x,e,hbl,by rw [World.cell?_alloc_lt];exact hx;exact hbl,hx2⟩
 ·have h3:2000≤cap:=by omega
  go_enter Tryz.func32,Tryz.ntmps32
  go_wp2
  go_ret
  refine ⟨rfl,⟨p,2000,cap,0,by simp [go_sem],by simp [go_sem],Nat.le_refl _,Nat.le_refl _,fun j=>by simp [go_sem],fun i hi=>?_⟩,(by (repeat (with_reducible first|exact bA _ _|refine bB ?_ ?_ _|refine bC ?_ _|refine bD ?_|refine bE ?_ ?_ _|refine bF ?_ (by assumption) ?_))<;>first|omega|(simp;try omega))⟩
  obtain ⟨b,o,x,e,hbl,hx,hx2⟩:=hb i (by omega)
  exact ⟨b,o,x,e,hbl,by rw [World.cell?_alloc_lt];exact hx;exact hbl,hx2⟩
theorem aO (R N:Nat) (m:Int) (w:World) (h:Rd w R N) (hN:N≤1000000) (hm:1≤m) :
  Calls Tryz.prog 36 #[.pointer (some ⟨R,0,none⟩),.int .i64 m] w fun e w'=>∃ k:Int,e=.returned (.int .i64 k)∧0≤k∧k<m∧Rd w' R (N+1)∧Chg (fun b=>b=R) w w':=
 (xU R N m w h hN).mono fun e w' ⟨k,h1,h2,h3,_,h5,h6⟩=>⟨k,h1,h2,h3 hm,h5,h6⟩
end Go.Proofs.YthhmolonhpaepaaGreatDoor
