/- Plain laws of tables: one thing changed; what a call leaves is a table. Conditions: none. -/
import Derived.Test.YthhmolonhpaepaaGreatDoorVBase
set_option linter.unusedVariables false
set_option linter.unusedSimpArgs false
namespace Drw
open Go Go.RowKit
theorem fM {ts:List Thg} {i:Int}:ex ts i=true↔1≤i∧i≤ts.length:=by simp [ex,inR]
theorem BV {ts:List Thg} {i:Int} (h:ex ts i=true):ts[(i - 1).toNat]?=some (aC ts i):=by
 rw [fM] at h
 have hl:(i - 1).toNat<ts.length:=by omega
 unfold aC
 rw [List.getElem?_eq_getElem hl];rfl
theorem wB {ts:List Thg} {k:Nat} {t:Thg} (h:ts[k]?=some t):aC ts ((k:Int)+1)=t:=by simp [aC,h]
theorem ex_at {ts:List Thg} {k:Nat} (h:k<ts.length):ex ts ((k:Int)+1)=true:=by rw [fM];omega
theorem uZ (ts:List Thg) (i:Int) (f:Thg→Thg):(dD ts i f).length=ts.length:=by simp [dD]
theorem Hw (ts:List Thg) (i j:Int) (f:Thg→Thg):ex (dD ts i f) j=ex ts j:=by simp [ex,uZ]
theorem GY {ts:List Thg} {i:Int} (f:Thg→Thg) (h:ex ts i=true):aC (dD ts i f) i=f (aC ts i):=by
 have:=BV h
 unfold aC at this ⊢
 unfold dD
 rw [List.getElem?_modify]
 generalize (i - 1).toNat=k at *
 rw [this];simp
theorem fe {ts:List Thg} {i j:Int} (f:Thg→Thg) (hi:1≤i) (hj:1≤j) (h:j≠i):aC (dD ts i f) j=aC ts j:=by
 unfold aC dD
 rw [List.getElem?_modify]
 have:=(show ¬ (i - 1).toNat=(j - 1).toNat by omega)
 generalize (i - 1).toNat=k at *
 generalize (j - 1).toNat=m at *
 simp [this]
theorem yU {ts:List Thg} {i j:Int} (f:Thg→Thg) (hi:ex ts i=true) (hj:ex ts j=true):aC (dD ts i f) j=if j=i then f (aC ts i) else aC ts j:=by
 split
 ·rename_i h;subst h;exact GY f hi
 ·rename_i h;exact fe f (fM.1 hi).1 (fM.1 hj).1 h
theorem CG {ts:List Thg} {i:Int} {f g:Thg→Thg} (h:ex ts i=true) (hfg:f (aC ts i)=g (aC ts i)):dD ts i f=dD ts i g:=by
 have hx:=BV h
 unfold dD
 generalize (i - 1).toNat=k at *
 apply List.ext_getElem?
 intro m
 rw [List.getElem?_modify,List.getElem?_modify]
 by_cases hm:k=m
 ·subst hm
  rw [hx]
  simp [hfg]
 ·simp [hm]
theorem vV {ts:List Thg} {t:Thg} (h:t∈ts):∃ i,ex ts i=true∧aC ts i=t:=by
 obtain ⟨k,hk⟩:=List.mem_iff_getElem?.1 h
 exact ⟨(k:Int)+1,ex_at (List.getElem?_eq_some_iff.1 hk).1,wB hk⟩
theorem wo {ts:List Thg} {i:Int} (h:ex ts i=true):aC ts i∈ts:=List.mem_of_getElem? (BV h)
def thgIn (ts:List Thg) (t:Thg):Prop:=aP t=true∧dP ts t=true∧∀ r∈t.slots,bK ts r=true
theorem jr {ts:List Thg}:aU ts=true↔(1≤ts.length∧ts.length≤8)∧∀ i,ex ts i=true→thgIn ts (aC ts i):=by
 simp only [aU,Bool.and_eq_true,List.all_eq_true,inR,decide_eq_true_eq]
 constructor
 ·rintro ⟨⟨h1,h2⟩,h3⟩
  exact ⟨by omega,fun i hi=>⟨(h2 _ (wo hi)).1,(h2 _ (wo hi)).2,h3 _ (wo hi)⟩⟩
 ·rintro ⟨h1,h2⟩
  refine ⟨⟨by omega,fun t ht=>?_⟩,fun t ht=>?_⟩
  ·obtain ⟨i,hi,rfl⟩:=vV ht
   exact ⟨(h2 i hi).1,(h2 i hi).2.1⟩
  ·obtain ⟨i,hi,rfl⟩:=vV ht
   exact (h2 i hi).2.2
theorem Al:aZ Rgt.null=true:=by decide
theorem JI (ts:List Thg):bK ts Rgt.null=true:=by simp [bK,Rgt.null]
structure Same (ts ts':List Thg):Prop where
 len:ts'.length=ts.length
 kind:∀ i,ex ts i=true→(aC ts' i).kind=(aC ts i).kind
 lab:∀ i,ex ts i=true→(aC ts' i).lab=(aC ts i).lab
 to:∀ i,ex ts i=true→(aC ts' i).to=(aC ts i).to
 aJ:∀ i,ex ts i=true→(aC ts i).aJ≤(aC ts' i).aJ
theorem Same.refl (ts:List Thg):Same ts ts:=⟨rfl,fun _ _=>rfl,fun _ _=>rfl,fun _ _=>rfl,fun _ _=>Int.le_refl _⟩
theorem Same.ex {ts ts':List Thg} (h:Same ts ts') (i:Int):ex ts' i=ex ts i:=by simp [Drw.ex,h.len]
theorem Same.trans {a b c:List Thg} (h:Same a b) (k:Same b c):Same a c:=
 ⟨k.len.trans h.len,fun i hi=>(k.kind i (by rw [h.ex];exact hi)).trans (h.kind i hi),fun i hi=>(k.lab i (by rw [h.ex];exact hi)).trans (h.lab i hi),fun i hi=>(k.to i (by rw [h.ex];exact hi)).trans (h.to i hi),fun i hi=>Int.le_trans (h.aJ i hi) (k.aJ i (by rw [h.ex];exact hi))⟩
theorem Same.bS {ts ts':List Thg} (h:Same ts ts') (i k:Int):bS ts' i k=bS ts i k:=by
 unfold Drw.bS
 rw [h.ex]
 by_cases he:Drw.ex ts i=true
 ·rw [h.kind i he]
 ·simp [he]
theorem Same.cap {ts ts':List Thg} (h:Same ts ts') {r:Rgt} (hr:bK ts r=true):bK ts' r=true:=by
 simp only [bK,Bool.or_eq_true,beq_iff_eq,Bool.and_eq_true,decide_eq_true_eq] at hr ⊢
 rcases hr with hr|⟨h1,h2⟩
 ·exact .inl hr
 ·exact .inr ⟨by rw [h.ex];exact h1,Int.le_trans h2 (h.aJ _ h1)⟩
theorem Same.gate {ts ts':List Thg} (h:Same ts ts') {t:Thg} (ht:dP ts t=true):dP ts' t=true:=by
 unfold dP at *
 rw [h.bS];exact ht
theorem jy {ts:List Thg} {i:Int} {f:Thg→Thg} (hi:ex ts i=true) (hk:(f (aC ts i)).kind=(aC ts i).kind) (hl:(f (aC ts i)).lab=(aC ts i).lab) (ht:(f (aC ts i)).to=(aC ts i).to)
  (hv:(aC ts i).aJ≤(f (aC ts i)).aJ):Same ts (dD ts i f):=by
 refine ⟨uZ _ _ _,?_,?_,?_,?_⟩<;>intro j hj<;>rw [yU f hi hj]<;>split<;>(try rename_i h)<;>(try subst h)<;>first|assumption|rfl|exact Int.le_refl _
theorem pg {ts:List Thg} {i:Int} {f:Thg→Thg} (h:aU ts=true) (hi:ex ts i=true) (hk:(f (aC ts i)).kind=(aC ts i).kind) (hl:(f (aC ts i)).lab=(aC ts i).lab) (ht:(f (aC ts i)).to=(aC ts i).to)
  (hv:(aC ts i).aJ≤(f (aC ts i)).aJ) (ho:aP (f (aC ts i))=true) (hs:∀ r∈(f (aC ts i)).slots,bK ts r=true):aU (dD ts i f)=true:=by
 have hS:=jy hi hk hl ht hv
 rw [jr] at h ⊢
 refine ⟨by rw [uZ];exact h.1,fun j hj=>?_⟩
 rw [Hw] at hj
 rw [yU f hi hj]
 split
 ·obtain ⟨h1,h2,h3⟩:=h.2 i hi
  refine ⟨ho,hS.gate ?_,fun r hr=>hS.cap (hs r hr)⟩
  unfold dP at *
  rw [hk,ht];exact h2
 ·obtain ⟨h1,h2,h3⟩:=h.2 j hj
  exact ⟨h1,hS.gate h2,fun r hr=>hS.cap (h3 r hr)⟩
theorem aQ {t:Thg}:aP t=true↔inR t.kind 1 5=true∧dw t.lab=true∧kM t=true∧qH t=true∧bH t=true∧dS t=true∧jT t=true:=by
 simp only [aP,Bool.and_eq_true,and_assoc]
theorem F3 {t:Thg} (h:aP t=true) (n:Int) (hn:(t.kind=1∨t.kind=5)∧0≤n∧n≤99∨t.kind=3∧-4≤n∧n≤99):aP (aS n t)=true:=by
 rw [aQ] at h ⊢
 obtain ⟨h1,h2,h3,h4,h5,h6,h7⟩:=h
 refine ⟨h1,h2,h3,?_,h5,h6,h7⟩
 simp only [qH,aS,inR]
 rcases hn with ⟨hk,ha,hb⟩|⟨hk,ha,hb⟩
 ·simp [hk,ha,hb]
 ·simp [hk,ha,hb]
theorem Dn {t:Thg} (h:aP t=true) (i:Int) (r:Rgt) (hr:aZ r=true):aP (setSlot i r t)=true:=by
 rw [aQ] at h ⊢
 obtain ⟨h1,h2,h3,h4,h5,h6,h7⟩:=h
 refine ⟨h1,h2,h3,h4,?_,h6,h7⟩
 have e:(setSlot i r t).kind=t.kind:=rfl
 have e2:(setSlot i r t).slots=t.slots.set i.toNat r:=rfl
 unfold bH at h5 ⊢
 rw [e,e2]
 by_cases hk:t.kind≠2∧t.kind≠3
 ·rw [if_pos hk] at h5 ⊢
  simpa using h5
 ·rw [if_neg hk] at h5 ⊢
  simp only [Bool.and_eq_true,beq_iff_eq,List.all_eq_true,List.length_set] at h5 ⊢
  refine ⟨h5.1,fun x hx=>?_⟩
  rcases List.mem_or_eq_of_mem_set hx with hx|rfl
  ·exact h5.2 x hx
  ·exact hr
theorem Ak {t:Thg} (h:aP t=true) (q:List Int) (hk:t.kind=4) (hl:q.length≤3) (hq:∀ n∈q,0≤n∧n≤99):aP (bJ q t)=true:=by
 rw [aQ] at h ⊢
 obtain ⟨h1,h2,h3,h4,h5,h6,h7⟩:=h
 refine ⟨h1,h2,h3,h4,h5,?_,h7⟩
 simp only [dS,bJ,hk,ne_eq,not_true,if_false,Bool.and_eq_true,decide_eq_true_eq,List.all_eq_true,inR]
 exact ⟨hl,fun n hn=>by simpa using hq n hn⟩
theorem JH {t:Thg} (h:aP t=true) (hk:t.kind=1∨t.kind=2∨t.kind=4) (hv:¬ 5≤t.aJ):aP (dA t)=true:=by
 obtain ⟨k,l,v,n,s,q,to⟩:=t
 rw [aQ] at h ⊢
 obtain ⟨h1,h2,h3,h4,h5,h6,h7⟩:=h
 dsimp only at hk hv
 simp only [kM,if_pos hk,inR,Bool.and_eq_true,decide_eq_true_eq] at h3
 refine ⟨h1,h2,?_,?_,?_,?_,h7⟩
 ·have e:kM (dA ⟨k,l,v,n,s,q,to⟩)=inR (v+1) 0 5:=by
   rcases hk with rfl|rfl|rfl<;>rfl
  rw [e]
  simp only [inR,Bool.and_eq_true,decide_eq_true_eq];omega
 ·rcases hk with rfl|rfl|rfl<;>simp [qH,dA,inR]
 ·rcases hk with rfl|rfl|rfl<;>simp [bH,dA,az,Al]
 ·simp [dS,dA]
theorem uY {t:Thg} {i:Int} (h0:0≤i) (h:i<t.slots.length):nL t i∈t.slots:=by
 have:i.toNat<t.slots.length:=by omega
 simp [nL,this]
theorem gz {t:Thg} (h:aP t=true) (hk:t.kind=2∨t.kind=3):t.slots.length=4:=by
 have:=(aQ.1 h).2.2.2.2.1
 rcases hk with hk|hk<;>simp [bH,hk] at this<;>exact this.1
theorem Cz {t:Thg} (h:aP t=true) (hk:¬ (t.kind=2∨t.kind=3)):t.slots=[]:=by
 have:=(aQ.1 h).2.2.2.2.1
 simp only [not_or] at hk
 simpa [bH,hk] using this
theorem qj {t:Thg} (h:aP t=true) {r:Rgt} (hr:r∈t.slots):aZ r=true:=by
 have h5:=(aQ.1 h).2.2.2.2.1
 simp only [bH] at h5
 split at h5
 ·have:t.slots=[]:=by simpa using h5
  rw [this] at hr;cases hr
 ·simp only [Bool.and_eq_true,List.all_eq_true] at h5
  exact h5.2 r hr
theorem BC {r:Rgt} (h:aZ r=true) (rd wr st:Bool):aZ (eG r rd wr st)=true:=by
 unfold eG
 split
 ·exact h
 ·rename_i h0
  simp only [aZ,if_neg h0] at h ⊢
  revert h
  cases r.wk<;>cases r.wr<;>cases wr<;>cases st<;>simp
theorem yI {ts:List Thg} {r:Rgt} (h:bK ts r=true) (rd wr st:Bool):bK ts (eG r rd wr st)=true:=by
 unfold eG
 split
 ·exact h
 ·exact h
end Drw
namespace Drw
open Go Go.RowKit
structure nV (ts:List Thg) (c:Cal):Prop where
 tab:aU ts=true
 ok:nQ c=true
 ex:ex ts c.run=true
 kind:(aC ts c.run).kind=3
 call:1≤c.kind∧c.kind≤9
 a:0≤c.a∧c.a≤3
 b:0≤c.b∧c.b≤3
 n:0≤c.n∧c.n≤99
theorem Nk {ts:List Thg} {c:Cal}:bP ts c=true↔nV ts c:=by
 constructor
 ·intro h
  simp only [bP,Bool.and_eq_true,bS,beq_iff_eq] at h
  obtain ⟨⟨h1,h2⟩,h3,h4⟩:=h
  have h2':=h2
  simp only [nQ,inR,Bool.and_eq_true,decide_eq_true_eq] at h2'
  exact ⟨h1,h2,h3,h4,by omega,by omega,by omega,by omega⟩
 ·rintro ⟨h1,h2,h3,h4,-,-,-,-⟩
  simp [bP,bS,h1,h2,h3,h4]
theorem nV.thg {ts:List Thg} {c:Cal} (h:nV ts c):aP (aC ts c.run)=true:=((jr.1 h.tab).2 _ h.ex).1
theorem nV.four {ts:List Thg} {c:Cal} (h:nV ts c):(aC ts c.run).slots.length=4:=gz h.thg (.inr h.kind)
theorem nV.slot {ts:List Thg} {c:Cal} (h:nV ts c):NQ ts c∈(aC ts c.run).slots:=uY h.a.1 (by have:=h.four;have:=h.a.2;omega)
theorem nV.slotB {ts:List Thg} {c:Cal} (h:nV ts c):nL (aC ts c.run) c.b∈(aC ts c.run).slots:=uY h.b.1 (by have:=h.four;have:=h.b.2;omega)
theorem nV.rOk {ts:List Thg} {c:Cal} (h:nV ts c):aZ (NQ ts c)=true:=qj h.thg h.slot
theorem nV.rCap {ts:List Thg} {c:Cal} (h:nV ts c):bK ts (NQ ts c)=true:=((jr.1 h.tab).2 _ h.ex).2.2 _ h.slot
theorem iQ {ts:List Thg} {c:Cal} (h:aT ts c=0) (h3:c.kind≠3):(NQ ts c).thing≠0∧dU c.kind (aC ts (NQ ts c).thing).kind=true∧(eH c.kind=true→(NQ ts c).rd=true∧sees ts c.run (NQ ts c).thing=true) ∧
  (dO c.kind=true→(NQ ts c).wr=true∧touches ts c.run (NQ ts c).thing=true)∧(sees ts c.run (NQ ts c).thing=true→live ts (NQ ts c)=true):=by
 unfold aT at h
 rw [if_neg h3] at h
 dsimp only at h
 split at h
 ·simp at h
 ·rename_i h1
  split at h
  ·simp at h
  ·rename_i h2
   split at h
   ·simp at h
   ·rename_i h4
    simp only [Bool.or_eq_true,Bool.and_eq_true,beq_iff_eq,not_or,not_and,Bool.not_eq_true',Bool.not_eq_false,Bool.not_eq_true] at h1 h2 h4
    refine ⟨h1.1.1.1,by simpa using h1.1.1.2,fun h=>⟨by simpa using h1.1.2 h,by simpa using h2.1 h⟩,fun h=>⟨by simpa using h1.2 h,by simpa using h2.2 h⟩,fun h=>by simpa using h4 h⟩
theorem rP (ts:List Thg) (c:Cal):aT ts c=0∨aT ts c=-1∨aT ts c=-2∨aT ts c=-3:=by
 unfold aT
 dsimp only
 repeat' split
 all_goals simp
theorem Ld {t:Thg} (h:aP t=true):-4≤t.num∧t.num≤99:=by
 have:=(aQ.1 h).2.2.2.1
 unfold qH at this
 split at this
 ·simp [inR] at this;omega
 ·split at this
  ·simp [inR] at this;omega
  ·simp at this;omega
theorem vD {t:Thg} (h:aP t=true) (hk:t.kind=1∨t.kind=5):0≤t.num∧t.num≤99:=by
 have:=(aQ.1 h).2.2.2.1
 unfold qH at this
 rw [if_pos hk] at this
 simp [inR] at this;omega
theorem iU {t:Thg} (h:aP t=true):t.queue.length≤3∧∀ n∈t.queue,0≤n∧n≤99:=by
 have:=(aQ.1 h).2.2.2.2.2.1
 unfold dS at this
 split at this
 ·have e:t.queue=[]:=by simpa using this
  rw [e];simp
 ·simp only [Bool.and_eq_true,decide_eq_true_eq,List.all_eq_true,inR] at this
  exact this
theorem EG {t:Thg} (h:aP t=true):0≤t.aJ∧t.aJ≤5:=by
 have:=(aQ.1 h).2.2.1
 unfold kM at this
 split at this
 ·simp [inR] at this;omega
 ·simp at this;omega
theorem nM {ts:List Thg} (h:aU ts=true) {i:Int} (hi:ex ts i=true) (hk:(aC ts i).kind=5):ex ts (aC ts i).to=true∧(aC ts (aC ts i).to).kind=1:=by
 have:=((jr.1 h).2 i hi).2.1
 simp only [dP,hk,bS,Bool.or_eq_true,Bool.and_eq_true,beq_iff_eq] at this
 simpa using this
theorem mF {c k:Int} (h:dU c k=true) (h1:1≤c∧c≤9) (h3:c≠3):(c=1∧k=1)∨(c=2∧k=1)∨(c=4∧k=2)∨(c=5∧k=2)∨(c=6∧k=4)∨(c=7∧k=4)∨(c=9∧k=5)∨(c=8∧(k=1∨k=2∨k=4)):=by
 unfold dU at h
 repeat' split at h
 all_goals (simp at h;omega)
theorem bW {ts:List Thg} (h:aU ts=true) {i:Int} (hi:ex ts i=true):aP (aC ts i)=true:=((jr.1 h).2 i hi).1
theorem jV {ts:List Thg} (h:aU ts=true) {i:Int} (hi:ex ts i=true) {r:Rgt} (hr:r∈(aC ts i).slots):bK ts r=true:=((jr.1 h).2 i hi).2.2 r hr
theorem jU {ts:List Thg} (h:aU ts=true) {i:Int} (hi:ex ts i=true) (n:Int) (hn:((aC ts i).kind=1∨(aC ts i).kind=5)∧0≤n∧n≤99∨(aC ts i).kind=3∧-4≤n∧n≤99):aU (dD ts i (aS n))=true∧Same ts (dD ts i (aS n)):=
 ⟨pg h hi rfl rfl rfl (Int.le_refl _) (F3 (bW h hi) n hn) (fun r hr=>jV h hi hr),jy hi rfl rfl rfl (Int.le_refl _)⟩
theorem kY {ts:List Thg} (h:aU ts=true) {i:Int} (hi:ex ts i=true) (k:Int) (r:Rgt) (hr:aZ r=true) (hc:bK ts r=true):aU (dD ts i (setSlot k r))=true∧Same ts (dD ts i (setSlot k r)):=by
 refine ⟨pg h hi rfl rfl rfl (Int.le_refl _) (Dn (bW h hi) k r hr) (fun x hx=>?_),jy hi rfl rfl rfl (Int.le_refl _)⟩
 rcases List.mem_or_eq_of_mem_set hx with hx|rfl
 ·exact jV h hi hx
 ·exact hc
theorem nX {ts:List Thg} (h:aU ts=true) {i:Int} (hi:ex ts i=true) (q:List Int) (hk:(aC ts i).kind=4) (hl:q.length≤3) (hq:∀ n∈q,0≤n∧n≤99):aU (dD ts i (bJ q))=true∧Same ts (dD ts i (bJ q)):=
 ⟨pg h hi rfl rfl rfl (Int.le_refl _) (Ak (bW h hi) q hk hl hq) (fun r hr=>jV h hi hr),jy hi rfl rfl rfl (Int.le_refl _)⟩
theorem zX (t:Thg):∀ r∈(dA t).slots,r=Rgt.null:=by
 intro r hr
 simp only [dA,az] at hr
 split at hr<;>simp at hr
 exact hr
theorem EK {ts:List Thg} (h:aU ts=true) {i:Int} (hi:ex ts i=true) (hk:(aC ts i).kind=1∨(aC ts i).kind=2∨(aC ts i).kind=4) (hv:¬ 5≤(aC ts i).aJ):aU (dD ts i dA)=true∧Same ts (dD ts i dA):=by
 have hv':(aC ts i).aJ≤(dA (aC ts i)).aJ:=by show _≤(aC ts i).aJ+1;omega
 exact ⟨pg h hi rfl rfl rfl hv' (JH (bW h hi) hk hv) (fun r hr=>by rw [zX _ r hr];exact JI ts),jy hi rfl rfl rfl hv'⟩
structure Ex (ts:List Thg) (x:List Thg × Int):Prop where
 tab:aU x.1=true
 same:Same ts x.1
 lo:-4≤x.2
 hi:x.2≤99
theorem fq {ts x:List Thg} {n:Int} (h:aU x=true∧Same ts x) (h1:-4≤n) (h2:n≤99):Ex ts (x,n):=⟨h.1,h.2,h1,h2⟩
theorem MB {ts:List Thg} {r:Rgt} (h:live ts r=true):ex ts r.thing=true:=by
 simp only [live,Bool.and_eq_true] at h;exact h.1
theorem Cc {ts:List Thg} {r:Rgt} (h:bK ts r=true) (h0:r.thing≠0):ex ts r.thing=true:=by
 simp only [bK,Bool.or_eq_true,beq_iff_eq,Bool.and_eq_true] at h
 rcases h with h|h
 ·exact absurd h h0
 ·exact h.1
theorem Ci {ts:List Thg} {c:Cal} (h:nV ts c) (h3:c.kind≠3) (hk:dU c.kind (aC ts (NQ ts c).thing).kind=true) (he:ex ts (NQ ts c).thing=true):Ex ts (act ts c (NQ ts c)):=by
 have hn:=h.n
 have ho:=bW h.tab he
 generalize hr:NQ ts c=r at *
 rcases mF hk h.call h3 with ⟨h1,h2⟩|⟨h1,h2⟩|⟨h1,h2⟩|⟨h1,h2⟩|⟨h1,h2⟩|⟨h1,h2⟩|⟨h1,h2⟩|⟨h1,h2⟩<;>simp only [act,h1,if_true,Int.reduceEq,if_false]
 ·exact ⟨h.tab,Same.refl _,(Ld ho).1,(Ld ho).2⟩
 ·have:=jU h.tab he c.n (.inl ⟨.inl h2,hn⟩)
  exact fq this (by decide) (by decide)
 ·have h4:=gz ho (.inl h2)
  have hm:nL (aC ts r.thing) (c.n % 4)∈(aC ts r.thing).slots:=uY (by omega) (by omega)
  have:=kY h.tab h.ex c.b (if r.wk then eG (nL (aC ts r.thing) (c.n % 4)) true false false else nL (aC ts r.thing) (c.n % 4)) (by split<;>first|exact BC (qj ho hm) _ _ _|exact qj ho hm) (by split<;>first|exact yI (jV h.tab he hm) _ _ _|exact jV h.tab he hm)
  exact fq this (by decide) (by decide)
 ·have:=kY h.tab he (c.n % 4) (nL (aC ts c.run) c.b) (qj h.thg h.slotB) (jV h.tab h.ex h.slotB)
  exact fq this (by decide) (by decide)
 ·have hq:=iU ho
  split
  ·exact fq ⟨h.tab,Same.refl _⟩ (by decide) (by decide)
  ·rename_i hl
   have:=nX h.tab he ((aC ts r.thing).queue++[c.n]) h2 (by simp;omega) (by intro n hm;simp at hm;rcases hm with hm|rfl<;>first|exact hq.2 n hm|exact hn)
   exact fq this (by decide) (by decide)
 ·have hq:=iU ho
  split
  ·exact fq ⟨h.tab,Same.refl _⟩ (by decide) (by decide)
  ·rename_i q qs hqs
   rw [hqs] at hq
   have:=nX h.tab he qs h2 (by have:=hq.1;simp at this;omega) (fun n hm=>hq.2 n (by simp [hm]))
   have hb:=hq.2 q (by simp)
   exact fq this (by omega) (by omega)
 ·have hg:=nM h.tab he h2
  have h1:=jU h.tab hg.1 (c.n % 2) (.inl ⟨.inl hg.2,by omega,by omega⟩)
  have he':ex (dD ts (aC ts r.thing).to (aS (c.n % 2))) r.thing=true:=by rw [Hw];exact he
  have hk5:(aC (dD ts (aC ts r.thing).to (aS (c.n % 2))) r.thing).kind=5:=(h1.2.kind _ he).trans h2
  have Lh:=vD (bW h1.1 he') (.inr hk5)
  have h3:=jU h1.1 he' (min ((aC (dD ts (aC ts r.thing).to (aS (c.n % 2))) r.thing).num+1) 99) (.inl ⟨.inr hk5,by omega,by omega⟩)
  have e:dD (dD ts (aC ts r.thing).to (aS (c.n % 2))) r.thing (fun t=>aS (min (t.num+1) 99) t)=dD (dD ts (aC ts r.thing).to (aS (c.n % 2))) r.thing (aS (min ((aC (dD ts (aC ts r.thing).to (aS (c.n % 2))) r.thing).num+1) 99)):=by
   exact CG he' rfl
  exact fq ⟨by rw [e];exact h3.1,by rw [e];exact h1.2.trans h3.2⟩ (by decide) (by decide)
 ·split
  ·exact fq ⟨h.tab,Same.refl _⟩ (by decide) (by decide)
  ·rename_i hv
   have:=EK h.tab he h2 hv
   exact fq this (by decide) (by decide)
theorem wF {ts:List Thg} {c:Cal} (h:nV ts c):Ex ts (do1 ts c):=by
 unfold do1
 dsimp only
 split
 ·rcases rP ts c with e|e|e|e<;>rw [e]<;>exact fq ⟨h.tab,Same.refl _⟩ (by decide) (by decide)
 ·rename_i h0
  have h0:aT ts c=0:=by simpa using h0
  split
  ·have:=kY h.tab h.ex c.b (eG (NQ ts c) (odd c.n) (odd (c.n / 2)) (odd (c.n / 4))) (BC h.rOk _ _ _) (yI h.rCap _ _ _)
   exact fq this (by decide) (by decide)
  ·rename_i h3
   have hz:=iQ h0 h3
   split
   ·have:=Ci h h3 hz.2.1 (Cc h.rCap hz.1)
    refine ⟨this.tab,this.same,?_,?_⟩<;>dsimp only<;>split
    ·exact this.lo
    ·decide
    ·exact this.hi
    ·decide
   ·exact fq ⟨h.tab,Same.refl _⟩ (by decide) (by decide)
theorem Cb {ts:List Thg} {c:Cal} (h:nV ts c):Ex ts (do2 ts c):=by
 have h1:=wF h
 have he:ex (do1 ts c).1 c.run=true:=by rw [h1.same.ex];exact h.ex
 have hk:(aC (do1 ts c).1 c.run).kind=3:=(h1.same.kind _ h.ex).trans h.kind
 have:=jU h1.tab he (do1 ts c).2 (.inr ⟨hk,h1.lo,h1.hi⟩)
 exact ⟨this.1,h1.same.trans this.2,h1.lo,h1.hi⟩
theorem Eg {ts:List Thg} {c:Cal} (h:nV ts c):fU ts c=do2 ts c:=by simp [fU,Nk.2 h]
theorem Od {ts ts':List Thg} {c d:Cal} (h:nV ts c) (hs:Same ts ts') (ht:aU ts'=true) (hd:nQ d=true) (hr:d.run=c.run):nV ts' d:=by
 rw [← Nk]
 simp only [bP,ht,hd,hs.bS,hr,Bool.true_and]
 simp [bS,h.ex,h.kind]
end Drw
namespace Drw
open Go Go.RowKit
theorem Ll {ts:List Thg} {c:Cal} (h:nV ts c) {i:Int} (hi:ex ts i=true) (hn:i≠c.run):aC (do2 ts c).1 i=aC (do1 ts c).1 i:=
 fe _ (fM.1 h.ex).1 (fM.1 hi).1 hn
theorem wG {ts:List Thg} {c:Cal} (h:aT ts c≠0):do1 ts c=(ts,aT ts c):=by simp [do1,h]
theorem pU {ts:List Thg} {c:Cal} (h:c.kind=3):do1 ts c=(dD ts c.run (setSlot c.b (eG (NQ ts c) (odd c.n) (odd (c.n / 2)) (odd (c.n / 4)))),0):=by simp [do1,h,aT]
theorem pQ {ts:List Thg} {c:Cal} (h:aT ts c=0) (h3:c.kind≠3) (hl:live ts (NQ ts c)=true):do1 ts c=((act ts c (NQ ts c)).1,if sees ts c.run (NQ ts c).thing then (act ts c (NQ ts c)).2 else 0):=by simp [do1,h,h3,hl]
theorem pR {ts:List Thg} {c:Cal} (h:aT ts c=0) (h3:c.kind≠3) (hl:live ts (NQ ts c)=false):do1 ts c=(ts,0):=by simp [do1,h,h3,hl]
theorem Iz {ts:List Thg} {c:Cal} (h:nV ts c) (h3:c.kind≠3) (hk:dU c.kind (aC ts (NQ ts c).thing).kind=true) (he:ex ts (NQ ts c).thing=true) {i:Int} (hi:ex ts i=true) (h1:i≠c.run) (h2:i≠(NQ ts c).thing)
  (hg:c.kind=9→i≠(aC ts (NQ ts c).thing).to):aC (act ts c (NQ ts c)).1 i=aC ts i:=by
 generalize NQ ts c=r at *
 have hr1:=(fM.1 he).1
 have hi1:=(fM.1 hi).1
 have hc1:=(fM.1 h.ex).1
 rcases mF hk h.call h3 with ⟨e,k⟩|⟨e,k⟩|⟨e,k⟩|⟨e,k⟩|⟨e,k⟩|⟨e,k⟩|⟨e,k⟩|⟨e,k⟩<;>simp only [act,e,if_true,Int.reduceEq,if_false]
 ·exact fe _ hr1 hi1 h2
 ·exact fe _ hc1 hi1 h1
 ·exact fe _ hr1 hi1 h2
 ·split
  ·rfl
  ·exact fe _ hr1 hi1 h2
 ·split
  ·rfl
  ·exact fe _ hr1 hi1 h2
 ·have ht:=nM h.tab he k
  rw [fe _ hr1 hi1 h2,fe _ (fM.1 ht.1).1 hi1 (hg e)]
 ·split
  ·rfl
  ·exact fe _ hr1 hi1 h2
theorem GD {ts:List Thg} {c:Cal} (h:nV ts c) {i:Int} (hi:ex ts i=true) (h1:i≠c.run) (h2:i≠(NQ ts c).thing)
  (hg:c.kind=9→(NQ ts c).thing≠0→(aC ts (NQ ts c).thing).kind=5→i≠(aC ts (NQ ts c).thing).to):aC (do2 ts c).1 i=aC ts i:=by
 rw [Ll h hi h1]
 by_cases h0:aT ts c=0
 ·by_cases h3:c.kind=3
  ·rw [pU h3]
   exact fe _ (fM.1 h.ex).1 (fM.1 hi).1 h1
  ·obtain ⟨z1,z2,-⟩:=iQ h0 h3
   cases hl:live ts (NQ ts c)
   ·rw [pR h0 h3 hl]
   ·rw [pQ h0 h3 hl]
    refine Iz h h3 z2 (MB hl) hi h1 h2 (fun e=>hg e z1 ?_)
    rcases mF z2 h.call h3 with h|h|h|h|h|h|h|h<;>omega
 ·rw [wG h0]
end Drw
