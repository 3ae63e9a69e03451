/- A table in memory of its own: what its blocks are, that no two parts share one, and what becomes of it where a row is written anew. Conditions: none; no program is named. -/
import Derived.Test.YthhmolonhpaepaaGreatDoorVDo
import Derived.Laws.OwnMore
set_option linter.unusedVariables false
set_option linter.unusedSimpArgs false
namespace Drw
open Go Go.RowKit
def Held (w:World) (P:Nat→Prop) (tag:Nat→Nat) (m:Nat) (v:Value):Prop:=∀ b o n cap,v=.slice (some ⟨b,o,none⟩) n cap→0<n→P b∧tag b=m∧b<w.heap.size∧∀ j,w.frozen? ⟨b,j,none⟩=false
structure au (w:World) (P:Nat→Prop) (tag:Nat→Nat) (v:Value) (xs:List Thx):Prop where
 dK:rV w v xs
 own:Held w P tag 0 v
 slots:∀ i x,xs[i]?=some x→Held w P tag (2 * i+1) x.2.1
 queue:∀ i x,xs[i]?=some x→Held w P tag (2 * i+2) x.2.2
theorem au.at' {w:World} {P:Nat→Prop} {tag:Nat→Nat} {v:Value} {xs:List Thx} (h:au w P tag v xs):TabAt w v (xs.map (·.1)):=⟨xs,rfl,h.dK⟩
theorem Held.chg {w w':World} {P S:Nat→Prop} {tag:Nat→Nat} {m:Nat} {v:Value} (h:Held w P tag m v) (hg:Chg S w w') (hS:∀ b,tag b=m→P b→b<w.heap.size→¬ S b):Held w' P tag m v:=by
 intro b o n cap e hn
 obtain ⟨h1,h2,h3,h4⟩:=h b o n cap e hn
 refine ⟨h1,h2,Nat.lt_of_lt_of_le h3 hg.size,fun j=>?_⟩
 rw [← h4 j]
 exact World.frozen?_of_block (w:=w) (hg.block b h3 (hS b h2 h1 h3))
theorem Held.imp {w:World} {P Q:Nat→Prop} {tag tag':Nat→Nat} {m m':Nat} {v:Value} (h:Held w P tag m v) (hP:∀ b,P b→tag b=m→b<w.heap.size→Q b∧tag' b=m'):Held w Q tag' m' v:=
 fun b o n cap e hn=>by
  obtain ⟨h1,h2,h3,h4⟩:=h b o n cap e hn
  exact ⟨(hP b h1 h2 h3).1,(hP b h1 h2 h3).2,h3,h4⟩
theorem Held.retag {w:World} {P Q:Nat→Prop} {tag tag':Nat→Nat} {m m':Nat} {v:Value} (h:Held w P tag m v) (hP:∀ b,v.ownBlock=some b→P b→b<w.heap.size→Q b∧tag' b=m'):Held w Q tag' m' v:=
 fun b o n cap e hn=>by
  obtain ⟨h1,h2,h3,h4⟩:=h b o n cap e hn
  obtain ⟨p1,p2⟩:=hP b (by rw [e];rfl) h1 h3
  exact ⟨p1,p2,h3,h4⟩
abbrev dJ (w:World) (B:Nat) (v:Value):Prop:=Held w (fun b=>B≤b) (fun _=>0) 0 v
theorem Chg.drewN {S:Nat→Prop} {a w:World} (h:Chg S a w) (n:Nat):Chg S a (w.drewN n):=⟨h.os,h.tape,h.output,h.size,h.block⟩
theorem Held.nil {w:World} {P:Nat→Prop} {tag:Nat→Nat} {m:Nat} {p:Option Addr} {cap:Nat}:Held w P tag m (.slice p 0 cap):=by
 intro b o n cap' e hn
 cases e;omega
theorem Rows.held {w w':World} {v:Value} {s:Nat} {cs:List (List Value)} {P S:Nat→Prop} {tag:Nat→Nat} {m:Nat} (h:Rows w v s cs) (hh:Held w P tag m v) (hg:Chg S w w') (hS:∀ b,tag b=m→P b→b<w.heap.size→¬ S b):Rows w' v s cs:=by
 refine h.kept hg ?_
 cases cs with
 | nil=>exact .inl rfl
 | cons c cs=>
  refine .inr fun k hk=>?_
  obtain ⟨p,cap,rfl,-,-,hc⟩:=h
  rcases hc with hc|⟨b,o,rfl,-⟩
  ·cases hc
  ·simp only [Value.ownBlock,Option.some.injEq] at hk
   subst hk
   obtain ⟨h1,h2,h3,-⟩:=hh b o _ cap rfl (by simp)
   exact hS b h2 h1 h3
theorem Held.blk {w:World} {v:Value} {s:Nat} {cs:List (List Value)} {P:Nat→Prop} {tag:Nat→Nat} {m b:Nat} (hh:Held w P tag m v) (h:Rows w v s cs) (h0:0<cs.length) (hb:v.ownBlock=some b):P b∧tag b=m∧b<w.heap.size:=by
 obtain ⟨p,cap,rfl,-,-,hc⟩:=h
 rcases hc with rfl|⟨b',o,rfl,-⟩
 ·simp at h0
 ·simp only [Value.ownBlock,Option.some.injEq] at hb
  subst hb
  obtain ⟨h1,h2,h3,-⟩:=hh b' o _ cap rfl h0
  exact ⟨h1,h2,h3⟩
theorem au.chg {w w':World} {P S:Nat→Prop} {tag:Nat→Nat} {v:Value} {xs:List Thx} (h:au w P tag v xs) (hg:Chg S w w') (hS:∀ b,P b→b<w.heap.size→¬ S b):au w' P tag v xs:=by
 refine ⟨⟨Rows.held h.dK.1 h.own hg (fun b _ h1 h2=>hS b h1 h2),fun x hx=>?_⟩,h.own.chg hg (fun b _ h1 h2=>hS b h1 h2),fun i x hx=>(h.slots i x hx).chg hg (fun b _ h1 h2=>hS b h1 h2),fun i x hx=>(h.queue i x hx).chg hg (fun b _ h1 h2=>hS b h1 h2)⟩
 obtain ⟨i,hi⟩:=List.mem_iff_getElem?.1 hx
 exact ⟨Rows.held (h.dK.2 x hx).1 (h.slots i x hi) hg (fun b _ h1 h2=>hS b h1 h2),Rows.held (h.dK.2 x hx).2 (h.queue i x hi) hg (fun b _ h1 h2=>hS b h1 h2)⟩
theorem au.pure {w w':World} {P:Nat→Prop} {tag:Nat→Nat} {v:Value} {xs:List Thx} (h:au w P tag v xs) (hg:Below w.heap.size w w'):au w' P tag v xs:=
 h.chg (S:=fun _=>False) (Chg.ah hg) (fun _ _ _=>id)
theorem au.imp {w:World} {P Q:Nat→Prop} {tag tag':Nat→Nat} {v:Value} {xs:List Thx} (h:au w P tag v xs) (hP:∀ b,P b→b<w.heap.size→Q b∧tag' b=tag b):au w Q tag' v xs:=
 ⟨h.dK,h.own.imp fun b h1 h2 h3=>⟨(hP b h1 h3).1,(hP b h1 h3).2.trans h2⟩,fun i x hx=>(h.slots i x hx).imp fun b h1 h2 h3=>⟨(hP b h1 h3).1,(hP b h1 h3).2.trans h2⟩,fun i x hx=>(h.queue i x hx).imp fun b h1 h2 h3=>⟨(hP b h1 h3).1,(hP b h1 h3).2.trans h2⟩⟩
theorem ag (w:World) (a:Addr) (v:Value) (b:Addr):(w.setCell a v).cell? b=if a=b then (w.cell? b).map (fun _=>v) else w.cell? b:=by
 split
 ·rename_i h
  subst h
  cases hc:w.cell? a with
  | none=>
   unfold World.cell? at hc
   simp only [World.cell?,World.setCell,Array.getElem?_modify,if_true]
   cases hb:w.heap[a.block]? with
   | none=>rfl
   | some o=>
    rw [hb] at hc
    cases o with
    | cells c e f=>
     simp only [Option.map_some,Option.map_none] at hc ⊢
     cases hs:a.spot.isSome
     ·simp only [hs] at hc ⊢
      have:c.size≤a.off:=by simpa using hc
      simp [this]
     ·simp
    | _=>rfl
  | some u=>rw [World.cell?_setCell_same _ _ _ hc];rfl
 ·rename_i h
  exact World.cell?_setCell_other _ _ _ _ h
theorem Rows.put {w w':World} {b o n cap s:Nat} {cs:List (List Value)} (h:Rows w (.slice (some ⟨b,o,none⟩) n cap) s cs) {k:Nat} {c':List Value} (hs:∀ c∈cs,c.length≤s) (hrow:∀ j u,c'[j]?=some u→w'.cell? ⟨b,o+k * s+j,none⟩=some u)
  (hoth:∀ off,off<o+k * s∨o+k * s+s≤off→w'.cell? ⟨b,off,none⟩=w.cell? ⟨b,off,none⟩):Rows w' (.slice (some ⟨b,o,none⟩) n cap) s (cs.set k c'):=by
 obtain ⟨p,cap',e,h1,h2,h3⟩:=h
 cases e
 refine ⟨_,cap,by rw [List.length_set],by rw [List.length_set];exact h1,h2,?_⟩
 rcases h3 with rfl|⟨b',o',e,hc⟩
 ·exact .inl rfl
 ·cases e
  refine .inr ⟨b,o,rfl,fun m c hm j u hj=>?_⟩
  rw [List.getElem?_set] at hm
  split at hm
  ·rename_i e
   subst e
   split at hm
   ·cases hm;exact hrow j u hj
   ·cases hm
  ·rename_i hne
   rw [hoth]
   ·exact hc m c hm j u hj
   ·have hjl:j<c.length:=(List.getElem?_eq_some_iff.1 hj).1
    have hcl:=hs c (List.mem_of_getElem? hm)
    rcases Nat.lt_or_gt_of_ne hne with h|h
    ·right
     have:(k+1) * s≤m * s:=Nat.mul_le_mul_right s h
     rw [Nat.add_mul] at this;omega
    ·left
     have:(m+1) * s≤k * s:=Nat.mul_le_mul_right s h
     rw [Nat.add_mul] at this;omega
theorem au.put {w w':World} {P:Nat→Prop} {tag tag':Nat→Nat} {T o n cap:Nat} {xs:List Thx} (h:au w P tag (.slice (some ⟨T,o,none⟩) n cap) xs) {i:Nat} {x':Thx} (hi:i<xs.length)
  (hg:Chg (fun b=>b=T) w w') (hfz:∀ j,w'.frozen? ⟨T,j,none⟩=w.frozen? ⟨T,j,none⟩)
  (hrow:∀ j u,x'.cells[j]?=some u→w'.cell? ⟨T,o+i * 8+j,none⟩=some u) (hoth:∀ off,off<o+i * 8∨o+i * 8+8≤off→w'.cell? ⟨T,off,none⟩=w.cell? ⟨T,off,none⟩)
  (GL:∀ b,P b→b<w.heap.size→tag' b=tag b)
  (hx:o5 w' x') (h1:Held w' P tag' (2 * i+1) x'.2.1) (h2:Held w' P tag' (2 * i+2) x'.2.2):au w' P tag' (.slice (some ⟨T,o,none⟩) n cap) (xs.set i x'):=by
 have hn:0<n:=by
  obtain ⟨_,_,e,_,_,_⟩:=h.dK.1
  cases e;simp;omega
 have hT:=h.own T o n cap rfl hn
 have hne:∀ (m:Nat),m≠0→∀ b,tag b=m→P b→b<w.heap.size→¬ b=T:=by
  intro m hm b hb _ _ e
  subst e
  exact hm (hb.symm.trans hT.2.1)
 have key:∀ (k:Nat) (x:Thx),(xs.set i x')[k]?=some x→o5 w' x∧Held w' P tag' (2 * k+1) x.2.1∧Held w' P tag' (2 * k+2) x.2.2:=by
  intro k x hk
  rw [List.getElem?_set] at hk
  split at hk
  ·rename_i e
   subst e
   simp only [hi,if_true,Option.some.injEq] at hk
   subst hk
   exact ⟨hx,h1,h2⟩
  ·have hm:=h.dK.2 x (List.mem_of_getElem? hk)
   have s1:=h.slots k x hk
   have s2:=h.queue k x hk
   exact ⟨⟨Rows.held hm.1 s1 hg (hne _ (by omega)),Rows.held hm.2 s2 hg (hne _ (by omega))⟩,Held.chg (s1.imp fun b q1 q2 q3=>⟨q1,(GL b q1 q3).trans q2⟩) hg (fun b q1 q2 q3=>hne (2 * k+1) (by omega) b ((GL b q2 q3).symm.trans q1) q2 q3),Held.chg (s2.imp fun b q1 q2 q3=>⟨q1,(GL b q1 q3).trans q2⟩) hg (fun b q1 q2 q3=>hne (2 * k+2) (by omega) b ((GL b q2 q3).symm.trans q1) q2 q3)⟩
 refine ⟨⟨?_,fun x hx=>?_⟩,?_,fun k x hk=>(key k x hk).2.1,fun k x hk=>(key k x hk).2.2⟩
 ·have:=Rows.put h.dK.1 (k:=i) (c':=x'.cells) (fun c hc=>by
   rw [List.mem_map] at hc
   obtain ⟨y,-,rfl⟩:=hc
   simp [Thx.cells,Thg.cells]) hrow hoth
  rw [List.map_set];exact this
 ·obtain ⟨k,hk⟩:=List.mem_iff_getElem?.1 hx
  exact (key k x hk).1
 ·intro b o' n' cap' e hn'
  cases e
  refine ⟨hT.1,by rw [GL T hT.1 hT.2.2.1];exact hT.2.1,Nat.lt_of_lt_of_le hT.2.2.1 hg.size,fun j=>by rw [hfz];exact hT.2.2.2 j⟩
theorem au.Ac {w w':World} {P:Nat→Prop} {tag:Nat→Nat} {T o n cap:Nat} {xs:List Thx} (h:au w P tag (.slice (some ⟨T,o,none⟩) n cap) xs) {i:Nat} {t t':Thg} {sv qv:Value} (hi:xs[i]?=some (t,sv,qv))
  (hg:Chg (fun b=>b=T) w w') (hfz:∀ j,w'.frozen? ⟨T,j,none⟩=w.frozen? ⟨T,j,none⟩)
  (hrow:∀ j u,(Thg.cells t' sv qv)[j]?=some u→w'.cell? ⟨T,o+i * 8+j,none⟩=some u) (hoth:∀ off,off<o+i * 8∨o+i * 8+8≤off→w'.cell? ⟨T,off,none⟩=w.cell? ⟨T,off,none⟩)
  (hs:t'.slots=t.slots) (hq:t'.queue=t.queue):au w' P tag (.slice (some ⟨T,o,none⟩) n cap) (xs.set i (t',sv,qv)):=by
 have hn:0<n:=by
  obtain ⟨_,_,e,_,_,_⟩:=h.dK.1
  have:=(List.getElem?_eq_some_iff.1 hi).1
  cases e;simp;omega
 have hT:=h.own T o n cap rfl hn
 have hne:∀ (m:Nat),m≠0→∀ b,tag b=m→P b→b<w.heap.size→¬ b=T:=by
  intro m hm b hb _ _ e
  subst e
  exact hm (hb.symm.trans hT.2.1)
 have hm:=h.dK.2 _ (List.mem_of_getElem? hi)
 have s1:=h.slots i _ hi
 have s2:=h.queue i _ hi
 refine h.put (x':=(t',sv,qv)) (List.getElem?_eq_some_iff.1 hi).1 hg hfz hrow hoth (fun _ _ _=>rfl) ⟨?_,?_⟩ (s1.chg hg (hne _ (by omega))) (s2.chg hg (hne _ (by omega)))
 ·have:=Rows.held hm.1 s1 hg (hne _ (by omega))
  unfold aF at *;dsimp only at this ⊢;rw [hs];exact this
 ·have:=Rows.held hm.2 s2 hg (hne _ (by omega))
  unfold aG at *;dsimp only at this ⊢;rw [hq];exact this
theorem au.LY {w w':World} {P:Nat→Prop} {tag:Nat→Nat} {v:Value} {xs:List Thx} (h:au w P tag v xs) {i k B o m cap:Nat} {t:Thg} {qv:Value} {r:Rgt} (hi:xs[i]?=some (t,.slice (some ⟨B,o,none⟩) m cap,qv)) (hk:k<t.slots.length)
  (hg:Chg (fun b=>b=B) w w') (hfz:∀ j,w'.frozen? ⟨B,j,none⟩=w.frozen? ⟨B,j,none⟩)
  (hrow:∀ j u,r.cells[j]?=some u→w'.cell? ⟨B,o+k * 5+j,none⟩=some u) (hoth:∀ off,off<o+k * 5∨o+k * 5+5≤off→w'.cell? ⟨B,off,none⟩=w.cell? ⟨B,off,none⟩) :
  au w' P tag v (xs.set i ({ t with slots:=t.slots.set k r },.slice (some ⟨B,o,none⟩) m cap,qv)):=by
 have hm:=h.dK.2 _ (List.mem_of_getElem? hi)
 have s1:=h.slots i _ hi
 have s2:=h.queue i _ hi
 have hil:=(List.getElem?_eq_some_iff.1 hi).1
 have hml:0<m:=by
  obtain ⟨_,_,e,_,_,_⟩:=hm.1
  simp only [Value.slice.injEq,List.length_map] at e
  omega
 have hB:=s1 B o m cap rfl hml
 have hne:∀ (m:Nat),m≠2 * i+1→∀ b,tag b=m→P b→b<w.heap.size→¬ b=B:=by
  intro m' hm' b hb _ _ e
  subst e
  exact hm' (hb.symm.trans hB.2.1)
 have hself:Held w' P tag (2 * i+1) (.slice (some ⟨B,o,none⟩) m cap):=by
  intro b o' n' cap' e hn'
  cases e
  exact ⟨hB.1,hB.2.1,Nat.lt_of_lt_of_le hB.2.2.1 hg.size,fun j=>by rw [hfz];exact hB.2.2.2 j⟩
 have key:∀ (k':Nat) (x:Thx),(xs.set i ({ t with slots:=t.slots.set k r },.slice (some ⟨B,o,none⟩) m cap,qv))[k']?=some x→o5 w' x∧Held w' P tag (2 * k' + 1) x.2.1∧Held w' P tag (2 * k' + 2) x.2.2:=by
  intro k' x hx
  rw [List.getElem?_set] at hx
  split at hx
  ·rename_i e
   subst e
   simp only [hil,if_true,Option.some.injEq] at hx
   subst hx
   refine ⟨⟨?_,Rows.held hm.2 s2 hg (hne _ (by omega))⟩,hself,s2.chg hg (hne _ (by omega))⟩
   have:=Rows.put hm.1 (k:=k) (c':=r.cells) (fun c hc=>by
    rw [List.mem_map] at hc
    obtain ⟨y,-,rfl⟩:=hc
    simp [Rgt.cells]) hrow hoth
   unfold aF
   dsimp only
   rw [List.map_set];exact this
  ·have hm':=h.dK.2 x (List.mem_of_getElem? hx)
   have q1:=h.slots k' x hx
   have q2:=h.queue k' x hx
   exact ⟨⟨Rows.held hm'.1 q1 hg (hne _ (by omega)),Rows.held hm'.2 q2 hg (hne _ (by omega))⟩,q1.chg hg (hne _ (by omega)),q2.chg hg (hne _ (by omega))⟩
 refine ⟨⟨?_,fun x hx=>?_⟩,h.own.chg hg (hne _ (by omega)),fun k x hk=>(key k x hk).2.1,fun k x hk=>(key k x hk).2.2⟩
 ·have e:(xs.set i ({ t with slots:=t.slots.set k r },.slice (some ⟨B,o,none⟩) m cap,qv)).map Thx.cells=xs.map Thx.cells:=by
   rw [List.map_set]
   apply List.ext_getElem?
   intro k'
   rw [List.getElem?_set]
   split
   ·rename_i e
    subst e
    rw [List.getElem?_map,hi]
    simp [hil,Thx.cells,Thg.cells]
   ·rfl
  rw [e]
  exact Rows.held h.dK.1 h.own hg (hne _ (by omega))
 ·obtain ⟨k',hk'⟩:=List.mem_iff_getElem?.1 hx
  exact (key k' x hk').1
end Drw
namespace Drw
open Go Go.RowKit
theorem take_one {α:Type} {l:List α} {k:Nat} {x:α} (h:l[k]?=some x):l.take (k+1)=l.take k++[x]:=by
 rw [List.take_add_one,h];rfl
theorem addr_add (b o j:Nat):(⟨b,o,none⟩:Addr).add j=⟨b,o+j,none⟩:=by
 unfold Addr.add
 split
 ·rename_i h;rw [h];rfl
 ·rfl
theorem flat_get {α:Type} {s:Nat}:∀ {cs:List (List α)} {j:Nat} {u:α},(∀ c∈cs,c.length=s)→cs.flatten[j]?=some u→∃ k r c,j=k * s+r∧cs[k]?=some c∧c[r]?=some u
 | [],j,u,_,h=>by simp at h
 | c::cs,j,u,hs,h=>by
  have hc:=hs c (by simp)
  rw [List.flatten_cons,List.getElem?_append] at h
  split at h
  ·exact ⟨0,j,c,by simp,rfl,h⟩
  ·obtain ⟨k,r,c',e,h1,h2⟩:=flat_get (cs:=cs) (fun d hd=>hs d (by simp [hd])) h
   exact ⟨k+1,r,c',by rw [Nat.add_mul];omega,by simpa using h1,h2⟩
theorem G9 {α:Type} {s:Nat}:∀ {cs:List (List α)} {k r:Nat} {c:List α} {u:α},(∀ c∈cs,c.length=s)→cs[k]?=some c→c[r]?=some u→cs.flatten[k * s+r]?=some u
 | [],k,r,c,u,_,h,_=>by simp at h
 | d::cs,0,r,c,u,hs,h,hr=>by
  simp only [List.getElem?_cons_zero,Option.some.injEq] at h
  subst h
  have:=(List.getElem?_eq_some_iff.1 hr).1
  rw [List.flatten_cons,List.getElem?_append,if_pos (by omega)]
  simpa using hr
 | d::cs,k+1,r,c,u,hs,h,hr=>by
  have hd:=hs d (by simp)
  rw [List.flatten_cons,List.getElem?_append,if_neg (by rw [Nat.add_mul];omega)]
  have:=G9 (cs:=cs) (k:=k) (r:=r) (c:=c) (u:=u) (fun x hx=>hs x (by simp [hx])) (by simpa using h) hr
  rw [← this]
  congr 1
  rw [Nat.add_mul];omega
theorem BQ {α:Type} {s:Nat}:∀ {cs:List (List α)},(∀ c∈cs,c.length=s)→cs.flatten.length=cs.length * s
 | [],_=>by simp
 | c::cs,h=>by
  rw [List.flatten_cons,List.length_append,BQ (cs:=cs) (fun d hd=>h d (by simp [hd])),h c (by simp),List.length_cons,Nat.add_mul];omega
def Flat (s:Nat) (cs:List (List Value)):Prop:=∀ c∈cs,c.length=s∧∀ u∈c,u.oneCell'=true
theorem jO (rs:List Rgt):Flat 5 (rs.map Rgt.cells):=by
 intro c hc
 obtain ⟨r,-,rfl⟩:=List.mem_map.1 hc
 exact ⟨rfl,by intro u hu;simp [Rgt.cells] at hu;rcases hu with rfl|rfl|rfl|rfl|rfl<;>rfl⟩
theorem bI (xs:List Int):Flat 1 (xs.map intCells):=by
 intro c hc
 obtain ⟨r,-,rfl⟩:=List.mem_map.1 hc
 exact ⟨rfl,by intro u hu;simp [intCells] at hu;subst hu;rfl⟩
theorem Rows.dH {w:World} {base:Nat} {e:TypeId} {s:Nat} {v:Value} {cs:List (List Value)} (hf:Flat s cs) (h:w.ownsRow base e s v cs.length cs.flatten):Rows w v s cs:=by
 rcases h.2 with ⟨rfl,h0⟩|⟨g,cap,cur,rfl,hb,hg,hn,hm,hs,ht⟩
 ·obtain rfl:cs=[]:=List.length_eq_zero_iff.1 h0
  exact ⟨none,0,rfl,by simp,by simp,.inl rfl⟩
 ·refine ⟨_,cap,rfl,hn,hm,.inr ⟨g,0,rfl,fun k c hk j u hj=>?_⟩⟩
  have:=G9 (fun c hc=>(hf c hc).1) hk hj
  have h2:=h.cells (g:=g) rfl _ _ this
  rw [addr_add,← Nat.add_assoc] at h2
  exact h2
theorem Held.dH {w:World} {base:Nat} {e:TypeId} {s:Nat} {v:Value} {n:Nat} {xs:List Value} (h:w.ownsRow base e s v n xs) {P:Nat→Prop} {tag:Nat→Nat} {m:Nat} (hP:∀ b,v.ownBlock=some b→P b∧tag b=m):Held w P tag m v:=by
 intro b o n' cap' he hn
 subst he
 rcases h.2 with ⟨h1,h0⟩|⟨g,cap,cur,h1,hb,hg,_,hm,hs,ht⟩
 ·cases h1
 ·cases h1
  obtain ⟨p1,p2⟩:=hP b rfl
  have hlt:=(h.lt b rfl).2
  exact ⟨p1,p2,hlt,fun j=>by simp [World.frozen?,hg]⟩
section
variable {P:Program} {w:World}
theorem jm (base:Nat) (t ty e:TypeId) (i:TypeInfo) (size:Nat) (ht:P.underlying t=some (.slice e)) (hi:P.info? e=some i)
  (v:Value) (n:Nat) (xs:List Value) (hown:w.ownsRow base e size v n xs) (c:Nat) :
  (Builtin.append_ #[t,t] ty #[v,.slice none 0 c]).run P w=.ok v w:=by
 rcases hown.2 with ⟨rfl,rfl⟩|⟨g,cap,cur,rfl,_,_,hnc,_⟩
 ·simp [Builtin.append_,run_underlying ht,Go.sizeOf,Go.typeInfo,hi,Builtin.lenOf,Builtin.firstCells]
 ·simp [Builtin.append_,run_underlying ht,Go.sizeOf,Go.typeInfo,hi,Builtin.lenOf,Builtin.firstCells,hnc,storeCells]
theorem jB (base:Nat) (t ty e:TypeId) (i:TypeInfo) (z:Value) (size bytes:Nat) (ht:P.underlying t=some (.slice e)) (hi:P.info? e=some i) (hz:i.zero=some z)
  (hsize:i.size=size) (hby:i.bytes=bytes) (hzs:z.cells.size=size) (hsz:0<size)
  (v:Value) (n:Nat) (xs:List Value) (hown:w.ownsRow base e size v n xs) (xv:Value) (cs:List (List Value)) (hf:Flat size cs) (hx:Rows w xv size cs)
  (h63:n+cs.length≤maxLen) (hbytes:(n+cs.length) * bytes≤140737488355328) (hbase:base≤w.heap.size) :
  ∃ v' w',(Builtin.append_ #[t,t] ty #[v,xv]).run P w=.ok v' w'∧w'.ownsRow base e size v' (n+cs.length) (xs++cs.flatten)∧w.grownBy w' v.ownBlock:=by
 obtain ⟨p,cap,rfl,h1,h2,h3⟩:=hx
 have hl:cs.flatten.length=cs.length * size:=BQ fun c hc=>(hf c hc).1
 have h1c:∀ u∈cs.flatten,u.oneCell'=true:=fun u hu=>by
  obtain ⟨c,hc,hu⟩:=List.mem_flatten.1 hu
  exact (hf c hc).2 u hu
 cases p with
 | none=>
  have hc0:cs=[]:=by
   rcases h3 with h|⟨b,o,h,-⟩
   ·exact h
   ·cases h
  subst hc0
  exact ⟨v,w,by simpa using jm base t ty e i size ht hi v n xs hown cap,by simpa using hown,⟨rfl,rfl,rfl,Nat.le_refl _,fun _ _ _=>rfl⟩⟩
 | some ad=>
  obtain ⟨v',w',hr,q1,q2,-⟩:=run_append_own (P:=P) w base t ty e i z size bytes ht hi hz hsize hby hzs hsz v n xs hown ad cs.length cap cs.flatten hl (fun j u hj=>by
   rcases h3 with rfl|⟨b,o,e,hc⟩
   ·simp at hj
   ·cases e
    obtain ⟨k,r,c,rfl,hk,hr⟩:=flat_get (fun c hc=>(hf c hc).1) hj
    have:=hc k c hk r u hr
    rw [addr_add,← Nat.add_assoc];exact this) h1c h63 hbytes hbase
  exact ⟨v',w',hr,q1,q2⟩
theorem aL {ops:Array Oper} {rest:List Oper} {o:Oper} {a:Act} {Q:Exit→Act→World→Prop} (hgd:o.guard=none) (s x:Operand) (t:TypeId)
  (ho:o.op=.call { callee:=.builtin .append,args:=#[s,x],argTypes:=#[t,t] })
  (base:Nat) (e:TypeId) (i:TypeInfo) (z:Value) (size bytes:Nat) (ht:P.underlying t=some (.slice e)) (hi:P.info? e=some i) (hz:i.zero=some z)
  (hsize:i.size=size) (hby:i.bytes=bytes) (hzs:z.cells.size=size) (hsz:0<size)
  (v:Value) (n:Nat) (xs:List Value) (hs:a.eval s=v) (hown:w.ownsRow base e size v n xs) (xv:Value) (cs:List (List Value)) (hxv:a.eval x=xv) (hf:Flat size cs) (hx:Rows w xv size cs)
  (h63:n+cs.length≤maxLen) (hbytes:(n+cs.length) * bytes≤140737488355328) (hbase:base≤w.heap.size)
  (h:∀ v' w',w'.ownsRow base e size v' (n+cs.length) (xs++cs.flatten)→w.grownBy w' v.ownBlock→wpList P ops Q rest (a.put o.dst v') w'):wpList P ops Q (o::rest) a w:=by
 refine wpList_plain hgd fun K hK=>?_
 obtain ⟨v',w',hr,h2,h3⟩:=jB (P:=P) (w:=w) base t o.type e i z size bytes ht hi hz hsize hby hzs hsz v n xs hown xv cs hf hx h63 hbytes hbase
 unfold Oper.wp execOp
 simp only [ho,resolve,invoke,builtin,Sem.run_bind,Sem.run_pure,Result.andThen_ok,List.map_toArray,List.map_cons,List.map_nil,hs,hxv,hr]
 exact hK _ _ (h v' w' h2 h3)
theorem ik {o:Oper} {a:Act} {K:Act→World→Prop} {Q:Exit→Act→World→Prop} (s x:Operand) (t:TypeId)
  (ho:o.op=.call { callee:=.builtin .append,args:=#[s,x],argTypes:=#[t,t] })
  (base:Nat) (e:TypeId) (i:TypeInfo) (z:Value) (size bytes:Nat) (ht:P.underlying t=some (.slice e)) (hi:P.info? e=some i) (hz:i.zero=some z)
  (hsize:i.size=size) (hby:i.bytes=bytes) (hzs:z.cells.size=size) (hsz:0<size)
  (v:Value) (n:Nat) (xs:List Value) (hs:a.eval s=v) (hown:w.ownsRow base e size v n xs) (xv:Value) (cs:List (List Value)) (hxv:a.eval x=xv) (hf:Flat size cs) (hx:Rows w xv size cs)
  (h63:n+cs.length≤maxLen) (hbytes:(n+cs.length) * bytes≤140737488355328) (hbase:base≤w.heap.size)
  (h:∀ v' w',w'.ownsRow base e size v' (n+cs.length) (xs++cs.flatten)→w.grownBy w' v.ownBlock→K (a.put o.dst v') w'):o.wp P a w K Q:=by
 obtain ⟨v',w',hr,h2,h3⟩:=jB (P:=P) (w:=w) base t o.type e i z size bytes ht hi hz hsize hby hzs hsz v n xs hown xv cs hf hx h63 hbytes hbase
 unfold Oper.wp execOp
 simp only [ho,resolve,invoke,builtin,Sem.run_bind,Sem.run_pure,Result.andThen_ok,List.map_toArray,List.map_cons,List.map_nil,hs,hxv,hr]
 exact h v' w' h2 h3
theorem jh {ops:Array Oper} {o:Oper} {a:Act} {K:Act→World→Prop} {Q:Exit→Act→World→Prop} {E:Prop} (hgd:o.guard=none) (s x:Operand) (t:TypeId)
  (ho:o.op=.call { callee:=.builtin .append,args:=#[s,x],argTypes:=#[t,t] })
  (base:Nat) (e:TypeId) (i:TypeInfo) (z:Value) (size bytes:Nat) (ht:P.underlying t=some (.slice e)) (hi:P.info? e=some i) (hz:i.zero=some z)
  (hsize:i.size=size) (hby:i.bytes=bytes) (hzs:z.cells.size=size) (hsz:0<size)
  (v:Value) (n:Nat) (xs:List Value) (hs:a.eval s=v) (hown:w.ownsRow base e size v n xs) (xv:Value) (cs:List (List Value)) (hxv:a.eval x=xv) (hf:Flat size cs) (hx:Rows w xv size cs)
  (h63:n+cs.length≤maxLen) (hbytes:(n+cs.length) * bytes≤140737488355328) (hbase:base≤w.heap.size)
  (h:∀ v' w',w'.ownsRow base e size v' (n+cs.length) (xs++cs.flatten)→w.grownBy w' v.ownBlock→K (a.put o.dst v') w') :
  if Region.wanted o (yielded ops a.tmps)=true then Oper.wp P o a w K Q else E:=by
 have hw:Region.wanted o (yielded ops a.tmps)=true:=by simp [Region.wanted,hgd]
 rw [if_pos hw]
 exact ik s x t ho base e i z size bytes ht hi hz hsize hby hzs hsz v n xs hs hown xv cs hxv hf hx h63 hbytes hbase h
theorem Rows.one {w:World} {b:Nat} {s:Nat} {c:List Value} (h:∀ j u,c[j]?=some u→w.cell? ⟨b,j,none⟩=some u):Rows w (.slice (some ⟨b,0,none⟩) 1 1) s [c]:=by
 refine ⟨_,1,rfl,by simp,by simp [maxLen],.inr ⟨b,0,rfl,fun k c' hk j u hj=>?_⟩⟩
 cases k with
 | zero=>
  simp only [List.getElem?_cons_zero,Option.some.injEq] at hk
  subst hk
  simpa using h j u hj
 | succ k=>simp at hk
end
theorem Rows.tail1 {w:World} {b o cap:Nat} {c:List Value} {cs:List (List Value)} (h:Rows w (.slice (some ⟨b,o,none⟩) (cs.length+1) cap) 1 (c::cs)):Rows w (.slice (if cap=1 then some ⟨b,o,none⟩ else some ⟨b,o+1,none⟩) cs.length (cap - 1)) 1 cs:=by
 obtain ⟨p,cap',e,h1,h2,h3⟩:=h
 cases e
 simp only [List.length_cons] at h1
 refine ⟨_,_,rfl,by omega,by omega,?_⟩
 rcases h3 with h3|⟨b',o',e,hc⟩
 ·cases h3
 ·cases e
  by_cases hk:cap=1
  ·left
   exact List.length_eq_zero_iff.1 (by omega)
  ·right
   refine ⟨b,o+1,by rw [if_neg hk],fun k c hk j u hj=>?_⟩
   have:=hc (k+1) c (by simpa using hk) j u hj
   rw [show o+1+k * 1+j=o+(k+1) * 1+j by omega]
   exact this
abbrev Thx.zero:Thx:=(Thg.zero,.slice none 0 0,.slice none 0 0)
theorem yF {z:Array Value} {n k j:Nat} {u:Value} (hz:z.size=8) (hk:k<n) (hj:z[j]?=some u):(madeCells z (n * 8))[k * 8+j]?=some u:=by
 have hj8:j<8:=by have:=(Array.getElem?_eq_some_iff.1 hj).1;omega
 have hlt:k * 8+j<n * 8:=by omega
 have:(k * 8+j) % 8=j:=by omega
 simp [madeCells,hlt,hz,this]
 have hjz:j<z.size:=by omega
 simpa [hjz] using hj
theorem J3 (w:World) (n:Nat) (ty:TypeId) (hn:n≤maxLen) {z:Value} (hz:z.cells=#[.int .i64 0,.int .i64 0,.int .i64 0,.int .i64 0,.int .i64 0,.slice none 0 0,.slice none 0 0,.int .i64 0]) :
  au (w.alloc (.cells (madeCells z.cells (n * 8)) ty)) (fun b=>w.heap.size≤b) (fun _=>0) (.slice (some ⟨w.heap.size,0,none⟩) n n) (List.replicate n Thx.zero):=by
 refine ⟨⟨⟨_,n,by simp,by simp,hn,.inr ⟨w.heap.size,0,rfl,fun k c hk j u hj=>?_⟩⟩,fun x hx=>?_⟩,?_,?_,?_⟩
 ·rw [List.getElem?_map,List.getElem?_replicate] at hk
  split at hk
  ·rename_i hkn
   simp only [Option.map_some,Option.some.injEq] at hk
   subst hk
   rw [World.cell?_alloc_new,Nat.zero_add]
   refine yF (by rw [hz];rfl) hkn ?_
   rw [hz]
   rw [← hj]
   simp [Thx.cells,Thg.cells,Thg.zero]
  ·simp at hk
 ·obtain ⟨-,rfl⟩:=List.mem_replicate.1 hx
  exact ⟨⟨none,0,rfl,by simp [Thg.zero],by simp,.inl rfl⟩,⟨none,0,rfl,by simp [Thg.zero],by simp,.inl rfl⟩⟩
 ·intro b o n' cap' e hn'
  cases e
  exact ⟨Nat.le_refl _,rfl,by simp,fun j=>by simp⟩
 ·intro i x hx
  rw [List.getElem?_replicate] at hx
  split at hx
  ·cases hx;exact Held.nil
  ·cases hx
 ·intro i x hx
  rw [List.getElem?_replicate] at hx
  split at hx
  ·cases hx;exact Held.nil
  ·cases hx
def fT (P:Nat→Prop) (v:Value) (ts:List Thg) (j:Nat) (w:World):Prop:=∃ xs tag,au w P tag v xs∧xs.length=ts.length∧∀ k,k<j→(xs[k]?).map (·.1)=ts[k]?
theorem fT.zero {P:Nat→Prop} {v:Value} {ts:List Thg} {w:World} {tag:Nat→Nat} (h:au w P tag v (List.replicate ts.length Thx.zero)):fT P v ts 0 w:=
 ⟨_,tag,h,by simp,fun k hk=>absurd hk (by omega)⟩
theorem fT.done {P:Nat→Prop} {v:Value} {ts:List Thg} {w:World} (h:fT P v ts ts.length w):∃ xs tag,au w P tag v xs∧xs.map (·.1)=ts:=by
 obtain ⟨xs,tag,h1,h2,h3⟩:=h
 refine ⟨xs,tag,h1,?_⟩
 apply List.ext_getElem?
 intro k
 rw [List.getElem?_map]
 by_cases hk:k<ts.length
 ·exact h3 k hk
 ·rw [List.getElem?_eq_none (by omega),List.getElem?_eq_none (by omega)];rfl
theorem fT.step {B T cap:Nat} {ts:List Thg} {j n:Nat} {w w1 w2:World} {t:Thg} {sv qv:Value} (h:fT (fun b=>B≤b) (.slice (some ⟨T,0,none⟩) n cap) ts j w) (ht:ts[j]?=some t)
  (hb:Below w.heap.size w w1) (hB:B≤w.heap.size) (hs:aF w1 sv t.slots) (hq:aG w1 qv t.queue) (h1:dJ w1 w.heap.size sv) (h2:dJ w1 w.heap.size qv)
  (hd:∀ b c,sv.ownBlock=some b→qv.ownBlock=some c→0<t.slots.length→0<t.queue.length→b≠c)
  (hg:Chg (fun b=>b=T) w1 w2) (hfz:∀ j,w2.frozen? ⟨T,j,none⟩=w1.frozen? ⟨T,j,none⟩)
  (hrow:∀ i u,(Thg.cells t sv qv)[i]?=some u→w2.cell? ⟨T,j * 8+i,none⟩=some u) (hoth:∀ off,off<j * 8∨j * 8+8≤off→w2.cell? ⟨T,off,none⟩=w1.cell? ⟨T,off,none⟩) :
  fT (fun b=>B≤b) (.slice (some ⟨T,0,none⟩) n cap) ts (j+1) w2:=by
 obtain ⟨xs,tag,hO,hl,hx⟩:=h
 have hjl:j<xs.length:=by have:=(List.getElem?_eq_some_iff.1 ht).1;omega
 have hn:0<n:=by
  obtain ⟨_,_,e,_,_,_⟩:=hO.dK.1
  simp only [Value.slice.injEq,List.length_map] at e;omega
 have hT:=hO.own T 0 n cap rfl hn
 have hO1:au w1 (fun b=>B≤b) tag (.slice (some ⟨T,0,none⟩) n cap) xs:=hO.pure hb
 have hlen:∀ {v:Value} {s:Nat} {cs:List (List Value)} {b o m c:Nat},Rows w1 v s cs→v=.slice (some ⟨b,o,none⟩) m c→m=cs.length:=by
  intro v s cs b o m c hr e
  obtain ⟨_,_,e2,_⟩:=hr
  rw [e] at e2
  simp only [Value.slice.injEq] at e2;omega
 -- the new owners' mark
 refine ⟨xs.set j (t,sv,qv),fun b=>if w.heap.size≤b then (if sv.ownBlock=some b∧0<t.slots.length then 2 * j+1 else 2 * j+2) else tag b,?_,by simp [hl],?_⟩
 ·have hO2:au w1 (fun b=>B≤b∧b<w.heap.size) tag (.slice (some ⟨T,0,none⟩) n cap) xs:=by
   have:au w (fun b=>B≤b∧b<w.heap.size) tag (.slice (some ⟨T,0,none⟩) n cap) xs:=hO.imp fun b p q=>⟨⟨p,q⟩,rfl⟩
   exact this.pure hb
  have hO3:au w1 (fun b=>B≤b) (fun b=>if w.heap.size≤b then (if sv.ownBlock=some b∧0<t.slots.length then 2 * j+1 else 2 * j+2) else tag b) (.slice (some ⟨T,0,none⟩) n cap) xs:=
   hO2.imp fun b p _=>⟨p.1,by rw [if_neg (by omega)]⟩
  have hT1:=hT.2.2.1
  refine hO3.put (x':=(t,sv,qv)) hjl hg hfz (by simpa [Thx.cells] using hrow) (by simpa using hoth) (fun _ _ _=>rfl) ⟨?_,?_⟩ ?_ ?_
  ·exact Rows.held hs h1 hg (fun b _ p _ e=>by omega)
  ·exact Rows.held hq h2 hg (fun b _ p _ e=>by omega)
  ·refine (show Held w1 _ _ _ sv from ?_).chg hg (S:=fun b=>b=T) (fun b e p _ e2=>?_)
   ·intro b o m c e hm
    have q:=h1 b o m c e hm
    have hm':=hlen hs e
    rw [List.length_map] at hm'
    exact ⟨Nat.le_trans hB q.1,by dsimp only;rw [if_pos q.1,if_pos ⟨by rw [e];rfl,by omega⟩],q.2.2⟩
   ·subst e2
    rw [if_neg (by omega)] at e
    rw [hT.2.1] at e;omega
  ·refine (show Held w1 _ _ _ qv from ?_).chg hg (S:=fun b=>b=T) (fun b e p _ e2=>?_)
   ·intro b o m c e hm
    have q:=h2 b o m c e hm
    have hm':=hlen hq e
    rw [List.length_map] at hm'
    refine ⟨Nat.le_trans hB q.1,?_,q.2.2⟩
    dsimp only
    rw [if_pos q.1,if_neg]
    rintro ⟨e1,e2⟩
    exact hd b b e1 (by rw [e];rfl) e2 (by omega) rfl
   ·subst e2
    rw [if_neg (by omega)] at e
    rw [hT.2.1] at e;omega
 ·intro k hk
  rw [List.getElem?_set]
  split
  ·rename_i e
   subst e
   simp [hjl,ht]
  ·exact hx k (by omega)
theorem fT.row {P:Nat→Prop} {T n cap:Nat} {ts:List Thg} {j:Nat} {w:World} (h:fT P (.slice (some ⟨T,0,none⟩) n cap) ts j w) (hj:j<ts.length) :
  (∃ u0 u1 u2 u3 u4 u5 u6 u7,w.cell? ⟨T,j * 8,none⟩=some u0∧w.cell? ⟨T,j * 8+1,none⟩=some u1∧w.cell? ⟨T,j * 8+2,none⟩=some u2∧w.cell? ⟨T,j * 8+3,none⟩=some u3∧w.cell? ⟨T,j * 8+4,none⟩=some u4∧w.cell? ⟨T,j * 8+5,none⟩=some u5∧w.cell? ⟨T,j * 8+6,none⟩=some u6∧w.cell? ⟨T,j * 8+7,none⟩=some u7)∧∀ o,w.frozen? ⟨T,o,none⟩=false:=by
 obtain ⟨xs,tag,hO,hl,hx⟩:=h
 obtain ⟨x,hx⟩:∃ x,xs[j]?=some x:=⟨xs[j]'(by omega),by simp [show j<xs.length by omega]⟩
 obtain ⟨b,o,e,hb,c0,c1,c2,c3,c4,c5,c6,c7⟩:=hO.dK.at j x hx
 cases e
 have hn:0<n:=by
  obtain ⟨_,_,e,_,_,_⟩:=hO.dK.1
  simp only [Value.slice.injEq,List.length_map] at e;omega
 rw [Nat.zero_add] at c0 c1 c2 c3 c4 c5 c6 c7
 exact ⟨⟨_,_,_,_,_,_,_,_,c0,c1,c2,c3,c4,c5,c6,c7⟩,(hO.own T 0 n cap rfl hn).2.2.2⟩
end Drw
namespace Drw
open Go Go.RowKit
theorem aB {xs:List Thx} {i:Nat} {t t':Thg} {sv qv sv' qv':Value} {f:Thg→Thg} (hi:xs[i]?=some (t,sv,qv)) (hf:t'=f t):(xs.set i (t',sv',qv')).map (·.1)=dD (xs.map (·.1)) ((i:Int)+1) f:=by
 subst hf
 apply List.ext_getElem?
 intro k
 unfold dD
 rw [show ((i:Int)+1 - 1).toNat=i by omega]
 rw [List.getElem?_map,List.getElem?_set,List.getElem?_modify,List.getElem?_map]
 have hil:=(List.getElem?_eq_some_iff.1 hi).1
 split
 ·rename_i e
  subst e
  rw [hi]
  simp [hil]
 ·rename_i e
  simp [e]
section
variable {w:World} {P:Nat→Prop} {tag:Nat→Nat} {T o n cap:Nat} {xs:List Thx}
theorem au.pos (h:au w P tag (.slice (some ⟨T,o,none⟩) n cap) xs) {i:Nat} {x:Thx} (hi:xs[i]?=some x):0<n∧P T∧tag T=0∧T<w.heap.size∧∀ j,w.frozen? ⟨T,j,none⟩=false:=by
 have hn:0<n:=by
  obtain ⟨_,_,e,_,_,_⟩:=h.dK.1
  have:=(List.getElem?_eq_some_iff.1 hi).1
  simp only [Value.slice.injEq,List.length_map] at e;omega
 exact ⟨hn,h.own T o n cap rfl hn⟩
theorem au.len (h:au w P tag (.slice (some ⟨T,o,none⟩) n cap) xs):n=xs.length:=by
 obtain ⟨_,_,e,_,_,_⟩:=h.dK.1
 simp only [Value.slice.injEq,List.length_map] at e;omega
theorem au.cells (h:au w P tag (.slice (some ⟨T,o,none⟩) n cap) xs) {i:Nat} {t:Thg} {sv qv:Value} (hi:xs[i]?=some (t,sv,qv)):w.cell? ⟨T,o+i * 8,none⟩=some (.int .i64 t.kind)∧w.cell? ⟨T,o+i * 8+1,none⟩=some (.int .i64 t.lab.s)∧w.cell? ⟨T,o+i * 8+2,none⟩=some (.int .i64 t.lab.v)∧w.cell? ⟨T,o+i * 8+3,none⟩=some (.int .i64 t.aJ)∧w.cell? ⟨T,o+i * 8+4,none⟩=some (.int .i64 t.num)∧w.cell? ⟨T,o+i * 8+5,none⟩=some (sv)∧w.cell? ⟨T,o+i * 8+6,none⟩=some (qv)∧w.cell? ⟨T,o+i * 8+7,none⟩=some (.int .i64 t.to):=by
 obtain ⟨b,o',e,-,c⟩:=h.dK.at i _ hi
 cases e
 exact c
theorem au.num (h:au w P tag (.slice (some ⟨T,o,none⟩) n cap) xs) {i:Nat} {t:Thg} {sv qv:Value} (hi:xs[i]?=some (t,sv,qv)) (k:Int) :
  au (w.setCell ⟨T,o+i * 8+4,none⟩ (.int .i64 k)) P tag (.slice (some ⟨T,o,none⟩) n cap) (xs.set i (aS k t,sv,qv))∧Chg P w (w.setCell ⟨T,o+i * 8+4,none⟩ (.int .i64 k)):=by
 obtain ⟨hn,hP,-,hlt,hf⟩:=h.pos hi
 obtain ⟨c0,c1,c2,c3,c4,c5,c6,c7⟩:=h.cells hi
 refine ⟨h.Ac hi (Chg.setCell (S:=fun b=>b=T) (Chg.refl _ _) rfl _) (fun j=>by simp) ?_ ?_ rfl rfl,(Chg.refl _ _).setCell hP _⟩
 ·intro j u hu
  rcases j with _|_|_|_|_|_|_|_|j
  all_goals (simp [Thg.cells,aS] at hu)
  all_goals (try subst hu)
  all_goals (simp [ag,c0,c1,c2,c3,c4,c5,c6,c7];done)
 ·intro off hoff
  rw [ag,if_neg (by intro e;simp only [Addr.mk.injEq] at e;omega)]
theorem au.slot (h:au w P tag (.slice (some ⟨T,o,none⟩) n cap) xs) {i k B o' m cap':Nat} {t:Thg} {qv:Value} (hi:xs[i]?=some (t,.slice (some ⟨B,o',none⟩) m cap',qv)) (hk:k<t.slots.length) (r:Rgt) :
  au (((((w.setCell ⟨B,o' + k * 5,none⟩ (.int .i64 r.thing)).setCell ⟨B,o' + k * 5+1,none⟩ (.int .i64 r.aJ)).setCell ⟨B,o' + k * 5+2,none⟩ (.bool r.rd)).setCell ⟨B,o' + k * 5+3,none⟩ (.bool r.wr)).setCell ⟨B,o' + k * 5+4,none⟩ (.bool r.wk)) P tag (.slice (some ⟨T,o,none⟩) n cap) (xs.set i (setSlot (k:Int) r t,.slice (some ⟨B,o',none⟩) m cap',qv)) ∧
  Chg P w (((((w.setCell ⟨B,o' + k * 5,none⟩ (.int .i64 r.thing)).setCell ⟨B,o' + k * 5+1,none⟩ (.int .i64 r.aJ)).setCell ⟨B,o' + k * 5+2,none⟩ (.bool r.rd)).setCell ⟨B,o' + k * 5+3,none⟩ (.bool r.wr)).setCell ⟨B,o' + k * 5+4,none⟩ (.bool r.wk)):=by
 have hm:=(h.dK.2 _ (List.mem_of_getElem? hi)).1
 obtain ⟨_,_,e,-,-⟩:=hm.len
 simp only [Value.slice.injEq] at e
 obtain ⟨x,hx⟩:∃ x,t.slots[k]?=some x:=⟨t.slots[k],by simp [hk]⟩
 obtain ⟨b,o2,e2,-,c0,c1,c2,c3,c4⟩:=hm.at k x hx
 cases e2
 have hB:=h.slots i _ hi B o' m cap' rfl (by omega)
 have es:setSlot (k:Int) r t={ t with slots:=t.slots.set k r }:=by simp [setSlot]
 rw [es]
 refine ⟨h.LY hi hk ?_ ?_ ?_ ?_,?_⟩
 ·exact ((((Chg.setCell (S:=fun b=>b=B) (Chg.refl _ _) rfl _).setCell rfl _).setCell rfl _).setCell rfl _).setCell rfl _
 ·intro j;simp
 ·intro j u hu
  rcases j with _|_|_|_|_|j
  all_goals (simp [Rgt.cells] at hu)
  all_goals (try subst hu)
  all_goals (simp [ag,c0,c1,c2,c3,c4];done)
 ·intro off hoff
  repeat (rw [ag,if_neg (by intro e;simp only [Addr.mk.injEq] at e;omega)])
 ·exact (((((Chg.refl _ _).setCell hB.1 _).setCell hB.1 _).setCell hB.1 _).setCell hB.1 _).setCell hB.1 _
theorem au.FP (h:au w P tag (.slice (some ⟨T,o,none⟩) n cap) xs) {w1 w2:World} {i:Nat} {t t':Thg} {sv0 qv0 sv qv:Value} (hi:xs[i]?=some (t,sv0,qv0)) (hb:Below w.heap.size w w1) (up:∀ b,w.heap.size≤b→P b)
  (hs:aF w1 sv t'.slots) (hq:aG w1 qv t'.queue) (h1:sv=sv0∨dJ w1 w.heap.size sv) (h2:dJ w1 w.heap.size qv)
  (hd:∀ b c,sv.ownBlock=some b→qv.ownBlock=some c→0<t'.slots.length→0<t'.queue.length→w.heap.size≤b→b≠c)
  (hg:Chg (fun b=>b=T) w1 w2) (hfz:∀ j,w2.frozen? ⟨T,j,none⟩=w1.frozen? ⟨T,j,none⟩)
  (hrow:∀ j u,(Thg.cells t' sv qv)[j]?=some u→w2.cell? ⟨T,o+i * 8+j,none⟩=some u) (hoth:∀ off,off<o+i * 8∨o+i * 8+8≤off→w2.cell? ⟨T,off,none⟩=w1.cell? ⟨T,off,none⟩) :
  ∃ tag',au w2 P tag' (.slice (some ⟨T,o,none⟩) n cap) (xs.set i (t',sv,qv))∧Chg P w w2:=by
 obtain ⟨hn,hPT,hT0,hTl,hTf⟩:=h.pos hi
 have hjl:=(List.getElem?_eq_some_iff.1 hi).1
 have hlen:∀ {v:Value} {s:Nat} {cs:List (List Value)} {b o m c:Nat},Rows w1 v s cs→v=.slice (some ⟨b,o,none⟩) m c→m=cs.length:=by
  intro v s cs b o m c hr e
  obtain ⟨_,_,e2,_⟩:=hr
  rw [e] at e2
  simp only [Value.slice.injEq] at e2;omega
 refine ⟨fun b=>if w.heap.size≤b then (if sv.ownBlock=some b∧0<t'.slots.length then 2 * i+1 else 2 * i+2) else tag b,?_,(Chg.ah hb).trans (hg.mono fun b _ e=>by subst e;exact hPT)⟩
 have hO2:au w1 (fun b=>P b∧b<w.heap.size) tag (.slice (some ⟨T,o,none⟩) n cap) xs:=by
  have:au w (fun b=>P b∧b<w.heap.size) tag (.slice (some ⟨T,o,none⟩) n cap) xs:=h.imp fun b p q=>⟨⟨p,q⟩,rfl⟩
  exact this.pure hb
 have hO3:au w1 P (fun b=>if w.heap.size≤b then (if sv.ownBlock=some b∧0<t'.slots.length then 2 * i+1 else 2 * i+2) else tag b) (.slice (some ⟨T,o,none⟩) n cap) xs:=
  hO2.imp fun b p _=>⟨p.1,by rw [if_neg (by omega)]⟩
 have hs1:Held w1 P (fun b=>if w.heap.size≤b then (if sv.ownBlock=some b∧0<t'.slots.length then 2 * i+1 else 2 * i+2) else tag b) (2 * i+1) sv:=by
  rcases h1 with rfl|h1
  ·exact hO3.slots i _ hi
  ·intro b o m c e hm
   have q:=h1 b o m c e hm
   have hm':=hlen hs e
   rw [List.length_map] at hm'
   exact ⟨up b q.1,by dsimp only;rw [if_pos q.1,if_pos ⟨by rw [e];rfl,by omega⟩],q.2.2⟩
 have hq1:Held w1 P (fun b=>if w.heap.size≤b then (if sv.ownBlock=some b∧0<t'.slots.length then 2 * i+1 else 2 * i+2) else tag b) (2 * i+2) qv:=by
  intro b o m c e hm
  have q:=h2 b o m c e hm
  have hm':=hlen hq e
  rw [List.length_map] at hm'
  refine ⟨up b q.1,?_,q.2.2⟩
  dsimp only
  rw [if_pos q.1,if_neg]
  rintro ⟨e1,e2⟩
  exact hd b b e1 (by rw [e];rfl) e2 (by omega) q.1 rfl
 have hne:∀ m,m≠0→∀ b,(if w.heap.size≤b then (if sv.ownBlock=some b∧0<t'.slots.length then 2 * i+1 else 2 * i+2) else tag b)=m→P b→b<w1.heap.size→¬ b=T:=by
  intro m hm b e _ _ e2
  subst e2
  rw [if_neg (by omega),hT0] at e
  omega
 exact hO3.put (x':=(t',sv,qv)) hjl hg hfz (by simpa [Thx.cells] using hrow) hoth (fun _ _ _=>rfl) ⟨Rows.held hs hs1 hg (hne _ (by omega)),Rows.held hq hq1 hg (hne _ (by omega))⟩ (hs1.chg hg (hne _ (by omega))) (hq1.chg hg (hne _ (by omega)))
theorem au.que (h:au w P tag (.slice (some ⟨T,o,none⟩) n cap) xs) {w1:World} {i:Nat} {t:Thg} {sv qv0 qv:Value} (hi:xs[i]?=some (t,sv,qv0)) (hb:Below w.heap.size w w1) (up:∀ b,w.heap.size≤b→P b) {q:List Int} (hq:aG w1 qv q) (h2:dJ w1 w.heap.size qv) :
  ∃ tag',au (w1.setCell ⟨T,o+i * 8+6,none⟩ qv) P tag' (.slice (some ⟨T,o,none⟩) n cap) (xs.set i (bJ q t,sv,qv))∧Chg P w (w1.setCell ⟨T,o+i * 8+6,none⟩ qv):=by
 obtain ⟨hn,hPT,hT0,hTl,hTf⟩:=h.pos hi
 have h':=h.pure hb
 obtain ⟨c0,c1,c2,c3,c4,c5,c6,c7⟩:=h'.cells hi
 have hm:=h'.dK.2 _ (List.mem_of_getElem? hi)
 refine h.FP (t':=bJ q t) hi hb up hm.1 hq (.inl rfl) h2 ?_ (Chg.setCell (S:=fun b=>b=T) (Chg.refl _ _) rfl _) (fun j=>by simp) ?_ ?_
 ·intro b c e1 e2 hl1 hl2 hge e
  have:=Held.blk (h.slots i _ hi) (h.dK.2 _ (List.mem_of_getElem? hi)).1 (by simpa [bJ] using hl1) e1
  omega
 ·intro j u hu
  rcases j with _|_|_|_|_|_|_|_|j
  all_goals (simp [Thg.cells,bJ] at hu)
  all_goals (try subst hu)
  all_goals (simp [ag,c0,c1,c2,c3,c4,c5,c6,c7];done)
 ·intro off hoff
  rw [ag,if_neg (by intro e;simp only [Addr.mk.injEq] at e;omega)]
end
def iy (w:World) (A:Nat) (tv:Value) (c:Cal) (r:Rgt):Prop:=w.cell? ⟨A,0,none⟩=some (tv)∧w.cell? ⟨A,1,none⟩=some (.int .i64 c.kind)∧w.cell? ⟨A,2,none⟩=some (.int .i64 c.run)∧w.cell? ⟨A,3,none⟩=some (.int .i64 c.a)∧w.cell? ⟨A,4,none⟩=some (.int .i64 c.b)∧w.cell? ⟨A,5,none⟩=some (.int .i64 c.n)∧w.cell? ⟨A,6,none⟩=some (.int .i64 r.thing)∧w.cell? ⟨A,7,none⟩=some (.int .i64 r.aJ)∧w.cell? ⟨A,8,none⟩=some (.bool r.rd)∧w.cell? ⟨A,9,none⟩=some (.bool r.wr)∧w.cell? ⟨A,10,none⟩=some (.bool r.wk)
theorem iy.chg {w w':World} {S:Nat→Prop} {A:Nat} {tv:Value} {c:Cal} {r:Rgt} (h:iy w A tv c r) (hg:Chg S w w') (hS:¬ S A):iy w' A tv c r:=by
 obtain ⟨h0,h1,h2,h3,h4,h5,h6,h7,h8,h9,h10⟩:=h
 exact ⟨hg.cell h0 hS,hg.cell h1 hS,hg.cell h2 hS,hg.cell h3 hS,hg.cell h4 hS,hg.cell h5 hS,hg.cell h6 hS,hg.cell h7 hS,hg.cell h8 hS,hg.cell h9 hS,hg.cell h10 hS⟩
def aA (w w':World) (P:Nat→Prop) (v:Value) (ts:List Thg):Prop:=∃ xs tag,au w' P tag v xs∧xs.map (·.1)=ts∧Chg P w w'
section
variable {w:World} {P:Nat→Prop} {tag:Nat→Nat} {T o n cap:Nat} {xs:List Thx}
theorem au.row (h:au w P tag (.slice (some ⟨T,o,none⟩) n cap) xs) {i:Nat} {t:Thg} {sv qv:Value} (hi:xs[i]?=some (t,sv,qv)) (t':Thg) (hs:t'.slots=t.slots) (hq:t'.queue=t.queue) :
  au ((((((((w.setCell ⟨T,o+i * 8,none⟩ (.int .i64 t'.kind)).setCell ⟨T,o+i * 8+1,none⟩ (.int .i64 t'.lab.s)).setCell ⟨T,o+i * 8+2,none⟩ (.int .i64 t'.lab.v)).setCell ⟨T,o+i * 8+3,none⟩ (.int .i64 t'.aJ)).setCell ⟨T,o+i * 8+4,none⟩ (.int .i64 t'.num)).setCell ⟨T,o+i * 8+5,none⟩ sv).setCell ⟨T,o+i * 8+6,none⟩ qv).setCell ⟨T,o+i * 8+7,none⟩ (.int .i64 t'.to)) P tag (.slice (some ⟨T,o,none⟩) n cap) (xs.set i (t',sv,qv))∧Chg P w ((((((((w.setCell ⟨T,o+i * 8,none⟩ (.int .i64 t'.kind)).setCell ⟨T,o+i * 8+1,none⟩ (.int .i64 t'.lab.s)).setCell ⟨T,o+i * 8+2,none⟩ (.int .i64 t'.lab.v)).setCell ⟨T,o+i * 8+3,none⟩ (.int .i64 t'.aJ)).setCell ⟨T,o+i * 8+4,none⟩ (.int .i64 t'.num)).setCell ⟨T,o+i * 8+5,none⟩ sv).setCell ⟨T,o+i * 8+6,none⟩ qv).setCell ⟨T,o+i * 8+7,none⟩ (.int .i64 t'.to)):=by
 obtain ⟨hn,hP,-,hlt,hf⟩:=h.pos hi
 obtain ⟨c0,c1,c2,c3,c4,c5,c6,c7⟩:=h.cells hi
 have hg:∀ S:Nat→Prop,S T→Chg S w ((((((((w.setCell ⟨T,o+i * 8,none⟩ (.int .i64 t'.kind)).setCell ⟨T,o+i * 8+1,none⟩ (.int .i64 t'.lab.s)).setCell ⟨T,o+i * 8+2,none⟩ (.int .i64 t'.lab.v)).setCell ⟨T,o+i * 8+3,none⟩ (.int .i64 t'.aJ)).setCell ⟨T,o+i * 8+4,none⟩ (.int .i64 t'.num)).setCell ⟨T,o+i * 8+5,none⟩ sv).setCell ⟨T,o+i * 8+6,none⟩ qv).setCell ⟨T,o+i * 8+7,none⟩ (.int .i64 t'.to)):=fun S hS=>(((((((Chg.setCell (S:=S) (Chg.refl _ _) hS _).setCell hS _).setCell hS _).setCell hS _).setCell hS _).setCell hS _).setCell hS _).setCell hS _
 refine ⟨h.Ac hi (hg _ rfl) (fun j=>by simp) ?_ ?_ hs hq,hg _ hP⟩
 ·intro j u hu
  rcases j with _|_|_|_|_|_|_|_|j
  all_goals (simp [Thg.cells] at hu)
  all_goals (try subst hu)
  all_goals (simp [ag,c0,c1,c2,c3,c4,c5,c6,c7];done)
 ·intro off hoff
  repeat (rw [ag,if_neg (by intro e;simp only [Addr.mk.injEq] at e;omega)])
theorem au.FH (h:au w P tag (.slice (some ⟨T,o,none⟩) n cap) xs) {w1:World} {i:Nat} {t t':Thg} {sv0 qv0 sv qv:Value} (hi:xs[i]?=some (t,sv0,qv0)) (hb:Below w.heap.size w w1) (up:∀ b,w.heap.size≤b→P b)
  (hs:aF w1 sv t'.slots) (hq:aG w1 qv t'.queue) (h1:sv=sv0∨dJ w1 w.heap.size sv) (h2:dJ w1 w.heap.size qv)
  (hd:∀ b c,sv.ownBlock=some b→qv.ownBlock=some c→0<t'.slots.length→0<t'.queue.length→w.heap.size≤b→b≠c) :
  ∃ tag',au ((((((((w1.setCell ⟨T,o+i * 8,none⟩ (.int .i64 t'.kind)).setCell ⟨T,o+i * 8+1,none⟩ (.int .i64 t'.lab.s)).setCell ⟨T,o+i * 8+2,none⟩ (.int .i64 t'.lab.v)).setCell ⟨T,o+i * 8+3,none⟩ (.int .i64 t'.aJ)).setCell ⟨T,o+i * 8+4,none⟩ (.int .i64 t'.num)).setCell ⟨T,o+i * 8+5,none⟩ sv).setCell ⟨T,o+i * 8+6,none⟩ qv).setCell ⟨T,o+i * 8+7,none⟩ (.int .i64 t'.to)) P tag' (.slice (some ⟨T,o,none⟩) n cap) (xs.set i (t',sv,qv))∧Chg P w ((((((((w1.setCell ⟨T,o+i * 8,none⟩ (.int .i64 t'.kind)).setCell ⟨T,o+i * 8+1,none⟩ (.int .i64 t'.lab.s)).setCell ⟨T,o+i * 8+2,none⟩ (.int .i64 t'.lab.v)).setCell ⟨T,o+i * 8+3,none⟩ (.int .i64 t'.aJ)).setCell ⟨T,o+i * 8+4,none⟩ (.int .i64 t'.num)).setCell ⟨T,o+i * 8+5,none⟩ sv).setCell ⟨T,o+i * 8+6,none⟩ qv).setCell ⟨T,o+i * 8+7,none⟩ (.int .i64 t'.to)):=by
 obtain ⟨c0,c1,c2,c3,c4,c5,c6,c7⟩:=(h.pure hb).cells hi
 have hg:Chg (fun b=>b=T) w1 ((((((((w1.setCell ⟨T,o+i * 8,none⟩ (.int .i64 t'.kind)).setCell ⟨T,o+i * 8+1,none⟩ (.int .i64 t'.lab.s)).setCell ⟨T,o+i * 8+2,none⟩ (.int .i64 t'.lab.v)).setCell ⟨T,o+i * 8+3,none⟩ (.int .i64 t'.aJ)).setCell ⟨T,o+i * 8+4,none⟩ (.int .i64 t'.num)).setCell ⟨T,o+i * 8+5,none⟩ sv).setCell ⟨T,o+i * 8+6,none⟩ qv).setCell ⟨T,o+i * 8+7,none⟩ (.int .i64 t'.to)):=(((((((Chg.setCell (S:=fun b=>b=T) (Chg.refl _ _) rfl _).setCell rfl _).setCell rfl _).setCell rfl _).setCell rfl _).setCell rfl _).setCell rfl _).setCell rfl _
 refine h.FP hi hb up hs hq h1 h2 hd hg (fun j=>by simp) ?_ ?_
 ·intro j u hu
  rcases j with _|_|_|_|_|_|_|_|j
  all_goals (simp [Thg.cells] at hu)
  all_goals (try subst hu)
  all_goals (simp [ag,c0,c1,c2,c3,c4,c5,c6,c7];done)
 ·intro off hoff
  repeat (rw [ag,if_neg (by intro e;simp only [Addr.mk.injEq] at e;omega)])
end
theorem aA.below {w w' w2:World} {P:Nat→Prop} {v:Value} {ts:List Thg} (h:aA w w' P v ts) (hb:Below w'.heap.size w' w2):aA w w2 P v ts:=by
 obtain ⟨xs,tag,h1,h2,h3⟩:=h
 exact ⟨xs,tag,h1.pure hb,h2,h3.trans (Chg.ah hb)⟩
end Drw
namespace Drw
open Go Go.RowKit
theorem own_ne {w:World} {B B' e e' s s' n n':Nat} {v v':Value} {xs xs':List Value} (h:w.ownsRow B e s v n xs) (h':w.ownsRow B' e' s' v' n' xs') (he:e≠e'):v.ownBlock=none∨v.ownBlock≠v'.ownBlock:=by
 rcases h.2 with ⟨rfl,-⟩|⟨g,cap,cur,rfl,-,hg,-⟩
 ·exact .inl rfl
 ·right
  rcases h'.2 with ⟨rfl,-⟩|⟨g',cap',cur',rfl,-,hg',-⟩
  ·simp [Value.ownBlock]
  ·intro e1
   simp only [Value.ownBlock,Option.some.injEq] at e1
   subst e1
   rw [hg] at hg'
   cases hg'
   exact he rfl
def NH (B E1 E2:Nat) (xs:List Thx) (tag:Nat→Nat) (w:World):Prop:=∀ i x,xs[i]?=some x→(w.ownsRow B E1 5 x.2.1 x.1.slots.length ((x.1.slots.map Rgt.cells).flatten)∧∀ b,x.2.1.ownBlock=some b→tag b=2 * i+1) ∧
  (w.ownsRow B E2 1 x.2.2 x.1.queue.length ((x.1.queue.map intCells).flatten)∧∀ b,x.2.2.ownBlock=some b→tag b=2 * i+2)
def jR (B E E1 E2:Nat) (v:Value) (ts:List Thg) (j:Nat) (w:World):Prop:=∃ (xs:List Thx) (tag:Nat→Nat),xs.map (·.1)=ts.take j∧w.ownsRow B E 8 v j ((xs.map Thx.cells).flatten)∧NH B E1 E2 xs tag w
theorem own_below {w w':World} {B e s n:Nat} {v:Value} {xs:List Value} (h:w.ownsRow B e s v n xs) (hb:Below w.heap.size w w'):w'.ownsRow B e s v n xs:=
 h.kept (row:=none) ⟨hb.os,hb.tape,hb.output,hb.size,fun k hk _=>hb.block k hk⟩ (by cases h:v.ownBlock<;>simp)
theorem jR.zero {B E E1 E2:Nat} {v:Value} {ts:List Thg} {w:World} (h:w.ownsRow B E 8 v 0 []):jR B E E1 E2 v ts 0 w:=⟨[],fun _=>0,by simp,by simpa using h,fun i x hx=>by simp at hx⟩
theorem jR.step {B E E1 E2 j:Nat} {v v':Value} {ts:List Thg} {wr w2 w3:World} {t:Thg} {sv qv:Value} {xs:List Thx} {tag:Nat→Nat} (h1:xs.map (·.1)=ts.take j) (h2:wr.ownsRow B E 8 v j ((xs.map Thx.cells).flatten)) (h3:NH B E1 E2 xs tag wr) (h01:E1≠E) (h02:E2≠E) (h12:E1≠E2) (ht:ts[j]?=some t) (hb:Below wr.heap.size wr w2) (hB:B≤wr.heap.size)
  (hs:w2.ownsRow wr.heap.size E1 5 sv t.slots.length ((t.slots.map Rgt.cells).flatten)) (hq:w2.ownsRow wr.heap.size E2 1 qv t.queue.length ((t.queue.map intCells).flatten))
  (happ:w3.ownsRow B E 8 v' (j+1) ((xs.map Thx.cells).flatten++Thg.cells t sv qv)) (hg:w2.grownBy w3 v.ownBlock):jR B E E1 E2 v' ts (j+1) w3:=by
 have hj:xs.length=j:=by
  have:=congrArg List.length h1
  have:=(List.getElem?_eq_some_iff.1 ht).1
  simp at *;omega
 have h2':=own_below h2 hb
 refine ⟨xs++[(t,sv,qv)],fun b=>if b<wr.heap.size then tag b else if sv.ownBlock=some b then 2 * j+1 else 2 * j+2,?_,?_,?_⟩
 ·rw [List.map_append,h1,take_one ht];rfl
 ·simpa [Thx.cells] using happ
 ·have low:∀ {b:Nat},wr.heap.size≤b→∀ (P:Prop),b<wr.heap.size→P:=fun h P h'=>absurd h' (by omega)
  intro i x hx
  rw [List.getElem?_append] at hx
  split at hx
  ·obtain ⟨⟨a1,a2⟩,a3,a4⟩:=h3 i x hx
   have b1:=own_below a1 hb
   have b3:=own_below a3 hb
   refine ⟨⟨b1.kept hg (own_ne b1 h2' h01),fun b e=>?_⟩,b3.kept hg (own_ne b3 h2' h02),fun b e=>?_⟩
   ·dsimp only;rw [if_pos (a1.lt b e).2];exact a2 b e
   ·dsimp only;rw [if_pos (a3.lt b e).2];exact a4 b e
  ·have hi:i - xs.length=0:=by
    have:=(List.getElem?_eq_some_iff.1 hx).1
    simp at this;omega
   rw [hi] at hx
   simp only [List.getElem?_cons_zero,Option.some.injEq] at hx
   subst hx
   have hij:i=j:=by omega
   subst hij
   have mono:∀ {e s n:Nat} {u:Value} {l:List Value},w3.ownsRow wr.heap.size e s u n l→w3.ownsRow B e s u n l:=by
    intro e s n u l h
    refine ⟨h.1,?_⟩
    rcases h.2 with h|⟨g,cap,cur,q1,q2,q3⟩
    ·exact .inl h
    ·exact .inr ⟨g,cap,cur,q1,Nat.le_trans hB q2,q3⟩
   refine ⟨⟨mono (hs.kept hg (own_ne hs h2' h01)),fun b e=>?_⟩,mono (hq.kept hg (own_ne hq h2' h02)),fun b e=>?_⟩
   ·have:=(hs.lt b e).1
    dsimp only;rw [if_neg (by omega),if_pos e]
   ·have:=(hq.lt b e).1
    dsimp only;rw [if_neg (by omega),if_neg]
    intro e2
    rcases own_ne hs hq h12 with h|h
    ·rw [h] at e2;cases e2
    ·exact h (e2.trans e.symm)
def typeAt (w:World) (b:Nat):Option Nat:=match w.heap[b]? with|some (.cells _ e _)=>some e|_=>none
theorem pI {w:World} {B e s n:Nat} {v:Value} {xs:List Value} (h:w.ownsRow B e s v n xs) {b:Nat} (hb:v.ownBlock=some b):typeAt w b=some e:=by
 rcases h.2 with ⟨rfl,-⟩|⟨g,cap,cur,rfl,-,hg,-⟩
 ·cases hb
 ·simp only [Value.ownBlock,Option.some.injEq] at hb
  subst hb
  simp [typeAt,hg]
theorem Ki (xs:List Thx) (h:∀ x∈xs,(∃ p n c,x.2.1=.slice p n c)∧∃ p n c,x.2.2=.slice p n c):Flat 8 (xs.map Thx.cells):=by
 intro c hc
 obtain ⟨x,hx,rfl⟩:=List.mem_map.1 hc
 obtain ⟨⟨p,n,k,h1⟩,⟨p',n',k',h2⟩⟩:=h x hx
 refine ⟨rfl,fun u hu=>?_⟩
 simp only [Thx.cells,Thg.cells,h1,h2,List.mem_cons,List.not_mem_nil,or_false] at hu
 rcases hu with rfl|rfl|rfl|rfl|rfl|rfl|rfl|rfl<;>rfl
theorem gI {w:World} {B e s n:Nat} {v:Value} {xs:List Value} (h:w.ownsRow B e s v n xs):∃ p n c,v=.slice p n c:=by
 rcases h.2 with ⟨rfl,-⟩|⟨g,cap,cur,rfl,-,hg,-⟩<;>exact ⟨_,_,_,rfl⟩
theorem jR.done {B E E1 E2:Nat} {v:Value} {ts:List Thg} {w:World} (h:jR B E E1 E2 v ts ts.length w) (h01:E1≠E) (h02:E2≠E):∃ xs tag,au w (fun b=>B≤b) tag v xs∧xs.map (·.1)=ts:=by
 obtain ⟨xs,tag,h1,h2,h3⟩:=h
 rw [List.take_length] at h1
 have hl:xs.length=ts.length:=by rw [← h1];simp
 have hfx:Flat 8 (xs.map Thx.cells):=Ki xs fun x hx=>by
  obtain ⟨i,hi⟩:=List.mem_iff_getElem?.1 hx
  exact ⟨gI (h3 i x hi).1.1,gI (h3 i x hi).2.1⟩
 rw [← hl,show xs.length=(xs.map Thx.cells).length by simp] at h2
 refine ⟨xs,fun b=>if typeAt w b=some E then 0 else tag b,⟨⟨Rows.dH hfx h2,fun x hx=>?_⟩,?_,?_,?_⟩,h1⟩
 ·obtain ⟨i,hi⟩:=List.mem_iff_getElem?.1 hx
  obtain ⟨⟨a1,-⟩,a3,-⟩:=h3 i x hi
  rw [show x.1.slots.length=(x.1.slots.map Rgt.cells).length by simp] at a1
  rw [show x.1.queue.length=(x.1.queue.map intCells).length by simp] at a3
  exact ⟨Rows.dH (jO _) a1,Rows.dH (bI _) a3⟩
 ·exact Held.dH h2 fun b hb=>⟨(h2.lt b hb).1,by rw [if_pos (pI h2 hb)]⟩
 ·intro i x hx
  obtain ⟨⟨a1,a2⟩,-⟩:=h3 i x hx
  exact Held.dH a1 fun b hb=>⟨(a1.lt b hb).1,by rw [pI a1 hb,if_neg (by simpa using h01)];exact a2 b hb⟩
 ·intro i x hx
  obtain ⟨-,a3,a4⟩:=h3 i x hx
  exact Held.dH a3 fun b hb=>⟨(a3.lt b hb).1,by rw [pI a3 hb,if_neg (by simpa using h02)];exact a4 b hb⟩
theorem lD {w w':World} {S:Nat→Prop} {B e s n:Nat} {v:Value} {xs:List Value} (h:w.ownsRow B e s v n xs) (hg:Chg S w w') (hS:∀ b,B≤b→b<w.heap.size→¬ S b):w'.ownsRow B e s v n xs:=by
 refine ⟨h.1,?_⟩
 rcases h.2 with h1|⟨g,cap,cur,rfl,q1,q2,q3⟩
 ·exact .inl h1
 ·have hlt:g<w.heap.size:=(h.lt g rfl).2
  exact .inr ⟨g,cap,cur,rfl,q1,by rw [hg.block g hlt (hS g q1 hlt)];exact q2,q3⟩
theorem dR {w:World} {B B' e s n:Nat} {v:Value} {xs:List Value} (h:w.ownsRow B e s v n xs) (hB:B'≤B):w.ownsRow B' e s v n xs:=by
 refine ⟨h.1,?_⟩
 rcases h.2 with h|⟨g,cap,cur,q1,q2,q3⟩
 ·exact .inl h
 ·exact .inr ⟨g,cap,cur,q1,Nat.le_trans hB q2,q3⟩
theorem BO (t:Thg) (p q:Option Addr) (n m c d:Nat):Flat 8 [Thg.cells t (.slice p n c) (.slice q m d)]:=by
 intro x hx
 simp only [List.mem_cons,List.not_mem_nil,or_false] at hx
 subst hx
 refine ⟨rfl,fun u hu=>?_⟩
 simp only [Thg.cells,List.mem_cons,List.not_mem_nil,or_false] at hu
 rcases hu with rfl|rfl|rfl|rfl|rfl|rfl|rfl|rfl<;>rfl
theorem aH {w:World} {B e s n:Nat} {v:Value} {xs:List Value} (h:w.ownsRow B e s v n xs):∃ p c,v=.slice p n c:=by
 rcases h.2 with ⟨rfl,rfl⟩|⟨g,cap,cur,rfl,-,hg,-⟩<;>exact ⟨_,_,rfl⟩
end Drw
