/- Plain laws of what one of a label may know: low steps hang on what is known, high ones change nothing of it. Conditions: none. -/
import Derived.Test.YthhmolonhpaepaaGreatDoorVDo
set_option linter.unusedVariables false
set_option linter.unusedSimpArgs false
namespace Drw
open Go Go.RowKit
theorem D9 {a b c:Lab} (h:uJ a b=true) (k:uJ b c=true):uJ a c=true:=by
 simp only [uJ,Kh,subM,Bool.and_eq_true,decide_eq_true_eq] at *
 obtain ⟨⟨a1,a2⟩,⟨a3,a4⟩,a5,a6⟩:=h
 obtain ⟨⟨b1,b2⟩,⟨b3,b4⟩,b5,b6⟩:=k
 exact ⟨⟨a1,b2⟩,⟨Int.le_trans a3 b3,Int.le_trans a4 b4⟩,Int.le_trans b5 a5,Int.le_trans b6 a6⟩
structure VS (l:Lab) (ts us:List Thg):Prop where
 len:us.length=ts.length
 kind:∀ i,ex ts i=true→(aC us i).kind=(aC ts i).kind
 lab:∀ i,ex ts i=true→(aC us i).lab=(aC ts i).lab
 to:∀ i,ex ts i=true→(aC us i).to=(aC ts i).to
 low:∀ i,ex ts i=true→uJ (aC ts i).lab l=true→aC us i=aC ts i
theorem VS.refl (l:Lab) (ts:List Thg):VS l ts ts:=⟨rfl,fun _ _=>rfl,fun _ _=>rfl,fun _ _=>rfl,fun _ _ _=>rfl⟩
theorem VS.exEq {l:Lab} {ts us:List Thg} (h:VS l ts us) (i:Int):ex us i=ex ts i:=by simp [ex,h.len]
theorem VS.trans {l:Lab} {a b c:List Thg} (h:VS l a b) (k:VS l b c):VS l a c:=
 ⟨k.len.trans h.len,fun i hi=>(k.kind i (by rw [h.exEq];exact hi)).trans (h.kind i hi),fun i hi=>(k.lab i (by rw [h.exEq];exact hi)).trans (h.lab i hi),fun i hi=>(k.to i (by rw [h.exEq];exact hi)).trans (h.to i hi),
  fun i hi hl=>(k.low i (by rw [h.exEq];exact hi) (by rw [h.lab i hi];exact hl)).trans (h.low i hi hl)⟩
theorem VS.of_same {l:Lab} {ts us:List Thg} (h:Same ts us) (hl:∀ i,ex ts i=true→uJ (aC ts i).lab l=true→aC us i=aC ts i):VS l ts us:=⟨h.len,h.kind,h.lab,h.to,hl⟩
theorem gate_live {ts:List Thg} (h:aU ts=true) {r:Rgt} (hr:aZ r=true) (hc:bK ts r=true) (h0:r.thing≠0) (hk:(aC ts r.thing).kind=5):live ts r=true:=by
 have he:=Cc hc h0
 have hv:=(aQ.1 (bW h he)).2.2.1
 simp only [kM,hk] at hv
 have hv:(aC ts r.thing).aJ=0:=by simpa using hv
 simp only [bK,Bool.or_eq_true,beq_iff_eq,Bool.and_eq_true,decide_eq_true_eq] at hc
 have h2:=(hc.resolve_left h0).2
 simp only [aZ,if_neg h0,inR,Bool.and_eq_true,decide_eq_true_eq] at hr
 simp only [live,he,hv,Bool.true_and,beq_iff_eq]
 omega
theorem ES {l:Lab} {ts:List Thg} {c:Cal} (h:nV ts c) (hl:uJ (aC ts c.run).lab l=false) (h9:c.kind≠9):VS l ts (do2 ts c).1:=by
 refine VS.of_same (Cb h).same fun i hi hf=>?_
 have h1:i≠c.run:=by intro e;subst e;rw [hl] at hf;cases hf
 by_cases h2:i=(NQ ts c).thing
 ·rw [Ll h hi h1]
  by_cases h0:aT ts c=0
  ·by_cases h3:c.kind=3
   ·rw [pU h3]
    exact fe _ (fM.1 h.ex).1 (fM.1 hi).1 h1
   ·obtain ⟨z1,z2,z3,z4,z5⟩:=iQ h0 h3
    have hno:dO c.kind=false:=by
     cases hw:dO c.kind
     ·rfl
     ·have ht:=(z4 hw).2
      unfold touches at ht
      rw [← h2] at ht
      have:=D9 ht hf
      rw [hl] at this;cases this
    cases hv:live ts (NQ ts c)
    ·rw [pR h0 h3 hv]
    ·rw [pQ h0 h3 hv]
     dsimp only
     have hk:c.kind=1∨c.kind=4:=by
      simp only [dO,Bool.not_eq_false',Bool.or_eq_true,beq_iff_eq] at hno;exact hno
     rcases hk with hk|hk
     ·simp [act,hk]
     ·simp only [act,hk,if_true,Int.reduceEq,if_false]
      exact fe _ (fM.1 h.ex).1 (fM.1 hi).1 h1
  ·rw [wG h0]
 ·exact GD h hi h1 h2 (fun e=>absurd e h9)
end Drw
namespace Drw
open Go Go.RowKit
end Drw
