/- Goroutines that one has started, each with places of its own that may grow: the law of the trace, and what is known behind the join. Conditions: none. -/
import Derived.Conc.Beside
import Derived.Test.YthhmolonhpaepaaGreatDoorVJg
import Derived.Conc.CrowdRun
set_option linter.unusedVariables false
set_option linter.unusedSimpArgs false
section
namespace Ren
open Go Go.Conc
open Go.ConcN (RelBy PermW fork_knows)
structure dh (d:Nat) (Shun:Loc→Prop) (B:Nat) (t:Trace):Prop where
  clean:∀ said,¬ Race said t
  known:∀ i a,touchAt t i=some a→a.loc.isMemory=true→Knows t 0 i∨(Shun a.loc∧a.kind=.atomic)
  over:t.HandedOver
  hears:Deaf t 0=d
  seen:∀ op∈t,∀ x,op.act.touch?=some x→x.loc.low B
section
variable {d:Nat} {Shun:Loc→Prop} {B:Nat} {t u:Trace}
theorem qm (h:∀ op∈t,∀ x,op.act.touch?=some x→x.loc.low B) (hu:∀ op∈u,∀ x,op.act.touch?=some x→x.loc.low B):∀ op∈t++u,∀ x,op.act.touch?=some x→x.loc.low B:=fun op hop=>(Array.mem_append.1 hop).elim (h op) (hu op)
theorem dh.mono {B':Nat} (h:dh d Shun B t) (hB:B≤B'):dh d Shun B' t:=⟨h.clean,h.known,h.over,h.hears,fun op hop x hx=>Loc.low_mono hB (h.seen op hop x hx)⟩
theorem dh.own (h:dh d Shun B t) {fn:FuncId} {pos:String} {es:Array Event} (hs:∀ e∈es,∀ x,(MemAct.ofEvent e).touch?=some x→Shun x.loc→x.kind≠.plain) (hl:∀ e∈es,∀ x,(MemAct.ofEvent e).touch?=some x→x.loc.low B) :
    dh (deafBehind d es) Shun B (t++MemOp.ofEvents 0 fn pos es):=by
  have hg:∀ op∈MemOp.ofEvents 0 fn pos es,op.g=0:=fun op hop=>by obtain ⟨e,_,rfl⟩:=mem_ofEvents hop;rfl
  refine ⟨fun said=>noRace_append (h.clean said) hg fun i a ha op hop b hb hc=>?_,fun i a ha hm=>?_,handedOver_app h.over fun op hop=>.inl (hg op hop),?_,qm h.seen fun op hop=>?_⟩
  · rcases h.known i a ha hc.2.1 with hk|⟨hsa,hka⟩
    · exact hk
    · have hkb:b.kind≠.plain:=by
        obtain ⟨e,he,rfl⟩:=mem_ofEvents hop
        exact hs e he b hb (hc.1 ▸ hsa)
      obtain ⟨_,_,_,hcase⟩:=hc
      rw [hka] at hcase
      rcases hcase with x|x|⟨_,x,_⟩
      · cases x
      · exact absurd x hkb
      · cases x
  · obtain ⟨x,hx,hxa⟩:=touch_of ha
    rcases getElem?_append_cases hx with ⟨_,hx'⟩|⟨_,hxu⟩
    · exact (h.known i a (by rw [touchAt_of hx'];exact hxa) hm).imp (·.app _) id
    · have:=knows_own hx
      rw [hg x hxu] at this
      exact .inl this
  · rw [Deaf_own,h.hears]
  · obtain ⟨e,he,rfl⟩:=mem_ofEvents hop;exact hl e he
theorem dh.mute (h:dh d Shun B t) {g:Nat} (hg:g≠0) {fn:FuncId} {pos:String} {es:Array Event} (hm:∀ e∈es,e.mute=true):dh d Shun B (t++MemOp.ofEvents g fn pos es):=by
  have hgo:∀ op∈MemOp.ofEvents g fn pos es,op.g=g:=fun op hop=>by obtain ⟨e,_,rfl⟩:=mem_ofEvents hop;rfl
  have hn:∀ op∈MemOp.ofEvents g fn pos es,op.act.touch?=none:=fun op hop=>by obtain ⟨e,he,rfl⟩:=mem_ofEvents hop;exact touch_mute (hm e he)
  refine ⟨fun said=>noRace_append (h.clean said) hgo fun i a _ op hop b hb _=>(by rw [hn op hop] at hb;cases hb),fun i a ha hmm=>?_,handedOver_app h.over fun op hop=>.inr (hn op hop),(Deaf_other t hg _ hgo).trans h.hears,qm h.seen fun op hop x hx=>?_⟩
  · obtain ⟨x,hx,hxa⟩:=touch_of ha
    rcases getElem?_append_cases hx with ⟨_,hx'⟩|⟨_,hxu⟩
    · exact (h.known i a (by rw [touchAt_of hx'];exact hxa) hmm).imp (·.app _) id
    · rw [hn x hxu] at hxa;cases hxa
  · rw [hn op hop] at hx;cases hx
end
section
variable (Sh Shun:Loc→Prop) (Own:Nat→Loc→Prop) (Rd:Loc→Prop)
structure Fam (lo hi:Nat):Prop where
  own:∀ k k' l,lo≤k→k<hi→lo≤k'→k' < hi→Own k l→Own k' l→k=k'
  ownRd:∀ k l,lo≤k→k<hi→Own k l→¬ Rd l
  ownSh:∀ k l,lo≤k→k<hi→Own k l→¬ Sh l
  L9:∀ k l,lo≤k→k<hi→Own k l→¬ Shun l
  mem:∀ k l,lo≤k→k<hi→Own k l→l.isMemory=true
  rdSh:∀ l,Rd l→¬ Sh l
structure KT (lo hi:Nat) (t:Trace):Prop where
  quiet:Quiet Sh t
  own:∀ k,lo≤k→k<hi→∀ l,Own k l→Perm t k l
  rd:∀ k,lo≤k→k<hi→∀ l,Rd l→PermW t k l
  free:∀ l,l.isMemory=true→¬ Sh l→¬ Shun l→(∀ k,lo≤k→k<hi→¬ Own k l)→¬ Rd l→Perm t 0 l
  mine:∀ l,Rd l→PermW t 0 l
  nr:∀ said,¬ Race said t
  atm:∀ i g x,t.g? i=some g→lo≤g→touchAt t i=some x→x.kind=.atomic→Sh x.loc
def Op0 (lo hi:Nat) (op:MemOp):Prop:=
  op.g=0∧∀ x,op.act.touch?=some x→(Sh x.loc∧x.kind≠.plain)∨(¬ Sh x.loc∧¬ Shun x.loc∧(∀ k,lo≤k→k<hi→¬ Own k x.loc)∧(Rd x.loc→x.write=false))
def OpW (k:Nat) (op:MemOp):Prop:=
  op.g=k∧∀ x,op.act.touch?=some x→(Sh x.loc∧x.kind=.atomic)∨(Own k x.loc∧x.kind=.plain)∨(Rd x.loc∧x.write=false∧x.kind=.plain)
end
section
variable {Sh Shun:Loc→Prop} {Own:Nat→Loc→Prop} {Rd:Loc→Prop} {lo hi:Nat} {t u:Trace}
theorem Ke {i g:Nat} (h:(t++u).g? i=some g):(i<t.size∧t.g? i=some g)∨(t.size≤i∧∃ op∈u,(t++u)[i]?=some op∧op.g=g):=by
  obtain ⟨op,ho,rfl⟩:=Option.map_eq_some_iff.1 h
  rcases getElem?_append_cases ho with ⟨a,b⟩|⟨a,b⟩
  · exact .inl ⟨a,by simp [Trace.g?,b]⟩
  · exact .inr ⟨a,op,b,ho,rfl⟩
theorem wN (h:∀ i g x,t.g? i=some g→lo≤g→touchAt t i=some x→x.kind=.atomic→Sh x.loc) (hu:∀ op∈u,lo≤op.g→∀ x,op.act.touch?=some x→x.kind=.atomic→Sh x.loc) :
    ∀ i g x,(t++u).g? i=some g→lo≤g→touchAt (t++u) i=some x→x.kind=.atomic→Sh x.loc:=by
  intro i g x hg hl hx hk
  rcases Ke hg with ⟨a,b⟩|⟨a,op,b,c,d⟩
  · exact h i g x b hl (by rw [← touchAt_old (u:=u) a];exact hx) hk
  · exact hu op b (by omega) x (by rw [← touchAt_of c];exact hx) hk
theorem KT.app0 (hlo:0<lo) (A:Fam Sh Shun Own Rd lo hi) (h:KT Sh Shun Own Rd lo hi t) (hu:∀ op∈u,Op0 Sh Shun Own Rd lo hi op):KT Sh Shun Own Rd lo hi (t++u):=by
  refine ⟨h.quiet.app fun op hop x hx hs=>?_,fun k k1 kj l hl=>(h.own k k1 kj l hl).app fun op hop b hb e=>?_,fun k k1 kj l hl=>(h.rd k k1 kj l hl).app fun op hop b hb e hw=>?_,
    fun l hm hs hn hl hr=>(h.free l hm hs hn hl hr).app fun op hop _ _ _=>(hu op hop).1,fun l hl=>(h.mine l hl).app fun op hop _ _ _ _=>(hu op hop).1,fun said=>?_,wN h.atm fun op hop hl=>?_⟩
  · rcases (hu op hop).2 x hx with ⟨_,hk⟩|⟨hn,_⟩
    · exact ⟨hk,fun _=>(hu op hop).1⟩
    · exact absurd hs hn
  · rcases (hu op hop).2 b hb with ⟨hs,_⟩|⟨_,_,hn,_⟩
    · exact absurd (e ▸ hs) (A.ownSh k l k1 kj hl)
    · exact absurd (e ▸ hl) (hn k k1 kj)
  · rcases (hu op hop).2 b hb with ⟨hs,_⟩|⟨_,_,_,hn⟩
    · exact absurd (e ▸ hs) (A.rdSh l hl)
    · rw [hn (e ▸ hl)] at hw;cases hw
  · refine noRace_append (h.nr said) (fun op hop=>(hu op hop).1) (fun i a ha op hop b hb hc=>?_)
    rcases (hu op hop).2 b hb with ⟨hs,hk⟩|⟨hs,hsn,hno,hnr⟩
    · exact h.quiet.known hs hk (fun _=>rfl) i a ha hc
    · by_cases hr:Rd b.loc
      · exact h.mine b.loc hr i a ha hc.1 (hc.2.2.1.resolve_right (by simp [hnr hr]))
      · exact h.free b.loc (hc.1 ▸ hc.2.1) hs hsn hno hr i a ha hc.1
  · have:=(hu op hop).1;omega
theorem KT.appW (A:Fam Sh Shun Own Rd lo hi) (h:KT Sh Shun Own Rd lo hi t) {k:Nat} (k1:lo≤k) (kj:k<hi) (hu:∀ op∈u,OpW Sh Own Rd k op):KT Sh Shun Own Rd lo hi (t++u):=by
  refine ⟨h.quiet.app fun op hop x hx hs=>?_,fun k' k1' kj' l hl=>(h.own k' k1' kj' l hl).app fun op hop b hb e=>?_,fun k' k1' kj' l hl=>(h.rd k' k1' kj' l hl).app fun op hop b hb e hw=>?_,
    fun l hm hs hn hl hr=>(h.free l hm hs hn hl hr).app fun op hop b hb e=>?_,fun l hl=>(h.mine l hl).app fun op hop b hb e hw=>?_,fun said=>?_,wN h.atm fun op hop hl x hx hk=>?_⟩
  · rcases (hu op hop).2 x hx with ⟨_,hk⟩|⟨ho,_⟩|⟨hr,_⟩
    · exact ⟨by rw [hk];simp,fun e=>by rw [hk] at e;cases e⟩
    · exact absurd hs (A.ownSh k _ k1 kj ho)
    · exact absurd hs (A.rdSh _ hr)
  · rcases (hu op hop).2 b hb with ⟨hs,_⟩|⟨ho,_⟩|⟨hr,_⟩
    · exact absurd (e ▸ hs) (A.ownSh k' l k1' kj' hl)
    · rw [(hu op hop).1];exact A.own k k' l k1 kj k1' kj' (e ▸ ho) hl
    · exact absurd (e ▸ hr) (A.ownRd k' l k1' kj' hl)
  · rcases (hu op hop).2 b hb with ⟨hs,_⟩|⟨ho,_⟩|⟨_,hr,_⟩
    · exact absurd (e ▸ hs) (A.rdSh l hl)
    · exact absurd hl (A.ownRd k l k1 kj (e ▸ ho))
    · rw [hr] at hw;cases hw
  · rcases (hu op hop).2 b hb with ⟨hs',_⟩|⟨ho,_⟩|⟨hr',_⟩
    · exact absurd (e ▸ hs') hs
    · exact absurd (e ▸ ho) (hl k k1 kj)
    · exact absurd (e ▸ hr') hr
  · rcases (hu op hop).2 b hb with ⟨hs',_⟩|⟨ho,_⟩|⟨_,hr,_⟩
    · exact absurd (e ▸ hs') (A.rdSh l hl)
    · exact absurd hl (A.ownRd k l k1 kj (e ▸ ho))
    · rw [hr] at hw;cases hw
  · refine noRace_append (h.nr said) (fun op hop=>(hu op hop).1) (fun i a ha op hop b hb hc=>?_)
    rcases (hu op hop).2 b hb with ⟨hs,hk⟩|⟨ho,_⟩|⟨hr,hbw,_⟩
    · exact h.quiet.known hs (by rw [hk];simp) (fun e=>by rw [hk] at e;cases e) i a ha hc
    · exact h.own k k1 kj b.loc ho i a ha hc.1
    · exact h.rd k k1 kj b.loc hr i a ha hc.1 (hc.2.2.1.resolve_right (by simp [hbw]))
  · rcases (hu op hop).2 x hx with ⟨hs,_⟩|⟨_,ho⟩|⟨_,_,hr⟩
    · exact hs
    · rw [ho] at hk;cases hk
    · rw [hr] at hk;cases hk
theorem KT.appM (h:KT Sh Shun Own Rd lo hi t) {g:Nat} (hg:∀ op∈u,op.g=g) (hu:∀ op∈u,op.act.touch?=none):KT Sh Shun Own Rd lo hi (t++u):=by
  have no:∀ op∈u,∀ b,op.act.touch?=some b→False:=fun op hop b hb=>by rw [hu op hop] at hb;cases hb
  refine ⟨h.quiet.app fun op hop x hx _=>(no op hop x hx).elim,fun k k1 kj l hl=>(h.own k k1 kj l hl).app fun op hop b hb _=>(no op hop b hb).elim,fun k k1 kj l hl=>(h.rd k k1 kj l hl).app fun op hop b hb _ _=>(no op hop b hb).elim,
    fun l hm hs hn hl hr=>(h.free l hm hs hn hl hr).app fun op hop b hb _=>(no op hop b hb).elim,fun l hl=>(h.mine l hl).app fun op hop b hb _ _=>(no op hop b hb).elim,fun said=>?_,wN h.atm fun op hop _ x hx=>(no op hop x hx).elim⟩
  exact noRace_append (h.nr said) hg (fun i a _ op hop b hb _=>(no op hop b hb).elim)
theorem KT.widen {Own':Nat→Loc→Prop} (h:KT Sh Shun Own Rd lo hi t) (h1:∀ k l,lo≤k→k<hi→Own k l→Own' k l) (h2:∀ k l,lo≤k→k<hi→Own' k l→Own k l∨∀ i a,touchAt t i=some a→a.loc≠l):KT Sh Shun Own' Rd lo hi t:=
  ⟨h.quiet,fun k k1 kj l hl=>(h2 k l k1 kj hl).elim (h.own k k1 kj l) (fun x i a ha e=>absurd e (x i a ha)),h.rd,
   fun l hm hs hn hl hr=>h.free l hm hs hn (fun k k1 kj ho=>hl k k1 kj (h1 k l k1 kj ho)) hr,h.mine,h.nr,h.atm⟩
theorem KT.fork (hlo:0<lo) (hle:lo≤hi) (A:Fam Sh Shun Own Rd lo (hi+1)) (h:KT Sh Shun Own Rd lo hi t) {x y:MemOp} (hx:x.g=0∧x.act=.go hi) (hy:y.g=hi∧y.act=.start) (h0:Deaf t 0=0) (hk:Deaf t hi=0) :
    KT Sh Shun Own Rd lo (hi+1) (t++#[x,y]):=by
  have hnt:∀ op∈#[x,y],∀ b,op.act.touch?=some b→False:=by
    intro op hop b hb
    simp only [List.mem_toArray,List.mem_cons,List.not_mem_nil,or_false] at hop
    rcases hop with rfl|rfl
    · rw [hx.2] at hb;cases hb
    · rw [hy.2] at hb;cases hb
  have old:∀ {i:Nat} {a:Touch},touchAt (t++#[x,y]) i=some a→touchAt t i=some a:=by
    intro i a ha
    obtain ⟨z,hz,hza⟩:=touch_of ha
    rcases getElem?_append_cases hz with ⟨_,hz'⟩|⟨_,hzu⟩
    · rw [touchAt_of hz'];exact hza
    · exact (hnt z hzu a hza).elim
  refine ⟨h.quiet.app fun op hop b hb _=>(hnt op hop b hb).elim,fun k k1 kj l hl=>?_,fun k k1 kj l hl=>?_,
    fun l hm hs hn hl hr=>(h.free l hm hs hn (fun k k1 kj=>hl k k1 (by omega)) hr).app fun op hop b hb _=>(hnt op hop b hb).elim,fun l hl=>(h.mine l hl).app fun op hop b hb _ _=>(hnt op hop b hb).elim,fun said=>?_,wN h.atm fun op hop _ b hb=>(hnt op hop b hb).elim⟩
  · rcases Nat.lt_or_ge k hi with hlt|hge
    · exact (h.own k k1 hlt l hl).app fun op hop b hb _=>(hnt op hop b hb).elim
    · obtain rfl:k=hi:=by omega
      exact fun i a ha e=>fork_knows hx hy h0 hk (h.free l (A.mem k l k1 kj hl) (A.ownSh k l k1 kj hl) (A.L9 k l k1 kj hl) (fun k' k1' kj' ho=>by have:=A.own k' k l k1' (by omega) k1 kj ho hl;omega) (A.ownRd k l k1 kj hl) i a (old ha) e)
  · rcases Nat.lt_or_ge k hi with hlt|hge
    · exact (h.rd k k1 hlt l hl).app fun op hop b hb _ _=>(hnt op hop b hb).elim
    · obtain rfl:k=hi:=by omega
      exact fun i a ha e hw=>fork_knows hx hy h0 hk (h.mine l hl i a (old ha) e hw)
  · have e:t++#[x,y]=(t++#[x])++#[y]:=by apply Array.ext';simp
    rw [e]
    refine noRace_append (g:=hi) (noRace_append (g:=0) (h.nr said) (fun op hop=>by simp at hop;rw [hop];exact hx.1) (fun i a _ op hop b hb _=>(hnt op (by simp at hop ⊢;exact .inl hop) b hb).elim))
      (fun op hop=>by simp at hop;rw [hop];exact hy.1) (fun i a _ op hop b hb _=>(hnt op (by simp at hop ⊢;exact .inr hop) b hb).elim)
theorem untouched {B:Nat} (h:∀ op∈t,∀ x,op.act.touch?=some x→x.loc.low B) {a:Addr} (ha:B≤a.block):∀ i x,touchAt t i=some x→x.loc≠.cell a:=by
  intro i x hx e
  obtain ⟨op,ho,hox⟩:=touch_of hx
  have hl:=h op (mem_of_getElem? ho) x hox
  rw [e] at hl
  simp only [Loc.low] at hl
  omega
theorem KT.begin_ {d B:Nat} (hP:dh d Shun B t) (hg:∀ op∈t,op.g<lo) (hS:Quiet Sh t) (hR:∀ l,Rd l→l.isMemory=true∧¬ Shun l):KT Sh Shun Own Rd lo lo t:=by
  refine ⟨hS,fun k k1 kj=>(by omega),fun k k1 kj=>(by omega),fun l hm hs hn _ _ i a ha e=>?_,fun l hl i a ha e _=>?_,hP.clean,fun i g x hgi hl=>?_⟩
  · exact (hP.known i a ha (e ▸ hm)).resolve_right fun x=>hn (e ▸ x.1)
  · exact (hP.known i a ha (e ▸ (hR l hl).1)).resolve_right fun x=>(hR l hl).2 (e ▸ x.1)
  · obtain ⟨op,ho,rfl⟩:=Option.map_eq_some_iff.1 hgi
    have:=hg op (mem_of_getElem? ho);omega
theorem xW {B B':Nat} {t0:Trace} {a:Addr} {y:MemOp} {d:Nat} (hP:dh d Shun B t0) (hg0:∀ op∈t0,op.g<lo) (hK:KT Sh Shun Own Rd lo hi (t0++u)) (hy:y.g=0∧y.act=.mark (.acquire a)) (h0:Deaf (t0++u) 0=0)
    (hrel:∀ k,lo≤k→k<hi→∃ r,RelBy a (t0++u) k r) (hn:∀ op∈u,op.act≠.mark (.release a)) (late:∀ op∈u,op.g=0∨(lo≤op.g∧op.g<hi)∨op.act.touch?=none)
    (seen:∀ op∈t0++u,∀ x,op.act.touch?=some x→x.loc.low B'):dh 0 (fun l=>Shun l∨Sh l) B' ((t0++u)++#[y]):=by
  have hq:((t0++u)++#[y])[(t0++u).size]?=some y:=by simp
  have hqa:((t0++u)++#[y]).act? (t0++u).size=some (.mark (.acquire a)):=by rw [act?_of hq,hy.2]
  have hqh:((t0++u)++#[y]).heard (t0++u).size:=⟨0,by simp [Trace.g?,hq,hy.1],by rw [deaf_old (Nat.le_refl _)];exact h0⟩
  have hny:∀ x,y.act.touch?=some x→False:=fun x hx=>by rw [hy.2] at hx;cases hx
  -- who has released knows,through the acquire
  have edge:∀ k r,lo≤k→RelBy a (t0++u) k r→HappensBefore ((t0++u)++#[y]) r (t0++u).size:=fun k r hk hr=>by
    have hrs:r<(t0++u).size:=lt_of_act? hr.act
    have hr0:t0.size≤r:=Nat.le_of_not_lt fun hlt=>by
      have:=hr.g
      rw [g?_old hlt] at this
      obtain ⟨op,ho,hog⟩:=Option.map_eq_some_iff.1 this
      have:=hg0 op (mem_of_getElem? ho);omega
    refine .single (.inr ⟨.marked (a:=a) hrs (.inr (by rw [act?_old hrs];exact hr.act)) hqa (fun j h1 h2 e=>?_),(heard_old hrs).2 hr.heard,hqh⟩)
    rw [act?_old h2] at e
    obtain ⟨op,ho,hoa⟩:=Option.map_eq_some_iff.1 e
    rcases getElem?_append_cases ho with ⟨h3,_⟩|⟨_,h3⟩
    · omega
    · exact hn op h3 hoa
  have key:∀ i op x,(t0++u)[i]?=some op→op.act.touch?=some x→x.loc.isMemory=true→t0.size≤i→HappensBefore ((t0++u)++#[y]) i (t0++u).size∨(Sh x.loc∧x.kind=.atomic∧¬ (t0++u).counts i):=by
    intro i op x hi hx hm hge
    have hil:i<(t0++u).size:=lt_size_of_getElem? hi
    have hi2:((t0++u)++#[y])[i]?=some op:=by rw [getElem?_append_old hil];exact hi
    have hou:op∈u:=by
      rcases getElem?_append_cases hi with ⟨h,_⟩|⟨_,h⟩
      · omega
      · exact h
    rcases late op hou with h0|⟨h1,h2⟩|h0
    · exact .inl (hb_po hil hi2 hq (h0.trans hy.1.symm))
    · obtain ⟨r,hr⟩:=hrel op.g h1 h2
      have hrs:r<(t0++u).size:=lt_of_act? hr.act
      obtain ⟨z,hz,hzg⟩:=Option.map_eq_some_iff.1 hr.g
      rcases Nat.lt_trichotomy i r with h|rfl|h
      · exact .inl (.trans (hb_po h hi2 (by rw [getElem?_append_old hrs];exact hz) hzg.symm) (edge _ _ h1 hr))
      · have:=hr.act
        rw [act?_of hi] at this
        rw [Option.some.inj this] at hx;cases hx
      · have hgi:(t0++u).g? i=some op.g:=by simp [Trace.g?,hi]
        have hnc:=hr.after i h hgi
        have htx:touchAt (t0++u) i=some x:=by rw [touchAt_of hi];exact hx
        have hka:x.kind=.atomic:=Decidable.byContradiction fun hk=>hnc ⟨x,htx,hm,.inl hk⟩
        exact .inr ⟨hK.atm i op.g x hgi h1 htx hka,hka,hnc⟩
    · rw [h0] at hx;cases hx
  refine ⟨fun said=>?_,fun i x hx hm=>?_,fun i g hg hne hc=>?_,?_,qm seen fun op hop x hx=>?_⟩
  · exact noRace_append (g:=0) (hK.nr said) (fun op hop=>by simp at hop;rw [hop];exact hy.1) (fun i x _ op hop b hb _=>by simp at hop;subst hop;exact (hny b hb).elim)
  · obtain ⟨op,ho,hox⟩:=touch_of hx
    rcases getElem?_append_cases ho with ⟨hi,ho'⟩|⟨_,hou⟩
    · rcases Nat.lt_or_ge i t0.size with hlt|hge
      · rw [touchAt_old hi,touchAt_old hlt] at hx
        exact (hP.known i x hx hm).imp (fun z=>(z.app u).app #[y]) (fun z=>⟨.inl z.1,z.2⟩)
      · rcases key i op x ho' hox hm hge with h|⟨h1,h2,_⟩
        · exact .inl ⟨_,y,hq,hy.1,.inr h⟩
        · exact .inr ⟨.inr h1,h2⟩
    · simp at hou;subst hou;exact (hny x hox).elim
  · obtain ⟨x,hx,hm,hk⟩:=id hc
    obtain ⟨op,ho,hox⟩:=touch_of hx
    rcases getElem?_append_cases ho with ⟨hi,ho'⟩|⟨_,hou⟩
    · rcases Nat.lt_or_ge i t0.size with hlt|hge
      · have hg0:t0.g? i=some g:=by rw [← g?_old (u:=u) hlt,← g?_old (u:=#[y]) hi];exact hg
        obtain ⟨j,hj,hb⟩:=hP.over i g hg0 hne ((counts_old hlt).1 ((counts_old hi).1 hc))
        have hjl:j<t0.size:=lt_of_g? hj
        refine ⟨j,?_,hb_app _ (hb_app _ hb)⟩
        rw [g?_old (by simp;omega),g?_old hjl];exact hj
      · rcases key i op x ho' hox hm hge with h|⟨_,_,h3⟩
        · exact ⟨_,by simp [Trace.g?,hq,hy.1],h⟩
        · exact absurd ((counts_old hi).1 hc) h3
    · simp at hou;subst hou;exact (hny x hox).elim
  · rw [Deaf_push,h0]
    unfold deafStep
    rw [hy.2]
  · simp at hop;subst hop;exact (hny x hx).elim
where
  lt_of_g? {t:Trace} {i g:Nat} (h:t.g? i=some g):i<t.size:=by
    obtain ⟨z,hz,_⟩:=Option.map_eq_some_iff.1 h
    exact lt_size_of_getElem? hz
end
end Ren
end
section
namespace Ren
open Go Go.Conc
open Go.ConcN (sumTo upd sumTo_upd upd_ne upd_same)
structure OkA (Shun:Loc→Prop) (w w':World) (es:Array Event):Prop where
 size:w.heap.size≤w'.heap.size
 shun:∀ e∈es,∀ x,(MemAct.ofEvent e).touch?=some x→Shun x.loc→x.kind≠.plain
 low:∀ e∈es,∀ x,(MemAct.ofEvent e).touch?=some x→x.loc.low w'.heap.size
 rel:∀ e∈es,∀ a,MemAct.ofEvent e≠.mark (.release a)
theorem OkA.none (Shun:Loc→Prop) (w:World):OkA Shun w w #[]:=⟨Nat.le_refl _,by simp,by simp,by simp⟩
inductive Alone (P:Program) (Shun:Loc→Prop) (End:Nat→Goroutine→World→Prop):Nat→Goroutine→World→Prop
 | stop (d:Nat) (g:Goroutine) (w:World) (h:∀ n,End d g (w.at n)):Alone P Shun End d g w
 | step (d:Nat) (g:Goroutine) (w:World) (hs:g.status=.running) (g':Nat→Goroutine) (w':Nat→World) (es:Nat→Array Event)
   (h:∀ n,stepG P true g (w.at n)=.go (g' n) (w' n) (es n)∧OkA Shun (w.at n) (w' n) (es n))
   (hn:∀ n,Alone P Shun End (deafBehind d (es n)) (g' n) (w' n)):Alone P Shun End d g w
section
variable {P:Program} {Shun:Loc→Prop} {End End':Nat→Goroutine→World→Prop} {d:Nat} {g:Goroutine} {w:World}
theorem Alone.at (h:Alone P Shun End d g w) (n:Nat):Alone P Shun End d g (w.at n):=by
 cases h with
 | stop _ _ _ h=>exact .stop _ _ _ fun m=>h m
 | step _ _ _ hs g' w' es h hn=>exact .step _ _ _ hs g' w' es (fun m=>h m) hn
theorem Alone.bind (h:Alone P Shun End d g w) (k:∀ d g w,End d g w→Alone P Shun End' d g w):Alone P Shun End' d g w:=by
 induction h with
 | stop d g w h=>exact (k _ _ _ (h w.drawn))
 | step d g w hs g' w' es h hn ih=>exact .step _ _ _ hs g' w' es h ih
theorem Alone.mono (h:Alone P Shun End d g w) (k:∀ d g w,End d g w→End' d g w):Alone P Shun End' d g w:=by
 induction h with
 | stop d g w h=>exact .stop _ _ _ fun n=>k _ _ _ (h n)
 | step d g w hs g' w' es h hn ih=>exact .step _ _ _ hs g' w' es h ih
theorem Alone.one {g':Goroutine} {w':World} {es:Array Event} (hs:g.status=.running) (h:∀ n,stepG P true g (w.at n)=.go g' (w'.at n) es) (hok:OkA Shun w w' es)
  (hn:Alone P Shun End (deafBehind d es) g' w'):Alone P Shun End d g w:=
 .step _ _ _ hs (fun _=>g') (fun n=>w'.at n) (fun _=>es) (fun n=>⟨h n,⟨hok.size,hok.shun,hok.low,hok.rel⟩⟩) (fun n=>hn.at n)
theorem Alone.Mk {D:World→World→Array Event→Prop} {Stop:Goroutine→World→Prop} (hD:∀ w w' es,D w w' es→OkA Shun w w' es∧deafBehind d es=d) :
  ∀ {n:Nat} {g:Goroutine} {w:World},Goes P true AtRel D Stop n g w→Alone P Shun (fun d' g w=>d'=d∧Stop g w) d g w:=by
 intro n
 induction n with
 | zero=>intro g w h;exact .stop _ _ _ fun n=>⟨rfl,h _ ⟨n,rfl⟩⟩
 | succ n ih=>
  intro g w h
  rcases h with h|⟨hs,h⟩
  ·exact .stop _ _ _ fun n=>⟨rfl,h _ ⟨n,rfl⟩⟩
  ·have key:∀ m,∃ x:Goroutine × World × Array Event,stepG P true g (w.at m)=.go x.1 x.2.1 x.2.2∧D (w.at m) x.2.1 x.2.2∧Goes P true AtRel D Stop n x.1 x.2.1:=fun m=>by
    obtain ⟨g',w',es,h1,h2,h3⟩:=goes_elim (h (w.at m) ⟨m,rfl⟩)
    exact ⟨(g',w',es),h1,h2,h3⟩
   let f:Nat→Goroutine × World × Array Event:=fun m=>Classical.choose (key m)
   have hf:∀ m,_:=fun m=>Classical.choose_spec (key m)
   refine .step _ _ _ hs (fun m=>(f m).1) (fun m=>(f m).2.1) (fun m=>(f m).2.2) (fun m=>⟨(hf m).1,(hD _ _ _ (hf m).2.1).1⟩) (fun m=>?_)
   have:=ih (hf m).2.2
   rw [← (hD _ _ _ (hf m).2.1).2] at this
   exact this.mono fun d' g w x=>⟨x.1.trans (hD _ _ _ (hf m).2.1).2,x.2⟩
def Er (Shun:Loc→Prop) (n:Nat) (t t':Trace):Prop:=∃ u,t'=t++u∧∀ op∈u,op.g<n∧(∀ a,op.act≠.mark (.release a))∧∀ x,op.act.touch?=some x→op.g=0∧(Shun x.loc→x.kind≠.plain)
theorem Er.refl (Shun:Loc→Prop) (n:Nat) (t:Trace):Er Shun n t t:=⟨#[],by simp,by simp⟩
theorem Er.trans {n:Nat} {t t1 t2:Trace} (h:Er Shun n t t1) (k:Er Shun n t1 t2):Er Shun n t t2:=by
 obtain ⟨u,rfl,hu⟩:=h
 obtain ⟨v,rfl,hv⟩:=k
 exact ⟨u++v,by simp,fun op hop=>(Array.mem_append.1 hop).elim (hu op) (hv op)⟩
theorem Jt {e:Event} (h:e.mute=true) (a:Addr):MemAct.ofEvent e≠.mark (.release a):=by
 obtain ⟨loc,wr,sy⟩:=e
 cases loc<;>simp_all [Event.mute]
 rename_i m
 cases m<;>simp_all [MemAct.ofEvent]
theorem nR {zm:Loc→Prop} (hsub:∀ l,zm l→Shun l) (h:Alone P Shun End d g w):∀ {gs:Array Goroutine} {m:Nat} {sl:Option (Nat × Nat)} {t:Trace} {q:Nat→Nat},gs[0]?=some g→Leavers P t gs q→dh d zm w.heap.size t →
  ∃ (N:Nat) (gs':Array Goroutine) (d':Nat) (g':Goroutine) (w':World) (sl':Option (Nat × Nat)) (t':Trace) (q':Nat→Nat),
   runNT P N (crowd gs (w.at m) sl) t=(.next (crowd gs' w' sl'),t')∧gs'.size=gs.size∧gs'[0]?=some g'∧End d' g' w'∧Leavers P t' gs' q'∧dh d' zm w'.heap.size t'∧Er Shun gs.size t t':=by
 induction h with
 | stop d g w h=>
  intro gs m sl t q h0 hL hP
  exact ⟨0,gs,d,g,w.at m,sl,t,q,rfl,rfl,h0,h m,hL,hP,.refl _ _ _⟩
 | step d g w hrun g1 w1 es1 hst hn ih=>
  have H:∀ M:Nat,∀ {gs:Array Goroutine} {m:Nat} {sl:Option (Nat × Nat)} {t:Trace} {q:Nat→Nat},sumTo gs.size q=M→gs[0]?=some g→Leavers P t gs q→dh d zm w.heap.size t →
    ∃ (N:Nat) (gs':Array Goroutine) (d':Nat) (g':Goroutine) (w':World) (sl':Option (Nat × Nat)) (t':Trace) (q':Nat→Nat),
     runNT P N (crowd gs (w.at m) sl) t=(.next (crowd gs' w' sl'),t')∧gs'.size=gs.size∧gs'[0]?=some g'∧End d' g' w'∧Leavers P t' gs' q'∧dh d' zm w'.heap.size t'∧Er Shun gs.size t t':=by
   intro M
   induction M using Nat.strongRecOn with
   | ind M ihM=>
    intro gs m sl t q hM h0 hL hP
    have haw:∀ x∈gs,awake x:=by
     intro x hx
     obtain ⟨i,hi,rfl⟩:=Array.mem_iff_getElem.1 hx
     rcases Nat.eq_zero_or_pos i with rfl|hpos
     ·have:gs[0]=g:=by simpa [Array.getElem?_eq_getElem hi] using h0
      rw [this];exact awake_of (.inl hrun)
     ·exact awake_of ((hL.old i _ hpos (Array.getElem?_eq_getElem hi)).status.elim .inl fun x=>.inr (.inr x))
    obtain ⟨i,x,n,sl',hi,hg,hstep⟩:=crowd_pick (P:=P) (w:=w.at m) (sl:=sl) haw ⟨0,g,h0,hrun⟩
    have hlt:i<gs.size:=(Array.getElem?_eq_some_iff.1 hi).1
    rcases Nat.eq_zero_or_pos i with rfl|hpos
    ·obtain rfl:x=g:=by rw [h0] at hi;exact (Option.some.inj hi).symm
     obtain ⟨hgo,hok⟩:=hst n
     have hrunT:=runT_crowd_go (P:=P) (w:=(w.at m).at n) (sl:=sl') (i:=0) hi (show stepG P (0 == 0) x ((w.at m).at n)=_ from hgo)
     have hP':dh (deafBehind d (es1 n)) zm (w1 n).heap.size (t++MemOp.ofEvents 0 x.frame.fn x.frame.place (es1 n)):=(hP.mono hok.size).own (fun e he x hx hs=>hok.shun e he x hx (hsub _ hs)) hok.low
     have hsz:((gs.map (woken P x (g1 n) (w1 n))).setIfInBounds 0 (g1 n)).size=gs.size:=by simp
     obtain ⟨N,gs',d',g',w',sl'',t',q',hr,hs',h0',hE,hL',hP'',hwk⟩:=ih n (gs:=(gs.map (woken P x (g1 n) (w1 n))).setIfInBounds 0 (g1 n)) (m:=(w1 n).drawn) (sl:=sl') (t:=t++MemOp.ofEvents 0 x.frame.fn x.frame.place (es1 n)) (q:=q) (by simp [hlt])
      ⟨fun j y hj hy=>by
       have hne:0≠j:=by omega
       rw [Array.getElem?_setIfInBounds_ne hne,Array.getElem?_map] at hy
       obtain ⟨z,hz,rfl⟩:=Option.map_eq_some_iff.1 hy
       have hq:=hL.old j z hj hz
       rw [woken_quitsD hq,Deaf_other t (by omega) _ (fun op hop=>by obtain ⟨e,_,rfl⟩:=mem_ofEvents hop;rfl)]
       exact hq,fun j hj=>by
       rw [Deaf_other t (g':=0) (by simp at hj;omega) _ (fun op hop=>by obtain ⟨e,_,rfl⟩:=mem_ofEvents hop;rfl)]
       exact hL.above j (by simpa using hj)⟩ hP'
     exact ⟨N+1,gs',d',g',w',sl'',t',q',by simp only [runNT,hstep,hrunT];exact hr,hs'.trans hsz,h0',hE,hL',hP'',Er.trans ⟨_,rfl,fun op hop=>by obtain ⟨e,he,rfl⟩:=mem_ofEvents hop;exact ⟨hlt,hok.rel e he,fun y hy=>⟨rfl,hok.shun e he y hy⟩⟩⟩ (hsz ▸ hwk)⟩
    ·have hq:=hL.old i x hpos hi
     have hi0:(i == 0)=false:=by simp;omega
     cases hqi:q i with
     | zero=>rw [hqi] at hq;rw [hq.1] at hg;cases hg
     | succ k=>
      rw [hqi] at hq
      rcases hq with ⟨hf,_⟩|⟨_,g',es,hm,hstp,hq'⟩
      ·rw [hf] at hg;cases hg
      have hrunT:=runT_crowd_go (P:=P) (w:=(w.at m).at n) (sl:=sl') (i:=i) hi (by rw [hi0];exact hstp _)
      have hsz:((gs.map (woken P x g' ((w.at m).at n))).setIfInBounds i g').size=gs.size:=by simp
      have hsum:sumTo gs.size (upd q i k)+(k+1)=sumTo gs.size q+k:=by
       have:=sumTo_upd q k id hlt
       simpa [hqi] using this
      obtain ⟨N,gs',d',a',w',sl'',t',q',hr,hs',h0',hE,hL',hP'',hwk⟩:=ihM (sumTo gs.size (upd q i k)) (by omega) (gs:=(gs.map (woken P x g' ((w.at m).at n))).setIfInBounds i g') (sl:=sl') (t:=t++MemOp.ofEvents i x.frame.fn x.frame.place es) (q:=upd q i k) (by rw [hsz])
       (by
        have hne:i≠0:=by omega
        rw [Array.getElem?_setIfInBounds_ne hne,Array.getElem?_map,h0]
        simp [woken_run hrun])
       ⟨fun j y hj hy=>by
        by_cases hji:i=j
        ·subst hji
         rw [Array.getElem?_setIfInBounds_self_of_lt (by simpa using hlt)] at hy
         obtain rfl:=Option.some.inj hy
         rw [upd_same,Deaf_own]
         exact hq'
        ·rw [Array.getElem?_setIfInBounds_ne hji,Array.getElem?_map] at hy
         obtain ⟨z,hz,rfl⟩:=Option.map_eq_some_iff.1 hy
         have hqj:=hL.old j z hj hz
         rw [woken_quitsD hqj,upd_ne q k (Ne.symm hji),Deaf_other t hji _ (fun op hop=>by obtain ⟨e,_,rfl⟩:=mem_ofEvents hop;rfl)]
         exact hqj,fun j hj=>by
        rw [Deaf_other t (g':=i) (by simp at hj;omega) _ (fun op hop=>by obtain ⟨e,_,rfl⟩:=mem_ofEvents hop;rfl)]
        exact hL.above j (by simpa using hj)⟩
       (hP.mute (by omega) hm)
      exact ⟨N+1,gs',d',a',w',sl'',t',q',by simp only [runNT,hstep,hrunT];exact hr,hs'.trans hsz,h0',hE,hL',hP'',Er.trans ⟨_,rfl,fun op hop=>by obtain ⟨e,he,rfl⟩:=mem_ofEvents hop;exact ⟨hlt,Jt (hm e he),fun y hy=>by rw [touch_mute (hm e he)] at hy;cases hy⟩⟩ (hsz ▸ hwk)⟩
  intro gs m sl t q h0 hL hP
  exact H _ rfl h0 hL hP
end
end Ren
end
section
namespace Ren
open Go Go.Conc Go.ConcN
open Go.ConcR (KK wgBlock WgAt stA smA rd wr mk Payload Aside2 DC0 Bk g_of_ofEvents)
inductive Rank where
 | zero
 | mk (f:World→Rank)
def Rank.lt (a b:Rank):Prop:=∃ f w,b=.mk f∧a=f w
theorem Rank.wf:WellFounded Rank.lt:=by
 refine ⟨fun a=>?_⟩
 induction a with
 | zero=>exact ⟨_,fun b ⟨f,w,h,_⟩=>by cases h⟩
 | mk f ih=>exact ⟨_,fun b ⟨g,w,h,e⟩=>by cases h;subst e;exact ih w⟩
def Rank.nat:Nat→Rank
 | 0=>.zero
 | n+1=>.mk fun _=>.nat n
theorem Rank.nat_lt (n:Nat):(Rank.nat n).lt (Rank.nat (n+1)):=⟨_,default,rfl,rfl⟩
abbrev WMs:=Nat × Rank
def WMs.lt:WMs→WMs→Prop:=Prod.Lex (· < ·) Rank.lt
theorem WMs.wf:WellFounded WMs.lt:=(Prod.lex Nat.lt_wfRel ⟨Rank.lt,Rank.wf⟩).wf
def Dec (n:Nat) (f' f:Nat→WMs):Prop:=∃ i,i<n∧WMs.lt (f' i) (f i)∧∀ j,j≠i→f' j=f j
theorem Dec.acc:∀ (n:Nat) (f:Nat→WMs),Acc (Dec n) f:=by
 intro n
 induction n with
 | zero=>exact fun f=>⟨_,fun g ⟨i,h,_⟩=>by omega⟩
 | succ n ih=>
  have key:∀ x:WMs,∀ f:Nat→WMs,f n=x→Acc (Dec (n+1)) f:=by
   intro x
   induction x using WMs.wf.induction with
   | _ x ihx=>
    intro f
    induction ih f with
    | intro f _ ihf=>
     intro hf
     refine ⟨_,fun g ⟨i,hi,hlt,hj⟩=>?_⟩
     by_cases e:i=n
     ·subst e
      exact ihx (g i) (hf ▸ hlt) g rfl
     ·exact ihf g ⟨i,by omega,hlt,hj⟩ ((hj n (Ne.symm e)).trans hf)
  exact fun f=>key _ f rfl
theorem Dec.wf (n:Nat):WellFounded (Dec n):=⟨Dec.acc n⟩
abbrev Ms:=Nat × Nat × (Nat→WMs) × Nat
def Ms.lt (n:Nat):Ms→Ms→Prop:=Prod.Lex (· < ·) (Prod.Lex (· < ·) (Prod.Lex (Dec n) (· < ·)))
theorem Ms.wf (n:Nat):WellFounded (Ms.lt n):=(Prod.lex Nat.lt_wfRel (Prod.lex Nat.lt_wfRel (Prod.lex ⟨Dec n,Dec.wf n⟩ Nat.lt_wfRel))).wf
inductive nS (P:Program) (main:Bool) (S:Nat→Prop) (Fin:(Nat→Prop)→Goroutine→World→Prop):Rank→(Nat→Prop)→Goroutine→World→Prop
 | stop (r:Rank) (O:Nat→Prop) (g:Goroutine) (w:World) (h:∀ w1,IR S O w w1→Fin O g w1):nS P main S Fin r O g w
 | step (f:World→Rank) (O:Nat→Prop) (g:Goroutine) (w:World) (hs:g.status=.running) (g':World→Goroutine) (w':World→World) (O':World→Nat→Prop) (es:World→Array Event)
   (h:∀ w1,IR S O w w1→stepG P main g w1=.go (g' w1) (w' w1) (es w1)∧Does S O (O' w1) w1 (w' w1) (es w1))
   (hn:∀ w1,IR S O w w1→nS P main S Fin (f w1) (O' w1) (g' w1) (w' w1)):nS P main S Fin (.mk f) O g w
section
variable {P:Program} {main:Bool} {S:Nat→Prop} {Fin Fin':(Nat→Prop)→Goroutine→World→Prop} {O:Nat→Prop} {g:Goroutine} {w w1:World} {r:Rank}
theorem dZ.rank (h:dZ P main S Fin O g w):∃ r,nS P main S Fin r O g w:=by
 induction h with
 | stop O g w h=>exact ⟨.zero,.stop _ _ _ _ h⟩
 | step O g w hs g' w' O' es h hn ih=>
  classical
  refine ⟨.mk fun w1=>if hi:IR S O w w1 then Classical.choose (ih w1 hi) else .zero,.step _ _ _ _ hs g' w' O' es h fun w1 hi=>?_⟩
  simp only [hi,↓reduceDIte]
  exact Classical.choose_spec (ih w1 hi)
theorem nS.rely (h:nS P main S Fin r O g w) (hi:IR S O w w1):nS P main S Fin r O g w1:=by
 cases h with
 | stop _ _ _ _ h=>exact .stop _ _ _ _ fun w2 h2=>h w2 (hi.trans h2)
 | step f _ _ _ hs g' w' O' es h hn=>exact .step f _ _ _ hs g' w' O' es (fun w2 h2=>h w2 (hi.trans h2)) (fun w2 h2=>hn w2 (hi.trans h2))
theorem dZ.rely (h:dZ P main S Fin O g w) (hi:IR S O w w1):dZ P main S Fin O g w1:=by
 cases h with
 | stop _ _ _ h=>exact .stop _ _ _ fun w2 h2=>h w2 (hi.trans h2)
 | step _ _ _ hs g' w' O' es h hn=>exact .step _ _ _ hs g' w' O' es (fun w2 h2=>h w2 (hi.trans h2)) (fun w2 h2=>hn w2 (hi.trans h2))
theorem dZ.bind (h:dZ P main S Fin O g w) (k:∀ O g w,Fin O g w→dZ P main S Fin' O g w):dZ P main S Fin' O g w:=by
 induction h with
 | stop O g w h=>exact k _ _ _ (h w (IR.refl _ _ _))
 | step O g w hs g' w' O' es h hn ih=>exact .step _ _ _ hs g' w' O' es h ih
end
structure Ph where
 P:Program
 ty:TypeId
 tT:TypeId
 tI:TypeId
 Wg:Nat
 C:Nat
 n:Nat
 lo:Nat
 Low:Nat
 S:Nat→Prop
 Shun:Loc→Prop
 w0:World
 t0:Trace
 Good:Nat→(Nat→Prop)→Array Value→World→Prop
 oL:Goroutine→World→Prop
def RWg (ty:TypeId) (Wg:Nat) (w w1:World):Prop:=WgLive ty Wg w→WgLive ty Wg w1
theorem RWg.trans {ty:TypeId} {Wg:Nat} (a b c:World) (h:RWg ty Wg a b) (k:RWg ty Wg b c):RWg ty Wg a c:=fun x=>k (h x)
def Nf (_:Nat) (_:Loc):Prop:=False
section
variable (H:Ph)
def Ph.View (w:World):Prop:=∃ cs,w.heap[H.C]?=some (.cells cs H.tT)∧cs.size=8 * H.n
def Ph.Slot (i:Nat) (vals:Array Value) (w:World):Prop:=vals.size=8∧∀ j,j<8→w.cell? ⟨H.C,8 * i+j,none⟩=vals[j]?
structure Ph.Puts (i:Nat) (vals:Array Value) (w w':World):Prop where
 tape:w'.tape=w.tape
 os:w'.os=w.os
 output:w'.output=w.output
 size:w'.heap.size=w.heap.size
 block:∀ b,b≠H.C→w'.heap[b]?=w.heap[b]?
 view:H.View w'
 slot:H.Slot i vals w'
 cells:∀ o,o<8 * i∨8 * i+8≤o→w'.cell? ⟨H.C,o,none⟩=w.cell? ⟨H.C,o,none⟩
def Ph.Rd (l:Loc):Prop:=∃ a,l=.cell a∧H.S a.block
def Ph.Own (O:Nat→Nat→Prop) (k:Nat) (l:Loc):Prop:=∃ i a,k=H.lo+i∧l=.cell a∧(O i a.block∨(a.block=H.C∧8 * i≤a.off∧a.off<8 * i+8))
variable [Payload]
def Ph.KU (b:Nat) (val:Value) (s m d:Nat) (g:Goroutine) (w:World):Prop:=WSit H.P H.ty H.Wg b 1 Nf Nf 0 1 val s m d g w
def Ph.FinS (i:Nat) (O:Nat→Prop) (g:Goroutine) (w:World):Prop:=
 g.status=.running∧∃ vals O1,vals.size=8∧H.Good i O1 vals w∧∃ b val g',O b∧(∀ c,O1 c→O c∧c≠b)∧Has b 0 val w ∧
  (H.View w→∃ w' es,stepG H.P false g w=.go g' w' es∧H.Puts i vals w w'∧∀ e∈es,∃ j,j<8∧e=⟨.cell ⟨H.C,8 * i+j,none⟩,true,false⟩) ∧
  ∃ m,∀ w2,WgLive H.ty H.Wg w2→Has b 0 val w2→Goes H.P false (RW H.ty H.Wg b 1 0 0) (DWs H.Wg Nf Nf b 1 1) (AtR0 H.P H.ty H.Wg b 1 0 1 val) m g' w2
inductive WS (i:Nat):WD→WMs→(Nat→Prop)→Goroutine→World→Prop
 | La {r:Rank} {O:Nat→Prop} {g:Goroutine} {w:World}:nS H.P false H.S (H.FinS i) r O g w→WS i ⟨7,0,0⟩ (8,r) O g w
 | done {s m d b:Nat} {val:Value} {vals:Array Value} {O O1:Nat→Prop} {g:Goroutine} {w:World}:H.KU b val s m d g w→O b→(∀ c,O1 c→O c∧c≠b)→H.Good i O1 vals w→H.Slot i vals w→WS i ⟨s,m,d⟩ (s,.nat m) O g w
def Ph.Start (i b:Nat) (g:Goroutine):Prop:=
 g.status=.running∧∀ w,(∀ c,H.S c→w.heap[c]?=H.w0.heap[c]?)→w.heap[b]?=some (.cells #[.int .i64 i] H.tI)→H.Low≤b→H.Low≤w.heap.size→w.tape=H.w0.tape→∃ r,nS H.P false H.S (H.FinS i) r (fun c=>c=b) g w
def Ph.AtGo (i b:Nat) (Next:Goroutine→World→Prop) (g:Goroutine) (w:World):Prop:=
 g.status=.running∧∃ g' child,stepG H.P true g w=.spawn g' child w #[]∧H.Start i b child∧Next g' w
def Ph.NM (i b:Nat) (Next:Goroutine→World→Prop) (g:Goroutine) (w:World):Prop:=
 g.status=.running∧(w.heap[b]?=some (.cells #[.int .i64 0] H.tI)→∃ g',stepG H.P true g w=.go g' (w.setCell ⟨b,0,none⟩ (.int .i64 i)) #[⟨.cell ⟨b,0,none⟩,true,false⟩]∧∃ m,(Goes H.P true (RWg H.ty H.Wg) DC0) (H.AtGo i b Next) m g' (w.setCell ⟨b,0,none⟩ (.int .i64 i)))
def Ph.NN (i:Nat) (Next:Goroutine→World→Prop) (g:Goroutine) (w:World):Prop:=
 g.status=.running∧∃ g',stepG H.P true g w=.go g' { w with heap:=w.heap.push (.cells #[.int .i64 0] H.tI) } #[]∧∃ m,(Goes H.P true (RWg H.ty H.Wg) DC0) (H.NM i w.heap.size Next) m g' { w with heap:=w.heap.push (.cells #[.int .i64 0] H.tI) }
def Ph.Spawns (Fin:Goroutine→World→Prop):Nat→Goroutine→World→Prop
 | 0,g,w=>Fin g w
 | r+1,g,w=>∃ m,(Goes H.P true (RWg H.ty H.Wg) DC0) (H.NN (H.n - (r+1)) (Ph.Spawns Fin r)) m g w
def Ph.AtAcq (g:Goroutine) (w:World):Prop:=g.status=.running∧∃ g',stepG H.P true g w=.go g' w #[Go.ConcR.mk (.acquire (stA H.Wg))]∧g'.status=.running∧H.oL g' w
def Ph.AtKe (g:Goroutine) (w:World):Prop:=g.status=.running∧∃ g',stepG H.P true g w=.go g' w #[Go.ConcR.mk .enable]∧∃ m,(Goes H.P true (RWg H.ty H.Wg) DC0) H.AtAcq m g' w
def Ph.AtW4 (g:Goroutine) (w:World):Prop:=g.status=.running∧(WgAt H.ty H.Wg w 0 0→∃ g',stepG H.P true g w=.go g' w #[rd (stA H.Wg)]∧∃ m,(Goes H.P true (RWg H.ty H.Wg) DC0) H.AtKe m g' w)
def Ph.AtW3 (g:Goroutine) (w:World):Prop:=
 g.status=.running∧g.offers=none∧((∃ st,WgAt H.ty H.Wg w st 0)→stepG H.P true g w=.go { g with status:=.blocked } w #[]) ∧
  (WgAt H.ty H.Wg w 0 1→∃ g',stepG H.P true g w=.go g' (w.setCell (smA H.Wg) (.int .u32 0)) (semEvents (smA H.Wg))∧∃ m,(Goes H.P true (RWg H.ty H.Wg) DC0) H.AtW4 m g' (w.setCell (smA H.Wg) (.int .u32 0)))
def Ph.AtWr (g:Goroutine) (w:World):Prop:=g.status=.running∧∃ g',stepG H.P true g w=.go g' w #[Go.ConcR.mk (.write (smA H.Wg))]∧∃ m,(Goes H.P true (RWg H.ty H.Wg) DC0) H.AtW3 m g' w
variable (Anch:Goroutine→World→Prop)
def Ph.AtW2 (vs:Nat) (g:Goroutine) (w:World):Prop:=
 g.status=.running∧∀ v:Nat,v<2147483648→WgAt H.ty H.Wg w (v * KK) 0 →
  (v=vs→∃ g',stepG H.P true g w=.go g' (w.setCell (stA H.Wg) (.int .u64 (v * KK+1))) #[rd (stA H.Wg),wr (stA H.Wg)]∧∃ m,(Goes H.P true (RWg H.ty H.Wg) DC0) H.AtWr m g' (w.setCell (stA H.Wg) (.int .u64 (v * KK+1)))) ∧
  (v≠vs→∃ g',stepG H.P true g w=.go g' w #[rd (stA H.Wg)]∧∃ m,(Goes H.P true (RWg H.ty H.Wg) DC0) Anch m g' w)
def Ph.AtW1 (g:Goroutine) (w:World):Prop:=
 g.status=.running∧∀ v:Nat,v<2147483648→WgAt H.ty H.Wg w (v * KK) 0→∃ g',stepG H.P true g w=.go g' w #[rd (stA H.Wg)] ∧
  (v=0→∃ m,(Goes H.P true (RWg H.ty H.Wg) DC0) H.AtKe m g' w)∧(v≠0→∃ m,(Goes H.P true (RWg H.ty H.Wg) DC0) (H.AtW2 Anch v) m g' w)
def Ph.AtKd (g:Goroutine) (w:World):Prop:=g.status=.running∧∃ g',stepG H.P true g w=.go g' w #[Go.ConcR.mk .disable]∧∃ m,(Goes H.P true (RWg H.ty H.Wg) DC0) Anch m g' w
def Ph.Fin (g:Goroutine) (w:World):Prop:=∃ m,(Goes H.P true (RWg H.ty H.Wg) DC0) (H.AtKd Anch) m g w
inductive Tg where
 | sp (r s:Nat)|kd|anch|w1|w2 (vs:Nat)|wr|w3|blk|w4|ke|acq
def Tg.ct:Tg→CTag
 | .sp r s=>.sp r (s+4)
 | .kd=>.kd
 | .anch=>.anch
 | .w1=>.w1
 | .w2 vs=>.w2 vs
 | .wr|.w3=>.w3
 | .blk=>.blk
 | .w4=>.w4
 | .ke=>.ke
 | .acq=>.acq
def Tg.phi (n v:Nat):Tg→Nat
 | .sp r s=>8 * n+16+16 * r+s
 | .kd=>8 * n+7
 | .anch=>8 * v+6
 | .w1=>8 * v+5
 | .w2 vs=>8 * vs+4
 | .wr=>6
 | .w3=>5
 | .blk=>5
 | .w4=>4
 | .ke=>3
 | .acq=>2
inductive CS:Tg→Option (Nat × Value)→Nat→Nat→Nat→Goroutine→World→Prop
 | new {r m:Nat} {g:Goroutine} {w:World}:r<H.n→(Goes H.P true (RWg H.ty H.Wg) DC0) (H.NN (H.n - (r+1)) (H.Spawns (H.Fin Anch) r)) m g w→CS (.sp r 2) none (H.n - (r+1)) m 0 g w
 | sto {r m b:Nat} {g:Goroutine} {w:World}:r<H.n→(Goes H.P true (RWg H.ty H.Wg) DC0) (H.NM (H.n - (r+1)) b (H.Spawns (H.Fin Anch) r)) m g w→CS (.sp r 1) (some (b,.int .i64 0)) (H.n - (r+1)) m 0 g w
 | go {r m b:Nat} {g:Goroutine} {w:World}:r<H.n→(Goes H.P true (RWg H.ty H.Wg) DC0) (H.AtGo (H.n - (r+1)) b (H.Spawns (H.Fin Anch) r)) m g w→CS (.sp r 0) (some (b,.int .i64 ((H.n - (r+1):Nat):Int))) (H.n - (r+1)) m 0 g w
 | kd {m:Nat} {g:Goroutine} {w:World}:(Goes H.P true (RWg H.ty H.Wg) DC0) (H.AtKd Anch) m g w→CS .kd none H.n m 0 g w
 | anch {m:Nat} {g:Goroutine} {w:World}:(Goes H.P true (RWg H.ty H.Wg) DC0) Anch m g w→CS .anch none H.n m 1 g w
 | w1 {m:Nat} {g:Goroutine} {w:World}:(Goes H.P true (RWg H.ty H.Wg) DC0) (H.AtW1 Anch) m g w→CS .w1 none H.n m 1 g w
 | w2 {vs m:Nat} {g:Goroutine} {w:World}:(Goes H.P true (RWg H.ty H.Wg) DC0) (H.AtW2 Anch vs) m g w→CS (.w2 vs) none H.n m 1 g w
 | wr {m:Nat} {g:Goroutine} {w:World}:(Goes H.P true (RWg H.ty H.Wg) DC0) H.AtWr m g w→CS .wr none H.n m 1 g w
 | w3 {m:Nat} {g:Goroutine} {w:World}:(Goes H.P true (RWg H.ty H.Wg) DC0) H.AtW3 m g w→CS .w3 none H.n (m+1) 1 g w
 | blk {g:Goroutine} {w:World}:(∀ w₁,RWg H.ty H.Wg w w₁→H.AtW3 g w₁)→CS .blk none H.n 0 1 { g with status:=.blocked } w
 | w4 {m:Nat} {g:Goroutine} {w:World}:(Goes H.P true (RWg H.ty H.Wg) DC0) H.AtW4 m g w→CS .w4 none H.n m 1 g w
 | ke {m:Nat} {g:Goroutine} {w:World}:(Goes H.P true (RWg H.ty H.Wg) DC0) H.AtKe m g w→CS .ke none H.n m 1 g w
 | acq {m:Nat} {g:Goroutine} {w:World}:(Goes H.P true (RWg H.ty H.Wg) DC0) H.AtAcq m g w→CS .acq none H.n m 0 g w
end
end Ren
end
