/- What one walk does, another one does that lies on other numbers of blocks: the relation between two walks of the model, operation by operation. Conditions: none. -/
import GoSem.Step
import Derived.Laws.Sem
set_option linter.unusedVariables false
set_option linter.unusedSimpArgs false
section
namespace Ren
open Go
abbrev Map:=Nat→Nat→Prop
def Map.le (ρ σ:Map):Prop:=∀ b c,ρ b c→σ b c
theorem Map.le_refl (ρ:Map):ρ.le ρ:=fun _ _ h=>h
theorem Map.le_trans {ρ σ τ:Map} (h:ρ.le σ) (k:σ.le τ):ρ.le τ:=fun b c x=>k b c (h b c x)
class aW where
 g:Nat
 sh:Nat→Nat
variable [aW]
def AR (ρ:Map) (a b:Addr):Prop:=ρ a.block b.block∧a.off+aW.sh a.block=b.off∧a.spot=b.spot∧aW.g≤a.block
inductive VR (ρ:Map):Value→Value→Prop
 | bool (b:Bool):VR ρ (.bool b) (.bool b)
 | int (k:IntKind) (n:Int):VR ρ (.int k n) (.int k n)
 | ptr0:VR ρ (.pointer none) (.pointer none)
 | ptr (a b:Addr) (h:AR ρ a b):VR ρ (.pointer (some a)) (.pointer (some b))
 | tV (l c:Nat):VR ρ (.slice none l c) (.slice none l c)
 | nY (q:Option Addr) (c:Nat):VR ρ (.slice none 0 c) (.slice q 0 c)
 | slice (a b:Addr) (l c:Nat) (h:AR ρ a b):VR ρ (.slice (some a) l c) (.slice (some b) l c)
 | agg (xs ys:Array Value) (hs:xs.size=ys.size) (h:∀ (i:Nat) (h1:i<xs.size) (h2:i<ys.size),VR ρ xs[i] ys[i]):VR ρ (.agg xs) (.agg ys)
 | tuple (xs ys:Array Value) (hs:xs.size=ys.size) (h:∀ (i:Nat) (h1:i<xs.size) (h2:i<ys.size),VR ρ xs[i] ys[i]):VR ρ (.tuple xs) (.tuple ys)
structure RR (ρ:Map) (xs ys:Array Value):Prop where
 size:xs.size=ys.size
 at_:∀ (i:Nat) (h1:i<xs.size) (h2:i<ys.size),VR ρ xs[i] ys[i]
theorem AR.mono {ρ σ:Map} (h:ρ.le σ) {a b:Addr} (k:AR ρ a b):AR σ a b:=⟨h _ _ k.1,k.2⟩
theorem VR.mono {ρ σ:Map} (h:ρ.le σ) {v w:Value} (k:VR ρ v w):VR σ v w:=by
 induction k with
 | bool b=>exact .bool b
 | int k n=>exact .int k n
 | ptr0=>exact .ptr0
 | ptr a b x=>exact .ptr a b (x.mono h)
 | tV l c=>exact .tV l c
 | nY q c=>exact .nY q c
 | slice a b l c x=>exact .slice a b l c (x.mono h)
 | agg xs ys hs _ ih=>exact .agg xs ys hs ih
 | tuple xs ys hs _ ih=>exact .tuple xs ys hs ih
theorem RR.mono {ρ σ:Map} (h:ρ.le σ) {v w:Array Value} (k:RR ρ v w):RR σ v w:=⟨k.size,fun i h1 h2=>(k.at_ i h1 h2).mono h⟩
section
variable {ρ:Map} {xs ys us vs:Array Value}
theorem RR.nil:RR ρ #[] #[]:=⟨rfl,fun i h1 _=>by simp at h1⟩
theorem RR.push (h:RR ρ xs ys) {u v:Value} (k:VR ρ u v):RR ρ (xs.push u) (ys.push v):=by
 refine ⟨by simp [h.size],fun i h1 h2=>?_⟩
 simp only [Array.size_push] at h1 h2
 rw [Array.getElem_push,Array.getElem_push]
 by_cases hi:i<xs.size
 ·have hi':i<ys.size:=h.size ▸ hi
  simp only [hi,hi',↓reduceDIte];exact h.at_ i hi hi'
 ·have hi':¬ i<ys.size:=h.size ▸ hi
  simp only [hi,hi',↓reduceDIte];exact k
theorem RR.append (h:RR ρ xs ys) (k:RR ρ us vs):RR ρ (xs++us) (ys++vs):=by
 refine ⟨by simp [h.size,k.size],fun i h1 h2=>?_⟩
 rw [Array.getElem_append,Array.getElem_append]
 by_cases hi:i<xs.size
 ·have hi':i<ys.size:=h.size ▸ hi
  simp only [hi,hi',↓reduceDIte];exact h.at_ i hi hi'
 ·have hi':¬ i<ys.size:=h.size ▸ hi
  simp only [hi,hi',↓reduceDIte]
  have e:i - xs.size=i - ys.size:=by rw [h.size]
  simp only [e]
  exact k.at_ _ (by simp at h1;omega) (by simp at h2;omega)
theorem RR.get? (h:RR ρ xs ys) (i:Nat):(xs[i]?=none∧ys[i]?=none)∨∃ u v,xs[i]?=some u∧ys[i]?=some v∧VR ρ u v:=by
 by_cases hi:i<xs.size
 ·have hi':i<ys.size:=h.size ▸ hi
  exact .inr ⟨xs[i],ys[i],by simp [hi],by simp [hi'],h.at_ i hi hi'⟩
 ·have hi':¬ i<ys.size:=h.size ▸ hi
  exact .inl ⟨by simp;omega,by simp;omega⟩
theorem RR.getD (h:RR ρ xs ys) (i:Nat) {u v:Value} (k:VR ρ u v):VR ρ (xs.getD i u) (ys.getD i v):=by
 rcases h.get? i with ⟨e,e'⟩|⟨a,b,e,e',r⟩
 ·simpa [Array.getD_eq_getD_getElem?,e,e'] using k
 ·simpa [Array.getD_eq_getD_getElem?,e,e'] using r
theorem RR.set (h:RR ρ xs ys) (i:Nat) {u v:Value} (k:VR ρ u v):RR ρ (xs.setIfInBounds i u) (ys.setIfInBounds i v):=by
 refine ⟨by simp [h.size],fun j h1 h2=>?_⟩
 simp only [Array.size_setIfInBounds] at h1 h2
 rw [Array.getElem_setIfInBounds (by simpa using h1),Array.getElem_setIfInBounds (by simpa using h2)]
 by_cases hj:i=j
 ·simp only [hj,↓reduceIte];exact k
 ·simp only [hj,↓reduceIte];exact h.at_ j h1 h2
theorem RR.extract (h:RR ρ xs ys) (a b:Nat):RR ρ (xs.extract a b) (ys.extract a b):=by
 refine ⟨by simp [h.size],fun j h1 h2=>?_⟩
 rw [Array.getElem_extract,Array.getElem_extract]
 simp only [Array.size_extract] at h1 h2
 exact h.at_ _ (by omega) (by omega)
theorem RR.Mj {l m:List Value} (hs:l.length=m.length) (h:∀ (i:Nat) (h1:i<l.length) (h2:i<m.length),VR ρ l[i] m[i]):RR ρ l.toArray m.toArray:=
 ⟨by simpa using hs,fun i h1 h2=>by simpa using h i (by simpa using h1) (by simpa using h2)⟩
theorem VR.cells {u v:Value} (h:VR ρ u v):RR ρ u.cells v.cells:=by
 have one:∀ {u v:Value},VR ρ u v→RR ρ #[u] #[v]:=fun k=>⟨rfl,fun i h1 h2=>by
  simp only [List.size_toArray,List.length_cons,List.length_nil] at h1
  have:i=0:=by omega
  subst this;simpa using k⟩
 cases h with
 | agg xs ys hs h=>exact ⟨hs,h⟩
 | _=>exact one (by constructor<;>assumption)
end
variable (P:Program)
def Ex:Halt→Prop
 | .unsupported (.initOrder _)=>False
 | .unsupported _|.panic _|.stuck _=>True
 | _=>False
def aD {α:Type}:Sem α→Prop
 | .halt h=>Ex h
 | .new _ k=>∀ r,aD (k r)
 | .shape _ k=>∀ x,aD (k x)
 | .frozen _ k=>∀ b,aD (k b)
 | .choose _ k=>∀ n,aD (k n)
 | .program k=>aD (k P)
 | .mark _ k=>aD k
 | _=>False
def RS {α β:Type} (A:Map→α→β→Prop):Map→Sem α→Sem β→Prop
 | _,.halt h,_=>Ex h
 | ρ,.pure a,s=>∃ b,s=.pure b∧A ρ a b
 | ρ,.load m a k,s=>∃ a' k',s=.load m a' k'∧m=.plain∧AR ρ a a'∧∀ v v',VR ρ v v'→RS A ρ (k v) (k' v')
 | ρ,.store m a v k,s=>∃ a' v' k',s=.store m a' v' k'∧m=.plain∧AR ρ a a'∧VR ρ v v'∧RS A ρ k k'
 | ρ,.new o k,s=>aD P (.new o k)∨∃ c e c' k',s=.new (.cells c' e (0,0)) k'∧o=.cells c e (0,0)∧RR ρ c c'∧∀ (σ:Map) r r',ρ.le σ→σ r r'→aW.g≤r→aW.sh r=0→RS A σ (k r) (k' r')
 | ρ,.shape r k,s=>aD P (.shape r k)∨∃ r' k',s=.shape r' k'∧ρ r r'∧∀ x x',x.isSome=true→x'.isSome=true→RS A ρ (k x) (k' x')
 | _,.frozen a k,_=>aD P (.frozen a k)
 | ρ,.choose q k,s=>aD P (.choose q k)∨∃ k',s=.choose q k'∧∀ n,RS A ρ (k n) (k' n)
 | ρ,.program k,s=>aD P (.program k)∨∃ k',s=.program k'∧RS A ρ (k P) (k' P)
 | ρ,.mark m k,s=>aD P (.mark m k)∨∃ k',s=.mark m k'∧m=.noRoom∧RS A ρ k k'
 | _,.freeze ..,_|_,.getObj ..,_|_,.setObj ..,_|_,.sys ..,_=>False
variable {P}
omit [aW] in
theorem aD.bind {α β:Type} {f:α→Sem β} {s:Sem α} (h:aD P s):aD P (s.bind f):=by
 induction s with
 | new o q ih=>exact fun v=>ih v (h v)
 | shape r q ih=>exact fun v=>ih v (h v)
 | frozen a q ih=>exact fun v=>ih v (h v)
 | choose q q' ih=>exact fun v=>ih v (h v)
 | program q ih=>exact ih P h
 | mark m q ih=>exact ih h
 | halt x=>exact h
 | _=>exact h.elim
theorem RS.jP {α β:Type} {A:Map→α→β→Prop} {ρ:Map} {s:Sem α} {t:Sem β} (h:aD P s):RS P A ρ s t:=by
 cases s with
 | new o k=>exact Or.inl h
 | choose q k=>exact Or.inl h
 | shape r q=>exact Or.inl h
 | program q=>exact Or.inl h
 | mark m q=>exact Or.inl h
 | frozen a q=>exact h
 | halt x=>exact h
 | _=>exact h.elim
theorem RS.bind {α β γ δ:Type} {A:Map→α→β→Prop} {B:Map→γ→δ→Prop} {f:α→Sem γ} {g:β→Sem δ} {s:Sem α} :
  ∀ {t:Sem β} {ρ:Map},RS P A ρ s t→(∀ σ a b,ρ.le σ→A σ a b→RS P B σ (f a) (g b))→RS P B ρ (s.bind f) (t.bind g):=by
 induction s with
 | pure a=>
  rintro t ρ ⟨b,rfl,h⟩ k
  exact k ρ _ _ (Map.le_refl ρ) h
 | load m a q ih=>
  rintro t ρ ⟨a',k',rfl,h1,h2,h⟩ k
  exact ⟨_,_,rfl,h1,h2,fun v v' hv=>ih v (h v v' hv) k⟩
 | store m a v q ih=>
  rintro t ρ ⟨a',v',k',rfl,h1,h2,h3,h⟩ k
  exact ⟨_,_,_,rfl,h1,h2,h3,ih h k⟩
 | new o q ih=>
  rintro t ρ (h|⟨c,e,c',k',rfl,h1,h2,h⟩) k
  ·exact Or.inl (aD.bind (s:=.new o q) h)
  ·exact Or.inr ⟨_,_,_,_,rfl,h1,h2,fun σ r r' hl hr hg hz=>ih r (h σ r r' hl hr hg hz) fun τ a b h1 h2=>k τ a b (Map.le_trans hl h1) h2⟩
 | shape r q ih=>
  rintro t ρ (h|⟨r',k',rfl,h1,h⟩) k
  ·exact Or.inl (aD.bind (s:=.shape r q) h)
  ·exact Or.inr ⟨_,_,rfl,h1,fun x x' hx hx'=>ih x (h x x' hx hx') k⟩
 | frozen a q ih=>intro t ρ h k;exact aD.bind (s:=.frozen a q) h
 | choose q q' ih=>
  rintro t ρ (h|⟨k',rfl,h⟩) k
  ·exact Or.inl (aD.bind (s:=.choose q q') h)
  ·exact Or.inr ⟨_,rfl,fun n=>ih n (h n) k⟩
 | program q ih=>
  rintro t ρ (h|⟨k',rfl,h⟩) k
  ·exact Or.inl (aD.bind (s:=.program q) h)
  ·exact Or.inr ⟨_,rfl,ih P h k⟩
 | mark m q ih=>
  rintro t ρ (h|⟨k',rfl,h1,h⟩) k
  ·exact Or.inl (aD.bind (s:=.mark m q) h)
  ·exact Or.inr ⟨_,rfl,h1,ih h k⟩
 | halt x=>intro t ρ h k;exact h
 | _=>intro t ρ h k;exact h.elim
end Ren
end
section
namespace Ren
open Go
variable [aW] {P:Program}
def frz (z:Nat × Nat) (off:Nat):Bool:=z.1≤off && off<z.2
def WR (ρ:Map) (s:Nat) (xs ys:Array Value):Prop:=∀ (i:Nat) (h1:i<xs.size),∃ h2:i+s<ys.size,VR ρ xs[i] (ys[i+s]'h2)
structure HR (ρ:Map) (n0:Nat) (wl wc:World):Prop where
 inj:∀ b b' c,ρ b c→ρ b' c→b=b'
 fn:∀ b c c',ρ b c→ρ b c'→c=c'
 cells:∀ b c,ρ b c→∃ xs e z ys z',wl.heap[b]?=some (.cells xs e z)∧wc.heap[c]?=some (.cells ys e z')∧WR ρ (aW.sh b) xs ys∧(n0≤b→aW.sh b=0∧xs.size=ys.size∧∀ off,frz z' off=true→frz z off=true) ∧
  (b<n0→∀ off,off<xs.size→frz z off=true)
 tape:wl.tape=wc.tape
 drawn:wl.drawn=wc.drawn
 low:n0≤wl.heap.size
 AL:aW.g≤n0
 shz:∀ b,n0≤b→aW.sh b=0
def Ev (σ:Map) (n0:Nat) (e:Event):Prop:=
 (∃ a b wr,e=⟨.cell a,wr,false⟩∧σ b a.block∧(wr=true→n0≤b))∨e=⟨.mark .noRoom,false,true⟩
structure Grow (ρ σ:Map) (n0:Nat) (wl wc wl' wc':World) (fs:Array Event):Prop where
 le:ρ.le σ
 fresh:∀ b c,σ b c→ρ b c∨(wl.heap.size≤b∧wc.heap.size≤c∧c<wc'.heap.size)
 mine:∀ c,wc.heap.size≤c→c<wc'.heap.size→∃ b,wl.heap.size≤b∧σ b c
 xy:wl.heap.size≤wl'.heap.size
 size:wc.heap.size≤wc'.heap.size
 same:∀ c,c<wc.heap.size→(∀ b,ρ b c→b<n0)→wc'.heap[c]?=wc.heap[c]?
 tape:wc'.tape=wc.tape
 os:wc'.os=wc.os
 output:wc'.output=wc.output
 evs:∀ e∈fs,Ev σ n0 e
omit [aW] in
theorem Ev.mono {σ τ:Map} (h:σ.le τ) {n0:Nat} {e:Event} (k:Ev σ n0 e):Ev τ n0 e:=by
 rcases k with ⟨a,b,wr,e1,e2,e3⟩|k
 ·exact .inl ⟨a,b,wr,e1,h _ _ e2,e3⟩
 ·exact .inr k
omit [aW] in
theorem Grow.refl (ρ:Map) (n0:Nat) (wl wc:World):Grow ρ ρ n0 wl wc wl wc #[]:=
 ⟨Map.le_refl ρ,fun _ _ h=>.inl h,fun c h1 h2=>absurd h1 (by omega),Nat.le_refl _,Nat.le_refl _,fun _ _ _=>rfl,rfl,rfl,rfl,fun e he=>by simp at he⟩
omit [aW] in
theorem Grow.trans {ρ σ τ:Map} {n0:Nat} {wl wc wl1 wc1 wl2 wc2:World} {fs gs:Array Event} (hn:n0≤wl.heap.size) (h:Grow ρ σ n0 wl wc wl1 wc1 fs) (k:Grow σ τ n0 wl1 wc1 wl2 wc2 gs):Grow ρ τ n0 wl wc wl2 wc2 (fs++gs):=by
 refine ⟨Map.le_trans h.le k.le,fun b c x=>?_,fun c h1 h2=>?_,Nat.le_trans h.xy k.xy,Nat.le_trans h.size k.size,fun c hc hx=>?_,k.tape.trans h.tape,k.os.trans h.os,k.output.trans h.output,fun e he=>?_⟩
 ·rcases k.fresh b c x with y|⟨y1,y2,y3⟩
  ·rcases h.fresh b c y with z|⟨z1,z2,z3⟩
   ·exact .inl z
   ·exact .inr ⟨z1,z2,Nat.lt_of_lt_of_le z3 k.size⟩
  ·exact .inr ⟨Nat.le_trans h.xy y1,Nat.le_trans h.size y2,y3⟩
 ·rcases Nat.lt_or_ge c wc1.heap.size with x|x
  ·obtain ⟨b,hb,hs⟩:=h.mine c h1 x
   exact ⟨b,hb,k.le _ _ hs⟩
  ·obtain ⟨b,hb,hs⟩:=k.mine c x h2
   exact ⟨b,Nat.le_trans h.xy hb,hs⟩
 ·rw [k.same c (Nat.lt_of_lt_of_le hc h.size) (fun b hb=>?_),h.same c hc hx]
  rcases h.fresh b c hb with z|⟨_,z2,_⟩
  ·exact hx b z
  ·omega
 ·rcases Array.mem_append.1 he with x|x
  ·exact (h.evs e x).mono k.le
  ·exact k.evs e x
omit [aW] in
theorem eU {α:Type} {m:Mode} {a:Addr} {v:Value} {k:Sem α} {w:World} {es:Array Event} (h1:∀ c,v≠.agg c) (h2:∀ c,v≠.tuple c) :
  (Sem.store m a v k).runT P w es=match w.cell? a with
   | some _=>
    if w.frozen? a then (.halt (.unsupported (.unsafePointer "a write to bytes that a string shares")) w,es)
    else k.runT P (w.setCell a v) (es.push ⟨.cell a,true,m == .atomic⟩)
   | none=>match w.farStore P a v (m == .atomic) with
    | .ok (w,touched)=>k.runT P w (es++touched.toArray.map (⟨.cell ·,true,m == .atomic⟩))
    | .error h=>(.halt h w,es):=by
 cases v<;>first|rfl|exact absurd rfl (h1 _)|exact absurd rfl (h2 _)
omit [aW] in
theorem cO {α:Type} {m:Mode} {a:Addr} {v:Value} {k:Sem α} {w:World} {es:Array Event} (h:(∃ c,v=.agg c)∨∃ c,v=.tuple c) :
  (Sem.store m a v k).runT P w es=(.halt (.stuck "store: not the value of one cell") w,es):=by
 rcases h with ⟨c,rfl⟩|⟨c,rfl⟩<;>rfl
omit [aW] in
theorem rJ {α:Type} {s:Sem α}:∀ {w:World} {es:Array Event},aD P s→∃ h w' fs,s.runT P w es=(.halt h w',fs)∧Ex h:=by
 induction s with
 | new o q ih=>intro w es h;unfold Sem.runT;exact ih _ (h _)
 | shape x q ih=>intro w es h;unfold Sem.runT;exact ih _ (h _)
 | frozen a q ih=>intro w es h;unfold Sem.runT;exact ih _ (h _)
 | choose q q' ih=>
  intro w es h
  unfold Sem.runT
  split
  ·exact ih _ (h _)
  ·exact ih _ (h _)
 | program q ih=>intro w es h;unfold Sem.runT;exact ih P h
 | mark m q ih=>intro w es h;unfold Sem.runT;exact ih h
 | halt x=>intro w es h;exact ⟨x,w,es,rfl,h⟩
 | _=>intro w es h;exact h.elim
omit [aW] in
theorem iP {α:Type} {s:Sem α} {w:World} {es:Array Event} {a:α} {w':World} {fs:Array Event} (h:aD P s) (r:s.runT P w es=(.ok a w',fs)):False:=by
 obtain ⟨x,w1,fs1,e,_⟩:=rJ (w:=w) (es:=es) h
 rw [e] at r;simp at r
section
variable {ρ:Map} {n0:Nat} {wl wc:World} {a a':Addr}
theorem HR.ltL (h:HR ρ n0 wl wc) {b c:Nat} (k:ρ b c):b<wl.heap.size:=by
 obtain ⟨xs,e,z,ys,z',h1,_⟩:=h.cells b c k
 exact (Array.getElem?_eq_some_iff.1 h1).1
theorem HR.ltC (h:HR ρ n0 wl wc) {b c:Nat} (k:ρ b c):c<wc.heap.size:=by
 obtain ⟨xs,e,z,ys,z',_,h1,_⟩:=h.cells b c k
 exact (Array.getElem?_eq_some_iff.1 h1).1
theorem HR.cell (h:HR ρ n0 wl wc) (k:AR ρ a a') {v:Value} (hv:wl.cell? a=some v):∃ v',wc.cell? a'=some v'∧VR ρ v v':=by
 obtain ⟨xs,e,z,ys,z',h1,h2,h3,_⟩:=h.cells _ _ k.1
 simp only [World.cell?,h1,h2] at hv ⊢
 rw [← k.2.2.1,← k.2.1]
 by_cases hs:a.spot.isSome=true
 ·simp [hs] at hv
 ·simp only [hs,Bool.false_eq_true,↓reduceIte] at hv ⊢
  obtain ⟨hlt,rfl⟩:=Array.getElem?_eq_some_iff.1 hv
  obtain ⟨h4,h5⟩:=h3 _ hlt
  exact ⟨_,Array.getElem?_eq_getElem h4,h5⟩
theorem HR.Lf (h:HR ρ n0 wl wc) (k:AR ρ a a') (at_:Bool):∃ x,wl.farLoad P a at_=.error x:=by
 obtain ⟨xs,e,z,ys,z',h1,_⟩:=h.cells _ _ k.1
 exact ⟨wl.noCell a "load: no such cell",by simp only [World.farLoad,h1]⟩
theorem HR.noFarS (h:HR ρ n0 wl wc) (k:AR ρ a a') (v:Value) (at_:Bool):∃ x,wl.farStore P a v at_=.error x:=by
 obtain ⟨xs,e,z,ys,z',h1,_⟩:=h.cells _ _ k.1
 exact ⟨wl.noCell a "store: no such cell",by simp only [World.farStore,h1]⟩
theorem HR.iF (h:HR ρ n0 wl wc) {b c:Nat} (k:ρ b c):(wl.shape? b).isSome=true∧(wc.shape? c).isSome=true:=by
 obtain ⟨xs,e,z,ys,z',h1,h2,h3,_⟩:=h.cells _ _ k
 simp only [World.shape?,h1,h2,Option.isSome_some,and_self]
omit [aW] in
theorem heap_setCell (w:World) (a:Addr) (v:Value) (b:Nat):(w.setCell a v).heap[b]? =
  if a.block=b then (w.heap[b]?).map (fun|.cells c e z=>.cells (if a.spot.isSome then c else c.setIfInBounds a.off v) e z|o=>o) else w.heap[b]?:=by
 simp only [World.setCell,Array.getElem?_modify]
 by_cases h:a.block=b
 ·simp only [h,↓reduceIte]
  cases w.heap[b]? with
  | none=>rfl
  | some o=>cases o<;>rfl
 ·simp only [h,↓reduceIte]
omit [aW] in
theorem size_setCell (w:World) (a:Addr) (v:Value):(w.setCell a v).heap.size=w.heap.size:=by simp [World.setCell]
theorem HR.MX (h:HR ρ n0 wl wc) (k:AR ρ a a') (hn:n0≤a.block) (hf:wl.frozen? a=false):wc.frozen? a'=false:=by
 obtain ⟨xs,e,z,ys,z',h1,h2,h3,h4,_⟩:=h.cells _ _ k.1
 simp only [World.frozen?,h1,h2] at hf ⊢
 have:=(h4 hn).2.2 a.off
 rw [← k.2.1,(h4 hn).1,Nat.add_zero]
 simp only [frz] at this
 cases hc:(decide (z'.1≤a.off) && decide (a.off<z'.2)) with
 | false=>rfl
 | true=>rw [this hc] at hf;cases hf
theorem HR.own (h:HR ρ n0 wl wc) (k:AR ρ a a') {v:Value} (hv:wl.cell? a=some v) (hf:wl.frozen? a=false):n0≤a.block:=by
 obtain ⟨xs,e,z,ys,z',h1,h2,h3,h4,h5⟩:=h.cells _ _ k.1
 refine Nat.le_of_not_lt fun hb=>?_
 simp only [World.frozen?,World.cell?,h1] at hf hv
 have hlt:a.off<xs.size:=by
  by_cases hs:a.spot.isSome=true
  ·simp [hs] at hv
  ·simp only [hs,Bool.false_eq_true,↓reduceIte] at hv
   exact (Array.getElem?_eq_some_iff.1 hv).1
 have:=h5 hb _ hlt
 simp only [frz] at this
 rw [this] at hf;cases hf
theorem WR.set {s:Nat} {xs ys:Array Value} (h:WR ρ s xs ys) (hs:s=0) (i:Nat) {v v':Value} (hv:VR ρ v v'):WR ρ s (xs.setIfInBounds i v) (ys.setIfInBounds i v'):=by
 subst hs
 intro j hj
 rw [Array.size_setIfInBounds] at hj
 obtain ⟨h2,h3⟩:=h j hj
 refine ⟨by rw [Array.size_setIfInBounds];exact h2,?_⟩
 simp only [Nat.add_zero] at h2 h3 ⊢
 rw [Array.getElem_setIfInBounds,Array.getElem_setIfInBounds]
 by_cases e:i=j
 ·simp only [e,↓reduceIte];exact hv
 ·simp only [e,↓reduceIte];exact h3
theorem HR.set (h:HR ρ n0 wl wc) (k:AR ρ a a') (hn:n0≤a.block) {v v':Value} (hv:VR ρ v v'):HR ρ n0 (wl.setCell a v) (wc.setCell a' v'):=by
 refine ⟨h.inj,h.fn,fun b c hbc=>?_,h.tape,h.drawn,by rw [size_setCell];exact h.low,h.AL,h.shz⟩
 obtain ⟨xs,e,z,ys,z',h1,h2,h3,h4,h5⟩:=h.cells b c hbc
 rw [heap_setCell,heap_setCell,h1,h2]
 by_cases hb:a.block=b
 ·have hc:a'.block=c:=h.fn _ _ _ k.1 (hb ▸ hbc)
  have hz:=h.shz _ hn
  simp only [hb,hc,↓reduceIte,Option.map_some]
  rw [← k.2.2.1,← k.2.1,hz,Nat.add_zero]
  rw [hb] at hz hn
  refine ⟨_,_,_,_,_,rfl,rfl,?_,fun hn=>⟨hz,?_,(h4 hn).2.2⟩,fun hlt off ho=>h5 hlt off ?_⟩
  ·by_cases hs:a.spot.isSome=true
   ·simp only [hs,↓reduceIte];exact h3
   ·simp only [hs,Bool.false_eq_true,↓reduceIte];exact h3.set hz _ hv
  ·by_cases hs:a.spot.isSome=true
   ·simp only [hs,↓reduceIte];exact (h4 hn).2.1
   ·simp only [hs,Bool.false_eq_true,↓reduceIte,Array.size_setIfInBounds];exact (h4 hn).2.1
  ·by_cases hs:a.spot.isSome=true
   ·simpa [hs] using ho
   ·simpa [hs] using ho
 ·have hc:a'.block≠c:=fun e'=>hb (h.inj _ _ _ k.1 (e' ▸ hbc))
  simp only [hb,hc,↓reduceIte]
  exact ⟨_,_,_,_,_,rfl,rfl,h3,h4,h5⟩
def Map.more (ρ:Map) (b c:Nat):Map:=fun x y=>ρ x y∨(x=b∧y=c)
theorem HR.new (h:HR ρ n0 wl wc) {xs ys:Array Value} (e:TypeId) (r:RR ρ xs ys) :
  HR (ρ.more wl.heap.size wc.heap.size) n0 { wl with heap:=wl.heap.push (.cells xs e (0,0)) } { wc with heap:=wc.heap.push (.cells ys e (0,0)) }:=by
 have hle:ρ.le (ρ.more wl.heap.size wc.heap.size):=fun _ _ x=>.inl x
 refine ⟨?_,?_,?_,h.tape,h.drawn,by simp;have:=h.low;omega,h.AL,h.shz⟩
 ·rintro b b' c (h1|⟨rfl,rfl⟩) (h2|⟨rfl,h3⟩)
  ·exact h.inj _ _ _ h1 h2
  ·have:=h.ltC h1;omega
  ·have:=h.ltC h2;omega
  ·rfl
 ·rintro b c c' (h1|⟨rfl,rfl⟩) (h2|⟨h3,rfl⟩)
  ·exact h.fn _ _ _ h1 h2
  ·have:=h.ltL h1;omega
  ·have:=h.ltL h2;omega
  ·rfl
 ·rintro b c (h1|⟨rfl,rfl⟩)
  ·obtain ⟨xs,e,z,ys,z',k1,k2,k3,k4⟩:=h.cells b c h1
   have hb:=h.ltL h1
   have hc:=h.ltC h1
   refine ⟨xs,e,z,ys,z',?_,?_,fun i hi=>⟨(k3 i hi).1,(k3 i hi).2.mono hle⟩,k4⟩
   ·simp only [Array.getElem?_push];rw [if_neg (by omega)];exact k1
   ·simp only [Array.getElem?_push];rw [if_neg (by omega)];exact k2
  ·have hz:=h.shz _ h.low
   refine ⟨xs,e,(0,0),ys,(0,0),by simp,by simp,fun i hi=>?_,fun _=>⟨hz,r.size,fun _ x=>x⟩,fun hlt=>?_⟩
   ·have h2:i<ys.size:=r.size ▸ hi
    refine ⟨by rw [hz];exact h2,?_⟩
    simp only [hz,Nat.add_zero]
    exact (r.at_ i hi h2).mono hle
   ·have:=h.low;omega
end
omit [aW] in
theorem Grow.ev {ρ:Map} {n0:Nat} {wl wc:World} {e:Event} (h:Ev ρ n0 e):Grow ρ ρ n0 wl wc wl wc #[e]:=
 ⟨Map.le_refl ρ,fun _ _ h=>.inl h,fun c h1 h2=>absurd h1 (by omega),Nat.le_refl _,Nat.le_refl _,fun _ _ _=>rfl,rfl,rfl,rfl,fun x hx=>by simp at hx;subst hx;exact h⟩
theorem RS.run {α β:Type} {A:Map→α→β→Prop} {n0:Nat} {s:Sem α}:∀ {t:Sem β} {ρ:Map} {wl wc:World} {es es':Array Event} {a:α} {wl':World} {fs:Array Event},
  RS P A ρ s t→HR ρ n0 wl wc→s.runT P wl es=(.ok a wl',fs) →
  ∃ σ b wc' gs,t.runT P wc es'=(.ok b wc',es'++gs)∧A σ a b∧HR σ n0 wl' wc'∧Grow ρ σ n0 wl wc wl' wc' gs:=by
 induction s with
 | pure a=>
  rintro t ρ wl wc es es' b wl' fs ⟨c,rfl,h⟩ hr r
  simp only [Sem.runT,Prod.mk.injEq,Result.ok.injEq] at r
  obtain ⟨⟨rfl,rfl⟩,rfl⟩:=r
  exact ⟨ρ,c,wc,#[],by simp [Sem.runT],h,hr,.refl _ _ _ _⟩
 | load m a q ih=>
  rintro t ρ wl wc es es' b wl' fs ⟨a',k',rfl,rfl,h2,h⟩ hr r
  unfold Sem.runT at r
  split at r
  ·rename_i v hv
   obtain ⟨v',hv',hvr⟩:=hr.cell h2 hv
   obtain ⟨σ,c,wc',gs,h3,h4,h5,h6⟩:=ih v (es':=es'.push ⟨.cell a',false,false⟩) (h v v' hvr) hr r
   refine ⟨σ,c,wc',#[⟨.cell a',false,false⟩]++gs,?_,h4,h5,(Grow.ev (.inl ⟨a',_,false,rfl,h2.1,by simp⟩)).trans hr.low h6⟩
   rw [Sem.runT,hv']
   simp only [show (Mode.plain == Mode.atomic)=false from rfl]
   rw [h3];simp
  ·obtain ⟨x,hx⟩:=hr.Lf (P:=P) h2 (Mode.plain == Mode.atomic)
   rw [hx] at r;simp at r
 | store m a v q ih=>
  rintro t ρ wl wc es es' b wl' fs ⟨a',v',k',rfl,rfl,h2,h3,h⟩ hr r
  by_cases hv:(∃ c,v=.agg c)∨∃ c,v=.tuple c
  ·rw [cO hv] at r;simp at r
  ·rw [eU (fun c e=>hv (.inl ⟨c,e⟩)) (fun c e=>hv (.inr ⟨c,e⟩))] at r
   have hv1:∀ c,v'≠.agg c:=fun c e=>by subst e;cases h3;exact hv (.inl ⟨_,rfl⟩)
   have hv2:∀ c,v'≠.tuple c:=fun c e=>by subst e;cases h3;exact hv (.inr ⟨_,rfl⟩)
   split at r
   ·rename_i u hu
    split at r
    ·simp at r
    ·rename_i hf
     rw [Bool.not_eq_true] at hf
     obtain ⟨u',hu',_⟩:=hr.cell h2 hu
     have hn:=hr.own h2 hu hf
     have hfc:=hr.MX h2 hn hf
     obtain ⟨σ,c,wc',gs,k3,k4,k5,k6⟩:=ih (es':=es'.push ⟨.cell a',true,false⟩) h (hr.set h2 hn h3) r
     refine ⟨σ,c,wc',#[⟨.cell a',true,false⟩]++gs,?_,k4,k5,Grow.trans (wl1:=wl.setCell a v) (wc1:=wc.setCell a' v') hr.low ⟨Map.le_refl ρ,fun _ _ h=>.inl h,fun c h1 h2=>?_,by rw [size_setCell];omega,by rw [size_setCell];omega,fun c hc hx=>?_,rfl,rfl,rfl,fun e he=>?_⟩ k6⟩
     ·rw [eU hv1 hv2,hu']
      simp only [hfc,Bool.false_eq_true,↓reduceIte,show (Mode.plain == Mode.atomic)=false from rfl]
      rw [k3];simp
     ·rw [size_setCell] at h2;omega
     ·rw [heap_setCell,if_neg]
      rintro rfl
      have:=hx _ h2.1
      omega
     ·simp at he;subst he
      exact .inl ⟨a',_,true,rfl,h2.1,fun _=>hn⟩
   ·obtain ⟨x,hx⟩:=hr.noFarS (P:=P) h2 v (Mode.plain == Mode.atomic)
    rw [hx] at r;simp at r
 | new o q ih=>
  rintro t ρ wl wc es es' b wl' fs (hd|⟨c,e,c',k',rfl,rfl,h2,h⟩) hr r
  ·exact (iP (s:=.new o q) hd r).elim
  rw [Sem.runT] at r
  obtain ⟨σ,d,wc',gs,k3,k4,k5,k6⟩:=ih _ (es':=es') (h _ _ _ (fun _ _ x=>.inl x) (.inr ⟨rfl,rfl⟩) (Nat.le_trans hr.AL hr.low) (hr.shz _ hr.low)) (hr.new e h2) r
  refine ⟨σ,d,wc',gs,by rw [Sem.runT];exact k3,k4,k5,?_⟩
  have:=Grow.trans (gs:=gs) (fs:=#[]) (ρ:=ρ) (n0:=n0) (wl:=wl) (wc:=wc) (wl1:={ wl with heap:=wl.heap.push (.cells c e (0,0)) }) (wc1:={ wc with heap:=wc.heap.push (.cells c' e (0,0)) }) hr.low (Grow.mk (σ:=ρ.more wl.heap.size wc.heap.size) (fun _ _ x=>Or.inl x) ?_ ?_ ?_ ?_ ?_ rfl rfl rfl ?_) k6
  ·simpa using this
  ·rintro x y (z|⟨rfl,rfl⟩)
   ·exact .inl z
   ·exact .inr ⟨Nat.le_refl _,Nat.le_refl _,by simp⟩
  ·intro y h1 h3
   simp only [Array.size_push] at h3
   exact ⟨wl.heap.size,Nat.le_refl _,.inr ⟨rfl,by omega⟩⟩
  ·simp
  ·simp
  ·intro y hy _
   simp only [Array.getElem?_push];rw [if_neg (by omega)]
  ·intro x hx;simp at hx
 | shape x q ih=>
  rintro t ρ wl wc es es' b wl' fs (hd|⟨r',k',rfl,h2,h⟩) hr r
  ·exact (iP (s:=.shape x q) hd r).elim
  ·rw [Sem.runT] at r
   obtain ⟨σ,d,wc',gs,k3,k4⟩:=ih _ (es':=es') (h _ _ (hr.iF h2).1 (hr.iF h2).2) hr r
   exact ⟨σ,d,wc',gs,by rw [Sem.runT];exact k3,k4⟩
 | freeze a n q ih=>rintro t ρ wl wc es es' b wl' fs h;exact h.elim
 | frozen a q ih=>rintro t ρ wl wc es es' b wl' fs h hr r;exact (iP (s:=.frozen a q) h r).elim
 | getObj x q ih=>rintro t ρ wl wc es es' b wl' fs h;exact h.elim
 | setObj x o q ih=>rintro t ρ wl wc es es' b wl' fs h;exact h.elim
 | choose x q ih=>
  rintro t ρ wl wc es es' b wl' fs (hd|⟨k',rfl,h⟩) hr r
  ·exact (iP (s:=.choose x q) hd r).elim
  rw [Sem.runT] at r
  rw [Sem.runT]
  by_cases hf:x.forced=true
  ·simp only [hf,↓reduceIte] at r ⊢
   exact ih _ (h _) hr r
  ·simp only [hf,Bool.false_eq_true,↓reduceIte] at r ⊢
   rw [show x.cut (wc.tape wc.drawn x)=x.cut (wl.tape wl.drawn x) by rw [hr.tape,hr.drawn],← hr.drawn]
   obtain ⟨σ,d,wc',gs,k3,k4,k5,k6⟩:=ih _ (es':=es') (ρ:=ρ) (wl:={ wl with drawn:=wl.drawn+1 }) (wc:={ wc with drawn:=wl.drawn+1 }) (h _) ⟨hr.inj,hr.fn,hr.cells,hr.tape,rfl,hr.low,hr.AL,hr.shz⟩ r
   exact ⟨σ,d,wc',gs,k3,k4,k5,k6.le,k6.fresh,k6.mine,k6.xy,k6.size,k6.same,k6.tape,k6.os,k6.output,k6.evs⟩
 | sys c q ih=>rintro t ρ wl wc es es' b wl' fs h;exact h.elim
 | program q ih=>
  rintro t ρ wl wc es es' b wl' fs h hr r
  rcases h with hd|⟨k',rfl,h⟩
  ·exact (iP (s:=.program q) hd r).elim
  ·rw [Sem.runT] at r ⊢
   exact ih P h hr r
 | mark m q ih=>
  rintro t ρ wl wc es es' b wl' fs h hr r
  rcases h with hd|⟨k',rfl,rfl,h⟩
  ·exact (iP hd r).elim
  ·rw [Sem.runT] at r
   obtain ⟨σ,d,wc',gs,k3,k4,k5,k6⟩:=ih (es':=es'.push ⟨.mark .noRoom,false,true⟩) h hr r
   refine ⟨σ,d,wc',#[⟨.mark .noRoom,false,true⟩]++gs,?_,k4,k5,(Grow.ev (.inr rfl)).trans hr.low k6⟩
   rw [Sem.runT,k3];simp
 | halt x=>
  rintro t ρ wl wc es es' b wl' fs _ hr r
  simp [Sem.runT] at r
theorem RS.MU {α β:Type} {A:Map→α→β→Prop} {n0:Nat} {s:Sem α}:∀ {t:Sem β} {ρ:Map} {wl wc:World} {es:Array Event} {x:Halt} {wl':World} {fs:Array Event},
  RS P A ρ s t→HR ρ n0 wl wc→s.runT P wl es=(.halt x wl',fs)→Ex x:=by
 have dm:∀ {s:Sem α} {wl:World} {es:Array Event} {x:Halt} {wl':World} {fs:Array Event},aD P s→s.runT P wl es=(.halt x wl',fs)→Ex x:=by
  intro s wl es x wl' fs h r
  obtain ⟨y,w1,fs1,e,hf⟩:=rJ (w:=wl) (es:=es) h
  rw [e] at r
  simp only [Prod.mk.injEq,Result.halt.injEq] at r
  exact r.1.1 ▸ hf
 induction s with
 | pure a=>rintro t ρ wl wc es x wl' fs h hr r;simp [Sem.runT] at r
 | load m a q ih=>
  rintro t ρ wl wc es x wl' fs ⟨a',k',rfl,rfl,h2,h⟩ hr r
  unfold Sem.runT at r
  split at r
  ·rename_i v hv
   obtain ⟨v',hv',hvr⟩:=hr.cell h2 hv
   exact ih v (h v v' hvr) hr r
  ·obtain ⟨xs,e,z,ys,z',h1,_⟩:=hr.cells _ _ h2.1
   simp only [World.farLoad,h1,World.noCell,Prod.mk.injEq,Result.halt.injEq] at r
   rw [← r.1.1];trivial
 | store m a v q ih=>
  rintro t ρ wl wc es x wl' fs ⟨a',v',k',rfl,rfl,h2,h3,h⟩ hr r
  by_cases hv:(∃ c,v=.agg c)∨∃ c,v=.tuple c
  ·rw [cO hv] at r
   simp only [Prod.mk.injEq,Result.halt.injEq] at r
   rw [← r.1.1];trivial
  ·rw [eU (fun c e=>hv (.inl ⟨c,e⟩)) (fun c e=>hv (.inr ⟨c,e⟩))] at r
   split at r
   ·rename_i hu
    split at r
    ·simp only [Prod.mk.injEq,Result.halt.injEq] at r
     rw [← r.1.1];trivial
    ·rename_i hf
     exact ih h (hr.set h2 (hr.own h2 hu (by simpa using hf)) h3) r
   ·obtain ⟨xs,e,z,ys,z',h1,_⟩:=hr.cells _ _ h2.1
    simp only [World.farStore,h1,World.noCell,Prod.mk.injEq,Result.halt.injEq] at r
    rw [← r.1.1];trivial
 | new o q ih=>
  rintro t ρ wl wc es x wl' fs (hd|⟨c,e,c',k',rfl,rfl,h2,h⟩) hr r
  ·exact dm hd r
  ·rw [Sem.runT] at r
   exact ih _ (h _ _ _ (fun _ _ x=>.inl x) (.inr ⟨rfl,rfl⟩) (Nat.le_trans hr.AL hr.low) (hr.shz _ hr.low)) (hr.new e h2) r
 | shape y q ih=>
  rintro t ρ wl wc es x wl' fs (hd|⟨r',k',rfl,h2,h⟩) hr r
  ·exact dm hd r
  ·rw [Sem.runT] at r
   exact ih _ (h _ _ (hr.iF h2).1 (hr.iF h2).2) hr r
 | frozen a q ih=>rintro t ρ wl wc es x wl' fs h hr r;exact dm (s:=.frozen a q) h r
 | choose y q ih=>
  rintro t ρ wl wc es x wl' fs (hd|⟨k',rfl,h⟩) hr r
  ·exact dm hd r
  rw [Sem.runT] at r
  split at r
  ·exact ih _ (h _) hr r
  ·exact ih _ (h _) (wl:={ wl with drawn:=wl.drawn+1 }) (wc:={ wc with drawn:=wl.drawn+1 }) ⟨hr.inj,hr.fn,hr.cells,hr.tape,rfl,hr.low,hr.AL,hr.shz⟩ r
 | program q ih=>
  rintro t ρ wl wc es x wl' fs (hd|⟨k',rfl,h⟩) hr r
  ·exact dm (s:=.program q) hd r
  ·rw [Sem.runT] at r
   exact ih P h hr r
 | mark m q ih=>
  rintro t ρ wl wc es x wl' fs (hd|⟨k',rfl,rfl,h⟩) hr r
  ·exact dm hd r
  ·rw [Sem.runT] at r
   exact ih h hr r
 | halt y=>
  rintro t ρ wl wc es x wl' fs h hr r
  simp only [Sem.runT,Prod.mk.injEq,Result.halt.injEq] at r
  exact r.1.1 ▸ h
 | _=>rintro t ρ wl wc es x wl' fs h;exact h.elim
end Ren
end
