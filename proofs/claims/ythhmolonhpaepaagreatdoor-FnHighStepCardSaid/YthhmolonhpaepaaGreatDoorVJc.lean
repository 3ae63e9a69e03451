/- What one walk does, another one does that lies on other numbers of blocks: the operations that a small text uses. Conditions: none. -/
import Derived.Test.YthhmolonhpaepaaGreatDoorVJa
set_option linter.unusedVariables false
set_option linter.unusedSimpArgs false
section
namespace Ren
open Go
variable [aW] {P:Program}
def Tl (P:Program) {α:Type}:Sem α→Prop
 | .pure _=>True
 | .halt h=>Ex h
 | .program k=>Tl P (k P)
 | _=>False
abbrev E {α:Type}:Map→α→α→Prop:=fun _ a b=>a=b
def Calm (P:Program) {α:Type}:Sem α→Prop
 | .pure _=>True
 | .halt h=>Ex h
 | .new _ k=>∀ r,Calm P (k r)
 | .shape _ k=>∀ x,Calm P (k x)
 | .frozen _ k=>∀ b,Calm P (k b)
 | .choose _ k=>∀ n,Calm P (k n)
 | .program k=>Calm P (k P)
 | .mark _ k=>Calm P k
 | _=>False
section
variable {α β γ δ:Type} {ρ:Map}
omit [aW] in
theorem Calm.bind {s:Sem α} {f:α→Sem β} (hs:Calm P s) (h:∀ a,Calm P (f a)):Calm P (s >>= f):=by
 show Calm P (s.bind f)
 induction s with
 | pure a=>exact h a
 | new o q ih=>exact fun v=>ih v (hs v)
 | shape r q ih=>exact fun v=>ih v (hs v)
 | frozen a q ih=>exact fun v=>ih v (hs v)
 | choose q q' ih=>exact fun v=>ih v (hs v)
 | program q ih=>exact ih P hs
 | mark m q ih=>exact ih hs
 | halt x=>exact hs
 | _=>exact hs.elim
omit [aW] in
theorem aD.then {s:Sem α} {f:α→Sem β} (hs:Calm P s) (h:∀ a,aD P (f a)):aD P (s >>= f):=by
 show aD P (s.bind f)
 induction s with
 | pure a=>exact h a
 | new o q ih=>exact fun v=>ih v (hs v)
 | shape r q ih=>exact fun v=>ih v (hs v)
 | frozen a q ih=>exact fun v=>ih v (hs v)
 | choose q q' ih=>exact fun v=>ih v (hs v)
 | program q ih=>exact ih P hs
 | mark m q ih=>exact ih hs
 | halt x=>exact hs
 | _=>exact hs.elim
omit [aW] in
theorem aD.prog {f:Program→Sem β} (h:aD P (f P)):aD P (program >>= f):=h
omit [aW] in
theorem aD.first {s:Sem α} {f:α→Sem β} (h:aD P s):aD P (s >>= f):=aD.bind h
omit [aW] in
theorem Tl.bind {s:Sem α} {f:α→Sem β} (h:Tl P s) (k:∀ a,Tl P (f a)):Tl P (s >>= f):=by
 show Tl P (s.bind f)
 induction s with
 | pure a=>exact k a
 | program q ih=>exact ih P h
 | halt x=>exact h
 | _=>exact h.elim
theorem RS.tl {B:Map→γ→δ→Prop} {s:Sem α} {f:α→Sem γ} {g:α→Sem δ} (h:Tl P s) (k:∀ a,RS P B ρ (f a) (g a)):RS P B ρ (s >>= f) (s >>= g):=by
 show RS P B ρ (s.bind f) (s.bind g)
 induction s with
 | pure a=>exact k a
 | program q ih=>exact Or.inr ⟨_,rfl,ih P h⟩
 | halt x=>exact h
 | _=>exact h.elim
theorem RS.bnd {A:Map→α→β→Prop} {B:Map→γ→δ→Prop} {s:Sem α} {t:Sem β} {f:α→Sem γ} {g:β→Sem δ} (h:RS P A ρ s t) (k:∀ σ a b,ρ.le σ→A σ a b→RS P B σ (f a) (g b)) :
  RS P B ρ (s >>= f) (t >>= g):=RS.bind h k
theorem RS.ret {A:Map→α→β→Prop} {a:α} {b:β} (h:A ρ a b):RS P A ρ (pure a) (pure b):=⟨b,rfl,h⟩
theorem RS.halt {A:Map→α→β→Prop} {x:Halt} {t:Sem β} (h:Ex x:=by trivial):RS P A ρ (.halt x) t:=h
theorem RS.prog {B:Map→γ→δ→Prop} {f:Program→Sem γ} {g:Program→Sem δ} (k:RS P B ρ (f P) (g P)):RS P B ρ (program >>= f) (program >>= g):=Or.inr ⟨_,rfl,k⟩
end
omit [aW] in
theorem iR (t:TypeId):Tl P (typeInfo t):=by
 show Tl P (match P.info? t with|some i=>pure i|none=>stuck "no such type")
 split<;>trivial
omit [aW] in
theorem bg (t:TypeId):Tl P (underlying t):=by
 show Tl P (match P.underlying t with|some i=>pure i|none=>stuck "no such type")
 split<;>trivial
omit [aW] in
theorem dM (t:TypeId):Tl P (sizeOf t):=Tl.bind (iR t) fun a=>trivial
omit [aW] in
theorem Bj (t:TypeId):Tl P (isAgg t):=Tl.bind (bg t) fun a=>by split<;>trivial
omit [aW] in
theorem Tl.calm {α:Type} {s:Sem α} (h:Tl P s):Calm P s:=by
 induction s with
 | pure a=>trivial
 | program q ih=>exact ih P h
 | halt x=>exact h
 | _=>exact h.elim
omit [aW] in
theorem Kv (o:Obj):Calm P (newObj o):=fun _=>trivial
omit [aW] in
theorem rR (t:TypeId):Calm P (elemOf t):=Calm.bind (bg t).calm fun a=>by split<;>trivial
omit [aW] in
theorem rQ (t:TypeId) (v:Value):Calm P (newVar t v):=Calm.bind (Kv _) fun _=>trivial
omit [aW] in
theorem fO {α:Type} (e:RuntimeError):aD P (runtimePanic e:Sem α):=by
 unfold runtimePanic
 refine aD.prog ?_
 cases e with
 | bounds x y s c=>trivial
 | error m=>trivial
 | plain m=>trivial
 | nilDeref=>trivial
 | typeAssertion i c a m=>refine aD.then (rR _) fun _=>aD.then (rQ _ _) fun _=>?_;trivial
 | panicNil=>refine aD.then (rR _) fun _=>aD.then (rQ _ _) fun _=>?_;trivial
 | unhashable t=>trivial
omit [aW] in
theorem eF {α:Type} (k:IntKind) (x y:Int) (c:BoundsCode):aD P (boundsPanic k x y c:Sem α):=by
 unfold boundsPanic
 dsimp only
 split
 ·refine aD.then ?_ fun _=>fO _
  exact fun _=>trivial
 ·exact aD.then (trivial:Calm P (Sem.pure _)) fun _=>fO _
section
variable {ρ:Map}
theorem uh {v v':Value} (h:VR ρ v v'):RS P E ρ (asIntOf v) (asIntOf v'):=by
 cases h<;>first|exact RS.ret rfl|exact RS.halt
theorem Fy {v v':Value} (h:VR ρ v v'):RS P E ρ (asBool v) (asBool v'):=by
 cases h<;>first|exact RS.ret rfl|exact RS.halt
theorem gF {v v':Value} (h:VR ρ v v'):RS P AR ρ (Instr.sureAddr v) (Instr.sureAddr v'):=by
 cases h<;>first|exact RS.ret (by assumption)|exact RS.halt
theorem Fz {v v':Value} (h:VR ρ v v'):RS P AR ρ (asAddr v) (asAddr v'):=by
 cases h<;>first|exact RS.ret (by assumption)|exact RS.halt|exact RS.jP (fO (α:=Addr) .nilDeref)
theorem AR.add {a b:Addr} (h:AR ρ a b) (n:Nat):AR ρ (a.add n) (b.add n):=by
 unfold Addr.add
 split
 ·exact h
 ·exact ⟨h.1,by have:=h.2.1;show a.off+n+aW.sh a.block=b.off+n;omega,rfl,h.2.2.2⟩
theorem Fv {a b:Addr} (h:AR ρ a b):RS P VR ρ (load a) (load b):=⟨_,_,rfl,rfl,h,fun v v' hv=>⟨_,rfl,hv⟩⟩
theorem Jm {a b:Addr} (h:AR ρ a b) {v v':Value} (hv:VR ρ v v'):RS P E ρ (store a v) (store b v'):=⟨_,_,_,rfl,rfl,h,hv,_,rfl,rfl⟩
theorem ji {a b:Addr}:∀ (n i:Nat) {xs ys:Array Value} {ρ:Map},AR ρ a b→RR ρ xs ys→RS P RR ρ (loadCellsFrom a i n xs) (loadCellsFrom b i n ys)
 | 0,_,_,_,_,_,r=>RS.ret r
 | n+1,i,_,_,_,h,r=>RS.bnd (Fv (h.add i)) fun _ _ _ hl hv=>ji n (i+1) (h.mono hl) ((r.mono hl).push hv)
theorem og {a b:Addr} (h:AR ρ a b) (n:Nat):RS P RR ρ (loadCells a n) (loadCells b n):=ji n 0 h .nil
theorem lX {a b:Addr}:∀ (l m:List Value) (i:Nat) {ρ:Map},AR ρ a b→l.length=m.length→(∀ (i:Nat) (h1:i<l.length) (h2:i<m.length),VR ρ l[i] m[i])→RS P E ρ (storeCells a l i) (storeCells b m i)
 | [],[],_,_,_,_,_=>RS.ret rfl
 | x::l,y::m,i,_,h,hs,r=>RS.bnd (Jm (h.add i) (r 0 (by simp) (by simp))) fun _ _ _ hl _=>lX l m (i+1) (h.mono hl) (by simpa using hs) fun j h1 h2=>(r (j+1) (by simp;omega) (by simp;omega)).mono hl
 | [],_::_,_,_,_,hs,_=>by simp at hs
 | _::_,[],_,_,_,hs,_=>by simp at hs
theorem RR.list {xs ys:Array Value} (h:RR ρ xs ys):xs.toList.length=ys.toList.length∧∀ (i:Nat) (h1:i<xs.toList.length) (h2:i<ys.toList.length),VR ρ xs.toList[i] ys.toList[i]:=
 ⟨by simpa using h.size,fun i h1 h2=>by simpa using h.at_ i (by simpa using h1) (by simpa using h2)⟩
theorem RR.agg {xs ys:Array Value} (h:RR ρ xs ys):VR ρ (.agg xs) (.agg ys):=.agg _ _ h.size h.at_
theorem RR.tup {xs ys:Array Value} (h:RR ρ xs ys):VR ρ (.tuple xs) (.tuple ys):=.tuple _ _ h.size h.at_
theorem ug (t:TypeId) {a b:Addr} (h:AR ρ a b):RS P VR ρ (loadVar t a) (loadVar t b):=by
 unfold loadVar
 refine RS.tl (Bj t) fun g=>?_
 cases g with
 | true=>exact RS.tl (dM t) fun n=>RS.bnd (og h n) fun _ _ _ _ r=>RS.ret r.agg
 | false=>exact Fv h
theorem zP (t:TypeId) {a b:Addr} (h:AR ρ a b) {v v':Value} (hv:VR ρ v v'):RS P E ρ (storeVar t a v) (storeVar t b v'):=by
 unfold storeVar
 refine RS.tl (dM t) fun n=>?_
 have e:=hv.cells.size
 rw [e]
 split
 ·exact RS.halt
 ·exact lX _ _ 0 h hv.cells.list.1 hv.cells.list.2
theorem xI (t:TypeId) {xs ys:Array Value} (h:RR ρ xs ys):RS P AR ρ (newRow t xs) (newRow t ys):=
 RS.bnd (A:=fun σ r r'=>σ r r'∧aW.g≤r∧aW.sh r=0) (Or.inr ⟨_,_,_,_,rfl,rfl,h,fun _ _ _ _ hr hg hz=>⟨_,rfl,hr,hg,hz⟩⟩) fun _ _ _ _ hr=>RS.ret ⟨hr.1,by simp [hr.2.2],rfl,hr.2.1⟩
theorem xH (t:TypeId) {v v':Value} (h:VR ρ v v'):RS P AR ρ (newVar t v) (newVar t v'):=xI t h.cells
theorem zQ (t:TypeId) {xs ys:Array Value} (h:RR ρ xs ys) (off:Nat):RS P VR ρ (part t xs off) (part t ys off):=by
 unfold part
 refine RS.tl (Bj t) fun g=>?_
 cases g with
 | true=>exact RS.tl (dM t) fun n=>RS.ret (h.extract _ _).agg
 | false=>
  rcases h.get? off with ⟨e1,e2⟩|⟨u,v,e1,e2,r⟩
  ·simp only [e1];exact RS.halt
  ·simp only [e1,e2];exact RS.ret r
def Value.Ho:Value→Bool
 | .bool _|.int _ _|.pointer none|.slice none _ _=>true
 | _=>false
def Kj:Value→Bool
 | .agg xs=>xs.all Value.Ho
 | .tuple xs=>xs.all Value.Ho
 | v=>Value.Ho v
theorem wC {v:Value} (h:Value.Ho v=true):VR ρ v v:=by
 unfold Value.Ho at h
 split at h
 ·exact .bool _
 ·exact .int _ _
 ·exact .ptr0
 ·exact .tV _ _
 ·cases h
theorem BR {v:Value} (h:Kj v=true):VR ρ v v:=by
 unfold Kj at h
 split at h
 ·exact .agg _ _ rfl fun i h1 h2=>wC (Array.all_eq_true.1 h i h1)
 ·exact .tuple _ _ rfl fun i h1 h2=>wC (Array.all_eq_true.1 h i h1)
 ·exact wC h
def pX (P:Program) (t:TypeId):Bool:=((P.info? t).bind (·.zero)).all Kj
theorem jC {t:TypeId} (h:pX P t=true):RS P VR ρ (zeroValue t) (zeroValue t):=by
 unfold zeroValue typeInfo
 simp only [bind_assoc]
 refine RS.prog ?_
 unfold pX at h
 cases hi:P.info? t with
 | none=>exact RS.halt
 | some i=>
  simp only [hi,Option.bind_some] at h
  simp only [pure_bind]
  cases hz:i.zero with
  | none=>exact RS.halt
  | some v=>simp only [hz,Option.all_some] at h;exact RS.ret (BR h)
theorem Jr {t:TypeId} (h:pX P t=true):RS P VR ρ (Instr.alloc t true (.tuple #[])) (Instr.alloc t true (.tuple #[])):=
 RS.bnd (jC h) fun _ _ _ _ hv=>RS.bnd (xH t hv) fun _ _ _ _ ha=>RS.ret (.ptr _ _ ha)
theorem rs_box (t:TypeId) {v v':Value} (h:VR ρ v v'):RS P VR ρ (Instr.box t v) (Instr.box t v'):=
 RS.bnd (xH t h) fun _ _ _ _ ha=>RS.ret (.ptr _ _ ha)
theorem Fu (t:TypeId) {v v':Value} (h:VR ρ v v'):RS P VR ρ (Instr.loadAt t v) (Instr.loadAt t v'):=
 RS.bnd (gF h) fun _ _ _ _ ha=>ug t ha
theorem CU (t:TypeId) {v v' u u':Value} (h:VR ρ v v') (hu:VR ρ u u'):RS P E ρ (Instr.storeAt t v u) (Instr.storeAt t v' u'):=
 RS.bnd (gF h) fun _ _ _ hl ha=>zP t ha (hu.mono hl)
theorem C8 {v v':Value} (h:VR ρ v v') (i:Nat):RS P VR ρ (Instr.extract v i) (Instr.extract v' i):=by
 cases h with
 | tuple xs ys hs hh=>
  rcases (RR.mk hs hh).get? i with ⟨e1,e2⟩|⟨u,w,e1,e2,r⟩
  ·simp only [Instr.extract,e1];exact RS.halt
  ·simp only [Instr.extract,e1,e2];exact RS.ret r
 | _=>exact RS.halt
theorem rs_not {v v':Value} (h:VR ρ v v'):RS P VR ρ (Op.unary .not v) (Op.unary .not v'):=by
 cases h<;>first|exact RS.ret (.bool _)|exact RS.halt
theorem Jn (t:TypeId) {v v' u u':Value} (h:VR ρ v v') (hu:VR ρ u u'):RS P VR ρ (Instr.index t v u) (Instr.index t v' u'):=by
 unfold Instr.index
 refine RS.bnd (uh hu) fun σ p q hl e=>?_
 subst e
 refine RS.tl (bg t) fun d=>?_
 have h:=h.mono hl
 cases d<;>cases h<;>try exact RS.halt
 rename_i len elem _ _ hs hh
 dsimp only
 split
 ·exact RS.tl (dM _) fun n=>zQ _ ⟨hs,hh⟩ _
 ·exact RS.jP (eF _ _ _ _)
theorem Dc (t:TypeId) (hz:∀ n e,P.underlying t=some (.array n e)→0<n) {v v':Value} (h:VR ρ v v'):RS P VR ρ (Instr.arrayAt t v) (Instr.arrayAt t v'):=by
 unfold Instr.arrayAt underlying
 simp only [bind_assoc]
 refine RS.prog ?_
 cases hu:P.underlying t with
 | none=>exact RS.halt
 | some d=>
 simp only [pure_bind]
 cases d<;>try exact RS.halt
 have hz:=hz _ _ hu
 cases h<;>try exact RS.halt
 all_goals
  dsimp only
  split
  ·exact RS.jP (fO _)
  ·first|(rename_i hn;exact absurd hz hn)|exact RS.ret .ptr0|exact RS.ret (.ptr _ _ (by assumption))
theorem CY (t:TypeId) {v v' u u':Value} (h:VR ρ v v') (hu:VR ρ u u'):RS P VR ρ (Instr.indexAt t v u) (Instr.indexAt t v' u'):=by
 unfold Instr.indexAt
 refine RS.bnd (uh hu) fun σ p q hl e=>?_
 subst e
 obtain ⟨k,i⟩:=p
 have h:=h.mono hl
 dsimp only
 refine RS.tl (bg t) fun d=>?_
 cases d<;>try exact RS.halt
 case array len elem=>
  dsimp only
  refine RS.bnd (gF h) fun τ a b hl2 ha=>?_
  simp only [pure_bind]
  refine RS.tl (bg t) fun d2=>?_
  split
  ·exact RS.tl (dM _) fun n=>RS.ret (.ptr _ _ (ha.add _))
  ·split<;>split<;>first|exact RS.halt|exact RS.jP (eF _ _ _ _)
 case slice elem=>
  cases h<;>try exact RS.halt
  ·simp only [pure_bind]
   exact RS.tl (bg t) fun d2=>RS.jP (eF _ _ _ _)
  ·simp only [pure_bind]
   exact RS.tl (bg t) fun d2=>RS.jP (eF _ _ _ _)
  ·rename_i ha
   simp only [pure_bind]
   refine RS.tl (bg t) fun d2=>?_
   split
   ·exact RS.tl (dM _) fun n=>RS.ret (.ptr _ _ (ha.add _))
   ·split<;>split<;>first|exact RS.halt|exact RS.jP (eF _ _ _ _)
theorem CZ (t:TypeId) {v v':Value} (h:VR ρ v v') (i:Nat) (hz:∀ fs f,P.underlying t=some (.struct fs)→fs[i]?=some f→∀ n,P.info? f.type=some n→n.size≠0):RS P VR ρ (Instr.fieldAt t v i) (Instr.fieldAt t v' i):=by
 unfold Instr.fieldAt underlying
 simp only [bind_assoc]
 refine RS.prog ?_
 cases hu:P.underlying t with
 | none=>exact RS.halt
 | some d=>
  simp only [pure_bind]
  cases d<;>try exact RS.halt
  rename_i fs
  dsimp only
  cases hf:fs[i]? with
  | none=>exact RS.halt
  | some f=>
   dsimp only
   refine RS.bnd (gF h) fun τ a b hl2 ha=>?_
   unfold fieldPlace Go.sizeOf typeInfo
   simp only [bind_assoc]
   refine RS.prog ?_
   cases hn:P.info? f.type with
   | none=>exact RS.halt
   | some n=>
    simp only [pure_bind]
    rw [if_neg (hz fs f hu hf n hn),if_neg (hz fs f hu hf n hn)]
    simp only [pure_bind]
    exact RS.ret (VR.ptr _ _ (ha.add _))
def AP (P:Program) (t:TypeId) (i:Nat):Bool:=
 match P.underlying t with
 | some (.struct fs)=>match fs[i]? with
  | some f=>match P.info? f.type with
   | some n=>n.size != 0
   | none=>true
  | none=>true
 | _=>true
theorem zS (t:TypeId) {v v':Value} (h:VR ρ v v') (i:Nat) (hz:AP P t i=true):RS P VR ρ (Instr.fieldAt t v i) (Instr.fieldAt t v' i):=by
 refine CZ t h i fun fs f h1 h2 n h3=>?_
 simp only [AP,h1,h2,h3,bne_iff_ne] at hz
 exact hz
theorem CV {t:TypeId} (ht:∃ n e,P.underlying t=some (.array n e)) {v v':Value} (h:VR ρ v v'):RS P VR ρ (Instr.sliceAt t v none none none) (Instr.sliceAt t v' none none none):=by
 obtain ⟨n,e,ht⟩:=ht
 unfold Instr.sliceAt underlying
 simp only [bind_assoc]
 refine RS.prog ?_
 simp only [ht,pure_bind]
 refine RS.bnd (gF h) fun τ a b hl2 ha=>?_
 simp only [Instr.sliceBounds,pure_bind]
 refine RS.tl (dM _) fun k=>RS.ret (.slice _ _ _ _ ?_)
 split
 ·exact ha
 ·exact ha.add _
theorem zR (op:BinOp) (k:IntKind) (a b:Int):RS P VR ρ (Op.intArith op k a b) (Op.intArith op k a b):=by
 unfold Op.intArith;split<;>first|exact RS.ret (.int _ _)|exact RS.halt
theorem CX (op:BinOp) (k:IntKind) (a b:Int):RS P VR ρ (Op.intBits op k a b) (Op.intBits op k a b):=by
 unfold Op.intBits;split<;>first|exact RS.ret (.int _ _)|exact RS.halt
theorem xJ (op:BinOp) (a b:Int):RS P VR ρ (Op.intCmp op a b) (Op.intCmp op a b):=by
 unfold Op.intCmp;split<;>first|exact RS.ret (.bool _)|exact RS.halt
end
end Ren
end
section
namespace Ren
open Go
variable [aW] {P:Program}
def DY (P:Program) (t:TypeId):Bool:=
  (match P.underlying t with|some (.int _)=>true|_=>false) && (P.info? t).all fun i=>match i.desc with|.named "sync.copyChecker" _=>false|_=>true
section
variable {ρ:Map}
theorem lY {a b:Addr} (h:AR ρ a b):RS P (fun _ p _=>p=(a,false)) ρ (behindNumber a) (behindNumber b):=by
  unfold behindNumber numberAt
  simp only [bind_assoc]
  refine Or.inr ⟨_,_,rfl,h.1,fun x x' hx hx'=>?_⟩
  obtain ⟨y,rfl⟩:=Option.isSome_iff_exists.1 hx
  obtain ⟨y',rfl⟩:=Option.isSome_iff_exists.1 hx'
  exact RS.ret rfl
theorem oh {t:TypeId} (ht:DY P t=true) (hG:P.globals.size≤aW.g) (d:Nat) {x x' y y':Value} (hx:VR ρ x x') (hy:VR ρ y y') :
    RS P E ρ (Op.equalIn (d+1) t x y) (Op.equalIn (d+1) t x' y'):=by
  unfold DY at ht
  simp only [Bool.and_eq_true] at ht
  obtain ⟨h1,ht2⟩:=ht
  cases hu:P.underlying t with
  | none=>simp [hu] at h1
  | some u=>
  cases u<;>simp only [hu] at h1<;>try (cases h1)
  rename_i k
  unfold Op.equalIn underlying
  simp only [bind_assoc]
  refine RS.prog ?_
  simp only [hu,pure_bind]
  cases hx<;>cases hy<;>try exact RS.halt
  case int.int=>
    dsimp only
    split
    · exact RS.ret rfl
    · exact RS.halt
  case int.ptr=>
    rename_i k n a b h
    rcases n with (_|n)|n<;>first|exact RS.ret rfl|exact RS.halt
  case ptr.int=>
    rename_i a b h k n
    rcases n with (_|n)|n<;>first|exact RS.ret rfl|exact RS.halt
  case ptr.ptr=>
    rename_i a b h a2 b2 h2
    refine RS.bnd (lY h) fun σ p q hl e=>?_
    subst e
    refine RS.bnd (lY (h2.mono hl)) fun τ p q hl e=>?_
    subst e
    refine RS.jP ?_
    refine aD.prog ?_
    have hlt:decide (a.block<P.globals.size)=false:=decide_eq_false (Nat.not_lt.2 (Nat.le_trans hG h.2.2.2))
    simp only [hlt,Bool.and_false,Bool.false_eq_true,↓reduceIte]
    unfold typeInfo
    simp only [bind_assoc]
    refine aD.prog ?_
    cases hi:P.info? t with
    | none=>trivial
    | some i=>
      simp only [hi,Option.all_some] at ht2
      simp only [pure_bind]
      split
      · rename_i heq;simp [heq] at ht2
      · trivial
theorem Bl {α β:Type} {f g:α→β→Sem (ForInStep β)}:∀ (l:List α) {ρ:Map},(∀ x∈l,∀ s σ,ρ.le σ→RS P E σ (f x s) (g x s))→∀ s,RS P E ρ (forIn l s f) (forIn l s g)
  | [],_,_,s=>RS.ret rfl
  | x::l,ρ,h,s=>by
    simp only [List.forIn_cons]
    refine RS.bnd (h x (by simp) s ρ (Map.le_refl ρ)) fun σ p q hl e=>?_
    subst e
    cases p with
    | done b=>exact RS.ret rfl
    | yield b=>exact Bl l (fun y hy s τ ht=>h y (by simp [hy]) s τ (Map.le_trans hl ht)) b
def Cf (P:Program) (t:TypeId):Bool:=match P.underlying t with|some .bool=>true|_=>false
theorem vo {t:TypeId} (ht:Cf P t=true) (d:Nat) {x x' y y':Value} (hx:VR ρ x x') (hy:VR ρ y y'):RS P E ρ (Op.equalIn (d+1) t x y) (Op.equalIn (d+1) t x' y'):=by
  unfold Cf at ht
  cases hu:P.underlying t with
  | none=>simp [hu] at ht
  | some u=>
  cases u<;>simp only [hu] at ht<;>try (cases ht)
  unfold Op.equalIn underlying
  simp only [bind_assoc]
  refine RS.prog ?_
  simp only [hu,pure_bind]
  cases hx<;>cases hy<;>first|exact RS.halt|exact RS.ret rfl
def mH (P:Program) (t:TypeId):Bool:=
  match P.underlying t with
  | some (.struct fs)=>fs.all fun f=>DY P f.type || Cf P f.type
  | _=>false
theorem qz {t:TypeId} (ht:mH P t=true) (hG:P.globals.size≤aW.g) (d:Nat) {x x' y y':Value} (hx:VR ρ x x') (hy:VR ρ y y') :
    RS P E ρ (Op.equalIn (d+2) t x y) (Op.equalIn (d+2) t x' y'):=by
  unfold mH at ht
  cases hu:P.underlying t with
  | none=>simp [hu] at ht
  | some u=>
  cases u<;>simp only [hu] at ht<;>try (cases ht)
  rename_i fs
  unfold Op.equalIn underlying
  simp only [bind_assoc]
  refine RS.prog ?_
  simp only [hu,pure_bind]
  cases hx<;>cases hy<;>try exact RS.halt
  rename_i xs xs' hs hh ys ys' ks kk
  dsimp only
  refine RS.prog ?_
  split
  · exact RS.halt
  · refine RS.bnd (A:=E) ?_ fun σ p q hl e=>?_
    · rw [← Array.forIn_toList,← Array.forIn_toList]
      refine Bl _ (fun f hf s σ hl=>?_) _
      split
      · have hfi:(DY P f.type || Cf P f.type)=true:=Array.all_eq_true'.1 ht f (by simpa using hf)
        refine RS.bnd (zQ _ ((RR.mk hs hh).mono hl) _) fun τ u v hl2 huv=>?_
        refine RS.bnd (zQ _ ((RR.mk ks kk).mono (Map.le_trans hl hl2)) _) fun τ2 u2 v2 hl3 huv2=>?_
        refine RS.bnd (A:=E) ((Bool.or_eq_true_iff.1 hfi).elim (fun h=>oh h hG d (huv.mono hl3) huv2) fun h=>vo h d (huv.mono hl3) huv2) fun τ3 p q _ e=>?_
        subst e
        split<;>exact RS.ret rfl
      · exact RS.ret rfl
    · subst e
      split<;>exact RS.ret rfl
theorem C9 {op:BinOp} {t:TypeId} (ht:P.eqGuardType P.depth t=false) (x y:Operand) {a a' b b':Value} (ha:VR ρ a a') (hb:VR ρ b b') :
    RS P E ρ (eqGuard op t x y a b) (eqGuard op t x y a' b'):=by
  have key:op=.eql∨op=.neq→RS P E ρ (eqGuard op t x y a b) (eqGuard op t x y a' b'):=by
    intro h
    cases ha<;>cases hb<;>first
      | (rcases h with rfl|rfl<;>exact RS.ret (A:=E) (a:=()) rfl)
      | (rcases h with rfl|rfl <;>
          (unfold eqGuard
           simp only [Bool.not_true,Bool.false_eq_true,↓reduceIte]
           refine RS.prog (RS.prog ?_)
           simp only [ht,Bool.not_false,↓reduceIte]
           exact RS.ret rfl))
  cases op<;>first|exact key (.inl rfl)|exact key (.inr rfl)|exact RS.ret (A:=E) (a:=()) rfl
def Nl (P:Program) (op:BinOp) (t:TypeId):Bool:=
  match op with
  | .eql|.neq=>DY P t || mH P t
  | .lss|.leq|.gtr|.geq|.andNot=>true
  | _=>false
theorem Jo {t:TypeId} (ht:(DY P t || mH P t)=true) (hG:P.globals.size≤aW.g) {x x' y y':Value} (hx:VR ρ x x') (hy:VR ρ y y'):RS P E ρ (Op.equal t x y) (Op.equal t x' y'):=by
  unfold Op.equal
  rw [show Op.maxDepth=9998+2 from rfl]
  rcases Bool.or_eq_true_iff.1 ht with h|h
  · exact oh h hG _ hx hy
  · exact qz h hG _ hx hy
omit [aW] in
theorem sV {op:BinOp} {a b:Addr} (h:P.globals.size≤a.block):aD P (Op.addrCmp op a b):=by
  unfold Op.addrCmp Op.twoPlaces
  refine aD.first (aD.prog ?_)
  have:decide (a.block ≥ P.globals.size)=true:=decide_eq_true h
  simp only [this,Bool.or_true,↓reduceIte]
  trivial
theorem Jq {op:BinOp} {t:TypeId} (ht:Nl P op t=true) (hG:P.globals.size≤aW.g) {a a' b b':Value} (ha:VR ρ a a') (hb:VR ρ b b') :
    RS P VR ρ (binOp op t a b) (binOp op t a' b'):=by
  cases op<;>simp only [Nl] at ht<;>try (cases ht)
  case eql|neq=>
    have heq:=Jo ht hG ha hb
    cases ha<;>cases hb<;>first
      | exact RS.bnd heq fun _ _ _ _ e=>by subst e;exact RS.ret (.bool _)
      | (unfold binOp;dsimp only;split
         · exact RS.halt
         · exact xJ _ _ _)
  case andNot=>
    cases ha<;>cases hb<;>first
      | exact RS.halt
      | (unfold binOp;dsimp only;split
         · exact RS.halt
         · exact CX _ _ _ _)
  all_goals
    cases ha<;>cases hb<;>first
      | exact RS.halt
      | (unfold binOp;dsimp only;split
         · exact RS.halt
         · exact xJ _ _ _)
      | (rename_i h1 _ _ h2
         refine RS.bnd (lY h1) fun σ p q hl e=>?_
         subst e
         refine RS.bnd (lY (h2.mono hl)) fun τ p q hl e=>?_
         subst e
         exact RS.jP (sV (Nat.le_trans hG h1.2.2.2)))
theorem FC {t:TypeId} {k k':IntKind} {a b:Int}:RS P VR ρ (binOp .add t (.int k a) (.int k' b)) (binOp .add t (.int k a) (.int k' b)):=by
  unfold binOp
  dsimp only
  split
  · exact RS.halt
  · exact zR _ _ _ _
def H8 (P:Program) (src dst:TypeId):Bool:=
  match P.underlying src,P.underlying dst with
  | some (.int _),some (.int _)=>true
  | _,_=>false
theorem Da {src dst:TypeId} (ht:H8 P src dst=true) {v v':Value} (h:VR ρ v v'):RS P VR ρ (convert src dst v) (convert src dst v'):=by
  unfold H8 at ht
  split at ht
  · rename_i h1 h2
    unfold convert underlying
    simp only [bind_assoc]
    refine RS.prog ?_
    simp only [h1,pure_bind]
    refine RS.prog ?_
    simp only [h2,pure_bind]
    cases h<;>first|exact RS.ret (.int _ _)|exact RS.halt
  · cases ht
def MF (P:Program) (t:TypeId):Bool:=match P.underlying t with|some (.slice _)=>true|_=>false
theorem rs_len {t:TypeId} (ht:MF P t=true) (u:TypeId) {v v':Value} (h:VR ρ v v'):RS P VR ρ (Builtin.len_ #[t] u #[v]) (Builtin.len_ #[t] u #[v']):=by
  unfold MF at ht
  split at ht
  · rename_i h1
    unfold Builtin.len_ underlying
    simp only [List.getElem?_toArray,List.getElem?_cons_zero,bind_assoc]
    refine RS.prog ?_
    simp only [h1,pure_bind]
    cases h<;>first|exact RS.ret (.int _ _)|exact RS.halt
  · cases ht
end
end Ren
end
section
namespace Ren
open Go
variable [aW] {P:Program}
section
variable {ρ:Map}
theorem Db (n:Nat):RS P E ρ (askRoom n) (askRoom n):=by
 unfold askRoom
 split
 ·exact Or.inr ⟨_,rfl,rfl,_,rfl,rfl⟩
 ·exact RS.ret rfl
theorem Fx (q:Question):RS P E ρ (choose q) (choose q):=Or.inr ⟨_,rfl,fun n=>⟨_,rfl,rfl⟩⟩
theorem iT (size n:Nat) {v v':Value} (h:VR ρ v v') (hn:∀ c,v=.slice none 0 c→n=0):RS P RR ρ (Builtin.firstCells size n v) (Builtin.firstCells size n v'):=by
 cases h
 case nY q c=>
  have:=hn _ rfl
  subst this
  cases q with
  | none=>exact RS.ret .nil
  | some a=>
   simp only [Builtin.firstCells,Nat.zero_mul]
   exact RS.ret .nil
 all_goals first|exact RS.ret .nil|exact RS.halt|exact og (by assumption) _
theorem Fw {v v':Value} (h:VR ρ v v'):RS P (fun _ p q=>p=q∧∀ c,v=.slice none 0 c→p=0) ρ (Builtin.lenOf v) (Builtin.lenOf v'):=by
 cases h<;>first|exact RS.ret ⟨rfl,fun c e=>by cases e;rfl⟩|exact RS.ret ⟨rfl,fun c e=>by cases e⟩|exact RS.halt
theorem RR.MW {xs ys:Array Value} (h:RR ρ xs ys) (i:Nat):VR ρ xs[i]! ys[i]!:=by
 rcases h.get? i with ⟨e1,e2⟩|⟨u,v,e1,e2,r⟩
 ·simp only [Array.getElem!_eq_getD,Array.getD_eq_getD_getElem?,e1,e2,Option.getD_none]
  exact VR.bool _
 ·simp only [Array.getElem!_eq_getD,Array.getD_eq_getD_getElem?,e1,e2,Option.getD_some]
  exact r
theorem RR.zeroCells {xs ys:Array Value} (h:RR ρ xs ys) (n:Nat):RR ρ (Builtin.zeroCells xs n) (Builtin.zeroCells ys n):=by
 unfold Builtin.zeroCells
 rw [h.size]
 exact ⟨by simp,fun i h1 h2=>by simp;exact h.MW _⟩
omit [aW] in
theorem Ee (a:Addr) (n:Nat):Calm P (Builtin.holdsCells a n):=by
 unfold Builtin.holdsCells
 exact fun x=>by cases x<;>trivial
omit [aW] in
theorem wJ (size n:Nat) (x:Value):Calm P (Builtin.mayShare size 0 n none x):=by
 unfold Builtin.mayShare
 simp only [pure_bind,Bool.not_true,Bool.false_eq_true,↓reduceIte]
 split
 ·refine Calm.bind (Ee _ _) fun _=>?_
  trivial
 ·trivial
def Nw (P:Program) (t:TypeId):Bool:=match P.underlying t with|some (.slice e)=>pX P e|_=>false
theorem FB {t:TypeId} (ht:Nw P t=true) (u:TypeId) {x x':Value} (hx:VR ρ x x') :
  RS P VR ρ (Builtin.append_ #[t,t] u #[.slice none 0 0,x]) (Builtin.append_ #[t,t] u #[.slice none 0 0,x']):=by
 unfold Nw at ht
 split at ht
 ·rename_i e h1
  unfold Builtin.append_ underlying
  simp only [List.getElem?_toArray,List.getElem?_cons_zero,List.getElem?_cons_succ,bind_assoc]
  refine RS.prog ?_
  simp only [h1,pure_bind]
  refine RS.tl (dM _) fun size=>?_
  refine RS.prog ?_
  simp only [h1,pure_bind,Bool.false_eq_true,↓reduceIte,Bool.not_false]
  refine RS.bnd (Fw hx) fun σ n n' hl e1=>?_
  obtain ⟨rfl,hn0⟩:=e1
  have hx:=hx.mono hl
  split
  ·refine RS.bnd (iT size n hx hn0) fun τ c c' hl2 hc=>?_
   exact RS.ret (VR.tV _ _)
  ·have fin:∀ τ:Map,σ.le τ→∀ newCap:Nat,RS P VR τ
     (do
      askRoom (newCap * (← typeInfo e).bytes)
      let old ← Builtin.firstCells size 0 (.slice none 0 0)
      let new ← Builtin.firstCells size n x
      let rest:=Builtin.zeroCells (← zeroValue e).cells (newCap - (0+n))
      pure (.slice (some (← newRow e (old++new++rest))) (0+n) newCap))
     (do
      askRoom (newCap * (← typeInfo e).bytes)
      let old ← Builtin.firstCells size 0 (.slice none 0 0)
      let new ← Builtin.firstCells size n x'
      let rest:=Builtin.zeroCells (← zeroValue e).cells (newCap - (0+n))
      pure (.slice (some (← newRow e (old++new++rest))) (0+n) newCap)):=by
    intro τ hτ newCap
    refine RS.tl (iR _) fun ti=>?_
    refine RS.bnd (Db _) fun τ2 _ _ h2 _=>?_
    refine RS.bnd (iT size 0 (VR.tV 0 0) fun _ _=>rfl) fun τ3 o o' h3 ho=>?_
    refine RS.bnd (iT size n (hx.mono (Map.le_trans hτ (Map.le_trans h2 h3))) hn0) fun τ4 c c' h4 hc=>?_
    refine RS.bnd (jC ht) fun τ5 z z' h5 hz=>?_
    refine RS.bnd (xI e (((ho.mono (Map.le_trans h4 h5)).append (hc.mono h5)).append (hz.cells.zeroCells _))) fun τ6 a b h6 ha=>?_
    exact RS.ret (VR.slice _ _ _ _ ha)
   refine RS.tl (iR _) fun ti=>?_
   split
   ·exact RS.jP (aD.first (fO _))
   ·refine RS.tl (iR _) fun ti2=>?_
    split
    ·exact RS.jP (aD.first (aD.then (wJ _ _ _) fun _=>by split<;>trivial))
    ·refine RS.bnd (Fx _) fun τ c c' hl2 e2=>?_
     subst e2
     exact fin τ hl2 c
 ·cases ht
theorem RR.fold {xs ys:Array Value} (h:RR ρ xs ys) (off:Nat):∀ (l m:List (Value × Nat)),l.length=m.length→(∀ (i:Nat) (h1:i<l.length) (h2:i<m.length),VR ρ l[i].1 m[i].1∧l[i].2=m[i].2) →
  RR ρ (l.foldl (fun cs x=>cs.setIfInBounds (off+x.2) x.1) xs) (m.foldl (fun cs x=>cs.setIfInBounds (off+x.2) x.1) ys):=by
 intro l
 induction l generalizing xs ys with
 | nil=>intro m hs _;cases m with
  | nil=>exact h
  | cons _ _=>simp at hs
 | cons x l ih=>
  intro m hs hh
  cases m with
  | nil=>simp at hs
  | cons y m=>
   have h0:=hh 0 (by simp) (by simp)
   simp only [List.getElem_cons_zero] at h0
   simp only [List.foldl_cons]
   rw [h0.2]
   exact ih (h.set _ h0.1) m (by simpa using hs) fun i h1 h2=>hh (i+1) (by simp;omega) (by simp;omega)
theorem FD (place:Nat→Option (Nat × Nat)):∀ (l m:List (Nat × Value)) {xs ys:Array Value},RR ρ xs ys→l.length=m.length→(∀ (i:Nat) (h1:i<l.length) (h2:i<m.length),l[i].1=m[i].1∧VR ρ l[i].2 m[i].2) →
  (Instr.fill place xs l=none∧Instr.fill place ys m=none)∨∃ u v,Instr.fill place xs l=some u∧Instr.fill place ys m=some v∧RR ρ u v:=by
 intro l
 induction l with
 | nil=>intro m xs ys h hs _;cases m with
  | nil=>exact .inr ⟨_,_,rfl,rfl,h⟩
  | cons _ _=>simp at hs
 | cons x l ih=>
  intro m xs ys h hs hh
  cases m with
  | nil=>simp at hs
  | cons y m=>
   have h0:=hh 0 (by simp) (by simp)
   simp only [List.getElem_cons_zero] at h0
   obtain ⟨i,u⟩:=x
   obtain ⟨j,v⟩:=y
   obtain ⟨e,hv⟩:=h0
   dsimp only at e hv
   subst e
   unfold Instr.fill
   cases hp:place i with
   | none=>exact .inl ⟨rfl,rfl⟩
   | some p=>
    obtain ⟨off,size⟩:=p
    dsimp only
    rw [hv.cells.size,h.size]
    split
    ·exact .inl ⟨rfl,rfl⟩
    ·rw [← Array.foldl_toList,← Array.foldl_toList]
     refine ih m (RR.fold h off _ _ (by simp [hv.cells.size]) fun i h1 h2=>?_) (by simpa using hs) fun i h1 h2=>hh (i+1) (by simp;omega) (by simp;omega)
     simp only [Array.getElem_toList,Array.getElem_zipIdx]
     exact ⟨hv.cells.at_ i (by simpa using h1) (by simpa using h2),trivial⟩
omit [aW] in
theorem LG {α β:Type} {f:α→Sem β} (h:∀ x,Tl P (f x)) (xs:Array α):Tl P (xs.mapM f):=by
 rw [Array.mapM_eq_mapM_toList]
 have:∀ l:List α,Tl P (l.mapM f):=by
  intro l
  induction l with
  | nil=>rw [List.mapM_nil];trivial
  | cons x l ih=>rw [List.mapM_cons];refine Tl.bind (h x) fun _=>Tl.bind ih fun _=>?_;trivial
 show Tl P (xs.toList.mapM f >>= fun a=>Sem.pure a.toArray)
 exact Tl.bind (this _) fun _=>trivial
theorem Jp {t:TypeId} (ht:pX P t=true) {xs ys:Array (Nat × Value)} (hs:xs.size=ys.size) (hh:∀ (i:Nat) (h1:i<xs.size) (h2:i<ys.size),xs[i].1=ys[i].1∧VR ρ xs[i].2 ys[i].2) :
  RS P VR ρ (Instr.build t xs) (Instr.build t ys):=by
 unfold Instr.build
 refine RS.bnd (jC ht) fun σ z z' hl hz=>?_
 have hh':∀ (i:Nat) (h1:i<xs.toList.length) (h2:i<ys.toList.length),xs.toList[i].1=ys.toList[i].1∧VR σ xs.toList[i].2 ys.toList[i].2:=fun i h1 h2=>by
  have:=hh i (by simpa using h1) (by simpa using h2)
  simp only [Array.getElem_toList]
  exact ⟨this.1,this.2.mono hl⟩
 refine RS.tl (bg t) fun d=>?_
 cases d<;>try exact RS.halt
 case struct fs=>
  dsimp only
  refine RS.tl (LG (f:=fun f:Field=>do pure (f.offset,← Go.sizeOf f.type)) (fun f=>by refine Tl.bind (dM f.type) fun _=>?_;trivial) fs) fun pl=>?_
  rcases FD (pl[·]?) xs.toList ys.toList hz.cells (by simpa using hs) hh' with ⟨e1,e2⟩|⟨u,v,e1,e2,r⟩
  ·simp only [e1];exact RS.halt
  ·simp only [e1,e2];exact RS.ret r.agg
 case array n e=>
  dsimp only
  refine RS.tl (dM _) fun size=>?_
  rcases FD (fun i=>some (i * size,size)) xs.toList ys.toList hz.cells (by simpa using hs) hh' with ⟨e1,e2⟩|⟨u,v,e1,e2,r⟩
  ·simp only [e1];exact RS.halt
  ·simp only [e1,e2];exact RS.ret r.agg
end
end Ren
end
section
namespace Ren
open Go
variable [aW] {P:Program}
def iK:Operand→Bool
 | .tmp _=>true
 | .const v=>Kj v
 | .func _=>false
 | .global _=>false
def kR (I:List Nat):Operand→Bool
 | .tmp t=>I.contains t
 | .const (.int _ _)=>true
 | _=>false
def fnOk (P:Program) (f:FuncId):Bool:=
 match P.funcs[f]? with
 | some fn=>fn.name != "runtime.NumGoroutine" && fn.body.isSome
 | none=>false
def Lp (P:Program) (t:TypeId):Bool:=match P.underlying t with|some (.array n _)=>decide (0<n)|_=>true
def arrTy (P:Program) (t:TypeId):Bool:=match P.underlying t with|some (.array _ _)=>true|_=>false
def isEq:BinOp→Bool|.eql|.neq=>true|_=>false
def isAdd:BinOp→Bool|.add=>true|_=>false
def om (P:Program) (F:Nat→Option (List Nat)) (I:List Nat) (o:Op):Bool:=
 match o with
 | .move x|.assign x|.box _ x|.load _ x|.unOp .not _ x|.extract x _=>iK x
 | .sliceToArrayPointer t x=>iK x && Lp P t
 | .pick c a b=>iK c && iK a && iK b
 | .alloc e=>pX P e
 | .build t ps=>pX P t && ps.all fun p=>iK p.2
 | .store _ a x|.index _ a x|.indexAddr _ a x=>iK a && iK x
 | .binOp op t x y _=>iK x && iK y && (if isAdd op then kR I x && kR I y else Nl P op t) && (!isEq op || !P.eqGuardType P.depth t)
 | .convert s d x=>iK x && H8 P s d
 | .fieldAddr t x i=>iK x && AP P t i
 | .slice t x none none none=>iK x && arrTy P t
 | .call c=>match c.callee with
  | .value (.func f)=>(match F f with|some J=>J.all (c.args.size≤·)|none=>false) && fnOk P f && c.args.all iK
  | .builtin .len=>match c.args,c.argTypes with
   | ⟨[x]⟩,⟨[t]⟩=>iK x && MF P t
   | _,_=>false
  | .builtin .append=>match c.args,c.argTypes with
   | ⟨[.const (.slice none 0 0),x]⟩,⟨[t,u]⟩=>t == u && iK x && Nw P t
   | _,_=>false
  | _=>false
 | _=>false
def H5 (I:List Nat) (o:Oper):Bool:=
 match o.dst with
 | none=>true
 | some d=>!I.contains d || match o.op with
  | .move x|.assign x=>kR I x
  | .binOp .add _ x y _=>kR I x && kR I y
  | _=>false
inductive NR (F:Nat→Option (List Nat)) (ρ:Map):Next→Next→Prop
 | value (u v:Value) (h:VR ρ u v):NR F ρ (.value u) (.value v)
 | skip:NR F ρ .skip .skip
 | enter (f:FuncId) (xs ys:Array Value) (J:List Nat) (hf:F f=some J) (hJ:∀ t∈J,xs.size≤t) (h:RR ρ xs ys):NR F ρ (.enter f xs) (.enter f ys)
structure EvR (I:List Nat) (ρ:Map) (e e':Operand→Value):Prop where
 vr:∀ x,iK x=true→VR ρ (e x) (e' x)
 int:∀ x,kR I x=true→(∃ k n,e x=.int k n∧e' x=.int k n)∨e x=.tuple #[]
 func:∀ f,e (.func f)=.func (.func f) #[] #[]∧e' (.func f)=.func (.func f) #[] #[]
 const:∀ v,e (.const v)=v∧e' (.const v)=v
section
variable {ρ:Map} {F:Nat→Option (List Nat)} {I:List Nat} {e e':Operand→Value}
theorem zO {s t:Sem Value} (h:RS P VR ρ s t):RS P (NR F) ρ (do pure (.value (← s))) (do pure (.value (← t))):=
 RS.bnd h fun _ _ _ _ hv=>RS.ret (.value _ _ hv)
theorem rs_u {s t:Sem Unit} (h:RS P E ρ s t):RS P (NR F) ρ (do s;pure .skip) (do t;pure .skip):=
 RS.bnd h fun _ _ _ _ _=>RS.ret .skip
theorem rr_map (h:EvR I ρ e e') {xs:Array Operand} (hx:xs.all iK=true):RR ρ (xs.map e) (xs.map e'):=
 ⟨by simp,fun i h1 h2=>by simp;exact h.vr _ (Array.all_eq_true.1 hx i (by simpa using h1))⟩
theorem zT {f:FuncId} {J:List Nat} (hf:F f=some J) (hok:fnOk P f=true) {xs ys:Array Value} (hJ:∀ t∈J,xs.size≤t) (h:RR ρ xs ys):RS P (NR F) ρ (callFunc f xs) (callFunc f ys):=by
 unfold fnOk at hok
 split at hok
 ·rename_i fn hfn
  simp only [Bool.and_eq_true,bne_iff_ne,ne_eq] at hok
  unfold callFunc
  refine RS.prog ?_
  have h1:(fn.name == "runtime.NumGoroutine")=false:=by simpa using hok.1
  have h2:fn.body.isNone=false:=by
   cases hb:fn.body with
   | none=>rw [hb] at hok;exact absurd hok.2 (by simp)
   | some _=>rfl
  simp only [hfn,h1,h2,Bool.false_eq_true,↓reduceIte]
  exact RS.ret (.enter _ _ _ J hf hJ h)
 ·cases hok
theorem qy (hG:P.globals.size≤aW.g) (h:EvR I ρ e e') (o:Oper) (hok:om P F I o.op=true):RS P (NR F) ρ (execOp e o) (execOp e' o):=by
 unfold execOp
 revert hok
 cases o.op<;>intro hok<;>first|(exact Bool.noConfusion hok)|skip
 case move x=>exact RS.ret (.value _ _ (h.vr _ hok))
 case assign x=>exact RS.ret (.value _ _ (h.vr _ hok))
 case pick c a b=>
  simp only [om,Bool.and_eq_true] at hok
  refine RS.bnd (Fy (h.vr _ hok.1.1)) fun σ p q hl e=>?_
  subst e
  cases p
  ·exact RS.ret (.value _ _ ((h.vr _ hok.2).mono hl))
  ·exact RS.ret (.value _ _ ((h.vr _ hok.1.2).mono hl))
 case alloc t=>exact zO (Jr hok)
 case box t x=>exact zO (rs_box t (h.vr _ hok))
 case build t ps=>
  simp only [om,Bool.and_eq_true] at hok
  refine zO (Jp hok.1 (by simp) fun i h1 h2=>?_)
  simp only [Array.getElem_map]
  exact ⟨trivial,h.vr _ (Array.all_eq_true.1 hok.2 i (by simpa using h1))⟩
 case load t a=>exact zO (Fu t (h.vr _ hok))
 case store t a x=>
  simp only [om,Bool.and_eq_true] at hok
  exact rs_u (CU t (h.vr _ hok.1) (h.vr _ hok.2))
 case binOp op t x y u=>
  simp only [om,Bool.and_eq_true] at hok
  obtain ⟨⟨⟨hx,hy⟩,hb⟩,hg⟩:=hok
  refine zO (RS.bnd (A:=E) ?_ fun σ _ _ hl _=>?_)
  ·by_cases he:isEq op=true
   ·simp only [he,Bool.not_true,Bool.false_or,Bool.not_eq_true'] at hg
    exact C9 hg x y (h.vr _ hx) (h.vr _ hy)
   ·cases op<;>first|exact absurd rfl he|exact RS.ret (A:=E) (a:=()) rfl
  ·by_cases ha:isAdd op=true
   ·have:op=.add:=by cases op<;>first|rfl|cases ha
    subst this
    simp only [isAdd,↓reduceIte,Bool.and_eq_true] at hb
    rcases h.int _ hb.1 with ⟨k,n,e1,e2⟩|e1
    ·rcases h.int _ hb.2 with ⟨k',n',f1,f2⟩|f1
     ·rw [e1,e2,f1,f2];exact FC
     ·rw [e1,f1];exact RS.halt
    ·rcases h.int _ hb.2 with ⟨k',n',f1,f2⟩|f1
     ·rw [e1,f1];exact RS.halt
     ·rw [e1,f1];exact RS.halt
   ·simp only [ha,Bool.false_eq_true,↓reduceIte] at hb
    exact Jq hb hG ((h.vr _ hx).mono hl) ((h.vr _ hy).mono hl)
 case unOp op t x=>
  cases op<;>first|exact Bool.noConfusion hok|exact zO (rs_not (h.vr _ hok))
 case convert s d x=>
  simp only [om,Bool.and_eq_true] at hok
  exact zO (Da hok.2 (h.vr _ hok.1))
 case sliceToArrayPointer t x=>
  simp only [om,Bool.and_eq_true] at hok
  refine zO (Dc t (fun n e hu=>?_) (h.vr _ hok.1))
  have:=hok.2
  unfold Lp at this
  rw [hu] at this
  simpa using this
 case slice t x lo hi mx=>
  cases lo<;>cases hi<;>cases mx<;>first|exact Bool.noConfusion hok|skip
  simp only [om,Bool.and_eq_true] at hok
  refine zO (CV ?_ (h.vr _ hok.1))
  have:=hok.2
  unfold arrTy at this
  split at this
  ·exact ⟨_,_,by assumption⟩
  ·cases this
 case fieldAddr t x i=>
  simp only [om,Bool.and_eq_true] at hok
  exact zO (zS t (h.vr _ hok.1) i hok.2)
 case indexAddr t x i=>
  simp only [om,Bool.and_eq_true] at hok
  exact zO (CY t (h.vr _ hok.1) (h.vr _ hok.2))
 case index t x i=>
  simp only [om,Bool.and_eq_true] at hok
  exact zO (Jn t (h.vr _ hok.1) (h.vr _ hok.2))
 case extract x i=>exact zO (C8 (h.vr _ hok) i)
 case call c=>
  obtain ⟨callee,args,tys⟩:=c
  cases callee with
  | invoke r m=>exact Bool.noConfusion hok
  | value x=>
   cases x<;>first|exact Bool.noConfusion hok|skip
   rename_i f
   simp only [om,Bool.and_eq_true] at hok
   simp only [resolve,(h.func f).1,(h.func f).2,Deferred.ofValue,pure_bind,invoke]
   have hF:=hok.1.1
   split at hF
   ·rename_i J hJ
    refine zT hJ hok.1.2 (fun t ht=>?_) (by simpa using rr_map h hok.2)
    have:=List.all_eq_true.1 hF t ht
    simpa using this
   ·cases hF
  | builtin b=>
   cases b<;>first|exact Bool.noConfusion hok|skip
   case append=>
    unfold om at hok
    dsimp only at hok
    split at hok
    ·rename_i x t u
     simp only [Bool.and_eq_true,beq_iff_eq] at hok
     obtain ⟨⟨rfl,hx⟩,ht⟩:=hok
     simp only [resolve,pure_bind,invoke,builtin,List.map_toArray,List.map_cons,List.map_nil,(h.const _).1,(h.const _).2]
     exact zO (FB ht _ (h.vr _ hx))
    ·cases hok
   case len=>
    unfold om at hok
    dsimp only at hok
    split at hok
    ·rename_i x t
     simp only [Bool.and_eq_true] at hok
     simp only [resolve,pure_bind,invoke,builtin,List.map_toArray,List.map_cons,List.map_nil]
     exact zO (rs_len hok.2 _ (h.vr _ hok.1))
    ·cases hok
end
end Ren
end
