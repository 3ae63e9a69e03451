/- A goroutine of given code, whatever memory holds: comparisons, arithmetic, conversions. Conditions: none. -/
import Derived.Test.YthhmolonhpaepaaGreatDoorVJZd
set_option linter.unusedVariables false
set_option linter.unusedSimpArgs false
section
namespace Mz
open Go Go.Conc Ren
variable [T:Mc]
section
theorem uu (t:TypeId):MZ Tr (typeStr t):=by
 unfold typeStr
 refine MZ.bind (aK t) fun i _=>?_
 show MZ Tr (if i.str.isEmpty=true then _ else _)
 split<;>first|exact MZ.ok|exact MZ.dead
theorem sI (a b:Option Addr):MZ Tr (samePointer a b):=by
 unfold samePointer
 split
 ·exact qL _ _
 ·exact MZ.ok
theorem DC:∀ (d:Nat) (t:TypeId) (x y:Value),MZ Tr (Op.equalIn d t x y):=by
 intro d
 induction d with
 | zero=>intro t x y;exact MZ.dead
 | succ d ih=>
  intro t x y
  unfold Op.equalIn
  refine MZ.bind (ak t) fun u _=>?_
  split
  case h_2=>split<;>first|exact MZ.ok|exact MZ.dead
  case h_5=>
   refine MZ.bind (bf _) fun a _=>MZ.bind (bf _) fun b _=>MZ.prog ?_
   split
   ·exact MZ.bind (gK _) fun _ _=>MZ.bind (gK _) fun _ _=>MZ.ok
   ·refine MZ.bind (aK t) fun i _=>?_
    split
    ·split
     ·exact MZ.ok
     ·exact MZ.dead
    ·exact MZ.dead
  case h_13=>
   refine MZ.bind (aY _) fun n _=>?_
   split
   ·exact qL _ _
   ·split
    ·exact MZ.ok
    ·exact MZ.bind (bN _) fun _ _=>MZ.ok
  case h_14=>exact sI _ _
  case h_19=>
   split
   ·exact MZ.ok
   ·refine MZ.bind (aK _) fun i _=>?_
    dsimp only
    split
    ·refine MZ.prog (MZ.prog ?_)
     split
     ·exact bM _
     ·exact MZ.bind (uu _) fun _ _=>aR _
    ·exact ih _ _ _
  case h_20=>
   refine MZ.prog ?_
   split
   ·exact MZ.dead
   ·refine MZ.bind (A:=Tr) (mh (fun f s=>?_) _ _) fun r _=>?_
    ·split
     ·refine MZ.bind (fP _ _ _) fun v _=>MZ.bind (fP _ _ _) fun u _=>MZ.bind (ih _ _ _) fun b _=>?_
      split<;>exact MZ.ok
     ·exact MZ.ok
    ·dsimp only;split<;>exact MZ.ok
  case h_21=>
   refine MZ.bind (aY _) fun n _=>MZ.bind (A:=Tr) (yw (fun i s=>?_) _ _) fun r _=>?_
   ·refine MZ.bind (fP _ _ _) fun v _=>MZ.bind (fP _ _ _) fun u _=>MZ.bind (ih _ _ _) fun b _=>?_
    split<;>exact MZ.ok
   ·dsimp only;split<;>exact MZ.ok
  all_goals first|exact MZ.ok|exact MZ.dead|(split<;>first|exact MZ.ok|exact MZ.dead)
theorem Bz (t:TypeId) (x y:Value):MZ Tr (Op.equal t x y):=DC _ t x y
theorem yx:∀ (d:Nat) (t:TypeId) (x y:Value),MZ Tr (Op.eqGuardIn d t x y):=by
 intro d
 induction d with
 | zero=>intro t x y;exact MZ.dead
 | succ d ih=>
  intro t x y
  unfold Op.eqGuardIn
  refine MZ.bind (ak t) fun u _=>?_
  split
  ·exact MZ.ok
  ·refine MZ.bind (A:=Tr) (mh (fun f s=>?_) _ _) fun r _=>?_
   ·split
    ·refine MZ.bind (fP _ _ _) fun v _=>MZ.bind (fP _ _ _) fun u _=>MZ.bind (ih _ _ _) fun b _=>?_
     split<;>exact MZ.ok
    ·exact MZ.ok
   ·dsimp only;split<;>exact MZ.ok
  ·refine MZ.bind (aY _) fun n _=>MZ.bind (A:=Tr) (yw (fun i s=>?_) _ _) fun r _=>?_
   ·refine MZ.bind (fP _ _ _) fun v _=>MZ.bind (fP _ _ _) fun u _=>MZ.bind (ih _ _ _) fun b _=>?_
    split<;>exact MZ.ok
   ·dsimp only;split<;>exact MZ.ok
  ·exact MZ.ok
theorem DD (op:BinOp) (t:TypeId) (x y:Operand) (a b:Value):MZ Tr (eqGuard op t x y a b):=by
 have ga:=yx Op.maxDepth t a b
 unfold eqGuard
 have key:MZ Tr (match (generalizing:=false) a,b with
  | .nilIface,.nilIface=>
   if (x matches .const _) || (y matches .const _) then pure ()
   else do
    if ← Op.eqGuardIn Op.maxDepth t a b then
     unsupported (.noEntry "binop/eql: two nil values of an interface type with methods, neither of them the literal nil")
  | .agg _,.agg _=>do
   if !(← program).eqGuardType (← program).depth t then return
   if ← Op.eqGuardIn Op.maxDepth t a b then
    unsupported (.noEntry "binop/eql: two nil values of an interface type with methods, in a part of a struct or an array")
  | _,_=>pure ():Sem Unit):=by
  split
  ·refine uy MZ.ok ?_
   refine MZ.bind ga fun r _=>?_
   split
   ·exact MZ.dead
   ·exact MZ.ok
  ·refine MZ.prog (MZ.prog ?_)
   split
   ·exact MZ.ok
   ·refine MZ.bind ga fun r _=>?_
    split
    ·exact MZ.dead
    ·exact MZ.ok
  ·exact MZ.ok
 split
 ·simp only [Bool.not_true,Bool.false_eq_true,if_false];exact key
 ·simp only [Bool.not_true,Bool.false_eq_true,if_false];exact key
 ·simp only [Bool.not_false,if_true];exact MZ.ok
theorem Aq (a:Addr) (b:Bool):MZ Tr (asNumber a b):=by
 unfold asNumber
 exact MZ.bind (yl trivial) fun r _=>MZ.ok
theorem ow (t:TypeId) (p:Option Addr) (y:Value):MZ Tr (Builtin.unsafeAdd_ #[] t #[.pointer p,y]):=by
 unfold Builtin.unsafeAdd_
 dsimp only
 refine MZ.bind (kG _) fun n _=>?_
 split
 ·split
  ·refine MZ.bind (yc _) fun x _=>?_
   split
   ·exact bM _
   ·exact MZ.ok
  ·exact MZ.dead
 ·split
  ·exact bM _
  ·split
   ·refine kE (fun x=>?_) (.inr ⟨.unsupported (.unsafePointer "Add"),trivial,rfl⟩)
    split
    ·refine MZ.prog ?_
     split
     ·exact MZ.ok
     ·exact MZ.dead
    ·exact MZ.dead
   ·exact MZ.dead
theorem yC (t:TypeId) (x y:Value):MZ Tr (Builtin.unsafeAdd_ #[] t #[x,y]):=by
 cases x with
 | pointer p=>exact ow t p y
 | _=>exact MZ.dead
theorem iq (t:TypeId) (x y:Value):MZ Tr (movedNumber t x y):=by
 have fin:=yC t x y
 unfold movedNumber
 refine MZ.bind (ak t) fun d _=>?_
 split
 ·refine uy (bM _) ?_
  refine MZ.bind (bf _) fun a _=>MZ.bind (ow _ _ _) fun v _=>?_
  split
  ·exact Aq _ _
  ·exact MZ.ok
 ·exact uy (bM _) fin
theorem qU (t:TypeId) (x y:Value):MZ Tr (movedPointer t x y):=by
 have fin:=yC t x y
 unfold movedPointer
 split
 ·refine MZ.bind (qP _) fun n _=>?_
  split
  ·exact bM _
  ·exact fin
 ·exact fin
theorem oD (a b:Addr):MZ Tr (Op.twoPlaces a b):=by
 unfold Op.twoPlaces
 refine MZ.prog ?_
 split
 ·exact bM _
 ·exact MZ.bind (gK a) fun _ _=>MZ.bind (gK b) fun _ _=>MZ.ok
theorem DK (k:IntKind) (a b:Addr):MZ Tr (Op.addrSub k a b):=MZ.bind (oD a b) fun _ _=>MZ.ok
theorem kH (op:BinOp) (a b:Addr):MZ Tr (Op.addrCmp op a b):=by
 unfold Op.addrCmp
 refine MZ.bind (oD a b) fun p _=>?_
 dsimp only
 split<;>first|exact MZ.ok|exact MZ.dead
theorem nG (k:IntKind) (a:Addr) (n:Int):MZ Tr (Op.addrMod k a n):=by
 unfold Op.addrMod
 refine kE (fun x=>?_) (.inr ⟨.unsupported .addressObserved,trivial,rfl⟩)
 split
 ·refine MZ.bind (aK _) fun i _=>?_
  dsimp only
  split
  ·exact bM _
  ·exact MZ.bind (gK a) fun _ _=>MZ.ok
 ·exact MZ.dead
theorem JL (op:UnOp) (v:Value):MZ Tr (Op.unary op v):=by
 unfold Op.unary
 split<;>first|exact qV _ _ _ _|exact uz _ _ _ _|exact MZ.ok|exact MZ.dead
theorem mo (op:BinOp) (k:FloatKind) (a b:Nat):MZ Tr (Op.floatArith op k a b):=by
 unfold Op.floatArith
 have fin:∀ r:Option Nat,MZ Tr (match r with
  | some r=>pure (.float k r)
  | none=>do pure (.float k (← choose (.nanBits k a b))):Sem Value):=fun r=>by
  split
  ·exact MZ.ok
  ·exact MZ.bind (bN _) fun _ _=>MZ.ok
 split<;>first|exact MZ.bind (A:=Tr) MZ.ok fun r _=>fin r|exact l9 _
theorem qY (op:BinOp) (k:FloatKind) (a b:Nat):MZ Tr (Op.floatCmp op k a b):=by
 unfold Op.floatCmp
 dsimp only
 split<;>first|exact MZ.ok|exact MZ.dead
theorem qX (s:FloatKind) (b:Nat) (d:FloatKind):MZ Tr (Conv.floatToFloat s b d):=by
 unfold Conv.floatToFloat
 split
 ·exact MZ.ok
 ·split
  ·exact MZ.bind (bN _) fun _ _=>MZ.ok
  ·exact MZ.ok
  ·dsimp only
   split
   ·exact MZ.bind (bN _) fun _ _=>MZ.ok
   ·exact MZ.ok
theorem bO (op:BinOp) (k:FloatKind) (a b:Nat):MZ Tr (Op.Complex.arith op k a b):=by
 unfold Op.Complex.arith
 refine MZ.bind (mo _ _ _ _) fun v _=>?_
 split<;>first|exact MZ.ok|exact MZ.dead
theorem lG (op:BinOp) (k:FloatKind) (a b:Nat):MZ Tr (Op.Complex.cmp op k a b):=MZ.bind (qY _ _ _ _) fun v _=>rf v
theorem bV (s:FloatKind) (b:Nat) (d:FloatKind):MZ Tr (Op.Complex.conv s b d):=by
 unfold Op.Complex.conv
 split
 ·exact MZ.ok
 ·refine MZ.bind (qX _ _ _) fun v _=>?_
  split<;>first|exact MZ.ok|exact MZ.dead
theorem uw (a b c d:Nat):MZ Tr (Op.Complex.product a b c d):=by
 unfold Op.Complex.product
 exact MZ.bind (bO _ _ _ _) fun _ _=>MZ.bind (bO _ _ _ _) fun _ _=>MZ.bind (bO _ _ _ _) fun _ _=>MZ.bind (bO _ _ _ _) fun _ _=>MZ.bind (bO _ _ _ _) fun _ _=>MZ.bind (bO _ _ _ _) fun _ _=>MZ.ok
theorem oG (s a b c d:Nat):MZ Tr (Op.Complex.corrected s a b c d):=by
 unfold Op.Complex.corrected
 repeat' (first|exact MZ.ok|refine MZ.bind (bO _ _ _ _) fun _ _=>?_)
theorem qN (a b c d:Nat):MZ Tr (Op.Complex.quotient a b c d):=by
 unfold Op.Complex.quotient
 have fin:∀ p:Nat × Nat,MZ Tr (do
   let zero:=(← Op.Complex.cmp .eql .f64 c 0) && (← Op.Complex.cmp .eql .f64 d 0)
   if !(Op.Complex.isNaN p.1 && Op.Complex.isNaN p.2) then pure (p.1,p.2)
   else if zero && (!Op.Complex.isNaN a || !Op.Complex.isNaN b) then
    pure (← Op.Complex.mul (Op.Complex.copysign Op.Complex.inf c) a,← Op.Complex.mul (Op.Complex.copysign Op.Complex.inf c) b)
   else if (Op.Complex.isInf a || Op.Complex.isInf b) && Op.Complex.isFinite c && Op.Complex.isFinite d then
    Op.Complex.corrected Op.Complex.inf (Op.Complex.inf2one a) (Op.Complex.inf2one b) c d
   else if (Op.Complex.isInf c || Op.Complex.isInf d) && Op.Complex.isFinite a && Op.Complex.isFinite b then
    Op.Complex.corrected 0 a b (Op.Complex.inf2one c) (Op.Complex.inf2one d)
   else pure (p.1,p.2):Sem (Nat × Nat)):=fun p=>by
  refine MZ.bind (lG _ _ _ _) fun _ _=>MZ.bind (lG _ _ _ _) fun _ _=>?_
  dsimp only
  split
  ·exact MZ.ok
  ·split
   ·exact MZ.bind (bO _ _ _ _) fun _ _=>MZ.bind (bO _ _ _ _) fun _ _=>MZ.ok
   ·split
    ·exact oG _ _ _ _ _
    ·split
     ·exact oG _ _ _ _ _
     ·exact MZ.ok
 refine MZ.bind (lG _ _ _ _) fun q _=>?_
 dsimp only
 split<;>repeat' (first|with_reducible exact MZ.bind (A:=Tr) MZ.ok fun p _=>fin p|refine MZ.bind (bO _ _ _ _) fun _ _=>?_)
theorem yB (op:BinOp) (k:FloatKind) (a b c d:Nat):MZ Tr (Op.complexOp op k a b c d):=by
 unfold Op.complexOp
 split
 ·exact MZ.bind (bO _ _ _ _) fun _ _=>MZ.bind (bO _ _ _ _) fun _ _=>MZ.ok
 ·exact MZ.bind (bO _ _ _ _) fun _ _=>MZ.bind (bO _ _ _ _) fun _ _=>MZ.ok
 ·refine MZ.bind (bV _ _ _) fun _ _=>MZ.bind (bV _ _ _) fun _ _=>MZ.bind (bV _ _ _) fun _ _=>MZ.bind (bV _ _ _) fun _ _=>?_
  dsimp only
  split
  ·exact MZ.bind (uw _ _ _ _) fun _ _=>MZ.bind (bV _ _ _) fun _ _=>MZ.bind (bV _ _ _) fun _ _=>MZ.ok
  ·exact MZ.bind (qN _ _ _ _) fun _ _=>MZ.bind (bV _ _ _) fun _ _=>MZ.bind (bV _ _ _) fun _ _=>MZ.ok
 ·refine MZ.bind (bV _ _ _) fun _ _=>MZ.bind (bV _ _ _) fun _ _=>MZ.bind (bV _ _ _) fun _ _=>MZ.bind (bV _ _ _) fun _ _=>?_
  dsimp only
  split
  ·exact MZ.bind (uw _ _ _ _) fun _ _=>MZ.bind (bV _ _ _) fun _ _=>MZ.bind (bV _ _ _) fun _ _=>MZ.ok
  ·exact MZ.bind (qN _ _ _ _) fun _ _=>MZ.bind (bV _ _ _) fun _ _=>MZ.bind (bV _ _ _) fun _ _=>MZ.ok
 ·exact MZ.bind (lG _ _ _ _) fun _ _=>MZ.bind (lG _ _ _ _) fun _ _=>MZ.ok
 ·exact MZ.bind (lG _ _ _ _) fun _ _=>MZ.bind (lG _ _ _ _) fun _ _=>MZ.ok
 ·exact MZ.dead
set_option maxHeartbeats 1600000 in
theorem JV (op:BinOp) (t:TypeId) (x y:Value):MZ Tr (binOp op t x y):=by
 unfold binOp
 split
 case h_1=>exact Bu _ _ _ _ _
 case h_2=>exact Bu _ _ _ _ _
 case h_3=>
  split
  ·exact MZ.dead
  ·split<;>first|exact qV _ _ _ _|exact Gj _ _ _ _|exact uz _ _ _ _|exact Gl _ _ _
 case h_4=>
  split
  ·exact MZ.dead
  ·split<;>first|exact mo _ _ _ _|exact qY _ _ _ _
 case h_5=>
  split
  ·exact MZ.dead
  ·exact yB _ _ _ _ _ _
 case h_6=>exact qK _ _ _
 case h_7=>exact MZ.bind (Bz _ _ _) fun _ _=>MZ.ok
 case h_8=>exact MZ.bind (Bz _ _ _) fun _ _=>MZ.ok
 case h_9=>
  refine MZ.bind (ak _) fun d _=>?_
  split
  ·exact qU _ _ _
  ·exact iq _ _ _
 case h_10=>exact iq _ _ _
 case h_11=>exact iq _ _ _
 case h_12=>exact MZ.bind (bf _) fun _ _=>MZ.bind (bf _) fun _ _=>DK _ _ _
 case h_13=>exact MZ.bind (bf _) fun _ _=>MZ.bind (bf _) fun _ _=>kH _ _ _
 case h_14=>exact MZ.bind (bf _) fun _ _=>MZ.bind (bf _) fun _ _=>kH _ _ _
 case h_15=>exact MZ.bind (bf _) fun _ _=>MZ.bind (bf _) fun _ _=>kH _ _ _
 case h_16=>exact MZ.bind (bf _) fun _ _=>MZ.bind (bf _) fun _ _=>kH _ _ _
 case h_17=>exact MZ.bind (bf _) fun _ _=>nG _ _ _
 case h_18=>exact MZ.bind (bf _) fun _ _=>nG _ _ _
 case h_19=>exact MZ.bind (bf _) fun _ _=>nG _ _ _
 all_goals exact MZ.dead
theorem oP {a:Addr} (h:¬ T.bad a.block):MZ Tr (markStringish a):=by
 unfold markStringish
 refine kE (fun x=>?_) (.inl h)
 split
 ·exact Gm (a:={ block:=a.block,off:=_ }) 1 h
 ·exact MZ.ok
theorem oN (e:TypeId) (s:ByteArray):MZ Tr (Conv.stringToBytes e s):=by
 unfold Conv.stringToBytes
 exact MZ.bind (bN _) fun c _=>MZ.bind (fG _ _) fun a ha=>MZ.bind (oP ha) fun _ _=>MZ.ok
theorem oM (e:TypeId) (s:ByteArray):MZ Tr (Conv.stringToRunes e s):=by
 unfold Conv.stringToRunes
 exact MZ.bind (bN _) fun c _=>MZ.bind (fG _ _) fun a _=>MZ.ok
theorem oU (x:Value):MZ Tr (Conv.bytesToString x):=by
 unfold Conv.bytesToString
 split
 ·exact MZ.ok
 ·refine MZ.bind (gY _ _) fun cs _=>MZ.bind (A:=Tr) (mh (fun c s=>?_) _ _) fun r _=>MZ.ok
  split<;>first|exact MZ.ok|exact MZ.dead
 ·exact MZ.dead
theorem oO (x:Value):MZ Tr (Conv.runesToString x):=by
 unfold Conv.runesToString
 split
 ·exact MZ.ok
 ·refine MZ.bind (gY _ _) fun cs _=>MZ.bind (A:=Tr) (mh (fun c s=>?_) _ _) fun r _=>MZ.ok
  split<;>first|exact MZ.ok|exact MZ.dead
 ·exact MZ.dead
theorem vP (s:FloatKind) (b:Nat) (d:IntKind):MZ Tr (Conv.floatToInt s b d):=by
 unfold Conv.floatToInt
 have fin:MZ Tr (do pure (.int d (d.wrap (← choose (.floatToInt s b d)))):Sem Value):=MZ.bind (bN _) fun _ _=>MZ.ok
 dsimp only
 split
 ·split
  ·exact MZ.ok
  ·exact fin
 ·exact fin
theorem DI {s d:TypeId} (hc:H9 s d=true) (x:Value):MZ Tr (convert s d x):=by
 unfold convert
 refine MZ.bind (il s) fun u hu=>MZ.bind (il d) fun v hv=>?_
 unfold H9 at hc
 rw [hu,hv] at hc
 clear hu hv
 split
 case h_1=>exact MZ.ok
 case h_2=>simp at hc
 case h_3=>exact vP _ _ _
 case h_4=>simp at hc
 case h_5=>simp at hc
 case h_6=>exact MZ.ok
 case h_7=>exact MZ.ok
 case h_8=>
  refine MZ.bind (ak _) fun e _=>?_
  split
  ·exact oN _ _
  ·exact oM _ _
  ·exact MZ.dead
 case h_9=>simp at hc
 case h_10=>
  refine MZ.bind (ak _) fun e _=>?_
  split
  ·exact oU _
  ·exact oO _
  ·exact MZ.dead
 case h_11=>simp at hc
 case h_12=>simp at hc
 all_goals exact MZ.dead
end
end Mz
end
section
namespace Mz
open Go Go.Conc Ren
variable [T:Mc]
def Ret (f:FuncId) (v:Value):Prop:=∀ c,T.kr f=some c→KV c v
def Cn (f:FuncId):Prop:=∃ fn,T.P.funcs[f]?=some fn∧(fn.name == "runtime.NumGoroutine")=false ∧
 ((∃ b,fn.body=some b∧codeOk f b=true∧∀ c,T.kr f=some c→T.tr f=false→∃ t,fn.results=#[.tmp t]∧(t,c)∈T.kl f)∨(fn.body=none∧T.kr f=none∧Extern.findNext fn=none∧∀ e,Extern.find fn=some e→∀ args,MZ Tr (e args)))
class Lw [T:Mc]:Prop where
 fnb:∀ f,T.fn f=true→Cn f
 nm:∀ t i (m:Method) f b,T.P.info? t=some i→m∈i.methods→T.nm m.name=true→m.func=some (f,b)→T.fn f=true∧T.kl f=[]∧T.tr f=false
def cu (D:Value→Prop):Next→Prop
 | .value v=>D v
 | .skip=>True
 | .enter f args=>IM f∧Keys f args∧(T.tr f=true→args.size=1)∧∀ v,Ret f v→D v
 | .round l f tmps a b=>T.n0≤l∧sW f∧Keys f tmps∧codeOk f a=true∧codeOk f b=true∧T.tr f=false∧∀ v,D v
 | .comm _ _ _=>T.bR=true∧∀ v,D v
 | _=>False
section
variable {D:Value→Prop}
theorem bn {s:Sem Value} (hD:∀ v,D v) (h:MZ Tr s):MZ (cu D) (do pure (.value (← s))):=MZ.bind h fun v _=>MZ.ret (hD v)
theorem Mq {s:Sem Unit} (h:MZ Tr s):MZ (cu D) (do s;pure .skip):=MZ.bind h fun _ _=>MZ.ret trivial
theorem yu (t:TypeId) (x:Place):MZ Tr (x.get t):=by
 cases x with
 | val v=>exact MZ.ok
 | var a=>exact dX t a
theorem mi:∀ (l:List FieldStep) (t:TypeId) (x:Place),MZ Tr (follow l t x)
 | [],t,x=>MZ.ok
 | s::rest,t,x=>by
  unfold follow
  refine MZ.bind (ak _) fun d _=>?_
  split
  ·split
   ·split
    ·exact MZ.bind (yu t x) fun v _=>MZ.bind (jJ v) fun a _=>MZ.bind (iZ a _) fun b _=>mi rest _ _
    ·split
     ·exact MZ.bind (iZ _ _) fun b _=>mi rest _ _
     ·exact MZ.bind (fP _ _ _) fun v _=>mi rest _ _
     ·exact MZ.dead
   ·exact MZ.dead
  ·exact MZ.dead
theorem Dq (ts:Array TypeId) (t:TypeId) (v:Value) (a b:String):MZ Tr (Builtin.ssaWrapNilChk_ ts t #[v,strVal a,strVal b]):=by
 cases v with
 | pointer p=>
  cases p with
  | some a=>exact MZ.ok
  | none=>
   refine MZ.bind (bN _) fun n _=>?_
   cases hn:n == 1 with
   | true=>
    show MZ Tr (if true=true then _ else _)
    rw [if_pos rfl]
    exact vM _
   | false=>
    show MZ Tr (if false=true then _ else _)
    rw [if_neg Bool.false_ne_true]
    cases ts[0]? with
    | none=>exact MZ.dead
    | some pt=>
     refine MZ.bind (ak pt) fun d _=>?_
     split
     ·refine MZ.bind (aK _) fun i _=>?_
      split
      ·split
       ·dsimp only
        split
        ·exact aR _
        ·exact MZ.dead
       ·exact MZ.dead
      ·exact MZ.dead
     ·exact MZ.dead
 | _=>exact MZ.dead
theorem vL (t:TypeId) (x:Place) (b:Bool) (w:Option String):MZ Tr (receiverAt t x b w):=by
 unfold receiverAt
 refine MZ.bind (ak _) fun d _=>?_
 split
 ·exact yu _ _
 ·refine MZ.bind (yu _ _) fun v _=>?_
  split
  ·exact MZ.bind (Dq _ _ _ _ _) fun v _=>MZ.bind (jJ v) fun a _=>dX _ a
  ·exact MZ.bind (A:=Tr) MZ.ok fun v _=>MZ.bind (jJ v) fun a _=>dX _ a
 ·exact MZ.ok
 ·exact MZ.dead
 ·exact yu _ _
theorem fC:∀ (l:List FieldStep) (t:TypeId) (x:Option Value),MZ Tr (followBlind l t x)
 | [],t,x=>by unfold followBlind;exact MZ.ok
 | s::rest,t,x=>by
  unfold followBlind
  refine MZ.bind (ak _) fun d _=>?_
  split
  ·split
   ·split
    ·exact MZ.ok
    ·exact fC rest _ _
    ·exact MZ.dead
    ·exact MZ.ok
    ·exact MZ.bind (fP _ _ _) fun v _=>fC rest _ _
    ·exact MZ.dead
    ·exact fC rest _ _
   ·exact MZ.dead
  ·exact MZ.dead
theorem qR:∀ (n:Nat) (t:TypeId) (v:Value) (name:String),MZ Tr (nilAhead n t v name)
 | 0,_,_,_=>MZ.ok
 | n+1,t,v,name=>by
  unfold nilAhead
  refine MZ.bind (aK t) fun i _=>?_
  split
  ·refine MZ.bind (fC _ _ _) fun r _=>?_
   split
   ·exact MZ.ok
   ·split
    ·exact qR n _ _ _
    ·exact MZ.ok
    ·exact MZ.dead
    ·exact MZ.ok
    ·exact MZ.ok
    ·refine MZ.bind (ak _) fun d _=>?_
     split<;>exact MZ.ok
  ·exact MZ.dead
end
section
variable [L:Lw] {D:Value→Prop}
theorem ym:∀ (n:Nat) (t:TypeId) (v:Value) {name:String},T.nm name=true→MZ (fun p=>T.fn p.1=true∧T.kl p.1=[]∧T.tr p.1=false) (method n t v name)
 | 0,_,_,_,_=>MZ.dead
 | n+1,t,v,name,hn=>by
  unfold method
  refine MZ.bind (oC t) fun i hi=>?_
  split
  ·rename_i m hm
   have hmem:=Array.mem_of_find?_eq_some hm
   have hname:m.name=name:=by have:=Array.find?_some hm;simpa using this
   refine MZ.bind (mi _ _ _) fun p _=>?_
   dsimp only
   split
   ·refine MZ.bind (yu _ _) fun u _=>?_
    split
    ·exact ym n _ _ hn
    ·exact aR _
    ·exact MZ.dead
   ·rename_i f b hf
    exact MZ.bind (vL _ _ _ _) fun r _=>MZ.ret (L.nm _ _ _ _ _ hi hmem (hname ▸ hn) hf)
  ·exact MZ.dead
theorem ja {f:FuncId} (h:T.fn f=true) {args:Array Value} (ha:Keys f args) (har:T.tr f=true→args.size=1) (hD:∀ v,Ret f v→D v):MZ (cu D) (callFunc f args):=by
 obtain ⟨fn,hf,hn,hb⟩:=L.fnb f h
 unfold callFunc
 refine MZ.prog ?_
 rw [hf]
 dsimp only
 rw [hn]
 simp only [Bool.false_eq_true,if_false]
 rcases hb with ⟨b,hb,hc,hr⟩|⟨hb,hk,hx,he⟩
 ·rw [hb]
  exact MZ.ret (A:=cu D) ⟨⟨fn,b,hf,hb,hc,h,hr⟩,ha,har,hD⟩
 ·have hD':∀ v,D v:=fun v=>hD v fun c e=>by rw [hk] at e;cases e
  rw [hb,hx]
  simp only [Option.isNone_none,if_true]
  refine MZ.bind (A:=Tr) (Gf trivial) fun _ _=>?_
  cases hfd:Extern.find fn with
  | none=>
   show MZ (cu D) (if _ then _ else _)
   split
   ·exact MZ.ret (A:=cu D) (hD' _)
   ·exact MZ.dead
  | some e=>
   show MZ (cu D) (e args >>= _)
   exact MZ.bind (he e hfd args) fun v _=>MZ.ret (A:=cu D) (hD' v)
omit L in
theorem keys_nil {f:FuncId} (h:T.kl f=[]) (args:Array Value):Keys f args:=fun t c hm=>by rw [h] at hm;cases hm
theorem vQ (v:Value) {name:String} (hn:T.nm name=true) (args:Array Value) (hD:∀ v,D v):MZ (cu D) (callMethod v name args):=by
 unfold callMethod
 split
 ·exact MZ.prog (MZ.bind (ym _ _ _ hn) fun p hp=>ja hp.1 (keys_nil hp.2.1 _) (fun x=>by rw [hp.2.2] at x;cases x) fun v _=>hD v)
 ·exact aR _
 ·exact MZ.dead
omit L in
theorem iM {l:Nat} (h:T.n0≤l):MZ (fun r=>Et r∧¬ T.bad l) (Instr.getLoop l):=by
 unfold Instr.getLoop
 refine jH (fun o hb ho=>?_) ⟨.stuck "range over a function: no such loop",trivial,rfl⟩
 split
 ·exact MZ.ret ⟨ho h,hb⟩
 ·exact MZ.dead
omit T L in
theorem getD_set_ne (xs:Array Value) (i:Nat) (v:Value) {t:Nat} (h:i≠t) (d:Value):(xs.setIfInBounds i v).getD t d=xs.getD t d:=by
 simp only [Array.getD_eq_getD_getElem?]
 rw [Array.getElem?_setIfInBounds_ne h]
omit L in
theorem yO {f:FuncId}:∀ (l:List (Tmp × Value)) {xs:Array Value},Keys f xs→(∀ p∈l,∀ q∈T.kl f,q.1≠p.1)→Keys f (l.foldl (fun tmps (p:Tmp × Value)=>tmps.setIfInBounds p.1 p.2) xs)
 | [],_,h,_=>h
 | p::l,xs,h,hl=>yO l (fun t c hm=>by rw [getD_set_ne _ _ _ (fun e=>hl p (by simp) (t,c) hm e.symm)];exact h t c hm) fun q hq=>hl q (by simp [hq])
omit L in
theorem JJ {l:Nat} (h:T.n0≤l) (args:Array Value) (hD:∀ v,D v):MZ (cu D) (Instr.yield l args):=by
 unfold Instr.yield
 refine MZ.bind (iM h) fun r hr=>?_
 refine uy (l9 _) ?_
 refine MZ.ret (A:=cu D) ⟨h,hr.1.fn,?_,hr.1.asg,hr.1.body,hr.1.ntr,hD⟩
 rw [← Array.foldl_toList]
 refine yO _ hr.1.tmps fun p hp=>?_
 have:=(Array.mem_def.2 hp)
 obtain ⟨i,hi,e⟩:=Array.mem_iff_getElem.1 this
 simp only [Array.getElem_zip] at e
 rw [← e]
 exact hr.1.par _ (Array.getElem_mem _)
end
end Mz
end
section
namespace Mz
open Go Go.Conc Ren
variable [T:Mc]
structure IP (f:FuncId) (ρ:Operand→Value):Prop where
 op:∀ c o,FX f c o=true→KV c (ρ o)
 fn:∀ g,ρ (.func g)=.func (.func g) #[] #[]
def DstM (f:FuncId) (dst:Option Tmp) (v:Value):Prop:=∀ p∈T.kl f,dst=some p.1→KV p.2 v
section
variable {f:FuncId} {ρ:Operand→Value} {o:Oper}
theorem Ca (h:om f o=true) {p:Nat × Cls} (hp:p∈T.kl f) (hd:o.dst=some p.1):uI f p.2 o.op=true:=by
 unfold om at h
 rw [hd] at h
 simp only [Bool.and_eq_true,List.all_eq_true] at h
 have:=h.2 p hp
 simpa using this
theorem Kr (h:om f o=true) (hg:∀ c,uI f c o.op=false) (v:Value):DstM f o.dst v:=fun p hp hd=>by
 have:=Ca h hp hd
 rw [hg] at this
 cases this
theorem GJ {c:Cls} {v:Value} (h:Le v=true):KV c v:=fun f xs ys e=>by subst e;cases h
theorem yP (hρ:IP f ρ) {g:FuncId} {args:Array Operand} {ys:Array Value} {over:Nat} (h:Ch f g args over=true) (hy:ys.size≤over):Keys g (args.map ρ++ys):=by
 intro t c hm
 unfold Ch at h
 have:=List.all_eq_true.1 h (t,c) hm
 simp only at this
 rw [Array.getD_eq_getD_getElem?,Array.getElem?_append]
 cases ha:args[t]? with
 | some o=>
  rw [ha] at this
  have hlt:t<args.size:=(Array.getElem?_eq_some_iff.1 ha).1
  rw [if_pos (by simpa using hlt),Array.getElem?_map,ha]
  exact hρ.op c o this
 | none=>
  rw [ha] at this
  have h2:args.size+over≤t:=by simpa using this
  rw [if_neg (by simp;omega),Array.getElem?_eq_none (by simp;omega)]
  exact mD c
theorem nC {v:Value} {args:Array Value} {A:Deferred→Prop} (hf:∀ f xs ys,v=.func f xs ys→A { target:=.fn f ys,args:=xs++args }) (hn:v=.nilFunc→A { target:=.nil,args:=args }):MZ A (Deferred.ofValue v args):=by
 unfold Deferred.ofValue
 split
 ·exact MZ.ret (hf _ _ _ rfl)
 ·exact MZ.ret (hn rfl)
 ·exact MZ.dead
variable [L:Lw] {D:Value→Prop}
theorem uC {l:List FuncId} {v:Value} (hv:KV (.fn l) v) {args:Array Value} (ha:∀ g∈l,∀ ys:Array Value,ys.size≤1→Keys g (args++ys)) (hD:∀ v,D v):MZ (cu D) (do let d ← Deferred.ofValue v args;invoke d.target d.args):=by
 refine MZ.bind (A:=fun d=>MZ (cu D) (invoke d.target d.args)) (nC (fun f xs ys e=>?_) fun _=>?_) fun d hd=>hd
 ·obtain ⟨rfl,h1,g,rfl,h2,h3,h4⟩:=hv _ _ _ e
  dsimp only
  rw [Array.empty_append]
  exact ja h3 (ha g h2 ys h1) (fun x=>by rw [h4] at x;cases x) fun v _=>hD v
 ·exact (aR .nilDeref:MZ (cu D) (runtimePanic .nilDeref))
omit L in
theorem vG {v:Value} (hv:KV .yield v) (args:Array Value) (hD:∀ v,D v):MZ (cu D) (do let d ← Deferred.ofValue v args;invoke d.target d.args):=by
 refine MZ.bind (A:=fun d=>MZ (cu D) (invoke d.target d.args)) (nC (fun f xs ys e=>?_) fun _=>?_) fun d hd=>hd
 ·obtain ⟨rfl,rfl,l,rfl,h2⟩:=hv _ _ _ e
  exact JJ h2 _ hD
 ·exact (aR .nilDeref:MZ (cu D) (runtimePanic .nilDeref))
theorem vT {l:List FuncId} {v:Value} (hv:KV (.bound l) v) (args:Array Value) (hD:∀ v,D v):MZ (cu D) (do let d ← Deferred.ofValue v args;invoke d.target d.args):=by
 refine MZ.bind (A:=fun d=>MZ (cu D) (invoke d.target d.args)) (nC (fun f xs ys e=>?_) fun _=>?_) fun d hd=>hd
 ·obtain ⟨g,rfl,h2,h3,h4,h5⟩:=hv _ _ _ e
  exact ja h3 (keys_nil h4 _) (fun x=>by rw [h5] at x;cases x) fun v _=>hD v
 ·exact (aR .nilDeref:MZ (cu D) (runtimePanic .nilDeref))
theorem Mv (hρ:IP f ρ) {c:Call} (h:Ie f c=true) (t:TypeId) (hD:(∀ v,D v)∨∃ g,c.callee=.value (.func g)∧∀ v,Ret g v→D v):MZ (cu D) (do let d ← resolve ρ c t;invoke d.target d.args):=by
 unfold Ie at h
 unfold resolve
 dsimp only
 cases hc:c.callee with
 | builtin b=>
  rw [hc] at h
  have hD:∀ v,D v:=hD.resolve_right fun ⟨g,e,_⟩=>by rw [hc] at e;cases e
  show MZ (cu D) (builtin b _ _ _ _)
  cases b<;>first|cases h;done|skip
  ·exact bn hD (Gp _ _ _)
  ·exact bn hD (JS _ _ _)
  ·exact bn hD (mz_len _ _ _)
  ·exact bn hD (mz_min _ _ _)
 | invoke x name=>
  rw [hc] at h
  have hD:∀ v,D v:=hD.resolve_right fun ⟨g,e,_⟩=>by rw [hc] at e;cases e
  show MZ (cu D) (invoke (.fn (.method name) #[]) (#[ρ x]++c.args.map ρ))
  unfold invoke
  dsimp only
  split
  ·exact vQ _ h _ hD
  ·exact MZ.dead
 | value x=>
  rw [hc] at h hD
  cases x with
  | func g=>
   simp only [Bool.and_eq_true] at h
   show MZ (cu D) (Deferred.ofValue (ρ (.func g)) (c.args.map ρ) >>= _)
   rw [hρ.fn]
   show MZ (cu D) (callFunc g (#[]++c.args.map ρ++#[]))
   rw [Array.empty_append]
   refine ja h.1.1 (yP hρ h.1.2 (Nat.le_refl 0)) (fun x=>?_) fun v hv=>?_
   ·have:=h.2
    rw [x] at this
    simpa using this
   rcases hD with hD|⟨g',e,hD⟩
   ·exact hD v
   ·cases e;exact hD v hv
  | tmp t=>
   replace hD:∀ v,D v:=hD.resolve_right fun ⟨g,e,_⟩=>by cases e
   simp only [List.any_eq_true,Bool.and_eq_true,beq_iff_eq] at h
   obtain ⟨p,hp,e,h⟩:=h
   obtain ⟨t',cl⟩:=p
   dsimp only at e h
   subst e
   have hk:KV cl (ρ (.tmp t')):=hρ.op cl (.tmp t') (by
    show (T.kl f).contains (t',cl)=true
    simpa using hp)
   cases cl with
   | fn l=>
    simp only [List.all_eq_true] at h
    exact uC hk (fun g hg ys hy=>yP hρ (h g hg) hy) hD
   | bound l=>exact vT hk _ hD
   | yield=>exact vG hk _ hD
  | const v=>cases h
  | global g=>cases h
theorem yj {q:Tmp} {l:Nat} (hρ:IP f ρ) (hl:T.n0≤l) (hq:((T.kl f).any fun p=>p.1 == q && match p.2 with
   | .fn l=>l.all fun g=>(T.kl g).all fun p=>if p.1=0 then p.2 == .yield else decide (2≤p.1)
   | _=>false)=true) (hc:∀ v,ρ (.const v)=v) (t:TypeId) (ts:Array TypeId) :
  MZ (cu fun _=>True) (do let d ← resolve ρ { callee:=.value (.tmp q),args:=#[.const (.func (.yield l) #[] #[])],argTypes:=ts } t;invoke d.target d.args):=by
 unfold resolve
 dsimp only
 simp only [List.any_eq_true,Bool.and_eq_true,beq_iff_eq] at hq
 obtain ⟨p,hp,e,h⟩:=hq
 obtain ⟨t',cl⟩:=p
 dsimp only at e h
 subst e
 have hk:KV cl (ρ (.tmp t')):=hρ.op cl (.tmp t') (by
  show (T.kl f).contains (t',cl)=true
  simpa using hp)
 cases cl with
 | yield=>cases h
 | bound l=>cases h
 | fn gs=>
  simp only [List.all_eq_true] at h
  refine uC hk (fun g hg ys hy=>?_) fun _=>trivial
  intro k c hm
  have:=h g hg (k,c) hm
  dsimp only at this
  rw [Array.getD_eq_getD_getElem?,Array.getElem?_append]
  split at this
  ·rename_i e
   subst e
   have e2:c=.yield:=by simpa using this
   subst e2
   rw [if_pos (by simp)]
   simp only [hc,List.map_toArray,List.map_cons,List.map_nil,List.getElem?_toArray,List.getElem?_cons_zero,Option.getD_some]
   intro f xs ys e
   cases e
   exact ⟨rfl,rfl,l,rfl,hl⟩
  ·have h2:2≤k:=by simpa using this
   rw [if_neg (by simp;omega),Array.getElem?_eq_none (by simp;omega)]
   exact mD c
theorem Gn (hρ:IP f ρ) (o:Oper) (h:om f o=true):MZ (cu (DstM f o.dst)) (execOp ρ o):=by
 have D7:=fun {p} hp hd=>Ca (p:=p) h hp hd
 have hno:=Kr h
 have hk:kindOk f o.op=true:=by unfold om at h;simp only [Bool.and_eq_true] at h;exact h.1
 clear h
 obtain ⟨dst,op,ty,pos,after,guard⟩:=o
 unfold execOp
 dsimp only at hk D7 hno ⊢
 cases op<;>simp only [kindOk,Bool.false_eq_true] at hk<;>dsimp only
 case move x=>exact MZ.ret (A:=cu _) fun p hp hd=>hρ.op _ _ (D7 hp hd)
 case assign x=>exact MZ.ret (A:=cu _) fun p hp hd=>hρ.op _ _ (D7 hp hd)
 case makeFunc fn xs ys=>
  refine MZ.ret (A:=cu _) fun p hp hd=>?_
  have hg:=D7 hp hd
  cases fn with
  | func g=>
   obtain ⟨t,c⟩:=p
   simp only [uI,Bool.and_eq_true] at hg
   obtain ⟨h0,h2⟩:=hg
   cases c with
   | yield=>simp [FX] at h2
   | bound l=>
    simp only [FX,Bool.and_eq_true,List.isEmpty_iff,Bool.not_eq_true'] at h2
    intro f xs zs e
    cases e
    exact ⟨g,rfl,by simpa using h2.1,h2.2.1,h2.2.2.1,h2.2.2.2⟩
   | fn l=>
    simp only [Bool.and_eq_true,Array.isEmpty_iff,decide_eq_true_eq] at h0
    obtain ⟨rfl,h1⟩:=h0
    simp only [FX,Bool.and_eq_true,Bool.not_eq_true'] at h2
    intro f xs zs e
    cases e
    exact ⟨by simp,by simpa using h1,g,rfl,by simpa using h2.1,h2.2.1,h2.2.2⟩
  | _=>cases hg
 case call c=>
  refine Mv hρ hk _ ?_
  by_cases he:∃ g,c.callee=.value (.func g)
  ·obtain ⟨g,he⟩:=he
   refine .inr ⟨g,he,fun v hv p hp hd=>?_⟩
   have hg:=D7 hp hd
   simp only [uI,he,beq_iff_eq] at hg
   exact hv _ hg
  ·refine .inl (hno fun cl=>?_)
   simp only [uI]
   split
   ·rename_i g e;exact (he ⟨g,e⟩).elim
   ·rfl
 all_goals have hD:=hno fun _=>rfl
 all_goals clear hno D7
 case pick c a b=>exact MZ.bind (rf _) fun b _=>MZ.ret (A:=cu _) (hD _)
 case alloc t=>exact bn hD (JX t)
 case box t x=>exact bn hD (mz_box _ _)
 case build t xs=>exact bn hD (JU _ _)
 case buildSlice t n xs=>exact bn hD (vR _ _ _)
 case load t x=>exact bn hD (Gh _ _)
 case store t a x=>exact Mq (Dr _ _ _)
 case nilCheck x=>
  generalize ρ x=v
  split
  ·exact aR _
  ·exact aR _
  ·exact aR _
  ·split
   ·exact aR _
   ·exact MZ.prog (MZ.bind (qR _ _ _ _) fun r _=>uy (bM _) (MZ.ret (A:=cu _) (hD _)))
   ·exact MZ.ret (A:=cu _) (hD _)
  ·exact MZ.ret (A:=cu _) (hD _)
 case binOp op t x y k=>exact bn hD (MZ.bind (DD _ _ _ _ _ _) fun _ _=>JV _ _ _ _)
 case unOp op t x=>exact bn hD (JL _ _)
 case convert s d x=>exact bn hD (DI hk _)
 case sliceToArrayPointer t x=>exact bn hD (DJ _ _)
 case makeInterface t x=>exact bn hD (oQ _ _)
 case makeChan t x=>exact bn hD (Ao _ _)
 case makeSlice t l c=>exact bn hD (yn _ _ _)
 case slice t x l hh m=>exact bn hD (Dt _ _ _ _ _)
 case fieldAddr s x f=>exact bn hD (Dy _ _ _)
 case field s x f=>exact bn hD (JR _ _ _)
 case indexAddr t x i=>exact bn hD (Dx _ _ _)
 case index t x i=>exact bn hD (JQ _ _ _)
 case typeAssert x t a ok=>exact bn hD (vI _ _ _ _)
 case extract x i=>exact bn hD (Dz _ _)
 case panic x=>exact bn hD (Dw _)
 case send c x=>exact MZ.ret (A:=cu _) ⟨hk,hD⟩
 case recv t c ok=>
  refine MZ.bind (ak _) fun d _=>?_
  split
  ·exact MZ.bind (bG _) fun z _=>MZ.ret (A:=cu _) ⟨hk,hD⟩
  ·exact MZ.dead
end
end Mz
end
