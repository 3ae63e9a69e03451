/- What lies in memory is said here once for all: rows of cells, rights, numbers and things, as read and as owned; no program is named. Conditions: none. -/
import Derived.WalkKit
import Derived.WalkSpells
import Derived.WalkLawsBesides
import Derived.WalkSmall
import Derived.Lib.Hide
import Derived.Deep.AppendSrc
import Derived.Laws.AppendOwnNone
set_option linter.unusedVariables false
set_option linter.unusedSimpArgs false
namespace Go
open Go.RowKit
theorem bA (B:Nat) (w:World):Below B w w:=Below.refl B w
theorem bB {B:Nat} {a w:World} (h:Below B a w) (hB:B≤w.heap.size) (o:Obj):Below B a (w.alloc o):=h.alloc hB o
theorem bC {B:Nat} {a w:World} (h:Below B a w) (n:Nat):Below B a (w.drewN n):=below_drewN h n
theorem bD {B:Nat} {a w:World} (h:Below B a w):Below B a w.drew:=h.drew
theorem bE {B:Nat} {a w:World} (h:Below B a w) {p:Addr} (hp:B≤p.block) (u:Value):Below B a (w.setCell p u):=h.setCell hp u
theorem bF {B B':Nat} {a b c:World} (h:Below B a b) (k:Below B' b c) (hB:B≤B'):Below B a c:=h.trans (k.mono hB)
end Go
namespace Drw
open Go Go.RowKit
structure Lab where
 s:Int
 v:Int
structure Rgt where
 thing:Int
 aJ:Int
 rd:Bool
 wr:Bool
 wk:Bool
structure Cal where
 kind:Int
 run:Int
 a:Int
 b:Int
 n:Int
structure Thg where
 kind:Int
 lab:Lab
 aJ:Int
 num:Int
 slots:List Rgt
 queue:List Int
 to:Int
instance:DecidableEq Lab:=fun a b=>decidable_of_iff (a.s=b.s∧a.v=b.v) (by cases a;cases b;simp)
instance:DecidableEq Rgt:=fun a b=>decidable_of_iff (a.thing=b.thing∧a.aJ=b.aJ∧a.rd=b.rd∧a.wr=b.wr∧a.wk=b.wk) (by cases a;cases b;simp)
instance:DecidableEq Cal:=fun a b=>decidable_of_iff (a.kind=b.kind∧a.run=b.run∧a.a=b.a∧a.b=b.b∧a.n=b.n) (by cases a;cases b;simp)
instance:DecidableEq Thg:=fun a b=>decidable_of_iff (a.kind=b.kind∧a.lab=b.lab∧a.aJ=b.aJ∧a.num=b.num∧a.slots=b.slots∧a.queue=b.queue∧a.to=b.to) (by cases a;cases b;simp)
def Rgt.null:Rgt:=⟨0,0,false,false,false⟩
def Thg.zero:Thg:=⟨0,⟨0,0⟩,0,0,[],[],0⟩
def Rgt.cells (r:Rgt):List Value:=[.int .i64 r.thing,.int .i64 r.aJ,.bool r.rd,.bool r.wr,.bool r.wk]
def intCells (x:Int):List Value:=[.int .i64 x]
def Thg.cells (t:Thg) (sv qv:Value):List Value:=[.int .i64 t.kind,.int .i64 t.lab.s,.int .i64 t.lab.v,.int .i64 t.aJ,.int .i64 t.num,sv,qv,.int .i64 t.to]
def Rows (w:World) (v:Value) (s:Nat) (cs:List (List Value)):Prop:=
 ∃ p cap,v=.slice p cs.length cap∧cs.length≤cap∧cap≤maxLen∧(cs=[]∨∃ b o,p=some ⟨b,o,none⟩∧∀ k c,cs[k]?=some c→∀ j u,c[j]?=some u→w.cell? ⟨b,o+k * s+j,none⟩=some u)
def aG (w:World) (v:Value) (xs:List Int):Prop:=Rows w v 1 (xs.map intCells)
def aF (w:World) (v:Value) (rs:List Rgt):Prop:=Rows w v 5 (rs.map Rgt.cells)
abbrev Thx:=Thg × Value × Value
def Thx.cells (x:Thx):List Value:=x.1.cells x.2.1 x.2.2
def o5 (w:World) (x:Thx):Prop:=aF w x.2.1 x.1.slots∧aG w x.2.2 x.1.queue
def rV (w:World) (v:Value) (xs:List Thx):Prop:=Rows w v 8 (xs.map Thx.cells)∧∀ x∈xs,o5 w x
def TabAt (w:World) (v:Value) (ts:List Thg):Prop:=∃ xs:List Thx,xs.map (·.1)=ts∧rV w v xs
structure Chg (S:Nat→Prop) (w w':World):Prop where
 os:w'.os=w.os
 tape:w'.tape=w.tape
 output:w'.output=w.output
 size:w.heap.size≤w'.heap.size
 block:∀ k,k<w.heap.size→¬ S k→w'.heap[k]?=w.heap[k]?
theorem Chg.refl (S:Nat→Prop) (w:World):Chg S w w:=⟨rfl,rfl,rfl,Nat.le_refl _,fun _ _ _=>rfl⟩
theorem Chg.trans {S:Nat→Prop} {a b c:World} (h:Chg S a b) (k:Chg S b c):Chg S a c:=
 ⟨k.os.trans h.os,k.tape.trans h.tape,k.output.trans h.output,Nat.le_trans h.size k.size,fun i hi hs=>(k.block i (Nat.lt_of_lt_of_le hi h.size) hs).trans (h.block i hi hs)⟩
theorem Chg.mono {S T:Nat→Prop} {w w':World} (h:Chg S w w') (hst:∀ k,k<w.heap.size→S k→T k):Chg T w w':=
 ⟨h.os,h.tape,h.output,h.size,fun k hk ht=>h.block k hk (fun s=>ht (hst k hk s))⟩
theorem Chg.of_below {B:Nat} {w w':World} (h:Below B w w'):Chg (fun k=>B≤k) w w':=
 ⟨h.os,h.tape,h.output,h.size,fun k _ hs=>h.block k (by omega)⟩
theorem Chg.ah {S:Nat→Prop} {w w':World} (h:Below w.heap.size w w'):Chg S w w':=
 ⟨h.os,h.tape,h.output,h.size,fun k hk _=>h.block k hk⟩
theorem Chg.below {S:Nat→Prop} {B:Nat} {w w':World} (h:Chg S w w') (hB:B≤w.heap.size) (hS:∀ k,k<B→¬ S k):Below B w w':=
 ⟨h.os,h.tape,h.output,h.size,fun k hk=>h.block k (by omega) (hS k hk)⟩
theorem Chg.gX {w w':World} {row:Option Nat} (h:w.grownBy w' row):Chg (fun k=>some k=row) w w':=
 ⟨h.os,h.tape,h.output,h.size,fun k hk hs=>h.block k hk hs⟩
theorem Chg.drew {S:Nat→Prop} {a w:World} (h:Chg S a w):Chg S a w.drew:=⟨h.os,h.tape,h.output,h.size,h.block⟩
theorem Chg.alloc {S:Nat→Prop} {a w:World} (h:Chg S a w) (o:Obj):Chg S a (w.alloc o):=
 h.trans ⟨rfl,rfl,rfl,by simp,fun k hk _=>Below.heap_alloc _ _ _ hk⟩
theorem Chg.setCell {S:Nat→Prop} {a w:World} (h:Chg S a w) {p:Addr} (hp:S p.block) (u:Value):Chg S a (w.setCell p u):=
 h.trans ⟨rfl,rfl,rfl,by simp [World.setCell],fun k _ hs=>Below.heap_setCell _ _ _ _ (fun e=>hs (e ▸ hp))⟩
theorem Chg.cell {S:Nat→Prop} {w w':World} (h:Chg S w w') {a:Addr} {u:Value} (hc:w.cell? a=some u) (hs:¬ S a.block):w'.cell? a=some u:=
 (World.cell?_of_block (w:=w) (h.block a.block (World.block_lt_of_cell? w a hc) hs)).trans hc
theorem ax {W w1:World} (hb:Below W.heap.size W w1):(∀ b o,b<W.heap.size→w1.cell? ⟨b,o,none⟩=W.cell? ⟨b,o,none⟩)∧(∀ b o,b<W.heap.size→w1.frozen? ⟨b,o,none⟩=W.frozen? ⟨b,o,none⟩):=
 ⟨fun b o h=>hb.cell (p:=⟨b,o,none⟩) h,fun b o h=>hb.frozen (p:=⟨b,o,none⟩) h⟩
theorem Rows.kept {w w':World} {v:Value} {s:Nat} {cs:List (List Value)} {S:Nat→Prop} (h:Rows w v s cs) (hg:Chg S w w') (hs:cs=[]∨∀ k,v.ownBlock=some k→¬ S k):Rows w' v s cs:=by
 obtain ⟨p,cap,rfl,h1,h2,h3⟩:=h
 refine ⟨p,cap,rfl,h1,h2,?_⟩
 rcases h3 with h3|⟨b,o,rfl,hc⟩
 ·exact .inl h3
 ·rcases hs with hs|hs
  ·exact .inl hs
  ·exact .inr ⟨b,o,rfl,fun k c hk j u hj=>hg.cell (hc k c hk j u hj) (hs b rfl)⟩
theorem Rows.pure {w w':World} {v:Value} {s:Nat} {cs:List (List Value)} (h:Rows w v s cs) (hg:Below w.heap.size w w'):Rows w' v s cs:=
 h.kept (S:=fun _=>False) (Chg.ah hg) (.inr fun _ _ h=>h)
theorem aG.pure {w w':World} {v:Value} {xs:List Int} (h:aG w v xs) (hg:Below w.heap.size w w'):aG w' v xs:=Rows.pure h hg
theorem aF.pure {w w':World} {v:Value} {xs:List Rgt} (h:aF w v xs) (hg:Below w.heap.size w w'):aF w' v xs:=Rows.pure h hg
theorem o5.pure {w w':World} {x:Thx} (h:o5 w x) (hg:Below w.heap.size w w'):o5 w' x:=⟨Rows.pure h.1 hg,Rows.pure h.2 hg⟩
theorem rV.pure {w w':World} {v:Value} {xs:List Thx} (h:rV w v xs) (hg:Below w.heap.size w w'):rV w' v xs:=⟨Rows.pure h.1 hg,fun x hx=>(h.2 x hx).pure hg⟩
theorem TabAt.pure {w w':World} {v:Value} {ts:List Thg} (h:TabAt w v ts) (hg:Below w.heap.size w w'):TabAt w' v ts:=by
 obtain ⟨xs,hx,h⟩:=h
 exact ⟨xs,hx,h.pure hg⟩
theorem Rows.len {w:World} {v:Value} {s:Nat} {cs:List (List Value)} (h:Rows w v s cs):∃ p cap,v=.slice p cs.length cap∧cs.length≤cap∧cap≤maxLen:=by
 obtain ⟨p,cap,rfl,h1,h2,_⟩:=h
 exact ⟨p,cap,rfl,h1,h2⟩
theorem Rows.at {w:World} {p:Option Addr} {n cap s:Nat} {cs:List (List Value)} (h:Rows w (.slice p n cap) s cs) (k:Nat) (c:List Value) (hk:cs[k]?=some c) :
  ∃ b o,p=some ⟨b,o,none⟩∧∀ j u,c[j]?=some u→w.cell? ⟨b,o+k * s+j,none⟩=some u:=by
 obtain ⟨p',cap',he,h1,h2,h3⟩:=h
 cases he
 rcases h3 with rfl|⟨b,o,rfl,hc⟩
 ·simp at hk
 ·exact ⟨b,o,rfl,hc k c hk⟩
theorem aG.len {w:World} {v:Value} {xs:List Int} (h:aG w v xs):∃ p cap,v=.slice p xs.length cap∧xs.length≤cap∧cap≤maxLen:=by
 have:=Rows.len h;simpa using this
theorem aF.len {w:World} {v:Value} {xs:List Rgt} (h:aF w v xs):∃ p cap,v=.slice p xs.length cap∧xs.length≤cap∧cap≤maxLen:=by
 have:=Rows.len h;simpa using this
theorem rV.len {w:World} {v:Value} {xs:List Thx} (h:rV w v xs):∃ p cap,v=.slice p xs.length cap∧xs.length≤cap∧cap≤maxLen:=by
 have:=Rows.len h.1;simpa using this
theorem TabAt.len {w:World} {v:Value} {ts:List Thg} (h:TabAt w v ts):∃ p cap,v=.slice p ts.length cap∧ts.length≤cap∧cap≤maxLen:=by
 obtain ⟨xs,rfl,h⟩:=h
 have:=h.len;simpa using this
theorem aG.at {w:World} {p:Option Addr} {n cap:Nat} {xs:List Int} (h:aG w (.slice p n cap) xs) (k:Nat) (x:Int) (hk:xs[k]?=some x) :
  ∃ b o,p=some ⟨b,o,none⟩∧b<w.heap.size∧w.cell? ⟨b,o+k,none⟩=some (.int .i64 x):=by
 obtain ⟨b,o,rfl,hc⟩:=Rows.at h k (intCells x) (by simp [hk])
 exact ⟨b,o,rfl,World.block_lt_of_cell? w _ (hc 0 _ rfl),by simpa using hc 0 _ rfl⟩
theorem aF.at {w:World} {p:Option Addr} {n cap:Nat} {xs:List Rgt} (h:aF w (.slice p n cap) xs) (k:Nat) (r:Rgt) (hk:xs[k]?=some r) :
  ∃ b o,p=some ⟨b,o,none⟩∧b<w.heap.size∧w.cell? ⟨b,o+k * 5,none⟩=some (.int .i64 r.thing)∧w.cell? ⟨b,o+k * 5+1,none⟩=some (.int .i64 r.aJ) ∧
   w.cell? ⟨b,o+k * 5+2,none⟩=some (.bool r.rd)∧w.cell? ⟨b,o+k * 5+3,none⟩=some (.bool r.wr)∧w.cell? ⟨b,o+k * 5+4,none⟩=some (.bool r.wk):=by
 obtain ⟨b,o,rfl,hc⟩:=Rows.at h k r.cells (by simp [hk])
 exact ⟨b,o,rfl,World.block_lt_of_cell? w _ (hc 0 _ rfl),hc 0 _ rfl,hc 1 _ rfl,hc 2 _ rfl,hc 3 _ rfl,hc 4 _ rfl⟩
theorem rV.at {w:World} {p:Option Addr} {n cap:Nat} {xs:List Thx} (h:rV w (.slice p n cap) xs) (k:Nat) (x:Thx) (hk:xs[k]?=some x) :
  ∃ b o,p=some ⟨b,o,none⟩∧b<w.heap.size∧w.cell? ⟨b,o+k * 8,none⟩=some (.int .i64 x.1.kind)∧w.cell? ⟨b,o+k * 8+1,none⟩=some (.int .i64 x.1.lab.s) ∧
   w.cell? ⟨b,o+k * 8+2,none⟩=some (.int .i64 x.1.lab.v)∧w.cell? ⟨b,o+k * 8+3,none⟩=some (.int .i64 x.1.aJ)∧w.cell? ⟨b,o+k * 8+4,none⟩=some (.int .i64 x.1.num) ∧
   w.cell? ⟨b,o+k * 8+5,none⟩=some x.2.1∧w.cell? ⟨b,o+k * 8+6,none⟩=some x.2.2∧w.cell? ⟨b,o+k * 8+7,none⟩=some (.int .i64 x.1.to):=by
 obtain ⟨b,o,rfl,hc⟩:=Rows.at h.1 k x.cells (by simp [hk])
 exact ⟨b,o,rfl,World.block_lt_of_cell? w _ (hc 0 _ rfl),hc 0 _ rfl,hc 1 _ rfl,hc 2 _ rfl,hc 3 _ rfl,hc 4 _ rfl,hc 5 _ rfl,hc 6 _ rfl,hc 7 _ rfl⟩
theorem TabAt.at {w:World} {p:Option Addr} {n cap:Nat} {ts:List Thg} (h:TabAt w (.slice p n cap) ts) (k:Nat) (t:Thg) (hk:ts[k]?=some t) :
  ∃ b o sv qv,p=some ⟨b,o,none⟩∧b<w.heap.size∧aF w sv t.slots∧aG w qv t.queue∧w.cell? ⟨b,o+k * 8,none⟩=some (.int .i64 t.kind)∧w.cell? ⟨b,o+k * 8+1,none⟩=some (.int .i64 t.lab.s) ∧
   w.cell? ⟨b,o+k * 8+2,none⟩=some (.int .i64 t.lab.v)∧w.cell? ⟨b,o+k * 8+3,none⟩=some (.int .i64 t.aJ)∧w.cell? ⟨b,o+k * 8+4,none⟩=some (.int .i64 t.num) ∧
   w.cell? ⟨b,o+k * 8+5,none⟩=some sv∧w.cell? ⟨b,o+k * 8+6,none⟩=some qv∧w.cell? ⟨b,o+k * 8+7,none⟩=some (.int .i64 t.to):=by
 obtain ⟨xs,rfl,h⟩:=h
 rw [List.getElem?_map] at hk
 obtain ⟨x,hx,rfl⟩:=Option.map_eq_some_iff.1 hk
 obtain ⟨b,o,rfl,hc⟩:=h.at k x hx
 have hm:x∈xs:=List.mem_of_getElem? hx
 exact ⟨b,o,x.2.1,x.2.2,rfl,hc.1,(h.2 x hm).1,(h.2 x hm).2,hc.2⟩
end Drw
namespace Drw
open Go Go.RowKit
def inR (n lo hi:Int):Bool:=decide (lo≤n) && decide (n≤hi)
def dw (l:Lab):Bool:=inR l.s 0 3 && inR l.v 0 3
def subM (a b:Int):Bool:=decide (a % 2≤b % 2) && decide (a / 2≤b / 2)
def Kh (a b:Lab):Bool:=subM a.s b.s && subM b.v a.v
def uJ (a b:Lab):Bool:=dw a && dw b && Kh a b
def aZ (r:Rgt):Bool:=if r.thing=0 then decide (r=Rgt.null) else inR r.thing 1 8 && inR r.aJ 0 5 && !(r.wk && r.wr)
def eG (r:Rgt) (rd wr st:Bool):Rgt:=if r.thing=0 then r else ⟨r.thing,r.aJ,r.rd && rd,r.wr && wr && st,r.wk || !st⟩
def less (r:Rgt) (rd wr st:Bool):Rgt:=if aZ r then eG r rd wr st else Rgt.null
def qH (t:Thg):Bool:=if t.kind=1∨t.kind=5 then inR t.num 0 99 else if t.kind=3 then inR t.num (-4) 99 else t.num == 0
def kM (t:Thg):Bool:=if t.kind=1∨t.kind=2∨t.kind=4 then inR t.aJ 0 5 else t.aJ == 0
def bH (t:Thg):Bool:=if t.kind≠2∧t.kind≠3 then t.slots.length == 0 else t.slots.length == 4 && t.slots.all aZ
def dS (t:Thg):Bool:=if t.kind≠4 then t.queue.length == 0 else decide (t.queue.length≤3) && t.queue.all (fun n=>inR n 0 99)
def jT (t:Thg):Bool:=if t.kind=5 then inR t.to 1 8 else t.to == 0
def aP (t:Thg):Bool:=inR t.kind 1 5 && dw t.lab && kM t && qH t && bH t && dS t && jT t
def aC (ts:List Thg) (i:Int):Thg:=(ts[(i - 1).toNat]?).getD Thg.zero
def ex (ts:List Thg) (i:Int):Bool:=inR i 1 ts.length
def bS (ts:List Thg) (i k:Int):Bool:=ex ts i && (aC ts i).kind == k
def live (ts:List Thg) (r:Rgt):Bool:=ex ts r.thing && (aC ts r.thing).aJ == r.aJ
def dP (ts:List Thg) (t:Thg):Bool:=t.kind != 5 || bS ts t.to 1
def bK (ts:List Thg) (r:Rgt):Bool:=r.thing == 0 || (ex ts r.thing && decide (r.aJ≤(aC ts r.thing).aJ))
def aU (ts:List Thg):Bool:=inR ts.length 1 8 && ts.all (fun t=>aP t && dP ts t) && ts.all (fun t=>t.slots.all (bK ts))
def az (kind:Int) (l:Lab) (to:Int):Thg:=⟨kind,l,0,0,if kind=2∨kind=3 then [Rgt.null,Rgt.null,Rgt.null,Rgt.null] else [],[],to⟩
def dx (kind:Int) (l:Lab) (to:Int):Thg:=if aP (az kind l to) then az kind l to else Thg.zero
def nQ (c:Cal):Bool:=inR c.kind 1 9 && inR c.run 1 8 && inR c.a 0 3 && inR c.b 0 3 && inR c.n 0 99
def bP (ts:List Thg) (c:Cal):Bool:=aU ts && nQ c && bS ts c.run 3
def sees (ts:List Thg) (run thing:Int):Bool:=uJ (aC ts thing).lab (aC ts run).lab
def touches (ts:List Thg) (run thing:Int):Bool:=uJ (aC ts run).lab (aC ts thing).lab
def dU (call kind:Int):Bool:=
 if call=1∨call=2 then kind == 1 else if call=4∨call=5 then kind == 2 else if call=6∨call=7 then kind == 4 else if call=9 then kind == 5 else kind == 1 || kind == 2 || kind == 4
def eH (call:Int):Bool:=call == 1 || call == 4 || call == 7
def dO (call:Int):Bool:=!(call == 1 || call == 4)
def nL (t:Thg) (i:Int):Rgt:=(t.slots[i.toNat]?).getD Rgt.null
def NQ (ts:List Thg) (c:Cal):Rgt:=nL (aC ts c.run) c.a
def aT (ts:List Thg) (c:Cal):Int:=
 if c.kind=3 then 0
 else
  let r:=NQ ts c
  if r.thing == 0 || !dU c.kind (aC ts r.thing).kind || (eH c.kind && !r.rd) || (dO c.kind && !r.wr) then -1
  else if (eH c.kind && !sees ts c.run r.thing) || (dO c.kind && !touches ts c.run r.thing) then -2
  else if sees ts c.run r.thing && !live ts r then -3
  else 0
def check (ts:List Thg) (c:Cal):Int:=if bP ts c then aT ts c else -1
def dD (ts:List Thg) (i:Int) (f:Thg→Thg):List Thg:=ts.modify (i - 1).toNat f
def aS (n:Int) (t:Thg):Thg:={ t with num:=n }
def setSlot (i:Int) (r:Rgt) (t:Thg):Thg:={ t with slots:=t.slots.set i.toNat r }
def bJ (q:List Int) (t:Thg):Thg:={ t with queue:=q }
def odd (n:Int):Bool:=n % 2 == 1
def dA (t:Thg):Thg:=⟨t.kind,t.lab,t.aJ+1,0,(az t.kind t.lab t.to).slots,[],t.to⟩
def act (ts:List Thg) (c:Cal) (r:Rgt):List Thg × Int:=
 let o:=aC ts r.thing
 if c.kind=1 then (ts,o.num)
 else if c.kind=2 then (dD ts r.thing (aS c.n),0)
 else if c.kind=4 then (dD ts c.run (setSlot c.b (if r.wk then eG (nL o (c.n % 4)) true false false else nL o (c.n % 4))),0)
 else if c.kind=5 then (dD ts r.thing (setSlot (c.n % 4) (nL (aC ts c.run) c.b)),0)
 else if c.kind=6 then (if o.queue.length=3 then (ts,-4) else (dD ts r.thing (bJ (o.queue++[c.n])),0))
 else if c.kind=7 then (match o.queue with | []=>(ts,-4)|q::qs=>(dD ts r.thing (bJ qs),q))
 else if c.kind=8 then (if 5≤o.aJ then (ts,-4) else (dD ts r.thing dA,0))
 else (dD (dD ts o.to (aS (c.n % 2))) r.thing (fun t=>aS (min (t.num+1) 99) t),0)
def do1 (ts:List Thg) (c:Cal):List Thg × Int:=
 let r:=NQ ts c
 if aT ts c≠0 then (ts,aT ts c)
 else if c.kind=3 then (dD ts c.run (setSlot c.b (eG r (odd c.n) (odd (c.n / 2)) (odd (c.n / 4)))),0)
 else if live ts r then ((act ts c r).1,if sees ts c.run r.thing then (act ts c r).2 else 0)
 else (ts,0)
def do2 (ts:List Thg) (c:Cal):List Thg × Int:=(dD (do1 ts c).1 c.run (aS (do1 ts c).2),(do1 ts c).2)
def fU (ts:List Thg) (c:Cal):List Thg × Int:=if bP ts c then do2 ts c else ([],-1)
def Lab.val (l:Lab):Value:=.agg #[.int .i64 l.s,.int .i64 l.v]
def Rgt.val (r:Rgt):Value:=.agg #[.int .i64 r.thing,.int .i64 r.aJ,.bool r.rd,.bool r.wr,.bool r.wk]
def Cal.val (c:Cal):Value:=.agg #[.int .i64 c.kind,.int .i64 c.run,.int .i64 c.a,.int .i64 c.b,.int .i64 c.n]
def Thg.val (t:Thg) (sv qv:Value):Value:=.agg #[.int .i64 t.kind,.int .i64 t.lab.s,.int .i64 t.lab.v,.int .i64 t.aJ,.int .i64 t.num,sv,qv,.int .i64 t.to]
theorem aj {a b:Bool} (h:a=b):Ending.returned (.bool a)=.returned (.bool b):=by rw [h]
theorem qC {k:IntKind} {a b:Int} (h:a=b):Ending.returned (.int k a)=.returned (.int k b):=by rw [h]
end Drw
