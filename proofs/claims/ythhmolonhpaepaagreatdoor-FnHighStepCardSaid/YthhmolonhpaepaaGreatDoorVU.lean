/- impl.ThingNew. Conditions: none. -/
import Derived.Test.YthhmolonhpaepaaGreatDoorVY
import Derived.Test.YthhmolonhpaepaaGreatDoorVIv
import Derived.Test.YthhmolonhpaepaaGreatDoorVRg
set_option linter.unusedVariables false
set_option linter.unusedSimpArgs false
namespace Go.Proofs.YthhmolonhpaepaaGreatDoor
open Go.RowKit Drw
attribute [local go_sem] Lab.val Rgt.val Cal.val Thg.val
def arr4:Value:=.agg #[.int .i64 0,.int .i64 0,.bool false,.bool false,.bool false,.int .i64 0,.int .i64 0,.bool false,.bool false,.bool false,.int .i64 0,.int .i64 0,.bool false,.bool false,.bool false,.int .i64 0,.int .i64 0,.bool false,.bool false,.bool false]
set_option maxRecDepth 100000 in
set_option maxHeartbeats 1000000 in
theorem zh (w:World) :
  Calls Tryz.prog 155 #[arr4] w fun e w'=>∃ v,e=.returned v∧aF w' v [Rgt.null,Rgt.null,Rgt.null,Rgt.null]∧dJ w' w.heap.size v∧Below w.heap.size w w':=by
 have hR:aF (w.alloc (.cells arr4.cells 175)) (.slice (some ⟨w.heap.size,0,none⟩) 4 4) [Rgt.null,Rgt.null,Rgt.null,Rgt.null]:=by
  refine ⟨_,4,rfl,by simp,by simp [maxLen],.inr ⟨w.heap.size,0,rfl,fun k c hk j u hj=>?_⟩⟩
  have hk4:k<4:=by simpa using (List.getElem?_eq_some_iff.1 hk).1
  rw [World.cell?_alloc_new]
  have:k=0∨k=1∨k=2∨k=3:=by omega
  rcases this with rfl|rfl|rfl|rfl
  all_goals
   simp at hk
   subst hk
   rcases j with _|_|_|_|_|j
   all_goals simp [Rgt.cells,Rgt.null] at hj
   all_goals subst hj
   all_goals rfl
 unfold arr4 at *
 go_enter Tryz.func155,Tryz.ntmps155
 go_wp2_with (go_at_call 130;go_loud (refine (uL _ [Rgt.null,Rgt.null,Rgt.null,Rgt.null] _ hR (by simp)).mono ?_);rintro e w1 ⟨v,rfl,hS,hH,hb1⟩)
 go_ret
 exact ⟨_,rfl,hS,hH.retag (fun b _ h _=>⟨by simp at h;omega,rfl⟩),(by (repeat (with_reducible first|exact bA _ _|refine bB ?_ ?_ _|refine bC ?_ _|refine bD ?_|refine bE ?_ ?_ _|refine bF ?_ (by assumption) ?_))<;>first|omega|(simp;try omega))⟩
set_option maxRecDepth 100000 in
set_option maxHeartbeats 2000000 in
theorem r9 (k:Int) (l:Lab) (tg:Int) (w:World) (hk:k=2∨k=3) (hok:aP (az k l tg)=true) :
  Calls Tryz.prog 121 #[.int .i64 k,l.val,.int .i64 tg] w fun e w'=>∃ sv,e=.returned (.tuple #[(az k l tg).val sv (.slice none 0 0),.bool true])∧aF w' sv (az k l tg).slots∧dJ w' w.heap.size sv∧Below w.heap.size w w':=by
 obtain ⟨s,v⟩:=l
 have e0:az k ⟨s,v⟩ tg=⟨k,⟨s,v⟩,0,0,[Rgt.null,Rgt.null,Rgt.null,Rgt.null],[],tg⟩:=by simp [az,hk]
 rw [e0] at hok ⊢
 have Hok:=Lib.hid hok
 clear hok e0
 dsimp only [Thg.val]
 rcases hk with rfl|rfl
 ·go_enter Tryz.func121,Tryz.ntmps121
  go_wp2_with (first
   | (go_at_call 155;refine (zh _).mono ?_;rintro e w1 ⟨sv,rfl,hS,hH,hb1⟩;obtain ⟨sp,fE,rfl,hsl1,hsl2⟩:=hS.len;obtain ⟨hc1,hf1⟩:=ax hb1;have hz1:w.heap.size+2<w1.heap.size:=(by have:=hb1.size;(try simp at this);omega);have hz1b:w.heap.size+1<w1.heap.size:=(by omega);have hz1c:w.heap.size<w1.heap.size:=(by omega);have d4:=World.cell?_setCell_same' w1 ⟨w.heap.size+2,5,none⟩ (.slice sp 4 fE) (by rw [hc1 _ _ (by simp)];simp [go_sem]);have hH2:dJ w1 (w.heap.size+3) (.slice sp 4 fE):=hH.retag (fun b _ h _=>⟨by simp at h;omega,rfl⟩);have hS2:aF (w1.setCell ⟨w.heap.size+2,5,none⟩ (.slice sp 4 fE)) (.slice sp 4 fE) [Rgt.null,Rgt.null,Rgt.null,Rgt.null]:=Rows.held hS hH2 (S:=fun b=>b=w.heap.size+2) (Chg.setCell (S:=fun b=>b=w.heap.size+2) (Chg.refl _ _) rfl _) (fun b _ h _ e=>by omega))
   | (go_at_call 68;refine (lN ⟨_,⟨_,_⟩,_,_,[Rgt.null,Rgt.null,Rgt.null,Rgt.null],[],_⟩ _ _ _ hS2 ⟨none,0,rfl,by simp,by simp,.inl rfl⟩).mono ?_;rw [Hok.out];rintro e w2 ⟨rfl,hb2⟩;obtain ⟨hc2,hf2⟩:=ax hb2;have hz2:w.heap.size+2<w2.heap.size:=(by have:=hb2.size;(try simp [World.setCell] at this);omega);have hz2b:w.heap.size+1<w2.heap.size:=(by omega)))
  have zo:Chg (fun b=>b≤w.heap.size+2) w1 w2:=(Chg.setCell (S:=fun b=>b≤w.heap.size+2) (Chg.refl _ w1) (by simp) _).trans (Chg.ah hb2)
  refine bodyPost_ret (v:=.tuple #[.agg #[.int .i64 2,.int .i64 s,.int .i64 v,.int .i64 0,.int .i64 0,.slice sp 4 fE,.slice none 0 0,.int .i64 tg],.bool true]) ?_ rfl ⟨_,rfl,?_,?_,(by (repeat (with_reducible first|exact bA _ _|refine bB ?_ ?_ _|refine bC ?_ _|refine bD ?_|refine bE ?_ ?_ _|refine bF ?_ (by assumption) ?_))<;>first|omega|(simp;try omega))⟩
  ·simp [results,Tryz.results121,go_sem, *]
  ·exact Rows.held hS hH2 (S:=fun b=>b≤w.heap.size+2) (by (repeat (with_reducible first|exact Chg.refl _ _|refine Chg.alloc ?_ _|refine Chg.drew ?_|refine Chg.drewN ?_ _|refine Chg.setCell ?_ ?_ _|refine Chg.trans ?_ (Chg.ah (by assumption))))<;>(first|omega|(simp;done)|(simp;omega))) (fun b _ h _=>by omega)
  ·exact (hH2.chg (S:=fun b=>b≤w.heap.size+2) (by (repeat (with_reducible first|exact Chg.refl _ _|refine Chg.alloc ?_ _|refine Chg.drew ?_|refine Chg.drewN ?_ _|refine Chg.setCell ?_ ?_ _|refine Chg.trans ?_ (Chg.ah (by assumption))))<;>(first|omega|(simp;done)|(simp;omega))) (fun b _ h _=>by omega)).retag (fun b _ h _=>⟨by omega,rfl⟩)
 ·go_enter Tryz.func121,Tryz.ntmps121
  go_wp2_with (first
   | (go_at_call 155;refine (zh _).mono ?_;rintro e w1 ⟨sv,rfl,hS,hH,hb1⟩;obtain ⟨sp,fE,rfl,hsl1,hsl2⟩:=hS.len;obtain ⟨hc1,hf1⟩:=ax hb1;have hz1:w.heap.size+2<w1.heap.size:=(by have:=hb1.size;(try simp at this);omega);have hz1b:w.heap.size+1<w1.heap.size:=(by omega);have hz1c:w.heap.size<w1.heap.size:=(by omega);have d4:=World.cell?_setCell_same' w1 ⟨w.heap.size+2,5,none⟩ (.slice sp 4 fE) (by rw [hc1 _ _ (by simp)];simp [go_sem]);have hH2:dJ w1 (w.heap.size+3) (.slice sp 4 fE):=hH.retag (fun b _ h _=>⟨by simp at h;omega,rfl⟩);have hS2:aF (w1.setCell ⟨w.heap.size+2,5,none⟩ (.slice sp 4 fE)) (.slice sp 4 fE) [Rgt.null,Rgt.null,Rgt.null,Rgt.null]:=Rows.held hS hH2 (S:=fun b=>b=w.heap.size+2) (Chg.setCell (S:=fun b=>b=w.heap.size+2) (Chg.refl _ _) rfl _) (fun b _ h _ e=>by omega))
   | (go_at_call 68;refine (lN ⟨_,⟨_,_⟩,_,_,[Rgt.null,Rgt.null,Rgt.null,Rgt.null],[],_⟩ _ _ _ hS2 ⟨none,0,rfl,by simp,by simp,.inl rfl⟩).mono ?_;rw [Hok.out];rintro e w2 ⟨rfl,hb2⟩;obtain ⟨hc2,hf2⟩:=ax hb2;have hz2:w.heap.size+2<w2.heap.size:=(by have:=hb2.size;(try simp [World.setCell] at this);omega);have hz2b:w.heap.size+1<w2.heap.size:=(by omega)))
  have zo:Chg (fun b=>b≤w.heap.size+2) w1 w2:=(Chg.setCell (S:=fun b=>b≤w.heap.size+2) (Chg.refl _ w1) (by simp) _).trans (Chg.ah hb2)
  refine bodyPost_ret (v:=.tuple #[.agg #[.int .i64 3,.int .i64 s,.int .i64 v,.int .i64 0,.int .i64 0,.slice sp 4 fE,.slice none 0 0,.int .i64 tg],.bool true]) ?_ rfl ⟨_,rfl,?_,?_,(by (repeat (with_reducible first|exact bA _ _|refine bB ?_ ?_ _|refine bC ?_ _|refine bD ?_|refine bE ?_ ?_ _|refine bF ?_ (by assumption) ?_))<;>first|omega|(simp;try omega))⟩
  ·simp [results,Tryz.results121,go_sem, *]
  ·exact Rows.held hS hH2 (S:=fun b=>b≤w.heap.size+2) (by (repeat (with_reducible first|exact Chg.refl _ _|refine Chg.alloc ?_ _|refine Chg.drew ?_|refine Chg.drewN ?_ _|refine Chg.setCell ?_ ?_ _|refine Chg.trans ?_ (Chg.ah (by assumption))))<;>(first|omega|(simp;done)|(simp;omega))) (fun b _ h _=>by omega)
  ·exact (hH2.chg (S:=fun b=>b≤w.heap.size+2) (by (repeat (with_reducible first|exact Chg.refl _ _|refine Chg.alloc ?_ _|refine Chg.drew ?_|refine Chg.drewN ?_ _|refine Chg.setCell ?_ ?_ _|refine Chg.trans ?_ (Chg.ah (by assumption))))<;>(first|omega|(simp;done)|(simp;omega))) (fun b _ h _=>by omega)).retag (fun b _ h _=>⟨by omega,rfl⟩)
set_option maxRecDepth 100000 in
set_option maxHeartbeats 2000000 in
theorem uV (k:Int) (l:Lab) (tg:Int) (w:World) (hk:¬ (k=2∨k=3)) (hok:aP (az k l tg)=true) :
  Calls Tryz.prog 121 #[.int .i64 k,l.val,.int .i64 tg] w fun e w'=>∃ sv,e=.returned (.tuple #[(az k l tg).val sv (.slice none 0 0),.bool true])∧aF w' sv (az k l tg).slots∧dJ w' w.heap.size sv∧Below w.heap.size w w':=by
 obtain ⟨s,v⟩:=l
 have e0:az k ⟨s,v⟩ tg=⟨k,⟨s,v⟩,0,0,[],[],tg⟩:=by simp [az,hk]
 have hk2:(k == 2)=false:=by simp at hk ⊢;exact hk.1
 have hk3:(k == 3)=false:=by simp at hk ⊢;exact hk.2
 rw [e0] at hok ⊢
 have Hok:=Lib.hid hok
 clear hok e0 hk
 dsimp only [Thg.val]
 go_enter Tryz.func121,Tryz.ntmps121
 go_wp2_with (go_at_call 68;refine (lN ⟨_,⟨_,_⟩,_,_,[],[],_⟩ _ _ _ ⟨none,0,rfl,by simp,by simp,.inl rfl⟩ ⟨none,0,rfl,by simp,by simp,.inl rfl⟩).mono ?_;rw [Hok.out];rintro e w2 ⟨rfl,hb2⟩;obtain ⟨hc2,hf2⟩:=ax hb2;have hz2:w.heap.size+2<w2.heap.size:=(by have:=hb2.size;(try simp at this);omega);have hz2b:w.heap.size+1<w2.heap.size:=(by omega))
 refine bodyPost_ret (v:=.tuple #[.agg #[.int .i64 k,.int .i64 s,.int .i64 v,.int .i64 0,.int .i64 0,.slice none 0 0,.slice none 0 0,.int .i64 tg],.bool true]) ?_ rfl ⟨_,rfl,⟨none,0,rfl,by simp,by simp,.inl rfl⟩,Held.nil,(by (repeat (with_reducible first|exact bA _ _|refine bB ?_ ?_ _|refine bC ?_ _|refine bD ?_|refine bE ?_ ?_ _|refine bF ?_ (by assumption) ?_))<;>first|omega|(simp;try omega))⟩
 simp [results,Tryz.results121,go_sem, *]
theorem tJ (k:Int) (l:Lab) (tg:Int) (w:World) (hok:aP (az k l tg)=true) :
  Calls Tryz.prog 121 #[.int .i64 k,l.val,.int .i64 tg] w fun e w'=>∃ sv,e=.returned (.tuple #[(az k l tg).val sv (.slice none 0 0),.bool true])∧aF w' sv (az k l tg).slots∧dJ w' w.heap.size sv∧Below w.heap.size w w':=by
 by_cases hk:k=2∨k=3
 ·exact r9 k l tg w hk hok
 ·exact uV k l tg w hk hok
end Go.Proofs.YthhmolonhpaepaaGreatDoor
namespace Go.Proofs.YthhmolonhpaepaaGreatDoor
open Go.RowKit Drw
attribute [local go_sem] Lab.val Rgt.val Cal.val Thg.val
attribute [local go_sem] NU NT
section
variable {P:Nat→Prop} {tag:Nat→Nat} {A T o n cap:Nat} {xs:List Thx} {c:Cal} {r:Rgt} {w:World} {x:Nat} {t:Thg} {sv qv:Value}
theorem aA.same {w w':World} {P:Nat→Prop} {tag:Nat→Nat} {v:Value} {xs:List Thx} (h:au w P tag v xs) (hb:Below w.heap.size w w'):aA w w' P v (xs.map (·.1)):=
 ⟨xs,tag,h.pure hb,rfl,Chg.ah hb⟩
set_option maxRecDepth 100000 in
set_option maxHeartbeats 1000000 in
theorem En (hA:iy w A (.slice (some ⟨T,o,none⟩) n cap) c r) (hO:au w P tag (.slice (some ⟨T,o,none⟩) n cap) xs) (hx:r.thing=(x:Int)+1) (ht:xs[x]?=some (t,sv,qv)) (hq:t.queue.length=3) (hn:n≤65536) :
  Calls Tryz.prog 137 #[.pointer (some ⟨A,0,none⟩)] w fun e w'=>e=.returned (.int .i64 (-4))∧aA w w' P (.slice (some ⟨T,o,none⟩) n cap) (xs.map (·.1)):=by
 obtain ⟨a0,a1,a2,a3,a4,a5,a6,a7,a8,a9,a10⟩:=hA
 rw [hx] at a6
 obtain ⟨c0,c1,c2,c3,c4,c5,c6,c7⟩:=hO.cells ht
 have hQ:=(hO.dK.2 _ (List.mem_of_getElem? ht)).2
 dsimp only at hQ
 obtain ⟨qp,j4,rfl,-,-⟩:=hQ.len
 have hxl:x<n:=by rw [hO.len];exact (List.getElem?_eq_some_iff.1 ht).1
 have hAl:A<w.heap.size:=World.block_lt_of_cell? w _ a0
 have Hq:=Lib.hid hq
 clear hx ht hq
 go_enter Tryz.func137,Tryz.ntmps137
 go_wp2_with (first
  | (go_at_call 158;refine (eB A T o n cap x _ a0 a6 hxl hn).mono ?_;rintro e w' ⟨rfl,m,rfl⟩)
  | (go_at_call 160;refine (pF _ _ t.queue _ (Rows.pure hQ (by (repeat (with_reducible first|exact bA _ _|refine bB ?_ ?_ _|refine bC ?_ _|refine bD ?_|refine bE ?_ ?_ _|refine bF ?_ (by assumption) ?_))<;>first|omega|(simp;try omega))) (by rw [Hq.out];exact Nat.le_refl _)).mono ?_;rintro e w1 ⟨R,rfl,hR,hI,hb1⟩;obtain ⟨hc1,hf1⟩:=ax hb1;have hcA:=fun o=>hc1 A o (by simpa using hAl))
  | (go_at_call 161;refine (LZ _ _ _ _ hI Hq.out).mono ?_;rintro e w2 ⟨rfl,rfl⟩))
 go_ret
 exact ⟨rfl,aA.same hO (by (repeat (with_reducible first|exact bA _ _|refine bB ?_ ?_ _|refine bC ?_ _|refine bD ?_|refine bE ?_ ?_ _|refine bF ?_ (by assumption) ?_))<;>first|omega|(simp;try omega))⟩
set_option maxRecDepth 100000 in
set_option maxHeartbeats 1000000 in
theorem Em (hA:iy w A (.slice (some ⟨T,o,none⟩) n cap) c r) (hO:au w P tag (.slice (some ⟨T,o,none⟩) n cap) xs) (hP:¬ P A) (hup:∀ b,w.heap.size≤b→P b) (hx:r.thing=(x:Int)+1) (ht:xs[x]?=some (t,sv,qv)) (hq:t.queue.length<3) (hn:n≤65536) :
  Calls Tryz.prog 137 #[.pointer (some ⟨A,0,none⟩)] w fun e w'=>e=.returned (.int .i64 0)∧aA w w' P (.slice (some ⟨T,o,none⟩) n cap) (dD (xs.map (·.1)) ((x:Int)+1) (bJ (t.queue++[c.n]))):=by
 obtain ⟨a0,a1,a2,a3,a4,a5,a6,a7,a8,a9,a10⟩:=hA
 rw [hx] at a6
 obtain ⟨c0,c1,c2,c3,c4,c5,c6,c7⟩:=hO.cells ht
 obtain ⟨-,hPT,hT0,hTl,hf⟩:=hO.pos ht
 have hQ:=(hO.dK.2 _ (List.mem_of_getElem? ht)).2
 dsimp only at hQ
 obtain ⟨qp,j4,rfl,-,-⟩:=hQ.len
 have hxl:x<n:=by rw [hO.len];exact (List.getElem?_eq_some_iff.1 ht).1
 have hAl:A<w.heap.size:=World.block_lt_of_cell? w _ a0
 have Ht:=Lib.hid ht
 clear hx ht
 go_enter Tryz.func137,Tryz.ntmps137
 go_wp2_with (first
  | (go_at_call 158;refine (eB A T o n cap x _ a0 a6 hxl hn).mono ?_;rintro e w' ⟨rfl,m,rfl⟩)
  | (go_at_call 160;refine (pF _ _ t.queue _ (Rows.pure hQ (by (repeat (with_reducible first|exact bA _ _|refine bB ?_ ?_ _|refine bC ?_ _|refine bD ?_|refine bE ?_ ?_ _|refine bF ?_ (by assumption) ?_))<;>first|omega|(simp;try omega))) (by omega)).mono ?_;rintro e w1 ⟨R,rfl,hR,hI,hb1⟩;obtain ⟨hc1,hf1⟩:=ax hb1;have hcA:=fun o=>hc1 A o (by simpa using hAl);have hcT:=fun o=>hc1 T o (by simpa using hTl);have hfT:=fun o=>hf1 T o (by simpa using hTl))
  | (go_at_call 161;refine (K7 _ _ _ _ hI hq).mono ?_;rintro e w2 ⟨rfl,hI2,hg2⟩;go_loud (have hR':w.heap.size≤R:=by (simpa using hR));go_loud (have hb1':Below w.heap.size w w1:=Below.trans (below_drewN (Below.refl _ w) _) (Below.mono hb1 (by simp)));go_loud (have hb2:Below w.heap.size w w2:=hb1'.trans (hg2.below hb1'.size (fun k hk e=>by omega))))
  | (go_at_call 162;refine (ME _ _ _ hI2 (by simp;omega)).mono ?_;rintro e w3 ⟨v3,rfl,hV,hH,hb3⟩;obtain ⟨vp,vcap,rfl,-,-⟩:=hV.len;have hb4:Below w.heap.size w w3:=hb2.trans (hb3.mono hb2.size);have hT3:∀ o,w3.cell? ⟨T,o,none⟩=w.cell? ⟨T,o,none⟩:=fun o=>(ax hb4).1 T o hTl;have hfT3:∀ o,w3.frozen? ⟨T,o,none⟩=w.frozen? ⟨T,o,none⟩:=fun o=>(ax hb4).2 T o hTl))
 go_ret
 obtain ⟨tag',h1,h2⟩:=hO.que Ht.out hb4 hup hV (hH.retag (fun b _ h _=>⟨Nat.le_trans hb2.size h,rfl⟩))
 rw [show (t.queue++[c.n]).length=t.queue.length+1 by simp] at h1 h2
 exact ⟨rfl,_,_,h1,aB Ht.out rfl,h2⟩
set_option maxRecDepth 100000 in
set_option maxHeartbeats 1000000 in
theorem El (hA:iy w A (.slice (some ⟨T,o,none⟩) n cap) c r) (hO:au w P tag (.slice (some ⟨T,o,none⟩) n cap) xs) (hx:r.thing=(x:Int)+1) (ht:xs[x]?=some (t,sv,qv)) (hq:t.queue=[]) (hn:n≤65536) :
  Calls Tryz.prog 138 #[.pointer (some ⟨A,0,none⟩)] w fun e w'=>e=.returned (.int .i64 (-4))∧aA w w' P (.slice (some ⟨T,o,none⟩) n cap) (xs.map (·.1)):=by
 obtain ⟨a0,a1,a2,a3,a4,a5,a6,a7,a8,a9,a10⟩:=hA
 rw [hx] at a6
 obtain ⟨c0,c1,c2,c3,c4,c5,c6,c7⟩:=hO.cells ht
 have hQ:=(hO.dK.2 _ (List.mem_of_getElem? ht)).2
 dsimp only at hQ
 rw [hq] at hQ
 obtain ⟨qp,j4,rfl,-,-⟩:=hQ.len
 have hxl:x<n:=by rw [hO.len];exact (List.getElem?_eq_some_iff.1 ht).1
 clear hx ht hq
 go_enter Tryz.func138,Tryz.ntmps138
 go_wp2_with (first
  | (go_at_call 158;refine (eB A T o n cap x _ a0 a6 hxl hn).mono ?_;rintro e w' ⟨rfl,m,rfl⟩)
  | (go_at_call 160;refine (pF _ _ [] _ (Rows.pure hQ (by (repeat (with_reducible first|exact bA _ _|refine bB ?_ ?_ _|refine bC ?_ _|refine bD ?_|refine bE ?_ ?_ _|refine bF ?_ (by assumption) ?_))<;>first|omega|(simp;try omega))) (by simp)).mono ?_;rintro e w1 ⟨R,rfl,hR,hI,hb1⟩)
  | (go_at_call 163;refine (pop_no _ _ hI).mono ?_;rintro e w2 ⟨rfl,rfl⟩))
 go_ret
 exact ⟨rfl,aA.same hO (by (repeat (with_reducible first|exact bA _ _|refine bB ?_ ?_ _|refine bC ?_ _|refine bD ?_|refine bE ?_ ?_ _|refine bF ?_ (by assumption) ?_))<;>first|omega|(simp;try omega))⟩
set_option maxRecDepth 100000 in
set_option maxHeartbeats 1000000 in
theorem Ej {y:Int} {ys:List Int} (hA:iy w A (.slice (some ⟨T,o,none⟩) n cap) c r) (hO:au w P tag (.slice (some ⟨T,o,none⟩) n cap) xs) (hup:∀ b,w.heap.size≤b→P b) (hx:r.thing=(x:Int)+1) (ht:xs[x]?=some (t,sv,qv)) (hq:t.queue=y::ys) (hq3:t.queue.length≤3) (hn:n≤65536) :
  Calls Tryz.prog 138 #[.pointer (some ⟨A,0,none⟩)] w fun e w'=>e=.returned (.int .i64 y)∧aA w w' P (.slice (some ⟨T,o,none⟩) n cap) (dD (xs.map (·.1)) ((x:Int)+1) (bJ ys)):=by
 obtain ⟨a0,a1,a2,a3,a4,a5,a6,a7,a8,a9,a10⟩:=hA
 rw [hx] at a6
 obtain ⟨c0,c1,c2,c3,c4,c5,c6,c7⟩:=hO.cells ht
 obtain ⟨-,hPT,hT0,hTl,hf⟩:=hO.pos ht
 have hQ:=(hO.dK.2 _ (List.mem_of_getElem? ht)).2
 dsimp only at hQ
 rw [hq] at hQ hq3
 obtain ⟨qp,j4,rfl,-,-⟩:=hQ.len
 have hys:ys.length<3:=by simp at hq3;omega
 have hxl:x<n:=by rw [hO.len];exact (List.getElem?_eq_some_iff.1 ht).1
 have Ht:=Lib.hid ht
 clear hx ht hq
 go_enter Tryz.func138,Tryz.ntmps138
 go_wp2_with (first
  | (go_at_call 158;refine (eB A T o n cap x _ a0 a6 hxl hn).mono ?_;rintro e w' ⟨rfl,m,rfl⟩)
  | (go_at_call 160;refine (pF _ _ (y::ys) _ (Rows.pure hQ (by (repeat (with_reducible first|exact bA _ _|refine bB ?_ ?_ _|refine bC ?_ _|refine bD ?_|refine bE ?_ ?_ _|refine bF ?_ (by assumption) ?_))<;>first|omega|(simp;try omega))) hq3).mono ?_;rintro e w1 ⟨R,rfl,hR,hI,hb1⟩)
  | (go_at_call 163;refine (pop_c _ _ _ _ hI hys).mono ?_;rintro e w2 ⟨rfl,hI2,hg2⟩;go_loud (have hR':w.heap.size≤R:=by (simpa using hR));go_loud (have hb1':Below w.heap.size w w1:=Below.trans (below_drewN (Below.refl _ w) _) (Below.mono hb1 (by simp)));go_loud (have hb2:Below w.heap.size w w2:=hb1'.trans (hg2.below hb1'.size (fun k hk e=>by omega))))
  | (go_at_call 162;refine (MC _ _ _ hI2 (by omega)).mono ?_;rintro e w3 ⟨v3,rfl,hV,hH,hb3⟩;obtain ⟨vp,vcap,rfl,-,-⟩:=hV.len;have hb4:Below w.heap.size w w3:=hb2.trans (hb3.mono hb2.size);have hT3:∀ o,w3.cell? ⟨T,o,none⟩=w.cell? ⟨T,o,none⟩:=fun o=>(ax hb4).1 T o hTl;have hfT3:∀ o,w3.frozen? ⟨T,o,none⟩=w.frozen? ⟨T,o,none⟩:=fun o=>(ax hb4).2 T o hTl))
 go_ret
 obtain ⟨tag',h1,h2⟩:=hO.que Ht.out hb4 hup hV (hH.retag (fun b _ h _=>⟨Nat.le_trans hb2.size h,rfl⟩))
 exact ⟨rfl,_,_,h1,aB Ht.out rfl,h2⟩
set_option maxRecDepth 100000 in
set_option maxHeartbeats 1000000 in
theorem A9 (hA:iy w A (.slice (some ⟨T,o,none⟩) n cap) c r) (hO:au w P tag (.slice (some ⟨T,o,none⟩) n cap) xs) (hx:r.thing=(x:Int)+1) (ht:xs[x]?=some (t,sv,qv)) (hv:5≤t.aJ) (hn:n≤65536) :
  Calls Tryz.prog 139 #[.pointer (some ⟨A,0,none⟩)] w fun e w'=>e=.returned (.int .i64 (-4))∧aA w w' P (.slice (some ⟨T,o,none⟩) n cap) (xs.map (·.1)):=by
 obtain ⟨a0,a1,a2,a3,a4,a5,a6,a7,a8,a9,a10⟩:=hA
 rw [hx] at a6
 obtain ⟨c0,c1,c2,c3,c4,c5,c6,c7⟩:=hO.cells ht
 have hxl:x<n:=by rw [hO.len];exact (List.getElem?_eq_some_iff.1 ht).1
 clear hx ht
 go_enter Tryz.func139,Tryz.ntmps139
 go_wp2_with (go_at_call 158;refine (eB A T o n cap x _ a0 a6 hxl hn).mono ?_;rintro e w' ⟨rfl,m,rfl⟩)
 go_ret
 exact ⟨rfl,aA.same hO (by (repeat (with_reducible first|exact bA _ _|refine bB ?_ ?_ _|refine bC ?_ _|refine bD ?_|refine bE ?_ ?_ _|refine bF ?_ (by assumption) ?_))<;>first|omega|(simp;try omega))⟩
set_option maxRecDepth 100000 in
set_option maxHeartbeats 4000000 in
theorem Iw (hA:iy w A (.slice (some ⟨T,o,none⟩) n cap) c r) (hO:au w P tag (.slice (some ⟨T,o,none⟩) n cap) xs) (hup:∀ b,w.heap.size≤b→P b) (hx:r.thing=(x:Int)+1) (ht:xs[x]?=some (t,sv,qv)) (hv:¬ 5≤t.aJ) (hv0:0≤t.aJ) (hok:aP (az t.kind t.lab t.to)=true) (hn:n≤65536) :
  Calls Tryz.prog 139 #[.pointer (some ⟨A,0,none⟩)] w fun e w'=>e=.returned (.int .i64 0)∧aA w w' P (.slice (some ⟨T,o,none⟩) n cap) (dD (xs.map (·.1)) ((x:Int)+1) dA):=by
 obtain ⟨a0,a1,a2,a3,a4,a5,a6,a7,a8,a9,a10⟩:=hA
 rw [hx] at a6
 obtain ⟨c0,c1,c2,c3,c4,c5,c6,c7⟩:=hO.cells ht
 obtain ⟨-,hPT,hT0,hTl,hf⟩:=hO.pos ht
 have hxl:x<n:=by rw [hO.len];exact (List.getElem?_eq_some_iff.1 ht).1
 have Ht:=Lib.hid ht
 have Hok:=Lib.hid hok
 obtain ⟨sl,hsl⟩:∃ sl,(az t.kind t.lab t.to).slots=sl:=⟨_,rfl⟩
 have hnew:az t.kind t.lab t.to=⟨t.kind,⟨t.lab.s,t.lab.v⟩,0,0,sl,[],t.to⟩:=by rw [← hsl];rfl
 have hren:dA t=⟨t.kind,t.lab,t.aJ+1,0,sl,[],t.to⟩:=by rw [← hsl];rfl
 have Hnew:=Lib.hid hnew
 have Hren:=Lib.hid hren
 have hvw:IntKind.i64.wrap (t.aJ+1)=t.aJ+1:=IntWalk.i64_in _ (by omega)
 clear hx ht hok hsl hnew hren
 go_enter Tryz.func139,Tryz.ntmps139
 go_upto_region 4 with (go_at_call 158;refine (eB A T o n cap x _ a0 a6 hxl hn).mono ?_;rintro e w' ⟨rfl,m,rfl⟩)
 go_cut [4,5] (fun s4 s5 wx=>∃ Q sp fE,s4=.pointer (some ⟨Q,0,none⟩)∧s5=.bool true∧w.heap.size≤Q∧Below w.heap.size w wx∧(wx.cell? ⟨Q,0,none⟩=some (.int .i64 t.kind)∧wx.cell? ⟨Q,1,none⟩=some (.int .i64 t.lab.s)∧wx.cell? ⟨Q,2,none⟩=some (.int .i64 t.lab.v)∧wx.cell? ⟨Q,3,none⟩=some (.int .i64 0)∧wx.cell? ⟨Q,4,none⟩=some (.int .i64 0)∧wx.cell? ⟨Q,5,none⟩=some (.slice sp sl.length fE)∧wx.cell? ⟨Q,6,none⟩=some (.slice none 0 0)∧wx.cell? ⟨Q,7,none⟩=some (.int .i64 t.to))∧(∀ j,wx.frozen? ⟨Q,j,none⟩=false)∧aF wx (.slice sp sl.length fE) sl∧dJ wx w.heap.size (.slice sp sl.length fE)∧(∀ b o n c,Value.slice sp sl.length fE=.slice (some ⟨b,o,none⟩) n c→0<n→¬ b=Q))
 case first=>
  go_region_held3 (fun w'=>w'.cell? ⟨T,o+x * 8,none⟩=some (.int .i64 t.kind)∧w'.cell? ⟨T,o+x * 8+1,none⟩=some (.int .i64 t.lab.s)∧w'.cell? ⟨T,o+x * 8+2,none⟩=some (.int .i64 t.lab.v)∧w'.cell? ⟨T,o+x * 8+7,none⟩=some (.int .i64 t.to))
   ((simp [*,ag,World.cell?_alloc_some])) (first|(go_at_call 121;refine (tJ _ ⟨_,_⟩ _ _ Hok.out).mono ?_;rw [Hnew.out];rintro e w1 ⟨nv,rfl,hS,hH,hb1⟩;obtain ⟨sp,fE,rfl,-,-⟩:=hS.len;obtain ⟨hc1,hf1⟩:=ax hb1;have hcT:=fun o=>hc1 T o (by (try simp);omega)))
  ·go_wp2
   go_meet
   have hz:w.heap.size≤w1.heap.size:=by have:=hb1.size;simpa using this
   have hH2:dJ w1 w.heap.size (.slice sp sl.length fE):=hH.retag (fun b _ h _=>⟨by simpa using h,rfl⟩)
   refine ⟨_,sp,fE,rfl,rfl,hz,(by (repeat (with_reducible first|exact bA _ _|refine bB ?_ ?_ _|refine bC ?_ _|refine bD ?_|refine bE ?_ ?_ _|refine bF ?_ (by assumption) ?_))<;>first|omega|(simp;try omega)),?_,?_,?_,?_,?_⟩
   ·simp [go_sem]
   ·intro j;simp [go_sem]
   ·exact Rows.held hS hH2 (S:=fun _=>False) (by (repeat (with_reducible first|exact Chg.refl _ _|refine Chg.alloc ?_ _|refine Chg.drew ?_|refine Chg.drewN ?_ _|refine Chg.setCell ?_ ?_ _|refine Chg.trans ?_ (Chg.ah (by assumption))))<;>(first|omega|(simp;done)|(simp;omega))) (fun _ _ _ _=>id)
   ·exact hH2.chg (S:=fun _=>False) (by (repeat (with_reducible first|exact Chg.refl _ _|refine Chg.alloc ?_ _|refine Chg.drew ?_|refine Chg.drewN ?_ _|refine Chg.setCell ?_ ?_ _|refine Chg.trans ?_ (Chg.ah (by assumption))))<;>(first|omega|(simp;done)|(simp;omega))) (fun _ _ _ _=>id)
   ·intro b o n c e hn e2
    have:=(hH2 b o n c e hn).2.2.1
    omega
  ·go_wp2
   go_meet
   have hz:w.heap.size+1≤w1.heap.size:=by have:=hb1.size;simpa using this
   have hH2:dJ w1 (w.heap.size+1) (.slice sp sl.length fE):=hH.retag (fun b _ h _=>⟨by simpa using h,rfl⟩)
   have hcQ:∀ o,w1.cell? ⟨w.heap.size,o,none⟩=_:=fun o=>hc1 _ o (by simp)
   have hfQ:∀ o,w1.frozen? ⟨w.heap.size,o,none⟩=_:=fun o=>hf1 _ o (by simp)
   refine ⟨_,sp,fE,rfl,rfl,Nat.le_refl _,(by (repeat (with_reducible first|exact bA _ _|refine bB ?_ ?_ _|refine bC ?_ _|refine bD ?_|refine bE ?_ ?_ _|refine bF ?_ (by assumption) ?_))<;>first|omega|(simp;try omega)),?_,?_,?_,?_,?_⟩
   ·simp [ag,hcQ]
   ·intro j;simp [go_sem,hfQ]
   ·exact Rows.held hS hH2 (S:=fun b=>b=w.heap.size) (by (repeat (with_reducible first|exact Chg.refl _ _|refine Chg.alloc ?_ _|refine Chg.drew ?_|refine Chg.drewN ?_ _|refine Chg.setCell ?_ ?_ _|refine Chg.trans ?_ (Chg.ah (by assumption))))<;>(first|omega|(simp;done)|(simp;omega))) (fun b _ h _ e=>by omega)
   ·exact (hH2.chg (S:=fun b=>b=w.heap.size) (by (repeat (with_reducible first|exact Chg.refl _ _|refine Chg.alloc ?_ _|refine Chg.drew ?_|refine Chg.drewN ?_ _|refine Chg.setCell ?_ ?_ _|refine Chg.trans ?_ (Chg.ah (by assumption))))<;>(first|omega|(simp;done)|(simp;omega))) (fun b _ h _ e=>by omega)).retag (fun b _ h _=>⟨by omega,rfl⟩)
   ·intro b o n c e hn e2
    have:=(hH2 b o n c e hn).1
    omega
 case rest=>
  obtain ⟨Q,sp,fE,rfl,rfl,hQ,hBx,⟨q0,q1,q2,q3,q4,q5,q6,q7⟩,hqf,hS,hH,hne⟩:=hcut
  obtain ⟨wx,rfl⟩:∃ wx:World,wx=wc:=⟨_,rfl⟩
  obtain ⟨hcx,hfx⟩:=ax hBx
  rw [← hcx _ _ hTl] at c0 c1 c2 c3 c4 c5 c6 c7
  have hfT:∀ j,wx.frozen? ⟨T,j,none⟩=false:=fun j=>(hfx _ _ hTl).trans (hf j)
  have hTx:T<wx.heap.size:=World.block_lt_of_cell? wx _ c0
  have hQT:¬ Q=T:=by intro e;omega
  have hTQ:¬ T=Q:=by intro e;omega
  clear hcx hfx hf a0 a1 a2 a3 a4 a5 a6 a7 a8 a9 a10
  go_wp2
  go_ret
  have hg1:Chg (fun b=>b=Q) wx (wx.setCell ⟨Q,3,none⟩ (.int .i64 (t.aJ+1))):=Chg.setCell (S:=fun b=>b=Q) (Chg.refl _ _) rfl _
  have hb1:Below w.heap.size w (wx.setCell ⟨Q,3,none⟩ (.int .i64 (t.aJ+1))):=hBx.setCell (p:=⟨Q,3,none⟩) hQ _
  have hH':Held wx (fun b=>w.heap.size≤b∧¬ b=Q) (fun _=>0) 0 (.slice sp sl.length fE):=fun b o n c e hn=>by
   have q:=hH b o n c e hn
   exact ⟨⟨q.1,hne b o n c e hn⟩,q.2⟩
  have hS1:aF (wx.setCell ⟨Q,3,none⟩ (.int .i64 (t.aJ+1))) (.slice sp sl.length fE) sl:=Rows.held hS hH' hg1 (fun b _ h _=>h.2)
  have hH1:dJ (wx.setCell ⟨Q,3,none⟩ (.int .i64 (t.aJ+1))) w.heap.size (.slice sp sl.length fE):=(hH'.chg hg1 (fun b _ h _=>h.2)).imp (fun b h _ _=>⟨h.1,rfl⟩)
  have key:=hO.FP (t':=dA t) (sv:=.slice sp sl.length fE) (qv:=.slice none 0 0) (w2:=(((((((((wx.setCell ⟨Q,3,none⟩ (.int .i64 (t.aJ+1))).setCell ⟨T,o+x * 8,none⟩ (.int .i64 t.kind)).setCell ⟨T,o+x * 8+1,none⟩ (.int .i64 t.lab.s)).setCell ⟨T,o+x * 8+2,none⟩ (.int .i64 t.lab.v)).setCell ⟨T,o+x * 8+3,none⟩ (.int .i64 (t.aJ+1))).setCell ⟨T,o+x * 8+4,none⟩ (.int .i64 0)).setCell ⟨T,o+x * 8+5,none⟩ (.slice sp sl.length fE)).setCell ⟨T,o+x * 8+6,none⟩ (.slice none 0 0)).setCell ⟨T,o+x * 8+7,none⟩ (.int .i64 t.to))) Ht.out hb1 hup (by rw [Hren.out];exact hS1) (by rw [Hren.out];exact ⟨none,0,rfl,by simp,by simp,.inl rfl⟩) (.inr hH1) Held.nil (by intro b c _ e;simp [Value.ownBlock] at e) ?_ ?_ ?_ ?_
  ·obtain ⟨tag',k1,k2⟩:=key
   exact ⟨rfl,_,_,k1,aB Ht.out rfl,k2⟩
  ·exact (by (repeat (with_reducible first|exact Chg.refl _ _|refine Chg.alloc ?_ _|refine Chg.drew ?_|refine Chg.drewN ?_ _|refine Chg.setCell ?_ ?_ _|refine Chg.trans ?_ (Chg.ah (by assumption))))<;>(first|omega|(simp;done)|(simp;omega)))
  ·intro j;simp
  ·intro j u hu
   rw [Hren.out] at hu
   rcases j with _|_|_|_|_|_|_|_|j
   all_goals (simp [Thg.cells] at hu)
   all_goals (try subst hu)
   all_goals (simp [ag,c0,c1,c2,c3,c4,c5,c6,c7,hQT,hTQ];done)
  ·intro off hoff
   repeat (rw [ag,if_neg (by intro e;simp only [Addr.mk.injEq] at e;omega)])
theorem mod2 {n:Int} (h0:0≤n) (h9:n≤99):n.tmod 2=n % 2∧IntKind.i64.wrap (n % 2)=n % 2:=by
 exact ⟨Int.tmod_eq_emod_of_nonneg h0,IntWalk.i64_in _ (by omega)⟩
set_option maxRecDepth 100000 in
set_option maxHeartbeats 2000000 in
theorem Nz {g:Nat} {tp:Thg} {svp qvp:Value} (hA:iy w A (.slice (some ⟨T,o,none⟩) n cap) c r) (hO:au w P tag (.slice (some ⟨T,o,none⟩) n cap) xs) (hP:¬ P A) (hx:r.thing=(x:Int)+1) (ht:xs[x]?=some (t,sv,qv)) (hto:t.to=(g:Int)+1) (hg:xs[g]?=some (tp,svp,qvp)) (hgx:g≠x)
  (hn0:0≤c.n) (hn9:c.n≤99) (h0:0≤t.num) (h9:t.num≤99) (hn:n≤65536) :
  Calls Tryz.prog 140 #[.pointer (some ⟨A,0,none⟩)] w fun e w'=>e=.returned (.int .i64 0)∧aA w w' P (.slice (some ⟨T,o,none⟩) n cap) (dD (dD (xs.map (·.1)) ((g:Int)+1) (aS (c.n % 2))) ((x:Int)+1) (fun t=>aS (min (t.num+1) 99) t)):=by
 obtain ⟨a0,a1,a2,a3,a4,a5,a6,a7,a8,a9,a10⟩:=hA
 rw [hx] at a6
 obtain ⟨c0,c1,c2,c3,c4,c5,c6,c7⟩:=hO.cells ht
 obtain ⟨d0,d1,d2,d3,d4,d5,d6,d7⟩:=hO.cells hg
 obtain ⟨-,hPT,hT0,hTl,hf⟩:=hO.pos ht
 have hne:¬ T=A:=by intro e;subst e;exact hP hPT
 have hxl:x<n:=by rw [hO.len];exact (List.getElem?_eq_some_iff.1 ht).1
 have hgl:g<n:=by rw [hO.len];exact (List.getElem?_eq_some_iff.1 hg).1
 rw [hto] at c7
 have Ht:=Lib.hid ht
 have Hg:=Lib.hid hg
 have Hgx:=Lib.hid hgx
 obtain ⟨m1,m2⟩:=mod2 hn0 hn9
 obtain ⟨k2,hk2⟩:∃ k,c.n % 2=k:=⟨_,rfl⟩
 rw [hk2] at m1 m2 ⊢
 have k1:(o+g * 8+4=o+x * 8+7)=False:=by simp;omega
 have k3:(o+g * 8+4=o+x * 8+4)=False:=by simp;omega
 have hg0:(0:Int)≤(g:Int):=by omega
 have hgn:(g:Int)<(n:Int):=by omega
 have hw1:IntKind.i64.wrap ((g:Int)+1 - 1)=(g:Int):=by rw [show (g:Int)+1 - 1=g by omega];exact IntWalk.i64_in _ (by omega)
 have hw2:IntKind.i64.wrap (g:Int)=(g:Int):=IntWalk.i64_in _ (by omega)
 clear hx ht hg hto hgx hk2
 go_enter Tryz.func140,Tryz.ntmps140
 go_upto_region 2 with (go_at_call 158;refine (eB A T o n cap x _ a0 a6 hxl hn).mono ?_;rintro e w' ⟨rfl,m,rfl⟩)
 go_region_held3 (fun w'=>w'.cell? ⟨A,0,none⟩=some (.slice (some ⟨T,o,none⟩) n cap)∧w'.cell? ⟨A,5,none⟩=some (.int .i64 c.n)∧w'.cell? ⟨T,o+x * 8+7,none⟩=some (.int .i64 ((g:Int)+1)))
  ((simp [*,ag])) (fail)
 have e4:(w.setCell ⟨T,o+g * 8+4,none⟩ (.int .i64 k2)).cell? ⟨T,o+x * 8+4,none⟩=some (.int .i64 t.num):=by
  rw [ag,if_neg (by intro e;simp only [Addr.mk.injEq] at e;have:=Hgx.out;omega)];exact c4
 have hsx:(xs.set g (aS k2 tp,svp,qvp))[x]?=some (t,sv,qv):=by rw [List.getElem?_set_ne Hgx.out];exact Ht.out
 have Hsx:=Lib.hid hsx
 clear hsx
 have hh1:=hO.num Hg.out k2
 have fin:∀ v:Int,v=min (t.num+1) 99→∀ w':World,w'=((w.setCell ⟨T,o+g * 8+4,none⟩ (.int .i64 k2)).setCell ⟨T,o+x * 8+4,none⟩ (.int .i64 v))→∀ k,aA w (w'.drewN k) P (.slice (some ⟨T,o,none⟩) n cap) (dD (dD (xs.map (·.1)) ((g:Int)+1) (aS k2)) ((x:Int)+1) (fun t=>aS (min (t.num+1) 99) t)):=by
  intro v hv w' hw k
  subst hw
  have hh2:=hh1.1.num Hsx.out v
  refine ⟨_,_,hh2.1.chg (S:=fun _=>False) (by (repeat (with_reducible first|exact Chg.refl _ _|refine Chg.alloc ?_ _|refine Chg.drew ?_|refine Chg.drewN ?_ _|refine Chg.setCell ?_ ?_ _|refine Chg.trans ?_ (Chg.ah (by assumption))))<;>(first|omega|(simp;done)|(simp;omega))) (fun _ _ _=>id),?_,(hh1.2.trans hh2.2).trans (by (repeat (with_reducible first|exact Chg.refl _ _|refine Chg.alloc ?_ _|refine Chg.drew ?_|refine Chg.drewN ?_ _|refine Chg.setCell ?_ ?_ _|refine Chg.trans ?_ (Chg.ah (by assumption))))<;>(first|omega|(simp;done)|(simp;omega)))⟩
  rw [aB (f:=fun t=>aS (min (t.num+1) 99) t) Hsx.out (by rw [hv]),aB Hg.out rfl]
 have Fin:=Lib.hid fin
 clear fin hh1
 go_wp2
 all_goals
  go_ret
  refine ⟨rfl,?_⟩
 all_goals
  exact Fin.out _ (by omega) _ rfl _
end
end Go.Proofs.YthhmolonhpaepaaGreatDoor
