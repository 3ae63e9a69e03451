/- Plain theory of what can be come to have, continued: a step of the reference, its end, the order in which rights are told. Conditions: none. -/
import Derived.Test.YthhmolonhpaepaaGreatDoorVRun
import Derived.Test.YthhmolonhpaepaaGreatDoorChecked
import Derived.Test.YthhmolonhpaepaaGreatDoorVBase
import Derived.Deep.QuietTactic
import Derived.BigQuiet
import Derived.RegionTactic
import Derived.ChangeAlike
set_option linter.unusedVariables false
set_option linter.unusedSimpArgs false
namespace Drw
open Go Go.RowKit
end Drw
namespace Go.Proofs.YthhmolonhpaepaaGreatDoor
open Go.RowKit Drw
attribute [local go_sem] Lab.val Rgt.val Cal.val Thg.val
set_option maxHeartbeats 400000 in
theorem eD (n lo hi:Int) (w:World) :
  Calls Tryz.prog 67 #[.int .i64 n,.int .i64 lo,.int .i64 hi] w fun e w'=>e=.returned (.bool (inR n lo hi))∧w=w':=by
 go_enter Tryz.func67,Tryz.ntmps67
 go_wp2
 all_goals (go_ret;exact ⟨aj (by rw [Bool.eq_iff_iff];simp [inR];omega),rfl⟩)
set_option maxHeartbeats 400000 in
theorem jL (n lo hi:Int) (w:World) :
  Calls Tryz.prog 79 #[.int .i64 n,.int .i64 lo,.int .i64 hi] w fun e w'=>e=.returned (.bool (inR n lo hi))∧w=w':=by
 go_enter Tryz.func79,Tryz.ntmps79
 go_wp2
 all_goals (go_ret;exact ⟨aj (by rw [Bool.eq_iff_iff];simp [inR];omega),rfl⟩)
set_option maxHeartbeats 400000 in
theorem jK (l:Lab) (w:World) :
  Calls Tryz.prog 39 #[l.val] w fun e w'=>e=.returned (.bool (dw l))∧Below w.heap.size w w':=by
 go_enter Tryz.func39,Tryz.ntmps39
 go_wp2
 all_goals (go_ret;exact ⟨aj (by rw [Bool.eq_iff_iff];simp [dw,inR];omega),(Below.refl _ _).alloc (Nat.le_refl _) _⟩)
set_option maxHeartbeats 400000 in
theorem CF (l:Lab) (w:World) :
  Calls Tryz.prog 43 #[l.val] w fun e w'=>e=.returned (.bool (dw l))∧Below w.heap.size w w':=by
 go_enter Tryz.func43,Tryz.ntmps43
 go_wp2_with (go_at_call 79;refine (jL _ _ _ _).mono ?_;rintro e w' ⟨rfl,rfl⟩)
 all_goals (go_ret;exact ⟨aj (by simp [dw, *]),(Below.refl _ _).alloc (Nat.le_refl _) _⟩)
set_option maxHeartbeats 400000 in
theorem l1In_c (a b:Int) (w:World) (ha:0≤a) (hb:0≤b) (ha':a≤3) (hb':b≤3) :
  Calls Tryz.prog 98 #[.int .i64 a,.int .i64 b] w fun e w'=>e=.returned (.bool (subM a b))∧w=w':=by
 go_enter Tryz.func98,Tryz.ntmps98
 go_wp2
 all_goals (go_ret;exact ⟨aj (by rw [Bool.eq_iff_iff];simp [subM];omega),rfl⟩)
theorem BD {l:Lab} (h:dw l=true):0≤l.s∧l.s≤3∧0≤l.v∧l.v≤3:=by simp [dw,inR] at h;omega
set_option maxHeartbeats 400000 in
theorem BH (a b:Lab) (w:World) (ha:dw a=true) (hb:dw b=true) :
  Calls Tryz.prog 64 #[a.val,b.val] w fun e w'=>e=.returned (.bool (uJ a b))∧Below w.heap.size w w':=by
 have Ha:=Lib.hid ha
 have Hb:=Lib.hid hb
 obtain ⟨a1,a2,a3,a4⟩:=BD ha
 obtain ⟨b1,b2,b3,b4⟩:=BD hb
 clear ha hb
 go_enter Tryz.func64,Tryz.ntmps64
 go_wp2_with (go_at_call 98;refine (l1In_c _ _ _ (by assumption) (by assumption) (by assumption) (by assumption)).mono ?_;rintro e w' ⟨rfl,rfl⟩)
 all_goals (go_ret;exact ⟨aj (by simp [uJ,Kh,Ha.out,Hb.out, *]),((Below.refl _ _).alloc (Nat.le_refl _) _).alloc (by simp) _⟩)
set_option maxHeartbeats 400000 in
theorem I4 (a b:Int) (w:World) (ha:0≤a) (hb:0≤b) (ha':a≤3) (hb':b≤3) :
  Calls Tryz.prog 84 #[.int .u64 a,.int .u64 b] w fun e w'=>e=.returned (.bool (subM a b))∧w=w':=by
 have h1:a=0∨a=1∨a=2∨a=3:=by omega
 have h2:b=0∨b=1∨b=2∨b=3:=by omega
 clear ha hb ha' hb'
 rcases h1 with rfl|rfl|rfl|rfl<;>rcases h2 with rfl|rfl|rfl|rfl
 all_goals
  go_enter Tryz.func84,Tryz.ntmps84
  go_wp2
  go_ret
  exact ⟨rfl,rfl⟩
set_option maxHeartbeats 400000 in
theorem Aw (l:Lab) (w:World) (h1:0≤l.s) (h2:l.s≤3) (h3:0≤l.v) (h4:l.v≤3) :
  Calls Tryz.prog 83 #[l.val] w fun e w'=>e=.returned (.tuple #[.int .u64 l.s,.int .u64 l.v])∧Below w.heap.size w w':=by
 go_enter Tryz.func83,Tryz.ntmps83
 go_wp2
 go_quiet (fail)
 go_wp2
 go_ret2
 exact ⟨rfl,below_drewN ((Below.refl _ _).alloc (Nat.le_refl _) _) _⟩
set_option maxHeartbeats 400000 in
theorem gM (a b:Lab) (w:World) :
  Calls Tryz.prog 47 #[a.val,b.val] w fun e w'=>e=.returned (.bool (uJ a b))∧Below w.heap.size w w':=by
 by_cases ha:dw a=true
 ·by_cases hb:dw b=true
  ·have Ha:=Lib.hid ha
   have Hb:=Lib.hid hb
   obtain ⟨a1,a2,a3,a4⟩:=BD ha
   obtain ⟨b1,b2,b3,b4⟩:=BD hb
   go_enter Tryz.func47,Tryz.ntmps47
   go_wp2_with (first
    | (go_at_call 39;refine (jK ⟨_,_⟩ _).mono ?_;rintro e w1 ⟨rfl,hb1⟩;obtain ⟨hc1,hf1⟩:=ax hb1;have hz0:w.heap.size<w1.heap.size:=(by have:=hb1.size;(try simp at this);omega);have hz1:w.heap.size+1<w1.heap.size:=(by have:=hb1.size;(try simp at this);omega))
    | (go_at_call 83;refine (Aw ⟨_,_⟩ _ (by assumption) (by assumption) (by assumption) (by assumption)).mono ?_;rintro e w1 ⟨rfl,hb1⟩;obtain ⟨hc1,hf1⟩:=ax hb1;have hz0:w.heap.size<w1.heap.size:=(by have:=hb1.size;(try simp at this);omega);have hz1:w.heap.size+1<w1.heap.size:=(by have:=hb1.size;(try simp at this);omega))
    | (go_at_call 84;refine (I4 _ _ _ (by assumption) (by assumption) (by assumption) (by assumption)).mono ?_;rintro e w1 ⟨rfl,rfl⟩))
   all_goals go_ret
   all_goals refine ⟨aj ?_,(by (repeat (with_reducible first|exact bA _ _|refine bB ?_ ?_ _|refine bC ?_ _|refine bD ?_|refine bE ?_ ?_ _|refine bF ?_ (by assumption) ?_))<;>first|omega|(simp;try omega))⟩
   all_goals simp [uJ,Kh, *]
  ·go_enter Tryz.func47,Tryz.ntmps47
   go_wp2_with (first
    | (go_at_call 39;refine (jK ⟨_,_⟩ _).mono ?_;rintro e w1 ⟨rfl,hb1⟩;obtain ⟨hc1,hf1⟩:=ax hb1;have hz0:w.heap.size<w1.heap.size:=(by have:=hb1.size;(try simp at this);omega);have hz1:w.heap.size+1<w1.heap.size:=(by have:=hb1.size;(try simp at this);omega)))
   all_goals go_ret
   all_goals refine ⟨aj ?_,(by (repeat (with_reducible first|exact bA _ _|refine bB ?_ ?_ _|refine bC ?_ _|refine bD ?_|refine bE ?_ ?_ _|refine bF ?_ (by assumption) ?_))<;>first|omega|(simp;try omega))⟩
   all_goals simp [uJ, *]
 ·go_enter Tryz.func47,Tryz.ntmps47
  go_wp2_with (first
    | (go_at_call 39;refine (jK ⟨_,_⟩ _).mono ?_;rintro e w1 ⟨rfl,hb1⟩;obtain ⟨hc1,hf1⟩:=ax hb1;have hz0:w.heap.size<w1.heap.size:=(by have:=hb1.size;(try simp at this);omega);have hz1:w.heap.size+1<w1.heap.size:=(by have:=hb1.size;(try simp at this);omega)))
  all_goals go_ret
  all_goals refine ⟨aj ?_,(by (repeat (with_reducible first|exact bA _ _|refine bB ?_ ?_ _|refine bC ?_ _|refine bD ?_|refine bE ?_ ?_ _|refine bF ?_ (by assumption) ?_))<;>first|omega|(simp;try omega))⟩
  all_goals simp [uJ, *]
end Go.Proofs.YthhmolonhpaepaaGreatDoor
namespace Go.Proofs.YthhmolonhpaepaaGreatDoor
open Go.RowKit Drw
attribute [local go_sem] Lab.val Rgt.val Cal.val Thg.val
set_option maxHeartbeats 400000 in
theorem gG (r:Rgt) (w:World) :
  Calls Tryz.prog 150 #[r.val] w fun e w'=>e=.returned (.bool (aZ r))∧Below w.heap.size w w':=by
 obtain ⟨a,b,c,d,f⟩:=r
 go_enter Tryz.func150,Tryz.ntmps150
 go_wp2
 all_goals go_ret
 all_goals refine ⟨aj ?_,(by (repeat (with_reducible first|exact bA _ _|refine bB ?_ ?_ _|refine bC ?_ _|refine bD ?_|refine bE ?_ ?_ _|refine bF ?_ (by assumption) ?_))<;>first|omega|(simp;try omega))⟩
 all_goals grind [aZ,inR,Rgt.null]
set_option maxHeartbeats 400000 in
theorem mZ (r:Rgt) (w:World) :
  Calls Tryz.prog 101 #[r.val] w fun e w'=>e=.returned (.bool (aZ r))∧Below w.heap.size w w':=by
 obtain ⟨a,b,c,d,f⟩:=r
 go_enter Tryz.func101,Tryz.ntmps101
 go_wp2_with (go_at_call 79;refine (jL _ _ _ _).mono ?_;rintro e w' ⟨rfl,rfl⟩)
 all_goals go_ret
 all_goals refine ⟨aj ?_,(by (repeat (with_reducible first|exact bA _ _|refine bB ?_ ?_ _|refine bC ?_ _|refine bD ?_|refine bE ?_ ?_ _|refine bF ?_ (by assumption) ?_))<;>first|omega|(simp;try omega))⟩
 all_goals grind [aZ,Rgt.null]
theorem DT {r:Rgt} (h:r.thing=0) (rd wr st:Bool):eG r rd wr st=r:=by simp [eG,h]
theorem yH {r:Rgt} (h:¬ r.thing=0) (rd wr st:Bool):eG r rd wr st=⟨r.thing,r.aJ,r.rd && rd,r.wr && wr && st,r.wk || !st⟩:=by simp [eG,h]
set_option maxHeartbeats 400000 in
theorem BG (r:Rgt) (rd wr st:Bool) (w:World) :
  Calls Tryz.prog 94 #[r.val,.bool rd,.bool wr,.bool st] w fun e w'=>e=.returned (eG r rd wr st).val∧Below w.heap.size w w':=by
 obtain ⟨a,b,c,d,f⟩:=r
 by_cases h:a=0
 ·rw [DT h]
  go_enter Tryz.func94,Tryz.ntmps94
  go_wp2
  all_goals refine bodyPost_ret (v:=Rgt.val ⟨a,b,c,d,f⟩) ?_ rfl ⟨rfl,(by (repeat (with_reducible first|exact bA _ _|refine bB ?_ ?_ _|refine bC ?_ _|refine bD ?_|refine bE ?_ ?_ _|refine bF ?_ (by assumption) ?_))<;>first|omega|(simp;try omega))⟩
  all_goals simp [results,Tryz.results94,go_sem, *]
 ·rw [yH h]
  go_enter Tryz.func94,Tryz.ntmps94
  go_wp2
  all_goals refine bodyPost_ret (v:=Rgt.val ⟨a,b,c && rd,d && wr && st,f || !st⟩) ?_ rfl ⟨rfl,(by (repeat (with_reducible first|exact bA _ _|refine bB ?_ ?_ _|refine bC ?_ _|refine bD ?_|refine bE ?_ ?_ _|refine bF ?_ (by assumption) ?_))<;>first|omega|(simp;try omega))⟩
  all_goals simp [results,Tryz.results94,go_sem, *]
set_option maxHeartbeats 400000 in
theorem F6 (r:Rgt) (rd wr st:Bool) (w:World) (hr:¬ r.thing=0) :
  Calls Tryz.prog 202 #[r.val,.bool rd,.bool wr,.bool st] w fun e w'=>e=.returned (eG r rd wr st).val∧Below w.heap.size w w':=by
 rw [yH hr]
 clear hr
 obtain ⟨a,b,c,d,f⟩:=r
 go_enter Tryz.func202,Tryz.ntmps202
 go_wp2
 all_goals refine bodyPost_ret (v:=Rgt.val ⟨a,b,c && rd,d && wr && st,f || !st⟩) ?_ rfl ⟨rfl,(by (repeat (with_reducible first|exact bA _ _|refine bB ?_ ?_ _|refine bC ?_ _|refine bD ?_|refine bE ?_ ?_ _|refine bF ?_ (by assumption) ?_))<;>first|omega|(simp;try omega))⟩
 all_goals simp [results,Tryz.results202,go_sem, *]
set_option maxHeartbeats 400000 in
theorem AV (rd wr st:Bool) (w:World) :
  Calls Tryz.prog 200 #[.agg #[],.bool rd,.bool wr,.bool st] w fun e w'=>e=.returned Rgt.null.val∧Below w.heap.size w w':=by
 go_enter Tryz.func200,Tryz.ntmps200
 go_wp2
 all_goals refine bodyPost_ret (v:=Rgt.null.val) ?_ rfl ⟨rfl,(by (repeat (with_reducible first|exact bA _ _|refine bB ?_ ?_ _|refine bC ?_ _|refine bD ?_|refine bE ?_ ?_ _|refine bF ?_ (by assumption) ?_))<;>first|omega|(simp;try omega))⟩
 all_goals (simp [results,Tryz.results200,go_sem,Rgt.null])
def Nj (r:Rgt):Value:=if r.thing=0 then .iface 211 (.agg #[]) else .iface 213 r.val
set_option maxHeartbeats 400000 in
theorem kV (r:Rgt) (w:World) :
  Calls Tryz.prog 167 #[r.val] w fun e w'=>e=.returned (Nj r)∧Below w.heap.size w w':=by
 obtain ⟨a,b,c,d,f⟩:=r
 by_cases h:a=0
 ·go_enter Tryz.func167,Tryz.ntmps167
  go_wp2
  all_goals go_ret
  all_goals refine ⟨?_,(by (repeat (with_reducible first|exact bA _ _|refine bB ?_ ?_ _|refine bC ?_ _|refine bD ?_|refine bE ?_ ?_ _|refine bF ?_ (by assumption) ?_))<;>first|omega|(simp;try omega))⟩
  all_goals simp [Nj,h]
 ·go_enter Tryz.func167,Tryz.ntmps167
  go_wp2
  all_goals go_ret
  all_goals refine ⟨?_,(by (repeat (with_reducible first|exact bA _ _|refine bB ?_ ?_ _|refine bC ?_ _|refine bD ?_|refine bE ?_ ?_ _|refine bF ?_ (by assumption) ?_))<;>first|omega|(simp;try omega))⟩
  all_goals simp [Nj,h,Rgt.val]
theorem Ib {r:Rgt} (h:r.thing=0):Nj r=.iface 211 (.agg #[]):=by simp [Nj,h]
theorem Ku {r:Rgt} (h:¬ r.thing=0):Nj r=.iface 213 r.val:=by simp [Nj,h]
set_option maxHeartbeats 400000 in
theorem xO (r:Rgt) (rd wr st:Bool) (w:World) (h:¬ aZ r=true) :
  Calls Tryz.prog 159 #[r.val,.bool rd,.bool wr,.bool st] w fun e w'=>e=.returned (less r rd wr st).val∧Below w.heap.size w w':=by
 rw [show less r rd wr st=Rgt.null from by simp [less,h]]
 go_enter Tryz.func159,Tryz.ntmps159
 go_wp2_with (first
  | (go_at_call 150;refine (gG ⟨_,_,_,_,_⟩ _).mono ?_;rintro e w1 ⟨rfl,hb1⟩;obtain ⟨hc1,hf1⟩:=ax hb1;have hz0:w.heap.size<w1.heap.size:=(by have:=hb1.size;(try simp at this);omega);have hz1:w.heap.size+1<w1.heap.size:=(by have:=hb1.size;(try simp at this);omega)))
 refine bodyPost_ret (v:=Rgt.val Rgt.null) ?_ rfl ⟨rfl,(by (repeat (with_reducible first|exact bA _ _|refine bB ?_ ?_ _|refine bC ?_ _|refine bD ?_|refine bE ?_ ?_ _|refine bF ?_ (by assumption) ?_))<;>first|omega|(simp;try omega))⟩
 simp [results,Tryz.results159,go_sem, *,Rgt.null]
set_option maxHeartbeats 400000 in
theorem su (r:Rgt) (rd wr st:Bool) (w:World) (h:aZ r=true) (h0:r.thing=0) :
  Calls Tryz.prog 159 #[r.val,.bool rd,.bool wr,.bool st] w fun e w'=>e=.returned (less r rd wr st).val∧Below w.heap.size w w':=by
 have hr:r=Rgt.null:=by simpa [aZ,h0] using h
 rw [show less r rd wr st=Rgt.null from by rw [hr];simp [less,eG,Rgt.null]]
 have Hv:=Lib.hid (Ib (r:=⟨r.thing,r.aJ,r.rd,r.wr,r.wk⟩) h0)
 clear h0 hr
 have hm:∀ w,(method 342 211 (.agg #[]) "loop.example/drawbar/impl.less").run Tryz.prog w=.ok (200,.agg #[]) w:=fun _=>by kernel_rfl
 have hn:∀ w,(nilAhead 342 211 (.agg #[]) "loop.example/drawbar/impl.less").run Tryz.prog w=.ok (some false) w:=fun _=>by kernel_rfl
 go_enter Tryz.func159,Tryz.ntmps159
 go_wp2_with (first
  | (go_at_call 150;refine (gG ⟨_,_,_,_,_⟩ _).mono ?_;rintro e w1 ⟨rfl,hb1⟩;obtain ⟨hc1,hf1⟩:=ax hb1;have hz0:w.heap.size<w1.heap.size:=(by have:=hb1.size;(try simp at this);omega);have hz1:w.heap.size+1<w1.heap.size:=(by have:=hb1.size;(try simp at this);omega))
  | (go_at_call 167;refine (kV ⟨_,_,_,_,_⟩ _).mono ?_;rintro e w1 ⟨rfl,hb1⟩;rw [Hv.out];obtain ⟨hc1,hf1⟩:=ax hb1;have hz0:w.heap.size<w1.heap.size:=(by have:=hb1.size;(try simp at this);omega);have hz1:w.heap.size+1<w1.heap.size:=(by have:=hb1.size;(try simp at this);omega))
  | (go_at_call 200;refine (AV _ _ _ _).mono ?_;rintro e w1 ⟨rfl,hb1⟩;obtain ⟨hc1,hf1⟩:=ax hb1;have hz0:w.heap.size<w1.heap.size:=(by have:=hb1.size;(try simp at this);omega);have hz1:w.heap.size+1<w1.heap.size:=(by have:=hb1.size;(try simp at this);omega)))
 refine bodyPost_ret (v:=Rgt.val Rgt.null) ?_ rfl ⟨rfl,(by (repeat (with_reducible first|exact bA _ _|refine bB ?_ ?_ _|refine bC ?_ _|refine bD ?_|refine bE ?_ ?_ _|refine bF ?_ (by assumption) ?_))<;>first|omega|(simp;try omega))⟩
 simp [results,Tryz.results159,go_sem, *,Rgt.null]
set_option maxHeartbeats 400000 in
theorem vz (r:Rgt) (rd wr st:Bool) (w:World) (h:aZ r=true) (h0:¬ r.thing=0) :
  Calls Tryz.prog 159 #[r.val,.bool rd,.bool wr,.bool st] w fun e w'=>e=.returned (less r rd wr st).val∧Below w.heap.size w w':=by
 rw [show less r rd wr st=eG r rd wr st from by simp [less,h]]
 have Hv:=Lib.hid (Ku (r:=⟨r.thing,r.aJ,r.rd,r.wr,r.wk⟩) h0)
 have hm:∀ w,(method 342 213 (.agg #[.int .i64 r.thing,.int .i64 r.aJ,.bool r.rd,.bool r.wr,.bool r.wk]) "loop.example/drawbar/impl.less").run Tryz.prog w=.ok (202,.agg #[.int .i64 r.thing,.int .i64 r.aJ,.bool r.rd,.bool r.wr,.bool r.wk]) w:=fun _=>by kernel_rfl
 have hn:∀ w,(nilAhead 342 213 (.agg #[.int .i64 r.thing,.int .i64 r.aJ,.bool r.rd,.bool r.wr,.bool r.wk]) "loop.example/drawbar/impl.less").run Tryz.prog w=.ok (some false) w:=fun _=>by kernel_rfl
 go_enter Tryz.func159,Tryz.ntmps159
 go_wp2_with (first
  | (go_at_call 150;refine (gG ⟨_,_,_,_,_⟩ _).mono ?_;rintro e w1 ⟨rfl,hb1⟩;obtain ⟨hc1,hf1⟩:=ax hb1;have hz0:w.heap.size<w1.heap.size:=(by have:=hb1.size;(try simp at this);omega);have hz1:w.heap.size+1<w1.heap.size:=(by have:=hb1.size;(try simp at this);omega))
  | (go_at_call 167;refine (kV ⟨_,_,_,_,_⟩ _).mono ?_;rintro e w1 ⟨rfl,hb1⟩;rw [Hv.out];obtain ⟨hc1,hf1⟩:=ax hb1;have hz0:w.heap.size<w1.heap.size:=(by have:=hb1.size;(try simp at this);omega);have hz1:w.heap.size+1<w1.heap.size:=(by have:=hb1.size;(try simp at this);omega))
  | (go_at_call 202;refine (F6 ⟨_,_,_,_,_⟩ _ _ _ _ (by assumption)).mono ?_;rintro e w1 ⟨rfl,hb1⟩;obtain ⟨hc1,hf1⟩:=ax hb1;have hz0:w.heap.size<w1.heap.size:=(by have:=hb1.size;(try simp at this);omega);have hz1:w.heap.size+1<w1.heap.size:=(by have:=hb1.size;(try simp at this);omega)))
 refine bodyPost_ret (v:=Rgt.val (eG r rd wr st)) ?_ rfl ⟨rfl,(by (repeat (with_reducible first|exact bA _ _|refine bB ?_ ?_ _|refine bC ?_ _|refine bD ?_|refine bE ?_ ?_ _|refine bF ?_ (by assumption) ?_))<;>first|omega|(simp;try omega))⟩
 simp [results,Tryz.results159,go_sem, *]
theorem qB (r:Rgt) (rd wr st:Bool) (w:World) :
  Calls Tryz.prog 159 #[r.val,.bool rd,.bool wr,.bool st] w fun e w'=>e=.returned (less r rd wr st).val∧Below w.heap.size w w':=by
 by_cases h:aZ r=true
 ·by_cases h0:r.thing=0
  ·exact su r rd wr st w h h0
  ·exact vz r rd wr st w h h0
 ·exact xO r rd wr st w h
end Go.Proofs.YthhmolonhpaepaaGreatDoor
