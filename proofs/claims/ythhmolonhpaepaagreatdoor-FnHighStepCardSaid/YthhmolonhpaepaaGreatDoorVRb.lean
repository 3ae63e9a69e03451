/- Drawn tables that are fine, most often; a drawn runner. Conditions: few numbers were drawn so far. -/
import Derived.Test.YthhmolonhpaepaaGreatDoorVDb
import Derived.Test.YthhmolonhpaepaaGreatDoorVMa
import Derived.Test.YthhmolonhpaepaaGreatDoorVG
import Derived.Shelf.Abstract
import Derived.Test.YthhmolonhpaepaaGreatDoorVB
import Derived.Test.YthhmolonhpaepaaGreatDoorVBase
import Derived.Test.YthhmolonhpaepaaGreatDoorVIv
import Derived.Test.YthhmolonhpaepaaGreatDoorVDo
import Derived.Maps.RangeWalk
import Derived.Sort.Grow
import Derived.Lib.SmallJoins
import Derived.Test.YthhmolonhpaepaaGreatDoorChecked
import Derived.Shelf.SlLaysF0
import Derived.Shelf.SlSortCmp.NoneTotal
import Derived.Deep.CutBlock
import Derived.Deep.LoopGhost
import Derived.Maps.AppendAt
set_option linter.unusedVariables false
set_option linter.unusedSimpArgs false
namespace Go.Proofs.YthhmolonhpaepaaGreatDoor
open Go.RowKit Drw
attribute [local go_sem] Lab.val Rgt.val Cal.val Thg.val
theorem zu.up {w w1 wr:World} {R N n:Nat} {v:Value} (h:zu w1 wr R N v n) (hg:Chg (fun b=>b=R) w w1) (M:Nat) (hM:N≤M):zu w wr R M v n:=by
 obtain ⟨xs,tag,h1,h2,h3,h4,h5⟩:=h
 exact ⟨xs,tag,h1.imp (fun b hb _=>⟨Nat.le_trans hg.size hb,rfl⟩),h2,h3,hg.trans h4,h5.mono hM⟩
theorem zu.ext {w wr wz:World} {R N n M:Nat} {v:Value} (h:zu w wr R N v n) (hg:Chg (fun b=>b=R) wr wz) (hR:R<w.heap.size) (hr:Rd wz R M):zu w wz R M v n:=by
 obtain ⟨xs,tag,h1,h2,h3,h4,h5⟩:=h
 exact ⟨xs,tag,h1.chg hg (fun b hb _ e=>by omega),h2,h3,h4.trans hg,hr⟩
theorem zu.tab {w wr:World} {R N n:Nat} {v:Value} (h:zu w wr R N v n) (hR:R<w.heap.size):∃ ts p cap,ts.length=n∧v=.slice p ts.length cap∧(∀ wz:World,Chg (fun b=>b=R) wr wz→TabAt wz (.slice p ts.length cap) ts)∧Es ts∧Chg (fun b=>b=R) w wr∧Rd wr R N:=by
 obtain ⟨xs,tag,h1,h2,h3,h4,h5⟩:=h
 obtain ⟨p,cap,e,-,-⟩:=h1.at'.len
 refine ⟨xs.map (·.1),p,cap,by simp [h2],e,fun wz hg=>by rw [← e];exact (h1.chg hg (fun b hb _ e=>by omega)).at',?_,h4,h5⟩
 intro t ht
 obtain ⟨x,hx,rfl⟩:=List.mem_map.1 ht
 have:=h3 x hx
 omega
set_option maxRecDepth 100000 in
set_option maxHeartbeats 4000000 in
theorem GI (R N:Nat) (w:World) (h:Rd w R N) (hN:N≤790000) :
  Calls Tryz.prog 33 #[.pointer (some ⟨R,0,none⟩)] w fun e w'=>∃ v n,e=.returned v∧3≤n∧n≤8∧zu w w' R (N+6000) v n:=by
 have hR:=h.lt
 go_enter Tryz.func33,Tryz.ntmps33
 go_wp2_with (go_at_call 66;refine (uG R _ _ h (by omega)).mono ?_;rintro e w1 ⟨v1,n1,rfl,hn3,hn8,hT1⟩)
 go_loopw [3,4] (fun s3 s4 wr=>∃ a n:Nat,s4=.int .i64 (a:Int)∧a≤4∧3≤n∧n≤8∧zu w wr R (N+1000+1010 * a) s3 n) (fun _ s4 _=>4 - (intOf s4).toNat)
 case atStart=>exact ⟨0,n1,rfl,by omega,hn3,hn8,hT1⟩
 case round=>
  clear hT1 hn3 hn8
  obtain ⟨a,n,rfl,ha4,hn3,hn8,hT⟩:=hrel
  obtain ⟨ts,p,cap,hl,rfl,GX,-,hch,hrd⟩:=hT.tab hR
  by_cases hlt:a<4
  ·have hlt2:(a:Int)<4:=by omega
   obtain ⟨ok,hok⟩:∃ ok,aU ts=ok:=⟨_,rfl⟩
   have Hok:=Lib.hid hok
   have Hl:=Lib.hid hl
   have HTab:=Lib.hid GX
   clear hok hl GX
   go_upto_region 3 with (fail)
   go_cut [18] (fun s18 wz=>∃ b,s18=.bool b∧Chg (fun b=>b=R) wr wz∧Rd wz R (N+1000+1010 * a+1))
   case first=>
    go_wp2_with (first
     | (go_at_call 36;refine (aO R _ _ _ hrd (by omega) (by omega)).mono ?_;rintro e w2 ⟨k2,rfl,h2a,h2b,hr2,hg2⟩)
     | (go_at_call 42;refine (gm p cap ts _ (HTab.out _ hg2)).mono ?_;rw [Hok.out];rintro e w3 ⟨rfl,hb3⟩))
    all_goals go_meet
    ·exact ⟨_,rfl,hg2.trans (Chg.ah hb3),(hr2.pure hb3).mono (by omega)⟩
    ·exact ⟨_,rfl,hg2,hr2.mono (by omega)⟩
   case rest=>
    obtain ⟨b,rfl,hg,hr⟩:=hcut
    have hT2:=hT.ext hg hR hr
    have HT2:=Lib.hid hT2
    clear hT hT2 hg hrd hch
    cases b
    ·go_wp2
     go_ret
     exact ⟨_,n,rfl,hn3,hn8,HT2.out.up (Chg.refl _ _) _ (by omega)⟩
    ·have kT:Chg (fun b=>b=R) w wc:=by obtain ⟨xs,tag,-,-,-,h4,-⟩:=HT2.out;exact h4
     go_wp2_with (go_at_call 66;refine (uG R _ _ hr (by omega)).mono ?_;rintro e w2 ⟨v2,n2,rfl,hm3,hm8,hT3⟩)
     go_roundw
     case rel=>exact ⟨a+1,n2,by go_num,by omega,hm3,hm8,hT3.up kT _ (by omega)⟩
     case measure=>simp [intOf];omega
  ·have ha:a=4:=by omega
   subst ha
   have HT:=Lib.hid hT
   clear hT
   go_wp2
   go_ret
   exact ⟨_,n,rfl,hn3,hn8,HT.out.up (Chg.refl _ _) _ (by omega)⟩
set_option maxRecDepth 100000 in
set_option maxHeartbeats 4000000 in
theorem J5 (R N:Nat) (p:Option Addr) (cap:Nat) (ts:List Thg) (w:World) (h:Rd w R N) (hN:N≤900000) (hT:∀ wz:World,Chg (fun b=>b=R) w wz→TabAt wz (.slice p ts.length cap) ts) (h1:1≤ts.length) (h8:ts.length≤65536) :
  Calls Tryz.prog 91 #[.pointer (some ⟨R,0,none⟩),.slice p ts.length cap] w fun e w'=>∃ k:Nat,e=.returned (.int .i64 ((k:Int)+1))∧k<ts.length∧Chg (fun b=>b=R) w w'∧Rd w' R (N+13):=by
 have hR:=h.lt
 have HT:=Lib.hid hT
 clear hT
 have hlen:(1:Int)≤(ts.length:Int):=by omega
 go_enter Tryz.func91,Tryz.ntmps91
 go_wp2
 go_loopw [5,6] (fun s5 s6 wr=>∃ a:Nat,s5=.int .i64 (a:Int)∧a≤6∧Chg (fun b=>b=R) w wr∧Rd wr R (N+2 * a)) (fun s5 _ _=>6 - (intOf s5).toNat)
 case atStart=>exact ⟨0,rfl,by omega,Chg.refl _ _,h⟩
 case round=>
  obtain ⟨a,rfl,ha,hch,hrd⟩:=hrel
  by_cases hlt:a<6
  ·have hlt2:(a:Int)<6:=by omega
   go_wp2_with (first
    | (go_at_call 36;refine (aO R _ _ _ hrd (by omega) (by omega)).mono ?_;rintro e w2 ⟨k2,rfl,h2a,h2b,hr2,hg2⟩)
    | (go_at_call 36;refine (aO R _ _ _ hr2 (by omega) (by omega)).mono ?_;rintro e w3 ⟨k3,rfl,h3a,h3b,hr3,hg3⟩;obtain ⟨k3,rfl⟩:∃ n:Nat,k3=(n:Int):=⟨k3.toNat,by omega⟩;have h3n:k3<ts.length:=(by omega);obtain ⟨b3,o3,sv3,qv3,e3,-,-,-,c3,-⟩:=(HT.out _ ((hch.trans hg2).trans hg3)).at k3 ts[k3] (by simp [h3n]);subst e3))
   ·go_ret
    exact ⟨k3,qC (by omega),h3n,(hch.trans hg2).trans hg3,hr3.mono (by omega)⟩
   ·go_roundw
    case rel=>exact ⟨a+1,by go_num,by omega,(hch.trans hg2).trans hg3,hr3.mono (by omega)⟩
    case measure=>simp [intOf];omega
   ·go_ret
    exact ⟨k3,qC (by omega),h3n,(hch.trans hg2).trans hg3,hr3.mono (by omega)⟩
  ·have ha:a=6:=by omega
   subst ha
   go_wp2_with (go_at_call 36;refine (aO R _ _ _ hrd (by omega) (by omega)).mono ?_;rintro e w2 ⟨k2,rfl,h2a,h2b,hr2,hg2⟩;obtain ⟨k2,rfl⟩:∃ n:Nat,k2=(n:Int):=⟨k2.toNat,by omega⟩)
   go_ret
   exact ⟨k2,qC (by omega),by omega,hch.trans hg2,hr2.mono (by omega)⟩
end Go.Proofs.YthhmolonhpaepaaGreatDoor
namespace Go.Proofs.YthhmolonhpaepaaGreatDoor
open Go.RowKit Drw
attribute [local go_sem] Lab.val Rgt.val Cal.val Thg.val
end Go.Proofs.YthhmolonhpaepaaGreatDoor
namespace Go.Proofs.YthhmolonhpaepaaGreatDoor
open Go.RowKit Drw
attribute [local go_sem] Lab.val Rgt.val Cal.val Thg.val
end Go.Proofs.YthhmolonhpaepaaGreatDoor
namespace Go.Proofs.YthhmolonhpaepaaGreatDoor
open Go.RowKit Drw
attribute [local go_sem] Lab.val Rgt.val Cal.val Thg.val
end Go.Proofs.YthhmolonhpaepaaGreatDoor
