/- What the laws of one call have in common. Conditions: the table lies where its cells say; errors.errorType is laid. -/
import Derived.Test.YthhmolonhpaepaaGreatDoorVW
import Derived.Test.YthhmolonhpaepaaGreatDoorVSe
import Derived.Test.YthhmolonhpaepaaGreatDoorVLd
import Derived.Test.YthhmolonhpaepaaGreatDoorVDk
import Derived.Test.YthhmolonhpaepaaGreatDoorVK
import Derived.Test.YthhmolonhpaepaaGreatDoorVAct
import Derived.Test.YthhmolonhpaepaaGreatDoorVRun
import Derived.Test.YthhmolonhpaepaaGreatDoorVY
set_option linter.unusedVariables false
set_option linter.unusedSimpArgs false
namespace Go.Proofs.YthhmolonhpaepaaGreatDoor
open Go.RowKit Drw
theorem Kw {p:Option Addr} {cap:Nat} {ts us:List Thg} {c:Cal} {an:Int} {w:World} (hL:Laid w) (hT:TabAt w (.slice p ts.length cap) ts) (h:fU ts c=(us,an)) :
  Calls Tryz.prog 17 #[.slice p ts.length cap,c.val] w fun e w'=>∃ q k,e=.returned (.tuple #[.slice q us.length k,.int .i64 an])∧TabAt w' (.slice q us.length k) us∧Below w.heap.size w w':=by
 refine (Ky p cap ts c w hL hT).mono ?_
 rintro e w' ⟨v,xs,tag,rfl,hO,hx,hb⟩
 have hA:=hO.at'
 rw [hx,h] at hA
 obtain ⟨q,k,rfl,-,-⟩:=hA.len
 exact ⟨q,k,by rw [h],hA,hb⟩
theorem EY {p:Option Addr} {cap:Nat} {ts us:List Thg} {c:Cal} {an:Int} {w:World} (hT:TabAt w (.slice p ts.length cap) ts) (h:fU ts c=(us,an)) :
  Calls Tryz.prog 20 #[.slice p ts.length cap,c.val] w fun e w'=>∃ q k,e=.returned (.tuple #[.slice q us.length k,.int .i64 an])∧TabAt w' (.slice q us.length k) us∧Below w.heap.size w w':=by
 refine (EZ p cap ts c w hT).mono ?_
 rintro e w' ⟨v,xs,tag,rfl,hO,hx,hb⟩
 have hA:=hO.at'
 rw [hx,h] at hA
 obtain ⟨q,k,rfl,-,-⟩:=hA.len
 exact ⟨q,k,by rw [h],hA,hb⟩
theorem rq {pa pb:Option Addr} {ca cb:Nat} {us:List Thg} {w:World} (hA:TabAt w (.slice pa us.length ca) us) (hB:TabAt w (.slice pb us.length cb) us) :
  Calls Tryz.prog 21 #[.slice pa us.length ca,.slice pb us.length cb] w fun e w'=>e=.returned (.bool true)∧Below w.heap.size w w':=by
 have:=Gy pa pb ca cb us us w hA hB
 rwa [decide_eq_true rfl] at this
theorem GA {p:Option Addr} {cap:Nat} {ts:List Thg} {c:Cal} {v:Bool} {w:World} (hT:TabAt w (.slice p ts.length cap) ts) (h:bP ts c=v) :
  Calls Tryz.prog 22 #[.slice p ts.length cap,c.val] w fun e w'=>e=.returned (.bool v)∧Below w.heap.size w w':=by
 rw [← h];exact MI p cap ts c w hT
def BytesAt (w:World) (p:Option Addr) (n:Nat):Prop:=∀ i,i<n→∃ b o,∃ x:Nat,p=some ⟨b,o,none⟩∧b<w.heap.size∧w.cell? ⟨b,o+i,none⟩=some (.int .u8 (x:Int))∧x<256
theorem uR.pure {w w':World} {B:Nat} {c:Cal} (h:uR w B c) (hb:Below w.heap.size w w'):uR w' B c:=by
 obtain ⟨⟨h0,h1,h2,h3,h4⟩,hf⟩:=h
 have hB:=World.block_lt_of_cell? _ _ h0
 obtain ⟨hc,hfz⟩:=ax hb
 exact ⟨⟨(hc _ _ hB).trans h0,(hc _ _ hB).trans h1,(hc _ _ hB).trans h2,(hc _ _ hB).trans h3,(hc _ _ hB).trans h4⟩,fun j=>(hfz _ _ hB).trans (hf j)⟩
end Go.Proofs.YthhmolonhpaepaaGreatDoor
namespace Go.Proofs.YthhmolonhpaepaaGreatDoor
open Go.RowKit Drw
attribute [local go_sem] Lab.val Rgt.val Cal.val Thg.val
theorem lQ {p:Option Addr} {cap:Nat} {ts:List Thg} {w:World} {v:Bool} (hT:TabAt w (.slice p ts.length cap) ts) (h:aU ts=v) :
  Calls Tryz.prog 38 #[.slice p ts.length cap] w fun e w'=>e=.returned (.bool v)∧Below w.heap.size w w':=by
 rw [← h];exact iD p cap ts w hT
theorem rA {l:Lab} {w:World} {v:Bool} (h:dw l=v):Calls Tryz.prog 39 #[l.val] w fun e w'=>e=.returned (.bool v)∧Below w.heap.size w w':=by
 rw [← h];exact jK l w
end Go.Proofs.YthhmolonhpaepaaGreatDoor
