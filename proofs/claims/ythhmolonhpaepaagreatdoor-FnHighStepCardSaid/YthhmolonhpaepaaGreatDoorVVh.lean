/- Whether one may not know of a runner (impl.ViewHigh), in a fine table, with a fine label, for a thing that is there. Conditions: those. -/
import Derived.Test.YthhmolonhpaepaaGreatDoorVQa
set_option linter.unusedVariables false
set_option linter.unusedSimpArgs false
namespace Go.Proofs.YthhmolonhpaepaaGreatDoor
open Go.RowKit Drw
attribute [local go_sem] Lab.val Rgt.val Cal.val Thg.val
set_option maxRecDepth 100000 in
set_option maxHeartbeats 4000000 in
theorem mV {p:Option Addr} {cap:Nat} {ts:List Thg} {r:Int} {l:Lab} {w:World} {v:Bool} (hT:TabAt w (.slice p ts.length cap) ts) (ht:aU ts=true) (hl:dw l=true) (hr:ex ts r=true) (hv:uJ (aC ts r).lab l=v) :
  Calls Tryz.prog 16 #[.slice p ts.length cap,.int .i64 r,l.val] w fun e w'=>e=.returned (.bool (!v))∧Below w.heap.size w w':=by
 obtain ⟨_,_,h1,hl1,hl2⟩:=hT.len
 cases h1
 unfold maxLen at hl2
 obtain ⟨j,rfl,hj⟩:=eO hr
 have HT:=Lib.hid hT
 have Ht:=Lib.hid ht
 have Hr:=Lib.hid (show inR ((j:Int)+1) 1 ts.length=true from hr)
 obtain ⟨b,o,sv,qv,rfl,hbk,hS,hQ,c0,c1,c2,-⟩:=hT.at j _ hj
 have hlt:j<ts.length:=(List.getElem?_eq_some_iff.1 hj).1
 have e0:(0:Int)≤(j:Int):=by omega
 have e1:(j:Int)<(ts.length:Int):=by omega
 have s1:IntKind.i64.wrap (j:Int)=(j:Int):=IntWalk.i64_in _ (by omega)
 obtain ⟨ls,lv⟩:=l
 have Hl:=Lib.hid hl
 have Hv:=Lib.hid hv
 obtain ⟨⟨a1,a2⟩,ha⟩:∃ a,(aC ts ((j:Int)+1)).lab=a:=⟨_,rfl⟩
 rw [ha] at c1 c2 Hv
 dsimp only at c1 c2
 clear hj hr hv ha hS hQ c0 hT ht hl
 go_enter Tryz.func16,Tryz.ntmps16
 go_upto_region 1 with (fail)
 generalize hwa:World.alloc _ _=wa
 have hB0:Below w.heap.size w wa:=by rw [← hwa];exact (by (repeat (with_reducible first|exact bA _ _|refine bB ?_ ?_ _|refine bC ?_ _|refine bD ?_|refine bE ?_ ?_ _|refine bF ?_ (by assumption) ?_))<;>first|omega|(simp;try omega))
 have hza:w.heap.size<wa.heap.size:=by rw [← hwa];simp
 have l0:wa.cell? ⟨w.heap.size,0,none⟩=some (.int .i64 ls):=by rw [← hwa];simp [go_sem]
 have l1:wa.cell? ⟨w.heap.size,1,none⟩=some (.int .i64 lv):=by rw [← hwa];simp [go_sem]
 rw [← (ax hB0).1 _ _ hbk] at c1 c2
 have hbz:b<wa.heap.size:=Nat.lt_of_lt_of_le hbk hB0.size
 have HTa:=Lib.hid (HT.out.pure hB0)
 have HS:=Lib.hid (show ∀ w':World,Below wa.heap.size wa w'→(Below wa.heap.size wa w'∧w'.cell? ⟨b,o+j * 8+1,none⟩=some (.int .i64 a1)∧w'.cell? ⟨b,o+j * 8+2,none⟩=some (.int .i64 a2)∧w'.cell? ⟨w.heap.size,0,none⟩=some (.int .i64 ls)∧w'.cell? ⟨w.heap.size,1,none⟩=some (.int .i64 lv)) from
  fun w' h=>by
   obtain ⟨hc',-⟩:=ax h
   exact ⟨h,(hc' _ _ hbz).trans c1,(hc' _ _ hbz).trans c2,(hc' _ _ hza).trans l0,(hc' _ _ hza).trans l1⟩)
 clear hwa c1 c2 l0 l1
 first|(go_region_held3 (fun w'=>Below wa.heap.size wa w'∧w'.cell? ⟨b,o+j * 8+1,none⟩=some (.int .i64 a1)∧w'.cell? ⟨b,o+j * 8+2,none⟩=some (.int .i64 a2)∧w'.cell? ⟨w.heap.size,0,none⟩=some (.int .i64 ls)∧w'.cell? ⟨w.heap.size,1,none⟩=some (.int .i64 lv))
  (first|assumption|exact HS.out _ (Below.drew (Below.refl _ _))|(have hX:=And.left (by assumption:Below wa.heap.size wa _∧_);exact HS.out _ (hX.trans (hb3.mono hX.size))))
  (first
   | (go_at_call 38;refine (lQ (HTa.out.pure (And.left (by assumption:Below wa.heap.size wa _∧_))) Ht.out).mono ?_;rintro e w1 ⟨rfl,hb3⟩)
   | (go_at_call 39;refine (rA (l:=⟨_,_⟩) Hl.out).mono ?_;rintro e w1 ⟨rfl,hb3⟩)
   | (go_at_call 46;refine (fV _ _ _ _ _).mono ?_;rw [Hr.out];rintro e w1 ⟨rfl,rfl⟩;have hb3:=Below.refl w1.heap.size w1)
   | (go_at_call 47;refine (gM ⟨_,_⟩ ⟨_,_⟩ _).mono ?_;rw [Hv.out];rintro e w1 ⟨rfl,hb3⟩)))|fail
 all_goals go_wp2
 all_goals go_ret
 all_goals exact ⟨rfl,hB0.trans ((And.left (by assumption:Below wa.heap.size wa _∧_)).mono hB0.size)⟩
end Go.Proofs.YthhmolonhpaepaaGreatDoor
