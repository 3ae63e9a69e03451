/- Drawn labels and rights: whatever the bytes are, there is one. Conditions: few numbers were drawn so far. -/
import Derived.Test.YthhmolonhpaepaaGreatDoorVPk
import Derived.Test.YthhmolonhpaepaaGreatDoorVIv
import Derived.Test.YthhmolonhpaepaaGreatDoorVBase
import Derived.Deep.RegionHeld3
set_option linter.unusedVariables false
set_option linter.unusedSimpArgs false
namespace Go.Proofs.YthhmolonhpaepaaGreatDoor
open Go.RowKit Drw
attribute [local go_sem] Lab.val Rgt.val Cal.val Thg.val
def kW (w:World) (R:Nat) (v:Value) (n:Nat):Prop:=∃ b,v=.slice (some ⟨b,0,none⟩) n n∧b≠R∧∀ k,k<n→∃ x,w.cell? ⟨b,k,none⟩=some (.int .i64 x)
def IL (w:World) (R:Nat) (v:Value):Prop:=∃ b k x,v=.pointer (some ⟨b,k,none⟩)∧b≠R∧w.cell? ⟨b,k,none⟩=some (.int .i64 x)
theorem kW.ext {w w':World} {R n:Nat} {v:Value} (h:kW w R v n) (hg:Chg (fun b=>b=R) w w'):kW w' R v n:=by
 obtain ⟨b,e,hb,hc⟩:=h
 refine ⟨b,e,hb,fun k hk=>?_⟩
 obtain ⟨x,hx⟩:=hc k hk
 exact ⟨x,hg.cell hx hb⟩
theorem IL.ext {w w':World} {R:Nat} {v:Value} (h:IL w R v) (hg:Chg (fun b=>b=R) w w'):IL w' R v:=by
 obtain ⟨b,k,x,e,hb,hc⟩:=h
 exact ⟨b,k,x,e,hb,hg.cell hc hb⟩
def IJ (w w0:World) (R:Nat) (v:Value):Prop:=∃ b x y,v=.pointer (some ⟨b,0,none⟩)∧b≠R∧w0.heap.size≤b∧w.cell? ⟨b,0,none⟩=some (.int .i64 x)∧w.cell? ⟨b,1,none⟩=some (.int .i64 y)∧∀ j,w.frozen? ⟨b,j,none⟩=false
theorem IJ.ext {w w' w0:World} {R:Nat} {v:Value} (h:IJ w w0 R v) (hg:Chg (fun b=>b=R) w w'):IJ w' w0 R v:=by
 obtain ⟨b,x,y,e,hb,hl,h0,h1,hf⟩:=h
 have hlt:=World.block_lt_of_cell? w _ h0
 exact ⟨b,x,y,e,hb,hl,hg.cell h0 hb,hg.cell h1 hb,fun j=>by rw [← hf j];exact World.frozen?_of_block (w:=w) (hg.block b hlt hb)⟩
theorem ai {S:Nat→Prop} {w w':World} (h:Chg S w w') {b:Nat} (hb:b<w.heap.size) (hs:¬ S b) (hf:∀ j,w.frozen? ⟨b,j,none⟩=false):∀ j,w'.frozen? ⟨b,j,none⟩=false:=fun j=>by
 rw [← hf j];exact World.frozen?_of_block (w:=w) (h.block b hb hs)
structure LabI (R N:Nat) (w0:World) (d:Nat→Bool) (w:World) (v3 v4 v5 v6 v7 v8 v9 v10 v11 v12 v13 v14:Value):Prop where
 chg:Chg (fun b=>b=R) w0 w
 rd:Rd w R (N+(if d 2 then 1 else 0)+(if d 7 then 1 else 0))
 p0:d 12=false→d 0=true→kW w R v4 5
 p1:d 12=false→d 1=true→v5=.pointer (some ⟨R,0,none⟩)
 p2:d 12=false→d 2=true→∃ k:Nat,k<5∧v6=.int .i64 (k:Int)
 p3:d 12=false→d 3=true→IL w R v7
 p4:d 12=false→d 4=true→∃ x,v8=.int .i64 x
 p5:d 12=false→d 5=true→kW w R v9 4
 p6:d 12=false→d 6=true→v10=.pointer (some ⟨R,0,none⟩)
 p7:d 12=false→d 7=true→∃ k:Nat,k<4∧v11=.int .i64 (k:Int)
 p8:d 12=false→d 8=true→IL w R v12
 p9:d 12=false→d 9=true→∃ x,v13=.int .i64 x
 p10:d 12=false→d 10=true→∃ x y,v14=.agg #[.int .i64 x,.int .i64 y]
 p11:d 11=true→IJ w w0 R v3
 q12:∀ j,j<12→d 12=true→d j=true
theorem LabI.h12 {R N:Nat} {w0:World} {d:Nat→Bool} {w:World} {v3 v4 v5 v6 v7 v8 v9 v10 v11 v12 v13 v14:Value} (H:LabI R N w0 d w v3 v4 v5 v6 v7 v8 v9 v10 v11 v12 v13 v14) {k:Nat} (hk:k<12) (hd:d k=false):d 12=false:=by
 cases h:d 12
 ·rfl
 ·have:=H.q12 k hk h
  rw [hd] at this;cases this
theorem kW.made {w:World} {R n:Nat} {cs:Array Value} (hR:R<w.heap.size) (h:∀ k,k<n→∃ x,cs[k]?=some (.int .i64 x)) (t:TypeId):kW (w.alloc (.cells cs t)) R (.slice (some ⟨w.heap.size,0,none⟩) n n) n:=by
 refine ⟨_,rfl,by omega,fun k hk=>?_⟩
 obtain ⟨x,hx⟩:=h k hk
 exact ⟨x,by rw [World.cell?_alloc_new];exact hx⟩
theorem list2:∀ k,k<2→∃ x,(#[Value.int .i64 (-1),.int .i64 4]:Array Value)[k]?=some (.int .i64 x):=by
 intro k hk
 have:k=0∨k=1:=by omega
 rcases this with rfl|rfl<;>exact ⟨_,rfl⟩
theorem list5:∀ k,k<5→∃ x,(#[Value.int .i64 0,.int .i64 0,.int .i64 1,.int .i64 2,.int .i64 3]:Array Value)[k]?=some (.int .i64 x):=by
 intro k hk
 have:k=0∨k=1∨k=2∨k=3∨k=4:=by omega
 rcases this with rfl|rfl|rfl|rfl|rfl<;>exact ⟨_,rfl⟩
theorem list4:∀ k,k<4→∃ x,(#[Value.int .i64 0,.int .i64 0,.int .i64 3,.int .i64 1]:Array Value)[k]?=some (.int .i64 x):=by
 intro k hk
 have:k=0∨k=1∨k=2∨k=3:=by omega
 rcases this with rfl|rfl|rfl|rfl<;>exact ⟨_,rfl⟩
set_option maxRecDepth 100000 in
set_option maxHeartbeats 4000000 in
theorem DW (R N:Nat) (w:World) (h:Rd w R N) (hN:N≤900000) :
  Calls Tryz.prog 34 #[.pointer (some ⟨R,0,none⟩)] w fun e w'=>∃ l:Lab,e=.returned l.val∧Rd w' R (N+4)∧Chg (fun b=>b=R) w w':=by
 have hR:=h.lt
 go_enter Tryz.func34,Tryz.ntmps34
 go_upto_region 1 with (fail)
 have D5:Rd (w.alloc (.cells #[.int .i64 0,.int .i64 0] 25)) R N:=h.pure (by (repeat (with_reducible first|exact bA _ _|refine bB ?_ ?_ _|refine bC ?_ _|refine bD ?_|refine bE ?_ ?_ _|refine bF ?_ (by assumption) ?_))<;>first|omega|(simp;try omega))
 have zq:Chg (fun b=>b=R) w (w.alloc (.cells #[.int .i64 0,.int .i64 0] 25)):=(by (repeat (with_reducible first|exact Chg.refl _ _|refine Chg.alloc ?_ _|refine Chg.drew ?_|refine Chg.drewN ?_ _|refine Chg.setCell ?_ ?_ _|refine Chg.trans ?_ (Chg.ah (by assumption))))<;>(first|omega|(simp;done)|(simp;omega)))
 obtain ⟨wa,hwa⟩:∃ wa:World,wa=w.alloc (.cells #[.int .i64 0,.int .i64 0] 25):=⟨_,rfl⟩
 rw [← hwa] at D5 zq ⊢
 have hRa:R<wa.heap.size:=D5.lt
 have g0:wa.cell? ⟨w.heap.size,0,none⟩=some (.int .i64 0):=by rw [hwa];simp [go_sem]
 have g1:wa.cell? ⟨w.heap.size,1,none⟩=some (.int .i64 0):=by rw [hwa];simp [go_sem]
 have gf:∀ j,wa.frozen? ⟨w.heap.size,j,none⟩=false:=by intro j;rw [hwa];simp [go_sem]
 have gl:w.heap.size<wa.heap.size:=by rw [hwa];simp
 clear hwa
 go_cut [3] (fun s3 wz=>IJ wz wa R s3∧Chg (fun b=>b=R) wa wz∧Rd wz R (N+2))
 case first=>
  refine lM (fun d a w'=>∃ v3 v4 v5 v6 v7 v8 v9 v10 v11 v12 v13 v14,a={ tmps:=#[.pointer (some ⟨R,0,none⟩),undef,.pointer (some ⟨w.heap.size,0,none⟩),v3,v4,v5,v6,v7,v8,v9,v10,v11,v12,v13,v14,undef,undef,undef,undef,undef,undef,undef,undef,undef,undef],defers:=[] }∧LabI R N wa d w' v3 v4 v5 v6 v7 v8 v9 v10 v11 v12 v13 v14) (by kernel_rfl) (by kernel_rfl) ?_ ?_ ?_
  ·refine ⟨_,_,_,_,_,_,_,_,_,_,_,_,rfl,?_⟩
   constructor
   ·exact Chg.drew (Chg.refl _ _)
   ·simpa using D5.pure (Below.drew (Below.refl _ _))
   all_goals intros;simp at *
  ·refine ⟨?_,?_,?_,?_,?_,?_,?_,?_,?_,?_,?_,?_,?_,trivial⟩
   ·rintro d a w' hd di ⟨v3,v4,v5,v6,v7,v8,v9,v10,v11,v12,v13,v14,rfl,H⟩ K hK
    have hRw:R<w'.heap.size:=H.rd.lt
    simp [Region.binds] at di
    have sQ:=H.h12 (by decide) hd
    go_simp
    have hbl:Below w'.heap.size w' (w'.alloc (.cells #[.int .i64 0,.int .i64 0,.int .i64 1,.int .i64 2,.int .i64 3] 3)):=(by (repeat (with_reducible first|exact bA _ _|refine bB ?_ ?_ _|refine bC ?_ _|refine bD ?_|refine bE ?_ ?_ _|refine bF ?_ (by assumption) ?_))<;>first|omega|(simp;try omega))
    have hg:=Chg.ah (S:=fun b=>b=R) hbl
    refine hK _ _ ⟨_,_,_,_,_,_,_,_,_,_,_,_,rfl,?_⟩
    constructor
    ·exact H.chg.trans hg
    ·exact (H.rd.pure hbl).mono (by simp)
    all_goals (try (intro j hj h12;simp at h12;simp [H.q12 j hj h12];done))
    all_goals
     intro h12
     (try simp at h12)
     (try (intro hj;try simp at hj))
     first|exact H.p1 h12 hj|exact H.p2 h12 hj|exact H.p4 h12 hj|exact H.p6 h12 hj|exact H.p7 h12 hj|exact H.p9 h12 hj|exact H.p10 h12 hj|exact (H.p0 h12 hj).ext hg|exact (H.p3 h12 hj).ext hg|exact (H.p5 h12 hj).ext hg|exact (H.p8 h12 hj).ext hg|exact (H.p11 h12).ext hg|exact kW.made hRw list5 _
   ·rintro d a w' hd di ⟨v3,v4,v5,v6,v7,v8,v9,v10,v11,v12,v13,v14,rfl,H⟩ K hK
    have hRw:R<w'.heap.size:=H.rd.lt
    simp [Region.binds] at di
    have sQ:=H.h12 (by decide) hd
    go_simp
    have hg:Chg (fun b=>b=R) w' w':=Chg.refl _ _
    refine hK _ _ ⟨_,_,_,_,_,_,_,_,_,_,_,_,rfl,?_⟩
    constructor
    ·exact H.chg.trans hg
    ·exact H.rd.mono (by simp)
    all_goals (try (intro j hj h12;simp at h12;simp [H.q12 j hj h12];done))
    all_goals
     intro h12
     (try simp at h12)
     (try (intro hj;try simp at hj))
     first|exact H.p1 h12 hj|exact H.p2 h12 hj|exact H.p4 h12 hj|exact H.p6 h12 hj|exact H.p7 h12 hj|exact H.p9 h12 hj|exact H.p10 h12 hj|exact (H.p0 h12 hj).ext hg|exact (H.p3 h12 hj).ext hg|exact (H.p5 h12 hj).ext hg|exact (H.p8 h12 hj).ext hg|exact (H.p11 h12).ext hg|exact rfl
   ·rintro d a w' hd di ⟨v3,v4,v5,v6,v7,v8,v9,v10,v11,v12,v13,v14,rfl,H⟩ K hK
    have hRw:R<w'.heap.size:=H.rd.lt
    simp [Region.binds] at di
    have sQ:=H.h12 (by decide) hd
    have e5:=H.p1 sQ (di)
    subst e5
    go_simp
    go_at_call 36
    have hbN:N+(if d 2 then 1 else 0)+(if d 7 then 1 else 0)≤1000000:=by split<;>split<;>omega
    refine (xU R _ _ _ H.rd hbN).mono ?_
    rintro e w'' ⟨k,rfl,hk0,hk1,-,hr,hg⟩
    obtain ⟨k,rfl⟩:∃ n:Nat,k=(n:Int):=⟨k.toNat,by omega⟩
    have hk5:k<5:=by have:=hk1 (by omega);omega
    refine hK _ _ ⟨_,_,_,_,_,_,_,_,_,_,_,_,rfl,?_⟩
    constructor
    ·exact H.chg.trans hg
    ·exact hr.mono (by simp [hd]<;>omega)
    all_goals (try (intro j hj h12;simp at h12;simp [H.q12 j hj h12];done))
    all_goals
     intro h12
     (try simp at h12)
     (try (intro hj;try simp at hj))
     first|exact H.p1 h12 hj|exact H.p2 h12 hj|exact H.p4 h12 hj|exact H.p6 h12 hj|exact H.p7 h12 hj|exact H.p9 h12 hj|exact H.p10 h12 hj|exact (H.p0 h12 hj).ext hg|exact (H.p3 h12 hj).ext hg|exact (H.p5 h12 hj).ext hg|exact (H.p8 h12 hj).ext hg|exact (H.p11 h12).ext hg|exact ⟨k,hk5,rfl⟩
   ·rintro d a w' hd di ⟨v3,v4,v5,v6,v7,v8,v9,v10,v11,v12,v13,v14,rfl,H⟩ K hK
    have hRw:R<w'.heap.size:=H.rd.lt
    simp [Region.binds] at di
    have sQ:=H.h12 (by decide) hd
    obtain ⟨b,rfl,hbR,hc⟩:=H.p0 sQ di.1
    obtain ⟨k,hk,rfl⟩:=H.p2 sQ di.2
    obtain ⟨x,hx⟩:=hc k hk
    have hk0:(0:Int)≤(k:Int):=by omega
    have hkn:(k:Int)<5:=by omega
    go_simp
    have hg:Chg (fun b=>b=R) w' w':=Chg.refl _ _
    refine hK _ _ ⟨_,_,_,_,_,_,_,_,_,_,_,_,rfl,?_⟩
    constructor
    ·exact H.chg.trans hg
    ·exact H.rd.mono (by simp)
    all_goals (try (intro j hj h12;simp at h12;simp [H.q12 j hj h12];done))
    all_goals
     intro h12
     (try simp at h12)
     (try (intro hj;try simp at hj))
     first|exact H.p1 h12 hj|exact H.p2 h12 hj|exact H.p4 h12 hj|exact H.p6 h12 hj|exact H.p7 h12 hj|exact H.p9 h12 hj|exact H.p10 h12 hj|exact (H.p0 h12 hj).ext hg|exact (H.p3 h12 hj).ext hg|exact (H.p5 h12 hj).ext hg|exact (H.p8 h12 hj).ext hg|exact (H.p11 h12).ext hg|exact ⟨b,k,x,rfl,hbR,hx⟩
   ·rintro d a w' hd di ⟨v3,v4,v5,v6,v7,v8,v9,v10,v11,v12,v13,v14,rfl,H⟩ K hK
    have hRw:R<w'.heap.size:=H.rd.lt
    simp [Region.binds] at di
    have sQ:=H.h12 (by decide) hd
    obtain ⟨b,k,x,rfl,hbR,hx⟩:=H.p3 sQ di
    go_simp
    have hg:Chg (fun b=>b=R) w' w':=Chg.refl _ _
    refine hK _ _ ⟨_,_,_,_,_,_,_,_,_,_,_,_,rfl,?_⟩
    constructor
    ·exact H.chg.trans hg
    ·exact H.rd.mono (by simp)
    all_goals (try (intro j hj h12;simp at h12;simp [H.q12 j hj h12];done))
    all_goals
     intro h12
     (try simp at h12)
     (try (intro hj;try simp at hj))
     first|exact H.p1 h12 hj|exact H.p2 h12 hj|exact H.p4 h12 hj|exact H.p6 h12 hj|exact H.p7 h12 hj|exact H.p9 h12 hj|exact H.p10 h12 hj|exact (H.p0 h12 hj).ext hg|exact (H.p3 h12 hj).ext hg|exact (H.p5 h12 hj).ext hg|exact (H.p8 h12 hj).ext hg|exact (H.p11 h12).ext hg|exact ⟨x,rfl⟩
   ·rintro d a w' hd di ⟨v3,v4,v5,v6,v7,v8,v9,v10,v11,v12,v13,v14,rfl,H⟩ K hK
    have hRw:R<w'.heap.size:=H.rd.lt
    simp [Region.binds] at di
    have sQ:=H.h12 (by decide) hd
    go_simp
    have hbl:Below w'.heap.size w' (w'.alloc (.cells #[.int .i64 0,.int .i64 0,.int .i64 3,.int .i64 1] 3)):=(by (repeat (with_reducible first|exact bA _ _|refine bB ?_ ?_ _|refine bC ?_ _|refine bD ?_|refine bE ?_ ?_ _|refine bF ?_ (by assumption) ?_))<;>first|omega|(simp;try omega))
    have hg:=Chg.ah (S:=fun b=>b=R) hbl
    refine hK _ _ ⟨_,_,_,_,_,_,_,_,_,_,_,_,rfl,?_⟩
    constructor
    ·exact H.chg.trans hg
    ·exact (H.rd.pure hbl).mono (by simp)
    all_goals (try (intro j hj h12;simp at h12;simp [H.q12 j hj h12];done))
    all_goals
     intro h12
     (try simp at h12)
     (try (intro hj;try simp at hj))
     first|exact H.p1 h12 hj|exact H.p2 h12 hj|exact H.p4 h12 hj|exact H.p6 h12 hj|exact H.p7 h12 hj|exact H.p9 h12 hj|exact H.p10 h12 hj|exact (H.p0 h12 hj).ext hg|exact (H.p3 h12 hj).ext hg|exact (H.p5 h12 hj).ext hg|exact (H.p8 h12 hj).ext hg|exact (H.p11 h12).ext hg|exact kW.made hRw list4 _
   ·rintro d a w' hd di ⟨v3,v4,v5,v6,v7,v8,v9,v10,v11,v12,v13,v14,rfl,H⟩ K hK
    have hRw:R<w'.heap.size:=H.rd.lt
    simp [Region.binds] at di
    have sQ:=H.h12 (by decide) hd
    go_simp
    have hg:Chg (fun b=>b=R) w' w':=Chg.refl _ _
    refine hK _ _ ⟨_,_,_,_,_,_,_,_,_,_,_,_,rfl,?_⟩
    constructor
    ·exact H.chg.trans hg
    ·exact H.rd.mono (by simp)
    all_goals (try (intro j hj h12;simp at h12;simp [H.q12 j hj h12];done))
    all_goals
     intro h12
     (try simp at h12)
     (try (intro hj;try simp at hj))
     first|exact H.p1 h12 hj|exact H.p2 h12 hj|exact H.p4 h12 hj|exact H.p6 h12 hj|exact H.p7 h12 hj|exact H.p9 h12 hj|exact H.p10 h12 hj|exact (H.p0 h12 hj).ext hg|exact (H.p3 h12 hj).ext hg|exact (H.p5 h12 hj).ext hg|exact (H.p8 h12 hj).ext hg|exact (H.p11 h12).ext hg|exact rfl
   ·rintro d a w' hd di ⟨v3,v4,v5,v6,v7,v8,v9,v10,v11,v12,v13,v14,rfl,H⟩ K hK
    have hRw:R<w'.heap.size:=H.rd.lt
    simp [Region.binds] at di
    have sQ:=H.h12 (by decide) hd
    have e5:=H.p6 sQ (di.1)
    subst e5
    go_simp
    go_at_call 36
    have hbN:N+(if d 2 then 1 else 0)+(if d 7 then 1 else 0)≤1000000:=by split<;>split<;>omega
    refine (xU R _ _ _ H.rd hbN).mono ?_
    rintro e w'' ⟨k,rfl,hk0,hk1,-,hr,hg⟩
    obtain ⟨k,rfl⟩:∃ n:Nat,k=(n:Int):=⟨k.toNat,by omega⟩
    have hk5:k<4:=by have:=hk1 (by omega);omega
    refine hK _ _ ⟨_,_,_,_,_,_,_,_,_,_,_,_,rfl,?_⟩
    constructor
    ·exact H.chg.trans hg
    ·exact hr.mono (by simp [hd]<;>omega)
    all_goals (try (intro j hj h12;simp at h12;simp [H.q12 j hj h12];done))
    all_goals
     intro h12
     (try simp at h12)
     (try (intro hj;try simp at hj))
     first|exact H.p1 h12 hj|exact H.p2 h12 hj|exact H.p4 h12 hj|exact H.p6 h12 hj|exact H.p7 h12 hj|exact H.p9 h12 hj|exact H.p10 h12 hj|exact (H.p0 h12 hj).ext hg|exact (H.p3 h12 hj).ext hg|exact (H.p5 h12 hj).ext hg|exact (H.p8 h12 hj).ext hg|exact (H.p11 h12).ext hg|exact ⟨k,hk5,rfl⟩
   ·rintro d a w' hd di ⟨v3,v4,v5,v6,v7,v8,v9,v10,v11,v12,v13,v14,rfl,H⟩ K hK
    have hRw:R<w'.heap.size:=H.rd.lt
    simp [Region.binds] at di
    have sQ:=H.h12 (by decide) hd
    obtain ⟨b,rfl,hbR,hc⟩:=H.p5 sQ di.1
    obtain ⟨k,hk,rfl⟩:=H.p7 sQ di.2
    obtain ⟨x,hx⟩:=hc k hk
    have hk0:(0:Int)≤(k:Int):=by omega
    have hkn:(k:Int)<4:=by omega
    go_simp
    have hg:Chg (fun b=>b=R) w' w':=Chg.refl _ _
    refine hK _ _ ⟨_,_,_,_,_,_,_,_,_,_,_,_,rfl,?_⟩
    constructor
    ·exact H.chg.trans hg
    ·exact H.rd.mono (by simp)
    all_goals (try (intro j hj h12;simp at h12;simp [H.q12 j hj h12];done))
    all_goals
     intro h12
     (try simp at h12)
     (try (intro hj;try simp at hj))
     first|exact H.p1 h12 hj|exact H.p2 h12 hj|exact H.p4 h12 hj|exact H.p6 h12 hj|exact H.p7 h12 hj|exact H.p9 h12 hj|exact H.p10 h12 hj|exact (H.p0 h12 hj).ext hg|exact (H.p3 h12 hj).ext hg|exact (H.p5 h12 hj).ext hg|exact (H.p8 h12 hj).ext hg|exact (H.p11 h12).ext hg|exact ⟨b,k,x,rfl,hbR,hx⟩
   ·rintro d a w' hd di ⟨v3,v4,v5,v6,v7,v8,v9,v10,v11,v12,v13,v14,rfl,H⟩ K hK
    have hRw:R<w'.heap.size:=H.rd.lt
    simp [Region.binds] at di
    have sQ:=H.h12 (by decide) hd
    obtain ⟨b,k,x,rfl,hbR,hx⟩:=H.p8 sQ di
    go_simp
    have hg:Chg (fun b=>b=R) w' w':=Chg.refl _ _
    refine hK _ _ ⟨_,_,_,_,_,_,_,_,_,_,_,_,rfl,?_⟩
    constructor
    ·exact H.chg.trans hg
    ·exact H.rd.mono (by simp)
    all_goals (try (intro j hj h12;simp at h12;simp [H.q12 j hj h12];done))
    all_goals
     intro h12
     (try simp at h12)
     (try (intro hj;try simp at hj))
     first|exact H.p1 h12 hj|exact H.p2 h12 hj|exact H.p4 h12 hj|exact H.p6 h12 hj|exact H.p7 h12 hj|exact H.p9 h12 hj|exact H.p10 h12 hj|exact (H.p0 h12 hj).ext hg|exact (H.p3 h12 hj).ext hg|exact (H.p5 h12 hj).ext hg|exact (H.p8 h12 hj).ext hg|exact (H.p11 h12).ext hg|exact ⟨x,rfl⟩
   ·rintro d a w' hd di ⟨v3,v4,v5,v6,v7,v8,v9,v10,v11,v12,v13,v14,rfl,H⟩ K hK
    have hRw:R<w'.heap.size:=H.rd.lt
    simp [Region.binds] at di
    have sQ:=H.h12 (by decide) hd
    obtain ⟨x,rfl⟩:=H.p4 sQ di.1
    obtain ⟨y,rfl⟩:=H.p9 sQ di.2
    go_simp
    have hg:Chg (fun b=>b=R) w' w':=Chg.refl _ _
    refine hK _ _ ⟨_,_,_,_,_,_,_,_,_,_,_,_,rfl,?_⟩
    constructor
    ·exact H.chg.trans hg
    ·exact H.rd.mono (by simp)
    all_goals (try (intro j hj h12;simp at h12;simp [H.q12 j hj h12];done))
    all_goals
     intro h12
     (try simp at h12)
     (try (intro hj;try simp at hj))
     first|exact H.p1 h12 hj|exact H.p2 h12 hj|exact H.p4 h12 hj|exact H.p6 h12 hj|exact H.p7 h12 hj|exact H.p9 h12 hj|exact H.p10 h12 hj|exact (H.p0 h12 hj).ext hg|exact (H.p3 h12 hj).ext hg|exact (H.p5 h12 hj).ext hg|exact (H.p8 h12 hj).ext hg|exact (H.p11 h12).ext hg|exact ⟨x,y,rfl⟩
   ·rintro d a w' hd di ⟨v3,v4,v5,v6,v7,v8,v9,v10,v11,v12,v13,v14,rfl,H⟩ K hK
    have hRw:R<w'.heap.size:=H.rd.lt
    simp [Region.binds] at di
    have sQ:=H.h12 (by decide) hd
    go_simp
    have hbl:Below w'.heap.size w' (w'.alloc (.cells #[.int .i64 0,.int .i64 0] 25)):=(by (repeat (with_reducible first|exact bA _ _|refine bB ?_ ?_ _|refine bC ?_ _|refine bD ?_|refine bE ?_ ?_ _|refine bF ?_ (by assumption) ?_))<;>first|omega|(simp;try omega))
    have hg:=Chg.ah (S:=fun b=>b=R) hbl
    refine hK _ _ ⟨_,_,_,_,_,_,_,_,_,_,_,_,rfl,?_⟩
    constructor
    ·exact H.chg.trans hg
    ·exact (H.rd.pure hbl).mono (by simp)
    all_goals (try (intro j hj h12;simp at h12;simp [H.q12 j hj h12];done))
    all_goals
     intro h12
     (try simp at h12)
     (try (intro hj;try simp at hj))
     first|exact H.p1 h12 hj|exact H.p2 h12 hj|exact H.p4 h12 hj|exact H.p6 h12 hj|exact H.p7 h12 hj|exact H.p9 h12 hj|exact H.p10 h12 hj|exact (H.p0 h12 hj).ext hg|exact (H.p3 h12 hj).ext hg|exact (H.p5 h12 hj).ext hg|exact (H.p8 h12 hj).ext hg|exact (H.p11 h12).ext hg|exact ⟨w'.heap.size,0,0,rfl,by omega,H.chg.size,by simp [go_sem],by simp [go_sem],fun j=>by simp [go_sem]⟩
   ·rintro d a w' hd di ⟨v3,v4,v5,v6,v7,v8,v9,v10,v11,v12,v13,v14,rfl,H⟩ K hK
    have hRw:R<w'.heap.size:=H.rd.lt
    simp [Region.binds] at di
    obtain ⟨b,x,y,rfl,hbR,hbl,h0,h1,hf⟩:=H.p11 di.1
    obtain ⟨x',y',rfl⟩:=H.p10 hd di.2.1
    go_simp
    have hgs:Chg (fun c=>c=b) w' ((w'.setCell ⟨b,0,none⟩ (.int .i64 x')).setCell ⟨b,1,none⟩ (.int .i64 y')):=Chg.setCell (S:=fun c=>c=b) (p:=⟨b,1,none⟩) (Chg.setCell (S:=fun c=>c=b) (p:=⟨b,0,none⟩) (Chg.refl _ _) rfl _) rfl _
    refine hK _ _ ⟨_,_,_,_,_,_,_,_,_,_,_,_,rfl,?_⟩
    constructor
    ·exact ⟨hgs.os.trans H.chg.os,hgs.tape.trans H.chg.tape,hgs.output.trans H.chg.output,Nat.le_trans H.chg.size hgs.size,fun k hk hs=>(hgs.block k (Nat.lt_of_lt_of_le hk H.chg.size) (by omega)).trans (H.chg.block k hk hs)⟩
    ·exact (H.rd.chg hgs (fun c hc=>by omega)).mono (by simp)
    all_goals (try (intro h12;simp at h12;done))
    all_goals (try (intro h12 hj;simp at h12;done))
    ·exact fun _=>⟨b,x',y',rfl,hbR,hbl,by simp [ag,h0],by simp [ag,h1],fun j=>by simp [hf]⟩
    ·intro j hj _
     have:j=0∨j=1∨j=2∨j=3∨j=4∨j=5∨j=6∨j=7∨j=8∨j=9∨j=10∨j=11:=by omega
     rcases this with rfl|rfl|rfl|rfl|rfl|rfl|rfl|rfl|rfl|rfl|rfl|rfl<;>simp [di]
  ·rintro d a w' hd ⟨v3,v4,v5,v6,v7,v8,v9,v10,v11,v12,v13,v14,rfl,H⟩
   have d2:=hd 2 (by decide)
   have d7:=hd 7 (by decide)
   have d11:=hd 11 (by decide)
   have hrd:=H.rd
   rw [if_pos d2,if_pos d7] at hrd
   have hch:=H.chg
   have h11:=H.p11 d11
   go_wp2
   go_meet
   exact ⟨h11,hch,hrd⟩
 case rest=>
  obtain ⟨⟨b,x,y,rfl,hbR,hbl,h0,h1,hf⟩,kT,wW⟩:=hcut
  obtain ⟨wx,rfl⟩:∃ wx:World,wx=wc:=⟨_,rfl⟩
  have hbx:b<wx.heap.size:=World.block_lt_of_cell? wx _ h0
  have hRb:¬ R=b:=fun e=>hbR e.symm
  have hbw:w.heap.size≤wa.heap.size:=zq.size
  have hL:w.heap.size≠R:=by omega
  have l0:=kT.cell g0 hL
  have l1:=kT.cell g1 hL
  have lf:=ai kT gl hL gf
  have hLb:¬ w.heap.size=b:=by omega
  have hbL:¬ b=w.heap.size:=by omega
  have hlx:w.heap.size<wx.heap.size:=by have:=kT.size;omega
  have pO:=zq.trans kT
  clear zq kT g0 g1 gf
  go_wp2_with (first
   | (go_at_call 36;refine (xU R _ _ _ wW (by omega)).mono ?_;rintro e w1 ⟨k1,rfl,hk0,hk1,-,hr1,hg1⟩;have m0:=hg1.cell h0 hbR;have m1:=hg1.cell h1 hbR;have mf:=ai hg1 hbx hbR hf;have n0:=hg1.cell l0 hL;have n1:=hg1.cell l1 hL;have nf:=ai hg1 hlx hL lf;have hb1:b<w1.heap.size:=(by have:=hg1.size;omega);have hl1:w.heap.size<w1.heap.size:=(by have:=hg1.size;omega)))
  ·have hbl2:Below w1.heap.size w1 (w1.alloc (.cells #[.int .i64 (-1),.int .i64 4] 3)):=(by (repeat (with_reducible first|exact bA _ _|refine bB ?_ ?_ _|refine bC ?_ _|refine bD ?_|refine bE ?_ ?_ _|refine bF ?_ (by assumption) ?_))<;>first|omega|(simp;try omega))
   refine (xU R _ _ _ (hr1.pure hbl2) (by omega)).mono ?_
   rintro e w2 ⟨k2,rfl,hk20,hk21,-,hr2,hg2⟩
   obtain ⟨k2,rfl⟩:∃ n:Nat,k2=(n:Int):=⟨k2.toNat,by omega⟩
   have hk2:k2<2:=by have:=hk21 (by omega);omega
   have hk22:(k2:Int)<2:=by omega
   have hk23:(0:Int)≤(k2:Int):=by omega
   have hRw1:R<w1.heap.size:=hr1.lt
   obtain ⟨_,e,-,hlist⟩:=(kW.made (n:=2) (cs:=#[.int .i64 (-1),.int .i64 4]) hRw1 list2 3).ext hg2
   cases e
   obtain ⟨x2,hx2⟩:=hlist k2 hk2
   have zo:Chg (fun b=>b=R) wx w2:=hg1.trans ((Chg.ah hbl2).trans hg2)
   have m0':=zo.cell h0 hbR
   have m1':=zo.cell h1 hbR
   have mf':=ai zo hbx hbR hf
   have n0':=zo.cell l0 hL
   have n1':=zo.cell l1 hL
   have nf':=ai zo hlx hL lf
   have hl2:w.heap.size<w2.heap.size:=by have:=zo.size;omega
   have hb2:b<w2.heap.size:=by have:=zo.size;omega
   have hchz:=pO.trans zo
   clear hlist m0 m1 mf n0 n1 nf h0 h1 hf l0 l1 lf zo hg1 hg2 hbl2 pO
   go_wp2
   exact bodyPost_ret (v:=(Lab.mk x2 y).val) (by simp [results,Tryz.results34,go_sem,Lab.val, *]) rfl ⟨⟨x2,y⟩,rfl,((hr2.av (by show R<b;omega) _).av (by show R<w.heap.size;omega) _).av (by show R<w.heap.size;omega) _,((hchz.av (by show w.heap.size≤b;omega) _).av (Nat.le_refl _) _).av (Nat.le_refl _) _⟩
  ·exact bodyPost_ret (v:=(Lab.mk x y).val) (by simp [results,Tryz.results34,go_sem,Lab.val, *]) rfl ⟨⟨x,y⟩,rfl,((hr1.av (by show R<w.heap.size;omega) _).av (by show R<w.heap.size;omega) _).mono (by omega),((pO.trans hg1).av (Nat.le_refl _) _).av (Nat.le_refl _) _⟩
end Go.Proofs.YthhmolonhpaepaaGreatDoor
namespace Go.Proofs.YthhmolonhpaepaaGreatDoor
open Go.RowKit Drw
def RgtP (w wa:World) (R:Nat) (v:Value):Prop:=∃ b,∃ r:Rgt,v=.pointer (some ⟨b,0,none⟩)∧b≠R∧wa.heap.size≤b∧(w.cell? ⟨b,0,none⟩=some (.int .i64 r.thing)∧w.cell? ⟨b,1,none⟩=some (.int .i64 r.aJ)∧w.cell? ⟨b,2,none⟩=some (.bool r.rd)∧w.cell? ⟨b,3,none⟩=some (.bool r.wr)∧w.cell? ⟨b,4,none⟩=some (.bool r.wk))∧(∀ j,w.frozen? ⟨b,j,none⟩=false)∧-1≤r.thing∧r.thing≤9
theorem Gv {w w':World} {R k n:Nat} {cs:Array Value} {t:TypeId} {lo hi:Int} (hR:R<w.heap.size) (hg:Chg (fun b=>b=R) (w.alloc (.cells cs t)) w') (h:∀ k,k<n→∃ x,cs[k]?=some (.int .i64 x)∧lo≤x∧x≤hi) (hk:k<n) :
  ∃ x,w'.cell? ⟨w.heap.size,k,none⟩=some (.int .i64 x)∧lo≤x∧x≤hi:=by
 obtain ⟨x,h1,h2⟩:=h k hk
 refine ⟨x,hg.cell ?_ (by show ¬ w.heap.size=R;omega),h2⟩
 rw [World.cell?_alloc_new]
 simpa using h1
theorem lit3a:∀ k,k<3→∃ x,(#[Value.int .i64 0,.int .i64 9,.int .i64 (-1)]:Array Value)[k]?=some (.int .i64 x)∧-1≤x∧x≤9:=by
 intro k hk
 have:k=0∨k=1∨k=2:=by omega
 rcases this with rfl|rfl|rfl<;>exact ⟨_,rfl,by decide,by decide⟩
theorem lit3b:∀ k,k<3→∃ x,(#[Value.int .i64 (-1),.int .i64 5,.int .i64 6]:Array Value)[k]?=some (.int .i64 x)∧-1≤x∧x≤9:=by
 intro k hk
 have:k=0∨k=1∨k=2:=by omega
 rcases this with rfl|rfl|rfl<;>exact ⟨_,rfl,by decide,by decide⟩
set_option maxRecDepth 100000 in
set_option maxHeartbeats 4000000 in
theorem DV (R N:Nat) (w:World) (h:Rd w R N) (hN:N≤900000) :
  Calls Tryz.prog 100 #[.pointer (some ⟨R,0,none⟩)] w fun e w'=>∃ r:Rgt,e=.returned r.val∧-1≤r.thing∧r.thing≤9∧Rd w' R (N+9)∧Chg (fun b=>b=R) w w':=by
 have hR:=h.lt
 go_enter Tryz.func100,Tryz.ntmps100
 go_upto_region 1 with (fail)
 have D5:Rd (w.alloc (.cells #[.int .i64 0,.int .i64 0,.bool false,.bool false,.bool false] 69)) R N:=h.pure (by (repeat (with_reducible first|exact bA _ _|refine bB ?_ ?_ _|refine bC ?_ _|refine bD ?_|refine bE ?_ ?_ _|refine bF ?_ (by assumption) ?_))<;>first|omega|(simp;try omega))
 have zq:Chg (fun b=>b=R) w (w.alloc (.cells #[.int .i64 0,.int .i64 0,.bool false,.bool false,.bool false] 69)):=(by (repeat (with_reducible first|exact Chg.refl _ _|refine Chg.alloc ?_ _|refine Chg.drew ?_|refine Chg.drewN ?_ _|refine Chg.setCell ?_ ?_ _|refine Chg.trans ?_ (Chg.ah (by assumption))))<;>(first|omega|(simp;done)|(simp;omega)))
 obtain ⟨wa,hwa⟩:∃ wa:World,wa=w.alloc (.cells #[.int .i64 0,.int .i64 0,.bool false,.bool false,.bool false] 69):=⟨_,rfl⟩
 rw [← hwa] at D5 zq ⊢
 have hRa:R<wa.heap.size:=D5.lt
 have g0:wa.cell? ⟨w.heap.size,0,none⟩=some (.int .i64 0):=by rw [hwa];simp [go_sem]
 have g1:wa.cell? ⟨w.heap.size,1,none⟩=some (.int .i64 0):=by rw [hwa];simp [go_sem]
 have g2:wa.cell? ⟨w.heap.size,2,none⟩=some (.bool false):=by rw [hwa];simp [go_sem]
 have g3:wa.cell? ⟨w.heap.size,3,none⟩=some (.bool false):=by rw [hwa];simp [go_sem]
 have g4:wa.cell? ⟨w.heap.size,4,none⟩=some (.bool false):=by rw [hwa];simp [go_sem]
 have gf:∀ j,wa.frozen? ⟨w.heap.size,j,none⟩=false:=by intro j;rw [hwa];simp [go_sem]
 have gl:w.heap.size<wa.heap.size:=by rw [hwa];simp
 have hL:w.heap.size≠R:=by omega
 clear hwa
 go_upto_region 3 with (go_at_call 36;refine (aO R _ _ _ D5 (by omega) (by omega)).mono ?_;rintro e w1 ⟨k1,rfl,hk0,hk1,hr1,hg1⟩;have n0:=hg1.cell g0 hL;have n1:=hg1.cell g1 hL;have n2:=hg1.cell g2 hL;have n3:=hg1.cell g3 hL;have n4:=hg1.cell g4 hL;have nf:=ai hg1 gl hL gf)
 ·go_wp2
  exact bodyPost_ret (v:=Rgt.null.val) (by simp [results,Tryz.results100,go_sem,Rgt.val,Rgt.null, *]) rfl ⟨Rgt.null,rfl,by decide,by decide,(Rd.av (Rd.av (Rd.av (Rd.av (Rd.av hr1 hR _) hR _) hR _) hR _) hR _).mono (by omega),Chg.av (Chg.av (Chg.av (Chg.av (Chg.av (zq.trans hg1) (Nat.le_refl _) _) (Nat.le_refl _) _) (Nat.le_refl _) _) (Nat.le_refl _) _) (Nat.le_refl _) _⟩
 ·clear n0 n1 n2 n3 n4 nf
  go_cut [3] (fun s3 wz=>RgtP wz w1 R s3∧Chg (fun b=>b=R) w1 wz∧Rd wz R (N+5))
  case first=>
   go_wp2_with (first
    | (go_at_call 36;refine (aO R _ _ _ (hr1) (by omega) (by omega)).mono ?_;rintro e w2 ⟨k2,rfl,h2a,h2b,hr2,hg2⟩)
    | (go_at_call 36;refine (aO R _ _ _ (hr2) (by omega) (by omega)).mono ?_;rintro e w3 ⟨k3,rfl,h3a,h3b,hr3,hg3⟩)
    | (go_at_call 36;refine (aO R _ _ _ (hr3) (by omega) (by omega)).mono ?_;rintro e w4 ⟨k4,rfl,h4a,h4b,hr4,hg4⟩)
    | (go_at_call 36;refine (aO R _ _ _ (hr4) (by omega) (by omega)).mono ?_;rintro e w5 ⟨k5,rfl,h5a,h5b,hr5,hg5⟩))
   go_meet
   refine ⟨⟨w5.heap.size,⟨1+k2,k3,decide (0<k4),k5 == 0,false⟩,rfl,?_,?_,by simp [go_sem],fun j=>by simp [go_sem],by show -1≤1+k2;omega,by show 1+k2≤9;omega⟩,Chg.alloc (((hg2.trans hg3).trans hg4).trans hg5) _,Rd.pure hr5 (by (repeat (with_reducible first|exact bA _ _|refine bB ?_ ?_ _|refine bC ?_ _|refine bD ?_|refine bE ?_ ?_ _|refine bF ?_ (by assumption) ?_))<;>first|omega|(simp;try omega))⟩
   ·have:=hr5.lt;omega
   ·have:=(((hg2.trans hg3).trans hg4).trans hg5).size;omega
  case rest=>
   obtain ⟨⟨b,r,rfl,hbR,hbl,⟨c0,c1,c2,c3,c4⟩,fz,hlo,hhi⟩,kT,wW⟩:=hcut
   obtain ⟨wx,rfl⟩:∃ wx:World,wx=wc:=⟨_,rfl⟩
   obtain ⟨rt,rv,rr,rw,rk⟩:=r
   have hbs:=World.block_lt_of_cell? _ _ c0
   have hRb:R<b:=by have:=hr1.lt;omega
   go_upto_if 22 with (fail)
   go_cut [] (fun wz=>RgtP wz w1 R (.pointer (some ⟨b,0,none⟩))∧Chg (fun b=>b=R) w1 wz∧Rd wz R (N+6))
   case first=>
    cases rw
    ·go_wp2_with (go_at_call 36;refine (aO R _ _ _ (wW) (by omega) (by omega)).mono ?_;rintro e w2 ⟨k2,rfl,h2a,h2b,hr2,hg2⟩;have c0:=hg2.cell c0 hbR;have c1:=hg2.cell c1 hbR;have c2:=hg2.cell c2 hbR;have c3:=hg2.cell c3 hbR;have c4:=hg2.cell c4 hbR;have fz:=ai hg2 hbs hbR fz;have hbs:=(World.block_lt_of_cell? _ _ c0))
     go_meet
     exact ⟨⟨b,⟨rt,rv,rr,false,k2 == 0⟩,rfl,hbR,hbl,by simp [ag,c0,c1,c2,c3,c4],fun j=>by simp [fz],hlo,hhi⟩,Chg.av (kT.trans hg2) hbl _,Rd.av hr2 hRb _⟩
    ·go_wp2
     go_meet
     exact ⟨⟨b,⟨rt,rv,rr,true,rk⟩,rfl,hbR,hbl,⟨c0,c1,c2,c3,c4⟩,fz,hlo,hhi⟩,kT,wW.mono (by omega)⟩
   case rest=>
    clear c0 c1 c2 c3 c4 fz hlo hhi kT wW
    obtain ⟨⟨b',r,e,hbR',hbl',⟨c0,c1,c2,c3,c4⟩,fz,hlo,hhi⟩,kT,wW⟩:=hcut
    cases e
    clear hbR' hbl' hbs
    obtain ⟨rt,rv,rr,rw,rk⟩:=r
    obtain ⟨wy,rfl⟩:∃ wx:World,wx=wc:=⟨_,rfl⟩
    have hbs:=World.block_lt_of_cell? _ _ c0
    have nK:=(zq.trans hg1).trans kT
    have hL1:w.heap.size<wy.heap.size:=by have:=(hg1.trans kT).size;omega
    have n0:=(hg1.trans kT).cell g0 hL
    have n1:=(hg1.trans kT).cell g1 hL
    have n2:=(hg1.trans kT).cell g2 hL
    have n3:=(hg1.trans kT).cell g3 hL
    have n4:=(hg1.trans kT).cell g4 hL
    have nf:=ai (hg1.trans kT) gl hL gf
    have hLb:¬ w.heap.size=b:=by have:=hg1.size;omega
    have hbw:w.heap.size≤b:=by have:=zq.size;have:=hg1.size;omega
    have hbL:¬ b=w.heap.size:=fun e=>hLb e.symm
    clear g0 g1 g2 g3 g4 gf
    go_upto_region 7 with (go_at_call 36;refine (aO R _ _ _ (wW) (by omega) (by omega)).mono ?_;rintro e w2 ⟨k2,rfl,h2a,h2b,hr2,hg2⟩;have c0:=hg2.cell c0 hbR;have c1:=hg2.cell c1 hbR;have c2:=hg2.cell c2 hbR;have c3:=hg2.cell c3 hbR;have c4:=hg2.cell c4 hbR;have fz:=ai hg2 hbs hbR fz;have n0:=hg2.cell n0 hL;have n1:=hg2.cell n1 hL;have n2:=hg2.cell n2 hL;have n3:=hg2.cell n3 hL;have n4:=hg2.cell n4 hL;have nf:=ai hg2 hL1 hL nf)
    have hks:k2=0∨k2=1∨k2=2∨3≤k2:=by omega
    rcases hks with rfl|rfl|rfl|hks
    ·go_wp2
     exact bodyPost_ret (v:=(Rgt.mk rt rv rr rw true).val) (by simp [results,Tryz.results100,go_sem,Rgt.val,ag, *]) rfl ⟨⟨rt,rv,rr,rw,true⟩,rfl,by assumption,by assumption,by (repeat refine Rd.av ?_ ?_ _)<;>first|exact Rd.mono hr2 (by omega)|(simp;done)|(simp;omega),by (repeat refine Chg.av ?_ ?_ _)<;>first|exact (nK.trans hg2)|(simp;done)|(simp;omega)⟩
    ·have lI:Below w2.heap.size w2 (w2.alloc (.cells #[.int .i64 0,.int .i64 9,.int .i64 (-1)] 3)):=(by (repeat (with_reducible first|exact bA _ _|refine bB ?_ ?_ _|refine bC ?_ _|refine bD ?_|refine bE ?_ ?_ _|refine bF ?_ (by assumption) ?_))<;>first|omega|(simp;try omega))
     have hgA:Chg (fun b=>b=R) w2 (w2.alloc (.cells #[.int .i64 0,.int .i64 9,.int .i64 (-1)] 3)):=Chg.ah lI
     have hA2:w2.heap.size≠R:=by have:=hr2.lt;omega
     have hA3:w.heap.size<w2.heap.size:=by have:=hg2.size;omega
     have hA4:b<w2.heap.size:=by have:=hg2.size;omega
     go_wp2_with (go_at_call 36;refine (aO R _ _ _ (hr2.pure lI) (by omega) (by omega)).mono ?_;rintro e w3 ⟨k3,rfl,h3a,h3b,hr3,hg3⟩;have hgB:=hgA.trans hg3;have c0:=hgB.cell c0 hbR;have c1:=hgB.cell c1 hbR;have c2:=hgB.cell c2 hbR;have c3:=hgB.cell c3 hbR;have c4:=hgB.cell c4 hbR;have fz:=ai hgB hA4 hbR fz;have n0:=hgB.cell n0 hL;have n1:=hgB.cell n1 hL;have n2:=hgB.cell n2 hL;have n3:=hgB.cell n3 hL;have n4:=hgB.cell n4 hL;have nf:=ai hgB hA3 hL nf;obtain ⟨k3,rfl⟩:∃ n:Nat,k3=(n:Int):=⟨k3.toNat,by omega⟩;have h3n:k3<3:=(by omega);obtain ⟨x3,hx3,hx3a,hx3b⟩:=Gv (n:=3) (w:=w2) (by have:=hr2.lt;omega) hg3 lit3a h3n;have wX:=nK.trans (hg2.trans hgB);clear hgB hg3 hg2 hgA nK lI)
     exact bodyPost_ret (v:=(Rgt.mk x3 rv rr rw rk).val) (by simp [results,Tryz.results100,go_sem,Rgt.val,ag, *]) rfl ⟨⟨x3,rv,rr,rw,rk⟩,rfl,by assumption,by assumption,by (repeat refine Rd.av ?_ ?_ _)<;>first|exact Rd.mono hr3 (by omega)|(simp;done)|(simp;omega),by (repeat refine Chg.av ?_ ?_ _)<;>first|exact wX|(simp;done)|(simp;omega)⟩
    ·have lI:Below w2.heap.size w2 (w2.alloc (.cells #[.int .i64 (-1),.int .i64 5,.int .i64 6] 3)):=(by (repeat (with_reducible first|exact bA _ _|refine bB ?_ ?_ _|refine bC ?_ _|refine bD ?_|refine bE ?_ ?_ _|refine bF ?_ (by assumption) ?_))<;>first|omega|(simp;try omega))
     have hgA:Chg (fun b=>b=R) w2 (w2.alloc (.cells #[.int .i64 (-1),.int .i64 5,.int .i64 6] 3)):=Chg.ah lI
     have hA2:w2.heap.size≠R:=by have:=hr2.lt;omega
     have hA3:w.heap.size<w2.heap.size:=by have:=hg2.size;omega
     have hA4:b<w2.heap.size:=by have:=hg2.size;omega
     go_wp2_with (go_at_call 36;refine (aO R _ _ _ (hr2.pure lI) (by omega) (by omega)).mono ?_;rintro e w3 ⟨k3,rfl,h3a,h3b,hr3,hg3⟩;have hgB:=hgA.trans hg3;have c0:=hgB.cell c0 hbR;have c1:=hgB.cell c1 hbR;have c2:=hgB.cell c2 hbR;have c3:=hgB.cell c3 hbR;have c4:=hgB.cell c4 hbR;have fz:=ai hgB hA4 hbR fz;have n0:=hgB.cell n0 hL;have n1:=hgB.cell n1 hL;have n2:=hgB.cell n2 hL;have n3:=hgB.cell n3 hL;have n4:=hgB.cell n4 hL;have nf:=ai hgB hA3 hL nf;obtain ⟨k3,rfl⟩:∃ n:Nat,k3=(n:Int):=⟨k3.toNat,by omega⟩;have h3n:k3<3:=(by omega);obtain ⟨x3,hx3,hx3a,hx3b⟩:=Gv (n:=3) (w:=w2) (by have:=hr2.lt;omega) hg3 lit3b h3n;have wX:=nK.trans (hg2.trans hgB);clear hgB hg3 hg2 hgA nK lI)
     exact bodyPost_ret (v:=(Rgt.mk rt x3 rr rw rk).val) (by simp [results,Tryz.results100,go_sem,Rgt.val,ag, *]) rfl ⟨⟨rt,x3,rr,rw,rk⟩,rfl,by assumption,by assumption,by (repeat refine Rd.av ?_ ?_ _)<;>first|exact Rd.mono hr3 (by omega)|(simp;done)|(simp;omega),by (repeat refine Chg.av ?_ ?_ _)<;>first|exact wX|(simp;done)|(simp;omega)⟩
    ·have m0:¬ k2=0:=by omega
     have m1:¬ k2=1:=by omega
     have m2:¬ k2=2:=by omega
     go_wp2
     exact bodyPost_ret (v:=(Rgt.mk rt rv rr rw rk).val) (by simp [results,Tryz.results100,go_sem,Rgt.val,ag, *]) rfl ⟨⟨rt,rv,rr,rw,rk⟩,rfl,by assumption,by assumption,by (repeat refine Rd.av ?_ ?_ _)<;>first|exact Rd.mono hr2 (by omega)|(simp;done)|(simp;omega),by (repeat refine Chg.av ?_ ?_ _)<;>first|exact (nK.trans hg2)|(simp;done)|(simp;omega)⟩
end Go.Proofs.YthhmolonhpaepaaGreatDoor
