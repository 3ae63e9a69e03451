/- Drawn tables: whatever the bytes are, there is one. Conditions: few numbers were drawn so far. -/
import Derived.Test.YthhmolonhpaepaaGreatDoorVDt
import Derived.Test.YthhmolonhpaepaaGreatDoorVB
import Derived.Test.YthhmolonhpaepaaGreatDoorVIv
set_option linter.unusedVariables false
set_option linter.unusedSimpArgs false
namespace Go.Proofs.YthhmolonhpaepaaGreatDoor
open Go.RowKit Drw
attribute [local go_sem] Lab.val Rgt.val Cal.val Thg.val
def Bd (xs:List Thx):Prop:=∀ x∈xs,x.1.slots.length≤4∧x.1.queue.length≤3
def zu (w wr:World) (R N:Nat) (v:Value) (n:Nat):Prop:=∃ xs tag,au wr (fun b=>w.heap.size≤b) tag v xs∧xs.length=n∧Bd xs∧Chg (fun b=>b=R) w wr∧Rd wr R N
def IK (w wr:World) (R N:Nat) (v:Value) (j:Nat):Prop:=∃ ks:List Int,ks.length=j∧wr.ownsRow w.heap.size 3 1 v j ((ks.map intCells).flatten)∧Chg (fun b=>b=R) w wr∧Rd wr R N
def ThgsI (w wr:World) (R N:Nat) (v3 v5:Value) (j i:Nat):Prop:=∃ ts:List Thg,ts.length=i∧jR w.heap.size 32 69 3 v5 ts i wr∧(∀ t∈ts,t.slots.length≤4∧t.queue.length≤3)∧IK w wr R N v3 j
theorem lit6:∀ k,k<6→∃ x,(#[Value.int .i64 1,.int .i64 2,.int .i64 2,.int .i64 3,.int .i64 4,.int .i64 5]:Array Value)[k]?=some (.int .i64 x)∧-1≤x∧x≤9:=by
 intro k hk
 have:k=0∨k=1∨k=2∨k=3∨k=4∨k=5:=by omega
 rcases this with rfl|rfl|rfl|rfl|rfl|rfl<;>exact ⟨_,rfl,by decide,by decide⟩
theorem EW {w w0:World} {P:Nat→Prop} {tag:Nat→Nat} {T o n cap i k B o' m cap' R N:Nat} {xs:List Thx} {t:Thg} {qv:Value} (h:au w P tag (.slice (some ⟨T,o,none⟩) n cap) xs) (hi:xs[i]?=some (t,.slice (some ⟨B,o',none⟩) m cap',qv)) (hk:k<t.slots.length) (r:Rgt)
  (hb:Bd xs) (hl:xs.length=n) (hch:Chg (fun b=>b=R) w0 w) (hrd:Rd w R N) (hPB:w0.heap.size≤B) (hRB:R<B) :
  au (((((w.setCell ⟨B,o' + k * 5,none⟩ (.int .i64 r.thing)).setCell ⟨B,o' + k * 5+1,none⟩ (.int .i64 r.aJ)).setCell ⟨B,o' + k * 5+2,none⟩ (.bool r.rd)).setCell ⟨B,o' + k * 5+3,none⟩ (.bool r.wr)).setCell ⟨B,o' + k * 5+4,none⟩ (.bool r.wk)).drew P tag (.slice (some ⟨T,o,none⟩) n cap) (xs.set i (setSlot (k:Int) r t,.slice (some ⟨B,o',none⟩) m cap',qv))∧(xs.set i (setSlot (k:Int) r t,.slice (some ⟨B,o',none⟩) m cap',qv)).length=n∧Bd (xs.set i (setSlot (k:Int) r t,.slice (some ⟨B,o',none⟩) m cap',qv)) ∧
   (xs.set i (setSlot (k:Int) r t,.slice (some ⟨B,o',none⟩) m cap',qv))[i]?=some (setSlot (k:Int) r t,.slice (some ⟨B,o',none⟩) m cap',qv)∧Chg (fun b=>b=R) w0 (((((w.setCell ⟨B,o' + k * 5,none⟩ (.int .i64 r.thing)).setCell ⟨B,o' + k * 5+1,none⟩ (.int .i64 r.aJ)).setCell ⟨B,o' + k * 5+2,none⟩ (.bool r.rd)).setCell ⟨B,o' + k * 5+3,none⟩ (.bool r.wr)).setCell ⟨B,o' + k * 5+4,none⟩ (.bool r.wk)).drew∧Rd (((((w.setCell ⟨B,o' + k * 5,none⟩ (.int .i64 r.thing)).setCell ⟨B,o' + k * 5+1,none⟩ (.int .i64 r.aJ)).setCell ⟨B,o' + k * 5+2,none⟩ (.bool r.rd)).setCell ⟨B,o' + k * 5+3,none⟩ (.bool r.wr)).setCell ⟨B,o' + k * 5+4,none⟩ (.bool r.wk)).drew R N∧(∀ X j,¬ B=X→(((((w.setCell ⟨B,o' + k * 5,none⟩ (.int .i64 r.thing)).setCell ⟨B,o' + k * 5+1,none⟩ (.int .i64 r.aJ)).setCell ⟨B,o' + k * 5+2,none⟩ (.bool r.rd)).setCell ⟨B,o' + k * 5+3,none⟩ (.bool r.wr)).setCell ⟨B,o' + k * 5+4,none⟩ (.bool r.wk)).drew.cell? ⟨X,j,none⟩=w.cell? ⟨X,j,none⟩):=by
 have hla:i<xs.length:=(List.getElem?_eq_some_iff.1 hi).1
 refine ⟨((h.slot hi hk r).1).pure (Below.drew (Below.refl _ _)),by rw [List.length_set];exact hl,?_,List.getElem?_set_self hla,Chg.drew ?_,Rd.pure ?_ (Below.drew (Below.refl _ _)),?_⟩
 ·intro x hx
  rcases List.mem_or_eq_of_mem_set hx with hx|rfl
  ·exact hb x hx
  ·have:=hb _ (List.mem_of_getElem? hi);simpa [setSlot] using this
 ·(repeat refine Chg.av ?_ ?_ _)<;>first|exact hch|exact hPB
 ·(repeat refine Rd.av ?_ ?_ _)<;>first|exact hrd|exact hRB
 ·intro X j hX
  simp [ag,hX]
def setKind (k:Int) (t:Thg):Thg:={ t with kind:=k }
theorem GK {w w0:World} {P:Nat→Prop} {tag:Nat→Nat} {T o n cap i R N:Nat} {xs:List Thx} {t:Thg} {sv qv:Value} (h:au w P tag (.slice (some ⟨T,o,none⟩) n cap) xs) (hi:xs[i]?=some (t,sv,qv)) (k:Int)
  (hb:Bd xs) (hl:xs.length=n) (hch:Chg (fun b=>b=R) w0 w) (hrd:Rd w R N) (hPB:w0.heap.size≤T) (hRB:R<T) :
  au (w.setCell ⟨T,o+i * 8,none⟩ (.int .i64 k)) P tag (.slice (some ⟨T,o,none⟩) n cap) (xs.set i (setKind k t,sv,qv))∧(xs.set i (setKind k t,sv,qv)).length=n∧Bd (xs.set i (setKind k t,sv,qv))∧Chg (fun b=>b=R) w0 (w.setCell ⟨T,o+i * 8,none⟩ (.int .i64 k))∧Rd (w.setCell ⟨T,o+i * 8,none⟩ (.int .i64 k)) R N:=by
 obtain ⟨hn,hP,-,hlt,hf⟩:=h.pos hi
 obtain ⟨c0,c1,c2,c3,c4,c5,c6,c7⟩:=h.cells hi
 refine ⟨h.Ac hi (Chg.setCell (S:=fun b=>b=T) (Chg.refl _ _) rfl _) (fun j=>by simp) ?_ ?_ rfl rfl,by rw [List.length_set];exact hl,?_,hch.av hPB _,hrd.av hRB _⟩
 ·intro j u hu
  rcases j with _|_|_|_|_|_|_|_|j
  all_goals (simp [Thg.cells,setKind] at hu)
  all_goals (try subst hu)
  all_goals (simp [ag,c0,c1,c2,c3,c4,c5,c6,c7];done)
 ·intro off hoff
  rw [ag,if_neg (by intro e;simp only [Addr.mk.injEq] at e;omega)]
 ·intro x hx
  rcases List.mem_or_eq_of_mem_set hx with hx|rfl
  ·exact hb x hx
  ·have:=hb _ (List.mem_of_getElem? hi);simpa [setKind] using this
set_option maxRecDepth 100000 in
set_option maxHeartbeats 8000000 in
theorem uG (R N:Nat) (w:World) (h:Rd w R N) (hN:N≤800000) :
  Calls Tryz.prog 66 #[.pointer (some ⟨R,0,none⟩)] w fun e w'=>∃ v n,e=.returned v∧3≤n∧n≤8∧zu w w' R (N+1000) v n:=by
 have hR:=h.lt
 obtain ⟨i0,hi,hz0,hz1,hz2⟩:=info_parts jb
 obtain ⟨i2,hi2,hx0,hx1,hx2⟩:=info_parts wh
 have hbl0:Below w.heap.size w (w.alloc (.cells #[.int .i64 1,.int .i64 3,.int .i64 3] 3)):=(by (repeat (with_reducible first|exact bA _ _|refine bB ?_ ?_ _|refine bC ?_ _|refine bD ?_|refine bE ?_ ?_ _|refine bF ?_ (by assumption) ?_))<;>first|omega|(simp;try omega))
 have hrd0:=h.pure hbl0
 have hch0:Chg (fun b=>b=R) w (w.alloc (.cells #[.int .i64 1,.int .i64 3,.int .i64 3] 3)):=Chg.ah hbl0
 have hk0:(w.alloc (.cells #[.int .i64 1,.int .i64 3,.int .i64 3] 3)).ownsRow w.heap.size 3 1 (.slice (some ⟨w.heap.size,0,none⟩) 3 3) 3 (([1,3,3].map intCells).flatten):=xX (cur:=#[.int .i64 1,.int .i64 3,.int .i64 3]) (heap_alloc_new w _) (Nat.le_refl _) (by simp [maxLen]) rfl
 have Hk0:=Lib.hid hk0
 clear hk0 hbl0
 go_enter Tryz.func66,Tryz.ntmps66
 go_wp2_with (go_at_call 36;refine (aO R _ _ _ hrd0 (by omega) (by omega)).mono ?_;rintro e w1 ⟨k1,rfl,h1a,h1b,hr1,hg1⟩)
 obtain ⟨k1,rfl⟩:∃ n:Nat,k1=(n:Int):=⟨k1.toNat,by omega⟩
 go_loopw [3,4] (fun s3 s4 wr=>∃ m j:Nat,s4=.int .i64 (m:Int)∧3≤j∧j+m≤8∧(∃ q c,s3=.slice q j c)∧IK w wr R (N+9 - m) s3 j) (fun _ s4 _=>(intOf s4).toNat)
 case atStart=>exact ⟨k1,3,rfl,by omega,by omega,⟨_,_,rfl⟩,_,rfl,aM Hk0.out hg1 (fun k hk e=>by simp [Value.ownBlock] at hk;omega),hch0.trans hg1,hr1.mono (by omega)⟩
 case round=>
  clear hg1 hr1 hrd0 hch0 Hk0
  obtain ⟨m,j,rfl,hj3,hj8,⟨q,c,rfl⟩,hK⟩:=hrel
  by_cases hm0:m=0
  ·subst hm0
   rw [show ((0:Nat):Int)=0 from rfl]
   go_wp2
   obtain ⟨ks,hkl,hko,hch,hrd⟩:=hK
   have Hkl:=Lib.hid hkl
   clear hkl
   obtain ⟨wy,rfl⟩:∃ wy:World,wy=wr:=⟨_,rfl⟩
   go_loopw [5,6,7] (fun s5 s6 s7 wr=>∃ i:Nat,s6=.int .i64 (i:Int)∧i≤j∧(∃ q c,s5=.slice q i c)∧ThgsI w wr R (N+9+12 * i) (.slice q j c) s5 j i) (fun _ s6 _ _=>j - (intOf s6).toNat)
   case atStart=>
    have hblD:Below wy.heap.size wy (wy.alloc (.cells #[] 32)):=(by (repeat (with_reducible first|exact bA _ _|refine bB ?_ ?_ _|refine bC ?_ _|refine bD ?_|refine bE ?_ ?_ _|refine bF ?_ (by assumption) ?_))<;>first|omega|(simp;try omega))
    exact ⟨0,rfl,by omega,⟨_,_,rfl⟩,[],rfl,jR.zero (ny _ rfl hch.size),(fun t ht=>by cases ht),ks,Hkl.out,own_below hko hblD,hch.trans (Chg.ah hblD),(hrd.pure hblD).mono (by omega)⟩
   case round=>
    clear hko hch hrd Hkl
    obtain ⟨i,rfl,hij,⟨vq,vc,rfl⟩,ts,htl,hS,hbd,hK⟩:=hrel
    obtain ⟨ks,hkl,hko,hch,hrd⟩:=hK
    by_cases hlt:i<j
    ·have hRr:=hrd.lt
     have hksR:aG wr (.slice q j c) ks:=by
      have:=hko
      rw [show j=(ks.map intCells).length by simp [hkl]] at this ⊢
      exact Rows.dH (bI ks) this
     obtain ⟨kx,hkx⟩:∃ x,ks[i]?=some x:=⟨ks[i]'(by omega),by simp [hkl,hlt]⟩
     obtain ⟨bk,ok,rfl,hbk,hck⟩:=hksR.at i kx hkx
     obtain ⟨xs0,tag0,he1,he2,he3⟩:=hS
     have Hkl:=Lib.hid hkl
     have Htl:=Lib.hid htl
     have Hbd:=Lib.hid hbd
     have Hxs:=Lib.hid he1
     have NJ:=Lib.hid he3
     clear hkl htl hbd he1 he3 hksR hkx
     have hij2:(i:Int)<(j:Int):=by omega
     have hwx:=hch.size
     by_cases hk5:kx=5
     all_goals go_wp2_with (first
      | (go_at_call 99;refine (DU R _ _ _ _ hrd (by omega)).mono ?_;rintro e w2 ⟨t,sv,qv,rfl,o1,o2,hsl,hql,hg2,hr2⟩;obtain ⟨sp,sc,rfl⟩:=aH o1;obtain ⟨qp,qc,rfl⟩:=aH o2;obtain ⟨tk,⟨tls,tlv⟩,tv,tnu,tsl,tq,tt⟩:=t;dsimp only at o1 o2 hsl hql;have he2':=lD he2 hg2 (fun b h1 _ e=>by omega);have MR:=lD hko hg2 (fun b h1 _ e=>by omega);have hw2:=hg2.size)
      | (at_builtin;refine aL rfl (.tmp 38) (.tmp 46) 23 rfl w.heap.size 32 i2 _ 8 96 Tryz.underlying23 hi2 hx0 hx1 hx2 rfl (by decide) (.slice vq i vc) i ((xs0.map Thx.cells).flatten) rfl (he2'.alloc _) (.slice (some ⟨w2.heap.size,0,none⟩) 1 1) [Thg.cells ⟨tk,⟨tls,tlv⟩,tv,tnu,tsl,tq,tt⟩ (.slice sp tsl.length sc) (.slice qp tq.length qc)] rfl (BO _ _ _ _ _ _ _) (Rows.one (by intro i u hu;rcases i with _|_|_|_|_|_|_|_|i<;>simp [Thg.cells] at hu<;>(try subst hu)<;>simp [go_sem])) (by simp [maxLen]<;>omega) (by simp<;>omega) (by simp<;>omega) ?_;intro v3 w3 ho3 hg3))
     all_goals
      obtain ⟨q3,c3,rfl⟩:=aH ho3
      have Ka:Below w2.heap.size w2 (w2.alloc (.cells #[.int .i64 tk,.int .i64 tls,.int .i64 tlv,.int .i64 tv,.int .i64 tnu,.slice sp tsl.length sc,.slice qp tq.length qc,.int .i64 tt] 32)):=(by (repeat (with_reducible first|exact bA _ _|refine bB ?_ ?_ _|refine bC ?_ _|refine bD ?_|refine bE ?_ ?_ _|refine bF ?_ (by assumption) ?_))<;>first|omega|(simp;try omega))
      have hgC:Chg (fun b=>b=R) wr (w2.alloc (.cells #[.int .i64 tk,.int .i64 tls,.int .i64 tlv,.int .i64 tv,.int .i64 tnu,.slice sp tsl.length sc,.slice qp tq.length qc,.int .i64 tt] 32)):=hg2.trans (Chg.ah Ka)
      have fin:jR w.heap.size 32 69 3 (.slice q3 (i+1) c3) (ts++[⟨tk,⟨tls,tlv⟩,tv,tnu,tsl,tq,tt⟩]) (i+1) w3:=by
       refine jR.stepC (t:=⟨tk,⟨tls,tlv⟩,tv,tnu,tsl,tq,tt⟩) (S:=fun b=>b=R) ?_ he2 NJ.out (by decide) (by decide) (by decide) ?_ hgC (fun b h1 _ e=>by omega) hch.size (own_below o1 Ka) (own_below o2 Ka) (by simpa using ho3) hg3
       ·rw [Hxs.out,List.take_append_of_le_length (by rw [Htl.out];exact Nat.le_refl _)]
       ·rw [List.getElem?_append_right (by rw [Htl.out];exact Nat.le_refl _),Htl.out];simp
      have M0:IK w w3 R (N+9+12 * i+12) (.slice (some ⟨bk,ok,none⟩) j c) j:=by
       refine ⟨ks,Hkl.out,aM (own_below MR Ka) (Chg.gX hg3) (FW MR he2' (by decide)),Chg.wm (hch.trans hgC) hg3 (fun k hk=>(he2'.lt k hk).1),Rd.chg (hr2.pure Ka) (Chg.gX hg3) (fun c hc e=>?_)⟩
       have:=(he2'.lt c e.symm).1
       omega
      have Fin:=Lib.hid fin
      have Fin2:=Lib.hid M0
      clear fin M0 ho3 hg3 hgC Ka he2 he2' hko MR hg2 hr2 o1 o2 hch hrd
      go_roundw
      case rel=>
       refine ⟨i+1,by go_num,by omega,⟨_,_,rfl⟩,ts++[⟨tk,⟨tls,tlv⟩,tv,tnu,tsl,tq,tt⟩],by simp [Htl.out],Fin.out,?_,?_⟩
       ·intro t ht
        rcases List.mem_append.1 ht with ht|ht
        ·exact Hbd.out t ht
        ·rw [List.mem_singleton] at ht;subst ht;exact ⟨hsl,hql⟩
       ·rw [show N+9+12 * (i+1)=N+9+12 * i+12 by omega];exact Fin2.out
      case measure=>simp [intOf];omega
    ·have hij3:i=j:=by omega
     subst hij3
     have hlt2:¬ (i:Int)<(i:Int):=by omega
     obtain ⟨xs,tag,hO,hxs⟩:=(show jR w.heap.size 32 69 3 (.slice vq i vc) ts ts.length wr by rw [htl];exact hS).done (by decide) (by decide)
     have hxl:xs.length=i:=by rw [← htl,← hxs];simp
     have hT0:zu w wr R (N+9+12 * i) (.slice vq i vc) i:=⟨xs,tag,hO,hxl,fun x hx=>hbd x.1 (by rw [← hxs];exact List.mem_map_of_mem hx),hch,hrd⟩
     obtain ⟨T,o,rfl⟩:∃ T o,vq=some ⟨T,o,none⟩:=by
      have h0':0<xs.length:=by omega
      obtain ⟨b,o,e,-⟩:=hO.dK.at 0 _ (List.getElem?_eq_getElem h0')
      exact ⟨b,o,e⟩
     clear hxl hxs hO hS hbd htl hkl hko hch hrd
     go_wp2
     obtain ⟨wy2,rfl⟩:∃ wy:World,wy=wr:=⟨_,rfl⟩
     go_loopw [8] (fun s8 wr=>∃ a:Nat,s8=.int .i64 (a:Int)∧a≤i∧zu w wr R (N+200+70 * a) (.slice (some ⟨T,o,none⟩) i vc) i) (fun s8 _=>i - (intOf s8).toNat)
     case atStart=>
      obtain ⟨xs,tag,h1,h2,h3,h4,h5⟩:=hT0
      exact ⟨0,rfl,by omega,xs,tag,h1,h2,h3,h4,h5.mono (by omega)⟩
     case round=>
      clear hT0
      obtain ⟨a,rfl,hai,hT⟩:=hrel
      by_cases hlt3:a<i
      ·have hlt4:(a:Int)<(i:Int):=by omega
       go_wp2
       obtain ⟨wy3,rfl⟩:∃ wy:World,wy=wr:=⟨_,rfl⟩
       go_loopw [9] (fun s9 wr=>∃ k:Nat,s9=.int .i64 (k:Int)∧k≤4∧zu w wr R (N+200+70 * a+16 * k) (.slice (some ⟨T,o,none⟩) i vc) i) (fun s9 _=>4 - (intOf s9).toNat)
       case atStart=>exact ⟨0,rfl,by omega,hT⟩
       case round=>
        clear hT
        obtain ⟨k,rfl,hk4,hT⟩:=hrel
        obtain ⟨xs,tag,hO,hxl,hBd,hch,hrd⟩:=hT
        obtain ⟨⟨t,sv,qv⟩,hta⟩:∃ x,xs[a]?=some x:=⟨xs[a]'(by omega),by simp [hxl,hlt3]⟩
        obtain ⟨c0,c1,c2,c3,c4,c5,c6,c7⟩:=hO.cells hta
        have hm:=(hO.dK.2 _ (List.mem_of_getElem? hta)).1
        have hbx:=(hBd _ (List.mem_of_getElem? hta)).1
        dsimp only at hm hbx
        obtain ⟨sp,sc,rfl,-,-⟩:=hm.len
        have Hxl:=Lib.hid hxl
        have Hta:=Lib.hid hta
        clear hxl hta
        have hTl:T<wr.heap.size:=World.block_lt_of_cell? wr _ c0
        by_cases hkl:k<t.slots.length
        ·have hkl2:(k:Int)<(t.slots.length:Int):=by omega
         have hRr:=hrd.lt
         go_upto_region 20 with (fail)
         obtain ⟨M,hM⟩:∃ M,M=N+200+70 * a+16 * k:=⟨_,rfl⟩
         rw [← hM] at hrd
         have hMb:M≤850000:=by omega
         have HM:=Lib.hid hM
         clear hM
         go_cut [10] (fun s10 wz=>RgtP wz wr R s10∧Chg (fun b=>b=R) wr wz∧Rd wz R (M+9))
         case first=>
          go_wp2_with (go_at_call 100;refine (DV R _ _ hrd (by omega)).mono ?_;rintro e w2 ⟨r,rfl,hr1,hr2,hrr,hg2⟩;obtain ⟨rt,rv,rrd,rwr,rwk⟩:=r;dsimp only at hr1 hr2)
          go_meet
          exact ⟨⟨w2.heap.size,⟨rt,rv,rrd,rwr,rwk⟩,rfl,by have:=hrr.lt;omega,hg2.size,by simp [go_sem],fun j=>by simp [go_sem],hr1,hr2⟩,Chg.alloc hg2 _,hrr.pure (by (repeat (with_reducible first|exact bA _ _|refine bB ?_ ?_ _|refine bC ?_ _|refine bD ?_|refine bE ?_ ?_ _|refine bF ?_ (by assumption) ?_))<;>first|omega|(simp;try omega))⟩
         case rest=>
          obtain ⟨⟨X,r,rfl,hXR,hXl,hcx,hfx,hlo,hhi⟩,pO,hrdx⟩:=hcut
          obtain ⟨wx,rfl⟩:∃ wx:World,wx=wc:=⟨_,rfl⟩
          obtain ⟨rt,rv,rrd,rwr,rwk⟩:=r
          dsimp only at hcx hlo hhi
          obtain ⟨x0,x1,x2,x3,x4⟩:=hcx
          have hXs:X<wx.heap.size:=World.block_lt_of_cell? _ _ x0
          have hRX:R<X:=by omega
          go_upto_region 21 with (fail)
          go_cut [73] (fun s73 wz=>∃ b,s73=.bool b∧(b=true→0<rt)∧Chg (fun b=>b=R) wx wz∧Rd wz R (M+10))
          case first=>
           by_cases hp:0<rt
           ·go_wp2_with (go_at_call 36;refine (aO R _ _ _ (hrdx) (by omega) (by omega)).mono ?_;rintro e w2 ⟨k2,rfl,h2a,h2b,hr2,hg2⟩)
            go_meet
            exact ⟨_,rfl,fun _=>hp,hg2,hr2⟩
           ·go_wp2
            go_meet
            exact ⟨false,rfl,fun e=>(by cases e),Chg.refl _ _,hrdx.mono (by omega)⟩
          case rest=>
           obtain ⟨b73,rfl,hb73,kT,wW⟩:=hcut
           obtain ⟨wu,rfl⟩:∃ wx:World,wx=wc:=⟨_,rfl⟩
           have u0:=kT.cell x0 hXR
           have u1:=kT.cell x1 hXR
           have u2:=kT.cell x2 hXR
           have u3:=kT.cell x3 hXR
           have u4:=kT.cell x4 hXR
           have uf:=ai kT hXs hXR hfx
           have MS:=pO.trans kT
           have hXu:X<wu.heap.size:=World.block_lt_of_cell? _ _ u0
           clear x0 x1 x2 x3 x4 hfx kT pO hXs hrdx
           go_upto_if 73 with (fail)
           go_cut [] (fun wz=>RgtP wz wr R (.pointer (some ⟨X,0,none⟩))∧Chg (fun b=>b=R) wr wz∧Rd wz R (M+12))
           case first=>
            cases b73
            ·go_wp2
             go_meet
             exact ⟨⟨X,⟨rt,rv,rrd,rwr,rwk⟩,rfl,hXR,hXl,⟨u0,u1,u2,u3,u4⟩,uf,hlo,hhi⟩,MS,wW.mono (by omega)⟩
            ·have hp:=hb73 rfl
             go_upto_region 22 with (fail)
             go_cut [] (fun wz=>∃ q:Nat,q<i∧(wz.cell? ⟨X,0,none⟩=some (.int .i64 (1+(q:Int)))∧wz.cell? ⟨X,1,none⟩=some (.int .i64 rv)∧wz.cell? ⟨X,2,none⟩=some (.bool rrd)∧wz.cell? ⟨X,3,none⟩=some (.bool rwr)∧wz.cell? ⟨X,4,none⟩=some (.bool rwk))∧(∀ j,wz.frozen? ⟨X,j,none⟩=false)∧Chg (fun b=>b=R) wr wz∧Rd wz R (M+11))
             case first=>
              have hrd3:Rd wu.drew R (M+10):=wW.pure (Below.drew (Below.refl _ _))
              have hgd:Chg (fun b=>b=R) wu wu.drew:=Chg.drew (Chg.refl _ _)
              have hin:(i:Int)≠0:=by omega
              have hin2:¬ i=0:=by omega
              go_region_law (first|(go_simp;go_at_call 36;refine (aO R _ _ _ (hrd3) (by omega) (by omega)).mono ?_;rintro e w2 ⟨k2,rfl,h2a,h2b,hr2,hg2⟩;have hgu:=hgd.trans hg2;have u0:=hgu.cell u0 hXR;have u1:=hgu.cell u1 hXR;have u2:=hgu.cell u2 hXR;have u3:=hgu.cell u3 hXR;have u4:=hgu.cell u4 hXR;have uf:=ai hgu hXu hXR uf;have s1:IntKind.i64.wrap (rt+k2)=rt+k2:=IntWalk.i64_in _ (by omega);obtain ⟨q,hq,hqi⟩:∃ q:Nat,(rt+k2).tmod (i:Int)=(q:Int)∧q<i:=⟨((rt+k2) % (i:Int)).toNat,by rw [Int.tmod_eq_emod_of_nonneg (by omega)];have:=Int.emod_nonneg (rt+k2) hin;omega,by have:=Int.emod_lt_of_pos (rt+k2) (show (0:Int)<i by omega);omega⟩;have s2:IntKind.i64.wrap (q:Int)=(q:Int):=IntWalk.i64_in _ (by omega);have s3:IntKind.i64.wrap (1+(q:Int))=1+(q:Int):=IntWalk.i64_in _ (by omega)))
              all_goals
               go_wp2
               go_meet
               exact ⟨q,hqi,by simp [ag,u0,u1,u2,u3,u4],fun j=>by simp [uf],(MS.trans hgu).av hXl _,hr2.av hRX _⟩
             case rest=>
              clear u0 u1 u2 u3 u4 uf MS wW hXu
              obtain ⟨q,hqi,⟨u0,u1,u2,u3,u4⟩,uf,MS,wW⟩:=hcut
              obtain ⟨wv,rfl⟩:∃ wx:World,wx=wc:=⟨_,rfl⟩
              have hXu:X<wv.heap.size:=World.block_lt_of_cell? _ _ u0
              obtain ⟨⟨t',sv',qv'⟩,htq⟩:∃ x,xs[q]?=some x:=⟨xs[q]'(by have:=Hxl.out;omega),by simp [Hxl.out,hqi]⟩
              obtain ⟨-,-,-,d3,-⟩:=(hO.chg MS (fun b h1 _ e=>by omega)).cells htq
              have hqi2:(q:Int)<(i:Int):=by omega
              have hq0:(0:Int)≤(q:Int):=by omega
              have hTv:T<wv.heap.size:=World.block_lt_of_cell? wv _ d3
              clear htq
              obtain ⟨v3,hv3⟩:∃ v3,v3=t'.aJ:=⟨_,rfl⟩
              rw [← hv3] at d3
              clear hv3
              have fcase:∀ wz:World,Chg (fun b=>b=R) (wv.setCell ⟨X,1,none⟩ (.int .i64 v3)) wz→(wz.cell? ⟨X,0,none⟩=some (.int .i64 (1+(q:Int)))∧wz.cell? ⟨X,1,none⟩=some (.int .i64 v3)∧wz.cell? ⟨X,2,none⟩=some (.bool rrd)∧wz.cell? ⟨X,3,none⟩=some (.bool rwr)∧wz.cell? ⟨X,4,none⟩=some (.bool rwk))∧(∀ j,wz.frozen? ⟨X,j,none⟩=false)∧Chg (fun b=>b=R) wr wz:=fun wz hg=>⟨⟨hg.cell (by simp [ag,u0]) hXR,hg.cell (by simp [ag,u1]) hXR,hg.cell (by simp [ag,u2]) hXR,hg.cell (by simp [ag,u3]) hXR,hg.cell (by simp [ag,u4]) hXR⟩,ai hg (by simpa using hXu) hXR (fun j=>by simp [uf]),(MS.av hXl _).trans hg⟩
              have Fcase:=Lib.hid fcase
              clear fcase
              by_cases hv0:0<v3
              ·go_wp2_with (go_at_call 36;refine (aO R _ _ _ (Rd.av wW hRX _) (by omega) (by omega)).mono ?_;rintro e w2 ⟨k2,rfl,h2a,h2b,hr2,hg2⟩;obtain ⟨⟨y0,y1,y2,y3,y4⟩,yf,IZ⟩:=Fcase.out _ hg2;have hXy:X<w2.heap.size:=World.block_lt_of_cell? _ _ y0)
               all_goals go_meet
               ·exact ⟨⟨X,⟨1+(q:Int),wrap64 (v3 - 1),rrd,rwr,rwk⟩,rfl,hXR,hXl,by simp [ag,y0,y1,y2,y3,y4],fun j=>by simp [yf],by show -1≤1+(q:Int);omega,by show 1+(q:Int)≤9;omega⟩,IZ.av hXl _,(hr2.av hRX _).mono (by omega)⟩
               ·exact ⟨⟨X,⟨1+(q:Int),v3,rrd,rwr,rwk⟩,rfl,hXR,hXl,⟨y0,y1,y2,y3,y4⟩,yf,by show -1≤1+(q:Int);omega,by show 1+(q:Int)≤9;omega⟩,IZ,hr2.mono (by omega)⟩
              ·go_wp2
               go_meet
               obtain ⟨⟨y0,y1,y2,y3,y4⟩,yf,IZ⟩:=Fcase.out _ (Chg.refl _ _)
               exact ⟨⟨X,⟨1+(q:Int),v3,rrd,rwr,rwk⟩,rfl,hXR,hXl,⟨y0,y1,y2,y3,y4⟩,yf,by show -1≤1+(q:Int);omega,by show 1+(q:Int)≤9;omega⟩,IZ,(wW.av hRX _).mono (by omega)⟩
           case rest=>
            clear u0 u1 u2 u3 u4 uf MS wW hXu hb73
            obtain ⟨⟨X',r',eX,-,-,⟨x0,x1,x2,x3,x4⟩,xf,-,-⟩,IZ,hrdy⟩:=hcut
            cases eX
            obtain ⟨xt,xv,xrd,xwr,xwk⟩:=r'
            obtain ⟨wv,rfl⟩:∃ wx:World,wx=wc:=⟨_,rfl⟩
            have hXv:X<wv.heap.size:=World.block_lt_of_cell? _ _ x0
            obtain ⟨ry,hry⟩:∃ y,t.slots[k]?=some y:=⟨t.slots[k],by simp [hkl]⟩
            obtain ⟨B,oB,rfl,-⟩:=hm.at k ry hry
            have hO1:=hO.chg IZ (fun b h1 _ e=>by omega)
            obtain ⟨hPB,-,hBl,-⟩:=hO.slots a _ Hta.out B oB t.slots.length sc rfl (by omega)
            have hBf:=(hO1.slots a _ Hta.out B oB t.slots.length sc rfl (by omega)).2.2.2
            have hBX:¬ B=X:=by omega
            have hBT:¬ B=T:=by intro e;have h1:=(hO.slots a _ Hta.out B oB t.slots.length sc rfl (by omega)).2.1;have h2:=(hO.pos Hta.out).2.2.1;rw [e] at h1;omega
            have hXB:¬ X=B:=by omega
            have hBR:¬ B=R:=by omega
            have hBv:B<wv.heap.size:=by have:=IZ.size;omega
            obtain ⟨-,-,-,-,-,t5,-,-⟩:=hO1.cells Hta.out
            have hm1:=(hO1.dK.2 _ (List.mem_of_getElem? Hta.out)).1
            obtain ⟨bq,oq,eq,-,d0,d1,d2,d3,d4⟩:=hm1.at k ry hry
            cases eq
            have hTv:T<wv.heap.size:=by have:=IZ.size;omega
            have hchw:=hch.trans IZ
            have H1:=Lib.hid hO1
            have Hm:=Lib.hid hm
            have Hm1:=Lib.hid hm1
            have HO:=Lib.hid hO
            clear hO1 hry hm hm1 hO c0 c1 c2 c3 c4 c5 c6 c7 hch IZ hrd
            go_upto_region 26 with (fail)
            go_cut [] (fun wz=>∃ xs' tag' t' qv',au wz (fun b=>w.heap.size≤b) tag' (.slice (some ⟨T,o,none⟩) i vc) xs'∧xs'.length=i∧Bd xs'∧xs'[a]?=some (t',.slice (some ⟨B,oB,none⟩) t'.slots.length sc,qv')∧t'.slots.length=t.slots.length∧(wz.cell? ⟨X,0,none⟩=some (.int .i64 xt)∧wz.cell? ⟨X,1,none⟩=some (.int .i64 xv)∧wz.cell? ⟨X,2,none⟩=some (.bool xrd)∧wz.cell? ⟨X,3,none⟩=some (.bool xwr)∧wz.cell? ⟨X,4,none⟩=some (.bool xwk))∧Chg (fun b=>b=R) w wz∧Rd wz R (M+12))
            case first=>
             go_region_held3 (fun w'=>w'.cell? ⟨T,o+a * 8+5,none⟩=some (.slice (some ⟨B,oB,none⟩) t.slots.length sc)∧w'.cell? ⟨X,0,none⟩=some (.int .i64 xt)∧w'.cell? ⟨X,1,none⟩=some (.int .i64 xv)∧w'.cell? ⟨X,2,none⟩=some (.bool xrd)∧w'.cell? ⟨X,3,none⟩=some (.bool xwr)∧w'.cell? ⟨X,4,none⟩=some (.bool xwk)) (go_keep) (fail)
             all_goals
              go_wp2
              go_meet
              obtain ⟨z1,z2,z3,z4,z5,z6,z7⟩:=EW H1.out Hta.out hkl ⟨xt,xv,xrd,xwr,xwk⟩ hBd Hxl.out hchw hrdy hPB (by omega)
              have e1:(setSlot (k:Int) ⟨xt,xv,xrd,xwr,xwk⟩ t).slots.length=t.slots.length:=by simp [setSlot]
              exact ⟨_,_,setSlot (k:Int) ⟨xt,xv,xrd,xwr,xwk⟩ t,qv,z1,z2,z3,by rw [e1];exact z4,e1,⟨(z7 X 0 hBX).trans x0,(z7 X 1 hBX).trans x1,(z7 X 2 hBX).trans x2,(z7 X 3 hBX).trans x3,(z7 X 4 hBX).trans x4⟩,z5,z6⟩
            case rest=>
             clear x0 x1 x2 x3 x4 xf hrdy hchw H1 Hm1 d0 d1 d2 d3 d4 t5 hBf hXv hTv hBv
             obtain ⟨xs',tag',t',qv',hO2,hxl2,hBd2,hta2,htl2,⟨x0,x1,x2,x3,x4⟩,kT,wW⟩:=hcut
             obtain ⟨wu,rfl⟩:∃ wx:World,wx=wc:=⟨_,rfl⟩
             have H2:=Lib.hid hO2
             have Hta2:=Lib.hid hta2
             have Htl2:=Lib.hid htl2
             have Hxl2:=Lib.hid hxl2
             clear hO2 hta2 htl2 hxl2
             go_upto_region 27 with (fail)
             go_cut [119] (fun s119 wz=>∃ b,s119=.bool b∧Chg (fun b=>b=R) wu wz∧Rd wz R (M+13))
             case first=>
              obtain ⟨ok,hok⟩:∃ ok,aZ ⟨xt,xv,xrd,xwr,xwk⟩=ok:=⟨_,rfl⟩
              have Hok:=Lib.hid hok
              clear hok
              cases ok
              ·go_wp2_with (first
                | (go_at_call 101;refine (mZ ⟨xt,xv,xrd,xwr,xwk⟩ _).mono ?_;rw [Hok.out];rintro e w2 ⟨rfl,hb2⟩)
                | (go_at_call 36;refine (aO R _ _ _ (wW.pure hb2) (by omega) (by omega)).mono ?_;rintro e w3 ⟨k3,rfl,h3a,h3b,hr3,hg3⟩))
               go_meet
               exact ⟨_,rfl,(Chg.ah hb2).trans hg3,hr3⟩
              ·go_wp2_with (first
                | (go_at_call 101;refine (mZ ⟨xt,xv,xrd,xwr,xwk⟩ _).mono ?_;rw [Hok.out];rintro e w2 ⟨rfl,hb2⟩))
               go_meet
               exact ⟨_,rfl,(Chg.ah hb2),(wW.pure hb2).mono (by omega)⟩
             case rest=>
              obtain ⟨b119,rfl,nK,hrd3⟩:=hcut
              obtain ⟨wq,rfl⟩:∃ wx:World,wx=wc:=⟨_,rfl⟩
              have hO3:=H2.out.chg nK (fun b h1 _ e=>by omega)
              have wX:=kT.trans nK
              cases b119
              ·have H3:=Lib.hid hO3
               clear hO3
               go_wp2
               go_roundw
               case rel=>exact ⟨k+1,by go_num,by omega,xs',tag',H3.out,Hxl2.out,hBd2,wX,by have:=HM.out;exact hrd3.mono (by omega)⟩
               case measure=>simp [intOf];omega
              ·have hm2:=(hO3.dK.2 _ (List.mem_of_getElem? Hta2.out)).1
               have hk2:k<t'.slots.length:=by have:=Htl2.out;omega
               obtain ⟨rz,hrz⟩:∃ y,t'.slots[k]?=some y:=⟨t'.slots[k],by simp [hk2]⟩
               obtain ⟨bq,oq,eq,-,d0,d1,d2,d3,d4⟩:=hm2.at k rz hrz
               cases eq
               have hk3:(k:Int)<(t'.slots.length:Int):=by omega
               obtain ⟨-,-,-,-,-,t5,-,-⟩:=hO3.cells Hta2.out
               have hBf:=(hO3.slots a _ Hta2.out B oB t'.slots.length sc rfl (by omega)).2.2.2
               have H3:=Lib.hid hO3
               clear hO3 hm2 hrz
               go_wp2
               go_roundw
               case rel=>
                have hh:=(H3.out.slot Hta2.out hk2 Rgt.null).1
                refine ⟨k+1,by go_num,by omega,_,_,hh,by rw [List.length_set];exact Hxl2.out,?_,(by (repeat refine Chg.av ?_ ?_ _)<;>first|exact wX|exact hPB),(by have:=HM.out;(repeat refine Rd.av ?_ ?_ _)<;>first|exact hrd3.mono (by omega)|(show R<B;omega))⟩
                intro x hx
                rcases List.mem_or_eq_of_mem_set hx with hx|rfl
                ·exact hBd2 x hx
                ·have:=hBd2 _ (List.mem_of_getElem? Hta2.out);simpa [setSlot] using this
               case measure=>simp [intOf];omega
        ·have hkl2:¬ (k:Int)<(t.slots.length:Int):=by omega
         go_wp2
         go_roundw
         case rel=>exact ⟨a+1,by go_num,by omega,xs,tag,hO,Hxl.out,hBd,hch,hrd.mono (by omega)⟩
         case measure=>simp [intOf];omega
      ·have hai2:a=i:=by omega
       subst hai2
       have hlt5:¬ (a:Int)<(a:Int):=by omega
       obtain ⟨xs,tag,hO,hxl,hBd,hch,hrd⟩:=hT
       have Hxl:=Lib.hid hxl
       have HO:=Lib.hid hO
       obtain ⟨hTP,hRT⟩:w.heap.size≤T∧R<T:=by
        obtain ⟨⟨t3,s3,q3⟩,ht3⟩:∃ x,xs[0]?=some x:=⟨xs[0]'(by omega),by simp [hxl]<;>omega⟩
        have:=(hO.pos ht3).2.1
        exact ⟨this,by omega⟩
       clear hxl hO
       go_upto_if 130 with (go_at_call 36;refine (aO R _ _ _ (hrd) (by omega) (by omega)).mono ?_;rintro e w2 ⟨k2,rfl,h2a,h2b,hr2,hg2⟩)
       by_cases hk2:k2=0
       ·subst hk2
        go_wp2_with (first
         | (go_at_call 36;refine (aO R _ _ _ (hr2) (by omega) (by omega)).mono ?_;rintro e w3 ⟨k3,rfl,h3a,h3b,hr3,hg3⟩)
         | (go_at_call 36;refine (aO R _ _ _ (hr3) (by omega) (by omega)).mono ?_;rintro e w4 ⟨k4,rfl,h4a,h4b,hr4,hg4⟩;obtain ⟨k3,rfl⟩:∃ n:Nat,k3=(n:Int):=⟨k3.toNat,by omega⟩;have h3n:k3<a:=(by omega);have hg4':=((hg2.trans hg3).trans hg4);have hO4:=HO.out.chg hg4' (fun b h1 _ e=>by omega);obtain ⟨⟨t3,s3,q3⟩,ht3⟩:∃ x,xs[k3]?=some x:=⟨xs[k3]'(by have:=Hxl.out;omega),by simp [Hxl.out,h3n]⟩;obtain ⟨d0,-⟩:=hO4.cells ht3;have hTf:=(hO4.pos ht3).2.2.2.2;have hT4:=(hO4.pos ht3).2.2.2.1;have HO4:=Lib.hid hO4;have Ht3:=Lib.hid ht3;clear hO4 ht3))
        go_ret
        obtain ⟨z1,z2,z3,z4,z5⟩:=GK HO4.out Ht3.out (1+k4) hBd Hxl.out (hch.trans hg4') hr4 hTP hRT
        exact ⟨_,a,rfl,hj3,by omega,_,_,z1,z2,z3,z4,z5.mono (by omega)⟩
       ·have hk20:(k2 == 0)=false:=by simpa using hk2
        go_wp2
        go_ret
        exact ⟨_,a,rfl,hj3,by omega,xs,tag,HO.out.chg hg2 (fun b h1 _ e=>by omega),Hxl.out,hBd,hch.trans hg2,hr2.mono (by omega)⟩
  ·obtain ⟨m,rfl⟩:∃ m',m=m' + 1:=⟨m - 1,by omega⟩
   have hm1:0<m+1:=by omega
   obtain ⟨ks,hkl,hko,hch,hrd⟩:=hK
   have Hkl:=Lib.hid hkl
   clear hkl
   have hRr:=hrd.lt
   have hwr:=hch.size
   have hblA:Below wr.heap.size wr (wr.alloc (.cells #[.int .i64 1,.int .i64 2,.int .i64 2,.int .i64 3,.int .i64 4,.int .i64 5] 3)):=(by (repeat (with_reducible first|exact bA _ _|refine bB ?_ ?_ _|refine bC ?_ _|refine bD ?_|refine bE ?_ ?_ _|refine bF ?_ (by assumption) ?_))<;>first|omega|(simp;try omega))
   have hrA:=hrd.pure hblA
   have hgA:Chg (fun b=>b=R) wr (wr.alloc (.cells #[.int .i64 1,.int .i64 2,.int .i64 2,.int .i64 3,.int .i64 4,.int .i64 5] 3)):=Chg.ah hblA
   go_wp2_with (first
    | (go_at_call 36;refine (aO R _ _ _ hrA (by omega) (by omega)).mono ?_;rintro e w2 ⟨k2,rfl,h2a,h2b,hr2,hg2⟩;obtain ⟨k2,rfl⟩:∃ n:Nat,k2=(n:Int):=⟨k2.toNat,by omega⟩;have h2n:k2<6:=(by omega);obtain ⟨x2,hx2',-,-⟩:=Gv (n:=6) (w:=wr) hRr hg2 lit6 h2n;have hgB:=hgA.trans hg2;have MR:=aM hko hgB (fun k hk e=>by have:=(hko.lt k hk).1;omega))
    | (at_builtin;refine aL rfl (.tmp 18) (.tmp 24) 30 rfl w.heap.size 3 i0 _ 1 8 Tryz.underlying30 hi hz0 hz1 hz2 rfl (by decide) _ j _ rfl (MR.alloc _) (.slice (some ⟨w2.heap.size,0,none⟩) 1 1) [intCells x2] rfl (bI [x2]) (Rows.one (by intro i u hu;rcases i with _|i;(simp [intCells] at hu;subst hu;simp [go_sem]);(simp [intCells] at hu))) (by simp [maxLen];omega) (by simp;omega) (by simp;have:=hgB.size;omega) ?_;intro v3 w3 ho3 hg3))
   obtain ⟨q3,c3,rfl⟩:=aH ho3
   have Ka:Below w2.heap.size w2 (w2.alloc (.cells #[.int .i64 x2] 3)):=(by (repeat (with_reducible first|exact bA _ _|refine bB ?_ ?_ _|refine bC ?_ _|refine bD ?_|refine bE ?_ ?_ _|refine bF ?_ (by assumption) ?_))<;>first|omega|(simp;try omega))
   go_roundw
   case rel=>
    refine ⟨m,j+1,by go_num,by omega,by omega,⟨_,_,rfl⟩,ks++[x2],by simp [Hkl.out],by simpa using ho3,Chg.wm ((hch.trans hgB).trans (Chg.ah Ka)) hg3 (fun k hk=>(MR.lt k hk).1),(Rd.chg (hr2.pure Ka) (Chg.gX hg3) (fun c hc e=>?_)).mono (by omega)⟩
    have:=(MR.lt c e.symm).1
    omega
   case measure=>simp [intOf]
end Go.Proofs.YthhmolonhpaepaaGreatDoor
