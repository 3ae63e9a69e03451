/- The iterator over all rights hands them over in order. Conditions: the things lie where the table says. -/
import Derived.Test.YthhmolonhpaepaaGreatDoorVIv
import Derived.RangeFuncNested
import Derived.RangeFuncBound
import Derived.RangeFuncCalls
import Derived.RangeFuncLeaves
import Derived.Shelf.Abstract
import Derived.Shelf.RegionOpen
import Derived.OwnWalkIn
import Derived.TacticsInMore
import Derived.LoopNIn
import Derived.LoopIn
import Derived.Test.YthhmolonhpaepaaGreatDoorVD
import Derived.Maps.OwnSet
import Derived.Maps.Views
import Derived.DeepKeys4
set_option linter.unusedVariables false
set_option linter.unusedSimpArgs false
namespace Go.Proofs.YthhmolonhpaepaaGreatDoor
open Go.RowKit Drw Go.Shelf
attribute [local go_sem] Oper.semAt_some
attribute [local go_sem] Lab.val Rgt.val Cal.val Thg.val
def flat (ts:List Thg):List Rgt:=ts.flatMap (·.slots)
theorem sU (ts:List Thg) (k:Nat) (h:k<ts.length):flat (ts.take (k+1))=flat (ts.take k)++ts[k].slots:=by
  unfold flat;rw [List.take_succ_eq_append_getElem h,List.flatMap_append];simp
theorem take_snoc' {α:Type} (l:List α) (k:Nat) (x:α) (h:l[k]?=some x):l.take (k+1)=l.take k++[x]:=by
  obtain ⟨hlt,rfl⟩:=List.getElem?_eq_some_iff.1 h
  rw [List.take_succ_eq_append_getElem hlt]
theorem BP (ts:List Thg) (j:Nat) (tj:Thg) (h:ts[j]?=some tj) (k:Nat):flat (ts.take j)++tj.slots.take k <+: flat ts:=by
  obtain ⟨hlt,rfl⟩:=List.getElem?_eq_some_iff.1 h
  have e:flat ts=flat (ts.take j)++(ts[j].slots++flat (ts.drop (j+1))):=by
    have h1:ts=ts.take j++ts[j]::ts.drop (j+1):=by rw [← List.drop_eq_getElem_cons hlt,List.take_append_drop]
    have h2:=congrArg flat h1
    rw [h2]
    unfold flat
    rw [List.flatMap_append,List.flatMap_cons]
  rw [e]
  refine (List.prefix_append_right_inj _).2 ((List.take_prefix _ _).trans (List.prefix_append _ _))
theorem rH (ts:List Thg) (j:Nat) (tj:Thg) (h:ts[j]?=some tj):flat (ts.take (j+1))=flat (ts.take j)++tj.slots:=by
  obtain ⟨hlt,rfl⟩:=List.getElem?_eq_some_iff.1 h
  exact sU ts j hlt
set_option maxRecDepth 100000 in
set_option maxHeartbeats 2000000 in
theorem wR (n l Bn n₀:Nat) (p:Option Addr) (cap:Nat) (ts:List Thg) (hn:1≤n) (J Jx:List Rgt→World→Prop)
    (hJ:∀ pre W o,J pre W→J pre (W.alloc o))
    (hY:∀ pre x W,J pre W→pre.length<(flat ts).length→YieldAt Fence.wide (n - 1) Tryz.prog l #[Rgt.val x] W fun e W'=>
      (e=.returned (.bool true)∧J (pre++[x]) W'∧Below n₀ W W')∨(e=.returned (.bool false)∧Jx (pre++[x]) W'))
    (w₀ W:World) (hw₀:w₀.heap.size=n₀) (hb₀:Below n₀ w₀ W) (hBn:w₀.cell? ⟨Bn,0,none⟩=some (.slice p ts.length cap)) (hT:TabAt w₀ (.slice p ts.length cap) ts) (h0:J [] W) :
    CallsIn Fence.wide n Tryz.prog 107 #[.func (.yield l) #[] #[],.pointer (some ⟨Bn,0,none⟩)] W fun e W'=>(∃ v,e=.returned v) ∧
      ((∃ ys,ys=flat ts∧J ys W')∨(∃ pre,pre <+: flat ts∧Jx pre W')):=by
  have hBlt:Bn<w₀.heap.size:=World.block_lt_of_cell? w₀ _ hBn
  obtain ⟨_,_,h1,hl1,hl2⟩:=hT.len
  cases h1
  unfold maxLen at hl2
  have hcB:W.cell? ⟨Bn,0,none⟩=some (.slice p ts.length cap):=(hb₀.cell (p:=⟨Bn,0,none⟩) (by simpa [hw₀] using hBlt)).trans hBn
  refine callsIn_of_wp Tryz.func107 rfl trivial ?_ rfl
  simp only [Tryz.ntmps107,List.size_toArray,List.length_cons,List.length_nil,Nat.reduceAdd,Nat.reduceSub,Array.replicate_succ,Array.replicate_zero,List.push_toArray,List.append_toArray,List.nil_append,List.cons_append]
  gi_wp2
  gi_loopw [9] (fun i wr=>∃ j:Nat,j≤ts.length∧i=.int .i64 j∧Below n₀ w₀ wr∧J (flat (ts.take j)) wr) (fun i _=>ts.length - (intOf i).toNat)
  case atStart=>exact ⟨0,Nat.zero_le _,rfl,hb₀,h0⟩
  case round=>
    obtain ⟨j,hj,rfl,hbr,hJr⟩:=hrel
    by_cases hlt:j<ts.length
    · obtain ⟨tj,htj⟩:∃ t,ts[j]?=some t:=⟨ts[j],by simp [hlt]⟩
      have Htj:=Lib.hid htj
      obtain ⟨b,o,sv,qv,rfl,hbk,hS,hQ,c0,c1,c2,c3,c4,c5,c6,c7⟩:=(hT.pure (by rw [hw₀];exact hbr)).at j tj htj
      have hS0:aF w₀ sv tj.slots:=by
        obtain ⟨b',o',sv',qv',hp,_,hS',_,_,_,_,_,_,d5,_,_⟩:=hT.at j tj htj
        cases hp
        have:=(hbr.cell (p:=⟨b,o+j * 8+5,none⟩) (by rw [← hw₀];exact World.block_lt_of_cell? w₀ _ d5)).trans d5
        rw [c5] at this;cases this;exact hS'
      obtain ⟨p',cap',rfl,GR,GQ⟩:=hS.len
      obtain ⟨p'',cap'',rfl,hl1'',hl2''⟩:=hQ.len
      unfold maxLen at GQ
      clear htj
      gi_wp2
      gi_loopw [16] (fun i wi=>∃ k:Nat,k≤tj.slots.length∧i=.int .i64 k∧Below n₀ w₀ wi∧J (flat (ts.take j)++tj.slots.take k) wi) (fun i _=>tj.slots.length - (intOf i).toNat)
      case atStart=>exact ⟨0,Nat.zero_le _,rfl,hbr.trans ((Below.refl _ _).alloc (by rw [← hw₀];exact hbr.size) _),by simpa using hJ _ _ _ hJr⟩
      case round=>
        obtain ⟨k,hk,rfl,hbi,hJi⟩:=hrel
        by_cases hlk:k<tj.slots.length
        · obtain ⟨r,hr⟩:∃ r,tj.slots[k]?=some r:=⟨tj.slots[k],by simp [hlk]⟩
          have Hr:=Lib.hid hr
          have hlen:(flat (ts.take j)++tj.slots.take k).length<(flat ts).length:=by
            have h2:=(BP _ _ _ Htj.out (k+1)).length_le
            rw [take_snoc' _ _ _ hr,← List.append_assoc] at h2
            simp at h2 ⊢;omega
          obtain ⟨b',o',rfl,hbk',d0,d1,d2,d3,d4⟩:=(hS0.pure (by rw [hw₀];exact hbi)).at k r hr
          clear hr
          obtain ⟨fn,tmps,assign,body,hy,hR⟩:=hY (flat (ts.take j)++tj.slots.take k) r (wr.alloc (.cells #[.int .i64 r.thing,.int .i64 r.aJ,.bool r.rd,.bool r.wr,.bool r.wk] 69)) (hJ _ _ _ hJi) hlen
          dsimp only [Rgt.val] at hy
          gi_wp2
          refine hR.mono ?_
          rintro e W3 (⟨rfl,hJ3,hk3⟩|⟨rfl,hJx3⟩)
          · gi_wp2
            go_roundw
            case rel=>
              refine ⟨k+1,by omega,by go_num,?_,?_⟩
              · exact (hbi.trans ((Below.refl _ _).alloc (by rw [← hw₀];exact hbi.size) _)).trans hk3
              · rw [take_snoc' _ _ _ Hr.out,← List.append_assoc];exact hJ3
            case measure=>simp [intOf];omega
          · gi_wp2
            refine bodyPost_ret (v:=.tuple #[]) (results_none (fn:=Tryz.f107) (by rfl) _ _ _) rfl ⟨⟨_,rfl⟩,.inr ⟨_,?_,hJx3⟩⟩
            rw [List.append_assoc,← take_snoc' _ _ _ Hr.out]
            exact BP _ _ _ Htj.out _
        · gi_wp2
          go_roundw
          case rel=>
            have e:k=tj.slots.length:=by omega
            subst e
            exact ⟨j+1,by omega,by go_num,hbi,by rw [rH _ _ _ Htj.out];simpa using hJi⟩
          case measure=>simp [intOf];omega
    · gi_wp2
      go_end0
      have e:j=ts.length:=by omega
      subst e
      exact ⟨⟨_,rfl⟩,.inl ⟨_,rfl,by simpa using hJr⟩⟩
end Go.Proofs.YthhmolonhpaepaaGreatDoor
namespace Go.Proofs.YthhmolonhpaepaaGreatDoor
open Go.RowKit Drw
attribute [local go_sem] Oper.semAt_some
attribute [local go_sem] Lab.val Rgt.val Cal.val Thg.val
def rowOk (ts:List Thg) (t:Thg):Bool:=aP t && dP ts t && t.slots.all (bK ts)
theorem qh (ts:List Thg):aU ts=(ts.all (rowOk ts) && inR ts.length 1 8):=by
  unfold aU rowOk
  rw [Bool.eq_iff_iff]
  simp only [Bool.and_eq_true,List.all_eq_true]
  grind
theorem jv {ts:List Thg} {t:Thg} (hm:t∈ts) (h:rowOk ts t=false):aU ts=false:=by
  rw [qh]
  have:ts.all (rowOk ts)=false:=by rw [List.all_eq_false];exact ⟨t,hm,by simp [h]⟩
  rw [this];rfl
theorem xx {t:Thg} (h:aP t=true) (r:Rgt) (hr:r∈t.slots):aZ r=true:=by
  rw [eT] at h
  simp only [Bool.and_eq_true,List.all_eq_true] at h
  exact h.1.1.2 r hr
theorem FI {r:Rgt} (h:aZ r=true):0≤r.thing∧r.thing≤8:=by
  unfold aZ inR at h
  split at h
  · omega
  · simp at h;omega
theorem nM {t:Thg} (h:aP t=true) (hk:t.kind=5):1≤t.to∧t.to≤8:=by
  unfold aP at h
  simp only [Bool.and_eq_true] at h
  have:=h.2
  simp [jT,hk,inR] at this
  exact this
theorem wB {ts:List Thg} {j:Nat} {t:Thg} (h:ts[j]?=some t):aC ts ((j:Int)+1)=t:=by
  simp [aC,h]
set_option maxRecDepth 100000 in
set_option maxHeartbeats 4000000 in
theorem gm (p:Option Addr) (cap:Nat) (ts:List Thg) (w:World) (hT:TabAt w (.slice p ts.length cap) ts) :
    Calls Tryz.prog 42 #[.slice p ts.length cap] w fun e w'=>e=.returned (.bool (aU ts))∧Below w.heap.size w w':=by
  obtain ⟨_,_,h1,hl1,hl2⟩:=hT.len
  cases h1
  unfold maxLen at hl2
  go_enter Tryz.func42,Tryz.ntmps42
  go_wp2
  go_loopw [3] (fun i wr=>∃ j:Nat,j≤ts.length∧i=.int .i64 j∧(ts.take j).all (rowOk ts)=true∧Below w.heap.size w wr) (fun i _=>ts.length - (intOf i).toNat)
  case atStart=>exact ⟨0,Nat.zero_le _,rfl,by simp,Below.refl _ _⟩
  case round=>
    obtain ⟨j,hj,rfl,hall,hB⟩:=hrel
    have lL:=Lib.hid hall
    clear hall
    by_cases hlt:j<ts.length
    · obtain ⟨tj,htj⟩:∃ t,ts[j]?=some t:=⟨ts[j],by simp [hlt]⟩
      have hmem:tj∈ts:=List.mem_of_getElem? htj
      have Htj:=Lib.hid htj
      obtain ⟨b,o,sv,qv,rfl,hbk,hS,hQ,c0,c1,c2,c3,c4,c5,c6,c7⟩:=(hT.pure hB).at j tj htj
      obtain ⟨p',cap',rfl,GR,GQ⟩:=hS.len
      obtain ⟨p'',cap'',rfl,hl1'',hl2''⟩:=hQ.len
      unfold maxLen at GQ
      clear htj
      by_cases hok:aP tj=true
      · have hgate:=nM hok
        have hrs:=xx hok
        by_cases hg:dP ts tj=true
        · have hgt:tj.kind=5→∃ m:Nat,tj.to=(m:Int)+1∧m<ts.length∧∃ tt,ts[m]?=some tt∧tt.kind=1:=by
            intro hk
            obtain ⟨h1,h2⟩:=hgate hk
            simp [dP,hk,bS] at hg
            obtain ⟨m,hm,hm'⟩:=eO hg.1
            exact ⟨m,hm,(List.getElem?_eq_some_iff.1 hm').1,_,hm',hg.2⟩
          have Hog:=Lib.hid (And.intro hok hg)
          clear hg hgate hok
          obtain ⟨k,⟨s,v⟩,ve,nu,sl,qu,tg⟩:=tj
          dsimp only at hS hQ c0 c1 c2 c3 c4 c5 c6 c7 hgt GR GQ hrs
          have Hrs:=Lib.hid hrs
          clear hrs
          have HT:=Lib.hid hT
          rcases Decidable.em (k=5) with hk5|hk5
          all_goals first
            | (subst hk5
               obtain ⟨m,rfl,hml,tt,htt,htk⟩:=hgt rfl
               clear hgt
               obtain ⟨b2,o2,sv2,qv2,hbo,-,-,-,d0,-⟩:=(hT.pure hB).at m tt htt
               cases hbo
               rw [htk] at d0
               clear htt htk
               go_upto_region 6 with (go_at_call 78;refine (dW ⟨_,⟨_,_⟩,_,_,sl,qu,_⟩ _ _ _ hS hQ).mono ?_;rw [Hog.out.1];rintro e w1 ⟨rfl,hb1⟩;obtain ⟨hc1,hf1⟩:=ax hb1))
            | (have hk5':(k == 5)=false:=by simp [hk5]
               clear hgt hk5
               go_upto_region 6 with (go_at_call 78;refine (dW ⟨_,⟨_,_⟩,_,_,sl,qu,_⟩ _ _ _ hS hQ).mono ?_;rw [Hog.out.1];rintro e w1 ⟨rfl,hb1⟩;obtain ⟨hc1,hf1⟩:=ax hb1))
          all_goals
            go_wp2
            go_loopw [4] (fun i wq=>∃ q:Nat,q≤sl.length∧i=.int .i64 q∧(sl.take q).all (bK ts)=true∧Below w1.heap.size w1 wq) (fun i _=>sl.length - (intOf i).toNat)
            case atStart=>exact ⟨0,Nat.zero_le _,rfl,by simp,Below.refl _ _⟩
            case round=>
              obtain ⟨q,hq,rfl,hall,hBq⟩:=hrel
              have KN:=Lib.hid hall
              clear hall
              have hBw:Below w.heap.size w wr:=hB.trans ((hb1.trans (hBq.mono hb1.size)).mono hB.size)
              obtain ⟨hcq,hfq⟩:=ax hBq
              have hs1:=hb1.size
              have hsq:=hBq.size
              have hbk2:b<wr.heap.size:=by omega
              have c5':=((hcq b (o+j * 8+5) (by omega)).trans (hc1 b (o+j * 8+5) hbk)).trans c5
              by_cases hlq:q<sl.length
              · obtain ⟨⟨th,ve2,rd,wt,wk⟩,hr⟩:∃ r,sl[q]?=some r:=⟨sl[q],by simp [hlq]⟩
                obtain ⟨b',o',hp,hbk',r0,r1,r2,r3,r4⟩:=((hS.pure hb1).pure hBq).at q _ hr
                dsimp only at r0 r1 r2 r3 r4
                have hmr:=List.mem_of_getElem? hr
                have hth:=(FI (Hrs.out _ hmr)).1
                dsimp only at hth
                have Hr:=Lib.hid (And.intro hr hmr)
                subst hp
                clear hr hmr
                by_cases h0:th=0
                · subst h0
                  have hd:decide ((ts.length:Int)<0)=false:=by simp
                  have hcap:bK ts ⟨0,ve2,rd,wt,wk⟩=true:=by simp [bK]
                  go_wp2
                  go_quiet (fail)
                  go_wp2
                  go_roundw
                  case rel=>exact ⟨q+1,by omega,by go_num,by rw [take_snoc' _ _ _ Hr.out.1,List.all_append,KN.out];simpa using hcap,by (repeat (with_reducible first|refine below_drewN ?_ _|refine Below.alloc ?_ ?_ _|refine Below.setCell ?_ ?_ _))<;>(first|exact hBq|omega|(simp;omega))⟩
                  case measure=>simp [intOf];omega
                · obtain ⟨x,jl⟩:∃ x:Nat,th=(x:Int)+1:=⟨(th - 1).toNat,by omega⟩
                  by_cases hx:x<ts.length
                  · obtain ⟨tx,htx⟩:∃ t,ts[x]?=some t:=⟨ts[x],by simp [hx]⟩
                    obtain ⟨b3,o3,sv3,qv3,hbo,-,-,-,-,-,-,e3,-⟩:=(HT.out.pure hBw).at x tx htx
                    cases hbo
                    have hgx:=wB htx
                    rw [← jl] at hgx
                    have hex:ex ts th=true:=by simp [ex,inR];omega
                    have hcap0:bK ts ⟨th,ve2,rd,wt,wk⟩=decide (ve2≤tx.aJ):=by
                      simp [bK,hex,hgx];try (intro h;omega)
                    have Lu:=Lib.hid hcap0
                    clear htx hgx hex hcap0
                    have hd:decide ((ts.length:Int)<th)=false:=by simp;omega
                    have hd0:decide ((0:Int)<th)=true:=by simp;omega
                    have hw1:IntKind.i64.wrap (th - 1)=(x:Int):=by rw [show th - 1=x by omega];exact IntWalk.i64_in _ (by omega)
                    have hw2:IntKind.i64.wrap (x:Int)=(x:Int):=IntWalk.i64_in _ (by omega)
                    have hx0:(0:Int)≤(x:Int):=by omega
                    have hxl:(x:Int)<(ts.length:Int):=by omega
                    clear hth h0 jl
                    by_cases hv:tx.aJ<ve2
                    · have hcap:bK ts ⟨th,ve2,rd,wt,wk⟩=false:=by rw [Lu.out];simp;omega
                      have hd2:decide (tx.aJ<ve2)=true:=by simpa using hv
                      go_wp2
                      go_quiet (fail)
                      go_wp2
                      go_ret
                      exact ⟨aj (jv hmem (by
                        have hx2:sl.all (bK ts)=false:=by rw [List.all_eq_false];exact ⟨_,Hr.out.2,by simp [hcap]⟩
                        simp only [rowOk,hx2,Bool.and_false])).symm,by (repeat (with_reducible first|refine below_drewN ?_ _|refine Below.alloc ?_ ?_ _|refine Below.setCell ?_ ?_ _))<;>(first|exact hBw|(have:=hBw.size;omega)|(simp;(have:=hBw.size);omega))⟩
                    · have hcap:bK ts ⟨th,ve2,rd,wt,wk⟩=true:=by rw [Lu.out];simp;omega
                      have hd2:decide (tx.aJ<ve2)=false:=by simpa using hv
                      go_wp2
                      go_quiet (fail)
                      go_wp2
                      go_roundw
                      case rel=>exact ⟨q+1,by omega,by go_num,by rw [take_snoc' _ _ _ Hr.out.1,List.all_append,KN.out];simpa using hcap,by (repeat (with_reducible first|refine below_drewN ?_ _|refine Below.alloc ?_ ?_ _|refine Below.setCell ?_ ?_ _))<;>(first|exact hBq|omega|(simp;omega))⟩
                      case measure=>simp [intOf];omega
                  · have hd:decide ((ts.length:Int)<th)=true:=by simp;omega
                    have hcap:bK ts ⟨th,ve2,rd,wt,wk⟩=false:=by
                      have hex:ex ts th=false:=by simp [ex,inR];omega
                      have:¬ (th=0):=by omega
                      simp [bK,hex,this]
                    clear hth h0 jl hx
                    go_wp2
                    go_quiet (fail)
                    go_wp2
                    go_ret
                    exact ⟨aj (jv hmem (by
                      have hx2:sl.all (bK ts)=false:=by rw [List.all_eq_false];exact ⟨_,Hr.out.2,by simp [hcap]⟩
                      simp only [rowOk,hx2,Bool.and_false])).symm,by (repeat (with_reducible first|refine below_drewN ?_ _|refine Below.alloc ?_ ?_ _|refine Below.setCell ?_ ?_ _))<;>(first|exact hBw|(have:=hBw.size;omega)|(simp;(have:=hBw.size);omega))⟩
              · have e:q=sl.length:=by omega
                have HQ:=KN.out
                rw [e,List.take_of_length_le (Nat.le_refl _)] at HQ
                have HQ':=Lib.hid HQ
                clear KN e HQ
                go_wp2
                go_roundw
                case rel=>exact ⟨j+1,by omega,by go_num,by rw [take_snoc' _ _ _ Htj.out,List.all_append,lL.out];simp [rowOk,Hog.out.1,Hog.out.2,HQ'.out],hBw⟩
                case measure=>simp [intOf];omega
        · have hg':dP ts tj=false:=by simpa using hg
          have hk5:tj.kind=5:=by
            cases Decidable.em (tj.kind=5) with
            | inl h=>exact h
            | inr h=>exfalso;simp [dP,h] at hg'
          obtain ⟨hg1,hg2⟩:=hgate hk5
          obtain ⟨x,hx⟩:∃ x:Nat,tj.to=(x:Int)+1:=⟨(tj.to - 1).toNat,by omega⟩
          have hrow:rowOk ts tj=false:=by simp [rowOk,hg']
          have hno:x<ts.length→∃ tt,ts[x]?=some tt∧(tt.kind != 1)=true:=by
            intro hl
            have htx:ts[x]?=some ts[x]:=by simp [hl]
            refine ⟨_,htx,?_⟩
            have hex:ex ts ((x:Int)+1)=true:=by simp [ex,inR];omega
            simpa [dP,hk5,bS,hx,hex,wB htx] using hg'
          have Hok:=Lib.hid (And.intro hok hrow)
          have HT:=Lib.hid hT
          clear hg hg' hgate hrs hok hrow hg1 hg2
          obtain ⟨k,⟨s,v⟩,ve,nu,sl,qu,tg⟩:=tj
          dsimp only at hS hQ c0 c1 c2 c3 c4 c5 c6 c7 hk5 hx GR GQ
          subst hk5
          subst hx
          by_cases hl:x<ts.length
          · obtain ⟨tt,htt,htk⟩:=hno hl
            obtain ⟨b2,o2,sv2,qv2,hbo,-,-,-,d0,-⟩:=(hT.pure hB).at x tt htt
            cases hbo
            clear htt hno
            go_wp2_with (go_at_call 78;refine (dW ⟨_,⟨_,_⟩,_,_,sl,qu,_⟩ _ _ _ hS hQ).mono ?_;rw [Hok.out.1];rintro e w1 ⟨rfl,hb1⟩;obtain ⟨hc1,hf1⟩:=ax hb1)
            all_goals first
              | (go_ret
                 exact ⟨aj (jv hmem Hok.out.2).symm,hB.trans (hb1.mono hB.size)⟩)
              | (exfalso;omega)
              | (exfalso;simp_all;done)
          · clear hno
            go_wp2_with (go_at_call 78;refine (dW ⟨_,⟨_,_⟩,_,_,sl,qu,_⟩ _ _ _ hS hQ).mono ?_;rw [Hok.out.1];rintro e w1 ⟨rfl,hb1⟩;obtain ⟨hc1,hf1⟩:=ax hb1)
            all_goals first
              | (go_ret
                 exact ⟨aj (jv hmem Hok.out.2).symm,hB.trans (hb1.mono hB.size)⟩)
              | (exfalso;omega)
      · have hok':aP tj=false:=by simpa using hok
        have Hok:=Lib.hid hok'
        clear hok hok'
        go_wp2_with (go_at_call 78;refine (dW ⟨_,⟨_,_⟩,_,_,tj.slots,tj.queue,_⟩ _ _ _ ((hS.pure (by (repeat (with_reducible first|exact bA _ _|refine bB ?_ ?_ _|refine bC ?_ _|refine bD ?_|refine bE ?_ ?_ _|refine bF ?_ (by assumption) ?_))<;>first|omega|(simp;try omega)))) ((hQ.pure (by (repeat (with_reducible first|exact bA _ _|refine bB ?_ ?_ _|refine bC ?_ _|refine bD ?_|refine bE ?_ ?_ _|refine bF ?_ (by assumption) ?_))<;>first|omega|(simp;try omega))))).mono ?_;rw [Hok.out];rintro e w1 ⟨rfl,hb1⟩;obtain ⟨hc1,hf1⟩:=ax hb1)
        go_ret
        exact ⟨aj (jv hmem (by simp [rowOk,Hok.out])).symm,hB.trans (hb1.mono hB.size)⟩
    · have e:j=ts.length:=by omega
      have HQ:=lL.out
      rw [e,List.take_of_length_le (Nat.le_refl _)] at HQ
      clear lL
      go_wp2_with (go_at_call 79;refine (jL _ _ _ _).mono ?_;rintro e w' ⟨rfl,rfl⟩)
      go_ret
      exact ⟨aj (by simp [qh,HQ]),(by (repeat (with_reducible first|exact bA _ _|refine bB ?_ ?_ _|refine bC ?_ _|refine bD ?_|refine bE ?_ ?_ _|refine bF ?_ (by assumption) ?_))<;>first|omega|(simp;try omega))⟩
end Go.Proofs.YthhmolonhpaepaaGreatDoor
namespace Go.Proofs.YthhmolonhpaepaaGreatDoor
open Go.RowKit Drw
attribute [local go_sem] Lab.val Rgt.val Cal.val Thg.val
end Go.Proofs.YthhmolonhpaepaaGreatDoor
namespace Go.Proofs.YthhmolonhpaepaaGreatDoor
open Go.RowKit Drw
attribute [local go_sem] Lab.val Rgt.val Cal.val Thg.val
end Go.Proofs.YthhmolonhpaepaaGreatDoor
