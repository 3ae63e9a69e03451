/- One waits for n goroutines that make memory: the walk through Wait, whatever the others do. Conditions: none. -/
import Derived.Test.YthhmolonhpaepaaGreatDoorVJt
import Derived.Conc.WgGenN3
import Derived.Test.YthhmolonhpaepaaGreatDoorChecked
set_option linter.unusedVariables false
set_option linter.unusedSimpArgs false
section
namespace Ren
open Go Go.Conc Go.ConcN Go.RowKit Go.Conc.Lib Go.ConcR.Gen Go.ConcN.Gen
open Go.ConcR (KK wgBlock WgAt stA smA rd wr mk Payload Aside2 DC0)
variable [Payload] {L:WgLink}
def AnchW (L:WgLink) (Wg:Nat) (c:Frame) (cs:List Frame) (g:Goroutine) (w:World):Prop:=
 ∃ T:Array Value,g=G ((Go.Conc.base L.wait).at ⟨T,[]⟩ [.code (L7 L),.inLoop (L7 L),.inBlock 0]) (c::cs)∧T.size=84∧T[0]?=some (.pointer (some ⟨Wg,0,none⟩))∧WgLive L.tWg Wg w
def gQ (P:Program) (c:Frame) (cs:List Frame) (g:Goroutine) (w:World):Prop:=
 ∃ m,Goes P true AtRel DC0 (fun g' w'=>g'=G (c.finish (.tuple #[])) cs∧AtRel w w') m g w
section
variable {P:Program} {c:Frame} {cs:List Frame} {Wg:Nat}
omit [Payload] in
theorem NP {w w1:World} (h:WgLive L.tWg Wg w) (r:RWg L.tWg Wg w w1):WgLive L.tWg Wg w1:=r h
omit [Payload] in
theorem ae {w0 w w1:World} (h:AtRel w0 w) (r:AtRel w w1):AtRel w0 w1:=atRel_trans _ _ _ h r
omit [Payload] in
set_option maxRecDepth 100000 in
set_option maxHeartbeats 8000000 in
theorem Cr (H:WgLib P L) (K:Ph) (hP:P=K.P) (ht:L.tWg=K.ty) (w:World) (hF:WgLive L.tWg K.Wg w):Goes P true (RWg K.ty K.Wg) DC0 (K.AtKd (AnchW L K.Wg c cs)) 40 (G (Frame.enter P L.wait #[.pointer (some ⟨K.Wg,0,none⟩)] .normal) (c::cs)) w:=by
 obtain ⟨P0,ty,tT,tI,Wg,C,n,lo,Low,S,Shun,w0,t0,Good,oL⟩:=K
 dsimp only at hP ht hF ⊢
 subst hP ht
 have he:Frame.enter P L.wait #[.pointer (some ⟨Wg,0,none⟩)] .normal=(Go.Conc.base L.wait).at ⟨#[.pointer (some ⟨Wg,0,none⟩)]++Array.replicate 83 undef,[]⟩ [.code (body_wait L)]:=by
  simp only [Frame.enter,H.f_wait,Option.map_some,Option.bind_some,Frame.at,Go.Conc.base]
  rfl
 rw [he]
 clear he
 lib_facts
 simp only [body_wait,waitFn,Option.getD_some]
 repeat (first|u_c stepG_seq NP hF|u_cond true NP hF|u_reg NP hF)
 refine Goes.stop (fun w₁ h₁=>?_)
 replace hF:=NP hF h₁
 clear h₁
 refine ⟨rfl,_,stepG_mark0 .disable (by simp) rfl rfl (by k_ne) rfl H.f_disable (x_disable_n L) (x_disable_b L) (x_disable_x L) (x_disable_f L),6,?_⟩
 walk_nrm
 u_c stepG_region_end NP hF
 u_c stepG_block NP hF
 u_c stepG_loop NP hF
 exact Goes.stop (fun w₂ h₂=>⟨_,rfl,by simp,by simp,NP hF h₂⟩)
omit [Payload] in
theorem tF (H:WgLib P L) {T:Array Value} {k:List Item} {w0 w:World} {m:Nat} (hF:AtRel w0 w):Goes P true AtRel DC0 (fun g' w'=>g'=G (c.finish (.tuple #[])) cs∧AtRel w0 w') (m+1) (G { (Go.Conc.base L.wait).at ⟨T,[]⟩ k with mode:=.returning } (c::cs)) w:=by
 refine Goes.step rfl (fun w1 h1=>?_)
 have hr:(waitFn L).results=#[]:=rfl
 rw [stepG_leave (by rfl) rfl H.f_wait (results_none hr _ P w1) (events_results_none hr _ _)]
 simp only [goes_go]
 exact ⟨⟨rfl,rfl⟩,Goes.stop (fun w2 h2=>⟨rfl,atRel_trans _ _ _ (atRel_trans _ _ _ hF h1) h2⟩)⟩
omit [Payload] in
set_option maxRecDepth 100000 in
set_option maxHeartbeats 16000000 in
theorem Cs (H:WgLib P L) (K:Ph) (hP:P=K.P) (ht:L.tWg=K.ty) (hC:∀ g w,WgLive K.ty K.Wg w→g.status=.running→gQ P c cs g w→K.oL g w) (g:Goroutine) (w:World) (h:AnchW L K.Wg c cs g w):∃ m,Goes P true (RWg K.ty K.Wg) DC0 (K.AtW1 (AnchW L K.Wg c cs)) m g w:=by
 obtain ⟨P0,ty,tT,tI,Wg,C,n,lo,Low,S,Shun,w0,t0,Good,oL⟩:=K
 dsimp only at hP ht h hC ⊢
 subst hP ht
 lib_facts
 obtain ⟨T,rfl,hT84,t0',hF⟩:=h
 obtain ⟨v0,v1,v2,v3,v4,v5,v6,v7,v8,v9,v10,v11,v12,v13,v14,v15,v16,v17,v18,v19,v20,v21,v22,v23,v24,v25,v26,v27,v28,v29,v30,v31,v32,v33,v34,v35,v36,v37,v38,v39,v40,v41,v42,v43,v44,v45,v46,v47,v48,v49,v50,v51,v52,v53,v54,v55,v56,v57,v58,v59,v60,v61,v62,v63,v64,v65,v66,v67,v68,v69,v70,v71,v72,v73,v74,v75,v76,v77,v78,v79,v80,v81,v82,v83,rfl⟩:=array84 T hT84
 simp only [List.getElem?_toArray,List.getElem?_cons_zero,Option.some.injEq] at t0'
 subst t0'
 refine ⟨60,?_⟩
 simp only [L7,body_wait,waitFn,Option.getD_some]
 u_c stepG_block NP hF
 u_c stepG_seq NP hF
 u_reg NP hF
 u_op NP hF
 u_op NP hF
 u_op NP hF
 u_call H.f_uLoad (nm_uLoad L) uLoadFn NP hF
 u_c stepG_seq NP hF
 u_reg NP hF
 u_op NP hF
 u_c stepG_region_end NP hF
 u_c stepG_seq NP hF
 u_reg NP hF
 u_op NP hF
 u_op NP hF
 u_op NP hF
 refine Goes.stop (fun w₁ h'=>?_)
 replace hF:=NP hF h'
 clear h'
 refine ⟨rfl,fun v hv hw=>?_⟩
 rcases Nat.eq_zero_or_pos v with rfl|hvp
 ·replace hw:WgAt L.tWg Wg w₁ 0 0:=by simpa using hw
  refine ⟨_,stepG_load_atomic (v:=0) rfl rfl (by k_ne) rfl H.f_loadU64 (x_loadU64_n L) (x_loadU64_b L) (x_loadU64_x L) .u64 (x_loadU64_f L) rfl hw.cellSt,fun _=>⟨80,?_⟩,fun h=>absurd rfl h⟩
  clear hw
  walk_nrm
  u_op NP hF
  u_c stepG_region_end NP hF
  u_c stepG_ret' NP hF
  u_leave1 H.f_uLoad NP hF
  u_op NP hF
  u_c stepG_region_end NP hF
  u_c stepG_seq NP hF
  u_reg NP hF
  u_op NP hF
  u_op NP hF
  u_op NP hF
  u_op NP hF
  u_c stepG_region_end NP hF
  u_c stepG_seq NP hF
  u_reg NP hF
  u_op NP hF
  u_op NP hF
  u_op NP hF
  u_op NP hF
  u_c stepG_region_end NP hF
  u_c stepG_seq NP hF
  u_c stepG_seq NP hF
  u_reg NP hF
  u_op NP hF
  u_op NP hF
  u_c stepG_region_end NP hF
  u_cond true NP hF
  u_c stepG_seq NP hF
  u_cond true NP hF
  u_c stepG_seq NP hF
  u_reg NP hF
  refine Goes.stop (fun w₅ h'=>?_)
  replace hF:=NP hF h'
  clear h'
  refine ⟨rfl,_,stepG_mark0 .enable (by simp) rfl rfl (by k_ne) rfl H.f_enable (x_enable_n L) (x_enable_b L) (x_enable_x L) (x_enable_f L),30,?_⟩
  walk_nrm
  u_c stepG_region_end NP hF
  u_reg NP hF
  u_op NP hF
  u_conv H.underlying_tWgP H.room_tWg (WgLive.cell0 hF).choose_spec NP hF
  refine Goes.stop (fun w₆ h'=>?_)
  replace hF:=NP hF h'
  clear h'
  refine ⟨rfl,_,stepG_markAt .acquire (by simp) rfl rfl (by k_ne) rfl H.f_acquire (x_acquire_n L) (x_acquire_b L) (x_acquire_x L) (x_acquire_f L) (by simp [Act.eval,stA]),rfl,hC _ _ hF rfl ⟨60,?_⟩⟩
  replace hF:AtRel w₆ w₆:=atRel_refl _
  walk_nrm
  u_c stepG_region_end ae hF
  u_c stepG_seq ae hF
  u_c stepG_seq ae hF
  u_reg ae hF
  u_op ae hF
  u_op ae hF
  u_op ae hF
  u_op ae hF
  u_op ae hF
  u_op ae hF
  u_op ae hF
  u_op ae hF
  u_skip ae hF
  u_skip ae hF
  u_op ae hF
  u_c stepG_region_end ae hF
  u_cond false ae hF
  u_c stepG_skip ae hF
  u_c stepG_ret' ae hF
  exact tF H hF
 ·obtain ⟨S',hS⟩:∃ S:Int,(v:Int) * KK=S:=⟨_,rfl⟩
  have a1:S' / 4294967296=(v:Int):=by rw [← hS];simp only [KK];omega
  have b1:bits .and .u64 S' 2147483648=0:=by rw [← hS];have:=st_flag v 0 (by omega) (by omega);simpa [KK] using this
  have b2:bits .and .u64 S' 2147483647=0:=by rw [← hS];have:=st_waiters v 0 (by omega) (by omega);simpa [KK] using this
  have c1:IntKind.i32.wrap (v:Int)=(v:Int):=by rw [IntKind.wrap_i32];omega
  have w1:IntKind.u64.wrap (S' + 1)=S' + 1:=by rw [IntKind.wrap_u64,← hS];simp only [KK];omega
  have q3:decide ((v:Int)<0)=false:=decide_eq_false (by omega)
  have q4:decide (0<(v:Int))=true:=decide_eq_true (by omega)
  have q5:((v:Int) == 0)=false:=by simp;omega
  have q6:decide ((v:Int)=0)=false:=decide_eq_false (by omega)
  rw [hS] at hw
  refine ⟨_,stepG_load_atomic (v:=S') rfl rfl (by k_ne) rfl H.f_loadU64 (x_loadU64_n L) (x_loadU64_b L) (x_loadU64_x L) .u64 (x_loadU64_f L) rfl hw.cellSt,fun h0=>absurd h0 (by omega),fun _=>⟨100,?_⟩⟩
  clear hw
  walk_nrm
  u_op NP hF
  u_c stepG_region_end NP hF
  u_c stepG_ret' NP hF
  u_leave1 H.f_uLoad NP hF
  u_op NP hF
  u_c stepG_region_end NP hF
  u_c stepG_seq NP hF
  u_reg NP hF
  u_op NP hF
  u_op NP hF
  u_op NP hF
  u_op NP hF
  u_c stepG_region_end NP hF
  u_c stepG_seq NP hF
  u_reg NP hF
  u_op NP hF
  u_op NP hF
  u_op NP hF
  u_op NP hF
  u_c stepG_region_end NP hF
  u_c stepG_seq NP hF
  u_c stepG_seq NP hF
  u_reg NP hF
  u_op NP hF
  u_op NP hF
  u_c stepG_region_end NP hF
  u_cnd false NP hF
  u_c stepG_skip NP hF
  u_c stepG_seq NP hF
  u_reg NP hF
  u_op NP hF
  u_op NP hF
  u_op NP hF
  u_op NP hF
  u_op NP hF
  u_op NP hF
  u_call H.f_uCas (nm_uCas L) uCasFn NP hF
  u_c stepG_seq NP hF
  u_reg NP hF
  u_op NP hF
  u_c stepG_region_end NP hF
  u_c stepG_seq NP hF
  u_reg NP hF
  u_op NP hF
  u_op NP hF
  u_op NP hF
  u_op NP hF
  u_op NP hF
  refine Goes.stop (fun w₂ h'=>?_)
  replace hF:=NP hF h'
  clear h'
  refine ⟨rfl,fun v' hv' hw=>⟨fun e=>?_,fun e=>?_⟩⟩
  ·subst e
   rw [hS] at hw ⊢
   refine ⟨_,(stepG_cas_hit (v:=S') (n:=S' + 1) rfl rfl (by k_ne) rfl H.f_casU64 (x_casU64_n L) (x_casU64_b L) (x_casU64_x L) .u64 (x_casU64_f L) rfl rfl rfl hw.cellSt (hw.thaw 0)).trans (by rfl),100,?_⟩
   replace hF:WgLive L.tWg Wg (w₂.setCell (stA Wg) (.int .u64 (S' + 1))):=⟨_,_,hw.setSt _⟩
   clear hw
   walk_nrm
   u_op NP hF
   u_c stepG_region_end NP hF
   u_c stepG_ret' NP hF
   u_leave1 H.f_uCas NP hF
   u_c stepG_region_end NP hF
   u_cond true NP hF
   u_c stepG_seq NP hF
   u_c stepG_seq NP hF
   u_reg NP hF
   u_op NP hF
   u_op NP hF
   u_op NP hF
   u_op NP hF
   u_c stepG_region_end NP hF
   u_cond true NP hF
   u_reg NP hF
   u_op NP hF
   u_op NP hF
   u_op NP hF
   u_conv H.underlying_tPU32 H.room_tU32 (WgLive.cell1 hF).choose_spec NP hF
   refine Goes.stop (fun w₃ h'=>?_)
   replace hF:=NP hF h'
   clear h'
   refine ⟨rfl,_,stepG_markAt .write (by simp) rfl rfl (by k_ne) rfl H.f_raceWrite (x_raceWrite_n L) (x_raceWrite_b L) (x_raceWrite_x L) (x_raceWrite_f L) (by simp [Act.eval,smA]),60,?_⟩
   walk_nrm
   u_c stepG_region_end NP hF
   u_c stepG_seq NP hF
   u_reg NP hF
   u_op NP hF
   u_c stepG_region_end NP hF
   u_c stepG_seq NP hF
   u_c stepG_seq NP hF
   u_reg NP hF
   u_op NP hF
   u_op NP hF
   u_op NP hF
   u_op NP hF
   u_skip NP hF
   u_op NP hF
   u_c stepG_region_end NP hF
   u_cond false NP hF
   u_c stepG_skip NP hF
   u_c stepG_seq NP hF
   u_reg NP hF
   u_op NP hF
   u_op NP hF
   u_op NP hF
   u_op NP hF
   refine Goes.stop (fun w₃ h'=>?_)
   replace hF:=NP hF h'
   clear h'
   refine ⟨rfl,rfl,fun ⟨st,hw⟩=>stepG_semacquire_wait rfl rfl rfl H.f_semacquire (x_semacquire_n L) (x_semacquire_b L) (x_semacquire_x L) (x_semacquire_f L) (by simp [Act.eval,smA]) hw.cellSm,fun hf=>?_⟩
   refine ⟨_,(stepG_semacquire (n:=1) rfl rfl (by k_ne) rfl H.f_semacquire (x_semacquire_n L) (x_semacquire_b L) (x_semacquire_x L) (x_semacquire_f L) (by simp [Act.eval,smA]) hf.cellSm (by k_ne) (hf.thaw 1)).trans (by rfl),60,?_⟩
   replace hF:WgLive L.tWg Wg (w₃.setCell (smA Wg) (.int .u32 0)):=⟨_,_,hf.setSm 0⟩
   clear hf
   walk_nrm
   u_c stepG_region_end NP hF
   u_c stepG_seq NP hF
   u_reg NP hF
   u_op NP hF
   u_op NP hF
   u_op NP hF
   u_call H.f_uLoad (nm_uLoad L) uLoadFn NP hF
   u_c stepG_seq NP hF
   u_reg NP hF
   u_op NP hF
   u_c stepG_region_end NP hF
   u_c stepG_seq NP hF
   u_reg NP hF
   u_op NP hF
   u_op NP hF
   u_op NP hF
   refine Goes.stop (fun w₄ h'=>?_)
   replace hF:=NP hF h'
   clear h'
   refine ⟨rfl,fun hw=>⟨_,stepG_load_atomic (v:=0) rfl rfl (by k_ne) rfl H.f_loadU64 (x_loadU64_n L) (x_loadU64_b L) (x_loadU64_x L) .u64 (x_loadU64_f L) rfl hw.cellSt,60,?_⟩⟩
   clear hw
   walk_nrm
   u_op NP hF
   u_c stepG_region_end NP hF
   u_c stepG_ret' NP hF
   u_leave1 H.f_uLoad NP hF
   u_op NP hF
   u_op NP hF
   u_c stepG_region_end NP hF
   u_c stepG_seq NP hF
   u_cond true NP hF
   u_c stepG_seq NP hF
   u_reg NP hF
   refine Goes.stop (fun w₅ h'=>?_)
   replace hF:=NP hF h'
   clear h'
   refine ⟨rfl,_,stepG_mark0 .enable (by simp) rfl rfl (by k_ne) rfl H.f_enable (x_enable_n L) (x_enable_b L) (x_enable_x L) (x_enable_f L),30,?_⟩
   walk_nrm
   u_c stepG_region_end NP hF
   u_reg NP hF
   u_op NP hF
   u_conv H.underlying_tWgP H.room_tWg (WgLive.cell0 hF).choose_spec NP hF
   refine Goes.stop (fun w₆ h'=>?_)
   replace hF:=NP hF h'
   clear h'
   refine ⟨rfl,_,stepG_markAt .acquire (by simp) rfl rfl (by k_ne) rfl H.f_acquire (x_acquire_n L) (x_acquire_b L) (x_acquire_x L) (x_acquire_f L) (by simp [Act.eval,stA]),rfl,hC _ _ hF rfl ⟨60,?_⟩⟩
   replace hF:AtRel w₆ w₆:=atRel_refl _
   walk_nrm
   u_c stepG_region_end ae hF
   u_c stepG_seq ae hF
   u_c stepG_seq ae hF
   u_reg ae hF
   u_op ae hF
   u_c stepG_region_end ae hF
   u_cond false ae hF
   u_c stepG_skip ae hF
   u_c stepG_ret' ae hF
   exact tF H hF
  ·refine ⟨_,stepG_cas_miss (v:=(v':Int) * KK) (old:=S') (n:=S' + 1) rfl rfl (by k_ne) rfl H.f_casU64 (x_casU64_n L) (x_casU64_b L) (x_casU64_x L) .u64 (x_casU64_f L) rfl rfl rfl hw.cellSt (hw.thaw 0) (by rw [← hS];simp only [KK];omega),40,?_⟩
   clear hw
   walk_nrm
   u_op NP hF
   u_c stepG_region_end NP hF
   u_c stepG_ret' NP hF
   u_leave1 H.f_uCas NP hF
   u_c stepG_region_end NP hF
   u_cond false NP hF
   u_c stepG_skip NP hF
   u_c stepG_inBlock NP hF
   u_c stepG_inLoop NP hF
   refine Goes.stop (fun w₃ h₃=>?_)
   replace hF:=NP hF h₃
   exact ⟨_,rfl,by simp,by simp,hF⟩
end
end Ren
end
section
namespace Ren
open Go Go.Conc Go.ConcN Go.RowKit Go.Conc.Lib Go.ConcR.Gen Go.ConcN.Gen
open Go.ConcR (KK wgBlock WgAt stA smA rd wr mk Payload Aside2 DC0)
variable {L:WgLink} {P:Program} {c:Frame} {cs:List Frame} {Wg:Nat} {Shun:Loc→Prop} {End:Nat→Goroutine→World→Prop} {d:Nat}
theorem Alone.goes {g:Goroutine} {w:World} {n:Nat} (h:Goes P true AtRel DC0 (Alone P Shun End d) n g w):Alone P Shun End d g w:=
 (Alone.Mk (D:=DC0) (d:=d) (fun w w' es h=>by
  obtain ⟨rfl,rfl⟩:=h
  exact ⟨OkA.none _ _,rfl⟩) h).bind fun d' g w h=>h.1 ▸ h.2
theorem Iu {p:Array Value→Prop} (hp:∀ v0 v1 v2 v3 v4 v5 v6 v7 v8 v9 v10 v11 v12 v13 v14 v15 v16 v17 v18 v19 v20 v21 v22 v23 v24 v25 v26 v27 v28 v29 v30 v31 v32 v33 v34 v35 v36 v37 v38 v39 v40 v41 v42 v43 v44 v45 v46 v47 v48 v49 v50 v51 v52 v53 v54 v55 v56 v57 v58 v59 v60 v61 v62 v63 v64 v65 v66 v67 v68 v69 v70 v71 v72 v73 v74 v75 v76 v77 v78 v79 v80 v81 v82 v83 v84 v85 v86 v87 v88 v89 v90 v91 v92 v93 v94 v95 v96 v97 v98 v99 v100 v101 v102 v103 v104 v105 v106 v107 v108 v109 v110 v111 v112 v113 v114 v115 v116:Value,p #[v0,v1,v2,v3,v4,v5,v6,v7,v8,v9,v10,v11,v12,v13,v14,v15,v16,v17,v18,v19,v20,v21,v22,v23,v24,v25,v26,v27,v28,v29,v30,v31,v32,v33,v34,v35,v36,v37,v38,v39,v40,v41,v42,v43,v44,v45,v46,v47,v48,v49,v50,v51,v52,v53,v54,v55,v56,v57,v58,v59,v60,v61,v62,v63,v64,v65,v66,v67,v68,v69,v70,v71,v72,v73,v74,v75,v76,v77,v78,v79,v80,v81,v82,v83,v84,v85,v86,v87,v88,v89,v90,v91,v92,v93,v94,v95,v96,v97,v98,v99,v100,v101,v102,v103,v104,v105,v106,v107,v108,v109,v110,v111,v112,v113,v114,v115,v116]) (T:Array Value) (h:T.size=117):p T:=by
 obtain ⟨l⟩:=T
 replace h:l.length=117:=h
 rcases l with _|⟨v0,l⟩
 ·cases h
 replace h:=Nat.succ.inj h
 rcases l with _|⟨v1,l⟩
 ·cases h
 replace h:=Nat.succ.inj h
 rcases l with _|⟨v2,l⟩
 ·cases h
 replace h:=Nat.succ.inj h
 rcases l with _|⟨v3,l⟩
 ·cases h
 replace h:=Nat.succ.inj h
 rcases l with _|⟨v4,l⟩
 ·cases h
 replace h:=Nat.succ.inj h
 rcases l with _|⟨v5,l⟩
 ·cases h
 replace h:=Nat.succ.inj h
 rcases l with _|⟨v6,l⟩
 ·cases h
 replace h:=Nat.succ.inj h
 rcases l with _|⟨v7,l⟩
 ·cases h
 replace h:=Nat.succ.inj h
 rcases l with _|⟨v8,l⟩
 ·cases h
 replace h:=Nat.succ.inj h
 rcases l with _|⟨v9,l⟩
 ·cases h
 replace h:=Nat.succ.inj h
 rcases l with _|⟨v10,l⟩
 ·cases h
 replace h:=Nat.succ.inj h
 rcases l with _|⟨v11,l⟩
 ·cases h
 replace h:=Nat.succ.inj h
 rcases l with _|⟨v12,l⟩
 ·cases h
 replace h:=Nat.succ.inj h
 rcases l with _|⟨v13,l⟩
 ·cases h
 replace h:=Nat.succ.inj h
 rcases l with _|⟨v14,l⟩
 ·cases h
 replace h:=Nat.succ.inj h
 rcases l with _|⟨v15,l⟩
 ·cases h
 replace h:=Nat.succ.inj h
 rcases l with _|⟨v16,l⟩
 ·cases h
 replace h:=Nat.succ.inj h
 rcases l with _|⟨v17,l⟩
 ·cases h
 replace h:=Nat.succ.inj h
 rcases l with _|⟨v18,l⟩
 ·cases h
 replace h:=Nat.succ.inj h
 rcases l with _|⟨v19,l⟩
 ·cases h
 replace h:=Nat.succ.inj h
 rcases l with _|⟨v20,l⟩
 ·cases h
 replace h:=Nat.succ.inj h
 rcases l with _|⟨v21,l⟩
 ·cases h
 replace h:=Nat.succ.inj h
 rcases l with _|⟨v22,l⟩
 ·cases h
 replace h:=Nat.succ.inj h
 rcases l with _|⟨v23,l⟩
 ·cases h
 replace h:=Nat.succ.inj h
 rcases l with _|⟨v24,l⟩
 ·cases h
 replace h:=Nat.succ.inj h
 rcases l with _|⟨v25,l⟩
 ·cases h
 replace h:=Nat.succ.inj h
 rcases l with _|⟨v26,l⟩
 ·cases h
 replace h:=Nat.succ.inj h
 rcases l with _|⟨v27,l⟩
 ·cases h
 replace h:=Nat.succ.inj h
 rcases l with _|⟨v28,l⟩
 ·cases h
 replace h:=Nat.succ.inj h
 rcases l with _|⟨v29,l⟩
 ·cases h
 replace h:=Nat.succ.inj h
 rcases l with _|⟨v30,l⟩
 ·cases h
 replace h:=Nat.succ.inj h
 rcases l with _|⟨v31,l⟩
 ·cases h
 replace h:=Nat.succ.inj h
 rcases l with _|⟨v32,l⟩
 ·cases h
 replace h:=Nat.succ.inj h
 rcases l with _|⟨v33,l⟩
 ·cases h
 replace h:=Nat.succ.inj h
 rcases l with _|⟨v34,l⟩
 ·cases h
 replace h:=Nat.succ.inj h
 rcases l with _|⟨v35,l⟩
 ·cases h
 replace h:=Nat.succ.inj h
 rcases l with _|⟨v36,l⟩
 ·cases h
 replace h:=Nat.succ.inj h
 rcases l with _|⟨v37,l⟩
 ·cases h
 replace h:=Nat.succ.inj h
 rcases l with _|⟨v38,l⟩
 ·cases h
 replace h:=Nat.succ.inj h
 rcases l with _|⟨v39,l⟩
 ·cases h
 replace h:=Nat.succ.inj h
 rcases l with _|⟨v40,l⟩
 ·cases h
 replace h:=Nat.succ.inj h
 rcases l with _|⟨v41,l⟩
 ·cases h
 replace h:=Nat.succ.inj h
 rcases l with _|⟨v42,l⟩
 ·cases h
 replace h:=Nat.succ.inj h
 rcases l with _|⟨v43,l⟩
 ·cases h
 replace h:=Nat.succ.inj h
 rcases l with _|⟨v44,l⟩
 ·cases h
 replace h:=Nat.succ.inj h
 rcases l with _|⟨v45,l⟩
 ·cases h
 replace h:=Nat.succ.inj h
 rcases l with _|⟨v46,l⟩
 ·cases h
 replace h:=Nat.succ.inj h
 rcases l with _|⟨v47,l⟩
 ·cases h
 replace h:=Nat.succ.inj h
 rcases l with _|⟨v48,l⟩
 ·cases h
 replace h:=Nat.succ.inj h
 rcases l with _|⟨v49,l⟩
 ·cases h
 replace h:=Nat.succ.inj h
 rcases l with _|⟨v50,l⟩
 ·cases h
 replace h:=Nat.succ.inj h
 rcases l with _|⟨v51,l⟩
 ·cases h
 replace h:=Nat.succ.inj h
 rcases l with _|⟨v52,l⟩
 ·cases h
 replace h:=Nat.succ.inj h
 rcases l with _|⟨v53,l⟩
 ·cases h
 replace h:=Nat.succ.inj h
 rcases l with _|⟨v54,l⟩
 ·cases h
 replace h:=Nat.succ.inj h
 rcases l with _|⟨v55,l⟩
 ·cases h
 replace h:=Nat.succ.inj h
 rcases l with _|⟨v56,l⟩
 ·cases h
 replace h:=Nat.succ.inj h
 rcases l with _|⟨v57,l⟩
 ·cases h
 replace h:=Nat.succ.inj h
 rcases l with _|⟨v58,l⟩
 ·cases h
 replace h:=Nat.succ.inj h
 rcases l with _|⟨v59,l⟩
 ·cases h
 replace h:=Nat.succ.inj h
 rcases l with _|⟨v60,l⟩
 ·cases h
 replace h:=Nat.succ.inj h
 rcases l with _|⟨v61,l⟩
 ·cases h
 replace h:=Nat.succ.inj h
 rcases l with _|⟨v62,l⟩
 ·cases h
 replace h:=Nat.succ.inj h
 rcases l with _|⟨v63,l⟩
 ·cases h
 replace h:=Nat.succ.inj h
 rcases l with _|⟨v64,l⟩
 ·cases h
 replace h:=Nat.succ.inj h
 rcases l with _|⟨v65,l⟩
 ·cases h
 replace h:=Nat.succ.inj h
 rcases l with _|⟨v66,l⟩
 ·cases h
 replace h:=Nat.succ.inj h
 rcases l with _|⟨v67,l⟩
 ·cases h
 replace h:=Nat.succ.inj h
 rcases l with _|⟨v68,l⟩
 ·cases h
 replace h:=Nat.succ.inj h
 rcases l with _|⟨v69,l⟩
 ·cases h
 replace h:=Nat.succ.inj h
 rcases l with _|⟨v70,l⟩
 ·cases h
 replace h:=Nat.succ.inj h
 rcases l with _|⟨v71,l⟩
 ·cases h
 replace h:=Nat.succ.inj h
 rcases l with _|⟨v72,l⟩
 ·cases h
 replace h:=Nat.succ.inj h
 rcases l with _|⟨v73,l⟩
 ·cases h
 replace h:=Nat.succ.inj h
 rcases l with _|⟨v74,l⟩
 ·cases h
 replace h:=Nat.succ.inj h
 rcases l with _|⟨v75,l⟩
 ·cases h
 replace h:=Nat.succ.inj h
 rcases l with _|⟨v76,l⟩
 ·cases h
 replace h:=Nat.succ.inj h
 rcases l with _|⟨v77,l⟩
 ·cases h
 replace h:=Nat.succ.inj h
 rcases l with _|⟨v78,l⟩
 ·cases h
 replace h:=Nat.succ.inj h
 rcases l with _|⟨v79,l⟩
 ·cases h
 replace h:=Nat.succ.inj h
 rcases l with _|⟨v80,l⟩
 ·cases h
 replace h:=Nat.succ.inj h
 rcases l with _|⟨v81,l⟩
 ·cases h
 replace h:=Nat.succ.inj h
 rcases l with _|⟨v82,l⟩
 ·cases h
 replace h:=Nat.succ.inj h
 rcases l with _|⟨v83,l⟩
 ·cases h
 replace h:=Nat.succ.inj h
 rcases l with _|⟨v84,l⟩
 ·cases h
 replace h:=Nat.succ.inj h
 rcases l with _|⟨v85,l⟩
 ·cases h
 replace h:=Nat.succ.inj h
 rcases l with _|⟨v86,l⟩
 ·cases h
 replace h:=Nat.succ.inj h
 rcases l with _|⟨v87,l⟩
 ·cases h
 replace h:=Nat.succ.inj h
 rcases l with _|⟨v88,l⟩
 ·cases h
 replace h:=Nat.succ.inj h
 rcases l with _|⟨v89,l⟩
 ·cases h
 replace h:=Nat.succ.inj h
 rcases l with _|⟨v90,l⟩
 ·cases h
 replace h:=Nat.succ.inj h
 rcases l with _|⟨v91,l⟩
 ·cases h
 replace h:=Nat.succ.inj h
 rcases l with _|⟨v92,l⟩
 ·cases h
 replace h:=Nat.succ.inj h
 rcases l with _|⟨v93,l⟩
 ·cases h
 replace h:=Nat.succ.inj h
 rcases l with _|⟨v94,l⟩
 ·cases h
 replace h:=Nat.succ.inj h
 rcases l with _|⟨v95,l⟩
 ·cases h
 replace h:=Nat.succ.inj h
 rcases l with _|⟨v96,l⟩
 ·cases h
 replace h:=Nat.succ.inj h
 rcases l with _|⟨v97,l⟩
 ·cases h
 replace h:=Nat.succ.inj h
 rcases l with _|⟨v98,l⟩
 ·cases h
 replace h:=Nat.succ.inj h
 rcases l with _|⟨v99,l⟩
 ·cases h
 replace h:=Nat.succ.inj h
 rcases l with _|⟨v100,l⟩
 ·cases h
 replace h:=Nat.succ.inj h
 rcases l with _|⟨v101,l⟩
 ·cases h
 replace h:=Nat.succ.inj h
 rcases l with _|⟨v102,l⟩
 ·cases h
 replace h:=Nat.succ.inj h
 rcases l with _|⟨v103,l⟩
 ·cases h
 replace h:=Nat.succ.inj h
 rcases l with _|⟨v104,l⟩
 ·cases h
 replace h:=Nat.succ.inj h
 rcases l with _|⟨v105,l⟩
 ·cases h
 replace h:=Nat.succ.inj h
 rcases l with _|⟨v106,l⟩
 ·cases h
 replace h:=Nat.succ.inj h
 rcases l with _|⟨v107,l⟩
 ·cases h
 replace h:=Nat.succ.inj h
 rcases l with _|⟨v108,l⟩
 ·cases h
 replace h:=Nat.succ.inj h
 rcases l with _|⟨v109,l⟩
 ·cases h
 replace h:=Nat.succ.inj h
 rcases l with _|⟨v110,l⟩
 ·cases h
 replace h:=Nat.succ.inj h
 rcases l with _|⟨v111,l⟩
 ·cases h
 replace h:=Nat.succ.inj h
 rcases l with _|⟨v112,l⟩
 ·cases h
 replace h:=Nat.succ.inj h
 rcases l with _|⟨v113,l⟩
 ·cases h
 replace h:=Nat.succ.inj h
 rcases l with _|⟨v114,l⟩
 ·cases h
 replace h:=Nat.succ.inj h
 rcases l with _|⟨v115,l⟩
 ·cases h
 replace h:=Nat.succ.inj h
 rcases l with _|⟨v116,l⟩
 ·cases h
 replace h:=Nat.succ.inj h
 rcases l with _|⟨x,l⟩
 ·exact hp v0 v1 v2 v3 v4 v5 v6 v7 v8 v9 v10 v11 v12 v13 v14 v15 v16 v17 v18 v19 v20 v21 v22 v23 v24 v25 v26 v27 v28 v29 v30 v31 v32 v33 v34 v35 v36 v37 v38 v39 v40 v41 v42 v43 v44 v45 v46 v47 v48 v49 v50 v51 v52 v53 v54 v55 v56 v57 v58 v59 v60 v61 v62 v63 v64 v65 v66 v67 v68 v69 v70 v71 v72 v73 v74 v75 v76 v77 v78 v79 v80 v81 v82 v83 v84 v85 v86 v87 v88 v89 v90 v91 v92 v93 v94 v95 v96 v97 v98 v99 v100 v101 v102 v103 v104 v105 v106 v107 v108 v109 v110 v111 v112 v113 v114 v115 v116
 ·cases h
structure Hid (p:Prop):Prop where
 out:p
theorem KF {w0 w:World} (hl:WgLive L.tWg Wg w0) (h:AtRel w0 w):∃ v,w.cell? ⟨Wg,1,none⟩=some v:=by obtain ⟨k,rfl⟩:=h;exact WgLive.cell1 (w:=w0.at k) hl
theorem Nt {w0 w:World} (hl:WgLive L.tWg Wg w0) (h:AtRel w0 w):WgLive L.tWg Wg w:=by obtain ⟨k,rfl⟩:=h;exact hl
theorem Ns {w0 w:World} (hl:Wg<w0.heap.size) (h:AtRel w0 w):Wg<w.heap.size:=by obtain ⟨k,rfl⟩:=h;exact hl
theorem at_end {p:World→Prop} {w0 w:World} (hE:∀ k,p (w0.at k)) (h:AtRel w0 w) (k:Nat):p (w.at k):=by obtain ⟨k',rfl⟩:=h;exact hE k
theorem l8 {w w':World} (hs:w.heap.size≤w'.heap.size) {es:Array Event} (h:∀ e∈es,(∃ a:Addr,a.block<w'.heap.size∧(∃ wr,e=⟨.cell a,wr,true⟩))∨(∃ a:Addr,a.block<w'.heap.size∧e=mk (.read a))∨e=mk .disable∨e=mk .enable):OkA Shun w w' es:=by
 refine ⟨hs,fun e he x hx _=>?_,fun e he x hx=>?_,fun e he b hb=>?_⟩
 ·rcases h e he with ⟨a,_,wr,rfl⟩|⟨a,_,rfl⟩|rfl|rfl
  ·cases wr<;>(simp only [MemAct.ofEvent,MemAct.touch?,Option.some.injEq] at hx;subst hx;simp)
  ·simp only [mk,MemAct.ofEvent,MemAct.touch?,Option.some.injEq] at hx;subst hx;simp
  ·simp [mk,MemAct.ofEvent,MemAct.touch?] at hx
  ·simp [mk,MemAct.ofEvent,MemAct.touch?] at hx
 ·rcases h e he with ⟨a,ha,wr,rfl⟩|⟨a,ha,rfl⟩|rfl|rfl
  ·cases wr<;>(simp only [MemAct.ofEvent,MemAct.touch?,Option.some.injEq] at hx;subst hx;exact ha)
  ·simp only [mk,MemAct.ofEvent,MemAct.touch?,Option.some.injEq] at hx;subst hx;exact ha
  ·simp [mk,MemAct.ofEvent,MemAct.touch?] at hx
  ·simp [mk,MemAct.ofEvent,MemAct.touch?] at hx
 ·rcases h e he with ⟨a,_,wr,rfl⟩|⟨a,_,rfl⟩|rfl|rfl
  ·cases wr<;>simp [MemAct.ofEvent] at hb
  ·simp [mk,MemAct.ofEvent] at hb
  ·simp [mk,MemAct.ofEvent] at hb
  ·simp [mk,MemAct.ofEvent] at hb
theorem zk (H:WgLib P L) {T:Array Value} {k:List Item} {w:World} {n:Nat} (hE:∀ k,End 0 (G (c.finish (.tuple #[])) cs) (w.at k)):Goes P true AtRel DC0 (Alone P Shun End 0) (n+1) (G { (Go.Conc.base L.add).at ⟨T,[]⟩ k with mode:=.returning } (c::cs)) w:=by
 refine Goes.step rfl (fun w1 h1=>?_)
 have hr:(addFn L).results=#[]:=rfl
 rw [stepG_leave (by rfl) rfl H.f_add (results_none hr _ P w1) (events_results_none hr _ _)]
 simp only [goes_go]
 obtain ⟨k1,rfl⟩:=h1
 exact ⟨⟨rfl,rfl⟩,Goes.stop (fun w2 h2=>by obtain ⟨k2,rfl⟩:=h2;exact .stop _ _ _ fun k=>hE k)⟩
set_option maxRecDepth 100000 in
set_option maxHeartbeats 16000000 in
theorem KL (H:WgLib P L) {n:Nat} (hn:n<2147483648) {w0:World} (hw:WgAt L.tWg Wg w0 0 0) (hWs:Wg<w0.heap.size) (hE:∀ k,End 0 (G (c.finish (.tuple #[])) cs) ((w0.setCell (stA Wg) (.int .u64 (n * KK))).at k)) :
  Alone P Shun End 0 (G (Frame.enter P L.add #[.pointer (some ⟨Wg,0,none⟩),.int .i64 n] .normal) (c::cs)) w0:=by
 obtain ⟨X,hX⟩:∃ X:Array Value,#[.pointer (some ⟨Wg,0,none⟩),.int .i64 n]++Array.replicate 115 undef=X:=⟨_,rfl⟩
 have he:Frame.enter P L.add #[.pointer (some ⟨Wg,0,none⟩),.int .i64 n] .normal=(Go.Conc.base L.add).at ⟨X,[]⟩ [.code ((addFn L).body.getD .skip)]:=by
  rw [← hX]
  simp only [Frame.enter,H.f_add,Option.map_some,Option.bind_some,Frame.at,Go.Conc.base]
  rfl
 rw [he]
 clear he
 have x0:X.size=117:=by rw [← hX];simp
 have x1:X[0]?=some (.pointer (some ⟨Wg,0,none⟩)):=by rw [← hX];simp
 have x2:X[1]?=some (.int .i64 n):=by rw [← hX];simp
 clear hX
 revert x1 x2
 refine Iu (p:=fun X=>X[0]?=some (.pointer (some ⟨Wg,0,none⟩))→X[1]?=some (.int .i64 n)→Alone P Shun End 0 (G ((Go.Conc.base L.add).at ⟨X,[]⟩ [.code ((addFn L).body.getD .skip)]) (c::cs)) w0) ?_ X x0
 clear x0 X
 intro v0 v1 v2 v3 v4 v5 v6 v7 v8 v9 v10 v11 v12 v13 v14 v15 v16 v17 v18 v19 v20 v21 v22 v23 v24 v25 v26 v27 v28 v29 v30 v31 v32 v33 v34 v35 v36 v37 v38 v39 v40 v41 v42 v43 v44 v45 v46 v47 v48 v49 v50 v51 v52 v53 v54 v55 v56 v57 v58 v59 v60 v61 v62 v63 v64 v65 v66 v67 v68 v69 v70 v71 v72 v73 v74 v75 v76 v77 v78 v79 v80 v81 v82 v83 v84 v85 v86 v87 v88 v89 v90 v91 v92 v93 v94 v95 v96 v97 v98 v99 v100 v101 v102 v103 v104 v105 v106 v107 v108 v109 v110 v111 v112 v113 v114 v115 v116 x1 x2
 simp only [List.getElem?_toArray,List.getElem?_cons_zero,List.getElem?_cons_succ,Option.some.injEq] at x1 x2
 subst x1 x2
 have hl:WgLive L.tWg Wg w0:=⟨_,_,hw⟩
 have hF:AtRel w0 w0:=atRel_refl _
 obtain ⟨N,hN⟩:∃ N:Int,(n:Int)=N:=⟨_,rfl⟩
 have m0:decide (N<0)=false:=decide_eq_false (by omega)
 rw [hN]
 replace hN:=Hid.mk (And.intro hN hn)
 clear hn
 replace hw:=Hid.mk hw
 replace hl:=Hid.mk hl
 replace hE:=Hid.mk hE
 replace hWs:=Hid.mk hWs
 lib_facts
 simp only [addFn,Option.getD_some]
 refine Alone.goes (n:=30) ?_
 u_c stepG_seq ae hF
 u_cond true ae hF
 u_c stepG_seq ae hF
 u_c stepG_seq ae hF
 u_reg ae hF
 u_op ae hF
 u_op ae hF
 u_c stepG_region_end ae hF
 u_cnd false ae hF
 u_c stepG_skip ae hF
 u_c stepG_seq ae hF
 u_reg ae hF
 refine Goes.stop (fun w₁ h'=>?_)
 replace hF:=ae hF h'
 clear h'
 refine Alone.one rfl (fun _=>stepG_mark0 .disable (by simp) rfl rfl (by k_ne) rfl H.f_disable (x_disable_n L) (x_disable_b L) (x_disable_x L) (x_disable_f L)) (l8 (Nat.le_refl _) fun e he=>.inr (.inr (.inl (by simpa [mk] using he)))) ?_
 refine Alone.goes (n:=60) ?_
 walk_nrm
 u_c stepG_region_end ae hF
 u_reg ae hF
 u_defer ae hF
 u_c stepG_region_end ae hF
 u_c stepG_seq ae hF
 u_reg ae hF
 u_op ae hF
 u_c stepG_region_end ae hF
 u_c stepG_seq ae hF
 u_c stepG_seq ae hF
 u_reg ae hF
 u_bub ae hF
 u_c stepG_region_end ae hF
 u_cond false ae hF
 u_c stepG_skip ae hF
 u_c stepG_seq ae hF
 u_reg ae hF
 u_op ae hF
 u_op ae hF
 u_op ae hF
 u_op ae hF
 u_op ae hF
 u_op ae hF
 u_call H.f_uAdd (nm_uAdd L) uAddFn ae hF
 u_c stepG_seq ae hF
 u_reg ae hF
 u_op ae hF
 u_c stepG_region_end ae hF
 u_c stepG_seq ae hF
 u_reg ae hF
 u_op ae hF
 u_op ae hF
 u_op ae hF
 u_op ae hF
 refine Goes.stop (fun w₂ h'=>?_)
 replace hF:=ae hF h'
 clear h'
 obtain ⟨k,rfl⟩:=hF
 obtain ⟨S,hS⟩:∃ S:Int,N * KK=S:=⟨_,rfl⟩
 obtain ⟨hnN,hn⟩:=hN.out
 have eS:IntKind.u64.wrap (0+N % 18446744073709551616 * 4294967296 % 18446744073709551616)=S:=by rw [IntKind.wrap_u64,← hS];simp only [KK];omega
 have hEs:∀ k,End 0 (G (c.finish (.tuple #[])) cs) ((w0.setCell (stA Wg) (.int .u64 S)).at k):=by have:=hE.out;rw [hnN,hS] at this;exact this
 replace hE:=Hid.mk hEs
 clear hEs
 refine Alone.one (w':=w0.setCell (stA Wg) (.int .u64 S)) rfl (fun j=>((stepG_add_atomic (w:=w0.at j) rfl rfl (by k_ne) rfl H.f_addU64 (x_addU64_n L) (x_addU64_b L) (x_addU64_x L) .u64 (x_addU64_f L) rfl rfl hw.out.cellSt (hw.out.thaw 0)).trans (by rw [eS];rfl))) (l8 (by show w0.heap.size≤_;simp [World.setCell]) fun e he=>.inl ?_) ?_
 ·simp only [List.mem_toArray,List.mem_cons,List.not_mem_nil,or_false] at he
  rcases he with rfl|rfl
  ·exact ⟨stA Wg,by show Wg<_;simpa [World.setCell] using hWs.out,_,rfl⟩
  ·exact ⟨stA Wg,by show Wg<_;simpa [World.setCell] using hWs.out,_,rfl⟩
 obtain ⟨w1,hw1⟩:∃ w1:World,w0.setCell (stA Wg) (.int .u64 S)=w1:=⟨_,rfl⟩
 have hl1:WgLive L.tWg Wg w1:=hw1 ▸ ⟨_,_,hw.out.setSt _⟩
 have hs1:Wg<w1.heap.size:=by rw [← hw1];simpa [World.setCell] using hWs.out
 rw [hw1] at hE ⊢
 clear hw hl hWs hw1 w0
 replace hl:=Hid.mk hl1
 replace hs1:=Hid.mk hs1
 clear hl1
 have hF:AtRel w1 w1:=atRel_refl _
 rcases Nat.eq_zero_or_pos n with rfl|hnp
 ·have hN0:N=0:=by omega
  have hS0:S=0:=by rw [← hS,hN0];rfl
  subst hN0 hS0
  clear hN eS hS hn hnN m0
  refine Alone.goes (n:=110) ?_
  walk_nrm
  u_op ae hF
  u_c stepG_region_end ae hF
  u_c stepG_ret' ae hF
  u_leave1 H.f_uAdd ae hF
  u_op ae hF
  u_c stepG_region_end ae hF
  u_c stepG_seq ae hF
  u_c stepG_seq ae hF
  u_reg ae hF
  u_op ae hF
  u_op ae hF
  u_op ae hF
  u_op ae hF
  u_skip ae hF
  u_skip ae hF
  u_op ae hF
  u_c stepG_region_end ae hF
  u_cnd false ae hF
  u_c stepG_skip ae hF
  u_c stepG_seq ae hF
  u_reg ae hF
  u_op ae hF
  u_op ae hF
  u_op ae hF
  u_op ae hF
  u_c stepG_region_end ae hF
  u_c stepG_seq ae hF
  u_reg ae hF
  u_op ae hF
  u_op ae hF
  u_op ae hF
  u_op ae hF
  u_c stepG_region_end ae hF
  u_c stepG_seq ae hF
  u_c stepG_seq ae hF
  u_reg ae hF
  first|u_skip ae hF|u_op ae hF
  first|u_skip ae hF|u_op ae hF
  first|u_skip ae hF|u_op ae hF
  first|u_skip ae hF|u_op ae hF
  first|u_skip ae hF|u_op ae hF
  first|u_skip ae hF|u_op ae hF
  first|u_skip ae hF|u_op ae hF
  first|u_skip ae hF|u_op ae hF
  first|u_skip ae hF|u_op ae hF
  first|u_skip ae hF|u_op ae hF
  u_c stepG_region_end ae hF
  u_cond false ae hF
  u_c stepG_skip ae hF
  u_c stepG_seq ae hF
  u_c stepG_seq ae hF
  u_reg ae hF
  u_op ae hF
  u_op ae hF
  u_c stepG_region_end ae hF
  u_cnd false ae hF
  u_c stepG_skip ae hF
  u_c stepG_seq ae hF
  u_c stepG_seq ae hF
  u_reg ae hF
  first|u_skip ae hF|u_op ae hF
  first|u_skip ae hF|u_op ae hF
  first|u_skip ae hF|u_op ae hF
  first|u_skip ae hF|u_op ae hF
  first|u_skip ae hF|u_op ae hF
  first|u_skip ae hF|u_op ae hF
  first|u_skip ae hF|u_op ae hF
  first|u_skip ae hF|u_op ae hF
  first|u_skip ae hF|u_op ae hF
  first|u_skip ae hF|u_op ae hF
  first|u_skip ae hF|u_op ae hF
  first|u_skip ae hF|u_op ae hF
  u_c stepG_region_end ae hF
  u_cond false ae hF
  u_c stepG_skip ae hF
  u_c stepG_seq ae hF
  u_c stepG_seq ae hF
  u_reg ae hF
  first|u_skip ae hF|u_op ae hF
  first|u_skip ae hF|u_op ae hF
  first|u_skip ae hF|u_op ae hF
  first|u_skip ae hF|u_op ae hF
  first|u_skip ae hF|u_op ae hF
  first|u_skip ae hF|u_op ae hF
  u_c stepG_region_end ae hF
  u_cond true ae hF
  u_c stepG_ret' ae hF
  refine Goes.stop (fun w₄ h'=>?_)
  replace hF:=ae hF h'
  clear h'
  refine Alone.one (d:=1) rfl (fun _=>stepG_unwind_entry (v:=.tuple #[]) (evs:=#[mk .enable]) rfl H.f_enable (x_enable_n L) (x_enable_b L) (x_enable_x L) (x_enable_f L) (by simp [Extern.Race.none_]) (by simp [mk]) (by simp [mk])) (l8 (Nat.le_refl _) fun e he=>.inr (.inr (.inr (by simpa [mk] using he)))) ?_
  refine Alone.goes (n:=110) ?_
  exact zk H (fun k'=>at_end (p:=fun w=>End 0 (G (c.finish (.tuple #[])) cs) w) hE.out hF k')
 ·have a1:S / 4294967296=N:=by rw [← hS];simp only [KK];omega
  have b1:bits .and .u64 S 2147483648=0:=by rw [← hS,← hnN];have:=st_flag n 0 (by omega) (by omega);simpa [KK] using this
  have b2:bits .and .u64 S 2147483647=0:=by rw [← hS,← hnN];have:=st_waiters n 0 (by omega) (by omega);simpa [KK] using this
  have c1:IntKind.i32.wrap N=N:=by rw [IntKind.wrap_i32];omega
  have q4:decide (0<N)=true:=decide_eq_true (by omega)
  have q5:(N == 0)=false:=by simp;omega
  have q6:decide (N=0)=false:=decide_eq_false (by omega)
  clear hN eS hS hn hnN hnp n
  refine Alone.goes (n:=110) ?_
  walk_nrm
  u_op ae hF
  u_c stepG_region_end ae hF
  u_c stepG_ret' ae hF
  u_leave1 H.f_uAdd ae hF
  u_op ae hF
  u_c stepG_region_end ae hF
  u_c stepG_seq ae hF
  u_c stepG_seq ae hF
  u_reg ae hF
  u_op ae hF
  u_op ae hF
  u_op ae hF
  u_op ae hF
  u_skip ae hF
  u_skip ae hF
  u_op ae hF
  u_c stepG_region_end ae hF
  u_cnd false ae hF
  u_c stepG_skip ae hF
  u_c stepG_seq ae hF
  u_reg ae hF
  u_op ae hF
  u_op ae hF
  u_op ae hF
  u_op ae hF
  u_c stepG_region_end ae hF
  u_c stepG_seq ae hF
  u_reg ae hF
  u_op ae hF
  u_op ae hF
  u_op ae hF
  u_op ae hF
  u_c stepG_region_end ae hF
  u_c stepG_seq ae hF
  u_c stepG_seq ae hF
  u_reg ae hF
  u_op ae hF
  u_op ae hF
  u_op ae hF
  u_op ae hF
  u_op ae hF
  u_op ae hF
  u_op ae hF
  u_op ae hF
  u_op ae hF
  u_op ae hF
  u_c stepG_region_end ae hF
  u_cond true ae hF
  u_reg ae hF
  u_op ae hF
  u_op ae hF
  u_op ae hF
  u_conv H.underlying_tPU32 H.room_tU32 (KF hl.out hF).choose_spec ae hF
  refine Goes.stop (fun w₃ h'=>?_)
  replace hF:=ae hF h'
  clear h'
  have hl3:=Nt hl.out hF
  have hs3:=Ns hs1.out hF
  refine Alone.one (d:=1) rfl (fun _=>stepG_markAt .read (by simp) rfl rfl (by k_ne) rfl H.f_raceRead (x_raceRead_n L) (x_raceRead_b L) (x_raceRead_x L) (x_raceRead_f L) (ad:=⟨Wg,1,none⟩) (by simp [Act.eval])) (l8 (Nat.le_refl _) fun e he=>.inr (.inl ⟨⟨Wg,1,none⟩,hs3,by simpa [mk] using he⟩)) ?_
  refine Alone.goes (n:=110) ?_
  walk_nrm
  u_c stepG_region_end ae hF
  u_c stepG_seq ae hF
  u_c stepG_seq ae hF
  u_reg ae hF
  u_op ae hF
  u_op ae hF
  u_c stepG_region_end ae hF
  u_cond false ae hF
  u_c stepG_skip ae hF
  u_c stepG_seq ae hF
  u_c stepG_seq ae hF
  u_reg ae hF
  u_op ae hF
  u_op ae hF
  u_op ae hF
  u_skip ae hF
  u_skip ae hF
  u_op ae hF
  u_op ae hF
  u_skip ae hF
  u_skip ae hF
  u_skip ae hF
  u_skip ae hF
  u_op ae hF
  u_c stepG_region_end ae hF
  u_cnd false ae hF
  u_c stepG_skip ae hF
  u_c stepG_seq ae hF
  u_c stepG_seq ae hF
  u_reg ae hF
  u_op ae hF
  u_op ae hF
  u_op ae hF
  u_skip ae hF
  u_skip ae hF
  u_op ae hF
  u_c stepG_region_end ae hF
  u_cond true ae hF
  u_c stepG_ret' ae hF
  refine Goes.stop (fun w₄ h'=>?_)
  replace hF:=ae hF h'
  clear h'
  refine Alone.one (d:=1) rfl (fun _=>stepG_unwind_entry (v:=.tuple #[]) (evs:=#[mk .enable]) rfl H.f_enable (x_enable_n L) (x_enable_b L) (x_enable_x L) (x_enable_f L) (by simp [Extern.Race.none_]) (by simp [mk]) (by simp [mk])) (l8 (Nat.le_refl _) fun e he=>.inr (.inr (.inr (by simpa [mk] using he)))) ?_
  refine Alone.goes (n:=110) ?_
  exact zk H (fun k'=>at_end (p:=fun w=>End 0 (G (c.finish (.tuple #[])) cs) w) hE.out hF k')
end Ren
end
section
namespace Go.Proofs
abbrev Tryz.link:Go.Conc.Lib.WgLink:={ add:=71,done:=73,wait:=75,relMerge:=108,disable:=109,enable:=110,inBubble:=111,associate:=112,fatal:=113,uOr:=114,uAdd:=115,raceRead:=116,uLoad:=117,uStore:=118,disassociate:=119,semrelease:=120,acquire:=122,isAssociated:=123,uCas:=124,raceWrite:=125,semacquire:=126,orU64:=151,addU64:=152,loadU64:=153,storeU64:=154,casU64:=156,tWgP:=134,tUP:=136,tAssoc:=138,tWg:=101,tAU:=98,tU64:=96,tUint:=110,tU32:=99,tPU32:=142,tPAU:=176,tPU64:=178,tNoCopy:=93,tANoCopy:=94,tAlign64:=95 }
theorem Tryz.I5:Go.Conc.Lib.WgLib Tryz.prog Tryz.link:=
 ⟨Tryz.func71,Tryz.func73,Tryz.func75,Tryz.func108,Tryz.func109,Tryz.func110,Tryz.func111,Tryz.func112,Tryz.func113,Tryz.func114,Tryz.func115,Tryz.func116,Tryz.func117,Tryz.func118,Tryz.func119,Tryz.func120,Tryz.func122,Tryz.func123,Tryz.func124,Tryz.func125,Tryz.func126,Tryz.func151,Tryz.func152,Tryz.func153,Tryz.func154,Tryz.func156,Tryz.underlying134,Tryz.runUnderlying134,Tryz.sizeOf134,Tryz.isAgg134,Tryz.zeroValue134,Tryz.underlying136,Tryz.runUnderlying136,Tryz.sizeOf136,Tryz.isAgg136,Tryz.zeroValue136,Tryz.underlying138,Tryz.runUnderlying138,Tryz.sizeOf138,Tryz.isAgg138,Tryz.zeroValue138,Tryz.underlying101,Tryz.runUnderlying101,Tryz.sizeOf101,Tryz.isAgg101,Tryz.zeroValue101,Tryz.underlying98,Tryz.runUnderlying98,Tryz.sizeOf98,Tryz.isAgg98,Tryz.zeroValue98,Tryz.underlying96,Tryz.runUnderlying96,Tryz.sizeOf96,Tryz.isAgg96,Tryz.zeroValue96,Tryz.underlying110,Tryz.runUnderlying110,Tryz.sizeOf110,Tryz.isAgg110,Tryz.zeroValue110,Tryz.underlying99,Tryz.runUnderlying99,Tryz.sizeOf99,Tryz.isAgg99,Tryz.zeroValue99,Tryz.underlying142,Tryz.runUnderlying142,Tryz.sizeOf142,Tryz.isAgg142,Tryz.zeroValue142,Tryz.underlying176,Tryz.runUnderlying176,Tryz.sizeOf176,Tryz.isAgg176,Tryz.zeroValue176,Tryz.underlying178,Tryz.runUnderlying178,Tryz.sizeOf178,Tryz.isAgg178,Tryz.zeroValue178,Tryz.underlying0,Tryz.runUnderlying0,Tryz.sizeOf0,Tryz.isAgg0,Tryz.zeroValue0,Tryz.underlying3,Tryz.runUnderlying3,Tryz.sizeOf3,Tryz.isAgg3,Tryz.zeroValue3,Tryz.underlying4,Tryz.runUnderlying4,Tryz.sizeOf4,Tryz.isAgg4,Tryz.zeroValue4,Tryz.underlying9,Tryz.runUnderlying9,Tryz.sizeOf9,Tryz.isAgg9,Tryz.zeroValue9,Tryz.underlying20,Tryz.runUnderlying20,Tryz.sizeOf20,Tryz.isAgg20,Tryz.zeroValue20,Tryz.underlying21,Tryz.runUnderlying21,Tryz.sizeOf21,Tryz.isAgg21,Tryz.zeroValue21,(by kernel_rfl),(by kernel_rfl)⟩
end Go.Proofs
end
