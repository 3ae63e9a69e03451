/- What the laws' statements have in common: what a listed variable's condition gives, a world that meets it, the bytes that come in. Conditions: none. -/
import Derived.Test.YthhmolonhpaepaaGreatDoorRows
import Derived.Test.YthhmolonhpaepaaGreatDoorVQa
import Derived.ChangeSame
import Derived.ChangeVars
import Derived.JoinedOf
import Derived.RowKit
import Derived.RowKitTokens
import Derived.LaidLaws
import Derived.LaidHandle
import Derived.WideKeyArgs
import Derived.ChangeSlices
import Derived.OpenShut
import Derived.Stop.Joined
set_option linter.unusedVariables false
set_option linter.unusedSimpArgs false
namespace Go.Proofs.YthhmolonhpaepaaGreatDoor
open Go Go.ChangeShapes Go.WideShapes Go.RowKit Drw
theorem own:ownKnob Tryz.prog.godebug=none:=by kernel_rfl
theorem uF:laidOutB Tryz.prog=true:=by kernel_rfl
theorem et:Tryz.prog.globalNamed "errors.errorType"=some 0:=by kernel_rfl
theorem rt:(Tryz.prog.cutTypes.find? (·.1 == "internal/reflectlite.rtype")).map (·.2)=some 190:=by kernel_rfl
theorem EH:Tryz.prog.types.size=342 - 100:=by kernel_rfl
theorem oneRow:((List.range (342 - 100)).filter fun t=>Tryz.prog.rowNamed t [101,114,114,111,114])=[122]:=by kernel_rfl
theorem HY:typeHandle Tryz.prog 122=.pointer (some ⟨1,122,none⟩):=by kernel_rfl
theorem Av {W:World} (h:laidMetH Tryz.prog [("errors.errorType",Rows.laid_errors_errorType)] W):Laid W:=by
 have h':laidMet Tryz.prog [] W∧handlesMet Tryz.prog [("errors.errorType",Rows.laid_errors_errorType)] W:=h
 obtain ⟨name,u,ty,e1,e2,e3,e4,e5⟩:=h'.2 _ (List.mem_singleton.2 rfl)
 have en:name=[101,114,114,111,114]:=(Option.some.inj e1).symm
 subst en
 obtain rfl:=Option.some.inj (rt.symm.trans e2)
 have hm:ty∈(List.range (342 - 100)).filter fun t=>Tryz.prog.rowNamed t [101,114,114,111,114]:=List.mem_filter.2 ⟨List.mem_range.2 (by rw [← EH];exact e3),e4⟩
 rw [oneRow] at hm
 obtain rfl:=List.mem_singleton.1 hm
 rw [HY] at e5
 unfold Laid
 simpa using World.var?_cell et e5 0
noncomputable def yJ (os:Os):World:=
 let w0:=World.holding Tryz.prog os ⟨#[],#[],[]⟩
 { w0 with heap:=w0.heap.modify 0 fun
   | .cells _ t frozen=>.cells #[.iface 190 (.agg #[.pointer (some ⟨1,122,none⟩)])] t frozen
   | o=>o }
theorem vX (os:Os) (args:Array Value):laidMetH Tryz.prog [("errors.errorType",Rows.laid_errors_errorType)] ((yJ os).forCall (fun _ _=>0) ⟨#[],args,[]⟩).memory:=
 laidMetH_of_parts (laidMet_nil _ _) (by kernel_rfl)
theorem LC:Tryz.prog.cellsOf 5=1:=by kernel_rfl
set_option maxRecDepth 100000 in
theorem Ce {H:Type} {enc:TypeId × Value→H} {W:World} {base:Nat} {v:Value} {d:DataW H} {ps:List MemPlace} (hval:Value.okWide Tryz.prog W .any base 22 v) (h:DataW.Trod enc Tryz.prog W 0 (fun _=>true) true 22 v d ps) :
  ∃ q n cap,v=.slice q n cap∧n≤cap∧cap≤maxLen∧BytesAt W q n∧∀ x∈ps,∃ b o,x=.cell b o:=by
 obtain ⟨q,n,cap,rfl⟩:=okWide_slice Tryz.underlying22 hval
 obtain ⟨fuel,hf⟩:=h
 rcases open_ints Tryz.underlying22 Tryz.underlying5 LC hf with ⟨hcs,hx⟩|⟨a,len',cap',zs,hcs,-,hl,hm,hz,hx,hcell,hwz⟩
 ·simp [Value.cells] at hcs
  obtain ⟨rfl,rfl,rfl⟩:=hcs
  simp only [Prod.mk.injEq] at hx
  obtain ⟨-,rfl⟩:=hx
  exact ⟨none,0,0,rfl,Nat.le_refl _,Nat.zero_le _,fun i hi=>absurd hi (by omega),fun _ h=>by cases h⟩
 ·simp [Value.cells] at hcs
  obtain ⟨rfl,rfl,rfl⟩:=hcs
  simp only [if_true] at hz
  simp only [Prod.mk.injEq] at hx
  obtain ⟨-,rfl⟩:=hx
  refine ⟨_,_,_,rfl,hl,hm,fun i hi=>?_,fun x hx=>by
   simp only [MemPlace.row,List.mem_map] at hx
   obtain ⟨i,_,rfl⟩:=hx
   exact ⟨_,_,rfl⟩⟩
  have hi2:i<zs.length:=by omega
  have hci:=hcell i hi2
  obtain ⟨b,o,spot⟩:=a
  have hspot:spot=none:=by simpa [Addr.add] using World.cell?_spot (hcell 0 (by omega))
  subst hspot
  rw [Addr.add_lit] at hci
  have hr:=range_u8 hwz i
  rw [← List.getD_eq_getElem?_getD] at hr
  refine ⟨b,o,(zs.getD i 0).toNat,rfl,World.block_lt_of_cell? _ _ hci,?_,by omega⟩
  rw [hci]
  congr 2
  omega
end Go.Proofs.YthhmolonhpaepaaGreatDoor
