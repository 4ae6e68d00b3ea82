/- The row and the card of 'FnInstances': the end. -/
import Derived.Test.YtaknpcdnmecblaaGreatDoorHG
import Derived.Test.YtaknpcdnmecblaaGreatDoorRows
import Derived.LaidHandle
import Derived.Stop.Joined
import Derived.Shelf.Vars
import Derived.LaidMore
import Derived.Test.YtaknpcdnmecblaaGreatDoorCards
import Derived.Test.YtaknpcdnmecblaaGreatDoorTie
import Derived.JoinedCond
import Derived.Deep.DeepHandedRow
import Derived.Lay
import Derived.KernelRfl
namespace Go.D3
open Go Go.ChangeShapes Go.RowKit Go.Proofs.YtaknpcdnmecblaaGreatDoor
theorem PV:Go.Proofs.Tryz.prog.globalNamed "errors.errorType"=some 0:=by kernel_rfl
theorem PX:(Go.Proofs.Tryz.prog.cutTypes.find? (·.1 == "internal/reflectlite.rtype")).map (·.2)=some 307:=by kernel_rfl
theorem PW:((List.range Go.Proofs.Tryz.prog.types.size).filter fun t=>Go.Proofs.Tryz.prog.rowNamed t [101,114,114,111,114])=[155]:=by kernel_rfl
abbrev uW:List (String×DataW Unit):=Rows.fnInstancesRow.laid
theorem F7{W:World}(h:laidMetH Go.Proofs.Tryz.prog uW W):W.cell? ⟨0,0,none⟩=some (.iface 307 (.agg #[.pointer (some ⟨7,155,none⟩)])):=by
 have h':laidMet Go.Proofs.Tryz.prog [] W/\handlesMet Go.Proofs.Tryz.prog uW W:=h;obtain⟨name,u,ty,S,V,Y,Z,I⟩:=h'.2 _ (List.mem_singleton.2 rfl);have en:name=[101,114,114,111,114]:=(Option.some.inj S).symm;subst en;obtain rfl:=Option.some.inj (PX.symm.trans V);have hm:ty∈(List.range Go.Proofs.Tryz.prog.types.size).filter fun t=>Go.Proofs.Tryz.prog.rowNamed t [101,114,114,111,114]:=List.mem_filter.2 ⟨List.mem_range.2 Y,Z⟩
 rw[PW] at hm;obtain rfl:=List.mem_singleton.1 hm;have hh:typeHandle Go.Proofs.Tryz.prog 155=.pointer (some ⟨7,155,none⟩):=by kernel_rfl
 rw[hh] at I;simpa using World.var?_cell PV I 0
theorem Qr{W:World}(h:laidMetH Go.Proofs.Tryz.prog uW W):ik W (jl W):=ik.Tw (F7 h) (Fj (F7 h)).1
theorem PG(os:Os)(args:Array Value):laidMetH Go.Proofs.Tryz.prog uW ((World.doorLaid Go.Proofs.Tryz.prog 98 os).forCall (fun _ _=>0) ⟨#[],args,[]⟩).memory :=
 laidMetH_of_parts (laidMet_nil _ _) (by kernel_rfl)
end Go.D3
namespace Go.Proofs.YtaknpcdnmecblaaGreatDoor
open Go
namespace fnInstances
theorem own:ownKnob Go.Proofs.Tryz.prog.godebug=none:=by kernel_rfl
theorem laid:laidOutB Go.Proofs.Tryz.prog=true:=by kernel_rfl
theorem dG:(D3.Ty.cons (.sl (.int .u8)) .nil).fC Go.Proofs.Tryz.prog Go.Proofs.Tryz.f3.params.toList=true:=by kernel_rfl
theorem res:Go.Proofs.Tryz.f3.resultTypes=#[4]:=by kernel_rfl
theorem tb:Go.Proofs.Tryz.prog.underlying 4=some .bool:=by kernel_rfl
theorem np:Go.Proofs.Tryz.f3.params.size=1:=by kernel_rfl
set_option maxRecDepth 100000 in
theorem lifted(Y:∀c:List Int,D3.aA Go.Proofs.Tryz.prog 3 [.v (D3.ae (D3.D.int .u8) 0 c)] (.bool true))(os:Os)(started:os.Started)(H:Type)(enc:TypeId×Value->H)(F:Stop.Interp) :
  ReturnsInHanded {} Go.Proofs.Tryz.checked os 3 .any ((OpenSpec.ofChange Rows.fnInstancesSpec).preRow enc Go.Proofs.Tryz.prog Go.Proofs.Tryz.f3 Rows.fnInstancesRow.domain false Rows.fnInstancesRow.laid) (((OpenSpec.ofChange Rows.fnInstancesSpec).at F).post enc Go.Proofs.Tryz.prog Go.Proofs.Tryz.f3 false true false false):=by
 refine returnsInHanded_of_row (C:=Go.Proofs.Tryz.checked) (s:=OpenSpec.ofChange Rows.fnInstancesSpec) own started (by kernel_rfl) Go.Proofs.Tryz.func3
  (ChangeSpec.witness_shaped (enc:=enc) (C:=Go.Proofs.Tryz.checked) (os:=os) (s:=Rows.fnInstancesSpec) (conds:=Rows.fnInstancesRow.domain) (X:=fun w _=>laidMetH Go.Proofs.Tryz.prog Rows.fnInstancesRow.laid w) false (World.doorLaid Go.Proofs.Tryz.prog 98 os) #[.slice none 0 0] 8 rfl
    (World.shaped_of_RefB (by kernel_rfl) (by kernel_rfl)) (by kernel_rfl) (by kernel_rfl) (by kernel_rfl) (D3.PG os _)) ?_
 intro W base args ds gs before I Z _ _ _ V _ _;refine D3.Rk (ty:=.cons (.sl (.int .u8)) .nil) (s:=Rows.fnInstancesSpec) rfl res tb laid dG (fun ds S=>?_) (fun y=>?_) (D3.Qr V) I Z
 ·rw[np] at S
  match ds,S with
  | [d],_=>rfl
 ·exact Y y.1
end fnInstances
end Go.Proofs.YtaknpcdnmecblaaGreatDoor
namespace Go.Proofs.YtaknpcdnmecblaaGreatDoor
open Go
namespace fnInstances
theorem Pj:joinedFacts Go.Proofs.Tryz.prog 3 Go.Proofs.Tryz.f3 (OpenSpec.ofChange Rows.fnInstancesSpec).bare Rows.fnInstancesRow=true:=by kernel_rfl
end fnInstances
end Go.Proofs.YtaknpcdnmecblaaGreatDoor
namespace Go.Proofs.YtaknpcdnmecblaaGreatDoor
open Go
namespace fnInstances
theorem said(I:∀c:List Int,D3.aA Go.Proofs.Tryz.prog 3 [.v (D3.ae (D3.D.int .u8) 0 c)] (.bool true)):Rows.FnInstancesSaid :=
 OpenClaim.holds_of_cond 3 Go.Proofs.Tryz.f3 rfl rfl rfl rfl rfl rfl rfl ⟨rfl,rfl,rfl,rfl,rfl⟩ rfl rfl rfl rfl rfl (by kernel_rfl) Go.Proofs.Tryz.func3 Pj
  (of_decide_eq_true (by kernel_rfl)) (by unfold Func.isWrapper;first | (rw[if_pos (by decide +kernel)];kernel_rfl) | (rw[if_neg (by decide +kernel)];exact⟨rfl,rfl⟩))
  (fun os started H enc _ F=>by rw[OpenClaim.pre_eq_preRow];exact lifted I os started H enc F)
theorem plain(f:FuncId)(fn:Func)(V:Tryz.pinned.checked.prog.funcNamed Rows.fnInstancesRow.func=some f)(S:Tryz.pinned.checked.prog.funcs[f]?=some fn) :
  true=Tryz.pinned.checked.prog.looks []/\∀(j:Nat) t,fn.params[j]?=some t->Tryz.pinned.checked.prog.wantsStandIn t=false:=by
 obtain rfl:f=3:=Option.some.inj ((show Go.Proofs.Tryz.prog.funcNamed Rows.fnInstancesRow.func=some 3 by kernel_rfl).symm.trans V) |>.symm;obtain rfl:fn=Go.Proofs.Tryz.f3:=(Option.some.inj (Go.Proofs.Tryz.func3.symm.trans S)).symm;refine⟨by kernel_rfl,fun j t W=>?_⟩;have hm:t∈Go.Proofs.Tryz.f3.params:=Array.mem_of_getElem? W;have I:(Go.Proofs.Tryz.f3.params.toList.all fun u=>!Go.Proofs.Tryz.prog.wantsStandIn u)=true:=by kernel_rfl
 exact(show Go.Proofs.Tryz.prog.wantsStandIn t=false by simpa using List.all_eq_true.1 I t (by simpa using hm))
theorem O6(I:∀c:List Int,D3.aA Go.Proofs.Tryz.prog 3 [.v (D3.ae (D3.D.int .u8) 0 c)] (.bool true)):Rows.FnInstancesCardSaid :=
 Claim7.holds_tied_plain_at .later [] _ _ _ _ (said I) (fun _ h=>by cases h) (by kernel_rfl) (fun _ h=>by cases h) fnInstances_row_tie rfl ⟨rfl,rfl⟩ (by kernel_rfl) rfl plain (by kernel_rfl)
end fnInstances
end Go.Proofs.YtaknpcdnmecblaaGreatDoor
