/- 'FnExactSchemaMapFunctor': whatever the map of schemas, the program's SchemaMapFunctor answers as the reference does, leaves its argument as it was, and shares no memory. The card: the package-level variable of the type 'error' holds at the start what the program's text lays. No further conditions. -/
import Derived.Test.YtpnchponfnbmiaaGreatDoorGAO
import Derived.Test.YtpnchponfnbmiaaGreatDoorGAP
import Derived.Test.YtpnchponfnbmiaaGreatDoorGAN
namespace Go.Proofs.YtpnchponfnbmiaaGreatDoor
open Go
namespace fnExactSchemaMapFunctor
theorem said(hR:∀m:D3.Smp,D3.al Go.Proofs.Tryz.prog 3 [.v (D3.Smp.d m)] (.bool true)):Rows.FnExactSchemaMapFunctorSaid :=
 OpenClaim.holds_of_cond 3 Go.Proofs.Tryz.f3 rfl rfl rfl rfl rfl rfl rfl ⟨rfl,rfl,rfl,rfl,rfl⟩ rfl rfl rfl rfl rfl (by kernel_rfl) Go.Proofs.Tryz.func3 closedF
  (of_decide_eq_true (by kernel_rfl)) (by unfold Func.isWrapper;first | (rw[if_pos (by decide +kernel)];kernel_rfl) | (rw[if_neg (by decide +kernel)];exact⟨rfl,rfl⟩))
  (fun os started H enc _ F=>by rw[OpenClaim.pre_eq_preRow];exact lifted hR os started H enc F)
theorem plain(f:FuncId)(fn:Func)(hf:Tryz.pinned.checked.prog.funcNamed Rows.fnExactSchemaMapFunctorRow.func=some f)(hfn:Tryz.pinned.checked.prog.funcs[f]?=some fn) :
  true=Tryz.pinned.checked.prog.looks []/\∀(j:Nat) t,fn.params[j]?=some t->Tryz.pinned.checked.prog.wantsStandIn t=false:=by
 obtain rfl:f=3:=Option.some.inj ((show Go.Proofs.Tryz.prog.funcNamed Rows.fnExactSchemaMapFunctorRow.func=some 3 by kernel_rfl).symm.trans hf) |>.symm;obtain rfl:fn=Go.Proofs.Tryz.f3:=(Option.some.inj (Go.Proofs.Tryz.func3.symm.trans hfn)).symm;refine⟨by kernel_rfl,fun j t ht=>?_⟩;have hm:t∈Go.Proofs.Tryz.f3.params:=Array.mem_of_getElem? ht;have hall:(Go.Proofs.Tryz.f3.params.toList.all fun u=>!Go.Proofs.Tryz.prog.wantsStandIn u)=true:=by kernel_rfl
 exact(show Go.Proofs.Tryz.prog.wantsStandIn t=false by simpa using List.all_eq_true.1 hall t (by simpa using hm))
theorem Jt(hR:∀m:D3.Smp,D3.al Go.Proofs.Tryz.prog 3 [.v (D3.Smp.d m)] (.bool true)):Rows.FnExactSchemaMapFunctorCardSaid :=
 Claim7.holds_tied_plain_at .later [] _ _ _ _ (said hR) (fun _ h=>by cases h) (by kernel_rfl) (fun _ h=>by cases h) fnExactSchemaMapFunctor_row_tie rfl ⟨rfl,rfl⟩ (by kernel_rfl) rfl plain (by kernel_rfl)
end fnExactSchemaMapFunctor
end Go.Proofs.YtpnchponfnbmiaaGreatDoor
namespace Go.Proofs.YtpnchponfnbmiaaGreatDoor
open Go
theorem fnExactSchemaMapFunctor_proved:Rows.FnExactSchemaMapFunctorCardSaid:=fnExactSchemaMapFunctor.Jt D3.Rh
#print axioms fnExactSchemaMapFunctor_proved
end Go.Proofs.YtpnchponfnbmiaaGreatDoor
