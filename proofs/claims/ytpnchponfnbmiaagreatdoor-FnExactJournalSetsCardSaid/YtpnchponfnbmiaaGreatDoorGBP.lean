/- The row and the card of 'FnExactJournalSets': the end. -/
import Derived.Test.YtpnchponfnbmiaaGreatDoorGBN
import Derived.Test.YtpnchponfnbmiaaGreatDoorGBO
namespace Go.Proofs.YtpnchponfnbmiaaGreatDoor
open Go
namespace fnExactJournalSets
theorem said(hR:∀t:List UInt8,D3.aw Go.Proofs.Tryz.prog 5 [.v (.str t)] (.bool true)):Rows.FnExactJournalSetsSaid :=
 OpenClaim.holds_of_cond 5 Go.Proofs.Tryz.f5 rfl rfl rfl rfl rfl rfl rfl ⟨rfl,rfl,rfl,rfl,rfl⟩ rfl rfl rfl rfl rfl (by kernel_rfl) Go.Proofs.Tryz.func5 OS
  (of_decide_eq_true (by kernel_rfl)) (by unfold Func.isWrapper;first | (rw[if_pos (by decide +kernel)];kernel_rfl) | (rw[if_neg (by decide +kernel)];exact⟨rfl,rfl⟩))
  (fun os started H enc _ F=>by rw[OpenClaim.pre_eq_preRow];exact lifted hR os started H enc F)
theorem plain(f:FuncId)(fn:Func)(hf:Tryz.pinned.checked.prog.funcNamed Rows.fnExactJournalSetsRow.func=some f)(hfn:Tryz.pinned.checked.prog.funcs[f]?=some fn) :
  true=Tryz.pinned.checked.prog.looks []/\∀(j:Nat) t,fn.params[j]?=some t->Tryz.pinned.checked.prog.wantsStandIn t=false:=by
 obtain rfl:f=5:=Option.some.inj ((show Go.Proofs.Tryz.prog.funcNamed Rows.fnExactJournalSetsRow.func=some 5 by kernel_rfl).symm.trans hf) |>.symm;obtain rfl:fn=Go.Proofs.Tryz.f5:=(Option.some.inj (Go.Proofs.Tryz.func5.symm.trans hfn)).symm;refine⟨by kernel_rfl,fun j t ht=>?_⟩;have hm:t∈Go.Proofs.Tryz.f5.params:=Array.mem_of_getElem? ht;have hall:(Go.Proofs.Tryz.f5.params.toList.all fun u=>!Go.Proofs.Tryz.prog.wantsStandIn u)=true:=by kernel_rfl
 exact(show Go.Proofs.Tryz.prog.wantsStandIn t=false by simpa using List.all_eq_true.1 hall t (by simpa using hm))
theorem OD(hR:∀t:List UInt8,D3.aw Go.Proofs.Tryz.prog 5 [.v (.str t)] (.bool true)):Rows.FnExactJournalSetsCardSaid :=
 Claim7.holds_tied_plain_at .later [] _ _ _ _ (said hR) (fun _ h=>by cases h) (by kernel_rfl) (fun _ h=>by cases h) fnExactJournalSets_row_tie rfl ⟨rfl,rfl⟩ (by kernel_rfl) rfl plain (by kernel_rfl)
end fnExactJournalSets
end Go.Proofs.YtpnchponfnbmiaaGreatDoor
