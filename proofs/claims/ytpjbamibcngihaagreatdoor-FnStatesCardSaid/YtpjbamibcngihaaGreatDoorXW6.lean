/- 'FnStates': whatever the code that a journal is drawn from, the states that JournalAt tells follow from its transactions, the last is the one that is read, no equation is broken in it, and the journal that CompactJournal gives is read back with the same data. The card: package-level variables hold at the start what the program's text lays. No further conditions. -/
import Derived.Test.YtpjbamibcngihaaGreatDoorGBS
import Derived.Test.YtpjbamibcngihaaGreatDoorCards
import Derived.Test.YtpjbamibcngihaaGreatDoorTie
import Derived.JoinedCond
import Derived.Deep.DeepHandedRow
import Derived.Lay
namespace Go.Proofs.YtpjbamibcngihaaGreatDoor
open Go
namespace fnStates
theorem own:ownKnob Go.Proofs.Tryz.prog.godebug=none:=by kernel_rfl
theorem laid:laidOutB Go.Proofs.Tryz.prog=true:=by kernel_rfl
theorem dK:(D3.Ty.cons (.sl (.int .u8)) .nil).e8 Go.Proofs.Tryz.prog Go.Proofs.Tryz.f5.params.toList=true:=by kernel_rfl
theorem res:Go.Proofs.Tryz.f5.resultTypes=#[4]:=by kernel_rfl
theorem tb:Go.Proofs.Tryz.prog.underlying 4=some .bool:=by kernel_rfl
theorem np:Go.Proofs.Tryz.f5.params.size=1:=by kernel_rfl
set_option maxRecDepth 100000 in
theorem lifted(hR:∀c:List Int,D3.aC Go.Proofs.Tryz.prog 5 [.v (D3.ae (D3.D.int .u8) 0 c)] (.bool true))(os:Os)(started:os.Started)(H:Type)(enc:TypeId×Value->H)(F:Stop.Interp) :
  ReturnsInHanded {} Go.Proofs.Tryz.checked os 5 .any ((OpenSpec.ofChange Rows.fnStatesSpec).preRow enc Go.Proofs.Tryz.prog Go.Proofs.Tryz.f5 Rows.fnStatesRow.domain false Rows.fnStatesRow.laid) (((OpenSpec.ofChange Rows.fnStatesSpec).at F).post enc Go.Proofs.Tryz.prog Go.Proofs.Tryz.f5 false true false false):=by
 refine returnsInHanded_of_row (C:=Go.Proofs.Tryz.checked) (s:=OpenSpec.ofChange Rows.fnStatesSpec) own started (by kernel_rfl) Go.Proofs.Tryz.func5
  (ChangeSpec.witness_shaped (enc:=enc) (C:=Go.Proofs.Tryz.checked) (os:=os) (s:=Rows.fnStatesSpec) (conds:=Rows.fnStatesRow.domain) (X:=fun w _=>laidMetH Go.Proofs.Tryz.prog Rows.fnStatesRow.laid w) false (World.laidAll Go.Proofs.Tryz.prog os Rows.fnStatesRow.laid) #[.slice none 0 0] 8 (World.laidAll_os _ _ _)
    (World.shaped_of_ZipB (by kernel_rfl) (by kernel_rfl)) (by kernel_rfl) (by kernel_rfl) (by kernel_rfl)
    (by rw[MakeChecks.laidMetH_plain _ _ _ (by kernel_rfl)];exact laidMet_laidAll _ (by kernel_rfl) (by kernel_rfl))) ?_
 intro W base args ds gs before hval hW _ _ _ hL hS _;obtain⟨ms,hms⟩:=D3.Ej;obtain⟨hG,x,hx,ix⟩:=D3.M7 hL hS;refine D3.N0 (ty:=.cons (.sl (.int .u8)) .nil) (s:=Rows.fnStatesSpec) rfl D3.tc D3.Ei hms hx ix res tb laid dK (fun ds e hd=>?_) (fun y=>?_) hG hval hW
 ·rw[np] at hd
  match ds,hd with
  | [d],_=>rfl
 ·exact hR y.1
theorem said(hR:∀c:List Int,D3.aC Go.Proofs.Tryz.prog 5 [.v (D3.ae (D3.D.int .u8) 0 c)] (.bool true)):Rows.FnStatesSaid :=
 OpenClaim.holds_of_cond 5 Go.Proofs.Tryz.f5 rfl rfl rfl rfl rfl rfl rfl ⟨rfl,rfl,rfl,rfl,rfl⟩ rfl rfl rfl rfl rfl (by kernel_rfl) Go.Proofs.Tryz.func5 (by kernel_rfl)
  (of_decide_eq_true (by kernel_rfl)) (by unfold Func.isWrapper;first | (rw[if_pos (by decide +kernel)];kernel_rfl) | (rw[if_neg (by decide +kernel)];exact⟨rfl,rfl⟩))
  (fun os started H enc _ F=>by rw[OpenClaim.pre_eq_preRow];exact lifted hR os started H enc F)
theorem plain(f:FuncId)(fn:Func)(hf:Tryz.pinned.checked.prog.funcNamed Rows.fnStatesRow.func=some f)(hfn:Tryz.pinned.checked.prog.funcs[f]?=some fn) :
  true=Tryz.pinned.checked.prog.looks []/\∀(j:Nat) t,fn.params[j]?=some t->Tryz.pinned.checked.prog.wantsStandIn t=false:=by
 obtain rfl:f=5:=Option.some.inj ((show Go.Proofs.Tryz.prog.funcNamed Rows.fnStatesRow.func=some 5 by kernel_rfl).symm.trans hf) |>.symm;obtain rfl:fn=Go.Proofs.Tryz.f5:=(Option.some.inj (Go.Proofs.Tryz.func5.symm.trans hfn)).symm;refine⟨by kernel_rfl,fun j t ht=>?_⟩;have hm:t∈Go.Proofs.Tryz.f5.params:=Array.mem_of_getElem? ht;have hall:(Go.Proofs.Tryz.f5.params.toList.all fun u=>!Go.Proofs.Tryz.prog.wantsStandIn u)=true:=by kernel_rfl
 exact(show Go.Proofs.Tryz.prog.wantsStandIn t=false by simpa using List.all_eq_true.1 hall t (by simpa using hm))
theorem L4(hR:∀c:List Int,D3.aC Go.Proofs.Tryz.prog 5 [.v (D3.ae (D3.D.int .u8) 0 c)] (.bool true)):Rows.FnStatesCardSaid :=
 Claim7.holds_tied_plain_at .later [] _ _ _ _ (said hR) (fun _ h=>by cases h) (by kernel_rfl) (fun _ h=>by cases h) fnStates_row_tie rfl ⟨rfl,rfl⟩ (by kernel_rfl) rfl plain (by kernel_rfl)
end fnStates
end Go.Proofs.YtpjbamibcngihaaGreatDoor
namespace Go.Proofs.YtpjbamibcngihaaGreatDoor
open Go
theorem fnStates_proved:Rows.FnStatesCardSaid:=fnStates.L4 D3.Yo
#print axioms fnStates_proved
end Go.Proofs.YtpjbamibcngihaaGreatDoor
