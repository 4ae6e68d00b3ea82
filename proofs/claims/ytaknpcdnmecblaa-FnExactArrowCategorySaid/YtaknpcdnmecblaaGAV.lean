/- 'FnExactArrowCategory': whatever the category, the program's ArrowCategory answers as the reference does, leaves its argument as it was, and shares no memory. No conditions. -/
import Derived.Test.YtaknpcdnmecblaaGAT
import Derived.Test.YtaknpcdnmecblaaGAU
import Derived.Test.YtaknpcdnmecblaaRows
namespace Go.Proofs.Ytaknpcdnmecblaa
open Go
namespace fnExactArrowCategory
theorem own:ownKnob Try.prog.godebug=none:=by kernel_rfl
theorem laid:laidOutB Try.prog=true:=by kernel_rfl
theorem cO:(D3.Ty.cons D3.uw .nil).dZ Try.prog Try.f3.params.toList=true:=by kernel_rfl
theorem res:Try.f3.resultTypes=#[4]:=by kernel_rfl
theorem tb:Try.prog.underlying 4=some .bool:=by kernel_rfl
theorem np:Try.f3.params.size=1:=by kernel_rfl
set_option maxRecDepth 100000 in
theorem lifted(os:Os)(started:os.Started)(H:Type)(enc:TypeId×Value->H) :
  ReturnsInHanded {} Try.checked os 3 .any (Rows.fnExactArrowCategorySpec.pre6 enc Try.prog Try.f3 Rows.fnExactArrowCategoryRow.domain false) (Rows.fnExactArrowCategorySpec.post enc Try.prog Try.f3 false true false false):=by
 refine returnsInHanded_of_change (C:=Try.checked) (s:=Rows.fnExactArrowCategorySpec) own started (by kernel_rfl) Try.func3
  (ChangeSpec.witness6 (enc:=enc) (C:=Try.checked) (s:=Rows.fnExactArrowCategorySpec) false ⟨#[],#[.agg #[.int .i64 0,.slice none 0 0,.slice none 0 0,.slice none 0 0,.slice none 0 0]],[]⟩ 8 (by kernel_rfl) (by kernel_rfl) (by kernel_rfl) (by kernel_rfl) (by kernel_rfl)) ?_
 intro W base args ds gs before hval hW _ _;refine D3.H2 (ty:=.cons D3.uw .nil) (s:=Rows.fnExactArrowCategorySpec) rfl res tb laid cO (fun ds hd=>?_) (fun y=>?_) (D3.Hq _ _) hval hW
 ·rw[np] at hd
  match ds,hd with
  | [d],_=>rfl
 ·exact D3.M8 (D3.OF y.1)
theorem proved:Rows.FnExactArrowCategorySaid :=
 OpenClaim.holds_of_wide 3 Try.f3 rfl rfl rfl rfl rfl rfl rfl ⟨rfl,rfl,rfl,rfl,rfl⟩ rfl rfl rfl rfl rfl (by kernel_rfl) Try.func3 (by kernel_rfl)
  (of_decide_eq_true (by kernel_rfl)) (by unfold Func.isWrapper;first | (rw[if_pos (by decide +kernel)];kernel_rfl) | (rw[if_neg (by decide +kernel)];exact⟨rfl,rfl⟩))
  (fun os started H enc _=>lifted os started H enc)
end fnExactArrowCategory
theorem fnExactArrowCategory_proved:Rows.FnExactArrowCategorySaid:=fnExactArrowCategory.proved
#print axioms fnExactArrowCategory_proved
end Go.Proofs.Ytaknpcdnmecblaa
