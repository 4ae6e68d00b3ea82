/- 'FnExactArrowMap': whatever the category and the arrow, the program's ArrowMap answers as the reference does, leaves its arguments as they were, and shares no memory. No conditions. -/
import Derived.Test.YtclmdejmogmifaaGS
import Derived.Test.YtclmdejmogmifaaRows
/- 'FnExactArrowMap': whatever the category and the arrow, the program's ArrowMap answers as the reference does, leaves its arguments as they were, and shares no memory. No conditions. -/

namespace Go.Proofs.Ytclmdejmogmifaa
open Go
namespace fnExactArrowMap
theorem own : ownKnob Try.prog.godebug = none := by kernel_rfl
theorem laid : laidOutB Try.prog = true := by kernel_rfl
theorem chk : (D3.Ty.cons D3.catTy (.cons (.int .i64) .nil)).chkAll Try.prog Try.f7.params.toList = true := by kernel_rfl
theorem res : Try.f7.resultTypes = #[4] := by kernel_rfl
theorem tb : Try.prog.underlying 4 = some .bool := by kernel_rfl
theorem np : Try.f7.params.size = 2 := by kernel_rfl
set_option maxRecDepth 100000 in
theorem lifted (os : Os) (started : os.Started) (H : Type) (enc : TypeId × Value → H) :
    ReturnsInHanded {} Try.checked os 7 .any (Rows.fnExactArrowMapSpec.pre6 enc Try.prog Try.f7 Rows.fnExactArrowMapRow.domain false) (Rows.fnExactArrowMapSpec.post enc Try.prog Try.f7 false true false false) := by
  refine returnsInHanded_of_change (C := Try.checked) (s := Rows.fnExactArrowMapSpec) own started (by kernel_rfl) Try.func7
    (ChangeSpec.witness6 (enc := enc) (C := Try.checked) (s := Rows.fnExactArrowMapSpec) false ⟨#[], #[.agg #[.int .i64 0, .slice none 0 0, .slice none 0 0, .slice none 0 0, .slice none 0 0], .int .i64 0], []⟩ 8 (by kernel_rfl) (by kernel_rfl) (by kernel_rfl) (by kernel_rfl) (by kernel_rfl)) ?_
  intro W base args ds gs before hval hW _ _
  refine D3.law_contract (ty := .cons D3.catTy (.cons (.int .i64) .nil)) rfl res tb laid chk (fun ds hd => ?_) (fun y => ?_) hval hW
  · rw [np] at hd
    match ds, hd with
    | [d, e], _ => rfl
  · exact D3.ret_laws_FnExactArrowMap (D3.toCat y.1) y.2.1
theorem proved : Rows.FnExactArrowMapSaid :=
  OpenClaim.holds_of_wide 7 Try.f7 rfl rfl rfl rfl rfl rfl rfl ⟨rfl, rfl, rfl, rfl, rfl⟩ rfl rfl rfl rfl rfl (by kernel_rfl) Try.func7 (by kernel_rfl)
    (of_decide_eq_true (by kernel_rfl)) (by unfold Func.isWrapper; first | (rw [if_pos (by decide +kernel)]; kernel_rfl) | (rw [if_neg (by decide +kernel)]; exact ⟨rfl, rfl⟩))
    (fun os started H enc _ => lifted os started H enc)
end fnExactArrowMap
theorem fnExactArrowMap_proved : Rows.FnExactArrowMapSaid := fnExactArrowMap.proved
#print axioms fnExactArrowMap_proved
end Go.Proofs.Ytclmdejmogmifaa
