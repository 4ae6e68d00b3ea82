/- 'FnExactCountAutomorphisms': whatever the category, the program's CountAutomorphisms answers as the reference does, leaves its arguments as they were, and shares no memory. No conditions. -/
import Derived.Test.YtclmdejmogmifaaGS
import Derived.Test.YtclmdejmogmifaaRows
/- 'FnExactCountAutomorphisms': whatever the category, the program's CountAutomorphisms answers as the reference does, leaves its arguments as they were, and shares no memory. No conditions. -/

namespace Go.Proofs.Ytclmdejmogmifaa
open Go
namespace fnExactCountAutomorphisms
theorem own : ownKnob Try.prog.godebug = none := by kernel_rfl
theorem laid : laidOutB Try.prog = true := by kernel_rfl
theorem chk : (D3.Ty.cons D3.catTy .nil).chkAll Try.prog Try.f10.params.toList = true := by kernel_rfl
theorem res : Try.f10.resultTypes = #[4] := by kernel_rfl
theorem tb : Try.prog.underlying 4 = some .bool := by kernel_rfl
theorem np : Try.f10.params.size = 1 := by kernel_rfl
set_option maxRecDepth 100000 in
theorem lifted (os : Os) (started : os.Started) (H : Type) (enc : TypeId × Value → H) :
    ReturnsInHanded {} Try.checked os 10 .any (Rows.fnExactCountAutomorphismsSpec.pre6 enc Try.prog Try.f10 Rows.fnExactCountAutomorphismsRow.domain false) (Rows.fnExactCountAutomorphismsSpec.post enc Try.prog Try.f10 false true false false) := by
  refine returnsInHanded_of_change (C := Try.checked) (s := Rows.fnExactCountAutomorphismsSpec) own started (by kernel_rfl) Try.func10
    (ChangeSpec.witness6 (enc := enc) (C := Try.checked) (s := Rows.fnExactCountAutomorphismsSpec) false ⟨#[], #[.agg #[.int .i64 0, .slice none 0 0, .slice none 0 0, .slice none 0 0, .slice none 0 0]], []⟩ 8 (by kernel_rfl) (by kernel_rfl) (by kernel_rfl) (by kernel_rfl) (by kernel_rfl)) ?_
  intro W base args ds gs before hval hW _ _
  refine D3.law_contract (ty := .cons D3.catTy .nil) rfl res tb laid chk (fun ds hd => ?_) (fun y => ?_) hval hW
  · rw [np] at hd
    match ds, hd with
    | [d], _ => rfl
  · exact D3.ret_laws_FnExactCountAutomorphisms (D3.toCat y.1)
theorem proved : Rows.FnExactCountAutomorphismsSaid :=
  OpenClaim.holds_of_wide 10 Try.f10 rfl rfl rfl rfl rfl rfl rfl ⟨rfl, rfl, rfl, rfl, rfl⟩ rfl rfl rfl rfl rfl (by kernel_rfl) Try.func10 (by kernel_rfl)
    (of_decide_eq_true (by kernel_rfl)) (by unfold Func.isWrapper; first | (rw [if_pos (by decide +kernel)]; kernel_rfl) | (rw [if_neg (by decide +kernel)]; exact ⟨rfl, rfl⟩))
    (fun os started H enc _ => lifted os started H enc)
end fnExactCountAutomorphisms
theorem fnExactCountAutomorphisms_proved : Rows.FnExactCountAutomorphismsSaid := fnExactCountAutomorphisms.proved
#print axioms fnExactCountAutomorphisms_proved
end Go.Proofs.Ytclmdejmogmifaa
