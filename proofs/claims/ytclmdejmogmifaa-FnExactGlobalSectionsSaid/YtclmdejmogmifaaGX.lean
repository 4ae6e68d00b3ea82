/- 'FnExactGlobalSections': whatever the set functor, the program's GlobalSections answers as the reference does, leaves its arguments as they were, and shares no memory. No conditions. -/
import Derived.Test.YtclmdejmogmifaaGL
import Derived.Test.YtclmdejmogmifaaGM
import Derived.Test.YtclmdejmogmifaaRows
/- 'FnExactGlobalSections': whatever the set functor, the program's GlobalSections answers as the reference does, leaves its arguments as they were, and shares no memory. No conditions. -/
namespace Go.Proofs.Ytclmdejmogmifaa
open Go
namespace fnExactGlobalSections
theorem own : ownKnob Try.prog.godebug = none := by kernel_rfl
theorem laid : laidOutB Try.prog = true := by kernel_rfl
theorem chk : (D3.Ty.cons D3.sfTy .nil).chkAll Try.prog Try.f8.params.toList = true := by kernel_rfl
theorem res : Try.f8.resultTypes = #[4] := by kernel_rfl
theorem tb : Try.prog.underlying 4 = some .bool := by kernel_rfl
theorem np : Try.f8.params.size = 1 := by kernel_rfl
set_option maxRecDepth 100000 in
theorem lifted (os : Os) (started : os.Started) (H : Type) (enc : TypeId × Value → H) :
    ReturnsInHanded {} Try.checked os 8 .any (Rows.fnExactGlobalSectionsSpec.pre6 enc Try.prog Try.f8 Rows.fnExactGlobalSectionsRow.domain false) (Rows.fnExactGlobalSectionsSpec.post enc Try.prog Try.f8 false true false false) := by
  refine returnsInHanded_of_change (C := Try.checked) (s := Rows.fnExactGlobalSectionsSpec) own started (by kernel_rfl) Try.func8
    (ChangeSpec.witness6 (enc := enc) (C := Try.checked) (s := Rows.fnExactGlobalSectionsSpec) false ⟨#[], #[.agg #[.int .i64 0, .slice none 0 0, .slice none 0 0, .slice none 0 0, .slice none 0 0, .slice none 0 0, .slice none 0 0]], []⟩ 8 (by kernel_rfl) (by kernel_rfl) (by kernel_rfl) (by kernel_rfl) (by kernel_rfl)) ?_
  intro W base args ds gs before hval hW _ _
  refine D3.law_contract (ty := .cons D3.sfTy .nil) rfl res tb laid chk (fun ds hd => ?_) (fun y => ?_) hval hW
  · rw [np] at hd
    match ds, hd with
    | [d], _ => rfl
  · exact D3.ret_laws_FnExactGlobalSections (D3.toSf y.1)
theorem proved : Rows.FnExactGlobalSectionsSaid :=
  OpenClaim.holds_of_wide 8 Try.f8 rfl rfl rfl rfl rfl rfl rfl ⟨rfl, rfl, rfl, rfl, rfl⟩ rfl rfl rfl rfl rfl (by kernel_rfl) Try.func8 (by kernel_rfl)
    (of_decide_eq_true (by kernel_rfl)) (by unfold Func.isWrapper; first | (rw [if_pos (by decide +kernel)]; kernel_rfl) | (rw [if_neg (by decide +kernel)]; exact ⟨rfl, rfl⟩))
    (fun os started H enc _ => lifted os started H enc)
end fnExactGlobalSections
theorem fnExactGlobalSections_proved : Rows.FnExactGlobalSectionsSaid := fnExactGlobalSections.proved
#print axioms fnExactGlobalSections_proved
end Go.Proofs.Ytclmdejmogmifaa
