/- 'FnExactAreBound': whatever the bindings, the program's AreBound answers as the reference does, leaves its argument as it was, and shares no memory. No conditions. -/
import Derived.Test.YtclmdejmogmifaaE1
import Derived.Test.YtclmdejmogmifaaClaim
import Derived.Test.YtclmdejmogmifaaRows
namespace Go.D3
open Go
def catTy : Ty := .cons (.int .i64) (.cons (.sl (.int .i64)) (.cons (.sl (.int .i64)) (.cons (.sl (.int .i64)) (.cons (.sl (.sl (.int .i64))) .nil))))
def bndTy : Ty := .cons .str (.cons catTy .nil)
def toCat : catTy.V → Cat := fun x => ⟨x.1, x.2.1, x.2.2.1, x.2.2.2.1, x.2.2.2.2.1⟩
def toBnd : bndTy.V → Bnd := fun x => ⟨x.1, toCat x.2.1⟩
theorem bnd_d (x : bndTy.V) : bndTy.d x = (toBnd x).d := rfl
theorem bnds_d (l : List bndTy.V) : (Ty.sl bndTy).d l = lst Bnd.d Bnd.zero (l.map toBnd) := by
  show D.slice (bndTy.d bndTy.z) (l.map bndTy.d) = D.slice Bnd.zero.d ((l.map toBnd).map Bnd.d)
  rw [List.map_map]; rfl
end Go.D3
namespace Go.Proofs.Ytclmdejmogmifaa
open Go
namespace fnExactAreBound
theorem own : ownKnob Try.prog.godebug = none := by kernel_rfl
theorem laid : laidOutB Try.prog = true := by kernel_rfl
theorem chk : (D3.Ty.cons (.sl D3.bndTy) .nil).chkAll Try.prog Try.f3.params.toList = true := by kernel_rfl
theorem res : Try.f3.resultTypes = #[4] := by kernel_rfl
theorem tb : Try.prog.underlying 4 = some .bool := by kernel_rfl
theorem np : Try.f3.params.size = 1 := by kernel_rfl
set_option maxRecDepth 100000 in
theorem lifted (os : Os) (started : os.Started) (H : Type) (enc : TypeId × Value → H) :
    ReturnsInHanded {} Try.checked os 3 .any (Rows.fnExactAreBoundSpec.pre6 enc Try.prog Try.f3 Rows.fnExactAreBoundRow.domain false) (Rows.fnExactAreBoundSpec.post enc Try.prog Try.f3 false true false false) := by
  refine returnsInHanded_of_change (C := Try.checked) (s := Rows.fnExactAreBoundSpec) own started (by kernel_rfl) Try.func3
    (ChangeSpec.witness6 (enc := enc) (C := Try.checked) (s := Rows.fnExactAreBoundSpec) false ⟨#[], #[.slice none 0 0], []⟩ 8 (by kernel_rfl) (by kernel_rfl) (by kernel_rfl) (by kernel_rfl) (by kernel_rfl)) ?_
  intro W base args ds gs before hval hW _ _
  refine D3.law_contract (ty := .cons (.sl D3.bndTy) .nil) rfl res tb laid chk (fun ds hd => ?_) (fun y => ?_) hval hW
  · rw [np] at hd
    match ds, hd with
    | [d], _ => rfl
  · exact Eq.mpr (congrArg (fun d => D3.Ret Try.prog 3 [.v d] (.bool true)) (D3.bnds_d y.1)) (D3.ret_laws_FnExactAreBound _)
theorem proved : Rows.FnExactAreBoundSaid :=
  OpenClaim.holds_of_wide 3 Try.f3 rfl rfl rfl rfl rfl rfl rfl ⟨rfl, rfl, rfl, rfl, rfl⟩ rfl rfl rfl rfl rfl (by kernel_rfl) Try.func3 (by kernel_rfl)
    (of_decide_eq_true (by kernel_rfl)) (by unfold Func.isWrapper; first | (rw [if_pos (by decide +kernel)]; kernel_rfl) | (rw [if_neg (by decide +kernel)]; exact ⟨rfl, rfl⟩))
    (fun os started H enc _ => lifted os started H enc)
end fnExactAreBound
theorem fnExactAreBound_proved : Rows.FnExactAreBoundSaid := fnExactAreBound.proved
#print axioms fnExactAreBound_proved
end Go.Proofs.Ytclmdejmogmifaa
