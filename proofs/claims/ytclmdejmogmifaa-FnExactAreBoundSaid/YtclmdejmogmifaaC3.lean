/- CONTRACTS: impl.AreBound. -/
import Derived.Test.YtclmdejmogmifaaC1
import Derived.Test.YtclmdejmogmifaaC2
namespace Go.D3
open Go
set_option maxRecDepth 100000
-- (*impl.Category).isCategory
def c_impl_Category_isCategory : C :=
  (.seq (.ops [] [⟨none, .asg 1 (.k (.bool false))⟩] [])
  (.seq (.opc [] [⟨none, .mv (.v 0)⟩,
    ⟨none, .call 107 [(.t 0)]⟩,
    ⟨none, .not (.t 1)⟩] [] (.t 2) (.seq (.ops [] [⟨none, .asg 1 (.k (.bool false))⟩] [])
  .ret)
  .skip)
  (.seq (.ops [] [⟨none, .mv (.v 0)⟩,
    ⟨none, .call 108 [(.t 0)]⟩,
    ⟨none, .mv (.t 1)⟩,
    ⟨none, .ext 0 (.t 2)⟩,
    ⟨none, .ext 1 (.t 2)⟩,
    ⟨none, .ext 2 (.t 2)⟩,
    ⟨none, .ext 3 (.t 2)⟩,
    ⟨none, .asg 2 (.t 3)⟩,
    ⟨none, .mv (.t 4)⟩,
    ⟨none, .mv (.t 5)⟩,
    ⟨none, .mv (.t 6)⟩] [])
  (.seq (.ops [] [⟨none, .mv (.v 2)⟩,
    ⟨none, .bin .eql (.t 0) (.i 0)⟩,
    ⟨none, .asg 1 (.t 1)⟩] [])
  .ret))))
def tr_impl_Category_isCategory : List Nat := [0, 2, 3]
def rs_impl_Category_isCategory : List RS := [.t 1]
theorem ok_impl_Category_isCategory : fnOk Go.Proofs.Try.prog Go.Proofs.Try.f68 tr_impl_Category_isCategory c_impl_Category_isCategory 1 rs_impl_Category_isCategory = true := by decide +kernel

theorem ret_impl_Category_isCategory (c : Cat) : Ret Go.Proofs.Try.prog 68 [.v (.ptr c.cells)] (.bool c.isB) := by
  refine ret_fn Go.Proofs.Try.func68 ok_impl_Category_isCategory rfl (show 1 < 500 by decide) rfl ?_
  unfold c_impl_Category_isCategory tr_impl_Category_isCategory rs_impl_Category_isCategory
  simp only [go_sem, Nat.reduceLT, Nat.reduceAdd, Nat.reduceSub, Nat.reduceEqDiff, Nat.reduceBEq, Nat.reduceLeDiff, ↓reduceIte]
  refine call_of (ret_impl_Category_isShape c) rfl (.inl rfl) ?_
  simp only [go_sem, Nat.reduceLT, Nat.reduceAdd, Nat.reduceSub, Nat.reduceEqDiff, Nat.reduceBEq, Nat.reduceLeDiff, ↓reduceIte]
  refine ⟨fun h => ?_, fun h => ?_⟩
  · unfold Cat.isB; rw [Bool.not_eq_true'] at h; rw [h]; rfl
  rw [Bool.not_eq_false'] at h
  refine call_of (ret_impl_Category_fault c (Cat.shapeB_iff.1 h)) rfl (.inl rfl) ?_
  simp only [fd]
  simp only [go_sem, Nat.reduceLT, Nat.reduceAdd, Nat.reduceSub, Nat.reduceEqDiff, Nat.reduceBEq, Nat.reduceLeDiff, ↓reduceIte]
  unfold Cat.isB; rw [h]; rfl
-- impl.areBound
def c_impl_areBound : C :=
  (.seq (.ops [] [⟨none, .asg 1 (.k (.bool false))⟩] [])
  (.seq (.seq (.ops [3] [⟨none, .mv (.v 0)⟩,
    ⟨none, .len (.t 0)⟩,
    ⟨none, .asg 4 (.i 0)⟩] [(3, 1)])
  (.block 0 (.loop (.opq [] [⟨none, .bin .lss (.v 4) (.v 3)⟩] [] (.t 0) .skip
  (.exit 0)
  (.seq (.block 1 (.seq (.ops [] [⟨none, .mv (.v 4)⟩,
    ⟨none, .asg 2 (.t 0)⟩] [])
  (.opc [] [⟨none, .mv (.v 0)⟩,
    ⟨none, .mv (.v 2)⟩,
    ⟨none, .idxA 6 (.t 0) (.t 1)⟩,
    ⟨none, .fA 0 (.t 2)⟩,
    ⟨none, .ld (.t 3)⟩,
    ⟨none, .call 97 [(.t 4)]⟩,
    ⟨none, .not (.t 5)⟩,
    ⟨none, .mv (.t 6)⟩,
    ⟨some (7, false), .mv (.v 2)⟩,
    ⟨some (7, false), .bin .gtr (.t 8) (.i 0)⟩,
    ⟨some (7, false), .mv (.t 9)⟩,
    ⟨some (10, true), .mv (.v 0)⟩,
    ⟨some (10, true), .mv (.v 2)⟩,
    ⟨some (10, true), .bin .sub (.t 12) (.i 1)⟩,
    ⟨some (10, true), .idxA 6 (.t 11) (.t 13)⟩,
    ⟨some (10, true), .fA 0 (.t 14)⟩,
    ⟨some (10, true), .ld (.t 15)⟩,
    ⟨some (10, true), .mv (.v 0)⟩,
    ⟨some (10, true), .mv (.v 2)⟩,
    ⟨some (10, true), .idxA 6 (.t 17) (.t 18)⟩,
    ⟨some (10, true), .fA 0 (.t 19)⟩,
    ⟨some (10, true), .ld (.t 20)⟩,
    ⟨some (10, true), .bin .geq (.t 16) (.t 21)⟩,
    ⟨some (7, false), .pick (.t 10) (.t 22) (.k (.bool false))⟩,
    ⟨none, .pick (.t 7) (.k (.bool true)) (.t 23)⟩,
    ⟨none, .mv (.t 24)⟩,
    ⟨some (25, false), .mv (.v 0)⟩,
    ⟨some (25, false), .mv (.v 2)⟩,
    ⟨some (25, false), .idxA 6 (.t 26) (.t 27)⟩,
    ⟨some (25, false), .fA 1 (.t 28)⟩,
    ⟨some (25, false), .call 68 [(.t 29)]⟩,
    ⟨some (25, false), .not (.t 30)⟩,
    ⟨none, .pick (.t 25) (.k (.bool true)) (.t 31)⟩] [] (.t 32) (.seq (.ops [] [⟨none, .asg 1 (.k (.bool false))⟩] [])
  .ret)
  .skip)))
  (.ops [] [⟨none, .bin .add (.v 4) (.i 1)⟩,
    ⟨none, .asg 4 (.t 0)⟩] []))))))
  (.seq (.ops [] [⟨none, .asg 1 (.k (.bool true))⟩] [])
  .ret)))
def tr_impl_areBound : List Nat := [0, 2, 3, 5, 6]
def rs_impl_areBound : List RS := [.t 1]
theorem ok_impl_areBound : fnOk Go.Proofs.Try.prog Go.Proofs.Try.f53 tr_impl_areBound c_impl_areBound 1 rs_impl_areBound = true := by decide +kernel

theorem ret_impl_areBound (l : List Bnd) : Ret Go.Proofs.Try.prog 53 [.v (lst Bnd.d Bnd.zero l)] (.bool (bndB l)) := by
  refine ret_wf fun hw => ?_
  simp only [argsWf, wfd_lst] at hw
  have hm := hw.1.1
  clear hw
  refine ret_fn Go.Proofs.Try.func53 ok_impl_areBound rfl (show 1 < 500 by decide) rfl ?_
  unfold c_impl_areBound tr_impl_areBound rs_impl_areBound
  simp only [go_sem, Nat.reduceLT, Nat.reduceAdd, Nat.reduceSub, Nat.reduceEqDiff, Nat.reduceBEq, Nat.reduceLeDiff, ↓reduceIte]
  refine loop_set [2] (fun (i : Nat) => [(4, .int .i64 i)]) (fun i => i ≤ l.length ∧ allB i (bI l) = true) (fun i => l.length - i) 0 (by simp only [go_sem, Nat.reduceLT, Nat.reduceAdd, Nat.reduceSub, Nat.reduceEqDiff, Nat.reduceBEq, Nat.reduceLeDiff, ↓reduceIte]; rfl) ⟨Nat.zero_le _, rfl⟩ rfl ?_
  rintro i ⟨hi, ha⟩
  simp only [go_sem, Nat.reduceLT, Nat.reduceAdd, Nat.reduceSub, Nat.reduceEqDiff, Nat.reduceBEq, Nat.reduceLeDiff, ↓reduceIte]
  refine ⟨fun h => ⟨h, call_of (ret_impl_isLetter _) rfl (.inl rfl) ?_⟩, fun h => ?_⟩
  · simp only [go_sem, Nat.reduceLT, Nat.reduceAdd, Nat.reduceSub, Nat.reduceEqDiff, Nat.reduceBEq, Nat.reduceLeDiff, ↓reduceIte]
    have hb : bI l i = (isL (l.getD i Bnd.zero).nm && (l.getD i Bnd.zero).cat.isB && (decide (i = 0) || Op.bytesLess (l.getD (i - 1) Bnd.zero).nm (l.getD i Bnd.zero).nm)) := rfl
    have hc : (decide (0 < (i : Int)) && !Op.bytesLess (l.getD (IntKind.i64.wrap ((i : Int) - 1)).toNat Bnd.zero).nm (l.getD i Bnd.zero).nm) = !(decide (i = 0) || Op.bytesLess (l.getD (i - 1) Bnd.zero).nm (l.getD i Bnd.zero).nm) := by
      by_cases hi0 : i = 0
      · subst hi0; simp
      · rw [wrap_pred (by omega) (by omega), Int.toNat_natCast]
        have e1 : decide (0 < (i : Int)) = true := by simp; omega
        have e2 : decide (i = 0) = false := by simpa using hi0
        rw [e1, e2]; simp
    rw [hc]
    generalize isL (l.getD i Bnd.zero).nm = b1 at hb
    generalize (decide (i = 0) || Op.bytesLess (l.getD (i - 1) Bnd.zero).nm (l.getD i Bnd.zero).nm) = b3 at hb
    refine ⟨fun h2 => ⟨h2, ?_⟩, fun h2 => ⟨h2, h⟩, fun h2 => ⟨h2, fun h3 => by rw [h2]; simpa using h3⟩, fun h2 => by rw [Bool.not_eq_false'] at h2; exact h2, fun h2 => ⟨h2, h⟩, ?_⟩
    · have : 0 < i := by simp at h2; omega
      rw [wrap_pred this (by omega)]; omega
    refine callg_of (fun h => ret_impl_Category_isCategory (l.getD i Bnd.zero).cat) rfl (fun h => h) (.inl rfl) ?_
    simp only [go_sem, Nat.reduceLT, Nat.reduceAdd, Nat.reduceSub, Nat.reduceEqDiff, Nat.reduceBEq, Nat.reduceLeDiff, ↓reduceIte]
    generalize (l.getD i Bnd.zero).cat.isB = b2 at hb
    have hbb : (!b1 || !b3 || !b2) = !bI l i := by rw [hb]; cases b1 <;> cases b2 <;> cases b3 <;> rfl
    rw [hbb]
    refine ⟨fun h2 => by revert h2; cases b1 <;> cases b3 <;> simp, fun h2 => ?_, fun h2 => ?_⟩
    · exact (allB_stop h (by simpa using h2)).symm
    · exact ⟨i + 1, ⟨by omega, allB_succ ha (by simpa using h2)⟩, by omega, by rw [wrap_lt h hm]⟩
  · have : i = l.length := by omega
    subst this
    exact ha.symm
-- impl.AreBound
def c_impl_AreBound : C :=
  (.seq (.ops [] [⟨none, .asg 1 (.k (.bool false))⟩] [])
  (.seq (.ops [] [⟨none, .mv (.v 0)⟩,
    ⟨none, .call 53 [(.t 0)]⟩,
    ⟨none, .asg 1 (.t 1)⟩] [])
  .ret))
def tr_impl_AreBound : List Nat := [0, 2]
def rs_impl_AreBound : List RS := [.t 1]
theorem ok_impl_AreBound : fnOk Go.Proofs.Try.prog Go.Proofs.Try.f14 tr_impl_AreBound c_impl_AreBound 1 rs_impl_AreBound = true := by decide +kernel

theorem ret_impl_AreBound (l : List Bnd) : Ret Go.Proofs.Try.prog 14 [.v (lst Bnd.d Bnd.zero l)] (.bool (bndB l)) := by
  refine ret_fn Go.Proofs.Try.func14 ok_impl_AreBound rfl (show 1 < 500 by decide) rfl ?_
  unfold c_impl_AreBound tr_impl_AreBound rs_impl_AreBound
  simp only [go_sem, Nat.reduceLT, Nat.reduceAdd, Nat.reduceSub, Nat.reduceEqDiff, Nat.reduceBEq, Nat.reduceLeDiff, ↓reduceIte]
  refine call_of (ret_impl_areBound l) rfl (.inl rfl) ?_
  simp only [go_sem, Nat.reduceLT, Nat.reduceAdd, Nat.reduceSub, Nat.reduceEqDiff, Nat.reduceBEq, Nat.reduceLeDiff, ↓reduceIte]
end Go.D3
