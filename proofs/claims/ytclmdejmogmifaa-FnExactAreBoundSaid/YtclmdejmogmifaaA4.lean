/- CONTRACTS: comparisons. -/
import Derived.Test.YtclmdejmogmifaaA2
namespace Go.D3
open Go
set_option maxRecDepth 100000

-- laws.eqInt64S
def c_laws_eqInt64S : C :=
  (.seq (.ops [] [⟨none, .asg 2 (.k (.bool false))⟩] [])
  (.seq (.opc [] [⟨none, .mv (.v 0)⟩,
    ⟨none, .len (.t 0)⟩,
    ⟨none, .mv (.v 1)⟩,
    ⟨none, .len (.t 2)⟩,
    ⟨none, .bin .neq (.t 1) (.t 3)⟩] [] (.t 4) (.seq (.ops [] [⟨none, .asg 2 (.k (.bool false))⟩] [])
  .ret)
  .skip)
  (.seq (.seq (.ops [] [⟨none, .asg 3 (.i 0)⟩] [])
  (.block 0 (.loop (.seq (.opc [] [⟨none, .mv (.v 3)⟩,
    ⟨none, .mv (.v 0)⟩,
    ⟨none, .len (.t 1)⟩,
    ⟨none, .bin .lss (.t 0) (.t 2)⟩] [] (.t 3) .skip
  (.exit 0))
  (.seq (.block 1 (.opc [] [⟨none, .mv (.v 0)⟩,
    ⟨none, .mv (.v 3)⟩,
    ⟨none, .idxA 1 (.t 0) (.t 1)⟩,
    ⟨none, .ld (.t 2)⟩,
    ⟨none, .mv (.v 1)⟩,
    ⟨none, .mv (.v 3)⟩,
    ⟨none, .idxA 1 (.t 4) (.t 5)⟩,
    ⟨none, .ld (.t 6)⟩,
    ⟨none, .bin .neq (.t 3) (.t 7)⟩] [] (.t 8) (.seq (.ops [] [⟨none, .asg 2 (.k (.bool false))⟩] [])
  .ret)
  .skip))
  (.ops [] [⟨none, .mv (.v 3)⟩,
    ⟨none, .bin .add (.t 0) (.i 1)⟩,
    ⟨none, .asg 3 (.t 1)⟩] []))))))
  (.seq (.ops [] [⟨none, .asg 2 (.k (.bool true))⟩] [])
  .ret))))
def tr_laws_eqInt64S : List Nat := [0, 1, 4, 5]
def rs_laws_eqInt64S : List RS := [.t 2]
theorem ok_laws_eqInt64S : fnOk Go.Proofs.Try.prog Go.Proofs.Try.f59 tr_laws_eqInt64S c_laws_eqInt64S 2 rs_laws_eqInt64S = true := by decide +kernel

theorem ret_laws_eqInt64S (a : List (Int)) : Ret Go.Proofs.Try.prog 59 [.v (ints a), .v (ints a)] (.bool true) := by
  refine ret_wf fun hw => ?_
  simp only [argsWf, wfd_lst] at hw
  have hm := hw.1.1
  refine ret_fn Go.Proofs.Try.func59 ok_laws_eqInt64S rfl (show 2 < 500 by decide) rfl ?_
  unfold c_laws_eqInt64S tr_laws_eqInt64S rs_laws_eqInt64S
  simp only [go_sem, Nat.reduceLT, Nat.reduceAdd, Nat.reduceSub, Nat.reduceEqDiff, Nat.reduceBEq, Nat.reduceLeDiff, ↓reduceIte]
  refine ⟨fun h => by simp at h, fun _ => ?_⟩
  refine loop_set [] (fun (i : Nat) => [(3, .int .i64 i)]) (fun i => i ≤ a.length) (fun i => a.length - i) 0 rfl (Nat.zero_le _) rfl ?_
  rintro i hi
  simp only [go_sem, Nat.reduceLT, Nat.reduceAdd, Nat.reduceSub, Nat.reduceEqDiff, Nat.reduceBEq, Nat.reduceLeDiff, ↓reduceIte]
  exact fun h => ⟨h, h, fun h2 => by simp at h2, fun _ => ⟨i + 1, by omega, by omega, by rw [wrap_lt h hm]⟩⟩

-- laws.eqInt64SS
def c_laws_eqInt64SS : C :=
  (.seq (.ops [] [⟨none, .asg 2 (.k (.bool false))⟩] [])
  (.seq (.opc [] [⟨none, .mv (.v 0)⟩,
    ⟨none, .len (.t 0)⟩,
    ⟨none, .mv (.v 1)⟩,
    ⟨none, .len (.t 2)⟩,
    ⟨none, .bin .neq (.t 1) (.t 3)⟩] [] (.t 4) (.seq (.ops [] [⟨none, .asg 2 (.k (.bool false))⟩] [])
  .ret)
  .skip)
  (.seq (.seq (.ops [] [⟨none, .asg 3 (.i 0)⟩] [])
  (.block 0 (.loop (.seq (.opc [] [⟨none, .mv (.v 3)⟩,
    ⟨none, .mv (.v 0)⟩,
    ⟨none, .len (.t 1)⟩,
    ⟨none, .bin .lss (.t 0) (.t 2)⟩] [] (.t 3) .skip
  (.exit 0))
  (.seq (.block 1 (.opc [] [⟨none, .mv (.v 0)⟩,
    ⟨none, .mv (.v 3)⟩,
    ⟨none, .idxA 1 (.t 0) (.t 1)⟩,
    ⟨none, .ld (.t 2)⟩,
    ⟨none, .mv (.v 1)⟩,
    ⟨none, .mv (.v 3)⟩,
    ⟨none, .idxA 1 (.t 4) (.t 5)⟩,
    ⟨none, .ld (.t 6)⟩,
    ⟨none, .call 59 [(.t 3), (.t 7)]⟩,
    ⟨none, .not (.t 8)⟩] [] (.t 9) (.seq (.ops [] [⟨none, .asg 2 (.k (.bool false))⟩] [])
  .ret)
  .skip))
  (.ops [] [⟨none, .mv (.v 3)⟩,
    ⟨none, .bin .add (.t 0) (.i 1)⟩,
    ⟨none, .asg 3 (.t 1)⟩] []))))))
  (.seq (.ops [] [⟨none, .asg 2 (.k (.bool true))⟩] [])
  .ret))))
def tr_laws_eqInt64SS : List Nat := [0, 1, 4, 5]
def rs_laws_eqInt64SS : List RS := [.t 2]
theorem ok_laws_eqInt64SS : fnOk Go.Proofs.Try.prog Go.Proofs.Try.f39 tr_laws_eqInt64SS c_laws_eqInt64SS 2 rs_laws_eqInt64SS = true := by decide +kernel

theorem ret_laws_eqInt64SS (a : List (List (Int))) : Ret Go.Proofs.Try.prog 39 [.v (intss a), .v (intss a)] (.bool true) := by
  refine ret_wf fun hw => ?_
  simp only [argsWf, wfd_lst] at hw
  have hm := hw.1.1
  refine ret_fn Go.Proofs.Try.func39 ok_laws_eqInt64SS rfl (show 2 < 500 by decide) rfl ?_
  unfold c_laws_eqInt64SS tr_laws_eqInt64SS rs_laws_eqInt64SS
  simp only [go_sem, Nat.reduceLT, Nat.reduceAdd, Nat.reduceSub, Nat.reduceEqDiff, Nat.reduceBEq, Nat.reduceLeDiff, ↓reduceIte]
  refine ⟨fun h => by simp at h, fun _ => ?_⟩
  refine loop_set [] (fun (i : Nat) => [(3, .int .i64 i)]) (fun i => i ≤ a.length) (fun i => a.length - i) 0 rfl (Nat.zero_le _) rfl ?_
  rintro i hi
  simp only [go_sem, Nat.reduceLT, Nat.reduceAdd, Nat.reduceSub, Nat.reduceEqDiff, Nat.reduceBEq, Nat.reduceLeDiff, ↓reduceIte]
  refine fun h => ⟨h, h, call_of (ret_laws_eqInt64S (a.getD i [])) rfl (.inl rfl) ?_⟩
  simp only [go_sem, Nat.reduceLT, Nat.reduceAdd, Nat.reduceSub, Nat.reduceEqDiff, Nat.reduceBEq, Nat.reduceLeDiff, ↓reduceIte]
  exact ⟨i + 1, by omega, by omega, by rw [wrap_lt h hm]⟩

-- laws.eqCategory
def c_laws_eqCategory : C :=
  (.seq (.ops [3, 4] [⟨none, .boxv 5 (.v 0)⟩,
    ⟨none, .boxv 5 (.v 1)⟩,
    ⟨none, .asg 2 (.k (.bool false))⟩] [(3, 0), (4, 1)])
  (.seq (.opc [] [⟨none, .fA 0 (.v 3)⟩,
    ⟨none, .ld (.t 0)⟩,
    ⟨none, .fA 0 (.v 4)⟩,
    ⟨none, .ld (.t 2)⟩,
    ⟨none, .bin .neq (.t 1) (.t 3)⟩] [] (.t 4) (.seq (.ops [] [⟨none, .asg 2 (.k (.bool false))⟩] [])
  .ret)
  .skip)
  (.seq (.opc [] [⟨none, .fA 1 (.v 3)⟩,
    ⟨none, .ld (.t 0)⟩,
    ⟨none, .fA 1 (.v 4)⟩,
    ⟨none, .ld (.t 2)⟩,
    ⟨none, .call 59 [(.t 1), (.t 3)]⟩,
    ⟨none, .not (.t 4)⟩] [] (.t 5) (.seq (.ops [] [⟨none, .asg 2 (.k (.bool false))⟩] [])
  .ret)
  .skip)
  (.seq (.opc [] [⟨none, .fA 2 (.v 3)⟩,
    ⟨none, .ld (.t 0)⟩,
    ⟨none, .fA 2 (.v 4)⟩,
    ⟨none, .ld (.t 2)⟩,
    ⟨none, .call 59 [(.t 1), (.t 3)]⟩,
    ⟨none, .not (.t 4)⟩] [] (.t 5) (.seq (.ops [] [⟨none, .asg 2 (.k (.bool false))⟩] [])
  .ret)
  .skip)
  (.seq (.opc [] [⟨none, .fA 3 (.v 3)⟩,
    ⟨none, .ld (.t 0)⟩,
    ⟨none, .fA 3 (.v 4)⟩,
    ⟨none, .ld (.t 2)⟩,
    ⟨none, .call 59 [(.t 1), (.t 3)]⟩,
    ⟨none, .not (.t 4)⟩] [] (.t 5) (.seq (.ops [] [⟨none, .asg 2 (.k (.bool false))⟩] [])
  .ret)
  .skip)
  (.seq (.opc [] [⟨none, .fA 4 (.v 3)⟩,
    ⟨none, .ld (.t 0)⟩,
    ⟨none, .fA 4 (.v 4)⟩,
    ⟨none, .ld (.t 2)⟩,
    ⟨none, .call 39 [(.t 1), (.t 3)]⟩,
    ⟨none, .not (.t 4)⟩] [] (.t 5) (.seq (.ops [] [⟨none, .asg 2 (.k (.bool false))⟩] [])
  .ret)
  .skip)
  (.seq (.ops [] [⟨none, .asg 2 (.k (.bool true))⟩] [])
  .ret)))))))
def tr_laws_eqCategory : List Nat := [0, 1, 4, 2, 3]
def rs_laws_eqCategory : List RS := [.t 2]
theorem ok_laws_eqCategory : fnOk Go.Proofs.Try.prog Go.Proofs.Try.f20 tr_laws_eqCategory c_laws_eqCategory 2 rs_laws_eqCategory = true := by decide +kernel

theorem ret_laws_eqCategory (a : Cat) : Ret Go.Proofs.Try.prog 20 [.v (Cat.d a), .v (Cat.d a)] (.bool true) := by
  refine ret_fn Go.Proofs.Try.func20 ok_laws_eqCategory rfl (show 2 < 500 by decide) rfl ?_
  unfold c_laws_eqCategory tr_laws_eqCategory rs_laws_eqCategory
  simp only [go_sem, Nat.reduceLT, Nat.reduceAdd, Nat.reduceSub, Nat.reduceEqDiff, Nat.reduceBEq, Nat.reduceLeDiff, ↓reduceIte]
  refine ⟨fun h => by simp at h, fun _ => ?_⟩
  refine call_of (ret_laws_eqInt64S a.fr) rfl (.inl rfl) ?_
  simp only [go_sem, Nat.reduceLT, Nat.reduceAdd, Nat.reduceSub, Nat.reduceEqDiff, Nat.reduceBEq, Nat.reduceLeDiff, ↓reduceIte]
  refine call_of (ret_laws_eqInt64S a.to) rfl (.inl rfl) ?_
  simp only [go_sem, Nat.reduceLT, Nat.reduceAdd, Nat.reduceSub, Nat.reduceEqDiff, Nat.reduceBEq, Nat.reduceLeDiff, ↓reduceIte]
  refine call_of (ret_laws_eqInt64S a.idn) rfl (.inl rfl) ?_
  simp only [go_sem, Nat.reduceLT, Nat.reduceAdd, Nat.reduceSub, Nat.reduceEqDiff, Nat.reduceBEq, Nat.reduceLeDiff, ↓reduceIte]
  refine call_of (ret_laws_eqInt64SS a.co) rfl (.inl rfl) ?_
  simp only [go_sem, Nat.reduceLT, Nat.reduceAdd, Nat.reduceSub, Nat.reduceEqDiff, Nat.reduceBEq, Nat.reduceLeDiff, ↓reduceIte]
  all_goals trivial

-- laws.eqBound
def c_laws_eqBound : C :=
  (.seq (.ops [3, 4] [⟨none, .boxv 6 (.v 0)⟩,
    ⟨none, .boxv 6 (.v 1)⟩,
    ⟨none, .asg 2 (.k (.bool false))⟩] [(3, 0), (4, 1)])
  (.seq (.opc [] [⟨none, .fA 0 (.v 3)⟩,
    ⟨none, .ld (.t 0)⟩,
    ⟨none, .fA 0 (.v 4)⟩,
    ⟨none, .ld (.t 2)⟩,
    ⟨none, .bin .neq (.t 1) (.t 3)⟩] [] (.t 4) (.seq (.ops [] [⟨none, .asg 2 (.k (.bool false))⟩] [])
  .ret)
  .skip)
  (.seq (.opc [] [⟨none, .fA 1 (.v 3)⟩,
    ⟨none, .lda 5 (.t 0)⟩,
    ⟨none, .fA 1 (.v 4)⟩,
    ⟨none, .lda 5 (.t 2)⟩,
    ⟨none, .call 20 [(.t 1), (.t 3)]⟩,
    ⟨none, .not (.t 4)⟩] [] (.t 5) (.seq (.ops [] [⟨none, .asg 2 (.k (.bool false))⟩] [])
  .ret)
  .skip)
  (.seq (.ops [] [⟨none, .asg 2 (.k (.bool true))⟩] [])
  .ret))))
def tr_laws_eqBound : List Nat := [0, 1, 4, 2, 3]
def rs_laws_eqBound : List RS := [.t 2]
theorem ok_laws_eqBound : fnOk Go.Proofs.Try.prog Go.Proofs.Try.f54 tr_laws_eqBound c_laws_eqBound 2 rs_laws_eqBound = true := by decide +kernel

theorem ret_laws_eqBound (a : Bnd) : Ret Go.Proofs.Try.prog 54 [.v (Bnd.d a), .v (Bnd.d a)] (.bool true) := by
  refine ret_fn Go.Proofs.Try.func54 ok_laws_eqBound rfl (show 2 < 500 by decide) rfl ?_
  unfold c_laws_eqBound tr_laws_eqBound rs_laws_eqBound
  simp only [go_sem, Nat.reduceLT, Nat.reduceAdd, Nat.reduceSub, Nat.reduceEqDiff, Nat.reduceBEq, Nat.reduceLeDiff, ↓reduceIte]
  refine ⟨fun h => by simp at h, fun _ => ?_⟩
  refine call_of (ret_laws_eqCategory a.cat) rfl (.inl rfl) ?_
  simp only [go_sem, Nat.reduceLT, Nat.reduceAdd, Nat.reduceSub, Nat.reduceEqDiff, Nat.reduceBEq, Nat.reduceLeDiff, ↓reduceIte]
  all_goals trivial

-- laws.eqBoundS
def c_laws_eqBoundS : C :=
  (.seq (.ops [] [⟨none, .asg 2 (.k (.bool false))⟩] [])
  (.seq (.opc [] [⟨none, .mv (.v 0)⟩,
    ⟨none, .len (.t 0)⟩,
    ⟨none, .mv (.v 1)⟩,
    ⟨none, .len (.t 2)⟩,
    ⟨none, .bin .neq (.t 1) (.t 3)⟩] [] (.t 4) (.seq (.ops [] [⟨none, .asg 2 (.k (.bool false))⟩] [])
  .ret)
  .skip)
  (.seq (.seq (.ops [] [⟨none, .asg 3 (.i 0)⟩] [])
  (.block 0 (.loop (.seq (.opc [] [⟨none, .mv (.v 3)⟩,
    ⟨none, .mv (.v 0)⟩,
    ⟨none, .len (.t 1)⟩,
    ⟨none, .bin .lss (.t 0) (.t 2)⟩] [] (.t 3) .skip
  (.exit 0))
  (.seq (.block 1 (.opc [] [⟨none, .mv (.v 0)⟩,
    ⟨none, .mv (.v 3)⟩,
    ⟨none, .idxA 6 (.t 0) (.t 1)⟩,
    ⟨none, .lda 6 (.t 2)⟩,
    ⟨none, .mv (.v 1)⟩,
    ⟨none, .mv (.v 3)⟩,
    ⟨none, .idxA 6 (.t 4) (.t 5)⟩,
    ⟨none, .lda 6 (.t 6)⟩,
    ⟨none, .call 54 [(.t 3), (.t 7)]⟩,
    ⟨none, .not (.t 8)⟩] [] (.t 9) (.seq (.ops [] [⟨none, .asg 2 (.k (.bool false))⟩] [])
  .ret)
  .skip))
  (.ops [] [⟨none, .mv (.v 3)⟩,
    ⟨none, .bin .add (.t 0) (.i 1)⟩,
    ⟨none, .asg 3 (.t 1)⟩] []))))))
  (.seq (.ops [] [⟨none, .asg 2 (.k (.bool true))⟩] [])
  .ret))))
def tr_laws_eqBoundS : List Nat := [0, 1, 4, 5]
def rs_laws_eqBoundS : List RS := [.t 2]
theorem ok_laws_eqBoundS : fnOk Go.Proofs.Try.prog Go.Proofs.Try.f15 tr_laws_eqBoundS c_laws_eqBoundS 2 rs_laws_eqBoundS = true := by decide +kernel

theorem ret_laws_eqBoundS (a : List (Bnd)) : Ret Go.Proofs.Try.prog 15 [.v (lst Bnd.d Bnd.zero a), .v (lst Bnd.d Bnd.zero a)] (.bool true) := by
  refine ret_wf fun hw => ?_
  simp only [argsWf, wfd_lst] at hw
  have hm := hw.1.1
  refine ret_fn Go.Proofs.Try.func15 ok_laws_eqBoundS rfl (show 2 < 500 by decide) rfl ?_
  unfold c_laws_eqBoundS tr_laws_eqBoundS rs_laws_eqBoundS
  simp only [go_sem, Nat.reduceLT, Nat.reduceAdd, Nat.reduceSub, Nat.reduceEqDiff, Nat.reduceBEq, Nat.reduceLeDiff, ↓reduceIte]
  refine ⟨fun h => by simp at h, fun _ => ?_⟩
  refine loop_set [] (fun (i : Nat) => [(3, .int .i64 i)]) (fun i => i ≤ a.length) (fun i => a.length - i) 0 rfl (Nat.zero_le _) rfl ?_
  rintro i hi
  simp only [go_sem, Nat.reduceLT, Nat.reduceAdd, Nat.reduceSub, Nat.reduceEqDiff, Nat.reduceBEq, Nat.reduceLeDiff, ↓reduceIte]
  refine fun h => ⟨h, h, call_of (ret_laws_eqBound (a.getD i Bnd.zero)) rfl (.inl rfl) ?_⟩
  simp only [go_sem, Nat.reduceLT, Nat.reduceAdd, Nat.reduceSub, Nat.reduceEqDiff, Nat.reduceBEq, Nat.reduceLeDiff, ↓reduceIte]
  exact ⟨i + 1, by omega, by omega, by rw [wrap_lt h hm]⟩
end Go.D3
