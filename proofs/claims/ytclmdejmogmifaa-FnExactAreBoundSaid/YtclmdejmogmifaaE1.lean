/- CONTRACTS: the law FnExactAreBound. -/
import Derived.Test.YtclmdejmogmifaaA3
import Derived.Test.YtclmdejmogmifaaA4
import Derived.Test.YtclmdejmogmifaaB4
import Derived.Test.YtclmdejmogmifaaC3
namespace Go.D3
open Go
set_option maxRecDepth 100000
-- laws.FnExactAreBound
def c_laws_FnExactAreBound : C :=
  (.seq (.ops [] [⟨none, .asg 1 (.k (.bool false))⟩] [])
  (.seq (.ops [] [⟨none, .asg 2 (.i 1048576)⟩] [])
  (.seq (.ops [] [⟨none, .mv (.v 0)⟩,
    ⟨none, .mv (.v 2)⟩,
    ⟨none, .call 11 [(.t 0), (.t 1)]⟩,
    ⟨none, .asg 2 (.t 2)⟩] [])
  (.seq (.opc [] [⟨none, .mv (.v 2)⟩,
    ⟨none, .bin .lss (.t 0) (.i 0)⟩] [] (.t 1) (.seq (.ops [] [⟨none, .asg 1 (.k (.bool true))⟩] [])
  .ret)
  .skip)
  (.seq (.ops [] [⟨none, .mv (.v 0)⟩,
    ⟨none, .call 13 [(.t 0)]⟩,
    ⟨none, .call 12 [(.t 1)]⟩,
    ⟨none, .asg 3 (.t 2)⟩] [])
  (.seq (.ops [] [⟨none, .mv (.v 0)⟩,
    ⟨none, .call 13 [(.t 0)]⟩,
    ⟨none, .asg 4 (.t 1)⟩] [])
  (.seq (.ops [] [⟨none, .mv (.v 4)⟩,
    ⟨none, .call 14 [(.t 0)]⟩,
    ⟨none, .asg 5 (.t 1)⟩] [])
  (.seq (.opc [] [⟨none, .mv (.v 5)⟩,
    ⟨none, .mv (.v 3)⟩,
    ⟨none, .binB .neq (.t 0) (.t 1)⟩] [] (.t 2) (.seq (.ops [] [⟨none, .asg 1 (.k (.bool false))⟩] [])
  .ret)
  .skip)
  (.seq (.opc [] [⟨none, .mv (.v 4)⟩,
    ⟨none, .mv (.v 0)⟩,
    ⟨none, .call 13 [(.t 1)]⟩,
    ⟨none, .call 15 [(.t 0), (.t 2)]⟩,
    ⟨none, .not (.t 3)⟩] [] (.t 4) (.seq (.ops [] [⟨none, .asg 1 (.k (.bool false))⟩] [])
  .ret)
  .skip)
  (.seq (.ops [] [⟨none, .asg 1 (.k (.bool true))⟩] [])
  .ret))))))))))
def tr_laws_FnExactAreBound : List Nat := [0, 2, 3, 4, 5, 6]
def rs_laws_FnExactAreBound : List RS := [.t 1]
theorem ok_laws_FnExactAreBound : fnOk Go.Proofs.Try.prog Go.Proofs.Try.f3 tr_laws_FnExactAreBound c_laws_FnExactAreBound 1 rs_laws_FnExactAreBound = true := by decide +kernel

theorem ret_laws_FnExactAreBound (l : List Bnd) : Ret Go.Proofs.Try.prog 3 [.v (lst Bnd.d Bnd.zero l)] (.bool true) := by
  refine ret_fn Go.Proofs.Try.func3 ok_laws_FnExactAreBound rfl (show 1 < 500 by decide) rfl ?_
  unfold c_laws_FnExactAreBound tr_laws_FnExactAreBound rs_laws_FnExactAreBound
  simp only [go_sem, Nat.reduceLT, Nat.reduceAdd, Nat.reduceSub, Nat.reduceEqDiff, Nat.reduceBEq, Nat.reduceLeDiff, ↓reduceIte]
  refine call_of (ret_laws_szBoundS l _ (by decide) (by decide)) rfl (.inl rfl) ?_
  simp only [go_sem, Nat.reduceLT, Nat.reduceAdd, Nat.reduceSub, Nat.reduceEqDiff, Nat.reduceBEq, Nat.reduceLeDiff, ↓reduceIte]
  refine fun h => ?_
  have hs : costL Bnd.cost l ≤ 1048576 := by
    unfold sb at h
    split at h <;> omega
  refine call_of (ret_laws_toBoundS l hs) rfl (.inl (nv_lst nv_Bnd l)) ?_
  simp only [go_sem, Nat.reduceLT, Nat.reduceAdd, Nat.reduceSub, Nat.reduceEqDiff, Nat.reduceBEq, Nat.reduceLeDiff, ↓reduceIte]
  refine call_of (ret_spec_AreBound l) rfl (.inl rfl) ?_
  simp only [go_sem, Nat.reduceLT, Nat.reduceAdd, Nat.reduceSub, Nat.reduceEqDiff, Nat.reduceBEq, Nat.reduceLeDiff, ↓reduceIte]
  refine call_of (ret_laws_toBoundS l hs) rfl (.inl (nv_lst nv_Bnd l)) ?_
  simp only [go_sem, Nat.reduceLT, Nat.reduceAdd, Nat.reduceSub, Nat.reduceEqDiff, Nat.reduceBEq, Nat.reduceLeDiff, ↓reduceIte]
  refine call_of (ret_impl_AreBound l) rfl (.inl rfl) ?_
  simp only [go_sem, Nat.reduceLT, Nat.reduceAdd, Nat.reduceSub, Nat.reduceEqDiff, Nat.reduceBEq, Nat.reduceLeDiff, ↓reduceIte]
  refine ⟨fun h2 => by simp at h2, fun _ => ?_⟩
  refine call_of (ret_laws_toBoundS l hs) rfl (.inl (nv_lst nv_Bnd l)) ?_
  simp only [go_sem, Nat.reduceLT, Nat.reduceAdd, Nat.reduceSub, Nat.reduceEqDiff, Nat.reduceBEq, Nat.reduceLeDiff, ↓reduceIte]
  refine call_of (ret_laws_eqBoundS l) rfl (.inl rfl) ?_
  simp only [go_sem, Nat.reduceLT, Nat.reduceAdd, Nat.reduceSub, Nat.reduceEqDiff, Nat.reduceBEq, Nat.reduceLeDiff, ↓reduceIte]
end Go.D3
