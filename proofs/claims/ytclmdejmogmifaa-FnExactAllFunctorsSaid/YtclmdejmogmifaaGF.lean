/- CONTRACTS: the law FnExactCountFunctors. -/
import Derived.Test.YtclmdejmogmifaaGA
import Derived.Test.YtclmdejmogmifaaGD
import Derived.Test.YtclmdejmogmifaaGE
/- CONTRACTS: the law FnExactCountFunctors. -/
namespace Go.D3
open Go
set_option maxRecDepth 100000
/-- There is a list of all functors. -/
theorem allL (c d : Cat) : ∃ L, c.Shape → d.Shape → EnO c d [] L := by
  by_cases h : c.Shape ∧ d.Shape
  · have := h.1.ob0
    obtain ⟨L, hL⟩ := EnO.exists h.1 h.2 c.ob.toNat (pre := []) (by simp only [List.length_nil]; omega) (fun i hi => absurd hi (Nat.not_lt_zero _))
    exact ⟨L, fun _ _ => hL⟩
  · exact ⟨[], fun h1 h2 => absurd ⟨h1, h2⟩ h⟩
-- laws.FnExactCountFunctors
def c_laws_FnExactCountFunctors : C :=
  (.seq (.ops [3, 4] [⟨none, .boxv 5 (.v 0)⟩,
    ⟨none, .boxv 5 (.v 1)⟩,
    ⟨none, .asg 2 (.k (.bool false))⟩] [(3, 0), (4, 1)])
  (.seq (.ops [] [⟨none, .asg 5 (.i 1048576)⟩] [])
  (.seq (.ops [] [⟨none, .lda 5 (.v 3)⟩,
    ⟨none, .mv (.v 5)⟩,
    ⟨none, .call 16 [(.t 0), (.t 1)]⟩,
    ⟨none, .asg 5 (.t 2)⟩] [])
  (.seq (.opc [] [⟨none, .mv (.v 5)⟩,
    ⟨none, .bin .lss (.t 0) (.i 0)⟩] [] (.t 1) (.seq (.ops [] [⟨none, .asg 2 (.k (.bool true))⟩] [])
  .ret)
  .skip)
  (.seq (.ops [] [⟨none, .lda 5 (.v 4)⟩,
    ⟨none, .mv (.v 5)⟩,
    ⟨none, .call 16 [(.t 0), (.t 1)]⟩,
    ⟨none, .asg 5 (.t 2)⟩] [])
  (.seq (.opc [] [⟨none, .mv (.v 5)⟩,
    ⟨none, .bin .lss (.t 0) (.i 0)⟩] [] (.t 1) (.seq (.ops [] [⟨none, .asg 2 (.k (.bool true))⟩] [])
  .ret)
  .skip)
  (.seq (.ops [6] [⟨none, .lda 5 (.v 3)⟩,
    ⟨none, .call 18 [(.t 0)]⟩,
    ⟨none, .lda 5 (.v 4)⟩,
    ⟨none, .call 18 [(.t 2)]⟩,
    ⟨none, .call 17 [(.t 1), (.t 3)]⟩,
    ⟨none, .mv (.t 4)⟩,
    ⟨none, .ext 0 (.t 5)⟩,
    ⟨none, .ext 1 (.t 5)⟩,
    ⟨none, .mv (.t 6)⟩,
    ⟨none, .asg 7 (.t 7)⟩] [(6, 8)])
  (.seq (.ops [8] [⟨none, .lda 5 (.v 3)⟩,
    ⟨none, .call 18 [(.t 0)]⟩,
    ⟨none, .alc [.int .i64 0, .nils (.int .i64 0), .nils (.int .i64 0), .nils (.int .i64 0), .nils (ints [])]⟩,
    ⟨none, .stn 5 (.t 2) (.t 1)⟩] [(8, 2)])
  (.seq (.ops [9] [⟨none, .lda 5 (.v 4)⟩,
    ⟨none, .call 18 [(.t 0)]⟩,
    ⟨none, .alc [.int .i64 0, .nils (.int .i64 0), .nils (.int .i64 0), .nils (.int .i64 0), .nils (ints [])]⟩,
    ⟨none, .stn 5 (.t 2) (.t 1)⟩] [(9, 2)])
  (.seq (.ops [] [⟨none, .lda 5 (.v 8)⟩,
    ⟨none, .lda 5 (.v 9)⟩,
    ⟨none, .call 19 [(.t 0), (.t 1)]⟩,
    ⟨none, .mv (.t 2)⟩,
    ⟨none, .ext 0 (.t 3)⟩,
    ⟨none, .ext 1 (.t 3)⟩,
    ⟨none, .asg 10 (.t 4)⟩,
    ⟨none, .asg 11 (.t 5)⟩] [])
  (.seq (.opc [] [⟨none, .mv (.v 10)⟩,
    ⟨none, .mv (.v 6)⟩,
    ⟨none, .bin .neq (.t 0) (.t 1)⟩,
    ⟨none, .mv (.t 2)⟩,
    ⟨some (3, false), .mv (.v 11)⟩,
    ⟨some (3, false), .mv (.v 7)⟩,
    ⟨some (3, false), .bin .neq (.t 4) (.t 5)⟩,
    ⟨none, .pick (.t 3) (.k (.bool true)) (.t 6)⟩] [] (.t 7) (.seq (.ops [] [⟨none, .asg 2 (.k (.bool false))⟩] [])
  .ret)
  .skip)
  (.seq (.opc [] [⟨none, .lda 5 (.v 8)⟩,
    ⟨none, .lda 5 (.v 3)⟩,
    ⟨none, .call 18 [(.t 1)]⟩,
    ⟨none, .call 20 [(.t 0), (.t 2)]⟩,
    ⟨none, .not (.t 3)⟩] [] (.t 4) (.seq (.ops [] [⟨none, .asg 2 (.k (.bool false))⟩] [])
  .ret)
  .skip)
  (.seq (.opc [] [⟨none, .lda 5 (.v 9)⟩,
    ⟨none, .lda 5 (.v 4)⟩,
    ⟨none, .call 18 [(.t 1)]⟩,
    ⟨none, .call 20 [(.t 0), (.t 2)]⟩,
    ⟨none, .not (.t 3)⟩] [] (.t 4) (.seq (.ops [] [⟨none, .asg 2 (.k (.bool false))⟩] [])
  .ret)
  .skip)
  (.seq (.ops [] [⟨none, .asg 2 (.k (.bool true))⟩] [])
  .ret))))))))))))))
def tr_laws_FnExactCountFunctors : List Nat := [0, 1, 4, 2, 3, 5, 6, 7, 8, 9, 10, 11]
def rs_laws_FnExactCountFunctors : List RS := [.t 2]
theorem ok_laws_FnExactCountFunctors : fnOk Go.Proofs.Try.prog Go.Proofs.Try.f4 tr_laws_FnExactCountFunctors c_laws_FnExactCountFunctors 2 rs_laws_FnExactCountFunctors = true := by decide +kernel

theorem ret_laws_FnExactCountFunctors (c d : Cat) : Ret Go.Proofs.Try.prog 4 [.v c.d, .v d.d] (.bool true) := by
  obtain ⟨L, hL⟩ := allL c d
  refine ret_fn Go.Proofs.Try.func4 ok_laws_FnExactCountFunctors rfl (show 2 < 500 by decide) rfl ?_; unfold c_laws_FnExactCountFunctors tr_laws_FnExactCountFunctors rs_laws_FnExactCountFunctors; simp only [go_sem, Nat.reduceLT, Nat.reduceAdd, Nat.reduceSub, Nat.reduceLeDiff, ↓reduceIte]
  refine call_of (ret_laws_szCategory c _ (by decide) (by decide)) rfl (.inl rfl) ?_
  simp only [go_sem, Nat.reduceLT, Nat.reduceAdd, Nat.reduceSub, Nat.reduceLeDiff, ↓reduceIte]
  refine fun h => ?_
  have hcc : Cat.cost c ≤ 1048576 := by
    unfold sb at h
    split at h <;> omega
  have hsb : 0 ≤ sb 1048576 c.cost ∧ sb 1048576 c.cost ≤ 1048576 := by
    refine ⟨by omega, ?_⟩
    unfold sb
    split <;> omega
  refine call_of (ret_laws_szCategory d _ hsb.1 hsb.2) rfl (.inl rfl) ?_
  simp only [go_sem, Nat.reduceLT, Nat.reduceAdd, Nat.reduceSub, Nat.reduceLeDiff, ↓reduceIte]
  refine fun h2 => ?_
  have hcd : Cat.cost d ≤ 1048576 := by
    have := hsb.2
    generalize sb 1048576 c.cost = q at h2 this
    unfold sb at h2
    split at h2 <;> omega
  refine call_of (ret_laws_toCategory c hcc) rfl (.inl (nv_Cat _)) ?_
  simp only [go_sem, Nat.reduceLT, Nat.reduceAdd, Nat.reduceSub, Nat.reduceLeDiff, ↓reduceIte]
  refine call_of (ret_laws_toCategory d hcd) rfl (.inl (nv_Cat _)) ?_
  simp only [go_sem, Nat.reduceLT, Nat.reduceAdd, Nat.reduceSub, ↓reduceIte]
  refine call_of (ret_spec_CountFunctors c d hcc hcd L hL) rfl (.inl rfl) ?_
  simp only [go_sem, Nat.reduceLT, Nat.reduceAdd, Nat.reduceSub, Nat.reduceLeDiff, ↓reduceIte]
  refine call_of (ret_laws_toCategory c hcc) rfl (.inl (nv_Cat _)) ?_
  simp only [go_sem, Nat.reduceLT, Nat.reduceAdd, Nat.reduceSub, Nat.reduceEqDiff, Nat.reduceLeDiff, ↓reduceIte]
  refine call_of (ret_laws_toCategory d hcd) rfl (.inl (nv_Cat _)) ?_
  simp only [go_sem, Nat.reduceLT, Nat.reduceAdd, Nat.reduceSub, Nat.reduceEqDiff, ↓reduceIte]
  refine call_of (ret_impl_CountFunctors c d hcc hcd L hL) rfl (.inl rfl) ?_
  simp only [go_sem, Nat.reduceLT, Nat.reduceAdd, Nat.reduceSub, Nat.reduceBEq, Nat.reduceLeDiff, ↓reduceIte]
  refine ⟨fun h => by simp, fun h => by simp at h, fun _ => ?_⟩
  refine call_of (ret_laws_toCategory c hcc) rfl (.inl (nv_Cat _)) ?_
  simp only [go_sem, Nat.reduceLT, Nat.reduceAdd, Nat.reduceSub, ↓reduceIte]
  refine call_of (ret_laws_eqCategory c) rfl (.inl rfl) ?_
  simp only [go_sem, Nat.reduceLT, Nat.reduceAdd, Nat.reduceSub, Nat.reduceLeDiff, ↓reduceIte]
  refine call_of (ret_laws_toCategory d hcd) rfl (.inl (nv_Cat _)) ?_
  simp only [go_sem, Nat.reduceLT, Nat.reduceAdd, Nat.reduceSub, ↓reduceIte]
  refine call_of (ret_laws_eqCategory d) rfl (.inl rfl) ?_
  simp only [go_sem, Nat.reduceLT, Nat.reduceAdd, Nat.reduceSub, Nat.reduceLeDiff, ↓reduceIte]
end Go.D3
