/- CONTRACTS: copies of arguments. -/
import Derived.Test.YtclmdejmogmifaaA2
namespace Go.D3
open Go
set_option maxRecDepth 100000

-- laws.toInt64S
def c_laws_toInt64S : C :=
  (.seq (.ops [] [⟨none, .asg 1 (.k (.nils (.int .i64 0)))⟩] [])
  (.seq (.ops [] [⟨none, .mv (.v 0)⟩,
    ⟨none, .len (.t 0)⟩,
    ⟨none, .mkS (.int .i64 0) 8 (.t 1) (.t 1)⟩,
    ⟨none, .asg 2 (.t 2)⟩] [])
  (.seq (.seq (.ops [] [⟨none, .asg 3 (.i 0)⟩] [])
  (.block 0 (.loop (.seq (.opc [] [⟨none, .mv (.v 3)⟩,
    ⟨none, .mv (.v 0)⟩,
    ⟨none, .len (.t 1)⟩,
    ⟨none, .bin .lss (.t 0) (.t 2)⟩] [] (.t 3) .skip
  (.exit 0))
  (.seq (.block 1 (.ops [] [⟨none, .mv (.v 2)⟩,
    ⟨none, .mv (.v 3)⟩,
    ⟨none, .mv (.v 0)⟩,
    ⟨none, .mv (.v 3)⟩,
    ⟨none, .idxA 1 (.t 2) (.t 3)⟩,
    ⟨none, .ld (.t 4)⟩,
    ⟨none, .idxA 1 (.t 0) (.t 1)⟩,
    ⟨none, .st (.t 6) (.t 5)⟩] []))
  (.ops [] [⟨none, .mv (.v 3)⟩,
    ⟨none, .bin .add (.t 0) (.i 1)⟩,
    ⟨none, .asg 3 (.t 1)⟩] []))))))
  (.seq (.ops [] [⟨none, .mv (.v 2)⟩,
    ⟨none, .asg 1 (.t 0)⟩] [])
  .ret))))
def tr_laws_toInt64S : List Nat := [0, 2, 3, 4]
def rs_laws_toInt64S : List RS := [.t 1]
theorem ok_laws_toInt64S : fnOk Go.Proofs.Try.prog Go.Proofs.Try.f57 tr_laws_toInt64S c_laws_toInt64S 1 rs_laws_toInt64S = true := by decide +kernel

theorem ret_laws_toInt64S (a : List (Int)) (hs : a.length ≤ 1048576) : Ret Go.Proofs.Try.prog 57 [.v (ints a)] (ints a) := by
  have hm : a.length ≤ maxLen := by simp only [maxLen]; omega
  refine ret_fn Go.Proofs.Try.func57 ok_laws_toInt64S rfl (show 1 < 500 by decide) rfl ?_
  unfold c_laws_toInt64S tr_laws_toInt64S rs_laws_toInt64S
  simp only [go_sem, Nat.reduceLT, Nat.reduceAdd, Nat.reduceSub, Nat.reduceEqDiff, Nat.reduceBEq, Nat.reduceLeDiff, ↓reduceIte]
  refine ⟨by omega, ?_⟩
  refine loop_set [] (fun (i : Nat) => [(2, .o (ints (cpy a 0 i))), (3, .int .i64 i)]) (fun i => i ≤ a.length) (fun i => a.length - i) 0 rfl (Nat.zero_le _) ?_ ?_
  · simp only [go_sem, cpy_zero]; rfl
  rintro i hi
  simp only [go_sem, Nat.reduceLT, Nat.reduceAdd, Nat.reduceSub, Nat.reduceEqDiff, Nat.reduceBEq, Nat.reduceLeDiff, ↓reduceIte]
  exact ⟨fun h => ⟨h, by rw [cpy_len hi]; exact h, by rw [cpy_len hi]; exact h, i + 1, by omega, by omega, by rw [cpy_set h, wrap_lt h hm]⟩, fun h => by rw [cpy_end h]⟩

-- laws.toInt64SS
def c_laws_toInt64SS : C :=
  (.seq (.ops [] [⟨none, .asg 1 (.k (.nils (ints [])))⟩] [])
  (.seq (.ops [] [⟨none, .mv (.v 0)⟩,
    ⟨none, .len (.t 0)⟩,
    ⟨none, .mkS (ints []) 24 (.t 1) (.t 1)⟩,
    ⟨none, .asg 2 (.t 2)⟩] [])
  (.seq (.seq (.ops [] [⟨none, .asg 3 (.i 0)⟩] [])
  (.block 0 (.loop (.seq (.opc [] [⟨none, .mv (.v 3)⟩,
    ⟨none, .mv (.v 0)⟩,
    ⟨none, .len (.t 1)⟩,
    ⟨none, .bin .lss (.t 0) (.t 2)⟩] [] (.t 3) .skip
  (.exit 0))
  (.seq (.block 1 (.ops [] [⟨none, .mv (.v 2)⟩,
    ⟨none, .mv (.v 3)⟩,
    ⟨none, .mv (.v 0)⟩,
    ⟨none, .mv (.v 3)⟩,
    ⟨none, .idxA 1 (.t 2) (.t 3)⟩,
    ⟨none, .ld (.t 4)⟩,
    ⟨none, .call 57 [(.t 5)]⟩,
    ⟨none, .idxA 1 (.t 0) (.t 1)⟩,
    ⟨none, .st (.t 7) (.t 6)⟩] []))
  (.ops [] [⟨none, .mv (.v 3)⟩,
    ⟨none, .bin .add (.t 0) (.i 1)⟩,
    ⟨none, .asg 3 (.t 1)⟩] []))))))
  (.seq (.ops [] [⟨none, .mv (.v 2)⟩,
    ⟨none, .asg 1 (.t 0)⟩] [])
  .ret))))
def tr_laws_toInt64SS : List Nat := [0, 2, 3, 4]
def rs_laws_toInt64SS : List RS := [.t 1]
theorem ok_laws_toInt64SS : fnOk Go.Proofs.Try.prog Go.Proofs.Try.f58 tr_laws_toInt64SS c_laws_toInt64SS 1 rs_laws_toInt64SS = true := by decide +kernel

theorem ret_laws_toInt64SS (a : List (List (Int))) (hs : costL List.length a ≤ 1048576) : Ret Go.Proofs.Try.prog 58 [.v (intss a)] (intss a) := by
  have hm : a.length ≤ maxLen := by unfold costL at hs; simp only [maxLen]; omega
  refine ret_fn Go.Proofs.Try.func58 ok_laws_toInt64SS rfl (show 1 < 500 by decide) rfl ?_
  unfold c_laws_toInt64SS tr_laws_toInt64SS rs_laws_toInt64SS
  simp only [go_sem, Nat.reduceLT, Nat.reduceAdd, Nat.reduceSub, Nat.reduceEqDiff, Nat.reduceBEq, Nat.reduceLeDiff, ↓reduceIte]
  refine ⟨by unfold costL at hs; omega, ?_⟩
  refine loop_set [] (fun (i : Nat) => [(2, .o (intss (cpy a [] i))), (3, .int .i64 i)]) (fun i => i ≤ a.length) (fun i => a.length - i) 0 rfl (Nat.zero_le _) ?_ ?_
  · simp only [go_sem, cpy_zero]; rfl
  rintro i hi
  simp only [go_sem, Nat.reduceLT, Nat.reduceAdd, Nat.reduceSub, Nat.reduceEqDiff, Nat.reduceBEq, Nat.reduceLeDiff, ↓reduceIte]
  refine ⟨fun h => ⟨h, call_of (ret_laws_toInt64S (a.getD i []) (Nat.le_trans (cost_getD (cost := List.length) h _) hs)) rfl (.inl (nv_ints _)) ?_⟩, fun h => by rw [cpy_end h]⟩
  simp only [go_sem, Nat.reduceLT, Nat.reduceAdd, Nat.reduceSub, Nat.reduceEqDiff, Nat.reduceBEq, Nat.reduceLeDiff, ↓reduceIte]
  exact ⟨by rw [cpy_len hi]; exact h, by rw [cpy_len hi]; exact h, i + 1, by omega, by omega, by rw [cpy_set h, wrap_lt h hm]⟩

-- laws.toCategory
def c_laws_toCategory : C :=
  (.seq (.ops [2, 1] [⟨none, .boxv 5 (.v 0)⟩,
    ⟨none, .alc [.int .i64 0, ints [], ints [], ints [], intss []]⟩] [(2, 0), (1, 1)])
  (.seq (.ops [3] [⟨none, .alc [.int .i64 0, ints [], ints [], ints [], intss []]⟩] [(3, 0)])
  (.seq (.ops [] [⟨none, .fA 0 (.v 2)⟩,
    ⟨none, .ld (.t 0)⟩,
    ⟨none, .fA 0 (.v 3)⟩,
    ⟨none, .st (.t 2) (.t 1)⟩] [])
  (.seq (.ops [] [⟨none, .fA 1 (.v 2)⟩,
    ⟨none, .ld (.t 0)⟩,
    ⟨none, .call 57 [(.t 1)]⟩,
    ⟨none, .fA 1 (.v 3)⟩,
    ⟨none, .st (.t 3) (.t 2)⟩] [])
  (.seq (.ops [] [⟨none, .fA 2 (.v 2)⟩,
    ⟨none, .ld (.t 0)⟩,
    ⟨none, .call 57 [(.t 1)]⟩,
    ⟨none, .fA 2 (.v 3)⟩,
    ⟨none, .st (.t 3) (.t 2)⟩] [])
  (.seq (.ops [] [⟨none, .fA 3 (.v 2)⟩,
    ⟨none, .ld (.t 0)⟩,
    ⟨none, .call 57 [(.t 1)]⟩,
    ⟨none, .fA 3 (.v 3)⟩,
    ⟨none, .st (.t 3) (.t 2)⟩] [])
  (.seq (.ops [] [⟨none, .fA 4 (.v 2)⟩,
    ⟨none, .ld (.t 0)⟩,
    ⟨none, .call 58 [(.t 1)]⟩,
    ⟨none, .fA 4 (.v 3)⟩,
    ⟨none, .st (.t 3) (.t 2)⟩] [])
  (.seq (.ops [] [⟨none, .lda 5 (.v 3)⟩,
    ⟨none, .stn 5 (.v 1) (.t 0)⟩] [])
  .ret))))))))
def tr_laws_toCategory : List Nat := [0, 2, 1, 3]
def rs_laws_toCategory : List RS := [.c 1 5 true]
theorem ok_laws_toCategory : fnOk Go.Proofs.Try.prog Go.Proofs.Try.f18 tr_laws_toCategory c_laws_toCategory 1 rs_laws_toCategory = true := by decide +kernel

theorem ret_laws_toCategory (a : Cat) (hs : Cat.cost a ≤ 1048576) : Ret Go.Proofs.Try.prog 18 [.v (Cat.d a)] (Cat.d a) := by
  have hs2 := hs
  unfold Cat.cost at hs2
  refine ret_fn Go.Proofs.Try.func18 ok_laws_toCategory rfl (show 1 < 500 by decide) rfl ?_
  unfold c_laws_toCategory tr_laws_toCategory rs_laws_toCategory
  simp only [go_sem, Nat.reduceLT, Nat.reduceAdd, Nat.reduceSub, Nat.reduceEqDiff, Nat.reduceBEq, Nat.reduceLeDiff, ↓reduceIte]
  refine call_of (ret_laws_toInt64S a.fr (by omega)) rfl (.inl (nv_ints _)) ?_
  simp only [go_sem, Nat.reduceLT, Nat.reduceAdd, Nat.reduceSub, Nat.reduceEqDiff, Nat.reduceBEq, Nat.reduceLeDiff, ↓reduceIte]
  refine call_of (ret_laws_toInt64S a.to (by omega)) rfl (.inl (nv_ints _)) ?_
  simp only [go_sem, Nat.reduceLT, Nat.reduceAdd, Nat.reduceSub, Nat.reduceEqDiff, Nat.reduceBEq, Nat.reduceLeDiff, ↓reduceIte]
  refine call_of (ret_laws_toInt64S a.idn (by omega)) rfl (.inl (nv_ints _)) ?_
  simp only [go_sem, Nat.reduceLT, Nat.reduceAdd, Nat.reduceSub, Nat.reduceEqDiff, Nat.reduceBEq, Nat.reduceLeDiff, ↓reduceIte]
  refine call_of (ret_laws_toInt64SS a.co (by omega)) rfl (.inl (nv_intss _)) ?_
  simp only [go_sem, Nat.reduceLT, Nat.reduceAdd, Nat.reduceSub, Nat.reduceEqDiff, Nat.reduceBEq, Nat.reduceLeDiff, ↓reduceIte]
  all_goals rfl

-- laws.toBound
def c_laws_toBound : C :=
  (.seq (.ops [2, 1] [⟨none, .boxv 6 (.v 0)⟩,
    ⟨none, .alc [.str [], .int .i64 0, ints [], ints [], ints [], intss []]⟩] [(2, 0), (1, 1)])
  (.seq (.ops [3] [⟨none, .alc [.str [], .int .i64 0, ints [], ints [], ints [], intss []]⟩] [(3, 0)])
  (.seq (.ops [] [⟨none, .fA 0 (.v 2)⟩,
    ⟨none, .ld (.t 0)⟩,
    ⟨none, .fA 0 (.v 3)⟩,
    ⟨none, .st (.t 2) (.t 1)⟩] [])
  (.seq (.ops [] [⟨none, .fA 1 (.v 2)⟩,
    ⟨none, .lda 5 (.t 0)⟩,
    ⟨none, .call 18 [(.t 1)]⟩,
    ⟨none, .fA 1 (.v 3)⟩,
    ⟨none, .stn 5 (.t 3) (.t 2)⟩] [])
  (.seq (.ops [] [⟨none, .lda 6 (.v 3)⟩,
    ⟨none, .stn 6 (.v 1) (.t 0)⟩] [])
  .ret)))))
def tr_laws_toBound : List Nat := [0, 2, 1, 3]
def rs_laws_toBound : List RS := [.c 1 6 true]
theorem ok_laws_toBound : fnOk Go.Proofs.Try.prog Go.Proofs.Try.f52 tr_laws_toBound c_laws_toBound 1 rs_laws_toBound = true := by decide +kernel

theorem ret_laws_toBound (a : Bnd) (hs : Bnd.cost a ≤ 1048576) : Ret Go.Proofs.Try.prog 52 [.v (Bnd.d a)] (Bnd.d a) := by
  have hs2 := hs
  unfold Bnd.cost at hs2
  refine ret_fn Go.Proofs.Try.func52 ok_laws_toBound rfl (show 1 < 500 by decide) rfl ?_
  unfold c_laws_toBound tr_laws_toBound rs_laws_toBound
  simp only [go_sem, Nat.reduceLT, Nat.reduceAdd, Nat.reduceSub, Nat.reduceEqDiff, Nat.reduceBEq, Nat.reduceLeDiff, ↓reduceIte]
  refine call_of (ret_laws_toCategory a.cat (by omega)) rfl (.inl (nv_Cat _)) ?_
  simp only [go_sem, Nat.reduceLT, Nat.reduceAdd, Nat.reduceSub, Nat.reduceEqDiff, Nat.reduceBEq, Nat.reduceLeDiff, ↓reduceIte]
  all_goals rfl

-- laws.toBoundS
def c_laws_toBoundS : C :=
  (.seq (.ops [] [⟨none, .asg 1 (.k (.nils (.agg [.str [], .int .i64 0, ints [], ints [], ints [], intss []])))⟩] [])
  (.seq (.ops [] [⟨none, .mv (.v 0)⟩,
    ⟨none, .len (.t 0)⟩,
    ⟨none, .mkS (.agg [.str [], .int .i64 0, ints [], ints [], ints [], intss []]) 120 (.t 1) (.t 1)⟩,
    ⟨none, .asg 2 (.t 2)⟩] [])
  (.seq (.seq (.ops [] [⟨none, .asg 3 (.i 0)⟩] [])
  (.block 0 (.loop (.seq (.opc [] [⟨none, .mv (.v 3)⟩,
    ⟨none, .mv (.v 0)⟩,
    ⟨none, .len (.t 1)⟩,
    ⟨none, .bin .lss (.t 0) (.t 2)⟩] [] (.t 3) .skip
  (.exit 0))
  (.seq (.block 1 (.ops [] [⟨none, .mv (.v 2)⟩,
    ⟨none, .mv (.v 3)⟩,
    ⟨none, .mv (.v 0)⟩,
    ⟨none, .mv (.v 3)⟩,
    ⟨none, .idxA 6 (.t 2) (.t 3)⟩,
    ⟨none, .lda 6 (.t 4)⟩,
    ⟨none, .call 52 [(.t 5)]⟩,
    ⟨none, .idxA 6 (.t 0) (.t 1)⟩,
    ⟨none, .stn 6 (.t 7) (.t 6)⟩] []))
  (.ops [] [⟨none, .mv (.v 3)⟩,
    ⟨none, .bin .add (.t 0) (.i 1)⟩,
    ⟨none, .asg 3 (.t 1)⟩] []))))))
  (.seq (.ops [] [⟨none, .mv (.v 2)⟩,
    ⟨none, .asg 1 (.t 0)⟩] [])
  .ret))))
def tr_laws_toBoundS : List Nat := [0, 2, 3, 4]
def rs_laws_toBoundS : List RS := [.t 1]
theorem ok_laws_toBoundS : fnOk Go.Proofs.Try.prog Go.Proofs.Try.f13 tr_laws_toBoundS c_laws_toBoundS 1 rs_laws_toBoundS = true := by decide +kernel

theorem ret_laws_toBoundS (a : List (Bnd)) (hs : costL Bnd.cost a ≤ 1048576) : Ret Go.Proofs.Try.prog 13 [.v (lst Bnd.d Bnd.zero a)] (lst Bnd.d Bnd.zero a) := by
  have hm : a.length ≤ maxLen := by unfold costL at hs; simp only [maxLen]; omega
  refine ret_fn Go.Proofs.Try.func13 ok_laws_toBoundS rfl (show 1 < 500 by decide) rfl ?_
  unfold c_laws_toBoundS tr_laws_toBoundS rs_laws_toBoundS
  simp only [go_sem, Nat.reduceLT, Nat.reduceAdd, Nat.reduceSub, Nat.reduceEqDiff, Nat.reduceBEq, Nat.reduceLeDiff, ↓reduceIte]
  refine ⟨by unfold costL at hs; omega, ?_⟩
  refine loop_set [] (fun (i : Nat) => [(2, .o (lst Bnd.d Bnd.zero (cpy a Bnd.zero i))), (3, .int .i64 i)]) (fun i => i ≤ a.length) (fun i => a.length - i) 0 rfl (Nat.zero_le _) ?_ ?_
  · simp only [go_sem, cpy_zero]; rfl
  rintro i hi
  simp only [go_sem, Nat.reduceLT, Nat.reduceAdd, Nat.reduceSub, Nat.reduceEqDiff, Nat.reduceBEq, Nat.reduceLeDiff, ↓reduceIte]
  refine ⟨fun h => ⟨h, call_of (ret_laws_toBound (a.getD i Bnd.zero) (Nat.le_trans (cost_getD (cost := Bnd.cost) h _) hs)) rfl (.inl (nv_Bnd _)) ?_⟩, fun h => by rw [cpy_end h]⟩
  simp only [go_sem, Nat.reduceLT, Nat.reduceAdd, Nat.reduceSub, Nat.reduceEqDiff, Nat.reduceBEq, Nat.reduceLeDiff, ↓reduceIte]
  exact ⟨by rw [cpy_len hi]; exact h, by rw [cpy_len hi]; exact h, i + 1, by omega, by omega, by rw [cpy_set h, wrap_lt h hm]⟩
end Go.D3
