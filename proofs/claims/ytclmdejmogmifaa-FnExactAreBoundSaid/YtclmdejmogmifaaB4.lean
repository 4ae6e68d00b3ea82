/- CONTRACTS: spec.AreBound. -/
import Derived.Test.YtclmdejmogmifaaB2
import Derived.Test.YtclmdejmogmifaaB3
namespace Go.D3
open Go
set_option maxRecDepth 100000
-- spec.l02Is
def c_spec_l02Is : C :=
  (.seq (.ops [2] [⟨none, .boxv 5 (.v 0)⟩,
    ⟨none, .asg 1 (.k (.bool false))⟩] [(2, 0)])
  (.seq (.opc [] [⟨none, .lda 5 (.v 2)⟩,
    ⟨none, .call 95 [(.t 0)]⟩,
    ⟨none, .not (.t 1)⟩] [] (.t 2) (.seq (.ops [] [⟨none, .asg 1 (.k (.bool false))⟩] [])
  .ret)
  .skip)
  (.seq (.ops [] [⟨none, .lda 5 (.v 2)⟩,
    ⟨none, .call 96 [(.t 0)]⟩,
    ⟨none, .mv (.t 1)⟩,
    ⟨none, .ext 0 (.t 2)⟩,
    ⟨none, .ext 1 (.t 2)⟩,
    ⟨none, .ext 2 (.t 2)⟩,
    ⟨none, .ext 3 (.t 2)⟩,
    ⟨none, .asg 3 (.t 3)⟩,
    ⟨none, .mv (.t 4)⟩,
    ⟨none, .mv (.t 5)⟩,
    ⟨none, .mv (.t 6)⟩] [])
  (.seq (.ops [] [⟨none, .mv (.v 3)⟩,
    ⟨none, .bin .eql (.t 0) (.i 0)⟩,
    ⟨none, .asg 1 (.t 1)⟩] [])
  .ret))))
def tr_spec_l02Is : List Nat := [0, 2, 1, 3]
def rs_spec_l02Is : List RS := [.t 1]
theorem ok_spec_l02Is : fnOk Go.Proofs.Try.prog Go.Proofs.Try.f51 tr_spec_l02Is c_spec_l02Is 1 rs_spec_l02Is = true := by decide +kernel

theorem ret_spec_l02Is (c : Cat) : Ret Go.Proofs.Try.prog 51 [.v c.d] (.bool c.isB) := by
  refine ret_fn Go.Proofs.Try.func51 ok_spec_l02Is rfl (show 1 < 500 by decide) rfl ?_
  unfold c_spec_l02Is tr_spec_l02Is rs_spec_l02Is
  simp only [go_sem, Nat.reduceLT, Nat.reduceAdd, Nat.reduceSub, Nat.reduceEqDiff, Nat.reduceBEq, Nat.reduceLeDiff, ↓reduceIte]
  refine call_of (ret_spec_IsShape c) rfl (.inl rfl) ?_
  simp only [go_sem, Nat.reduceLT, Nat.reduceAdd, Nat.reduceSub, Nat.reduceEqDiff, Nat.reduceBEq, Nat.reduceLeDiff, ↓reduceIte]
  refine ⟨fun h => ?_, fun h => ?_⟩
  · unfold Cat.isB; rw [Bool.not_eq_true'] at h; rw [h]; rfl
  rw [Bool.not_eq_false'] at h
  refine call_of (ret_spec_l02Fault c (Cat.shapeB_iff.1 h)) rfl (.inl rfl) ?_
  simp only [fd]
  simp only [go_sem, Nat.reduceLT, Nat.reduceAdd, Nat.reduceSub, Nat.reduceEqDiff, Nat.reduceBEq, Nat.reduceLeDiff, ↓reduceIte]
  unfold Cat.isB; rw [h]; rfl
-- spec.AreBound
def c_spec_AreBound : C :=
  (.seq (.ops [] [⟨none, .asg 1 (.k (.bool false))⟩] [])
  (.seq (.seq (.ops [] [⟨none, .asg 2 (.i 0)⟩] [])
  (.block 0 (.loop (.seq (.opc [] [⟨none, .mv (.v 2)⟩,
    ⟨none, .mv (.v 0)⟩,
    ⟨none, .len (.t 1)⟩,
    ⟨none, .bin .lss (.t 0) (.t 2)⟩] [] (.t 3) .skip
  (.exit 0))
  (.seq (.block 1 (.opc [] [⟨none, .mv (.v 0)⟩,
    ⟨none, .mv (.v 2)⟩,
    ⟨none, .idxA 6 (.t 0) (.t 1)⟩,
    ⟨none, .fA 0 (.t 2)⟩,
    ⟨none, .ld (.t 3)⟩,
    ⟨none, .call 50 [(.t 4)]⟩,
    ⟨none, .not (.t 5)⟩,
    ⟨none, .mv (.t 6)⟩,
    ⟨some (7, false), .mv (.v 0)⟩,
    ⟨some (7, false), .mv (.v 2)⟩,
    ⟨some (7, false), .idxA 6 (.t 8) (.t 9)⟩,
    ⟨some (7, false), .fA 1 (.t 10)⟩,
    ⟨some (7, false), .lda 5 (.t 11)⟩,
    ⟨some (7, false), .call 51 [(.t 12)]⟩,
    ⟨some (7, false), .not (.t 13)⟩,
    ⟨none, .pick (.t 7) (.k (.bool true)) (.t 14)⟩,
    ⟨none, .mv (.t 15)⟩,
    ⟨some (16, false), .mv (.v 2)⟩,
    ⟨some (16, false), .bin .gtr (.t 17) (.i 0)⟩,
    ⟨some (16, false), .mv (.t 18)⟩,
    ⟨some (19, true), .mv (.v 0)⟩,
    ⟨some (19, true), .mv (.v 2)⟩,
    ⟨some (19, true), .idxA 6 (.t 20) (.t 21)⟩,
    ⟨some (19, true), .fA 0 (.t 22)⟩,
    ⟨some (19, true), .ld (.t 23)⟩,
    ⟨some (19, true), .mv (.v 0)⟩,
    ⟨some (19, true), .mv (.v 2)⟩,
    ⟨some (19, true), .bin .sub (.t 26) (.i 1)⟩,
    ⟨some (19, true), .idxA 6 (.t 25) (.t 27)⟩,
    ⟨some (19, true), .fA 0 (.t 28)⟩,
    ⟨some (19, true), .ld (.t 29)⟩,
    ⟨some (19, true), .bin .leq (.t 24) (.t 30)⟩,
    ⟨some (16, false), .pick (.t 19) (.t 31) (.k (.bool false))⟩,
    ⟨none, .pick (.t 16) (.k (.bool true)) (.t 32)⟩] [] (.t 33) (.seq (.ops [] [⟨none, .asg 1 (.k (.bool false))⟩] [])
  .ret)
  .skip))
  (.ops [] [⟨none, .mv (.v 2)⟩,
    ⟨none, .bin .add (.t 0) (.i 1)⟩,
    ⟨none, .asg 2 (.t 1)⟩] []))))))
  (.seq (.ops [] [⟨none, .asg 1 (.k (.bool true))⟩] [])
  .ret)))
def tr_spec_AreBound : List Nat := [0, 2, 3]
def rs_spec_AreBound : List RS := [.t 1]
theorem ok_spec_AreBound : fnOk Go.Proofs.Try.prog Go.Proofs.Try.f12 tr_spec_AreBound c_spec_AreBound 1 rs_spec_AreBound = true := by decide +kernel

theorem ret_spec_AreBound (l : List Bnd) : Ret Go.Proofs.Try.prog 12 [.v (lst Bnd.d Bnd.zero l)] (.bool (bndB l)) := by
  refine ret_wf fun hw => ?_
  simp only [argsWf, wfd_lst] at hw
  have hm := hw.1.1
  clear hw
  refine ret_fn Go.Proofs.Try.func12 ok_spec_AreBound rfl (show 1 < 500 by decide) rfl ?_
  unfold c_spec_AreBound tr_spec_AreBound rs_spec_AreBound
  simp only [go_sem, Nat.reduceLT, Nat.reduceAdd, Nat.reduceSub, Nat.reduceEqDiff, Nat.reduceBEq, Nat.reduceLeDiff, ↓reduceIte]
  refine loop_set [] (fun (i : Nat) => [(2, .int .i64 i)]) (fun i => i ≤ l.length ∧ allB i (bI l) = true) (fun i => l.length - i) 0 rfl ⟨Nat.zero_le _, rfl⟩ rfl ?_
  rintro i ⟨hi, ha⟩
  simp only [go_sem, Nat.reduceLT, Nat.reduceAdd, Nat.reduceSub, Nat.reduceEqDiff, Nat.reduceBEq, Nat.reduceLeDiff, ↓reduceIte]
  refine ⟨fun h => ⟨h, call_of (ret_spec_l40Letter _) rfl (.inl rfl) ?_⟩, fun h => ?_⟩
  · simp only [go_sem, Nat.reduceLT, Nat.reduceAdd, Nat.reduceSub, Nat.reduceEqDiff, Nat.reduceBEq, Nat.reduceLeDiff, ↓reduceIte]
    refine ⟨?_, ?_⟩
    · exact fun h2 => ⟨h2, h⟩
    refine callg_of (fun h => ret_spec_l02Is (l.getD i Bnd.zero).cat) rfl (fun h => h) (.inl rfl) ?_
    simp only [go_sem, Nat.reduceLT, Nat.reduceAdd, Nat.reduceSub, Nat.reduceEqDiff, Nat.reduceBEq, Nat.reduceLeDiff, ↓reduceIte]
    have hb : bI l i = (isL (l.getD i Bnd.zero).nm && (l.getD i Bnd.zero).cat.isB && (decide (i = 0) || Op.bytesLess (l.getD (i - 1) Bnd.zero).nm (l.getD i Bnd.zero).nm)) := rfl
    generalize isL (l.getD i Bnd.zero).nm = b1 at hb
    generalize (l.getD i Bnd.zero).cat.isB = b2 at hb
    have hc : (!b1 || !b2 || decide (0 < (i : Int)) && (Op.bytesLess (l.getD i Bnd.zero).nm (l.getD (IntKind.i64.wrap ((i : Int) - 1)).toNat Bnd.zero).nm || (l.getD i Bnd.zero).nm == (l.getD (IntKind.i64.wrap ((i : Int) - 1)).toNat Bnd.zero).nm)) = !bI l i := by
      rw [hb, bl_tri]
      by_cases hi0 : i = 0
      · subst hi0; cases b1 <;> cases b2 <;> simp
      · rw [wrap_pred (by omega) (by omega), Int.toNat_natCast]
        have e1 : decide (0 < (i : Int)) = true := by simp; omega
        have e2 : decide (i = 0) = false := by simpa using hi0
        rw [e1, e2]; cases b1 <;> cases b2 <;> simp
    rw [hc]
    refine ⟨fun h2 => by simpa using h2, fun h2 => ⟨h2, h⟩, fun h2 => ⟨h2, ?_⟩, fun h2 => ⟨h2, fun h3 => by rw [h2]; simpa using h3⟩, fun h2 => by revert h2; cases b1 <;> cases b2 <;> simp, fun h2 => ?_, fun h2 => ?_⟩
    · have : 0 < i := by simp at h2; omega
      rw [wrap_pred this (by omega)]; omega
    · exact (allB_stop h (by simpa using h2)).symm
    · exact ⟨i + 1, ⟨by omega, allB_succ ha (by simpa using h2)⟩, by omega, by rw [wrap_lt h hm]⟩
  · have : i = l.length := by omega
    subst this
    exact ha.symm
end Go.D3
