/- CONTRACTS: the law FnExactAllFunctors. -/
import Derived.Test.YtclmdejmogmifaaGA
import Derived.Test.YtclmdejmogmifaaGC
import Derived.Test.YtclmdejmogmifaaKit
import Derived.Test.YtclmdejmogmifaaGF
/- CONTRACTS: marks on memory, and whether they are held. -/
namespace Go.D3
open Go
set_option maxRecDepth 100000

/-- The first 'i' of 'a' marked. -/
def mkp (k : Int) (a : List Int) (i : Nat) : List Int := ((List.range i).map fun j : Nat => k + j) ++ a.drop i
/-- 'n' marks. -/
def mks (k : Int) (n : Nat) : List Int := (List.range n).map fun j : Nat => k + j
theorem mkp_zero {k : Int} {a : List Int} : mkp k a 0 = a := by simp [mkp]
theorem mkp_len {k : Int} {a : List Int} {i : Nat} (h : i ≤ a.length) : (mkp k a i).length = a.length := by simp [mkp]; omega
theorem mkp_set {k : Int} {a : List Int} {i : Nat} (h : i < a.length) : (mkp k a i).set i (k + i) = mkp k a (i + 1) := by
  unfold mkp
  rw [List.set_append_right _ _ (by simp), List.range_succ, List.map_append]
  simp only [List.length_map, List.length_range, Nat.sub_self, List.map_cons, List.map_nil, List.append_assoc]
  congr 1
  rw [List.drop_eq_getElem_cons h]
  rfl
theorem mkp_end {k : Int} {a : List Int} {i : Nat} (h : ¬ i < a.length) (hi : i ≤ a.length) : mkp k a i = mks k a.length := by
  have : i = a.length := by omega
  subst this
  simp [mkp, mks]

-- laws.markInt64S
def c_laws_markInt64S : C :=
  (.seq (.ops [] [⟨none, .asg 2 (.i 0)⟩] [])
  (.seq (.seq (.ops [] [⟨none, .asg 3 (.i 0)⟩] [])
  (.block 0 (.loop (.seq (.opc [] [⟨none, .mv (.v 3)⟩,
    ⟨none, .mv (.v 0)⟩,
    ⟨none, .len (.t 1)⟩,
    ⟨none, .bin .lss (.t 0) (.t 2)⟩] [] (.t 3) .skip
  (.exit 0))
  (.seq (.block 1 (.seq (.ops [] [⟨none, .mv (.v 0)⟩,
    ⟨none, .mv (.v 3)⟩,
    ⟨none, .mv (.v 1)⟩,
    ⟨none, .idxA 1 (.t 0) (.t 1)⟩,
    ⟨none, .st (.t 3) (.t 2)⟩] [])
  (.ops [] [⟨none, .mv (.v 1)⟩,
    ⟨none, .bin .add (.t 0) (.i 1)⟩,
    ⟨none, .asg 1 (.t 1)⟩] [])))
  (.ops [] [⟨none, .mv (.v 3)⟩,
    ⟨none, .bin .add (.t 0) (.i 1)⟩,
    ⟨none, .asg 3 (.t 1)⟩] []))))))
  (.seq (.ops [] [⟨none, .mv (.v 1)⟩,
    ⟨none, .asg 2 (.t 0)⟩] [])
  .ret)))
def tr_laws_markInt64S : List Nat := [0, 1, 4, 5]
def rs_laws_markInt64S : List RS := [.t 2]
theorem ok_laws_markInt64S : fnOk Go.Proofs.Try.prog Go.Proofs.Try.f64 tr_laws_markInt64S c_laws_markInt64S 2 rs_laws_markInt64S = true := by decide +kernel

theorem ret_laws_markInt64S (a : List Int) (k : Int) (h0 : 0 ≤ k) (h1 : k + a.length ≤ 4611686018427387900) : Ret Go.Proofs.Try.prog 64 [.io (.o (ints a)) (.o (ints (mks k a.length))), .v (.int .i64 k)] (.int .i64 (k + a.length)) := by
  refine ret_wf fun hw => ?_
  simp only [argsWf, wfd_lst] at hw
  have hm : a.length ≤ maxLen := hw.1.1
  refine ret_fn Go.Proofs.Try.func64 ok_laws_markInt64S rfl (show 2 < 500 by decide) rfl ?_; unfold c_laws_markInt64S tr_laws_markInt64S rs_laws_markInt64S; simp only [go_sem, Nat.reduceLT, Nat.reduceAdd, Nat.reduceBEq, Nat.reduceLeDiff, ↓reduceIte]
  refine loop_set [] (fun (i : Nat) => [(1, .int .i64 (k + i)), (3, .int .i64 i), (4, .o (ints (mkp k a i)))]) (fun i => i ≤ a.length) (fun i => a.length - i) 0 (by simp only [go_sem]; rfl) (Nat.zero_le _) ?_ ?_
  · simp only [go_sem, mkp_zero]; simp
  rintro i hi
  simp only [go_sem, Nat.reduceLT, Nat.reduceAdd, Nat.reduceSub, Nat.reduceBEq, Nat.reduceLeDiff, ↓reduceIte]
  rw [mkp_len hi]
  refine ⟨fun h => ⟨h, h, i + 1, by omega, by omega, ?_⟩, fun h => ⟨by rw [show i = a.length by omega], by rw [mkp_end h hi]⟩⟩
  rw [mkp_set h, wrap_lt h hm, wrap_small (by omega) (by omega)]
  simp only [Int.natCast_add, Int.natCast_one, Int.add_assoc]

/-- The first 'i' of 'a' marked. -/
def cost2 (a : List (List Int)) : Nat → Nat
  | 0 => 0
  | i + 1 => cost2 a i + (a.getD i []).length
def mkpp (k : Int) (a : List (List Int)) (i : Nat) : List (List Int) := ((List.range i).map fun j => mks (k + cost2 a j) (a.getD j []).length) ++ a.drop i
def mkss (k : Int) (a : List (List Int)) : List (List Int) := (List.range a.length).map fun j => mks (k + cost2 a j) (a.getD j []).length
theorem mkpp_zero {k : Int} {a : List (List Int)} : mkpp k a 0 = a := by simp [mkpp]
theorem mkpp_len {k : Int} {a : List (List Int)} {i : Nat} (h : i ≤ a.length) : (mkpp k a i).length = a.length := by simp [mkpp]; omega
theorem mkpp_get {k : Int} {a : List (List Int)} {i : Nat} (_ : i < a.length) : (mkpp k a i).getD i [] = a.getD i [] := by
  unfold mkpp
  rw [List.getD_eq_getElem?_getD, List.getElem?_append_right (by simp), List.length_map, List.length_range, Nat.sub_self, List.getElem?_drop, Nat.add_zero, ← List.getD_eq_getElem?_getD]
theorem mkpp_set {k : Int} {a : List (List Int)} {i : Nat} (h : i < a.length) : (mkpp k a i).set i (mks (k + cost2 a i) (a.getD i []).length) = mkpp k a (i + 1) := by
  unfold mkpp
  rw [List.set_append_right _ _ (by simp), List.range_succ, List.map_append]
  simp only [List.length_map, List.length_range, Nat.sub_self, List.map_cons, List.map_nil, List.append_assoc]
  congr 1
  rw [List.drop_eq_getElem_cons h]
  rfl
theorem mkpp_end {k : Int} {a : List (List Int)} {i : Nat} (h : ¬ i < a.length) (hi : i ≤ a.length) : mkpp k a i = mkss k a := by
  have : i = a.length := by omega
  subst this
  simp [mkpp, mkss]
theorem cost2_mono {a : List (List Int)} {i j : Nat} (h : i ≤ j) : cost2 a i ≤ cost2 a j := by
  induction h with
  | refl => exact Nat.le_refl _
  | step _ ih => exact Nat.le_trans ih (Nat.le_add_right _ _)

theorem set_hole {L : List D} {i : Nat} {z y : D} (hz : z.isAgg = false) : (L.set i .dead).set i (setc ((L.set i .dead).getD i z) 0 y) = L.set i y := by
  have : setc ((L.set i .dead).getD i z) 0 y = y := by
    rw [List.getD_eq_getElem?_getD]
    by_cases h : i < L.length
    · rw [List.getElem?_set_self h]; rfl
    · rw [List.getElem?_eq_none (by simpa using h)]
      simp only [Option.getD_none]
      cases z <;> first | rfl | cases hz
  rw [this, List.set_set]

-- laws.markInt64SS
def c_laws_markInt64SS : C :=
  (.seq (.ops [] [⟨none, .asg 2 (.i 0)⟩] [])
  (.seq (.seq (.ops [] [⟨none, .asg 3 (.i 0)⟩] [])
  (.block 0 (.loop (.seq (.opc [] [⟨none, .mv (.v 3)⟩,
    ⟨none, .mv (.v 0)⟩,
    ⟨none, .len (.t 1)⟩,
    ⟨none, .bin .lss (.t 0) (.t 2)⟩] [] (.t 3) .skip
  (.exit 0))
  (.seq (.block 1 (.ops [] [⟨none, .mv (.v 0)⟩,
    ⟨none, .mv (.v 3)⟩,
    ⟨none, .idxA 1 (.t 0) (.t 1)⟩,
    ⟨none, .ld (.t 2)⟩,
    ⟨none, .mv (.v 1)⟩,
    ⟨none, .calle 64 [(.t 3), (.t 4)]⟩,
    ⟨none, .asg 1 (.t 5)⟩] []))
  (.ops [] [⟨none, .mv (.v 3)⟩,
    ⟨none, .bin .add (.t 0) (.i 1)⟩,
    ⟨none, .asg 3 (.t 1)⟩] []))))))
  (.seq (.ops [] [⟨none, .mv (.v 1)⟩,
    ⟨none, .asg 2 (.t 0)⟩] [])
  .ret)))
def tr_laws_markInt64SS : List Nat := [0, 1, 4, 5]
def rs_laws_markInt64SS : List RS := [.t 2]
theorem ok_laws_markInt64SS : fnOk Go.Proofs.Try.prog Go.Proofs.Try.f40 tr_laws_markInt64SS c_laws_markInt64SS 2 rs_laws_markInt64SS = true := by decide +kernel

theorem ret_laws_markInt64SS (a : List (List Int)) (k : Int) (h0 : 0 ≤ k) (h1 : k + cost2 a a.length ≤ 4611686018427387900) : Ret Go.Proofs.Try.prog 40 [.io (.o (intss a)) (.o (intss (mkss k a))), .v (.int .i64 k)] (.int .i64 (k + cost2 a a.length)) := by
  refine ret_wf fun hw => ?_
  simp only [argsWf, wfd_lst] at hw
  have hm : a.length ≤ maxLen := hw.1.1
  refine ret_fn Go.Proofs.Try.func40 ok_laws_markInt64SS rfl (show 2 < 500 by decide) rfl ?_; unfold c_laws_markInt64SS tr_laws_markInt64SS rs_laws_markInt64SS; simp only [go_sem, Nat.reduceLT, Nat.reduceAdd, Nat.reduceBEq, Nat.reduceLeDiff, ↓reduceIte]
  refine loop_set [] (fun (i : Nat) => [(1, .int .i64 (k + cost2 a i)), (3, .int .i64 i), (4, .o (intss (mkpp k a i)))]) (fun i => i ≤ a.length) (fun i => a.length - i) 0 (by simp only [go_sem]; rfl) (Nat.zero_le _) ?_ ?_
  · simp only [go_sem, mkpp_zero, cost2]; simp
  rintro i hi
  simp only [go_sem, Nat.reduceLT, Nat.reduceAdd, Nat.reduceSub, Nat.reduceBEq, Nat.reduceLeDiff, ↓reduceIte]
  rw [mkpp_len hi]
  refine ⟨fun h => ⟨h, ?_⟩, fun h => ⟨by rw [show i = a.length by omega], by rw [mkpp_end h hi]⟩⟩
  have hc : cost2 a (i + 1) ≤ cost2 a a.length := cost2_mono h
  simp only [cost2] at hc
  refine io_part (ret_laws_markInt64S (a.getD i []) (k + cost2 a i) (by omega) (by omega)) (by trivial) ?_
  simp only [go_sem, Nat.reduceLT, Nat.reduceAdd, Nat.reduceSub, Nat.reduceBEq, Nat.reduceLeDiff, ↓reduceIte]
  refine ⟨_, ints (mks (k + cost2 a i) (a.getD i []).length), rfl, ?_, rfl, i + 1, by omega, by omega, ?_⟩
  · rw [mkpp_get h]
  · rw [set_hole rfl, lst_fold, mkpp_set h, wrap_lt h hm]
    simp only [cost2, Int.natCast_add, Int.add_assoc]

def Cat.marks (k : Int) (a : Cat) : Cat := { a with fr := mks k a.fr.length, to := mks (k + a.fr.length) a.to.length, idn := mks (k + a.fr.length + a.to.length) a.idn.length, co := mkss (k + a.fr.length + a.to.length + a.idn.length) a.co }
def Cat.mcost (a : Cat) : Nat := a.fr.length + a.to.length + a.idn.length + cost2 a.co a.co.length

-- laws.markCategory
def c_laws_markCategory : C :=
  (.seq (.ops [3] [⟨none, .box 5 (.v 0)⟩,
    ⟨none, .asg 2 (.i 0)⟩] [(3, 0)])
  (.seq (.ops [] [⟨none, .fA 1 (.v 3)⟩,
    ⟨none, .ld (.t 0)⟩,
    ⟨none, .mv (.v 1)⟩,
    ⟨none, .calle 64 [(.t 1), (.t 2)]⟩,
    ⟨none, .asg 1 (.t 3)⟩] [])
  (.seq (.ops [] [⟨none, .fA 2 (.v 3)⟩,
    ⟨none, .ld (.t 0)⟩,
    ⟨none, .mv (.v 1)⟩,
    ⟨none, .calle 64 [(.t 1), (.t 2)]⟩,
    ⟨none, .asg 1 (.t 3)⟩] [])
  (.seq (.ops [] [⟨none, .fA 3 (.v 3)⟩,
    ⟨none, .ld (.t 0)⟩,
    ⟨none, .mv (.v 1)⟩,
    ⟨none, .calle 64 [(.t 1), (.t 2)]⟩,
    ⟨none, .asg 1 (.t 3)⟩] [])
  (.seq (.ops [] [⟨none, .fA 4 (.v 3)⟩,
    ⟨none, .ld (.t 0)⟩,
    ⟨none, .mv (.v 1)⟩,
    ⟨none, .calle 40 [(.t 1), (.t 2)]⟩,
    ⟨none, .asg 1 (.t 3)⟩] [])
  (.seq (.ops [] [⟨none, .mv (.v 1)⟩,
    ⟨none, .asg 2 (.t 0)⟩] [])
  .ret))))))
def tr_laws_markCategory : List Nat := [0, 1, 4, 2]
def rs_laws_markCategory : List RS := [.t 2]
theorem ok_laws_markCategory : fnOk Go.Proofs.Try.prog Go.Proofs.Try.f24 tr_laws_markCategory c_laws_markCategory 2 rs_laws_markCategory = true := by decide +kernel

theorem ret_laws_markCategory (a : Cat) (k : Int) (h0 : 0 ≤ k) (h1 : k + a.mcost ≤ 4611686018427387900) : Ret Go.Proofs.Try.prog 24 [.io (.o (Cat.d a)) (.o (Cat.d (a.marks k))), .v (.int .i64 k)] (.int .i64 (k + a.mcost)) := by
  unfold Cat.mcost at h1 ⊢
  refine ret_fn Go.Proofs.Try.func24 ok_laws_markCategory rfl (show 2 < 500 by decide) rfl ?_; unfold c_laws_markCategory tr_laws_markCategory rs_laws_markCategory; simp only [go_sem, Nat.reduceLT, Nat.reduceAdd, Nat.reduceSub, Nat.reduceBEq, Nat.reduceLeDiff, ↓reduceIte]
  refine io_part (ret_laws_markInt64S a.fr k h0 (by omega)) trivial ?_
  simp only [go_sem, Nat.reduceLT, Nat.reduceAdd, Nat.reduceSub, Nat.reduceBEq, Nat.reduceLeDiff, ↓reduceIte]
  refine ⟨_, ints (mks k a.fr.length), rfl, rfl, rfl, ?_⟩
  refine io_part (ret_laws_markInt64S a.to (k + a.fr.length) (by omega) (by omega)) trivial ?_
  simp only [go_sem, Nat.reduceLT, Nat.reduceAdd, Nat.reduceSub, Nat.reduceBEq, Nat.reduceLeDiff, ↓reduceIte]
  refine ⟨_, ints (mks (k + a.fr.length) a.to.length), rfl, rfl, rfl, ?_⟩
  refine io_part (ret_laws_markInt64S a.idn (k + a.fr.length + a.to.length) (by omega) (by omega)) trivial ?_
  simp only [go_sem, Nat.reduceLT, Nat.reduceAdd, Nat.reduceSub, Nat.reduceBEq, Nat.reduceLeDiff, ↓reduceIte]
  refine ⟨_, ints (mks (k + a.fr.length + a.to.length) a.idn.length), rfl, rfl, rfl, ?_⟩
  refine io_part (ret_laws_markInt64SS a.co (k + a.fr.length + a.to.length + a.idn.length) (by omega) (by omega)) trivial ?_
  simp only [go_sem, Nat.reduceLT, Nat.reduceAdd, Nat.reduceSub, Nat.reduceBEq, Nat.reduceLeDiff, ↓reduceIte]
  refine ⟨_, intss (mkss (k + a.fr.length + a.to.length + a.idn.length) a.co), rfl, rfl, rfl, ?_⟩
  exact ⟨by simp only [Int.natCast_add, Int.add_assoc], rfl⟩
end Go.D3

/- CONTRACTS: marks are held. -/
namespace Go.D3
open Go
set_option maxRecDepth 100000

theorem mks_len {k : Int} {n : Nat} : (mks k n).length = n := by simp [mks]
theorem mks_get {k : Int} {n i : Nat} (h : i < n) : (mks k n).getD i 0 = k + i := by
  unfold mks
  rw [List.getD_eq_getElem?_getD, List.getElem?_map, List.getElem?_range h]; rfl

-- laws.heldInt64S
def c_laws_heldInt64S : C :=
  (.seq (.ops [] [⟨none, .asg 2 (.i 0)⟩] [])
  (.seq (.seq (.ops [] [⟨none, .asg 3 (.i 0)⟩] [])
  (.block 0 (.loop (.seq (.opc [] [⟨none, .mv (.v 3)⟩,
    ⟨none, .mv (.v 0)⟩,
    ⟨none, .len (.t 1)⟩,
    ⟨none, .bin .lss (.t 0) (.t 2)⟩] [] (.t 3) .skip
  (.exit 0))
  (.seq (.block 1 (.seq (.opc [] [⟨none, .mv (.v 0)⟩,
    ⟨none, .mv (.v 3)⟩,
    ⟨none, .idxA 1 (.t 0) (.t 1)⟩,
    ⟨none, .ld (.t 2)⟩,
    ⟨none, .mv (.v 1)⟩,
    ⟨none, .bin .neq (.t 3) (.t 4)⟩] [] (.t 5) (.seq (.ops [] [⟨none, .asg 2 (.i (-1))⟩] [])
  .ret)
  .skip)
  (.ops [] [⟨none, .mv (.v 1)⟩,
    ⟨none, .bin .add (.t 0) (.i 1)⟩,
    ⟨none, .asg 1 (.t 1)⟩] [])))
  (.ops [] [⟨none, .mv (.v 3)⟩,
    ⟨none, .bin .add (.t 0) (.i 1)⟩,
    ⟨none, .asg 3 (.t 1)⟩] []))))))
  (.seq (.ops [] [⟨none, .mv (.v 1)⟩,
    ⟨none, .asg 2 (.t 0)⟩] [])
  .ret)))
def tr_laws_heldInt64S : List Nat := [0, 1, 4, 5]
def rs_laws_heldInt64S : List RS := [.t 2]
theorem ok_laws_heldInt64S : fnOk Go.Proofs.Try.prog Go.Proofs.Try.f65 tr_laws_heldInt64S c_laws_heldInt64S 2 rs_laws_heldInt64S = true := by decide +kernel

theorem ret_laws_heldInt64S (n : Nat) (k : Int) (h0 : 0 ≤ k) (h1 : k + n ≤ 4611686018427387900) : Ret Go.Proofs.Try.prog 65 [.v (ints (mks k n)), .v (.int .i64 k)] (.int .i64 (k + n)) := by
  refine ret_wf fun hw => ?_
  simp only [argsWf, wfd_lst, mks_len] at hw
  have hm : n ≤ maxLen := hw.1.1
  refine ret_fn Go.Proofs.Try.func65 ok_laws_heldInt64S rfl (show 2 < 500 by decide) rfl ?_; unfold c_laws_heldInt64S tr_laws_heldInt64S rs_laws_heldInt64S; simp only [go_sem, Nat.reduceLT, Nat.reduceAdd, ↓reduceIte]
  refine loop_set [] (fun (i : Nat) => [(1, .int .i64 (k + i)), (3, .int .i64 i)]) (fun i => i ≤ n) (fun i => n - i) 0 (by simp only [go_sem]; rfl) (Nat.zero_le _) ?_ ?_
  · simp only [go_sem]; simp
  rintro i hi
  simp only [go_sem, Nat.reduceLT, Nat.reduceAdd, Nat.reduceSub, ↓reduceIte]
  simp only [mks_len]
  refine ⟨fun h => ⟨h, ?_⟩, fun h => by rw [show i = n by omega]⟩
  rw [mks_get h]
  refine ⟨fun hh => by simp at hh, fun _ => ⟨i + 1, by omega, by omega, ?_⟩⟩
  rw [wrap_lt h hm, wrap_small (by omega) (by omega)]
  simp only [Int.natCast_add, Int.natCast_one, Int.add_assoc]

theorem mkss_len {k : Int} {a : List (List Int)} : (mkss k a).length = a.length := by simp [mkss]
theorem mkss_get {k : Int} {a : List (List Int)} {i : Nat} (h : i < a.length) : (mkss k a).getD i [] = mks (k + cost2 a i) (a.getD i []).length := by
  unfold mkss
  rw [List.getD_eq_getElem?_getD, List.getElem?_map, List.getElem?_range h]; rfl

-- laws.heldInt64SS
def c_laws_heldInt64SS : C :=
  (.seq (.ops [] [⟨none, .asg 2 (.i 0)⟩] [])
  (.seq (.seq (.ops [] [⟨none, .asg 3 (.i 0)⟩] [])
  (.block 0 (.loop (.seq (.opc [] [⟨none, .mv (.v 3)⟩,
    ⟨none, .mv (.v 0)⟩,
    ⟨none, .len (.t 1)⟩,
    ⟨none, .bin .lss (.t 0) (.t 2)⟩] [] (.t 3) .skip
  (.exit 0))
  (.seq (.block 1 (.seq (.ops [] [⟨none, .mv (.v 0)⟩,
    ⟨none, .mv (.v 3)⟩,
    ⟨none, .idxA 1 (.t 0) (.t 1)⟩,
    ⟨none, .ld (.t 2)⟩,
    ⟨none, .mv (.v 1)⟩,
    ⟨none, .call 65 [(.t 3), (.t 4)]⟩,
    ⟨none, .asg 1 (.t 5)⟩] [])
  (.opc [] [⟨none, .mv (.v 1)⟩,
    ⟨none, .bin .lss (.t 0) (.i 0)⟩] [] (.t 1) (.seq (.ops [] [⟨none, .asg 2 (.i (-1))⟩] [])
  .ret)
  .skip)))
  (.ops [] [⟨none, .mv (.v 3)⟩,
    ⟨none, .bin .add (.t 0) (.i 1)⟩,
    ⟨none, .asg 3 (.t 1)⟩] []))))))
  (.seq (.ops [] [⟨none, .mv (.v 1)⟩,
    ⟨none, .asg 2 (.t 0)⟩] [])
  .ret)))
def tr_laws_heldInt64SS : List Nat := [0, 1, 4, 5]
def rs_laws_heldInt64SS : List RS := [.t 2]
theorem ok_laws_heldInt64SS : fnOk Go.Proofs.Try.prog Go.Proofs.Try.f41 tr_laws_heldInt64SS c_laws_heldInt64SS 2 rs_laws_heldInt64SS = true := by decide +kernel

theorem ret_laws_heldInt64SS (a : List (List Int)) (k : Int) (h0 : 0 ≤ k) (h1 : k + cost2 a a.length ≤ 4611686018427387900) : Ret Go.Proofs.Try.prog 41 [.v (intss (mkss k a)), .v (.int .i64 k)] (.int .i64 (k + cost2 a a.length)) := by
  refine ret_wf fun hw => ?_
  simp only [argsWf, wfd_lst, mkss_len] at hw
  have hm : a.length ≤ maxLen := hw.1.1
  refine ret_fn Go.Proofs.Try.func41 ok_laws_heldInt64SS rfl (show 2 < 500 by decide) rfl ?_; unfold c_laws_heldInt64SS tr_laws_heldInt64SS rs_laws_heldInt64SS; simp only [go_sem, Nat.reduceLT, Nat.reduceAdd, ↓reduceIte]
  refine loop_set [] (fun (i : Nat) => [(1, .int .i64 (k + cost2 a i)), (3, .int .i64 i)]) (fun i => i ≤ a.length) (fun i => a.length - i) 0 (by simp only [go_sem]; rfl) (Nat.zero_le _) ?_ ?_
  · simp only [go_sem, cost2]; simp
  rintro i hi
  simp only [go_sem, Nat.reduceLT, Nat.reduceAdd, Nat.reduceSub, ↓reduceIte]
  simp only [mkss_len]
  refine ⟨fun h => ⟨h, ?_⟩, fun h => by rw [show i = a.length by omega]⟩
  rw [mkss_get h]
  have hc : cost2 a (i + 1) ≤ cost2 a a.length := cost2_mono h
  simp only [cost2] at hc
  refine call_of (ret_laws_heldInt64S (a.getD i []).length (k + cost2 a i) (by omega) (by omega)) rfl (.inl rfl) ?_
  simp only [go_sem, Nat.reduceLT, Nat.reduceAdd, Nat.reduceSub, ↓reduceIte]
  refine ⟨fun hh => by omega, fun _ => ⟨i + 1, by omega, by omega, ?_⟩⟩
  rw [wrap_lt h hm]
  simp only [cost2, Int.natCast_add, Int.add_assoc]

-- laws.heldCategory
def c_laws_heldCategory : C :=
  (.seq (.ops [3] [⟨none, .boxv 5 (.v 0)⟩,
    ⟨none, .asg 2 (.i 0)⟩] [(3, 0)])
  (.seq (.ops [] [⟨none, .fA 1 (.v 3)⟩,
    ⟨none, .ld (.t 0)⟩,
    ⟨none, .mv (.v 1)⟩,
    ⟨none, .call 65 [(.t 1), (.t 2)]⟩,
    ⟨none, .asg 1 (.t 3)⟩] [])
  (.seq (.opc [] [⟨none, .mv (.v 1)⟩,
    ⟨none, .bin .lss (.t 0) (.i 0)⟩] [] (.t 1) (.seq (.ops [] [⟨none, .asg 2 (.i (-1))⟩] [])
  .ret)
  .skip)
  (.seq (.ops [] [⟨none, .fA 2 (.v 3)⟩,
    ⟨none, .ld (.t 0)⟩,
    ⟨none, .mv (.v 1)⟩,
    ⟨none, .call 65 [(.t 1), (.t 2)]⟩,
    ⟨none, .asg 1 (.t 3)⟩] [])
  (.seq (.opc [] [⟨none, .mv (.v 1)⟩,
    ⟨none, .bin .lss (.t 0) (.i 0)⟩] [] (.t 1) (.seq (.ops [] [⟨none, .asg 2 (.i (-1))⟩] [])
  .ret)
  .skip)
  (.seq (.ops [] [⟨none, .fA 3 (.v 3)⟩,
    ⟨none, .ld (.t 0)⟩,
    ⟨none, .mv (.v 1)⟩,
    ⟨none, .call 65 [(.t 1), (.t 2)]⟩,
    ⟨none, .asg 1 (.t 3)⟩] [])
  (.seq (.opc [] [⟨none, .mv (.v 1)⟩,
    ⟨none, .bin .lss (.t 0) (.i 0)⟩] [] (.t 1) (.seq (.ops [] [⟨none, .asg 2 (.i (-1))⟩] [])
  .ret)
  .skip)
  (.seq (.ops [] [⟨none, .fA 4 (.v 3)⟩,
    ⟨none, .ld (.t 0)⟩,
    ⟨none, .mv (.v 1)⟩,
    ⟨none, .call 41 [(.t 1), (.t 2)]⟩,
    ⟨none, .asg 1 (.t 3)⟩] [])
  (.seq (.opc [] [⟨none, .mv (.v 1)⟩,
    ⟨none, .bin .lss (.t 0) (.i 0)⟩] [] (.t 1) (.seq (.ops [] [⟨none, .asg 2 (.i (-1))⟩] [])
  .ret)
  .skip)
  (.seq (.ops [] [⟨none, .mv (.v 1)⟩,
    ⟨none, .asg 2 (.t 0)⟩] [])
  .ret))))))))))
def tr_laws_heldCategory : List Nat := [0, 1, 4, 2]
def rs_laws_heldCategory : List RS := [.t 2]
theorem ok_laws_heldCategory : fnOk Go.Proofs.Try.prog Go.Proofs.Try.f29 tr_laws_heldCategory c_laws_heldCategory 2 rs_laws_heldCategory = true := by decide +kernel

theorem ret_laws_heldCategory (a : Cat) (k : Int) (h0 : 0 ≤ k) (h1 : k + a.mcost ≤ 4611686018427387900) : Ret Go.Proofs.Try.prog 29 [.v (Cat.d (a.marks k)), .v (.int .i64 k)] (.int .i64 (k + a.mcost)) := by
  unfold Cat.mcost at h1 ⊢
  refine ret_fn Go.Proofs.Try.func29 ok_laws_heldCategory rfl (show 2 < 500 by decide) rfl ?_; unfold c_laws_heldCategory tr_laws_heldCategory rs_laws_heldCategory; simp only [go_sem, Nat.reduceLT, Nat.reduceAdd, Nat.reduceSub, ↓reduceIte]
  refine call_of (ret_laws_heldInt64S a.fr.length k h0 (by omega)) rfl (.inl rfl) ?_
  simp only [go_sem, Nat.reduceLT, Nat.reduceAdd, Nat.reduceSub, ↓reduceIte]
  refine ⟨fun hh => by omega, fun _ => ?_⟩
  refine call_of (ret_laws_heldInt64S a.to.length (k + a.fr.length) (by omega) (by omega)) rfl (.inl rfl) ?_
  simp only [go_sem, Nat.reduceLT, Nat.reduceAdd, Nat.reduceSub, ↓reduceIte]
  refine ⟨fun hh => by omega, fun _ => ?_⟩
  refine call_of (ret_laws_heldInt64S a.idn.length (k + a.fr.length + a.to.length) (by omega) (by omega)) rfl (.inl rfl) ?_
  simp only [go_sem, Nat.reduceLT, Nat.reduceAdd, Nat.reduceSub, ↓reduceIte]
  refine ⟨fun hh => by omega, fun _ => ?_⟩
  refine call_of (ret_laws_heldInt64SS a.co (k + a.fr.length + a.to.length + a.idn.length) (by omega) (by omega)) rfl (.inl rfl) ?_
  simp only [go_sem, Nat.reduceLT, Nat.reduceAdd, Nat.reduceSub, ↓reduceIte]
  refine ⟨fun hh => by omega, fun _ => ?_⟩
  simp only [Int.natCast_add, Int.add_assoc]
end Go.D3

/- CONTRACTS: comparisons of functors. -/
namespace Go.D3
open Go
set_option maxRecDepth 100000

-- laws.eqFunctor
def c_laws_eqFunctor : C :=
  (.seq (.ops [3, 4] [⟨none, .boxv 12 (.v 0)⟩,
    ⟨none, .boxv 12 (.v 1)⟩,
    ⟨none, .asg 2 (.k (.bool false))⟩] [(3, 0), (4, 1)])
  (.seq (.opc [] [⟨none, .fA 0 (.v 3)⟩,
    ⟨none, .lda 5 (.t 0)⟩,
    ⟨none, .fA 0 (.v 4)⟩,
    ⟨none, .lda 5 (.t 2)⟩,
    ⟨none, .call 20 [(.t 1), (.t 3)]⟩,
    ⟨none, .not (.t 4)⟩] [] (.t 5) (.seq (.ops [] [⟨none, .asg 2 (.k (.bool false))⟩] [])
  .ret)
  .skip)
  (.seq (.opc [] [⟨none, .fA 5 (.v 3)⟩,
    ⟨none, .lda 5 (.t 0)⟩,
    ⟨none, .fA 5 (.v 4)⟩,
    ⟨none, .lda 5 (.t 2)⟩,
    ⟨none, .call 20 [(.t 1), (.t 3)]⟩,
    ⟨none, .not (.t 4)⟩] [] (.t 5) (.seq (.ops [] [⟨none, .asg 2 (.k (.bool false))⟩] [])
  .ret)
  .skip)
  (.seq (.opc [] [⟨none, .fA 10 (.v 3)⟩,
    ⟨none, .ld (.t 0)⟩,
    ⟨none, .fA 10 (.v 4)⟩,
    ⟨none, .ld (.t 2)⟩,
    ⟨none, .call 59 [(.t 1), (.t 3)]⟩,
    ⟨none, .not (.t 4)⟩] [] (.t 5) (.seq (.ops [] [⟨none, .asg 2 (.k (.bool false))⟩] [])
  .ret)
  .skip)
  (.seq (.opc [] [⟨none, .fA 11 (.v 3)⟩,
    ⟨none, .ld (.t 0)⟩,
    ⟨none, .fA 11 (.v 4)⟩,
    ⟨none, .ld (.t 2)⟩,
    ⟨none, .call 59 [(.t 1), (.t 3)]⟩,
    ⟨none, .not (.t 4)⟩] [] (.t 5) (.seq (.ops [] [⟨none, .asg 2 (.k (.bool false))⟩] [])
  .ret)
  .skip)
  (.seq (.ops [] [⟨none, .asg 2 (.k (.bool true))⟩] [])
  .ret))))))
def tr_laws_eqFunctor : List Nat := [0, 1, 4, 2, 3]
def rs_laws_eqFunctor : List RS := [.t 2]
theorem ok_laws_eqFunctor : fnOk Go.Proofs.Try.prog Go.Proofs.Try.f92 tr_laws_eqFunctor c_laws_eqFunctor 2 rs_laws_eqFunctor = true := by decide +kernel

theorem ret_laws_eqFunctor (a : Ftr) : Ret Go.Proofs.Try.prog 92 [.v (Ftr.d a), .v (Ftr.d a)] (.bool true) := by
  refine ret_fn Go.Proofs.Try.func92 ok_laws_eqFunctor rfl (show 2 < 500 by decide) rfl ?_; unfold c_laws_eqFunctor tr_laws_eqFunctor rs_laws_eqFunctor; simp only [go_sem, Nat.reduceLT, Nat.reduceAdd, Nat.reduceSub, Nat.reduceLeDiff, ↓reduceIte]
  refine call_of (ret_laws_eqCategory a.src) rfl (.inl rfl) ?_
  simp only [go_sem, Nat.reduceLT, Nat.reduceAdd, Nat.reduceSub, Nat.reduceLeDiff, ↓reduceIte]
  refine call_of (ret_laws_eqCategory a.tgt) rfl (.inl rfl) ?_
  simp only [go_sem, Nat.reduceLT, Nat.reduceAdd, Nat.reduceSub, ↓reduceIte]
  refine call_of (ret_laws_eqInt64S a.obs) rfl (.inl rfl) ?_
  simp only [go_sem, Nat.reduceLT, Nat.reduceAdd, Nat.reduceSub, ↓reduceIte]
  refine call_of (ret_laws_eqInt64S a.ars) rfl (.inl rfl) ?_
  simp only [go_sem, Nat.reduceLT, Nat.reduceAdd, Nat.reduceSub, ↓reduceIte]
  all_goals trivial

-- laws.eqFunctorS
def c_laws_eqFunctorS : C :=
  (.seq (.ops [] [⟨none, .asg 2 (.k (.bool false))⟩] [])
  (.seq (.opc [] [⟨none, .mv (.v 0)⟩,
    ⟨none, .len (.t 0)⟩,
    ⟨none, .mv (.v 1)⟩,
    ⟨none, .len (.t 2)⟩,
    ⟨none, .bin .neq (.t 1) (.t 3)⟩] [] (.t 4) (.seq (.ops [] [⟨none, .asg 2 (.k (.bool false))⟩] [])
  .ret)
  .skip)
  (.seq (.seq (.ops [] [⟨none, .asg 3 (.i 0)⟩] [])
  (.block 0 (.loop (.seq (.opc [] [⟨none, .mv (.v 3)⟩,
    ⟨none, .mv (.v 0)⟩,
    ⟨none, .len (.t 1)⟩,
    ⟨none, .bin .lss (.t 0) (.t 2)⟩] [] (.t 3) .skip
  (.exit 0))
  (.seq (.block 1 (.opc [] [⟨none, .mv (.v 0)⟩,
    ⟨none, .mv (.v 3)⟩,
    ⟨none, .idxA 12 (.t 0) (.t 1)⟩,
    ⟨none, .lda 12 (.t 2)⟩,
    ⟨none, .mv (.v 1)⟩,
    ⟨none, .mv (.v 3)⟩,
    ⟨none, .idxA 12 (.t 4) (.t 5)⟩,
    ⟨none, .lda 12 (.t 6)⟩,
    ⟨none, .call 92 [(.t 3), (.t 7)]⟩,
    ⟨none, .not (.t 8)⟩] [] (.t 9) (.seq (.ops [] [⟨none, .asg 2 (.k (.bool false))⟩] [])
  .ret)
  .skip))
  (.ops [] [⟨none, .mv (.v 3)⟩,
    ⟨none, .bin .add (.t 0) (.i 1)⟩,
    ⟨none, .asg 3 (.t 1)⟩] []))))))
  (.seq (.ops [] [⟨none, .asg 2 (.k (.bool true))⟩] [])
  .ret))))
def tr_laws_eqFunctorS : List Nat := [0, 1, 4, 5]
def rs_laws_eqFunctorS : List RS := [.t 2]
theorem ok_laws_eqFunctorS : fnOk Go.Proofs.Try.prog Go.Proofs.Try.f44 tr_laws_eqFunctorS c_laws_eqFunctorS 2 rs_laws_eqFunctorS = true := by decide +kernel

theorem ret_laws_eqFunctorS (a : List (Ftr)) : Ret Go.Proofs.Try.prog 44 [.v (lst Ftr.d Ftr.zero a), .v (lst Ftr.d Ftr.zero a)] (.bool true) := by
  refine ret_wf fun hw => ?_
  simp only [argsWf, wfd_lst] at hw
  have hm := hw.1.1
  refine ret_fn Go.Proofs.Try.func44 ok_laws_eqFunctorS rfl (show 2 < 500 by decide) rfl ?_; unfold c_laws_eqFunctorS tr_laws_eqFunctorS rs_laws_eqFunctorS; simp only [go_sem, Nat.reduceLT, Nat.reduceAdd, Nat.reduceSub, ↓reduceIte]
  refine ⟨fun h => by simp at h, fun _ => ?_⟩
  refine loop_set [] (fun (i : Nat) => [(3, .int .i64 i)]) (fun i => i ≤ a.length) (fun i => a.length - i) 0 rfl (Nat.zero_le _) rfl ?_
  rintro i hi
  simp only [go_sem, Nat.reduceLT, Nat.reduceAdd, Nat.reduceSub, Nat.reduceLeDiff, ↓reduceIte]
  refine fun h => ⟨h, h, call_of (ret_laws_eqFunctor (a.getD i Ftr.zero)) rfl (.inl rfl) ?_⟩
  simp only [go_sem, Nat.reduceLT, Nat.reduceAdd, Nat.reduceSub, ↓reduceIte]
  exact ⟨i + 1, by omega, by omega, by rw [wrap_lt h hm]⟩
end Go.D3

/- CONTRACTS: marks on slices of structs, functors first. -/
namespace Go.D3
open Go
set_option maxRecDepth 100000

section
variable {α : Type} {mk : Int → α → α} {c : α → Nat} {d : α} {k : Int} {a : List α} {i : Nat}
def costP (c : α → Nat) (a : List α) (i : Nat) : Nat := ((a.take i).map c).sum
theorem costP_zero : costP c a 0 = 0 := by simp [costP]
theorem costP_succ (h : i < a.length) : costP c a (i + 1) = costP c a i + c (a.getD i d) := sum_take h d
theorem costP_mono (_ : i < a.length) : costP c a (i + 1) ≤ costP c a a.length := by
  unfold costP
  rw [List.take_length]
  exact sum_take_le _
def mkL (mk : Int → α → α) (c : α → Nat) (d : α) (k : Int) (a : List α) : List α := (List.range a.length).map fun j => mk (k + costP c a j) (a.getD j d)
def mkLp (mk : Int → α → α) (c : α → Nat) (d : α) (k : Int) (a : List α) (i : Nat) : List α := ((List.range i).map fun j => mk (k + costP c a j) (a.getD j d)) ++ a.drop i
theorem mkLp_zero : mkLp mk c d k a 0 = a := by simp [mkLp]
theorem mkLp_len (h : i ≤ a.length) : (mkLp mk c d k a i).length = a.length := by simp [mkLp]; omega
theorem mkLp_get (_ : i < a.length) : (mkLp mk c d k a i).getD i d = a.getD i d := by
  unfold mkLp
  rw [List.getD_eq_getElem?_getD, List.getElem?_append_right (by simp), List.length_map, List.length_range, Nat.sub_self, List.getElem?_drop, Nat.add_zero, ← List.getD_eq_getElem?_getD]
theorem mkLp_set (h : i < a.length) : (mkLp mk c d k a i).set i (mk (k + costP c a i) (a.getD i d)) = mkLp mk c d k a (i + 1) := by
  unfold mkLp
  rw [List.set_append_right _ _ (by simp), List.range_succ, List.map_append]
  simp only [List.length_map, List.length_range, Nat.sub_self, List.map_cons, List.map_nil, List.append_assoc]
  congr 1
  rw [List.drop_eq_getElem_cons h]
  rfl
theorem mkLp_end (h : ¬ i < a.length) (hi : i ≤ a.length) : mkLp mk c d k a i = mkL mk c d k a := by
  have : i = a.length := by omega
  subst this
  simp [mkLp, mkL]
theorem mkL_len : (mkL mk c d k a).length = a.length := by simp [mkL]
theorem mkL_get (h : i < a.length) : (mkL mk c d k a).getD i d = mk (k + costP c a i) (a.getD i d) := by
  unfold mkL
  rw [List.getD_eq_getElem?_getD, List.getElem?_map, List.getElem?_range h]; rfl
end
theorem lgetD_set {α : Type} {d : α} {l : List α} {i : Nat} {x : α} (h : i < l.length) : (l.set i x).getD i d = x := by
  rw [List.getD_eq_getElem?_getD, List.getElem?_set_self h]; rfl
theorem set_setc {L : List D} {i off : Nat} {X y z : D} : (L.set i X).set i (setc ((L.set i X).getD i z) off y) = L.set i (setc X off y) := by
  rw [List.set_set]
  by_cases h : i < L.length
  · rw [List.getD_eq_getElem?_getD, List.getElem?_set_self h]; rfl
  · rw [List.set_eq_of_length_le (by omega), List.set_eq_of_length_le (by omega)]

def Ftr.mkc (x : Ftr) : Nat := 1 + x.src.fr.length + x.src.to.length + x.src.idn.length + cost2 x.src.co x.src.co.length + 1 + x.tgt.fr.length + x.tgt.to.length + x.tgt.idn.length + cost2 x.tgt.co x.tgt.co.length + x.obs.length + x.ars.length
def Ftr.mk1 (k : Int) (x : Ftr) : Ftr := ⟨⟨k, mks (k + 1) x.src.fr.length, mks (k + 1 + x.src.fr.length) x.src.to.length, mks (k + 1 + x.src.fr.length + x.src.to.length) x.src.idn.length, mkss (k + 1 + x.src.fr.length + x.src.to.length + x.src.idn.length) x.src.co⟩, ⟨k + 1 + x.src.fr.length + x.src.to.length + x.src.idn.length + cost2 x.src.co x.src.co.length, mks (k + 1 + x.src.fr.length + x.src.to.length + x.src.idn.length + cost2 x.src.co x.src.co.length + 1) x.tgt.fr.length, mks (k + 1 + x.src.fr.length + x.src.to.length + x.src.idn.length + cost2 x.src.co x.src.co.length + 1 + x.tgt.fr.length) x.tgt.to.length, mks (k + 1 + x.src.fr.length + x.src.to.length + x.src.idn.length + cost2 x.src.co x.src.co.length + 1 + x.tgt.fr.length + x.tgt.to.length) x.tgt.idn.length, mkss (k + 1 + x.src.fr.length + x.src.to.length + x.src.idn.length + cost2 x.src.co x.src.co.length + 1 + x.tgt.fr.length + x.tgt.to.length + x.tgt.idn.length) x.tgt.co⟩, mks (k + 1 + x.src.fr.length + x.src.to.length + x.src.idn.length + cost2 x.src.co x.src.co.length + 1 + x.tgt.fr.length + x.tgt.to.length + x.tgt.idn.length + cost2 x.tgt.co x.tgt.co.length) x.obs.length, mks (k + 1 + x.src.fr.length + x.src.to.length + x.src.idn.length + cost2 x.src.co x.src.co.length + 1 + x.tgt.fr.length + x.tgt.to.length + x.tgt.idn.length + cost2 x.tgt.co x.tgt.co.length + x.obs.length) x.ars.length⟩
theorem fold_Ftr {l : List Ftr} {i : Nat} {srcob : Int} {srcfr : List (Int)} {srcto : List (Int)} {srcidn : List (Int)} {srcco : List (List (Int))} {tgtob : Int} {tgtfr : List (Int)} {tgtto : List (Int)} {tgtidn : List (Int)} {tgtco : List (List (Int))} {obs : List (Int)} {ars : List (Int)} : D.slice (.agg [.int .i64 Ftr.zero.src.ob, ints Ftr.zero.src.fr, ints Ftr.zero.src.to, ints Ftr.zero.src.idn, intss Ftr.zero.src.co, .int .i64 Ftr.zero.tgt.ob, ints Ftr.zero.tgt.fr, ints Ftr.zero.tgt.to, ints Ftr.zero.tgt.idn, intss Ftr.zero.tgt.co, ints Ftr.zero.obs, ints Ftr.zero.ars]) ((l.map Ftr.d).set i (.agg [.int .i64 srcob, ints srcfr, ints srcto, ints srcidn, intss srcco, .int .i64 tgtob, ints tgtfr, ints tgtto, ints tgtidn, intss tgtco, ints obs, ints ars])) = lst Ftr.d Ftr.zero (l.set i ⟨⟨srcob, srcfr, srcto, srcidn, srcco⟩, ⟨tgtob, tgtfr, tgtto, tgtidn, tgtco⟩, obs, ars⟩) := lst_fold (f := Ftr.d) (d := Ftr.zero) (x := ⟨⟨srcob, srcfr, srcto, srcidn, srcco⟩, ⟨tgtob, tgtfr, tgtto, tgtidn, tgtco⟩, obs, ars⟩)
-- laws.markFunctorS
def c_laws_markFunctorS : C :=
  (.seq (.ops [] [⟨none, .asg 2 (.i 0)⟩] [])
  (.seq (.seq (.ops [] [⟨none, .asg 3 (.i 0)⟩] [])
  (.block 0 (.loop (.seq (.opc [] [⟨none, .mv (.v 3)⟩,
    ⟨none, .mv (.v 0)⟩,
    ⟨none, .len (.t 1)⟩,
    ⟨none, .bin .lss (.t 0) (.t 2)⟩] [] (.t 3) .skip
  (.exit 0))
  (.seq (.block 1 (.seq (.ops [] [⟨none, .mv (.v 0)⟩,
    ⟨none, .mv (.v 3)⟩,
    ⟨none, .mv (.v 1)⟩,
    ⟨none, .idxA 12 (.t 0) (.t 1)⟩,
    ⟨none, .fA 0 (.t 3)⟩,
    ⟨none, .fA 0 (.t 4)⟩,
    ⟨none, .st (.t 5) (.t 2)⟩] [])
  (.seq (.ops [] [⟨none, .mv (.v 1)⟩,
    ⟨none, .bin .add (.t 0) (.i 1)⟩,
    ⟨none, .asg 1 (.t 1)⟩] [])
  (.seq (.ops [] [⟨none, .mv (.v 0)⟩,
    ⟨none, .mv (.v 3)⟩,
    ⟨none, .idxA 12 (.t 0) (.t 1)⟩,
    ⟨none, .fA 0 (.t 2)⟩,
    ⟨none, .fA 1 (.t 3)⟩,
    ⟨none, .ld (.t 4)⟩,
    ⟨none, .mv (.v 1)⟩,
    ⟨none, .calle 64 [(.t 5), (.t 6)]⟩,
    ⟨none, .asg 1 (.t 7)⟩] [])
  (.seq (.ops [] [⟨none, .mv (.v 0)⟩,
    ⟨none, .mv (.v 3)⟩,
    ⟨none, .idxA 12 (.t 0) (.t 1)⟩,
    ⟨none, .fA 0 (.t 2)⟩,
    ⟨none, .fA 2 (.t 3)⟩,
    ⟨none, .ld (.t 4)⟩,
    ⟨none, .mv (.v 1)⟩,
    ⟨none, .calle 64 [(.t 5), (.t 6)]⟩,
    ⟨none, .asg 1 (.t 7)⟩] [])
  (.seq (.ops [] [⟨none, .mv (.v 0)⟩,
    ⟨none, .mv (.v 3)⟩,
    ⟨none, .idxA 12 (.t 0) (.t 1)⟩,
    ⟨none, .fA 0 (.t 2)⟩,
    ⟨none, .fA 3 (.t 3)⟩,
    ⟨none, .ld (.t 4)⟩,
    ⟨none, .mv (.v 1)⟩,
    ⟨none, .calle 64 [(.t 5), (.t 6)]⟩,
    ⟨none, .asg 1 (.t 7)⟩] [])
  (.seq (.ops [] [⟨none, .mv (.v 0)⟩,
    ⟨none, .mv (.v 3)⟩,
    ⟨none, .idxA 12 (.t 0) (.t 1)⟩,
    ⟨none, .fA 0 (.t 2)⟩,
    ⟨none, .fA 4 (.t 3)⟩,
    ⟨none, .ld (.t 4)⟩,
    ⟨none, .mv (.v 1)⟩,
    ⟨none, .calle 40 [(.t 5), (.t 6)]⟩,
    ⟨none, .asg 1 (.t 7)⟩] [])
  (.seq (.ops [] [⟨none, .mv (.v 0)⟩,
    ⟨none, .mv (.v 3)⟩,
    ⟨none, .mv (.v 1)⟩,
    ⟨none, .idxA 12 (.t 0) (.t 1)⟩,
    ⟨none, .fA 5 (.t 3)⟩,
    ⟨none, .fA 0 (.t 4)⟩,
    ⟨none, .st (.t 5) (.t 2)⟩] [])
  (.seq (.ops [] [⟨none, .mv (.v 1)⟩,
    ⟨none, .bin .add (.t 0) (.i 1)⟩,
    ⟨none, .asg 1 (.t 1)⟩] [])
  (.seq (.ops [] [⟨none, .mv (.v 0)⟩,
    ⟨none, .mv (.v 3)⟩,
    ⟨none, .idxA 12 (.t 0) (.t 1)⟩,
    ⟨none, .fA 5 (.t 2)⟩,
    ⟨none, .fA 1 (.t 3)⟩,
    ⟨none, .ld (.t 4)⟩,
    ⟨none, .mv (.v 1)⟩,
    ⟨none, .calle 64 [(.t 5), (.t 6)]⟩,
    ⟨none, .asg 1 (.t 7)⟩] [])
  (.seq (.ops [] [⟨none, .mv (.v 0)⟩,
    ⟨none, .mv (.v 3)⟩,
    ⟨none, .idxA 12 (.t 0) (.t 1)⟩,
    ⟨none, .fA 5 (.t 2)⟩,
    ⟨none, .fA 2 (.t 3)⟩,
    ⟨none, .ld (.t 4)⟩,
    ⟨none, .mv (.v 1)⟩,
    ⟨none, .calle 64 [(.t 5), (.t 6)]⟩,
    ⟨none, .asg 1 (.t 7)⟩] [])
  (.seq (.ops [] [⟨none, .mv (.v 0)⟩,
    ⟨none, .mv (.v 3)⟩,
    ⟨none, .idxA 12 (.t 0) (.t 1)⟩,
    ⟨none, .fA 5 (.t 2)⟩,
    ⟨none, .fA 3 (.t 3)⟩,
    ⟨none, .ld (.t 4)⟩,
    ⟨none, .mv (.v 1)⟩,
    ⟨none, .calle 64 [(.t 5), (.t 6)]⟩,
    ⟨none, .asg 1 (.t 7)⟩] [])
  (.seq (.ops [] [⟨none, .mv (.v 0)⟩,
    ⟨none, .mv (.v 3)⟩,
    ⟨none, .idxA 12 (.t 0) (.t 1)⟩,
    ⟨none, .fA 5 (.t 2)⟩,
    ⟨none, .fA 4 (.t 3)⟩,
    ⟨none, .ld (.t 4)⟩,
    ⟨none, .mv (.v 1)⟩,
    ⟨none, .calle 40 [(.t 5), (.t 6)]⟩,
    ⟨none, .asg 1 (.t 7)⟩] [])
  (.seq (.ops [] [⟨none, .mv (.v 0)⟩,
    ⟨none, .mv (.v 3)⟩,
    ⟨none, .idxA 12 (.t 0) (.t 1)⟩,
    ⟨none, .fA 10 (.t 2)⟩,
    ⟨none, .ld (.t 3)⟩,
    ⟨none, .mv (.v 1)⟩,
    ⟨none, .calle 64 [(.t 4), (.t 5)]⟩,
    ⟨none, .asg 1 (.t 6)⟩] [])
  (.ops [] [⟨none, .mv (.v 0)⟩,
    ⟨none, .mv (.v 3)⟩,
    ⟨none, .idxA 12 (.t 0) (.t 1)⟩,
    ⟨none, .fA 11 (.t 2)⟩,
    ⟨none, .ld (.t 3)⟩,
    ⟨none, .mv (.v 1)⟩,
    ⟨none, .calle 64 [(.t 4), (.t 5)]⟩,
    ⟨none, .asg 1 (.t 6)⟩] [])))))))))))))))
  (.ops [] [⟨none, .mv (.v 3)⟩,
    ⟨none, .bin .add (.t 0) (.i 1)⟩,
    ⟨none, .asg 3 (.t 1)⟩] []))))))
  (.seq (.ops [] [⟨none, .mv (.v 1)⟩,
    ⟨none, .asg 2 (.t 0)⟩] [])
  .ret)))
def tr_laws_markFunctorS : List Nat := [0, 1, 4, 5]
def rs_laws_markFunctorS : List RS := [.t 2]
theorem ok_laws_markFunctorS : fnOk Go.Proofs.Try.prog Go.Proofs.Try.f45 tr_laws_markFunctorS c_laws_markFunctorS 2 rs_laws_markFunctorS = true := by decide +kernel

theorem ret_laws_markFunctorS (a : List Ftr) (k : Int) (h0 : 0 ≤ k) (h1 : k + costP Ftr.mkc a a.length ≤ 4611686018427387900) : Ret Go.Proofs.Try.prog 45 [.io (.o (lst Ftr.d Ftr.zero a)) (.o (lst Ftr.d Ftr.zero (mkL Ftr.mk1 Ftr.mkc Ftr.zero k a))), .v (.int .i64 k)] (.int .i64 (k + costP Ftr.mkc a a.length)) := by
  refine ret_wf fun hw => ?_
  simp only [argsWf, wfd_lst] at hw
  have hm : a.length ≤ maxLen := hw.1.1
  refine ret_fn Go.Proofs.Try.func45 ok_laws_markFunctorS rfl (show 2 < 500 by decide) rfl ?_; unfold c_laws_markFunctorS tr_laws_markFunctorS rs_laws_markFunctorS; simp only [go_sem, Nat.reduceLT, Nat.reduceAdd, Nat.reduceBEq, Nat.reduceLeDiff, ↓reduceIte]
  refine loop_set [] (fun (i : Nat) => [(1, .int .i64 (k + costP Ftr.mkc a i)), (3, .int .i64 i), (4, .o (lst Ftr.d Ftr.zero (mkLp Ftr.mk1 Ftr.mkc Ftr.zero k a i)))]) (fun i => i ≤ a.length) (fun i => a.length - i) 0 (by simp only [go_sem]; rfl) (Nat.zero_le _) ?_ ?_
  · simp only [go_sem, mkLp_zero, costP_zero]; simp
  rintro i hi
  by_cases h : i < a.length
  rotate_left
  · simp only [go_sem, Nat.reduceLT, Nat.reduceAdd, Nat.reduceSub, Nat.reduceBEq, Nat.reduceLeDiff, ↓reduceIte]
    rw [mkLp_len hi]
    exact ⟨fun hh => absurd hh h, fun _ => ⟨by rw [show i = a.length by omega], by rw [mkLp_end h hi]⟩⟩
  have hc : costP Ftr.mkc a (i + 1) ≤ costP Ftr.mkc a a.length := costP_mono h
  have hl : i < (mkLp Ftr.mk1 Ftr.mkc Ftr.zero k a i).length := by rw [mkLp_len hi]; exact h
  have hz : (mkLp Ftr.mk1 Ftr.mkc Ftr.zero k a i).getD i Ftr.zero = a.getD i Ftr.zero := mkLp_get h
  have hget : ∀ x, ((mkLp Ftr.mk1 Ftr.mkc Ftr.zero k a i).set i x).getD i Ftr.zero = x := fun x => lgetD_set hl
  have hset : (mkLp Ftr.mk1 Ftr.mkc Ftr.zero k a i).set i (Ftr.mk1 (k + costP Ftr.mkc a i) (a.getD i Ftr.zero)) = mkLp Ftr.mk1 Ftr.mkc Ftr.zero k a (i + 1) := mkLp_set h
  have hcs : costP Ftr.mkc a (i + 1) = costP Ftr.mkc a i + Ftr.mkc (a.getD i Ftr.zero) := costP_succ h
  have hhn : 0 ≤ k + costP Ftr.mkc a i := by omega
  have hend : k + costP Ftr.mkc a (i + 1) = (k + costP Ftr.mkc a i) + Ftr.mkc (a.getD i Ftr.zero) := by omega
  have hbd : (k + costP Ftr.mkc a i) + Ftr.mkc (a.getD i Ftr.zero) ≤ 4611686018427387900 := by omega
  clear hcs hc
  generalize hK : k + costP Ftr.mkc a i = K at hset hhn hend hbd ⊢
  generalize mkLp Ftr.mk1 Ftr.mkc Ftr.zero k a i = q at hl hz hget hset ⊢
  generalize a.getD i Ftr.zero = x at hz hset hend hbd
  generalize hKe : k + costP Ftr.mkc a (i + 1) = K2 at hend
  unfold Ftr.mkc at hbd hend
  simp only [go_sem, Nat.reduceLT, Nat.reduceAdd, Nat.reduceSub, Nat.reduceBEq, Nat.reduceLeDiff, ↓reduceIte, fold_Ftr, lgetD_set, hz, hl, List.length_set]
  rw [wrap_small (by omega) (by omega)]
  refine io_part (ret_laws_markInt64S x.src.fr (K + 1) (by omega) (by omega)) trivial ?_
  simp only [go_sem, Nat.reduceLT, Nat.reduceAdd, Nat.reduceSub, Nat.reduceBEq, Nat.reduceLeDiff, ↓reduceIte, lgetD_set, hl, List.set_set, List.length_set, List.length_map]
  refine ⟨_, ints (mks (K + 1) x.src.fr.length), rfl, rfl, rfl, ?_⟩
  simp only [go_sem, fold_Ftr, List.set_set]
  refine io_part (ret_laws_markInt64S x.src.to (K + 1 + x.src.fr.length) (by omega) (by omega)) trivial ?_
  simp only [go_sem, Nat.reduceLT, Nat.reduceAdd, Nat.reduceSub, Nat.reduceBEq, Nat.reduceLeDiff, ↓reduceIte, lgetD_set, hl, List.set_set, List.length_set, List.length_map]
  refine ⟨_, ints (mks (K + 1 + x.src.fr.length) x.src.to.length), rfl, rfl, rfl, ?_⟩
  simp only [go_sem, fold_Ftr, List.set_set]
  refine io_part (ret_laws_markInt64S x.src.idn (K + 1 + x.src.fr.length + x.src.to.length) (by omega) (by omega)) trivial ?_
  simp only [go_sem, Nat.reduceLT, Nat.reduceAdd, Nat.reduceSub, Nat.reduceBEq, Nat.reduceLeDiff, ↓reduceIte, lgetD_set, hl, List.set_set, List.length_set, List.length_map]
  refine ⟨_, ints (mks (K + 1 + x.src.fr.length + x.src.to.length) x.src.idn.length), rfl, rfl, rfl, ?_⟩
  simp only [go_sem, fold_Ftr, List.set_set]
  refine io_part (ret_laws_markInt64SS x.src.co (K + 1 + x.src.fr.length + x.src.to.length + x.src.idn.length) (by omega) (by omega)) trivial ?_
  simp only [go_sem, Nat.reduceLT, Nat.reduceAdd, Nat.reduceSub, Nat.reduceBEq, Nat.reduceLeDiff, ↓reduceIte, lgetD_set, hl, List.set_set, List.length_set, List.length_map]
  refine ⟨_, intss (mkss (K + 1 + x.src.fr.length + x.src.to.length + x.src.idn.length) x.src.co), rfl, rfl, rfl, ?_⟩
  simp only [go_sem, fold_Ftr, List.set_set]
  rw [wrap_small (by omega) (by omega)]
  refine io_part (ret_laws_markInt64S x.tgt.fr (K + 1 + x.src.fr.length + x.src.to.length + x.src.idn.length + cost2 x.src.co x.src.co.length + 1) (by omega) (by omega)) trivial ?_
  simp only [go_sem, Nat.reduceLT, Nat.reduceAdd, Nat.reduceSub, Nat.reduceBEq, Nat.reduceLeDiff, ↓reduceIte, lgetD_set, hl, List.set_set, List.length_set, List.length_map]
  refine ⟨_, ints (mks (K + 1 + x.src.fr.length + x.src.to.length + x.src.idn.length + cost2 x.src.co x.src.co.length + 1) x.tgt.fr.length), rfl, rfl, rfl, ?_⟩
  simp only [go_sem, fold_Ftr, List.set_set]
  refine io_part (ret_laws_markInt64S x.tgt.to (K + 1 + x.src.fr.length + x.src.to.length + x.src.idn.length + cost2 x.src.co x.src.co.length + 1 + x.tgt.fr.length) (by omega) (by omega)) trivial ?_
  simp only [go_sem, Nat.reduceLT, Nat.reduceAdd, Nat.reduceSub, Nat.reduceBEq, Nat.reduceLeDiff, ↓reduceIte, lgetD_set, hl, List.set_set, List.length_set, List.length_map]
  refine ⟨_, ints (mks (K + 1 + x.src.fr.length + x.src.to.length + x.src.idn.length + cost2 x.src.co x.src.co.length + 1 + x.tgt.fr.length) x.tgt.to.length), rfl, rfl, rfl, ?_⟩
  simp only [go_sem, fold_Ftr, List.set_set]
  refine io_part (ret_laws_markInt64S x.tgt.idn (K + 1 + x.src.fr.length + x.src.to.length + x.src.idn.length + cost2 x.src.co x.src.co.length + 1 + x.tgt.fr.length + x.tgt.to.length) (by omega) (by omega)) trivial ?_
  simp only [go_sem, Nat.reduceLT, Nat.reduceAdd, Nat.reduceSub, Nat.reduceBEq, Nat.reduceLeDiff, ↓reduceIte, lgetD_set, hl, List.set_set, List.length_set, List.length_map]
  refine ⟨_, ints (mks (K + 1 + x.src.fr.length + x.src.to.length + x.src.idn.length + cost2 x.src.co x.src.co.length + 1 + x.tgt.fr.length + x.tgt.to.length) x.tgt.idn.length), rfl, rfl, rfl, ?_⟩
  simp only [go_sem, fold_Ftr, List.set_set]
  refine io_part (ret_laws_markInt64SS x.tgt.co (K + 1 + x.src.fr.length + x.src.to.length + x.src.idn.length + cost2 x.src.co x.src.co.length + 1 + x.tgt.fr.length + x.tgt.to.length + x.tgt.idn.length) (by omega) (by omega)) trivial ?_
  simp only [go_sem, Nat.reduceLT, Nat.reduceAdd, Nat.reduceSub, Nat.reduceBEq, Nat.reduceLeDiff, ↓reduceIte, lgetD_set, hl, List.set_set, List.length_set, List.length_map]
  refine ⟨_, intss (mkss (K + 1 + x.src.fr.length + x.src.to.length + x.src.idn.length + cost2 x.src.co x.src.co.length + 1 + x.tgt.fr.length + x.tgt.to.length + x.tgt.idn.length) x.tgt.co), rfl, rfl, rfl, ?_⟩
  simp only [go_sem, fold_Ftr, List.set_set]
  refine io_part (ret_laws_markInt64S x.obs (K + 1 + x.src.fr.length + x.src.to.length + x.src.idn.length + cost2 x.src.co x.src.co.length + 1 + x.tgt.fr.length + x.tgt.to.length + x.tgt.idn.length + cost2 x.tgt.co x.tgt.co.length) (by omega) (by omega)) trivial ?_
  simp only [go_sem, Nat.reduceLT, Nat.reduceAdd, Nat.reduceSub, Nat.reduceBEq, Nat.reduceLeDiff, ↓reduceIte, lgetD_set, hl, List.set_set, List.length_set, List.length_map]
  refine ⟨_, ints (mks (K + 1 + x.src.fr.length + x.src.to.length + x.src.idn.length + cost2 x.src.co x.src.co.length + 1 + x.tgt.fr.length + x.tgt.to.length + x.tgt.idn.length + cost2 x.tgt.co x.tgt.co.length) x.obs.length), rfl, rfl, rfl, ?_⟩
  simp only [go_sem, fold_Ftr, List.set_set]
  refine io_part (ret_laws_markInt64S x.ars (K + 1 + x.src.fr.length + x.src.to.length + x.src.idn.length + cost2 x.src.co x.src.co.length + 1 + x.tgt.fr.length + x.tgt.to.length + x.tgt.idn.length + cost2 x.tgt.co x.tgt.co.length + x.obs.length) (by omega) (by omega)) trivial ?_
  simp only [go_sem, Nat.reduceLT, Nat.reduceAdd, Nat.reduceSub, Nat.reduceBEq, Nat.reduceLeDiff, ↓reduceIte, lgetD_set, hl, List.set_set, List.length_set, List.length_map]
  refine ⟨_, ints (mks (K + 1 + x.src.fr.length + x.src.to.length + x.src.idn.length + cost2 x.src.co x.src.co.length + 1 + x.tgt.fr.length + x.tgt.to.length + x.tgt.idn.length + cost2 x.tgt.co x.tgt.co.length + x.obs.length) x.ars.length), rfl, rfl, rfl, ?_⟩
  simp only [go_sem, fold_Ftr, List.set_set]
  refine ⟨i + 1, by omega, by omega, ?_⟩
  rw [wrap_lt h hm, ← hset, hKe, hend]
  unfold Ftr.mk1
  simp only [Int.natCast_add, Int.natCast_one, Int.add_assoc]

-- laws.heldFunctorS
def c_laws_heldFunctorS : C :=
  (.seq (.ops [] [⟨none, .asg 2 (.i 0)⟩] [])
  (.seq (.seq (.ops [] [⟨none, .asg 3 (.i 0)⟩] [])
  (.block 0 (.loop (.seq (.opc [] [⟨none, .mv (.v 3)⟩,
    ⟨none, .mv (.v 0)⟩,
    ⟨none, .len (.t 1)⟩,
    ⟨none, .bin .lss (.t 0) (.t 2)⟩] [] (.t 3) .skip
  (.exit 0))
  (.seq (.block 1 (.seq (.opc [] [⟨none, .mv (.v 0)⟩,
    ⟨none, .mv (.v 3)⟩,
    ⟨none, .idxA 12 (.t 0) (.t 1)⟩,
    ⟨none, .fA 0 (.t 2)⟩,
    ⟨none, .fA 0 (.t 3)⟩,
    ⟨none, .ld (.t 4)⟩,
    ⟨none, .mv (.v 1)⟩,
    ⟨none, .bin .neq (.t 5) (.t 6)⟩] [] (.t 7) (.seq (.ops [] [⟨none, .asg 2 (.i (-1))⟩] [])
  .ret)
  .skip)
  (.seq (.ops [] [⟨none, .mv (.v 1)⟩,
    ⟨none, .bin .add (.t 0) (.i 1)⟩,
    ⟨none, .asg 1 (.t 1)⟩] [])
  (.seq (.ops [] [⟨none, .mv (.v 0)⟩,
    ⟨none, .mv (.v 3)⟩,
    ⟨none, .idxA 12 (.t 0) (.t 1)⟩,
    ⟨none, .fA 0 (.t 2)⟩,
    ⟨none, .fA 1 (.t 3)⟩,
    ⟨none, .ld (.t 4)⟩,
    ⟨none, .mv (.v 1)⟩,
    ⟨none, .call 65 [(.t 5), (.t 6)]⟩,
    ⟨none, .asg 1 (.t 7)⟩] [])
  (.seq (.opc [] [⟨none, .mv (.v 1)⟩,
    ⟨none, .bin .lss (.t 0) (.i 0)⟩] [] (.t 1) (.seq (.ops [] [⟨none, .asg 2 (.i (-1))⟩] [])
  .ret)
  .skip)
  (.seq (.ops [] [⟨none, .mv (.v 0)⟩,
    ⟨none, .mv (.v 3)⟩,
    ⟨none, .idxA 12 (.t 0) (.t 1)⟩,
    ⟨none, .fA 0 (.t 2)⟩,
    ⟨none, .fA 2 (.t 3)⟩,
    ⟨none, .ld (.t 4)⟩,
    ⟨none, .mv (.v 1)⟩,
    ⟨none, .call 65 [(.t 5), (.t 6)]⟩,
    ⟨none, .asg 1 (.t 7)⟩] [])
  (.seq (.opc [] [⟨none, .mv (.v 1)⟩,
    ⟨none, .bin .lss (.t 0) (.i 0)⟩] [] (.t 1) (.seq (.ops [] [⟨none, .asg 2 (.i (-1))⟩] [])
  .ret)
  .skip)
  (.seq (.ops [] [⟨none, .mv (.v 0)⟩,
    ⟨none, .mv (.v 3)⟩,
    ⟨none, .idxA 12 (.t 0) (.t 1)⟩,
    ⟨none, .fA 0 (.t 2)⟩,
    ⟨none, .fA 3 (.t 3)⟩,
    ⟨none, .ld (.t 4)⟩,
    ⟨none, .mv (.v 1)⟩,
    ⟨none, .call 65 [(.t 5), (.t 6)]⟩,
    ⟨none, .asg 1 (.t 7)⟩] [])
  (.seq (.opc [] [⟨none, .mv (.v 1)⟩,
    ⟨none, .bin .lss (.t 0) (.i 0)⟩] [] (.t 1) (.seq (.ops [] [⟨none, .asg 2 (.i (-1))⟩] [])
  .ret)
  .skip)
  (.seq (.ops [] [⟨none, .mv (.v 0)⟩,
    ⟨none, .mv (.v 3)⟩,
    ⟨none, .idxA 12 (.t 0) (.t 1)⟩,
    ⟨none, .fA 0 (.t 2)⟩,
    ⟨none, .fA 4 (.t 3)⟩,
    ⟨none, .ld (.t 4)⟩,
    ⟨none, .mv (.v 1)⟩,
    ⟨none, .call 41 [(.t 5), (.t 6)]⟩,
    ⟨none, .asg 1 (.t 7)⟩] [])
  (.seq (.opc [] [⟨none, .mv (.v 1)⟩,
    ⟨none, .bin .lss (.t 0) (.i 0)⟩] [] (.t 1) (.seq (.ops [] [⟨none, .asg 2 (.i (-1))⟩] [])
  .ret)
  .skip)
  (.seq (.opc [] [⟨none, .mv (.v 0)⟩,
    ⟨none, .mv (.v 3)⟩,
    ⟨none, .idxA 12 (.t 0) (.t 1)⟩,
    ⟨none, .fA 5 (.t 2)⟩,
    ⟨none, .fA 0 (.t 3)⟩,
    ⟨none, .ld (.t 4)⟩,
    ⟨none, .mv (.v 1)⟩,
    ⟨none, .bin .neq (.t 5) (.t 6)⟩] [] (.t 7) (.seq (.ops [] [⟨none, .asg 2 (.i (-1))⟩] [])
  .ret)
  .skip)
  (.seq (.ops [] [⟨none, .mv (.v 1)⟩,
    ⟨none, .bin .add (.t 0) (.i 1)⟩,
    ⟨none, .asg 1 (.t 1)⟩] [])
  (.seq (.ops [] [⟨none, .mv (.v 0)⟩,
    ⟨none, .mv (.v 3)⟩,
    ⟨none, .idxA 12 (.t 0) (.t 1)⟩,
    ⟨none, .fA 5 (.t 2)⟩,
    ⟨none, .fA 1 (.t 3)⟩,
    ⟨none, .ld (.t 4)⟩,
    ⟨none, .mv (.v 1)⟩,
    ⟨none, .call 65 [(.t 5), (.t 6)]⟩,
    ⟨none, .asg 1 (.t 7)⟩] [])
  (.seq (.opc [] [⟨none, .mv (.v 1)⟩,
    ⟨none, .bin .lss (.t 0) (.i 0)⟩] [] (.t 1) (.seq (.ops [] [⟨none, .asg 2 (.i (-1))⟩] [])
  .ret)
  .skip)
  (.seq (.ops [] [⟨none, .mv (.v 0)⟩,
    ⟨none, .mv (.v 3)⟩,
    ⟨none, .idxA 12 (.t 0) (.t 1)⟩,
    ⟨none, .fA 5 (.t 2)⟩,
    ⟨none, .fA 2 (.t 3)⟩,
    ⟨none, .ld (.t 4)⟩,
    ⟨none, .mv (.v 1)⟩,
    ⟨none, .call 65 [(.t 5), (.t 6)]⟩,
    ⟨none, .asg 1 (.t 7)⟩] [])
  (.seq (.opc [] [⟨none, .mv (.v 1)⟩,
    ⟨none, .bin .lss (.t 0) (.i 0)⟩] [] (.t 1) (.seq (.ops [] [⟨none, .asg 2 (.i (-1))⟩] [])
  .ret)
  .skip)
  (.seq (.ops [] [⟨none, .mv (.v 0)⟩,
    ⟨none, .mv (.v 3)⟩,
    ⟨none, .idxA 12 (.t 0) (.t 1)⟩,
    ⟨none, .fA 5 (.t 2)⟩,
    ⟨none, .fA 3 (.t 3)⟩,
    ⟨none, .ld (.t 4)⟩,
    ⟨none, .mv (.v 1)⟩,
    ⟨none, .call 65 [(.t 5), (.t 6)]⟩,
    ⟨none, .asg 1 (.t 7)⟩] [])
  (.seq (.opc [] [⟨none, .mv (.v 1)⟩,
    ⟨none, .bin .lss (.t 0) (.i 0)⟩] [] (.t 1) (.seq (.ops [] [⟨none, .asg 2 (.i (-1))⟩] [])
  .ret)
  .skip)
  (.seq (.ops [] [⟨none, .mv (.v 0)⟩,
    ⟨none, .mv (.v 3)⟩,
    ⟨none, .idxA 12 (.t 0) (.t 1)⟩,
    ⟨none, .fA 5 (.t 2)⟩,
    ⟨none, .fA 4 (.t 3)⟩,
    ⟨none, .ld (.t 4)⟩,
    ⟨none, .mv (.v 1)⟩,
    ⟨none, .call 41 [(.t 5), (.t 6)]⟩,
    ⟨none, .asg 1 (.t 7)⟩] [])
  (.seq (.opc [] [⟨none, .mv (.v 1)⟩,
    ⟨none, .bin .lss (.t 0) (.i 0)⟩] [] (.t 1) (.seq (.ops [] [⟨none, .asg 2 (.i (-1))⟩] [])
  .ret)
  .skip)
  (.seq (.ops [] [⟨none, .mv (.v 0)⟩,
    ⟨none, .mv (.v 3)⟩,
    ⟨none, .idxA 12 (.t 0) (.t 1)⟩,
    ⟨none, .fA 10 (.t 2)⟩,
    ⟨none, .ld (.t 3)⟩,
    ⟨none, .mv (.v 1)⟩,
    ⟨none, .call 65 [(.t 4), (.t 5)]⟩,
    ⟨none, .asg 1 (.t 6)⟩] [])
  (.seq (.opc [] [⟨none, .mv (.v 1)⟩,
    ⟨none, .bin .lss (.t 0) (.i 0)⟩] [] (.t 1) (.seq (.ops [] [⟨none, .asg 2 (.i (-1))⟩] [])
  .ret)
  .skip)
  (.seq (.ops [] [⟨none, .mv (.v 0)⟩,
    ⟨none, .mv (.v 3)⟩,
    ⟨none, .idxA 12 (.t 0) (.t 1)⟩,
    ⟨none, .fA 11 (.t 2)⟩,
    ⟨none, .ld (.t 3)⟩,
    ⟨none, .mv (.v 1)⟩,
    ⟨none, .call 65 [(.t 4), (.t 5)]⟩,
    ⟨none, .asg 1 (.t 6)⟩] [])
  (.opc [] [⟨none, .mv (.v 1)⟩,
    ⟨none, .bin .lss (.t 0) (.i 0)⟩] [] (.t 1) (.seq (.ops [] [⟨none, .asg 2 (.i (-1))⟩] [])
  .ret)
  .skip)))))))))))))))))))))))))
  (.ops [] [⟨none, .mv (.v 3)⟩,
    ⟨none, .bin .add (.t 0) (.i 1)⟩,
    ⟨none, .asg 3 (.t 1)⟩] []))))))
  (.seq (.ops [] [⟨none, .mv (.v 1)⟩,
    ⟨none, .asg 2 (.t 0)⟩] [])
  .ret)))
def tr_laws_heldFunctorS : List Nat := [0, 1, 4, 5]
def rs_laws_heldFunctorS : List RS := [.t 2]
theorem ok_laws_heldFunctorS : fnOk Go.Proofs.Try.prog Go.Proofs.Try.f46 tr_laws_heldFunctorS c_laws_heldFunctorS 2 rs_laws_heldFunctorS = true := by decide +kernel

theorem ret_laws_heldFunctorS (a : List Ftr) (k : Int) (h0 : 0 ≤ k) (h1 : k + costP Ftr.mkc a a.length ≤ 4611686018427387900) : Ret Go.Proofs.Try.prog 46 [.v (lst Ftr.d Ftr.zero (mkL Ftr.mk1 Ftr.mkc Ftr.zero k a)), .v (.int .i64 k)] (.int .i64 (k + costP Ftr.mkc a a.length)) := by
  refine ret_wf fun hw => ?_
  simp only [argsWf, wfd_lst, mkL_len] at hw
  have hm : a.length ≤ maxLen := hw.1.1
  refine ret_fn Go.Proofs.Try.func46 ok_laws_heldFunctorS rfl (show 2 < 500 by decide) rfl ?_; unfold c_laws_heldFunctorS tr_laws_heldFunctorS rs_laws_heldFunctorS; simp only [go_sem, Nat.reduceLT, Nat.reduceAdd, ↓reduceIte]
  refine loop_set [] (fun (i : Nat) => [(1, .int .i64 (k + costP Ftr.mkc a i)), (3, .int .i64 i)]) (fun i => i ≤ a.length) (fun i => a.length - i) 0 (by simp only [go_sem]; rfl) (Nat.zero_le _) ?_ ?_
  · simp only [go_sem, costP_zero]; simp
  rintro i hi
  by_cases h : i < a.length
  rotate_left
  · simp only [go_sem, Nat.reduceLT, Nat.reduceAdd, Nat.reduceSub, ↓reduceIte]
    rw [mkL_len]
    exact ⟨fun hh => absurd hh h, fun _ => by rw [show i = a.length by omega]⟩
  have hc : costP Ftr.mkc a (i + 1) ≤ costP Ftr.mkc a a.length := costP_mono h
  have hl : i < (mkL Ftr.mk1 Ftr.mkc Ftr.zero k a).length := by rw [mkL_len]; exact h
  have hz : (mkL Ftr.mk1 Ftr.mkc Ftr.zero k a).getD i Ftr.zero = Ftr.mk1 (k + costP Ftr.mkc a i) (a.getD i Ftr.zero) := mkL_get h
  have hcs : costP Ftr.mkc a (i + 1) = costP Ftr.mkc a i + Ftr.mkc (a.getD i Ftr.zero) := costP_succ h
  have hhn : 0 ≤ k + costP Ftr.mkc a i := by omega
  have hend : k + costP Ftr.mkc a (i + 1) = (k + costP Ftr.mkc a i) + Ftr.mkc (a.getD i Ftr.zero) := by omega
  have hbd : (k + costP Ftr.mkc a i) + Ftr.mkc (a.getD i Ftr.zero) ≤ 4611686018427387900 := by omega
  clear hcs hc
  generalize hK : k + costP Ftr.mkc a i = K at hhn hz hend hbd ⊢
  generalize mkL Ftr.mk1 Ftr.mkc Ftr.zero k a = q at hl hz ⊢
  generalize a.getD i Ftr.zero = x at hz hend hbd
  generalize hKe : k + costP Ftr.mkc a (i + 1) = K2 at hend
  unfold Ftr.mkc at hbd hend
  unfold Ftr.mk1 at hz
  simp only [go_sem, Nat.reduceLT, Nat.reduceAdd, Nat.reduceSub, ↓reduceIte, hz, hl]
  refine ⟨fun hh => by simp at hh, fun _ => ?_⟩
  rw [wrap_small (by omega) (by omega)]
  refine call_of (ret_laws_heldInt64S x.src.fr.length (K + 1) (by omega) (by omega)) rfl (.inl rfl) ?_
  simp only [go_sem, Nat.reduceLT, Nat.reduceAdd, Nat.reduceSub, ↓reduceIte, hz, hl]
  refine ⟨fun hh => by omega, fun _ => ?_⟩
  refine call_of (ret_laws_heldInt64S x.src.to.length (K + 1 + x.src.fr.length) (by omega) (by omega)) rfl (.inl rfl) ?_
  simp only [go_sem, Nat.reduceLT, Nat.reduceAdd, Nat.reduceSub, ↓reduceIte, hz, hl]
  refine ⟨fun hh => by omega, fun _ => ?_⟩
  refine call_of (ret_laws_heldInt64S x.src.idn.length (K + 1 + x.src.fr.length + x.src.to.length) (by omega) (by omega)) rfl (.inl rfl) ?_
  simp only [go_sem, Nat.reduceLT, Nat.reduceAdd, Nat.reduceSub, ↓reduceIte, hz, hl]
  refine ⟨fun hh => by omega, fun _ => ?_⟩
  refine call_of (ret_laws_heldInt64SS x.src.co (K + 1 + x.src.fr.length + x.src.to.length + x.src.idn.length) (by omega) (by omega)) rfl (.inl rfl) ?_
  simp only [go_sem, Nat.reduceLT, Nat.reduceAdd, Nat.reduceSub, ↓reduceIte, hz, hl]
  refine ⟨fun hh => by omega, fun _ => ?_⟩
  refine ⟨fun hh => by simp at hh, fun _ => ?_⟩
  rw [wrap_small (by omega) (by omega)]
  refine call_of (ret_laws_heldInt64S x.tgt.fr.length (K + 1 + x.src.fr.length + x.src.to.length + x.src.idn.length + cost2 x.src.co x.src.co.length + 1) (by omega) (by omega)) rfl (.inl rfl) ?_
  simp only [go_sem, Nat.reduceLT, Nat.reduceAdd, Nat.reduceSub, ↓reduceIte, hz, hl]
  refine ⟨fun hh => by omega, fun _ => ?_⟩
  refine call_of (ret_laws_heldInt64S x.tgt.to.length (K + 1 + x.src.fr.length + x.src.to.length + x.src.idn.length + cost2 x.src.co x.src.co.length + 1 + x.tgt.fr.length) (by omega) (by omega)) rfl (.inl rfl) ?_
  simp only [go_sem, Nat.reduceLT, Nat.reduceAdd, Nat.reduceSub, ↓reduceIte, hz, hl]
  refine ⟨fun hh => by omega, fun _ => ?_⟩
  refine call_of (ret_laws_heldInt64S x.tgt.idn.length (K + 1 + x.src.fr.length + x.src.to.length + x.src.idn.length + cost2 x.src.co x.src.co.length + 1 + x.tgt.fr.length + x.tgt.to.length) (by omega) (by omega)) rfl (.inl rfl) ?_
  simp only [go_sem, Nat.reduceLT, Nat.reduceAdd, Nat.reduceSub, ↓reduceIte, hz, hl]
  refine ⟨fun hh => by omega, fun _ => ?_⟩
  refine call_of (ret_laws_heldInt64SS x.tgt.co (K + 1 + x.src.fr.length + x.src.to.length + x.src.idn.length + cost2 x.src.co x.src.co.length + 1 + x.tgt.fr.length + x.tgt.to.length + x.tgt.idn.length) (by omega) (by omega)) rfl (.inl rfl) ?_
  simp only [go_sem, Nat.reduceLT, Nat.reduceAdd, Nat.reduceSub, ↓reduceIte, hz, hl]
  refine ⟨fun hh => by omega, fun _ => ?_⟩
  refine call_of (ret_laws_heldInt64S x.obs.length (K + 1 + x.src.fr.length + x.src.to.length + x.src.idn.length + cost2 x.src.co x.src.co.length + 1 + x.tgt.fr.length + x.tgt.to.length + x.tgt.idn.length + cost2 x.tgt.co x.tgt.co.length) (by omega) (by omega)) rfl (.inl rfl) ?_
  simp only [go_sem, Nat.reduceLT, Nat.reduceAdd, Nat.reduceSub, ↓reduceIte, hz, hl]
  refine ⟨fun hh => by omega, fun _ => ?_⟩
  refine call_of (ret_laws_heldInt64S x.ars.length (K + 1 + x.src.fr.length + x.src.to.length + x.src.idn.length + cost2 x.src.co x.src.co.length + 1 + x.tgt.fr.length + x.tgt.to.length + x.tgt.idn.length + cost2 x.tgt.co x.tgt.co.length + x.obs.length) (by omega) (by omega)) rfl (.inl rfl) ?_
  simp only [go_sem, Nat.reduceLT, Nat.reduceAdd, Nat.reduceSub, ↓reduceIte]
  refine ⟨fun hh => by omega, fun _ => ?_⟩
  refine ⟨i + 1, by omega, by omega, ?_⟩
  rw [wrap_lt h hm, hKe, hend]
  simp only [Int.natCast_add, Int.natCast_one, Int.add_assoc]
end Go.D3

/- WHAT IS LEFT WHEN SIZES OF ARGUMENTS HAVE BEEN TAKEN OFF; calls with pointers to the first part of a struct. -/
namespace Go.D3
open Go
theorem sb_ok {left : Int} {n : Nat} (h0 : 0 ≤ left) (h1 : left ≤ 1048576) (h : 0 ≤ sb left n) : n ≤ 1048576 ∧ 0 ≤ sb left n ∧ sb left n ≤ 1048576 := by
  unfold sb at h ⊢
  split at h
  · rename_i hh; rw [if_pos hh]; omega
  · omega

theorem lst_cellv {α : Type} {f : α → D} {d : α} {l : List α} {k : Nat} {p : Path} : cellv k p (lst f d l) = lst f d l := rfl
attribute [go_sem] lst_cellv

/-- A pointer to more cells is one to the first of them. -/
def wk1 (a d : D) : Prop := a = d ∨ ∃ n l, d = .ptr l ∧ a = .ptr (l.take n)
def wkL : List D → List D → Prop
  | [], [] => True
  | a :: xs, d :: ds => wk1 a d ∧ wkL xs ds
  | _, _ => False
theorem Rd.wk {w : World} {A : Nat → Prop} {v : Value} {a d : D} (h : Rd w A v d) (hw : wk1 a d) : Rd w A v a := by
  rcases hw with rfl | ⟨n, l, rfl, rfl⟩
  · exact h
  · cases h with
    | ptr hA vs hc hr =>
      have key : ∀ (j : Nat) (x : D), (l.take n)[j]? = some x → l[j]? = some x := fun j x hx => by
        rw [List.getElem?_take] at hx
        split at hx
        · exact hx
        · cases hx
      exact .ptr hA vs (fun j x hx => hc j x (key j x hx)) fun j x hx => hr j x (key j x hx)
theorem wkL_len : ∀ {xs ds : List D}, wkL xs ds → xs.length = ds.length
  | [], [], _ => rfl
  | _ :: _, _ :: _, h => by simp only [List.length_cons, wkL_len h.2]
  | [], _ :: _, h => h.elim
  | _ :: _, [], h => h.elim
theorem wkL_get : ∀ {xs ds : List D}, wkL xs ds → ∀ {j : Nat} {a : D}, xs[j]? = some a → ∃ d, ds[j]? = some d ∧ wk1 a d
  | [], _, _, j, a, hj => by simp at hj
  | x :: r, y :: s, h, 0, a, hj => by
    simp only [List.getElem?_cons_zero, Option.some.injEq] at hj
    exact ⟨y, rfl, hj ▸ h.1⟩
  | x :: r, y :: s, h, j + 1, a, hj => by
    simp only [List.getElem?_cons_succ] at hj ⊢
    exact wkL_get h.2 hj
  | _ :: _, [], h, _, _, _ => h.elim
theorem ret_wk {P : Program} {f : FuncId} {xs ds : List D} {res : D} (h : Ret P f (xs.map .v) res) (hw : wkL xs ds) : Ret P f (ds.map .v) res := by
  intro w A vs Fs h1 h2 h3 h4 h5
  have hl := wkL_len hw
  refine (h w A vs Fs h1 (by rw [h2]; simp [hl]) (fun j a hj => ?_) h4 fun j b hb => ⟨(h5 j b hb).1, (h5 j b hb).2.1, by simpa [hl] using (h5 j b hb).2.2⟩).mono ?_
  · rw [List.getElem?_map, Option.map_eq_some_iff] at hj
    obtain ⟨x, hx, rfl⟩ := hj
    obtain ⟨d, hd, hwd⟩ := wkL_get hw hx
    have := h3 j (.v d) (by rw [List.getElem?_map, hd]; rfl)
    exact ⟨this.1.wk hwd, this.2⟩
  · rintro e w' ⟨v, F, Fs', e1, e2, e3, e4, e5, e6, e7⟩
    refine ⟨v, F, Fs', e1, e2, e3, fun j a hj => ?_, e5, fun j b hb => ⟨(e6 j b hb).1, (e6 j b hb).2.1, by simpa [hl] using (e6 j b hb).2.2⟩, e7⟩
    rw [List.getElem?_map, Option.map_eq_some_iff] at hj
    obtain ⟨d, hd, rfl⟩ := hj
    have hj2 : j < xs.length := by rw [hl]; exact (List.getElem?_eq_some_iff.1 hd).1
    exact e4 j (.v xs[j]) (by rw [List.getElem?_map, List.getElem?_eq_getElem hj2]; rfl)
theorem map_v_inj {xs bs : List D} (h : xs.map Arg.v = bs.map Arg.v) : xs = bs := by
  induction xs generalizing bs with
  | nil => cases bs with
    | nil => rfl
    | cons _ _ => cases h
  | cons a r ih => cases bs with
    | nil => cases h
    | cons b s => simp only [List.map_cons, List.cons.injEq, Arg.v.injEq] at h; rw [h.1, ih h.2]
/-- A call whose contract speaks of fewer cells behind its pointers. -/
theorem call_wk {P : Program} {f : FuncId} {pl : Prop} {K : St → Prop} {st : St} {xs : List Arg} {bs ds : List D} {res : D} (hR : Ret P f xs res) (ha : xs = bs.map .v) (hw : wkL bs ds) (hn : res.novw = true ∨ pl) (hK : K (st.push (contOf res))) : @callVC P f (some ds) true pl none ⟨K⟩ st :=
  call_of (ret_wk (ha ▸ hR) hw) rfl hn hK
theorem callg_wk {P : Program} {f : FuncId} {gt : Bool} {pl : Prop} {K : St → Prop} {st : St} {xs : List Arg} {bs ds : List D} {res : D} {b : Bool} (hR : b = true → Ret P f xs res) (ha : xs = bs.map .v) (hw : wkL bs ds) (hgt : b = true → gt = true) (hn : res.novw = true ∨ pl) (hK : K (st.push (.when b res))) :
    @callVC P f (some ds) gt pl (some b) ⟨K⟩ st := callg_of (fun h => ret_wk (ha ▸ hR h) hw) rfl hgt hn hK
end Go.D3

/- CONTRACTS: the law FnExactAllFunctors. -/
namespace Go.D3
open Go
set_option maxRecDepth 100000
set_option maxHeartbeats 4000000
theorem cost2_le {a : List (List Int)} : cost2 a a.length ≤ costL List.length a := by
  have : ∀ i, i ≤ a.length → cost2 a i = ((a.take i).map List.length).sum := by
    intro i
    induction i with
    | zero => intro _; simp [cost2]
    | succ i ih => intro h; rw [cost2, ih (by omega), sum_take (cost := List.length) (by omega) []]
  rw [this _ (Nat.le_refl _), List.take_length]; unfold costL; omega
theorem mcost_le (c : Cat) : c.mcost ≤ c.cost := by
  have := cost2_le (a := c.co)
  unfold Cat.mcost Cat.cost; omega
theorem costP_le {α : Type} {f : α → Nat} {B : Nat} {a : List α} (h : ∀ x ∈ a, f x ≤ B) : costP f a a.length ≤ a.length * B := by
  unfold costP
  rw [List.take_length]
  induction a with
  | nil => simp
  | cons x r ih =>
    have h1 := h x (by simp)
    have h2 := ih fun y hy => h y (by simp [hy])
    simp only [List.map_cons, List.sum_cons, List.length_cons, Nat.add_mul]; omega
theorem allF_cost (c d : Cat) (L : List (List Int × List Int)) (hc : c.cost ≤ 1048576) (hd : d.cost ≤ 1048576) (hL : c.Shape → d.Shape → EnO c d [] L) : costP Ftr.mkc (allF c d L).1 (allF c d L).1.length ≤ 2000000000 := by
  unfold allF
  by_cases h : (c.isB && d.isB) = false
  · rw [if_pos h]; exact Nat.zero_le _
  rw [if_neg h]
  by_cases h2 : smallB c d = false
  · rw [if_pos h2]; exact Nat.zero_le _
  rw [if_neg h2]
  by_cases h3 : (mkO c d L).length ≤ 200
  · rw [if_pos h3]
    simp only [Bool.not_eq_false, Bool.and_eq_true] at h
    have hcs := isB_shape h.1
    have hE := hL hcs (isB_shape h.2)
    refine Nat.le_trans (costP_le (B := 4000000) fun x hx => ?_) (by simp only; omega)
    obtain ⟨P, hP, rfl⟩ := List.mem_map.1 hx
    have h4 := ((hE.2 P).1 hP).1
    have h5 := h4.1.len
    have h6 := h4.2.1.ty.len
    have h7 := hcs.ob8
    have h8 := hcs.fr
    have h9 := mcost_le c
    have h10 := mcost_le d
    unfold Cat.mcost at h9 h10
    unfold Ftr.mkc
    simp only
    omega
  · rw [if_neg h3]; exact Nat.zero_le _
-- laws.FnExactAllFunctors
def c_laws_FnExactAllFunctors : C :=
  (.seq (.ops [3, 4] [⟨none, .boxv 5 (.v 0)⟩,
    ⟨none, .boxv 5 (.v 1)⟩,
    ⟨none, .asg 2 (.k (.bool false))⟩] [(3, 0), (4, 1)])
  (.seq (.ops [] [⟨none, .asg 5 (.i 1048576)⟩] [])
  (.seq (.ops [] [⟨none, .lda 5 (.v 3)⟩,
    ⟨none, .mv (.v 5)⟩,
    ⟨none, .call 16 [(.t 0), (.t 1)]⟩,
    ⟨none, .asg 5 (.t 2)⟩] [])
  (.seq (.opc [] [⟨none, .mv (.v 5)⟩,
    ⟨none, .bin .lss (.t 0) (.i 0)⟩] [] (.t 1) (.seq (.ops [] [⟨none, .asg 2 (.k (.bool true))⟩] [])
  .ret)
  .skip)
  (.seq (.ops [] [⟨none, .lda 5 (.v 4)⟩,
    ⟨none, .mv (.v 5)⟩,
    ⟨none, .call 16 [(.t 0), (.t 1)]⟩,
    ⟨none, .asg 5 (.t 2)⟩] [])
  (.seq (.opc [] [⟨none, .mv (.v 5)⟩,
    ⟨none, .bin .lss (.t 0) (.i 0)⟩] [] (.t 1) (.seq (.ops [] [⟨none, .asg 2 (.k (.bool true))⟩] [])
  .ret)
  .skip)
  (.seq (.ops [6] [⟨none, .lda 5 (.v 3)⟩,
    ⟨none, .call 18 [(.t 0)]⟩,
    ⟨none, .lda 5 (.v 4)⟩,
    ⟨none, .call 18 [(.t 2)]⟩,
    ⟨none, .call 42 [(.t 1), (.t 3)]⟩,
    ⟨none, .mv (.t 4)⟩,
    ⟨none, .ext 0 (.t 5)⟩,
    ⟨none, .ext 1 (.t 5)⟩,
    ⟨none, .mv (.t 6)⟩,
    ⟨none, .asg 7 (.t 7)⟩] [(6, 8)])
  (.seq (.ops [8] [⟨none, .lda 5 (.v 3)⟩,
    ⟨none, .call 18 [(.t 0)]⟩,
    ⟨none, .alc [.int .i64 0, .nils (.int .i64 0), .nils (.int .i64 0), .nils (.int .i64 0), .nils (ints [])]⟩,
    ⟨none, .stn 5 (.t 2) (.t 1)⟩] [(8, 2)])
  (.seq (.ops [9] [⟨none, .lda 5 (.v 4)⟩,
    ⟨none, .call 18 [(.t 0)]⟩,
    ⟨none, .alc [.int .i64 0, .nils (.int .i64 0), .nils (.int .i64 0), .nils (.int .i64 0), .nils (ints [])]⟩,
    ⟨none, .stn 5 (.t 2) (.t 1)⟩] [(9, 2)])
  (.seq (.ops [] [⟨none, .lda 5 (.v 8)⟩,
    ⟨none, .lda 5 (.v 9)⟩,
    ⟨none, .call 43 [(.t 0), (.t 1)]⟩,
    ⟨none, .mv (.t 2)⟩,
    ⟨none, .ext 0 (.t 3)⟩,
    ⟨none, .ext 1 (.t 3)⟩,
    ⟨none, .asg 10 (.t 4)⟩,
    ⟨none, .asg 11 (.t 5)⟩] [])
  (.seq (.opc [] [⟨none, .mv (.v 10)⟩,
    ⟨none, .mv (.v 6)⟩,
    ⟨none, .call 44 [(.t 0), (.t 1)]⟩,
    ⟨none, .not (.t 2)⟩,
    ⟨none, .mv (.t 3)⟩,
    ⟨some (4, false), .mv (.v 11)⟩,
    ⟨some (4, false), .mv (.v 7)⟩,
    ⟨some (4, false), .bin .neq (.t 5) (.t 6)⟩,
    ⟨none, .pick (.t 4) (.k (.bool true)) (.t 7)⟩] [] (.t 8) (.seq (.ops [] [⟨none, .asg 2 (.k (.bool false))⟩] [])
  .ret)
  .skip)
  (.seq (.opc [] [⟨none, .lda 5 (.v 8)⟩,
    ⟨none, .lda 5 (.v 3)⟩,
    ⟨none, .call 18 [(.t 1)]⟩,
    ⟨none, .call 20 [(.t 0), (.t 2)]⟩,
    ⟨none, .not (.t 3)⟩] [] (.t 4) (.seq (.ops [] [⟨none, .asg 2 (.k (.bool false))⟩] [])
  .ret)
  .skip)
  (.seq (.opc [] [⟨none, .lda 5 (.v 9)⟩,
    ⟨none, .lda 5 (.v 4)⟩,
    ⟨none, .call 18 [(.t 1)]⟩,
    ⟨none, .call 20 [(.t 0), (.t 2)]⟩,
    ⟨none, .not (.t 3)⟩] [] (.t 4) (.seq (.ops [] [⟨none, .asg 2 (.k (.bool false))⟩] [])
  .ret)
  .skip)
  (.seq (.ops [] [⟨none, .asg 12 (.i 1)⟩] [])
  (.seq (.ops [] [⟨none, .lda 5 (.v 8)⟩,
    ⟨none, .mv (.v 12)⟩,
    ⟨none, .calle 24 [(.t 0), (.t 1)]⟩,
    ⟨none, .asg 12 (.t 2)⟩] [])
  (.seq (.ops [] [⟨none, .lda 5 (.v 9)⟩,
    ⟨none, .mv (.v 12)⟩,
    ⟨none, .calle 24 [(.t 0), (.t 1)]⟩,
    ⟨none, .asg 12 (.t 2)⟩] [])
  (.seq (.opc [] [⟨none, .mv (.v 12)⟩,
    ⟨none, .bin .lss (.t 0) (.i 0)⟩,
    ⟨none, .mv (.t 1)⟩,
    ⟨some (2, false), .mv (.v 10)⟩,
    ⟨some (2, false), .mv (.v 6)⟩,
    ⟨some (2, false), .call 44 [(.t 3), (.t 4)]⟩,
    ⟨some (2, false), .not (.t 5)⟩,
    ⟨none, .pick (.t 2) (.k (.bool true)) (.t 6)⟩,
    ⟨none, .mv (.t 7)⟩,
    ⟨some (8, false), .mv (.v 11)⟩,
    ⟨some (8, false), .mv (.v 7)⟩,
    ⟨some (8, false), .bin .neq (.t 9) (.t 10)⟩,
    ⟨none, .pick (.t 8) (.k (.bool true)) (.t 11)⟩] [] (.t 12) (.seq (.ops [] [⟨none, .asg 2 (.k (.bool false))⟩] [])
  .ret)
  .skip)
  (.seq (.ops [] [⟨none, .asg 13 (.i 1)⟩] [])
  (.seq (.ops [] [⟨none, .mv (.v 10)⟩,
    ⟨none, .mv (.v 13)⟩,
    ⟨none, .calle 45 [(.t 0), (.t 1)]⟩,
    ⟨none, .asg 13 (.t 2)⟩] [])
  (.seq (.ops [] [⟨none, .asg 14 (.i 1)⟩] [])
  (.seq (.ops [] [⟨none, .mv (.v 10)⟩,
    ⟨none, .mv (.v 14)⟩,
    ⟨none, .call 46 [(.t 0), (.t 1)]⟩,
    ⟨none, .asg 14 (.t 2)⟩] [])
  (.seq (.opc [] [⟨none, .mv (.v 14)⟩,
    ⟨none, .bin .lss (.t 0) (.i 0)⟩] [] (.t 1) (.seq (.ops [] [⟨none, .asg 2 (.k (.bool false))⟩] [])
  .ret)
  .skip)
  (.seq (.opc [] [⟨none, .mv (.v 14)⟩,
    ⟨none, .mv (.v 13)⟩,
    ⟨none, .bin .neq (.t 0) (.t 1)⟩] [] (.t 2) (.seq (.ops [] [⟨none, .asg 2 (.k (.bool false))⟩] [])
  .ret)
  .skip)
  (.seq (.ops [15] [⟨none, .lda 5 (.v 3)⟩,
    ⟨none, .call 18 [(.t 0)]⟩,
    ⟨none, .lda 5 (.v 4)⟩,
    ⟨none, .call 18 [(.t 2)]⟩,
    ⟨none, .call 43 [(.t 1), (.t 3)]⟩,
    ⟨none, .mv (.t 4)⟩,
    ⟨none, .ext 0 (.t 5)⟩,
    ⟨none, .ext 1 (.t 5)⟩,
    ⟨none, .mv (.t 6)⟩,
    ⟨none, .asg 16 (.t 7)⟩] [(15, 8)])
  (.seq (.opc [] [⟨none, .mv (.v 15)⟩,
    ⟨none, .mv (.v 6)⟩,
    ⟨none, .call 44 [(.t 0), (.t 1)]⟩,
    ⟨none, .not (.t 2)⟩,
    ⟨none, .mv (.t 3)⟩,
    ⟨some (4, false), .mv (.v 16)⟩,
    ⟨some (4, false), .mv (.v 7)⟩,
    ⟨some (4, false), .bin .neq (.t 5) (.t 6)⟩,
    ⟨none, .pick (.t 4) (.k (.bool true)) (.t 7)⟩] [] (.t 8) (.seq (.ops [] [⟨none, .asg 2 (.k (.bool false))⟩] [])
  .ret)
  .skip)
  (.seq (.ops [] [⟨none, .asg 14 (.i 1)⟩] [])
  (.seq (.ops [] [⟨none, .mv (.v 10)⟩,
    ⟨none, .mv (.v 14)⟩,
    ⟨none, .call 46 [(.t 0), (.t 1)]⟩,
    ⟨none, .asg 14 (.t 2)⟩] [])
  (.seq (.opc [] [⟨none, .mv (.v 14)⟩,
    ⟨none, .bin .lss (.t 0) (.i 0)⟩] [] (.t 1) (.seq (.ops [] [⟨none, .asg 2 (.k (.bool false))⟩] [])
  .ret)
  .skip)
  (.seq (.opc [] [⟨none, .mv (.v 14)⟩,
    ⟨none, .mv (.v 13)⟩,
    ⟨none, .bin .neq (.t 0) (.t 1)⟩] [] (.t 2) (.seq (.ops [] [⟨none, .asg 2 (.k (.bool false))⟩] [])
  .ret)
  .skip)
  (.seq (.ops [] [⟨none, .asg 2 (.k (.bool true))⟩] [])
  .ret))))))))))))))))))))))))))))))
def tr_laws_FnExactAllFunctors : List Nat := [0, 1, 4, 2, 3, 5, 6, 7, 8, 9, 10, 11, 12, 13, 14, 15, 16]
def rs_laws_FnExactAllFunctors : List RS := [.t 2]
theorem ok_laws_FnExactAllFunctors : fnOk Go.Proofs.Try.prog Go.Proofs.Try.f9 tr_laws_FnExactAllFunctors c_laws_FnExactAllFunctors 2 rs_laws_FnExactAllFunctors = true := by decide +kernel

theorem ret_laws_FnExactAllFunctors (c d : Cat) : Ret Go.Proofs.Try.prog 9 [.v (Cat.d c), .v (Cat.d d)] (.bool true) := by
  obtain ⟨L, hL⟩ := allL c d
  refine ret_fn Go.Proofs.Try.func9 ok_laws_FnExactAllFunctors rfl (show 2 < 500 by decide) rfl ?_; unfold c_laws_FnExactAllFunctors tr_laws_FnExactAllFunctors rs_laws_FnExactAllFunctors; simp only [go_sem, Nat.reduceLT, Nat.reduceAdd, Nat.reduceSub, Nat.reduceLeDiff, ↓reduceIte]
  refine call_of (ret_laws_szCategory c _ (by decide) (by decide)) rfl (.inl rfl) ?_
  simp only [go_sem, Nat.reduceLT, Nat.reduceAdd, Nat.reduceSub, Nat.reduceLeDiff, ↓reduceIte]
  refine fun h0 => ?_
  obtain ⟨hs_c, hl0, hh0⟩ := sb_ok (left := 1048576) (n := Cat.cost c) (by decide) (by decide) (by omega)
  refine call_of (ret_laws_szCategory d _ hl0 hh0) rfl (.inl rfl) ?_
  simp only [go_sem, Nat.reduceLT, Nat.reduceAdd, Nat.reduceSub, Nat.reduceLeDiff, ↓reduceIte]
  refine fun h1 => ?_
  obtain ⟨hs_d, hl1, hh1⟩ := sb_ok (n := Cat.cost d) hl0 hh0 (by omega)
  have hA1 := mcost_le c
  have hA2 := mcost_le d
  have hR := allF_cost c d L hs_c hs_d hL
  have hsp := ret_spec_AllFunctors c d hs_c hs_d L hL
  have him := ret_impl_AllFunctors c d hs_c hs_d L hL
  generalize allF c d L = R at hR hsp him
  refine call_of (ret_laws_toCategory c hs_c) rfl (.inl (nv_Cat _)) ?_
  simp only [go_sem, Nat.reduceLT, Nat.reduceAdd, Nat.reduceSub, Nat.reduceLeDiff, ↓reduceIte]
  refine call_of (ret_laws_toCategory d hs_d) rfl (.inl (nv_Cat _)) ?_
  simp only [go_sem, Nat.reduceLT, Nat.reduceAdd, Nat.reduceSub, ↓reduceIte]
  refine call_of (hsp) rfl (.inl (by simp only [D.novw, novwL, nv_lst nv_Ftr, Bool.and_true])) ?_
  simp only [go_sem, Nat.reduceLT, Nat.reduceAdd, Nat.reduceSub, Nat.reduceBEq, Nat.reduceLeDiff, ↓reduceIte]
  refine call_of (ret_laws_toCategory c hs_c) rfl (.inl (nv_Cat _)) ?_
  simp only [go_sem, Nat.reduceLT, Nat.reduceAdd, Nat.reduceSub, Nat.reduceEqDiff, Nat.reduceLeDiff, ↓reduceIte]
  refine call_of (ret_laws_toCategory d hs_d) rfl (.inl (nv_Cat _)) ?_
  simp only [go_sem, Nat.reduceLT, Nat.reduceAdd, Nat.reduceSub, Nat.reduceEqDiff, ↓reduceIte]
  refine call_of (him) rfl (.inl (by simp only [D.novw, novwL, nv_lst nv_Ftr, Bool.and_true])) ?_
  simp only [go_sem, Nat.reduceLT, Nat.reduceAdd, Nat.reduceSub, Nat.reduceBEq, Nat.reduceLeDiff, ↓reduceIte]
  refine call_of (ret_laws_eqFunctorS R.1) rfl (.inl rfl) ?_
  simp only [go_sem, Nat.reduceLT, Nat.reduceAdd, Nat.reduceSub, Nat.reduceLeDiff, ↓reduceIte]
  refine ⟨fun hh => by simp at hh, fun _ => ?_⟩
  refine call_of (ret_laws_toCategory c hs_c) rfl (.inl (nv_Cat _)) ?_
  simp only [go_sem, Nat.reduceLT, Nat.reduceAdd, Nat.reduceSub, ↓reduceIte]
  refine call_of (ret_laws_eqCategory c) rfl (.inl rfl) ?_
  simp only [go_sem, Nat.reduceLT, Nat.reduceAdd, Nat.reduceSub, Nat.reduceLeDiff, ↓reduceIte]
  refine call_of (ret_laws_toCategory d hs_d) rfl (.inl (nv_Cat _)) ?_
  simp only [go_sem, Nat.reduceLT, Nat.reduceAdd, Nat.reduceSub, ↓reduceIte]
  refine call_of (ret_laws_eqCategory d) rfl (.inl rfl) ?_
  simp only [go_sem, Nat.reduceLT, Nat.reduceAdd, Nat.reduceSub, Nat.reduceLeDiff, ↓reduceIte]
  refine io_aggH (ret_laws_markCategory c 1 (by omega) (by omega)) trivial ?_
  simp only [go_sem, Nat.reduceLT, Nat.reduceEqDiff, Nat.reduceBEq, ↓reduceIte]
  refine ⟨(c.marks 1).cells, rfl, fill_of ?_⟩
  simp only [go_sem, Nat.reduceLT, Nat.reduceAdd, Nat.reduceSub, Nat.reduceBEq, ↓reduceIte]
  refine io_aggH (ret_laws_markCategory d (1 + c.mcost) (by omega) (by omega)) trivial ?_
  simp only [go_sem, Nat.reduceLT, Nat.reduceEqDiff, Nat.reduceBEq, ↓reduceIte]
  refine ⟨(d.marks (1 + c.mcost)).cells, rfl, fill_of ?_⟩
  simp only [go_sem, Nat.reduceLT, Nat.reduceAdd, Nat.reduceSub, Nat.reduceBEq, ↓reduceIte]
  have hk : ∀ z : Int, 0 ≤ z → decide (z < 0) = false := fun z hz => decide_eq_false (by omega)
  simp only [hk _ (show 0 ≤ (1 : Int) + c.mcost + d.mcost by omega), Bool.not_false]
  refine callg_of (fun _ => ret_laws_eqFunctorS R.1) rfl (fun _ => rfl) (.inl rfl) ?_
  simp only [go_sem, Nat.reduceLT, Nat.reduceAdd, Nat.reduceSub, ↓reduceIte]
  refine ⟨fun hh => by simp at hh, fun _ => ?_⟩
  refine io_tree (ret_laws_markFunctorS R.1 1 (by omega) (by omega)) rfl trivial rfl ?_
  simp only [go_sem, Nat.reduceLT, Nat.reduceAdd, Nat.reduceSub, Nat.reduceBEq, Nat.reduceLeDiff, ↓reduceIte]
  refine call_of (ret_laws_heldFunctorS R.1 1 (by omega) (by omega)) rfl (.inl rfl) ?_
  simp only [go_sem, Nat.reduceLT, Nat.reduceAdd, Nat.reduceSub, Nat.reduceBEq, Nat.reduceLeDiff, ↓reduceIte]
  refine ⟨fun hh => by omega, fun _ => ?_⟩
  refine ⟨fun hh => by simp at hh, fun _ => ?_⟩
  refine call_of (ret_laws_toCategory c hs_c) rfl (.inl (nv_Cat _)) ?_
  simp only [go_sem, Nat.reduceLT, Nat.reduceAdd, Nat.reduceSub, Nat.reduceLeDiff, ↓reduceIte]
  refine call_of (ret_laws_toCategory d hs_d) rfl (.inl (nv_Cat _)) ?_
  simp only [go_sem, Nat.reduceLT, Nat.reduceAdd, Nat.reduceSub, ↓reduceIte]
  refine call_of (him) rfl (.inl (by simp only [D.novw, novwL, nv_lst nv_Ftr, Bool.and_true])) ?_
  simp only [go_sem, Nat.reduceLT, Nat.reduceAdd, Nat.reduceSub, Nat.reduceBEq, Nat.reduceLeDiff, ↓reduceIte]
  refine call_of (ret_laws_eqFunctorS R.1) rfl (.inl rfl) ?_
  simp only [go_sem, Nat.reduceLT, Nat.reduceAdd, Nat.reduceSub, Nat.reduceLeDiff, ↓reduceIte]
  refine ⟨fun hh => by simp at hh, fun _ => ?_⟩
  refine call_of (ret_laws_heldFunctorS R.1 1 (by omega) (by omega)) rfl (.inl rfl) ?_
  simp only [go_sem, Nat.reduceLT, Nat.reduceAdd, Nat.reduceSub, Nat.reduceBEq, Nat.reduceLeDiff, ↓reduceIte]
  refine ⟨fun hh => by omega, fun _ => ?_⟩
  simp
end Go.D3
