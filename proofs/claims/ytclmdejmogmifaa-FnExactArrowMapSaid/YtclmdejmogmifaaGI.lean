/- PLAIN LAWS: what a set functor is. -/
import Derived.Test.YtclmdejmogmifaaGA
import Derived.Test.YtclmdejmogmifaaKit
/- CONTRACTS: marks on memory, and whether they are held. -/
namespace Go.D3
open Go
set_option maxRecDepth 100000

/-- The first 'i' of 'a' marked. -/
def mkp (k : Int) (a : List Int) (i : Nat) : List Int := ((List.range i).map fun j : Nat => k + j) ++ a.drop i
/-- 'n' marks. -/
def mks (k : Int) (n : Nat) : List Int := (List.range n).map fun j : Nat => k + j
theorem mkp_zero {k : Int} {a : List Int} : mkp k a 0 = a := by simp [mkp]
theorem mkp_len {k : Int} {a : List Int} {i : Nat} (h : i ≤ a.length) : (mkp k a i).length = a.length := by simp [mkp]; omega
theorem mkp_set {k : Int} {a : List Int} {i : Nat} (h : i < a.length) : (mkp k a i).set i (k + i) = mkp k a (i + 1) := by
  unfold mkp
  rw [List.set_append_right _ _ (by simp), List.range_succ, List.map_append]
  simp only [List.length_map, List.length_range, Nat.sub_self, List.map_cons, List.map_nil, List.append_assoc]
  congr 1
  rw [List.drop_eq_getElem_cons h]
  rfl
theorem mkp_end {k : Int} {a : List Int} {i : Nat} (h : ¬ i < a.length) (hi : i ≤ a.length) : mkp k a i = mks k a.length := by
  have : i = a.length := by omega
  subst this
  simp [mkp, mks]

-- laws.markInt64S
def c_laws_markInt64S : C :=
  (.seq (.ops [] [⟨none, .asg 2 (.i 0)⟩] [])
  (.seq (.seq (.ops [] [⟨none, .asg 3 (.i 0)⟩] [])
  (.block 0 (.loop (.seq (.opc [] [⟨none, .mv (.v 3)⟩,
    ⟨none, .mv (.v 0)⟩,
    ⟨none, .len (.t 1)⟩,
    ⟨none, .bin .lss (.t 0) (.t 2)⟩] [] (.t 3) .skip
  (.exit 0))
  (.seq (.block 1 (.seq (.ops [] [⟨none, .mv (.v 0)⟩,
    ⟨none, .mv (.v 3)⟩,
    ⟨none, .mv (.v 1)⟩,
    ⟨none, .idxA 1 (.t 0) (.t 1)⟩,
    ⟨none, .st (.t 3) (.t 2)⟩] [])
  (.ops [] [⟨none, .mv (.v 1)⟩,
    ⟨none, .bin .add (.t 0) (.i 1)⟩,
    ⟨none, .asg 1 (.t 1)⟩] [])))
  (.ops [] [⟨none, .mv (.v 3)⟩,
    ⟨none, .bin .add (.t 0) (.i 1)⟩,
    ⟨none, .asg 3 (.t 1)⟩] []))))))
  (.seq (.ops [] [⟨none, .mv (.v 1)⟩,
    ⟨none, .asg 2 (.t 0)⟩] [])
  .ret)))
def tr_laws_markInt64S : List Nat := [0, 1, 4, 5]
def rs_laws_markInt64S : List RS := [.t 2]
theorem ok_laws_markInt64S : fnOk Go.Proofs.Try.prog Go.Proofs.Try.f64 tr_laws_markInt64S c_laws_markInt64S 2 rs_laws_markInt64S = true := by decide +kernel

theorem ret_laws_markInt64S (a : List Int) (k : Int) (h0 : 0 ≤ k) (h1 : k + a.length ≤ 4611686018427387900) : Ret Go.Proofs.Try.prog 64 [.io (.o (ints a)) (.o (ints (mks k a.length))), .v (.int .i64 k)] (.int .i64 (k + a.length)) := by
  refine ret_wf fun hw => ?_
  simp only [argsWf, wfd_lst] at hw
  have hm : a.length ≤ maxLen := hw.1.1
  refine ret_fn Go.Proofs.Try.func64 ok_laws_markInt64S rfl (show 2 < 500 by decide) rfl ?_; unfold c_laws_markInt64S tr_laws_markInt64S rs_laws_markInt64S; simp only [go_sem, Nat.reduceLT, Nat.reduceAdd, Nat.reduceBEq, Nat.reduceLeDiff, ↓reduceIte]
  refine loop_set [] (fun (i : Nat) => [(1, .int .i64 (k + i)), (3, .int .i64 i), (4, .o (ints (mkp k a i)))]) (fun i => i ≤ a.length) (fun i => a.length - i) 0 (by simp only [go_sem]; rfl) (Nat.zero_le _) ?_ ?_
  · simp only [go_sem, mkp_zero]; simp
  rintro i hi
  simp only [go_sem, Nat.reduceLT, Nat.reduceAdd, Nat.reduceSub, Nat.reduceBEq, Nat.reduceLeDiff, ↓reduceIte]
  rw [mkp_len hi]
  refine ⟨fun h => ⟨h, h, i + 1, by omega, by omega, ?_⟩, fun h => ⟨by rw [show i = a.length by omega], by rw [mkp_end h hi]⟩⟩
  rw [mkp_set h, wrap_lt h hm, wrap_small (by omega) (by omega)]
  simp only [Int.natCast_add, Int.natCast_one, Int.add_assoc]

/-- The first 'i' of 'a' marked. -/
def cost2 (a : List (List Int)) : Nat → Nat
  | 0 => 0
  | i + 1 => cost2 a i + (a.getD i []).length
def mkpp (k : Int) (a : List (List Int)) (i : Nat) : List (List Int) := ((List.range i).map fun j => mks (k + cost2 a j) (a.getD j []).length) ++ a.drop i
def mkss (k : Int) (a : List (List Int)) : List (List Int) := (List.range a.length).map fun j => mks (k + cost2 a j) (a.getD j []).length
theorem mkpp_zero {k : Int} {a : List (List Int)} : mkpp k a 0 = a := by simp [mkpp]
theorem mkpp_len {k : Int} {a : List (List Int)} {i : Nat} (h : i ≤ a.length) : (mkpp k a i).length = a.length := by simp [mkpp]; omega
theorem mkpp_get {k : Int} {a : List (List Int)} {i : Nat} (_ : i < a.length) : (mkpp k a i).getD i [] = a.getD i [] := by
  unfold mkpp
  rw [List.getD_eq_getElem?_getD, List.getElem?_append_right (by simp), List.length_map, List.length_range, Nat.sub_self, List.getElem?_drop, Nat.add_zero, ← List.getD_eq_getElem?_getD]
theorem mkpp_set {k : Int} {a : List (List Int)} {i : Nat} (h : i < a.length) : (mkpp k a i).set i (mks (k + cost2 a i) (a.getD i []).length) = mkpp k a (i + 1) := by
  unfold mkpp
  rw [List.set_append_right _ _ (by simp), List.range_succ, List.map_append]
  simp only [List.length_map, List.length_range, Nat.sub_self, List.map_cons, List.map_nil, List.append_assoc]
  congr 1
  rw [List.drop_eq_getElem_cons h]
  rfl
theorem mkpp_end {k : Int} {a : List (List Int)} {i : Nat} (h : ¬ i < a.length) (hi : i ≤ a.length) : mkpp k a i = mkss k a := by
  have : i = a.length := by omega
  subst this
  simp [mkpp, mkss]
theorem cost2_mono {a : List (List Int)} {i j : Nat} (h : i ≤ j) : cost2 a i ≤ cost2 a j := by
  induction h with
  | refl => exact Nat.le_refl _
  | step _ ih => exact Nat.le_trans ih (Nat.le_add_right _ _)

theorem set_hole {L : List D} {i : Nat} {z y : D} (hz : z.isAgg = false) : (L.set i .dead).set i (setc ((L.set i .dead).getD i z) 0 y) = L.set i y := by
  have : setc ((L.set i .dead).getD i z) 0 y = y := by
    rw [List.getD_eq_getElem?_getD]
    by_cases h : i < L.length
    · rw [List.getElem?_set_self h]; rfl
    · rw [List.getElem?_eq_none (by simpa using h)]
      simp only [Option.getD_none]
      cases z <;> first | rfl | cases hz
  rw [this, List.set_set]

-- laws.markInt64SS
def c_laws_markInt64SS : C :=
  (.seq (.ops [] [⟨none, .asg 2 (.i 0)⟩] [])
  (.seq (.seq (.ops [] [⟨none, .asg 3 (.i 0)⟩] [])
  (.block 0 (.loop (.seq (.opc [] [⟨none, .mv (.v 3)⟩,
    ⟨none, .mv (.v 0)⟩,
    ⟨none, .len (.t 1)⟩,
    ⟨none, .bin .lss (.t 0) (.t 2)⟩] [] (.t 3) .skip
  (.exit 0))
  (.seq (.block 1 (.ops [] [⟨none, .mv (.v 0)⟩,
    ⟨none, .mv (.v 3)⟩,
    ⟨none, .idxA 1 (.t 0) (.t 1)⟩,
    ⟨none, .ld (.t 2)⟩,
    ⟨none, .mv (.v 1)⟩,
    ⟨none, .calle 64 [(.t 3), (.t 4)]⟩,
    ⟨none, .asg 1 (.t 5)⟩] []))
  (.ops [] [⟨none, .mv (.v 3)⟩,
    ⟨none, .bin .add (.t 0) (.i 1)⟩,
    ⟨none, .asg 3 (.t 1)⟩] []))))))
  (.seq (.ops [] [⟨none, .mv (.v 1)⟩,
    ⟨none, .asg 2 (.t 0)⟩] [])
  .ret)))
def tr_laws_markInt64SS : List Nat := [0, 1, 4, 5]
def rs_laws_markInt64SS : List RS := [.t 2]
theorem ok_laws_markInt64SS : fnOk Go.Proofs.Try.prog Go.Proofs.Try.f40 tr_laws_markInt64SS c_laws_markInt64SS 2 rs_laws_markInt64SS = true := by decide +kernel

theorem ret_laws_markInt64SS (a : List (List Int)) (k : Int) (h0 : 0 ≤ k) (h1 : k + cost2 a a.length ≤ 4611686018427387900) : Ret Go.Proofs.Try.prog 40 [.io (.o (intss a)) (.o (intss (mkss k a))), .v (.int .i64 k)] (.int .i64 (k + cost2 a a.length)) := by
  refine ret_wf fun hw => ?_
  simp only [argsWf, wfd_lst] at hw
  have hm : a.length ≤ maxLen := hw.1.1
  refine ret_fn Go.Proofs.Try.func40 ok_laws_markInt64SS rfl (show 2 < 500 by decide) rfl ?_; unfold c_laws_markInt64SS tr_laws_markInt64SS rs_laws_markInt64SS; simp only [go_sem, Nat.reduceLT, Nat.reduceAdd, Nat.reduceBEq, Nat.reduceLeDiff, ↓reduceIte]
  refine loop_set [] (fun (i : Nat) => [(1, .int .i64 (k + cost2 a i)), (3, .int .i64 i), (4, .o (intss (mkpp k a i)))]) (fun i => i ≤ a.length) (fun i => a.length - i) 0 (by simp only [go_sem]; rfl) (Nat.zero_le _) ?_ ?_
  · simp only [go_sem, mkpp_zero, cost2]; simp
  rintro i hi
  simp only [go_sem, Nat.reduceLT, Nat.reduceAdd, Nat.reduceSub, Nat.reduceBEq, Nat.reduceLeDiff, ↓reduceIte]
  rw [mkpp_len hi]
  refine ⟨fun h => ⟨h, ?_⟩, fun h => ⟨by rw [show i = a.length by omega], by rw [mkpp_end h hi]⟩⟩
  have hc : cost2 a (i + 1) ≤ cost2 a a.length := cost2_mono h
  simp only [cost2] at hc
  refine io_part (ret_laws_markInt64S (a.getD i []) (k + cost2 a i) (by omega) (by omega)) (by trivial) ?_
  simp only [go_sem, Nat.reduceLT, Nat.reduceAdd, Nat.reduceSub, Nat.reduceBEq, Nat.reduceLeDiff, ↓reduceIte]
  refine ⟨_, ints (mks (k + cost2 a i) (a.getD i []).length), rfl, ?_, rfl, i + 1, by omega, by omega, ?_⟩
  · rw [mkpp_get h]
  · rw [set_hole rfl, lst_fold, mkpp_set h, wrap_lt h hm]
    simp only [cost2, Int.natCast_add, Int.add_assoc]

def Cat.marks (k : Int) (a : Cat) : Cat := { a with fr := mks k a.fr.length, to := mks (k + a.fr.length) a.to.length, idn := mks (k + a.fr.length + a.to.length) a.idn.length, co := mkss (k + a.fr.length + a.to.length + a.idn.length) a.co }
def Cat.mcost (a : Cat) : Nat := a.fr.length + a.to.length + a.idn.length + cost2 a.co a.co.length

-- laws.markCategory
def c_laws_markCategory : C :=
  (.seq (.ops [3] [⟨none, .box 5 (.v 0)⟩,
    ⟨none, .asg 2 (.i 0)⟩] [(3, 0)])
  (.seq (.ops [] [⟨none, .fA 1 (.v 3)⟩,
    ⟨none, .ld (.t 0)⟩,
    ⟨none, .mv (.v 1)⟩,
    ⟨none, .calle 64 [(.t 1), (.t 2)]⟩,
    ⟨none, .asg 1 (.t 3)⟩] [])
  (.seq (.ops [] [⟨none, .fA 2 (.v 3)⟩,
    ⟨none, .ld (.t 0)⟩,
    ⟨none, .mv (.v 1)⟩,
    ⟨none, .calle 64 [(.t 1), (.t 2)]⟩,
    ⟨none, .asg 1 (.t 3)⟩] [])
  (.seq (.ops [] [⟨none, .fA 3 (.v 3)⟩,
    ⟨none, .ld (.t 0)⟩,
    ⟨none, .mv (.v 1)⟩,
    ⟨none, .calle 64 [(.t 1), (.t 2)]⟩,
    ⟨none, .asg 1 (.t 3)⟩] [])
  (.seq (.ops [] [⟨none, .fA 4 (.v 3)⟩,
    ⟨none, .ld (.t 0)⟩,
    ⟨none, .mv (.v 1)⟩,
    ⟨none, .calle 40 [(.t 1), (.t 2)]⟩,
    ⟨none, .asg 1 (.t 3)⟩] [])
  (.seq (.ops [] [⟨none, .mv (.v 1)⟩,
    ⟨none, .asg 2 (.t 0)⟩] [])
  .ret))))))
def tr_laws_markCategory : List Nat := [0, 1, 4, 2]
def rs_laws_markCategory : List RS := [.t 2]
theorem ok_laws_markCategory : fnOk Go.Proofs.Try.prog Go.Proofs.Try.f24 tr_laws_markCategory c_laws_markCategory 2 rs_laws_markCategory = true := by decide +kernel

theorem ret_laws_markCategory (a : Cat) (k : Int) (h0 : 0 ≤ k) (h1 : k + a.mcost ≤ 4611686018427387900) : Ret Go.Proofs.Try.prog 24 [.io (.o (Cat.d a)) (.o (Cat.d (a.marks k))), .v (.int .i64 k)] (.int .i64 (k + a.mcost)) := by
  unfold Cat.mcost at h1 ⊢
  refine ret_fn Go.Proofs.Try.func24 ok_laws_markCategory rfl (show 2 < 500 by decide) rfl ?_; unfold c_laws_markCategory tr_laws_markCategory rs_laws_markCategory; simp only [go_sem, Nat.reduceLT, Nat.reduceAdd, Nat.reduceSub, Nat.reduceBEq, Nat.reduceLeDiff, ↓reduceIte]
  refine io_part (ret_laws_markInt64S a.fr k h0 (by omega)) trivial ?_
  simp only [go_sem, Nat.reduceLT, Nat.reduceAdd, Nat.reduceSub, Nat.reduceBEq, Nat.reduceLeDiff, ↓reduceIte]
  refine ⟨_, ints (mks k a.fr.length), rfl, rfl, rfl, ?_⟩
  refine io_part (ret_laws_markInt64S a.to (k + a.fr.length) (by omega) (by omega)) trivial ?_
  simp only [go_sem, Nat.reduceLT, Nat.reduceAdd, Nat.reduceSub, Nat.reduceBEq, Nat.reduceLeDiff, ↓reduceIte]
  refine ⟨_, ints (mks (k + a.fr.length) a.to.length), rfl, rfl, rfl, ?_⟩
  refine io_part (ret_laws_markInt64S a.idn (k + a.fr.length + a.to.length) (by omega) (by omega)) trivial ?_
  simp only [go_sem, Nat.reduceLT, Nat.reduceAdd, Nat.reduceSub, Nat.reduceBEq, Nat.reduceLeDiff, ↓reduceIte]
  refine ⟨_, ints (mks (k + a.fr.length + a.to.length) a.idn.length), rfl, rfl, rfl, ?_⟩
  refine io_part (ret_laws_markInt64SS a.co (k + a.fr.length + a.to.length + a.idn.length) (by omega) (by omega)) trivial ?_
  simp only [go_sem, Nat.reduceLT, Nat.reduceAdd, Nat.reduceSub, Nat.reduceBEq, Nat.reduceLeDiff, ↓reduceIte]
  refine ⟨_, intss (mkss (k + a.fr.length + a.to.length + a.idn.length) a.co), rfl, rfl, rfl, ?_⟩
  exact ⟨by simp only [Int.natCast_add, Int.add_assoc], rfl⟩
end Go.D3

/- CONTRACTS: marks are held. -/
namespace Go.D3
open Go
set_option maxRecDepth 100000

theorem mks_len {k : Int} {n : Nat} : (mks k n).length = n := by simp [mks]
theorem mks_get {k : Int} {n i : Nat} (h : i < n) : (mks k n).getD i 0 = k + i := by
  unfold mks
  rw [List.getD_eq_getElem?_getD, List.getElem?_map, List.getElem?_range h]; rfl

-- laws.heldInt64S
def c_laws_heldInt64S : C :=
  (.seq (.ops [] [⟨none, .asg 2 (.i 0)⟩] [])
  (.seq (.seq (.ops [] [⟨none, .asg 3 (.i 0)⟩] [])
  (.block 0 (.loop (.seq (.opc [] [⟨none, .mv (.v 3)⟩,
    ⟨none, .mv (.v 0)⟩,
    ⟨none, .len (.t 1)⟩,
    ⟨none, .bin .lss (.t 0) (.t 2)⟩] [] (.t 3) .skip
  (.exit 0))
  (.seq (.block 1 (.seq (.opc [] [⟨none, .mv (.v 0)⟩,
    ⟨none, .mv (.v 3)⟩,
    ⟨none, .idxA 1 (.t 0) (.t 1)⟩,
    ⟨none, .ld (.t 2)⟩,
    ⟨none, .mv (.v 1)⟩,
    ⟨none, .bin .neq (.t 3) (.t 4)⟩] [] (.t 5) (.seq (.ops [] [⟨none, .asg 2 (.i (-1))⟩] [])
  .ret)
  .skip)
  (.ops [] [⟨none, .mv (.v 1)⟩,
    ⟨none, .bin .add (.t 0) (.i 1)⟩,
    ⟨none, .asg 1 (.t 1)⟩] [])))
  (.ops [] [⟨none, .mv (.v 3)⟩,
    ⟨none, .bin .add (.t 0) (.i 1)⟩,
    ⟨none, .asg 3 (.t 1)⟩] []))))))
  (.seq (.ops [] [⟨none, .mv (.v 1)⟩,
    ⟨none, .asg 2 (.t 0)⟩] [])
  .ret)))
def tr_laws_heldInt64S : List Nat := [0, 1, 4, 5]
def rs_laws_heldInt64S : List RS := [.t 2]
theorem ok_laws_heldInt64S : fnOk Go.Proofs.Try.prog Go.Proofs.Try.f65 tr_laws_heldInt64S c_laws_heldInt64S 2 rs_laws_heldInt64S = true := by decide +kernel

theorem ret_laws_heldInt64S (n : Nat) (k : Int) (h0 : 0 ≤ k) (h1 : k + n ≤ 4611686018427387900) : Ret Go.Proofs.Try.prog 65 [.v (ints (mks k n)), .v (.int .i64 k)] (.int .i64 (k + n)) := by
  refine ret_wf fun hw => ?_
  simp only [argsWf, wfd_lst, mks_len] at hw
  have hm : n ≤ maxLen := hw.1.1
  refine ret_fn Go.Proofs.Try.func65 ok_laws_heldInt64S rfl (show 2 < 500 by decide) rfl ?_; unfold c_laws_heldInt64S tr_laws_heldInt64S rs_laws_heldInt64S; simp only [go_sem, Nat.reduceLT, Nat.reduceAdd, ↓reduceIte]
  refine loop_set [] (fun (i : Nat) => [(1, .int .i64 (k + i)), (3, .int .i64 i)]) (fun i => i ≤ n) (fun i => n - i) 0 (by simp only [go_sem]; rfl) (Nat.zero_le _) ?_ ?_
  · simp only [go_sem]; simp
  rintro i hi
  simp only [go_sem, Nat.reduceLT, Nat.reduceAdd, Nat.reduceSub, ↓reduceIte]
  simp only [mks_len]
  refine ⟨fun h => ⟨h, ?_⟩, fun h => by rw [show i = n by omega]⟩
  rw [mks_get h]
  refine ⟨fun hh => by simp at hh, fun _ => ⟨i + 1, by omega, by omega, ?_⟩⟩
  rw [wrap_lt h hm, wrap_small (by omega) (by omega)]
  simp only [Int.natCast_add, Int.natCast_one, Int.add_assoc]

theorem mkss_len {k : Int} {a : List (List Int)} : (mkss k a).length = a.length := by simp [mkss]
theorem mkss_get {k : Int} {a : List (List Int)} {i : Nat} (h : i < a.length) : (mkss k a).getD i [] = mks (k + cost2 a i) (a.getD i []).length := by
  unfold mkss
  rw [List.getD_eq_getElem?_getD, List.getElem?_map, List.getElem?_range h]; rfl

-- laws.heldInt64SS
def c_laws_heldInt64SS : C :=
  (.seq (.ops [] [⟨none, .asg 2 (.i 0)⟩] [])
  (.seq (.seq (.ops [] [⟨none, .asg 3 (.i 0)⟩] [])
  (.block 0 (.loop (.seq (.opc [] [⟨none, .mv (.v 3)⟩,
    ⟨none, .mv (.v 0)⟩,
    ⟨none, .len (.t 1)⟩,
    ⟨none, .bin .lss (.t 0) (.t 2)⟩] [] (.t 3) .skip
  (.exit 0))
  (.seq (.block 1 (.seq (.ops [] [⟨none, .mv (.v 0)⟩,
    ⟨none, .mv (.v 3)⟩,
    ⟨none, .idxA 1 (.t 0) (.t 1)⟩,
    ⟨none, .ld (.t 2)⟩,
    ⟨none, .mv (.v 1)⟩,
    ⟨none, .call 65 [(.t 3), (.t 4)]⟩,
    ⟨none, .asg 1 (.t 5)⟩] [])
  (.opc [] [⟨none, .mv (.v 1)⟩,
    ⟨none, .bin .lss (.t 0) (.i 0)⟩] [] (.t 1) (.seq (.ops [] [⟨none, .asg 2 (.i (-1))⟩] [])
  .ret)
  .skip)))
  (.ops [] [⟨none, .mv (.v 3)⟩,
    ⟨none, .bin .add (.t 0) (.i 1)⟩,
    ⟨none, .asg 3 (.t 1)⟩] []))))))
  (.seq (.ops [] [⟨none, .mv (.v 1)⟩,
    ⟨none, .asg 2 (.t 0)⟩] [])
  .ret)))
def tr_laws_heldInt64SS : List Nat := [0, 1, 4, 5]
def rs_laws_heldInt64SS : List RS := [.t 2]
theorem ok_laws_heldInt64SS : fnOk Go.Proofs.Try.prog Go.Proofs.Try.f41 tr_laws_heldInt64SS c_laws_heldInt64SS 2 rs_laws_heldInt64SS = true := by decide +kernel

theorem ret_laws_heldInt64SS (a : List (List Int)) (k : Int) (h0 : 0 ≤ k) (h1 : k + cost2 a a.length ≤ 4611686018427387900) : Ret Go.Proofs.Try.prog 41 [.v (intss (mkss k a)), .v (.int .i64 k)] (.int .i64 (k + cost2 a a.length)) := by
  refine ret_wf fun hw => ?_
  simp only [argsWf, wfd_lst, mkss_len] at hw
  have hm : a.length ≤ maxLen := hw.1.1
  refine ret_fn Go.Proofs.Try.func41 ok_laws_heldInt64SS rfl (show 2 < 500 by decide) rfl ?_; unfold c_laws_heldInt64SS tr_laws_heldInt64SS rs_laws_heldInt64SS; simp only [go_sem, Nat.reduceLT, Nat.reduceAdd, ↓reduceIte]
  refine loop_set [] (fun (i : Nat) => [(1, .int .i64 (k + cost2 a i)), (3, .int .i64 i)]) (fun i => i ≤ a.length) (fun i => a.length - i) 0 (by simp only [go_sem]; rfl) (Nat.zero_le _) ?_ ?_
  · simp only [go_sem, cost2]; simp
  rintro i hi
  simp only [go_sem, Nat.reduceLT, Nat.reduceAdd, Nat.reduceSub, ↓reduceIte]
  simp only [mkss_len]
  refine ⟨fun h => ⟨h, ?_⟩, fun h => by rw [show i = a.length by omega]⟩
  rw [mkss_get h]
  have hc : cost2 a (i + 1) ≤ cost2 a a.length := cost2_mono h
  simp only [cost2] at hc
  refine call_of (ret_laws_heldInt64S (a.getD i []).length (k + cost2 a i) (by omega) (by omega)) rfl (.inl rfl) ?_
  simp only [go_sem, Nat.reduceLT, Nat.reduceAdd, Nat.reduceSub, ↓reduceIte]
  refine ⟨fun hh => by omega, fun _ => ⟨i + 1, by omega, by omega, ?_⟩⟩
  rw [wrap_lt h hm]
  simp only [cost2, Int.natCast_add, Int.add_assoc]

-- laws.heldCategory
def c_laws_heldCategory : C :=
  (.seq (.ops [3] [⟨none, .boxv 5 (.v 0)⟩,
    ⟨none, .asg 2 (.i 0)⟩] [(3, 0)])
  (.seq (.ops [] [⟨none, .fA 1 (.v 3)⟩,
    ⟨none, .ld (.t 0)⟩,
    ⟨none, .mv (.v 1)⟩,
    ⟨none, .call 65 [(.t 1), (.t 2)]⟩,
    ⟨none, .asg 1 (.t 3)⟩] [])
  (.seq (.opc [] [⟨none, .mv (.v 1)⟩,
    ⟨none, .bin .lss (.t 0) (.i 0)⟩] [] (.t 1) (.seq (.ops [] [⟨none, .asg 2 (.i (-1))⟩] [])
  .ret)
  .skip)
  (.seq (.ops [] [⟨none, .fA 2 (.v 3)⟩,
    ⟨none, .ld (.t 0)⟩,
    ⟨none, .mv (.v 1)⟩,
    ⟨none, .call 65 [(.t 1), (.t 2)]⟩,
    ⟨none, .asg 1 (.t 3)⟩] [])
  (.seq (.opc [] [⟨none, .mv (.v 1)⟩,
    ⟨none, .bin .lss (.t 0) (.i 0)⟩] [] (.t 1) (.seq (.ops [] [⟨none, .asg 2 (.i (-1))⟩] [])
  .ret)
  .skip)
  (.seq (.ops [] [⟨none, .fA 3 (.v 3)⟩,
    ⟨none, .ld (.t 0)⟩,
    ⟨none, .mv (.v 1)⟩,
    ⟨none, .call 65 [(.t 1), (.t 2)]⟩,
    ⟨none, .asg 1 (.t 3)⟩] [])
  (.seq (.opc [] [⟨none, .mv (.v 1)⟩,
    ⟨none, .bin .lss (.t 0) (.i 0)⟩] [] (.t 1) (.seq (.ops [] [⟨none, .asg 2 (.i (-1))⟩] [])
  .ret)
  .skip)
  (.seq (.ops [] [⟨none, .fA 4 (.v 3)⟩,
    ⟨none, .ld (.t 0)⟩,
    ⟨none, .mv (.v 1)⟩,
    ⟨none, .call 41 [(.t 1), (.t 2)]⟩,
    ⟨none, .asg 1 (.t 3)⟩] [])
  (.seq (.opc [] [⟨none, .mv (.v 1)⟩,
    ⟨none, .bin .lss (.t 0) (.i 0)⟩] [] (.t 1) (.seq (.ops [] [⟨none, .asg 2 (.i (-1))⟩] [])
  .ret)
  .skip)
  (.seq (.ops [] [⟨none, .mv (.v 1)⟩,
    ⟨none, .asg 2 (.t 0)⟩] [])
  .ret))))))))))
def tr_laws_heldCategory : List Nat := [0, 1, 4, 2]
def rs_laws_heldCategory : List RS := [.t 2]
theorem ok_laws_heldCategory : fnOk Go.Proofs.Try.prog Go.Proofs.Try.f29 tr_laws_heldCategory c_laws_heldCategory 2 rs_laws_heldCategory = true := by decide +kernel

theorem ret_laws_heldCategory (a : Cat) (k : Int) (h0 : 0 ≤ k) (h1 : k + a.mcost ≤ 4611686018427387900) : Ret Go.Proofs.Try.prog 29 [.v (Cat.d (a.marks k)), .v (.int .i64 k)] (.int .i64 (k + a.mcost)) := by
  unfold Cat.mcost at h1 ⊢
  refine ret_fn Go.Proofs.Try.func29 ok_laws_heldCategory rfl (show 2 < 500 by decide) rfl ?_; unfold c_laws_heldCategory tr_laws_heldCategory rs_laws_heldCategory; simp only [go_sem, Nat.reduceLT, Nat.reduceAdd, Nat.reduceSub, ↓reduceIte]
  refine call_of (ret_laws_heldInt64S a.fr.length k h0 (by omega)) rfl (.inl rfl) ?_
  simp only [go_sem, Nat.reduceLT, Nat.reduceAdd, Nat.reduceSub, ↓reduceIte]
  refine ⟨fun hh => by omega, fun _ => ?_⟩
  refine call_of (ret_laws_heldInt64S a.to.length (k + a.fr.length) (by omega) (by omega)) rfl (.inl rfl) ?_
  simp only [go_sem, Nat.reduceLT, Nat.reduceAdd, Nat.reduceSub, ↓reduceIte]
  refine ⟨fun hh => by omega, fun _ => ?_⟩
  refine call_of (ret_laws_heldInt64S a.idn.length (k + a.fr.length + a.to.length) (by omega) (by omega)) rfl (.inl rfl) ?_
  simp only [go_sem, Nat.reduceLT, Nat.reduceAdd, Nat.reduceSub, ↓reduceIte]
  refine ⟨fun hh => by omega, fun _ => ?_⟩
  refine call_of (ret_laws_heldInt64SS a.co (k + a.fr.length + a.to.length + a.idn.length) (by omega) (by omega)) rfl (.inl rfl) ?_
  simp only [go_sem, Nat.reduceLT, Nat.reduceAdd, Nat.reduceSub, ↓reduceIte]
  refine ⟨fun hh => by omega, fun _ => ?_⟩
  simp only [Int.natCast_add, Int.add_assoc]
end Go.D3

/- CONTRACTS: set functors: sizes, copies, comparisons. -/
namespace Go.D3
open Go
set_option maxRecDepth 100000

structure Sf where
  shp : Cat
  sz : List (Int)
  act : List (List (Int))
def Sf.cells (x : Sf) : List D := [.int .i64 x.shp.ob, ints x.shp.fr, ints x.shp.to, ints x.shp.idn, intss x.shp.co, ints x.sz, intss x.act]
def Sf.d (x : Sf) : D := .agg x.cells
def Sf.zero : Sf := ⟨Cat.zero, [], []⟩
def Sf.cost (x : Sf) : Nat := Cat.cost x.shp + x.sz.length + costL List.length x.act
theorem slice_Sf : D.slice (.agg [.int .i64 0, ints [], ints [], ints [], intss [], ints [], intss []]) [] = lst Sf.d Sf.zero [] := rfl
theorem rep_Sf {n : Nat} : D.slice (.agg [.int .i64 0, ints [], ints [], ints [], intss [], ints [], intss []]) (List.replicate n (.agg [.int .i64 0, ints [], ints [], ints [], intss [], ints [], intss []])) = lst Sf.d Sf.zero (List.replicate n Sf.zero) := by unfold lst; rw [List.map_replicate]; rfl
theorem setCs_Sf {l : List Sf} {i : Nat} {shpob : Int} {shpfr : List (Int)} {shpto : List (Int)} {shpidn : List (Int)} {shpco : List (List (Int))} {sz : List (Int)} {act : List (List (Int))} : setCs (.o (lst Sf.d Sf.zero l)) [(i, 0)] 0 [.int .i64 shpob, ints shpfr, ints shpto, ints shpidn, intss shpco, ints sz, intss act] = .o (lst Sf.d Sf.zero (l.set i ⟨⟨shpob, shpfr, shpto, shpidn, shpco⟩, sz, act⟩)) := setCs_lst (n := 7) (fun _ => ⟨_, rfl, rfl⟩) rfl
attribute [go_sem] Sf.cells.eq_1 Sf.d.eq_1 slice_Sf rep_Sf
theorem app_Sf {l : List Sf} {shpob : Int} {shpfr : List (Int)} {shpto : List (Int)} {shpidn : List (Int)} {shpco : List (List (Int))} {sz : List (Int)} {act : List (List (Int))} : (lst Sf.d Sf.zero l).appL [.agg [.int .i64 shpob, ints shpfr, ints shpto, ints shpidn, intss shpco, ints sz, intss act]] = lst Sf.d Sf.zero (l ++ [⟨⟨shpob, shpfr, shpto, shpidn, shpco⟩, sz, act⟩]) := lst_app1 (f := Sf.d) (x := ⟨⟨shpob, shpfr, shpto, shpidn, shpco⟩, sz, act⟩)
attribute [go_sem high] setCs_Sf app_Sf
theorem nv_Sf (x : Sf) : x.d.novw = true := by simp only [Sf.d, Sf.cells, D.novw, novwL, nv_ints, nv_intss, Bool.and_self]
theorem cells_Sf (x : Sf) : x.d.cells.length = 7 := rfl

-- laws.szSetFunctor
def c_laws_szSetFunctor : C :=
  (.seq (.ops [3] [⟨none, .boxv 7 (.v 0)⟩,
    ⟨none, .asg 2 (.i 0)⟩] [(3, 0)])
  (.seq (.ops [] [⟨none, .fA 0 (.v 3)⟩,
    ⟨none, .lda 5 (.t 0)⟩,
    ⟨none, .mv (.v 1)⟩,
    ⟨none, .call 16 [(.t 1), (.t 2)]⟩,
    ⟨none, .asg 1 (.t 3)⟩] [])
  (.seq (.opc [] [⟨none, .mv (.v 1)⟩,
    ⟨none, .bin .lss (.t 0) (.i 0)⟩] [] (.t 1) (.seq (.ops [] [⟨none, .asg 2 (.i (-1))⟩] [])
  .ret)
  .skip)
  (.seq (.ops [] [⟨none, .fA 5 (.v 3)⟩,
    ⟨none, .ld (.t 0)⟩,
    ⟨none, .mv (.v 1)⟩,
    ⟨none, .call 55 [(.t 1), (.t 2)]⟩,
    ⟨none, .asg 1 (.t 3)⟩] [])
  (.seq (.opc [] [⟨none, .mv (.v 1)⟩,
    ⟨none, .bin .lss (.t 0) (.i 0)⟩] [] (.t 1) (.seq (.ops [] [⟨none, .asg 2 (.i (-1))⟩] [])
  .ret)
  .skip)
  (.seq (.ops [] [⟨none, .fA 6 (.v 3)⟩,
    ⟨none, .ld (.t 0)⟩,
    ⟨none, .mv (.v 1)⟩,
    ⟨none, .call 56 [(.t 1), (.t 2)]⟩,
    ⟨none, .asg 1 (.t 3)⟩] [])
  (.seq (.opc [] [⟨none, .mv (.v 1)⟩,
    ⟨none, .bin .lss (.t 0) (.i 0)⟩] [] (.t 1) (.seq (.ops [] [⟨none, .asg 2 (.i (-1))⟩] [])
  .ret)
  .skip)
  (.seq (.ops [] [⟨none, .mv (.v 1)⟩,
    ⟨none, .asg 2 (.t 0)⟩] [])
  .ret))))))))
def tr_laws_szSetFunctor : List Nat := [0, 1, 4, 2]
def rs_laws_szSetFunctor : List RS := [.t 2]
theorem ok_laws_szSetFunctor : fnOk Go.Proofs.Try.prog Go.Proofs.Try.f35 tr_laws_szSetFunctor c_laws_szSetFunctor 2 rs_laws_szSetFunctor = true := by decide +kernel

theorem ret_laws_szSetFunctor (a : Sf) (left : Int) (h0 : 0 ≤ left) (h1 : left ≤ 1048576) : Ret Go.Proofs.Try.prog 35 [.v (Sf.d a), .v (.int .i64 left)] (.int .i64 (sb left (Sf.cost a))) := by
  refine ret_fn Go.Proofs.Try.func35 ok_laws_szSetFunctor rfl (show 2 < 500 by decide) rfl ?_; unfold c_laws_szSetFunctor tr_laws_szSetFunctor rs_laws_szSetFunctor; simp only [go_sem, Nat.reduceLT, Nat.reduceAdd, Nat.reduceSub, Nat.reduceLeDiff, ↓reduceIte]
  refine call_of (ret_laws_szCategory a.shp _ h0 h1) rfl (.inl rfl) ?_
  simp only [go_sem, Nat.reduceLT, Nat.reduceAdd, Nat.reduceSub, ↓reduceIte]
  refine ⟨fun hh => ?_, fun hh => ?_⟩
  · rw [sb_mono h0 hh (by unfold Sf.cost; omega)]
  refine call_of (ret_laws_szInt64S a.sz _ (sb_nn hh) (Int.le_trans (sb_le _ h0) h1)) rfl (.inl rfl) ?_
  simp only [go_sem, Nat.reduceLT, Nat.reduceAdd, Nat.reduceSub, ↓reduceIte]
  rw [sb_add hh]
  refine ⟨fun hh => ?_, fun hh => ?_⟩
  · rw [sb_mono h0 hh (by unfold Sf.cost; omega)]
  refine call_of (ret_laws_szInt64SS a.act _ (sb_nn hh) (Int.le_trans (sb_le _ h0) h1)) rfl (.inl rfl) ?_
  simp only [go_sem, Nat.reduceLT, Nat.reduceAdd, Nat.reduceSub, ↓reduceIte]
  rw [sb_add hh]
  refine ⟨fun hh => ?_, fun hh => ?_⟩
  · rw [sb_mono h0 hh (by unfold Sf.cost; omega)]
  all_goals rfl

-- laws.toSetFunctor
def c_laws_toSetFunctor : C :=
  (.seq (.ops [2, 1] [⟨none, .boxv 7 (.v 0)⟩,
    ⟨none, .alc [.int .i64 0, .nils (.int .i64 0), .nils (.int .i64 0), .nils (.int .i64 0), .nils (ints []), .nils (.int .i64 0), .nils (ints [])]⟩] [(2, 0), (1, 1)])
  (.seq (.ops [3] [⟨none, .alc [.int .i64 0, .nils (.int .i64 0), .nils (.int .i64 0), .nils (.int .i64 0), .nils (ints []), .nils (.int .i64 0), .nils (ints [])]⟩] [(3, 0)])
  (.seq (.ops [] [⟨none, .fA 0 (.v 2)⟩,
    ⟨none, .lda 5 (.t 0)⟩,
    ⟨none, .call 18 [(.t 1)]⟩,
    ⟨none, .fA 0 (.v 3)⟩,
    ⟨none, .stn 5 (.t 3) (.t 2)⟩] [])
  (.seq (.ops [] [⟨none, .fA 5 (.v 2)⟩,
    ⟨none, .ld (.t 0)⟩,
    ⟨none, .call 57 [(.t 1)]⟩,
    ⟨none, .fA 5 (.v 3)⟩,
    ⟨none, .st (.t 3) (.t 2)⟩] [])
  (.seq (.ops [] [⟨none, .fA 6 (.v 2)⟩,
    ⟨none, .ld (.t 0)⟩,
    ⟨none, .call 58 [(.t 1)]⟩,
    ⟨none, .fA 6 (.v 3)⟩,
    ⟨none, .st (.t 3) (.t 2)⟩] [])
  (.seq (.ops [] [⟨none, .lda 7 (.v 3)⟩,
    ⟨none, .stn 7 (.v 1) (.t 0)⟩] [])
  .ret))))))
def tr_laws_toSetFunctor : List Nat := [0, 2, 1, 3]
def rs_laws_toSetFunctor : List RS := [.c 1 7 true]
theorem ok_laws_toSetFunctor : fnOk Go.Proofs.Try.prog Go.Proofs.Try.f37 tr_laws_toSetFunctor c_laws_toSetFunctor 1 rs_laws_toSetFunctor = true := by decide +kernel

theorem ret_laws_toSetFunctor (a : Sf) (hs : Sf.cost a ≤ 1048576) : Ret Go.Proofs.Try.prog 37 [.v (Sf.d a)] (Sf.d a) := by
  have hs2 := hs
  unfold Sf.cost at hs2
  refine ret_fn Go.Proofs.Try.func37 ok_laws_toSetFunctor rfl (show 1 < 500 by decide) rfl ?_; unfold c_laws_toSetFunctor tr_laws_toSetFunctor rs_laws_toSetFunctor; simp only [go_sem, Nat.reduceLT, Nat.reduceAdd, Nat.reduceSub, Nat.reduceLeDiff, ↓reduceIte]
  refine call_of (ret_laws_toCategory a.shp (by omega)) rfl (.inl (nv_Cat _)) ?_
  simp only [go_sem, Nat.reduceLT, Nat.reduceAdd, Nat.reduceSub, Nat.reduceEqDiff, Nat.reduceBEq, Nat.reduceLeDiff, ↓reduceIte]
  refine call_of (ret_laws_toInt64S a.sz (by omega)) rfl (.inl (nv_ints _)) ?_
  simp only [go_sem, Nat.reduceLT, Nat.reduceAdd, Nat.reduceSub, Nat.reduceEqDiff, Nat.reduceBEq, ↓reduceIte]
  refine call_of (ret_laws_toInt64SS a.act (by omega)) rfl (.inl (nv_intss _)) ?_
  simp only [go_sem, Nat.reduceLT, Nat.reduceAdd, Nat.reduceSub, Nat.reduceEqDiff, Nat.reduceBEq, ↓reduceIte]
  all_goals rfl

-- laws.eqSetFunctor
def c_laws_eqSetFunctor : C :=
  (.seq (.ops [3, 4] [⟨none, .boxv 7 (.v 0)⟩,
    ⟨none, .boxv 7 (.v 1)⟩,
    ⟨none, .asg 2 (.k (.bool false))⟩] [(3, 0), (4, 1)])
  (.seq (.opc [] [⟨none, .fA 0 (.v 3)⟩,
    ⟨none, .lda 5 (.t 0)⟩,
    ⟨none, .fA 0 (.v 4)⟩,
    ⟨none, .lda 5 (.t 2)⟩,
    ⟨none, .call 20 [(.t 1), (.t 3)]⟩,
    ⟨none, .not (.t 4)⟩] [] (.t 5) (.seq (.ops [] [⟨none, .asg 2 (.k (.bool false))⟩] [])
  .ret)
  .skip)
  (.seq (.opc [] [⟨none, .fA 5 (.v 3)⟩,
    ⟨none, .ld (.t 0)⟩,
    ⟨none, .fA 5 (.v 4)⟩,
    ⟨none, .ld (.t 2)⟩,
    ⟨none, .call 59 [(.t 1), (.t 3)]⟩,
    ⟨none, .not (.t 4)⟩] [] (.t 5) (.seq (.ops [] [⟨none, .asg 2 (.k (.bool false))⟩] [])
  .ret)
  .skip)
  (.seq (.opc [] [⟨none, .fA 6 (.v 3)⟩,
    ⟨none, .ld (.t 0)⟩,
    ⟨none, .fA 6 (.v 4)⟩,
    ⟨none, .ld (.t 2)⟩,
    ⟨none, .call 39 [(.t 1), (.t 3)]⟩,
    ⟨none, .not (.t 4)⟩] [] (.t 5) (.seq (.ops [] [⟨none, .asg 2 (.k (.bool false))⟩] [])
  .ret)
  .skip)
  (.seq (.ops [] [⟨none, .asg 2 (.k (.bool true))⟩] [])
  .ret)))))
def tr_laws_eqSetFunctor : List Nat := [0, 1, 4, 2, 3]
def rs_laws_eqSetFunctor : List RS := [.t 2]
theorem ok_laws_eqSetFunctor : fnOk Go.Proofs.Try.prog Go.Proofs.Try.f23 tr_laws_eqSetFunctor c_laws_eqSetFunctor 2 rs_laws_eqSetFunctor = true := by decide +kernel

theorem ret_laws_eqSetFunctor (a : Sf) : Ret Go.Proofs.Try.prog 23 [.v (Sf.d a), .v (Sf.d a)] (.bool true) := by
  refine ret_fn Go.Proofs.Try.func23 ok_laws_eqSetFunctor rfl (show 2 < 500 by decide) rfl ?_; unfold c_laws_eqSetFunctor tr_laws_eqSetFunctor rs_laws_eqSetFunctor; simp only [go_sem, Nat.reduceLT, Nat.reduceAdd, Nat.reduceSub, Nat.reduceLeDiff, ↓reduceIte]
  refine call_of (ret_laws_eqCategory a.shp) rfl (.inl rfl) ?_
  simp only [go_sem, Nat.reduceLT, Nat.reduceAdd, Nat.reduceSub, ↓reduceIte]
  refine call_of (ret_laws_eqInt64S a.sz) rfl (.inl rfl) ?_
  simp only [go_sem, Nat.reduceLT, Nat.reduceAdd, Nat.reduceSub, ↓reduceIte]
  refine call_of (ret_laws_eqInt64SS a.act) rfl (.inl rfl) ?_
  simp only [go_sem, Nat.reduceLT, Nat.reduceAdd, Nat.reduceSub, ↓reduceIte]
  all_goals trivial
end Go.D3

/- CONTRACTS: natural maps: comparisons. -/
namespace Go.D3
open Go
set_option maxRecDepth 100000

structure Sm where
  src : Sf
  tgt : Sf
  pts : List (List (Int))
def Sm.cells (x : Sm) : List D := [.int .i64 x.src.shp.ob, ints x.src.shp.fr, ints x.src.shp.to, ints x.src.shp.idn, intss x.src.shp.co, ints x.src.sz, intss x.src.act, .int .i64 x.tgt.shp.ob, ints x.tgt.shp.fr, ints x.tgt.shp.to, ints x.tgt.shp.idn, intss x.tgt.shp.co, ints x.tgt.sz, intss x.tgt.act, intss x.pts]
def Sm.d (x : Sm) : D := .agg x.cells
def Sm.zero : Sm := ⟨Sf.zero, Sf.zero, []⟩
def Sm.cost (x : Sm) : Nat := Sf.cost x.src + Sf.cost x.tgt + costL List.length x.pts
theorem slice_Sm : D.slice (.agg [.int .i64 0, ints [], ints [], ints [], intss [], ints [], intss [], .int .i64 0, ints [], ints [], ints [], intss [], ints [], intss [], intss []]) [] = lst Sm.d Sm.zero [] := rfl
theorem rep_Sm {n : Nat} : D.slice (.agg [.int .i64 0, ints [], ints [], ints [], intss [], ints [], intss [], .int .i64 0, ints [], ints [], ints [], intss [], ints [], intss [], intss []]) (List.replicate n (.agg [.int .i64 0, ints [], ints [], ints [], intss [], ints [], intss [], .int .i64 0, ints [], ints [], ints [], intss [], ints [], intss [], intss []])) = lst Sm.d Sm.zero (List.replicate n Sm.zero) := by unfold lst; rw [List.map_replicate]; rfl
theorem setCs_Sm {l : List Sm} {i : Nat} {srcshpob : Int} {srcshpfr : List (Int)} {srcshpto : List (Int)} {srcshpidn : List (Int)} {srcshpco : List (List (Int))} {srcsz : List (Int)} {srcact : List (List (Int))} {tgtshpob : Int} {tgtshpfr : List (Int)} {tgtshpto : List (Int)} {tgtshpidn : List (Int)} {tgtshpco : List (List (Int))} {tgtsz : List (Int)} {tgtact : List (List (Int))} {pts : List (List (Int))} : setCs (.o (lst Sm.d Sm.zero l)) [(i, 0)] 0 [.int .i64 srcshpob, ints srcshpfr, ints srcshpto, ints srcshpidn, intss srcshpco, ints srcsz, intss srcact, .int .i64 tgtshpob, ints tgtshpfr, ints tgtshpto, ints tgtshpidn, intss tgtshpco, ints tgtsz, intss tgtact, intss pts] = .o (lst Sm.d Sm.zero (l.set i ⟨⟨⟨srcshpob, srcshpfr, srcshpto, srcshpidn, srcshpco⟩, srcsz, srcact⟩, ⟨⟨tgtshpob, tgtshpfr, tgtshpto, tgtshpidn, tgtshpco⟩, tgtsz, tgtact⟩, pts⟩)) := setCs_lst (n := 15) (fun _ => ⟨_, rfl, rfl⟩) rfl
attribute [go_sem] Sm.cells.eq_1 Sm.d.eq_1 slice_Sm rep_Sm
theorem app_Sm {l : List Sm} {srcshpob : Int} {srcshpfr : List (Int)} {srcshpto : List (Int)} {srcshpidn : List (Int)} {srcshpco : List (List (Int))} {srcsz : List (Int)} {srcact : List (List (Int))} {tgtshpob : Int} {tgtshpfr : List (Int)} {tgtshpto : List (Int)} {tgtshpidn : List (Int)} {tgtshpco : List (List (Int))} {tgtsz : List (Int)} {tgtact : List (List (Int))} {pts : List (List (Int))} : (lst Sm.d Sm.zero l).appL [.agg [.int .i64 srcshpob, ints srcshpfr, ints srcshpto, ints srcshpidn, intss srcshpco, ints srcsz, intss srcact, .int .i64 tgtshpob, ints tgtshpfr, ints tgtshpto, ints tgtshpidn, intss tgtshpco, ints tgtsz, intss tgtact, intss pts]] = lst Sm.d Sm.zero (l ++ [⟨⟨⟨srcshpob, srcshpfr, srcshpto, srcshpidn, srcshpco⟩, srcsz, srcact⟩, ⟨⟨tgtshpob, tgtshpfr, tgtshpto, tgtshpidn, tgtshpco⟩, tgtsz, tgtact⟩, pts⟩]) := lst_app1 (f := Sm.d) (x := ⟨⟨⟨srcshpob, srcshpfr, srcshpto, srcshpidn, srcshpco⟩, srcsz, srcact⟩, ⟨⟨tgtshpob, tgtshpfr, tgtshpto, tgtshpidn, tgtshpco⟩, tgtsz, tgtact⟩, pts⟩)
attribute [go_sem high] setCs_Sm app_Sm
theorem nv_Sm (x : Sm) : x.d.novw = true := by simp only [Sm.d, Sm.cells, D.novw, novwL, nv_ints, nv_intss, Bool.and_self]
theorem cells_Sm (x : Sm) : x.d.cells.length = 15 := rfl

-- laws.eqSetMap
def c_laws_eqSetMap : C :=
  (.seq (.ops [3, 4] [⟨none, .boxv 15 (.v 0)⟩,
    ⟨none, .boxv 15 (.v 1)⟩,
    ⟨none, .asg 2 (.k (.bool false))⟩] [(3, 0), (4, 1)])
  (.seq (.opc [] [⟨none, .fA 0 (.v 3)⟩,
    ⟨none, .lda 7 (.t 0)⟩,
    ⟨none, .fA 0 (.v 4)⟩,
    ⟨none, .lda 7 (.t 2)⟩,
    ⟨none, .call 23 [(.t 1), (.t 3)]⟩,
    ⟨none, .not (.t 4)⟩] [] (.t 5) (.seq (.ops [] [⟨none, .asg 2 (.k (.bool false))⟩] [])
  .ret)
  .skip)
  (.seq (.opc [] [⟨none, .fA 7 (.v 3)⟩,
    ⟨none, .lda 7 (.t 0)⟩,
    ⟨none, .fA 7 (.v 4)⟩,
    ⟨none, .lda 7 (.t 2)⟩,
    ⟨none, .call 23 [(.t 1), (.t 3)]⟩,
    ⟨none, .not (.t 4)⟩] [] (.t 5) (.seq (.ops [] [⟨none, .asg 2 (.k (.bool false))⟩] [])
  .ret)
  .skip)
  (.seq (.opc [] [⟨none, .fA 14 (.v 3)⟩,
    ⟨none, .ld (.t 0)⟩,
    ⟨none, .fA 14 (.v 4)⟩,
    ⟨none, .ld (.t 2)⟩,
    ⟨none, .call 39 [(.t 1), (.t 3)]⟩,
    ⟨none, .not (.t 4)⟩] [] (.t 5) (.seq (.ops [] [⟨none, .asg 2 (.k (.bool false))⟩] [])
  .ret)
  .skip)
  (.seq (.ops [] [⟨none, .asg 2 (.k (.bool true))⟩] [])
  .ret)))))
def tr_laws_eqSetMap : List Nat := [0, 1, 4, 2, 3]
def rs_laws_eqSetMap : List RS := [.t 2]
theorem ok_laws_eqSetMap : fnOk Go.Proofs.Try.prog Go.Proofs.Try.f32 tr_laws_eqSetMap c_laws_eqSetMap 2 rs_laws_eqSetMap = true := by decide +kernel

theorem ret_laws_eqSetMap (a : Sm) : Ret Go.Proofs.Try.prog 32 [.v (Sm.d a), .v (Sm.d a)] (.bool true) := by
  refine ret_fn Go.Proofs.Try.func32 ok_laws_eqSetMap rfl (show 2 < 500 by decide) rfl ?_; unfold c_laws_eqSetMap tr_laws_eqSetMap rs_laws_eqSetMap; simp only [go_sem, Nat.reduceLT, Nat.reduceAdd, Nat.reduceSub, Nat.reduceLeDiff, ↓reduceIte]
  refine call_of (ret_laws_eqSetFunctor a.src) rfl (.inl rfl) ?_
  simp only [go_sem, Nat.reduceLT, Nat.reduceAdd, Nat.reduceSub, Nat.reduceLeDiff, ↓reduceIte]
  refine call_of (ret_laws_eqSetFunctor a.tgt) rfl (.inl rfl) ?_
  simp only [go_sem, Nat.reduceLT, Nat.reduceAdd, Nat.reduceSub, ↓reduceIte]
  refine call_of (ret_laws_eqInt64SS a.pts) rfl (.inl rfl) ?_
  simp only [go_sem, Nat.reduceLT, Nat.reduceAdd, Nat.reduceSub, ↓reduceIte]
  all_goals trivial
end Go.D3

/- CONTRACTS: marks on set functors. -/
namespace Go.D3
open Go
set_option maxRecDepth 100000

def Sf.marks (k : Int) (a : Sf) : Sf := { a with shp := a.shp.marks (k), sz := mks (k + a.shp.mcost) a.sz.length, act := mkss (k + a.shp.mcost + a.sz.length) a.act }
def Sf.mcost (a : Sf) : Nat := a.shp.mcost + a.sz.length + cost2 a.act a.act.length
-- laws.markSetFunctor
def c_laws_markSetFunctor : C :=
  (.seq (.ops [3] [⟨none, .box 7 (.v 0)⟩,
    ⟨none, .asg 2 (.i 0)⟩] [(3, 0)])
  (.seq (.ops [] [⟨none, .fA 0 (.v 3)⟩,
    ⟨none, .lda 5 (.t 0)⟩,
    ⟨none, .mv (.v 1)⟩,
    ⟨none, .calle 24 [(.t 1), (.t 2)]⟩,
    ⟨none, .asg 1 (.t 3)⟩] [])
  (.seq (.ops [] [⟨none, .fA 5 (.v 3)⟩,
    ⟨none, .ld (.t 0)⟩,
    ⟨none, .mv (.v 1)⟩,
    ⟨none, .calle 64 [(.t 1), (.t 2)]⟩,
    ⟨none, .asg 1 (.t 3)⟩] [])
  (.seq (.ops [] [⟨none, .fA 6 (.v 3)⟩,
    ⟨none, .ld (.t 0)⟩,
    ⟨none, .mv (.v 1)⟩,
    ⟨none, .calle 40 [(.t 1), (.t 2)]⟩,
    ⟨none, .asg 1 (.t 3)⟩] [])
  (.seq (.ops [] [⟨none, .mv (.v 1)⟩,
    ⟨none, .asg 2 (.t 0)⟩] [])
  .ret)))))
def tr_laws_markSetFunctor : List Nat := [0, 1, 4, 2]
def rs_laws_markSetFunctor : List RS := [.t 2]
theorem ok_laws_markSetFunctor : fnOk Go.Proofs.Try.prog Go.Proofs.Try.f25 tr_laws_markSetFunctor c_laws_markSetFunctor 2 rs_laws_markSetFunctor = true := by decide +kernel

theorem ret_laws_markSetFunctor (a : Sf) (k : Int) (h0 : 0 ≤ k) (h1 : k + a.mcost ≤ 4611686018427387900) : Ret Go.Proofs.Try.prog 25 [.io (.o (Sf.d a)) (.o (Sf.d (a.marks k))), .v (.int .i64 k)] (.int .i64 (k + a.mcost)) := by
  unfold Sf.mcost at h1 ⊢
  refine ret_fn Go.Proofs.Try.func25 ok_laws_markSetFunctor rfl (show 2 < 500 by decide) rfl ?_; unfold c_laws_markSetFunctor tr_laws_markSetFunctor rs_laws_markSetFunctor; simp only [go_sem, Nat.reduceLT, Nat.reduceAdd, Nat.reduceSub, Nat.reduceBEq, Nat.reduceLeDiff, ↓reduceIte]
  refine io_aggH (ret_laws_markCategory a.shp (k) (by omega) (by omega)) trivial ?_
  simp only [go_sem, Nat.reduceLT, Nat.reduceEqDiff, Nat.reduceBEq, ↓reduceIte]
  refine ⟨(a.shp.marks (k)).cells, rfl, fill_of ?_⟩
  simp only [go_sem, Nat.reduceLT, Nat.reduceAdd, Nat.reduceSub, Nat.reduceBEq, Nat.reduceLeDiff, ↓reduceIte]
  refine io_part (ret_laws_markInt64S a.sz (k + a.shp.mcost) (by omega) (by omega)) trivial ?_
  simp only [go_sem, Nat.reduceLT, Nat.reduceAdd, Nat.reduceSub, Nat.reduceBEq, Nat.reduceLeDiff, ↓reduceIte]
  refine ⟨_, ints (mks (k + a.shp.mcost) a.sz.length), rfl, rfl, rfl, ?_⟩

  refine io_part (ret_laws_markInt64SS a.act (k + a.shp.mcost + a.sz.length) (by omega) (by omega)) trivial ?_
  simp only [go_sem, Nat.reduceLT, Nat.reduceAdd, Nat.reduceSub, Nat.reduceBEq, Nat.reduceLeDiff, ↓reduceIte]
  refine ⟨_, intss (mkss (k + a.shp.mcost + a.sz.length) a.act), rfl, rfl, rfl, ?_⟩

  exact ⟨by simp only [Int.natCast_add, Int.add_assoc], rfl⟩

-- laws.heldSetFunctor
def c_laws_heldSetFunctor : C :=
  (.seq (.ops [3] [⟨none, .boxv 7 (.v 0)⟩,
    ⟨none, .asg 2 (.i 0)⟩] [(3, 0)])
  (.seq (.ops [] [⟨none, .fA 0 (.v 3)⟩,
    ⟨none, .lda 5 (.t 0)⟩,
    ⟨none, .mv (.v 1)⟩,
    ⟨none, .call 29 [(.t 1), (.t 2)]⟩,
    ⟨none, .asg 1 (.t 3)⟩] [])
  (.seq (.opc [] [⟨none, .mv (.v 1)⟩,
    ⟨none, .bin .lss (.t 0) (.i 0)⟩] [] (.t 1) (.seq (.ops [] [⟨none, .asg 2 (.i (-1))⟩] [])
  .ret)
  .skip)
  (.seq (.ops [] [⟨none, .fA 5 (.v 3)⟩,
    ⟨none, .ld (.t 0)⟩,
    ⟨none, .mv (.v 1)⟩,
    ⟨none, .call 65 [(.t 1), (.t 2)]⟩,
    ⟨none, .asg 1 (.t 3)⟩] [])
  (.seq (.opc [] [⟨none, .mv (.v 1)⟩,
    ⟨none, .bin .lss (.t 0) (.i 0)⟩] [] (.t 1) (.seq (.ops [] [⟨none, .asg 2 (.i (-1))⟩] [])
  .ret)
  .skip)
  (.seq (.ops [] [⟨none, .fA 6 (.v 3)⟩,
    ⟨none, .ld (.t 0)⟩,
    ⟨none, .mv (.v 1)⟩,
    ⟨none, .call 41 [(.t 1), (.t 2)]⟩,
    ⟨none, .asg 1 (.t 3)⟩] [])
  (.seq (.opc [] [⟨none, .mv (.v 1)⟩,
    ⟨none, .bin .lss (.t 0) (.i 0)⟩] [] (.t 1) (.seq (.ops [] [⟨none, .asg 2 (.i (-1))⟩] [])
  .ret)
  .skip)
  (.seq (.ops [] [⟨none, .mv (.v 1)⟩,
    ⟨none, .asg 2 (.t 0)⟩] [])
  .ret))))))))
def tr_laws_heldSetFunctor : List Nat := [0, 1, 4, 2]
def rs_laws_heldSetFunctor : List RS := [.t 2]
theorem ok_laws_heldSetFunctor : fnOk Go.Proofs.Try.prog Go.Proofs.Try.f26 tr_laws_heldSetFunctor c_laws_heldSetFunctor 2 rs_laws_heldSetFunctor = true := by decide +kernel

theorem ret_laws_heldSetFunctor (a : Sf) (k : Int) (h0 : 0 ≤ k) (h1 : k + a.mcost ≤ 4611686018427387900) : Ret Go.Proofs.Try.prog 26 [.v (Sf.d (a.marks k)), .v (.int .i64 k)] (.int .i64 (k + a.mcost)) := by
  unfold Sf.mcost at h1 ⊢
  refine ret_fn Go.Proofs.Try.func26 ok_laws_heldSetFunctor rfl (show 2 < 500 by decide) rfl ?_; unfold c_laws_heldSetFunctor tr_laws_heldSetFunctor rs_laws_heldSetFunctor; simp only [go_sem, Nat.reduceLT, Nat.reduceAdd, Nat.reduceSub, Nat.reduceLeDiff, ↓reduceIte]
  refine call_of (ret_laws_heldCategory a.shp (k) (by omega) (by omega)) rfl (.inl rfl) ?_
  simp only [go_sem, Nat.reduceLT, Nat.reduceAdd, Nat.reduceSub, ↓reduceIte]
  refine ⟨fun hh => by omega, fun _ => ?_⟩
  refine call_of (ret_laws_heldInt64S a.sz.length (k + a.shp.mcost) (by omega) (by omega)) rfl (.inl rfl) ?_
  simp only [go_sem, Nat.reduceLT, Nat.reduceAdd, Nat.reduceSub, ↓reduceIte]
  refine ⟨fun hh => by omega, fun _ => ?_⟩
  refine call_of (ret_laws_heldInt64SS a.act (k + a.shp.mcost + a.sz.length) (by omega) (by omega)) rfl (.inl rfl) ?_
  simp only [go_sem, Nat.reduceLT, Nat.reduceAdd, Nat.reduceSub, ↓reduceIte]
  refine ⟨fun hh => by omega, fun _ => ?_⟩
  simp only [Int.natCast_add, Int.add_assoc]
end Go.D3

/- CONTRACTS: marks on natural maps. -/
namespace Go.D3
open Go
set_option maxRecDepth 100000

def Sm.marks (k : Int) (a : Sm) : Sm := { a with src := a.src.marks (k), tgt := a.tgt.marks (k + a.src.mcost), pts := mkss (k + a.src.mcost + a.tgt.mcost) a.pts }
def Sm.mcost (a : Sm) : Nat := a.src.mcost + a.tgt.mcost + cost2 a.pts a.pts.length
-- laws.markSetMap
def c_laws_markSetMap : C :=
  (.seq (.ops [3] [⟨none, .box 15 (.v 0)⟩,
    ⟨none, .asg 2 (.i 0)⟩] [(3, 0)])
  (.seq (.ops [] [⟨none, .fA 0 (.v 3)⟩,
    ⟨none, .lda 7 (.t 0)⟩,
    ⟨none, .mv (.v 1)⟩,
    ⟨none, .calle 25 [(.t 1), (.t 2)]⟩,
    ⟨none, .asg 1 (.t 3)⟩] [])
  (.seq (.ops [] [⟨none, .fA 7 (.v 3)⟩,
    ⟨none, .lda 7 (.t 0)⟩,
    ⟨none, .mv (.v 1)⟩,
    ⟨none, .calle 25 [(.t 1), (.t 2)]⟩,
    ⟨none, .asg 1 (.t 3)⟩] [])
  (.seq (.ops [] [⟨none, .fA 14 (.v 3)⟩,
    ⟨none, .ld (.t 0)⟩,
    ⟨none, .mv (.v 1)⟩,
    ⟨none, .calle 40 [(.t 1), (.t 2)]⟩,
    ⟨none, .asg 1 (.t 3)⟩] [])
  (.seq (.ops [] [⟨none, .mv (.v 1)⟩,
    ⟨none, .asg 2 (.t 0)⟩] [])
  .ret)))))
def tr_laws_markSetMap : List Nat := [0, 1, 4, 2]
def rs_laws_markSetMap : List RS := [.t 2]
theorem ok_laws_markSetMap : fnOk Go.Proofs.Try.prog Go.Proofs.Try.f33 tr_laws_markSetMap c_laws_markSetMap 2 rs_laws_markSetMap = true := by decide +kernel

theorem ret_laws_markSetMap (a : Sm) (k : Int) (h0 : 0 ≤ k) (h1 : k + a.mcost ≤ 4611686018427387900) : Ret Go.Proofs.Try.prog 33 [.io (.o (Sm.d a)) (.o (Sm.d (a.marks k))), .v (.int .i64 k)] (.int .i64 (k + a.mcost)) := by
  unfold Sm.mcost at h1 ⊢
  refine ret_fn Go.Proofs.Try.func33 ok_laws_markSetMap rfl (show 2 < 500 by decide) rfl ?_; unfold c_laws_markSetMap tr_laws_markSetMap rs_laws_markSetMap; simp only [go_sem, Nat.reduceLT, Nat.reduceAdd, Nat.reduceSub, Nat.reduceBEq, Nat.reduceLeDiff, ↓reduceIte]
  refine io_aggH (ret_laws_markSetFunctor a.src (k) (by omega) (by omega)) trivial ?_
  simp only [go_sem, Nat.reduceLT, Nat.reduceEqDiff, Nat.reduceBEq, ↓reduceIte]
  refine ⟨(a.src.marks (k)).cells, rfl, fill_of ?_⟩
  simp only [go_sem, Nat.reduceLT, Nat.reduceAdd, Nat.reduceSub, Nat.reduceBEq, Nat.reduceLeDiff, ↓reduceIte]
  refine io_aggH (ret_laws_markSetFunctor a.tgt (k + a.src.mcost) (by omega) (by omega)) trivial ?_
  simp only [go_sem, Nat.reduceLT, Nat.reduceEqDiff, Nat.reduceBEq, ↓reduceIte]
  refine ⟨(a.tgt.marks (k + a.src.mcost)).cells, rfl, fill_of ?_⟩
  simp only [go_sem, Nat.reduceLT, Nat.reduceAdd, Nat.reduceSub, Nat.reduceBEq, Nat.reduceLeDiff, ↓reduceIte]
  refine io_part (ret_laws_markInt64SS a.pts (k + a.src.mcost + a.tgt.mcost) (by omega) (by omega)) trivial ?_
  simp only [go_sem, Nat.reduceLT, Nat.reduceAdd, Nat.reduceSub, Nat.reduceBEq, Nat.reduceLeDiff, ↓reduceIte]
  refine ⟨_, intss (mkss (k + a.src.mcost + a.tgt.mcost) a.pts), rfl, rfl, rfl, ?_⟩

  exact ⟨by simp only [Int.natCast_add, Int.add_assoc], rfl⟩

-- laws.heldSetMap
def c_laws_heldSetMap : C :=
  (.seq (.ops [3] [⟨none, .boxv 15 (.v 0)⟩,
    ⟨none, .asg 2 (.i 0)⟩] [(3, 0)])
  (.seq (.ops [] [⟨none, .fA 0 (.v 3)⟩,
    ⟨none, .lda 7 (.t 0)⟩,
    ⟨none, .mv (.v 1)⟩,
    ⟨none, .call 26 [(.t 1), (.t 2)]⟩,
    ⟨none, .asg 1 (.t 3)⟩] [])
  (.seq (.opc [] [⟨none, .mv (.v 1)⟩,
    ⟨none, .bin .lss (.t 0) (.i 0)⟩] [] (.t 1) (.seq (.ops [] [⟨none, .asg 2 (.i (-1))⟩] [])
  .ret)
  .skip)
  (.seq (.ops [] [⟨none, .fA 7 (.v 3)⟩,
    ⟨none, .lda 7 (.t 0)⟩,
    ⟨none, .mv (.v 1)⟩,
    ⟨none, .call 26 [(.t 1), (.t 2)]⟩,
    ⟨none, .asg 1 (.t 3)⟩] [])
  (.seq (.opc [] [⟨none, .mv (.v 1)⟩,
    ⟨none, .bin .lss (.t 0) (.i 0)⟩] [] (.t 1) (.seq (.ops [] [⟨none, .asg 2 (.i (-1))⟩] [])
  .ret)
  .skip)
  (.seq (.ops [] [⟨none, .fA 14 (.v 3)⟩,
    ⟨none, .ld (.t 0)⟩,
    ⟨none, .mv (.v 1)⟩,
    ⟨none, .call 41 [(.t 1), (.t 2)]⟩,
    ⟨none, .asg 1 (.t 3)⟩] [])
  (.seq (.opc [] [⟨none, .mv (.v 1)⟩,
    ⟨none, .bin .lss (.t 0) (.i 0)⟩] [] (.t 1) (.seq (.ops [] [⟨none, .asg 2 (.i (-1))⟩] [])
  .ret)
  .skip)
  (.seq (.ops [] [⟨none, .mv (.v 1)⟩,
    ⟨none, .asg 2 (.t 0)⟩] [])
  .ret))))))))
def tr_laws_heldSetMap : List Nat := [0, 1, 4, 2]
def rs_laws_heldSetMap : List RS := [.t 2]
theorem ok_laws_heldSetMap : fnOk Go.Proofs.Try.prog Go.Proofs.Try.f34 tr_laws_heldSetMap c_laws_heldSetMap 2 rs_laws_heldSetMap = true := by decide +kernel

theorem ret_laws_heldSetMap (a : Sm) (k : Int) (h0 : 0 ≤ k) (h1 : k + a.mcost ≤ 4611686018427387900) : Ret Go.Proofs.Try.prog 34 [.v (Sm.d (a.marks k)), .v (.int .i64 k)] (.int .i64 (k + a.mcost)) := by
  unfold Sm.mcost at h1 ⊢
  refine ret_fn Go.Proofs.Try.func34 ok_laws_heldSetMap rfl (show 2 < 500 by decide) rfl ?_; unfold c_laws_heldSetMap tr_laws_heldSetMap rs_laws_heldSetMap; simp only [go_sem, Nat.reduceLT, Nat.reduceAdd, Nat.reduceSub, Nat.reduceLeDiff, ↓reduceIte]
  refine call_of (ret_laws_heldSetFunctor a.src (k) (by omega) (by omega)) rfl (.inl rfl) ?_
  simp only [go_sem, Nat.reduceLT, Nat.reduceAdd, Nat.reduceSub, Nat.reduceLeDiff, ↓reduceIte]
  refine ⟨fun hh => by omega, fun _ => ?_⟩
  refine call_of (ret_laws_heldSetFunctor a.tgt (k + a.src.mcost) (by omega) (by omega)) rfl (.inl rfl) ?_
  simp only [go_sem, Nat.reduceLT, Nat.reduceAdd, Nat.reduceSub, ↓reduceIte]
  refine ⟨fun hh => by omega, fun _ => ?_⟩
  refine call_of (ret_laws_heldInt64SS a.pts (k + a.src.mcost + a.tgt.mcost) (by omega) (by omega)) rfl (.inl rfl) ?_
  simp only [go_sem, Nat.reduceLT, Nat.reduceAdd, Nat.reduceSub, ↓reduceIte]
  refine ⟨fun hh => by omega, fun _ => ?_⟩
  simp only [Int.natCast_add, Int.add_assoc]
end Go.D3

/- WHAT IS LEFT WHEN SIZES OF ARGUMENTS HAVE BEEN TAKEN OFF; calls with pointers to the first part of a struct. -/
namespace Go.D3
open Go
theorem sb_ok {left : Int} {n : Nat} (h0 : 0 ≤ left) (h1 : left ≤ 1048576) (h : 0 ≤ sb left n) : n ≤ 1048576 ∧ 0 ≤ sb left n ∧ sb left n ≤ 1048576 := by
  unfold sb at h ⊢
  split at h
  · rename_i hh; rw [if_pos hh]; omega
  · omega

theorem lst_cellv {α : Type} {f : α → D} {d : α} {l : List α} {k : Nat} {p : Path} : cellv k p (lst f d l) = lst f d l := rfl
theorem lst_setKid {α : Type} {f : α → D} {d : α} {l : List α} {i o : Nat} {y : D} : (lst f d l).setKid i o y = .slice (f d) ((l.map f).set i (setc (f (l.getD i d)) o y)) := lst_setKidT
attribute [go_sem] lst_cellv lst_setKid
theorem lst_takeL {α : Type} {f : α → D} {d : α} {l : List α} {dn r : List D} {K : List D → St → Prop} {st : St} : takeL dn (lst f d l :: r) K st = takeL (dn ++ [lst f d l]) r K st := by
  have : takeL dn (lst f d l :: r) K st = ((lst f d l).pc = true ∧ takeL (dn ++ [lst f d l]) r K st) := rfl
  rw [this, lst_pc]; simp
attribute [go_sem ↓] lst_takeL

/-- A pointer to more cells is one to the first of them. -/
def wk1 (a d : D) : Prop := a = d ∨ ∃ n l, d = .ptr l ∧ a = .ptr (l.take n)
def wkL : List D → List D → Prop
  | [], [] => True
  | a :: xs, d :: ds => wk1 a d ∧ wkL xs ds
  | _, _ => False
theorem Rd.wk {w : World} {A : Nat → Prop} {v : Value} {a d : D} (h : Rd w A v d) (hw : wk1 a d) : Rd w A v a := by
  rcases hw with rfl | ⟨n, l, rfl, rfl⟩
  · exact h
  · cases h with
    | ptr hA vs hc hr =>
      have key : ∀ (j : Nat) (x : D), (l.take n)[j]? = some x → l[j]? = some x := fun j x hx => by
        rw [List.getElem?_take] at hx
        split at hx
        · exact hx
        · cases hx
      exact .ptr hA vs (fun j x hx => hc j x (key j x hx)) fun j x hx => hr j x (key j x hx)
theorem wkL_len : ∀ {xs ds : List D}, wkL xs ds → xs.length = ds.length
  | [], [], _ => rfl
  | _ :: _, _ :: _, h => by simp only [List.length_cons, wkL_len h.2]
  | [], _ :: _, h => h.elim
  | _ :: _, [], h => h.elim
theorem wkL_get : ∀ {xs ds : List D}, wkL xs ds → ∀ {j : Nat} {a : D}, xs[j]? = some a → ∃ d, ds[j]? = some d ∧ wk1 a d
  | [], _, _, j, a, hj => by simp at hj
  | x :: r, y :: s, h, 0, a, hj => by
    simp only [List.getElem?_cons_zero, Option.some.injEq] at hj
    exact ⟨y, rfl, hj ▸ h.1⟩
  | x :: r, y :: s, h, j + 1, a, hj => by
    simp only [List.getElem?_cons_succ] at hj ⊢
    exact wkL_get h.2 hj
  | _ :: _, [], h, _, _, _ => h.elim
theorem ret_wk {P : Program} {f : FuncId} {xs ds : List D} {res : D} (h : Ret P f (xs.map .v) res) (hw : wkL xs ds) : Ret P f (ds.map .v) res := by
  intro w A vs Fs h1 h2 h3 h4 h5
  have hl := wkL_len hw
  refine (h w A vs Fs h1 (by rw [h2]; simp [hl]) (fun j a hj => ?_) h4 fun j b hb => ⟨(h5 j b hb).1, (h5 j b hb).2.1, by simpa [hl] using (h5 j b hb).2.2⟩).mono ?_
  · rw [List.getElem?_map, Option.map_eq_some_iff] at hj
    obtain ⟨x, hx, rfl⟩ := hj
    obtain ⟨d, hd, hwd⟩ := wkL_get hw hx
    have := h3 j (.v d) (by rw [List.getElem?_map, hd]; rfl)
    exact ⟨this.1.wk hwd, this.2⟩
  · rintro e w' ⟨v, F, Fs', e1, e2, e3, e4, e5, e6, e7⟩
    refine ⟨v, F, Fs', e1, e2, e3, fun j a hj => ?_, e5, fun j b hb => ⟨(e6 j b hb).1, (e6 j b hb).2.1, by simpa [hl] using (e6 j b hb).2.2⟩, e7⟩
    rw [List.getElem?_map, Option.map_eq_some_iff] at hj
    obtain ⟨d, hd, rfl⟩ := hj
    have hj2 : j < xs.length := by rw [hl]; exact (List.getElem?_eq_some_iff.1 hd).1
    exact e4 j (.v xs[j]) (by rw [List.getElem?_map, List.getElem?_eq_getElem hj2]; rfl)
theorem map_v_inj {xs bs : List D} (h : xs.map Arg.v = bs.map Arg.v) : xs = bs := by
  induction xs generalizing bs with
  | nil => cases bs with
    | nil => rfl
    | cons _ _ => cases h
  | cons a r ih => cases bs with
    | nil => cases h
    | cons b s => simp only [List.map_cons, List.cons.injEq, Arg.v.injEq] at h; rw [h.1, ih h.2]
/-- A call whose contract speaks of fewer cells behind its pointers. -/
theorem call_wk {P : Program} {f : FuncId} {pl : Prop} {K : St → Prop} {st : St} {xs : List Arg} {bs ds : List D} {res : D} (hR : Ret P f xs res) (ha : xs = bs.map .v) (hw : wkL bs ds) (hn : res.novw = true ∨ pl) (hK : K (st.push (contOf res))) : @callVC P f (some ds) true pl none ⟨K⟩ st :=
  call_of (ret_wk (ha ▸ hR) hw) rfl hn hK
theorem callg_wk {P : Program} {f : FuncId} {gt : Bool} {pl : Prop} {K : St → Prop} {st : St} {xs : List Arg} {bs ds : List D} {res : D} {b : Bool} (hR : b = true → Ret P f xs res) (ha : xs = bs.map .v) (hw : wkL bs ds) (hgt : b = true → gt = true) (hn : res.novw = true ∨ pl) (hK : K (st.push (.when b res))) :
    @callVC P f (some ds) gt pl (some b) ⟨K⟩ st := callg_of (fun h => ret_wk (ha ▸ hR h) hw) rfl hgt hn hK
end Go.D3

/- PLAIN LAWS: what a set functor is. -/
namespace Go.D3

def Sf.size (f : Sf) (x : Int) : Nat := (f.sz.getD x.toNat 0).toNat
def Sf.ac (f : Sf) (a : Int) (e : Int) : Int := (f.act.getD a.toNat []).getD e.toNat 0
def Sf.actB (f : Sf) (a : Nat) : Bool := ((f.act.getD a []).length : Int) == f.sz.getD (f.shp.fr.getD a 0).toNat 0 && mapB (f.sz.getD (f.shp.to.getD a 0).toNat 0) (f.act.getD a [])
def Sf.preB (f : Sf) : Bool := f.shp.isB && ((f.sz.length : Int) == f.shp.ob) && mapB 17 f.sz && ((f.act.length : Int) == f.shp.fr.length)
def Sf.shapeB (f : Sf) : Bool := f.preB && allB f.act.length f.actB

theorem Cat.isB_shape {c : Cat} (h : c.isB = true) : c.Shape := by
  simp only [Cat.isB, Bool.and_eq_true] at h; exact Cat.shapeB_iff.1 h.1
structure Sf.Shape (f : Sf) : Prop where
  cat : f.shp.isB = true
  szl : f.sz.length = f.shp.idn.length
  szm : mapB 17 f.sz = true
  actl : f.act.length = f.shp.fr.length
  act : ∀ a, a < f.act.length → f.actB a = true
section
variable {f : Sf}
theorem Sf.preB_iff : f.preB = true ↔ f.shp.isB = true ∧ f.sz.length = f.shp.idn.length ∧ mapB 17 f.sz = true ∧ f.act.length = f.shp.fr.length := by
  simp only [Sf.preB, Bool.and_eq_true, beq_iff_eq]
  constructor
  · rintro ⟨⟨⟨h1, h2⟩, h3⟩, h4⟩
    have := (Cat.isB_shape h1).idn
    exact ⟨h1, by omega, h3, by omega⟩
  · rintro ⟨h1, h2, h3, h4⟩
    have := (Cat.isB_shape h1).idn
    exact ⟨⟨⟨h1, by omega⟩, h3⟩, by omega⟩
theorem Sf.shapeB_iff : f.shapeB = true ↔ f.Shape := by
  simp only [Sf.shapeB, Bool.and_eq_true, allB_iff, Sf.preB_iff]
  exact ⟨fun ⟨⟨h1, h2, h3, h4⟩, h5⟩ => ⟨h1, h2, h3, h4, h5⟩, fun ⟨h1, h2, h3, h4, h5⟩ => ⟨⟨h1, h2, h3, h4⟩, h5⟩⟩
theorem Sf.Shape.cs (h : f.Shape) : f.shp.Shape := Cat.isB_shape h.cat
theorem Sf.Shape.szi (h : f.Shape) {x : Int} (h0 : 0 ≤ x) (h1 : x < f.shp.idn.length) : 0 ≤ f.sz.getD x.toNat 0 ∧ f.sz.getD x.toNat 0 ≤ 16 := by
  have := mapB_get h.szm (i := x.toNat) (by have := h.szl; omega)
  omega
theorem Sf.Shape.acl (h : f.Shape) {a : Nat} (ha : a < f.shp.fr.length) : (f.act.getD a []).length = f.size (f.shp.fr.getD a 0) ∧ mapB (f.sz.getD (f.shp.to.getD a 0).toNat 0) (f.act.getD a []) = true := by
  have h1 := h.act a (by rw [h.actl]; exact ha)
  simp only [Sf.actB, Bool.and_eq_true, beq_iff_eq] at h1
  have h2 := h.cs.fri ha
  have h3 := h.szi h2.1 h2.2
  exact ⟨by unfold Sf.size; omega, h1.2⟩
theorem Sf.Shape.aci (h : f.Shape) {a : Nat} (ha : a < f.shp.fr.length) {e : Int} (h0 : 0 ≤ e) (he : e < f.size (f.shp.fr.getD a 0)) : 0 ≤ f.ac a e ∧ f.ac a e < f.size (f.shp.to.getD a 0) := by
  have h1 := h.acl ha
  have h2 := mapB_get h1.2 (i := e.toNat) (by omega)
  unfold Sf.ac Sf.size
  rw [Int.toNat_natCast]
  omega

def Sf.idF (f : Sf) (x e : Nat) : Bool := f.ac (f.shp.idI x) e != e
def Sf.coF (f : Sf) (a b e : Nat) : Bool := f.ac (f.shp.cellI a b) e != f.ac b (f.ac a e)
def Sf.fId (f : Sf) : Option (Nat × Nat) := (List.range f.shp.idn.length).findSome? fun (x : Nat) => (List.range (f.size (x : Int))).findSome? fun e => if f.idF x e then some (x, e) else none
def Sf.fRow (f : Sf) (a b : Nat) : Option (Nat × Nat × Nat) := if f.shp.to.getD a 0 == f.shp.fr.getD b 0 then (List.range (f.size (f.shp.fr.getD a 0))).findSome? fun e => if f.coF a b e then some (a, b, e) else none else none
def Sf.fCo (f : Sf) : Option (Nat × Nat × Nat) := (List.range f.shp.fr.length).findSome? fun a => (List.range f.shp.fr.length).findSome? fun b => f.fRow a b
def Sf.faultF (f : Sf) : Int × Int × Int × Int :=
  match f.fId with
  | some (x, e) => (1, x, e, 0)
  | none => match f.fCo with
    | some (a, b, e) => (2, a, b, e)
    | none => (0, 0, 0, 0)
theorem Sf.fault_id {x e : Nat} (h0 : ∀ x' e' : Nat, x' < x → e' < f.size (x' : Int) → f.idF x' e' = false) (hx : x < f.shp.idn.length) (h1 : ∀ e', e' < e → f.idF x e' = false) (he : e < f.size (x : Int)) (h2 : f.idF x e = true) : f.faultF = (1, (x : Int), (e : Int), 0) := by
  have : f.fId = some (x, e) := findSome_first (i := x) (r := (x, e)) _ (fun j hj => findSome_none _ fun e' he' => by rw [h0 j e' hj he']; rfl) hx (findSome_first (i := e) _ (fun j hj => by rw [h1 j hj]; rfl) he (by rw [h2]; rfl))
  unfold Sf.faultF; rw [this]
theorem Sf.fId_no (h0 : ∀ x e : Nat, x < f.shp.idn.length → e < f.size (x : Int) → f.idF x e = false) : f.fId = none := findSome_none _ fun j hj => findSome_none _ fun e' he' => by rw [h0 j e' hj he']; rfl
theorem Sf.fRow_no {a b : Nat} (h : ∀ e', f.shp.to.getD a 0 = f.shp.fr.getD b 0 → e' < f.size (f.shp.fr.getD a 0) → f.coF a b e' = false) : f.fRow a b = none := by
  unfold Sf.fRow
  by_cases h5 : f.shp.to.getD a 0 = f.shp.fr.getD b 0
  · rw [if_pos (by simpa using h5)]
    exact findSome_none _ fun e he => by simp [h e h5 he]
  · rw [if_neg (by simpa using h5)]
theorem Sf.fault_no (h0 : ∀ x e : Nat, x < f.shp.idn.length → e < f.size (x : Int) → f.idF x e = false)
    (h1 : ∀ a b e : Nat, a < f.shp.fr.length → b < f.shp.fr.length → f.shp.to.getD a 0 = f.shp.fr.getD b 0 → e < f.size (f.shp.fr.getD a 0) → f.coF a b e = false) : f.faultF = (0, 0, 0, 0) := by
  have : f.fCo = none := findSome_none _ fun a ha => findSome_none _ fun b hb => fRow_no fun e => h1 a b e ha hb
  unfold Sf.faultF; rw [fId_no h0, this]
theorem Sf.fault_co {a b e : Nat} (h0 : ∀ x e : Nat, x < f.shp.idn.length → e < f.size (x : Int) → f.idF x e = false)
    (h1 : ∀ a' b' e' : Nat, a' < a → b' < f.shp.fr.length → f.shp.to.getD a' 0 = f.shp.fr.getD b' 0 → e' < f.size (f.shp.fr.getD a' 0) → f.coF a' b' e' = false)
    (h2 : ∀ b' e' : Nat, b' < b → f.shp.to.getD a 0 = f.shp.fr.getD b' 0 → e' < f.size (f.shp.fr.getD a 0) → f.coF a b' e' = false)
    (h3 : ∀ e', e' < e → f.coF a b e' = false) (ha : a < f.shp.fr.length) (hb : b < f.shp.fr.length) (hab : f.shp.to.getD a 0 = f.shp.fr.getD b 0) (he : e < f.size (f.shp.fr.getD a 0)) (h4 : f.coF a b e = true) : f.faultF = (2, (a : Int), (b : Int), (e : Int)) := by
  have hr : f.fRow a b = some (a, b, e) := by
    unfold Sf.fRow
    rw [if_pos (by simpa using hab)]
    exact findSome_first (i := e) _ (fun j hj => by simp [h3 j hj]) he (by simp [h4])
  have : f.fCo = some (a, b, e) := findSome_first (i := a) (r := (a, b, e)) _ (fun a' ha' => findSome_none _ fun b' hb' => fRow_no fun e' => h1 a' b' e' ha' hb') ha
    (findSome_first (i := b) _ (fun b' hb' => fRow_no fun e' => h2 b' e' hb') hb hr)
  unfold Sf.faultF; rw [fId_no h0, this]
def Sf.isB (f : Sf) : Bool := f.shapeB && f.faultF.1 == 0

theorem findSome_get {α : Type} {F : Nat → Option α} {n i : Nat} (h : (List.range n).findSome? F = none) (hi : i < n) : F i = none := by
  rw [List.findSome?_eq_none_iff] at h
  exact h i (by simpa using hi)
/-- What is known of a set functor. -/
structure Sf.Ok (f : Sf) : Prop extends Sf.Shape f where
  id : ∀ x e : Nat, x < f.shp.idn.length → e < f.size (x : Int) → f.ac (f.shp.idI x) e = e
  co : ∀ a b e : Nat, a < f.shp.fr.length → b < f.shp.fr.length → f.shp.to.getD a 0 = f.shp.fr.getD b 0 → e < f.size (f.shp.fr.getD a 0) → f.ac (f.shp.cellI a b) e = f.ac b (f.ac a e)
theorem Sf.isB_ok (h : f.isB = true) : f.Ok := by
  simp only [Sf.isB, Bool.and_eq_true, beq_iff_eq] at h
  obtain ⟨h1, h2⟩ := h
  unfold Sf.faultF at h2
  cases h3 : f.fId with
  | some p => rw [h3] at h2; cases h2
  | none =>
    cases h4 : f.fCo with
    | some p => rw [h3, h4] at h2; cases h2
    | none =>
      refine ⟨Sf.shapeB_iff.1 h1, fun x e hx he => ?_, fun a b e ha hb hab he => ?_⟩
      · have := findSome_get (findSome_get h3 hx) he
        simpa [Sf.idF] using this
      · have := findSome_get (findSome_get h4 ha) hb
        unfold Sf.fRow at this
        rw [if_pos (by simpa using hab)] at this
        simpa [Sf.coF] using findSome_get this he
end
end Go.D3
