/- CONTRACTS: small functions of chapters 1, 2 and 40. -/
import Derived.Test.YtclmdejmogmifaaA2
namespace Go.D3
open Go
set_option maxRecDepth 100000

def inR (n lo hi : Int) : Bool := decide (lo ≤ n) && decide (n ≤ hi)
def mapB (n : Int) (f : List Int) : Bool := f.all fun y => decide (0 ≤ y) && decide (y < n)
def isL (t : List UInt8) : Bool := (t.length : Int) == 1 && decide (97 ≤ ((t.getD 0 0).toNat : Int)) && decide (((t.getD 0 0).toNat : Int) ≤ 122)

-- spec.l01In
def c_spec_l01In : C :=
  (.seq (.ops [] [⟨none, .asg 3 (.k (.bool false))⟩] [])
  (.seq (.ops [] [⟨none, .mv (.v 0)⟩,
    ⟨none, .mv (.v 1)⟩,
    ⟨none, .bin .geq (.t 0) (.t 1)⟩,
    ⟨none, .mv (.t 2)⟩,
    ⟨some (3, true), .mv (.v 0)⟩,
    ⟨some (3, true), .mv (.v 2)⟩,
    ⟨some (3, true), .bin .leq (.t 4) (.t 5)⟩,
    ⟨none, .pick (.t 3) (.t 6) (.k (.bool false))⟩,
    ⟨none, .asg 3 (.t 7)⟩] [])
  .ret))
def tr_spec_l01In : List Nat := [0, 1, 2, 6]
def rs_spec_l01In : List RS := [.t 3]
theorem ok_spec_l01In : fnOk Go.Proofs.Try.prog Go.Proofs.Try.f140 tr_spec_l01In c_spec_l01In 3 rs_spec_l01In = true := by decide +kernel

theorem ret_spec_l01In (n lo hi : Int) : Ret Go.Proofs.Try.prog 140 [.v (.int .i64 n), .v (.int .i64 lo), .v (.int .i64 hi)] (.bool (inR n lo hi)) := by
  unfold inR
  refine ret_fn Go.Proofs.Try.func140 ok_spec_l01In rfl (show 3 < 500 by decide) rfl ?_
  unfold c_spec_l01In tr_spec_l01In rs_spec_l01In
  simp only [go_sem, Nat.reduceLT, Nat.reduceAdd, Nat.reduceSub, Nat.reduceEqDiff, Nat.reduceBEq, Nat.reduceLeDiff, ↓reduceIte]
-- impl.inRange
def c_impl_inRange : C :=
  (.seq (.ops [] [⟨none, .asg 3 (.k (.bool false))⟩] [])
  (.seq (.ops [] [⟨none, .mv (.v 0)⟩,
    ⟨none, .mv (.v 1)⟩,
    ⟨none, .bin .geq (.t 0) (.t 1)⟩,
    ⟨none, .mv (.t 2)⟩,
    ⟨some (3, true), .mv (.v 0)⟩,
    ⟨some (3, true), .mv (.v 2)⟩,
    ⟨some (3, true), .bin .leq (.t 4) (.t 5)⟩,
    ⟨none, .pick (.t 3) (.t 6) (.k (.bool false))⟩,
    ⟨none, .asg 3 (.t 7)⟩] [])
  .ret))
def tr_impl_inRange : List Nat := [0, 1, 2, 6]
def rs_impl_inRange : List RS := [.t 3]
theorem ok_impl_inRange : fnOk Go.Proofs.Try.prog Go.Proofs.Try.f144 tr_impl_inRange c_impl_inRange 3 rs_impl_inRange = true := by decide +kernel

theorem ret_impl_inRange (n lo hi : Int) : Ret Go.Proofs.Try.prog 144 [.v (.int .i64 n), .v (.int .i64 lo), .v (.int .i64 hi)] (.bool (inR n lo hi)) := by
  unfold inR
  refine ret_fn Go.Proofs.Try.func144 ok_impl_inRange rfl (show 3 < 500 by decide) rfl ?_
  unfold c_impl_inRange tr_impl_inRange rs_impl_inRange
  simp only [go_sem, Nat.reduceLT, Nat.reduceAdd, Nat.reduceSub, Nat.reduceEqDiff, Nat.reduceBEq, Nat.reduceLeDiff, ↓reduceIte]
-- spec.l01Map
def c_spec_l01Map : C :=
  (.seq (.ops [] [⟨none, .asg 2 (.k (.bool false))⟩] [])
  (.seq (.seq (.ops [] [⟨none, .asg 3 (.i 0)⟩] [])
  (.block 0 (.loop (.seq (.opc [] [⟨none, .mv (.v 3)⟩,
    ⟨none, .mv (.v 1)⟩,
    ⟨none, .len (.t 1)⟩,
    ⟨none, .bin .lss (.t 0) (.t 2)⟩] [] (.t 3) .skip
  (.exit 0))
  (.seq (.block 1 (.opc [] [⟨none, .mv (.v 1)⟩,
    ⟨none, .mv (.v 3)⟩,
    ⟨none, .idxA 1 (.t 0) (.t 1)⟩,
    ⟨none, .ld (.t 2)⟩,
    ⟨none, .bin .lss (.t 3) (.i 0)⟩,
    ⟨none, .mv (.t 4)⟩,
    ⟨some (5, false), .mv (.v 1)⟩,
    ⟨some (5, false), .mv (.v 3)⟩,
    ⟨some (5, false), .idxA 1 (.t 6) (.t 7)⟩,
    ⟨some (5, false), .ld (.t 8)⟩,
    ⟨some (5, false), .mv (.v 0)⟩,
    ⟨some (5, false), .bin .geq (.t 9) (.t 10)⟩,
    ⟨none, .pick (.t 5) (.k (.bool true)) (.t 11)⟩] [] (.t 12) (.seq (.ops [] [⟨none, .asg 2 (.k (.bool false))⟩] [])
  .ret)
  .skip))
  (.ops [] [⟨none, .mv (.v 3)⟩,
    ⟨none, .bin .add (.t 0) (.i 1)⟩,
    ⟨none, .asg 3 (.t 1)⟩] []))))))
  (.seq (.ops [] [⟨none, .asg 2 (.k (.bool true))⟩] [])
  .ret)))
def tr_spec_l01Map : List Nat := [0, 1, 4, 5]
def rs_spec_l01Map : List RS := [.t 2]
theorem ok_spec_l01Map : fnOk Go.Proofs.Try.prog Go.Proofs.Try.f142 tr_spec_l01Map c_spec_l01Map 2 rs_spec_l01Map = true := by decide +kernel

theorem ret_spec_l01Map (n : Int) (f : List Int) : Ret Go.Proofs.Try.prog 142 [.v (.int .i64 n), .v (ints f)] (.bool (mapB n f)) := by
  refine ret_wf fun hw => ?_
  simp only [argsWf, wfd_lst] at hw
  obtain ⟨-, ⟨hw, -⟩, -⟩ := hw
  refine ret_fn Go.Proofs.Try.func142 ok_spec_l01Map rfl (show 2 < 500 by decide) rfl ?_
  unfold c_spec_l01Map tr_spec_l01Map rs_spec_l01Map
  simp only [go_sem, Nat.reduceLT, Nat.reduceAdd, Nat.reduceSub, Nat.reduceEqDiff, Nat.reduceBEq, Nat.reduceLeDiff, ↓reduceIte]
  refine loop_set [] (fun (i : Nat) => [(3, .int .i64 i)]) (fun i => i ≤ f.length ∧ mapB n (f.take i) = true) (fun i => f.length - i) 0 rfl ⟨Nat.zero_le _, rfl⟩ rfl ?_
  rintro i ⟨hi, ha⟩
  simp only [go_sem, Nat.reduceLT, Nat.reduceAdd, Nat.reduceSub, Nat.reduceEqDiff, Nat.reduceBEq, Nat.reduceLeDiff, ↓reduceIte]
  (repeat' (first | (refine And.intro ?_ ?_) | intro)) <;> (try (first | trivial | assumption | omega | (simp_all; done) | (simp_all; omega)))
  · rename_i h1 h2
    symm; refine all_stop (d := 0) h1 ?_
    simp only [Bool.or_eq_true, decide_eq_true_eq] at h2
    simp only [Bool.and_eq_false_iff, decide_eq_false_iff_not]; omega
  · rename_i h1 h2
    simp only [Bool.or_eq_false_iff, decide_eq_false_iff_not] at h2
    exact ⟨i + 1, ⟨by omega, all_step (d := 0) h1 ha (by simp only [Bool.and_eq_true, decide_eq_true_eq]; omega)⟩, by omega, by rw [wrap_lt h1 hw]⟩
  · rename_i h1
    exact (all_end (by omega) ha).symm
-- impl.within
def c_impl_within : C :=
  (.seq (.ops [] [⟨none, .asg 2 (.k (.bool false))⟩] [])
  (.seq (.seq (.ops [5] [⟨none, .asg 4 (.v 0)⟩,
    ⟨none, .len (.v 4)⟩,
    ⟨none, .asg 6 (.i 0)⟩] [(5, 1)])
  (.block 0 (.loop (.opq [] [⟨none, .bin .lss (.v 6) (.v 5)⟩] [] (.t 0) .skip
  (.exit 0)
  (.seq (.block 1 (.seq (.ops [] [⟨none, .idxA 1 (.v 4) (.v 6)⟩,
    ⟨none, .ld (.t 0)⟩,
    ⟨none, .asg 3 (.t 1)⟩] [])
  (.opc [] [⟨none, .mv (.v 3)⟩,
    ⟨none, .mv (.v 1)⟩,
    ⟨none, .bin .sub (.t 1) (.i 1)⟩,
    ⟨none, .call 144 [(.t 0), (.i 0), (.t 2)]⟩,
    ⟨none, .not (.t 3)⟩] [] (.t 4) (.seq (.ops [] [⟨none, .asg 2 (.k (.bool false))⟩] [])
  .ret)
  .skip)))
  (.ops [] [⟨none, .bin .add (.v 6) (.i 1)⟩,
    ⟨none, .asg 6 (.t 0)⟩] []))))))
  (.seq (.ops [] [⟨none, .asg 2 (.k (.bool true))⟩] [])
  .ret)))
def tr_impl_within : List Nat := [0, 1, 4, 6, 7, 8, 9]
def rs_impl_within : List RS := [.t 2]
theorem ok_impl_within : fnOk Go.Proofs.Try.prog Go.Proofs.Try.f100 tr_impl_within c_impl_within 2 rs_impl_within = true := by decide +kernel

theorem inR_pred {y n : Int} (hn : -4611686018427387904 ≤ n) (hn2 : n ≤ 9223372036854775807) : inR y 0 (IntKind.i64.wrap (n - 1)) = (decide (0 ≤ y) && decide (y < n)) := by
  unfold inR
  rw [wrap_of_has ⟨by simp [IntKind.min, IntKind.signed, IntKind.bits]; omega, by simp [IntKind.max, IntKind.signed, IntKind.bits]; omega⟩]
  congr 1
  exact decide_eq_decide.2 ⟨fun h => by omega, fun h => by omega⟩
theorem ret_impl_within (n : Int) (f : List Int) (hn : 0 ≤ n) : Ret Go.Proofs.Try.prog 100 [.v (ints f), .v (.int .i64 n)] (.bool (mapB n f)) := by
  refine ret_wf fun hw => ?_
  simp only [argsWf, wfd_lst, D.wfd, IntKind.has, IntKind.max, IntKind.signed, IntKind.bits] at hw
  obtain ⟨⟨hw, -⟩, ⟨-, hn2⟩, -⟩ := hw
  have hp := fun y => inR_pred (y := y) (n := n) (by omega) (by simpa using hn2)
  refine ret_fn Go.Proofs.Try.func100 ok_impl_within rfl (show 2 < 500 by decide) rfl ?_
  unfold c_impl_within tr_impl_within rs_impl_within
  simp only [go_sem, Nat.reduceLT, Nat.reduceAdd, Nat.reduceSub, Nat.reduceEqDiff, Nat.reduceBEq, Nat.reduceLeDiff, ↓reduceIte]
  refine loop_set [3] (fun (i : Nat) => [(6, .int .i64 i)]) (fun i => i ≤ f.length ∧ mapB n (f.take i) = true) (fun i => f.length - i) 0 rfl ⟨Nat.zero_le _, rfl⟩ rfl ?_
  rintro i ⟨hi, ha⟩
  simp only [go_sem, Nat.reduceLT, Nat.reduceAdd, Nat.reduceSub, Nat.reduceEqDiff, Nat.reduceBEq, Nat.reduceLeDiff, ↓reduceIte]
  refine ⟨fun h => ⟨h, call_of (ret_impl_inRange _ _ _) rfl (.inl rfl) ?_⟩, fun h => (all_end (by omega) ha).symm⟩
  simp only [go_sem, Nat.reduceLT, Nat.reduceAdd, Nat.reduceSub, Nat.reduceEqDiff, Nat.reduceBEq, Nat.reduceLeDiff, ↓reduceIte]
  rw [hp]
  refine ⟨fun h2 => ?_, fun h2 => ⟨i + 1, ⟨by omega, all_step (d := 0) h ha (by simpa using h2)⟩, by omega, by rw [wrap_lt h hw]⟩⟩
  exact (all_stop (d := 0) h (by rw [Bool.not_eq_true'] at h2; exact h2)).symm
-- spec.l40Letter
def c_spec_l40Letter : C :=
  (.seq (.ops [] [⟨none, .asg 1 (.k (.bool false))⟩] [])
  (.seq (.ops [] [⟨none, .mv (.v 0)⟩,
    ⟨none, .lenS (.t 0)⟩,
    ⟨none, .bin .eql (.t 1) (.i 1)⟩,
    ⟨none, .mv (.t 2)⟩,
    ⟨some (3, true), .mv (.v 0)⟩,
    ⟨some (3, true), .idxS (.t 4) (.i 0)⟩,
    ⟨some (3, true), .bin .geq (.t 5) (.k (.int .u8 97))⟩,
    ⟨none, .pick (.t 3) (.t 6) (.k (.bool false))⟩,
    ⟨none, .mv (.t 7)⟩,
    ⟨some (8, true), .mv (.v 0)⟩,
    ⟨some (8, true), .idxS (.t 9) (.i 0)⟩,
    ⟨some (8, true), .bin .leq (.t 10) (.k (.int .u8 122))⟩,
    ⟨none, .pick (.t 8) (.t 11) (.k (.bool false))⟩,
    ⟨none, .asg 1 (.t 12)⟩] [])
  .ret))
def tr_spec_l40Letter : List Nat := [0, 2]
def rs_spec_l40Letter : List RS := [.t 1]
theorem ok_spec_l40Letter : fnOk Go.Proofs.Try.prog Go.Proofs.Try.f50 tr_spec_l40Letter c_spec_l40Letter 1 rs_spec_l40Letter = true := by decide +kernel

theorem ret_spec_l40Letter (t : List UInt8) : Ret Go.Proofs.Try.prog 50 [.v (.str t)] (.bool (isL t)) := by
  refine ret_fn Go.Proofs.Try.func50 ok_spec_l40Letter rfl (show 1 < 500 by decide) rfl ?_
  unfold c_spec_l40Letter tr_spec_l40Letter rs_spec_l40Letter
  simp only [go_sem, Nat.reduceLT, Nat.reduceAdd, Nat.reduceSub, Nat.reduceEqDiff, Nat.reduceBEq, Nat.reduceLeDiff, ↓reduceIte]
  unfold isL
  (repeat' (first | (refine And.intro ?_ ?_) | intro)) <;> (try (first | trivial | assumption | omega | (simp_all; done) | (simp_all; omega)))
-- impl.isLetter
def c_impl_isLetter : C :=
  (.seq (.ops [] [⟨none, .asg 1 (.k (.bool false))⟩] [])
  (.seq (.ops [] [⟨none, .mv (.v 0)⟩,
    ⟨none, .lenS (.t 0)⟩,
    ⟨none, .bin .eql (.t 1) (.i 1)⟩,
    ⟨none, .mv (.t 2)⟩,
    ⟨some (3, true), .mv (.v 0)⟩,
    ⟨some (3, true), .idxS (.t 4) (.i 0)⟩,
    ⟨some (3, true), .bin .geq (.t 5) (.k (.int .u8 97))⟩,
    ⟨none, .pick (.t 3) (.t 6) (.k (.bool false))⟩,
    ⟨none, .mv (.t 7)⟩,
    ⟨some (8, true), .mv (.v 0)⟩,
    ⟨some (8, true), .idxS (.t 9) (.i 0)⟩,
    ⟨some (8, true), .bin .leq (.t 10) (.k (.int .u8 122))⟩,
    ⟨none, .pick (.t 8) (.t 11) (.k (.bool false))⟩,
    ⟨none, .asg 1 (.t 12)⟩] [])
  .ret))
def tr_impl_isLetter : List Nat := [0, 2]
def rs_impl_isLetter : List RS := [.t 1]
theorem ok_impl_isLetter : fnOk Go.Proofs.Try.prog Go.Proofs.Try.f97 tr_impl_isLetter c_impl_isLetter 1 rs_impl_isLetter = true := by decide +kernel

theorem ret_impl_isLetter (t : List UInt8) : Ret Go.Proofs.Try.prog 97 [.v (.str t)] (.bool (isL t)) := by
  refine ret_fn Go.Proofs.Try.func97 ok_impl_isLetter rfl (show 1 < 500 by decide) rfl ?_
  unfold c_impl_isLetter tr_impl_isLetter rs_impl_isLetter
  simp only [go_sem, Nat.reduceLT, Nat.reduceAdd, Nat.reduceSub, Nat.reduceEqDiff, Nat.reduceBEq, Nat.reduceLeDiff, ↓reduceIte]
  unfold isL
  (repeat' (first | (refine And.intro ?_ ?_) | intro)) <;> (try (first | trivial | assumption | omega | (simp_all; done) | (simp_all; omega)))
-- spec.l02Ends
def c_spec_l02Ends : C :=
  (.seq (.ops [] [⟨none, .asg 3 (.k (.bool false))⟩] [])
  (.seq (.ops [] [⟨none, .mv (.v 0)⟩,
    ⟨none, .len (.t 0)⟩,
    ⟨none, .mv (.v 1)⟩,
    ⟨none, .bin .eql (.t 1) (.t 2)⟩,
    ⟨none, .mv (.t 3)⟩,
    ⟨some (4, true), .mv (.v 2)⟩,
    ⟨some (4, true), .mv (.v 0)⟩,
    ⟨some (4, true), .call 142 [(.t 5), (.t 6)]⟩,
    ⟨none, .pick (.t 4) (.t 7) (.k (.bool false))⟩,
    ⟨none, .asg 3 (.t 8)⟩] [])
  .ret))
def tr_spec_l02Ends : List Nat := [0, 1, 2, 6]
def rs_spec_l02Ends : List RS := [.t 3]
theorem ok_spec_l02Ends : fnOk Go.Proofs.Try.prog Go.Proofs.Try.f141 tr_spec_l02Ends c_spec_l02Ends 3 rs_spec_l02Ends = true := by decide +kernel

theorem ret_spec_l02Ends (l : List Int) (n ob : Int) : Ret Go.Proofs.Try.prog 141 [.v (ints l), .v (.int .i64 n), .v (.int .i64 ob)] (.bool ((l.length : Int) == n && mapB ob l)) := by
  refine ret_fn Go.Proofs.Try.func141 ok_spec_l02Ends rfl (show 3 < 500 by decide) rfl ?_
  unfold c_spec_l02Ends tr_spec_l02Ends rs_spec_l02Ends
  simp only [go_sem, Nat.reduceLT, Nat.reduceAdd, Nat.reduceSub, Nat.reduceEqDiff, Nat.reduceBEq, Nat.reduceLeDiff, ↓reduceIte]
  refine callg_of (fun h => ret_spec_l01Map ob l) rfl (fun h => by simp [h]) (.inl rfl) ?_
  simp only [go_sem, Nat.reduceLT, Nat.reduceAdd, Nat.reduceSub, Nat.reduceEqDiff, Nat.reduceBEq, Nat.reduceLeDiff, ↓reduceIte]
-- (*impl.Category).arrows
def c_impl_Category_arrows : C :=
  (.seq (.ops [] [⟨none, .asg 1 (.i 0)⟩] [])
  (.seq (.ops [] [⟨none, .mv (.v 0)⟩,
    ⟨none, .nck (.t 0)⟩,
    ⟨none, .fA 1 (.t 1)⟩,
    ⟨none, .ld (.t 2)⟩,
    ⟨none, .len (.t 3)⟩,
    ⟨none, .asg 1 (.t 4)⟩] [])
  .ret))
def tr_impl_Category_arrows : List Nat := [0, 2]
def rs_impl_Category_arrows : List RS := [.t 1]
theorem ok_impl_Category_arrows : fnOk Go.Proofs.Try.prog Go.Proofs.Try.f111 tr_impl_Category_arrows c_impl_Category_arrows 1 rs_impl_Category_arrows = true := by decide +kernel

theorem ret_impl_Category_arrows (c : Cat) : Ret Go.Proofs.Try.prog 111 [.v (.ptr c.cells)] (.int .i64 c.fr.length) := by
  refine ret_fn Go.Proofs.Try.func111 ok_impl_Category_arrows rfl (show 1 < 500 by decide) rfl ?_
  unfold c_impl_Category_arrows tr_impl_Category_arrows rs_impl_Category_arrows
  simp only [go_sem, Nat.reduceLT, Nat.reduceAdd, Nat.reduceSub, Nat.reduceEqDiff, Nat.reduceBEq, Nat.reduceLeDiff, ↓reduceIte]
-- (*impl.Category).ends
def c_impl_Category_ends : C :=
  (.seq (.ops [2] [⟨none, .alc [.int .i64 0, .int .i64 0]⟩] [(2, 0)])
  (.seq (.ops [] [⟨none, .mv (.v 0)⟩,
    ⟨none, .nck (.t 0)⟩,
    ⟨none, .fA 1 (.t 1)⟩,
    ⟨none, .ld (.t 2)⟩,
    ⟨none, .mv (.v 1)⟩,
    ⟨none, .idxA 1 (.t 3) (.t 4)⟩,
    ⟨none, .ld (.t 5)⟩,
    ⟨none, .mv (.v 0)⟩,
    ⟨none, .nck (.t 7)⟩,
    ⟨none, .fA 2 (.t 8)⟩,
    ⟨none, .ld (.t 9)⟩,
    ⟨none, .mv (.v 1)⟩,
    ⟨none, .idxA 1 (.t 10) (.t 11)⟩,
    ⟨none, .ld (.t 12)⟩,
    ⟨none, .bld [.int .i64 0, .int .i64 0] [(0, 1, (.t 6)), (1, 1, (.t 13))]⟩,
    ⟨none, .stn 2 (.v 2) (.t 14)⟩] [])
  .ret))
def tr_impl_Category_ends : List Nat := [0, 1, 4]
def rs_impl_Category_ends : List RS := [.c 2 2 true]
theorem ok_impl_Category_ends : fnOk Go.Proofs.Try.prog Go.Proofs.Try.f155 tr_impl_Category_ends c_impl_Category_ends 2 rs_impl_Category_ends = true := by decide +kernel

theorem ret_impl_Category_ends (c : Cat) (f : Int) (h0 : 0 ≤ f) (h1 : f < c.fr.length) (h2 : f < c.to.length) : Ret Go.Proofs.Try.prog 155 [.v (.ptr c.cells), .v (.int .i64 f)] (.agg [.int .i64 (c.fr.getD f.toNat 0), .int .i64 (c.to.getD f.toNat 0)]) := by
  refine ret_fn Go.Proofs.Try.func155 ok_impl_Category_ends rfl (show 2 < 500 by decide) rfl ?_
  unfold c_impl_Category_ends tr_impl_Category_ends rs_impl_Category_ends
  simp only [go_sem, Nat.reduceLT, Nat.reduceAdd, Nat.reduceSub, Nat.reduceEqDiff, Nat.reduceBEq, Nat.reduceLeDiff, ↓reduceIte]
  exact ⟨⟨h0, h1⟩, h0, h2⟩
-- (*impl.Category).then
def c_impl_Category_then : C :=
  (.seq (.ops [] [⟨none, .asg 3 (.i 0)⟩] [])
  (.seq (.ops [] [⟨none, .mv (.v 0)⟩,
    ⟨none, .nck (.t 0)⟩,
    ⟨none, .fA 4 (.t 1)⟩,
    ⟨none, .ld (.t 2)⟩,
    ⟨none, .mv (.v 1)⟩,
    ⟨none, .idxA 1 (.t 3) (.t 4)⟩,
    ⟨none, .ld (.t 5)⟩,
    ⟨none, .mv (.v 2)⟩,
    ⟨none, .idxA 1 (.t 6) (.t 7)⟩,
    ⟨none, .ld (.t 8)⟩,
    ⟨none, .asg 3 (.t 9)⟩] [])
  .ret))
def tr_impl_Category_then : List Nat := [0, 1, 2, 6]
def rs_impl_Category_then : List RS := [.t 3]
theorem ok_impl_Category_then : fnOk Go.Proofs.Try.prog Go.Proofs.Try.f104 tr_impl_Category_then c_impl_Category_then 3 rs_impl_Category_then = true := by decide +kernel

theorem ret_impl_Category_then (c : Cat) (f g : Int) (h0 : 0 ≤ f) (h1 : f < c.co.length) (h2 : 0 ≤ g) (h3 : g < (c.co.getD f.toNat []).length) : Ret Go.Proofs.Try.prog 104 [.v (.ptr c.cells), .v (.int .i64 f), .v (.int .i64 g)] (.int .i64 ((c.co.getD f.toNat []).getD g.toNat 0)) := by
  refine ret_fn Go.Proofs.Try.func104 ok_impl_Category_then rfl (show 3 < 500 by decide) rfl ?_
  unfold c_impl_Category_then tr_impl_Category_then rs_impl_Category_then
  simp only [go_sem, Nat.reduceLT, Nat.reduceAdd, Nat.reduceSub, Nat.reduceEqDiff, Nat.reduceBEq, Nat.reduceLeDiff, ↓reduceIte]
  exact ⟨⟨h0, h1⟩, h2, h3⟩
end Go.D3
