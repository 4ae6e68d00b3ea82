/- CONTRACTS: sizes of arguments. -/
import Derived.Test.YtclmdejmogmifaaKit
import Derived.Test.YtclmdejmogmifaaProg
namespace Go.D3
open Go
set_option maxRecDepth 100000

structure Cat where
  ob : Int
  fr : List (Int)
  to : List (Int)
  idn : List (Int)
  co : List (List (Int))
def Cat.cells (x : Cat) : List D := [.int .i64 x.ob, ints x.fr, ints x.to, ints x.idn, intss x.co]
def Cat.d (x : Cat) : D := .agg x.cells
def Cat.zero : Cat := ⟨0, [], [], [], []⟩
def Cat.cost (x : Cat) : Nat := x.fr.length + x.to.length + x.idn.length + costL List.length x.co
theorem slice_Cat : D.slice (.agg [.int .i64 0, ints [], ints [], ints [], intss []]) [] = lst Cat.d Cat.zero [] := rfl
theorem rep_Cat {n : Nat} : D.slice (.agg [.int .i64 0, ints [], ints [], ints [], intss []]) (List.replicate n (.agg [.int .i64 0, ints [], ints [], ints [], intss []])) = lst Cat.d Cat.zero (List.replicate n Cat.zero) := by unfold lst; rw [List.map_replicate]; rfl
theorem setCs_Cat {l : List Cat} {i : Nat} {ob : Int} {fr : List (Int)} {to : List (Int)} {idn : List (Int)} {co : List (List (Int))} : setCs (.o (lst Cat.d Cat.zero l)) [(i, 0)] 0 [.int .i64 ob, ints fr, ints to, ints idn, intss co] = .o (lst Cat.d Cat.zero (l.set i ⟨ob, fr, to, idn, co⟩)) := setCs_lst (n := 5) (fun _ => ⟨_, rfl, rfl⟩) rfl
attribute [go_sem] Cat.cells.eq_1 Cat.d.eq_1 slice_Cat rep_Cat
attribute [go_sem high] setCs_Cat
theorem nv_Cat (x : Cat) : x.d.novw = true := by simp only [Cat.d, Cat.cells, D.novw, novwL, nv_ints, nv_intss, Bool.and_self]
theorem cells_Cat (x : Cat) : x.d.cells.length = 5 := rfl

structure Bnd where
  nm : List UInt8
  cat : Cat
def Bnd.cells (x : Bnd) : List D := [.str x.nm, .int .i64 x.cat.ob, ints x.cat.fr, ints x.cat.to, ints x.cat.idn, intss x.cat.co]
def Bnd.d (x : Bnd) : D := .agg x.cells
def Bnd.zero : Bnd := ⟨[], Cat.zero⟩
def Bnd.cost (x : Bnd) : Nat := x.nm.length + Cat.cost x.cat
theorem slice_Bnd : D.slice (.agg [.str [], .int .i64 0, ints [], ints [], ints [], intss []]) [] = lst Bnd.d Bnd.zero [] := rfl
theorem rep_Bnd {n : Nat} : D.slice (.agg [.str [], .int .i64 0, ints [], ints [], ints [], intss []]) (List.replicate n (.agg [.str [], .int .i64 0, ints [], ints [], ints [], intss []])) = lst Bnd.d Bnd.zero (List.replicate n Bnd.zero) := by unfold lst; rw [List.map_replicate]; rfl
theorem setCs_Bnd {l : List Bnd} {i : Nat} {nm : List UInt8} {catob : Int} {catfr : List (Int)} {catto : List (Int)} {catidn : List (Int)} {catco : List (List (Int))} : setCs (.o (lst Bnd.d Bnd.zero l)) [(i, 0)] 0 [.str nm, .int .i64 catob, ints catfr, ints catto, ints catidn, intss catco] = .o (lst Bnd.d Bnd.zero (l.set i ⟨nm, ⟨catob, catfr, catto, catidn, catco⟩⟩)) := setCs_lst (n := 6) (fun _ => ⟨_, rfl, rfl⟩) rfl
attribute [go_sem] Bnd.cells.eq_1 Bnd.d.eq_1 slice_Bnd rep_Bnd
attribute [go_sem high] setCs_Bnd
theorem nv_Bnd (x : Bnd) : x.d.novw = true := by simp only [Bnd.d, Bnd.cells, D.novw, novwL, nv_ints, nv_intss, Bool.and_self]
theorem cells_Bnd (x : Bnd) : x.d.cells.length = 6 := rfl

-- laws.szInt64S
def c_laws_szInt64S : C :=
  (.seq (.ops [] [⟨none, .asg 2 (.i 0)⟩] [])
  (.seq (.ops [] [⟨none, .mv (.v 1)⟩,
    ⟨none, .mv (.v 0)⟩,
    ⟨none, .len (.t 1)⟩,
    ⟨none, .bin .sub (.t 0) (.t 2)⟩,
    ⟨none, .asg 1 (.t 3)⟩] [])
  (.seq (.opc [] [⟨none, .mv (.v 1)⟩,
    ⟨none, .bin .lss (.t 0) (.i 0)⟩] [] (.t 1) (.seq (.ops [] [⟨none, .asg 2 (.i (-1))⟩] [])
  .ret)
  .skip)
  (.seq (.ops [] [⟨none, .mv (.v 1)⟩,
    ⟨none, .asg 2 (.t 0)⟩] [])
  .ret))))
def tr_laws_szInt64S : List Nat := [0, 1, 4]
def rs_laws_szInt64S : List RS := [.t 2]
theorem ok_laws_szInt64S : fnOk Go.Proofs.Try.prog Go.Proofs.Try.f55 tr_laws_szInt64S c_laws_szInt64S 2 rs_laws_szInt64S = true := by decide +kernel

theorem ret_laws_szInt64S (a : List (Int)) (left : Int) (h0 : 0 ≤ left) (h1 : left ≤ 1048576) : Ret Go.Proofs.Try.prog 55 [.v (ints a), .v (.int .i64 left)] (.int .i64 (sb left (a.length))) := by
  refine ret_wf fun hw => ?_
  simp only [argsWf, wfd_lst] at hw
  obtain ⟨⟨hw, -⟩, -⟩ := hw
  refine ret_fn Go.Proofs.Try.func55 ok_laws_szInt64S rfl (show 2 < 500 by decide) rfl ?_
  unfold c_laws_szInt64S tr_laws_szInt64S rs_laws_szInt64S
  simp only [go_sem, Nat.reduceLT, Nat.reduceAdd, Nat.reduceSub, Nat.reduceEqDiff, Nat.reduceBEq, Nat.reduceLeDiff, ↓reduceIte]
  rw [wrap_sub h0 (by simp only [maxLen]; omega) hw]
  unfold sb
  refine ⟨fun h => ?_, fun h => ?_⟩
  · rw [if_neg (by omega)]
  · rw [if_pos (by omega)]

-- laws.szInt64SS
def c_laws_szInt64SS : C :=
  (.seq (.ops [] [⟨none, .asg 2 (.i 0)⟩] [])
  (.seq (.ops [] [⟨none, .mv (.v 1)⟩,
    ⟨none, .mv (.v 0)⟩,
    ⟨none, .len (.t 1)⟩,
    ⟨none, .bin .sub (.t 0) (.t 2)⟩,
    ⟨none, .asg 1 (.t 3)⟩] [])
  (.seq (.opc [] [⟨none, .mv (.v 1)⟩,
    ⟨none, .bin .lss (.t 0) (.i 0)⟩] [] (.t 1) (.seq (.ops [] [⟨none, .asg 2 (.i (-1))⟩] [])
  .ret)
  .skip)
  (.seq (.seq (.ops [] [⟨none, .asg 3 (.i 0)⟩] [])
  (.block 0 (.loop (.seq (.opc [] [⟨none, .mv (.v 3)⟩,
    ⟨none, .mv (.v 0)⟩,
    ⟨none, .len (.t 1)⟩,
    ⟨none, .bin .lss (.t 0) (.t 2)⟩] [] (.t 3) .skip
  (.exit 0))
  (.seq (.block 1 (.seq (.ops [] [⟨none, .mv (.v 0)⟩,
    ⟨none, .mv (.v 3)⟩,
    ⟨none, .idxA 1 (.t 0) (.t 1)⟩,
    ⟨none, .ld (.t 2)⟩,
    ⟨none, .mv (.v 1)⟩,
    ⟨none, .call 55 [(.t 3), (.t 4)]⟩,
    ⟨none, .asg 1 (.t 5)⟩] [])
  (.opc [] [⟨none, .mv (.v 1)⟩,
    ⟨none, .bin .lss (.t 0) (.i 0)⟩] [] (.t 1) (.seq (.ops [] [⟨none, .asg 2 (.i (-1))⟩] [])
  .ret)
  .skip)))
  (.ops [] [⟨none, .mv (.v 3)⟩,
    ⟨none, .bin .add (.t 0) (.i 1)⟩,
    ⟨none, .asg 3 (.t 1)⟩] []))))))
  (.seq (.ops [] [⟨none, .mv (.v 1)⟩,
    ⟨none, .asg 2 (.t 0)⟩] [])
  .ret)))))
def tr_laws_szInt64SS : List Nat := [0, 1, 4, 5]
def rs_laws_szInt64SS : List RS := [.t 2]
theorem ok_laws_szInt64SS : fnOk Go.Proofs.Try.prog Go.Proofs.Try.f56 tr_laws_szInt64SS c_laws_szInt64SS 2 rs_laws_szInt64SS = true := by decide +kernel

theorem ret_laws_szInt64SS (a : List (List (Int))) (left : Int) (h0 : 0 ≤ left) (h1 : left ≤ 1048576) : Ret Go.Proofs.Try.prog 56 [.v (intss a), .v (.int .i64 left)] (.int .i64 (sb left (costL List.length a))) := by
  refine ret_wf fun hw => ?_
  simp only [argsWf, wfd_lst] at hw
  obtain ⟨⟨hw, -⟩, -⟩ := hw
  refine ret_fn Go.Proofs.Try.func56 ok_laws_szInt64SS rfl (show 2 < 500 by decide) rfl ?_
  unfold c_laws_szInt64SS tr_laws_szInt64SS rs_laws_szInt64SS
  simp only [go_sem, Nat.reduceLT, Nat.reduceAdd, Nat.reduceSub, Nat.reduceEqDiff, Nat.reduceBEq, Nat.reduceLeDiff, ↓reduceIte]
  rw [wrap_sub h0 (by simp only [maxLen]; omega) hw]
  refine ⟨fun h => ?_, fun h => ?_⟩
  · unfold sb costL; rw [if_neg (by omega)]
  refine loop_set [] (fun (i : Nat) => [(1, .int .i64 (left - a.length - (((a.take i).map List.length).sum : Nat))), (3, .int .i64 i)]) (fun i => i ≤ a.length ∧ 0 ≤ left - a.length - (((a.take i).map List.length).sum : Nat)) (fun i => a.length - i) 0 rfl ⟨Nat.zero_le _, by simp; omega⟩ ?_ ?_
  · simp only [go_sem, List.take_zero, List.map_nil, List.sum_nil]; simp
  rintro i ⟨hi, ha⟩
  simp only [go_sem, Nat.reduceLT, Nat.reduceAdd, Nat.reduceSub, Nat.reduceEqDiff, Nat.reduceBEq, Nat.reduceLeDiff, ↓reduceIte]
  refine ⟨fun h2 => ⟨h2, call_of (ret_laws_szInt64S (a.getD i []) _ ha (by omega)) rfl (.inl rfl) ?_⟩, fun h2 => ?_⟩
  · simp only [go_sem, Nat.reduceLT, Nat.reduceAdd, Nat.reduceSub, Nat.reduceEqDiff, Nat.reduceBEq, Nat.reduceLeDiff, ↓reduceIte]
    refine ⟨fun h3 => ?_, fun h3 => ?_⟩
    · rw [sb_step h2 _ h3]
    · obtain ⟨e1, e2⟩ := sb_go h2 _ h3
      exact ⟨i + 1, ⟨by omega, e2⟩, by omega, by rw [e1, wrap_lt h2 hw]⟩
  · rw [sb_end hi h2 ha]

-- laws.szCategory
def c_laws_szCategory : C :=
  (.seq (.ops [3] [⟨none, .boxv 5 (.v 0)⟩,
    ⟨none, .asg 2 (.i 0)⟩] [(3, 0)])
  (.seq (.ops [] [⟨none, .fA 1 (.v 3)⟩,
    ⟨none, .ld (.t 0)⟩,
    ⟨none, .mv (.v 1)⟩,
    ⟨none, .call 55 [(.t 1), (.t 2)]⟩,
    ⟨none, .asg 1 (.t 3)⟩] [])
  (.seq (.opc [] [⟨none, .mv (.v 1)⟩,
    ⟨none, .bin .lss (.t 0) (.i 0)⟩] [] (.t 1) (.seq (.ops [] [⟨none, .asg 2 (.i (-1))⟩] [])
  .ret)
  .skip)
  (.seq (.ops [] [⟨none, .fA 2 (.v 3)⟩,
    ⟨none, .ld (.t 0)⟩,
    ⟨none, .mv (.v 1)⟩,
    ⟨none, .call 55 [(.t 1), (.t 2)]⟩,
    ⟨none, .asg 1 (.t 3)⟩] [])
  (.seq (.opc [] [⟨none, .mv (.v 1)⟩,
    ⟨none, .bin .lss (.t 0) (.i 0)⟩] [] (.t 1) (.seq (.ops [] [⟨none, .asg 2 (.i (-1))⟩] [])
  .ret)
  .skip)
  (.seq (.ops [] [⟨none, .fA 3 (.v 3)⟩,
    ⟨none, .ld (.t 0)⟩,
    ⟨none, .mv (.v 1)⟩,
    ⟨none, .call 55 [(.t 1), (.t 2)]⟩,
    ⟨none, .asg 1 (.t 3)⟩] [])
  (.seq (.opc [] [⟨none, .mv (.v 1)⟩,
    ⟨none, .bin .lss (.t 0) (.i 0)⟩] [] (.t 1) (.seq (.ops [] [⟨none, .asg 2 (.i (-1))⟩] [])
  .ret)
  .skip)
  (.seq (.ops [] [⟨none, .fA 4 (.v 3)⟩,
    ⟨none, .ld (.t 0)⟩,
    ⟨none, .mv (.v 1)⟩,
    ⟨none, .call 56 [(.t 1), (.t 2)]⟩,
    ⟨none, .asg 1 (.t 3)⟩] [])
  (.seq (.opc [] [⟨none, .mv (.v 1)⟩,
    ⟨none, .bin .lss (.t 0) (.i 0)⟩] [] (.t 1) (.seq (.ops [] [⟨none, .asg 2 (.i (-1))⟩] [])
  .ret)
  .skip)
  (.seq (.ops [] [⟨none, .mv (.v 1)⟩,
    ⟨none, .asg 2 (.t 0)⟩] [])
  .ret))))))))))
def tr_laws_szCategory : List Nat := [0, 1, 4, 2]
def rs_laws_szCategory : List RS := [.t 2]
theorem ok_laws_szCategory : fnOk Go.Proofs.Try.prog Go.Proofs.Try.f16 tr_laws_szCategory c_laws_szCategory 2 rs_laws_szCategory = true := by decide +kernel

theorem ret_laws_szCategory (a : Cat) (left : Int) (h0 : 0 ≤ left) (h1 : left ≤ 1048576) : Ret Go.Proofs.Try.prog 16 [.v (Cat.d a), .v (.int .i64 left)] (.int .i64 (sb left (Cat.cost a))) := by
  refine ret_fn Go.Proofs.Try.func16 ok_laws_szCategory rfl (show 2 < 500 by decide) rfl ?_
  unfold c_laws_szCategory tr_laws_szCategory rs_laws_szCategory
  simp only [go_sem, Nat.reduceLT, Nat.reduceAdd, Nat.reduceSub, Nat.reduceEqDiff, Nat.reduceBEq, Nat.reduceLeDiff, ↓reduceIte]
  refine call_of (ret_laws_szInt64S a.fr _ h0 h1) rfl (.inl rfl) ?_
  simp only [go_sem, Nat.reduceLT, Nat.reduceAdd, Nat.reduceSub, Nat.reduceEqDiff, Nat.reduceBEq, Nat.reduceLeDiff, ↓reduceIte]
  refine ⟨fun hh => ?_, fun hh => ?_⟩
  · rw [sb_mono h0 hh (by unfold Cat.cost; omega)]
  refine call_of (ret_laws_szInt64S a.to _ (sb_nn hh) (Int.le_trans (sb_le _ h0) h1)) rfl (.inl rfl) ?_
  simp only [go_sem, Nat.reduceLT, Nat.reduceAdd, Nat.reduceSub, Nat.reduceEqDiff, Nat.reduceBEq, Nat.reduceLeDiff, ↓reduceIte]
  rw [sb_add hh]
  refine ⟨fun hh => ?_, fun hh => ?_⟩
  · rw [sb_mono h0 hh (by unfold Cat.cost; omega)]
  refine call_of (ret_laws_szInt64S a.idn _ (sb_nn hh) (Int.le_trans (sb_le _ h0) h1)) rfl (.inl rfl) ?_
  simp only [go_sem, Nat.reduceLT, Nat.reduceAdd, Nat.reduceSub, Nat.reduceEqDiff, Nat.reduceBEq, Nat.reduceLeDiff, ↓reduceIte]
  rw [sb_add hh]
  refine ⟨fun hh => ?_, fun hh => ?_⟩
  · rw [sb_mono h0 hh (by unfold Cat.cost; omega)]
  refine call_of (ret_laws_szInt64SS a.co _ (sb_nn hh) (Int.le_trans (sb_le _ h0) h1)) rfl (.inl rfl) ?_
  simp only [go_sem, Nat.reduceLT, Nat.reduceAdd, Nat.reduceSub, Nat.reduceEqDiff, Nat.reduceBEq, Nat.reduceLeDiff, ↓reduceIte]
  rw [sb_add hh]
  refine ⟨fun hh => ?_, fun hh => ?_⟩
  · rw [sb_mono h0 hh (by unfold Cat.cost; omega)]
  all_goals rfl

-- laws.szBound
def c_laws_szBound : C :=
  (.seq (.ops [3] [⟨none, .boxv 6 (.v 0)⟩,
    ⟨none, .asg 2 (.i 0)⟩] [(3, 0)])
  (.seq (.ops [] [⟨none, .mv (.v 1)⟩,
    ⟨none, .fA 0 (.v 3)⟩,
    ⟨none, .ld (.t 1)⟩,
    ⟨none, .lenS (.t 2)⟩,
    ⟨none, .bin .sub (.t 0) (.t 3)⟩,
    ⟨none, .asg 1 (.t 4)⟩] [])
  (.seq (.opc [] [⟨none, .mv (.v 1)⟩,
    ⟨none, .bin .lss (.t 0) (.i 0)⟩] [] (.t 1) (.seq (.ops [] [⟨none, .asg 2 (.i (-1))⟩] [])
  .ret)
  .skip)
  (.seq (.ops [] [⟨none, .fA 1 (.v 3)⟩,
    ⟨none, .lda 5 (.t 0)⟩,
    ⟨none, .mv (.v 1)⟩,
    ⟨none, .call 16 [(.t 1), (.t 2)]⟩,
    ⟨none, .asg 1 (.t 3)⟩] [])
  (.seq (.opc [] [⟨none, .mv (.v 1)⟩,
    ⟨none, .bin .lss (.t 0) (.i 0)⟩] [] (.t 1) (.seq (.ops [] [⟨none, .asg 2 (.i (-1))⟩] [])
  .ret)
  .skip)
  (.seq (.ops [] [⟨none, .mv (.v 1)⟩,
    ⟨none, .asg 2 (.t 0)⟩] [])
  .ret))))))
def tr_laws_szBound : List Nat := [0, 1, 4, 2]
def rs_laws_szBound : List RS := [.t 2]
theorem ok_laws_szBound : fnOk Go.Proofs.Try.prog Go.Proofs.Try.f49 tr_laws_szBound c_laws_szBound 2 rs_laws_szBound = true := by decide +kernel

theorem ret_laws_szBound (a : Bnd) (left : Int) (h0 : 0 ≤ left) (h1 : left ≤ 1048576) : Ret Go.Proofs.Try.prog 49 [.v (Bnd.d a), .v (.int .i64 left)] (.int .i64 (sb left (Bnd.cost a))) := by
  refine ret_wf fun hw => ?_
  simp only [argsWf, D.wfd, wfdL, go_sem, wfd_lst] at hw
  refine ret_fn Go.Proofs.Try.func49 ok_laws_szBound rfl (show 2 < 500 by decide) rfl ?_
  unfold c_laws_szBound tr_laws_szBound rs_laws_szBound
  simp only [go_sem, Nat.reduceLT, Nat.reduceAdd, Nat.reduceSub, Nat.reduceEqDiff, Nat.reduceBEq, Nat.reduceLeDiff, ↓reduceIte]
  have hlen : a.nm.length ≤ maxLen := hw.1.1
  rw [wrap_sub h0 (Int.le_trans h1 (by simp only [maxLen]; omega)) hlen]
  refine ⟨fun hh0 => ?_, fun hh0 => ?_⟩
  · rw [sb_mono (n := a.nm.length) h0 (by unfold sb; rw [if_neg (by omega)]; decide) (by unfold Bnd.cost; omega)]
  have he : left - (a.nm.length : Nat) = sb left (a.nm.length) := by unfold sb; rw [if_pos (by omega)]
  rw [he] at hh0 ⊢
  have hh := hh0; clear hh0
  refine call_of (ret_laws_szCategory a.cat _ (sb_nn hh) (Int.le_trans (sb_le _ h0) h1)) rfl (.inl rfl) ?_
  simp only [go_sem, Nat.reduceLT, Nat.reduceAdd, Nat.reduceSub, Nat.reduceEqDiff, Nat.reduceBEq, Nat.reduceLeDiff, ↓reduceIte]
  rw [sb_add hh]
  refine ⟨fun hh => ?_, fun hh => ?_⟩
  · rw [sb_mono h0 hh (by unfold Bnd.cost; omega)]
  all_goals rfl

-- laws.szBoundS
def c_laws_szBoundS : C :=
  (.seq (.ops [] [⟨none, .asg 2 (.i 0)⟩] [])
  (.seq (.ops [] [⟨none, .mv (.v 1)⟩,
    ⟨none, .mv (.v 0)⟩,
    ⟨none, .len (.t 1)⟩,
    ⟨none, .bin .sub (.t 0) (.t 2)⟩,
    ⟨none, .asg 1 (.t 3)⟩] [])
  (.seq (.opc [] [⟨none, .mv (.v 1)⟩,
    ⟨none, .bin .lss (.t 0) (.i 0)⟩] [] (.t 1) (.seq (.ops [] [⟨none, .asg 2 (.i (-1))⟩] [])
  .ret)
  .skip)
  (.seq (.seq (.ops [] [⟨none, .asg 3 (.i 0)⟩] [])
  (.block 0 (.loop (.seq (.opc [] [⟨none, .mv (.v 3)⟩,
    ⟨none, .mv (.v 0)⟩,
    ⟨none, .len (.t 1)⟩,
    ⟨none, .bin .lss (.t 0) (.t 2)⟩] [] (.t 3) .skip
  (.exit 0))
  (.seq (.block 1 (.seq (.ops [] [⟨none, .mv (.v 0)⟩,
    ⟨none, .mv (.v 3)⟩,
    ⟨none, .idxA 6 (.t 0) (.t 1)⟩,
    ⟨none, .lda 6 (.t 2)⟩,
    ⟨none, .mv (.v 1)⟩,
    ⟨none, .call 49 [(.t 3), (.t 4)]⟩,
    ⟨none, .asg 1 (.t 5)⟩] [])
  (.opc [] [⟨none, .mv (.v 1)⟩,
    ⟨none, .bin .lss (.t 0) (.i 0)⟩] [] (.t 1) (.seq (.ops [] [⟨none, .asg 2 (.i (-1))⟩] [])
  .ret)
  .skip)))
  (.ops [] [⟨none, .mv (.v 3)⟩,
    ⟨none, .bin .add (.t 0) (.i 1)⟩,
    ⟨none, .asg 3 (.t 1)⟩] []))))))
  (.seq (.ops [] [⟨none, .mv (.v 1)⟩,
    ⟨none, .asg 2 (.t 0)⟩] [])
  .ret)))))
def tr_laws_szBoundS : List Nat := [0, 1, 4, 5]
def rs_laws_szBoundS : List RS := [.t 2]
theorem ok_laws_szBoundS : fnOk Go.Proofs.Try.prog Go.Proofs.Try.f11 tr_laws_szBoundS c_laws_szBoundS 2 rs_laws_szBoundS = true := by decide +kernel

theorem ret_laws_szBoundS (a : List (Bnd)) (left : Int) (h0 : 0 ≤ left) (h1 : left ≤ 1048576) : Ret Go.Proofs.Try.prog 11 [.v (lst Bnd.d Bnd.zero a), .v (.int .i64 left)] (.int .i64 (sb left (costL Bnd.cost a))) := by
  refine ret_wf fun hw => ?_
  simp only [argsWf, wfd_lst] at hw
  obtain ⟨⟨hw, -⟩, -⟩ := hw
  refine ret_fn Go.Proofs.Try.func11 ok_laws_szBoundS rfl (show 2 < 500 by decide) rfl ?_
  unfold c_laws_szBoundS tr_laws_szBoundS rs_laws_szBoundS
  simp only [go_sem, Nat.reduceLT, Nat.reduceAdd, Nat.reduceSub, Nat.reduceEqDiff, Nat.reduceBEq, Nat.reduceLeDiff, ↓reduceIte]
  rw [wrap_sub h0 (by simp only [maxLen]; omega) hw]
  refine ⟨fun h => ?_, fun h => ?_⟩
  · unfold sb costL; rw [if_neg (by omega)]
  refine loop_set [] (fun (i : Nat) => [(1, .int .i64 (left - a.length - (((a.take i).map Bnd.cost).sum : Nat))), (3, .int .i64 i)]) (fun i => i ≤ a.length ∧ 0 ≤ left - a.length - (((a.take i).map Bnd.cost).sum : Nat)) (fun i => a.length - i) 0 rfl ⟨Nat.zero_le _, by simp; omega⟩ ?_ ?_
  · simp only [go_sem, List.take_zero, List.map_nil, List.sum_nil]; simp
  rintro i ⟨hi, ha⟩
  simp only [go_sem, Nat.reduceLT, Nat.reduceAdd, Nat.reduceSub, Nat.reduceEqDiff, Nat.reduceBEq, Nat.reduceLeDiff, ↓reduceIte]
  refine ⟨fun h2 => ⟨h2, call_of (ret_laws_szBound (a.getD i Bnd.zero) _ ha (by omega)) rfl (.inl rfl) ?_⟩, fun h2 => ?_⟩
  · simp only [go_sem, Nat.reduceLT, Nat.reduceAdd, Nat.reduceSub, Nat.reduceEqDiff, Nat.reduceBEq, Nat.reduceLeDiff, ↓reduceIte]
    refine ⟨fun h3 => ?_, fun h3 => ?_⟩
    · rw [sb_step h2 _ h3]
    · obtain ⟨e1, e2⟩ := sb_go h2 _ h3
      exact ⟨i + 1, ⟨by omega, e2⟩, by omega, by rw [e1, wrap_lt h2 hw]⟩
  · rw [sb_end hi h2 ha]
end Go.D3
