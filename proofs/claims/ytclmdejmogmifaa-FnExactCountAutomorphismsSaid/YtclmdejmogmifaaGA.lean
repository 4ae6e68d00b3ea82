/- CONTRACTS: the reference's place of a list among lists. -/
import Derived.Test.YtclmdejmogmifaaKit
import Derived.Test.YtclmdejmogmifaaProg
/- CONTRACTS: sizes of arguments. -/
namespace Go.D3
open Go
set_option maxRecDepth 100000

structure Cat where
  ob : Int
  fr : List (Int)
  to : List (Int)
  idn : List (Int)
  co : List (List (Int))
def Cat.cells (x : Cat) : List D := [.int .i64 x.ob, ints x.fr, ints x.to, ints x.idn, intss x.co]
def Cat.d (x : Cat) : D := .agg x.cells
def Cat.zero : Cat := ⟨0, [], [], [], []⟩
def Cat.cost (x : Cat) : Nat := x.fr.length + x.to.length + x.idn.length + costL List.length x.co
theorem slice_Cat : D.slice (.agg [.int .i64 0, ints [], ints [], ints [], intss []]) [] = lst Cat.d Cat.zero [] := rfl
theorem rep_Cat {n : Nat} : D.slice (.agg [.int .i64 0, ints [], ints [], ints [], intss []]) (List.replicate n (.agg [.int .i64 0, ints [], ints [], ints [], intss []])) = lst Cat.d Cat.zero (List.replicate n Cat.zero) := by unfold lst; rw [List.map_replicate]; rfl
theorem setCs_Cat {l : List Cat} {i : Nat} {ob : Int} {fr : List (Int)} {to : List (Int)} {idn : List (Int)} {co : List (List (Int))} : setCs (.o (lst Cat.d Cat.zero l)) [(i, 0)] 0 [.int .i64 ob, ints fr, ints to, ints idn, intss co] = .o (lst Cat.d Cat.zero (l.set i ⟨ob, fr, to, idn, co⟩)) := setCs_lst (n := 5) (fun _ => ⟨_, rfl, rfl⟩) rfl
attribute [go_sem] Cat.cells.eq_1 Cat.d.eq_1 slice_Cat rep_Cat
attribute [go_sem high] setCs_Cat
theorem nv_Cat (x : Cat) : x.d.novw = true := by simp only [Cat.d, Cat.cells, D.novw, novwL, nv_ints, nv_intss, Bool.and_self]
theorem cells_Cat (x : Cat) : x.d.cells.length = 5 := rfl

structure Bnd where
  nm : List UInt8
  cat : Cat
def Bnd.cells (x : Bnd) : List D := [.str x.nm, .int .i64 x.cat.ob, ints x.cat.fr, ints x.cat.to, ints x.cat.idn, intss x.cat.co]
def Bnd.d (x : Bnd) : D := .agg x.cells
def Bnd.zero : Bnd := ⟨[], Cat.zero⟩
def Bnd.cost (x : Bnd) : Nat := x.nm.length + Cat.cost x.cat
theorem slice_Bnd : D.slice (.agg [.str [], .int .i64 0, ints [], ints [], ints [], intss []]) [] = lst Bnd.d Bnd.zero [] := rfl
theorem rep_Bnd {n : Nat} : D.slice (.agg [.str [], .int .i64 0, ints [], ints [], ints [], intss []]) (List.replicate n (.agg [.str [], .int .i64 0, ints [], ints [], ints [], intss []])) = lst Bnd.d Bnd.zero (List.replicate n Bnd.zero) := by unfold lst; rw [List.map_replicate]; rfl
theorem setCs_Bnd {l : List Bnd} {i : Nat} {nm : List UInt8} {catob : Int} {catfr : List (Int)} {catto : List (Int)} {catidn : List (Int)} {catco : List (List (Int))} : setCs (.o (lst Bnd.d Bnd.zero l)) [(i, 0)] 0 [.str nm, .int .i64 catob, ints catfr, ints catto, ints catidn, intss catco] = .o (lst Bnd.d Bnd.zero (l.set i ⟨nm, ⟨catob, catfr, catto, catidn, catco⟩⟩)) := setCs_lst (n := 6) (fun _ => ⟨_, rfl, rfl⟩) rfl
attribute [go_sem] Bnd.cells.eq_1 Bnd.d.eq_1 slice_Bnd rep_Bnd
attribute [go_sem high] setCs_Bnd
theorem nv_Bnd (x : Bnd) : x.d.novw = true := by simp only [Bnd.d, Bnd.cells, D.novw, novwL, nv_ints, nv_intss, Bool.and_self]
theorem cells_Bnd (x : Bnd) : x.d.cells.length = 6 := rfl

-- laws.szInt64S
def c_laws_szInt64S : C :=
  (.seq (.ops [] [⟨none, .asg 2 (.i 0)⟩] [])
  (.seq (.ops [] [⟨none, .mv (.v 1)⟩,
    ⟨none, .mv (.v 0)⟩,
    ⟨none, .len (.t 1)⟩,
    ⟨none, .bin .sub (.t 0) (.t 2)⟩,
    ⟨none, .asg 1 (.t 3)⟩] [])
  (.seq (.opc [] [⟨none, .mv (.v 1)⟩,
    ⟨none, .bin .lss (.t 0) (.i 0)⟩] [] (.t 1) (.seq (.ops [] [⟨none, .asg 2 (.i (-1))⟩] [])
  .ret)
  .skip)
  (.seq (.ops [] [⟨none, .mv (.v 1)⟩,
    ⟨none, .asg 2 (.t 0)⟩] [])
  .ret))))
def tr_laws_szInt64S : List Nat := [0, 1, 4]
def rs_laws_szInt64S : List RS := [.t 2]
theorem ok_laws_szInt64S : fnOk Go.Proofs.Try.prog Go.Proofs.Try.f55 tr_laws_szInt64S c_laws_szInt64S 2 rs_laws_szInt64S = true := by decide +kernel

theorem ret_laws_szInt64S (a : List (Int)) (left : Int) (h0 : 0 ≤ left) (h1 : left ≤ 1048576) : Ret Go.Proofs.Try.prog 55 [.v (ints a), .v (.int .i64 left)] (.int .i64 (sb left (a.length))) := by
  refine ret_wf fun hw => ?_
  simp only [argsWf, wfd_lst] at hw
  obtain ⟨⟨hw, -⟩, -⟩ := hw
  refine ret_fn Go.Proofs.Try.func55 ok_laws_szInt64S rfl (show 2 < 500 by decide) rfl ?_; unfold c_laws_szInt64S tr_laws_szInt64S rs_laws_szInt64S; simp only [go_sem, Nat.reduceLT, Nat.reduceAdd, Nat.reduceSub, ↓reduceIte]
  rw [wrap_sub h0 (by simp only [maxLen]; omega) hw]
  unfold sb
  refine ⟨fun h => ?_, fun h => ?_⟩
  · rw [if_neg (by omega)]
  · rw [if_pos (by omega)]

-- laws.szInt64SS
def c_laws_szInt64SS : C :=
  (.seq (.ops [] [⟨none, .asg 2 (.i 0)⟩] [])
  (.seq (.ops [] [⟨none, .mv (.v 1)⟩,
    ⟨none, .mv (.v 0)⟩,
    ⟨none, .len (.t 1)⟩,
    ⟨none, .bin .sub (.t 0) (.t 2)⟩,
    ⟨none, .asg 1 (.t 3)⟩] [])
  (.seq (.opc [] [⟨none, .mv (.v 1)⟩,
    ⟨none, .bin .lss (.t 0) (.i 0)⟩] [] (.t 1) (.seq (.ops [] [⟨none, .asg 2 (.i (-1))⟩] [])
  .ret)
  .skip)
  (.seq (.seq (.ops [] [⟨none, .asg 3 (.i 0)⟩] [])
  (.block 0 (.loop (.seq (.opc [] [⟨none, .mv (.v 3)⟩,
    ⟨none, .mv (.v 0)⟩,
    ⟨none, .len (.t 1)⟩,
    ⟨none, .bin .lss (.t 0) (.t 2)⟩] [] (.t 3) .skip
  (.exit 0))
  (.seq (.block 1 (.seq (.ops [] [⟨none, .mv (.v 0)⟩,
    ⟨none, .mv (.v 3)⟩,
    ⟨none, .idxA 1 (.t 0) (.t 1)⟩,
    ⟨none, .ld (.t 2)⟩,
    ⟨none, .mv (.v 1)⟩,
    ⟨none, .call 55 [(.t 3), (.t 4)]⟩,
    ⟨none, .asg 1 (.t 5)⟩] [])
  (.opc [] [⟨none, .mv (.v 1)⟩,
    ⟨none, .bin .lss (.t 0) (.i 0)⟩] [] (.t 1) (.seq (.ops [] [⟨none, .asg 2 (.i (-1))⟩] [])
  .ret)
  .skip)))
  (.ops [] [⟨none, .mv (.v 3)⟩,
    ⟨none, .bin .add (.t 0) (.i 1)⟩,
    ⟨none, .asg 3 (.t 1)⟩] []))))))
  (.seq (.ops [] [⟨none, .mv (.v 1)⟩,
    ⟨none, .asg 2 (.t 0)⟩] [])
  .ret)))))
def tr_laws_szInt64SS : List Nat := [0, 1, 4, 5]
def rs_laws_szInt64SS : List RS := [.t 2]
theorem ok_laws_szInt64SS : fnOk Go.Proofs.Try.prog Go.Proofs.Try.f56 tr_laws_szInt64SS c_laws_szInt64SS 2 rs_laws_szInt64SS = true := by decide +kernel

theorem ret_laws_szInt64SS (a : List (List (Int))) (left : Int) (h0 : 0 ≤ left) (h1 : left ≤ 1048576) : Ret Go.Proofs.Try.prog 56 [.v (intss a), .v (.int .i64 left)] (.int .i64 (sb left (costL List.length a))) := by
  refine ret_wf fun hw => ?_
  simp only [argsWf, wfd_lst] at hw
  obtain ⟨⟨hw, -⟩, -⟩ := hw
  refine ret_fn Go.Proofs.Try.func56 ok_laws_szInt64SS rfl (show 2 < 500 by decide) rfl ?_; unfold c_laws_szInt64SS tr_laws_szInt64SS rs_laws_szInt64SS; simp only [go_sem, Nat.reduceLT, Nat.reduceAdd, Nat.reduceSub, ↓reduceIte]
  rw [wrap_sub h0 (by simp only [maxLen]; omega) hw]
  refine ⟨fun h => ?_, fun h => ?_⟩
  · unfold sb costL; rw [if_neg (by omega)]
  refine loop_set [] (fun (i : Nat) => [(1, .int .i64 (left - a.length - (((a.take i).map List.length).sum : Nat))), (3, .int .i64 i)]) (fun i => i ≤ a.length ∧ 0 ≤ left - a.length - (((a.take i).map List.length).sum : Nat)) (fun i => a.length - i) 0 rfl ⟨Nat.zero_le _, by simp; omega⟩ ?_ ?_
  · simp only [go_sem, List.take_zero, List.map_nil, List.sum_nil]; simp
  rintro i ⟨hi, ha⟩
  simp only [go_sem, Nat.reduceLT, Nat.reduceAdd, Nat.reduceSub, ↓reduceIte]
  refine ⟨fun h2 => ⟨h2, call_of (ret_laws_szInt64S (a.getD i []) _ ha (by omega)) rfl (.inl rfl) ?_⟩, fun h2 => ?_⟩
  · simp only [go_sem, Nat.reduceLT, Nat.reduceAdd, Nat.reduceSub, ↓reduceIte]
    refine ⟨fun h3 => ?_, fun h3 => ?_⟩
    · rw [sb_step h2 _ h3]
    · obtain ⟨e1, e2⟩ := sb_go h2 _ h3
      exact ⟨i + 1, ⟨by omega, e2⟩, by omega, by rw [e1, wrap_lt h2 hw]⟩
  · rw [sb_end hi h2 ha]

-- laws.szCategory
def c_laws_szCategory : C :=
  (.seq (.ops [3] [⟨none, .boxv 5 (.v 0)⟩,
    ⟨none, .asg 2 (.i 0)⟩] [(3, 0)])
  (.seq (.ops [] [⟨none, .fA 1 (.v 3)⟩,
    ⟨none, .ld (.t 0)⟩,
    ⟨none, .mv (.v 1)⟩,
    ⟨none, .call 55 [(.t 1), (.t 2)]⟩,
    ⟨none, .asg 1 (.t 3)⟩] [])
  (.seq (.opc [] [⟨none, .mv (.v 1)⟩,
    ⟨none, .bin .lss (.t 0) (.i 0)⟩] [] (.t 1) (.seq (.ops [] [⟨none, .asg 2 (.i (-1))⟩] [])
  .ret)
  .skip)
  (.seq (.ops [] [⟨none, .fA 2 (.v 3)⟩,
    ⟨none, .ld (.t 0)⟩,
    ⟨none, .mv (.v 1)⟩,
    ⟨none, .call 55 [(.t 1), (.t 2)]⟩,
    ⟨none, .asg 1 (.t 3)⟩] [])
  (.seq (.opc [] [⟨none, .mv (.v 1)⟩,
    ⟨none, .bin .lss (.t 0) (.i 0)⟩] [] (.t 1) (.seq (.ops [] [⟨none, .asg 2 (.i (-1))⟩] [])
  .ret)
  .skip)
  (.seq (.ops [] [⟨none, .fA 3 (.v 3)⟩,
    ⟨none, .ld (.t 0)⟩,
    ⟨none, .mv (.v 1)⟩,
    ⟨none, .call 55 [(.t 1), (.t 2)]⟩,
    ⟨none, .asg 1 (.t 3)⟩] [])
  (.seq (.opc [] [⟨none, .mv (.v 1)⟩,
    ⟨none, .bin .lss (.t 0) (.i 0)⟩] [] (.t 1) (.seq (.ops [] [⟨none, .asg 2 (.i (-1))⟩] [])
  .ret)
  .skip)
  (.seq (.ops [] [⟨none, .fA 4 (.v 3)⟩,
    ⟨none, .ld (.t 0)⟩,
    ⟨none, .mv (.v 1)⟩,
    ⟨none, .call 56 [(.t 1), (.t 2)]⟩,
    ⟨none, .asg 1 (.t 3)⟩] [])
  (.seq (.opc [] [⟨none, .mv (.v 1)⟩,
    ⟨none, .bin .lss (.t 0) (.i 0)⟩] [] (.t 1) (.seq (.ops [] [⟨none, .asg 2 (.i (-1))⟩] [])
  .ret)
  .skip)
  (.seq (.ops [] [⟨none, .mv (.v 1)⟩,
    ⟨none, .asg 2 (.t 0)⟩] [])
  .ret))))))))))
def tr_laws_szCategory : List Nat := [0, 1, 4, 2]
def rs_laws_szCategory : List RS := [.t 2]
theorem ok_laws_szCategory : fnOk Go.Proofs.Try.prog Go.Proofs.Try.f16 tr_laws_szCategory c_laws_szCategory 2 rs_laws_szCategory = true := by decide +kernel

theorem ret_laws_szCategory (a : Cat) (left : Int) (h0 : 0 ≤ left) (h1 : left ≤ 1048576) : Ret Go.Proofs.Try.prog 16 [.v (Cat.d a), .v (.int .i64 left)] (.int .i64 (sb left (Cat.cost a))) := by
  refine ret_fn Go.Proofs.Try.func16 ok_laws_szCategory rfl (show 2 < 500 by decide) rfl ?_; unfold c_laws_szCategory tr_laws_szCategory rs_laws_szCategory; simp only [go_sem, Nat.reduceLT, Nat.reduceAdd, Nat.reduceSub, ↓reduceIte]
  refine call_of (ret_laws_szInt64S a.fr _ h0 h1) rfl (.inl rfl) ?_
  simp only [go_sem, Nat.reduceLT, Nat.reduceAdd, Nat.reduceSub, ↓reduceIte]
  refine ⟨fun hh => ?_, fun hh => ?_⟩
  · rw [sb_mono h0 hh (by unfold Cat.cost; omega)]
  refine call_of (ret_laws_szInt64S a.to _ (sb_nn hh) (Int.le_trans (sb_le _ h0) h1)) rfl (.inl rfl) ?_
  simp only [go_sem, Nat.reduceLT, Nat.reduceAdd, Nat.reduceSub, ↓reduceIte]
  rw [sb_add hh]
  refine ⟨fun hh => ?_, fun hh => ?_⟩
  · rw [sb_mono h0 hh (by unfold Cat.cost; omega)]
  refine call_of (ret_laws_szInt64S a.idn _ (sb_nn hh) (Int.le_trans (sb_le _ h0) h1)) rfl (.inl rfl) ?_
  simp only [go_sem, Nat.reduceLT, Nat.reduceAdd, Nat.reduceSub, ↓reduceIte]
  rw [sb_add hh]
  refine ⟨fun hh => ?_, fun hh => ?_⟩
  · rw [sb_mono h0 hh (by unfold Cat.cost; omega)]
  refine call_of (ret_laws_szInt64SS a.co _ (sb_nn hh) (Int.le_trans (sb_le _ h0) h1)) rfl (.inl rfl) ?_
  simp only [go_sem, Nat.reduceLT, Nat.reduceAdd, Nat.reduceSub, ↓reduceIte]
  rw [sb_add hh]
  refine ⟨fun hh => ?_, fun hh => ?_⟩
  · rw [sb_mono h0 hh (by unfold Cat.cost; omega)]
  all_goals rfl

-- laws.szBound
def c_laws_szBound : C :=
  (.seq (.ops [3] [⟨none, .boxv 6 (.v 0)⟩,
    ⟨none, .asg 2 (.i 0)⟩] [(3, 0)])
  (.seq (.ops [] [⟨none, .mv (.v 1)⟩,
    ⟨none, .fA 0 (.v 3)⟩,
    ⟨none, .ld (.t 1)⟩,
    ⟨none, .lenS (.t 2)⟩,
    ⟨none, .bin .sub (.t 0) (.t 3)⟩,
    ⟨none, .asg 1 (.t 4)⟩] [])
  (.seq (.opc [] [⟨none, .mv (.v 1)⟩,
    ⟨none, .bin .lss (.t 0) (.i 0)⟩] [] (.t 1) (.seq (.ops [] [⟨none, .asg 2 (.i (-1))⟩] [])
  .ret)
  .skip)
  (.seq (.ops [] [⟨none, .fA 1 (.v 3)⟩,
    ⟨none, .lda 5 (.t 0)⟩,
    ⟨none, .mv (.v 1)⟩,
    ⟨none, .call 16 [(.t 1), (.t 2)]⟩,
    ⟨none, .asg 1 (.t 3)⟩] [])
  (.seq (.opc [] [⟨none, .mv (.v 1)⟩,
    ⟨none, .bin .lss (.t 0) (.i 0)⟩] [] (.t 1) (.seq (.ops [] [⟨none, .asg 2 (.i (-1))⟩] [])
  .ret)
  .skip)
  (.seq (.ops [] [⟨none, .mv (.v 1)⟩,
    ⟨none, .asg 2 (.t 0)⟩] [])
  .ret))))))
def tr_laws_szBound : List Nat := [0, 1, 4, 2]
def rs_laws_szBound : List RS := [.t 2]
theorem ok_laws_szBound : fnOk Go.Proofs.Try.prog Go.Proofs.Try.f49 tr_laws_szBound c_laws_szBound 2 rs_laws_szBound = true := by decide +kernel

theorem ret_laws_szBound (a : Bnd) (left : Int) (h0 : 0 ≤ left) (h1 : left ≤ 1048576) : Ret Go.Proofs.Try.prog 49 [.v (Bnd.d a), .v (.int .i64 left)] (.int .i64 (sb left (Bnd.cost a))) := by
  refine ret_wf fun hw => ?_
  simp only [argsWf, D.wfd, wfdL, go_sem, wfd_lst] at hw
  refine ret_fn Go.Proofs.Try.func49 ok_laws_szBound rfl (show 2 < 500 by decide) rfl ?_; unfold c_laws_szBound tr_laws_szBound rs_laws_szBound; simp only [go_sem, Nat.reduceLT, Nat.reduceAdd, Nat.reduceSub, Nat.reduceLeDiff, ↓reduceIte]
  have hlen : a.nm.length ≤ maxLen := hw.1.1
  rw [wrap_sub h0 (Int.le_trans h1 (by simp only [maxLen]; omega)) hlen]
  refine ⟨fun hh0 => ?_, fun hh0 => ?_⟩
  · rw [sb_mono (n := a.nm.length) h0 (by unfold sb; rw [if_neg (by omega)]; decide) (by unfold Bnd.cost; omega)]
  have he : left - (a.nm.length : Nat) = sb left (a.nm.length) := by unfold sb; rw [if_pos (by omega)]
  rw [he] at hh0 ⊢
  have hh := hh0; clear hh0
  refine call_of (ret_laws_szCategory a.cat _ (sb_nn hh) (Int.le_trans (sb_le _ h0) h1)) rfl (.inl rfl) ?_
  simp only [go_sem, Nat.reduceLT, Nat.reduceAdd, Nat.reduceSub, ↓reduceIte]
  rw [sb_add hh]
  refine ⟨fun hh => ?_, fun hh => ?_⟩
  · rw [sb_mono h0 hh (by unfold Bnd.cost; omega)]
  all_goals rfl

-- laws.szBoundS
def c_laws_szBoundS : C :=
  (.seq (.ops [] [⟨none, .asg 2 (.i 0)⟩] [])
  (.seq (.ops [] [⟨none, .mv (.v 1)⟩,
    ⟨none, .mv (.v 0)⟩,
    ⟨none, .len (.t 1)⟩,
    ⟨none, .bin .sub (.t 0) (.t 2)⟩,
    ⟨none, .asg 1 (.t 3)⟩] [])
  (.seq (.opc [] [⟨none, .mv (.v 1)⟩,
    ⟨none, .bin .lss (.t 0) (.i 0)⟩] [] (.t 1) (.seq (.ops [] [⟨none, .asg 2 (.i (-1))⟩] [])
  .ret)
  .skip)
  (.seq (.seq (.ops [] [⟨none, .asg 3 (.i 0)⟩] [])
  (.block 0 (.loop (.seq (.opc [] [⟨none, .mv (.v 3)⟩,
    ⟨none, .mv (.v 0)⟩,
    ⟨none, .len (.t 1)⟩,
    ⟨none, .bin .lss (.t 0) (.t 2)⟩] [] (.t 3) .skip
  (.exit 0))
  (.seq (.block 1 (.seq (.ops [] [⟨none, .mv (.v 0)⟩,
    ⟨none, .mv (.v 3)⟩,
    ⟨none, .idxA 6 (.t 0) (.t 1)⟩,
    ⟨none, .lda 6 (.t 2)⟩,
    ⟨none, .mv (.v 1)⟩,
    ⟨none, .call 49 [(.t 3), (.t 4)]⟩,
    ⟨none, .asg 1 (.t 5)⟩] [])
  (.opc [] [⟨none, .mv (.v 1)⟩,
    ⟨none, .bin .lss (.t 0) (.i 0)⟩] [] (.t 1) (.seq (.ops [] [⟨none, .asg 2 (.i (-1))⟩] [])
  .ret)
  .skip)))
  (.ops [] [⟨none, .mv (.v 3)⟩,
    ⟨none, .bin .add (.t 0) (.i 1)⟩,
    ⟨none, .asg 3 (.t 1)⟩] []))))))
  (.seq (.ops [] [⟨none, .mv (.v 1)⟩,
    ⟨none, .asg 2 (.t 0)⟩] [])
  .ret)))))
def tr_laws_szBoundS : List Nat := [0, 1, 4, 5]
def rs_laws_szBoundS : List RS := [.t 2]
theorem ok_laws_szBoundS : fnOk Go.Proofs.Try.prog Go.Proofs.Try.f11 tr_laws_szBoundS c_laws_szBoundS 2 rs_laws_szBoundS = true := by decide +kernel

theorem ret_laws_szBoundS (a : List (Bnd)) (left : Int) (h0 : 0 ≤ left) (h1 : left ≤ 1048576) : Ret Go.Proofs.Try.prog 11 [.v (lst Bnd.d Bnd.zero a), .v (.int .i64 left)] (.int .i64 (sb left (costL Bnd.cost a))) := by
  refine ret_wf fun hw => ?_
  simp only [argsWf, wfd_lst] at hw
  obtain ⟨⟨hw, -⟩, -⟩ := hw
  refine ret_fn Go.Proofs.Try.func11 ok_laws_szBoundS rfl (show 2 < 500 by decide) rfl ?_; unfold c_laws_szBoundS tr_laws_szBoundS rs_laws_szBoundS; simp only [go_sem, Nat.reduceLT, Nat.reduceAdd, Nat.reduceSub, ↓reduceIte]
  rw [wrap_sub h0 (by simp only [maxLen]; omega) hw]
  refine ⟨fun h => ?_, fun h => ?_⟩
  · unfold sb costL; rw [if_neg (by omega)]
  refine loop_set [] (fun (i : Nat) => [(1, .int .i64 (left - a.length - (((a.take i).map Bnd.cost).sum : Nat))), (3, .int .i64 i)]) (fun i => i ≤ a.length ∧ 0 ≤ left - a.length - (((a.take i).map Bnd.cost).sum : Nat)) (fun i => a.length - i) 0 rfl ⟨Nat.zero_le _, by simp; omega⟩ ?_ ?_
  · simp only [go_sem, List.take_zero, List.map_nil, List.sum_nil]; simp
  rintro i ⟨hi, ha⟩
  simp only [go_sem, Nat.reduceLT, Nat.reduceAdd, Nat.reduceSub, Nat.reduceLeDiff, ↓reduceIte]
  refine ⟨fun h2 => ⟨h2, call_of (ret_laws_szBound (a.getD i Bnd.zero) _ ha (by omega)) rfl (.inl rfl) ?_⟩, fun h2 => ?_⟩
  · simp only [go_sem, Nat.reduceLT, Nat.reduceAdd, Nat.reduceSub, ↓reduceIte]
    refine ⟨fun h3 => ?_, fun h3 => ?_⟩
    · rw [sb_step h2 _ h3]
    · obtain ⟨e1, e2⟩ := sb_go h2 _ h3
      exact ⟨i + 1, ⟨by omega, e2⟩, by omega, by rw [e1, wrap_lt h2 hw]⟩
  · rw [sb_end hi h2 ha]
end Go.D3

/- CONTRACTS: copies of arguments. -/
namespace Go.D3
open Go
set_option maxRecDepth 100000

-- laws.toInt64S
def c_laws_toInt64S : C :=
  (.seq (.ops [] [⟨none, .asg 1 (.k (.nils (.int .i64 0)))⟩] [])
  (.seq (.ops [] [⟨none, .mv (.v 0)⟩,
    ⟨none, .len (.t 0)⟩,
    ⟨none, .mkS (.int .i64 0) 8 (.t 1) (.t 1)⟩,
    ⟨none, .asg 2 (.t 2)⟩] [])
  (.seq (.seq (.ops [] [⟨none, .asg 3 (.i 0)⟩] [])
  (.block 0 (.loop (.seq (.opc [] [⟨none, .mv (.v 3)⟩,
    ⟨none, .mv (.v 0)⟩,
    ⟨none, .len (.t 1)⟩,
    ⟨none, .bin .lss (.t 0) (.t 2)⟩] [] (.t 3) .skip
  (.exit 0))
  (.seq (.block 1 (.ops [] [⟨none, .mv (.v 2)⟩,
    ⟨none, .mv (.v 3)⟩,
    ⟨none, .mv (.v 0)⟩,
    ⟨none, .mv (.v 3)⟩,
    ⟨none, .idxA 1 (.t 2) (.t 3)⟩,
    ⟨none, .ld (.t 4)⟩,
    ⟨none, .idxA 1 (.t 0) (.t 1)⟩,
    ⟨none, .st (.t 6) (.t 5)⟩] []))
  (.ops [] [⟨none, .mv (.v 3)⟩,
    ⟨none, .bin .add (.t 0) (.i 1)⟩,
    ⟨none, .asg 3 (.t 1)⟩] []))))))
  (.seq (.ops [] [⟨none, .mv (.v 2)⟩,
    ⟨none, .asg 1 (.t 0)⟩] [])
  .ret))))
def tr_laws_toInt64S : List Nat := [0, 2, 3, 4]
def rs_laws_toInt64S : List RS := [.t 1]
theorem ok_laws_toInt64S : fnOk Go.Proofs.Try.prog Go.Proofs.Try.f57 tr_laws_toInt64S c_laws_toInt64S 1 rs_laws_toInt64S = true := by decide +kernel

theorem ret_laws_toInt64S (a : List (Int)) (hs : a.length ≤ 1048576) : Ret Go.Proofs.Try.prog 57 [.v (ints a)] (ints a) := by
  have hm : a.length ≤ maxLen := by simp only [maxLen]; omega
  refine ret_fn Go.Proofs.Try.func57 ok_laws_toInt64S rfl (show 1 < 500 by decide) rfl ?_; unfold c_laws_toInt64S tr_laws_toInt64S rs_laws_toInt64S; simp only [go_sem, Nat.reduceLT, Nat.reduceAdd, Nat.reduceSub, ↓reduceIte]
  refine ⟨by omega, ?_⟩
  refine loop_set [] (fun (i : Nat) => [(2, .o (ints (cpy a 0 i))), (3, .int .i64 i)]) (fun i => i ≤ a.length) (fun i => a.length - i) 0 rfl (Nat.zero_le _) ?_ ?_
  · simp only [go_sem, cpy_zero]; rfl
  rintro i hi
  simp only [go_sem, Nat.reduceLT, Nat.reduceAdd, Nat.reduceSub, Nat.reduceBEq, Nat.reduceLeDiff, ↓reduceIte]
  exact ⟨fun h => ⟨h, by rw [cpy_len hi]; exact h, by rw [cpy_len hi]; exact h, i + 1, by omega, by omega, by rw [cpy_set h, wrap_lt h hm]⟩, fun h => by rw [cpy_end h]⟩

-- laws.toInt64SS
def c_laws_toInt64SS : C :=
  (.seq (.ops [] [⟨none, .asg 1 (.k (.nils (ints [])))⟩] [])
  (.seq (.ops [] [⟨none, .mv (.v 0)⟩,
    ⟨none, .len (.t 0)⟩,
    ⟨none, .mkS (ints []) 24 (.t 1) (.t 1)⟩,
    ⟨none, .asg 2 (.t 2)⟩] [])
  (.seq (.seq (.ops [] [⟨none, .asg 3 (.i 0)⟩] [])
  (.block 0 (.loop (.seq (.opc [] [⟨none, .mv (.v 3)⟩,
    ⟨none, .mv (.v 0)⟩,
    ⟨none, .len (.t 1)⟩,
    ⟨none, .bin .lss (.t 0) (.t 2)⟩] [] (.t 3) .skip
  (.exit 0))
  (.seq (.block 1 (.ops [] [⟨none, .mv (.v 2)⟩,
    ⟨none, .mv (.v 3)⟩,
    ⟨none, .mv (.v 0)⟩,
    ⟨none, .mv (.v 3)⟩,
    ⟨none, .idxA 1 (.t 2) (.t 3)⟩,
    ⟨none, .ld (.t 4)⟩,
    ⟨none, .call 57 [(.t 5)]⟩,
    ⟨none, .idxA 1 (.t 0) (.t 1)⟩,
    ⟨none, .st (.t 7) (.t 6)⟩] []))
  (.ops [] [⟨none, .mv (.v 3)⟩,
    ⟨none, .bin .add (.t 0) (.i 1)⟩,
    ⟨none, .asg 3 (.t 1)⟩] []))))))
  (.seq (.ops [] [⟨none, .mv (.v 2)⟩,
    ⟨none, .asg 1 (.t 0)⟩] [])
  .ret))))
def tr_laws_toInt64SS : List Nat := [0, 2, 3, 4]
def rs_laws_toInt64SS : List RS := [.t 1]
theorem ok_laws_toInt64SS : fnOk Go.Proofs.Try.prog Go.Proofs.Try.f58 tr_laws_toInt64SS c_laws_toInt64SS 1 rs_laws_toInt64SS = true := by decide +kernel

theorem ret_laws_toInt64SS (a : List (List (Int))) (hs : costL List.length a ≤ 1048576) : Ret Go.Proofs.Try.prog 58 [.v (intss a)] (intss a) := by
  have hm : a.length ≤ maxLen := by unfold costL at hs; simp only [maxLen]; omega
  refine ret_fn Go.Proofs.Try.func58 ok_laws_toInt64SS rfl (show 1 < 500 by decide) rfl ?_; unfold c_laws_toInt64SS tr_laws_toInt64SS rs_laws_toInt64SS; simp only [go_sem, Nat.reduceLT, Nat.reduceAdd, Nat.reduceSub, ↓reduceIte]
  refine ⟨by unfold costL at hs; omega, ?_⟩
  refine loop_set [] (fun (i : Nat) => [(2, .o (intss (cpy a [] i))), (3, .int .i64 i)]) (fun i => i ≤ a.length) (fun i => a.length - i) 0 rfl (Nat.zero_le _) ?_ ?_
  · simp only [go_sem, cpy_zero]; rfl
  rintro i hi
  simp only [go_sem, Nat.reduceLT, Nat.reduceAdd, Nat.reduceSub, Nat.reduceBEq, ↓reduceIte]
  refine ⟨fun h => ⟨h, call_of (ret_laws_toInt64S (a.getD i []) (Nat.le_trans (cost_getD (cost := List.length) h _) hs)) rfl (.inl (nv_ints _)) ?_⟩, fun h => by rw [cpy_end h]⟩
  simp only [go_sem, Nat.reduceLT, Nat.reduceAdd, Nat.reduceSub, Nat.reduceEqDiff, Nat.reduceBEq, ↓reduceIte]
  exact ⟨by rw [cpy_len hi]; exact h, by rw [cpy_len hi]; exact h, i + 1, by omega, by omega, by rw [cpy_set h, wrap_lt h hm]⟩

-- laws.toCategory
def c_laws_toCategory : C :=
  (.seq (.ops [2, 1] [⟨none, .boxv 5 (.v 0)⟩,
    ⟨none, .alc [.int .i64 0, .nils (.int .i64 0), .nils (.int .i64 0), .nils (.int .i64 0), .nils (ints [])]⟩] [(2, 0), (1, 1)])
  (.seq (.ops [3] [⟨none, .alc [.int .i64 0, .nils (.int .i64 0), .nils (.int .i64 0), .nils (.int .i64 0), .nils (ints [])]⟩] [(3, 0)])
  (.seq (.ops [] [⟨none, .fA 0 (.v 2)⟩,
    ⟨none, .ld (.t 0)⟩,
    ⟨none, .fA 0 (.v 3)⟩,
    ⟨none, .st (.t 2) (.t 1)⟩] [])
  (.seq (.ops [] [⟨none, .fA 1 (.v 2)⟩,
    ⟨none, .ld (.t 0)⟩,
    ⟨none, .call 57 [(.t 1)]⟩,
    ⟨none, .fA 1 (.v 3)⟩,
    ⟨none, .st (.t 3) (.t 2)⟩] [])
  (.seq (.ops [] [⟨none, .fA 2 (.v 2)⟩,
    ⟨none, .ld (.t 0)⟩,
    ⟨none, .call 57 [(.t 1)]⟩,
    ⟨none, .fA 2 (.v 3)⟩,
    ⟨none, .st (.t 3) (.t 2)⟩] [])
  (.seq (.ops [] [⟨none, .fA 3 (.v 2)⟩,
    ⟨none, .ld (.t 0)⟩,
    ⟨none, .call 57 [(.t 1)]⟩,
    ⟨none, .fA 3 (.v 3)⟩,
    ⟨none, .st (.t 3) (.t 2)⟩] [])
  (.seq (.ops [] [⟨none, .fA 4 (.v 2)⟩,
    ⟨none, .ld (.t 0)⟩,
    ⟨none, .call 58 [(.t 1)]⟩,
    ⟨none, .fA 4 (.v 3)⟩,
    ⟨none, .st (.t 3) (.t 2)⟩] [])
  (.seq (.ops [] [⟨none, .lda 5 (.v 3)⟩,
    ⟨none, .stn 5 (.v 1) (.t 0)⟩] [])
  .ret))))))))
def tr_laws_toCategory : List Nat := [0, 2, 1, 3]
def rs_laws_toCategory : List RS := [.c 1 5 true]
theorem ok_laws_toCategory : fnOk Go.Proofs.Try.prog Go.Proofs.Try.f18 tr_laws_toCategory c_laws_toCategory 1 rs_laws_toCategory = true := by decide +kernel

theorem ret_laws_toCategory (a : Cat) (hs : Cat.cost a ≤ 1048576) : Ret Go.Proofs.Try.prog 18 [.v (Cat.d a)] (Cat.d a) := by
  have hs2 := hs
  unfold Cat.cost at hs2
  refine ret_fn Go.Proofs.Try.func18 ok_laws_toCategory rfl (show 1 < 500 by decide) rfl ?_; unfold c_laws_toCategory tr_laws_toCategory rs_laws_toCategory; simp only [go_sem, Nat.reduceLT, Nat.reduceAdd, Nat.reduceSub, Nat.reduceBEq, Nat.reduceLeDiff, ↓reduceIte]
  refine call_of (ret_laws_toInt64S a.fr (by omega)) rfl (.inl (nv_ints _)) ?_
  simp only [go_sem, Nat.reduceLT, Nat.reduceAdd, Nat.reduceSub, Nat.reduceEqDiff, Nat.reduceBEq, ↓reduceIte]
  refine call_of (ret_laws_toInt64S a.to (by omega)) rfl (.inl (nv_ints _)) ?_
  simp only [go_sem, Nat.reduceLT, Nat.reduceAdd, Nat.reduceSub, Nat.reduceEqDiff, Nat.reduceBEq, ↓reduceIte]
  refine call_of (ret_laws_toInt64S a.idn (by omega)) rfl (.inl (nv_ints _)) ?_
  simp only [go_sem, Nat.reduceLT, Nat.reduceAdd, Nat.reduceSub, Nat.reduceEqDiff, Nat.reduceBEq, ↓reduceIte]
  refine call_of (ret_laws_toInt64SS a.co (by omega)) rfl (.inl (nv_intss _)) ?_
  simp only [go_sem, Nat.reduceLT, Nat.reduceAdd, Nat.reduceSub, Nat.reduceEqDiff, Nat.reduceBEq, ↓reduceIte]
  all_goals rfl

-- laws.toBound
def c_laws_toBound : C :=
  (.seq (.ops [2, 1] [⟨none, .boxv 6 (.v 0)⟩,
    ⟨none, .alc [.str [], .int .i64 0, .nils (.int .i64 0), .nils (.int .i64 0), .nils (.int .i64 0), .nils (ints [])]⟩] [(2, 0), (1, 1)])
  (.seq (.ops [3] [⟨none, .alc [.str [], .int .i64 0, .nils (.int .i64 0), .nils (.int .i64 0), .nils (.int .i64 0), .nils (ints [])]⟩] [(3, 0)])
  (.seq (.ops [] [⟨none, .fA 0 (.v 2)⟩,
    ⟨none, .ld (.t 0)⟩,
    ⟨none, .fA 0 (.v 3)⟩,
    ⟨none, .st (.t 2) (.t 1)⟩] [])
  (.seq (.ops [] [⟨none, .fA 1 (.v 2)⟩,
    ⟨none, .lda 5 (.t 0)⟩,
    ⟨none, .call 18 [(.t 1)]⟩,
    ⟨none, .fA 1 (.v 3)⟩,
    ⟨none, .stn 5 (.t 3) (.t 2)⟩] [])
  (.seq (.ops [] [⟨none, .lda 6 (.v 3)⟩,
    ⟨none, .stn 6 (.v 1) (.t 0)⟩] [])
  .ret)))))
def tr_laws_toBound : List Nat := [0, 2, 1, 3]
def rs_laws_toBound : List RS := [.c 1 6 true]
theorem ok_laws_toBound : fnOk Go.Proofs.Try.prog Go.Proofs.Try.f52 tr_laws_toBound c_laws_toBound 1 rs_laws_toBound = true := by decide +kernel

theorem ret_laws_toBound (a : Bnd) (hs : Bnd.cost a ≤ 1048576) : Ret Go.Proofs.Try.prog 52 [.v (Bnd.d a)] (Bnd.d a) := by
  have hs2 := hs
  unfold Bnd.cost at hs2
  refine ret_fn Go.Proofs.Try.func52 ok_laws_toBound rfl (show 1 < 500 by decide) rfl ?_; unfold c_laws_toBound tr_laws_toBound rs_laws_toBound; simp only [go_sem, Nat.reduceLT, Nat.reduceAdd, Nat.reduceSub, Nat.reduceBEq, Nat.reduceLeDiff, ↓reduceIte]
  refine call_of (ret_laws_toCategory a.cat (by omega)) rfl (.inl (nv_Cat _)) ?_
  simp only [go_sem, Nat.reduceLT, Nat.reduceAdd, Nat.reduceSub, Nat.reduceEqDiff, Nat.reduceBEq, Nat.reduceLeDiff, ↓reduceIte]
  all_goals rfl

-- laws.toBoundS
def c_laws_toBoundS : C :=
  (.seq (.ops [] [⟨none, .asg 1 (.k (.nils (.agg [.str [], .int .i64 0, ints [], ints [], ints [], intss []])))⟩] [])
  (.seq (.ops [] [⟨none, .mv (.v 0)⟩,
    ⟨none, .len (.t 0)⟩,
    ⟨none, .mkS (.agg [.str [], .int .i64 0, ints [], ints [], ints [], intss []]) 120 (.t 1) (.t 1)⟩,
    ⟨none, .asg 2 (.t 2)⟩] [])
  (.seq (.seq (.ops [] [⟨none, .asg 3 (.i 0)⟩] [])
  (.block 0 (.loop (.seq (.opc [] [⟨none, .mv (.v 3)⟩,
    ⟨none, .mv (.v 0)⟩,
    ⟨none, .len (.t 1)⟩,
    ⟨none, .bin .lss (.t 0) (.t 2)⟩] [] (.t 3) .skip
  (.exit 0))
  (.seq (.block 1 (.ops [] [⟨none, .mv (.v 2)⟩,
    ⟨none, .mv (.v 3)⟩,
    ⟨none, .mv (.v 0)⟩,
    ⟨none, .mv (.v 3)⟩,
    ⟨none, .idxA 6 (.t 2) (.t 3)⟩,
    ⟨none, .lda 6 (.t 4)⟩,
    ⟨none, .call 52 [(.t 5)]⟩,
    ⟨none, .idxA 6 (.t 0) (.t 1)⟩,
    ⟨none, .stn 6 (.t 7) (.t 6)⟩] []))
  (.ops [] [⟨none, .mv (.v 3)⟩,
    ⟨none, .bin .add (.t 0) (.i 1)⟩,
    ⟨none, .asg 3 (.t 1)⟩] []))))))
  (.seq (.ops [] [⟨none, .mv (.v 2)⟩,
    ⟨none, .asg 1 (.t 0)⟩] [])
  .ret))))
def tr_laws_toBoundS : List Nat := [0, 2, 3, 4]
def rs_laws_toBoundS : List RS := [.t 1]
theorem ok_laws_toBoundS : fnOk Go.Proofs.Try.prog Go.Proofs.Try.f13 tr_laws_toBoundS c_laws_toBoundS 1 rs_laws_toBoundS = true := by decide +kernel

theorem ret_laws_toBoundS (a : List (Bnd)) (hs : costL Bnd.cost a ≤ 1048576) : Ret Go.Proofs.Try.prog 13 [.v (lst Bnd.d Bnd.zero a)] (lst Bnd.d Bnd.zero a) := by
  have hm : a.length ≤ maxLen := by unfold costL at hs; simp only [maxLen]; omega
  refine ret_fn Go.Proofs.Try.func13 ok_laws_toBoundS rfl (show 1 < 500 by decide) rfl ?_; unfold c_laws_toBoundS tr_laws_toBoundS rs_laws_toBoundS; simp only [go_sem, Nat.reduceLT, Nat.reduceAdd, Nat.reduceSub, ↓reduceIte]
  refine ⟨by unfold costL at hs; omega, ?_⟩
  refine loop_set [] (fun (i : Nat) => [(2, .o (lst Bnd.d Bnd.zero (cpy a Bnd.zero i))), (3, .int .i64 i)]) (fun i => i ≤ a.length) (fun i => a.length - i) 0 rfl (Nat.zero_le _) ?_ ?_
  · simp only [go_sem, cpy_zero]; rfl
  rintro i hi
  simp only [go_sem, Nat.reduceLT, Nat.reduceAdd, Nat.reduceSub, Nat.reduceBEq, Nat.reduceLeDiff, ↓reduceIte]
  refine ⟨fun h => ⟨h, call_of (ret_laws_toBound (a.getD i Bnd.zero) (Nat.le_trans (cost_getD (cost := Bnd.cost) h _) hs)) rfl (.inl (nv_Bnd _)) ?_⟩, fun h => by rw [cpy_end h]⟩
  simp only [go_sem, Nat.reduceLT, Nat.reduceAdd, Nat.reduceSub, Nat.reduceEqDiff, Nat.reduceBEq, Nat.reduceLeDiff, ↓reduceIte]
  exact ⟨by rw [cpy_len hi]; exact h, by rw [cpy_len hi]; exact h, i + 1, by omega, by omega, by rw [cpy_set h, wrap_lt h hm]⟩
end Go.D3

/- CONTRACTS: comparisons. -/
namespace Go.D3
open Go
set_option maxRecDepth 100000

-- laws.eqInt64S
def c_laws_eqInt64S : C :=
  (.seq (.ops [] [⟨none, .asg 2 (.k (.bool false))⟩] [])
  (.seq (.opc [] [⟨none, .mv (.v 0)⟩,
    ⟨none, .len (.t 0)⟩,
    ⟨none, .mv (.v 1)⟩,
    ⟨none, .len (.t 2)⟩,
    ⟨none, .bin .neq (.t 1) (.t 3)⟩] [] (.t 4) (.seq (.ops [] [⟨none, .asg 2 (.k (.bool false))⟩] [])
  .ret)
  .skip)
  (.seq (.seq (.ops [] [⟨none, .asg 3 (.i 0)⟩] [])
  (.block 0 (.loop (.seq (.opc [] [⟨none, .mv (.v 3)⟩,
    ⟨none, .mv (.v 0)⟩,
    ⟨none, .len (.t 1)⟩,
    ⟨none, .bin .lss (.t 0) (.t 2)⟩] [] (.t 3) .skip
  (.exit 0))
  (.seq (.block 1 (.opc [] [⟨none, .mv (.v 0)⟩,
    ⟨none, .mv (.v 3)⟩,
    ⟨none, .idxA 1 (.t 0) (.t 1)⟩,
    ⟨none, .ld (.t 2)⟩,
    ⟨none, .mv (.v 1)⟩,
    ⟨none, .mv (.v 3)⟩,
    ⟨none, .idxA 1 (.t 4) (.t 5)⟩,
    ⟨none, .ld (.t 6)⟩,
    ⟨none, .bin .neq (.t 3) (.t 7)⟩] [] (.t 8) (.seq (.ops [] [⟨none, .asg 2 (.k (.bool false))⟩] [])
  .ret)
  .skip))
  (.ops [] [⟨none, .mv (.v 3)⟩,
    ⟨none, .bin .add (.t 0) (.i 1)⟩,
    ⟨none, .asg 3 (.t 1)⟩] []))))))
  (.seq (.ops [] [⟨none, .asg 2 (.k (.bool true))⟩] [])
  .ret))))
def tr_laws_eqInt64S : List Nat := [0, 1, 4, 5]
def rs_laws_eqInt64S : List RS := [.t 2]
theorem ok_laws_eqInt64S : fnOk Go.Proofs.Try.prog Go.Proofs.Try.f59 tr_laws_eqInt64S c_laws_eqInt64S 2 rs_laws_eqInt64S = true := by decide +kernel

theorem ret_laws_eqInt64S (a : List (Int)) : Ret Go.Proofs.Try.prog 59 [.v (ints a), .v (ints a)] (.bool true) := by
  refine ret_wf fun hw => ?_
  simp only [argsWf, wfd_lst] at hw
  have hm := hw.1.1
  refine ret_fn Go.Proofs.Try.func59 ok_laws_eqInt64S rfl (show 2 < 500 by decide) rfl ?_; unfold c_laws_eqInt64S tr_laws_eqInt64S rs_laws_eqInt64S; simp only [go_sem, Nat.reduceLT, Nat.reduceAdd, Nat.reduceSub, ↓reduceIte]
  refine ⟨fun h => by simp at h, fun _ => ?_⟩
  refine loop_set [] (fun (i : Nat) => [(3, .int .i64 i)]) (fun i => i ≤ a.length) (fun i => a.length - i) 0 rfl (Nat.zero_le _) rfl ?_
  rintro i hi
  simp only [go_sem, Nat.reduceLT, Nat.reduceAdd, Nat.reduceSub, ↓reduceIte]
  exact fun h => ⟨h, h, fun h2 => by simp at h2, fun _ => ⟨i + 1, by omega, by omega, by rw [wrap_lt h hm]⟩⟩

-- laws.eqInt64SS
def c_laws_eqInt64SS : C :=
  (.seq (.ops [] [⟨none, .asg 2 (.k (.bool false))⟩] [])
  (.seq (.opc [] [⟨none, .mv (.v 0)⟩,
    ⟨none, .len (.t 0)⟩,
    ⟨none, .mv (.v 1)⟩,
    ⟨none, .len (.t 2)⟩,
    ⟨none, .bin .neq (.t 1) (.t 3)⟩] [] (.t 4) (.seq (.ops [] [⟨none, .asg 2 (.k (.bool false))⟩] [])
  .ret)
  .skip)
  (.seq (.seq (.ops [] [⟨none, .asg 3 (.i 0)⟩] [])
  (.block 0 (.loop (.seq (.opc [] [⟨none, .mv (.v 3)⟩,
    ⟨none, .mv (.v 0)⟩,
    ⟨none, .len (.t 1)⟩,
    ⟨none, .bin .lss (.t 0) (.t 2)⟩] [] (.t 3) .skip
  (.exit 0))
  (.seq (.block 1 (.opc [] [⟨none, .mv (.v 0)⟩,
    ⟨none, .mv (.v 3)⟩,
    ⟨none, .idxA 1 (.t 0) (.t 1)⟩,
    ⟨none, .ld (.t 2)⟩,
    ⟨none, .mv (.v 1)⟩,
    ⟨none, .mv (.v 3)⟩,
    ⟨none, .idxA 1 (.t 4) (.t 5)⟩,
    ⟨none, .ld (.t 6)⟩,
    ⟨none, .call 59 [(.t 3), (.t 7)]⟩,
    ⟨none, .not (.t 8)⟩] [] (.t 9) (.seq (.ops [] [⟨none, .asg 2 (.k (.bool false))⟩] [])
  .ret)
  .skip))
  (.ops [] [⟨none, .mv (.v 3)⟩,
    ⟨none, .bin .add (.t 0) (.i 1)⟩,
    ⟨none, .asg 3 (.t 1)⟩] []))))))
  (.seq (.ops [] [⟨none, .asg 2 (.k (.bool true))⟩] [])
  .ret))))
def tr_laws_eqInt64SS : List Nat := [0, 1, 4, 5]
def rs_laws_eqInt64SS : List RS := [.t 2]
theorem ok_laws_eqInt64SS : fnOk Go.Proofs.Try.prog Go.Proofs.Try.f39 tr_laws_eqInt64SS c_laws_eqInt64SS 2 rs_laws_eqInt64SS = true := by decide +kernel

theorem ret_laws_eqInt64SS (a : List (List (Int))) : Ret Go.Proofs.Try.prog 39 [.v (intss a), .v (intss a)] (.bool true) := by
  refine ret_wf fun hw => ?_
  simp only [argsWf, wfd_lst] at hw
  have hm := hw.1.1
  refine ret_fn Go.Proofs.Try.func39 ok_laws_eqInt64SS rfl (show 2 < 500 by decide) rfl ?_; unfold c_laws_eqInt64SS tr_laws_eqInt64SS rs_laws_eqInt64SS; simp only [go_sem, Nat.reduceLT, Nat.reduceAdd, Nat.reduceSub, ↓reduceIte]
  refine ⟨fun h => by simp at h, fun _ => ?_⟩
  refine loop_set [] (fun (i : Nat) => [(3, .int .i64 i)]) (fun i => i ≤ a.length) (fun i => a.length - i) 0 rfl (Nat.zero_le _) rfl ?_
  rintro i hi
  simp only [go_sem, Nat.reduceLT, Nat.reduceAdd, Nat.reduceSub, ↓reduceIte]
  refine fun h => ⟨h, h, call_of (ret_laws_eqInt64S (a.getD i [])) rfl (.inl rfl) ?_⟩
  simp only [go_sem, Nat.reduceLT, Nat.reduceAdd, Nat.reduceSub, ↓reduceIte]
  exact ⟨i + 1, by omega, by omega, by rw [wrap_lt h hm]⟩

-- laws.eqCategory
def c_laws_eqCategory : C :=
  (.seq (.ops [3, 4] [⟨none, .boxv 5 (.v 0)⟩,
    ⟨none, .boxv 5 (.v 1)⟩,
    ⟨none, .asg 2 (.k (.bool false))⟩] [(3, 0), (4, 1)])
  (.seq (.opc [] [⟨none, .fA 0 (.v 3)⟩,
    ⟨none, .ld (.t 0)⟩,
    ⟨none, .fA 0 (.v 4)⟩,
    ⟨none, .ld (.t 2)⟩,
    ⟨none, .bin .neq (.t 1) (.t 3)⟩] [] (.t 4) (.seq (.ops [] [⟨none, .asg 2 (.k (.bool false))⟩] [])
  .ret)
  .skip)
  (.seq (.opc [] [⟨none, .fA 1 (.v 3)⟩,
    ⟨none, .ld (.t 0)⟩,
    ⟨none, .fA 1 (.v 4)⟩,
    ⟨none, .ld (.t 2)⟩,
    ⟨none, .call 59 [(.t 1), (.t 3)]⟩,
    ⟨none, .not (.t 4)⟩] [] (.t 5) (.seq (.ops [] [⟨none, .asg 2 (.k (.bool false))⟩] [])
  .ret)
  .skip)
  (.seq (.opc [] [⟨none, .fA 2 (.v 3)⟩,
    ⟨none, .ld (.t 0)⟩,
    ⟨none, .fA 2 (.v 4)⟩,
    ⟨none, .ld (.t 2)⟩,
    ⟨none, .call 59 [(.t 1), (.t 3)]⟩,
    ⟨none, .not (.t 4)⟩] [] (.t 5) (.seq (.ops [] [⟨none, .asg 2 (.k (.bool false))⟩] [])
  .ret)
  .skip)
  (.seq (.opc [] [⟨none, .fA 3 (.v 3)⟩,
    ⟨none, .ld (.t 0)⟩,
    ⟨none, .fA 3 (.v 4)⟩,
    ⟨none, .ld (.t 2)⟩,
    ⟨none, .call 59 [(.t 1), (.t 3)]⟩,
    ⟨none, .not (.t 4)⟩] [] (.t 5) (.seq (.ops [] [⟨none, .asg 2 (.k (.bool false))⟩] [])
  .ret)
  .skip)
  (.seq (.opc [] [⟨none, .fA 4 (.v 3)⟩,
    ⟨none, .ld (.t 0)⟩,
    ⟨none, .fA 4 (.v 4)⟩,
    ⟨none, .ld (.t 2)⟩,
    ⟨none, .call 39 [(.t 1), (.t 3)]⟩,
    ⟨none, .not (.t 4)⟩] [] (.t 5) (.seq (.ops [] [⟨none, .asg 2 (.k (.bool false))⟩] [])
  .ret)
  .skip)
  (.seq (.ops [] [⟨none, .asg 2 (.k (.bool true))⟩] [])
  .ret)))))))
def tr_laws_eqCategory : List Nat := [0, 1, 4, 2, 3]
def rs_laws_eqCategory : List RS := [.t 2]
theorem ok_laws_eqCategory : fnOk Go.Proofs.Try.prog Go.Proofs.Try.f20 tr_laws_eqCategory c_laws_eqCategory 2 rs_laws_eqCategory = true := by decide +kernel

theorem ret_laws_eqCategory (a : Cat) : Ret Go.Proofs.Try.prog 20 [.v (Cat.d a), .v (Cat.d a)] (.bool true) := by
  refine ret_fn Go.Proofs.Try.func20 ok_laws_eqCategory rfl (show 2 < 500 by decide) rfl ?_; unfold c_laws_eqCategory tr_laws_eqCategory rs_laws_eqCategory; simp only [go_sem, Nat.reduceLT, Nat.reduceAdd, Nat.reduceSub, ↓reduceIte]
  refine ⟨fun h => by simp at h, fun _ => ?_⟩
  refine call_of (ret_laws_eqInt64S a.fr) rfl (.inl rfl) ?_
  simp only [go_sem, Nat.reduceLT, Nat.reduceAdd, Nat.reduceSub, ↓reduceIte]
  refine call_of (ret_laws_eqInt64S a.to) rfl (.inl rfl) ?_
  simp only [go_sem, Nat.reduceLT, Nat.reduceAdd, Nat.reduceSub, ↓reduceIte]
  refine call_of (ret_laws_eqInt64S a.idn) rfl (.inl rfl) ?_
  simp only [go_sem, Nat.reduceLT, Nat.reduceAdd, Nat.reduceSub, ↓reduceIte]
  refine call_of (ret_laws_eqInt64SS a.co) rfl (.inl rfl) ?_
  simp only [go_sem, Nat.reduceLT, Nat.reduceAdd, Nat.reduceSub, ↓reduceIte]
  all_goals trivial

-- laws.eqBound
def c_laws_eqBound : C :=
  (.seq (.ops [3, 4] [⟨none, .boxv 6 (.v 0)⟩,
    ⟨none, .boxv 6 (.v 1)⟩,
    ⟨none, .asg 2 (.k (.bool false))⟩] [(3, 0), (4, 1)])
  (.seq (.opc [] [⟨none, .fA 0 (.v 3)⟩,
    ⟨none, .ld (.t 0)⟩,
    ⟨none, .fA 0 (.v 4)⟩,
    ⟨none, .ld (.t 2)⟩,
    ⟨none, .bin .neq (.t 1) (.t 3)⟩] [] (.t 4) (.seq (.ops [] [⟨none, .asg 2 (.k (.bool false))⟩] [])
  .ret)
  .skip)
  (.seq (.opc [] [⟨none, .fA 1 (.v 3)⟩,
    ⟨none, .lda 5 (.t 0)⟩,
    ⟨none, .fA 1 (.v 4)⟩,
    ⟨none, .lda 5 (.t 2)⟩,
    ⟨none, .call 20 [(.t 1), (.t 3)]⟩,
    ⟨none, .not (.t 4)⟩] [] (.t 5) (.seq (.ops [] [⟨none, .asg 2 (.k (.bool false))⟩] [])
  .ret)
  .skip)
  (.seq (.ops [] [⟨none, .asg 2 (.k (.bool true))⟩] [])
  .ret))))
def tr_laws_eqBound : List Nat := [0, 1, 4, 2, 3]
def rs_laws_eqBound : List RS := [.t 2]
theorem ok_laws_eqBound : fnOk Go.Proofs.Try.prog Go.Proofs.Try.f54 tr_laws_eqBound c_laws_eqBound 2 rs_laws_eqBound = true := by decide +kernel

theorem ret_laws_eqBound (a : Bnd) : Ret Go.Proofs.Try.prog 54 [.v (Bnd.d a), .v (Bnd.d a)] (.bool true) := by
  refine ret_fn Go.Proofs.Try.func54 ok_laws_eqBound rfl (show 2 < 500 by decide) rfl ?_; unfold c_laws_eqBound tr_laws_eqBound rs_laws_eqBound; simp only [go_sem, Nat.reduceLT, Nat.reduceAdd, Nat.reduceSub, Nat.reduceLeDiff, ↓reduceIte]
  refine ⟨fun h => by simp at h, fun _ => ?_⟩
  refine call_of (ret_laws_eqCategory a.cat) rfl (.inl rfl) ?_
  simp only [go_sem, Nat.reduceLT, Nat.reduceAdd, Nat.reduceSub, ↓reduceIte]
  all_goals trivial

-- laws.eqBoundS
def c_laws_eqBoundS : C :=
  (.seq (.ops [] [⟨none, .asg 2 (.k (.bool false))⟩] [])
  (.seq (.opc [] [⟨none, .mv (.v 0)⟩,
    ⟨none, .len (.t 0)⟩,
    ⟨none, .mv (.v 1)⟩,
    ⟨none, .len (.t 2)⟩,
    ⟨none, .bin .neq (.t 1) (.t 3)⟩] [] (.t 4) (.seq (.ops [] [⟨none, .asg 2 (.k (.bool false))⟩] [])
  .ret)
  .skip)
  (.seq (.seq (.ops [] [⟨none, .asg 3 (.i 0)⟩] [])
  (.block 0 (.loop (.seq (.opc [] [⟨none, .mv (.v 3)⟩,
    ⟨none, .mv (.v 0)⟩,
    ⟨none, .len (.t 1)⟩,
    ⟨none, .bin .lss (.t 0) (.t 2)⟩] [] (.t 3) .skip
  (.exit 0))
  (.seq (.block 1 (.opc [] [⟨none, .mv (.v 0)⟩,
    ⟨none, .mv (.v 3)⟩,
    ⟨none, .idxA 6 (.t 0) (.t 1)⟩,
    ⟨none, .lda 6 (.t 2)⟩,
    ⟨none, .mv (.v 1)⟩,
    ⟨none, .mv (.v 3)⟩,
    ⟨none, .idxA 6 (.t 4) (.t 5)⟩,
    ⟨none, .lda 6 (.t 6)⟩,
    ⟨none, .call 54 [(.t 3), (.t 7)]⟩,
    ⟨none, .not (.t 8)⟩] [] (.t 9) (.seq (.ops [] [⟨none, .asg 2 (.k (.bool false))⟩] [])
  .ret)
  .skip))
  (.ops [] [⟨none, .mv (.v 3)⟩,
    ⟨none, .bin .add (.t 0) (.i 1)⟩,
    ⟨none, .asg 3 (.t 1)⟩] []))))))
  (.seq (.ops [] [⟨none, .asg 2 (.k (.bool true))⟩] [])
  .ret))))
def tr_laws_eqBoundS : List Nat := [0, 1, 4, 5]
def rs_laws_eqBoundS : List RS := [.t 2]
theorem ok_laws_eqBoundS : fnOk Go.Proofs.Try.prog Go.Proofs.Try.f15 tr_laws_eqBoundS c_laws_eqBoundS 2 rs_laws_eqBoundS = true := by decide +kernel

theorem ret_laws_eqBoundS (a : List (Bnd)) : Ret Go.Proofs.Try.prog 15 [.v (lst Bnd.d Bnd.zero a), .v (lst Bnd.d Bnd.zero a)] (.bool true) := by
  refine ret_wf fun hw => ?_
  simp only [argsWf, wfd_lst] at hw
  have hm := hw.1.1
  refine ret_fn Go.Proofs.Try.func15 ok_laws_eqBoundS rfl (show 2 < 500 by decide) rfl ?_; unfold c_laws_eqBoundS tr_laws_eqBoundS rs_laws_eqBoundS; simp only [go_sem, Nat.reduceLT, Nat.reduceAdd, Nat.reduceSub, ↓reduceIte]
  refine ⟨fun h => by simp at h, fun _ => ?_⟩
  refine loop_set [] (fun (i : Nat) => [(3, .int .i64 i)]) (fun i => i ≤ a.length) (fun i => a.length - i) 0 rfl (Nat.zero_le _) rfl ?_
  rintro i hi
  simp only [go_sem, Nat.reduceLT, Nat.reduceAdd, Nat.reduceSub, Nat.reduceLeDiff, ↓reduceIte]
  refine fun h => ⟨h, h, call_of (ret_laws_eqBound (a.getD i Bnd.zero)) rfl (.inl rfl) ?_⟩
  simp only [go_sem, Nat.reduceLT, Nat.reduceAdd, Nat.reduceSub, ↓reduceIte]
  exact ⟨i + 1, by omega, by omega, by rw [wrap_lt h hm]⟩
end Go.D3

/- CONTRACTS: small functions of chapters 1, 2 and 40. -/
namespace Go.D3
open Go
set_option maxRecDepth 100000

def inR (n lo hi : Int) : Bool := decide (lo ≤ n) && decide (n ≤ hi)
def mapB (n : Int) (f : List Int) : Bool := f.all fun y => decide (0 ≤ y) && decide (y < n)
def isL (t : List UInt8) : Bool := (t.length : Int) == 1 && decide (97 ≤ ((t.getD 0 0).toNat : Int)) && decide (((t.getD 0 0).toNat : Int) ≤ 122)

-- spec.l01In
def c_spec_l01In : C :=
  (.seq (.ops [] [⟨none, .asg 3 (.k (.bool false))⟩] [])
  (.seq (.ops [] [⟨none, .mv (.v 0)⟩,
    ⟨none, .mv (.v 1)⟩,
    ⟨none, .bin .geq (.t 0) (.t 1)⟩,
    ⟨none, .mv (.t 2)⟩,
    ⟨some (3, true), .mv (.v 0)⟩,
    ⟨some (3, true), .mv (.v 2)⟩,
    ⟨some (3, true), .bin .leq (.t 4) (.t 5)⟩,
    ⟨none, .pick (.t 3) (.t 6) (.k (.bool false))⟩,
    ⟨none, .asg 3 (.t 7)⟩] [])
  .ret))
def tr_spec_l01In : List Nat := [0, 1, 2, 6]
def rs_spec_l01In : List RS := [.t 3]
theorem ok_spec_l01In : fnOk Go.Proofs.Try.prog Go.Proofs.Try.f140 tr_spec_l01In c_spec_l01In 3 rs_spec_l01In = true := by decide +kernel

theorem ret_spec_l01In (n lo hi : Int) : Ret Go.Proofs.Try.prog 140 [.v (.int .i64 n), .v (.int .i64 lo), .v (.int .i64 hi)] (.bool (inR n lo hi)) := by
  unfold inR
  refine ret_fn Go.Proofs.Try.func140 ok_spec_l01In rfl (show 3 < 500 by decide) rfl ?_; unfold c_spec_l01In tr_spec_l01In rs_spec_l01In; simp only [go_sem, Nat.reduceLT, Nat.reduceAdd, Nat.reduceSub, ↓reduceIte]
-- impl.inRange
def c_impl_inRange : C :=
  (.seq (.ops [] [⟨none, .asg 3 (.k (.bool false))⟩] [])
  (.seq (.ops [] [⟨none, .mv (.v 0)⟩,
    ⟨none, .mv (.v 1)⟩,
    ⟨none, .bin .geq (.t 0) (.t 1)⟩,
    ⟨none, .mv (.t 2)⟩,
    ⟨some (3, true), .mv (.v 0)⟩,
    ⟨some (3, true), .mv (.v 2)⟩,
    ⟨some (3, true), .bin .leq (.t 4) (.t 5)⟩,
    ⟨none, .pick (.t 3) (.t 6) (.k (.bool false))⟩,
    ⟨none, .asg 3 (.t 7)⟩] [])
  .ret))
def tr_impl_inRange : List Nat := [0, 1, 2, 6]
def rs_impl_inRange : List RS := [.t 3]
theorem ok_impl_inRange : fnOk Go.Proofs.Try.prog Go.Proofs.Try.f144 tr_impl_inRange c_impl_inRange 3 rs_impl_inRange = true := by decide +kernel

theorem ret_impl_inRange (n lo hi : Int) : Ret Go.Proofs.Try.prog 144 [.v (.int .i64 n), .v (.int .i64 lo), .v (.int .i64 hi)] (.bool (inR n lo hi)) := by
  unfold inR
  refine ret_fn Go.Proofs.Try.func144 ok_impl_inRange rfl (show 3 < 500 by decide) rfl ?_; unfold c_impl_inRange tr_impl_inRange rs_impl_inRange; simp only [go_sem, Nat.reduceLT, Nat.reduceAdd, Nat.reduceSub, ↓reduceIte]
-- spec.l01Map
def c_spec_l01Map : C :=
  (.seq (.ops [] [⟨none, .asg 2 (.k (.bool false))⟩] [])
  (.seq (.seq (.ops [] [⟨none, .asg 3 (.i 0)⟩] [])
  (.block 0 (.loop (.seq (.opc [] [⟨none, .mv (.v 3)⟩,
    ⟨none, .mv (.v 1)⟩,
    ⟨none, .len (.t 1)⟩,
    ⟨none, .bin .lss (.t 0) (.t 2)⟩] [] (.t 3) .skip
  (.exit 0))
  (.seq (.block 1 (.opc [] [⟨none, .mv (.v 1)⟩,
    ⟨none, .mv (.v 3)⟩,
    ⟨none, .idxA 1 (.t 0) (.t 1)⟩,
    ⟨none, .ld (.t 2)⟩,
    ⟨none, .bin .lss (.t 3) (.i 0)⟩,
    ⟨none, .mv (.t 4)⟩,
    ⟨some (5, false), .mv (.v 1)⟩,
    ⟨some (5, false), .mv (.v 3)⟩,
    ⟨some (5, false), .idxA 1 (.t 6) (.t 7)⟩,
    ⟨some (5, false), .ld (.t 8)⟩,
    ⟨some (5, false), .mv (.v 0)⟩,
    ⟨some (5, false), .bin .geq (.t 9) (.t 10)⟩,
    ⟨none, .pick (.t 5) (.k (.bool true)) (.t 11)⟩] [] (.t 12) (.seq (.ops [] [⟨none, .asg 2 (.k (.bool false))⟩] [])
  .ret)
  .skip))
  (.ops [] [⟨none, .mv (.v 3)⟩,
    ⟨none, .bin .add (.t 0) (.i 1)⟩,
    ⟨none, .asg 3 (.t 1)⟩] []))))))
  (.seq (.ops [] [⟨none, .asg 2 (.k (.bool true))⟩] [])
  .ret)))
def tr_spec_l01Map : List Nat := [0, 1, 4, 5]
def rs_spec_l01Map : List RS := [.t 2]
theorem ok_spec_l01Map : fnOk Go.Proofs.Try.prog Go.Proofs.Try.f142 tr_spec_l01Map c_spec_l01Map 2 rs_spec_l01Map = true := by decide +kernel

theorem ret_spec_l01Map (n : Int) (f : List Int) : Ret Go.Proofs.Try.prog 142 [.v (.int .i64 n), .v (ints f)] (.bool (mapB n f)) := by
  refine ret_wf fun hw => ?_
  simp only [argsWf, wfd_lst] at hw
  obtain ⟨-, ⟨hw, -⟩, -⟩ := hw
  refine ret_fn Go.Proofs.Try.func142 ok_spec_l01Map rfl (show 2 < 500 by decide) rfl ?_; unfold c_spec_l01Map tr_spec_l01Map rs_spec_l01Map; simp only [go_sem, Nat.reduceLT, Nat.reduceAdd, ↓reduceIte]
  refine loop_set [] (fun (i : Nat) => [(3, .int .i64 i)]) (fun i => i ≤ f.length ∧ mapB n (f.take i) = true) (fun i => f.length - i) 0 rfl ⟨Nat.zero_le _, rfl⟩ rfl ?_
  rintro i ⟨hi, ha⟩
  simp only [go_sem, Nat.reduceLT, Nat.reduceAdd, Nat.reduceSub, ↓reduceIte]
  (repeat' (first | (refine And.intro ?_ ?_) | intro)) <;> (try (first | trivial | assumption | omega | (simp_all; done) | (simp_all; omega)))
  · rename_i h1 h2
    symm; refine all_stop (d := 0) h1 ?_
    simp only [Bool.or_eq_true, decide_eq_true_eq] at h2
    simp only [Bool.and_eq_false_iff, decide_eq_false_iff_not]; omega
  · rename_i h1 h2
    simp only [Bool.or_eq_false_iff, decide_eq_false_iff_not] at h2
    exact ⟨i + 1, ⟨by omega, all_step (d := 0) h1 ha (by simp only [Bool.and_eq_true, decide_eq_true_eq]; omega)⟩, by omega, by rw [wrap_lt h1 hw]⟩
  · rename_i h1
    exact (all_end (by omega) ha).symm
-- impl.within
def c_impl_within : C :=
  (.seq (.ops [] [⟨none, .asg 2 (.k (.bool false))⟩] [])
  (.seq (.seq (.ops [5] [⟨none, .asg 4 (.v 0)⟩,
    ⟨none, .len (.v 4)⟩,
    ⟨none, .asg 6 (.i 0)⟩] [(5, 1)])
  (.block 0 (.loop (.opq [] [⟨none, .bin .lss (.v 6) (.v 5)⟩] [] (.t 0) .skip
  (.exit 0)
  (.seq (.block 1 (.seq (.ops [] [⟨none, .idxA 1 (.v 4) (.v 6)⟩,
    ⟨none, .ld (.t 0)⟩,
    ⟨none, .asg 3 (.t 1)⟩] [])
  (.opc [] [⟨none, .mv (.v 3)⟩,
    ⟨none, .mv (.v 1)⟩,
    ⟨none, .bin .sub (.t 1) (.i 1)⟩,
    ⟨none, .call 144 [(.t 0), (.i 0), (.t 2)]⟩,
    ⟨none, .not (.t 3)⟩] [] (.t 4) (.seq (.ops [] [⟨none, .asg 2 (.k (.bool false))⟩] [])
  .ret)
  .skip)))
  (.ops [] [⟨none, .bin .add (.v 6) (.i 1)⟩,
    ⟨none, .asg 6 (.t 0)⟩] []))))))
  (.seq (.ops [] [⟨none, .asg 2 (.k (.bool true))⟩] [])
  .ret)))
def tr_impl_within : List Nat := [0, 1, 4, 6, 7, 8, 9]
def rs_impl_within : List RS := [.t 2]
theorem ok_impl_within : fnOk Go.Proofs.Try.prog Go.Proofs.Try.f100 tr_impl_within c_impl_within 2 rs_impl_within = true := by decide +kernel

theorem inR_pred {y n : Int} (hn : -4611686018427387904 ≤ n) (hn2 : n ≤ 9223372036854775807) : inR y 0 (IntKind.i64.wrap (n - 1)) = (decide (0 ≤ y) && decide (y < n)) := by
  unfold inR
  rw [wrap_of_has ⟨by simp [IntKind.min, IntKind.signed, IntKind.bits]; omega, by simp [IntKind.max, IntKind.signed, IntKind.bits]; omega⟩]
  congr 1
  exact decide_eq_decide.2 ⟨fun h => by omega, fun h => by omega⟩
theorem ret_impl_within (n : Int) (f : List Int) (hn : 0 ≤ n) : Ret Go.Proofs.Try.prog 100 [.v (ints f), .v (.int .i64 n)] (.bool (mapB n f)) := by
  refine ret_wf fun hw => ?_
  simp only [argsWf, wfd_lst, D.wfd, IntKind.has, IntKind.max, IntKind.signed, IntKind.bits] at hw
  obtain ⟨⟨hw, -⟩, ⟨-, hn2⟩, -⟩ := hw
  have hp := fun y => inR_pred (y := y) (n := n) (by omega) (by simpa using hn2)
  refine ret_fn Go.Proofs.Try.func100 ok_impl_within rfl (show 2 < 500 by decide) rfl ?_; unfold c_impl_within tr_impl_within rs_impl_within; simp only [go_sem, Nat.reduceLT, Nat.reduceAdd, Nat.reduceSub, ↓reduceIte]
  refine loop_set [3] (fun (i : Nat) => [(6, .int .i64 i)]) (fun i => i ≤ f.length ∧ mapB n (f.take i) = true) (fun i => f.length - i) 0 rfl ⟨Nat.zero_le _, rfl⟩ rfl ?_
  rintro i ⟨hi, ha⟩
  simp only [go_sem, Nat.reduceLT, Nat.reduceAdd, Nat.reduceSub, ↓reduceIte]
  refine ⟨fun h => ⟨h, call_of (ret_impl_inRange _ _ _) rfl (.inl rfl) ?_⟩, fun h => (all_end (by omega) ha).symm⟩
  simp only [go_sem, Nat.reduceLT, Nat.reduceAdd, Nat.reduceSub, ↓reduceIte]
  rw [hp]
  refine ⟨fun h2 => ?_, fun h2 => ⟨i + 1, ⟨by omega, all_step (d := 0) h ha (by simpa using h2)⟩, by omega, by rw [wrap_lt h hw]⟩⟩
  exact (all_stop (d := 0) h (by rw [Bool.not_eq_true'] at h2; exact h2)).symm
-- spec.l40Letter
def c_spec_l40Letter : C :=
  (.seq (.ops [] [⟨none, .asg 1 (.k (.bool false))⟩] [])
  (.seq (.ops [] [⟨none, .mv (.v 0)⟩,
    ⟨none, .lenS (.t 0)⟩,
    ⟨none, .bin .eql (.t 1) (.i 1)⟩,
    ⟨none, .mv (.t 2)⟩,
    ⟨some (3, true), .mv (.v 0)⟩,
    ⟨some (3, true), .idxS (.t 4) (.i 0)⟩,
    ⟨some (3, true), .bin .geq (.t 5) (.k (.int .u8 97))⟩,
    ⟨none, .pick (.t 3) (.t 6) (.k (.bool false))⟩,
    ⟨none, .mv (.t 7)⟩,
    ⟨some (8, true), .mv (.v 0)⟩,
    ⟨some (8, true), .idxS (.t 9) (.i 0)⟩,
    ⟨some (8, true), .bin .leq (.t 10) (.k (.int .u8 122))⟩,
    ⟨none, .pick (.t 8) (.t 11) (.k (.bool false))⟩,
    ⟨none, .asg 1 (.t 12)⟩] [])
  .ret))
def tr_spec_l40Letter : List Nat := [0, 2]
def rs_spec_l40Letter : List RS := [.t 1]
theorem ok_spec_l40Letter : fnOk Go.Proofs.Try.prog Go.Proofs.Try.f50 tr_spec_l40Letter c_spec_l40Letter 1 rs_spec_l40Letter = true := by decide +kernel

theorem ret_spec_l40Letter (t : List UInt8) : Ret Go.Proofs.Try.prog 50 [.v (.str t)] (.bool (isL t)) := by
  refine ret_fn Go.Proofs.Try.func50 ok_spec_l40Letter rfl (show 1 < 500 by decide) rfl ?_; unfold c_spec_l40Letter tr_spec_l40Letter rs_spec_l40Letter; simp only [go_sem, Nat.reduceLT, Nat.reduceAdd, Nat.reduceSub, ↓reduceIte]
  unfold isL
  (repeat' (first | (refine And.intro ?_ ?_) | intro)) <;> (try (first | trivial | assumption | omega | (simp_all; done) | (simp_all; omega)))
-- impl.isLetter
def c_impl_isLetter : C :=
  (.seq (.ops [] [⟨none, .asg 1 (.k (.bool false))⟩] [])
  (.seq (.ops [] [⟨none, .mv (.v 0)⟩,
    ⟨none, .lenS (.t 0)⟩,
    ⟨none, .bin .eql (.t 1) (.i 1)⟩,
    ⟨none, .mv (.t 2)⟩,
    ⟨some (3, true), .mv (.v 0)⟩,
    ⟨some (3, true), .idxS (.t 4) (.i 0)⟩,
    ⟨some (3, true), .bin .geq (.t 5) (.k (.int .u8 97))⟩,
    ⟨none, .pick (.t 3) (.t 6) (.k (.bool false))⟩,
    ⟨none, .mv (.t 7)⟩,
    ⟨some (8, true), .mv (.v 0)⟩,
    ⟨some (8, true), .idxS (.t 9) (.i 0)⟩,
    ⟨some (8, true), .bin .leq (.t 10) (.k (.int .u8 122))⟩,
    ⟨none, .pick (.t 8) (.t 11) (.k (.bool false))⟩,
    ⟨none, .asg 1 (.t 12)⟩] [])
  .ret))
def tr_impl_isLetter : List Nat := [0, 2]
def rs_impl_isLetter : List RS := [.t 1]
theorem ok_impl_isLetter : fnOk Go.Proofs.Try.prog Go.Proofs.Try.f97 tr_impl_isLetter c_impl_isLetter 1 rs_impl_isLetter = true := by decide +kernel

theorem ret_impl_isLetter (t : List UInt8) : Ret Go.Proofs.Try.prog 97 [.v (.str t)] (.bool (isL t)) := by
  refine ret_fn Go.Proofs.Try.func97 ok_impl_isLetter rfl (show 1 < 500 by decide) rfl ?_; unfold c_impl_isLetter tr_impl_isLetter rs_impl_isLetter; simp only [go_sem, Nat.reduceLT, Nat.reduceAdd, Nat.reduceSub, ↓reduceIte]
  unfold isL
  (repeat' (first | (refine And.intro ?_ ?_) | intro)) <;> (try (first | trivial | assumption | omega | (simp_all; done) | (simp_all; omega)))
-- spec.l02Ends
def c_spec_l02Ends : C :=
  (.seq (.ops [] [⟨none, .asg 3 (.k (.bool false))⟩] [])
  (.seq (.ops [] [⟨none, .mv (.v 0)⟩,
    ⟨none, .len (.t 0)⟩,
    ⟨none, .mv (.v 1)⟩,
    ⟨none, .bin .eql (.t 1) (.t 2)⟩,
    ⟨none, .mv (.t 3)⟩,
    ⟨some (4, true), .mv (.v 2)⟩,
    ⟨some (4, true), .mv (.v 0)⟩,
    ⟨some (4, true), .call 142 [(.t 5), (.t 6)]⟩,
    ⟨none, .pick (.t 4) (.t 7) (.k (.bool false))⟩,
    ⟨none, .asg 3 (.t 8)⟩] [])
  .ret))
def tr_spec_l02Ends : List Nat := [0, 1, 2, 6]
def rs_spec_l02Ends : List RS := [.t 3]
theorem ok_spec_l02Ends : fnOk Go.Proofs.Try.prog Go.Proofs.Try.f141 tr_spec_l02Ends c_spec_l02Ends 3 rs_spec_l02Ends = true := by decide +kernel

theorem ret_spec_l02Ends (l : List Int) (n ob : Int) : Ret Go.Proofs.Try.prog 141 [.v (ints l), .v (.int .i64 n), .v (.int .i64 ob)] (.bool ((l.length : Int) == n && mapB ob l)) := by
  refine ret_fn Go.Proofs.Try.func141 ok_spec_l02Ends rfl (show 3 < 500 by decide) rfl ?_; unfold c_spec_l02Ends tr_spec_l02Ends rs_spec_l02Ends; simp only [go_sem, Nat.reduceLT, Nat.reduceAdd, Nat.reduceSub, ↓reduceIte]
  refine callg_of (fun h => ret_spec_l01Map ob l) rfl (fun h => by simp [h]) (.inl rfl) ?_
  simp only [go_sem, Nat.reduceLT, Nat.reduceAdd, Nat.reduceSub, ↓reduceIte]
-- (*impl.Category).arrows
def c_impl_Category_arrows : C :=
  (.seq (.ops [] [⟨none, .asg 1 (.i 0)⟩] [])
  (.seq (.ops [] [⟨none, .mv (.v 0)⟩,
    ⟨none, .nck (.t 0)⟩,
    ⟨none, .fA 1 (.t 1)⟩,
    ⟨none, .ld (.t 2)⟩,
    ⟨none, .len (.t 3)⟩,
    ⟨none, .asg 1 (.t 4)⟩] [])
  .ret))
def tr_impl_Category_arrows : List Nat := [0, 2]
def rs_impl_Category_arrows : List RS := [.t 1]
theorem ok_impl_Category_arrows : fnOk Go.Proofs.Try.prog Go.Proofs.Try.f111 tr_impl_Category_arrows c_impl_Category_arrows 1 rs_impl_Category_arrows = true := by decide +kernel

theorem ret_impl_Category_arrows (c : Cat) : Ret Go.Proofs.Try.prog 111 [.v (.ptr c.cells)] (.int .i64 c.fr.length) := by
  refine ret_fn Go.Proofs.Try.func111 ok_impl_Category_arrows rfl (show 1 < 500 by decide) rfl ?_; unfold c_impl_Category_arrows tr_impl_Category_arrows rs_impl_Category_arrows; simp only [go_sem, Nat.reduceLT, Nat.reduceAdd, Nat.reduceSub, ↓reduceIte]
-- (*impl.Category).ends
def c_impl_Category_ends : C :=
  (.seq (.ops [2] [⟨none, .alc [.int .i64 0, .int .i64 0]⟩] [(2, 0)])
  (.seq (.ops [] [⟨none, .mv (.v 0)⟩,
    ⟨none, .nck (.t 0)⟩,
    ⟨none, .fA 1 (.t 1)⟩,
    ⟨none, .ld (.t 2)⟩,
    ⟨none, .mv (.v 1)⟩,
    ⟨none, .idxA 1 (.t 3) (.t 4)⟩,
    ⟨none, .ld (.t 5)⟩,
    ⟨none, .mv (.v 0)⟩,
    ⟨none, .nck (.t 7)⟩,
    ⟨none, .fA 2 (.t 8)⟩,
    ⟨none, .ld (.t 9)⟩,
    ⟨none, .mv (.v 1)⟩,
    ⟨none, .idxA 1 (.t 10) (.t 11)⟩,
    ⟨none, .ld (.t 12)⟩,
    ⟨none, .bld [.int .i64 0, .int .i64 0] [(0, 1, (.t 6)), (1, 1, (.t 13))]⟩,
    ⟨none, .stn 2 (.v 2) (.t 14)⟩] [])
  .ret))
def tr_impl_Category_ends : List Nat := [0, 1, 4]
def rs_impl_Category_ends : List RS := [.c 2 2 true]
theorem ok_impl_Category_ends : fnOk Go.Proofs.Try.prog Go.Proofs.Try.f155 tr_impl_Category_ends c_impl_Category_ends 2 rs_impl_Category_ends = true := by decide +kernel

theorem ret_impl_Category_ends (c : Cat) (f : Int) (h0 : 0 ≤ f) (h1 : f < c.fr.length) (h2 : f < c.to.length) : Ret Go.Proofs.Try.prog 155 [.v (.ptr c.cells), .v (.int .i64 f)] (.agg [.int .i64 (c.fr.getD f.toNat 0), .int .i64 (c.to.getD f.toNat 0)]) := by
  refine ret_fn Go.Proofs.Try.func155 ok_impl_Category_ends rfl (show 2 < 500 by decide) rfl ?_; unfold c_impl_Category_ends tr_impl_Category_ends rs_impl_Category_ends; simp only [go_sem, Nat.reduceLT, Nat.reduceAdd, Nat.reduceSub, Nat.reduceLeDiff, ↓reduceIte]
  exact ⟨⟨h0, h1⟩, h0, h2⟩
-- (*impl.Category).then
def c_impl_Category_then : C :=
  (.seq (.ops [] [⟨none, .asg 3 (.i 0)⟩] [])
  (.seq (.ops [] [⟨none, .mv (.v 0)⟩,
    ⟨none, .nck (.t 0)⟩,
    ⟨none, .fA 4 (.t 1)⟩,
    ⟨none, .ld (.t 2)⟩,
    ⟨none, .mv (.v 1)⟩,
    ⟨none, .idxA 1 (.t 3) (.t 4)⟩,
    ⟨none, .ld (.t 5)⟩,
    ⟨none, .mv (.v 2)⟩,
    ⟨none, .idxA 1 (.t 6) (.t 7)⟩,
    ⟨none, .ld (.t 8)⟩,
    ⟨none, .asg 3 (.t 9)⟩] [])
  .ret))
def tr_impl_Category_then : List Nat := [0, 1, 2, 6]
def rs_impl_Category_then : List RS := [.t 3]
theorem ok_impl_Category_then : fnOk Go.Proofs.Try.prog Go.Proofs.Try.f104 tr_impl_Category_then c_impl_Category_then 3 rs_impl_Category_then = true := by decide +kernel

theorem ret_impl_Category_then (c : Cat) (f g : Int) (h0 : 0 ≤ f) (h1 : f < c.co.length) (h2 : 0 ≤ g) (h3 : g < (c.co.getD f.toNat []).length) : Ret Go.Proofs.Try.prog 104 [.v (.ptr c.cells), .v (.int .i64 f), .v (.int .i64 g)] (.int .i64 ((c.co.getD f.toNat []).getD g.toNat 0)) := by
  refine ret_fn Go.Proofs.Try.func104 ok_impl_Category_then rfl (show 3 < 500 by decide) rfl ?_; unfold c_impl_Category_then tr_impl_Category_then rs_impl_Category_then; simp only [go_sem, Nat.reduceLT, Nat.reduceAdd, Nat.reduceSub, ↓reduceIte]
  exact ⟨⟨h0, h1⟩, h2, h3⟩
end Go.D3

/- PLAIN LAWS: what a shape and a category are. -/
namespace Go.D3

/-! ### Tests over numbers below a bound -/
def allB (n : Nat) (p : Nat → Bool) : Bool := (List.range n).all p
theorem allB_iff {n : Nat} {p : Nat → Bool} : allB n p = true ↔ ∀ i, i < n → p i = true := by simp [allB]
theorem allB_succ {n : Nat} {p : Nat → Bool} (h : allB n p = true) (hp : p n = true) : allB (n + 1) p = true := by
  rw [allB_iff] at *; intro i hi; by_cases h1 : i < n
  · exact h i h1
  · rw [show i = n by omega]; exact hp
theorem allB_stop {n i : Nat} {p : Nat → Bool} (hi : i < n) (hp : p i = false) : allB n p = false := by
  cases h : allB n p with
  | false => rfl
  | true => rw [allB_iff.1 h i hi] at hp; cases hp
theorem allB_zero {p : Nat → Bool} : allB 0 p = true := rfl

theorem mapB_iff {n : Int} {l : List Int} : mapB n l = true ↔ ∀ y ∈ l, 0 ≤ y ∧ y < n := by simp [mapB]
theorem mapB_get {n : Int} {l : List Int} (h : mapB n l = true) {i : Nat} (hi : i < l.length) : 0 ≤ l.getD i 0 ∧ l.getD i 0 < n := by
  rw [getD_lt hi]; exact mapB_iff.1 h _ (List.getElem_mem hi)

/-! ### Texts in order -/
theorem bl_tri : ∀ (q p : List UInt8), (Op.bytesLess q p || q == p) = !Op.bytesLess p q
  | [], [] => rfl
  | [], b :: y => rfl
  | a :: x, [] => rfl
  | a :: x, b :: y => by
    have ih := bl_tri x y
    simp only [Op.bytesLess]
    by_cases h : a = b
    · subst h
      have h1 : (a :: x == a :: y) = (x == y) := by rw [Bool.eq_iff_iff]; simp
      have h2 : (decide (a < a)) = false := by simp
      rw [h1, h2]; simpa using ih
    · have h1 : (a :: x == b :: y) = false := by simp [h]
      have h2 : (a == b) = false := by simpa using h
      have h3 : (b == a) = false := by simpa using fun e => h e.symm
      rw [h1, h2, h3]
      simp only [Bool.false_and, Bool.or_false]
      rw [Bool.eq_iff_iff]
      simp only [decide_eq_true_eq, Bool.not_eq_true', decide_eq_false_iff_not, UInt8.lt_iff_toNat_lt]
      have : a.toNat ≠ b.toNat := fun e => h (UInt8.toNat_inj.1 e)
      omega
theorem bl_geq (p q : List UInt8) : (!Op.bytesLess p q) = !Op.bytesLess p q := rfl
theorem wrap_pred {i : Nat} (h : 0 < i) (h2 : i ≤ maxLen) : IntKind.i64.wrap ((i : Int) - 1) = ((i - 1 : Nat) : Int) := by
  have := wrap_sub (a := (i : Int)) (n := 1) (by omega) (by omega) (by simp only [maxLen]; omega)
  simp only [Int.natCast_one] at this
  rw [this]; omega

/-! ### Shapes -/
def Cat.preB (c : Cat) : Bool := inR c.ob 0 8 && decide (c.fr.length ≤ 40) && mapB c.ob c.fr && ((c.to.length : Int) == c.fr.length) && mapB c.ob c.to && ((c.co.length : Int) == c.fr.length) && ((c.idn.length : Int) == c.ob) && mapB c.fr.length c.idn
def Cat.idB (c : Cat) (x : Nat) : Bool := c.fr.getD (c.idn.getD x 0).toNat 0 == (x : Int) && c.to.getD (c.idn.getD x 0).toNat 0 == (x : Int)
def Cat.cell (c : Cat) (f g : Nat) : Int := (c.co.getD f []).getD g 0
def Cat.cellB (c : Cat) (f g : Nat) : Bool :=
  if c.to.getD f 0 != c.fr.getD g 0 then c.cell f g == -1
  else decide (0 ≤ c.cell f g) && decide (c.cell f g < c.fr.length) && (c.fr.getD (c.cell f g).toNat 0 == c.fr.getD f 0) && (c.to.getD (c.cell f g).toNat 0 == c.to.getD g 0)
def Cat.rowB (c : Cat) (f : Nat) : Bool := ((c.co.getD f []).length : Int) == c.fr.length && allB c.fr.length (c.cellB f)
def Cat.shapeB (c : Cat) : Bool := c.preB && allB c.idn.length c.idB && allB c.fr.length c.rowB

structure Cat.Pre (c : Cat) : Prop where
  ob0 : 0 ≤ c.ob
  ob8 : c.ob ≤ 8
  fr : c.fr.length ≤ 40
  frm : mapB c.ob c.fr = true
  to : c.to.length = c.fr.length
  tom : mapB c.ob c.to = true
  co : c.co.length = c.fr.length
  idn : (c.idn.length : Int) = c.ob
  idm : mapB c.fr.length c.idn = true
theorem Cat.preB_iff {c : Cat} : c.preB = true ↔ c.Pre := by
  simp only [Cat.preB, inR, Bool.and_eq_true, decide_eq_true_eq, beq_iff_eq]
  constructor
  · rintro ⟨⟨⟨⟨⟨⟨⟨⟨h1, h2⟩, h3⟩, h4⟩, h5⟩, h6⟩, h7⟩, h8⟩, h9⟩
    exact ⟨h1, h2, h3, h4, by omega, h6, by omega, h8, h9⟩
  · rintro ⟨h1, h2, h3, h4, h5, h6, h7, h8, h9⟩
    exact ⟨⟨⟨⟨⟨⟨⟨⟨h1, h2⟩, h3⟩, h4⟩, by omega⟩, h6⟩, by omega⟩, h8⟩, h9⟩
structure Cat.Shape (c : Cat) : Prop extends Cat.Pre c where
  ids : ∀ x, x < c.idn.length → c.idB x = true
  row : ∀ f, f < c.fr.length → (c.co.getD f []).length = c.fr.length
  cells : ∀ f g, f < c.fr.length → g < c.fr.length → c.cellB f g = true
theorem Cat.shapeB_iff {c : Cat} : c.shapeB = true ↔ c.Shape := by
  simp only [Cat.shapeB, Cat.rowB, Bool.and_eq_true, allB_iff, Cat.preB_iff, beq_iff_eq]
  constructor
  · rintro ⟨⟨h1, h2⟩, h3⟩
    exact ⟨h1, h2, fun f hf => by have := (h3 f hf).1; omega, fun f g hf hg => (h3 f hf).2 g hg⟩
  · rintro ⟨h1, h2, h3, h4⟩
    exact ⟨⟨h1, h2⟩, fun f hf => ⟨by have := h3 f hf; omega, fun g hg => h4 f g hf hg⟩⟩
theorem Cat.Pre.idl {c : Cat} (h : c.Pre) : c.idn.length ≤ 8 := by have := h.idn; have := h.ob8; omega
theorem Cat.Pre.idx {c : Cat} (h : c.Pre) {x : Nat} (hx : x < c.idn.length) : 0 ≤ c.idn.getD x 0 ∧ c.idn.getD x 0 < c.fr.length := mapB_get h.idm hx
theorem Cat.not_id {c : Cat} {x : Nat} (hx : x < c.idn.length) (h : c.idB x = false) : c.shapeB = false := by
  unfold Cat.shapeB; rw [allB_stop hx h]; simp
theorem Cat.not_row {c : Cat} {f : Nat} (hf : f < c.fr.length) (h : c.rowB f = false) : c.shapeB = false := by
  unfold Cat.shapeB; rw [allB_stop hf h]; simp
theorem Cat.not_cell {c : Cat} {f g : Nat} (hf : f < c.fr.length) (hg : g < c.fr.length) (h : c.cellB f g = false) : c.shapeB = false := by
  refine Cat.not_row hf ?_; unfold Cat.rowB; rw [allB_stop hg h]; simp
theorem Cat.is_shape {c : Cat} (hp : c.Pre) (h1 : allB c.idn.length c.idB = true) (h2 : allB c.fr.length c.rowB = true) : c.shapeB = true := by
  unfold Cat.shapeB; rw [h1, h2, Cat.preB_iff.2 hp]; rfl
theorem Cat.not_shape {c : Cat} (h : ¬ c.Pre) : c.shapeB = false := by
  cases hs : c.shapeB with
  | false => rfl
  | true => exact absurd (Cat.shapeB_iff.1 hs).toPre h
end Go.D3

/- PLAIN LAWS: the first fault of a shape. -/
namespace Go.D3

theorem ltS {P : Nat → Prop} {n : Nat} (h : ∀ j, j < n → P j) (hn : P n) : ∀ j, j < n + 1 → P j := fun j hj => by
  by_cases h1 : j < n
  · exact h j h1
  · rw [show j = n by omega]; exact hn
theorem findSome_none {α : Type} {F : Nat → Option α} : ∀ (n : Nat), (∀ j, j < n → F j = none) → (List.range n).findSome? F = none := by
  intro n h
  rw [List.findSome?_eq_none_iff]
  intro x hx; exact h x (by simpa using hx)
theorem findSome_first {α : Type} {F : Nat → Option α} {i : Nat} {r : α} : ∀ (n : Nat), (∀ j, j < i → F j = none) → i < n → F i = some r → (List.range n).findSome? F = some r
  | 0, _, h, _ => by omega
  | n + 1, h0, h1, h2 => by
    rw [List.range_succ, List.findSome?_append]
    by_cases h : i < n
    · rw [findSome_first n h0 h h2]; rfl
    · have : i = n := by omega
      subst this
      rw [findSome_none i h0]; simp [h2]

def Cat.cellI (c : Cat) (f g : Int) : Int := (c.co.getD f.toNat []).getD g.toNat 0
def Cat.idI (c : Cat) (x : Int) : Int := c.idn.getD x.toNat 0
def Cat.idF (c : Cat) (f : Nat) : Bool := c.cellI (c.idI (c.fr.getD f 0)) f != f || c.cellI f (c.idI (c.to.getD f 0)) != f
def Cat.asF (c : Cat) (f g h : Nat) : Bool := c.to.getD f 0 == c.fr.getD g 0 && c.to.getD g 0 == c.fr.getD h 0 && c.cellI (c.cellI f g) h != c.cellI f (c.cellI g h)
def Cat.faultF (c : Cat) : Int × Int × Int × Int :=
  match (List.range c.fr.length).findSome? fun f => if c.idF f then some f else none with
  | some f => (1, f, 0, 0)
  | none => match (List.range c.fr.length).findSome? fun f => (List.range c.fr.length).findSome? fun g => (List.range c.fr.length).findSome? fun h => if c.asF f g h then some (f, g, h) else none with
    | some (f, g, h) => (2, f, g, h)
    | none => (0, 0, 0, 0)
section
variable {c : Cat}
theorem Cat.asF_no {f g h : Nat} (h2 : c.to.getD f 0 ≠ c.fr.getD g 0) : c.asF f g h = false := by unfold Cat.asF; rw [beq_eq_false_iff_ne.2 h2]; rfl
theorem Cat.asF_of {f g h : Nat} (h2 : c.to.getD f 0 = c.fr.getD g 0) : c.asF f g h = (c.to.getD g 0 == c.fr.getD h 0 && c.cellI (c.cellI f g) h != c.cellI f (c.cellI g h)) := by unfold Cat.asF; rw [beq_iff_eq.2 h2]; rfl
theorem Cat.fault_id {f : Nat} (h0 : ∀ j, j < f → c.idF j = false) (h1 : f < c.fr.length) (h2 : c.idF f = true) : c.faultF = (1, (f : Int), 0, 0) := by
  unfold Cat.faultF
  rw [findSome_first (i := f) (r := f) _ (fun j hj => by simp [h0 j hj]) h1 (by simp [h2])]
theorem Cat.fault_no (h0 : ∀ j, j < c.fr.length → c.idF j = false) (h : ∀ f g h, f < c.fr.length → g < c.fr.length → h < c.fr.length → c.asF f g h = false) : c.faultF = (0, 0, 0, 0) := by
  unfold Cat.faultF
  rw [findSome_none _ (fun j hj => by simp [h0 j hj])]
  simp only
  rw [findSome_none _ fun f hf => findSome_none _ fun g hg => findSome_none _ fun h' hh => by simp [h f g h' hf hg hh]]
theorem Cat.fault_as {f g h : Nat} (h0 : ∀ j, j < c.fr.length → c.idF j = false) (hf : f < c.fr.length) (hg : g < c.fr.length) (hh : h < c.fr.length) (h1 : c.asF f g h = true)
    (h2 : ∀ h', h' < h → c.asF f g h' = false) (h3 : ∀ g' h', g' < g → h' < c.fr.length → c.asF f g' h' = false) (h4 : ∀ f' g' h', f' < f → g' < c.fr.length → h' < c.fr.length → c.asF f' g' h' = false) : c.faultF = (2, (f : Int), (g : Int), (h : Int)) := by
  unfold Cat.faultF
  rw [findSome_none _ (fun j hj => by simp [h0 j hj])]
  simp only
  rw [findSome_first (i := f) (r := (f, g, h)) _ (fun f' hf' => findSome_none _ fun g' hg' => findSome_none _ fun h' hh' => by simp [h4 f' g' h' hf' hg' hh']) hf
    (findSome_first (i := g) _ (fun g' hg' => findSome_none _ fun h' hh' => by simp [h3 g' h' hg' hh']) hg (findSome_first (i := h) _ (fun h' hh' => by simp [h2 h' hh']) hh (by simp [h1])))]

theorem Cat.Shape.fri (hs : c.Shape) {f : Nat} (hf : f < c.fr.length) : 0 ≤ c.fr.getD f 0 ∧ c.fr.getD f 0 < c.idn.length := by
  have := mapB_get hs.frm hf; have := hs.idn; omega
theorem Cat.Shape.toi (hs : c.Shape) {f : Nat} (hf : f < c.fr.length) : 0 ≤ c.to.getD f 0 ∧ c.to.getD f 0 < c.idn.length := by
  have := mapB_get hs.tom (i := f) (by have := hs.to; omega); have := hs.idn; omega
theorem Cat.Shape.idi (hs : c.Shape) {x : Int} (h0 : 0 ≤ x) (h1 : x < c.idn.length) : 0 ≤ c.idI x ∧ c.idI x < c.fr.length := hs.toPre.idx (x := x.toNat) (by omega)
theorem Cat.Shape.rowl (hs : c.Shape) {f : Int} (h0 : 0 ≤ f) (h1 : f < c.fr.length) : (c.co.getD f.toNat []).length = c.fr.length := hs.row f.toNat (by omega)
theorem Cat.Shape.cell_in (hs : c.Shape) {f g : Nat} (hf : f < c.fr.length) (hg : g < c.fr.length) (h : c.to.getD f 0 = c.fr.getD g 0) : 0 ≤ c.cellI f g ∧ c.cellI f g < c.fr.length ∧ c.fr.getD (c.cellI f g).toNat 0 = c.fr.getD f 0 ∧ c.to.getD (c.cellI f g).toNat 0 = c.to.getD g 0 := by
  have hc := hs.cells f g hf hg
  unfold Cat.cellB at hc
  rw [if_neg (by simp only [h, bne_self_eq_false]; decide)] at hc
  have e : c.cell f g = c.cellI f g := by simp [Cat.cell, Cat.cellI]
  simp only [e, Bool.and_eq_true, decide_eq_true_eq, beq_iff_eq] at hc
  exact ⟨hc.1.1.1, hc.1.1.2, hc.1.2, hc.2⟩
theorem Cat.Shape.cell_out (hs : c.Shape) {f g : Nat} (hf : f < c.fr.length) (hg : g < c.fr.length) (h : c.to.getD f 0 ≠ c.fr.getD g 0) : c.cellI f g = -1 := by
  have hc := hs.cells f g hf hg
  unfold Cat.cellB at hc
  rw [if_pos (by simpa using h)] at hc
  have e : c.cell f g = c.cellI f g := by simp [Cat.cell, Cat.cellI]
  rw [e] at hc
  simpa using hc
end
def fd (r : Int × Int × Int × Int) : D := .tup [.int .i64 r.1, .int .i64 r.2.1, .int .i64 r.2.2.1, .int .i64 r.2.2.2]
def Cat.isB (c : Cat) : Bool := c.shapeB && c.faultF.1 == 0
def bI (l : List Bnd) (i : Nat) : Bool := isL (l.getD i Bnd.zero).nm && (l.getD i Bnd.zero).cat.isB && (decide (i = 0) || Op.bytesLess (l.getD (i - 1) Bnd.zero).nm (l.getD i Bnd.zero).nm)
def bndB (l : List Bnd) : Bool := allB l.length (bI l)
end Go.D3

/- CONTRACTS: the reference's place of a list among lists. -/
namespace Go.D3
open Go
set_option maxRecDepth 100000
set_option maxHeartbeats 4000000

-- spec.l01Same
def c_spec_l01Same : C :=
  (.seq (.ops [] [⟨none, .asg 2 (.k (.bool false))⟩] [])
  (.seq (.opc [] [⟨none, .mv (.v 0)⟩,
    ⟨none, .len (.t 0)⟩,
    ⟨none, .mv (.v 1)⟩,
    ⟨none, .len (.t 2)⟩,
    ⟨none, .bin .neq (.t 1) (.t 3)⟩] [] (.t 4) (.seq (.ops [] [⟨none, .asg 2 (.k (.bool false))⟩] [])
  .ret)
  .skip)
  (.seq (.seq (.ops [] [⟨none, .asg 3 (.i 0)⟩] [])
  (.block 0 (.loop (.seq (.opc [] [⟨none, .mv (.v 3)⟩,
    ⟨none, .mv (.v 0)⟩,
    ⟨none, .len (.t 1)⟩,
    ⟨none, .bin .lss (.t 0) (.t 2)⟩] [] (.t 3) .skip
  (.exit 0))
  (.seq (.block 1 (.opc [] [⟨none, .mv (.v 0)⟩,
    ⟨none, .mv (.v 3)⟩,
    ⟨none, .idxA 1 (.t 0) (.t 1)⟩,
    ⟨none, .ld (.t 2)⟩,
    ⟨none, .mv (.v 1)⟩,
    ⟨none, .mv (.v 3)⟩,
    ⟨none, .idxA 1 (.t 4) (.t 5)⟩,
    ⟨none, .ld (.t 6)⟩,
    ⟨none, .bin .neq (.t 3) (.t 7)⟩] [] (.t 8) (.seq (.ops [] [⟨none, .asg 2 (.k (.bool false))⟩] [])
  .ret)
  .skip))
  (.ops [] [⟨none, .mv (.v 3)⟩,
    ⟨none, .bin .add (.t 0) (.i 1)⟩,
    ⟨none, .asg 3 (.t 1)⟩] []))))))
  (.seq (.ops [] [⟨none, .asg 2 (.k (.bool true))⟩] [])
  .ret))))
def tr_spec_l01Same : List Nat := [0, 1, 4, 5]
def rs_spec_l01Same : List RS := [.t 2]
theorem ok_spec_l01Same : fnOk Go.Proofs.Try.prog Go.Proofs.Try.f173 tr_spec_l01Same c_spec_l01Same 2 rs_spec_l01Same = true := by decide +kernel

theorem ret_spec_l01Same (a b : List Int) (hl : a.length ≤ 1048576) : Ret Go.Proofs.Try.prog 173 [.v (ints a), .v (ints b)] (.bool (a == b)) := by
  refine ret_fn Go.Proofs.Try.func173 ok_spec_l01Same rfl (show 2 < 500 by decide) rfl ?_; unfold c_spec_l01Same tr_spec_l01Same rs_spec_l01Same; simp only [go_sem, Nat.reduceLT, Nat.reduceAdd, Nat.reduceSub, ↓reduceIte]
  refine ⟨fun h => ?_, fun h => ?_⟩
  · have : a ≠ b := fun e => by subst e; simp at h
    simpa using this
  have hab : a.length = b.length := by simp at h; omega
  refine loop_set [] (fun i : Nat => [(3, .int .i64 i)]) (fun i => i ≤ a.length ∧ ∀ j, j < i → a.getD j 0 = b.getD j 0) (fun i => a.length - i) 0 (by simp only [go_sem]; rfl) ⟨Nat.zero_le _, fun j hj => by omega⟩ rfl ?_
  rintro i ⟨hi, hs⟩
  simp only [go_sem, Nat.reduceLT, Nat.reduceAdd, Nat.reduceSub, ↓reduceIte]
  refine ⟨fun h1 => ⟨h1, by omega, fun h2 => ?_, fun h2 => ⟨i + 1, ⟨by omega, fun j hj => ?_⟩, by omega, by rw [wrap_lt h1 (by simp only [maxLen]; omega)]⟩⟩, fun h1 => ?_⟩
  · have : a ≠ b := fun e => by subst e; simp at h2
    simpa using this
  · by_cases hji : j = i
    · subst hji; simpa using h2
    · exact hs j (by omega)
  · have : a = b := by
      apply List.ext_getElem hab
      intro j h3 h4
      have := hs j (by omega)
      rwa [getD_lt h3, getD_lt h4] at this
    simpa using this

/-- Where a list is first. -/
def plcI (l : List (List Int)) (x : List Int) : Int := if l.findIdx (· == x) < l.length then ((l.findIdx (· == x) : Nat) : Int) else -1
-- spec.l05Place
def c_spec_l05Place : C :=
  (.seq (.ops [] [⟨none, .asg 2 (.i 0)⟩] [])
  (.seq (.seq (.ops [] [⟨none, .asg 3 (.i 0)⟩] [])
  (.block 0 (.loop (.seq (.opc [] [⟨none, .mv (.v 3)⟩,
    ⟨none, .mv (.v 0)⟩,
    ⟨none, .len (.t 1)⟩,
    ⟨none, .bin .lss (.t 0) (.t 2)⟩] [] (.t 3) .skip
  (.exit 0))
  (.seq (.block 1 (.opc [] [⟨none, .mv (.v 0)⟩,
    ⟨none, .mv (.v 3)⟩,
    ⟨none, .idxA 1 (.t 0) (.t 1)⟩,
    ⟨none, .ld (.t 2)⟩,
    ⟨none, .mv (.v 1)⟩,
    ⟨none, .call 173 [(.t 3), (.t 4)]⟩] [] (.t 5) (.seq (.ops [] [⟨none, .mv (.v 3)⟩,
    ⟨none, .asg 2 (.t 0)⟩] [])
  .ret)
  .skip))
  (.ops [] [⟨none, .mv (.v 3)⟩,
    ⟨none, .bin .add (.t 0) (.i 1)⟩,
    ⟨none, .asg 3 (.t 1)⟩] []))))))
  (.seq (.ops [] [⟨none, .asg 2 (.i (-1))⟩] [])
  .ret)))
def tr_spec_l05Place : List Nat := [0, 1, 4, 5]
def rs_spec_l05Place : List RS := [.t 2]
theorem ok_spec_l05Place : fnOk Go.Proofs.Try.prog Go.Proofs.Try.f143 tr_spec_l05Place c_spec_l05Place 2 rs_spec_l05Place = true := by decide +kernel

theorem ret_spec_l05Place (l : List (List Int)) (x : List Int) (hl : l.length ≤ 1048576) (hx : ∀ i, i < l.length → (l.getD i []).length ≤ 1048576) : Ret Go.Proofs.Try.prog 143 [.v (intss l), .v (ints x)] (.int .i64 (plcI l x)) := by
  refine ret_fn Go.Proofs.Try.func143 ok_spec_l05Place rfl (show 2 < 500 by decide) rfl ?_; unfold c_spec_l05Place tr_spec_l05Place rs_spec_l05Place; simp only [go_sem, Nat.reduceLT, Nat.reduceAdd, ↓reduceIte]
  refine loop_set [] (fun i : Nat => [(3, .int .i64 i)]) (fun i => i ≤ l.findIdx (· == x)) (fun i => l.length - i) 0 (by simp only [go_sem]; rfl) (Nat.zero_le _) rfl ?_
  intro i hi
  have hfl := List.findIdx_le_length (p := (· == x)) (xs := l)
  simp only [go_sem, Nat.reduceLT, Nat.reduceAdd, Nat.reduceSub, ↓reduceIte]
  refine ⟨fun h1 => ⟨h1, call_of (ret_spec_l01Same _ x (hx i h1)) rfl (.inl rfl) ?_⟩, fun h1 => ?_⟩
  · simp only [go_sem, Nat.reduceLT, Nat.reduceAdd, Nat.reduceSub, ↓reduceIte]
    refine ⟨fun h2 => ?_, fun h2 => ⟨i + 1, ?_, by omega, by rw [wrap_lt h1 (by simp only [maxLen]; omega)]⟩⟩
    · have : l.findIdx (· == x) ≤ i := by
        apply Nat.le_of_not_lt
        intro hh
        have := List.not_of_lt_findIdx hh
        rw [← getD_lt (d := []) h1, h2] at this
        simp at this
      have e : l.findIdx (· == x) = i := by omega
      unfold plcI
      rw [e, if_pos h1]
    · by_cases hlt : i < l.findIdx (· == x)
      · omega
      · have e : l.findIdx (· == x) = i := by omega
        have := List.findIdx_getElem (w := show l.findIdx (· == x) < l.length by omega)
        simp only [e] at this
        rw [← getD_lt (d := []) h1, h2] at this
        cases this
  · unfold plcI
    rw [if_neg (by omega)]
end Go.D3
