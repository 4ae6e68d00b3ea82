/- CONTRACTS: the program's search for functors: what begins it, what it asks on the way. -/
import Derived.Test.YtclmdejmogmifaaGB
import Derived.Test.YtclmdejmogmifaaKitG
import Derived.Test.YtclmdejmogmifaaGA
/- CONTRACTS: copies and hom sets. -/
namespace Go.D3
open Go
set_option maxRecDepth 100000

theorem scal_ints (a : List Int) : ∀ e ∈ a.map (D.int .i64), e.scal = true := fun e he => by
  obtain ⟨x, _, rfl⟩ := List.mem_map.1 he; rfl
theorem scal_bools (a : List Bool) : ∀ e ∈ a.map D.bool, e.scal = true := fun e he => by
  obtain ⟨x, _, rfl⟩ := List.mem_map.1 he; rfl

-- impl.clone
def c_impl_clone : C :=
  (.seq (.ops [] [⟨none, .asg 1 (.k (.nils (.int .i64 0)))⟩] [])
  (.seq (.ops [] [⟨none, .bldS (.int .i64 0) 0 []⟩,
    ⟨none, .mv (.v 0)⟩,
    ⟨none, .app 1 8 (.t 0) (.t 1)⟩,
    ⟨none, .asg 1 (.t 2)⟩] [])
  .ret))
def tr_impl_clone : List Nat := [0, 2]
def rs_impl_clone : List RS := [.t 1]
theorem ok_impl_clone : fnOk Go.Proofs.Try.prog Go.Proofs.Try.f145 tr_impl_clone c_impl_clone 1 rs_impl_clone = true := by decide +kernel

theorem ret_impl_clone (a : List Int) (hs : a.length ≤ 1048576) : Ret Go.Proofs.Try.prog 145 [.v (ints a)] (ints a) := by
  refine ret_fn Go.Proofs.Try.func145 ok_impl_clone rfl (show 1 < 500 by decide) rfl ?_; unfold c_impl_clone tr_impl_clone rs_impl_clone; simp only [go_sem, Nat.reduceLT, Nat.reduceAdd, Nat.reduceSub, ↓reduceIte]
  exact ⟨scal_ints a, by rw [List.length_map]; omega⟩
-- spec.l01Own
def c_spec_l01Own : C :=
  (.seq (.ops [] [⟨none, .asg 1 (.k (.nils (.int .i64 0)))⟩] [])
  (.seq (.ops [] [⟨none, .bldS (.int .i64 0) 0 []⟩,
    ⟨none, .mv (.v 0)⟩,
    ⟨none, .app 1 8 (.t 0) (.t 1)⟩,
    ⟨none, .asg 1 (.t 2)⟩] [])
  .ret))
def tr_spec_l01Own : List Nat := [0, 2]
def rs_spec_l01Own : List RS := [.t 1]
theorem ok_spec_l01Own : fnOk Go.Proofs.Try.prog Go.Proofs.Try.f154 tr_spec_l01Own c_spec_l01Own 1 rs_spec_l01Own = true := by decide +kernel

theorem ret_spec_l01Own (a : List Int) (hs : a.length ≤ 1048576) : Ret Go.Proofs.Try.prog 154 [.v (ints a)] (ints a) := by
  refine ret_fn Go.Proofs.Try.func154 ok_spec_l01Own rfl (show 1 < 500 by decide) rfl ?_; unfold c_spec_l01Own tr_spec_l01Own rs_spec_l01Own; simp only [go_sem, Nat.reduceLT, Nat.reduceAdd, Nat.reduceSub, ↓reduceIte]
  exact ⟨scal_ints a, by rw [List.length_map]; omega⟩

-- impl.clones
def c_impl_clones : C :=
  (.seq (.ops [] [⟨none, .asg 1 (.k (.nils (ints [])))⟩] [])
  (.seq (.ops [] [⟨none, .mv (.v 0)⟩,
    ⟨none, .len (.t 0)⟩,
    ⟨none, .mkS (ints []) 24 (.i 0) (.t 1)⟩,
    ⟨none, .asg 2 (.t 2)⟩] [])
  (.seq (.seq (.ops [5] [⟨none, .asg 4 (.v 0)⟩,
    ⟨none, .len (.v 4)⟩,
    ⟨none, .asg 6 (.i 0)⟩] [(5, 1)])
  (.block 0 (.loop (.opq [] [⟨none, .bin .lss (.v 6) (.v 5)⟩] [] (.t 0) .skip
  (.exit 0)
  (.seq (.block 1 (.seq (.ops [] [⟨none, .idxA 1 (.v 4) (.v 6)⟩,
    ⟨none, .ld (.t 0)⟩,
    ⟨none, .asg 3 (.t 1)⟩] [])
  (.ops [] [⟨none, .mv (.v 2)⟩,
    ⟨none, .mv (.v 3)⟩,
    ⟨none, .call 145 [(.t 1)]⟩,
    ⟨none, .bldS (ints []) 1 [(0, (.t 2))]⟩,
    ⟨none, .app 1 24 (.t 0) (.t 3)⟩,
    ⟨none, .asg 2 (.t 4)⟩] [])))
  (.ops [] [⟨none, .bin .add (.v 6) (.i 1)⟩,
    ⟨none, .asg 6 (.t 0)⟩] []))))))
  (.seq (.ops [] [⟨none, .mv (.v 2)⟩,
    ⟨none, .asg 1 (.t 0)⟩] [])
  .ret))))
def tr_impl_clones : List Nat := [0, 2, 3, 5, 9, 10, 11]
def rs_impl_clones : List RS := [.t 1]
theorem ok_impl_clones : fnOk Go.Proofs.Try.prog Go.Proofs.Try.f120 tr_impl_clones c_impl_clones 1 rs_impl_clones = true := by decide +kernel

theorem ret_impl_clones (a : List (List Int)) (hs : costL List.length a ≤ 1048576) : Ret Go.Proofs.Try.prog 120 [.v (intss a)] (intss a) := by
  have hl : a.length ≤ 1048576 := by unfold costL at hs; omega
  have hm : a.length ≤ maxLen := by simp only [maxLen]; omega
  refine ret_fn Go.Proofs.Try.func120 ok_impl_clones rfl (show 1 < 500 by decide) rfl ?_; unfold c_impl_clones tr_impl_clones rs_impl_clones; simp only [go_sem, Nat.reduceLT, Nat.reduceAdd, Nat.reduceSub, ↓reduceIte]
  refine ⟨⟨by omega, by omega⟩, ?_⟩
  refine loop_set [3] (fun (i : Nat) => [(6, .int .i64 i), (2, .o (intss (a.take i)))]) (fun i => i ≤ a.length) (fun i => a.length - i) 0 (by simp only [go_sem, Nat.reduceLT, ↓reduceIte]; rfl) (Nat.zero_le _) rfl ?_
  rintro i hi
  simp only [go_sem, Nat.reduceLT, Nat.reduceAdd, Nat.reduceSub, Nat.reduceBEq, ↓reduceIte]
  refine ⟨fun h => ⟨h, call_of (ret_impl_clone (a.getD i []) (Nat.le_trans (cost_getD (cost := List.length) h _) hs)) rfl (.inl (nv_ints _)) ?_⟩, fun h => by rw [List.take_of_length_le (by omega)]⟩
  simp only [go_sem, Nat.reduceLT, Nat.reduceAdd, Nat.reduceSub, Nat.reduceEqDiff, Nat.reduceBEq, ↓reduceIte]
  refine ⟨by rw [List.length_take]; omega, i + 1, by omega, by omega, by rw [take_snoc h [], wrap_lt h hm]⟩
-- spec.l01Own2
def c_spec_l01Own2 : C :=
  (.seq (.ops [] [⟨none, .asg 1 (.k (.nils (ints [])))⟩] [])
  (.seq (.ops [] [⟨none, .bldS (ints []) 0 []⟩,
    ⟨none, .asg 2 (.t 0)⟩] [])
  (.seq (.seq (.ops [] [⟨none, .asg 3 (.i 0)⟩] [])
  (.block 0 (.loop (.seq (.opc [] [⟨none, .mv (.v 3)⟩,
    ⟨none, .mv (.v 0)⟩,
    ⟨none, .len (.t 1)⟩,
    ⟨none, .bin .lss (.t 0) (.t 2)⟩] [] (.t 3) .skip
  (.exit 0))
  (.seq (.block 1 (.ops [] [⟨none, .mv (.v 2)⟩,
    ⟨none, .mv (.v 0)⟩,
    ⟨none, .mv (.v 3)⟩,
    ⟨none, .idxA 1 (.t 1) (.t 2)⟩,
    ⟨none, .ld (.t 3)⟩,
    ⟨none, .call 154 [(.t 4)]⟩,
    ⟨none, .bldS (ints []) 1 [(0, (.t 5))]⟩,
    ⟨none, .app 1 24 (.t 0) (.t 6)⟩,
    ⟨none, .asg 2 (.t 7)⟩] []))
  (.ops [] [⟨none, .mv (.v 3)⟩,
    ⟨none, .bin .add (.t 0) (.i 1)⟩,
    ⟨none, .asg 3 (.t 1)⟩] []))))))
  (.seq (.ops [] [⟨none, .mv (.v 2)⟩,
    ⟨none, .asg 1 (.t 0)⟩] [])
  .ret))))
def tr_spec_l01Own2 : List Nat := [0, 2, 3, 4]
def rs_spec_l01Own2 : List RS := [.t 1]
theorem ok_spec_l01Own2 : fnOk Go.Proofs.Try.prog Go.Proofs.Try.f118 tr_spec_l01Own2 c_spec_l01Own2 1 rs_spec_l01Own2 = true := by decide +kernel

theorem ret_spec_l01Own2 (a : List (List Int)) (hs : costL List.length a ≤ 1048576) : Ret Go.Proofs.Try.prog 118 [.v (intss a)] (intss a) := by
  have hl : a.length ≤ 1048576 := by unfold costL at hs; omega
  have hm : a.length ≤ maxLen := by simp only [maxLen]; omega
  refine ret_fn Go.Proofs.Try.func118 ok_spec_l01Own2 rfl (show 1 < 500 by decide) rfl ?_; unfold c_spec_l01Own2 tr_spec_l01Own2 rs_spec_l01Own2; simp only [go_sem, Nat.reduceLT, Nat.reduceAdd, Nat.reduceSub, ↓reduceIte]
  refine loop_set [] (fun (i : Nat) => [(3, .int .i64 i), (2, .o (intss (a.take i)))]) (fun i => i ≤ a.length) (fun i => a.length - i) 0 (by simp only [go_sem]; rfl) (Nat.zero_le _) rfl ?_
  rintro i hi
  simp only [go_sem, Nat.reduceLT, Nat.reduceAdd, Nat.reduceSub, Nat.reduceBEq, ↓reduceIte]
  refine ⟨fun h => ⟨h, call_of (ret_spec_l01Own (a.getD i []) (Nat.le_trans (cost_getD (cost := List.length) h _) hs)) rfl (.inl (nv_ints _)) ?_⟩, fun h => by rw [List.take_of_length_le (by omega)]⟩
  simp only [go_sem, Nat.reduceLT, Nat.reduceAdd, Nat.reduceSub, Nat.reduceEqDiff, Nat.reduceBEq, ↓reduceIte]
  refine ⟨by rw [List.length_take]; omega, i + 1, by omega, by omega, by rw [take_snoc h [], wrap_lt h hm]⟩

-- (*impl.Category).copy
def c_impl_Category_copy : C :=
  (.seq (.ops [1] [⟨none, .alc [.int .i64 0, .nils (.int .i64 0), .nils (.int .i64 0), .nils (.int .i64 0), .nils (ints [])]⟩] [(1, 0)])
  (.seq (.ops [] [⟨none, .mv (.v 0)⟩,
    ⟨none, .nck (.t 0)⟩,
    ⟨none, .fA 0 (.t 1)⟩,
    ⟨none, .ld (.t 2)⟩,
    ⟨none, .mv (.v 0)⟩,
    ⟨none, .nck (.t 4)⟩,
    ⟨none, .fA 1 (.t 5)⟩,
    ⟨none, .ld (.t 6)⟩,
    ⟨none, .call 145 [(.t 7)]⟩,
    ⟨none, .mv (.v 0)⟩,
    ⟨none, .nck (.t 9)⟩,
    ⟨none, .fA 2 (.t 10)⟩,
    ⟨none, .ld (.t 11)⟩,
    ⟨none, .call 145 [(.t 12)]⟩,
    ⟨none, .mv (.v 0)⟩,
    ⟨none, .nck (.t 14)⟩,
    ⟨none, .fA 3 (.t 15)⟩,
    ⟨none, .ld (.t 16)⟩,
    ⟨none, .call 145 [(.t 17)]⟩,
    ⟨none, .mv (.v 0)⟩,
    ⟨none, .nck (.t 19)⟩,
    ⟨none, .fA 4 (.t 20)⟩,
    ⟨none, .ld (.t 21)⟩,
    ⟨none, .call 120 [(.t 22)]⟩,
    ⟨none, .bld [.int .i64 0, .nils (.int .i64 0), .nils (.int .i64 0), .nils (.int .i64 0), .nils (ints [])] [(0, 1, (.t 3)), (1, 1, (.t 8)), (2, 1, (.t 13)), (3, 1, (.t 18)), (4, 1, (.t 23))]⟩,
    ⟨none, .stn 5 (.v 1) (.t 24)⟩] [])
  .ret))
def tr_impl_Category_copy : List Nat := [0, 2]
def rs_impl_Category_copy : List RS := [.c 1 5 true]
theorem ok_impl_Category_copy : fnOk Go.Proofs.Try.prog Go.Proofs.Try.f101 tr_impl_Category_copy c_impl_Category_copy 1 rs_impl_Category_copy = true := by decide +kernel

theorem ret_impl_Category_copy (a : Cat) (hs : Cat.cost a ≤ 1048576) : Ret Go.Proofs.Try.prog 101 [.v (.ptr a.cells)] (Cat.d a) := by
  unfold Cat.cost at hs
  refine ret_fn Go.Proofs.Try.func101 ok_impl_Category_copy rfl (show 1 < 500 by decide) rfl ?_; unfold c_impl_Category_copy tr_impl_Category_copy rs_impl_Category_copy; simp only [go_sem, Nat.reduceLT, Nat.reduceAdd, Nat.reduceSub, ↓reduceIte]
  refine call_of (ret_impl_clone a.fr (by omega)) rfl (.inl (nv_ints _)) ?_
  simp only [go_sem, Nat.reduceLT, Nat.reduceAdd, Nat.reduceSub, ↓reduceIte]
  refine call_of (ret_impl_clone a.to (by omega)) rfl (.inl (nv_ints _)) ?_
  simp only [go_sem, Nat.reduceLT, Nat.reduceAdd, Nat.reduceSub, ↓reduceIte]
  refine call_of (ret_impl_clone a.idn (by omega)) rfl (.inl (nv_ints _)) ?_
  simp only [go_sem, Nat.reduceLT, Nat.reduceAdd, Nat.reduceSub, ↓reduceIte]
  refine call_of (ret_impl_clones a.co (by omega)) rfl (.inl (nv_intss _)) ?_
  simp only [go_sem, Nat.reduceLT, Nat.reduceAdd, Nat.reduceSub, Nat.reduceEqDiff, Nat.reduceBEq, Nat.reduceLeDiff, ↓reduceIte]
  all_goals rfl
-- spec.l02Own
def c_spec_l02Own : C :=
  (.seq (.ops [2, 1] [⟨none, .boxv 5 (.v 0)⟩,
    ⟨none, .alc [.int .i64 0, .nils (.int .i64 0), .nils (.int .i64 0), .nils (.int .i64 0), .nils (ints [])]⟩] [(2, 0), (1, 1)])
  (.seq (.ops [] [⟨none, .fA 0 (.v 2)⟩,
    ⟨none, .ld (.t 0)⟩,
    ⟨none, .fA 1 (.v 2)⟩,
    ⟨none, .ld (.t 2)⟩,
    ⟨none, .call 154 [(.t 3)]⟩,
    ⟨none, .fA 2 (.v 2)⟩,
    ⟨none, .ld (.t 5)⟩,
    ⟨none, .call 154 [(.t 6)]⟩,
    ⟨none, .fA 3 (.v 2)⟩,
    ⟨none, .ld (.t 8)⟩,
    ⟨none, .call 154 [(.t 9)]⟩,
    ⟨none, .fA 4 (.v 2)⟩,
    ⟨none, .ld (.t 11)⟩,
    ⟨none, .call 118 [(.t 12)]⟩,
    ⟨none, .bld [.int .i64 0, .nils (.int .i64 0), .nils (.int .i64 0), .nils (.int .i64 0), .nils (ints [])] [(0, 1, (.t 1)), (1, 1, (.t 4)), (2, 1, (.t 7)), (3, 1, (.t 10)), (4, 1, (.t 13))]⟩,
    ⟨none, .stn 5 (.v 1) (.t 14)⟩] [])
  .ret))
def tr_spec_l02Own : List Nat := [0, 2, 1]
def rs_spec_l02Own : List RS := [.c 1 5 true]
theorem ok_spec_l02Own : fnOk Go.Proofs.Try.prog Go.Proofs.Try.f126 tr_spec_l02Own c_spec_l02Own 1 rs_spec_l02Own = true := by decide +kernel

theorem ret_spec_l02Own (a : Cat) (hs : Cat.cost a ≤ 1048576) : Ret Go.Proofs.Try.prog 126 [.v (Cat.d a)] (Cat.d a) := by
  unfold Cat.cost at hs
  refine ret_fn Go.Proofs.Try.func126 ok_spec_l02Own rfl (show 1 < 500 by decide) rfl ?_; unfold c_spec_l02Own tr_spec_l02Own rs_spec_l02Own; simp only [go_sem, Nat.reduceLT, Nat.reduceAdd, Nat.reduceSub, ↓reduceIte]
  refine call_of (ret_spec_l01Own a.fr (by omega)) rfl (.inl (nv_ints _)) ?_
  simp only [go_sem, Nat.reduceLT, Nat.reduceAdd, Nat.reduceSub, ↓reduceIte]
  refine call_of (ret_spec_l01Own a.to (by omega)) rfl (.inl (nv_ints _)) ?_
  simp only [go_sem, Nat.reduceLT, Nat.reduceAdd, Nat.reduceSub, ↓reduceIte]
  refine call_of (ret_spec_l01Own a.idn (by omega)) rfl (.inl (nv_ints _)) ?_
  simp only [go_sem, Nat.reduceLT, Nat.reduceAdd, Nat.reduceSub, ↓reduceIte]
  refine call_of (ret_spec_l01Own2 a.co (by omega)) rfl (.inl (nv_intss _)) ?_
  simp only [go_sem, Nat.reduceLT, Nat.reduceAdd, Nat.reduceSub, Nat.reduceEqDiff, Nat.reduceBEq, Nat.reduceLeDiff, ↓reduceIte]
  all_goals rfl

/-- The arrows from 'x' to 'y' among the first 'i'. -/
def Cat.homP (c : Cat) (x y : Int) (i : Nat) : List Int := ((List.range i).filter fun f => c.fr.getD f 0 == x && c.to.getD f 0 == y).map fun f : Nat => (f : Int)
/-- The arrows from 'x' to 'y'. -/
def Cat.hom (c : Cat) (x y : Int) : List Int := c.homP x y c.fr.length
theorem Cat.homP_step {c : Cat} {x y : Int} {i : Nat} : c.homP x y (i + 1) = c.homP x y i ++ if (c.fr.getD i 0 == x && c.to.getD i 0 == y) = true then [(i : Int)] else [] := by
  unfold Cat.homP
  rw [List.range_succ, List.filter_append, List.map_append]
  congr 1
  simp only [List.filter_cons, List.filter_nil]
  split <;> rfl
theorem Cat.homP_len {c : Cat} {x y : Int} {i : Nat} : (c.homP x y i).length ≤ i := by
  unfold Cat.homP
  rw [List.length_map]
  exact Nat.le_trans (List.length_filter_le _ _) (by simp)
theorem Cat.mem_hom {c : Cat} {x y f : Int} : f ∈ c.hom x y ↔ 0 ≤ f ∧ f < c.fr.length ∧ c.fr.getD f.toNat 0 = x ∧ c.to.getD f.toNat 0 = y := by
  unfold Cat.hom Cat.homP
  simp only [List.mem_map, List.mem_filter, List.mem_range, Bool.and_eq_true, beq_iff_eq]
  constructor
  · rintro ⟨i, ⟨h1, h2, h3⟩, rfl⟩
    exact ⟨by omega, by omega, by simpa using h2, by simpa using h3⟩
  · rintro ⟨h1, h2, h3, h4⟩
    exact ⟨f.toNat, ⟨by omega, h3, h4⟩, by omega⟩
theorem Cat.hom_sorted {c : Cat} {x y : Int} : (c.hom x y).Pairwise (· < ·) := by
  unfold Cat.hom Cat.homP
  rw [List.pairwise_map]
  exact (List.Pairwise.filter _ List.pairwise_lt_range).imp fun h => by omega
-- (*impl.Category).hom
def c_impl_Category_hom : C :=
  (.seq (.ops [] [⟨none, .asg 3 (.k (.nils (.int .i64 0)))⟩] [])
  (.seq (.ops [] [⟨none, .bldS (.int .i64 0) 0 []⟩,
    ⟨none, .asg 4 (.t 0)⟩] [])
  (.seq (.seq (.ops [6] [⟨none, .mv (.v 0)⟩,
    ⟨none, .nck (.t 0)⟩,
    ⟨none, .fA 1 (.t 1)⟩,
    ⟨none, .ld (.t 2)⟩,
    ⟨none, .len (.t 3)⟩,
    ⟨none, .asg 7 (.i 0)⟩] [(6, 4)])
  (.block 0 (.loop (.opq [] [⟨none, .bin .lss (.v 7) (.v 6)⟩] [] (.t 0) .skip
  (.exit 0)
  (.seq (.block 1 (.seq (.ops [] [⟨none, .mv (.v 7)⟩,
    ⟨none, .asg 5 (.t 0)⟩] [])
  (.opc [] [⟨none, .mv (.v 0)⟩,
    ⟨none, .nck (.t 0)⟩,
    ⟨none, .fA 1 (.t 1)⟩,
    ⟨none, .ld (.t 2)⟩,
    ⟨none, .mv (.v 5)⟩,
    ⟨none, .idxA 1 (.t 3) (.t 4)⟩,
    ⟨none, .ld (.t 5)⟩,
    ⟨none, .mv (.v 1)⟩,
    ⟨none, .bin .eql (.t 6) (.t 7)⟩,
    ⟨none, .mv (.t 8)⟩,
    ⟨some (9, true), .mv (.v 0)⟩,
    ⟨some (9, true), .nck (.t 10)⟩,
    ⟨some (9, true), .fA 2 (.t 11)⟩,
    ⟨some (9, true), .ld (.t 12)⟩,
    ⟨some (9, true), .mv (.v 5)⟩,
    ⟨some (9, true), .idxA 1 (.t 13) (.t 14)⟩,
    ⟨some (9, true), .ld (.t 15)⟩,
    ⟨some (9, true), .mv (.v 2)⟩,
    ⟨some (9, true), .bin .eql (.t 16) (.t 17)⟩,
    ⟨none, .pick (.t 9) (.t 18) (.k (.bool false))⟩] [] (.t 19) (.ops [] [⟨none, .mv (.v 4)⟩,
    ⟨none, .mv (.v 5)⟩,
    ⟨none, .bldS (.int .i64 0) 1 [(0, (.t 1))]⟩,
    ⟨none, .app 1 8 (.t 0) (.t 2)⟩,
    ⟨none, .asg 4 (.t 3)⟩] [])
  .skip)))
  (.ops [] [⟨none, .bin .add (.v 7) (.i 1)⟩,
    ⟨none, .asg 7 (.t 0)⟩] []))))))
  (.seq (.ops [] [⟨none, .mv (.v 4)⟩,
    ⟨none, .asg 3 (.t 0)⟩] [])
  .ret))))
def tr_impl_Category_hom : List Nat := [0, 1, 2, 6, 7, 8, 14, 15]
def rs_impl_Category_hom : List RS := [.t 3]
theorem ok_impl_Category_hom : fnOk Go.Proofs.Try.prog Go.Proofs.Try.f121 tr_impl_Category_hom c_impl_Category_hom 3 rs_impl_Category_hom = true := by decide +kernel

theorem ret_impl_Category_hom (c : Cat) (x y : Int) (h1 : c.fr.length ≤ 1048576) (h2 : c.to.length = c.fr.length) : Ret Go.Proofs.Try.prog 121 [.v (.ptr c.cells), .v (.int .i64 x), .v (.int .i64 y)] (ints (c.hom x y)) := by
  refine ret_fn Go.Proofs.Try.func121 ok_impl_Category_hom rfl (show 3 < 500 by decide) rfl ?_; unfold c_impl_Category_hom tr_impl_Category_hom rs_impl_Category_hom; simp only [go_sem, Nat.reduceLT, Nat.reduceAdd, Nat.reduceSub, ↓reduceIte]
  refine loop_set [5] (fun (i : Nat) => [(7, .int .i64 i), (4, .o (ints (c.homP x y i)))]) (fun i => i ≤ c.fr.length) (fun i => c.fr.length - i) 0 (by simp only [go_sem, Nat.reduceLT, ↓reduceIte]; rfl) (Nat.zero_le _) rfl ?_
  rintro i hi
  simp only [go_sem, Nat.reduceLT, Nat.reduceAdd, Nat.reduceSub, Nat.reduceBEq, ↓reduceIte]
  refine ⟨fun h => ⟨h, fun h3 => ⟨h3, by omega⟩, fun h3 => ⟨by have := @Cat.homP_len c x y i; omega, i + 1, by omega, by omega, by rw [Cat.homP_step, if_pos h3, wrap_lt h (by simp only [maxLen]; omega)]⟩,
    fun h3 => ⟨i + 1, by omega, by omega, by rw [Cat.homP_step, if_neg (by rw [h3]; decide), List.append_nil, wrap_lt h (by simp only [maxLen]; omega)]⟩⟩, fun h => ?_⟩
  rw [show i = c.fr.length by omega]; rfl
-- spec.l02Hom
def c_spec_l02Hom : C :=
  (.seq (.ops [4] [⟨none, .boxv 5 (.v 0)⟩,
    ⟨none, .asg 3 (.k (.nils (.int .i64 0)))⟩] [(4, 0)])
  (.seq (.ops [] [⟨none, .bldS (.int .i64 0) 0 []⟩,
    ⟨none, .asg 5 (.t 0)⟩] [])
  (.seq (.seq (.ops [] [⟨none, .asg 6 (.i 0)⟩] [])
  (.block 0 (.loop (.seq (.opc [] [⟨none, .mv (.v 6)⟩,
    ⟨none, .fA 1 (.v 4)⟩,
    ⟨none, .ld (.t 1)⟩,
    ⟨none, .len (.t 2)⟩,
    ⟨none, .bin .lss (.t 0) (.t 3)⟩] [] (.t 4) .skip
  (.exit 0))
  (.seq (.block 1 (.opc [] [⟨none, .fA 1 (.v 4)⟩,
    ⟨none, .ld (.t 0)⟩,
    ⟨none, .mv (.v 6)⟩,
    ⟨none, .idxA 1 (.t 1) (.t 2)⟩,
    ⟨none, .ld (.t 3)⟩,
    ⟨none, .mv (.v 1)⟩,
    ⟨none, .bin .eql (.t 4) (.t 5)⟩,
    ⟨none, .mv (.t 6)⟩,
    ⟨some (7, true), .fA 2 (.v 4)⟩,
    ⟨some (7, true), .ld (.t 8)⟩,
    ⟨some (7, true), .mv (.v 6)⟩,
    ⟨some (7, true), .idxA 1 (.t 9) (.t 10)⟩,
    ⟨some (7, true), .ld (.t 11)⟩,
    ⟨some (7, true), .mv (.v 2)⟩,
    ⟨some (7, true), .bin .eql (.t 12) (.t 13)⟩,
    ⟨none, .pick (.t 7) (.t 14) (.k (.bool false))⟩] [] (.t 15) (.ops [] [⟨none, .mv (.v 5)⟩,
    ⟨none, .mv (.v 6)⟩,
    ⟨none, .bldS (.int .i64 0) 1 [(0, (.t 1))]⟩,
    ⟨none, .app 1 8 (.t 0) (.t 2)⟩,
    ⟨none, .asg 5 (.t 3)⟩] [])
  .skip))
  (.ops [] [⟨none, .mv (.v 6)⟩,
    ⟨none, .bin .add (.t 0) (.i 1)⟩,
    ⟨none, .asg 6 (.t 1)⟩] []))))))
  (.seq (.ops [] [⟨none, .mv (.v 5)⟩,
    ⟨none, .asg 3 (.t 0)⟩] [])
  .ret))))
def tr_spec_l02Hom : List Nat := [0, 1, 2, 6, 3, 7, 8]
def rs_spec_l02Hom : List RS := [.t 3]
theorem ok_spec_l02Hom : fnOk Go.Proofs.Try.prog Go.Proofs.Try.f74 tr_spec_l02Hom c_spec_l02Hom 3 rs_spec_l02Hom = true := by decide +kernel

theorem ret_spec_l02Hom (c : Cat) (x y : Int) (h1 : c.fr.length ≤ 1048576) (h2 : c.to.length = c.fr.length) : Ret Go.Proofs.Try.prog 74 [.v c.d, .v (.int .i64 x), .v (.int .i64 y)] (ints (c.hom x y)) := by
  refine ret_fn Go.Proofs.Try.func74 ok_spec_l02Hom rfl (show 3 < 500 by decide) rfl ?_; unfold c_spec_l02Hom tr_spec_l02Hom rs_spec_l02Hom; simp only [go_sem, Nat.reduceLT, Nat.reduceAdd, Nat.reduceSub, ↓reduceIte]
  refine loop_set [] (fun (i : Nat) => [(6, .int .i64 i), (5, .o (ints (c.homP x y i)))]) (fun i => i ≤ c.fr.length) (fun i => c.fr.length - i) 0 (by simp only [go_sem]; rfl) (Nat.zero_le _) rfl ?_
  rintro i hi
  simp only [go_sem, Nat.reduceLT, Nat.reduceAdd, Nat.reduceSub, Nat.reduceBEq, ↓reduceIte]
  refine ⟨fun h => ⟨h, fun h3 => ⟨h3, by omega⟩, fun h3 => ⟨by have := @Cat.homP_len c x y i; omega, i + 1, by omega, by omega, by rw [Cat.homP_step, if_pos h3, wrap_lt h (by simp only [maxLen]; omega)]⟩,
    fun h3 => ⟨i + 1, by omega, by omega, by rw [Cat.homP_step, if_neg (by rw [h3]; decide), List.append_nil, wrap_lt h (by simp only [maxLen]; omega)]⟩⟩, fun h => ?_⟩
  rw [show i = c.fr.length by omega]; rfl
end Go.D3

/- PLAIN LAWS: functors as lists of images; how those that are known in part are continued. -/
namespace Go.D3

/-! ### Lists in order -/
def lexlt (a b : List Int) : Prop := ∃ i, (∀ j, j < i → a.getD j 0 = b.getD j 0) ∧ a.getD i 0 < b.getD i 0
theorem lexlt_asymm {a b : List Int} (h : lexlt a b) : ¬ lexlt b a := by
  rintro ⟨j, h3, h4⟩
  obtain ⟨i, h1, h2⟩ := h
  rcases Nat.lt_trichotomy i j with hij | hij | hij
  · have := h3 i hij; omega
  · subst hij; omega
  · have := h1 j hij; omega
theorem sorted_eq {α : Type} {R : α → α → Prop} (hR : ∀ a b, R a b → ¬ R b a) : ∀ {l m : List α}, l.Pairwise R → m.Pairwise R → (∀ x, x ∈ l ↔ x ∈ m) → l = m
  | [], [], _, _, _ => rfl
  | [], y :: m, _, _, h => by have := (h y).2 (by simp); simp at this
  | x :: l, [], _, _, h => by have := (h x).1 (by simp); simp at this
  | x :: l, y :: m, h1, h2, h => by
    have i1 : ∀ {z}, z ∈ l → z ≠ x := fun {z} hz he => by subst he; have := List.rel_of_pairwise_cons h1 hz; exact hR _ _ this this
    have i2 : ∀ {z}, z ∈ m → z ≠ y := fun {z} hz he => by subst he; have := List.rel_of_pairwise_cons h2 hz; exact hR _ _ this this
    have hxy : x = y := by
      apply Classical.byContradiction
      intro hne
      have hx : x ∈ m := ((List.mem_cons.1 ((h x).1 (by simp))).resolve_left hne)
      have hy : y ∈ l := ((List.mem_cons.1 ((h y).2 (by simp))).resolve_left (Ne.symm hne))
      exact hR _ _ (List.rel_of_pairwise_cons h1 hy) (List.rel_of_pairwise_cons h2 hx)
    subst hxy
    rw [sorted_eq hR (List.Pairwise.of_cons h1) (List.Pairwise.of_cons h2) fun z => ⟨fun hz => (List.mem_cons.1 ((h z).1 (by simp [hz]))).resolve_left (i1 hz), fun hz => (List.mem_cons.1 ((h z).2 (by simp [hz]))).resolve_left (i2 hz)⟩]

theorem set_get {l : List Int} {i j : Nat} {x : Int} (hi : i < l.length) : (l.set i x).getD j 0 = if j = i then x else l.getD j 0 := by
  rw [List.getD_eq_getElem?_getD, List.getElem?_set]
  by_cases h : i = j
  · subst h; simp [hi]
  · rw [if_neg h, if_neg (Ne.symm h), List.getD_eq_getElem?_getD]

/-- How many images are not known. -/
def unk (p : List Int) : Nat := p.countP fun x => decide (x < 0)
theorem unk_set {p : List Int} {i : Nat} {x : Int} (hi : i < p.length) (h0 : p.getD i 0 < 0) (hx : 0 ≤ x) : unk (p.set i x) < unk p := by
  unfold unk
  rw [List.countP_set hi]
  have h1 : p[i] < 0 := by rw [getD_lt hi] at h0; exact h0
  have hp : 0 < p.countP fun x => decide (x < 0) := List.countP_pos_iff.2 ⟨p[i], List.getElem_mem hi, by simpa using h1⟩
  rw [if_pos (by simpa using h1), if_neg (by simpa using hx)]
  omega

/-! ### Partial functors -/
variable {c d : Cat} {obs p F : List Int}
structure Typed (c d : Cat) (obs p : List Int) : Prop where
  len : p.length = c.fr.length
  ty : ∀ i, i < c.fr.length → p.getD i 0 = -1 ∨ (0 ≤ p.getD i 0 ∧ p.getD i 0 < d.fr.length ∧ d.fr.getD (p.getD i 0).toNat 0 = obs.getD (c.fr.getD i 0).toNat 0 ∧ d.to.getD (p.getD i 0).toNat 0 = obs.getD (c.to.getD i 0).toNat 0)
def Fit (c d : Cat) (p : List Int) (a b : Nat) : Prop := 0 ≤ c.cell a b → 0 ≤ p.getD a 0 → 0 ≤ p.getD b 0 → p.getD (c.cell a b).toNat 0 = d.cellI (p.getD a 0) (p.getD b 0)
structure Hom (c d : Cat) (obs F : List Int) : Prop where
  ty : Typed c d obs F
  tot : ∀ i, i < c.fr.length → 0 ≤ F.getD i 0
  co : ∀ a b, a < c.fr.length → b < c.fr.length → Fit c d F a b
def Exts (p F : List Int) : Prop := ∀ i, i < p.length → 0 ≤ p.getD i 0 → F.getD i 0 = p.getD i 0
def Comp (c d : Cat) (obs p F : List Int) : Prop := Hom c d obs F ∧ Exts p F

theorem Typed.get (h : Typed c d obs p) {i : Nat} (hi : i < c.fr.length) (h0 : 0 ≤ p.getD i 0) : p.getD i 0 < d.fr.length ∧ d.fr.getD (p.getD i 0).toNat 0 = obs.getD (c.fr.getD i 0).toNat 0 ∧ d.to.getD (p.getD i 0).toNat 0 = obs.getD (c.to.getD i 0).toNat 0 := by
  rcases h.ty i hi with h1 | h1
  · omega
  · exact h1.2
theorem Typed.neg1 (h : Typed c d obs p) {i : Nat} (hi : i < c.fr.length) (h0 : ¬ 0 ≤ p.getD i 0) : p.getD i 0 = -1 := by
  rcases h.ty i hi with h1 | h1
  · exact h1
  · omega
theorem Typed.set (h : Typed c d obs p) {i : Nat} {x : Int} (hi : i < c.fr.length) (h0 : 0 ≤ x) (h1 : x < d.fr.length) (h2 : d.fr.getD x.toNat 0 = obs.getD (c.fr.getD i 0).toNat 0) (h3 : d.to.getD x.toNat 0 = obs.getD (c.to.getD i 0).toNat 0) : Typed c d obs (p.set i x) := by
  refine ⟨by rw [List.length_set, h.len], fun j hj => ?_⟩
  rw [set_get (by rw [h.len]; exact hi)]
  by_cases hji : j = i
  · subst hji; rw [if_pos rfl]; exact .inr ⟨h0, h1, h2, h3⟩
  · rw [if_neg hji]; exact h.ty j hj

theorem cell_eq (c : Cat) (a b : Nat) : c.cellI a b = c.cell a b := by simp [Cat.cellI, Cat.cell]

/-- The composite of two images. -/
theorem Typed.comp (h : Typed c d obs p) (hc : c.Shape) (hd : d.Shape) {a b : Nat} (ha : a < c.fr.length) (hb : b < c.fr.length) (h0 : 0 ≤ c.cell a b) (h1 : 0 ≤ p.getD a 0) (h2 : 0 ≤ p.getD b 0) :
    (c.cell a b).toNat < c.fr.length ∧ 0 ≤ d.cellI (p.getD a 0) (p.getD b 0) ∧ d.cellI (p.getD a 0) (p.getD b 0) < d.fr.length ∧
    d.fr.getD (d.cellI (p.getD a 0) (p.getD b 0)).toNat 0 = obs.getD (c.fr.getD (c.cell a b).toNat 0).toNat 0 ∧ d.to.getD (d.cellI (p.getD a 0) (p.getD b 0)).toNat 0 = obs.getD (c.to.getD (c.cell a b).toNat 0).toNat 0 := by
  have hab : c.to.getD a 0 = c.fr.getD b 0 := Classical.byContradiction fun hh => by have := hc.cell_out ha hb hh; rw [cell_eq] at this; omega
  obtain ⟨c1, c2, c3, c4⟩ := hc.cell_in ha hb hab
  rw [cell_eq] at c1 c2 c3 c4
  obtain ⟨a1, a2, a3⟩ := h.get ha h1
  obtain ⟨b1, b2, b3⟩ := h.get hb h2
  have ea : ((p.getD a 0).toNat : Int) = p.getD a 0 := Int.toNat_of_nonneg h1
  have eb : ((p.getD b 0).toNat : Int) = p.getD b 0 := Int.toNat_of_nonneg h2
  obtain ⟨d1, d2, d3, d4⟩ := hd.cell_in (f := (p.getD a 0).toNat) (g := (p.getD b 0).toNat) (by omega) (by omega) (by rw [a3, b2, hab])
  rw [ea, eb] at d1 d2 d3 d4
  exact ⟨by omega, d1, d2, by rw [d3, a2, c3], by rw [d4, b3, c4]⟩

/-- A composite's image follows. -/
theorem Comp.force (_ : c.Shape) (hp : Typed c d obs p) (h : Comp c d obs p F) {a b : Nat} (ha : a < c.fr.length) (hb : b < c.fr.length) (h0 : 0 ≤ c.cell a b) (h1 : 0 ≤ p.getD a 0) (h2 : 0 ≤ p.getD b 0) :
    F.getD (c.cell a b).toNat 0 = d.cellI (p.getD a 0) (p.getD b 0) := by
  have e1 := h.2 a (by rw [hp.len]; exact ha) h1
  have e2 := h.2 b (by rw [hp.len]; exact hb) h2
  have := h.1.co a b ha hb h0 (by omega) (by omega)
  rw [this, e1, e2]
theorem Comp.set (hp : Typed c d obs p) {i : Nat} {x : Int} (hi : i < c.fr.length) (hn : p.getD i 0 < 0) (hx : 0 ≤ x) : Comp c d obs (p.set i x) F ↔ Comp c d obs p F ∧ F.getD i 0 = x := by
  have hil : i < p.length := by rw [hp.len]; exact hi
  constructor
  · rintro ⟨h1, h2⟩
    refine ⟨⟨h1, fun j hj hj0 => ?_⟩, ?_⟩
    · have hji : j ≠ i := by rintro rfl; omega
      have := h2 j (by rw [List.length_set]; exact hj) (by rw [set_get hil, if_neg hji]; exact hj0)
      rwa [set_get hil, if_neg hji] at this
    · have := h2 i (by rw [List.length_set]; exact hil) (by rw [set_get hil, if_pos rfl]; exact hx)
      rwa [set_get hil, if_pos rfl] at this
  · rintro ⟨⟨h1, h2⟩, h3⟩
    refine ⟨h1, fun j hj hj0 => ?_⟩
    rw [List.length_set] at hj
    rw [set_get hil] at hj0 ⊢
    by_cases hji : j = i
    · subst hji; rw [if_pos rfl]; exact h3
    · rw [if_neg hji] at hj0 ⊢; exact h2 j hj hj0

/-- What making all composites of known images known leaves. -/
structure Spr (c d : Cat) (obs p : List Int) (p' : List Int) : Prop where
  ty : Typed c d obs p'
  same : ∀ F, Comp c d obs p' F ↔ Comp c d obs p F
  ext : ∀ i, 0 ≤ p.getD i 0 → p'.getD i 0 = p.getD i 0
  neg : unk p' ≤ unk p
theorem Spr.refl (h : Typed c d obs p) : Spr c d obs p p := ⟨h, fun _ => Iff.rfl, fun _ _ => rfl, Nat.le_refl _⟩
theorem Spr.trans {p1 p2 p3 : List Int} (h : Spr c d obs p1 p2) (h' : Spr c d obs p2 p3) : Spr c d obs p1 p3 :=
  ⟨h'.ty, fun F => (h'.same F).trans (h.same F), fun i hi => by rw [h'.ext i (by rw [h.ext i hi]; exact hi), h.ext i hi], Nat.le_trans h'.neg h.neg⟩
/-- One image is set. -/
theorem Spr.step (hc : c.Shape) (hd : d.Shape) (hp : Typed c d obs p) {a b : Nat} (ha : a < c.fr.length) (hb : b < c.fr.length) (h0 : 0 ≤ c.cell a b) (h1 : 0 ≤ p.getD a 0) (h2 : 0 ≤ p.getD b 0) (hn : p.getD (c.cell a b).toNat 0 < 0) :
    Spr c d obs p (p.set (c.cell a b).toNat (d.cellI (p.getD a 0) (p.getD b 0))) ∧ unk (p.set (c.cell a b).toNat (d.cellI (p.getD a 0) (p.getD b 0))) < unk p := by
  obtain ⟨q1, q2, q3, q4, q5⟩ := hp.comp hc hd ha hb h0 h1 h2
  have hlt := unk_set (p := p) (i := (c.cell a b).toNat) (x := d.cellI (p.getD a 0) (p.getD b 0)) (by rw [hp.len]; exact q1) hn q2
  refine ⟨⟨hp.set q1 q2 q3 q4 q5, fun F => ?_, fun i hi => ?_, by omega⟩, hlt⟩
  · rw [Comp.set hp q1 hn q2]
    exact ⟨fun h => h.1, fun h => ⟨h, h.force hc hp ha hb h0 h1 h2⟩⟩
  · rw [set_get (by rw [hp.len]; exact q1)]
    by_cases hh : i = (c.cell a b).toNat
    · subst hh; omega
    · rw [if_neg hh]
/-- A contradiction. -/
theorem Spr.clash (hc : c.Shape) (hp : Typed c d obs p) {a b : Nat} (ha : a < c.fr.length) (hb : b < c.fr.length) (h0 : 0 ≤ c.cell a b) (h1 : 0 ≤ p.getD a 0) (h2 : 0 ≤ p.getD b 0) (hl : (c.cell a b).toNat < c.fr.length) (hn : 0 ≤ p.getD (c.cell a b).toNat 0)
    (hne : p.getD (c.cell a b).toNat 0 ≠ d.cellI (p.getD a 0) (p.getD b 0)) (F : List Int) : ¬ Comp c d obs p F := fun h => by
  have e1 := h.force hc hp ha hb h0 h1 h2
  have e2 := h.2 _ (by rw [hp.len]; exact hl) hn
  exact hne (e2.symm.trans e1)

/-- All images are known. -/
theorem Comp.full (hp : Typed c d obs p) (hco : ∀ a b, a < c.fr.length → b < c.fr.length → Fit c d p a b) (ht : ∀ i, i < c.fr.length → 0 ≤ p.getD i 0) : Comp c d obs p F ↔ F = p := by
  constructor
  · rintro ⟨h1, h2⟩
    refine List.ext_getElem (by rw [h1.ty.len, hp.len]) fun i h3 h4 => ?_
    have := h2 i h4 (ht i (by rw [← hp.len]; exact h4))
    rwa [getD_lt h3, getD_lt h4] at this
  · rintro rfl
    exact ⟨⟨hp, ht, hco⟩, fun _ _ _ => rfl⟩

/-! ### Enumerations -/
def En (c d : Cat) (obs p : List Int) (L : List (List Int)) : Prop := L.Pairwise lexlt ∧ ∀ F, F ∈ L ↔ Comp c d obs p F
theorem En.eq {L L' : List (List Int)} (h : En c d obs p L) (h' : En c d obs p L') : L = L' := sorted_eq (fun _ _ => lexlt_asymm) h.1 h'.1 fun F => (h.2 F).trans (h'.2 F).symm
theorem En.spr {p' : List Int} {L : List (List Int)} (hs : Spr c d obs p p') : En c d obs p L ↔ En c d obs p' L :=
  ⟨fun h => ⟨h.1, fun F => (h.2 F).trans (hs.same F).symm⟩, fun h => ⟨h.1, fun F => (h.2 F).trans (hs.same F)⟩⟩
theorem En.none {L : List (List Int)} (h : En c d obs p L) (hn : ∀ F, ¬ Comp c d obs p F) : L = [] := by
  cases L with
  | nil => rfl
  | cons F L => exact (hn F ((h.2 F).1 (by simp))).elim
theorem En.one {L : List (List Int)} (h : En c d obs p L) (hp : Typed c d obs p) (hco : ∀ a b, a < c.fr.length → b < c.fr.length → Fit c d p a b) (ht : ∀ i, i < c.fr.length → 0 ≤ p.getD i 0) : L = [p] :=
  sorted_eq (fun _ _ => lexlt_asymm) h.1 (List.pairwise_singleton _ _) fun F => by rw [h.2 F, Comp.full hp hco ht, List.mem_singleton]

/-- The first unknown image. -/
structure Fst (p : List Int) (a : Nat) : Prop where
  lt : a < p.length
  neg : p.getD a 0 < 0
  bef : ∀ j, j < a → 0 ≤ p.getD j 0
theorem Fst.hom (hp : Typed c d obs p) {a : Nat} (ha : Fst p a) {x : Int} (hx : x ∈ d.hom (obs.getD (c.fr.getD a 0).toNat 0) (obs.getD (c.to.getD a 0).toNat 0)) :
    Typed c d obs (p.set a x) ∧ unk (p.set a x) < unk p := by
  obtain ⟨h1, h2, h3, h4⟩ := Cat.mem_hom.1 hx
  exact ⟨hp.set (by rw [← hp.len]; exact ha.lt) h1 h2 h3 h4, unk_set ha.lt ha.neg h1⟩
/-- What begins with the first 'i' choices. -/
def EnP (c d : Cat) (obs p : List Int) (a : Nat) (H : List Int) (i : Nat) (L : List (List Int)) : Prop := L.Pairwise lexlt ∧ ∀ F, F ∈ L ↔ Comp c d obs p F ∧ ∃ j, j < i ∧ F.getD a 0 = H.getD j 0
theorem EnP.zero {a : Nat} {H : List Int} : EnP c d obs p a H 0 [] := ⟨List.Pairwise.nil, fun F => by simp⟩
theorem EnP.step (hp : Typed c d obs p) {a : Nat} (ha : Fst p a) {H : List Int} (hH : H.Pairwise (· < ·)) {i : Nat} (hi : i < H.length) (h0 : 0 ≤ H.getD i 0) {L L1 : List (List Int)} (h : EnP c d obs p a H i L) (h1 : En c d obs (p.set a (H.getD i 0)) L1) : EnP c d obs p a H (i + 1) (L ++ L1) := by
  have hac : a < c.fr.length := by rw [← hp.len]; exact ha.lt
  have hm : ∀ F, F ∈ L1 ↔ Comp c d obs p F ∧ F.getD a 0 = H.getD i 0 := fun F => by rw [h1.2, Comp.set hp hac ha.neg h0]
  refine ⟨List.pairwise_append.2 ⟨h.1, h1.1, fun F hF F' hF' => ?_⟩, fun F => ?_⟩
  · obtain ⟨hc1, j, hj, e1⟩ := (h.2 F).1 hF
    obtain ⟨hc2, e2⟩ := (hm F').1 hF'
    refine ⟨a, fun k hk => ?_, ?_⟩
    · rw [hc1.2 k (by have := ha.lt; omega) (ha.bef k hk), hc2.2 k (by have := ha.lt; omega) (ha.bef k hk)]
    · rw [e1, e2, getD_lt hi, getD_lt (show j < H.length by omega)]
      exact List.pairwise_iff_getElem.1 hH j i _ _ hj
  · rw [List.mem_append, h.2, hm]
    constructor
    · rintro (⟨h2, j, hj, e⟩ | ⟨h2, e⟩)
      · exact ⟨h2, j, by omega, e⟩
      · exact ⟨h2, i, by omega, e⟩
    · rintro ⟨h2, j, hj, e⟩
      by_cases hji : j = i
      · subst hji; exact .inr ⟨h2, e⟩
      · exact .inl ⟨h2, j, by omega, e⟩
theorem EnP.done (hp : Typed c d obs p) {a : Nat} (ha : Fst p a) {L : List (List Int)} (h : EnP c d obs p a (d.hom (obs.getD (c.fr.getD a 0).toNat 0) (obs.getD (c.to.getD a 0).toNat 0)) (d.hom (obs.getD (c.fr.getD a 0).toNat 0) (obs.getD (c.to.getD a 0).toNat 0)).length L) : En c d obs p L := by
  refine ⟨h.1, fun F => ?_⟩
  rw [h.2]
  refine ⟨fun hh => hh.1, fun hh => ⟨hh, ?_⟩⟩
  have hac : a < c.fr.length := by rw [← hp.len]; exact ha.lt
  have h1 := hh.1.tot a hac
  obtain ⟨h2, h3, h4⟩ := hh.1.ty.get hac h1
  have : F.getD a 0 ∈ d.hom (obs.getD (c.fr.getD a 0).toNat 0) (obs.getD (c.to.getD a 0).toNat 0) := Cat.mem_hom.2 ⟨h1, h2, h3, h4⟩
  obtain ⟨j, hj, e⟩ := List.getElem_of_mem this
  exact ⟨j, hj, by rw [getD_lt hj, e]⟩
/-- There is an enumeration. -/
theorem fst_or (p : List Int) : (∀ i, i < p.length → 0 ≤ p.getD i 0) ∨ ∃ a, Fst p a := by
  by_cases h : ∀ i, i < p.length → 0 ≤ p.getD i 0
  · exact .inl h
  · refine .inr ?_
    have : ∃ i, i < p.length ∧ ¬ 0 ≤ p.getD i 0 := by
      apply Classical.byContradiction; intro hh; exact h fun i hi => Classical.byContradiction fun h2 => hh ⟨i, hi, h2⟩
    obtain ⟨i, hi, h2⟩ := this
    obtain ⟨m, ⟨hm1, hm2⟩, hm3⟩ := least' (fun i => i < p.length ∧ ¬ 0 ≤ p.getD i 0) i ⟨hi, h2⟩
    exact ⟨m, hm1, by omega, fun j hj => Classical.byContradiction fun hh => by have := hm3 j ⟨by omega, hh⟩; omega⟩
theorem En.exists : ∀ (n : Nat) {p : List Int}, unk p ≤ n → Typed c d obs p → ∃ L, En c d obs p L := by
  intro n
  induction n with
  | zero =>
    intro p hn hp
    rcases fst_or p with ht | ⟨a, ha⟩
    · have ht' : ∀ i, i < c.fr.length → 0 ≤ p.getD i 0 := fun i hi => ht i (by rw [hp.len]; exact hi)
      by_cases hco : ∀ a b, a < c.fr.length → b < c.fr.length → Fit c d p a b
      · exact ⟨[p], List.pairwise_singleton _ _, fun F => by rw [Comp.full hp hco ht', List.mem_singleton]⟩
      · refine ⟨[], List.Pairwise.nil, fun F => ⟨fun h => (by cases h), fun h => absurd (fun a b ha hb => ?_) hco⟩⟩
        have hF : F = p := List.ext_getElem (by rw [h.1.ty.len, hp.len]) fun i h3 h4 => by
          have := h.2 i h4 (ht i h4)
          rwa [getD_lt h3, getD_lt h4] at this
        rw [← hF]; exact h.1.co a b ha hb
    · have := unk_set (x := 0) ha.lt ha.neg (Int.le_refl 0); omega
  | succ n ih =>
    intro p hn hp
    rcases fst_or p with ht | ⟨a, ha⟩
    · have ht' : ∀ i, i < c.fr.length → 0 ≤ p.getD i 0 := fun i hi => ht i (by rw [hp.len]; exact hi)
      by_cases hco : ∀ a b, a < c.fr.length → b < c.fr.length → Fit c d p a b
      · exact ⟨[p], List.pairwise_singleton _ _, fun F => by rw [Comp.full hp hco ht', List.mem_singleton]⟩
      · refine ⟨[], List.Pairwise.nil, fun F => ⟨fun h => (by cases h), fun h => absurd (fun a b ha hb => ?_) hco⟩⟩
        have hF : F = p := List.ext_getElem (by rw [h.1.ty.len, hp.len]) fun i h3 h4 => by
          have := h.2 i h4 (ht i h4)
          rwa [getD_lt h3, getD_lt h4] at this
        rw [← hF]; exact h.1.co a b ha hb
    · generalize hH : d.hom (obs.getD (c.fr.getD a 0).toNat 0) (obs.getD (c.to.getD a 0).toNat 0) = H
      have key : ∀ i, i ≤ H.length → ∃ L, EnP c d obs p a H i L := by
        intro i
        induction i with
        | zero => exact fun _ => ⟨[], EnP.zero⟩
        | succ i ih2 =>
          intro hi
          obtain ⟨L, hL⟩ := ih2 (by omega)
          have hm : H.getD i 0 ∈ H := by rw [getD_lt (by omega)]; exact List.getElem_mem _
          rw [← hH] at hm
          obtain ⟨h1, h2⟩ := ha.hom hp hm
          rw [hH] at h1 h2 hm
          obtain ⟨L1, hL1⟩ := ih (p := p.set a (H.getD i 0)) (by omega) h1
          exact ⟨L ++ L1, hL.step hp ha (by rw [← hH]; exact Cat.hom_sorted) (by omega) (by rw [← hH] at hm ⊢; exact (Cat.mem_hom.1 hm).1) hL1⟩
      obtain ⟨L, hL⟩ := key H.length (Nat.le_refl _)
      rw [← hH] at hL
      exact ⟨L, hL.done hp ha⟩
end Go.D3

/- CONTRACTS: functors made from their parts; the closure that collects them. -/
namespace Go.D3
open Go
set_option maxRecDepth 100000

structure Ftr where
  src : Cat
  tgt : Cat
  obs : List (Int)
  ars : List (Int)
def Ftr.cells (x : Ftr) : List D := [.int .i64 x.src.ob, ints x.src.fr, ints x.src.to, ints x.src.idn, intss x.src.co, .int .i64 x.tgt.ob, ints x.tgt.fr, ints x.tgt.to, ints x.tgt.idn, intss x.tgt.co, ints x.obs, ints x.ars]
def Ftr.d (x : Ftr) : D := .agg x.cells
def Ftr.zero : Ftr := ⟨Cat.zero, Cat.zero, [], []⟩
def Ftr.cost (x : Ftr) : Nat := Cat.cost x.src + Cat.cost x.tgt + x.obs.length + x.ars.length
theorem slice_Ftr : D.slice (.agg [.int .i64 0, ints [], ints [], ints [], intss [], .int .i64 0, ints [], ints [], ints [], intss [], ints [], ints []]) [] = lst Ftr.d Ftr.zero [] := rfl
theorem rep_Ftr {n : Nat} : D.slice (.agg [.int .i64 0, ints [], ints [], ints [], intss [], .int .i64 0, ints [], ints [], ints [], intss [], ints [], ints []]) (List.replicate n (.agg [.int .i64 0, ints [], ints [], ints [], intss [], .int .i64 0, ints [], ints [], ints [], intss [], ints [], ints []])) = lst Ftr.d Ftr.zero (List.replicate n Ftr.zero) := by unfold lst; rw [List.map_replicate]; rfl
theorem setCs_Ftr {l : List Ftr} {i : Nat} {srcob : Int} {srcfr : List (Int)} {srcto : List (Int)} {srcidn : List (Int)} {srcco : List (List (Int))} {tgtob : Int} {tgtfr : List (Int)} {tgtto : List (Int)} {tgtidn : List (Int)} {tgtco : List (List (Int))} {obs : List (Int)} {ars : List (Int)} : setCs (.o (lst Ftr.d Ftr.zero l)) [(i, 0)] 0 [.int .i64 srcob, ints srcfr, ints srcto, ints srcidn, intss srcco, .int .i64 tgtob, ints tgtfr, ints tgtto, ints tgtidn, intss tgtco, ints obs, ints ars] = .o (lst Ftr.d Ftr.zero (l.set i ⟨⟨srcob, srcfr, srcto, srcidn, srcco⟩, ⟨tgtob, tgtfr, tgtto, tgtidn, tgtco⟩, obs, ars⟩)) := setCs_lst (n := 12) (fun _ => ⟨_, rfl, rfl⟩) rfl
attribute [go_sem] Ftr.cells.eq_1 Ftr.d.eq_1 slice_Ftr rep_Ftr
theorem app_Ftr {l : List Ftr} {srcob : Int} {srcfr : List (Int)} {srcto : List (Int)} {srcidn : List (Int)} {srcco : List (List (Int))} {tgtob : Int} {tgtfr : List (Int)} {tgtto : List (Int)} {tgtidn : List (Int)} {tgtco : List (List (Int))} {obs : List (Int)} {ars : List (Int)} : (lst Ftr.d Ftr.zero l).appL [.agg [.int .i64 srcob, ints srcfr, ints srcto, ints srcidn, intss srcco, .int .i64 tgtob, ints tgtfr, ints tgtto, ints tgtidn, intss tgtco, ints obs, ints ars]] = lst Ftr.d Ftr.zero (l ++ [⟨⟨srcob, srcfr, srcto, srcidn, srcco⟩, ⟨tgtob, tgtfr, tgtto, tgtidn, tgtco⟩, obs, ars⟩]) := lst_app1 (f := Ftr.d) (x := ⟨⟨srcob, srcfr, srcto, srcidn, srcco⟩, ⟨tgtob, tgtfr, tgtto, tgtidn, tgtco⟩, obs, ars⟩)
attribute [go_sem high] setCs_Ftr app_Ftr
theorem nv_Ftr (x : Ftr) : x.d.novw = true := by simp only [Ftr.d, Ftr.cells, D.novw, novwL, nv_ints, nv_intss, Bool.and_self]
theorem cells_Ftr (x : Ftr) : x.d.cells.length = 12 := rfl

-- impl.functor
def c_impl_functor : C :=
  (.seq (.ops [4] [⟨none, .alc [.int .i64 0, .nils (.int .i64 0), .nils (.int .i64 0), .nils (.int .i64 0), .nils (ints []), .int .i64 0, .nils (.int .i64 0), .nils (.int .i64 0), .nils (.int .i64 0), .nils (ints []), .nils (.int .i64 0), .nils (.int .i64 0)]⟩] [(4, 0)])
  (.seq (.ops [] [⟨none, .mv (.v 0)⟩,
    ⟨none, .call 101 [(.t 0)]⟩,
    ⟨none, .mv (.v 1)⟩,
    ⟨none, .call 101 [(.t 2)]⟩,
    ⟨none, .mv (.v 2)⟩,
    ⟨none, .call 145 [(.t 4)]⟩,
    ⟨none, .mv (.v 3)⟩,
    ⟨none, .call 145 [(.t 6)]⟩,
    ⟨none, .bld [.int .i64 0, .nils (.int .i64 0), .nils (.int .i64 0), .nils (.int .i64 0), .nils (ints []), .int .i64 0, .nils (.int .i64 0), .nils (.int .i64 0), .nils (.int .i64 0), .nils (ints []), .nils (.int .i64 0), .nils (.int .i64 0)] [(0, 5, (.t 1)), (5, 5, (.t 3)), (10, 1, (.t 5)), (11, 1, (.t 7))]⟩,
    ⟨none, .stn 12 (.v 4) (.t 8)⟩] [])
  .ret))
def tr_impl_functor : List Nat := [0, 1, 2, 3, 8]
def rs_impl_functor : List RS := [.c 4 12 true]
theorem ok_impl_functor : fnOk Go.Proofs.Try.prog Go.Proofs.Try.f109 tr_impl_functor c_impl_functor 4 rs_impl_functor = true := by decide +kernel

theorem ret_impl_functor (c d : Cat) (o f : List Int) (h1 : Cat.cost c ≤ 1048576) (h2 : Cat.cost d ≤ 1048576) (h3 : o.length ≤ 1048576) (h4 : f.length ≤ 1048576) : Ret Go.Proofs.Try.prog 109 [.v (.ptr c.cells), .v (.ptr d.cells), .v (ints o), .v (ints f)] (Ftr.d ⟨c, d, o, f⟩) := by
  refine ret_fn Go.Proofs.Try.func109 ok_impl_functor rfl (show 4 < 500 by decide) rfl ?_; unfold c_impl_functor tr_impl_functor rs_impl_functor; simp only [go_sem, Nat.reduceLT, Nat.reduceAdd, Nat.reduceSub, ↓reduceIte]
  refine call_of (ret_impl_Category_copy c h1) rfl (.inl (nv_Cat _)) ?_
  simp only [go_sem, Nat.reduceLT, Nat.reduceAdd, Nat.reduceSub, ↓reduceIte]
  refine call_of (ret_impl_Category_copy d h2) rfl (.inl (nv_Cat _)) ?_
  simp only [go_sem, Nat.reduceLT, Nat.reduceAdd, Nat.reduceSub, ↓reduceIte]
  refine call_of (ret_impl_clone o h3) rfl (.inl (nv_ints _)) ?_
  simp only [go_sem, Nat.reduceLT, Nat.reduceAdd, Nat.reduceSub, ↓reduceIte]
  refine call_of (ret_impl_clone f h4) rfl (.inl (nv_ints _)) ?_
  simp only [go_sem, Nat.reduceLT, Nat.reduceAdd, Nat.reduceSub, Nat.reduceEqDiff, Nat.reduceBEq, Nat.reduceLeDiff, ↓reduceIte]
  all_goals rfl
-- spec.l06Make
def c_spec_l06Make : C :=
  (.seq (.ops [5, 6, 4] [⟨none, .boxv 5 (.v 0)⟩,
    ⟨none, .boxv 5 (.v 1)⟩,
    ⟨none, .alc [.int .i64 0, .nils (.int .i64 0), .nils (.int .i64 0), .nils (.int .i64 0), .nils (ints []), .int .i64 0, .nils (.int .i64 0), .nils (.int .i64 0), .nils (.int .i64 0), .nils (ints []), .nils (.int .i64 0), .nils (.int .i64 0)]⟩] [(5, 0), (6, 1), (4, 2)])
  (.seq (.ops [] [⟨none, .lda 5 (.v 5)⟩,
    ⟨none, .call 126 [(.t 0)]⟩,
    ⟨none, .lda 5 (.v 6)⟩,
    ⟨none, .call 126 [(.t 2)]⟩,
    ⟨none, .mv (.v 2)⟩,
    ⟨none, .call 154 [(.t 4)]⟩,
    ⟨none, .mv (.v 3)⟩,
    ⟨none, .call 154 [(.t 6)]⟩,
    ⟨none, .bld [.int .i64 0, .nils (.int .i64 0), .nils (.int .i64 0), .nils (.int .i64 0), .nils (ints []), .int .i64 0, .nils (.int .i64 0), .nils (.int .i64 0), .nils (.int .i64 0), .nils (ints []), .nils (.int .i64 0), .nils (.int .i64 0)] [(0, 5, (.t 1)), (5, 5, (.t 3)), (10, 1, (.t 5)), (11, 1, (.t 7))]⟩,
    ⟨none, .stn 12 (.v 4) (.t 8)⟩] [])
  .ret))
def tr_spec_l06Make : List Nat := [0, 1, 2, 3, 8, 4, 5]
def rs_spec_l06Make : List RS := [.c 4 12 true]
theorem ok_spec_l06Make : fnOk Go.Proofs.Try.prog Go.Proofs.Try.f106 tr_spec_l06Make c_spec_l06Make 4 rs_spec_l06Make = true := by decide +kernel

theorem ret_spec_l06Make (c d : Cat) (o f : List Int) (h1 : Cat.cost c ≤ 1048576) (h2 : Cat.cost d ≤ 1048576) (h3 : o.length ≤ 1048576) (h4 : f.length ≤ 1048576) : Ret Go.Proofs.Try.prog 106 [.v c.d, .v d.d, .v (ints o), .v (ints f)] (Ftr.d ⟨c, d, o, f⟩) := by
  refine ret_fn Go.Proofs.Try.func106 ok_spec_l06Make rfl (show 4 < 500 by decide) rfl ?_; unfold c_spec_l06Make tr_spec_l06Make rs_spec_l06Make; simp only [go_sem, Nat.reduceLT, Nat.reduceAdd, Nat.reduceSub, Nat.reduceLeDiff, ↓reduceIte]
  refine call_of (ret_spec_l02Own c h1) rfl (.inl (nv_Cat _)) ?_
  simp only [go_sem, Nat.reduceLT, Nat.reduceAdd, Nat.reduceSub, Nat.reduceLeDiff, ↓reduceIte]
  refine call_of (ret_spec_l02Own d h2) rfl (.inl (nv_Cat _)) ?_
  simp only [go_sem, Nat.reduceLT, Nat.reduceAdd, Nat.reduceSub, ↓reduceIte]
  refine call_of (ret_spec_l01Own o h3) rfl (.inl (nv_ints _)) ?_
  simp only [go_sem, Nat.reduceLT, Nat.reduceAdd, Nat.reduceSub, ↓reduceIte]
  refine call_of (ret_spec_l01Own f h4) rfl (.inl (nv_ints _)) ?_
  simp only [go_sem, Nat.reduceLT, Nat.reduceAdd, Nat.reduceSub, Nat.reduceEqDiff, Nat.reduceBEq, Nat.reduceLeDiff, ↓reduceIte]
  all_goals rfl

abbrev ftrs (l : List Ftr) : D := lst Ftr.d Ftr.zero l
-- impl.allFunctors$1
def c_impl_allFunctors_1 : C :=
  (.seq (.ops [] [⟨none, .asg 6 (.k (.bool false))⟩] [])
  (.seq (.ops [] [⟨none, .ld (.v 2)⟩,
    ⟨none, .ld (.v 3)⟩,
    ⟨none, .ld (.v 4)⟩,
    ⟨none, .mv (.v 0)⟩,
    ⟨none, .mv (.v 1)⟩,
    ⟨none, .call 109 [(.t 1), (.t 2), (.t 3), (.t 4)]⟩,
    ⟨none, .bldS (.agg [.int .i64 0, ints [], ints [], ints [], intss [], .int .i64 0, ints [], ints [], ints [], intss [], ints [], ints []]) 1 [(0, (.t 5))]⟩,
    ⟨none, .app 12 256 (.t 0) (.t 6)⟩,
    ⟨none, .st (.v 2) (.t 7)⟩] [])
  (.seq (.ops [] [⟨none, .ld (.v 2)⟩,
    ⟨none, .len (.t 0)⟩,
    ⟨none, .ld (.v 5)⟩,
    ⟨none, .bin .leq (.t 1) (.t 2)⟩,
    ⟨none, .asg 6 (.t 3)⟩] [])
  .ret)))
def tr_impl_allFunctors_1 : List Nat := [0, 1, 2, 3, 4, 5, 8]
def rs_impl_allFunctors_1 : List RS := [.t 6]
theorem ok_impl_allFunctors_1 : fnOk Go.Proofs.Try.prog Go.Proofs.Try.f134 tr_impl_allFunctors_1 c_impl_allFunctors_1 2 rs_impl_allFunctors_1 = true := by decide +kernel

theorem ret_found (c d : Cat) (M : Nat) (_ : M ≤ 1000000) (o f : List Int) (l : List Ftr) (h1 : Cat.cost c ≤ 1048576) (h2 : Cat.cost d ≤ 1048576) (h3 : o.length ≤ 1048576) (h4 : f.length ≤ 1048576) (hl : l.length ≤ 1048576) :
    RetG Go.Proofs.Try.prog 134 [ints o, ints f, .adr 0 [(0, 0)], .ptr [.ptr c.cells], .ptr [.ptr d.cells], .ptr [.int .i64 M]] [.box [.o (ftrs l)]] (.bool (decide (l.length + 1 ≤ M))) [.box [.o (ftrs (l ++ [⟨c, d, o, f⟩]))]] := by
  refine ret_fnG .tree Go.Proofs.Try.func134 rfl ok_impl_allFunctors_1 rfl ⟨by simp only [List.length_cons, List.length_nil]; decide, by simp only [List.length_cons, List.length_nil]; decide⟩ rfl ?_; unfold c_impl_allFunctors_1 tr_impl_allFunctors_1 rs_impl_allFunctors_1; simp only [go_sem, Nat.reduceLT, Nat.reduceAdd, Nat.reduceSub, Nat.reduceBEq, Nat.reduceLeDiff, ↓reduceIte]
  refine call_of (ret_impl_functor c d o f h1 h2 h3 h4) rfl (.inl (nv_Ftr _)) ?_
  simp only [go_sem, Nat.reduceLT, Nat.reduceAdd, Nat.reduceSub, Nat.reduceEqDiff, Nat.reduceBEq, Nat.reduceLeDiff, ↓reduceIte]
  exact ⟨by omega, by rw [List.length_append]; rfl⟩
end Go.D3

/- CONTRACTS: the program's search for functors: what begins it, what it asks on the way. -/
namespace Go.D3
open Go
set_option maxRecDepth 100000

abbrev foundD (c d : Cat) (M : Nat) (k : Nat) : D := .fn 134 [.adr k [(0, 0)], .ptr [.ptr c.cells], .ptr [.ptr d.cells], .ptr [.int .i64 M]]
-- impl.searchFor
def c_impl_searchFor : C :=
  (.seq (.ops [] [⟨none, .asg 4 (.k .nilp)⟩] [])
  (.seq (.ops [4] [⟨none, .mv (.v 0)⟩,
    ⟨none, .mv (.v 1)⟩,
    ⟨none, .mv (.v 0)⟩,
    ⟨none, .nck (.t 2)⟩,
    ⟨none, .fA 0 (.t 3)⟩,
    ⟨none, .ld (.t 4)⟩,
    ⟨none, .mkS (.int .i64 0) 8 (.t 5) (.t 5)⟩,
    ⟨none, .mv (.v 0)⟩,
    ⟨none, .call 111 [(.t 7)]⟩,
    ⟨none, .mkS (.int .i64 0) 8 (.t 8) (.t 8)⟩,
    ⟨none, .mv (.v 2)⟩,
    ⟨none, .mv (.v 3)⟩,
    ⟨none, .bld [.nilp, .nilp, .nils (.int .i64 0), .nils (.int .i64 0), .bool false, .dead] [(0, 1, (.t 0)), (1, 1, (.t 1)), (2, 1, (.t 6)), (3, 1, (.t 9)), (4, 1, (.t 10)), (5, 1, (.t 11))]⟩,
    ⟨none, .boxo 6 (.t 12)⟩,
    ⟨none, .bo (.t 13)⟩] [(4, 14)])
  .ret))
def tr_impl_searchFor : List Nat := [0, 1, 2, 3, 8]
def rs_impl_searchFor : List RS := [.t 4]
theorem ok_impl_searchFor : fnOk Go.Proofs.Try.prog Go.Proofs.Try.f133 tr_impl_searchFor c_impl_searchFor 4 rs_impl_searchFor = true := by decide +kernel

theorem ret_impl_searchFor (c d : Cat) (M : Nat) (l : List Ftr) (h0 : 0 ≤ c.ob) (h1 : c.ob ≤ 1048576) (h2 : c.fr.length ≤ 1048576) :
    RetG Go.Proofs.Try.prog 133 [.ptr c.cells, .ptr d.cells, .bool false, foundD c d M 0] [.box [.o (ftrs l)]] (.box [.ptr c.cells, .ptr d.cells, .o (ints (List.replicate c.ob.toNat 0)), .o (ints (List.replicate c.fr.length 0)), .bool false, foundD c d M 0]) [.box [.o (ftrs l)]] := by
  refine ret_fnG .boxd Go.Proofs.Try.func133 rfl ok_impl_searchFor rfl ⟨by simp only [List.length_cons, List.length_nil]; decide, by simp only [List.length_cons, List.length_nil]; decide⟩ rfl ?_; unfold c_impl_searchFor tr_impl_searchFor rs_impl_searchFor; simp only [go_sem, Nat.reduceLT, Nat.reduceAdd, Nat.reduceSub, Nat.reduceBEq, Nat.reduceLeDiff, ↓reduceIte]
  refine ⟨⟨h0, Int.le_refl _, by omega⟩, call_of (ret_impl_Category_arrows c) rfl (.inl rfl) ?_⟩
  simp only [go_sem, Nat.reduceLT, Nat.reduceAdd, Nat.reduceSub, Nat.reduceEqDiff, Nat.reduceBEq, Nat.reduceLeDiff, ↓reduceIte]
  exact ⟨Nat.le_refl _, by omega⟩

/-- Where a number is first. -/
def idxOf (l : List Int) (x : Int) (r : Int) : Prop := (r = -1 ∧ ∀ j, j < l.length → l.getD j 0 ≠ x) ∨ ∃ a : Nat, r = a ∧ a < l.length ∧ l.getD a 0 = x ∧ ∀ j, j < a → l.getD j 0 ≠ x
-- slices.Index[[]int64,int64]
def c_slices_Index_int64_int64 : C :=
  (.seq (.ops [] [⟨none, .asg 2 (.i 0)⟩] [])
  (.seq (.seq (.ops [4] [⟨none, .mv (.v 0)⟩,
    ⟨none, .len (.t 0)⟩,
    ⟨none, .asg 5 (.i 0)⟩] [(4, 1)])
  (.block 0 (.loop (.opq [] [⟨none, .bin .lss (.v 5) (.v 4)⟩] [] (.t 0) .skip
  (.exit 0)
  (.seq (.block 1 (.seq (.ops [] [⟨none, .mv (.v 5)⟩,
    ⟨none, .asg 3 (.t 0)⟩] [])
  (.opc [] [⟨none, .mv (.v 1)⟩,
    ⟨none, .mv (.v 0)⟩,
    ⟨none, .mv (.v 3)⟩,
    ⟨none, .idxA 1 (.t 1) (.t 2)⟩,
    ⟨none, .ld (.t 3)⟩,
    ⟨none, .bin .eql (.t 0) (.t 4)⟩] [] (.t 5) (.seq (.ops [] [⟨none, .mv (.v 3)⟩,
    ⟨none, .asg 2 (.t 0)⟩] [])
  .ret)
  .skip)))
  (.ops [] [⟨none, .bin .add (.v 5) (.i 1)⟩,
    ⟨none, .asg 5 (.t 0)⟩] []))))))
  (.seq (.ops [] [⟨none, .asg 2 (.i (-1))⟩] [])
  .ret)))
def tr_slices_Index_int64_int64 : List Nat := [0, 1, 4, 5, 7, 8]
def rs_slices_Index_int64_int64 : List RS := [.t 2]
theorem ok_slices_Index_int64_int64 : fnOk Go.Proofs.Try.prog Go.Proofs.Try.f148 tr_slices_Index_int64_int64 c_slices_Index_int64_int64 2 rs_slices_Index_int64_int64 = true := by decide +kernel

theorem ret_slices_Index_int64_int64 (l : List Int) (x r : Int) (hr : idxOf l x r) (hl : l.length ≤ 1048576) : Ret Go.Proofs.Try.prog 148 [.v (ints l), .v (.int .i64 x)] (.int .i64 r) := by
  refine ret_fn Go.Proofs.Try.func148 ok_slices_Index_int64_int64 rfl (show 2 < 500 by decide) rfl ?_; unfold c_slices_Index_int64_int64 tr_slices_Index_int64_int64 rs_slices_Index_int64_int64; simp only [go_sem, Nat.reduceLT, Nat.reduceAdd, Nat.reduceSub, ↓reduceIte]
  refine loop_set [3] (fun (i : Nat) => [(5, .int .i64 i)]) (fun i => i ≤ l.length ∧ ∀ j, j < i → l.getD j 0 ≠ x) (fun i => l.length - i) 0 (by simp only [go_sem, Nat.reduceLT, ↓reduceIte]; rfl) ⟨Nat.zero_le _, fun j hj => by omega⟩ rfl ?_
  rintro i ⟨hi, hn⟩
  simp only [go_sem, Nat.reduceLT, Nat.reduceAdd, Nat.reduceSub, ↓reduceIte]
  refine ⟨fun h => ⟨h, fun h2 => ?_, fun h2 => ⟨i + 1, ⟨by omega, fun j hj => ?_⟩, by omega, by rw [wrap_lt h (by simp only [maxLen]; omega)]⟩⟩, fun h => ?_⟩
  · rcases hr with ⟨_, h3⟩ | ⟨a, rfl, h3, h4, h5⟩
    · exact absurd h2.symm (h3 i h)
    · rcases Nat.lt_trichotomy a i with h6 | h6 | h6
      · exact absurd h4 (hn a h6)
      · rw [h6]
      · exact absurd h2.symm (h5 i h6)
  · by_cases hj2 : j = i
    · subst hj2; exact fun hh => by rw [hh] at h2; simp at h2
    · exact hn j (by omega)
  · rcases hr with ⟨rfl, _⟩ | ⟨a, _, h3, h4, _⟩
    · rfl
    · exact absurd h4 (hn a (by omega))
-- impl.index[int64]
def c_impl_index_int64 : C :=
  (.seq (.ops [] [⟨none, .asg 2 (.i 0)⟩] [])
  (.seq (.ops [] [⟨none, .mv (.v 0)⟩,
    ⟨none, .mv (.v 1)⟩,
    ⟨none, .call 148 [(.t 0), (.t 1)]⟩,
    ⟨none, .asg 2 (.t 2)⟩] [])
  .ret))
def tr_impl_index_int64 : List Nat := [0, 1, 4]
def rs_impl_index_int64 : List RS := [.t 2]
theorem ok_impl_index_int64 : fnOk Go.Proofs.Try.prog Go.Proofs.Try.f103 tr_impl_index_int64 c_impl_index_int64 2 rs_impl_index_int64 = true := by decide +kernel

theorem ret_impl_index_int64 (l : List Int) (x r : Int) (hr : idxOf l x r) (hl : l.length ≤ 1048576) : Ret Go.Proofs.Try.prog 103 [.v (ints l), .v (.int .i64 x)] (.int .i64 r) := by
  refine ret_fn Go.Proofs.Try.func103 ok_impl_index_int64 rfl (show 2 < 500 by decide) rfl ?_; unfold c_impl_index_int64 tr_impl_index_int64 rs_impl_index_int64; simp only [go_sem, Nat.reduceLT, Nat.reduceAdd, Nat.reduceSub, ↓reduceIte]
  refine call_of (ret_slices_Index_int64_int64 l x r hr hl) rfl (.inl rfl) ?_
  simp only [go_sem, Nat.reduceLT, Nat.reduceAdd, Nat.reduceSub, ↓reduceIte]

-- (*impl.search).need
def c_impl_search_need : C :=
  (.seq (.ops [] [⟨none, .asg 3 (.i 0)⟩] [])
  (.seq (.opc [] [⟨none, .mv (.v 0)⟩,
    ⟨none, .nck (.t 0)⟩,
    ⟨none, .fA 4 (.t 1)⟩,
    ⟨none, .ld (.t 2)⟩] [] (.t 3) (.seq (.ops [] [⟨none, .mv (.v 0)⟩,
    ⟨none, .nck (.t 0)⟩,
    ⟨none, .fA 0 (.t 1)⟩,
    ⟨none, .ld (.t 2)⟩,
    ⟨none, .mv (.v 1)⟩,
    ⟨none, .mv (.v 2)⟩,
    ⟨none, .call 121 [(.t 3), (.t 4), (.t 5)]⟩,
    ⟨none, .len (.t 6)⟩,
    ⟨none, .asg 3 (.t 7)⟩] [])
  .ret)
  .skip)
  (.seq (.ops [] [⟨none, .asg 3 (.i 1)⟩] [])
  .ret)))
def tr_impl_search_need : List Nat := [0, 1, 2, 6]
def rs_impl_search_need : List RS := [.t 3]
theorem ok_impl_search_need : fnOk Go.Proofs.Try.prog Go.Proofs.Try.f186 tr_impl_search_need c_impl_search_need 3 rs_impl_search_need = true := by decide +kernel

theorem ret_impl_search_need (c d : Cat) (o p : D) (x y : Int) (f : D) : Ret Go.Proofs.Try.prog 186 [.v (.ptr [.ptr c.cells, .ptr d.cells, o, p, .bool false, f]), .v (.int .i64 x), .v (.int .i64 y)] (.int .i64 1) := by
  refine ret_fn Go.Proofs.Try.func186 ok_impl_search_need rfl (show 3 < 500 by decide) rfl ?_; unfold c_impl_search_need tr_impl_search_need rs_impl_search_need; simp only [go_sem, Nat.reduceLT, Nat.reduceAdd, Nat.reduceSub, ↓reduceIte]

/-- The arrow 'i' is not yet asked for, or its images have a hom set with arrows. -/
def plB (c d : Cat) (o : List Int) (x : Int) (i : Nat) : Bool :=
  (decide (x < c.fr.getD i 0) || decide (x < c.to.getD i 0) || c.fr.getD i 0 != x && c.to.getD i 0 != x) || !decide (((d.hom (o.getD (c.fr.getD i 0).toNat 0) (o.getD (c.to.getD i 0).toNat 0)).length : Int) < 1)
def plc (c d : Cat) (o : List Int) (x : Int) : Bool := allB c.fr.length (plB c d o x)
-- (*impl.search).placed
def c_impl_search_placed : C :=
  (.seq (.ops [] [⟨none, .asg 2 (.k (.bool false))⟩] [])
  (.seq (.seq (.ops [6] [⟨none, .mv (.v 0)⟩,
    ⟨none, .nck (.t 0)⟩,
    ⟨none, .fA 0 (.t 1)⟩,
    ⟨none, .ld (.t 2)⟩,
    ⟨none, .nck (.t 3)⟩,
    ⟨none, .fA 1 (.t 4)⟩,
    ⟨none, .ld (.t 5)⟩,
    ⟨none, .len (.t 6)⟩,
    ⟨none, .asg 7 (.i 0)⟩] [(6, 7)])
  (.block 0 (.loop (.opq [] [⟨none, .bin .lss (.v 7) (.v 6)⟩] [] (.t 0) .skip
  (.exit 0)
  (.seq (.block 1 (.seq (.ops [] [⟨none, .mv (.v 7)⟩,
    ⟨none, .asg 3 (.t 0)⟩] [])
  (.seq (.ops [4] [⟨none, .mv (.v 0)⟩,
    ⟨none, .nck (.t 0)⟩,
    ⟨none, .fA 0 (.t 1)⟩,
    ⟨none, .ld (.t 2)⟩,
    ⟨none, .nck (.t 3)⟩,
    ⟨none, .fA 1 (.t 4)⟩,
    ⟨none, .ld (.t 5)⟩,
    ⟨none, .mv (.v 3)⟩,
    ⟨none, .idxA 1 (.t 6) (.t 7)⟩,
    ⟨none, .ld (.t 8)⟩,
    ⟨none, .mv (.v 0)⟩,
    ⟨none, .nck (.t 10)⟩,
    ⟨none, .fA 0 (.t 11)⟩,
    ⟨none, .ld (.t 12)⟩,
    ⟨none, .nck (.t 13)⟩,
    ⟨none, .fA 2 (.t 14)⟩,
    ⟨none, .ld (.t 15)⟩,
    ⟨none, .mv (.v 3)⟩,
    ⟨none, .idxA 1 (.t 16) (.t 17)⟩,
    ⟨none, .ld (.t 18)⟩,
    ⟨none, .mv (.t 9)⟩,
    ⟨none, .asg 5 (.t 19)⟩] [(4, 20)])
  (.seq (.opc [] [⟨none, .mv (.v 4)⟩,
    ⟨none, .mv (.v 1)⟩,
    ⟨none, .bin .gtr (.t 0) (.t 1)⟩,
    ⟨none, .mv (.t 2)⟩,
    ⟨some (3, false), .mv (.v 5)⟩,
    ⟨some (3, false), .mv (.v 1)⟩,
    ⟨some (3, false), .bin .gtr (.t 4) (.t 5)⟩,
    ⟨none, .pick (.t 3) (.k (.bool true)) (.t 6)⟩,
    ⟨none, .mv (.t 7)⟩,
    ⟨some (8, false), .mv (.v 4)⟩,
    ⟨some (8, false), .mv (.v 1)⟩,
    ⟨some (8, false), .bin .neq (.t 9) (.t 10)⟩,
    ⟨some (8, false), .mv (.t 11)⟩,
    ⟨some (12, true), .mv (.v 5)⟩,
    ⟨some (12, true), .mv (.v 1)⟩,
    ⟨some (12, true), .bin .neq (.t 13) (.t 14)⟩,
    ⟨some (8, false), .pick (.t 12) (.t 15) (.k (.bool false))⟩,
    ⟨none, .pick (.t 8) (.k (.bool true)) (.t 16)⟩] [] (.t 17) (.exit 1)
  .skip)
  (.opc [] [⟨none, .mv (.v 0)⟩,
    ⟨none, .nck (.t 0)⟩,
    ⟨none, .fA 1 (.t 1)⟩,
    ⟨none, .ld (.t 2)⟩,
    ⟨none, .mv (.v 0)⟩,
    ⟨none, .nck (.t 4)⟩,
    ⟨none, .fA 2 (.t 5)⟩,
    ⟨none, .ld (.t 6)⟩,
    ⟨none, .mv (.v 4)⟩,
    ⟨none, .idxA 1 (.t 7) (.t 8)⟩,
    ⟨none, .ld (.t 9)⟩,
    ⟨none, .mv (.v 0)⟩,
    ⟨none, .nck (.t 11)⟩,
    ⟨none, .fA 2 (.t 12)⟩,
    ⟨none, .ld (.t 13)⟩,
    ⟨none, .mv (.v 5)⟩,
    ⟨none, .idxA 1 (.t 14) (.t 15)⟩,
    ⟨none, .ld (.t 16)⟩,
    ⟨none, .call 121 [(.t 3), (.t 10), (.t 17)]⟩,
    ⟨none, .len (.t 18)⟩,
    ⟨none, .mv (.v 0)⟩,
    ⟨none, .mv (.v 4)⟩,
    ⟨none, .mv (.v 5)⟩,
    ⟨none, .call 186 [(.t 20), (.t 21), (.t 22)]⟩,
    ⟨none, .bin .lss (.t 19) (.t 23)⟩] [] (.t 24) (.seq (.ops [] [⟨none, .asg 2 (.k (.bool false))⟩] [])
  .ret)
  .skip)))))
  (.ops [] [⟨none, .bin .add (.v 7) (.i 1)⟩,
    ⟨none, .asg 7 (.t 0)⟩] []))))))
  (.seq (.ops [] [⟨none, .asg 2 (.k (.bool true))⟩] [])
  .ret)))
def tr_impl_search_placed : List Nat := [0, 1, 4, 5, 6, 7, 15, 16]
def rs_impl_search_placed : List RS := [.t 2]
theorem ok_impl_search_placed : fnOk Go.Proofs.Try.prog Go.Proofs.Try.f170 tr_impl_search_placed c_impl_search_placed 2 rs_impl_search_placed = true := by decide +kernel

theorem ret_impl_search_placed (c d : Cat) (hc : c.Shape) (hd : d.Shape) (o : List Int) (ho : (o.length : Int) = c.ob) (p : D) (x : Int) (f : D) : Ret Go.Proofs.Try.prog 170 [.v (.ptr [.ptr c.cells, .ptr d.cells, ints o, p, .bool false, f]), .v (.int .i64 x)] (.bool (plc c d o x)) := by
  have hfl := hc.fr
  have htl := hc.to
  have hdl := hd.fr
  refine ret_fn Go.Proofs.Try.func170 ok_impl_search_placed rfl (show 2 < 500 by decide) rfl ?_; unfold c_impl_search_placed tr_impl_search_placed rs_impl_search_placed; simp only [go_sem, Nat.reduceLT, Nat.reduceAdd, Nat.reduceSub, ↓reduceIte]
  refine loop_set [3, 4, 5] (fun (i : Nat) => [(7, .int .i64 i)]) (fun i => i ≤ c.fr.length ∧ allB i (plB c d o x) = true) (fun i => c.fr.length - i) 0 (by simp only [go_sem, Nat.reduceLT, ↓reduceIte]; rfl) ⟨Nat.zero_le _, rfl⟩ rfl ?_
  rintro i ⟨hi, hb⟩
  simp only [go_sem, Nat.reduceLT, Nat.reduceAdd, Nat.reduceSub, ↓reduceIte]
  have step : i < c.fr.length → plB c d o x i = true → ∃ x', (x' ≤ c.fr.length ∧ allB x' (plB c d o x) = true) ∧ c.fr.length - x' < c.fr.length - i ∧ IntKind.i64.wrap ((i : Int) + 1) = (x' : Int) := fun h hh => ⟨i + 1, ⟨by omega, allB_succ hb hh⟩, by omega, wrap_lt h (by simp only [maxLen]; omega)⟩
  have hpl : ∀ b, plB c d o x i = b ↔ ((decide (x < c.fr.getD i 0) || decide (x < c.to.getD i 0) || c.fr.getD i 0 != x && c.to.getD i 0 != x) || !decide (((d.hom (o.getD (c.fr.getD i 0).toNat 0) (o.getD (c.to.getD i 0).toNat 0)).length : Int) < 1)) = b := fun b => Iff.rfl
  refine ⟨fun h => ⟨h, by omega, fun h3 => by simpa using h3, fun h3 => ⟨h3, fun h4 => by rw [h3, h4]; rfl⟩, fun h3 => ?_, fun h3 => ?_, fun h3 => ?_⟩, fun h => ?_⟩
  · rw [← Bool.not_or, h3]; rfl
  · obtain ⟨x', e1, e2, e3⟩ := step h ((hpl _).2 (by rw [h3]; rfl))
    exact ⟨x', e1, e2, by rw [e3]⟩
  · have hf1 := mapB_get hc.frm h
    have ht1 := mapB_get hc.tom (show i < c.to.length by omega)
    refine ⟨⟨hf1.1, by omega⟩, ⟨ht1.1, by omega⟩, call_of (ret_impl_Category_hom d _ _ (by omega) hd.to) rfl (.inl (nv_ints _)) ?_⟩
    simp only [go_sem, Nat.reduceLT, Nat.reduceAdd, Nat.reduceSub, ↓reduceIte]
    refine call_of (ret_impl_search_need c d _ _ _ _ f) rfl (.inl rfl) ?_
    simp only [go_sem, Nat.reduceLT, Nat.reduceAdd, Nat.reduceSub, ↓reduceIte]
    refine ⟨fun h4 => ?_, fun h4 => ?_⟩
    · exact (allB_stop h ((hpl _).2 (by rw [h3]; simpa using h4))).symm
    · obtain ⟨x', e1, e2, e3⟩ := step h ((hpl _).2 (by rw [h3]; simpa using h4))
      exact ⟨x', e1, e2, by rw [e3]⟩
  · rw [show i = c.fr.length by omega] at hb; exact hb.symm
end Go.D3
