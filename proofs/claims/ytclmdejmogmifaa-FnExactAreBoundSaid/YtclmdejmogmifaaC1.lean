/- CONTRACTS: impl's shape. -/
import Derived.Test.YtclmdejmogmifaaM1
namespace Go.D3
open Go
set_option maxRecDepth 100000
set_option maxHeartbeats 4000000
-- (*impl.Category).isShape
def c_impl_Category_isShape : C :=
  (.seq (.ops [] [⟨none, .asg 1 (.k (.bool false))⟩] [])
  (.seq (.ops [] [⟨none, .mv (.v 0)⟩,
    ⟨none, .call 111 [(.t 0)]⟩,
    ⟨none, .asg 2 (.t 1)⟩] [])
  (.seq (.opc [] [⟨none, .mv (.v 0)⟩,
    ⟨none, .nck (.t 0)⟩,
    ⟨none, .fA 0 (.t 1)⟩,
    ⟨none, .ld (.t 2)⟩,
    ⟨none, .call 144 [(.t 3), (.i 0), (.i 8)]⟩,
    ⟨none, .not (.t 4)⟩,
    ⟨none, .mv (.t 5)⟩,
    ⟨some (6, false), .mv (.v 2)⟩,
    ⟨some (6, false), .bin .gtr (.t 7) (.i 40)⟩,
    ⟨none, .pick (.t 6) (.k (.bool true)) (.t 8)⟩,
    ⟨none, .mv (.t 9)⟩,
    ⟨some (10, false), .mv (.v 0)⟩,
    ⟨some (10, false), .nck (.t 11)⟩,
    ⟨some (10, false), .fA 2 (.t 12)⟩,
    ⟨some (10, false), .ld (.t 13)⟩,
    ⟨some (10, false), .len (.t 14)⟩,
    ⟨some (10, false), .mv (.v 2)⟩,
    ⟨some (10, false), .bin .neq (.t 15) (.t 16)⟩,
    ⟨none, .pick (.t 10) (.k (.bool true)) (.t 17)⟩,
    ⟨none, .mv (.t 18)⟩,
    ⟨some (19, false), .mv (.v 0)⟩,
    ⟨some (19, false), .nck (.t 20)⟩,
    ⟨some (19, false), .fA 1 (.t 21)⟩,
    ⟨some (19, false), .ld (.t 22)⟩,
    ⟨some (19, false), .mv (.v 0)⟩,
    ⟨some (19, false), .nck (.t 24)⟩,
    ⟨some (19, false), .fA 0 (.t 25)⟩,
    ⟨some (19, false), .ld (.t 26)⟩,
    ⟨some (19, false), .call 100 [(.t 23), (.t 27)]⟩,
    ⟨some (19, false), .not (.t 28)⟩,
    ⟨none, .pick (.t 19) (.k (.bool true)) (.t 29)⟩,
    ⟨none, .mv (.t 30)⟩,
    ⟨some (31, false), .mv (.v 0)⟩,
    ⟨some (31, false), .nck (.t 32)⟩,
    ⟨some (31, false), .fA 2 (.t 33)⟩,
    ⟨some (31, false), .ld (.t 34)⟩,
    ⟨some (31, false), .mv (.v 0)⟩,
    ⟨some (31, false), .nck (.t 36)⟩,
    ⟨some (31, false), .fA 0 (.t 37)⟩,
    ⟨some (31, false), .ld (.t 38)⟩,
    ⟨some (31, false), .call 100 [(.t 35), (.t 39)]⟩,
    ⟨some (31, false), .not (.t 40)⟩,
    ⟨none, .pick (.t 31) (.k (.bool true)) (.t 41)⟩] [] (.t 42) (.seq (.ops [] [⟨none, .asg 1 (.k (.bool false))⟩] [])
  .ret)
  .skip)
  (.seq (.opc [] [⟨none, .mv (.v 0)⟩,
    ⟨none, .nck (.t 0)⟩,
    ⟨none, .fA 3 (.t 1)⟩,
    ⟨none, .ld (.t 2)⟩,
    ⟨none, .len (.t 3)⟩,
    ⟨none, .mv (.v 0)⟩,
    ⟨none, .nck (.t 5)⟩,
    ⟨none, .fA 0 (.t 6)⟩,
    ⟨none, .ld (.t 7)⟩,
    ⟨none, .bin .neq (.t 4) (.t 8)⟩,
    ⟨none, .mv (.t 9)⟩,
    ⟨some (10, false), .mv (.v 0)⟩,
    ⟨some (10, false), .nck (.t 11)⟩,
    ⟨some (10, false), .fA 3 (.t 12)⟩,
    ⟨some (10, false), .ld (.t 13)⟩,
    ⟨some (10, false), .mv (.v 2)⟩,
    ⟨some (10, false), .call 100 [(.t 14), (.t 15)]⟩,
    ⟨some (10, false), .not (.t 16)⟩,
    ⟨none, .pick (.t 10) (.k (.bool true)) (.t 17)⟩,
    ⟨none, .mv (.t 18)⟩,
    ⟨some (19, false), .mv (.v 0)⟩,
    ⟨some (19, false), .nck (.t 20)⟩,
    ⟨some (19, false), .fA 4 (.t 21)⟩,
    ⟨some (19, false), .ld (.t 22)⟩,
    ⟨some (19, false), .len (.t 23)⟩,
    ⟨some (19, false), .mv (.v 2)⟩,
    ⟨some (19, false), .bin .neq (.t 24) (.t 25)⟩,
    ⟨none, .pick (.t 19) (.k (.bool true)) (.t 26)⟩] [] (.t 27) (.seq (.ops [] [⟨none, .asg 1 (.k (.bool false))⟩] [])
  .ret)
  .skip)
  (.seq (.seq (.ops [9, 10] [⟨none, .mv (.v 0)⟩,
    ⟨none, .nck (.t 0)⟩,
    ⟨none, .fA 3 (.t 1)⟩,
    ⟨none, .ld (.t 2)⟩,
    ⟨none, .len (.t 3)⟩,
    ⟨none, .asg 11 (.i 0)⟩] [(9, 3), (10, 4)])
  (.block 0 (.loop (.opq [] [⟨none, .bin .lss (.v 11) (.v 10)⟩] [] (.t 0) .skip
  (.exit 0)
  (.seq (.block 1 (.seq (.ops [] [⟨none, .mv (.v 11)⟩,
    ⟨none, .idxA 1 (.v 9) (.v 11)⟩,
    ⟨none, .ld (.t 1)⟩,
    ⟨none, .asg 3 (.t 0)⟩,
    ⟨none, .asg 4 (.t 2)⟩] [])
  (.opc [] [⟨none, .mv (.v 0)⟩,
    ⟨none, .mv (.v 4)⟩,
    ⟨none, .call 155 [(.t 0), (.t 1)]⟩,
    ⟨none, .mv (.v 3)⟩,
    ⟨none, .mv (.v 3)⟩,
    ⟨none, .bld [.int .i64 0, .int .i64 0] [(0, 1, (.t 3)), (1, 1, (.t 4))]⟩,
    ⟨none, .eqs true [0, 0] (.t 2) (.t 5)⟩] [] (.t 6) (.seq (.ops [] [⟨none, .asg 1 (.k (.bool false))⟩] [])
  .ret)
  .skip)))
  (.ops [] [⟨none, .bin .add (.v 11) (.i 1)⟩,
    ⟨none, .asg 11 (.t 0)⟩] []))))))
  (.seq (.seq (.ops [12, 13] [⟨none, .mv (.v 0)⟩,
    ⟨none, .nck (.t 0)⟩,
    ⟨none, .fA 4 (.t 1)⟩,
    ⟨none, .ld (.t 2)⟩,
    ⟨none, .len (.t 3)⟩,
    ⟨none, .asg 14 (.i 0)⟩] [(12, 3), (13, 4)])
  (.block 2 (.loop (.opq [] [⟨none, .bin .lss (.v 14) (.v 13)⟩] [] (.t 0) .skip
  (.exit 2)
  (.seq (.block 3 (.seq (.ops [] [⟨none, .mv (.v 14)⟩,
    ⟨none, .idxA 1 (.v 12) (.v 14)⟩,
    ⟨none, .ld (.t 1)⟩,
    ⟨none, .asg 5 (.t 0)⟩,
    ⟨none, .asg 6 (.t 2)⟩] [])
  (.seq (.opc [] [⟨none, .mv (.v 6)⟩,
    ⟨none, .len (.t 0)⟩,
    ⟨none, .mv (.v 2)⟩,
    ⟨none, .bin .neq (.t 1) (.t 2)⟩] [] (.t 3) (.seq (.ops [] [⟨none, .asg 1 (.k (.bool false))⟩] [])
  .ret)
  .skip)
  (.seq (.ops [16] [⟨none, .asg 15 (.v 6)⟩,
    ⟨none, .len (.v 15)⟩,
    ⟨none, .asg 17 (.i 0)⟩] [(16, 1)])
  (.block 4 (.loop (.opq [] [⟨none, .bin .lss (.v 17) (.v 16)⟩] [] (.t 0) .skip
  (.exit 4)
  (.seq (.block 5 (.seq (.ops [] [⟨none, .mv (.v 17)⟩,
    ⟨none, .idxA 1 (.v 15) (.v 17)⟩,
    ⟨none, .ld (.t 1)⟩,
    ⟨none, .asg 7 (.t 0)⟩,
    ⟨none, .asg 8 (.t 2)⟩] [])
  (.seq (.opc [] [⟨none, .mv (.v 0)⟩,
    ⟨none, .nck (.t 0)⟩,
    ⟨none, .fA 2 (.t 1)⟩,
    ⟨none, .ld (.t 2)⟩,
    ⟨none, .mv (.v 5)⟩,
    ⟨none, .idxA 1 (.t 3) (.t 4)⟩,
    ⟨none, .ld (.t 5)⟩,
    ⟨none, .mv (.v 0)⟩,
    ⟨none, .nck (.t 7)⟩,
    ⟨none, .fA 1 (.t 8)⟩,
    ⟨none, .ld (.t 9)⟩,
    ⟨none, .mv (.v 7)⟩,
    ⟨none, .idxA 1 (.t 10) (.t 11)⟩,
    ⟨none, .ld (.t 12)⟩,
    ⟨none, .bin .neq (.t 6) (.t 13)⟩] [] (.t 14) (.seq (.opc [] [⟨none, .mv (.v 8)⟩,
    ⟨none, .bin .neq (.t 0) (.i (-1))⟩] [] (.t 1) (.seq (.ops [] [⟨none, .asg 1 (.k (.bool false))⟩] [])
  .ret)
  .skip)
  (.exit 5))
  .skip)
  (.opc [] [⟨none, .mv (.v 8)⟩,
    ⟨none, .mv (.v 2)⟩,
    ⟨none, .bin .sub (.t 1) (.i 1)⟩,
    ⟨none, .call 144 [(.t 0), (.i 0), (.t 2)]⟩,
    ⟨none, .not (.t 3)⟩,
    ⟨none, .mv (.t 4)⟩,
    ⟨some (5, false), .mv (.v 0)⟩,
    ⟨some (5, false), .mv (.v 8)⟩,
    ⟨some (5, false), .call 155 [(.t 6), (.t 7)]⟩,
    ⟨some (5, false), .mv (.v 0)⟩,
    ⟨some (5, false), .nck (.t 9)⟩,
    ⟨some (5, false), .fA 1 (.t 10)⟩,
    ⟨some (5, false), .ld (.t 11)⟩,
    ⟨some (5, false), .mv (.v 5)⟩,
    ⟨some (5, false), .idxA 1 (.t 12) (.t 13)⟩,
    ⟨some (5, false), .ld (.t 14)⟩,
    ⟨some (5, false), .mv (.v 0)⟩,
    ⟨some (5, false), .nck (.t 16)⟩,
    ⟨some (5, false), .fA 2 (.t 17)⟩,
    ⟨some (5, false), .ld (.t 18)⟩,
    ⟨some (5, false), .mv (.v 7)⟩,
    ⟨some (5, false), .idxA 1 (.t 19) (.t 20)⟩,
    ⟨some (5, false), .ld (.t 21)⟩,
    ⟨some (5, false), .bld [.int .i64 0, .int .i64 0] [(0, 1, (.t 15)), (1, 1, (.t 22))]⟩,
    ⟨some (5, false), .eqs true [0, 0] (.t 8) (.t 23)⟩,
    ⟨none, .pick (.t 5) (.k (.bool true)) (.t 24)⟩] [] (.t 25) (.seq (.ops [] [⟨none, .asg 1 (.k (.bool false))⟩] [])
  .ret)
  .skip))))
  (.ops [] [⟨none, .bin .add (.v 17) (.i 1)⟩,
    ⟨none, .asg 17 (.t 0)⟩] [])))))))))
  (.ops [] [⟨none, .bin .add (.v 14) (.i 1)⟩,
    ⟨none, .asg 14 (.t 0)⟩] []))))))
  (.seq (.ops [] [⟨none, .asg 1 (.k (.bool true))⟩] [])
  .ret)))))))
def tr_impl_Category_isShape : List Nat := [0, 2, 3, 4, 5, 6, 7, 8, 9, 86, 87, 88, 104, 105, 106, 115, 116, 117]
def rs_impl_Category_isShape : List RS := [.t 1]
theorem ok_impl_Category_isShape : fnOk Go.Proofs.Try.prog Go.Proofs.Try.f107 tr_impl_Category_isShape c_impl_Category_isShape 1 rs_impl_Category_isShape = true := by decide +kernel

theorem ret_impl_Category_isShape (c : Cat) : Ret Go.Proofs.Try.prog 107 [.v (.ptr c.cells)] (.bool c.shapeB) := by
  refine ret_fn Go.Proofs.Try.func107 ok_impl_Category_isShape rfl (show 1 < 500 by decide) rfl ?_
  unfold c_impl_Category_isShape tr_impl_Category_isShape rs_impl_Category_isShape
  simp only [go_sem, Nat.reduceLT, Nat.reduceAdd, Nat.reduceSub, Nat.reduceEqDiff, Nat.reduceBEq, Nat.reduceLeDiff, ↓reduceIte]
  refine call_of (ret_impl_Category_arrows c) rfl (.inl rfl) ?_
  simp only [go_sem, Nat.reduceLT, Nat.reduceAdd, Nat.reduceSub, Nat.reduceEqDiff, Nat.reduceBEq, Nat.reduceLeDiff, ↓reduceIte]
  refine call_of (ret_impl_inRange _ _ _) rfl (.inl rfl) ?_
  simp only [go_sem, Nat.reduceLT, Nat.reduceAdd, Nat.reduceSub, Nat.reduceEqDiff, Nat.reduceBEq, Nat.reduceLeDiff, ↓reduceIte]
  have ob0 : ∀ x : Bool, (inR c.ob 0 8 && x) = true → 0 ≤ c.ob := fun x h => by
    simp only [inR, Bool.and_eq_true, decide_eq_true_eq] at h; exact h.1.1
  refine ⟨(fun h => by simp only [Bool.or_eq_false_iff, Bool.and_eq_true, Bool.not_eq_true', Bool.not_eq_false'] at h ⊢; exact h), (fun h => by simp only [Bool.or_eq_false_iff, Bool.and_eq_true, Bool.not_eq_true', Bool.not_eq_false'] at h ⊢; exact h), ?_⟩
  refine callg_of (fun h => ret_impl_within c.ob c.fr (ob0 _ (by rw [← Bool.and_assoc]; exact h))) rfl (fun h => h) (.inl rfl) ?_
  simp only [go_sem, Nat.reduceLT, Nat.reduceAdd, Nat.reduceSub, Nat.reduceEqDiff, Nat.reduceBEq, Nat.reduceLeDiff, ↓reduceIte]
  refine ⟨(fun h => by simp only [Bool.or_eq_false_iff, Bool.and_eq_true, Bool.not_eq_true', Bool.not_eq_false'] at h ⊢; exact h), ?_⟩
  refine callg_of (fun h => ret_impl_within c.ob c.to (ob0 _ (by rw [← Bool.and_assoc, ← Bool.and_assoc]; exact h))) rfl (fun h => h) (.inl rfl) ?_
  simp only [go_sem, Nat.reduceLT, Nat.reduceAdd, Nat.reduceSub, Nat.reduceEqDiff, Nat.reduceBEq, Nat.reduceLeDiff, ↓reduceIte]
  refine ⟨(fun h => by simp only [Bool.or_eq_false_iff, Bool.and_eq_true, Bool.not_eq_true', Bool.not_eq_false'] at h ⊢; exact h), fun h => ?_, fun h => ?_⟩
  · symm; refine Cat.not_shape fun hp => ?_
    have h1 : inR c.ob 0 8 = true := by simp [inR, hp.ob0, hp.ob8]
    have h2 := hp.fr
    simp [h1, hp.frm, hp.to, hp.tom] at h
    omega
  refine callg_of (fun h => ret_impl_within c.fr.length c.idn (by omega)) rfl (fun h => h) (.inl rfl) ?_
  simp only [go_sem, Nat.reduceLT, Nat.reduceAdd, Nat.reduceSub, Nat.reduceEqDiff, Nat.reduceBEq, Nat.reduceLeDiff, ↓reduceIte]
  refine ⟨(fun h => by simp only [Bool.or_eq_false_iff, Bool.and_eq_true, Bool.not_eq_true', Bool.not_eq_false'] at h ⊢; exact h), (fun h => by simp only [Bool.or_eq_false_iff, Bool.and_eq_true, Bool.not_eq_true', Bool.not_eq_false'] at h ⊢; exact h), fun h2 => ?_, fun h2 => ?_⟩
  · symm; refine Cat.not_shape fun hp => ?_
    simp [hp.idn, hp.idm, hp.co] at h2
  have hp : c.Pre := by
    simp only [Bool.or_eq_false_iff, Bool.not_eq_false', bne_eq_false_iff_eq, decide_eq_false_iff_not, inR, Bool.and_eq_true, decide_eq_true_eq] at h h2
    obtain ⟨⟨⟨⟨h1, h3⟩, h4⟩, h5⟩, h6⟩ := h
    exact ⟨h1.1, h1.2, by omega, h5, by omega, h6, by omega, h2.1.1, h2.1.2⟩
  clear h h2 ob0
  have hob := hp.idn
  have hm := hp.fr
  have hco := hp.co
  have hto := hp.to
  refine loop_set [3, 4] (fun (x : Nat) => [(11, .int .i64 x)]) (fun x => x ≤ c.idn.length ∧ allB x c.idB = true) (fun x => c.idn.length - x) 0 (by simp only [go_sem, Nat.reduceLT, Nat.reduceAdd, Nat.reduceSub, Nat.reduceEqDiff, Nat.reduceBEq, Nat.reduceLeDiff, ↓reduceIte]; rfl) ⟨Nat.zero_le _, rfl⟩ rfl ?_
  rintro x ⟨hx, ha⟩
  simp only [go_sem, Nat.reduceLT, Nat.reduceAdd, Nat.reduceSub, Nat.reduceEqDiff, Nat.reduceBEq, Nat.reduceLeDiff, ↓reduceIte]
  refine ⟨fun hxl => ⟨hxl, ?_⟩, fun h => ?_⟩
  · have hid := hp.idx hxl
    refine call_of (ret_impl_Category_ends c _ hid.1 hid.2 (by omega)) rfl (.inl rfl) ?_
    simp only [go_sem, Nat.reduceLT, Nat.reduceAdd, Nat.reduceSub, Nat.reduceEqDiff, Nat.reduceBEq, Nat.reduceLeDiff, ↓reduceIte]
    refine ⟨fun h => ?_, fun h => ⟨x + 1, ⟨by omega, allB_succ ha (by rw [Bool.not_eq_false'] at h; exact h)⟩, by omega, by rw [wrap_lt hxl (by have := hp.idl; simp only [maxLen]; omega)]⟩⟩
    exact (Cat.not_id hxl (by rw [Bool.not_eq_true'] at h; exact h)).symm
  have : x = c.idn.length := by omega
  subst this
  refine loop_set [5, 6, 7, 8, 15, 16, 17] (fun (f : Nat) => [(14, .int .i64 f)]) (fun f => f ≤ c.fr.length ∧ allB f c.rowB = true) (fun f => c.fr.length - f) 0 (by simp only [go_sem, Nat.reduceLT, Nat.reduceAdd, Nat.reduceSub, Nat.reduceEqDiff, Nat.reduceBEq, Nat.reduceLeDiff, ↓reduceIte]; rfl) ⟨Nat.zero_le _, rfl⟩ rfl ?_
  rintro f ⟨hf, hb⟩
  simp only [go_sem, Nat.reduceLT, Nat.reduceAdd, Nat.reduceSub, Nat.reduceEqDiff, Nat.reduceBEq, Nat.reduceLeDiff, ↓reduceIte]
  refine ⟨fun hfl' => ⟨hfl', fun h => ?_, fun h => ?_⟩, fun h => ?_⟩
  · exact (Cat.not_row (f := f) (by omega) (by simp only [Cat.rowB]; rw [Bool.and_eq_false_iff]; left; rw [bne_iff_ne] at h; simpa using h)).symm
  · rw [bne_eq_false_iff_eq] at h
    have hrow : (c.co.getD f []).length = c.fr.length := by omega
    refine loop_set [7, 8] (fun (g : Nat) => [(17, .int .i64 g)]) (fun g => g ≤ c.fr.length ∧ allB g (c.cellB f) = true) (fun g => c.fr.length - g) 0 (by simp only [go_sem, Nat.reduceLT, Nat.reduceAdd, Nat.reduceSub, Nat.reduceEqDiff, Nat.reduceBEq, Nat.reduceLeDiff, ↓reduceIte]; rfl) ⟨Nat.zero_le _, rfl⟩ rfl ?_
    rintro g ⟨hg, hc⟩
    simp only [go_sem, Nat.reduceLT, Nat.reduceAdd, Nat.reduceSub, Nat.reduceEqDiff, Nat.reduceBEq, Nat.reduceLeDiff, ↓reduceIte]
    have hcb : c.cellB f g = if c.to.getD f 0 != c.fr.getD g 0 then (c.co.getD f []).getD g 0 == -1
      else decide (0 ≤ (c.co.getD f []).getD g 0) && decide ((c.co.getD f []).getD g 0 < c.fr.length) && (c.fr.getD ((c.co.getD f []).getD g 0).toNat 0 == c.fr.getD f 0) && (c.to.getD ((c.co.getD f []).getD g 0).toNat 0 == c.to.getD g 0) := rfl
    generalize (c.co.getD f []).getD g 0 = h at hcb
    have hfl : f < c.fr.length := by omega
    refine ⟨fun hgl' => ?_, fun hgl => ?_⟩
    · have hgl : g < c.fr.length := by omega
      have step : c.cellB f g = true → ∃ x', (x' ≤ c.fr.length ∧ allB x' (c.cellB f) = true) ∧ c.fr.length - x' < c.fr.length - g ∧ IntKind.i64.wrap ((g : Int) + 1) = (x' : Int) := fun hh => ⟨g + 1, ⟨by omega, allB_succ hc hh⟩, by omega, wrap_lt hgl (by simp only [maxLen]; omega)⟩
      refine ⟨hgl', by omega, hgl, fun h3 => ⟨fun h4 => ?_, fun h4 => ?_⟩, fun h3 => ?_⟩
      · exact (Cat.not_cell hfl hgl (by rw [hcb, if_pos h3]; simpa using h4)).symm
      · obtain ⟨x', e1, e2, e3⟩ := step (by rw [hcb, if_pos h3]; simpa using h4)
        exact ⟨x', e1, e2, by rw [e3]⟩
      · rw [hcb, if_neg (by rw [h3]; decide)] at step
        have nc : ∀ b : Bool, (decide (0 ≤ h) && decide (h < c.fr.length) && (c.fr.getD h.toNat 0 == c.fr.getD f 0) && (c.to.getD h.toNat 0 == c.to.getD g 0)) = b → c.cellB f g = b := fun b hb => by rw [hcb, if_neg (by rw [h3]; decide)]; exact hb
        refine call_of (ret_impl_inRange _ _ _) rfl (.inl rfl) ?_
        simp only [go_sem, Nat.reduceLT, Nat.reduceAdd, Nat.reduceSub, Nat.reduceEqDiff, Nat.reduceBEq, Nat.reduceLeDiff, ↓reduceIte]
        rw [inR_pred (by omega) (by omega)]
        have hr : (decide (0 ≤ h) && decide (h < (c.fr.length : Int))) = true → 0 ≤ h ∧ h < c.fr.length := fun h => by simpa using h
        refine callg_of (fun h4 => ret_impl_Category_ends c h (hr h4).1 (hr h4).2 (by have := (hr h4).2; omega)) rfl (fun h => h) (.inl rfl) ?_
        simp only [go_sem, Nat.reduceLT, Nat.reduceAdd, Nat.reduceSub, Nat.reduceEqDiff, Nat.reduceBEq, Nat.reduceLeDiff, ↓reduceIte]
        refine ⟨fun h4 => ⟨h4, hfl⟩, fun h4 => ⟨h4, by omega⟩, fun h4 => by rw [Bool.not_eq_false'] at h4; exact h4, fun h4 => ?_, fun h4 => ?_⟩
        · refine (Cat.not_cell hfl hgl (nc _ ?_)).symm
          rw [← Bool.not_and, Bool.not_eq_true', ← Bool.and_assoc] at h4; exact h4
        · rw [← Bool.not_and, Bool.not_eq_false', ← Bool.and_assoc] at h4
          obtain ⟨x', e1, e2, e3⟩ := step h4
          exact ⟨x', e1, e2, by rw [e3]⟩
    · have : g = c.fr.length := by omega
      subst this
      refine ⟨f + 1, ⟨by omega, allB_succ hb (by simp only [Cat.rowB]; rw [hc, hrow]; simp)⟩, by omega, by rw [wrap_lt hfl (by simp only [maxLen]; omega)]⟩
  · have : f = c.fr.length := by omega
    subst this
    exact (Cat.is_shape hp ha hb).symm
end Go.D3
