/- CONTRACTS: shapes. -/
import Derived.Test.YtclmdejmogmifaaM1
namespace Go.D3
open Go
set_option maxRecDepth 100000
-- spec.IsShape
def c_spec_IsShape : C :=
  (.seq (.ops [2] [⟨none, .boxv 5 (.v 0)⟩,
    ⟨none, .asg 1 (.k (.bool false))⟩] [(2, 0)])
  (.seq (.ops [] [⟨none, .fA 1 (.v 2)⟩,
    ⟨none, .ld (.t 0)⟩,
    ⟨none, .len (.t 1)⟩,
    ⟨none, .asg 3 (.t 2)⟩] [])
  (.seq (.opc [] [⟨none, .fA 0 (.v 2)⟩,
    ⟨none, .ld (.t 0)⟩,
    ⟨none, .call 140 [(.t 1), (.i 0), (.i 8)]⟩,
    ⟨none, .not (.t 2)⟩,
    ⟨none, .mv (.t 3)⟩,
    ⟨some (4, false), .mv (.v 3)⟩,
    ⟨some (4, false), .bin .gtr (.t 5) (.i 40)⟩,
    ⟨none, .pick (.t 4) (.k (.bool true)) (.t 6)⟩,
    ⟨none, .mv (.t 7)⟩,
    ⟨some (8, false), .fA 1 (.v 2)⟩,
    ⟨some (8, false), .ld (.t 9)⟩,
    ⟨some (8, false), .mv (.v 3)⟩,
    ⟨some (8, false), .fA 0 (.v 2)⟩,
    ⟨some (8, false), .ld (.t 12)⟩,
    ⟨some (8, false), .call 141 [(.t 10), (.t 11), (.t 13)]⟩,
    ⟨some (8, false), .not (.t 14)⟩,
    ⟨none, .pick (.t 8) (.k (.bool true)) (.t 15)⟩,
    ⟨none, .mv (.t 16)⟩,
    ⟨some (17, false), .fA 2 (.v 2)⟩,
    ⟨some (17, false), .ld (.t 18)⟩,
    ⟨some (17, false), .mv (.v 3)⟩,
    ⟨some (17, false), .fA 0 (.v 2)⟩,
    ⟨some (17, false), .ld (.t 21)⟩,
    ⟨some (17, false), .call 141 [(.t 19), (.t 20), (.t 22)]⟩,
    ⟨some (17, false), .not (.t 23)⟩,
    ⟨none, .pick (.t 17) (.k (.bool true)) (.t 24)⟩,
    ⟨none, .mv (.t 25)⟩,
    ⟨some (26, false), .fA 4 (.v 2)⟩,
    ⟨some (26, false), .ld (.t 27)⟩,
    ⟨some (26, false), .len (.t 28)⟩,
    ⟨some (26, false), .mv (.v 3)⟩,
    ⟨some (26, false), .bin .neq (.t 29) (.t 30)⟩,
    ⟨none, .pick (.t 26) (.k (.bool true)) (.t 31)⟩] [] (.t 32) (.seq (.ops [] [⟨none, .asg 1 (.k (.bool false))⟩] [])
  .ret)
  .skip)
  (.seq (.opc [] [⟨none, .fA 3 (.v 2)⟩,
    ⟨none, .ld (.t 0)⟩,
    ⟨none, .len (.t 1)⟩,
    ⟨none, .fA 0 (.v 2)⟩,
    ⟨none, .ld (.t 3)⟩,
    ⟨none, .bin .neq (.t 2) (.t 4)⟩,
    ⟨none, .mv (.t 5)⟩,
    ⟨some (6, false), .mv (.v 3)⟩,
    ⟨some (6, false), .fA 3 (.v 2)⟩,
    ⟨some (6, false), .ld (.t 8)⟩,
    ⟨some (6, false), .call 142 [(.t 7), (.t 9)]⟩,
    ⟨some (6, false), .not (.t 10)⟩,
    ⟨none, .pick (.t 6) (.k (.bool true)) (.t 11)⟩] [] (.t 12) (.seq (.ops [] [⟨none, .asg 1 (.k (.bool false))⟩] [])
  .ret)
  .skip)
  (.seq (.seq (.ops [] [⟨none, .asg 4 (.i 0)⟩] [])
  (.block 0 (.loop (.seq (.opc [] [⟨none, .mv (.v 4)⟩,
    ⟨none, .fA 0 (.v 2)⟩,
    ⟨none, .ld (.t 1)⟩,
    ⟨none, .bin .lss (.t 0) (.t 2)⟩] [] (.t 3) .skip
  (.exit 0))
  (.seq (.block 1 (.opc [] [⟨none, .fA 1 (.v 2)⟩,
    ⟨none, .ld (.t 0)⟩,
    ⟨none, .fA 3 (.v 2)⟩,
    ⟨none, .ld (.t 2)⟩,
    ⟨none, .mv (.v 4)⟩,
    ⟨none, .idxA 1 (.t 3) (.t 4)⟩,
    ⟨none, .ld (.t 5)⟩,
    ⟨none, .idxA 1 (.t 1) (.t 6)⟩,
    ⟨none, .ld (.t 7)⟩,
    ⟨none, .mv (.v 4)⟩,
    ⟨none, .bin .neq (.t 8) (.t 9)⟩,
    ⟨none, .mv (.t 10)⟩,
    ⟨some (11, false), .fA 2 (.v 2)⟩,
    ⟨some (11, false), .ld (.t 12)⟩,
    ⟨some (11, false), .fA 3 (.v 2)⟩,
    ⟨some (11, false), .ld (.t 14)⟩,
    ⟨some (11, false), .mv (.v 4)⟩,
    ⟨some (11, false), .idxA 1 (.t 15) (.t 16)⟩,
    ⟨some (11, false), .ld (.t 17)⟩,
    ⟨some (11, false), .idxA 1 (.t 13) (.t 18)⟩,
    ⟨some (11, false), .ld (.t 19)⟩,
    ⟨some (11, false), .mv (.v 4)⟩,
    ⟨some (11, false), .bin .neq (.t 20) (.t 21)⟩,
    ⟨none, .pick (.t 11) (.k (.bool true)) (.t 22)⟩] [] (.t 23) (.seq (.ops [] [⟨none, .asg 1 (.k (.bool false))⟩] [])
  .ret)
  .skip))
  (.ops [] [⟨none, .mv (.v 4)⟩,
    ⟨none, .bin .add (.t 0) (.i 1)⟩,
    ⟨none, .asg 4 (.t 1)⟩] []))))))
  (.seq (.seq (.ops [] [⟨none, .asg 5 (.i 0)⟩] [])
  (.block 2 (.loop (.seq (.opc [] [⟨none, .mv (.v 5)⟩,
    ⟨none, .mv (.v 3)⟩,
    ⟨none, .bin .lss (.t 0) (.t 1)⟩] [] (.t 2) .skip
  (.exit 2))
  (.seq (.block 3 (.seq (.opc [] [⟨none, .fA 4 (.v 2)⟩,
    ⟨none, .ld (.t 0)⟩,
    ⟨none, .mv (.v 5)⟩,
    ⟨none, .idxA 1 (.t 1) (.t 2)⟩,
    ⟨none, .ld (.t 3)⟩,
    ⟨none, .len (.t 4)⟩,
    ⟨none, .mv (.v 3)⟩,
    ⟨none, .bin .neq (.t 5) (.t 6)⟩] [] (.t 7) (.seq (.ops [] [⟨none, .asg 1 (.k (.bool false))⟩] [])
  .ret)
  .skip)
  (.seq (.ops [] [⟨none, .asg 6 (.i 0)⟩] [])
  (.block 4 (.loop (.seq (.opc [] [⟨none, .mv (.v 6)⟩,
    ⟨none, .mv (.v 3)⟩,
    ⟨none, .bin .lss (.t 0) (.t 1)⟩] [] (.t 2) .skip
  (.exit 4))
  (.seq (.block 5 (.seq (.ops [] [⟨none, .fA 4 (.v 2)⟩,
    ⟨none, .ld (.t 0)⟩,
    ⟨none, .mv (.v 5)⟩,
    ⟨none, .idxA 1 (.t 1) (.t 2)⟩,
    ⟨none, .ld (.t 3)⟩,
    ⟨none, .mv (.v 6)⟩,
    ⟨none, .idxA 1 (.t 4) (.t 5)⟩,
    ⟨none, .ld (.t 6)⟩,
    ⟨none, .asg 7 (.t 7)⟩] [])
  (.seq (.opc [] [⟨none, .fA 2 (.v 2)⟩,
    ⟨none, .ld (.t 0)⟩,
    ⟨none, .mv (.v 5)⟩,
    ⟨none, .idxA 1 (.t 1) (.t 2)⟩,
    ⟨none, .ld (.t 3)⟩,
    ⟨none, .fA 1 (.v 2)⟩,
    ⟨none, .ld (.t 5)⟩,
    ⟨none, .mv (.v 6)⟩,
    ⟨none, .idxA 1 (.t 6) (.t 7)⟩,
    ⟨none, .ld (.t 8)⟩,
    ⟨none, .bin .neq (.t 4) (.t 9)⟩] [] (.t 10) (.seq (.opc [] [⟨none, .mv (.v 7)⟩,
    ⟨none, .bin .neq (.t 0) (.i (-1))⟩] [] (.t 1) (.seq (.ops [] [⟨none, .asg 1 (.k (.bool false))⟩] [])
  .ret)
  .skip)
  (.exit 5))
  .skip)
  (.opc [] [⟨none, .mv (.v 7)⟩,
    ⟨none, .bin .lss (.t 0) (.i 0)⟩,
    ⟨none, .mv (.t 1)⟩,
    ⟨some (2, false), .mv (.v 7)⟩,
    ⟨some (2, false), .mv (.v 3)⟩,
    ⟨some (2, false), .bin .geq (.t 3) (.t 4)⟩,
    ⟨none, .pick (.t 2) (.k (.bool true)) (.t 5)⟩,
    ⟨none, .mv (.t 6)⟩,
    ⟨some (7, false), .fA 1 (.v 2)⟩,
    ⟨some (7, false), .ld (.t 8)⟩,
    ⟨some (7, false), .mv (.v 7)⟩,
    ⟨some (7, false), .idxA 1 (.t 9) (.t 10)⟩,
    ⟨some (7, false), .ld (.t 11)⟩,
    ⟨some (7, false), .fA 1 (.v 2)⟩,
    ⟨some (7, false), .ld (.t 13)⟩,
    ⟨some (7, false), .mv (.v 5)⟩,
    ⟨some (7, false), .idxA 1 (.t 14) (.t 15)⟩,
    ⟨some (7, false), .ld (.t 16)⟩,
    ⟨some (7, false), .bin .neq (.t 12) (.t 17)⟩,
    ⟨none, .pick (.t 7) (.k (.bool true)) (.t 18)⟩,
    ⟨none, .mv (.t 19)⟩,
    ⟨some (20, false), .fA 2 (.v 2)⟩,
    ⟨some (20, false), .ld (.t 21)⟩,
    ⟨some (20, false), .mv (.v 7)⟩,
    ⟨some (20, false), .idxA 1 (.t 22) (.t 23)⟩,
    ⟨some (20, false), .ld (.t 24)⟩,
    ⟨some (20, false), .fA 2 (.v 2)⟩,
    ⟨some (20, false), .ld (.t 26)⟩,
    ⟨some (20, false), .mv (.v 6)⟩,
    ⟨some (20, false), .idxA 1 (.t 27) (.t 28)⟩,
    ⟨some (20, false), .ld (.t 29)⟩,
    ⟨some (20, false), .bin .neq (.t 25) (.t 30)⟩,
    ⟨none, .pick (.t 20) (.k (.bool true)) (.t 31)⟩] [] (.t 32) (.seq (.ops [] [⟨none, .asg 1 (.k (.bool false))⟩] [])
  .ret)
  .skip))))
  (.ops [] [⟨none, .mv (.v 6)⟩,
    ⟨none, .bin .add (.t 0) (.i 1)⟩,
    ⟨none, .asg 6 (.t 1)⟩] []))))))))
  (.ops [] [⟨none, .mv (.v 5)⟩,
    ⟨none, .bin .add (.t 0) (.i 1)⟩,
    ⟨none, .asg 5 (.t 1)⟩] []))))))
  (.seq (.ops [] [⟨none, .asg 1 (.k (.bool true))⟩] [])
  .ret)))))))
def tr_spec_IsShape : List Nat := [0, 2, 1, 3, 4, 5, 6, 7]
def rs_spec_IsShape : List RS := [.t 1]
theorem ok_spec_IsShape : fnOk Go.Proofs.Try.prog Go.Proofs.Try.f95 tr_spec_IsShape c_spec_IsShape 1 rs_spec_IsShape = true := by decide +kernel

theorem ret_spec_IsShape (c : Cat) : Ret Go.Proofs.Try.prog 95 [.v c.d] (.bool c.shapeB) := by
  refine ret_fn Go.Proofs.Try.func95 ok_spec_IsShape rfl (show 1 < 500 by decide) rfl ?_
  unfold c_spec_IsShape tr_spec_IsShape rs_spec_IsShape
  simp only [go_sem, Nat.reduceLT, Nat.reduceAdd, Nat.reduceSub, Nat.reduceEqDiff, Nat.reduceBEq, Nat.reduceLeDiff, ↓reduceIte]
  refine call_of (ret_spec_l01In _ _ _) rfl (.inl rfl) ?_
  simp only [go_sem, Nat.reduceLT, Nat.reduceAdd, Nat.reduceSub, Nat.reduceEqDiff, Nat.reduceBEq, Nat.reduceLeDiff, ↓reduceIte]
  refine ⟨fun h => by simpa using h, ?_⟩
  refine callg_of (fun h => ret_spec_l02Ends c.fr c.fr.length c.ob) rfl (fun h => by simpa using h) (.inl rfl) ?_
  simp only [go_sem, Nat.reduceLT, Nat.reduceAdd, Nat.reduceSub, Nat.reduceEqDiff, Nat.reduceBEq, Nat.reduceLeDiff, ↓reduceIte]
  refine ⟨fun h => by simp_all, ?_⟩
  refine callg_of (fun h => ret_spec_l02Ends c.to c.fr.length c.ob) rfl (fun h => by simpa using h) (.inl rfl) ?_
  simp only [go_sem, Nat.reduceLT, Nat.reduceAdd, Nat.reduceSub, Nat.reduceEqDiff, Nat.reduceBEq, Nat.reduceLeDiff, ↓reduceIte]
  refine ⟨fun h => by simp_all, fun h => by simp_all, fun h => ?_, fun h => ?_⟩
  · symm; refine Cat.not_shape fun hp => ?_
    have h1 : inR c.ob 0 8 = true := by simp [inR, hp.ob0, hp.ob8]
    have h2 := hp.fr
    simp [h1, hp.frm, hp.to, hp.tom, hp.co] at h
    omega
  refine callg_of (fun h => ret_spec_l01Map c.fr.length c.idn) rfl (fun h => by simpa using h) (.inl rfl) ?_
  simp only [go_sem, Nat.reduceLT, Nat.reduceAdd, Nat.reduceSub, Nat.reduceEqDiff, Nat.reduceBEq, Nat.reduceLeDiff, ↓reduceIte]
  refine ⟨fun h => by simp_all, fun h2 => ?_, fun h2 => ?_⟩
  · symm; refine Cat.not_shape fun hp => ?_
    simp [hp.idn, hp.idm] at h2
  have hp : c.Pre := by
    simp only [Bool.or_eq_false_iff, Bool.not_eq_false', bne_eq_false_iff_eq, decide_eq_false_iff_not, inR, Bool.and_eq_true, decide_eq_true_eq, beq_iff_eq] at h h2
    obtain ⟨⟨⟨⟨h1, h3⟩, h4⟩, h5⟩, h6⟩ := h
    exact ⟨h1.1, h1.2, by omega, h4.2, by omega, h5.2, by omega, h2.1, h2.2⟩
  clear h h2
  refine loop_set [] (fun (x : Nat) => [(4, .int .i64 x)]) (fun x => x ≤ c.idn.length ∧ allB x c.idB = true) (fun x => c.idn.length - x) 0 rfl ⟨Nat.zero_le _, rfl⟩ rfl ?_
  rintro x ⟨hx, ha⟩
  simp only [go_sem, Nat.reduceLT, Nat.reduceAdd, Nat.reduceSub, Nat.reduceEqDiff, Nat.reduceBEq, Nat.reduceLeDiff, ↓reduceIte]
  have hob := hp.idn
  refine ⟨fun h => ?_, fun h => ?_⟩
  · have hx' : x < c.idn.length := by omega
    have hid := hp.idx hx'
    have hto := hp.to
    refine ⟨hx', hid, fun h => ⟨h, hx'⟩, fun h => ⟨h, hid.1, by omega⟩, fun h => by simpa using h, fun h => ?_, fun h => ?_⟩
    · exact (Cat.not_id hx' (by simp only [Cat.idB]; rw [Bool.or_eq_true, bne_iff_ne, bne_iff_ne] at h; rw [Bool.and_eq_false_iff, beq_eq_false_iff_ne, beq_eq_false_iff_ne]; exact h)).symm
    · exact ⟨x + 1, ⟨by omega, allB_succ ha (by simpa [Cat.idB] using h)⟩, by omega, by rw [wrap_lt hx' (by have := hp.idl; simp only [maxLen]; omega)]⟩
  have hx' : x = c.idn.length := by omega
  subst hx'
  have hm := hp.fr
  have hco := hp.co
  have hto := hp.to
  refine loop_set [6, 7] (fun (f : Nat) => [(5, .int .i64 f)]) (fun f => f ≤ c.fr.length ∧ allB f c.rowB = true) (fun f => c.fr.length - f) 0 rfl ⟨Nat.zero_le _, rfl⟩ rfl ?_
  rintro f ⟨hf, hb⟩
  simp only [go_sem, Nat.reduceLT, Nat.reduceAdd, Nat.reduceSub, Nat.reduceEqDiff, Nat.reduceBEq, Nat.reduceLeDiff, ↓reduceIte]
  refine ⟨fun hfl => ⟨by omega, fun h2 => ?_, fun h2 => ?_⟩, fun h => ?_⟩
  · exact (Cat.not_row hfl (by simp only [Cat.rowB]; rw [Bool.and_eq_false_iff]; left; simpa using h2)).symm
  · refine loop_set [7] (fun (g : Nat) => [(6, .int .i64 g)]) (fun g => g ≤ c.fr.length ∧ allB g (c.cellB f) = true) (fun g => c.fr.length - g) 0 rfl ⟨Nat.zero_le _, rfl⟩ rfl ?_
    rintro g ⟨hg, hc⟩
    simp only [go_sem, Nat.reduceLT, Nat.reduceAdd, Nat.reduceSub, Nat.reduceEqDiff, Nat.reduceBEq, Nat.reduceLeDiff, ↓reduceIte]
    have hrow : (c.co.getD f []).length = c.fr.length := by
      rw [bne_eq_false_iff_eq] at h2; omega
    have hcb : c.cellB f g = if c.to.getD f 0 != c.fr.getD g 0 then (c.co.getD f []).getD g 0 == -1
      else decide (0 ≤ (c.co.getD f []).getD g 0) && decide ((c.co.getD f []).getD g 0 < c.fr.length) && (c.fr.getD ((c.co.getD f []).getD g 0).toNat 0 == c.fr.getD f 0) && (c.to.getD ((c.co.getD f []).getD g 0).toNat 0 == c.to.getD g 0) := rfl
    generalize (c.co.getD f []).getD g 0 = h at hcb
    refine ⟨fun hgl => ?_, fun hgl => ?_⟩
    · have step : c.cellB f g = true → ∃ x', (x' ≤ c.fr.length ∧ allB x' (c.cellB f) = true) ∧ c.fr.length - x' < c.fr.length - g ∧ IntKind.i64.wrap ((g : Int) + 1) = (x' : Int) := fun hh => ⟨g + 1, ⟨by omega, allB_succ hc hh⟩, by omega, wrap_lt hgl (by simp only [maxLen]; omega)⟩
      refine ⟨by omega, by omega, by omega, hgl, fun h3 => ⟨fun h4 => ?_, fun h4 => ?_⟩, fun h3 => ⟨fun h4 => by simp_all, fun h4 => ⟨h4, by simp at h4; omega⟩, fun h4 => ⟨h4, by omega⟩, fun h4 => by simpa only [← Bool.not_or, Bool.not_eq_true'] using h4, fun h4 => ⟨h4, by simp at h4; omega⟩, fun h4 => ⟨h4, by omega⟩, fun h4 => by simpa only [← Bool.not_or, Bool.not_eq_true'] using h4, fun h4 => ?_, fun h4 => ?_⟩⟩
      · exact (Cat.not_cell hfl hgl (by rw [hcb, if_pos h3]; simpa using h4)).symm
      · obtain ⟨x', e1, e2, e3⟩ := step (by rw [hcb, if_pos h3]; simpa using h4)
        exact ⟨x', e1, e2, by rw [e3]⟩
      · refine (Cat.not_cell hfl hgl ?_).symm
        rw [hcb, if_neg (by rw [h3]; decide)]
        simp only [Bool.or_eq_true, decide_eq_true_eq, bne_iff_ne] at h4
        simp only [Bool.and_eq_false_iff, decide_eq_false_iff_not, beq_eq_false_iff_ne]
        omega
      · obtain ⟨x', e1, e2, e3⟩ := step (by
          rw [hcb, if_neg (by rw [h3]; decide)]
          simp only [Bool.or_eq_false_iff, decide_eq_false_iff_not, bne_eq_false_iff_eq] at h4
          simp only [Bool.and_eq_true, decide_eq_true_eq, beq_iff_eq]
          omega)
        exact ⟨x', e1, e2, by rw [e3]⟩
    · have : g = c.fr.length := by omega
      subst this
      refine ⟨f + 1, ⟨by omega, allB_succ hb (by simp only [Cat.rowB]; rw [hc, hrow]; simp)⟩, by omega, by rw [wrap_lt hfl (by simp only [maxLen]; omega)]⟩
  · have : f = c.fr.length := by omega
    subst this
    exact (Cat.is_shape hp ha hb).symm
end Go.D3
