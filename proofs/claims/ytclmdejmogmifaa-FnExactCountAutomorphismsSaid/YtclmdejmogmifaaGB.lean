/- CONTRACTS: impl.AreBound. -/
import Derived.Test.YtclmdejmogmifaaGA
/- CONTRACTS: shapes. -/
namespace Go.D3
open Go
set_option maxRecDepth 100000
-- spec.IsShape
def c_spec_IsShape : C :=
  (.seq (.ops [2] [⟨none, .boxv 5 (.v 0)⟩,
    ⟨none, .asg 1 (.k (.bool false))⟩] [(2, 0)])
  (.seq (.ops [] [⟨none, .fA 1 (.v 2)⟩,
    ⟨none, .ld (.t 0)⟩,
    ⟨none, .len (.t 1)⟩,
    ⟨none, .asg 3 (.t 2)⟩] [])
  (.seq (.opc [] [⟨none, .fA 0 (.v 2)⟩,
    ⟨none, .ld (.t 0)⟩,
    ⟨none, .call 140 [(.t 1), (.i 0), (.i 8)]⟩,
    ⟨none, .not (.t 2)⟩,
    ⟨none, .mv (.t 3)⟩,
    ⟨some (4, false), .mv (.v 3)⟩,
    ⟨some (4, false), .bin .gtr (.t 5) (.i 40)⟩,
    ⟨none, .pick (.t 4) (.k (.bool true)) (.t 6)⟩,
    ⟨none, .mv (.t 7)⟩,
    ⟨some (8, false), .fA 1 (.v 2)⟩,
    ⟨some (8, false), .ld (.t 9)⟩,
    ⟨some (8, false), .mv (.v 3)⟩,
    ⟨some (8, false), .fA 0 (.v 2)⟩,
    ⟨some (8, false), .ld (.t 12)⟩,
    ⟨some (8, false), .call 141 [(.t 10), (.t 11), (.t 13)]⟩,
    ⟨some (8, false), .not (.t 14)⟩,
    ⟨none, .pick (.t 8) (.k (.bool true)) (.t 15)⟩,
    ⟨none, .mv (.t 16)⟩,
    ⟨some (17, false), .fA 2 (.v 2)⟩,
    ⟨some (17, false), .ld (.t 18)⟩,
    ⟨some (17, false), .mv (.v 3)⟩,
    ⟨some (17, false), .fA 0 (.v 2)⟩,
    ⟨some (17, false), .ld (.t 21)⟩,
    ⟨some (17, false), .call 141 [(.t 19), (.t 20), (.t 22)]⟩,
    ⟨some (17, false), .not (.t 23)⟩,
    ⟨none, .pick (.t 17) (.k (.bool true)) (.t 24)⟩,
    ⟨none, .mv (.t 25)⟩,
    ⟨some (26, false), .fA 4 (.v 2)⟩,
    ⟨some (26, false), .ld (.t 27)⟩,
    ⟨some (26, false), .len (.t 28)⟩,
    ⟨some (26, false), .mv (.v 3)⟩,
    ⟨some (26, false), .bin .neq (.t 29) (.t 30)⟩,
    ⟨none, .pick (.t 26) (.k (.bool true)) (.t 31)⟩] [] (.t 32) (.seq (.ops [] [⟨none, .asg 1 (.k (.bool false))⟩] [])
  .ret)
  .skip)
  (.seq (.opc [] [⟨none, .fA 3 (.v 2)⟩,
    ⟨none, .ld (.t 0)⟩,
    ⟨none, .len (.t 1)⟩,
    ⟨none, .fA 0 (.v 2)⟩,
    ⟨none, .ld (.t 3)⟩,
    ⟨none, .bin .neq (.t 2) (.t 4)⟩,
    ⟨none, .mv (.t 5)⟩,
    ⟨some (6, false), .mv (.v 3)⟩,
    ⟨some (6, false), .fA 3 (.v 2)⟩,
    ⟨some (6, false), .ld (.t 8)⟩,
    ⟨some (6, false), .call 142 [(.t 7), (.t 9)]⟩,
    ⟨some (6, false), .not (.t 10)⟩,
    ⟨none, .pick (.t 6) (.k (.bool true)) (.t 11)⟩] [] (.t 12) (.seq (.ops [] [⟨none, .asg 1 (.k (.bool false))⟩] [])
  .ret)
  .skip)
  (.seq (.seq (.ops [] [⟨none, .asg 4 (.i 0)⟩] [])
  (.block 0 (.loop (.seq (.opc [] [⟨none, .mv (.v 4)⟩,
    ⟨none, .fA 0 (.v 2)⟩,
    ⟨none, .ld (.t 1)⟩,
    ⟨none, .bin .lss (.t 0) (.t 2)⟩] [] (.t 3) .skip
  (.exit 0))
  (.seq (.block 1 (.opc [] [⟨none, .fA 1 (.v 2)⟩,
    ⟨none, .ld (.t 0)⟩,
    ⟨none, .fA 3 (.v 2)⟩,
    ⟨none, .ld (.t 2)⟩,
    ⟨none, .mv (.v 4)⟩,
    ⟨none, .idxA 1 (.t 3) (.t 4)⟩,
    ⟨none, .ld (.t 5)⟩,
    ⟨none, .idxA 1 (.t 1) (.t 6)⟩,
    ⟨none, .ld (.t 7)⟩,
    ⟨none, .mv (.v 4)⟩,
    ⟨none, .bin .neq (.t 8) (.t 9)⟩,
    ⟨none, .mv (.t 10)⟩,
    ⟨some (11, false), .fA 2 (.v 2)⟩,
    ⟨some (11, false), .ld (.t 12)⟩,
    ⟨some (11, false), .fA 3 (.v 2)⟩,
    ⟨some (11, false), .ld (.t 14)⟩,
    ⟨some (11, false), .mv (.v 4)⟩,
    ⟨some (11, false), .idxA 1 (.t 15) (.t 16)⟩,
    ⟨some (11, false), .ld (.t 17)⟩,
    ⟨some (11, false), .idxA 1 (.t 13) (.t 18)⟩,
    ⟨some (11, false), .ld (.t 19)⟩,
    ⟨some (11, false), .mv (.v 4)⟩,
    ⟨some (11, false), .bin .neq (.t 20) (.t 21)⟩,
    ⟨none, .pick (.t 11) (.k (.bool true)) (.t 22)⟩] [] (.t 23) (.seq (.ops [] [⟨none, .asg 1 (.k (.bool false))⟩] [])
  .ret)
  .skip))
  (.ops [] [⟨none, .mv (.v 4)⟩,
    ⟨none, .bin .add (.t 0) (.i 1)⟩,
    ⟨none, .asg 4 (.t 1)⟩] []))))))
  (.seq (.seq (.ops [] [⟨none, .asg 5 (.i 0)⟩] [])
  (.block 2 (.loop (.seq (.opc [] [⟨none, .mv (.v 5)⟩,
    ⟨none, .mv (.v 3)⟩,
    ⟨none, .bin .lss (.t 0) (.t 1)⟩] [] (.t 2) .skip
  (.exit 2))
  (.seq (.block 3 (.seq (.opc [] [⟨none, .fA 4 (.v 2)⟩,
    ⟨none, .ld (.t 0)⟩,
    ⟨none, .mv (.v 5)⟩,
    ⟨none, .idxA 1 (.t 1) (.t 2)⟩,
    ⟨none, .ld (.t 3)⟩,
    ⟨none, .len (.t 4)⟩,
    ⟨none, .mv (.v 3)⟩,
    ⟨none, .bin .neq (.t 5) (.t 6)⟩] [] (.t 7) (.seq (.ops [] [⟨none, .asg 1 (.k (.bool false))⟩] [])
  .ret)
  .skip)
  (.seq (.ops [] [⟨none, .asg 6 (.i 0)⟩] [])
  (.block 4 (.loop (.seq (.opc [] [⟨none, .mv (.v 6)⟩,
    ⟨none, .mv (.v 3)⟩,
    ⟨none, .bin .lss (.t 0) (.t 1)⟩] [] (.t 2) .skip
  (.exit 4))
  (.seq (.block 5 (.seq (.ops [] [⟨none, .fA 4 (.v 2)⟩,
    ⟨none, .ld (.t 0)⟩,
    ⟨none, .mv (.v 5)⟩,
    ⟨none, .idxA 1 (.t 1) (.t 2)⟩,
    ⟨none, .ld (.t 3)⟩,
    ⟨none, .mv (.v 6)⟩,
    ⟨none, .idxA 1 (.t 4) (.t 5)⟩,
    ⟨none, .ld (.t 6)⟩,
    ⟨none, .asg 7 (.t 7)⟩] [])
  (.seq (.opc [] [⟨none, .fA 2 (.v 2)⟩,
    ⟨none, .ld (.t 0)⟩,
    ⟨none, .mv (.v 5)⟩,
    ⟨none, .idxA 1 (.t 1) (.t 2)⟩,
    ⟨none, .ld (.t 3)⟩,
    ⟨none, .fA 1 (.v 2)⟩,
    ⟨none, .ld (.t 5)⟩,
    ⟨none, .mv (.v 6)⟩,
    ⟨none, .idxA 1 (.t 6) (.t 7)⟩,
    ⟨none, .ld (.t 8)⟩,
    ⟨none, .bin .neq (.t 4) (.t 9)⟩] [] (.t 10) (.seq (.opc [] [⟨none, .mv (.v 7)⟩,
    ⟨none, .bin .neq (.t 0) (.i (-1))⟩] [] (.t 1) (.seq (.ops [] [⟨none, .asg 1 (.k (.bool false))⟩] [])
  .ret)
  .skip)
  (.exit 5))
  .skip)
  (.opc [] [⟨none, .mv (.v 7)⟩,
    ⟨none, .bin .lss (.t 0) (.i 0)⟩,
    ⟨none, .mv (.t 1)⟩,
    ⟨some (2, false), .mv (.v 7)⟩,
    ⟨some (2, false), .mv (.v 3)⟩,
    ⟨some (2, false), .bin .geq (.t 3) (.t 4)⟩,
    ⟨none, .pick (.t 2) (.k (.bool true)) (.t 5)⟩,
    ⟨none, .mv (.t 6)⟩,
    ⟨some (7, false), .fA 1 (.v 2)⟩,
    ⟨some (7, false), .ld (.t 8)⟩,
    ⟨some (7, false), .mv (.v 7)⟩,
    ⟨some (7, false), .idxA 1 (.t 9) (.t 10)⟩,
    ⟨some (7, false), .ld (.t 11)⟩,
    ⟨some (7, false), .fA 1 (.v 2)⟩,
    ⟨some (7, false), .ld (.t 13)⟩,
    ⟨some (7, false), .mv (.v 5)⟩,
    ⟨some (7, false), .idxA 1 (.t 14) (.t 15)⟩,
    ⟨some (7, false), .ld (.t 16)⟩,
    ⟨some (7, false), .bin .neq (.t 12) (.t 17)⟩,
    ⟨none, .pick (.t 7) (.k (.bool true)) (.t 18)⟩,
    ⟨none, .mv (.t 19)⟩,
    ⟨some (20, false), .fA 2 (.v 2)⟩,
    ⟨some (20, false), .ld (.t 21)⟩,
    ⟨some (20, false), .mv (.v 7)⟩,
    ⟨some (20, false), .idxA 1 (.t 22) (.t 23)⟩,
    ⟨some (20, false), .ld (.t 24)⟩,
    ⟨some (20, false), .fA 2 (.v 2)⟩,
    ⟨some (20, false), .ld (.t 26)⟩,
    ⟨some (20, false), .mv (.v 6)⟩,
    ⟨some (20, false), .idxA 1 (.t 27) (.t 28)⟩,
    ⟨some (20, false), .ld (.t 29)⟩,
    ⟨some (20, false), .bin .neq (.t 25) (.t 30)⟩,
    ⟨none, .pick (.t 20) (.k (.bool true)) (.t 31)⟩] [] (.t 32) (.seq (.ops [] [⟨none, .asg 1 (.k (.bool false))⟩] [])
  .ret)
  .skip))))
  (.ops [] [⟨none, .mv (.v 6)⟩,
    ⟨none, .bin .add (.t 0) (.i 1)⟩,
    ⟨none, .asg 6 (.t 1)⟩] []))))))))
  (.ops [] [⟨none, .mv (.v 5)⟩,
    ⟨none, .bin .add (.t 0) (.i 1)⟩,
    ⟨none, .asg 5 (.t 1)⟩] []))))))
  (.seq (.ops [] [⟨none, .asg 1 (.k (.bool true))⟩] [])
  .ret)))))))
def tr_spec_IsShape : List Nat := [0, 2, 1, 3, 4, 5, 6, 7]
def rs_spec_IsShape : List RS := [.t 1]
theorem ok_spec_IsShape : fnOk Go.Proofs.Try.prog Go.Proofs.Try.f95 tr_spec_IsShape c_spec_IsShape 1 rs_spec_IsShape = true := by decide +kernel

theorem ret_spec_IsShape (c : Cat) : Ret Go.Proofs.Try.prog 95 [.v c.d] (.bool c.shapeB) := by
  refine ret_fn Go.Proofs.Try.func95 ok_spec_IsShape rfl (show 1 < 500 by decide) rfl ?_; unfold c_spec_IsShape tr_spec_IsShape rs_spec_IsShape; simp only [go_sem, Nat.reduceLT, Nat.reduceAdd, Nat.reduceSub, ↓reduceIte]
  refine call_of (ret_spec_l01In _ _ _) rfl (.inl rfl) ?_
  simp only [go_sem, Nat.reduceLT, Nat.reduceAdd, Nat.reduceSub, ↓reduceIte]
  refine ⟨fun h => by simpa using h, ?_⟩
  refine callg_of (fun h => ret_spec_l02Ends c.fr c.fr.length c.ob) rfl (fun h => by simpa using h) (.inl rfl) ?_
  simp only [go_sem, Nat.reduceLT, Nat.reduceAdd, Nat.reduceSub, ↓reduceIte]
  refine ⟨fun h => by simp_all, ?_⟩
  refine callg_of (fun h => ret_spec_l02Ends c.to c.fr.length c.ob) rfl (fun h => by simpa using h) (.inl rfl) ?_
  simp only [go_sem, Nat.reduceLT, Nat.reduceAdd, Nat.reduceSub, ↓reduceIte]
  refine ⟨fun h => by simp_all, fun h => by simp_all, fun h => ?_, fun h => ?_⟩
  · symm; refine Cat.not_shape fun hp => ?_
    have h1 : inR c.ob 0 8 = true := by simp [inR, hp.ob0, hp.ob8]
    have h2 := hp.fr
    simp [h1, hp.frm, hp.to, hp.tom, hp.co] at h
    omega
  refine callg_of (fun h => ret_spec_l01Map c.fr.length c.idn) rfl (fun h => by simpa using h) (.inl rfl) ?_
  simp only [go_sem, Nat.reduceLT, Nat.reduceAdd, Nat.reduceSub, ↓reduceIte]
  refine ⟨fun h => by simp_all, fun h2 => ?_, fun h2 => ?_⟩
  · symm; refine Cat.not_shape fun hp => ?_
    simp [hp.idn, hp.idm] at h2
  have hp : c.Pre := by
    simp only [Bool.or_eq_false_iff, Bool.not_eq_false', bne_eq_false_iff_eq, decide_eq_false_iff_not, inR, Bool.and_eq_true, decide_eq_true_eq, beq_iff_eq] at h h2
    obtain ⟨⟨⟨⟨h1, h3⟩, h4⟩, h5⟩, h6⟩ := h
    exact ⟨h1.1, h1.2, by omega, h4.2, by omega, h5.2, by omega, h2.1, h2.2⟩
  clear h h2
  refine loop_set [] (fun (x : Nat) => [(4, .int .i64 x)]) (fun x => x ≤ c.idn.length ∧ allB x c.idB = true) (fun x => c.idn.length - x) 0 rfl ⟨Nat.zero_le _, rfl⟩ rfl ?_
  rintro x ⟨hx, ha⟩
  simp only [go_sem, Nat.reduceLT, Nat.reduceAdd, Nat.reduceSub, ↓reduceIte]
  have hob := hp.idn
  refine ⟨fun h => ?_, fun h => ?_⟩
  · have hx' : x < c.idn.length := by omega
    have hid := hp.idx hx'
    have hto := hp.to
    refine ⟨hx', hid, fun h => ⟨h, hx'⟩, fun h => ⟨h, hid.1, by omega⟩, fun h => by simpa using h, fun h => ?_, fun h => ?_⟩
    · exact (Cat.not_id hx' (by simp only [Cat.idB]; rw [Bool.or_eq_true, bne_iff_ne, bne_iff_ne] at h; rw [Bool.and_eq_false_iff, beq_eq_false_iff_ne, beq_eq_false_iff_ne]; exact h)).symm
    · exact ⟨x + 1, ⟨by omega, allB_succ ha (by simpa [Cat.idB] using h)⟩, by omega, by rw [wrap_lt hx' (by have := hp.idl; simp only [maxLen]; omega)]⟩
  have hx' : x = c.idn.length := by omega
  subst hx'
  have hm := hp.fr
  have hco := hp.co
  have hto := hp.to
  refine loop_set [6, 7] (fun (f : Nat) => [(5, .int .i64 f)]) (fun f => f ≤ c.fr.length ∧ allB f c.rowB = true) (fun f => c.fr.length - f) 0 rfl ⟨Nat.zero_le _, rfl⟩ rfl ?_
  rintro f ⟨hf, hb⟩
  simp only [go_sem, Nat.reduceLT, Nat.reduceAdd, Nat.reduceSub, ↓reduceIte]
  refine ⟨fun hfl => ⟨by omega, fun h2 => ?_, fun h2 => ?_⟩, fun h => ?_⟩
  · exact (Cat.not_row hfl (by simp only [Cat.rowB]; rw [Bool.and_eq_false_iff]; left; simpa using h2)).symm
  · refine loop_set [7] (fun (g : Nat) => [(6, .int .i64 g)]) (fun g => g ≤ c.fr.length ∧ allB g (c.cellB f) = true) (fun g => c.fr.length - g) 0 rfl ⟨Nat.zero_le _, rfl⟩ rfl ?_
    rintro g ⟨hg, hc⟩
    simp only [go_sem, Nat.reduceLT, Nat.reduceAdd, Nat.reduceSub, ↓reduceIte]
    have hrow : (c.co.getD f []).length = c.fr.length := by
      rw [bne_eq_false_iff_eq] at h2; omega
    have hcb : c.cellB f g = if c.to.getD f 0 != c.fr.getD g 0 then (c.co.getD f []).getD g 0 == -1
      else decide (0 ≤ (c.co.getD f []).getD g 0) && decide ((c.co.getD f []).getD g 0 < c.fr.length) && (c.fr.getD ((c.co.getD f []).getD g 0).toNat 0 == c.fr.getD f 0) && (c.to.getD ((c.co.getD f []).getD g 0).toNat 0 == c.to.getD g 0) := rfl
    generalize (c.co.getD f []).getD g 0 = h at hcb
    refine ⟨fun hgl => ?_, fun hgl => ?_⟩
    · have step : c.cellB f g = true → ∃ x', (x' ≤ c.fr.length ∧ allB x' (c.cellB f) = true) ∧ c.fr.length - x' < c.fr.length - g ∧ IntKind.i64.wrap ((g : Int) + 1) = (x' : Int) := fun hh => ⟨g + 1, ⟨by omega, allB_succ hc hh⟩, by omega, wrap_lt hgl (by simp only [maxLen]; omega)⟩
      refine ⟨by omega, by omega, by omega, hgl, fun h3 => ⟨fun h4 => ?_, fun h4 => ?_⟩, fun h3 => ⟨fun h4 => by simp_all, fun h4 => ⟨h4, by simp at h4; omega⟩, fun h4 => ⟨h4, by omega⟩, fun h4 => by simpa only [← Bool.not_or, Bool.not_eq_true'] using h4, fun h4 => ⟨h4, by simp at h4; omega⟩, fun h4 => ⟨h4, by omega⟩, fun h4 => by simpa only [← Bool.not_or, Bool.not_eq_true'] using h4, fun h4 => ?_, fun h4 => ?_⟩⟩
      · exact (Cat.not_cell hfl hgl (by rw [hcb, if_pos h3]; simpa using h4)).symm
      · obtain ⟨x', e1, e2, e3⟩ := step (by rw [hcb, if_pos h3]; simpa using h4)
        exact ⟨x', e1, e2, by rw [e3]⟩
      · refine (Cat.not_cell hfl hgl ?_).symm
        rw [hcb, if_neg (by rw [h3]; decide)]
        simp only [Bool.or_eq_true, decide_eq_true_eq, bne_iff_ne] at h4
        simp only [Bool.and_eq_false_iff, decide_eq_false_iff_not, beq_eq_false_iff_ne]
        omega
      · obtain ⟨x', e1, e2, e3⟩ := step (by
          rw [hcb, if_neg (by rw [h3]; decide)]
          simp only [Bool.or_eq_false_iff, decide_eq_false_iff_not, bne_eq_false_iff_eq] at h4
          simp only [Bool.and_eq_true, decide_eq_true_eq, beq_iff_eq]
          omega)
        exact ⟨x', e1, e2, by rw [e3]⟩
    · have : g = c.fr.length := by omega
      subst this
      refine ⟨f + 1, ⟨by omega, allB_succ hb (by simp only [Cat.rowB]; rw [hc, hrow]; simp)⟩, by omega, by rw [wrap_lt hfl (by simp only [maxLen]; omega)]⟩
  · have : f = c.fr.length := by omega
    subst this
    exact (Cat.is_shape hp ha hb).symm
end Go.D3

/- CONTRACTS: faults. -/
namespace Go.D3
open Go
set_option maxRecDepth 100000
-- spec.l02Fault
def c_spec_l02Fault : C :=
  (.seq (.ops [5] [⟨none, .boxv 5 (.v 0)⟩,
    ⟨none, .asg 1 (.i 0)⟩,
    ⟨none, .asg 2 (.i 0)⟩,
    ⟨none, .asg 3 (.i 0)⟩,
    ⟨none, .asg 4 (.i 0)⟩] [(5, 0)])
  (.seq (.ops [] [⟨none, .fA 1 (.v 5)⟩,
    ⟨none, .ld (.t 0)⟩,
    ⟨none, .len (.t 1)⟩,
    ⟨none, .asg 6 (.t 2)⟩] [])
  (.seq (.seq (.ops [] [⟨none, .asg 7 (.i 0)⟩] [])
  (.block 0 (.loop (.seq (.opc [] [⟨none, .mv (.v 7)⟩,
    ⟨none, .mv (.v 6)⟩,
    ⟨none, .bin .lss (.t 0) (.t 1)⟩] [] (.t 2) .skip
  (.exit 0))
  (.seq (.block 1 (.opc [] [⟨none, .fA 4 (.v 5)⟩,
    ⟨none, .ld (.t 0)⟩,
    ⟨none, .fA 3 (.v 5)⟩,
    ⟨none, .ld (.t 2)⟩,
    ⟨none, .fA 1 (.v 5)⟩,
    ⟨none, .ld (.t 4)⟩,
    ⟨none, .mv (.v 7)⟩,
    ⟨none, .idxA 1 (.t 5) (.t 6)⟩,
    ⟨none, .ld (.t 7)⟩,
    ⟨none, .idxA 1 (.t 3) (.t 8)⟩,
    ⟨none, .ld (.t 9)⟩,
    ⟨none, .idxA 1 (.t 1) (.t 10)⟩,
    ⟨none, .ld (.t 11)⟩,
    ⟨none, .mv (.v 7)⟩,
    ⟨none, .idxA 1 (.t 12) (.t 13)⟩,
    ⟨none, .ld (.t 14)⟩,
    ⟨none, .mv (.v 7)⟩,
    ⟨none, .bin .neq (.t 15) (.t 16)⟩,
    ⟨none, .mv (.t 17)⟩,
    ⟨some (18, false), .fA 4 (.v 5)⟩,
    ⟨some (18, false), .ld (.t 19)⟩,
    ⟨some (18, false), .mv (.v 7)⟩,
    ⟨some (18, false), .idxA 1 (.t 20) (.t 21)⟩,
    ⟨some (18, false), .ld (.t 22)⟩,
    ⟨some (18, false), .fA 3 (.v 5)⟩,
    ⟨some (18, false), .ld (.t 24)⟩,
    ⟨some (18, false), .fA 2 (.v 5)⟩,
    ⟨some (18, false), .ld (.t 26)⟩,
    ⟨some (18, false), .mv (.v 7)⟩,
    ⟨some (18, false), .idxA 1 (.t 27) (.t 28)⟩,
    ⟨some (18, false), .ld (.t 29)⟩,
    ⟨some (18, false), .idxA 1 (.t 25) (.t 30)⟩,
    ⟨some (18, false), .ld (.t 31)⟩,
    ⟨some (18, false), .idxA 1 (.t 23) (.t 32)⟩,
    ⟨some (18, false), .ld (.t 33)⟩,
    ⟨some (18, false), .mv (.v 7)⟩,
    ⟨some (18, false), .bin .neq (.t 34) (.t 35)⟩,
    ⟨none, .pick (.t 18) (.k (.bool true)) (.t 36)⟩] [] (.t 37) (.seq (.ops [] [⟨none, .mv (.v 7)⟩,
    ⟨none, .asg 1 (.i 1)⟩,
    ⟨none, .asg 2 (.t 0)⟩,
    ⟨none, .asg 3 (.i 0)⟩,
    ⟨none, .asg 4 (.i 0)⟩] [])
  .ret)
  .skip))
  (.ops [] [⟨none, .mv (.v 7)⟩,
    ⟨none, .bin .add (.t 0) (.i 1)⟩,
    ⟨none, .asg 7 (.t 1)⟩] []))))))
  (.seq (.seq (.ops [] [⟨none, .asg 8 (.i 0)⟩] [])
  (.block 2 (.loop (.seq (.opc [] [⟨none, .mv (.v 8)⟩,
    ⟨none, .mv (.v 6)⟩,
    ⟨none, .bin .lss (.t 0) (.t 1)⟩] [] (.t 2) .skip
  (.exit 2))
  (.seq (.block 3 (.seq (.ops [] [⟨none, .asg 9 (.i 0)⟩] [])
  (.block 4 (.loop (.seq (.opc [] [⟨none, .mv (.v 9)⟩,
    ⟨none, .mv (.v 6)⟩,
    ⟨none, .bin .lss (.t 0) (.t 1)⟩] [] (.t 2) .skip
  (.exit 4))
  (.seq (.block 5 (.seq (.opc [] [⟨none, .fA 2 (.v 5)⟩,
    ⟨none, .ld (.t 0)⟩,
    ⟨none, .mv (.v 8)⟩,
    ⟨none, .idxA 1 (.t 1) (.t 2)⟩,
    ⟨none, .ld (.t 3)⟩,
    ⟨none, .fA 1 (.v 5)⟩,
    ⟨none, .ld (.t 5)⟩,
    ⟨none, .mv (.v 9)⟩,
    ⟨none, .idxA 1 (.t 6) (.t 7)⟩,
    ⟨none, .ld (.t 8)⟩,
    ⟨none, .bin .neq (.t 4) (.t 9)⟩] [] (.t 10) (.exit 5)
  .skip)
  (.seq (.ops [] [⟨none, .asg 10 (.i 0)⟩] [])
  (.block 6 (.loop (.seq (.opc [] [⟨none, .mv (.v 10)⟩,
    ⟨none, .mv (.v 6)⟩,
    ⟨none, .bin .lss (.t 0) (.t 1)⟩] [] (.t 2) .skip
  (.exit 6))
  (.seq (.block 7 (.opc [] [⟨none, .fA 2 (.v 5)⟩,
    ⟨none, .ld (.t 0)⟩,
    ⟨none, .mv (.v 9)⟩,
    ⟨none, .idxA 1 (.t 1) (.t 2)⟩,
    ⟨none, .ld (.t 3)⟩,
    ⟨none, .fA 1 (.v 5)⟩,
    ⟨none, .ld (.t 5)⟩,
    ⟨none, .mv (.v 10)⟩,
    ⟨none, .idxA 1 (.t 6) (.t 7)⟩,
    ⟨none, .ld (.t 8)⟩,
    ⟨none, .bin .eql (.t 4) (.t 9)⟩,
    ⟨none, .mv (.t 10)⟩,
    ⟨some (11, true), .fA 4 (.v 5)⟩,
    ⟨some (11, true), .ld (.t 12)⟩,
    ⟨some (11, true), .fA 4 (.v 5)⟩,
    ⟨some (11, true), .ld (.t 14)⟩,
    ⟨some (11, true), .mv (.v 8)⟩,
    ⟨some (11, true), .idxA 1 (.t 15) (.t 16)⟩,
    ⟨some (11, true), .ld (.t 17)⟩,
    ⟨some (11, true), .mv (.v 9)⟩,
    ⟨some (11, true), .idxA 1 (.t 18) (.t 19)⟩,
    ⟨some (11, true), .ld (.t 20)⟩,
    ⟨some (11, true), .idxA 1 (.t 13) (.t 21)⟩,
    ⟨some (11, true), .ld (.t 22)⟩,
    ⟨some (11, true), .mv (.v 10)⟩,
    ⟨some (11, true), .idxA 1 (.t 23) (.t 24)⟩,
    ⟨some (11, true), .ld (.t 25)⟩,
    ⟨some (11, true), .fA 4 (.v 5)⟩,
    ⟨some (11, true), .ld (.t 27)⟩,
    ⟨some (11, true), .mv (.v 8)⟩,
    ⟨some (11, true), .idxA 1 (.t 28) (.t 29)⟩,
    ⟨some (11, true), .ld (.t 30)⟩,
    ⟨some (11, true), .fA 4 (.v 5)⟩,
    ⟨some (11, true), .ld (.t 32)⟩,
    ⟨some (11, true), .mv (.v 9)⟩,
    ⟨some (11, true), .idxA 1 (.t 33) (.t 34)⟩,
    ⟨some (11, true), .ld (.t 35)⟩,
    ⟨some (11, true), .mv (.v 10)⟩,
    ⟨some (11, true), .idxA 1 (.t 36) (.t 37)⟩,
    ⟨some (11, true), .ld (.t 38)⟩,
    ⟨some (11, true), .idxA 1 (.t 31) (.t 39)⟩,
    ⟨some (11, true), .ld (.t 40)⟩,
    ⟨some (11, true), .bin .neq (.t 26) (.t 41)⟩,
    ⟨none, .pick (.t 11) (.t 42) (.k (.bool false))⟩] [] (.t 43) (.seq (.ops [] [⟨none, .mv (.v 8)⟩,
    ⟨none, .mv (.v 9)⟩,
    ⟨none, .mv (.v 10)⟩,
    ⟨none, .asg 1 (.i 2)⟩,
    ⟨none, .asg 2 (.t 0)⟩,
    ⟨none, .asg 3 (.t 1)⟩,
    ⟨none, .asg 4 (.t 2)⟩] [])
  .ret)
  .skip))
  (.ops [] [⟨none, .mv (.v 10)⟩,
    ⟨none, .bin .add (.t 0) (.i 1)⟩,
    ⟨none, .asg 10 (.t 1)⟩] []))))))))
  (.ops [] [⟨none, .mv (.v 9)⟩,
    ⟨none, .bin .add (.t 0) (.i 1)⟩,
    ⟨none, .asg 9 (.t 1)⟩] [])))))))
  (.ops [] [⟨none, .mv (.v 8)⟩,
    ⟨none, .bin .add (.t 0) (.i 1)⟩,
    ⟨none, .asg 8 (.t 1)⟩] []))))))
  (.seq (.ops [] [⟨none, .asg 1 (.i 0)⟩,
    ⟨none, .asg 2 (.i 0)⟩,
    ⟨none, .asg 3 (.i 0)⟩,
    ⟨none, .asg 4 (.i 0)⟩] [])
  .ret)))))
def tr_spec_l02Fault : List Nat := [0, 2, 3, 4, 5, 1, 6, 7, 8, 9, 10]
def rs_spec_l02Fault : List RS := [.t 1, .t 2, .t 3, .t 4]
theorem ok_spec_l02Fault : fnOk Go.Proofs.Try.prog Go.Proofs.Try.f96 tr_spec_l02Fault c_spec_l02Fault 1 rs_spec_l02Fault = true := by decide +kernel

theorem ret_spec_l02Fault (c : Cat) (hs : c.Shape) : Ret Go.Proofs.Try.prog 96 [.v c.d] (fd c.faultF) := by
  have hm := hs.fr
  have hml : c.fr.length ≤ maxLen := by simp only [maxLen]; omega
  have hto := hs.to
  have hco := hs.co
  have cI : ∀ f g : Int, (c.co.getD f.toNat []).getD g.toNat 0 = c.cellI f g := fun _ _ => rfl
  have iI : ∀ x : Int, c.idn.getD x.toNat 0 = c.idI x := fun _ => rfl
  refine ret_fn Go.Proofs.Try.func96 ok_spec_l02Fault rfl (show 1 < 500 by decide) rfl ?_; unfold c_spec_l02Fault tr_spec_l02Fault rs_spec_l02Fault; simp only [go_sem, Nat.reduceLT, Nat.reduceAdd, Nat.reduceSub, ↓reduceIte]
  refine loop_set [] (fun (f : Nat) => [(7, .int .i64 f)]) (fun f => f ≤ c.fr.length ∧ ∀ j, j < f → c.idF j = false) (fun f => c.fr.length - f) 0 rfl ⟨Nat.zero_le _, fun j hj => by omega⟩ rfl ?_
  rintro f ⟨hf, ha⟩
  simp only [go_sem, Nat.reduceLT, Nat.reduceAdd, Nat.reduceSub, ↓reduceIte]
  refine ⟨fun h => ?_, fun h => ?_⟩
  · have e1 := hs.fri h
    have e2 := hs.idi e1.1 e1.2
    have e3 := hs.rowl e2.1 e2.2
    have e4 := hs.toi h
    have e5 := hs.idi e4.1 e4.2
    have e6 := hs.row f h
    simp only [Cat.idI] at e2 e3 e5
    refine ⟨h, e1, ⟨e2.1, by omega⟩, by omega, fun h2 => ⟨h2, by omega⟩, fun h2 => ⟨h2, by omega⟩, fun h2 => ⟨h2, e4⟩, fun h2 => ⟨h2, e5.1, by omega⟩, fun h2 => by simpa only [Bool.not_eq_true'] using h2, fun h2 => ?_, fun h2 => ?_⟩
    · rw [Cat.fault_id ha h h2]; rfl
    · exact ⟨f + 1, ⟨by omega, fun j hj => by by_cases hjf : j < f; exact ha j hjf; rw [show j = f by omega]; exact h2⟩, by omega, by rw [wrap_lt h hml]⟩
  have : f = c.fr.length := by omega
  subst this
  refine loop_set [9, 10] (fun (f : Nat) => [(8, .int .i64 f)]) (fun f => f ≤ c.fr.length ∧ ∀ f' g' h', f' < f → g' < c.fr.length → h' < c.fr.length → c.asF f' g' h' = false) (fun f => c.fr.length - f) 0 rfl ⟨Nat.zero_le _, fun _ _ _ hj => by omega⟩ rfl ?_
  rintro f ⟨hf, hb⟩
  simp only [go_sem, Nat.reduceLT, Nat.reduceAdd, Nat.reduceSub, ↓reduceIte]
  refine ⟨fun hfl => ?_, fun h => ?_⟩
  · refine loop_set [10] (fun (g : Nat) => [(9, .int .i64 g)]) (fun g => g ≤ c.fr.length ∧ ∀ g' h', g' < g → h' < c.fr.length → c.asF f g' h' = false) (fun g => c.fr.length - g) 0 rfl ⟨Nat.zero_le _, fun _ _ hj => by omega⟩ rfl ?_
    rintro g ⟨hg, hc⟩
    simp only [go_sem, Nat.reduceLT, Nat.reduceAdd, Nat.reduceSub, ↓reduceIte]
    refine ⟨fun hgl => ⟨by omega, hgl, fun h2 => ?_, fun h2 => ?_⟩, fun h => ?_⟩
    · refine ⟨g + 1, ⟨by omega, fun g' h' hg' hh' => ltS (P := fun g' => c.asF f g' h' = false) (fun j hj => hc j h' hj hh') ?_ g' hg'⟩, by omega, by rw [wrap_lt hgl hml]⟩
      rw [bne_iff_ne] at h2
      exact Cat.asF_no h2
    · rw [bne_eq_false_iff_eq] at h2
      have e1 := hs.cell_in hfl hgl h2
      refine loop_set [] (fun (h : Nat) => [(10, .int .i64 h)]) (fun h => h ≤ c.fr.length ∧ ∀ h', h' < h → c.asF f g h' = false) (fun h => c.fr.length - h) 0 rfl ⟨Nat.zero_le _, fun _ hj => by omega⟩ rfl ?_
      rintro h ⟨hh, hd⟩
      simp only [go_sem, Nat.reduceLT, Nat.reduceAdd, Nat.reduceSub, ↓reduceIte]
      have e3 := hs.rowl e1.1 e1.2.1
      have e4 := hs.row f hfl
      have e5 := hs.row g hgl
      have hasf := fun h => Cat.asF_of (h := h) h2
      refine ⟨fun hhl => ?_, fun h3 => ?_⟩
      · have e6 := hs.cell_in hgl hhl
        refine ⟨by omega, hhl, fun h3 => ⟨h3, by omega⟩, fun h3 => ⟨h3, by omega⟩, fun h3 => ⟨h3, e1.1, by rw [hco]; exact e1.2.1⟩, fun h3 => ⟨h3, Nat.lt_of_lt_of_eq hhl e3.symm⟩, fun h3 => ⟨h3, by omega⟩, fun h3 => ⟨h3, by omega⟩, fun h3 => ⟨h3, by omega⟩,
          fun h3 => ⟨h3, (e6 h3).1, by rw [e4]; exact (e6 h3).2.1⟩, fun h3 => ?_, fun h3 => ?_⟩
        · rw [Cat.fault_as ha hfl hgl hhl (by rw [hasf]; exact h3) hd hc hb]; rfl
        · exact ⟨h + 1, ⟨by omega, ltS hd (by rw [hasf]; exact h3)⟩, by omega, by rw [wrap_lt hhl hml]⟩
      · have : h = c.fr.length := by omega
        subst this
        exact ⟨g + 1, ⟨by omega, fun g' h' hg' hh' => ltS (P := fun g' => c.asF f g' h' = false) (fun j hj => hc j h' hj hh') (hd h' hh') g' hg'⟩, by omega, by rw [wrap_lt hgl hml]⟩
    · refine ⟨f + 1, ⟨by omega, fun f' g' h' hf' hg' hh' => ltS (P := fun f' => c.asF f' g' h' = false) (fun j hj => hb j g' h' hj hg' hh') (hc g' h' (by omega) hh') f' hf'⟩, by omega, by rw [wrap_lt hfl hml]⟩
  · have : f = c.fr.length := by omega
    subst this
    rw [Cat.fault_no ha hb]; rfl
end Go.D3

/- CONTRACTS: spec.AreBound. -/
namespace Go.D3
open Go
set_option maxRecDepth 100000
-- spec.l02Is
def c_spec_l02Is : C :=
  (.seq (.ops [2] [⟨none, .boxv 5 (.v 0)⟩,
    ⟨none, .asg 1 (.k (.bool false))⟩] [(2, 0)])
  (.seq (.opc [] [⟨none, .lda 5 (.v 2)⟩,
    ⟨none, .call 95 [(.t 0)]⟩,
    ⟨none, .not (.t 1)⟩] [] (.t 2) (.seq (.ops [] [⟨none, .asg 1 (.k (.bool false))⟩] [])
  .ret)
  .skip)
  (.seq (.ops [] [⟨none, .lda 5 (.v 2)⟩,
    ⟨none, .call 96 [(.t 0)]⟩,
    ⟨none, .mv (.t 1)⟩,
    ⟨none, .ext 0 (.t 2)⟩,
    ⟨none, .ext 1 (.t 2)⟩,
    ⟨none, .ext 2 (.t 2)⟩,
    ⟨none, .ext 3 (.t 2)⟩,
    ⟨none, .asg 3 (.t 3)⟩,
    ⟨none, .mv (.t 4)⟩,
    ⟨none, .mv (.t 5)⟩,
    ⟨none, .mv (.t 6)⟩] [])
  (.seq (.ops [] [⟨none, .mv (.v 3)⟩,
    ⟨none, .bin .eql (.t 0) (.i 0)⟩,
    ⟨none, .asg 1 (.t 1)⟩] [])
  .ret))))
def tr_spec_l02Is : List Nat := [0, 2, 1, 3]
def rs_spec_l02Is : List RS := [.t 1]
theorem ok_spec_l02Is : fnOk Go.Proofs.Try.prog Go.Proofs.Try.f51 tr_spec_l02Is c_spec_l02Is 1 rs_spec_l02Is = true := by decide +kernel

theorem ret_spec_l02Is (c : Cat) : Ret Go.Proofs.Try.prog 51 [.v c.d] (.bool c.isB) := by
  refine ret_fn Go.Proofs.Try.func51 ok_spec_l02Is rfl (show 1 < 500 by decide) rfl ?_; unfold c_spec_l02Is tr_spec_l02Is rs_spec_l02Is; simp only [go_sem, Nat.reduceLT, Nat.reduceAdd, Nat.reduceSub, Nat.reduceLeDiff, ↓reduceIte]
  refine call_of (ret_spec_IsShape c) rfl (.inl rfl) ?_
  simp only [go_sem, Nat.reduceLT, Nat.reduceAdd, Nat.reduceSub, Nat.reduceLeDiff, ↓reduceIte]
  refine ⟨fun h => ?_, fun h => ?_⟩
  · unfold Cat.isB; rw [Bool.not_eq_true'] at h; rw [h]; rfl
  rw [Bool.not_eq_false'] at h
  refine call_of (ret_spec_l02Fault c (Cat.shapeB_iff.1 h)) rfl (.inl rfl) ?_
  simp only [fd]
  simp only [go_sem, Nat.reduceLT, Nat.reduceAdd, Nat.reduceSub, ↓reduceIte]
  unfold Cat.isB; rw [h]; rfl
-- spec.AreBound
def c_spec_AreBound : C :=
  (.seq (.ops [] [⟨none, .asg 1 (.k (.bool false))⟩] [])
  (.seq (.seq (.ops [] [⟨none, .asg 2 (.i 0)⟩] [])
  (.block 0 (.loop (.seq (.opc [] [⟨none, .mv (.v 2)⟩,
    ⟨none, .mv (.v 0)⟩,
    ⟨none, .len (.t 1)⟩,
    ⟨none, .bin .lss (.t 0) (.t 2)⟩] [] (.t 3) .skip
  (.exit 0))
  (.seq (.block 1 (.opc [] [⟨none, .mv (.v 0)⟩,
    ⟨none, .mv (.v 2)⟩,
    ⟨none, .idxA 6 (.t 0) (.t 1)⟩,
    ⟨none, .fA 0 (.t 2)⟩,
    ⟨none, .ld (.t 3)⟩,
    ⟨none, .call 50 [(.t 4)]⟩,
    ⟨none, .not (.t 5)⟩,
    ⟨none, .mv (.t 6)⟩,
    ⟨some (7, false), .mv (.v 0)⟩,
    ⟨some (7, false), .mv (.v 2)⟩,
    ⟨some (7, false), .idxA 6 (.t 8) (.t 9)⟩,
    ⟨some (7, false), .fA 1 (.t 10)⟩,
    ⟨some (7, false), .lda 5 (.t 11)⟩,
    ⟨some (7, false), .call 51 [(.t 12)]⟩,
    ⟨some (7, false), .not (.t 13)⟩,
    ⟨none, .pick (.t 7) (.k (.bool true)) (.t 14)⟩,
    ⟨none, .mv (.t 15)⟩,
    ⟨some (16, false), .mv (.v 2)⟩,
    ⟨some (16, false), .bin .gtr (.t 17) (.i 0)⟩,
    ⟨some (16, false), .mv (.t 18)⟩,
    ⟨some (19, true), .mv (.v 0)⟩,
    ⟨some (19, true), .mv (.v 2)⟩,
    ⟨some (19, true), .idxA 6 (.t 20) (.t 21)⟩,
    ⟨some (19, true), .fA 0 (.t 22)⟩,
    ⟨some (19, true), .ld (.t 23)⟩,
    ⟨some (19, true), .mv (.v 0)⟩,
    ⟨some (19, true), .mv (.v 2)⟩,
    ⟨some (19, true), .bin .sub (.t 26) (.i 1)⟩,
    ⟨some (19, true), .idxA 6 (.t 25) (.t 27)⟩,
    ⟨some (19, true), .fA 0 (.t 28)⟩,
    ⟨some (19, true), .ld (.t 29)⟩,
    ⟨some (19, true), .bin .leq (.t 24) (.t 30)⟩,
    ⟨some (16, false), .pick (.t 19) (.t 31) (.k (.bool false))⟩,
    ⟨none, .pick (.t 16) (.k (.bool true)) (.t 32)⟩] [] (.t 33) (.seq (.ops [] [⟨none, .asg 1 (.k (.bool false))⟩] [])
  .ret)
  .skip))
  (.ops [] [⟨none, .mv (.v 2)⟩,
    ⟨none, .bin .add (.t 0) (.i 1)⟩,
    ⟨none, .asg 2 (.t 1)⟩] []))))))
  (.seq (.ops [] [⟨none, .asg 1 (.k (.bool true))⟩] [])
  .ret)))
def tr_spec_AreBound : List Nat := [0, 2, 3]
def rs_spec_AreBound : List RS := [.t 1]
theorem ok_spec_AreBound : fnOk Go.Proofs.Try.prog Go.Proofs.Try.f12 tr_spec_AreBound c_spec_AreBound 1 rs_spec_AreBound = true := by decide +kernel

theorem ret_spec_AreBound (l : List Bnd) : Ret Go.Proofs.Try.prog 12 [.v (lst Bnd.d Bnd.zero l)] (.bool (bndB l)) := by
  refine ret_wf fun hw => ?_
  simp only [argsWf, wfd_lst] at hw
  have hm := hw.1.1
  clear hw
  refine ret_fn Go.Proofs.Try.func12 ok_spec_AreBound rfl (show 1 < 500 by decide) rfl ?_; unfold c_spec_AreBound tr_spec_AreBound rs_spec_AreBound; simp only [go_sem, Nat.reduceLT, Nat.reduceAdd, ↓reduceIte]
  refine loop_set [] (fun (i : Nat) => [(2, .int .i64 i)]) (fun i => i ≤ l.length ∧ allB i (bI l) = true) (fun i => l.length - i) 0 rfl ⟨Nat.zero_le _, rfl⟩ rfl ?_
  rintro i ⟨hi, ha⟩
  simp only [go_sem, Nat.reduceLT, Nat.reduceAdd, Nat.reduceSub, ↓reduceIte]
  refine ⟨fun h => ⟨h, call_of (ret_spec_l40Letter _) rfl (.inl rfl) ?_⟩, fun h => ?_⟩
  · simp only [go_sem, Nat.reduceLT, Nat.reduceAdd, Nat.reduceSub, Nat.reduceLeDiff, ↓reduceIte]
    refine ⟨?_, ?_⟩
    · exact fun h2 => ⟨h2, h⟩
    refine callg_of (fun h => ret_spec_l02Is (l.getD i Bnd.zero).cat) rfl (fun h => h) (.inl rfl) ?_
    simp only [go_sem, Nat.reduceLT, Nat.reduceAdd, Nat.reduceSub, ↓reduceIte]
    have hb : bI l i = (isL (l.getD i Bnd.zero).nm && (l.getD i Bnd.zero).cat.isB && (decide (i = 0) || Op.bytesLess (l.getD (i - 1) Bnd.zero).nm (l.getD i Bnd.zero).nm)) := rfl
    generalize isL (l.getD i Bnd.zero).nm = b1 at hb
    generalize (l.getD i Bnd.zero).cat.isB = b2 at hb
    have hc : (!b1 || !b2 || decide (0 < (i : Int)) && (Op.bytesLess (l.getD i Bnd.zero).nm (l.getD (IntKind.i64.wrap ((i : Int) - 1)).toNat Bnd.zero).nm || (l.getD i Bnd.zero).nm == (l.getD (IntKind.i64.wrap ((i : Int) - 1)).toNat Bnd.zero).nm)) = !bI l i := by
      rw [hb, bl_tri]
      by_cases hi0 : i = 0
      · subst hi0; cases b1 <;> cases b2 <;> simp
      · rw [wrap_pred (by omega) (by omega), Int.toNat_natCast]
        have e1 : decide (0 < (i : Int)) = true := by simp; omega
        have e2 : decide (i = 0) = false := by simpa using hi0
        rw [e1, e2]; cases b1 <;> cases b2 <;> simp
    rw [hc]
    refine ⟨fun h2 => by simpa using h2, fun h2 => ⟨h2, h⟩, fun h2 => ⟨h2, ?_⟩, fun h2 => ⟨h2, fun h3 => by rw [h2]; simpa using h3⟩, fun h2 => by revert h2; cases b1 <;> cases b2 <;> simp, fun h2 => ?_, fun h2 => ?_⟩
    · have : 0 < i := by simp at h2; omega
      rw [wrap_pred this (by omega)]; omega
    · exact (allB_stop h (by simpa using h2)).symm
    · exact ⟨i + 1, ⟨by omega, allB_succ ha (by simpa using h2)⟩, by omega, by rw [wrap_lt h hm]⟩
  · have : i = l.length := by omega
    subst this
    exact ha.symm
end Go.D3

/- CONTRACTS: impl's shape. -/
namespace Go.D3
open Go
set_option maxRecDepth 100000
set_option maxHeartbeats 4000000
-- (*impl.Category).isShape
def c_impl_Category_isShape : C :=
  (.seq (.ops [] [⟨none, .asg 1 (.k (.bool false))⟩] [])
  (.seq (.ops [] [⟨none, .mv (.v 0)⟩,
    ⟨none, .call 111 [(.t 0)]⟩,
    ⟨none, .asg 2 (.t 1)⟩] [])
  (.seq (.opc [] [⟨none, .mv (.v 0)⟩,
    ⟨none, .nck (.t 0)⟩,
    ⟨none, .fA 0 (.t 1)⟩,
    ⟨none, .ld (.t 2)⟩,
    ⟨none, .call 144 [(.t 3), (.i 0), (.i 8)]⟩,
    ⟨none, .not (.t 4)⟩,
    ⟨none, .mv (.t 5)⟩,
    ⟨some (6, false), .mv (.v 2)⟩,
    ⟨some (6, false), .bin .gtr (.t 7) (.i 40)⟩,
    ⟨none, .pick (.t 6) (.k (.bool true)) (.t 8)⟩,
    ⟨none, .mv (.t 9)⟩,
    ⟨some (10, false), .mv (.v 0)⟩,
    ⟨some (10, false), .nck (.t 11)⟩,
    ⟨some (10, false), .fA 2 (.t 12)⟩,
    ⟨some (10, false), .ld (.t 13)⟩,
    ⟨some (10, false), .len (.t 14)⟩,
    ⟨some (10, false), .mv (.v 2)⟩,
    ⟨some (10, false), .bin .neq (.t 15) (.t 16)⟩,
    ⟨none, .pick (.t 10) (.k (.bool true)) (.t 17)⟩,
    ⟨none, .mv (.t 18)⟩,
    ⟨some (19, false), .mv (.v 0)⟩,
    ⟨some (19, false), .nck (.t 20)⟩,
    ⟨some (19, false), .fA 1 (.t 21)⟩,
    ⟨some (19, false), .ld (.t 22)⟩,
    ⟨some (19, false), .mv (.v 0)⟩,
    ⟨some (19, false), .nck (.t 24)⟩,
    ⟨some (19, false), .fA 0 (.t 25)⟩,
    ⟨some (19, false), .ld (.t 26)⟩,
    ⟨some (19, false), .call 100 [(.t 23), (.t 27)]⟩,
    ⟨some (19, false), .not (.t 28)⟩,
    ⟨none, .pick (.t 19) (.k (.bool true)) (.t 29)⟩,
    ⟨none, .mv (.t 30)⟩,
    ⟨some (31, false), .mv (.v 0)⟩,
    ⟨some (31, false), .nck (.t 32)⟩,
    ⟨some (31, false), .fA 2 (.t 33)⟩,
    ⟨some (31, false), .ld (.t 34)⟩,
    ⟨some (31, false), .mv (.v 0)⟩,
    ⟨some (31, false), .nck (.t 36)⟩,
    ⟨some (31, false), .fA 0 (.t 37)⟩,
    ⟨some (31, false), .ld (.t 38)⟩,
    ⟨some (31, false), .call 100 [(.t 35), (.t 39)]⟩,
    ⟨some (31, false), .not (.t 40)⟩,
    ⟨none, .pick (.t 31) (.k (.bool true)) (.t 41)⟩] [] (.t 42) (.seq (.ops [] [⟨none, .asg 1 (.k (.bool false))⟩] [])
  .ret)
  .skip)
  (.seq (.opc [] [⟨none, .mv (.v 0)⟩,
    ⟨none, .nck (.t 0)⟩,
    ⟨none, .fA 3 (.t 1)⟩,
    ⟨none, .ld (.t 2)⟩,
    ⟨none, .len (.t 3)⟩,
    ⟨none, .mv (.v 0)⟩,
    ⟨none, .nck (.t 5)⟩,
    ⟨none, .fA 0 (.t 6)⟩,
    ⟨none, .ld (.t 7)⟩,
    ⟨none, .bin .neq (.t 4) (.t 8)⟩,
    ⟨none, .mv (.t 9)⟩,
    ⟨some (10, false), .mv (.v 0)⟩,
    ⟨some (10, false), .nck (.t 11)⟩,
    ⟨some (10, false), .fA 3 (.t 12)⟩,
    ⟨some (10, false), .ld (.t 13)⟩,
    ⟨some (10, false), .mv (.v 2)⟩,
    ⟨some (10, false), .call 100 [(.t 14), (.t 15)]⟩,
    ⟨some (10, false), .not (.t 16)⟩,
    ⟨none, .pick (.t 10) (.k (.bool true)) (.t 17)⟩,
    ⟨none, .mv (.t 18)⟩,
    ⟨some (19, false), .mv (.v 0)⟩,
    ⟨some (19, false), .nck (.t 20)⟩,
    ⟨some (19, false), .fA 4 (.t 21)⟩,
    ⟨some (19, false), .ld (.t 22)⟩,
    ⟨some (19, false), .len (.t 23)⟩,
    ⟨some (19, false), .mv (.v 2)⟩,
    ⟨some (19, false), .bin .neq (.t 24) (.t 25)⟩,
    ⟨none, .pick (.t 19) (.k (.bool true)) (.t 26)⟩] [] (.t 27) (.seq (.ops [] [⟨none, .asg 1 (.k (.bool false))⟩] [])
  .ret)
  .skip)
  (.seq (.seq (.ops [9, 10] [⟨none, .mv (.v 0)⟩,
    ⟨none, .nck (.t 0)⟩,
    ⟨none, .fA 3 (.t 1)⟩,
    ⟨none, .ld (.t 2)⟩,
    ⟨none, .len (.t 3)⟩,
    ⟨none, .asg 11 (.i 0)⟩] [(9, 3), (10, 4)])
  (.block 0 (.loop (.opq [] [⟨none, .bin .lss (.v 11) (.v 10)⟩] [] (.t 0) .skip
  (.exit 0)
  (.seq (.block 1 (.seq (.ops [] [⟨none, .mv (.v 11)⟩,
    ⟨none, .idxA 1 (.v 9) (.v 11)⟩,
    ⟨none, .ld (.t 1)⟩,
    ⟨none, .asg 3 (.t 0)⟩,
    ⟨none, .asg 4 (.t 2)⟩] [])
  (.opc [] [⟨none, .mv (.v 0)⟩,
    ⟨none, .mv (.v 4)⟩,
    ⟨none, .call 155 [(.t 0), (.t 1)]⟩,
    ⟨none, .mv (.v 3)⟩,
    ⟨none, .mv (.v 3)⟩,
    ⟨none, .bld [.int .i64 0, .int .i64 0] [(0, 1, (.t 3)), (1, 1, (.t 4))]⟩,
    ⟨none, .eqs true [0, 0] (.t 2) (.t 5)⟩] [] (.t 6) (.seq (.ops [] [⟨none, .asg 1 (.k (.bool false))⟩] [])
  .ret)
  .skip)))
  (.ops [] [⟨none, .bin .add (.v 11) (.i 1)⟩,
    ⟨none, .asg 11 (.t 0)⟩] []))))))
  (.seq (.seq (.ops [12, 13] [⟨none, .mv (.v 0)⟩,
    ⟨none, .nck (.t 0)⟩,
    ⟨none, .fA 4 (.t 1)⟩,
    ⟨none, .ld (.t 2)⟩,
    ⟨none, .len (.t 3)⟩,
    ⟨none, .asg 14 (.i 0)⟩] [(12, 3), (13, 4)])
  (.block 2 (.loop (.opq [] [⟨none, .bin .lss (.v 14) (.v 13)⟩] [] (.t 0) .skip
  (.exit 2)
  (.seq (.block 3 (.seq (.ops [] [⟨none, .mv (.v 14)⟩,
    ⟨none, .idxA 1 (.v 12) (.v 14)⟩,
    ⟨none, .ld (.t 1)⟩,
    ⟨none, .asg 5 (.t 0)⟩,
    ⟨none, .asg 6 (.t 2)⟩] [])
  (.seq (.opc [] [⟨none, .mv (.v 6)⟩,
    ⟨none, .len (.t 0)⟩,
    ⟨none, .mv (.v 2)⟩,
    ⟨none, .bin .neq (.t 1) (.t 2)⟩] [] (.t 3) (.seq (.ops [] [⟨none, .asg 1 (.k (.bool false))⟩] [])
  .ret)
  .skip)
  (.seq (.ops [16] [⟨none, .asg 15 (.v 6)⟩,
    ⟨none, .len (.v 15)⟩,
    ⟨none, .asg 17 (.i 0)⟩] [(16, 1)])
  (.block 4 (.loop (.opq [] [⟨none, .bin .lss (.v 17) (.v 16)⟩] [] (.t 0) .skip
  (.exit 4)
  (.seq (.block 5 (.seq (.ops [] [⟨none, .mv (.v 17)⟩,
    ⟨none, .idxA 1 (.v 15) (.v 17)⟩,
    ⟨none, .ld (.t 1)⟩,
    ⟨none, .asg 7 (.t 0)⟩,
    ⟨none, .asg 8 (.t 2)⟩] [])
  (.seq (.opc [] [⟨none, .mv (.v 0)⟩,
    ⟨none, .nck (.t 0)⟩,
    ⟨none, .fA 2 (.t 1)⟩,
    ⟨none, .ld (.t 2)⟩,
    ⟨none, .mv (.v 5)⟩,
    ⟨none, .idxA 1 (.t 3) (.t 4)⟩,
    ⟨none, .ld (.t 5)⟩,
    ⟨none, .mv (.v 0)⟩,
    ⟨none, .nck (.t 7)⟩,
    ⟨none, .fA 1 (.t 8)⟩,
    ⟨none, .ld (.t 9)⟩,
    ⟨none, .mv (.v 7)⟩,
    ⟨none, .idxA 1 (.t 10) (.t 11)⟩,
    ⟨none, .ld (.t 12)⟩,
    ⟨none, .bin .neq (.t 6) (.t 13)⟩] [] (.t 14) (.seq (.opc [] [⟨none, .mv (.v 8)⟩,
    ⟨none, .bin .neq (.t 0) (.i (-1))⟩] [] (.t 1) (.seq (.ops [] [⟨none, .asg 1 (.k (.bool false))⟩] [])
  .ret)
  .skip)
  (.exit 5))
  .skip)
  (.opc [] [⟨none, .mv (.v 8)⟩,
    ⟨none, .mv (.v 2)⟩,
    ⟨none, .bin .sub (.t 1) (.i 1)⟩,
    ⟨none, .call 144 [(.t 0), (.i 0), (.t 2)]⟩,
    ⟨none, .not (.t 3)⟩,
    ⟨none, .mv (.t 4)⟩,
    ⟨some (5, false), .mv (.v 0)⟩,
    ⟨some (5, false), .mv (.v 8)⟩,
    ⟨some (5, false), .call 155 [(.t 6), (.t 7)]⟩,
    ⟨some (5, false), .mv (.v 0)⟩,
    ⟨some (5, false), .nck (.t 9)⟩,
    ⟨some (5, false), .fA 1 (.t 10)⟩,
    ⟨some (5, false), .ld (.t 11)⟩,
    ⟨some (5, false), .mv (.v 5)⟩,
    ⟨some (5, false), .idxA 1 (.t 12) (.t 13)⟩,
    ⟨some (5, false), .ld (.t 14)⟩,
    ⟨some (5, false), .mv (.v 0)⟩,
    ⟨some (5, false), .nck (.t 16)⟩,
    ⟨some (5, false), .fA 2 (.t 17)⟩,
    ⟨some (5, false), .ld (.t 18)⟩,
    ⟨some (5, false), .mv (.v 7)⟩,
    ⟨some (5, false), .idxA 1 (.t 19) (.t 20)⟩,
    ⟨some (5, false), .ld (.t 21)⟩,
    ⟨some (5, false), .bld [.int .i64 0, .int .i64 0] [(0, 1, (.t 15)), (1, 1, (.t 22))]⟩,
    ⟨some (5, false), .eqs true [0, 0] (.t 8) (.t 23)⟩,
    ⟨none, .pick (.t 5) (.k (.bool true)) (.t 24)⟩] [] (.t 25) (.seq (.ops [] [⟨none, .asg 1 (.k (.bool false))⟩] [])
  .ret)
  .skip))))
  (.ops [] [⟨none, .bin .add (.v 17) (.i 1)⟩,
    ⟨none, .asg 17 (.t 0)⟩] [])))))))))
  (.ops [] [⟨none, .bin .add (.v 14) (.i 1)⟩,
    ⟨none, .asg 14 (.t 0)⟩] []))))))
  (.seq (.ops [] [⟨none, .asg 1 (.k (.bool true))⟩] [])
  .ret)))))))
def tr_impl_Category_isShape : List Nat := [0, 2, 3, 4, 5, 6, 7, 8, 9, 86, 87, 88, 104, 105, 106, 115, 116, 117]
def rs_impl_Category_isShape : List RS := [.t 1]
theorem ok_impl_Category_isShape : fnOk Go.Proofs.Try.prog Go.Proofs.Try.f107 tr_impl_Category_isShape c_impl_Category_isShape 1 rs_impl_Category_isShape = true := by decide +kernel

theorem ret_impl_Category_isShape (c : Cat) : Ret Go.Proofs.Try.prog 107 [.v (.ptr c.cells)] (.bool c.shapeB) := by
  refine ret_fn Go.Proofs.Try.func107 ok_impl_Category_isShape rfl (show 1 < 500 by decide) rfl ?_; unfold c_impl_Category_isShape tr_impl_Category_isShape rs_impl_Category_isShape; simp only [go_sem, Nat.reduceLT, Nat.reduceAdd, Nat.reduceSub, ↓reduceIte]
  refine call_of (ret_impl_Category_arrows c) rfl (.inl rfl) ?_
  simp only [go_sem, Nat.reduceLT, Nat.reduceAdd, Nat.reduceSub, ↓reduceIte]
  refine call_of (ret_impl_inRange _ _ _) rfl (.inl rfl) ?_
  simp only [go_sem, Nat.reduceLT, Nat.reduceAdd, Nat.reduceSub, ↓reduceIte]
  have ob0 : ∀ x : Bool, (inR c.ob 0 8 && x) = true → 0 ≤ c.ob := fun x h => by
    simp only [inR, Bool.and_eq_true, decide_eq_true_eq] at h; exact h.1.1
  refine ⟨(fun h => by simp only [Bool.not_eq_false'] at h ⊢; exact h), (fun h => by simp only [Bool.or_eq_false_iff, Bool.and_eq_true, Bool.not_eq_true', Bool.not_eq_false'] at h ⊢; exact h), ?_⟩
  refine callg_of (fun h => ret_impl_within c.ob c.fr (ob0 _ (by rw [← Bool.and_assoc]; exact h))) rfl (fun h => h) (.inl rfl) ?_
  simp only [go_sem, Nat.reduceLT, Nat.reduceAdd, Nat.reduceSub, ↓reduceIte]
  refine ⟨(fun h => by simp only [Bool.or_eq_false_iff, Bool.and_eq_true, Bool.not_eq_true', Bool.not_eq_false'] at h ⊢; exact h), ?_⟩
  refine callg_of (fun h => ret_impl_within c.ob c.to (ob0 _ (by rw [← Bool.and_assoc, ← Bool.and_assoc]; exact h))) rfl (fun h => h) (.inl rfl) ?_
  simp only [go_sem, Nat.reduceLT, Nat.reduceAdd, Nat.reduceSub, ↓reduceIte]
  refine ⟨(fun h => by simp only [Bool.or_eq_false_iff, Bool.and_eq_true, Bool.not_eq_true', Bool.not_eq_false'] at h ⊢; exact h), fun h => ?_, fun h => ?_⟩
  · symm; refine Cat.not_shape fun hp => ?_
    have h1 : inR c.ob 0 8 = true := by simp [inR, hp.ob0, hp.ob8]
    have h2 := hp.fr
    simp [h1, hp.frm, hp.to, hp.tom] at h
    omega
  refine callg_of (fun h => ret_impl_within c.fr.length c.idn (by omega)) rfl (fun h => h) (.inl rfl) ?_
  simp only [go_sem, Nat.reduceLT, Nat.reduceAdd, Nat.reduceSub, ↓reduceIte]
  refine ⟨(fun h => by simp only [Bool.not_eq_true'] at h ⊢; exact h), (fun h => by simp only [Bool.or_eq_false_iff, Bool.and_eq_true, Bool.not_eq_true', Bool.not_eq_false'] at h ⊢; exact h), fun h2 => ?_, fun h2 => ?_⟩
  · symm; refine Cat.not_shape fun hp => ?_
    simp [hp.idn, hp.idm, hp.co] at h2
  have hp : c.Pre := by
    simp only [Bool.or_eq_false_iff, Bool.not_eq_false', bne_eq_false_iff_eq, decide_eq_false_iff_not, inR, Bool.and_eq_true, decide_eq_true_eq] at h h2
    obtain ⟨⟨⟨⟨h1, h3⟩, h4⟩, h5⟩, h6⟩ := h
    exact ⟨h1.1, h1.2, by omega, h5, by omega, h6, by omega, h2.1.1, h2.1.2⟩
  clear h h2 ob0
  have hob := hp.idn
  have hm := hp.fr
  have hco := hp.co
  have hto := hp.to
  refine loop_set [3, 4] (fun (x : Nat) => [(11, .int .i64 x)]) (fun x => x ≤ c.idn.length ∧ allB x c.idB = true) (fun x => c.idn.length - x) 0 (by simp only [go_sem, Nat.reduceLT, ↓reduceIte]; rfl) ⟨Nat.zero_le _, rfl⟩ rfl ?_
  rintro x ⟨hx, ha⟩
  simp only [go_sem, Nat.reduceLT, Nat.reduceAdd, Nat.reduceSub, ↓reduceIte]
  refine ⟨fun hxl => ⟨hxl, ?_⟩, fun h => ?_⟩
  · have hid := hp.idx hxl
    refine call_of (ret_impl_Category_ends c _ hid.1 hid.2 (by omega)) rfl (.inl rfl) ?_
    simp only [go_sem, Nat.reduceLT, Nat.reduceAdd, Nat.reduceSub, Nat.reduceLeDiff, ↓reduceIte]
    refine ⟨fun h => ?_, fun h => ⟨x + 1, ⟨by omega, allB_succ ha (by rw [Bool.not_eq_false'] at h; exact h)⟩, by omega, by rw [wrap_lt hxl (by have := hp.idl; simp only [maxLen]; omega)]⟩⟩
    exact (Cat.not_id hxl (by rw [Bool.not_eq_true'] at h; exact h)).symm
  have : x = c.idn.length := by omega
  subst this
  refine loop_set [5, 6, 7, 8, 15, 16, 17] (fun (f : Nat) => [(14, .int .i64 f)]) (fun f => f ≤ c.fr.length ∧ allB f c.rowB = true) (fun f => c.fr.length - f) 0 (by simp only [go_sem, Nat.reduceLT, ↓reduceIte]; rfl) ⟨Nat.zero_le _, rfl⟩ rfl ?_
  rintro f ⟨hf, hb⟩
  simp only [go_sem, Nat.reduceLT, Nat.reduceAdd, Nat.reduceSub, ↓reduceIte]
  refine ⟨fun hfl' => ⟨hfl', fun h => ?_, fun h => ?_⟩, fun h => ?_⟩
  · exact (Cat.not_row (f := f) (by omega) (by simp only [Cat.rowB]; rw [Bool.and_eq_false_iff]; left; rw [bne_iff_ne] at h; simpa using h)).symm
  · rw [bne_eq_false_iff_eq] at h
    have hrow : (c.co.getD f []).length = c.fr.length := by omega
    refine loop_set [7, 8] (fun (g : Nat) => [(17, .int .i64 g)]) (fun g => g ≤ c.fr.length ∧ allB g (c.cellB f) = true) (fun g => c.fr.length - g) 0 (by simp only [go_sem, Nat.reduceLT, ↓reduceIte]; rfl) ⟨Nat.zero_le _, rfl⟩ rfl ?_
    rintro g ⟨hg, hc⟩
    simp only [go_sem, Nat.reduceLT, Nat.reduceAdd, Nat.reduceSub, ↓reduceIte]
    have hcb : c.cellB f g = if c.to.getD f 0 != c.fr.getD g 0 then (c.co.getD f []).getD g 0 == -1
      else decide (0 ≤ (c.co.getD f []).getD g 0) && decide ((c.co.getD f []).getD g 0 < c.fr.length) && (c.fr.getD ((c.co.getD f []).getD g 0).toNat 0 == c.fr.getD f 0) && (c.to.getD ((c.co.getD f []).getD g 0).toNat 0 == c.to.getD g 0) := rfl
    generalize (c.co.getD f []).getD g 0 = h at hcb
    have hfl : f < c.fr.length := by omega
    refine ⟨fun hgl' => ?_, fun hgl => ?_⟩
    · have hgl : g < c.fr.length := by omega
      have step : c.cellB f g = true → ∃ x', (x' ≤ c.fr.length ∧ allB x' (c.cellB f) = true) ∧ c.fr.length - x' < c.fr.length - g ∧ IntKind.i64.wrap ((g : Int) + 1) = (x' : Int) := fun hh => ⟨g + 1, ⟨by omega, allB_succ hc hh⟩, by omega, wrap_lt hgl (by simp only [maxLen]; omega)⟩
      refine ⟨hgl', by omega, hgl, fun h3 => ⟨fun h4 => ?_, fun h4 => ?_⟩, fun h3 => ?_⟩
      · exact (Cat.not_cell hfl hgl (by rw [hcb, if_pos h3]; simpa using h4)).symm
      · obtain ⟨x', e1, e2, e3⟩ := step (by rw [hcb, if_pos h3]; simpa using h4)
        exact ⟨x', e1, e2, by rw [e3]⟩
      · rw [hcb, if_neg (by rw [h3]; decide)] at step
        have nc : ∀ b : Bool, (decide (0 ≤ h) && decide (h < c.fr.length) && (c.fr.getD h.toNat 0 == c.fr.getD f 0) && (c.to.getD h.toNat 0 == c.to.getD g 0)) = b → c.cellB f g = b := fun b hb => by rw [hcb, if_neg (by rw [h3]; decide)]; exact hb
        refine call_of (ret_impl_inRange _ _ _) rfl (.inl rfl) ?_
        simp only [go_sem, Nat.reduceLT, Nat.reduceAdd, Nat.reduceSub, ↓reduceIte]
        rw [inR_pred (by omega) (by omega)]
        have hr : (decide (0 ≤ h) && decide (h < (c.fr.length : Int))) = true → 0 ≤ h ∧ h < c.fr.length := fun h => by simpa using h
        refine callg_of (fun h4 => ret_impl_Category_ends c h (hr h4).1 (hr h4).2 (by have := (hr h4).2; omega)) rfl (fun h => h) (.inl rfl) ?_
        simp only [go_sem, Nat.reduceLT, Nat.reduceAdd, Nat.reduceSub, Nat.reduceLeDiff, ↓reduceIte]
        refine ⟨fun h4 => ⟨h4, hfl⟩, fun h4 => ⟨h4, by omega⟩, fun h4 => by rw [Bool.not_eq_false'] at h4; exact h4, fun h4 => ?_, fun h4 => ?_⟩
        · refine (Cat.not_cell hfl hgl (nc _ ?_)).symm
          rw [← Bool.not_and, Bool.not_eq_true', ← Bool.and_assoc] at h4; exact h4
        · rw [← Bool.not_and, Bool.not_eq_false', ← Bool.and_assoc] at h4
          obtain ⟨x', e1, e2, e3⟩ := step h4
          exact ⟨x', e1, e2, by rw [e3]⟩
    · have : g = c.fr.length := by omega
      subst this
      refine ⟨f + 1, ⟨by omega, allB_succ hb (by simp only [Cat.rowB]; rw [hc, hrow]; simp)⟩, by omega, by rw [wrap_lt hfl (by simp only [maxLen]; omega)]⟩
  · have : f = c.fr.length := by omega
    subst this
    exact (Cat.is_shape hp ha hb).symm
end Go.D3

/- CONTRACTS: impl's faults. -/
namespace Go.D3
open Go
set_option maxRecDepth 100000
set_option maxHeartbeats 4000000
theorem retS_then {c : Cat} (hs : c.Shape) (f g : Int) (h0 : 0 ≤ f) (h1 : f < c.fr.length) (h2 : 0 ≤ g) (h3 : g < c.fr.length) : Ret Go.Proofs.Try.prog 104 [.v (.ptr c.cells), .v (.int .i64 f), .v (.int .i64 g)] (.int .i64 (c.cellI f g)) :=
  ret_impl_Category_then c f g h0 (by have := hs.co; omega) h2 (by rw [hs.rowl h0 h1]; exact h3)
-- (*impl.Category).fault
def c_impl_Category_fault : C :=
  (.seq (.ops [] [⟨none, .asg 1 (.i 0)⟩,
    ⟨none, .asg 2 (.i 0)⟩,
    ⟨none, .asg 3 (.i 0)⟩,
    ⟨none, .asg 4 (.i 0)⟩] [])
  (.seq (.ops [] [⟨none, .mv (.v 0)⟩,
    ⟨none, .call 111 [(.t 0)]⟩,
    ⟨none, .asg 5 (.t 1)⟩] [])
  (.seq (.seq (.ops [] [⟨none, .asg 6 (.i 0)⟩] [])
  (.block 0 (.loop (.seq (.opc [] [⟨none, .mv (.v 6)⟩,
    ⟨none, .mv (.v 5)⟩,
    ⟨none, .bin .lss (.t 0) (.t 1)⟩] [] (.t 2) .skip
  (.exit 0))
  (.seq (.block 1 (.opc [] [⟨none, .mv (.v 0)⟩,
    ⟨none, .mv (.v 0)⟩,
    ⟨none, .nck (.t 1)⟩,
    ⟨none, .fA 3 (.t 2)⟩,
    ⟨none, .ld (.t 3)⟩,
    ⟨none, .mv (.v 0)⟩,
    ⟨none, .nck (.t 5)⟩,
    ⟨none, .fA 1 (.t 6)⟩,
    ⟨none, .ld (.t 7)⟩,
    ⟨none, .mv (.v 6)⟩,
    ⟨none, .idxA 1 (.t 8) (.t 9)⟩,
    ⟨none, .ld (.t 10)⟩,
    ⟨none, .idxA 1 (.t 4) (.t 11)⟩,
    ⟨none, .ld (.t 12)⟩,
    ⟨none, .mv (.v 6)⟩,
    ⟨none, .call 104 [(.t 0), (.t 13), (.t 14)]⟩,
    ⟨none, .mv (.v 6)⟩,
    ⟨none, .bin .neq (.t 15) (.t 16)⟩,
    ⟨none, .mv (.t 17)⟩,
    ⟨some (18, false), .mv (.v 0)⟩,
    ⟨some (18, false), .mv (.v 6)⟩,
    ⟨some (18, false), .mv (.v 0)⟩,
    ⟨some (18, false), .nck (.t 21)⟩,
    ⟨some (18, false), .fA 3 (.t 22)⟩,
    ⟨some (18, false), .ld (.t 23)⟩,
    ⟨some (18, false), .mv (.v 0)⟩,
    ⟨some (18, false), .nck (.t 25)⟩,
    ⟨some (18, false), .fA 2 (.t 26)⟩,
    ⟨some (18, false), .ld (.t 27)⟩,
    ⟨some (18, false), .mv (.v 6)⟩,
    ⟨some (18, false), .idxA 1 (.t 28) (.t 29)⟩,
    ⟨some (18, false), .ld (.t 30)⟩,
    ⟨some (18, false), .idxA 1 (.t 24) (.t 31)⟩,
    ⟨some (18, false), .ld (.t 32)⟩,
    ⟨some (18, false), .call 104 [(.t 19), (.t 20), (.t 33)]⟩,
    ⟨some (18, false), .mv (.v 6)⟩,
    ⟨some (18, false), .bin .neq (.t 34) (.t 35)⟩,
    ⟨none, .pick (.t 18) (.k (.bool true)) (.t 36)⟩] [] (.t 37) (.seq (.ops [] [⟨none, .mv (.v 6)⟩,
    ⟨none, .asg 1 (.i 1)⟩,
    ⟨none, .asg 2 (.t 0)⟩,
    ⟨none, .asg 3 (.i 0)⟩,
    ⟨none, .asg 4 (.i 0)⟩] [])
  .ret)
  .skip))
  (.ops [] [⟨none, .mv (.v 6)⟩,
    ⟨none, .bin .add (.t 0) (.i 1)⟩,
    ⟨none, .asg 6 (.t 1)⟩] []))))))
  (.seq (.seq (.ops [] [⟨none, .asg 7 (.i 0)⟩] [])
  (.block 2 (.loop (.seq (.opc [] [⟨none, .mv (.v 7)⟩,
    ⟨none, .mv (.v 5)⟩,
    ⟨none, .bin .lss (.t 0) (.t 1)⟩] [] (.t 2) .skip
  (.exit 2))
  (.seq (.block 3 (.seq (.ops [] [⟨none, .asg 8 (.i 0)⟩] [])
  (.block 4 (.loop (.seq (.opc [] [⟨none, .mv (.v 8)⟩,
    ⟨none, .mv (.v 5)⟩,
    ⟨none, .bin .lss (.t 0) (.t 1)⟩] [] (.t 2) .skip
  (.exit 4))
  (.seq (.block 5 (.seq (.opc [] [⟨none, .mv (.v 0)⟩,
    ⟨none, .mv (.v 7)⟩,
    ⟨none, .mv (.v 8)⟩,
    ⟨none, .call 104 [(.t 0), (.t 1), (.t 2)]⟩,
    ⟨none, .bin .lss (.t 3) (.i 0)⟩] [] (.t 4) (.exit 5)
  .skip)
  (.seq (.ops [] [⟨none, .asg 9 (.i 0)⟩] [])
  (.block 6 (.loop (.seq (.opc [] [⟨none, .mv (.v 9)⟩,
    ⟨none, .mv (.v 5)⟩,
    ⟨none, .bin .lss (.t 0) (.t 1)⟩] [] (.t 2) .skip
  (.exit 6))
  (.seq (.block 7 (.opc [] [⟨none, .mv (.v 0)⟩,
    ⟨none, .mv (.v 8)⟩,
    ⟨none, .mv (.v 9)⟩,
    ⟨none, .call 104 [(.t 0), (.t 1), (.t 2)]⟩,
    ⟨none, .bin .geq (.t 3) (.i 0)⟩,
    ⟨none, .mv (.t 4)⟩,
    ⟨some (5, true), .mv (.v 0)⟩,
    ⟨some (5, true), .mv (.v 0)⟩,
    ⟨some (5, true), .mv (.v 7)⟩,
    ⟨some (5, true), .mv (.v 8)⟩,
    ⟨some (5, true), .call 104 [(.t 7), (.t 8), (.t 9)]⟩,
    ⟨some (5, true), .mv (.v 9)⟩,
    ⟨some (5, true), .call 104 [(.t 6), (.t 10), (.t 11)]⟩,
    ⟨some (5, true), .mv (.v 0)⟩,
    ⟨some (5, true), .mv (.v 7)⟩,
    ⟨some (5, true), .mv (.v 0)⟩,
    ⟨some (5, true), .mv (.v 8)⟩,
    ⟨some (5, true), .mv (.v 9)⟩,
    ⟨some (5, true), .call 104 [(.t 15), (.t 16), (.t 17)]⟩,
    ⟨some (5, true), .call 104 [(.t 13), (.t 14), (.t 18)]⟩,
    ⟨some (5, true), .bin .neq (.t 12) (.t 19)⟩,
    ⟨none, .pick (.t 5) (.t 20) (.k (.bool false))⟩] [] (.t 21) (.seq (.ops [] [⟨none, .mv (.v 7)⟩,
    ⟨none, .mv (.v 8)⟩,
    ⟨none, .mv (.v 9)⟩,
    ⟨none, .asg 1 (.i 2)⟩,
    ⟨none, .asg 2 (.t 0)⟩,
    ⟨none, .asg 3 (.t 1)⟩,
    ⟨none, .asg 4 (.t 2)⟩] [])
  .ret)
  .skip))
  (.ops [] [⟨none, .mv (.v 9)⟩,
    ⟨none, .bin .add (.t 0) (.i 1)⟩,
    ⟨none, .asg 9 (.t 1)⟩] []))))))))
  (.ops [] [⟨none, .mv (.v 8)⟩,
    ⟨none, .bin .add (.t 0) (.i 1)⟩,
    ⟨none, .asg 8 (.t 1)⟩] [])))))))
  (.ops [] [⟨none, .mv (.v 7)⟩,
    ⟨none, .bin .add (.t 0) (.i 1)⟩,
    ⟨none, .asg 7 (.t 1)⟩] []))))))
  (.seq (.ops [] [⟨none, .asg 1 (.i 0)⟩,
    ⟨none, .asg 2 (.i 0)⟩,
    ⟨none, .asg 3 (.i 0)⟩,
    ⟨none, .asg 4 (.i 0)⟩] [])
  .ret)))))
def tr_impl_Category_fault : List Nat := [0, 2, 3, 4, 5, 6, 7, 8, 9, 10]
def rs_impl_Category_fault : List RS := [.t 1, .t 2, .t 3, .t 4]
theorem ok_impl_Category_fault : fnOk Go.Proofs.Try.prog Go.Proofs.Try.f108 tr_impl_Category_fault c_impl_Category_fault 1 rs_impl_Category_fault = true := by decide +kernel

theorem ret_impl_Category_fault (c : Cat) (hs : c.Shape) : Ret Go.Proofs.Try.prog 108 [.v (.ptr c.cells)] (fd c.faultF) := by
  have hm := hs.fr
  have hml : c.fr.length ≤ maxLen := by simp only [maxLen]; omega
  have hto := hs.to
  have hco := hs.co
  refine ret_fn Go.Proofs.Try.func108 ok_impl_Category_fault rfl (show 1 < 500 by decide) rfl ?_; unfold c_impl_Category_fault tr_impl_Category_fault rs_impl_Category_fault; simp only [go_sem, Nat.reduceLT, Nat.reduceAdd, Nat.reduceSub, ↓reduceIte]
  refine call_of (ret_impl_Category_arrows c) rfl (.inl rfl) ?_
  simp only [go_sem, Nat.reduceLT, Nat.reduceAdd, Nat.reduceSub, ↓reduceIte]
  refine loop_set [] (fun (f : Nat) => [(6, .int .i64 f)]) (fun f => f ≤ c.fr.length ∧ ∀ j, j < f → c.idF j = false) (fun f => c.fr.length - f) 0 (by simp only [go_sem]; rfl) ⟨Nat.zero_le _, fun j hj => by omega⟩ rfl ?_
  rintro f ⟨hf, ha⟩
  simp only [go_sem, Nat.reduceLT, Nat.reduceAdd, Nat.reduceSub, ↓reduceIte]
  refine ⟨fun h => ?_, fun h => ?_⟩
  · have e1 := hs.fri h
    have e2 := hs.idi e1.1 e1.2
    have e4 := hs.toi h
    have e5 := hs.idi e4.1 e4.2
    refine ⟨h, e1, call_of (retS_then hs (c.idI (c.fr.getD f 0)) f e2.1 e2.2 (by omega) (by omega)) rfl (.inl rfl) ?_⟩
    simp only [go_sem, Nat.reduceLT, Nat.reduceAdd, Nat.reduceSub, ↓reduceIte]
    refine ⟨fun h2 => ⟨h2, by omega⟩, fun h2 => ⟨h2, e4⟩, callg_of (fun h => retS_then hs f (c.idI (c.to.getD f 0)) (by omega) (by omega) e5.1 e5.2) rfl (fun h => h) (.inl rfl) ?_⟩
    simp only [go_sem, Nat.reduceLT, Nat.reduceAdd, Nat.reduceSub, ↓reduceIte]
    refine ⟨fun h2 => by simpa only [Bool.not_eq_true'] using h2, fun h2 => ?_, fun h2 => ?_⟩
    · rw [Cat.fault_id ha h h2]; rfl
    · exact ⟨f + 1, ⟨by omega, fun j hj => by by_cases hjf : j < f; exact ha j hjf; rw [show j = f by omega]; exact h2⟩, by omega, by rw [wrap_lt h hml]⟩
  have : f = c.fr.length := by omega
  subst this
  refine loop_set [8, 9] (fun (f : Nat) => [(7, .int .i64 f)]) (fun f => f ≤ c.fr.length ∧ ∀ f' g' h', f' < f → g' < c.fr.length → h' < c.fr.length → c.asF f' g' h' = false) (fun f => c.fr.length - f) 0 (by simp only [go_sem, Nat.reduceLT, ↓reduceIte]; rfl) ⟨Nat.zero_le _, fun _ _ _ hj => by omega⟩ rfl ?_
  rintro f ⟨hf, hb⟩
  simp only [go_sem, Nat.reduceLT, Nat.reduceAdd, Nat.reduceSub, ↓reduceIte]
  refine ⟨fun hfl => ?_, fun h => ?_⟩
  · refine loop_set [9] (fun (g : Nat) => [(8, .int .i64 g)]) (fun g => g ≤ c.fr.length ∧ ∀ g' h', g' < g → h' < c.fr.length → c.asF f g' h' = false) (fun g => c.fr.length - g) 0 (by simp only [go_sem, Nat.reduceLT, ↓reduceIte]; rfl) ⟨Nat.zero_le _, fun _ _ hj => by omega⟩ rfl ?_
    rintro g ⟨hg, hc⟩
    simp only [go_sem, Nat.reduceLT, Nat.reduceAdd, Nat.reduceSub, ↓reduceIte]
    refine ⟨fun hgl => ?_, fun h => ?_⟩
    · refine call_of (retS_then hs f g (by omega) (by omega) (by omega) (by omega)) rfl (.inl rfl) ?_
      simp only [go_sem, Nat.reduceLT, Nat.reduceAdd, Nat.reduceSub, ↓reduceIte]
      by_cases h2 : c.to.getD f 0 = c.fr.getD g 0
      · have e1 := hs.cell_in hfl hgl h2
        refine ⟨fun h3 => by omega, fun h3 => ?_⟩
        refine loop_set [] (fun (h : Nat) => [(9, .int .i64 h)]) (fun h => h ≤ c.fr.length ∧ ∀ h', h' < h → c.asF f g h' = false) (fun h => c.fr.length - h) 0 (by simp only [go_sem]; rfl) ⟨Nat.zero_le _, fun _ hj => by omega⟩ rfl ?_
        rintro h ⟨hh, hd⟩
        simp only [go_sem, Nat.reduceLT, Nat.reduceAdd, Nat.reduceSub, ↓reduceIte]
        refine ⟨fun hhl => ?_, fun h4 => ?_⟩
        · have hgh : 0 ≤ c.cellI g h → c.cellI g h < c.fr.length ∧ c.to.getD g 0 = c.fr.getD h 0 := fun h0 => by
            by_cases he : c.to.getD g 0 = c.fr.getD h 0
            · exact ⟨(hs.cell_in hgl hhl he).2.1, he⟩
            · rw [hs.cell_out hgl hhl he] at h0; exact absurd h0 (by decide)
          have hgh2 : c.to.getD g 0 = c.fr.getD h 0 → 0 ≤ c.cellI g h := fun he => (hs.cell_in hgl hhl he).1
          have hd2 : ∀ {x : Int}, decide (0 ≤ x) = true → 0 ≤ x := fun h => by simpa using h
          refine call_of (retS_then hs g h (by omega) (by omega) (by omega) (by omega)) rfl (.inl rfl) ?_
          simp only [go_sem, Nat.reduceLT, Nat.reduceAdd, Nat.reduceSub, ↓reduceIte]
          refine callg_of (fun _ => retS_then hs f g (by omega) (by omega) (by omega) (by omega)) rfl (fun h => h) (.inl rfl) ?_
          simp only [go_sem, Nat.reduceLT, Nat.reduceAdd, Nat.reduceSub, ↓reduceIte]
          refine callg_of (fun _ => retS_then hs (c.cellI f g) h e1.1 e1.2.1 (by omega) (by omega)) rfl (fun h => h) (.inl rfl) ?_
          simp only [go_sem, Nat.reduceLT, Nat.reduceAdd, Nat.reduceSub, ↓reduceIte]
          refine callg_of (fun _ => retS_then hs g h (by omega) (by omega) (by omega) (by omega)) rfl (fun h => h) (.inl rfl) ?_
          simp only [go_sem, Nat.reduceLT, Nat.reduceAdd, Nat.reduceSub, ↓reduceIte]
          refine callg_of (fun h5 => retS_then hs f (c.cellI g h) (by omega) (by omega) (hd2 h5) (hgh (hd2 h5)).1) rfl (fun h => h) (.inl rfl) ?_
          simp only [go_sem, Nat.reduceLT, Nat.reduceAdd, Nat.reduceSub, ↓reduceIte]
          have hasf : c.asF f g h = (decide (0 ≤ c.cellI g h) && c.cellI (c.cellI f g) h != c.cellI f (c.cellI g h)) := by
            rw [Cat.asF_of h2]
            congr 1
            rw [Bool.eq_iff_iff, beq_iff_eq, decide_eq_true_eq]
            exact ⟨hgh2, fun h5 => (hgh h5).2⟩
          rw [← hasf]
          refine ⟨fun h5 => ?_, fun h5 => ?_⟩
          · rw [Cat.fault_as ha hfl hgl hhl h5 hd hc hb]; rfl
          · exact ⟨h + 1, ⟨by omega, ltS hd h5⟩, by omega, by rw [wrap_lt hhl hml]⟩
        · have : h = c.fr.length := by omega
          subst this
          exact ⟨g + 1, ⟨by omega, fun g' h' hg' hh' => ltS (P := fun g' => c.asF f g' h' = false) (fun j hj => hc j h' hj hh') (hd h' hh') g' hg'⟩, by omega, by rw [wrap_lt hgl hml]⟩
      · refine ⟨fun h3 => ⟨g + 1, ⟨by omega, fun g' h' hg' hh' => ltS (P := fun g' => c.asF f g' h' = false) (fun j hj => hc j h' hj hh') (Cat.asF_no h2) g' hg'⟩, by omega, by rw [wrap_lt hgl hml]⟩, fun h3 => ?_⟩
        rw [hs.cell_out hfl hgl h2] at h3
        exact absurd h3 (by decide)
    · have : g = c.fr.length := by omega
      subst this
      exact ⟨f + 1, ⟨by omega, fun f' g' h' hf' hg' hh' => ltS (P := fun f' => c.asF f' g' h' = false) (fun j hj => hb j g' h' hj hg' hh') (hc g' h' hg' hh') f' hf'⟩, by omega, by rw [wrap_lt hfl hml]⟩
  · have : f = c.fr.length := by omega
    subst this
    rw [Cat.fault_no ha hb]; rfl
end Go.D3

/- CONTRACTS: impl.AreBound. -/
namespace Go.D3
open Go
set_option maxRecDepth 100000
-- (*impl.Category).isCategory
def c_impl_Category_isCategory : C :=
  (.seq (.ops [] [⟨none, .asg 1 (.k (.bool false))⟩] [])
  (.seq (.opc [] [⟨none, .mv (.v 0)⟩,
    ⟨none, .call 107 [(.t 0)]⟩,
    ⟨none, .not (.t 1)⟩] [] (.t 2) (.seq (.ops [] [⟨none, .asg 1 (.k (.bool false))⟩] [])
  .ret)
  .skip)
  (.seq (.ops [] [⟨none, .mv (.v 0)⟩,
    ⟨none, .call 108 [(.t 0)]⟩,
    ⟨none, .mv (.t 1)⟩,
    ⟨none, .ext 0 (.t 2)⟩,
    ⟨none, .ext 1 (.t 2)⟩,
    ⟨none, .ext 2 (.t 2)⟩,
    ⟨none, .ext 3 (.t 2)⟩,
    ⟨none, .asg 2 (.t 3)⟩,
    ⟨none, .mv (.t 4)⟩,
    ⟨none, .mv (.t 5)⟩,
    ⟨none, .mv (.t 6)⟩] [])
  (.seq (.ops [] [⟨none, .mv (.v 2)⟩,
    ⟨none, .bin .eql (.t 0) (.i 0)⟩,
    ⟨none, .asg 1 (.t 1)⟩] [])
  .ret))))
def tr_impl_Category_isCategory : List Nat := [0, 2, 3]
def rs_impl_Category_isCategory : List RS := [.t 1]
theorem ok_impl_Category_isCategory : fnOk Go.Proofs.Try.prog Go.Proofs.Try.f68 tr_impl_Category_isCategory c_impl_Category_isCategory 1 rs_impl_Category_isCategory = true := by decide +kernel

theorem ret_impl_Category_isCategory (c : Cat) : Ret Go.Proofs.Try.prog 68 [.v (.ptr c.cells)] (.bool c.isB) := by
  refine ret_fn Go.Proofs.Try.func68 ok_impl_Category_isCategory rfl (show 1 < 500 by decide) rfl ?_; unfold c_impl_Category_isCategory tr_impl_Category_isCategory rs_impl_Category_isCategory; simp only [go_sem, Nat.reduceLT, Nat.reduceAdd, Nat.reduceSub, ↓reduceIte]
  refine call_of (ret_impl_Category_isShape c) rfl (.inl rfl) ?_
  simp only [go_sem, Nat.reduceLT, Nat.reduceAdd, Nat.reduceSub, ↓reduceIte]
  refine ⟨fun h => ?_, fun h => ?_⟩
  · unfold Cat.isB; rw [Bool.not_eq_true'] at h; rw [h]; rfl
  rw [Bool.not_eq_false'] at h
  refine call_of (ret_impl_Category_fault c (Cat.shapeB_iff.1 h)) rfl (.inl rfl) ?_
  simp only [fd]
  simp only [go_sem, Nat.reduceLT, Nat.reduceAdd, Nat.reduceSub, ↓reduceIte]
  unfold Cat.isB; rw [h]; rfl
-- impl.areBound
def c_impl_areBound : C :=
  (.seq (.ops [] [⟨none, .asg 1 (.k (.bool false))⟩] [])
  (.seq (.seq (.ops [3] [⟨none, .mv (.v 0)⟩,
    ⟨none, .len (.t 0)⟩,
    ⟨none, .asg 4 (.i 0)⟩] [(3, 1)])
  (.block 0 (.loop (.opq [] [⟨none, .bin .lss (.v 4) (.v 3)⟩] [] (.t 0) .skip
  (.exit 0)
  (.seq (.block 1 (.seq (.ops [] [⟨none, .mv (.v 4)⟩,
    ⟨none, .asg 2 (.t 0)⟩] [])
  (.opc [] [⟨none, .mv (.v 0)⟩,
    ⟨none, .mv (.v 2)⟩,
    ⟨none, .idxA 6 (.t 0) (.t 1)⟩,
    ⟨none, .fA 0 (.t 2)⟩,
    ⟨none, .ld (.t 3)⟩,
    ⟨none, .call 97 [(.t 4)]⟩,
    ⟨none, .not (.t 5)⟩,
    ⟨none, .mv (.t 6)⟩,
    ⟨some (7, false), .mv (.v 2)⟩,
    ⟨some (7, false), .bin .gtr (.t 8) (.i 0)⟩,
    ⟨some (7, false), .mv (.t 9)⟩,
    ⟨some (10, true), .mv (.v 0)⟩,
    ⟨some (10, true), .mv (.v 2)⟩,
    ⟨some (10, true), .bin .sub (.t 12) (.i 1)⟩,
    ⟨some (10, true), .idxA 6 (.t 11) (.t 13)⟩,
    ⟨some (10, true), .fA 0 (.t 14)⟩,
    ⟨some (10, true), .ld (.t 15)⟩,
    ⟨some (10, true), .mv (.v 0)⟩,
    ⟨some (10, true), .mv (.v 2)⟩,
    ⟨some (10, true), .idxA 6 (.t 17) (.t 18)⟩,
    ⟨some (10, true), .fA 0 (.t 19)⟩,
    ⟨some (10, true), .ld (.t 20)⟩,
    ⟨some (10, true), .bin .geq (.t 16) (.t 21)⟩,
    ⟨some (7, false), .pick (.t 10) (.t 22) (.k (.bool false))⟩,
    ⟨none, .pick (.t 7) (.k (.bool true)) (.t 23)⟩,
    ⟨none, .mv (.t 24)⟩,
    ⟨some (25, false), .mv (.v 0)⟩,
    ⟨some (25, false), .mv (.v 2)⟩,
    ⟨some (25, false), .idxA 6 (.t 26) (.t 27)⟩,
    ⟨some (25, false), .fA 1 (.t 28)⟩,
    ⟨some (25, false), .call 68 [(.t 29)]⟩,
    ⟨some (25, false), .not (.t 30)⟩,
    ⟨none, .pick (.t 25) (.k (.bool true)) (.t 31)⟩] [] (.t 32) (.seq (.ops [] [⟨none, .asg 1 (.k (.bool false))⟩] [])
  .ret)
  .skip)))
  (.ops [] [⟨none, .bin .add (.v 4) (.i 1)⟩,
    ⟨none, .asg 4 (.t 0)⟩] []))))))
  (.seq (.ops [] [⟨none, .asg 1 (.k (.bool true))⟩] [])
  .ret)))
def tr_impl_areBound : List Nat := [0, 2, 3, 5, 6]
def rs_impl_areBound : List RS := [.t 1]
theorem ok_impl_areBound : fnOk Go.Proofs.Try.prog Go.Proofs.Try.f53 tr_impl_areBound c_impl_areBound 1 rs_impl_areBound = true := by decide +kernel

theorem ret_impl_areBound (l : List Bnd) : Ret Go.Proofs.Try.prog 53 [.v (lst Bnd.d Bnd.zero l)] (.bool (bndB l)) := by
  refine ret_wf fun hw => ?_
  simp only [argsWf, wfd_lst] at hw
  have hm := hw.1.1
  clear hw
  refine ret_fn Go.Proofs.Try.func53 ok_impl_areBound rfl (show 1 < 500 by decide) rfl ?_; unfold c_impl_areBound tr_impl_areBound rs_impl_areBound; simp only [go_sem, Nat.reduceLT, Nat.reduceAdd, Nat.reduceSub, ↓reduceIte]
  refine loop_set [2] (fun (i : Nat) => [(4, .int .i64 i)]) (fun i => i ≤ l.length ∧ allB i (bI l) = true) (fun i => l.length - i) 0 (by simp only [go_sem, Nat.reduceLT, ↓reduceIte]; rfl) ⟨Nat.zero_le _, rfl⟩ rfl ?_
  rintro i ⟨hi, ha⟩
  simp only [go_sem, Nat.reduceLT, Nat.reduceAdd, Nat.reduceSub, ↓reduceIte]
  refine ⟨fun h => ⟨h, call_of (ret_impl_isLetter _) rfl (.inl rfl) ?_⟩, fun h => ?_⟩
  · simp only [go_sem, Nat.reduceLT, Nat.reduceAdd, Nat.reduceSub, ↓reduceIte]
    have hb : bI l i = (isL (l.getD i Bnd.zero).nm && (l.getD i Bnd.zero).cat.isB && (decide (i = 0) || Op.bytesLess (l.getD (i - 1) Bnd.zero).nm (l.getD i Bnd.zero).nm)) := rfl
    have hc : (decide (0 < (i : Int)) && !Op.bytesLess (l.getD (IntKind.i64.wrap ((i : Int) - 1)).toNat Bnd.zero).nm (l.getD i Bnd.zero).nm) = !(decide (i = 0) || Op.bytesLess (l.getD (i - 1) Bnd.zero).nm (l.getD i Bnd.zero).nm) := by
      by_cases hi0 : i = 0
      · subst hi0; simp
      · rw [wrap_pred (by omega) (by omega), Int.toNat_natCast]
        have e1 : decide (0 < (i : Int)) = true := by simp; omega
        have e2 : decide (i = 0) = false := by simpa using hi0
        rw [e1, e2]; simp
    rw [hc]
    generalize isL (l.getD i Bnd.zero).nm = b1 at hb
    generalize (decide (i = 0) || Op.bytesLess (l.getD (i - 1) Bnd.zero).nm (l.getD i Bnd.zero).nm) = b3 at hb
    refine ⟨fun h2 => ⟨h2, ?_⟩, fun h2 => ⟨h2, h⟩, fun h2 => ⟨h2, fun h3 => by rw [h2]; simpa using h3⟩, fun h2 => by rw [Bool.not_eq_false'] at h2; exact h2, fun h2 => ⟨h2, h⟩, ?_⟩
    · have : 0 < i := by simp at h2; omega
      rw [wrap_pred this (by omega)]; omega
    refine callg_of (fun h => ret_impl_Category_isCategory (l.getD i Bnd.zero).cat) rfl (fun h => h) (.inl rfl) ?_
    simp only [go_sem, Nat.reduceLT, Nat.reduceAdd, Nat.reduceSub, ↓reduceIte]
    generalize (l.getD i Bnd.zero).cat.isB = b2 at hb
    have hbb : (!b1 || !b3 || !b2) = !bI l i := by rw [hb]; cases b1 <;> cases b2 <;> cases b3 <;> rfl
    rw [hbb]
    refine ⟨fun h2 => by revert h2; cases b1 <;> cases b3 <;> simp, fun h2 => ?_, fun h2 => ?_⟩
    · exact (allB_stop h (by simpa using h2)).symm
    · exact ⟨i + 1, ⟨by omega, allB_succ ha (by simpa using h2)⟩, by omega, by rw [wrap_lt h hm]⟩
  · have : i = l.length := by omega
    subst this
    exact ha.symm
-- impl.AreBound
def c_impl_AreBound : C :=
  (.seq (.ops [] [⟨none, .asg 1 (.k (.bool false))⟩] [])
  (.seq (.ops [] [⟨none, .mv (.v 0)⟩,
    ⟨none, .call 53 [(.t 0)]⟩,
    ⟨none, .asg 1 (.t 1)⟩] [])
  .ret))
def tr_impl_AreBound : List Nat := [0, 2]
def rs_impl_AreBound : List RS := [.t 1]
theorem ok_impl_AreBound : fnOk Go.Proofs.Try.prog Go.Proofs.Try.f14 tr_impl_AreBound c_impl_AreBound 1 rs_impl_AreBound = true := by decide +kernel

theorem ret_impl_AreBound (l : List Bnd) : Ret Go.Proofs.Try.prog 14 [.v (lst Bnd.d Bnd.zero l)] (.bool (bndB l)) := by
  refine ret_fn Go.Proofs.Try.func14 ok_impl_AreBound rfl (show 1 < 500 by decide) rfl ?_; unfold c_impl_AreBound tr_impl_AreBound rs_impl_AreBound; simp only [go_sem, Nat.reduceLT, Nat.reduceAdd, Nat.reduceSub, ↓reduceIte]
  refine call_of (ret_impl_areBound l) rfl (.inl rfl) ?_
  simp only [go_sem, Nat.reduceLT, Nat.reduceAdd, Nat.reduceSub, ↓reduceIte]
end Go.D3
