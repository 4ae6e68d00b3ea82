/- CONTRACTS: small functions that set functors need. -/
import Derived.Test.YtclmdejmogmifaaGI
import Derived.Test.YtclmdejmogmifaaGB
import Derived.Test.YtclmdejmogmifaaGH
/- CONTRACTS: whether a thing is a set functor, by the reference. -/
namespace Go.D3
open Go
set_option maxRecDepth 100000
-- spec.l19Shape
def c_spec_l19Shape : C :=
  (.seq (.ops [2] [⟨none, .boxv 7 (.v 0)⟩,
    ⟨none, .asg 1 (.k (.bool false))⟩] [(2, 0)])
  (.seq (.opc [] [⟨none, .fA 0 (.v 2)⟩,
    ⟨none, .lda 5 (.t 0)⟩,
    ⟨none, .call 51 [(.t 1)]⟩,
    ⟨none, .not (.t 2)⟩,
    ⟨none, .mv (.t 3)⟩,
    ⟨some (4, false), .fA 5 (.v 2)⟩,
    ⟨some (4, false), .ld (.t 5)⟩,
    ⟨some (4, false), .len (.t 6)⟩,
    ⟨some (4, false), .fA 0 (.v 2)⟩,
    ⟨some (4, false), .fA 0 (.t 8)⟩,
    ⟨some (4, false), .ld (.t 9)⟩,
    ⟨some (4, false), .bin .neq (.t 7) (.t 10)⟩,
    ⟨none, .pick (.t 4) (.k (.bool true)) (.t 11)⟩,
    ⟨none, .mv (.t 12)⟩,
    ⟨some (13, false), .fA 6 (.v 2)⟩,
    ⟨some (13, false), .ld (.t 14)⟩,
    ⟨some (13, false), .len (.t 15)⟩,
    ⟨some (13, false), .fA 0 (.v 2)⟩,
    ⟨some (13, false), .fA 1 (.t 17)⟩,
    ⟨some (13, false), .ld (.t 18)⟩,
    ⟨some (13, false), .len (.t 19)⟩,
    ⟨some (13, false), .bin .neq (.t 16) (.t 20)⟩,
    ⟨none, .pick (.t 13) (.k (.bool true)) (.t 21)⟩] [] (.t 22) (.seq (.ops [] [⟨none, .asg 1 (.k (.bool false))⟩] [])
  .ret)
  .skip)
  (.seq (.seq (.ops [] [⟨none, .asg 3 (.i 0)⟩] [])
  (.block 0 (.loop (.seq (.opc [] [⟨none, .mv (.v 3)⟩,
    ⟨none, .fA 5 (.v 2)⟩,
    ⟨none, .ld (.t 1)⟩,
    ⟨none, .len (.t 2)⟩,
    ⟨none, .bin .lss (.t 0) (.t 3)⟩] [] (.t 4) .skip
  (.exit 0))
  (.seq (.block 1 (.opc [] [⟨none, .fA 5 (.v 2)⟩,
    ⟨none, .ld (.t 0)⟩,
    ⟨none, .mv (.v 3)⟩,
    ⟨none, .idxA 1 (.t 1) (.t 2)⟩,
    ⟨none, .ld (.t 3)⟩,
    ⟨none, .call 140 [(.t 4), (.i 0), (.i 16)]⟩,
    ⟨none, .not (.t 5)⟩] [] (.t 6) (.seq (.ops [] [⟨none, .asg 1 (.k (.bool false))⟩] [])
  .ret)
  .skip))
  (.ops [] [⟨none, .mv (.v 3)⟩,
    ⟨none, .bin .add (.t 0) (.i 1)⟩,
    ⟨none, .asg 3 (.t 1)⟩] []))))))
  (.seq (.seq (.ops [] [⟨none, .asg 4 (.i 0)⟩] [])
  (.block 2 (.loop (.seq (.opc [] [⟨none, .mv (.v 4)⟩,
    ⟨none, .fA 6 (.v 2)⟩,
    ⟨none, .ld (.t 1)⟩,
    ⟨none, .len (.t 2)⟩,
    ⟨none, .bin .lss (.t 0) (.t 3)⟩] [] (.t 4) .skip
  (.exit 2))
  (.seq (.block 3 (.opc [] [⟨none, .fA 6 (.v 2)⟩,
    ⟨none, .ld (.t 0)⟩,
    ⟨none, .mv (.v 4)⟩,
    ⟨none, .idxA 1 (.t 1) (.t 2)⟩,
    ⟨none, .ld (.t 3)⟩,
    ⟨none, .len (.t 4)⟩,
    ⟨none, .fA 5 (.v 2)⟩,
    ⟨none, .ld (.t 6)⟩,
    ⟨none, .fA 0 (.v 2)⟩,
    ⟨none, .fA 1 (.t 8)⟩,
    ⟨none, .ld (.t 9)⟩,
    ⟨none, .mv (.v 4)⟩,
    ⟨none, .idxA 1 (.t 10) (.t 11)⟩,
    ⟨none, .ld (.t 12)⟩,
    ⟨none, .idxA 1 (.t 7) (.t 13)⟩,
    ⟨none, .ld (.t 14)⟩,
    ⟨none, .bin .neq (.t 5) (.t 15)⟩,
    ⟨none, .mv (.t 16)⟩,
    ⟨some (17, false), .fA 5 (.v 2)⟩,
    ⟨some (17, false), .ld (.t 18)⟩,
    ⟨some (17, false), .fA 0 (.v 2)⟩,
    ⟨some (17, false), .fA 2 (.t 20)⟩,
    ⟨some (17, false), .ld (.t 21)⟩,
    ⟨some (17, false), .mv (.v 4)⟩,
    ⟨some (17, false), .idxA 1 (.t 22) (.t 23)⟩,
    ⟨some (17, false), .ld (.t 24)⟩,
    ⟨some (17, false), .idxA 1 (.t 19) (.t 25)⟩,
    ⟨some (17, false), .ld (.t 26)⟩,
    ⟨some (17, false), .fA 6 (.v 2)⟩,
    ⟨some (17, false), .ld (.t 28)⟩,
    ⟨some (17, false), .mv (.v 4)⟩,
    ⟨some (17, false), .idxA 1 (.t 29) (.t 30)⟩,
    ⟨some (17, false), .ld (.t 31)⟩,
    ⟨some (17, false), .call 142 [(.t 27), (.t 32)]⟩,
    ⟨some (17, false), .not (.t 33)⟩,
    ⟨none, .pick (.t 17) (.k (.bool true)) (.t 34)⟩] [] (.t 35) (.seq (.ops [] [⟨none, .asg 1 (.k (.bool false))⟩] [])
  .ret)
  .skip))
  (.ops [] [⟨none, .mv (.v 4)⟩,
    ⟨none, .bin .add (.t 0) (.i 1)⟩,
    ⟨none, .asg 4 (.t 1)⟩] []))))))
  (.seq (.ops [] [⟨none, .asg 1 (.k (.bool true))⟩] [])
  .ret)))))
def tr_spec_l19Shape : List Nat := [0, 2, 1, 3, 4]
def rs_spec_l19Shape : List RS := [.t 1]
theorem ok_spec_l19Shape : fnOk Go.Proofs.Try.prog Go.Proofs.Try.f122 tr_spec_l19Shape c_spec_l19Shape 1 rs_spec_l19Shape = true := by decide +kernel

theorem ret_spec_l19Shape (f : Sf) : Ret Go.Proofs.Try.prog 122 [.v f.d] (.bool f.shapeB) := by
  refine ret_fn Go.Proofs.Try.func122 ok_spec_l19Shape rfl (show 1 < 500 by decide) rfl ?_; unfold c_spec_l19Shape tr_spec_l19Shape rs_spec_l19Shape; simp only [go_sem, Nat.reduceLT, Nat.reduceAdd, Nat.reduceSub, Nat.reduceLeDiff, ↓reduceIte]
  refine call_of (ret_spec_l02Is f.shp) rfl (.inl rfl) ?_
  simp only [go_sem, Nat.reduceLT, Nat.reduceAdd, Nat.reduceSub, ↓reduceIte]
  refine ⟨fun h => by simpa using h, fun h => by simpa using h, fun h => ?_, fun h => ?_⟩
  · symm
    cases hs : f.shapeB with
    | false => rfl
    | true =>
      have hp := Sf.shapeB_iff.1 hs
      have h2 := hp.szl
      have h3 := hp.cs.idn
      have h4 := hp.actl
      simp [hp.cat] at h
      omega
  have hp : f.shp.isB = true ∧ f.sz.length = f.shp.idn.length ∧ f.act.length = f.shp.fr.length := by
    simp only [Bool.or_eq_false_iff, Bool.not_eq_false', bne_eq_false_iff_eq] at h
    obtain ⟨⟨h1, h2⟩, h3⟩ := h
    have := (Cat.isB_shape h1).idn
    exact ⟨h1, by omega, by omega⟩
  clear h
  obtain ⟨hcat, hszl, hactl⟩ := hp
  have hc := Cat.isB_shape hcat
  have hob := hc.idn
  have hob8 := hc.idl
  have hfl := hc.fr
  refine loop_set [] (fun (x : Nat) => [(3, .int .i64 x)]) (fun x => x ≤ f.sz.length ∧ mapB 17 (f.sz.take x) = true) (fun x => f.sz.length - x) 0 (by simp only [go_sem]; rfl) ⟨Nat.zero_le _, rfl⟩ rfl ?_
  rintro x ⟨hx, ha⟩
  simp only [go_sem, Nat.reduceLT, Nat.reduceAdd, Nat.reduceSub, ↓reduceIte]
  refine ⟨fun h => ⟨h, call_of (ret_spec_l01In _ _ _) rfl (.inl rfl) ?_⟩, fun h => ?_⟩
  · simp only [go_sem, Nat.reduceLT, Nat.reduceAdd, Nat.reduceSub, ↓reduceIte]
    refine ⟨fun h2 => ?_, fun h2 => ⟨x + 1, ⟨by omega, all_step (d := 0) h ha ?_⟩, by omega, by rw [wrap_lt h (by simp only [maxLen]; omega)]⟩⟩
    · symm
      have : mapB 17 f.sz = false := all_stop (d := 0) h (by
        simp only [inR, Bool.not_eq_true', Bool.and_eq_false_iff, decide_eq_false_iff_not] at h2
        simp only [Bool.and_eq_false_iff, decide_eq_false_iff_not]; omega)
      unfold Sf.shapeB Sf.preB
      rw [this]; simp
    · simp only [inR, Bool.not_eq_false', Bool.and_eq_true, decide_eq_true_eq] at h2
      simp only [Bool.and_eq_true, decide_eq_true_eq]; omega
  have hszm : mapB 17 f.sz = true := all_end (by omega) ha
  have hpre : f.preB = true := Sf.preB_iff.2 ⟨hcat, hszl, hszm, hactl⟩
  clear ha h hx
  refine loop_set [] (fun (a : Nat) => [(4, .int .i64 a)]) (fun a => a ≤ f.act.length ∧ allB a f.actB = true) (fun a => f.act.length - a) 0 (by simp only [go_sem]; rfl) ⟨Nat.zero_le _, rfl⟩ rfl ?_
  rintro a ⟨hx, hb⟩
  simp only [go_sem, Nat.reduceLT, Nat.reduceAdd, Nat.reduceSub, ↓reduceIte]
  refine ⟨fun h => ?_, fun h => ?_⟩
  · have e1 := hc.fri (f := a) (by omega)
    have e2 := hc.toi (f := a) (by omega)
    have hto := hc.to
    refine ⟨h, by omega, by omega, fun h2 => ⟨h2, by omega⟩, fun h2 => ⟨h2, by omega⟩, fun h2 => ⟨h2, h⟩, ?_⟩
    refine callg_of (fun _ => ret_spec_l01Map _ _) rfl (fun h => h) (.inl rfl) ?_
    simp only [go_sem, Nat.reduceLT, Nat.reduceAdd, Nat.reduceSub, ↓reduceIte]
    have hab : (((f.act.getD a []).length : Int) != f.sz.getD (f.shp.fr.getD a 0).toNat 0 || !mapB (f.sz.getD (f.shp.to.getD a 0).toNat 0) (f.act.getD a [])) = !f.actB a := by
      unfold Sf.actB; rw [Bool.not_and]; rfl
    rw [hab]
    refine ⟨fun h2 => by simpa using h2, fun h2 => ?_, fun h2 => ?_⟩
    · have := allB_stop h (show f.actB a = false by simpa using h2)
      symm; unfold Sf.shapeB; rw [this]; simp
    · exact ⟨a + 1, ⟨by omega, allB_succ hb (by simpa using h2)⟩, by omega, by rw [wrap_lt h (by simp only [maxLen]; omega)]⟩
  · have : a = f.act.length := by omega
    subst this
    unfold Sf.shapeB
    rw [hpre, hb]; rfl

-- spec.l19Fault
def c_spec_l19Fault : C :=
  (.seq (.ops [5] [⟨none, .boxv 7 (.v 0)⟩,
    ⟨none, .asg 1 (.i 0)⟩,
    ⟨none, .asg 2 (.i 0)⟩,
    ⟨none, .asg 3 (.i 0)⟩,
    ⟨none, .asg 4 (.i 0)⟩] [(5, 0)])
  (.seq (.ops [6] [⟨none, .fA 0 (.v 5)⟩,
    ⟨none, .lda 5 (.t 0)⟩,
    ⟨none, .alc [.int .i64 0, .nils (.int .i64 0), .nils (.int .i64 0), .nils (.int .i64 0), .nils (ints [])]⟩,
    ⟨none, .stn 5 (.t 2) (.t 1)⟩] [(6, 2)])
  (.seq (.seq (.ops [] [⟨none, .asg 7 (.i 0)⟩] [])
  (.block 0 (.loop (.seq (.opc [] [⟨none, .mv (.v 7)⟩,
    ⟨none, .fA 0 (.v 6)⟩,
    ⟨none, .ld (.t 1)⟩,
    ⟨none, .bin .lss (.t 0) (.t 2)⟩] [] (.t 3) .skip
  (.exit 0))
  (.seq (.block 1 (.seq (.ops [] [⟨none, .asg 8 (.i 0)⟩] [])
  (.block 2 (.loop (.seq (.opc [] [⟨none, .mv (.v 8)⟩,
    ⟨none, .fA 5 (.v 5)⟩,
    ⟨none, .ld (.t 1)⟩,
    ⟨none, .mv (.v 7)⟩,
    ⟨none, .idxA 1 (.t 2) (.t 3)⟩,
    ⟨none, .ld (.t 4)⟩,
    ⟨none, .bin .lss (.t 0) (.t 5)⟩] [] (.t 6) .skip
  (.exit 2))
  (.seq (.block 3 (.opc [] [⟨none, .fA 6 (.v 5)⟩,
    ⟨none, .ld (.t 0)⟩,
    ⟨none, .fA 3 (.v 6)⟩,
    ⟨none, .ld (.t 2)⟩,
    ⟨none, .mv (.v 7)⟩,
    ⟨none, .idxA 1 (.t 3) (.t 4)⟩,
    ⟨none, .ld (.t 5)⟩,
    ⟨none, .idxA 1 (.t 1) (.t 6)⟩,
    ⟨none, .ld (.t 7)⟩,
    ⟨none, .mv (.v 8)⟩,
    ⟨none, .idxA 1 (.t 8) (.t 9)⟩,
    ⟨none, .ld (.t 10)⟩,
    ⟨none, .mv (.v 8)⟩,
    ⟨none, .bin .neq (.t 11) (.t 12)⟩] [] (.t 13) (.seq (.ops [] [⟨none, .mv (.v 7)⟩,
    ⟨none, .mv (.v 8)⟩,
    ⟨none, .asg 1 (.i 1)⟩,
    ⟨none, .asg 2 (.t 0)⟩,
    ⟨none, .asg 3 (.t 1)⟩,
    ⟨none, .asg 4 (.i 0)⟩] [])
  .ret)
  .skip))
  (.ops [] [⟨none, .mv (.v 8)⟩,
    ⟨none, .bin .add (.t 0) (.i 1)⟩,
    ⟨none, .asg 8 (.t 1)⟩] [])))))))
  (.ops [] [⟨none, .mv (.v 7)⟩,
    ⟨none, .bin .add (.t 0) (.i 1)⟩,
    ⟨none, .asg 7 (.t 1)⟩] []))))))
  (.seq (.seq (.ops [] [⟨none, .asg 9 (.i 0)⟩] [])
  (.block 4 (.loop (.seq (.opc [] [⟨none, .mv (.v 9)⟩,
    ⟨none, .fA 1 (.v 6)⟩,
    ⟨none, .ld (.t 1)⟩,
    ⟨none, .len (.t 2)⟩,
    ⟨none, .bin .lss (.t 0) (.t 3)⟩] [] (.t 4) .skip
  (.exit 4))
  (.seq (.block 5 (.seq (.ops [] [⟨none, .asg 10 (.i 0)⟩] [])
  (.block 6 (.loop (.seq (.opc [] [⟨none, .mv (.v 10)⟩,
    ⟨none, .fA 1 (.v 6)⟩,
    ⟨none, .ld (.t 1)⟩,
    ⟨none, .len (.t 2)⟩,
    ⟨none, .bin .lss (.t 0) (.t 3)⟩] [] (.t 4) .skip
  (.exit 6))
  (.seq (.block 7 (.seq (.opc [] [⟨none, .fA 2 (.v 6)⟩,
    ⟨none, .ld (.t 0)⟩,
    ⟨none, .mv (.v 9)⟩,
    ⟨none, .idxA 1 (.t 1) (.t 2)⟩,
    ⟨none, .ld (.t 3)⟩,
    ⟨none, .fA 1 (.v 6)⟩,
    ⟨none, .ld (.t 5)⟩,
    ⟨none, .mv (.v 10)⟩,
    ⟨none, .idxA 1 (.t 6) (.t 7)⟩,
    ⟨none, .ld (.t 8)⟩,
    ⟨none, .bin .neq (.t 4) (.t 9)⟩] [] (.t 10) (.exit 7)
  .skip)
  (.seq (.ops [] [⟨none, .asg 11 (.i 0)⟩] [])
  (.block 8 (.loop (.seq (.opc [] [⟨none, .mv (.v 11)⟩,
    ⟨none, .fA 5 (.v 5)⟩,
    ⟨none, .ld (.t 1)⟩,
    ⟨none, .fA 1 (.v 6)⟩,
    ⟨none, .ld (.t 3)⟩,
    ⟨none, .mv (.v 9)⟩,
    ⟨none, .idxA 1 (.t 4) (.t 5)⟩,
    ⟨none, .ld (.t 6)⟩,
    ⟨none, .idxA 1 (.t 2) (.t 7)⟩,
    ⟨none, .ld (.t 8)⟩,
    ⟨none, .bin .lss (.t 0) (.t 9)⟩] [] (.t 10) .skip
  (.exit 8))
  (.seq (.block 9 (.opc [] [⟨none, .fA 6 (.v 5)⟩,
    ⟨none, .ld (.t 0)⟩,
    ⟨none, .fA 4 (.v 6)⟩,
    ⟨none, .ld (.t 2)⟩,
    ⟨none, .mv (.v 9)⟩,
    ⟨none, .idxA 1 (.t 3) (.t 4)⟩,
    ⟨none, .ld (.t 5)⟩,
    ⟨none, .mv (.v 10)⟩,
    ⟨none, .idxA 1 (.t 6) (.t 7)⟩,
    ⟨none, .ld (.t 8)⟩,
    ⟨none, .idxA 1 (.t 1) (.t 9)⟩,
    ⟨none, .ld (.t 10)⟩,
    ⟨none, .mv (.v 11)⟩,
    ⟨none, .idxA 1 (.t 11) (.t 12)⟩,
    ⟨none, .ld (.t 13)⟩,
    ⟨none, .fA 6 (.v 5)⟩,
    ⟨none, .ld (.t 15)⟩,
    ⟨none, .mv (.v 10)⟩,
    ⟨none, .idxA 1 (.t 16) (.t 17)⟩,
    ⟨none, .ld (.t 18)⟩,
    ⟨none, .fA 6 (.v 5)⟩,
    ⟨none, .ld (.t 20)⟩,
    ⟨none, .mv (.v 9)⟩,
    ⟨none, .idxA 1 (.t 21) (.t 22)⟩,
    ⟨none, .ld (.t 23)⟩,
    ⟨none, .mv (.v 11)⟩,
    ⟨none, .idxA 1 (.t 24) (.t 25)⟩,
    ⟨none, .ld (.t 26)⟩,
    ⟨none, .idxA 1 (.t 19) (.t 27)⟩,
    ⟨none, .ld (.t 28)⟩,
    ⟨none, .bin .neq (.t 14) (.t 29)⟩] [] (.t 30) (.seq (.ops [] [⟨none, .mv (.v 9)⟩,
    ⟨none, .mv (.v 10)⟩,
    ⟨none, .mv (.v 11)⟩,
    ⟨none, .asg 1 (.i 2)⟩,
    ⟨none, .asg 2 (.t 0)⟩,
    ⟨none, .asg 3 (.t 1)⟩,
    ⟨none, .asg 4 (.t 2)⟩] [])
  .ret)
  .skip))
  (.ops [] [⟨none, .mv (.v 11)⟩,
    ⟨none, .bin .add (.t 0) (.i 1)⟩,
    ⟨none, .asg 11 (.t 1)⟩] []))))))))
  (.ops [] [⟨none, .mv (.v 10)⟩,
    ⟨none, .bin .add (.t 0) (.i 1)⟩,
    ⟨none, .asg 10 (.t 1)⟩] [])))))))
  (.ops [] [⟨none, .mv (.v 9)⟩,
    ⟨none, .bin .add (.t 0) (.i 1)⟩,
    ⟨none, .asg 9 (.t 1)⟩] []))))))
  (.seq (.ops [] [⟨none, .asg 1 (.i 0)⟩,
    ⟨none, .asg 2 (.i 0)⟩,
    ⟨none, .asg 3 (.i 0)⟩,
    ⟨none, .asg 4 (.i 0)⟩] [])
  .ret)))))
def tr_spec_l19Fault : List Nat := [0, 2, 3, 4, 5, 1, 6, 7, 8, 9, 10, 11]
def rs_spec_l19Fault : List RS := [.t 1, .t 2, .t 3, .t 4]
theorem ok_spec_l19Fault : fnOk Go.Proofs.Try.prog Go.Proofs.Try.f123 tr_spec_l19Fault c_spec_l19Fault 1 rs_spec_l19Fault = true := by decide +kernel

theorem ret_spec_l19Fault (f : Sf) (hs : f.Shape) : Ret Go.Proofs.Try.prog 123 [.v f.d] (fd f.faultF) := by
  have hc := hs.cs
  have hob := hc.idn
  have hob8 := hc.idl
  have hfl := hc.fr
  have hto := hc.to
  have hco := hc.co
  have hszl := hs.szl
  have hactl := hs.actl
  refine ret_fn Go.Proofs.Try.func123 ok_spec_l19Fault rfl (show 1 < 500 by decide) rfl ?_; unfold c_spec_l19Fault tr_spec_l19Fault rs_spec_l19Fault; simp only [go_sem, Nat.reduceLT, Nat.reduceAdd, Nat.reduceSub, Nat.reduceLeDiff, ↓reduceIte]
  refine loop_set [8] (fun (x : Nat) => [(7, .int .i64 x)]) (fun x => x ≤ f.shp.idn.length ∧ ∀ x' e' : Nat, x' < x → e' < f.size (x' : Int) → f.idF x' e' = false) (fun x => f.shp.idn.length - x) 0 (by simp only [go_sem, Nat.reduceLT, ↓reduceIte]; rfl) ⟨Nat.zero_le _, fun _ _ h => absurd h (Nat.not_lt_zero _)⟩ rfl ?_
  rintro x ⟨hx, ha⟩
  simp only [go_sem, Nat.reduceLT, Nat.reduceAdd, Nat.reduceSub, Nat.reduceLeDiff, ↓reduceIte]
  refine ⟨fun h => ?_, fun h => ?_⟩
  · have hxl : x < f.shp.idn.length := by omega
    have hz := hs.szi (x := (x : Int)) (by omega) (by omega)
    have hi := hc.idx hxl
    rw [Int.toNat_natCast] at hz
    have hsz : f.size (x : Int) = (f.sz.getD x 0).toNat := rfl
    have hcid := hc.ids x hxl
    simp only [Cat.idB, Bool.and_eq_true, beq_iff_eq] at hcid
    have hrow := (hs.acl (a := (f.shp.idn.getD x 0).toNat) (by omega)).1
    rw [hcid.1] at hrow
    refine loop_set [] (fun (e : Nat) => [(8, .int .i64 e)]) (fun e => e ≤ f.size (x : Int) ∧ ∀ e', e' < e → f.idF x e' = false) (fun e => f.size (x : Int) - e) 0 (by simp only [go_sem]; rfl) ⟨Nat.zero_le _, fun _ h => absurd h (Nat.not_lt_zero _)⟩ rfl ?_
    rintro e ⟨he, hb⟩
    simp only [go_sem, Nat.reduceLT, Nat.reduceAdd, Nat.reduceSub, Nat.reduceLeDiff, ↓reduceIte]
    have hid : f.idF x e = ((f.act.getD (f.shp.idn.getD x 0).toNat []).getD e 0 != (e : Int)) := rfl
    rw [← hid]
    refine ⟨by omega, fun h2 => ⟨by omega, by omega, by omega, fun h3 => ?_, fun h3 => ⟨e + 1, ⟨by omega, ltS hb h3⟩, by omega, by rw [wrap_lt (n := 17) (by omega) (by simp only [maxLen]; omega)]⟩⟩, fun h2 => ?_⟩
    · rw [Sf.fault_id ha hxl hb (by omega) h3]; rfl
    · exact ⟨x + 1, ⟨by omega, fun x' e' h1 h2 => by
        by_cases hxx : x' = x
        · subst hxx; exact hb e' (by omega)
        · exact ha x' e' (by omega) h2⟩, by omega, by rw [wrap_lt hxl (by simp only [maxLen]; omega)]⟩
  have hx' : x = f.shp.idn.length := by omega
  subst hx'
  clear hx h
  refine loop_set [10, 11] (fun (a : Nat) => [(9, .int .i64 a)]) (fun a => a ≤ f.shp.fr.length ∧ ∀ a' b' e' : Nat, a' < a → b' < f.shp.fr.length → f.shp.to.getD a' 0 = f.shp.fr.getD b' 0 → e' < f.size (f.shp.fr.getD a' 0) → f.coF a' b' e' = false) (fun a => f.shp.fr.length - a) 0 (by simp only [go_sem, Nat.reduceLT, ↓reduceIte]; rfl) ⟨Nat.zero_le _, fun _ _ _ h => absurd h (Nat.not_lt_zero _)⟩ rfl ?_
  rintro a ⟨hal, hb⟩
  simp only [go_sem, Nat.reduceLT, Nat.reduceAdd, Nat.reduceSub, Nat.reduceLeDiff, ↓reduceIte]
  refine ⟨fun h1 => ?_, fun h1 => ?_⟩
  · refine loop_set [11] (fun (b : Nat) => [(10, .int .i64 b)]) (fun b => b ≤ f.shp.fr.length ∧ ∀ b' e' : Nat, b' < b → f.shp.to.getD a 0 = f.shp.fr.getD b' 0 → e' < f.size (f.shp.fr.getD a 0) → f.coF a b' e' = false) (fun b => f.shp.fr.length - b) 0 (by simp only [go_sem, Nat.reduceLT, ↓reduceIte]; rfl) ⟨Nat.zero_le _, fun _ _ h => absurd h (Nat.not_lt_zero _)⟩ rfl ?_
    rintro b ⟨hbl, hcc⟩
    simp only [go_sem, Nat.reduceLT, Nat.reduceAdd, Nat.reduceSub, Nat.reduceLeDiff, ↓reduceIte]
    have e1 := hc.fri h1
    have e2 := hc.toi h1
    have hz := hs.szi e1.1 e1.2
    have hsz : f.size (f.shp.fr.getD a 0) = (f.sz.getD (f.shp.fr.getD a 0).toNat 0).toNat := rfl
    have hac := (hs.acl h1).1
    refine ⟨fun h2 => ⟨by omega, h2, fun h3 => ?_, fun h3 => ?_⟩, fun h2 => ?_⟩
    · have h3' : f.shp.to.getD a 0 ≠ f.shp.fr.getD b 0 := by simpa using h3
      exact ⟨b + 1, ⟨by omega, fun b' e' k1 k2 k3 => by
        by_cases hbb : b' = b
        · subst hbb; exact absurd k2 h3'
        · exact hcc b' e' (by omega) k2 k3⟩, by omega, by rw [wrap_lt h2 (by simp only [maxLen]; omega)]⟩
    · have h3' : f.shp.to.getD a 0 = f.shp.fr.getD b 0 := by simpa using h3
      obtain ⟨c0, c1, c2, c3⟩ := hc.cell_in h1 h2 h3'
      have hrowl := hc.row a h1
      have hcl : f.shp.cellI a b = (f.shp.co.getD a []).getD b 0 := rfl
      have hac2 := (hs.acl h2).1
      have hac3 := (hs.acl (a := (f.shp.cellI a b).toNat) (by omega)).1
      rw [c2] at hac3
      rw [← h3'] at hac2
      refine loop_set [] (fun (e : Nat) => [(11, .int .i64 e)]) (fun e => e ≤ f.size (f.shp.fr.getD a 0) ∧ ∀ e' : Nat, e' < e → f.coF a b e' = false) (fun e => f.size (f.shp.fr.getD a 0) - e) 0 (by simp only [go_sem]; rfl) ⟨Nat.zero_le _, fun _ h => absurd h (Nat.not_lt_zero _)⟩ rfl ?_
      rintro e ⟨hel, hd⟩
      simp only [go_sem, Nat.reduceLT, Nat.reduceAdd, Nat.reduceSub, Nat.reduceLeDiff, ↓reduceIte]
      have hco' : f.coF a b e = ((f.act.getD (f.shp.cellI a b).toNat []).getD e 0 != (f.act.getD b []).getD ((f.act.getD a []).getD e 0).toNat 0) := rfl
      rw [← hcl]
      refine ⟨h1, by omega, fun h4 => ?_, fun h4 => ?_⟩
      · have hle : e < f.size (f.shp.fr.getD a 0) := by omega
        have h5 := hs.aci h1 (e := e) (by omega) (by omega)
        have h6 : f.ac a e = (f.act.getD a []).getD e 0 := rfl
        rw [← hco']
        refine ⟨by omega, by omega, by omega, by omega, by omega, by omega, by omega, by omega, fun h7 => ?_, fun h7 => ?_⟩
        · rw [Sf.fault_co ha hb hcc hd h1 h2 h3' hle h7]; rfl
        · exact ⟨e + 1, ⟨by omega, ltS hd h7⟩, by omega, by rw [wrap_lt (n := 17) (by omega) (by simp only [maxLen]; omega)]⟩
      · exact ⟨b + 1, ⟨by omega, fun b' e' k1 k2 k3 => by
          by_cases hbb : b' = b
          · subst hbb; exact hd e' (by omega)
          · exact hcc b' e' (by omega) k2 k3⟩, by omega, by rw [wrap_lt h2 (by simp only [maxLen]; omega)]⟩
    · have : b = f.shp.fr.length := by omega
      subst this
      exact ⟨a + 1, ⟨by omega, fun a' b' e' k1 k2 k3 k4 => by
        by_cases haa : a' = a
        · subst haa; exact hcc b' e' k2 k3 k4
        · exact hb a' b' e' (by omega) k2 k3 k4⟩, by omega, by rw [wrap_lt h1 (by simp only [maxLen]; omega)]⟩
  · have : a = f.shp.fr.length := by omega
    subst this
    rw [Sf.fault_no ha hb]; rfl

-- spec.l19Is
def c_spec_l19Is : C :=
  (.seq (.ops [2] [⟨none, .boxv 7 (.v 0)⟩,
    ⟨none, .asg 1 (.k (.bool false))⟩] [(2, 0)])
  (.seq (.opc [] [⟨none, .lda 7 (.v 2)⟩,
    ⟨none, .call 122 [(.t 0)]⟩,
    ⟨none, .not (.t 1)⟩] [] (.t 2) (.seq (.ops [] [⟨none, .asg 1 (.k (.bool false))⟩] [])
  .ret)
  .skip)
  (.seq (.ops [] [⟨none, .lda 7 (.v 2)⟩,
    ⟨none, .call 123 [(.t 0)]⟩,
    ⟨none, .mv (.t 1)⟩,
    ⟨none, .ext 0 (.t 2)⟩,
    ⟨none, .ext 1 (.t 2)⟩,
    ⟨none, .ext 2 (.t 2)⟩,
    ⟨none, .ext 3 (.t 2)⟩,
    ⟨none, .asg 3 (.t 3)⟩,
    ⟨none, .mv (.t 4)⟩,
    ⟨none, .mv (.t 5)⟩,
    ⟨none, .mv (.t 6)⟩] [])
  (.seq (.ops [] [⟨none, .mv (.v 3)⟩,
    ⟨none, .bin .eql (.t 0) (.i 0)⟩,
    ⟨none, .asg 1 (.t 1)⟩] [])
  .ret))))
def tr_spec_l19Is : List Nat := [0, 2, 1, 3]
def rs_spec_l19Is : List RS := [.t 1]
theorem ok_spec_l19Is : fnOk Go.Proofs.Try.prog Go.Proofs.Try.f81 tr_spec_l19Is c_spec_l19Is 1 rs_spec_l19Is = true := by decide +kernel

theorem ret_spec_l19Is (f : Sf) : Ret Go.Proofs.Try.prog 81 [.v f.d] (.bool f.isB) := by
  refine ret_fn Go.Proofs.Try.func81 ok_spec_l19Is rfl (show 1 < 500 by decide) rfl ?_; unfold c_spec_l19Is tr_spec_l19Is rs_spec_l19Is; simp only [go_sem, Nat.reduceLT, Nat.reduceAdd, Nat.reduceSub, Nat.reduceLeDiff, ↓reduceIte]
  refine call_of (ret_spec_l19Shape f) rfl (.inl rfl) ?_
  simp only [go_sem, Nat.reduceLT, Nat.reduceAdd, Nat.reduceSub, Nat.reduceLeDiff, ↓reduceIte]
  refine ⟨fun h => ?_, fun h => ?_⟩
  · unfold Sf.isB; rw [Bool.not_eq_true'] at h; rw [h]; rfl
  rw [Bool.not_eq_false'] at h
  refine call_of (ret_spec_l19Fault f (Sf.shapeB_iff.1 h)) rfl (.inl rfl) ?_
  simp only [fd]
  simp only [go_sem, Nat.reduceLT, Nat.reduceAdd, Nat.reduceSub, ↓reduceIte]
  unfold Sf.isB; rw [h]; rfl
end Go.D3

/- CONTRACTS: whether a thing is a set functor, by the program. -/
namespace Go.D3
open Go
set_option maxRecDepth 100000
set_option maxHeartbeats 4000000
-- impl.isMapOf
def c_impl_isMapOf : C :=
  (.seq (.ops [] [⟨none, .asg 3 (.k (.bool false))⟩] [])
  (.seq (.ops [] [⟨none, .mv (.v 0)⟩,
    ⟨none, .len (.t 0)⟩,
    ⟨none, .mv (.v 1)⟩,
    ⟨none, .bin .eql (.t 1) (.t 2)⟩,
    ⟨none, .mv (.t 3)⟩,
    ⟨some (4, true), .mv (.v 0)⟩,
    ⟨some (4, true), .mv (.v 2)⟩,
    ⟨some (4, true), .call 100 [(.t 5), (.t 6)]⟩,
    ⟨none, .pick (.t 4) (.t 7) (.k (.bool false))⟩,
    ⟨none, .asg 3 (.t 8)⟩] [])
  .ret))
def tr_impl_isMapOf : List Nat := [0, 1, 2, 6]
def rs_impl_isMapOf : List RS := [.t 3]
theorem ok_impl_isMapOf : fnOk Go.Proofs.Try.prog Go.Proofs.Try.f159 tr_impl_isMapOf c_impl_isMapOf 3 rs_impl_isMapOf = true := by decide +kernel

theorem ret_impl_isMapOf (l : List Int) (m n : Int) (hn : 0 ≤ n) : Ret Go.Proofs.Try.prog 159 [.v (ints l), .v (.int .i64 m), .v (.int .i64 n)] (.bool ((l.length : Int) == m && mapB n l)) := by
  refine ret_fn Go.Proofs.Try.func159 ok_impl_isMapOf rfl (show 3 < 500 by decide) rfl ?_; unfold c_impl_isMapOf tr_impl_isMapOf rs_impl_isMapOf; simp only [go_sem, Nat.reduceLT, Nat.reduceAdd, Nat.reduceSub, ↓reduceIte]
  refine callg_of (fun _ => ret_impl_within n l hn) rfl (fun h => h) (.inl rfl) ?_
  simp only [go_sem, Nat.reduceLT, Nat.reduceAdd, Nat.reduceSub, ↓reduceIte]

-- (*impl.SetFunctor).isShape
def c_impl_SetFunctor_isShape : C :=
  (.seq (.ops [] [⟨none, .asg 1 (.k (.bool false))⟩] [])
  (.seq (.ops [] [⟨none, .mv (.v 0)⟩,
    ⟨none, .nck (.t 0)⟩,
    ⟨none, .fA 0 (.t 1)⟩,
    ⟨none, .asg 2 (.t 2)⟩] [])
  (.seq (.opc [] [⟨none, .mv (.v 2)⟩,
    ⟨none, .call 68 [(.t 0)]⟩,
    ⟨none, .not (.t 1)⟩,
    ⟨none, .mv (.t 2)⟩,
    ⟨some (3, false), .mv (.v 0)⟩,
    ⟨some (3, false), .nck (.t 4)⟩,
    ⟨some (3, false), .fA 5 (.t 5)⟩,
    ⟨some (3, false), .ld (.t 6)⟩,
    ⟨some (3, false), .len (.t 7)⟩,
    ⟨some (3, false), .mv (.v 2)⟩,
    ⟨some (3, false), .nck (.t 9)⟩,
    ⟨some (3, false), .fA 0 (.t 10)⟩,
    ⟨some (3, false), .ld (.t 11)⟩,
    ⟨some (3, false), .bin .neq (.t 8) (.t 12)⟩,
    ⟨none, .pick (.t 3) (.k (.bool true)) (.t 13)⟩,
    ⟨none, .mv (.t 14)⟩,
    ⟨some (15, false), .mv (.v 0)⟩,
    ⟨some (15, false), .nck (.t 16)⟩,
    ⟨some (15, false), .fA 5 (.t 17)⟩,
    ⟨some (15, false), .ld (.t 18)⟩,
    ⟨some (15, false), .call 100 [(.t 19), (.i 17)]⟩,
    ⟨some (15, false), .not (.t 20)⟩,
    ⟨none, .pick (.t 15) (.k (.bool true)) (.t 21)⟩,
    ⟨none, .mv (.t 22)⟩,
    ⟨some (23, false), .mv (.v 0)⟩,
    ⟨some (23, false), .nck (.t 24)⟩,
    ⟨some (23, false), .fA 6 (.t 25)⟩,
    ⟨some (23, false), .ld (.t 26)⟩,
    ⟨some (23, false), .len (.t 27)⟩,
    ⟨some (23, false), .mv (.v 2)⟩,
    ⟨some (23, false), .call 111 [(.t 29)]⟩,
    ⟨some (23, false), .bin .neq (.t 28) (.t 30)⟩,
    ⟨none, .pick (.t 23) (.k (.bool true)) (.t 31)⟩] [] (.t 32) (.seq (.ops [] [⟨none, .asg 1 (.k (.bool false))⟩] [])
  .ret)
  .skip)
  (.seq (.seq (.ops [5, 6] [⟨none, .mv (.v 0)⟩,
    ⟨none, .nck (.t 0)⟩,
    ⟨none, .fA 6 (.t 1)⟩,
    ⟨none, .ld (.t 2)⟩,
    ⟨none, .len (.t 3)⟩,
    ⟨none, .asg 7 (.i 0)⟩] [(5, 3), (6, 4)])
  (.block 0 (.loop (.opq [] [⟨none, .bin .lss (.v 7) (.v 6)⟩] [] (.t 0) .skip
  (.exit 0)
  (.seq (.block 1 (.seq (.ops [] [⟨none, .mv (.v 7)⟩,
    ⟨none, .idxA 1 (.v 5) (.v 7)⟩,
    ⟨none, .ld (.t 1)⟩,
    ⟨none, .asg 3 (.t 0)⟩,
    ⟨none, .asg 4 (.t 2)⟩] [])
  (.opc [] [⟨none, .mv (.v 4)⟩,
    ⟨none, .mv (.v 0)⟩,
    ⟨none, .nck (.t 1)⟩,
    ⟨none, .fA 5 (.t 2)⟩,
    ⟨none, .ld (.t 3)⟩,
    ⟨none, .mv (.v 2)⟩,
    ⟨none, .nck (.t 5)⟩,
    ⟨none, .fA 1 (.t 6)⟩,
    ⟨none, .ld (.t 7)⟩,
    ⟨none, .mv (.v 3)⟩,
    ⟨none, .idxA 1 (.t 8) (.t 9)⟩,
    ⟨none, .ld (.t 10)⟩,
    ⟨none, .idxA 1 (.t 4) (.t 11)⟩,
    ⟨none, .ld (.t 12)⟩,
    ⟨none, .mv (.v 0)⟩,
    ⟨none, .nck (.t 14)⟩,
    ⟨none, .fA 5 (.t 15)⟩,
    ⟨none, .ld (.t 16)⟩,
    ⟨none, .mv (.v 2)⟩,
    ⟨none, .nck (.t 18)⟩,
    ⟨none, .fA 2 (.t 19)⟩,
    ⟨none, .ld (.t 20)⟩,
    ⟨none, .mv (.v 3)⟩,
    ⟨none, .idxA 1 (.t 21) (.t 22)⟩,
    ⟨none, .ld (.t 23)⟩,
    ⟨none, .idxA 1 (.t 17) (.t 24)⟩,
    ⟨none, .ld (.t 25)⟩,
    ⟨none, .call 159 [(.t 0), (.t 13), (.t 26)]⟩,
    ⟨none, .not (.t 27)⟩] [] (.t 28) (.seq (.ops [] [⟨none, .asg 1 (.k (.bool false))⟩] [])
  .ret)
  .skip)))
  (.ops [] [⟨none, .bin .add (.v 7) (.i 1)⟩,
    ⟨none, .asg 7 (.t 0)⟩] []))))))
  (.seq (.ops [] [⟨none, .asg 1 (.k (.bool true))⟩] [])
  .ret)))))
def tr_impl_SetFunctor_isShape : List Nat := [0, 2, 3, 4, 5, 45, 46, 47]
def rs_impl_SetFunctor_isShape : List RS := [.t 1]
theorem ok_impl_SetFunctor_isShape : fnOk Go.Proofs.Try.prog Go.Proofs.Try.f127 tr_impl_SetFunctor_isShape c_impl_SetFunctor_isShape 1 rs_impl_SetFunctor_isShape = true := by decide +kernel

theorem ret_impl_SetFunctor_isShape (f : Sf) : Ret Go.Proofs.Try.prog 127 [.v (.ptr f.cells)] (.bool f.shapeB) := by
  refine ret_fn Go.Proofs.Try.func127 ok_impl_SetFunctor_isShape rfl (show 1 < 500 by decide) rfl ?_; unfold c_impl_SetFunctor_isShape tr_impl_SetFunctor_isShape rs_impl_SetFunctor_isShape; simp only [go_sem, Nat.reduceLT, Nat.reduceAdd, Nat.reduceSub, ↓reduceIte]
  refine call_wk (bs := [.ptr f.shp.cells]) (ret_impl_Category_isCategory f.shp) rfl ⟨.inr ⟨5, _, rfl, rfl⟩, trivial⟩ (.inl rfl) ?_
  simp only [go_sem, Nat.reduceLT, Nat.reduceAdd, Nat.reduceSub, ↓reduceIte]
  refine ⟨fun h => by simpa using h, ?_⟩
  refine callg_of (fun _ => ret_impl_within 17 f.sz (by decide)) rfl (fun h => h) (.inl rfl) ?_
  simp only [go_sem, Nat.reduceLT, Nat.reduceAdd, Nat.reduceSub, ↓reduceIte]
  refine ⟨fun h => by simpa using h, ?_⟩
  refine callg_wk (bs := [.ptr f.shp.cells]) (fun _ => ret_impl_Category_arrows f.shp) rfl ⟨.inr ⟨5, _, rfl, rfl⟩, trivial⟩ (fun h => h) (.inl rfl) ?_
  simp only [go_sem, Nat.reduceLT, Nat.reduceAdd, Nat.reduceSub, ↓reduceIte]
  refine ⟨fun h => by simpa using h, fun h => ?_, fun h => ?_⟩
  · symm
    cases hs : f.shapeB with
    | false => rfl
    | true =>
      have hp := Sf.shapeB_iff.1 hs
      have h2 := hp.szl
      have h3 := hp.cs.idn
      have h4 := hp.actl
      simp [hp.cat, hp.szm] at h
      omega
  have hp : f.shp.isB = true ∧ f.sz.length = f.shp.idn.length ∧ mapB 17 f.sz = true ∧ f.act.length = f.shp.fr.length := by
    simp only [Bool.or_eq_false_iff, Bool.not_eq_false', bne_eq_false_iff_eq] at h
    obtain ⟨⟨⟨h1, h2⟩, h3⟩, h4⟩ := h
    have := (Cat.isB_shape h1).idn
    exact ⟨h1, by omega, h3, by omega⟩
  clear h
  have hpre : f.preB = true := Sf.preB_iff.2 hp
  obtain ⟨hcat, hszl, hszm, hactl⟩ := hp
  have hc := Cat.isB_shape hcat
  have hob := hc.idn
  have hob8 := hc.idl
  have hfl := hc.fr
  have hto := hc.to
  refine loop_set [3, 4] (fun (a : Nat) => [(7, .int .i64 a)]) (fun a => a ≤ f.act.length ∧ allB a f.actB = true) (fun a => f.act.length - a) 0 (by simp only [go_sem, Nat.reduceLT, ↓reduceIte]; rfl) ⟨Nat.zero_le _, rfl⟩ rfl ?_
  rintro a ⟨hx, hb⟩
  simp only [go_sem, Nat.reduceLT, Nat.reduceAdd, Nat.reduceSub, ↓reduceIte]
  refine ⟨fun h => ?_, fun h => ?_⟩
  · have e1 := hc.fri (f := a) (by omega)
    have e2 := hc.toi (f := a) (by omega)
    have hz := mapB_get hszm (i := (f.shp.to.getD a 0).toNat) (by omega)
    refine ⟨h, by omega, by omega, by omega, by omega, call_of (ret_impl_isMapOf _ _ _ hz.1) rfl (.inl rfl) ?_⟩
    simp only [go_sem, Nat.reduceLT, Nat.reduceAdd, Nat.reduceSub, ↓reduceIte]
    have hab : (((f.act.getD a []).length : Int) == f.sz.getD (f.shp.fr.getD a 0).toNat 0 && mapB (f.sz.getD (f.shp.to.getD a 0).toNat 0) (f.act.getD a [])) = f.actB a := rfl
    rw [hab]
    refine ⟨fun h2 => ?_, fun h2 => ?_⟩
    · have := allB_stop h (show f.actB a = false by simpa using h2)
      symm; unfold Sf.shapeB; rw [this]; simp
    · exact ⟨a + 1, ⟨by omega, allB_succ hb (by simpa using h2)⟩, by omega, by rw [wrap_lt h (by simp only [maxLen]; omega)]⟩
  · have : a = f.act.length := by omega
    subst this
    unfold Sf.shapeB
    rw [hpre, hb]; rfl

-- (*impl.SetFunctor).fault
def c_impl_SetFunctor_fault : C :=
  (.seq (.ops [] [⟨none, .asg 1 (.i 0)⟩,
    ⟨none, .asg 2 (.i 0)⟩,
    ⟨none, .asg 3 (.i 0)⟩,
    ⟨none, .asg 4 (.i 0)⟩] [])
  (.seq (.ops [] [⟨none, .mv (.v 0)⟩,
    ⟨none, .nck (.t 0)⟩,
    ⟨none, .fA 0 (.t 1)⟩,
    ⟨none, .asg 5 (.t 2)⟩] [])
  (.seq (.seq (.ops [16, 17] [⟨none, .mv (.v 5)⟩,
    ⟨none, .nck (.t 0)⟩,
    ⟨none, .fA 3 (.t 1)⟩,
    ⟨none, .ld (.t 2)⟩,
    ⟨none, .len (.t 3)⟩,
    ⟨none, .asg 18 (.i 0)⟩] [(16, 3), (17, 4)])
  (.block 0 (.loop (.opq [] [⟨none, .bin .lss (.v 18) (.v 17)⟩] [] (.t 0) .skip
  (.exit 0)
  (.seq (.block 1 (.seq (.ops [] [⟨none, .mv (.v 18)⟩,
    ⟨none, .idxA 1 (.v 16) (.v 18)⟩,
    ⟨none, .ld (.t 1)⟩,
    ⟨none, .asg 6 (.t 0)⟩,
    ⟨none, .asg 7 (.t 2)⟩] [])
  (.seq (.ops [19, 20] [⟨none, .mv (.v 0)⟩,
    ⟨none, .nck (.t 0)⟩,
    ⟨none, .fA 6 (.t 1)⟩,
    ⟨none, .ld (.t 2)⟩,
    ⟨none, .mv (.v 7)⟩,
    ⟨none, .idxA 1 (.t 3) (.t 4)⟩,
    ⟨none, .ld (.t 5)⟩,
    ⟨none, .len (.t 6)⟩,
    ⟨none, .asg 21 (.i 0)⟩] [(19, 6), (20, 7)])
  (.block 2 (.loop (.opq [] [⟨none, .bin .lss (.v 21) (.v 20)⟩] [] (.t 0) .skip
  (.exit 2)
  (.seq (.block 3 (.seq (.ops [] [⟨none, .mv (.v 21)⟩,
    ⟨none, .idxA 1 (.v 19) (.v 21)⟩,
    ⟨none, .ld (.t 1)⟩,
    ⟨none, .asg 8 (.t 0)⟩,
    ⟨none, .asg 9 (.t 2)⟩] [])
  (.opc [] [⟨none, .mv (.v 9)⟩,
    ⟨none, .mv (.v 8)⟩,
    ⟨none, .bin .neq (.t 0) (.t 1)⟩] [] (.t 2) (.seq (.ops [] [⟨none, .mv (.v 6)⟩,
    ⟨none, .mv (.v 8)⟩,
    ⟨none, .asg 1 (.i 1)⟩,
    ⟨none, .asg 2 (.t 0)⟩,
    ⟨none, .asg 3 (.t 1)⟩,
    ⟨none, .asg 4 (.i 0)⟩] [])
  .ret)
  .skip)))
  (.ops [] [⟨none, .bin .add (.v 21) (.i 1)⟩,
    ⟨none, .asg 21 (.t 0)⟩] []))))))))
  (.ops [] [⟨none, .bin .add (.v 18) (.i 1)⟩,
    ⟨none, .asg 18 (.t 0)⟩] []))))))
  (.seq (.seq (.ops [22, 23] [⟨none, .mv (.v 5)⟩,
    ⟨none, .nck (.t 0)⟩,
    ⟨none, .fA 4 (.t 1)⟩,
    ⟨none, .ld (.t 2)⟩,
    ⟨none, .len (.t 3)⟩,
    ⟨none, .asg 24 (.i 0)⟩] [(22, 3), (23, 4)])
  (.block 4 (.loop (.opq [] [⟨none, .bin .lss (.v 24) (.v 23)⟩] [] (.t 0) .skip
  (.exit 4)
  (.seq (.block 5 (.seq (.ops [] [⟨none, .mv (.v 24)⟩,
    ⟨none, .idxA 1 (.v 22) (.v 24)⟩,
    ⟨none, .ld (.t 1)⟩,
    ⟨none, .asg 10 (.t 0)⟩,
    ⟨none, .asg 11 (.t 2)⟩] [])
  (.seq (.ops [26] [⟨none, .asg 25 (.v 11)⟩,
    ⟨none, .len (.v 25)⟩,
    ⟨none, .asg 27 (.i 0)⟩] [(26, 1)])
  (.block 6 (.loop (.opq [] [⟨none, .bin .lss (.v 27) (.v 26)⟩] [] (.t 0) .skip
  (.exit 6)
  (.seq (.block 7 (.seq (.ops [] [⟨none, .mv (.v 27)⟩,
    ⟨none, .idxA 1 (.v 25) (.v 27)⟩,
    ⟨none, .ld (.t 1)⟩,
    ⟨none, .asg 12 (.t 0)⟩,
    ⟨none, .asg 13 (.t 2)⟩] [])
  (.seq (.opc [] [⟨none, .mv (.v 13)⟩,
    ⟨none, .bin .lss (.t 0) (.i 0)⟩] [] (.t 1) (.exit 7)
  .skip)
  (.seq (.ops [28, 29] [⟨none, .mv (.v 0)⟩,
    ⟨none, .nck (.t 0)⟩,
    ⟨none, .fA 6 (.t 1)⟩,
    ⟨none, .ld (.t 2)⟩,
    ⟨none, .mv (.v 10)⟩,
    ⟨none, .idxA 1 (.t 3) (.t 4)⟩,
    ⟨none, .ld (.t 5)⟩,
    ⟨none, .len (.t 6)⟩,
    ⟨none, .asg 30 (.i 0)⟩] [(28, 6), (29, 7)])
  (.block 8 (.loop (.opq [] [⟨none, .bin .lss (.v 30) (.v 29)⟩] [] (.t 0) .skip
  (.exit 8)
  (.seq (.block 9 (.seq (.ops [] [⟨none, .mv (.v 30)⟩,
    ⟨none, .idxA 1 (.v 28) (.v 30)⟩,
    ⟨none, .ld (.t 1)⟩,
    ⟨none, .asg 14 (.t 0)⟩,
    ⟨none, .asg 15 (.t 2)⟩] [])
  (.opc [] [⟨none, .mv (.v 0)⟩,
    ⟨none, .nck (.t 0)⟩,
    ⟨none, .fA 6 (.t 1)⟩,
    ⟨none, .ld (.t 2)⟩,
    ⟨none, .mv (.v 13)⟩,
    ⟨none, .idxA 1 (.t 3) (.t 4)⟩,
    ⟨none, .ld (.t 5)⟩,
    ⟨none, .mv (.v 14)⟩,
    ⟨none, .idxA 1 (.t 6) (.t 7)⟩,
    ⟨none, .ld (.t 8)⟩,
    ⟨none, .mv (.v 0)⟩,
    ⟨none, .nck (.t 10)⟩,
    ⟨none, .fA 6 (.t 11)⟩,
    ⟨none, .ld (.t 12)⟩,
    ⟨none, .mv (.v 12)⟩,
    ⟨none, .idxA 1 (.t 13) (.t 14)⟩,
    ⟨none, .ld (.t 15)⟩,
    ⟨none, .mv (.v 15)⟩,
    ⟨none, .idxA 1 (.t 16) (.t 17)⟩,
    ⟨none, .ld (.t 18)⟩,
    ⟨none, .bin .neq (.t 9) (.t 19)⟩] [] (.t 20) (.seq (.ops [] [⟨none, .mv (.v 10)⟩,
    ⟨none, .mv (.v 12)⟩,
    ⟨none, .mv (.v 14)⟩,
    ⟨none, .asg 1 (.i 2)⟩,
    ⟨none, .asg 2 (.t 0)⟩,
    ⟨none, .asg 3 (.t 1)⟩,
    ⟨none, .asg 4 (.t 2)⟩] [])
  .ret)
  .skip)))
  (.ops [] [⟨none, .bin .add (.v 30) (.i 1)⟩,
    ⟨none, .asg 30 (.t 0)⟩] [])))))))))
  (.ops [] [⟨none, .bin .add (.v 27) (.i 1)⟩,
    ⟨none, .asg 27 (.t 0)⟩] []))))))))
  (.ops [] [⟨none, .bin .add (.v 24) (.i 1)⟩,
    ⟨none, .asg 24 (.t 0)⟩] []))))))
  (.seq (.ops [] [⟨none, .asg 1 (.i 0)⟩,
    ⟨none, .asg 2 (.i 0)⟩,
    ⟨none, .asg 3 (.i 0)⟩,
    ⟨none, .asg 4 (.i 0)⟩] [])
  .ret)))))
def tr_impl_SetFunctor_fault : List Nat := [0, 2, 3, 4, 5, 6, 7, 8, 9, 10, 11, 12, 13, 14, 15, 16, 23, 24, 25, 36, 37, 38, 53, 54, 55, 60, 61, 62, 75, 76, 77]
def rs_impl_SetFunctor_fault : List RS := [.t 1, .t 2, .t 3, .t 4]
theorem ok_impl_SetFunctor_fault : fnOk Go.Proofs.Try.prog Go.Proofs.Try.f128 tr_impl_SetFunctor_fault c_impl_SetFunctor_fault 1 rs_impl_SetFunctor_fault = true := by decide +kernel

theorem ret_impl_SetFunctor_fault (f : Sf) (hs : f.Shape) : Ret Go.Proofs.Try.prog 128 [.v (.ptr f.cells)] (fd f.faultF) := by
  have hc := hs.cs
  have hob := hc.idn
  have hob8 := hc.idl
  have hfl := hc.fr
  have hto := hc.to
  have hco := hc.co
  have hszl := hs.szl
  have hactl := hs.actl
  refine ret_fn Go.Proofs.Try.func128 ok_impl_SetFunctor_fault rfl (show 1 < 500 by decide) rfl ?_; unfold c_impl_SetFunctor_fault tr_impl_SetFunctor_fault rs_impl_SetFunctor_fault; simp only [go_sem, Nat.reduceLT, Nat.reduceAdd, Nat.reduceSub, ↓reduceIte]
  refine loop_set [6, 7, 8, 9, 19, 20, 21] (fun (x : Nat) => [(18, .int .i64 x)]) (fun x => x ≤ f.shp.idn.length ∧ ∀ x' e' : Nat, x' < x → e' < f.size (x' : Int) → f.idF x' e' = false) (fun x => f.shp.idn.length - x) 0 (by simp only [go_sem, Nat.reduceLT, ↓reduceIte]; rfl) ⟨Nat.zero_le _, fun _ _ h => absurd h (Nat.not_lt_zero _)⟩ rfl ?_
  rintro x ⟨hx, ha⟩
  simp only [go_sem, Nat.reduceLT, Nat.reduceAdd, Nat.reduceSub, ↓reduceIte]
  refine ⟨fun hxl => ?_, fun h => ?_⟩
  · have hz := hs.szi (x := (x : Int)) (by omega) (by omega)
    have hi := hc.idx hxl
    rw [Int.toNat_natCast] at hz
    have hsz : f.size (x : Int) = (f.sz.getD x 0).toNat := rfl
    have hcid := hc.ids x hxl
    simp only [Cat.idB, Bool.and_eq_true, beq_iff_eq] at hcid
    have hrow := (hs.acl (a := (f.shp.idn.getD x 0).toNat) (by omega)).1
    rw [hcid.1] at hrow
    refine ⟨hxl, by omega, ?_⟩
    refine loop_set [8, 9] (fun (e : Nat) => [(21, .int .i64 e)]) (fun e => e ≤ f.size (x : Int) ∧ ∀ e', e' < e → f.idF x e' = false) (fun e => f.size (x : Int) - e) 0 (by simp only [go_sem, Nat.reduceLT, ↓reduceIte]; rfl) ⟨Nat.zero_le _, fun _ h => absurd h (Nat.not_lt_zero _)⟩ rfl ?_
    rintro e ⟨he, hb⟩
    simp only [go_sem, Nat.reduceLT, Nat.reduceAdd, Nat.reduceSub, ↓reduceIte]
    have hid : f.idF x e = ((f.act.getD (f.shp.idn.getD x 0).toNat []).getD e 0 != (e : Int)) := rfl
    rw [← hid]
    refine ⟨fun h2 => ⟨by omega, fun h3 => ?_, fun h3 => ⟨e + 1, ⟨by omega, ltS hb h3⟩, by omega, by rw [wrap_lt (n := 17) (by omega) (by simp only [maxLen]; omega)]⟩⟩, fun h2 => ?_⟩
    · rw [Sf.fault_id ha hxl hb (by omega) h3]; rfl
    · exact ⟨x + 1, ⟨by omega, fun x' e' h1 h2 => by
        by_cases hxx : x' = x
        · subst hxx; exact hb e' (by omega)
        · exact ha x' e' (by omega) h2⟩, by omega, by rw [wrap_lt hxl (by simp only [maxLen]; omega)]⟩
  have hx' : x = f.shp.idn.length := by omega
  subst hx'
  clear hx h
  refine loop_set [10, 11, 12, 13, 14, 15, 25, 26, 27, 28, 29, 30] (fun (a : Nat) => [(24, .int .i64 a)]) (fun a => a ≤ f.shp.fr.length ∧ ∀ a' b' e' : Nat, a' < a → b' < f.shp.fr.length → f.shp.to.getD a' 0 = f.shp.fr.getD b' 0 → e' < f.size (f.shp.fr.getD a' 0) → f.coF a' b' e' = false) (fun a => f.shp.fr.length - a) 0 (by simp only [go_sem, Nat.reduceLT, ↓reduceIte]; rfl) ⟨Nat.zero_le _, fun _ _ _ h => absurd h (Nat.not_lt_zero _)⟩ rfl ?_
  rintro a ⟨hal, hb⟩
  simp only [go_sem, Nat.reduceLT, Nat.reduceAdd, Nat.reduceSub, ↓reduceIte]
  refine ⟨fun h1' => ⟨h1', ?_⟩, fun h1 => ?_⟩
  · have h1 : a < f.shp.fr.length := by omega
    have hrowl := hc.row a h1
    refine loop_set [12, 13, 14, 15, 28, 29, 30] (fun (b : Nat) => [(27, .int .i64 b)]) (fun b => b ≤ f.shp.fr.length ∧ ∀ b' e' : Nat, b' < b → f.shp.to.getD a 0 = f.shp.fr.getD b' 0 → e' < f.size (f.shp.fr.getD a 0) → f.coF a b' e' = false) (fun b => f.shp.fr.length - b) 0 (by simp only [go_sem, Nat.reduceLT, ↓reduceIte]; rfl) ⟨Nat.zero_le _, fun _ _ h => absurd h (Nat.not_lt_zero _)⟩ rfl ?_
    rintro b ⟨hbl, hcc⟩
    simp only [go_sem, Nat.reduceLT, Nat.reduceAdd, Nat.reduceSub, ↓reduceIte]
    have e1 := hc.fri h1
    have e2 := hc.toi h1
    have hz := hs.szi e1.1 e1.2
    have hsz : f.size (f.shp.fr.getD a 0) = (f.sz.getD (f.shp.fr.getD a 0).toNat 0).toNat := rfl
    have hac := (hs.acl h1).1
    have hcl : (f.shp.co.getD a []).getD b 0 = f.shp.cellI a b := rfl
    rw [hcl]
    refine ⟨fun h2' => ⟨h2', fun h3 => ?_, fun h3 => ?_⟩, fun h2 => ?_⟩
    · have h2 : b < f.shp.fr.length := by omega
      exact ⟨b + 1, ⟨by omega, fun b' e' k1 k2 k3 => by
        by_cases hbb : b' = b
        · subst hbb
          have := (hc.cell_in h1 h2 k2).1
          omega
        · exact hcc b' e' (by omega) k2 k3⟩, by omega, by rw [wrap_lt h2 (by simp only [maxLen]; omega)]⟩
    · have h2 : b < f.shp.fr.length := by omega
      have h3' : f.shp.to.getD a 0 = f.shp.fr.getD b 0 := by
        apply Classical.byContradiction
        intro hn
        rw [hc.cell_out h1 h2 hn] at h3; omega
      obtain ⟨c0, c1, c2, c3⟩ := hc.cell_in h1 h2 h3'
      have hac2 := (hs.acl h2).1
      have hac3 := (hs.acl (a := (f.shp.cellI a b).toNat) (by omega)).1
      rw [c2] at hac3
      rw [← h3'] at hac2
      refine ⟨by omega, ?_⟩
      refine loop_set [14, 15] (fun (e : Nat) => [(30, .int .i64 e)]) (fun e => e ≤ f.size (f.shp.fr.getD a 0) ∧ ∀ e' : Nat, e' < e → f.coF a b e' = false) (fun e => f.size (f.shp.fr.getD a 0) - e) 0 (by simp only [go_sem, Nat.reduceLT, ↓reduceIte]; rfl) ⟨Nat.zero_le _, fun _ h => absurd h (Nat.not_lt_zero _)⟩ rfl ?_
      rintro e ⟨hel, hd⟩
      simp only [go_sem, Nat.reduceLT, Nat.reduceAdd, Nat.reduceSub, ↓reduceIte]
      have hco' : f.coF a b e = ((f.act.getD (f.shp.cellI a b).toNat []).getD e 0 != (f.act.getD b []).getD ((f.act.getD a []).getD e 0).toNat 0) := rfl
      refine ⟨fun h4 => ?_, fun h4 => ?_⟩
      · have hle : e < f.size (f.shp.fr.getD a 0) := by omega
        have h5 := hs.aci h1 (e := e) (by omega) (by omega)
        have h6 : f.ac a e = (f.act.getD a []).getD e 0 := rfl
        rw [← hco']
        refine ⟨by omega, by omega, by omega, by omega, by omega, fun h7 => ?_, fun h7 => ?_⟩
        · rw [Sf.fault_co ha hb hcc hd h1 h2 h3' hle h7]; rfl
        · exact ⟨e + 1, ⟨by omega, ltS hd h7⟩, by omega, by rw [wrap_lt (n := 17) (by omega) (by simp only [maxLen]; omega)]⟩
      · exact ⟨b + 1, ⟨by omega, fun b' e' k1 k2 k3 => by
          by_cases hbb : b' = b
          · subst hbb; exact hd e' (by omega)
          · exact hcc b' e' (by omega) k2 k3⟩, by omega, by rw [wrap_lt h2 (by simp only [maxLen]; omega)]⟩
    · have : b = f.shp.fr.length := by omega
      subst this
      exact ⟨a + 1, ⟨by omega, fun a' b' e' k1 k2 k3 k4 => by
        by_cases haa : a' = a
        · subst haa; exact hcc b' e' k2 k3 k4
        · exact hb a' b' e' (by omega) k2 k3 k4⟩, by omega, by rw [wrap_lt h1 (by simp only [maxLen]; omega)]⟩
  · have : a = f.shp.fr.length := by omega
    subst this
    rw [Sf.fault_no ha hb]; rfl

-- (*impl.SetFunctor).isSetFunctor
def c_impl_SetFunctor_isSetFunctor : C :=
  (.seq (.ops [] [⟨none, .asg 1 (.k (.bool false))⟩] [])
  (.seq (.opc [] [⟨none, .mv (.v 0)⟩,
    ⟨none, .call 127 [(.t 0)]⟩,
    ⟨none, .not (.t 1)⟩] [] (.t 2) (.seq (.ops [] [⟨none, .asg 1 (.k (.bool false))⟩] [])
  .ret)
  .skip)
  (.seq (.ops [] [⟨none, .mv (.v 0)⟩,
    ⟨none, .call 128 [(.t 0)]⟩,
    ⟨none, .mv (.t 1)⟩,
    ⟨none, .ext 0 (.t 2)⟩,
    ⟨none, .ext 1 (.t 2)⟩,
    ⟨none, .ext 2 (.t 2)⟩,
    ⟨none, .ext 3 (.t 2)⟩,
    ⟨none, .asg 2 (.t 3)⟩,
    ⟨none, .mv (.t 4)⟩,
    ⟨none, .mv (.t 5)⟩,
    ⟨none, .mv (.t 6)⟩] [])
  (.seq (.ops [] [⟨none, .mv (.v 2)⟩,
    ⟨none, .bin .eql (.t 0) (.i 0)⟩,
    ⟨none, .asg 1 (.t 1)⟩] [])
  .ret))))
def tr_impl_SetFunctor_isSetFunctor : List Nat := [0, 2, 3]
def rs_impl_SetFunctor_isSetFunctor : List RS := [.t 1]
theorem ok_impl_SetFunctor_isSetFunctor : fnOk Go.Proofs.Try.prog Go.Proofs.Try.f85 tr_impl_SetFunctor_isSetFunctor c_impl_SetFunctor_isSetFunctor 1 rs_impl_SetFunctor_isSetFunctor = true := by decide +kernel

theorem ret_impl_SetFunctor_isSetFunctor (f : Sf) : Ret Go.Proofs.Try.prog 85 [.v (.ptr f.cells)] (.bool f.isB) := by
  refine ret_fn Go.Proofs.Try.func85 ok_impl_SetFunctor_isSetFunctor rfl (show 1 < 500 by decide) rfl ?_; unfold c_impl_SetFunctor_isSetFunctor tr_impl_SetFunctor_isSetFunctor rs_impl_SetFunctor_isSetFunctor; simp only [go_sem, Nat.reduceLT, Nat.reduceAdd, Nat.reduceSub, ↓reduceIte]
  refine call_of (ret_impl_SetFunctor_isShape f) rfl (.inl rfl) ?_
  simp only [go_sem, Nat.reduceLT, Nat.reduceAdd, Nat.reduceSub, ↓reduceIte]
  refine ⟨fun h => ?_, fun h => ?_⟩
  · unfold Sf.isB; rw [Bool.not_eq_true'] at h; rw [h]; rfl
  rw [Bool.not_eq_false'] at h
  refine call_of (ret_impl_SetFunctor_fault f (Sf.shapeB_iff.1 h)) rfl (.inl rfl) ?_
  simp only [fd]
  simp only [go_sem, Nat.reduceLT, Nat.reduceAdd, Nat.reduceSub, ↓reduceIte]
  unfold Sf.isB; rw [h]; rfl
end Go.D3

/- CONTRACTS: small functions that set functors need. -/
namespace Go.D3
open Go
set_option maxRecDepth 100000
set_option maxHeartbeats 4000000

-- impl.repeated
def c_impl_repeated : C :=
  (.seq (.ops [] [⟨none, .asg 2 (.k (.nils (.int .i64 0)))⟩] [])
  (.seq (.ops [] [⟨none, .mv (.v 1)⟩,
    ⟨none, .mkS (.int .i64 0) 8 (.t 0) (.t 0)⟩,
    ⟨none, .asg 3 (.t 1)⟩] [])
  (.seq (.seq (.ops [5] [⟨none, .mv (.v 3)⟩,
    ⟨none, .len (.t 0)⟩,
    ⟨none, .asg 6 (.i 0)⟩] [(5, 1)])
  (.block 0 (.loop (.opq [] [⟨none, .bin .lss (.v 6) (.v 5)⟩] [] (.t 0) .skip
  (.exit 0)
  (.seq (.block 1 (.seq (.ops [] [⟨none, .mv (.v 6)⟩,
    ⟨none, .asg 4 (.t 0)⟩] [])
  (.ops [] [⟨none, .mv (.v 3)⟩,
    ⟨none, .mv (.v 4)⟩,
    ⟨none, .mv (.v 0)⟩,
    ⟨none, .idxA 1 (.t 0) (.t 1)⟩,
    ⟨none, .st (.t 3) (.t 2)⟩] [])))
  (.ops [] [⟨none, .bin .add (.v 6) (.i 1)⟩,
    ⟨none, .asg 6 (.t 0)⟩] []))))))
  (.seq (.ops [] [⟨none, .mv (.v 3)⟩,
    ⟨none, .asg 2 (.t 0)⟩] [])
  .ret))))
def tr_impl_repeated : List Nat := [0, 1, 4, 5, 6, 10, 11]
def rs_impl_repeated : List RS := [.t 2]
theorem ok_impl_repeated : fnOk Go.Proofs.Try.prog Go.Proofs.Try.f182 tr_impl_repeated c_impl_repeated 2 rs_impl_repeated = true := by decide +kernel

theorem ret_impl_repeated (x n : Int) (h0 : 0 ≤ n) (h1 : n ≤ 1048576) : Ret Go.Proofs.Try.prog 182 [.v (.int .i64 x), .v (.int .i64 n)] (ints (List.replicate n.toNat x)) := by
  have hll : (List.replicate n.toNat x).length = n.toNat := List.length_replicate
  have hm : (List.replicate n.toNat x).length ≤ maxLen := by simp only [maxLen]; omega
  have hg : ∀ i, i < n.toNat → (List.replicate n.toNat x).getD i 0 = x := fun i hi => by
    rw [List.getD_eq_getElem?_getD, List.getElem?_replicate, if_pos hi]; rfl
  refine ret_fn Go.Proofs.Try.func182 ok_impl_repeated rfl (show 2 < 500 by decide) rfl ?_; unfold c_impl_repeated tr_impl_repeated rs_impl_repeated; simp only [go_sem, Nat.reduceLT, Nat.reduceAdd, Nat.reduceSub, Nat.reduceBEq, Nat.reduceLeDiff, ↓reduceIte]
  refine ⟨⟨h0, Int.le_refl _, by omega⟩, ?_⟩
  refine loop_set [4] (fun (i : Nat) => [(3, .o (ints (cpy (List.replicate n.toNat x) 0 i))), (6, .int .i64 i)]) (fun i => i ≤ n.toNat) (fun i => n.toNat - i) 0 (by simp only [go_sem, Nat.reduceLT, ↓reduceIte]; rfl) (Nat.zero_le _) ?_ ?_
  · simp only [go_sem, cpy_zero, hll]; rfl
  rintro i hi
  simp only [go_sem, Nat.reduceLT, Nat.reduceAdd, Nat.reduceSub, Nat.reduceBEq, Nat.reduceLeDiff, ↓reduceIte]
  refine ⟨fun h => ?_, fun h => ?_⟩
  · have hi' : i < n.toNat := by simp only [List.length_replicate] at h; omega
    refine ⟨by rw [cpy_len (by omega), hll]; exact hi', by rw [cpy_len (by omega), hll]; exact hi', i + 1, by omega, by omega, ?_⟩
    have := cpy_set (d := 0) (z := 0) (l := List.replicate n.toNat x) (i := i) (by omega)
    rw [hg i hi'] at this
    rw [this, wrap_lt (n := n.toNat) hi' (by simp only [maxLen]; omega)]
  · rw [cpy_end (by simp only [List.length_replicate] at h ⊢; omega)]

def nums (n : Nat) : List Int := (List.range n).map fun j : Nat => (j : Int)
theorem nums_len {n : Nat} : (nums n).length = n := by simp [nums]
theorem nums_get {n i : Nat} (h : i < n) : (nums n).getD i 0 = i := by
  unfold nums
  rw [List.getD_eq_getElem?_getD, List.getElem?_map, List.getElem?_range h]; rfl
-- impl.numbers
def c_impl_numbers : C :=
  (.seq (.ops [] [⟨none, .asg 1 (.k (.nils (.int .i64 0)))⟩] [])
  (.seq (.ops [] [⟨none, .mv (.v 0)⟩,
    ⟨none, .mkS (.int .i64 0) 8 (.t 0) (.t 0)⟩,
    ⟨none, .asg 2 (.t 1)⟩] [])
  (.seq (.seq (.ops [4] [⟨none, .mv (.v 2)⟩,
    ⟨none, .len (.t 0)⟩,
    ⟨none, .asg 5 (.i 0)⟩] [(4, 1)])
  (.block 0 (.loop (.opq [] [⟨none, .bin .lss (.v 5) (.v 4)⟩] [] (.t 0) .skip
  (.exit 0)
  (.seq (.block 1 (.seq (.ops [] [⟨none, .mv (.v 5)⟩,
    ⟨none, .asg 3 (.t 0)⟩] [])
  (.ops [] [⟨none, .mv (.v 2)⟩,
    ⟨none, .mv (.v 3)⟩,
    ⟨none, .mv (.v 3)⟩,
    ⟨none, .idxA 1 (.t 0) (.t 1)⟩,
    ⟨none, .st (.t 3) (.t 2)⟩] [])))
  (.ops [] [⟨none, .bin .add (.v 5) (.i 1)⟩,
    ⟨none, .asg 5 (.t 0)⟩] []))))))
  (.seq (.ops [] [⟨none, .mv (.v 2)⟩,
    ⟨none, .asg 1 (.t 0)⟩] [])
  .ret))))
def tr_impl_numbers : List Nat := [0, 2, 3, 4, 8, 9]
def rs_impl_numbers : List RS := [.t 1]
theorem ok_impl_numbers : fnOk Go.Proofs.Try.prog Go.Proofs.Try.f110 tr_impl_numbers c_impl_numbers 1 rs_impl_numbers = true := by decide +kernel

theorem ret_impl_numbers (n : Int) (h0 : 0 ≤ n) (h1 : n ≤ 1048576) : Ret Go.Proofs.Try.prog 110 [.v (.int .i64 n)] (ints (nums n.toNat)) := by
  have hm : (nums n.toNat).length ≤ maxLen := by rw [nums_len]; simp only [maxLen]; omega
  refine ret_fn Go.Proofs.Try.func110 ok_impl_numbers rfl (show 1 < 500 by decide) rfl ?_; unfold c_impl_numbers tr_impl_numbers rs_impl_numbers; simp only [go_sem, Nat.reduceLT, Nat.reduceAdd, Nat.reduceSub, Nat.reduceBEq, Nat.reduceLeDiff, ↓reduceIte]
  refine ⟨⟨h0, Int.le_refl _, by omega⟩, ?_⟩
  refine loop_set [3] (fun (i : Nat) => [(2, .o (ints (cpy (nums n.toNat) 0 i))), (5, .int .i64 i)]) (fun i => i ≤ n.toNat) (fun i => n.toNat - i) 0 (by simp only [go_sem, Nat.reduceLT, ↓reduceIte]; rfl) (Nat.zero_le _) ?_ ?_
  · simp only [go_sem, cpy_zero, nums_len]; rfl
  rintro i hi
  simp only [go_sem, Nat.reduceLT, Nat.reduceAdd, Nat.reduceSub, Nat.reduceBEq, Nat.reduceLeDiff, ↓reduceIte]
  refine ⟨fun h => ?_, fun h => ?_⟩
  · have hi' : i < n.toNat := by simp only [List.length_replicate] at h; omega
    refine ⟨by rw [cpy_len (by rw [nums_len]; omega), nums_len]; exact hi', by rw [cpy_len (by rw [nums_len]; omega), nums_len]; exact hi', i + 1, by omega, by omega, ?_⟩
    have := cpy_set (d := 0) (z := 0) (l := nums n.toNat) (i := i) (by rw [nums_len]; omega)
    rw [nums_get hi'] at this
    rw [this, wrap_lt (n := n.toNat) hi' (by simp only [maxLen]; omega)]
  · rw [cpy_end (by rw [nums_len]; simp only [List.length_replicate] at h; omega)]

/-- The arrows out of an object. -/
def Cat.outs (c : Cat) (x : Int) : Nat → List Int
  | 0 => []
  | i + 1 => c.outs x i ++ if c.fr.getD i 0 = x then [(i : Int)] else []
theorem Cat.outs_len {c : Cat} {x : Int} : ∀ i, (c.outs x i).length ≤ i
  | 0 => Nat.le_refl _
  | i + 1 => by
    have := Cat.outs_len (c := c) (x := x) i
    unfold Cat.outs
    split <;> simp <;> omega
theorem Cat.mem_outs {c : Cat} {x : Int} : ∀ {n : Nat} {a : Int}, a ∈ c.outs x n ↔ ∃ i : Nat, a = i ∧ i < n ∧ c.fr.getD i 0 = x
  | 0, a => by simp [Cat.outs]
  | n + 1, a => by
    unfold Cat.outs
    rw [List.mem_append, Cat.mem_outs]
    constructor
    · rintro (⟨i, h1, h2, h3⟩ | h)
      · exact ⟨i, h1, by omega, h3⟩
      · split at h
        · rename_i h3
          exact ⟨n, by simpa using h, by omega, h3⟩
        · cases h
    · rintro ⟨i, h1, h2, h3⟩
      by_cases hi : i < n
      · exact .inl ⟨i, h1, hi, h3⟩
      · have : i = n := by omega
        subst this
        rw [if_pos h3]
        exact .inr (by simp [h1])
-- (*impl.Category).outOf
def c_impl_Category_outOf : C :=
  (.seq (.ops [] [⟨none, .asg 2 (.k (.nils (.int .i64 0)))⟩] [])
  (.seq (.ops [] [⟨none, .bldS (.int .i64 0) 0 []⟩,
    ⟨none, .asg 3 (.t 0)⟩] [])
  (.seq (.seq (.ops [6, 7] [⟨none, .mv (.v 0)⟩,
    ⟨none, .nck (.t 0)⟩,
    ⟨none, .fA 1 (.t 1)⟩,
    ⟨none, .ld (.t 2)⟩,
    ⟨none, .len (.t 3)⟩,
    ⟨none, .asg 8 (.i 0)⟩] [(6, 3), (7, 4)])
  (.block 0 (.loop (.opq [] [⟨none, .bin .lss (.v 8) (.v 7)⟩] [] (.t 0) .skip
  (.exit 0)
  (.seq (.block 1 (.seq (.ops [] [⟨none, .mv (.v 8)⟩,
    ⟨none, .idxA 1 (.v 6) (.v 8)⟩,
    ⟨none, .ld (.t 1)⟩,
    ⟨none, .asg 4 (.t 0)⟩,
    ⟨none, .asg 5 (.t 2)⟩] [])
  (.opc [] [⟨none, .mv (.v 5)⟩,
    ⟨none, .mv (.v 1)⟩,
    ⟨none, .bin .eql (.t 0) (.t 1)⟩] [] (.t 2) (.ops [] [⟨none, .mv (.v 3)⟩,
    ⟨none, .mv (.v 4)⟩,
    ⟨none, .bldS (.int .i64 0) 1 [(0, (.t 1))]⟩,
    ⟨none, .app 1 8 (.t 0) (.t 2)⟩,
    ⟨none, .asg 3 (.t 3)⟩] [])
  .skip)))
  (.ops [] [⟨none, .bin .add (.v 8) (.i 1)⟩,
    ⟨none, .asg 8 (.t 0)⟩] []))))))
  (.seq (.ops [] [⟨none, .mv (.v 3)⟩,
    ⟨none, .asg 2 (.t 0)⟩] [])
  .ret))))
def tr_impl_Category_outOf : List Nat := [0, 1, 4, 5, 6, 7, 12, 13, 14]
def rs_impl_Category_outOf : List RS := [.t 2]
theorem ok_impl_Category_outOf : fnOk Go.Proofs.Try.prog Go.Proofs.Try.f203 tr_impl_Category_outOf c_impl_Category_outOf 2 rs_impl_Category_outOf = true := by decide +kernel

theorem ret_impl_Category_outOf (c : Cat) (x : Int) (hm : c.fr.length ≤ 1048576) : Ret Go.Proofs.Try.prog 203 [.v (.ptr c.cells), .v (.int .i64 x)] (ints (c.outs x c.fr.length)) := by
  refine ret_fn Go.Proofs.Try.func203 ok_impl_Category_outOf rfl (show 2 < 500 by decide) rfl ?_; unfold c_impl_Category_outOf tr_impl_Category_outOf rs_impl_Category_outOf; simp only [go_sem, Nat.reduceLT, Nat.reduceAdd, Nat.reduceSub, ↓reduceIte]
  refine loop_set [4, 5] (fun (i : Nat) => [(3, .o (ints (c.outs x i))), (8, .int .i64 i)]) (fun i => i ≤ c.fr.length) (fun i => c.fr.length - i) 0 (by simp only [go_sem, Nat.reduceLT, ↓reduceIte]; rfl) (Nat.zero_le _) rfl ?_
  rintro i hi
  simp only [go_sem, Nat.reduceLT, Nat.reduceAdd, Nat.reduceSub, Nat.reduceBEq, ↓reduceIte]
  have hl := Cat.outs_len (c := c) (x := x) i
  refine ⟨fun h => ⟨h, fun h2 => ⟨by omega, i + 1, by omega, by omega, ?_⟩, fun h2 => ⟨i + 1, by omega, by omega, ?_⟩⟩, fun h => by rw [show i = c.fr.length by omega]⟩
  · have h2 : c.fr.getD i 0 = x := by simpa using h2
    rw [wrap_lt h (by simp only [maxLen]; omega), show c.outs x (i + 1) = c.outs x i ++ [(i : Int)] by rw [Cat.outs, if_pos h2]]
  · have h2 : c.fr.getD i 0 ≠ x := by simpa using h2
    rw [wrap_lt h (by simp only [maxLen]; omega), show c.outs x (i + 1) = c.outs x i by rw [Cat.outs, if_neg h2, List.append_nil]]

/-- The first number of each list. -/
def colF (P : List (List Int)) : List Int := P.map fun r => r.getD 0 0
-- impl.column
def c_impl_column : C :=
  (.seq (.ops [] [⟨none, .asg 2 (.k (.nils (.int .i64 0)))⟩] [])
  (.seq (.ops [] [⟨none, .bldS (.int .i64 0) 0 []⟩,
    ⟨none, .asg 3 (.t 0)⟩] [])
  (.seq (.seq (.ops [6] [⟨none, .asg 5 (.v 0)⟩,
    ⟨none, .len (.v 5)⟩,
    ⟨none, .asg 7 (.i 0)⟩] [(6, 1)])
  (.block 0 (.loop (.opq [] [⟨none, .bin .lss (.v 7) (.v 6)⟩] [] (.t 0) .skip
  (.exit 0)
  (.seq (.block 1 (.seq (.ops [] [⟨none, .idxA 1 (.v 5) (.v 7)⟩,
    ⟨none, .ld (.t 0)⟩,
    ⟨none, .asg 4 (.t 1)⟩] [])
  (.ops [] [⟨none, .mv (.v 3)⟩,
    ⟨none, .mv (.v 4)⟩,
    ⟨none, .mv (.v 1)⟩,
    ⟨none, .idxA 1 (.t 1) (.t 2)⟩,
    ⟨none, .ld (.t 3)⟩,
    ⟨none, .bldS (.int .i64 0) 1 [(0, (.t 4))]⟩,
    ⟨none, .app 1 8 (.t 0) (.t 5)⟩,
    ⟨none, .asg 3 (.t 6)⟩] [])))
  (.ops [] [⟨none, .bin .add (.v 7) (.i 1)⟩,
    ⟨none, .asg 7 (.t 0)⟩] []))))))
  (.seq (.ops [] [⟨none, .mv (.v 3)⟩,
    ⟨none, .asg 2 (.t 0)⟩] [])
  .ret))))
def tr_impl_column : List Nat := [0, 1, 4, 5, 7, 9, 10, 11]
def rs_impl_column : List RS := [.t 2]
theorem ok_impl_column : fnOk Go.Proofs.Try.prog Go.Proofs.Try.f163 tr_impl_column c_impl_column 2 rs_impl_column = true := by decide +kernel

theorem ret_impl_column (P : List (List Int)) (hP : ∀ x, x < P.length → 0 < (P.getD x []).length) (hl : P.length ≤ 1048576) : Ret Go.Proofs.Try.prog 163 [.v (intss P), .v (.int .i64 0)] (ints (colF P)) := by
  refine ret_fn Go.Proofs.Try.func163 ok_impl_column rfl (show 2 < 500 by decide) rfl ?_; unfold c_impl_column tr_impl_column rs_impl_column; simp only [go_sem, Nat.reduceLT, Nat.reduceAdd, Nat.reduceSub, ↓reduceIte]
  refine loop_set [4] (fun (i : Nat) => [(3, .o (ints (colF (P.take i)))), (7, .int .i64 i)]) (fun i => i ≤ P.length) (fun i => P.length - i) 0 (by simp only [go_sem, Nat.reduceLT, ↓reduceIte]; rfl) (Nat.zero_le _) rfl ?_
  rintro i hi
  simp only [go_sem, Nat.reduceLT, Nat.reduceAdd, Nat.reduceSub, Nat.reduceBEq, ↓reduceIte]
  refine ⟨fun h => ⟨h, ⟨by decide, by have := hP i h; omega⟩, by simp only [colF, List.length_map, List.length_take]; omega, i + 1, by omega, by omega, ?_⟩, fun h => by rw [List.take_of_length_le (by omega)]⟩
  rw [wrap_lt h (by simp only [maxLen]; omega), take_snoc h []]
  simp only [colF, List.map_append, List.map_cons, List.map_nil]
-- spec.l01Flat
def c_spec_l01Flat : C :=
  (.seq (.ops [] [⟨none, .asg 1 (.k (.nils (.int .i64 0)))⟩] [])
  (.seq (.ops [] [⟨none, .bldS (.int .i64 0) 0 []⟩,
    ⟨none, .asg 2 (.t 0)⟩] [])
  (.seq (.seq (.ops [] [⟨none, .asg 3 (.i 0)⟩] [])
  (.block 0 (.loop (.seq (.opc [] [⟨none, .mv (.v 3)⟩,
    ⟨none, .mv (.v 0)⟩,
    ⟨none, .len (.t 1)⟩,
    ⟨none, .bin .lss (.t 0) (.t 2)⟩] [] (.t 3) .skip
  (.exit 0))
  (.seq (.block 1 (.ops [] [⟨none, .mv (.v 2)⟩,
    ⟨none, .mv (.v 0)⟩,
    ⟨none, .mv (.v 3)⟩,
    ⟨none, .idxA 1 (.t 1) (.t 2)⟩,
    ⟨none, .ld (.t 3)⟩,
    ⟨none, .app 1 8 (.t 0) (.t 4)⟩,
    ⟨none, .asg 2 (.t 5)⟩] []))
  (.ops [] [⟨none, .mv (.v 3)⟩,
    ⟨none, .bin .add (.t 0) (.i 1)⟩,
    ⟨none, .asg 3 (.t 1)⟩] []))))))
  (.seq (.ops [] [⟨none, .mv (.v 2)⟩,
    ⟨none, .asg 1 (.t 0)⟩] [])
  .ret))))
def tr_spec_l01Flat : List Nat := [0, 2, 3, 4]
def rs_spec_l01Flat : List RS := [.t 1]
theorem ok_spec_l01Flat : fnOk Go.Proofs.Try.prog Go.Proofs.Try.f84 tr_spec_l01Flat c_spec_l01Flat 1 rs_spec_l01Flat = true := by decide +kernel

theorem ret_spec_l01Flat (P : List (List Int)) (hP : ∀ x, x < P.length → (P.getD x []).length = 1) (hl : P.length ≤ 1048576) : Ret Go.Proofs.Try.prog 84 [.v (intss P)] (ints (colF P)) := by
  refine ret_fn Go.Proofs.Try.func84 ok_spec_l01Flat rfl (show 1 < 500 by decide) rfl ?_; unfold c_spec_l01Flat tr_spec_l01Flat rs_spec_l01Flat; simp only [go_sem, Nat.reduceLT, Nat.reduceAdd, Nat.reduceSub, ↓reduceIte]
  refine loop_set [] (fun (i : Nat) => [(2, .o (ints (colF (P.take i)))), (3, .int .i64 i)]) (fun i => i ≤ P.length) (fun i => P.length - i) 0 (by simp only [go_sem]; rfl) (Nat.zero_le _) rfl ?_
  rintro i hi
  simp only [go_sem, Nat.reduceLT, Nat.reduceAdd, Nat.reduceSub, Nat.reduceBEq, ↓reduceIte]
  refine ⟨fun h => ⟨h, scal_ints _, by rw [List.length_map, hP i h]; simp only [colF, List.length_map, List.length_take]; omega, i + 1, by omega, by omega, ?_⟩, fun h => by rw [List.take_of_length_le (by omega)]⟩
  rw [wrap_lt h (by simp only [maxLen]; omega), take_snoc h []]
  have h1 := hP i h
  obtain ⟨v, hv⟩ : ∃ v, P.getD i [] = [v] := List.length_eq_one_iff.1 h1
  simp only [colF, List.map_append, List.map_cons, List.map_nil, hv]
  rfl

/-- The set functor with one element everywhere. -/
def oneSf (c : Cat) : Sf := ⟨c, List.replicate c.ob.toNat 1, List.replicate c.fr.length [0]⟩
-- impl.constantSets
def c_impl_constantSets : C :=
  (.seq (.ops [2] [⟨none, .alc [.int .i64 0, .nils (.int .i64 0), .nils (.int .i64 0), .nils (.int .i64 0), .nils (ints []), .nils (.int .i64 0), .nils (ints [])]⟩] [(2, 0)])
  (.seq (.ops [3] [⟨none, .mv (.v 0)⟩,
    ⟨none, .call 101 [(.t 0)]⟩,
    ⟨none, .mv (.v 1)⟩,
    ⟨none, .mv (.v 0)⟩,
    ⟨none, .nck (.t 3)⟩,
    ⟨none, .fA 0 (.t 4)⟩,
    ⟨none, .ld (.t 5)⟩,
    ⟨none, .call 182 [(.t 2), (.t 6)]⟩,
    ⟨none, .bld [.int .i64 0, .nils (.int .i64 0), .nils (.int .i64 0), .nils (.int .i64 0), .nils (ints []), .nils (.int .i64 0), .nils (ints [])] [(0, 5, (.t 1)), (5, 1, (.t 7))]⟩,
    ⟨none, .alc [.int .i64 0, .nils (.int .i64 0), .nils (.int .i64 0), .nils (.int .i64 0), .nils (ints []), .nils (.int .i64 0), .nils (ints [])]⟩,
    ⟨none, .stn 7 (.t 9) (.t 8)⟩] [(3, 9)])
  (.seq (.seq (.ops [4] [⟨none, .mv (.v 0)⟩,
    ⟨none, .nck (.t 0)⟩,
    ⟨none, .fA 1 (.t 1)⟩,
    ⟨none, .ld (.t 2)⟩,
    ⟨none, .len (.t 3)⟩,
    ⟨none, .asg 5 (.i 0)⟩] [(4, 4)])
  (.block 0 (.loop (.opq [] [⟨none, .bin .lss (.v 5) (.v 4)⟩] [] (.t 0) .skip
  (.exit 0)
  (.seq (.block 1 (.ops [] [⟨none, .fA 6 (.v 3)⟩,
    ⟨none, .ld (.t 0)⟩,
    ⟨none, .mv (.v 1)⟩,
    ⟨none, .call 110 [(.t 2)]⟩,
    ⟨none, .bldS (ints []) 1 [(0, (.t 3))]⟩,
    ⟨none, .app 1 24 (.t 1) (.t 4)⟩,
    ⟨none, .fA 6 (.v 3)⟩,
    ⟨none, .st (.t 6) (.t 5)⟩] []))
  (.ops [] [⟨none, .bin .add (.v 5) (.i 1)⟩,
    ⟨none, .asg 5 (.t 0)⟩] []))))))
  (.seq (.ops [] [⟨none, .lda 7 (.v 3)⟩,
    ⟨none, .stn 7 (.v 2) (.t 0)⟩] [])
  .ret))))
def tr_impl_constantSets : List Nat := [0, 1, 4, 5, 19, 20]
def rs_impl_constantSets : List RS := [.c 2 7 true]
theorem ok_impl_constantSets : fnOk Go.Proofs.Try.prog Go.Proofs.Try.f160 tr_impl_constantSets c_impl_constantSets 2 rs_impl_constantSets = true := by decide +kernel

theorem ret_impl_constantSets (c : Cat) (hc : Cat.cost c ≤ 1048576) (hs : c.Shape) : Ret Go.Proofs.Try.prog 160 [.v (.ptr c.cells), .v (.int .i64 1)] (oneSf c).d := by
  have h0 := hs.ob0
  have h8 := hs.ob8
  have hfl := hs.fr
  refine ret_fn Go.Proofs.Try.func160 ok_impl_constantSets rfl (show 2 < 500 by decide) rfl ?_; unfold c_impl_constantSets tr_impl_constantSets rs_impl_constantSets; simp only [go_sem, Nat.reduceLT, Nat.reduceAdd, Nat.reduceSub, ↓reduceIte]
  refine call_of (ret_impl_Category_copy c hc) rfl (.inl (nv_Cat _)) ?_
  simp only [go_sem, Nat.reduceLT, Nat.reduceAdd, Nat.reduceSub, ↓reduceIte]
  refine call_of (ret_impl_repeated 1 c.ob h0 (by omega)) rfl (.inl (nv_ints _)) ?_
  simp only [go_sem, Nat.reduceLT, Nat.reduceAdd, Nat.reduceSub, Nat.reduceEqDiff, Nat.reduceBEq, Nat.reduceLeDiff, ↓reduceIte]
  refine loop_set [] (fun (i : Nat) => [(5, .int .i64 i), (3, .box [.int .i64 c.ob, .o (ints c.fr), .o (ints c.to), .o (ints c.idn), .o (intss c.co), .o (ints (List.replicate c.ob.toNat 1)), .o (intss (List.replicate i [0]))])]) (fun i => i ≤ c.fr.length) (fun i => c.fr.length - i) 0 (by simp only [go_sem]; rfl) (Nat.zero_le _) rfl ?_
  rintro i hi
  simp only [go_sem, Nat.reduceLT, Nat.reduceAdd, Nat.reduceSub, Nat.reduceEqDiff, Nat.reduceBEq, Nat.reduceLeDiff, ↓reduceIte]
  refine ⟨fun h => ?_, fun h => ?_⟩
  · refine call_of (ret_impl_numbers 1 (by decide) (by decide)) rfl (.inl (nv_ints _)) ?_
    simp only [go_sem, Nat.reduceLT, Nat.reduceAdd, Nat.reduceSub, Nat.reduceEqDiff, Nat.reduceBEq, ↓reduceIte]
    refine ⟨by simp only [List.length_replicate]; omega, i + 1, by omega, by omega, ?_⟩
    rw [wrap_lt h (by simp only [maxLen]; omega), List.replicate_succ']; rfl
  · rw [show i = c.fr.length by omega]; rfl
-- spec.l19Constant
def c_spec_l19Constant : C :=
  (.seq (.ops [3, 2] [⟨none, .boxv 5 (.v 0)⟩,
    ⟨none, .alc [.int .i64 0, .nils (.int .i64 0), .nils (.int .i64 0), .nils (.int .i64 0), .nils (ints []), .nils (.int .i64 0), .nils (ints [])]⟩] [(3, 0), (2, 1)])
  (.seq (.ops [4] [⟨none, .lda 5 (.v 3)⟩,
    ⟨none, .call 126 [(.t 0)]⟩,
    ⟨none, .bld [.int .i64 0, .nils (.int .i64 0), .nils (.int .i64 0), .nils (.int .i64 0), .nils (ints []), .nils (.int .i64 0), .nils (ints [])] [(0, 5, (.t 1))]⟩,
    ⟨none, .alc [.int .i64 0, .nils (.int .i64 0), .nils (.int .i64 0), .nils (.int .i64 0), .nils (ints []), .nils (.int .i64 0), .nils (ints [])]⟩,
    ⟨none, .stn 7 (.t 3) (.t 2)⟩] [(4, 3)])
  (.seq (.seq (.ops [] [⟨none, .asg 5 (.i 0)⟩] [])
  (.block 0 (.loop (.seq (.opc [] [⟨none, .mv (.v 5)⟩,
    ⟨none, .fA 0 (.v 3)⟩,
    ⟨none, .ld (.t 1)⟩,
    ⟨none, .bin .lss (.t 0) (.t 2)⟩] [] (.t 3) .skip
  (.exit 0))
  (.seq (.block 1 (.ops [] [⟨none, .fA 5 (.v 4)⟩,
    ⟨none, .ld (.t 0)⟩,
    ⟨none, .mv (.v 1)⟩,
    ⟨none, .bldS (.int .i64 0) 1 [(0, (.t 2))]⟩,
    ⟨none, .app 1 8 (.t 1) (.t 3)⟩,
    ⟨none, .fA 5 (.v 4)⟩,
    ⟨none, .st (.t 5) (.t 4)⟩] []))
  (.ops [] [⟨none, .mv (.v 5)⟩,
    ⟨none, .bin .add (.t 0) (.i 1)⟩,
    ⟨none, .asg 5 (.t 1)⟩] []))))))
  (.seq (.seq (.ops [] [⟨none, .asg 6 (.i 0)⟩] [])
  (.block 2 (.loop (.seq (.opc [] [⟨none, .mv (.v 6)⟩,
    ⟨none, .fA 1 (.v 3)⟩,
    ⟨none, .ld (.t 1)⟩,
    ⟨none, .len (.t 2)⟩,
    ⟨none, .bin .lss (.t 0) (.t 3)⟩] [] (.t 4) .skip
  (.exit 2))
  (.seq (.block 3 (.seq (.ops [] [⟨none, .bldS (.int .i64 0) 0 []⟩,
    ⟨none, .asg 7 (.t 0)⟩] [])
  (.seq (.seq (.ops [] [⟨none, .asg 8 (.i 0)⟩] [])
  (.block 4 (.loop (.seq (.opc [] [⟨none, .mv (.v 8)⟩,
    ⟨none, .mv (.v 1)⟩,
    ⟨none, .bin .lss (.t 0) (.t 1)⟩] [] (.t 2) .skip
  (.exit 4))
  (.seq (.block 5 (.ops [] [⟨none, .mv (.v 7)⟩,
    ⟨none, .mv (.v 8)⟩,
    ⟨none, .bldS (.int .i64 0) 1 [(0, (.t 1))]⟩,
    ⟨none, .app 1 8 (.t 0) (.t 2)⟩,
    ⟨none, .asg 7 (.t 3)⟩] []))
  (.ops [] [⟨none, .mv (.v 8)⟩,
    ⟨none, .bin .add (.t 0) (.i 1)⟩,
    ⟨none, .asg 8 (.t 1)⟩] []))))))
  (.ops [] [⟨none, .fA 6 (.v 4)⟩,
    ⟨none, .ld (.t 0)⟩,
    ⟨none, .mv (.v 7)⟩,
    ⟨none, .bldS (ints []) 1 [(0, (.t 2))]⟩,
    ⟨none, .app 1 24 (.t 1) (.t 3)⟩,
    ⟨none, .fA 6 (.v 4)⟩,
    ⟨none, .st (.t 5) (.t 4)⟩] []))))
  (.ops [] [⟨none, .mv (.v 6)⟩,
    ⟨none, .bin .add (.t 0) (.i 1)⟩,
    ⟨none, .asg 6 (.t 1)⟩] []))))))
  (.seq (.ops [] [⟨none, .lda 7 (.v 4)⟩,
    ⟨none, .stn 7 (.v 2) (.t 0)⟩] [])
  .ret)))))
def tr_spec_l19Constant : List Nat := [0, 1, 4, 2, 5, 6, 7, 8, 9]
def rs_spec_l19Constant : List RS := [.c 2 7 true]
theorem ok_spec_l19Constant : fnOk Go.Proofs.Try.prog Go.Proofs.Try.f83 tr_spec_l19Constant c_spec_l19Constant 2 rs_spec_l19Constant = true := by decide +kernel

theorem ret_spec_l19Constant (c : Cat) (hc : Cat.cost c ≤ 1048576) (hs : c.Shape) : Ret Go.Proofs.Try.prog 83 [.v c.d, .v (.int .i64 1)] (oneSf c).d := by
  have h0 := hs.ob0
  have h8 := hs.ob8
  have hfl := hs.fr
  refine ret_fn Go.Proofs.Try.func83 ok_spec_l19Constant rfl (show 2 < 500 by decide) rfl ?_; unfold c_spec_l19Constant tr_spec_l19Constant rs_spec_l19Constant; simp only [go_sem, Nat.reduceLT, Nat.reduceAdd, Nat.reduceSub, Nat.reduceLeDiff, ↓reduceIte]
  refine call_of (ret_spec_l02Own c hc) rfl (.inl (nv_Cat _)) ?_
  simp only [go_sem, Nat.reduceLT, Nat.reduceAdd, Nat.reduceSub, Nat.reduceEqDiff, Nat.reduceBEq, Nat.reduceLeDiff, ↓reduceIte]
  refine loop_set [] (fun (i : Nat) => [(5, .int .i64 i), (4, .box [.int .i64 c.ob, .o (ints c.fr), .o (ints c.to), .o (ints c.idn), .o (intss c.co), .o (ints (List.replicate i 1)), .o (intss [])])]) (fun i => (i : Int) ≤ c.ob) (fun i => c.ob.toNat - i) 0 (by simp only [go_sem]; rfl) (by simpa using h0) rfl ?_
  rintro i hi
  simp only [go_sem, Nat.reduceLT, Nat.reduceAdd, Nat.reduceSub, Nat.reduceEqDiff, Nat.reduceBEq, Nat.reduceLeDiff, ↓reduceIte]
  refine ⟨fun h => ⟨by simp only [List.length_replicate]; omega, i + 1, by omega, by omega, ?_⟩, fun h => ?_⟩
  · rw [wrap_lt (n := 9) (by omega) (by simp only [maxLen]; omega), List.replicate_succ']
  have hi' : i = c.ob.toNat := by omega
  subst hi'
  refine loop_set [7, 8] (fun (i : Nat) => [(6, .int .i64 i), (4, .box [.int .i64 c.ob, .o (ints c.fr), .o (ints c.to), .o (ints c.idn), .o (intss c.co), .o (ints (List.replicate c.ob.toNat 1)), .o (intss (List.replicate i [0]))])]) (fun i => i ≤ c.fr.length) (fun i => c.fr.length - i) 0 (by simp only [go_sem, Nat.reduceLT, ↓reduceIte]; rfl) (Nat.zero_le _) rfl ?_
  rintro a ha
  simp only [go_sem, Nat.reduceLT, Nat.reduceAdd, Nat.reduceSub, Nat.reduceEqDiff, Nat.reduceBEq, Nat.reduceLeDiff, ↓reduceIte]
  refine ⟨fun h => ?_, fun h => ?_⟩
  · refine loop_set [] (fun (e : Nat) => [(8, .int .i64 e), (7, .o (ints (nums e)))]) (fun e => e ≤ 1) (fun e => 1 - e) 0 (by simp only [go_sem]; rfl) (by decide) rfl ?_
    rintro e he
    simp only [go_sem, Nat.reduceLT, Nat.reduceAdd, Nat.reduceSub, Nat.reduceEqDiff, Nat.reduceBEq, Nat.reduceLeDiff, ↓reduceIte]
    refine ⟨fun h2 => ⟨by rw [nums_len]; omega, e + 1, by omega, by omega, ?_⟩, fun h2 => ⟨by simp only [List.length_replicate]; omega, a + 1, by omega, by omega, ?_⟩⟩
    · rw [wrap_lt (n := 9) (by omega) (by simp only [maxLen]; omega), show nums (e + 1) = nums e ++ [(e : Int)] by simp [nums, List.range_succ]]
    · rw [wrap_lt h (by simp only [maxLen]; omega), List.replicate_succ', show e = 1 by omega]; rfl
  · rw [show a = c.fr.length by omega]; rfl
end Go.D3
