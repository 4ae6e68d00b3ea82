/- CONTRACTS: faults. -/
import Derived.Test.YtclmdejmogmifaaM2
namespace Go.D3
open Go
set_option maxRecDepth 100000
-- spec.l02Fault
def c_spec_l02Fault : C :=
  (.seq (.ops [5] [⟨none, .boxv 5 (.v 0)⟩,
    ⟨none, .asg 1 (.i 0)⟩,
    ⟨none, .asg 2 (.i 0)⟩,
    ⟨none, .asg 3 (.i 0)⟩,
    ⟨none, .asg 4 (.i 0)⟩] [(5, 0)])
  (.seq (.ops [] [⟨none, .fA 1 (.v 5)⟩,
    ⟨none, .ld (.t 0)⟩,
    ⟨none, .len (.t 1)⟩,
    ⟨none, .asg 6 (.t 2)⟩] [])
  (.seq (.seq (.ops [] [⟨none, .asg 7 (.i 0)⟩] [])
  (.block 0 (.loop (.seq (.opc [] [⟨none, .mv (.v 7)⟩,
    ⟨none, .mv (.v 6)⟩,
    ⟨none, .bin .lss (.t 0) (.t 1)⟩] [] (.t 2) .skip
  (.exit 0))
  (.seq (.block 1 (.opc [] [⟨none, .fA 4 (.v 5)⟩,
    ⟨none, .ld (.t 0)⟩,
    ⟨none, .fA 3 (.v 5)⟩,
    ⟨none, .ld (.t 2)⟩,
    ⟨none, .fA 1 (.v 5)⟩,
    ⟨none, .ld (.t 4)⟩,
    ⟨none, .mv (.v 7)⟩,
    ⟨none, .idxA 1 (.t 5) (.t 6)⟩,
    ⟨none, .ld (.t 7)⟩,
    ⟨none, .idxA 1 (.t 3) (.t 8)⟩,
    ⟨none, .ld (.t 9)⟩,
    ⟨none, .idxA 1 (.t 1) (.t 10)⟩,
    ⟨none, .ld (.t 11)⟩,
    ⟨none, .mv (.v 7)⟩,
    ⟨none, .idxA 1 (.t 12) (.t 13)⟩,
    ⟨none, .ld (.t 14)⟩,
    ⟨none, .mv (.v 7)⟩,
    ⟨none, .bin .neq (.t 15) (.t 16)⟩,
    ⟨none, .mv (.t 17)⟩,
    ⟨some (18, false), .fA 4 (.v 5)⟩,
    ⟨some (18, false), .ld (.t 19)⟩,
    ⟨some (18, false), .mv (.v 7)⟩,
    ⟨some (18, false), .idxA 1 (.t 20) (.t 21)⟩,
    ⟨some (18, false), .ld (.t 22)⟩,
    ⟨some (18, false), .fA 3 (.v 5)⟩,
    ⟨some (18, false), .ld (.t 24)⟩,
    ⟨some (18, false), .fA 2 (.v 5)⟩,
    ⟨some (18, false), .ld (.t 26)⟩,
    ⟨some (18, false), .mv (.v 7)⟩,
    ⟨some (18, false), .idxA 1 (.t 27) (.t 28)⟩,
    ⟨some (18, false), .ld (.t 29)⟩,
    ⟨some (18, false), .idxA 1 (.t 25) (.t 30)⟩,
    ⟨some (18, false), .ld (.t 31)⟩,
    ⟨some (18, false), .idxA 1 (.t 23) (.t 32)⟩,
    ⟨some (18, false), .ld (.t 33)⟩,
    ⟨some (18, false), .mv (.v 7)⟩,
    ⟨some (18, false), .bin .neq (.t 34) (.t 35)⟩,
    ⟨none, .pick (.t 18) (.k (.bool true)) (.t 36)⟩] [] (.t 37) (.seq (.ops [] [⟨none, .mv (.v 7)⟩,
    ⟨none, .asg 1 (.i 1)⟩,
    ⟨none, .asg 2 (.t 0)⟩,
    ⟨none, .asg 3 (.i 0)⟩,
    ⟨none, .asg 4 (.i 0)⟩] [])
  .ret)
  .skip))
  (.ops [] [⟨none, .mv (.v 7)⟩,
    ⟨none, .bin .add (.t 0) (.i 1)⟩,
    ⟨none, .asg 7 (.t 1)⟩] []))))))
  (.seq (.seq (.ops [] [⟨none, .asg 8 (.i 0)⟩] [])
  (.block 2 (.loop (.seq (.opc [] [⟨none, .mv (.v 8)⟩,
    ⟨none, .mv (.v 6)⟩,
    ⟨none, .bin .lss (.t 0) (.t 1)⟩] [] (.t 2) .skip
  (.exit 2))
  (.seq (.block 3 (.seq (.ops [] [⟨none, .asg 9 (.i 0)⟩] [])
  (.block 4 (.loop (.seq (.opc [] [⟨none, .mv (.v 9)⟩,
    ⟨none, .mv (.v 6)⟩,
    ⟨none, .bin .lss (.t 0) (.t 1)⟩] [] (.t 2) .skip
  (.exit 4))
  (.seq (.block 5 (.seq (.opc [] [⟨none, .fA 2 (.v 5)⟩,
    ⟨none, .ld (.t 0)⟩,
    ⟨none, .mv (.v 8)⟩,
    ⟨none, .idxA 1 (.t 1) (.t 2)⟩,
    ⟨none, .ld (.t 3)⟩,
    ⟨none, .fA 1 (.v 5)⟩,
    ⟨none, .ld (.t 5)⟩,
    ⟨none, .mv (.v 9)⟩,
    ⟨none, .idxA 1 (.t 6) (.t 7)⟩,
    ⟨none, .ld (.t 8)⟩,
    ⟨none, .bin .neq (.t 4) (.t 9)⟩] [] (.t 10) (.exit 5)
  .skip)
  (.seq (.ops [] [⟨none, .asg 10 (.i 0)⟩] [])
  (.block 6 (.loop (.seq (.opc [] [⟨none, .mv (.v 10)⟩,
    ⟨none, .mv (.v 6)⟩,
    ⟨none, .bin .lss (.t 0) (.t 1)⟩] [] (.t 2) .skip
  (.exit 6))
  (.seq (.block 7 (.opc [] [⟨none, .fA 2 (.v 5)⟩,
    ⟨none, .ld (.t 0)⟩,
    ⟨none, .mv (.v 9)⟩,
    ⟨none, .idxA 1 (.t 1) (.t 2)⟩,
    ⟨none, .ld (.t 3)⟩,
    ⟨none, .fA 1 (.v 5)⟩,
    ⟨none, .ld (.t 5)⟩,
    ⟨none, .mv (.v 10)⟩,
    ⟨none, .idxA 1 (.t 6) (.t 7)⟩,
    ⟨none, .ld (.t 8)⟩,
    ⟨none, .bin .eql (.t 4) (.t 9)⟩,
    ⟨none, .mv (.t 10)⟩,
    ⟨some (11, true), .fA 4 (.v 5)⟩,
    ⟨some (11, true), .ld (.t 12)⟩,
    ⟨some (11, true), .fA 4 (.v 5)⟩,
    ⟨some (11, true), .ld (.t 14)⟩,
    ⟨some (11, true), .mv (.v 8)⟩,
    ⟨some (11, true), .idxA 1 (.t 15) (.t 16)⟩,
    ⟨some (11, true), .ld (.t 17)⟩,
    ⟨some (11, true), .mv (.v 9)⟩,
    ⟨some (11, true), .idxA 1 (.t 18) (.t 19)⟩,
    ⟨some (11, true), .ld (.t 20)⟩,
    ⟨some (11, true), .idxA 1 (.t 13) (.t 21)⟩,
    ⟨some (11, true), .ld (.t 22)⟩,
    ⟨some (11, true), .mv (.v 10)⟩,
    ⟨some (11, true), .idxA 1 (.t 23) (.t 24)⟩,
    ⟨some (11, true), .ld (.t 25)⟩,
    ⟨some (11, true), .fA 4 (.v 5)⟩,
    ⟨some (11, true), .ld (.t 27)⟩,
    ⟨some (11, true), .mv (.v 8)⟩,
    ⟨some (11, true), .idxA 1 (.t 28) (.t 29)⟩,
    ⟨some (11, true), .ld (.t 30)⟩,
    ⟨some (11, true), .fA 4 (.v 5)⟩,
    ⟨some (11, true), .ld (.t 32)⟩,
    ⟨some (11, true), .mv (.v 9)⟩,
    ⟨some (11, true), .idxA 1 (.t 33) (.t 34)⟩,
    ⟨some (11, true), .ld (.t 35)⟩,
    ⟨some (11, true), .mv (.v 10)⟩,
    ⟨some (11, true), .idxA 1 (.t 36) (.t 37)⟩,
    ⟨some (11, true), .ld (.t 38)⟩,
    ⟨some (11, true), .idxA 1 (.t 31) (.t 39)⟩,
    ⟨some (11, true), .ld (.t 40)⟩,
    ⟨some (11, true), .bin .neq (.t 26) (.t 41)⟩,
    ⟨none, .pick (.t 11) (.t 42) (.k (.bool false))⟩] [] (.t 43) (.seq (.ops [] [⟨none, .mv (.v 8)⟩,
    ⟨none, .mv (.v 9)⟩,
    ⟨none, .mv (.v 10)⟩,
    ⟨none, .asg 1 (.i 2)⟩,
    ⟨none, .asg 2 (.t 0)⟩,
    ⟨none, .asg 3 (.t 1)⟩,
    ⟨none, .asg 4 (.t 2)⟩] [])
  .ret)
  .skip))
  (.ops [] [⟨none, .mv (.v 10)⟩,
    ⟨none, .bin .add (.t 0) (.i 1)⟩,
    ⟨none, .asg 10 (.t 1)⟩] []))))))))
  (.ops [] [⟨none, .mv (.v 9)⟩,
    ⟨none, .bin .add (.t 0) (.i 1)⟩,
    ⟨none, .asg 9 (.t 1)⟩] [])))))))
  (.ops [] [⟨none, .mv (.v 8)⟩,
    ⟨none, .bin .add (.t 0) (.i 1)⟩,
    ⟨none, .asg 8 (.t 1)⟩] []))))))
  (.seq (.ops [] [⟨none, .asg 1 (.i 0)⟩,
    ⟨none, .asg 2 (.i 0)⟩,
    ⟨none, .asg 3 (.i 0)⟩,
    ⟨none, .asg 4 (.i 0)⟩] [])
  .ret)))))
def tr_spec_l02Fault : List Nat := [0, 2, 3, 4, 5, 1, 6, 7, 8, 9, 10]
def rs_spec_l02Fault : List RS := [.t 1, .t 2, .t 3, .t 4]
theorem ok_spec_l02Fault : fnOk Go.Proofs.Try.prog Go.Proofs.Try.f96 tr_spec_l02Fault c_spec_l02Fault 1 rs_spec_l02Fault = true := by decide +kernel

theorem ret_spec_l02Fault (c : Cat) (hs : c.Shape) : Ret Go.Proofs.Try.prog 96 [.v c.d] (fd c.faultF) := by
  have hm := hs.fr
  have hml : c.fr.length ≤ maxLen := by simp only [maxLen]; omega
  have hto := hs.to
  have hco := hs.co
  have cI : ∀ f g : Int, (c.co.getD f.toNat []).getD g.toNat 0 = c.cellI f g := fun _ _ => rfl
  have iI : ∀ x : Int, c.idn.getD x.toNat 0 = c.idI x := fun _ => rfl
  refine ret_fn Go.Proofs.Try.func96 ok_spec_l02Fault rfl (show 1 < 500 by decide) rfl ?_
  unfold c_spec_l02Fault tr_spec_l02Fault rs_spec_l02Fault
  simp only [go_sem, Nat.reduceLT, Nat.reduceAdd, Nat.reduceSub, Nat.reduceEqDiff, Nat.reduceBEq, Nat.reduceLeDiff, ↓reduceIte]
  refine loop_set [] (fun (f : Nat) => [(7, .int .i64 f)]) (fun f => f ≤ c.fr.length ∧ ∀ j, j < f → c.idF j = false) (fun f => c.fr.length - f) 0 rfl ⟨Nat.zero_le _, fun j hj => by omega⟩ rfl ?_
  rintro f ⟨hf, ha⟩
  simp only [go_sem, Nat.reduceLT, Nat.reduceAdd, Nat.reduceSub, Nat.reduceEqDiff, Nat.reduceBEq, Nat.reduceLeDiff, ↓reduceIte]
  refine ⟨fun h => ?_, fun h => ?_⟩
  · have e1 := hs.fri h
    have e2 := hs.idi e1.1 e1.2
    have e3 := hs.rowl e2.1 e2.2
    have e4 := hs.toi h
    have e5 := hs.idi e4.1 e4.2
    have e6 := hs.row f h
    simp only [Cat.idI] at e2 e3 e5
    refine ⟨h, e1, ⟨e2.1, by omega⟩, by omega, fun h2 => ⟨h2, by omega⟩, fun h2 => ⟨h2, by omega⟩, fun h2 => ⟨h2, e4⟩, fun h2 => ⟨h2, e5.1, by omega⟩, fun h2 => by simpa only [Bool.not_eq_true'] using h2, fun h2 => ?_, fun h2 => ?_⟩
    · rw [Cat.fault_id ha h h2]; rfl
    · exact ⟨f + 1, ⟨by omega, fun j hj => by by_cases hjf : j < f; exact ha j hjf; rw [show j = f by omega]; exact h2⟩, by omega, by rw [wrap_lt h hml]⟩
  have : f = c.fr.length := by omega
  subst this
  refine loop_set [9, 10] (fun (f : Nat) => [(8, .int .i64 f)]) (fun f => f ≤ c.fr.length ∧ ∀ f' g' h', f' < f → g' < c.fr.length → h' < c.fr.length → c.asF f' g' h' = false) (fun f => c.fr.length - f) 0 rfl ⟨Nat.zero_le _, fun _ _ _ hj => by omega⟩ rfl ?_
  rintro f ⟨hf, hb⟩
  simp only [go_sem, Nat.reduceLT, Nat.reduceAdd, Nat.reduceSub, Nat.reduceEqDiff, Nat.reduceBEq, Nat.reduceLeDiff, ↓reduceIte]
  refine ⟨fun hfl => ?_, fun h => ?_⟩
  · refine loop_set [10] (fun (g : Nat) => [(9, .int .i64 g)]) (fun g => g ≤ c.fr.length ∧ ∀ g' h', g' < g → h' < c.fr.length → c.asF f g' h' = false) (fun g => c.fr.length - g) 0 rfl ⟨Nat.zero_le _, fun _ _ hj => by omega⟩ rfl ?_
    rintro g ⟨hg, hc⟩
    simp only [go_sem, Nat.reduceLT, Nat.reduceAdd, Nat.reduceSub, Nat.reduceEqDiff, Nat.reduceBEq, Nat.reduceLeDiff, ↓reduceIte]
    refine ⟨fun hgl => ⟨by omega, hgl, fun h2 => ?_, fun h2 => ?_⟩, fun h => ?_⟩
    · refine ⟨g + 1, ⟨by omega, fun g' h' hg' hh' => ltS (P := fun g' => c.asF f g' h' = false) (fun j hj => hc j h' hj hh') ?_ g' hg'⟩, by omega, by rw [wrap_lt hgl hml]⟩
      rw [bne_iff_ne] at h2
      exact Cat.asF_no h2
    · rw [bne_eq_false_iff_eq] at h2
      have e1 := hs.cell_in hfl hgl h2
      refine loop_set [] (fun (h : Nat) => [(10, .int .i64 h)]) (fun h => h ≤ c.fr.length ∧ ∀ h', h' < h → c.asF f g h' = false) (fun h => c.fr.length - h) 0 rfl ⟨Nat.zero_le _, fun _ hj => by omega⟩ rfl ?_
      rintro h ⟨hh, hd⟩
      simp only [go_sem, Nat.reduceLT, Nat.reduceAdd, Nat.reduceSub, Nat.reduceEqDiff, Nat.reduceBEq, Nat.reduceLeDiff, ↓reduceIte]
      have e3 := hs.rowl e1.1 e1.2.1
      have e4 := hs.row f hfl
      have e5 := hs.row g hgl
      have hasf := fun h => Cat.asF_of (h := h) h2
      refine ⟨fun hhl => ?_, fun h3 => ?_⟩
      · have e6 := hs.cell_in hgl hhl
        refine ⟨by omega, hhl, fun h3 => ⟨h3, by omega⟩, fun h3 => ⟨h3, by omega⟩, fun h3 => ⟨h3, e1.1, by rw [hco]; exact e1.2.1⟩, fun h3 => ⟨h3, Nat.lt_of_lt_of_eq hhl e3.symm⟩, fun h3 => ⟨h3, by omega⟩, fun h3 => ⟨h3, by omega⟩, fun h3 => ⟨h3, by omega⟩,
          fun h3 => ⟨h3, (e6 h3).1, by rw [e4]; exact (e6 h3).2.1⟩, fun h3 => ?_, fun h3 => ?_⟩
        · rw [Cat.fault_as ha hfl hgl hhl (by rw [hasf]; exact h3) hd hc hb]; rfl
        · exact ⟨h + 1, ⟨by omega, ltS hd (by rw [hasf]; exact h3)⟩, by omega, by rw [wrap_lt hhl hml]⟩
      · have : h = c.fr.length := by omega
        subst this
        exact ⟨g + 1, ⟨by omega, fun g' h' hg' hh' => ltS (P := fun g' => c.asF f g' h' = false) (fun j hj => hc j h' hj hh') (hd h' hh') g' hg'⟩, by omega, by rw [wrap_lt hgl hml]⟩
    · refine ⟨f + 1, ⟨by omega, fun f' g' h' hf' hg' hh' => ltS (P := fun f' => c.asF f' g' h' = false) (fun j hj => hb j g' h' hj hg' hh') (hc g' h' (by omega) hh') f' hf'⟩, by omega, by rw [wrap_lt hfl hml]⟩
  · have : f = c.fr.length := by omega
    subst this
    rw [Cat.fault_no ha hb]; rfl
end Go.D3
