/- CONTRACTS: impl's faults. -/
import Derived.Test.YtclmdejmogmifaaM2
namespace Go.D3
open Go
set_option maxRecDepth 100000
set_option maxHeartbeats 4000000
theorem retS_then {c : Cat} (hs : c.Shape) (f g : Int) (h0 : 0 ≤ f) (h1 : f < c.fr.length) (h2 : 0 ≤ g) (h3 : g < c.fr.length) : Ret Go.Proofs.Try.prog 104 [.v (.ptr c.cells), .v (.int .i64 f), .v (.int .i64 g)] (.int .i64 (c.cellI f g)) :=
  ret_impl_Category_then c f g h0 (by have := hs.co; omega) h2 (by rw [hs.rowl h0 h1]; exact h3)
-- (*impl.Category).fault
def c_impl_Category_fault : C :=
  (.seq (.ops [] [⟨none, .asg 1 (.i 0)⟩,
    ⟨none, .asg 2 (.i 0)⟩,
    ⟨none, .asg 3 (.i 0)⟩,
    ⟨none, .asg 4 (.i 0)⟩] [])
  (.seq (.ops [] [⟨none, .mv (.v 0)⟩,
    ⟨none, .call 111 [(.t 0)]⟩,
    ⟨none, .asg 5 (.t 1)⟩] [])
  (.seq (.seq (.ops [] [⟨none, .asg 6 (.i 0)⟩] [])
  (.block 0 (.loop (.seq (.opc [] [⟨none, .mv (.v 6)⟩,
    ⟨none, .mv (.v 5)⟩,
    ⟨none, .bin .lss (.t 0) (.t 1)⟩] [] (.t 2) .skip
  (.exit 0))
  (.seq (.block 1 (.opc [] [⟨none, .mv (.v 0)⟩,
    ⟨none, .mv (.v 0)⟩,
    ⟨none, .nck (.t 1)⟩,
    ⟨none, .fA 3 (.t 2)⟩,
    ⟨none, .ld (.t 3)⟩,
    ⟨none, .mv (.v 0)⟩,
    ⟨none, .nck (.t 5)⟩,
    ⟨none, .fA 1 (.t 6)⟩,
    ⟨none, .ld (.t 7)⟩,
    ⟨none, .mv (.v 6)⟩,
    ⟨none, .idxA 1 (.t 8) (.t 9)⟩,
    ⟨none, .ld (.t 10)⟩,
    ⟨none, .idxA 1 (.t 4) (.t 11)⟩,
    ⟨none, .ld (.t 12)⟩,
    ⟨none, .mv (.v 6)⟩,
    ⟨none, .call 104 [(.t 0), (.t 13), (.t 14)]⟩,
    ⟨none, .mv (.v 6)⟩,
    ⟨none, .bin .neq (.t 15) (.t 16)⟩,
    ⟨none, .mv (.t 17)⟩,
    ⟨some (18, false), .mv (.v 0)⟩,
    ⟨some (18, false), .mv (.v 6)⟩,
    ⟨some (18, false), .mv (.v 0)⟩,
    ⟨some (18, false), .nck (.t 21)⟩,
    ⟨some (18, false), .fA 3 (.t 22)⟩,
    ⟨some (18, false), .ld (.t 23)⟩,
    ⟨some (18, false), .mv (.v 0)⟩,
    ⟨some (18, false), .nck (.t 25)⟩,
    ⟨some (18, false), .fA 2 (.t 26)⟩,
    ⟨some (18, false), .ld (.t 27)⟩,
    ⟨some (18, false), .mv (.v 6)⟩,
    ⟨some (18, false), .idxA 1 (.t 28) (.t 29)⟩,
    ⟨some (18, false), .ld (.t 30)⟩,
    ⟨some (18, false), .idxA 1 (.t 24) (.t 31)⟩,
    ⟨some (18, false), .ld (.t 32)⟩,
    ⟨some (18, false), .call 104 [(.t 19), (.t 20), (.t 33)]⟩,
    ⟨some (18, false), .mv (.v 6)⟩,
    ⟨some (18, false), .bin .neq (.t 34) (.t 35)⟩,
    ⟨none, .pick (.t 18) (.k (.bool true)) (.t 36)⟩] [] (.t 37) (.seq (.ops [] [⟨none, .mv (.v 6)⟩,
    ⟨none, .asg 1 (.i 1)⟩,
    ⟨none, .asg 2 (.t 0)⟩,
    ⟨none, .asg 3 (.i 0)⟩,
    ⟨none, .asg 4 (.i 0)⟩] [])
  .ret)
  .skip))
  (.ops [] [⟨none, .mv (.v 6)⟩,
    ⟨none, .bin .add (.t 0) (.i 1)⟩,
    ⟨none, .asg 6 (.t 1)⟩] []))))))
  (.seq (.seq (.ops [] [⟨none, .asg 7 (.i 0)⟩] [])
  (.block 2 (.loop (.seq (.opc [] [⟨none, .mv (.v 7)⟩,
    ⟨none, .mv (.v 5)⟩,
    ⟨none, .bin .lss (.t 0) (.t 1)⟩] [] (.t 2) .skip
  (.exit 2))
  (.seq (.block 3 (.seq (.ops [] [⟨none, .asg 8 (.i 0)⟩] [])
  (.block 4 (.loop (.seq (.opc [] [⟨none, .mv (.v 8)⟩,
    ⟨none, .mv (.v 5)⟩,
    ⟨none, .bin .lss (.t 0) (.t 1)⟩] [] (.t 2) .skip
  (.exit 4))
  (.seq (.block 5 (.seq (.opc [] [⟨none, .mv (.v 0)⟩,
    ⟨none, .mv (.v 7)⟩,
    ⟨none, .mv (.v 8)⟩,
    ⟨none, .call 104 [(.t 0), (.t 1), (.t 2)]⟩,
    ⟨none, .bin .lss (.t 3) (.i 0)⟩] [] (.t 4) (.exit 5)
  .skip)
  (.seq (.ops [] [⟨none, .asg 9 (.i 0)⟩] [])
  (.block 6 (.loop (.seq (.opc [] [⟨none, .mv (.v 9)⟩,
    ⟨none, .mv (.v 5)⟩,
    ⟨none, .bin .lss (.t 0) (.t 1)⟩] [] (.t 2) .skip
  (.exit 6))
  (.seq (.block 7 (.opc [] [⟨none, .mv (.v 0)⟩,
    ⟨none, .mv (.v 8)⟩,
    ⟨none, .mv (.v 9)⟩,
    ⟨none, .call 104 [(.t 0), (.t 1), (.t 2)]⟩,
    ⟨none, .bin .geq (.t 3) (.i 0)⟩,
    ⟨none, .mv (.t 4)⟩,
    ⟨some (5, true), .mv (.v 0)⟩,
    ⟨some (5, true), .mv (.v 0)⟩,
    ⟨some (5, true), .mv (.v 7)⟩,
    ⟨some (5, true), .mv (.v 8)⟩,
    ⟨some (5, true), .call 104 [(.t 7), (.t 8), (.t 9)]⟩,
    ⟨some (5, true), .mv (.v 9)⟩,
    ⟨some (5, true), .call 104 [(.t 6), (.t 10), (.t 11)]⟩,
    ⟨some (5, true), .mv (.v 0)⟩,
    ⟨some (5, true), .mv (.v 7)⟩,
    ⟨some (5, true), .mv (.v 0)⟩,
    ⟨some (5, true), .mv (.v 8)⟩,
    ⟨some (5, true), .mv (.v 9)⟩,
    ⟨some (5, true), .call 104 [(.t 15), (.t 16), (.t 17)]⟩,
    ⟨some (5, true), .call 104 [(.t 13), (.t 14), (.t 18)]⟩,
    ⟨some (5, true), .bin .neq (.t 12) (.t 19)⟩,
    ⟨none, .pick (.t 5) (.t 20) (.k (.bool false))⟩] [] (.t 21) (.seq (.ops [] [⟨none, .mv (.v 7)⟩,
    ⟨none, .mv (.v 8)⟩,
    ⟨none, .mv (.v 9)⟩,
    ⟨none, .asg 1 (.i 2)⟩,
    ⟨none, .asg 2 (.t 0)⟩,
    ⟨none, .asg 3 (.t 1)⟩,
    ⟨none, .asg 4 (.t 2)⟩] [])
  .ret)
  .skip))
  (.ops [] [⟨none, .mv (.v 9)⟩,
    ⟨none, .bin .add (.t 0) (.i 1)⟩,
    ⟨none, .asg 9 (.t 1)⟩] []))))))))
  (.ops [] [⟨none, .mv (.v 8)⟩,
    ⟨none, .bin .add (.t 0) (.i 1)⟩,
    ⟨none, .asg 8 (.t 1)⟩] [])))))))
  (.ops [] [⟨none, .mv (.v 7)⟩,
    ⟨none, .bin .add (.t 0) (.i 1)⟩,
    ⟨none, .asg 7 (.t 1)⟩] []))))))
  (.seq (.ops [] [⟨none, .asg 1 (.i 0)⟩,
    ⟨none, .asg 2 (.i 0)⟩,
    ⟨none, .asg 3 (.i 0)⟩,
    ⟨none, .asg 4 (.i 0)⟩] [])
  .ret)))))
def tr_impl_Category_fault : List Nat := [0, 2, 3, 4, 5, 6, 7, 8, 9, 10]
def rs_impl_Category_fault : List RS := [.t 1, .t 2, .t 3, .t 4]
theorem ok_impl_Category_fault : fnOk Go.Proofs.Try.prog Go.Proofs.Try.f108 tr_impl_Category_fault c_impl_Category_fault 1 rs_impl_Category_fault = true := by decide +kernel

theorem ret_impl_Category_fault (c : Cat) (hs : c.Shape) : Ret Go.Proofs.Try.prog 108 [.v (.ptr c.cells)] (fd c.faultF) := by
  have hm := hs.fr
  have hml : c.fr.length ≤ maxLen := by simp only [maxLen]; omega
  have hto := hs.to
  have hco := hs.co
  refine ret_fn Go.Proofs.Try.func108 ok_impl_Category_fault rfl (show 1 < 500 by decide) rfl ?_
  unfold c_impl_Category_fault tr_impl_Category_fault rs_impl_Category_fault
  simp only [go_sem, Nat.reduceLT, Nat.reduceAdd, Nat.reduceSub, Nat.reduceEqDiff, Nat.reduceBEq, Nat.reduceLeDiff, ↓reduceIte]
  refine call_of (ret_impl_Category_arrows c) rfl (.inl rfl) ?_
  simp only [go_sem, Nat.reduceLT, Nat.reduceAdd, Nat.reduceSub, Nat.reduceEqDiff, Nat.reduceBEq, Nat.reduceLeDiff, ↓reduceIte]
  refine loop_set [] (fun (f : Nat) => [(6, .int .i64 f)]) (fun f => f ≤ c.fr.length ∧ ∀ j, j < f → c.idF j = false) (fun f => c.fr.length - f) 0 (by simp only [go_sem, Nat.reduceLT, Nat.reduceAdd, Nat.reduceSub, Nat.reduceEqDiff, Nat.reduceBEq, Nat.reduceLeDiff, ↓reduceIte]; rfl) ⟨Nat.zero_le _, fun j hj => by omega⟩ rfl ?_
  rintro f ⟨hf, ha⟩
  simp only [go_sem, Nat.reduceLT, Nat.reduceAdd, Nat.reduceSub, Nat.reduceEqDiff, Nat.reduceBEq, Nat.reduceLeDiff, ↓reduceIte]
  refine ⟨fun h => ?_, fun h => ?_⟩
  · have e1 := hs.fri h
    have e2 := hs.idi e1.1 e1.2
    have e4 := hs.toi h
    have e5 := hs.idi e4.1 e4.2
    refine ⟨h, e1, call_of (retS_then hs (c.idI (c.fr.getD f 0)) f e2.1 e2.2 (by omega) (by omega)) rfl (.inl rfl) ?_⟩
    simp only [go_sem, Nat.reduceLT, Nat.reduceAdd, Nat.reduceSub, Nat.reduceEqDiff, Nat.reduceBEq, Nat.reduceLeDiff, ↓reduceIte]
    refine ⟨fun h2 => ⟨h2, by omega⟩, fun h2 => ⟨h2, e4⟩, callg_of (fun h => retS_then hs f (c.idI (c.to.getD f 0)) (by omega) (by omega) e5.1 e5.2) rfl (fun h => h) (.inl rfl) ?_⟩
    simp only [go_sem, Nat.reduceLT, Nat.reduceAdd, Nat.reduceSub, Nat.reduceEqDiff, Nat.reduceBEq, Nat.reduceLeDiff, ↓reduceIte]
    refine ⟨fun h2 => by simpa only [Bool.not_eq_true'] using h2, fun h2 => ?_, fun h2 => ?_⟩
    · rw [Cat.fault_id ha h h2]; rfl
    · exact ⟨f + 1, ⟨by omega, fun j hj => by by_cases hjf : j < f; exact ha j hjf; rw [show j = f by omega]; exact h2⟩, by omega, by rw [wrap_lt h hml]⟩
  have : f = c.fr.length := by omega
  subst this
  refine loop_set [8, 9] (fun (f : Nat) => [(7, .int .i64 f)]) (fun f => f ≤ c.fr.length ∧ ∀ f' g' h', f' < f → g' < c.fr.length → h' < c.fr.length → c.asF f' g' h' = false) (fun f => c.fr.length - f) 0 (by simp only [go_sem, Nat.reduceLT, Nat.reduceAdd, Nat.reduceSub, Nat.reduceEqDiff, Nat.reduceBEq, Nat.reduceLeDiff, ↓reduceIte]; rfl) ⟨Nat.zero_le _, fun _ _ _ hj => by omega⟩ rfl ?_
  rintro f ⟨hf, hb⟩
  simp only [go_sem, Nat.reduceLT, Nat.reduceAdd, Nat.reduceSub, Nat.reduceEqDiff, Nat.reduceBEq, Nat.reduceLeDiff, ↓reduceIte]
  refine ⟨fun hfl => ?_, fun h => ?_⟩
  · refine loop_set [9] (fun (g : Nat) => [(8, .int .i64 g)]) (fun g => g ≤ c.fr.length ∧ ∀ g' h', g' < g → h' < c.fr.length → c.asF f g' h' = false) (fun g => c.fr.length - g) 0 (by simp only [go_sem, Nat.reduceLT, Nat.reduceAdd, Nat.reduceSub, Nat.reduceEqDiff, Nat.reduceBEq, Nat.reduceLeDiff, ↓reduceIte]; rfl) ⟨Nat.zero_le _, fun _ _ hj => by omega⟩ rfl ?_
    rintro g ⟨hg, hc⟩
    simp only [go_sem, Nat.reduceLT, Nat.reduceAdd, Nat.reduceSub, Nat.reduceEqDiff, Nat.reduceBEq, Nat.reduceLeDiff, ↓reduceIte]
    refine ⟨fun hgl => ?_, fun h => ?_⟩
    · refine call_of (retS_then hs f g (by omega) (by omega) (by omega) (by omega)) rfl (.inl rfl) ?_
      simp only [go_sem, Nat.reduceLT, Nat.reduceAdd, Nat.reduceSub, Nat.reduceEqDiff, Nat.reduceBEq, Nat.reduceLeDiff, ↓reduceIte]
      by_cases h2 : c.to.getD f 0 = c.fr.getD g 0
      · have e1 := hs.cell_in hfl hgl h2
        refine ⟨fun h3 => by omega, fun h3 => ?_⟩
        refine loop_set [] (fun (h : Nat) => [(9, .int .i64 h)]) (fun h => h ≤ c.fr.length ∧ ∀ h', h' < h → c.asF f g h' = false) (fun h => c.fr.length - h) 0 (by simp only [go_sem, Nat.reduceLT, Nat.reduceAdd, Nat.reduceSub, Nat.reduceEqDiff, Nat.reduceBEq, Nat.reduceLeDiff, ↓reduceIte]; rfl) ⟨Nat.zero_le _, fun _ hj => by omega⟩ rfl ?_
        rintro h ⟨hh, hd⟩
        simp only [go_sem, Nat.reduceLT, Nat.reduceAdd, Nat.reduceSub, Nat.reduceEqDiff, Nat.reduceBEq, Nat.reduceLeDiff, ↓reduceIte]
        refine ⟨fun hhl => ?_, fun h4 => ?_⟩
        · have hgh : 0 ≤ c.cellI g h → c.cellI g h < c.fr.length ∧ c.to.getD g 0 = c.fr.getD h 0 := fun h0 => by
            by_cases he : c.to.getD g 0 = c.fr.getD h 0
            · exact ⟨(hs.cell_in hgl hhl he).2.1, he⟩
            · rw [hs.cell_out hgl hhl he] at h0; exact absurd h0 (by decide)
          have hgh2 : c.to.getD g 0 = c.fr.getD h 0 → 0 ≤ c.cellI g h := fun he => (hs.cell_in hgl hhl he).1
          have hd2 : ∀ {x : Int}, decide (0 ≤ x) = true → 0 ≤ x := fun h => by simpa using h
          refine call_of (retS_then hs g h (by omega) (by omega) (by omega) (by omega)) rfl (.inl rfl) ?_
          simp only [go_sem, Nat.reduceLT, Nat.reduceAdd, Nat.reduceSub, Nat.reduceEqDiff, Nat.reduceBEq, Nat.reduceLeDiff, ↓reduceIte]
          refine callg_of (fun _ => retS_then hs f g (by omega) (by omega) (by omega) (by omega)) rfl (fun h => h) (.inl rfl) ?_
          simp only [go_sem, Nat.reduceLT, Nat.reduceAdd, Nat.reduceSub, Nat.reduceEqDiff, Nat.reduceBEq, Nat.reduceLeDiff, ↓reduceIte]
          refine callg_of (fun _ => retS_then hs (c.cellI f g) h e1.1 e1.2.1 (by omega) (by omega)) rfl (fun h => h) (.inl rfl) ?_
          simp only [go_sem, Nat.reduceLT, Nat.reduceAdd, Nat.reduceSub, Nat.reduceEqDiff, Nat.reduceBEq, Nat.reduceLeDiff, ↓reduceIte]
          refine callg_of (fun _ => retS_then hs g h (by omega) (by omega) (by omega) (by omega)) rfl (fun h => h) (.inl rfl) ?_
          simp only [go_sem, Nat.reduceLT, Nat.reduceAdd, Nat.reduceSub, Nat.reduceEqDiff, Nat.reduceBEq, Nat.reduceLeDiff, ↓reduceIte]
          refine callg_of (fun h5 => retS_then hs f (c.cellI g h) (by omega) (by omega) (hd2 h5) (hgh (hd2 h5)).1) rfl (fun h => h) (.inl rfl) ?_
          simp only [go_sem, Nat.reduceLT, Nat.reduceAdd, Nat.reduceSub, Nat.reduceEqDiff, Nat.reduceBEq, Nat.reduceLeDiff, ↓reduceIte]
          have hasf : c.asF f g h = (decide (0 ≤ c.cellI g h) && c.cellI (c.cellI f g) h != c.cellI f (c.cellI g h)) := by
            rw [Cat.asF_of h2]
            congr 1
            rw [Bool.eq_iff_iff, beq_iff_eq, decide_eq_true_eq]
            exact ⟨hgh2, fun h5 => (hgh h5).2⟩
          rw [← hasf]
          refine ⟨fun h5 => ?_, fun h5 => ?_⟩
          · rw [Cat.fault_as ha hfl hgl hhl h5 hd hc hb]; rfl
          · exact ⟨h + 1, ⟨by omega, ltS hd h5⟩, by omega, by rw [wrap_lt hhl hml]⟩
        · have : h = c.fr.length := by omega
          subst this
          exact ⟨g + 1, ⟨by omega, fun g' h' hg' hh' => ltS (P := fun g' => c.asF f g' h' = false) (fun j hj => hc j h' hj hh') (hd h' hh') g' hg'⟩, by omega, by rw [wrap_lt hgl hml]⟩
      · refine ⟨fun h3 => ⟨g + 1, ⟨by omega, fun g' h' hg' hh' => ltS (P := fun g' => c.asF f g' h' = false) (fun j hj => hc j h' hj hh') (Cat.asF_no h2) g' hg'⟩, by omega, by rw [wrap_lt hgl hml]⟩, fun h3 => ?_⟩
        rw [hs.cell_out hfl hgl h2] at h3
        exact absurd h3 (by decide)
    · have : g = c.fr.length := by omega
      subst this
      exact ⟨f + 1, ⟨by omega, fun f' g' h' hf' hg' hh' => ltS (P := fun f' => c.asF f' g' h' = false) (fun j hj => hb j g' h' hj hg' hh') (hc g' h' hg' hh') f' hf'⟩, by omega, by rw [wrap_lt hfl hml]⟩
  · have : f = c.fr.length := by omega
    subst this
    rw [Cat.fault_no ha hb]; rfl
end Go.D3
