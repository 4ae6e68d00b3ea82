/- PLAIN LAWS: the reference's search for automorphisms; the contract of its test for a number in a list. -/
import Derived.Test.YtclmdejmogmifaaGE
/- CONTRACT: the reference's test of an arrow's composites. -/
namespace Go.D3
open Go
set_option maxRecDepth 100000
set_option maxHeartbeats 4000000

/-- A composite of known images, if it is known. -/
def okF (c : Cat) (p : List Int) (f g : Nat) : Bool := !(decide (0 ≤ c.cellI f g) && decide (0 ≤ p.getD (c.cellI f g).toNat 0) && c.cellI (p.getD f 0) (p.getD g 0) != p.getD (c.cellI f g).toNat 0)
def fitA (c : Cat) (p : List Int) (f g : Nat) : Bool := decide (p.getD g 0 < 0) || (okF c p f g && okF c p g f)
def okG (c : Cat) (p : List Int) (f g h : Nat) : Bool := !(decide (0 ≤ p.getD g 0) && decide (0 ≤ p.getD h 0) && c.cellI g h == f && c.cellI (p.getD g 0) (p.getD h 0) != p.getD f 0)
def fitsB (c : Cat) (p : List Int) (f : Nat) : Bool := allB c.fr.length (fitA c p f) && allB c.fr.length fun g => allB c.fr.length (okG c p f g)
/-- The cells of the reference's state. -/
abbrev l10D (c : Cat) (col : List Int) (most : Int) (found : D) : List D := [.int .i64 c.ob, ints c.fr, ints c.to, ints c.idn, intss c.co, .int .i64 c.ob, ints c.fr, ints c.to, ints c.idn, intss c.co, ints col, ints col, .int .i64 most, found]

-- spec.l10Fits
def c_spec_l10Fits : C :=
  (.seq (.ops [] [⟨none, .asg 3 (.k (.bool false))⟩] [])
  (.seq (.seq (.ops [] [⟨none, .asg 4 (.i 0)⟩] [])
  (.block 0 (.loop (.seq (.opc [] [⟨none, .mv (.v 4)⟩,
    ⟨none, .mv (.v 1)⟩,
    ⟨none, .len (.t 1)⟩,
    ⟨none, .bin .lss (.t 0) (.t 2)⟩] [] (.t 3) .skip
  (.exit 0))
  (.seq (.block 1 (.seq (.opc [] [⟨none, .mv (.v 1)⟩,
    ⟨none, .mv (.v 4)⟩,
    ⟨none, .idxA 1 (.t 0) (.t 1)⟩,
    ⟨none, .ld (.t 2)⟩,
    ⟨none, .bin .lss (.t 3) (.i 0)⟩] [] (.t 4) (.exit 1)
  .skip)
  (.seq (.ops [] [⟨none, .mv (.v 0)⟩,
    ⟨none, .nck (.t 0)⟩,
    ⟨none, .fA 0 (.t 1)⟩,
    ⟨none, .fA 4 (.t 2)⟩,
    ⟨none, .ld (.t 3)⟩,
    ⟨none, .mv (.v 2)⟩,
    ⟨none, .idxA 1 (.t 4) (.t 5)⟩,
    ⟨none, .ld (.t 6)⟩,
    ⟨none, .mv (.v 4)⟩,
    ⟨none, .idxA 1 (.t 7) (.t 8)⟩,
    ⟨none, .ld (.t 9)⟩,
    ⟨none, .asg 5 (.t 10)⟩] [])
  (.seq (.opc [] [⟨none, .mv (.v 5)⟩,
    ⟨none, .bin .geq (.t 0) (.i 0)⟩,
    ⟨none, .mv (.t 1)⟩,
    ⟨some (2, true), .mv (.v 1)⟩,
    ⟨some (2, true), .mv (.v 5)⟩,
    ⟨some (2, true), .idxA 1 (.t 3) (.t 4)⟩,
    ⟨some (2, true), .ld (.t 5)⟩,
    ⟨some (2, true), .bin .geq (.t 6) (.i 0)⟩,
    ⟨none, .pick (.t 2) (.t 7) (.k (.bool false))⟩,
    ⟨none, .mv (.t 8)⟩,
    ⟨some (9, true), .mv (.v 0)⟩,
    ⟨some (9, true), .nck (.t 10)⟩,
    ⟨some (9, true), .fA 5 (.t 11)⟩,
    ⟨some (9, true), .fA 4 (.t 12)⟩,
    ⟨some (9, true), .ld (.t 13)⟩,
    ⟨some (9, true), .mv (.v 1)⟩,
    ⟨some (9, true), .mv (.v 2)⟩,
    ⟨some (9, true), .idxA 1 (.t 15) (.t 16)⟩,
    ⟨some (9, true), .ld (.t 17)⟩,
    ⟨some (9, true), .idxA 1 (.t 14) (.t 18)⟩,
    ⟨some (9, true), .ld (.t 19)⟩,
    ⟨some (9, true), .mv (.v 1)⟩,
    ⟨some (9, true), .mv (.v 4)⟩,
    ⟨some (9, true), .idxA 1 (.t 21) (.t 22)⟩,
    ⟨some (9, true), .ld (.t 23)⟩,
    ⟨some (9, true), .idxA 1 (.t 20) (.t 24)⟩,
    ⟨some (9, true), .ld (.t 25)⟩,
    ⟨some (9, true), .mv (.v 1)⟩,
    ⟨some (9, true), .mv (.v 5)⟩,
    ⟨some (9, true), .idxA 1 (.t 27) (.t 28)⟩,
    ⟨some (9, true), .ld (.t 29)⟩,
    ⟨some (9, true), .bin .neq (.t 26) (.t 30)⟩,
    ⟨none, .pick (.t 9) (.t 31) (.k (.bool false))⟩] [] (.t 32) (.seq (.ops [] [⟨none, .asg 3 (.k (.bool false))⟩] [])
  .ret)
  .skip)
  (.seq (.ops [] [⟨none, .mv (.v 0)⟩,
    ⟨none, .nck (.t 0)⟩,
    ⟨none, .fA 0 (.t 1)⟩,
    ⟨none, .fA 4 (.t 2)⟩,
    ⟨none, .ld (.t 3)⟩,
    ⟨none, .mv (.v 4)⟩,
    ⟨none, .idxA 1 (.t 4) (.t 5)⟩,
    ⟨none, .ld (.t 6)⟩,
    ⟨none, .mv (.v 2)⟩,
    ⟨none, .idxA 1 (.t 7) (.t 8)⟩,
    ⟨none, .ld (.t 9)⟩,
    ⟨none, .asg 5 (.t 10)⟩] [])
  (.opc [] [⟨none, .mv (.v 5)⟩,
    ⟨none, .bin .geq (.t 0) (.i 0)⟩,
    ⟨none, .mv (.t 1)⟩,
    ⟨some (2, true), .mv (.v 1)⟩,
    ⟨some (2, true), .mv (.v 5)⟩,
    ⟨some (2, true), .idxA 1 (.t 3) (.t 4)⟩,
    ⟨some (2, true), .ld (.t 5)⟩,
    ⟨some (2, true), .bin .geq (.t 6) (.i 0)⟩,
    ⟨none, .pick (.t 2) (.t 7) (.k (.bool false))⟩,
    ⟨none, .mv (.t 8)⟩,
    ⟨some (9, true), .mv (.v 0)⟩,
    ⟨some (9, true), .nck (.t 10)⟩,
    ⟨some (9, true), .fA 5 (.t 11)⟩,
    ⟨some (9, true), .fA 4 (.t 12)⟩,
    ⟨some (9, true), .ld (.t 13)⟩,
    ⟨some (9, true), .mv (.v 1)⟩,
    ⟨some (9, true), .mv (.v 4)⟩,
    ⟨some (9, true), .idxA 1 (.t 15) (.t 16)⟩,
    ⟨some (9, true), .ld (.t 17)⟩,
    ⟨some (9, true), .idxA 1 (.t 14) (.t 18)⟩,
    ⟨some (9, true), .ld (.t 19)⟩,
    ⟨some (9, true), .mv (.v 1)⟩,
    ⟨some (9, true), .mv (.v 2)⟩,
    ⟨some (9, true), .idxA 1 (.t 21) (.t 22)⟩,
    ⟨some (9, true), .ld (.t 23)⟩,
    ⟨some (9, true), .idxA 1 (.t 20) (.t 24)⟩,
    ⟨some (9, true), .ld (.t 25)⟩,
    ⟨some (9, true), .mv (.v 1)⟩,
    ⟨some (9, true), .mv (.v 5)⟩,
    ⟨some (9, true), .idxA 1 (.t 27) (.t 28)⟩,
    ⟨some (9, true), .ld (.t 29)⟩,
    ⟨some (9, true), .bin .neq (.t 26) (.t 30)⟩,
    ⟨none, .pick (.t 9) (.t 31) (.k (.bool false))⟩] [] (.t 32) (.seq (.ops [] [⟨none, .asg 3 (.k (.bool false))⟩] [])
  .ret)
  .skip))))))
  (.ops [] [⟨none, .mv (.v 4)⟩,
    ⟨none, .bin .add (.t 0) (.i 1)⟩,
    ⟨none, .asg 4 (.t 1)⟩] []))))))
  (.seq (.seq (.ops [] [⟨none, .asg 6 (.i 0)⟩] [])
  (.block 2 (.loop (.seq (.opc [] [⟨none, .mv (.v 6)⟩,
    ⟨none, .mv (.v 1)⟩,
    ⟨none, .len (.t 1)⟩,
    ⟨none, .bin .lss (.t 0) (.t 2)⟩] [] (.t 3) .skip
  (.exit 2))
  (.seq (.block 3 (.seq (.ops [] [⟨none, .asg 7 (.i 0)⟩] [])
  (.block 4 (.loop (.seq (.opc [] [⟨none, .mv (.v 7)⟩,
    ⟨none, .mv (.v 1)⟩,
    ⟨none, .len (.t 1)⟩,
    ⟨none, .bin .lss (.t 0) (.t 2)⟩] [] (.t 3) .skip
  (.exit 4))
  (.seq (.block 5 (.opc [] [⟨none, .mv (.v 1)⟩,
    ⟨none, .mv (.v 6)⟩,
    ⟨none, .idxA 1 (.t 0) (.t 1)⟩,
    ⟨none, .ld (.t 2)⟩,
    ⟨none, .bin .geq (.t 3) (.i 0)⟩,
    ⟨none, .mv (.t 4)⟩,
    ⟨some (5, true), .mv (.v 1)⟩,
    ⟨some (5, true), .mv (.v 7)⟩,
    ⟨some (5, true), .idxA 1 (.t 6) (.t 7)⟩,
    ⟨some (5, true), .ld (.t 8)⟩,
    ⟨some (5, true), .bin .geq (.t 9) (.i 0)⟩,
    ⟨none, .pick (.t 5) (.t 10) (.k (.bool false))⟩,
    ⟨none, .mv (.t 11)⟩,
    ⟨some (12, true), .mv (.v 0)⟩,
    ⟨some (12, true), .nck (.t 13)⟩,
    ⟨some (12, true), .fA 0 (.t 14)⟩,
    ⟨some (12, true), .fA 4 (.t 15)⟩,
    ⟨some (12, true), .ld (.t 16)⟩,
    ⟨some (12, true), .mv (.v 6)⟩,
    ⟨some (12, true), .idxA 1 (.t 17) (.t 18)⟩,
    ⟨some (12, true), .ld (.t 19)⟩,
    ⟨some (12, true), .mv (.v 7)⟩,
    ⟨some (12, true), .idxA 1 (.t 20) (.t 21)⟩,
    ⟨some (12, true), .ld (.t 22)⟩,
    ⟨some (12, true), .mv (.v 2)⟩,
    ⟨some (12, true), .bin .eql (.t 23) (.t 24)⟩,
    ⟨none, .pick (.t 12) (.t 25) (.k (.bool false))⟩,
    ⟨none, .mv (.t 26)⟩,
    ⟨some (27, true), .mv (.v 0)⟩,
    ⟨some (27, true), .nck (.t 28)⟩,
    ⟨some (27, true), .fA 5 (.t 29)⟩,
    ⟨some (27, true), .fA 4 (.t 30)⟩,
    ⟨some (27, true), .ld (.t 31)⟩,
    ⟨some (27, true), .mv (.v 1)⟩,
    ⟨some (27, true), .mv (.v 6)⟩,
    ⟨some (27, true), .idxA 1 (.t 33) (.t 34)⟩,
    ⟨some (27, true), .ld (.t 35)⟩,
    ⟨some (27, true), .idxA 1 (.t 32) (.t 36)⟩,
    ⟨some (27, true), .ld (.t 37)⟩,
    ⟨some (27, true), .mv (.v 1)⟩,
    ⟨some (27, true), .mv (.v 7)⟩,
    ⟨some (27, true), .idxA 1 (.t 39) (.t 40)⟩,
    ⟨some (27, true), .ld (.t 41)⟩,
    ⟨some (27, true), .idxA 1 (.t 38) (.t 42)⟩,
    ⟨some (27, true), .ld (.t 43)⟩,
    ⟨some (27, true), .mv (.v 1)⟩,
    ⟨some (27, true), .mv (.v 2)⟩,
    ⟨some (27, true), .idxA 1 (.t 45) (.t 46)⟩,
    ⟨some (27, true), .ld (.t 47)⟩,
    ⟨some (27, true), .bin .neq (.t 44) (.t 48)⟩,
    ⟨none, .pick (.t 27) (.t 49) (.k (.bool false))⟩] [] (.t 50) (.seq (.ops [] [⟨none, .asg 3 (.k (.bool false))⟩] [])
  .ret)
  .skip))
  (.ops [] [⟨none, .mv (.v 7)⟩,
    ⟨none, .bin .add (.t 0) (.i 1)⟩,
    ⟨none, .asg 7 (.t 1)⟩] [])))))))
  (.ops [] [⟨none, .mv (.v 6)⟩,
    ⟨none, .bin .add (.t 0) (.i 1)⟩,
    ⟨none, .asg 6 (.t 1)⟩] []))))))
  (.seq (.ops [] [⟨none, .asg 3 (.k (.bool true))⟩] [])
  .ret))))
def tr_spec_l10Fits : List Nat := [0, 1, 2, 6, 7, 8, 9, 10]
def rs_spec_l10Fits : List RS := [.t 3]
theorem ok_spec_l10Fits : fnOk Go.Proofs.Try.prog Go.Proofs.Try.f198 tr_spec_l10Fits c_spec_l10Fits 3 rs_spec_l10Fits = true := by decide +kernel

theorem ret_spec_l10Fits (c : Cat) (hc : c.Shape) (hcc : c.fr.length ≤ 1048576) (col : List Int) (M : Int) (found : D) (p : List Int) (hl : p.length = c.fr.length) (hr : ∀ i, i < p.length → p.getD i 0 < c.fr.length) (f : Nat) (hf : f < c.fr.length) (h0 : 0 ≤ p.getD f 0) :
    Ret Go.Proofs.Try.prog 198 [.v (.ptr (l10D c col M found)), .v (ints p), .v (.int .i64 f)] (.bool (fitsB c p f)) := by
  have hco := hc.co
  refine ret_fn Go.Proofs.Try.func198 ok_spec_l10Fits rfl (show 3 < 500 by decide) rfl ?_; unfold c_spec_l10Fits tr_spec_l10Fits rs_spec_l10Fits; simp only [go_sem, Nat.reduceLT, Nat.reduceAdd, ↓reduceIte]
  refine loop_set [5] (fun i : Nat => [(4, .int .i64 i)]) (fun i => i ≤ c.fr.length ∧ allB i (fitA c p f) = true) (fun i => c.fr.length - i) 0 (by simp only [go_sem, Nat.reduceLT, ↓reduceIte]; rfl) ⟨Nat.zero_le _, rfl⟩ rfl ?_
  rintro g ⟨hg, hb⟩
  simp only [go_sem, Nat.reduceLT, Nat.reduceAdd, Nat.reduceSub, ↓reduceIte]
  refine ⟨fun hgl => ⟨hgl, fun h1 => ?_, fun h1 => ?_⟩, fun hgl => ?_⟩
  · refine ⟨g + 1, ⟨by omega, allB_succ hb (by unfold fitA; rw [decide_eq_true h1]; rfl)⟩, by omega, by rw [wrap_lt hgl (by simp only [maxLen]; omega)]⟩
  · have hgn : g < c.fr.length := by omega
    have e1 : (c.co.getD f []).getD g 0 = c.cellI f g := rfl
    have e2 : (c.co.getD g []).getD f 0 = c.cellI g f := rfl
    have e3 : (c.co.getD (p.getD f 0).toNat []).getD (p.getD g 0).toNat 0 = c.cellI (p.getD f 0) (p.getD g 0) := rfl
    have e4 : (c.co.getD (p.getD g 0).toNat []).getD (p.getD f 0).toNat 0 = c.cellI (p.getD g 0) (p.getD f 0) := rfl
    have rf := hr f (by omega)
    have rg := hr g (by omega)
    have l1 := hc.row f hf
    have l2 := hc.row g hgn
    have l3 := hc.row (p.getD f 0).toNat (by omega)
    have l4 := hc.row (p.getD g 0).toNat (by omega)
    have c1 := cell_rng hc hf hgn
    have c2 := cell_rng hc hgn hf
    simp only [e1, e2, e3, e4]
    have a1 : (decide (0 ≤ c.cellI f g) && decide (0 ≤ p.getD (c.cellI f g).toNat 0)) = true → 0 ≤ c.cellI f g ∧ c.cellI f g < p.length := fun q => by
      simp only [Bool.and_eq_true, decide_eq_true_eq] at q; exact ⟨q.1, by have := c1 q.1; omega⟩
    have a2 : (decide (0 ≤ c.cellI g f) && decide (0 ≤ p.getD (c.cellI g f).toNat 0)) = true → 0 ≤ c.cellI g f ∧ c.cellI g f < p.length := fun q => by
      simp only [Bool.and_eq_true, decide_eq_true_eq] at q; exact ⟨q.1, by have := c2 q.1; omega⟩
    have no : fitA c p f g = false → fitsB c p f = false := fun q => by unfold fitsB; rw [allB_stop hgn q]; rfl
    refine ⟨by omega, by omega, fun q => ⟨q, q, by have := c1 q; omega⟩, fun q => ⟨q, by omega⟩, fun q => ⟨q, h0, by omega⟩, fun q => ⟨q, hgl⟩, fun q => ⟨q, by omega, by omega⟩, fun q => ⟨q, a1 q⟩, fun q => ?_, fun q => ⟨by omega, by omega, fun q => ⟨q, q, by have := c2 q; omega⟩, fun q => ⟨q, by omega⟩, fun q => ⟨q, by omega, by omega⟩, fun q => ⟨q, by omega⟩, fun q => ⟨q, by omega, by omega⟩, fun q => ⟨q, a2 q⟩, fun q2 => ?_, fun q2 => ⟨g + 1, ⟨by omega, allB_succ hb ?_⟩, by omega, by rw [wrap_lt hgl (by simp only [maxLen]; omega)]⟩⟩⟩
    · refine (no ?_).symm
      unfold fitA okF; rw [decide_eq_false h1, q]; rfl
    · refine (no ?_).symm
      unfold fitA okF; rw [decide_eq_false h1, q, q2]; rfl
    · unfold fitA okF; rw [decide_eq_false h1, q, q2]; rfl
  · have hgc : g = c.fr.length := by omega
    rw [hgc] at hb
    refine loop_set [4, 7] (fun i : Nat => [(6, .int .i64 i)]) (fun i => i ≤ c.fr.length ∧ allB i (fun g => allB c.fr.length (okG c p f g)) = true) (fun i => c.fr.length - i) 0 (by simp only [go_sem, Nat.reduceLT, ↓reduceIte]; rfl) ⟨Nat.zero_le _, rfl⟩ rfl ?_
    rintro a ⟨ha, hA⟩
    simp only [go_sem, Nat.reduceLT, Nat.reduceAdd, Nat.reduceSub, ↓reduceIte]
    refine ⟨fun hal => ?_, fun hal => ?_⟩
    · refine loop_set [] (fun i : Nat => [(7, .int .i64 i)]) (fun i => i ≤ c.fr.length ∧ allB i (okG c p f a) = true) (fun i => c.fr.length - i) 0 (by simp only [go_sem]; rfl) ⟨Nat.zero_le _, rfl⟩ rfl ?_
      rintro b ⟨hbl, hB⟩
      simp only [go_sem, Nat.reduceLT, Nat.reduceAdd, Nat.reduceSub, ↓reduceIte]
      have han : a < c.fr.length := by omega
      have e1 : (c.co.getD a []).getD b 0 = c.cellI a b := rfl
      have e3 : (c.co.getD (p.getD a 0).toNat []).getD (p.getD b 0).toNat 0 = c.cellI (p.getD a 0) (p.getD b 0) := rfl
      simp only [e1, e3]
      have ra := hr a (by omega)
      have l1 := hc.row a han
      have d2 : (decide (0 ≤ p.getD a 0) && decide (0 ≤ p.getD b 0)) = true → 0 ≤ p.getD a 0 ∧ 0 ≤ p.getD b 0 := fun q => by simpa only [Bool.and_eq_true, decide_eq_true_eq] using q
      have d3 : (decide (0 ≤ p.getD a 0) && decide (0 ≤ p.getD b 0) && c.cellI a b == f) = true → 0 ≤ p.getD a 0 ∧ 0 ≤ p.getD b 0 := fun q => by rw [Bool.and_eq_true] at q; exact d2 q.1
      refine ⟨fun hb2 => ?_, fun hb2 => ⟨a + 1, ⟨by omega, allB_succ hA (by rw [show b = c.fr.length by omega] at hB; exact hB)⟩, by omega, by rw [wrap_lt hal (by simp only [maxLen]; omega)]⟩⟩
      have rb := hr b hb2
      refine ⟨hal, fun q => ⟨q, hb2⟩, fun q => ⟨q, by omega⟩, fun q => ⟨q, by omega⟩, fun q => ⟨q, hal⟩, fun q => ⟨q, (d3 q).1, by omega⟩, fun q => ⟨q, hb2⟩, fun q => ⟨q, (d3 q).2, ?_⟩, fun q => ⟨q, by omega⟩, fun q => ?_, fun q => ⟨b + 1, ⟨by omega, allB_succ hB ?_⟩, by omega, by rw [wrap_lt hb2 (by simp only [maxLen]; omega)]⟩⟩
      · have h3 := (d3 q).1
        have := hc.row (p.getD a 0).toNat (by omega)
        omega
      · have hn : okG c p f a b = false := by unfold okG; rw [q]; rfl
        have hn2 : allB c.fr.length (okG c p f a) = false := allB_stop (by omega) hn
        unfold fitsB
        rw [allB_stop (p := fun g => allB c.fr.length (okG c p f g)) han hn2, Bool.and_false]
      · unfold okG; rw [q]; rfl
    · rw [show a = c.fr.length by omega] at hA
      unfold fitsB; rw [hb, hA]; rfl
end Go.D3

/- PLAIN LAWS: what the reference's test rules out. -/
namespace Go.D3
open Go

section
variable {c : Cat} {o p F : List Int}
theorem okF_of (hc : c.Shape) (h : Comp c c o p F) (hl : p.length = c.fr.length) {f g : Nat} (hf : f < c.fr.length) (hg : g < c.fr.length) (h1 : 0 ≤ p.getD f 0) (h2 : 0 ≤ p.getD g 0) : okF c p f g = true := by
  unfold okF
  rw [Bool.not_eq_true', Bool.and_eq_false_iff]
  by_cases h3 : 0 ≤ c.cellI f g ∧ 0 ≤ p.getD (c.cellI f g).toNat 0
  · right
    obtain ⟨h3, h4⟩ := h3
    have hr := cell_rng hc hf hg h3
    have e1 := h.2 f (by omega) h1
    have e2 := h.2 g (by omega) h2
    have e3 := h.2 (c.cellI f g).toNat (by omega) h4
    have := h.1.co f g hf hg h3 (by omega) (by omega)
    rw [e1, e2] at this
    have e4 : F.getD (c.cell f g).toNat 0 = F.getD (c.cellI f g).toNat 0 := rfl
    rw [e4, e3] at this
    rw [bne_eq_false_iff_eq]
    exact this.symm
  · left
    rw [Bool.and_eq_false_iff, decide_eq_false_iff_not, decide_eq_false_iff_not]
    by_cases h4 : 0 ≤ c.cellI f g
    · exact .inr fun h5 => h3 ⟨h4, h5⟩
    · exact .inl h4
/-- Images that a functor continues pass the test. -/
theorem fits_of (hc : c.Shape) (h : Comp c c o p F) (hl : p.length = c.fr.length) {f : Nat} (hf : f < c.fr.length) (h1 : 0 ≤ p.getD f 0) : fitsB c p f = true := by
  unfold fitsB
  rw [Bool.and_eq_true]
  refine ⟨allB_iff.2 fun g hg => ?_, allB_iff.2 fun a ha => allB_iff.2 fun b hb => ?_⟩
  · unfold fitA
    by_cases h2 : p.getD g 0 < 0
    · rw [decide_eq_true h2]; rfl
    · rw [decide_eq_false h2, okF_of hc h hl hf hg h1 (by omega), okF_of hc h hl hg hf (by omega) h1]; rfl
  · unfold okG
    rw [Bool.not_eq_true', Bool.and_eq_false_iff]
    by_cases h2 : 0 ≤ p.getD a 0 ∧ 0 ≤ p.getD b 0 ∧ c.cellI a b = f
    · right
      obtain ⟨h2, h3, h4⟩ := h2
      have h5 := okF_of hc h hl ha hb h2 h3
      unfold okF at h5
      rw [h4, Int.toNat_natCast, decide_eq_true h1, decide_eq_true (show (0 : Int) ≤ f by omega)] at h5
      simpa only [Bool.true_and, Bool.not_eq_true'] using h5
    · left
      rw [Bool.and_eq_false_iff, Bool.and_eq_false_iff, decide_eq_false_iff_not, decide_eq_false_iff_not, beq_eq_false_iff_ne]
      by_cases h3 : 0 ≤ p.getD a 0
      · by_cases h4 : 0 ≤ p.getD b 0
        · exact .inr fun h5 => h2 ⟨h3, h4, h5⟩
        · exact .inl (.inr h4)
      · exact .inl (.inl h3)
theorem imA_surj {P : List Int × List Int} (h : Fn c c P) (hb : dstB P.2 = true) {g : Nat} (hg : g < c.fr.length) : ∃ f, f < c.fr.length ∧ imA P f = g := by
  have h1 := map_perm (n := c.fr.length) (φ := imA P) (fun i hi => (imA_rng h hi).2) fun i j hi hj he => imA_inj h hb hi hj he
  obtain ⟨f, hf, he⟩ := List.mem_map.1 (h1.mem_iff.2 (List.mem_range.2 hg))
  exact ⟨f, List.mem_range.1 hf, he⟩
/-- A hom set's image is no larger. -/
theorem hom_back (hc : c.Shape) {P : List Int × List Int} (h : Fn c c P) (hb : dstB P.2 = true) {x y : Nat} (hx : (x : Int) < c.ob) (hy : (y : Int) < c.ob) : (c.hom (P.1.getD x 0) (P.1.getD y 0)).length ≤ (c.hom x y).length := by
  have hn : (c.hom (P.1.getD x 0) (P.1.getD y 0)).Nodup := (Cat.hom_sorted (c := c) (x := P.1.getD x 0) (y := P.1.getD y 0)).imp fun {a b} hab he => by omega
  have := List.Nodup.length_le_of_subset (l₂ := (c.hom x y).map fun f => P.2.getD f.toNat 0) hn fun g hg => by
    obtain ⟨g0, g1, g2, g3⟩ := (Cat.mem_hom (c := c)).1 hg
    obtain ⟨f, hf, he⟩ := imA_surj h hb (g := g.toNat) (by omega)
    obtain ⟨e1, e2⟩ := imA_rng h hf
    obtain ⟨t1, t2, t3⟩ := h.2.1.ty.get hf (h.2.1.tot f hf)
    have hgf : g = P.2.getD f 0 := by omega
    have a1 := hc.fri hf
    have a2 := hc.toi hf
    have hol := h.1.len
    have hi := hc.idn
    rw [hgf] at g2 g3
    have b1 := dst_obj hc hc h hb (x := (c.fr.getD f 0).toNat) (y := x) (by omega) (by omega) (by rw [← t2, g2])
    have b2 := dst_obj hc hc h hb (x := (c.to.getD f 0).toNat) (y := y) (by omega) (by omega) (by rw [← t3, g3])
    exact List.mem_map.2 ⟨(f : Int), (Cat.mem_hom (c := c)).2 ⟨by omega, by omega, by rw [Int.toNat_natCast]; omega, by rw [Int.toNat_natCast]; omega⟩, by rw [Int.toNat_natCast]; exact hgf.symm⟩
  rwa [List.length_map] at this
theorem hom_same (hc : c.Shape) {P : List Int × List Int} (h : Fn c c P) (hb : dstB P.2 = true) {x y : Nat} (hx : (x : Int) < c.ob) (hy : (y : Int) < c.ob) : (c.hom x y).length = (c.hom (P.1.getD x 0) (P.1.getD y 0)).length := by
  have h1 := dst_hom h hb (x : Int) (y : Int)
  rw [Int.toNat_natCast, Int.toNat_natCast] at h1
  exact Nat.le_antisymm h1 (hom_back hc h hb hx hy)
end
end Go.D3

/- CONTRACT: the reference's colours of arrows. -/
namespace Go.D3
open Go
set_option maxRecDepth 100000
set_option maxHeartbeats 4000000

/-! ### Rows that are only read, in a list that is owned -/
def vwF : Option (List Int) → D
  | none => ints []
  | some r => .vw (ints r)
abbrev vws (L : List (List Int)) : D := lst vwF none (L.map some)
theorem vws_get {L : List (List Int)} {i : Nat} (h : i < L.length) : (L.map some).getD i none = some (L.getD i []) := by
  rw [List.getD_eq_getElem?_getD, List.getElem?_map, List.getElem?_eq_getElem h, getD_lt h]; rfl
theorem vw_app {M : List (Option (List Int))} {r : List Int} : (lst vwF none M).appL [.vw (lst (.int .i64) 0 r)] = lst vwF none (M ++ [some r]) := lst_app1 (f := vwF) (x := some r)
theorem vw_cells {x : Option (List Int)} : (vwF x).cells = [vwF x] := by cases x <;> rfl
theorem vw_expo {k : Nat} {p : Path} {r : List Int} : expo k p (vwF (some r)) = ints r := rfl
theorem vw_snoc {L : List (List Int)} {r : List Int} : L.map some ++ [some r] = (L ++ [r]).map some := by rw [List.map_append]; rfl
attribute [go_sem] vw_app vw_cells vw_expo vw_snoc
theorem Rd.vw1 {w : World} {A : Nat → Prop} {v : Value} {d : D} (h : Rd w A v (.vw d)) : Rd w A v d := by
  cases h with
  | vw h => exact h
theorem Rd.unvw {w : World} {A : Nat → Prop} {v : Value} {L : List (List Int)} (h : Rd w A v (vws L)) : Rd w A v (intss L) := by
  have key : ∀ {sz j : Nat} {x : D}, cellAt (L.map ints) sz j = some x → cellAt ((L.map some).map vwF) sz j = some (.vw x) := fun {sz j x} hx => by
    unfold cellAt at hx ⊢
    rw [List.getElem?_map] at hx
    rw [List.map_map, List.getElem?_map]
    cases hq : L[j / sz]? with
    | none => rw [hq] at hx; cases hx
    | some r =>
      rw [hq] at hx
      simp only [Option.map_some, Option.bind_some, Function.comp, vwF, D.cells] at hx ⊢
      cases hm : j % sz with
      | zero => rw [hm] at hx; simp [ints, lst] at hx ⊢; exact hx
      | succ m => rw [hm] at hx; simp [ints, lst] at hx
  generalize hd : vws L = d at h
  cases h <;> simp only [vws, lst, D.slice.injEq, reduceCtorEq] at hd
  case nil => obtain ⟨_, h2⟩ := hd; cases L with | nil => exact .nil | cons a b => simp at h2
  case empty hm => obtain ⟨_, h2⟩ := hd; cases L with | nil => exact .empty hm | cons a b => simp at h2
  case slice hA hc hm hz hzz hsz vs hcells hr =>
    obtain ⟨rfl, rfl⟩ := hd
    rw [List.length_map, List.length_map] at hc ⊢
    rw [show L.length = (L.map ints).length by rw [List.length_map]]
    exact .slice (z := ints []) hA (by rw [List.length_map]; exact hc) hm hz hzz (fun x hx => by
      obtain ⟨r, hr', rfl⟩ := List.mem_map.1 hx
      exact hsz (.vw (ints r)) (List.mem_map.2 ⟨some r, List.mem_map.2 ⟨r, hr', rfl⟩, rfl⟩)) vs (fun j x hx => hcells j _ (key hx)) fun j x hx => by
        exact (hr j _ (key hx)).vw1
theorem ret_pre {P : Program} {f : FuncId} {xs ds : List D} {res : D} (h : Ret P f (xs.map .v) res) (hl : xs.length = ds.length) (hw : ∀ (j : Nat) (x d : D), xs[j]? = some x → ds[j]? = some d → ∀ (w : World) (A : Nat → Prop) (v : Value), Rd w A v d → Rd w A v x) : Ret P f (ds.map .v) res := by
  intro w A vs Fs h1 h2 h3 h4 h5
  refine (h w A vs Fs h1 (by rw [h2]; simp [hl]) (fun j a hj => ?_) h4 fun j b hb => ⟨(h5 j b hb).1, (h5 j b hb).2.1, by simpa [hl] using (h5 j b hb).2.2⟩).mono ?_
  · rw [List.getElem?_map, Option.map_eq_some_iff] at hj
    obtain ⟨x, hx, rfl⟩ := hj
    have hlt : j < ds.length := by rw [← hl]; exact (List.getElem?_eq_some_iff.1 hx).1
    have := h3 j (.v ds[j]) (by rw [List.getElem?_map, List.getElem?_eq_getElem hlt]; rfl)
    exact ⟨hw j x _ hx (List.getElem?_eq_getElem hlt) w A _ this.1, this.2⟩
  · rintro e w' ⟨v, F, Fs', e1, e2, e3, e4, e5, e6, e7⟩
    refine ⟨v, F, Fs', e1, e2, e3, fun j a hj => ?_, e5, fun j b hb => ⟨(e6 j b hb).1, (e6 j b hb).2.1, by simpa [hl] using (e6 j b hb).2.2⟩, e7⟩
    rw [List.getElem?_map, Option.map_eq_some_iff] at hj
    obtain ⟨x, hx, rfl⟩ := hj
    have hlt : j < xs.length := by rw [hl]; exact (List.getElem?_eq_some_iff.1 hx).1
    exact e4 j (.v xs[j]) (by rw [List.getElem?_map, List.getElem?_eq_getElem hlt]; rfl)
theorem place_vws (l : List (List Int)) (x : List Int) (hl : l.length ≤ 1048576) (hx : ∀ i, i < l.length → (l.getD i []).length ≤ 1048576) : Ret Go.Proofs.Try.prog 143 [.v (vws l), .v (ints x)] (.int .i64 (plcI l x)) := by
  refine ret_pre (xs := [intss l, ints x]) (ds := [vws l, ints x]) (ret_spec_l05Place l x hl hx) rfl fun j a d ha hd w A v hr => ?_
  match j with
  | 0 => simp only [List.getElem?_cons_zero, Option.some.injEq] at ha hd; subst ha; subst hd; exact hr.unvw
  | 1 => simp only [List.getElem?_cons_zero, List.getElem?_cons_succ, Option.some.injEq] at ha hd; subst ha; subst hd; exact hr
  | j + 2 => simp at ha

/-! ### The colours -/
def unI (c : Cat) (f : Nat) : Bool := c.idI (c.fr.getD f 0) == f
def firP (c : Cat) (i : Nat) : List Int := (List.range c.fr.length).map fun f => if f < i ∧ unI c f = true then 1 else 0
def kindsN (c : Cat) (col : List Int) : Nat := (kindsL (looksL c col ++ looksL c col)).length
def colR (c : Cat) : Nat → Nat → List Int → List Int
  | 0, _, col => col
  | m + 1, cnt, col => if kindsN c col = cnt then nextC c col else colR c m (kindsN c col) (nextC c col)
/-- The colours that the reference finds. -/
def finC (c : Cat) : List Int := colR c (2 * c.fr.length + 1) 0 (firP c c.fr.length)
theorem firP_zero {c : Cat} : firP c 0 = List.replicate c.fr.length 0 := by
  unfold firP
  rw [show (fun f => if f < 0 ∧ unI c f = true then (1 : Int) else 0) = fun _ => 0 by funext f; rw [if_neg (by omega)], List.map_const', List.length_range]
theorem firP_len {c : Cat} {i : Nat} : (firP c i).length = c.fr.length := by simp [firP]
theorem firP_get {c : Cat} {i f : Nat} (h : f < c.fr.length) : (firP c i).getD f 0 = if f < i ∧ unI c f = true then 1 else 0 := by
  unfold firP
  rw [List.getD_eq_getElem?_getD, List.getElem?_map, List.getElem?_range h]; rfl
theorem firP_succ {c : Cat} {i : Nat} (h : i < c.fr.length) : firP c (i + 1) = if unI c i = true then (firP c i).set i 1 else firP c i := by
  refine List.ext_getElem (by split <;> simp [firP_len]) fun j h1 h2 => ?_
  rw [firP_len] at h1
  rw [← getD_lt (d := 0) (by rw [firP_len]; exact h1), ← getD_lt (d := 0) h2, firP_get h1]
  by_cases hu : unI c i = true
  · rw [if_pos hu, set_get (by rw [firP_len]; exact h), firP_get h1]
    by_cases hj : j = i
    · subst hj; rw [if_pos ⟨by omega, hu⟩, if_pos rfl]
    · rw [if_neg hj]
      by_cases hj2 : j < i
      · simp [hj2, show j < i + 1 by omega]
      · simp [hj2, show ¬ j < i + 1 by omega]
  · rw [if_neg hu, firP_get h1]
    by_cases hj : j = i
    · subst hj; rw [if_neg (by simp [hu]), if_neg (by simp [hu])]
    · by_cases hj2 : j < i
      · simp [hj2, show j < i + 1 by omega]
      · simp [hj2, show ¬ j < i + 1 by omega]
theorem nextC_len {c : Cat} {col : List Int} : (nextC c col).length = c.fr.length := by simp [nextC, looksL]
theorem colR_ind {c : Cat} (Q : List Int → Prop) (hn : ∀ col, Q col → Q (nextC c col)) : ∀ m cnt col, Q col → Q (colR c m cnt col)
  | 0, _, _, h => h
  | m + 1, cnt, col, h => by
    unfold colR
    split
    · exact hn _ h
    · exact colR_ind Q hn m _ _ (hn _ h)
theorem finC_len {c : Cat} : (finC c).length = c.fr.length := colR_ind (fun col => col.length = c.fr.length) (fun _ _ => nextC_len) _ _ _ firP_len
theorem finC_keep {c : Cat} {P : List Int × List Int} (hc : c.Shape) (h : Fn c c P) (hb : dstB P.2 = true) : ∀ f, f < c.fr.length → (finC c).getD (imA P f) 0 = (finC c).getD f 0 := by
  refine colR_ind (fun col => ∀ f, f < c.fr.length → col.getD (imA P f) 0 = col.getD f 0) (fun col hk f hf => next_keep hc h hb hk f hf) _ _ _ fun f hf => ?_
  obtain ⟨e1, r1⟩ := imA_rng h hf
  rw [firP_get r1, firP_get hf]
  have hci := hc.idn
  have hol := h.1.len
  have a1 := hc.fri hf
  have t := h.2.1.ty.get hf (h.2.1.tot f hf)
  have hz : (c.fr.getD f 0).toNat < c.idn.length := by omega
  obtain ⟨e0, e2, e3, _⟩ := id_ends hc hz
  have hr := h.1.rng (c.fr.getD f 0).toNat (by omega)
  have h0 := (id_ends hc (x := (P.1.getD (c.fr.getD f 0).toNat 0).toNat) (by omega)).1
  have hst := stF_at (d := c) hc (o := P.1) (Nat.le_refl _) hz
  have key := h.2.2 _ (by rw [stF_len]; exact e2) (by rw [hst]; exact h0)
  rw [hst] at key
  have e4 : c.fr.getD (imA P f) 0 = P.1.getD (c.fr.getD f 0).toNat 0 := t.2.1
  have hu : unI c (imA P f) = unI c f := by
    unfold unI Cat.idI
    rw [e4, Bool.eq_iff_iff, beq_iff_eq, beq_iff_eq, ← key]
    obtain ⟨q1, q2⟩ := imA_rng h e2
    constructor
    · intro e
      have := imA_inj h hb e2 hf (by omega)
      omega
    · intro e
      have : (c.idn.getD (c.fr.getD f 0).toNat 0).toNat = f := by omega
      rw [this] at q1 ⊢
      omega
  rw [hu]
  simp only [r1, hf, true_and]

theorem look_len {c : Cat} {col : List Int} {f : Nat} (hcc : c.fr.length ≤ 16) : (lookI c col f).length ≤ 1048576 := by
  have kl := lkL_len (c := c) (col := col) (f := f) c.fr.length
  have kp : (sortL (lkL c col f c.fr.length)).length = (lkL c col f c.fr.length).length := (sortL_perm _).length_eq
  have : (lookI c col f).length = (sortL (lkL c col f c.fr.length)).flatten.length + 1 := rfl
  rw [this, flat4 fun x hx => lkL_row _ x ((sortL_perm _).mem_iff.1 hx)]
  omega
-- spec.l10Colours
def c_spec_l10Colours : C :=
  (.seq (.ops [5, 6] [⟨none, .boxv 5 (.v 0)⟩,
    ⟨none, .boxv 5 (.v 1)⟩,
    ⟨none, .asg 2 (.k (.nils (.int .i64 0)))⟩,
    ⟨none, .asg 3 (.k (.nils (.int .i64 0)))⟩,
    ⟨none, .asg 4 (.k (.bool false))⟩] [(5, 0), (6, 1)])
  (.seq (.ops [7] [⟨none, .fA 1 (.v 5)⟩,
    ⟨none, .ld (.t 0)⟩,
    ⟨none, .len (.t 1)⟩,
    ⟨none, .mkS (.int .i64 0) 8 (.t 2) (.t 2)⟩,
    ⟨none, .fA 1 (.v 6)⟩,
    ⟨none, .ld (.t 4)⟩,
    ⟨none, .len (.t 5)⟩,
    ⟨none, .mkS (.int .i64 0) 8 (.t 6) (.t 6)⟩,
    ⟨none, .mv (.t 3)⟩,
    ⟨none, .asg 8 (.t 7)⟩] [(7, 8)])
  (.seq (.seq (.ops [] [⟨none, .asg 9 (.i 0)⟩] [])
  (.block 0 (.loop (.seq (.opc [] [⟨none, .mv (.v 9)⟩,
    ⟨none, .mv (.v 7)⟩,
    ⟨none, .len (.t 1)⟩,
    ⟨none, .bin .lss (.t 0) (.t 2)⟩] [] (.t 3) .skip
  (.exit 0))
  (.seq (.block 1 (.opc [] [⟨none, .lda 5 (.v 5)⟩,
    ⟨none, .mv (.v 9)⟩,
    ⟨none, .call 164 [(.t 0), (.t 1)]⟩] [] (.t 2) (.ops [] [⟨none, .mv (.v 7)⟩,
    ⟨none, .mv (.v 9)⟩,
    ⟨none, .idxA 1 (.t 0) (.t 1)⟩,
    ⟨none, .st (.t 2) (.i 1)⟩] [])
  .skip))
  (.ops [] [⟨none, .mv (.v 9)⟩,
    ⟨none, .bin .add (.t 0) (.i 1)⟩,
    ⟨none, .asg 9 (.t 1)⟩] []))))))
  (.seq (.seq (.ops [] [⟨none, .asg 10 (.i 0)⟩] [])
  (.block 2 (.loop (.seq (.opc [] [⟨none, .mv (.v 10)⟩,
    ⟨none, .mv (.v 8)⟩,
    ⟨none, .len (.t 1)⟩,
    ⟨none, .bin .lss (.t 0) (.t 2)⟩] [] (.t 3) .skip
  (.exit 2))
  (.seq (.block 3 (.opc [] [⟨none, .lda 5 (.v 6)⟩,
    ⟨none, .mv (.v 10)⟩,
    ⟨none, .call 164 [(.t 0), (.t 1)]⟩] [] (.t 2) (.ops [] [⟨none, .mv (.v 8)⟩,
    ⟨none, .mv (.v 10)⟩,
    ⟨none, .idxA 1 (.t 0) (.t 1)⟩,
    ⟨none, .st (.t 2) (.i 1)⟩] [])
  .skip))
  (.ops [] [⟨none, .mv (.v 10)⟩,
    ⟨none, .bin .add (.t 0) (.i 1)⟩,
    ⟨none, .asg 10 (.t 1)⟩] []))))))
  (.seq (.ops [] [⟨none, .asg 11 (.i 0)⟩] [])
  (.block 4 (.loop (.block 5 (.seq (.ops [] [⟨none, .bldS (ints []) 0 []⟩,
    ⟨none, .bldS (.int .i64 0) 0 []⟩,
    ⟨none, .bldS (.int .i64 0) 0 []⟩,
    ⟨none, .asg 12 (.t 0)⟩,
    ⟨none, .asg 13 (.t 1)⟩,
    ⟨none, .asg 14 (.t 2)⟩] [])
  (.seq (.seq (.ops [] [⟨none, .asg 15 (.i 0)⟩] [])
  (.block 6 (.loop (.seq (.opc [] [⟨none, .mv (.v 15)⟩,
    ⟨none, .mv (.v 7)⟩,
    ⟨none, .len (.t 1)⟩,
    ⟨none, .bin .lss (.t 0) (.t 2)⟩] [] (.t 3) .skip
  (.exit 6))
  (.seq (.block 7 (.ops [] [⟨none, .mv (.v 12)⟩,
    ⟨none, .lda 5 (.v 5)⟩,
    ⟨none, .mv (.v 7)⟩,
    ⟨none, .mv (.v 15)⟩,
    ⟨none, .call 187 [(.t 1), (.t 2), (.t 3)]⟩,
    ⟨none, .bldS (ints []) 1 [(0, (.t 4))]⟩,
    ⟨none, .app 1 24 (.t 0) (.t 5)⟩,
    ⟨none, .asg 12 (.t 6)⟩] []))
  (.ops [] [⟨none, .mv (.v 15)⟩,
    ⟨none, .bin .add (.t 0) (.i 1)⟩,
    ⟨none, .asg 15 (.t 1)⟩] []))))))
  (.seq (.seq (.ops [] [⟨none, .asg 16 (.i 0)⟩] [])
  (.block 8 (.loop (.seq (.opc [] [⟨none, .mv (.v 16)⟩,
    ⟨none, .mv (.v 8)⟩,
    ⟨none, .len (.t 1)⟩,
    ⟨none, .bin .lss (.t 0) (.t 2)⟩] [] (.t 3) .skip
  (.exit 8))
  (.seq (.block 9 (.ops [] [⟨none, .mv (.v 12)⟩,
    ⟨none, .lda 5 (.v 6)⟩,
    ⟨none, .mv (.v 8)⟩,
    ⟨none, .mv (.v 16)⟩,
    ⟨none, .call 187 [(.t 1), (.t 2), (.t 3)]⟩,
    ⟨none, .bldS (ints []) 1 [(0, (.t 4))]⟩,
    ⟨none, .app 1 24 (.t 0) (.t 5)⟩,
    ⟨none, .asg 12 (.t 6)⟩] []))
  (.ops [] [⟨none, .mv (.v 16)⟩,
    ⟨none, .bin .add (.t 0) (.i 1)⟩,
    ⟨none, .asg 16 (.t 1)⟩] []))))))
  (.seq (.ops [] [⟨none, .bldS (ints []) 0 []⟩,
    ⟨none, .asg 17 (.t 0)⟩] [])
  (.seq (.seq (.ops [] [⟨none, .asg 18 (.i 0)⟩] [])
  (.block 10 (.loop (.seq (.opc [] [⟨none, .mv (.v 18)⟩,
    ⟨none, .mv (.v 12)⟩,
    ⟨none, .len (.t 1)⟩,
    ⟨none, .bin .lss (.t 0) (.t 2)⟩] [] (.t 3) .skip
  (.exit 10))
  (.seq (.block 11 (.opc [] [⟨none, .mv (.v 17)⟩,
    ⟨none, .mv (.v 12)⟩,
    ⟨none, .mv (.v 18)⟩,
    ⟨none, .idxA 1 (.t 1) (.t 2)⟩,
    ⟨none, .ld (.t 3)⟩,
    ⟨none, .call 143 [(.t 0), (.t 4)]⟩,
    ⟨none, .bin .lss (.t 5) (.i 0)⟩] [] (.t 6) (.ops [] [⟨none, .mv (.v 17)⟩,
    ⟨none, .mv (.v 12)⟩,
    ⟨none, .mv (.v 18)⟩,
    ⟨none, .idxA 1 (.t 1) (.t 2)⟩,
    ⟨none, .ld (.t 3)⟩,
    ⟨none, .bldS (ints []) 1 [(0, (.t 4))]⟩,
    ⟨none, .app 1 24 (.t 0) (.t 5)⟩,
    ⟨none, .asg 17 (.t 6)⟩] [])
  .skip))
  (.ops [] [⟨none, .mv (.v 18)⟩,
    ⟨none, .bin .add (.t 0) (.i 1)⟩,
    ⟨none, .asg 18 (.t 1)⟩] []))))))
  (.seq (.seq (.ops [] [⟨none, .asg 19 (.i 0)⟩] [])
  (.block 12 (.loop (.seq (.opc [] [⟨none, .mv (.v 19)⟩,
    ⟨none, .mv (.v 12)⟩,
    ⟨none, .len (.t 1)⟩,
    ⟨none, .bin .lss (.t 0) (.t 2)⟩] [] (.t 3) .skip
  (.exit 12))
  (.seq (.block 13 (.opc [] [⟨none, .mv (.v 19)⟩,
    ⟨none, .mv (.v 7)⟩,
    ⟨none, .len (.t 1)⟩,
    ⟨none, .bin .lss (.t 0) (.t 2)⟩] [] (.t 3) (.ops [] [⟨none, .mv (.v 13)⟩,
    ⟨none, .mv (.v 17)⟩,
    ⟨none, .mv (.v 12)⟩,
    ⟨none, .mv (.v 19)⟩,
    ⟨none, .idxA 1 (.t 2) (.t 3)⟩,
    ⟨none, .ld (.t 4)⟩,
    ⟨none, .call 143 [(.t 1), (.t 5)]⟩,
    ⟨none, .bldS (.int .i64 0) 1 [(0, (.t 6))]⟩,
    ⟨none, .app 1 8 (.t 0) (.t 7)⟩,
    ⟨none, .asg 13 (.t 8)⟩] [])
  (.ops [] [⟨none, .mv (.v 14)⟩,
    ⟨none, .mv (.v 17)⟩,
    ⟨none, .mv (.v 12)⟩,
    ⟨none, .mv (.v 19)⟩,
    ⟨none, .idxA 1 (.t 2) (.t 3)⟩,
    ⟨none, .ld (.t 4)⟩,
    ⟨none, .call 143 [(.t 1), (.t 5)]⟩,
    ⟨none, .bldS (.int .i64 0) 1 [(0, (.t 6))]⟩,
    ⟨none, .app 1 8 (.t 0) (.t 7)⟩,
    ⟨none, .asg 14 (.t 8)⟩] [])))
  (.ops [] [⟨none, .mv (.v 19)⟩,
    ⟨none, .bin .add (.t 0) (.i 1)⟩,
    ⟨none, .asg 19 (.t 1)⟩] []))))))
  (.seq (.ops [] [⟨none, .mv (.v 13)⟩,
    ⟨none, .asg 7 (.t 0)⟩] [])
  (.seq (.ops [] [⟨none, .mv (.v 14)⟩,
    ⟨none, .asg 8 (.t 0)⟩] [])
  (.seq (.opc [] [⟨none, .mv (.v 17)⟩,
    ⟨none, .len (.t 0)⟩,
    ⟨none, .mv (.v 11)⟩,
    ⟨none, .bin .eql (.t 1) (.t 2)⟩] [] (.t 3) (.seq (.ops [] [⟨none, .mv (.v 7)⟩,
    ⟨none, .mv (.v 8)⟩,
    ⟨none, .mv (.v 7)⟩,
    ⟨none, .mv (.v 8)⟩,
    ⟨none, .call 188 [(.t 2), (.t 3)]⟩,
    ⟨none, .asg 2 (.t 0)⟩,
    ⟨none, .asg 3 (.t 1)⟩,
    ⟨none, .asg 4 (.t 4)⟩] [])
  .ret)
  .skip)
  (.ops [] [⟨none, .mv (.v 17)⟩,
    ⟨none, .len (.t 0)⟩,
    ⟨none, .asg 11 (.t 1)⟩] []))))))))))))))))))
def tr_spec_l10Colours : List Nat := [0, 1, 4, 5, 6, 2, 3, 7, 8, 9, 10, 11, 12, 13, 14, 15, 16, 17, 18, 19]
def rs_spec_l10Colours : List RS := [.t 2, .t 3, .t 4]
theorem ok_spec_l10Colours : fnOk Go.Proofs.Try.prog Go.Proofs.Try.f171 tr_spec_l10Colours c_spec_l10Colours 2 rs_spec_l10Colours = true := by decide +kernel

theorem ret_spec_l10Colours (c : Cat) (hc : c.Shape) (hcc : c.fr.length ≤ 16) : Ret Go.Proofs.Try.prog 171 [.v c.d, .v c.d] (.tup [ints (finC c), ints (finC c), .bool true]) := by
  refine ret_fn Go.Proofs.Try.func171 ok_spec_l10Colours rfl (show 2 < 500 by decide) rfl ?_; unfold c_spec_l10Colours tr_spec_l10Colours rs_spec_l10Colours; simp only [go_sem, Nat.reduceLT, Nat.reduceAdd, Nat.reduceSub, Nat.reduceBEq, Nat.reduceLeDiff, ↓reduceIte]
  refine ⟨by omega, by omega, ?_⟩
  rw [← firP_zero]
  refine loop_set [] (fun i : Nat => [(7, .o (ints (firP c i))), (9, .int .i64 i)]) (fun i => i ≤ c.fr.length) (fun i => c.fr.length - i) 0 (by simp only [go_sem]; rfl) (Nat.zero_le _) rfl ?_
  intro i hi
  simp only [go_sem, Nat.reduceLT, Nat.reduceAdd, Nat.reduceSub, Nat.reduceLeDiff, ↓reduceIte]
  have hfl : (firP c i).length = c.fr.length := firP_len
  refine ⟨fun h => ?_, fun h => ?_⟩
  · have hin : i < c.fr.length := by omega
    refine call_of (ret_spec_l02Unit c hc i hin) rfl (.inl rfl) ?_
    simp only [go_sem, Nat.reduceLT, Nat.reduceAdd, Nat.reduceSub, Nat.reduceBEq, Nat.reduceLeDiff, ↓reduceIte]
    have e1 : IntKind.i64.wrap ((i : Int) + 1) = ((i + 1 : Nat) : Int) := wrap_lt hin (by simp only [maxLen]; omega)
    refine ⟨fun hu => ⟨h, h, i + 1, hin, by omega, ?_⟩, fun hu => ⟨i + 1, hin, by omega, ?_⟩⟩
    · rw [firP_succ hin, if_pos (show unI c i = true by unfold unI; rw [hu]; simp), e1]
    · rw [firP_succ hin, if_neg (by unfold unI; rw [hu]; simp), e1]
  have hic : i = c.fr.length := by omega
  subst hic
  refine loop_set [9] (fun i : Nat => [(8, .o (ints (firP c i))), (10, .int .i64 i)]) (fun i => i ≤ c.fr.length) (fun i => c.fr.length - i) 0 (by simp only [go_sem, Nat.reduceLT, ↓reduceIte]; rfl) (Nat.zero_le _) rfl ?_
  intro i hi
  simp only [go_sem, Nat.reduceLT, Nat.reduceAdd, Nat.reduceSub, Nat.reduceLeDiff, ↓reduceIte]
  have hfl : (firP c i).length = c.fr.length := firP_len
  refine ⟨fun h => ?_, fun h => ?_⟩
  · have hin : i < c.fr.length := by omega
    refine call_of (ret_spec_l02Unit c hc i hin) rfl (.inl rfl) ?_
    simp only [go_sem, Nat.reduceLT, Nat.reduceAdd, Nat.reduceSub, Nat.reduceBEq, Nat.reduceLeDiff, ↓reduceIte]
    have e1 : IntKind.i64.wrap ((i : Int) + 1) = ((i + 1 : Nat) : Int) := wrap_lt hin (by simp only [maxLen]; omega)
    refine ⟨fun hu => ⟨h, h, i + 1, hin, by omega, ?_⟩, fun hu => ⟨i + 1, hin, by omega, ?_⟩⟩
    · rw [firP_succ hin, if_pos (show unI c i = true by unfold unI; rw [hu]; simp), e1]
    · rw [firP_succ hin, if_neg (by unfold unI; rw [hu]; simp), e1]
  have hic : i = c.fr.length := by omega
  subst hic
  refine loop_set [10, 12, 13, 14, 15, 16, 17, 18, 19] (fun s : Nat × List Int => [(7, .o (ints s.2)), (8, .o (ints s.2)), (11, .int .i64 s.1)])
    (fun s => s.2.length = c.fr.length ∧ Many c.fr.length s.2 s.1 ∧ s.1 ≤ 2 * c.fr.length ∧ ∃ m, 2 * c.fr.length + 1 - s.1 ≤ m ∧ finC c = colR c m s.1 s.2) (fun s => 2 * c.fr.length + 1 - s.1) (0, firP c c.fr.length) (by simp only [go_sem, Nat.reduceLT, ↓reduceIte]; rfl)
    ⟨firP_len, ⟨[], List.Pairwise.nil, rfl, fun v hv => by cases hv⟩, Nat.zero_le _, 2 * c.fr.length + 1, Nat.le_refl _, rfl⟩ rfl ?_
  rintro ⟨cnt, col⟩ ⟨hcl, hmany, hcnt, m, hm, hfin⟩
  simp only at hcl hmany hcnt hm hfin
  simp only [go_sem, Nat.reduceLT, Nat.reduceAdd, Nat.reduceSub, ↓reduceIte]
  have hLl : (looksL c col).length = c.fr.length := by simp [looksL]
  have hLg : ∀ i, i < c.fr.length → (looksL c col).getD i [] = lookI c col i := fun i hi => by
    unfold looksL; rw [List.getD_eq_getElem?_getD, List.getElem?_map, List.getElem?_range hi]; rfl
  generalize hL : looksL c col = L at hLl hLg
  refine loop_set [] (fun i : Nat => [(12, .o (vws (L.take i))), (15, .int .i64 i)]) (fun i => i ≤ c.fr.length) (fun i => c.fr.length - i) 0 (by simp only [go_sem]; rfl) (Nat.zero_le _) rfl ?_
  intro i hi
  simp only [go_sem, Nat.reduceLT, Nat.reduceAdd, Nat.reduceSub, Nat.reduceLeDiff, ↓reduceIte]
  refine ⟨fun h => ?_, fun h => ?_⟩
  · have hin : i < c.fr.length := by omega
    refine callv_of (ret_spec_l10Look c hc hcc col hcl i hin) rfl (.inl (nv_ints _)) ?_
    simp only [go_sem, Nat.reduceLT, Nat.reduceAdd, Nat.reduceSub, Nat.reduceBEq, ↓reduceIte]
    refine ⟨by simp only [List.length_map, List.length_take]; omega, i + 1, hin, by omega, ?_⟩
    rw [wrap_lt hin (by simp only [maxLen]; omega), take_snoc (show i < L.length by omega) [], hLg i hin]
  have hic : i = L.length := by omega
  subst hic
  rw [List.take_length]
  refine loop_set [15] (fun i : Nat => [(12, .o (vws (L ++ L.take i))), (16, .int .i64 i)]) (fun i => i ≤ c.fr.length) (fun i => c.fr.length - i) 0 (by simp only [go_sem, Nat.reduceLT, ↓reduceIte]; rfl) (Nat.zero_le _) (by rw [List.take_zero, List.append_nil]; rfl) ?_
  intro i hi
  simp only [go_sem, Nat.reduceLT, Nat.reduceAdd, Nat.reduceSub, Nat.reduceLeDiff, ↓reduceIte]
  refine ⟨fun h => ?_, fun h => ?_⟩
  · have hin : i < c.fr.length := by omega
    refine callv_of (ret_spec_l10Look c hc hcc col hcl i hin) rfl (.inl (nv_ints _)) ?_
    simp only [go_sem, Nat.reduceLT, Nat.reduceAdd, Nat.reduceSub, Nat.reduceBEq, ↓reduceIte]
    refine ⟨by simp only [List.length_map, List.length_append, List.length_take]; omega, i + 1, hin, by omega, ?_⟩
    rw [wrap_lt hin (by simp only [maxLen]; omega), take_snoc (show i < L.length by omega) [], hLg i hin, List.append_assoc]
  have hic : i = L.length := by omega
  subst hic
  rw [List.take_length]
  generalize hLL : L ++ L = M
  have hMl : M.length = 2 * c.fr.length := by rw [← hLL, List.length_append]; omega
  have hMm : ∀ x, x ∈ M → x.length ≤ 1048576 := fun x hx => by
    have hx : x ∈ L := by rw [← hLL] at hx; exact (List.mem_append.1 hx).elim id id
    rw [← hL] at hx
    obtain ⟨f, _, rfl⟩ := List.mem_map.1 hx
    exact look_len hcc
  have hkl : ∀ i, (kindsL (M.take i)).length ≤ 32 := fun i => Nat.le_trans (kindsL_len _) (by rw [List.length_take]; omega)
  have hkx : ∀ i j, j < (kindsL (M.take i)).length → ((kindsL (M.take i)).getD j []).length ≤ 1048576 := fun i j hj => by
    rw [getD_lt hj]
    exact hMm _ (List.mem_of_mem_take (mem_kindsL.1 (List.getElem_mem hj)))
  refine loop_set [16] (fun i : Nat => [(17, .o (vws (kindsL (M.take i)))), (18, .int .i64 i)]) (fun i => i ≤ M.length) (fun i => M.length - i) 0 (by simp only [go_sem, Nat.reduceLT, ↓reduceIte]; rfl) (Nat.zero_le _) rfl ?_
  intro i hi
  simp only [go_sem, Nat.reduceLT, Nat.reduceAdd, Nat.reduceSub, Nat.reduceLeDiff, ↓reduceIte, List.length_map]
  refine ⟨fun h => ?_, fun h => ?_⟩
  · simp only [go_sem, vws_get h]
    refine ⟨h, call_of (place_vws (kindsL (M.take i)) (M.getD i []) (by have := hkl i; omega) (hkx i)) rfl (.inl rfl) ?_⟩
    simp only [go_sem, Nat.reduceLT, Nat.reduceAdd, Nat.reduceSub, Nat.reduceBEq, Nat.reduceLeDiff, ↓reduceIte, vws_get h, List.length_map]
    have e1 : IntKind.i64.wrap ((i : Int) + 1) = ((i + 1 : Nat) : Int) := wrap_lt h (by simp only [maxLen]; omega)
    have hkl' := hkl i
    refine ⟨fun hp => ⟨h, by omega, i + 1, by omega, by omega, ?_⟩, fun hp => ⟨i + 1, by omega, by omega, ?_⟩⟩
    · rw [take_snoc h [], kindsL_snoc, if_pos hp, e1]
    · rw [take_snoc h [], kindsL_snoc, if_neg hp, e1]
  have hic : i = M.length := by omega
  subst hic
  rw [List.take_length]
  have hKl := hkl M.length
  have hKx := hkx M.length
  rw [List.take_length] at hKl hKx
  have hNe : nextC c col = L.map (plcI (kindsL M)) := by rw [← hLL, ← hL]; rfl
  have hKn : kindsN c col = (kindsL M).length := by rw [← hLL, ← hL]; rfl
  generalize hK : kindsL M = K at hKl hKx hNe hKn
  have hNl : (nextC c col).length = c.fr.length := nextC_len
  have hNg : ∀ i, i < c.fr.length → plcI K (M.getD i []) = (nextC c col).getD i 0 ∧ plcI K (M.getD (c.fr.length + i) []) = (nextC c col).getD i 0 := fun i hi => by
    have e : (nextC c col).getD i 0 = plcI K (L.getD i []) := by
      rw [hNe, List.getD_eq_getElem?_getD, List.getElem?_map, List.getElem?_eq_getElem (by omega), getD_lt (show i < L.length by omega)]; rfl
    rw [e, ← hLL]
    constructor
    · rw [List.getD_eq_getElem?_getD, List.getElem?_append_left (by omega), ← List.getD_eq_getElem?_getD]
    · rw [List.getD_eq_getElem?_getD, List.getElem?_append_right (by omega), ← List.getD_eq_getElem?_getD, show c.fr.length + i - L.length = i by omega]
  generalize hN : nextC c col = N at hNl hNg
  refine loop_set [18] (fun i : Nat => [(13, .o (ints (N.take i))), (14, .o (ints (N.take (i - c.fr.length)))), (19, .int .i64 i)]) (fun i => i ≤ M.length) (fun i => M.length - i) 0 (by simp only [go_sem, Nat.reduceLT, ↓reduceIte]; rfl) (Nat.zero_le _) (by rw [Nat.zero_sub, List.take_zero]; rfl) ?_
  intro i hi
  simp only [go_sem, Nat.reduceLT, Nat.reduceAdd, Nat.reduceSub, Nat.reduceBEq, Nat.reduceLeDiff, ↓reduceIte, List.length_map]
  refine ⟨fun h => ⟨fun h2 => ?_, fun h2 => ?_⟩, fun h => ?_⟩
  · simp only [go_sem, vws_get h]
    refine ⟨h, call_of (place_vws K (M.getD i []) (by omega) hKx) rfl (.inl rfl) ?_⟩
    simp only [go_sem, Nat.reduceLT, Nat.reduceAdd, Nat.reduceSub, Nat.reduceBEq, Nat.reduceLeDiff, ↓reduceIte]
    have e1 : IntKind.i64.wrap ((i : Int) + 1) = ((i + 1 : Nat) : Int) := wrap_lt h (by simp only [maxLen]; omega)
    refine ⟨by rw [List.length_take]; omega, i + 1, by omega, by omega, ?_⟩
    rw [e1, (hNg i (by omega)).1, take_snoc (show i < N.length by omega) 0, show i + 1 - c.fr.length = 0 by omega, show i - c.fr.length = 0 by omega]
  · simp only [go_sem, vws_get h]
    refine ⟨h, call_of (place_vws K (M.getD i []) (by omega) hKx) rfl (.inl rfl) ?_⟩
    simp only [go_sem, Nat.reduceLT, Nat.reduceAdd, Nat.reduceSub, Nat.reduceBEq, Nat.reduceLeDiff, ↓reduceIte]
    have e1 : IntKind.i64.wrap ((i : Int) + 1) = ((i + 1 : Nat) : Int) := wrap_lt h (by simp only [maxLen]; omega)
    refine ⟨by rw [List.length_take]; omega, i + 1, by omega, by omega, ?_⟩
    have h3 := (hNg (i - c.fr.length) (by omega)).2
    rw [show c.fr.length + (i - c.fr.length) = i by omega] at h3
    rw [e1, h3, List.take_of_length_le (show N.length ≤ i by omega), List.take_of_length_le (show N.length ≤ i + 1 by omega), show i + 1 - c.fr.length = (i - c.fr.length) + 1 by omega, take_snoc (show i - c.fr.length < N.length by omega) 0]
  have hic : i = M.length := by omega
  subst hic
  rw [List.take_of_length_le (show N.length ≤ M.length by omega), List.take_of_length_le (show N.length ≤ M.length - c.fr.length by omega)]
  have hck : cnt ≤ K.length := by rw [← hKn]; exact kinds_grow hmany
  have hcm : K.length ≤ 2 * c.fr.length := by rw [← hMl, ← hK]; exact kindsL_len _
  obtain ⟨m', rfl⟩ : ∃ m', m = m' + 1 := ⟨m - 1, by omega⟩
  rw [colR, hKn, hN] at hfin
  refine ⟨fun he => ?_, fun he => ?_⟩
  · rw [if_pos (by omega)] at hfin
    refine call_of (ret_spec_l10Alike N (by omega)) rfl (.inl rfl) ?_
    simp only [go_sem, Nat.reduceLT, Nat.reduceAdd, Nat.reduceSub, Nat.reduceEqDiff, Nat.reduceBEq, ↓reduceIte]
    rw [hfin]
  · have hne : K.length ≠ cnt := fun e => by rw [e] at he; simp at he
    rw [if_neg hne] at hfin
    refine ⟨(K.length, N), ⟨hNl, ?_, hcm, m', by simp only; omega, hfin⟩, by simp only; omega, rfl⟩
    rw [← hN, ← hK, ← hLL, ← hL]; exact next_many
end Go.D3

/- PLAIN LAWS: the reference's search for automorphisms; the contract of its test for a number in a list. -/
namespace Go.D3
open Go
set_option maxRecDepth 100000
set_option maxHeartbeats 4000000

-- spec.l01Has
def c_spec_l01Has : C :=
  (.seq (.ops [] [⟨none, .asg 2 (.k (.bool false))⟩] [])
  (.seq (.seq (.ops [] [⟨none, .asg 3 (.i 0)⟩] [])
  (.block 0 (.loop (.seq (.opc [] [⟨none, .mv (.v 3)⟩,
    ⟨none, .mv (.v 0)⟩,
    ⟨none, .len (.t 1)⟩,
    ⟨none, .bin .lss (.t 0) (.t 2)⟩] [] (.t 3) .skip
  (.exit 0))
  (.seq (.block 1 (.opc [] [⟨none, .mv (.v 0)⟩,
    ⟨none, .mv (.v 3)⟩,
    ⟨none, .idxA 1 (.t 0) (.t 1)⟩,
    ⟨none, .ld (.t 2)⟩,
    ⟨none, .mv (.v 1)⟩,
    ⟨none, .bin .eql (.t 3) (.t 4)⟩] [] (.t 5) (.seq (.ops [] [⟨none, .asg 2 (.k (.bool true))⟩] [])
  .ret)
  .skip))
  (.ops [] [⟨none, .mv (.v 3)⟩,
    ⟨none, .bin .add (.t 0) (.i 1)⟩,
    ⟨none, .asg 3 (.t 1)⟩] []))))))
  (.seq (.ops [] [⟨none, .asg 2 (.k (.bool false))⟩] [])
  .ret)))
def tr_spec_l01Has : List Nat := [0, 1, 4, 5]
def rs_spec_l01Has : List RS := [.t 2]
theorem ok_spec_l01Has : fnOk Go.Proofs.Try.prog Go.Proofs.Try.f181 tr_spec_l01Has c_spec_l01Has 2 rs_spec_l01Has = true := by decide +kernel

theorem ret_spec_l01Has (l : List Int) (x : Int) (hm : l.length ≤ 1048576) : Ret Go.Proofs.Try.prog 181 [.v (ints l), .v (.int .i64 x)] (.bool (l.contains x)) := by
  refine ret_fn Go.Proofs.Try.func181 ok_spec_l01Has rfl (show 2 < 500 by decide) rfl ?_; unfold c_spec_l01Has tr_spec_l01Has rs_spec_l01Has; simp only [go_sem, Nat.reduceLT, Nat.reduceAdd, ↓reduceIte]
  refine loop_set [] (fun (i : Nat) => [(3, .int .i64 i)]) (fun i => i ≤ l.length ∧ (l.take i).contains x = false) (fun i => l.length - i) 0 (by simp only [go_sem]; rfl) ⟨Nat.zero_le _, rfl⟩ rfl ?_
  rintro i ⟨hi, hn⟩
  simp only [go_sem, Nat.reduceLT, Nat.reduceAdd, Nat.reduceSub, ↓reduceIte]
  refine ⟨fun h => ⟨h, fun h2 => ?_, fun h2 => ⟨i + 1, ⟨h, ?_⟩, by omega, by rw [wrap_lt h (by simp only [maxLen]; omega)]⟩⟩, fun h => by rw [show i = l.length by omega, List.take_length] at hn; exact hn.symm⟩
  · have h2 : l.getD i 0 = x := by simpa using h2
    rw [getD_lt h] at h2
    exact (List.contains_iff_mem.2 (h2 ▸ List.getElem_mem _)).symm
  · have h2 : l.getD i 0 ≠ x := by simpa using h2
    rw [take_snoc h 0, List.contains_append, hn, Bool.false_or]
    generalize l.getD i 0 = v at h2
    simp; exact fun e => h2 e.symm

section
variable {c : Cat} {o p F : List Int}
/-- The known composites of known images are right. -/
def WellF (c : Cat) (p : List Int) : Prop := ∀ f g, f < c.fr.length → g < c.fr.length → 0 ≤ p.getD f 0 → 0 ≤ p.getD g 0 → okF c p f g = true
theorem okF_iff {f g : Nat} : okF c p f g = true ↔ (0 ≤ c.cellI f g → 0 ≤ p.getD (c.cellI f g).toNat 0 → c.cellI (p.getD f 0) (p.getD g 0) = p.getD (c.cellI f g).toNat 0) := by
  unfold okF
  rw [Bool.not_eq_true', Bool.and_eq_false_iff, Bool.and_eq_false_iff, decide_eq_false_iff_not, decide_eq_false_iff_not, bne_eq_false_iff_eq]
  constructor
  · rintro ((h | h) | h) h1 h2
    · exact absurd h1 h
    · exact absurd h2 h
    · exact h
  · intro h
    by_cases h1 : 0 ≤ c.cellI f g
    · by_cases h2 : 0 ≤ p.getD (c.cellI f g).toNat 0
      · exact .inr (h h1 h2)
      · exact .inl (.inr h2)
    · exact .inl (.inl h1)
theorem well_fit (hw : WellF c p) (hl : p.length = c.fr.length) (hc : c.Shape) (ht : ∀ i, i < p.length → 0 ≤ p.getD i 0) : ∀ a b, a < c.fr.length → b < c.fr.length → Fit c c p a b := by
  intro a b ha hb h0 h1 h2
  have h3 := okF_iff.1 (hw a b ha hb h1 h2)
  rw [cell_eq] at h3
  have h4 := cell_rng hc ha hb (by rw [cell_eq]; exact h0)
  rw [cell_eq] at h4
  exact (h3 h0 (ht _ (by omega))).symm
theorem well_start (hc : c.Shape) (hcb : c.isB = true) (ho : Full c c o) : WellF c (stF c c o c.idn.length) := by
  intro f g hf hg h1 h2
  refine okF_iff.2 fun h3 _ => ?_
  have := stF_fit hc hc hcb hcb ho f g hf hg (by rw [← cell_eq]; exact h3) h1 h2
  rw [cell_eq]; exact this.symm
theorem well_set (_ : c.Shape) (hl : p.length = c.fr.length) (hw : WellF c p) {a : Nat} (ha : a < c.fr.length) {x : Int} (_ : 0 ≤ x) (hf : fitsB c (p.set a x) a = true) : WellF c (p.set a x) := by
  have hal : a < p.length := by omega
  unfold fitsB at hf
  rw [Bool.and_eq_true] at hf
  obtain ⟨f1, f2⟩ := hf
  have f1 := allB_iff.1 f1
  have f2 := allB_iff.1 f2
  have hga : ∀ g, g < c.fr.length → 0 ≤ (p.set a x).getD g 0 → okF c (p.set a x) a g = true ∧ okF c (p.set a x) g a = true := fun g hg h0 => by
    have := f1 g hg
    unfold fitA at this
    rw [decide_eq_false (by omega), Bool.false_or, Bool.and_eq_true] at this
    exact this
  intro f g hf hg h1 h2
  by_cases hfa : f = a
  · subst hfa; exact (hga g hg h2).1
  by_cases hgq : g = a
  · subst hgq; exact (hga f hf h1).2
  refine okF_iff.2 fun h3 h4 => ?_
  by_cases hh : c.cellI f g = a
  · have := allB_iff.1 (f2 f hf) g hg
    unfold okG at this
    rw [decide_eq_true h1, decide_eq_true h2, hh] at this
    simp only [Bool.true_and, beq_self_eq_true, Bool.not_eq_true', bne_eq_false_iff_eq] at this
    rw [hh, Int.toNat_natCast]; exact this
  · have e1 : ∀ z, z ≠ a → (p.set a x).getD z 0 = p.getD z 0 := fun z hz => by rw [set_get hal, if_neg hz]
    have hz : (c.cellI f g).toNat ≠ a := fun e => hh (by omega)
    rw [e1 f hfa, e1 g hgq, e1 _ hz]
    rw [e1 f hfa] at h1
    rw [e1 g hgq] at h2
    rw [e1 _ hz] at h4
    exact okF_iff.1 (hw f g hf hg h1 h2) h3 h4
theorem dst_set (hd : dstB p = true) {a : Nat} (ha : a < p.length) (_ : p.getD a 0 < 0) {x : Int} (hx : x ∉ p) : dstB (p.set a x) = true := by
  have h := dstB_iff.1 hd
  have hm : ∀ j, j < p.length → p.getD j 0 ≠ x := fun j hj e => hx (by rw [← e, getD_lt hj]; exact List.getElem_mem hj)
  refine dstB_iff.2 fun j hj i hi h0 => ?_
  rw [List.length_set] at hj
  rw [set_get ha] at h0 ⊢
  rw [set_get ha]
  by_cases hia : i = a
  · rw [if_pos hia, if_neg (by omega)]; exact fun e => hm j hj e.symm
  · rw [if_neg hia] at h0 ⊢
    by_cases hja : j = a
    · rw [if_pos hja]; exact hm i (by omega)
    · rw [if_neg hja]; exact h j hj i hi h0
theorem dst_has {a : Nat} (ha : a < p.length) (hn : p.getD a 0 < 0) {x : Int} (h0 : 0 ≤ x) (hx : x ∈ p) : dstB (p.set a x) = false := by
  cases hb : dstB (p.set a x) with
  | false => rfl
  | true =>
    exfalso
    have h := dstB_iff.1 hb
    obtain ⟨j, hj, he⟩ := List.getElem_of_mem hx
    have he : p.getD j 0 = x := by rw [getD_lt hj]; exact he
    have hja : j ≠ a := fun e => by rw [e] at he; omega
    rw [List.length_set] at h
    rcases Nat.lt_trichotomy j a with h1 | h1 | h1
    · have := h a ha j h1
      rw [set_get ha, set_get ha, if_neg hja, if_pos rfl] at this
      exact this (by omega) he
    · exact hja h1
    · have := h j hj a h1
      rw [set_get ha, set_get ha, if_neg hja, if_pos rfl] at this
      exact this (by omega) he.symm
theorem dst_start (hc : c.Shape) (ho : Full c c o) (hn : o.Nodup) : dstB (stF c c o c.idn.length) = true := by
  refine dstB_iff.2 fun j hj i hi h0 he => ?_
  rw [stF_len] at hj
  obtain ⟨x, hx, hxi⟩ := stF_known hc (Nat.le_refl _) (by omega) h0
  obtain ⟨y, hy, hyj⟩ := stF_known (d := c) (o := o) hc (Nat.le_refl _) hj (by omega)
  have hol := ho.len
  have hci := hc.idn
  rw [← hxi, ← hyj, stF_at hc (Nat.le_refl _) hx, stF_at hc (Nat.le_refl _) hy] at he
  have r1 := ho.rng x (by omega)
  have r2 := ho.rng y (by omega)
  have e2 := idn_inj hc (x := (o.getD x 0).toNat) (y := (o.getD y 0).toNat) (by omega) (by omega) (by rw [he])
  have hp := List.pairwise_iff_getElem.1 hn
  have e3 : o[x] = o[y] := by
    rw [← getD_lt (d := 0) (show x < o.length by omega), ← getD_lt (d := 0) (show y < o.length by omega)]
    omega
  rcases Nat.lt_trichotomy x y with h1 | h1 | h1
  · exact hp x y (by omega) (by omega) h1 e3
  · subst h1; omega
  · exact hp y x (by omega) (by omega) h1 e3.symm
/-- An arrow of another colour is no image. -/
theorem col_no (hc : c.Shape) (hp : Typed c c o p) {a : Nat} (ha : a < c.fr.length) (hn : p.getD a 0 < 0) {x : Int} (hx : 0 ≤ x) (hF : ∀ F, Comp c c o p F → Fn c c (o, F)) (hne : (finC c).getD a 0 ≠ (finC c).getD x.toNat 0) {F : List Int} (h : Comp c c o (p.set a x) F) : dstB F = false := by
  cases hb : dstB F with
  | false => rfl
  | true =>
    exfalso
    obtain ⟨h1, h2⟩ := (Comp.set hp ha hn hx).1 h
    have := finC_keep hc (hF F h1) hb a ha
    unfold imA at this
    rw [h2] at this
    exact hne this.symm
end
end Go.D3
