/- CONTRACTS: the program's representable set functor. -/
import Derived.Test.YtclmdejmogmifaaGO
import Derived.Test.YtclmdejmogmifaaGH
/- CONTRACTS: the reference's representable set functor. -/
namespace Go.D3
open Go
set_option maxRecDepth 100000
set_option maxHeartbeats 4000000

/-- The arrows from 'x' among the first 'h', by their ends, each as a pair. -/
def Cat.freeL (c : Cat) (x : Int) (h : Nat) : List (List (List Int)) := (List.range c.ob.toNat).map fun y : Nat => (c.homP x (y : Int) h).map fun f => [0, f]
theorem freeL_len {c : Cat} {x : Int} {h : Nat} : (c.freeL x h).length = c.ob.toNat := by simp [Cat.freeL]
theorem freeL_zero {c : Cat} {x : Int} : c.freeL x 0 = List.replicate c.ob.toNat [] := by
  unfold Cat.freeL Cat.homP
  simp only [List.range_zero, List.filter_nil, List.map_nil, List.map_const', List.length_range]
theorem freeL_get {c : Cat} {x : Int} {h y : Nat} (hy : y < c.ob.toNat) : (c.freeL x h).getD y [] = (c.homP x (y : Int) h).map fun f => [0, f] := by
  unfold Cat.freeL
  rw [List.getD_eq_getElem?_getD, List.getElem?_map, List.getElem?_range hy]; rfl
theorem freeL_hit {c : Cat} {x : Int} {h t : Nat} (hx : c.fr.getD h 0 = x) (ht : c.to.getD h 0 = t) : c.freeL x (h + 1) = (c.freeL x h).set t ((c.freeL x h).getD t [] ++ [[0, (h : Int)]]) := by
  apply List.ext_getElem
  · rw [List.length_set, freeL_len, freeL_len]
  · intro y h1 h2
    have hy : y < c.ob.toNat := by rwa [freeL_len] at h1
    rw [← getD_lt (d := []) h1, freeL_get hy, Cat.homP_step, List.getElem_set]
    by_cases hty : t = y
    · subst hty
      rw [if_pos rfl, if_pos (by rw [hx, ht]; simp), List.map_append, freeL_get hy]; rfl
    · rw [if_neg hty, if_neg (by rw [ht]; simp; intro _; omega), List.append_nil, ← getD_lt (d := []) (by rwa [List.length_set] at h2), freeL_get hy]
theorem freeL_miss {c : Cat} {x : Int} {h : Nat} (hx : c.fr.getD h 0 ≠ x) : c.freeL x (h + 1) = c.freeL x h := by
  unfold Cat.freeL
  congr 1
  funext y
  have : (c.fr.getD h 0 == x) = false := by simpa using hx
  rw [Cat.homP_step, this, Bool.false_and, if_neg (by simp), List.append_nil]
theorem freeL_in {c : Cat} {x : Int} {h : Nat} {r : List Int} {y : Nat} (hr : r ∈ (c.freeL x h).getD y []) : ∃ f, r = [0, f] := by
  by_cases hy : y < c.ob.toNat
  · rw [freeL_get hy] at hr
    obtain ⟨f, _, rfl⟩ := List.mem_map.1 hr
    exact ⟨f, rfl⟩
  · rw [List.getD_eq_getElem?_getD, List.getElem?_eq_none (by rw [freeL_len]; omega)] at hr
    cases hr

theorem app_pair {l : List (List Int)} {a b : Int} : (lst ints [] l).appL [.slice (.int .i64 0) [.int .i64 a, .int .i64 b]] = intss (l ++ [[a, b]]) := by
  simp only [lst, D.appL, intss, List.map_append, List.map_cons, List.map_nil]
attribute [go_sem high] app_pair
-- spec.l19Free
def c_spec_l19Free : C :=
  (.seq (.ops [3, 2] [⟨none, .boxv 5 (.v 0)⟩,
    ⟨none, .alc [.int .i64 0, .nils (.int .i64 0), .nils (.int .i64 0), .nils (.int .i64 0), .nils (ints []), .nils (.int .i64 0), .nils (ints [])]⟩] [(3, 0), (2, 1)])
  (.seq (.ops [] [⟨none, .fA 0 (.v 3)⟩,
    ⟨none, .ld (.t 0)⟩,
    ⟨none, .mkS (intss []) 24 (.t 1) (.t 1)⟩,
    ⟨none, .asg 4 (.t 2)⟩] [])
  (.seq (.seq (.ops [] [⟨none, .asg 5 (.i 0)⟩] [])
  (.block 0 (.loop (.seq (.opc [] [⟨none, .mv (.v 5)⟩,
    ⟨none, .mv (.v 1)⟩,
    ⟨none, .len (.t 1)⟩,
    ⟨none, .bin .lss (.t 0) (.t 2)⟩] [] (.t 3) .skip
  (.exit 0))
  (.seq (.block 1 (.seq (.ops [] [⟨none, .asg 6 (.i 0)⟩] [])
  (.block 2 (.loop (.seq (.opc [] [⟨none, .mv (.v 6)⟩,
    ⟨none, .fA 1 (.v 3)⟩,
    ⟨none, .ld (.t 1)⟩,
    ⟨none, .len (.t 2)⟩,
    ⟨none, .bin .lss (.t 0) (.t 3)⟩] [] (.t 4) .skip
  (.exit 2))
  (.seq (.block 3 (.opc [] [⟨none, .fA 1 (.v 3)⟩,
    ⟨none, .ld (.t 0)⟩,
    ⟨none, .mv (.v 6)⟩,
    ⟨none, .idxA 1 (.t 1) (.t 2)⟩,
    ⟨none, .ld (.t 3)⟩,
    ⟨none, .mv (.v 1)⟩,
    ⟨none, .mv (.v 5)⟩,
    ⟨none, .idxA 1 (.t 5) (.t 6)⟩,
    ⟨none, .ld (.t 7)⟩,
    ⟨none, .bin .eql (.t 4) (.t 8)⟩] [] (.t 9) (.alt [] (.two 5 18 [0, 1, 2, 3, 4, 6, 7, 8, 9, 10, 11, 12, 13, 14, 15, 16, 17, 18, 5, 19, 20] (.leaf [⟨none, .mv (.v 4)⟩,
    ⟨none, .fA 2 (.v 3)⟩,
    ⟨none, .mv (.v 6)⟩,
    ⟨none, .mv (.v 4)⟩,
    ⟨none, .fA 2 (.v 3)⟩,
    ⟨none, .mv (.v 6)⟩,
    ⟨none, .mv (.v 5)⟩,
    ⟨none, .mv (.v 6)⟩,
    ⟨none, .ld (.t 1)⟩,
    ⟨none, .idxA 1 (.t 8) (.t 2)⟩,
    ⟨none, .ld (.t 9)⟩,
    ⟨none, .ld (.t 4)⟩,
    ⟨none, .idxA 1 (.t 11) (.t 5)⟩,
    ⟨none, .ld (.t 12)⟩,
    ⟨none, .idxA 1 (.t 3) (.t 13)⟩,
    ⟨none, .ld (.t 14)⟩,
    ⟨none, .bldS (.int .i64 0) 2 [(0, (.t 6)), (1, (.t 7))]⟩,
    ⟨none, .bldS (ints []) 1 [(0, (.t 16))]⟩,
    ⟨none, .app 1 24 (.t 15) (.t 17)⟩,
    ⟨none, .idxA 1 (.t 0) (.t 10)⟩,
    ⟨none, .st (.t 19) (.t 18)⟩] [])
  (.two 4 17 [0, 1, 2, 3, 5, 6, 7, 8, 9, 10, 11, 12, 13, 14, 15, 16, 17, 4, 18, 19, 20] (.leaf [⟨none, .mv (.v 4)⟩,
    ⟨none, .fA 2 (.v 3)⟩,
    ⟨none, .mv (.v 6)⟩,
    ⟨none, .mv (.v 4)⟩,
    ⟨none, .fA 2 (.v 3)⟩,
    ⟨none, .mv (.v 6)⟩,
    ⟨none, .mv (.v 5)⟩,
    ⟨none, .mv (.v 6)⟩,
    ⟨none, .ld (.t 1)⟩,
    ⟨none, .idxA 1 (.t 8) (.t 2)⟩,
    ⟨none, .ld (.t 4)⟩,
    ⟨none, .idxA 1 (.t 10) (.t 5)⟩,
    ⟨none, .ld (.t 11)⟩,
    ⟨none, .idxA 1 (.t 3) (.t 12)⟩,
    ⟨none, .ld (.t 13)⟩,
    ⟨none, .bldS (.int .i64 0) 2 [(0, (.t 6)), (1, (.t 7))]⟩,
    ⟨none, .bldS (ints []) 1 [(0, (.t 15))]⟩,
    ⟨none, .app 1 24 (.t 14) (.t 16)⟩,
    ⟨none, .ld (.t 9)⟩,
    ⟨none, .idxA 1 (.t 0) (.t 18)⟩,
    ⟨none, .st (.t 19) (.t 17)⟩] [])
  (.two 2 16 [0, 1, 3, 4, 5, 6, 7, 8, 9, 10, 11, 12, 13, 14, 15, 16, 2, 17, 18, 19, 20] (.leaf [⟨none, .mv (.v 4)⟩,
    ⟨none, .fA 2 (.v 3)⟩,
    ⟨none, .mv (.v 6)⟩,
    ⟨none, .mv (.v 4)⟩,
    ⟨none, .fA 2 (.v 3)⟩,
    ⟨none, .mv (.v 6)⟩,
    ⟨none, .mv (.v 5)⟩,
    ⟨none, .mv (.v 6)⟩,
    ⟨none, .ld (.t 1)⟩,
    ⟨none, .ld (.t 4)⟩,
    ⟨none, .idxA 1 (.t 9) (.t 5)⟩,
    ⟨none, .ld (.t 10)⟩,
    ⟨none, .idxA 1 (.t 3) (.t 11)⟩,
    ⟨none, .ld (.t 12)⟩,
    ⟨none, .bldS (.int .i64 0) 2 [(0, (.t 6)), (1, (.t 7))]⟩,
    ⟨none, .bldS (ints []) 1 [(0, (.t 14))]⟩,
    ⟨none, .app 1 24 (.t 13) (.t 15)⟩,
    ⟨none, .idxA 1 (.t 8) (.t 2)⟩,
    ⟨none, .ld (.t 17)⟩,
    ⟨none, .idxA 1 (.t 0) (.t 18)⟩,
    ⟨none, .st (.t 19) (.t 16)⟩] [])
  (.leaf [⟨none, .mv (.v 4)⟩,
    ⟨none, .fA 2 (.v 3)⟩,
    ⟨none, .mv (.v 6)⟩,
    ⟨none, .mv (.v 4)⟩,
    ⟨none, .fA 2 (.v 3)⟩,
    ⟨none, .mv (.v 6)⟩,
    ⟨none, .mv (.v 5)⟩,
    ⟨none, .mv (.v 6)⟩,
    ⟨none, .ld (.t 4)⟩,
    ⟨none, .idxA 1 (.t 8) (.t 5)⟩,
    ⟨none, .ld (.t 9)⟩,
    ⟨none, .idxA 1 (.t 3) (.t 10)⟩,
    ⟨none, .ld (.t 11)⟩,
    ⟨none, .bldS (.int .i64 0) 2 [(0, (.t 6)), (1, (.t 7))]⟩,
    ⟨none, .bldS (ints []) 1 [(0, (.t 13))]⟩,
    ⟨none, .app 1 24 (.t 12) (.t 14)⟩,
    ⟨none, .ld (.t 1)⟩,
    ⟨none, .idxA 1 (.t 16) (.t 2)⟩,
    ⟨none, .ld (.t 17)⟩,
    ⟨none, .idxA 1 (.t 0) (.t 18)⟩,
    ⟨none, .st (.t 19) (.t 15)⟩] [])))))
  .skip))
  (.ops [] [⟨none, .mv (.v 6)⟩,
    ⟨none, .bin .add (.t 0) (.i 1)⟩,
    ⟨none, .asg 6 (.t 1)⟩] [])))))))
  (.ops [] [⟨none, .mv (.v 5)⟩,
    ⟨none, .bin .add (.t 0) (.i 1)⟩,
    ⟨none, .asg 5 (.t 1)⟩] []))))))
  (.seq (.ops [7] [⟨none, .lda 5 (.v 3)⟩,
    ⟨none, .call 126 [(.t 0)]⟩,
    ⟨none, .bld [.int .i64 0, .nils (.int .i64 0), .nils (.int .i64 0), .nils (.int .i64 0), .nils (ints []), .nils (.int .i64 0), .nils (ints [])] [(0, 5, (.t 1))]⟩,
    ⟨none, .alc [.int .i64 0, .nils (.int .i64 0), .nils (.int .i64 0), .nils (.int .i64 0), .nils (ints []), .nils (.int .i64 0), .nils (ints [])]⟩,
    ⟨none, .stn 7 (.t 3) (.t 2)⟩] [(7, 3)])
  (.seq (.seq (.ops [] [⟨none, .asg 8 (.i 0)⟩] [])
  (.block 4 (.loop (.seq (.opc [] [⟨none, .mv (.v 8)⟩,
    ⟨none, .mv (.v 4)⟩,
    ⟨none, .len (.t 1)⟩,
    ⟨none, .bin .lss (.t 0) (.t 2)⟩] [] (.t 3) .skip
  (.exit 4))
  (.seq (.block 5 (.ops [] [⟨none, .fA 5 (.v 7)⟩,
    ⟨none, .ld (.t 0)⟩,
    ⟨none, .mv (.v 4)⟩,
    ⟨none, .mv (.v 8)⟩,
    ⟨none, .idxA 1 (.t 2) (.t 3)⟩,
    ⟨none, .ld (.t 4)⟩,
    ⟨none, .len (.t 5)⟩,
    ⟨none, .bldS (.int .i64 0) 1 [(0, (.t 6))]⟩,
    ⟨none, .app 1 8 (.t 1) (.t 7)⟩,
    ⟨none, .fA 5 (.v 7)⟩,
    ⟨none, .st (.t 9) (.t 8)⟩] []))
  (.ops [] [⟨none, .mv (.v 8)⟩,
    ⟨none, .bin .add (.t 0) (.i 1)⟩,
    ⟨none, .asg 8 (.t 1)⟩] []))))))
  (.seq (.seq (.ops [] [⟨none, .asg 9 (.i 0)⟩] [])
  (.block 6 (.loop (.seq (.opc [] [⟨none, .mv (.v 9)⟩,
    ⟨none, .fA 1 (.v 3)⟩,
    ⟨none, .ld (.t 1)⟩,
    ⟨none, .len (.t 2)⟩,
    ⟨none, .bin .lss (.t 0) (.t 3)⟩] [] (.t 4) .skip
  (.exit 6))
  (.seq (.block 7 (.seq (.ops [] [⟨none, .bldS (.int .i64 0) 0 []⟩,
    ⟨none, .asg 10 (.t 0)⟩] [])
  (.seq (.ops [11] [⟨none, .mv (.v 4)⟩,
    ⟨none, .fA 1 (.v 3)⟩,
    ⟨none, .ld (.t 1)⟩,
    ⟨none, .mv (.v 9)⟩,
    ⟨none, .idxA 1 (.t 2) (.t 3)⟩,
    ⟨none, .ld (.t 4)⟩,
    ⟨none, .idxA 1 (.t 0) (.t 5)⟩,
    ⟨none, .ld (.t 6)⟩,
    ⟨none, .mv (.v 4)⟩,
    ⟨none, .fA 2 (.v 3)⟩,
    ⟨none, .ld (.t 9)⟩,
    ⟨none, .mv (.v 9)⟩,
    ⟨none, .idxA 1 (.t 10) (.t 11)⟩,
    ⟨none, .ld (.t 12)⟩,
    ⟨none, .idxA 1 (.t 8) (.t 13)⟩,
    ⟨none, .ld (.t 14)⟩,
    ⟨none, .mv (.t 7)⟩,
    ⟨none, .asgA 12 (.t 15)⟩] [(11, 16)])
  (.seq (.seq (.ops [] [⟨none, .asg 13 (.i 0)⟩] [])
  (.block 8 (.loop (.seq (.opc [] [⟨none, .mv (.v 13)⟩,
    ⟨none, .mv (.v 11)⟩,
    ⟨none, .len (.t 1)⟩,
    ⟨none, .bin .lss (.t 0) (.t 2)⟩] [] (.t 3) .skip
  (.exit 8))
  (.seq (.block 9 (.ops [] [⟨none, .mv (.v 10)⟩,
    ⟨none, .mv (.v 12)⟩,
    ⟨none, .mv (.v 11)⟩,
    ⟨none, .mv (.v 13)⟩,
    ⟨none, .idxA 1 (.t 2) (.t 3)⟩,
    ⟨none, .ld (.t 4)⟩,
    ⟨none, .idxA 1 (.t 5) (.i 0)⟩,
    ⟨none, .ld (.t 6)⟩,
    ⟨none, .lda 5 (.v 3)⟩,
    ⟨none, .mv (.v 11)⟩,
    ⟨none, .mv (.v 13)⟩,
    ⟨none, .idxA 1 (.t 9) (.t 10)⟩,
    ⟨none, .ld (.t 11)⟩,
    ⟨none, .idxA 1 (.t 12) (.i 1)⟩,
    ⟨none, .ld (.t 13)⟩,
    ⟨none, .mv (.v 9)⟩,
    ⟨none, .call 76 [(.t 8), (.t 14), (.t 15)]⟩,
    ⟨none, .bldS (.int .i64 0) 2 [(0, (.t 7)), (1, (.t 16))]⟩,
    ⟨none, .call 143 [(.t 1), (.t 17)]⟩,
    ⟨none, .bldS (.int .i64 0) 1 [(0, (.t 18))]⟩,
    ⟨none, .app 1 8 (.t 0) (.t 19)⟩,
    ⟨none, .asg 10 (.t 20)⟩] []))
  (.ops [] [⟨none, .mv (.v 13)⟩,
    ⟨none, .bin .add (.t 0) (.i 1)⟩,
    ⟨none, .asg 13 (.t 1)⟩] []))))))
  (.ops [] [⟨none, .fA 6 (.v 7)⟩,
    ⟨none, .ld (.t 0)⟩,
    ⟨none, .mv (.v 10)⟩,
    ⟨none, .bldS (ints []) 1 [(0, (.t 2))]⟩,
    ⟨none, .app 1 24 (.t 1) (.t 3)⟩,
    ⟨none, .fA 6 (.v 7)⟩,
    ⟨none, .st (.t 5) (.t 4)⟩] [])))))
  (.ops [] [⟨none, .mv (.v 9)⟩,
    ⟨none, .bin .add (.t 0) (.i 1)⟩,
    ⟨none, .asg 9 (.t 1)⟩] []))))))
  (.seq (.ops [] [⟨none, .lda 7 (.v 7)⟩,
    ⟨none, .stn 7 (.v 2) (.t 0)⟩] [])
  .ret)))))))
def tr_spec_l19Free : List Nat := [0, 1, 4, 2, 5, 6, 7, 8, 9, 10, 11, 12, 13, 14]
def rs_spec_l19Free : List RS := [.c 2 7 true]
theorem ok_spec_l19Free : fnOk Go.Proofs.Try.prog Go.Proofs.Try.f99 tr_spec_l19Free c_spec_l19Free 2 rs_spec_l19Free = true := by decide +kernel

theorem ret_spec_l19Free (c : Cat) (x : Int) (hc : c.Shape) (hcc : Cat.cost c ≤ 1048576) : Ret Go.Proofs.Try.prog 99 [.v c.d, .v (ints [x])] (repSf c x).d := by
  have h8 := hc.ob8
  have h0 := hc.ob0
  have hfl := hc.fr
  have hto := hc.to
  have hidn := hc.idn
  refine ret_fn Go.Proofs.Try.func99 ok_spec_l19Free rfl (show 2 < 500 by decide) rfl ?_; unfold c_spec_l19Free tr_spec_l19Free rs_spec_l19Free; simp only [go_sem, Nat.reduceLT, Nat.reduceAdd, Nat.reduceSub, ↓reduceIte]
  refine ⟨⟨h0, Int.le_refl _, by omega⟩, ?_⟩
  rw [← freeL_zero (c := c) (x := x)]
  refine loop_set [6] (fun k : Nat => [(5, .int .i64 k), (4, .o (intsss (c.freeL x (if k = 0 then 0 else c.fr.length))))]) (fun k => k ≤ 1) (fun k => 1 - k) 0 (by simp only [go_sem, Nat.reduceLT, ↓reduceIte]; rfl) (Nat.zero_le _) rfl ?_
  intro k hk
  simp only [go_sem, Nat.reduceLT, Nat.reduceAdd, Nat.reduceSub, Nat.reduceLeDiff, ↓reduceIte]
  refine ⟨fun hk1 => ?_, fun hk1 => ?_⟩
  · obtain rfl : k = 0 := by omega
    rw [if_pos rfl]
    refine loop_set [] (fun h : Nat => [(6, .int .i64 h), (4, .o (intsss (c.freeL x h)))]) (fun h => h ≤ c.fr.length) (fun h => c.fr.length - h) 0 (by simp only [go_sem]; rfl) (Nat.zero_le _) rfl ?_
    intro h hh
    have hfll := freeL_len (c := c) (x := x) (h := h)
    simp only [go_sem, Nat.reduceLT, Nat.reduceAdd, Nat.reduceSub, Nat.reduceEqDiff, Nat.reduceBEq, Nat.reduceLeDiff, ↓reduceIte]
    refine ⟨fun h1 => ?_, fun h1 => ?_⟩
    · have hF := hc.fri h1
      have hT := hc.toi h1
      have hto1 : h < c.to.length := by omega
      obtain ⟨t, ht⟩ : ∃ t : Nat, c.to.getD h 0 = t := ⟨(c.to.getD h 0).toNat, by omega⟩
      have htl : t < (c.freeL x h).length := by omega
      have hgl : ((c.freeL x h).getD t []).length ≤ c.fr.length := by
        rw [freeL_get (by omega), List.length_map]
        exact Nat.le_trans Cat.homP_len (by omega)
      have hgd : ((List.map intss (c.freeL x h)).set t D.dead).getD t (intss []) = .dead := by
        rw [getD_lt (by rw [List.length_set, List.length_map]; exact htl), List.getElem_set_self]
      have hcl : (D.dead).cells.length = 1 := rfl
      have hw := wrap_lt h1 (by simp only [maxLen]; omega)
      refine ⟨h1, fun h2 => ?_, fun h2 => ?_⟩
      · have h2 : c.fr.getD h 0 = x := by simpa using h2
        have hnx := freeL_hit h2 ht
        have hst : D.slice (intss []) ((List.map intss (c.freeL x h)).set t (intss ((c.freeL x h).getD t [] ++ [[((0 : Nat) : Int), (h : Int)]]))) = intsss (c.freeL x (h + 1)) := by
          rw [hnx]
          simp only [intsss, lst, List.map_set]
          rfl
        simp only [ht, Int.toNat_natCast, hgd, setc, List.length_set, List.length_map, List.set_set, hst, hcl]
        repeat' (refine And.intro ?_ ?_)
        all_goals first | trivial | omega | exact ⟨h + 1, by omega, by omega, by rw [hw]⟩
      · refine ⟨h + 1, by omega, by omega, ?_⟩
        rw [hw, freeL_miss (by simpa using h2)]
    · refine ⟨1, Nat.le_refl _, by decide, ?_⟩
      rw [if_neg (by decide), show h = c.fr.length by omega]; rfl
  · obtain rfl : k = 1 := by omega
    rw [if_neg (by decide)]
    have hfll := freeL_len (c := c) (x := x) (h := c.fr.length)
    have hgt : ∀ y : Nat, y < c.ob.toNat → (c.freeL x c.fr.length).getD y [] = (c.hom x (y : Int)).map fun f => [0, f] := fun y hy => freeL_get hy
    have hgl : ∀ y : Nat, y < c.ob.toNat → ((c.freeL x c.fr.length).getD y []).length = (c.hom x (y : Int)).length := fun y hy => by rw [hgt y hy, List.length_map]
    refine call_of (ret_spec_l02Own c hcc) rfl (.inl (nv_Cat _)) ?_
    simp only [go_sem, Nat.reduceLT, Nat.reduceAdd, Nat.reduceSub, Nat.reduceEqDiff, Nat.reduceBEq, Nat.reduceLeDiff, ↓reduceIte]
    refine loop_set [] (fun k : Nat => [(8, .int .i64 k), (7, .box [.int .i64 c.ob, .o (ints c.fr), .o (ints c.to), .o (ints c.idn), .o (intss c.co), .o (ints (c.repSz x k)), .o (intss [])])]) (fun k => k ≤ c.ob.toNat) (fun k => c.ob.toNat - k) 0 (by simp only [go_sem]; rfl) (Nat.zero_le _) rfl ?_
    intro k hk2
    simp only [go_sem, Nat.reduceLT, Nat.reduceAdd, Nat.reduceSub, Nat.reduceEqDiff, Nat.reduceBEq, Nat.reduceLeDiff, ↓reduceIte]
    refine ⟨fun h1 => ?_, fun h1 => ?_⟩
    · rw [hgl k (by omega)]
      refine ⟨h1, by rw [repSz_len]; omega, k + 1, by omega, by omega, ?_⟩
      rw [wrap_lt (n := 9) (by omega) (by simp only [maxLen]; omega), repSz_succ]
    · obtain rfl : k = c.ob.toNat := by omega
      refine loop_set [10, 11, 12, 13] (fun a : Nat => [(9, .int .i64 a), (7, .box [.int .i64 c.ob, .o (ints c.fr), .o (ints c.to), .o (ints c.idn), .o (intss c.co), .o (ints (c.repSz x c.ob.toNat)), .o (intss (c.repAcs x a))])]) (fun a => a ≤ c.fr.length) (fun a => c.fr.length - a) 0 (by simp only [go_sem, Nat.reduceLT, ↓reduceIte]; rfl) (Nat.zero_le _) rfl ?_
      intro a ha
      simp only [go_sem, Nat.reduceLT, Nat.reduceAdd, Nat.reduceSub, Nat.reduceEqDiff, Nat.reduceBEq, Nat.reduceLeDiff, ↓reduceIte]
      refine ⟨fun h2 => ?_, fun h2 => by rw [show a = c.fr.length by omega]; rfl⟩
      have hF := hc.fri h2
      have hT := hc.toi h2
      obtain ⟨s, hs⟩ : ∃ s : Nat, c.fr.getD a 0 = s := ⟨(c.fr.getD a 0).toNat, by omega⟩
      obtain ⟨t, ht⟩ : ∃ t : Nat, c.to.getD a 0 = t := ⟨(c.to.getD a 0).toNat, by omega⟩
      have hal : (c.repAct x a).length = (c.hom x (s : Int)).length := by unfold Cat.repAct; rw [List.length_map, hs]
      have hhl : (c.hom x (s : Int)).length ≤ c.fr.length := hom_len
      have htl : (c.hom x (t : Int)).length ≤ c.fr.length := hom_len
      refine ⟨h2, ⟨hF.1, by omega⟩, by omega, ⟨hT.1, by omega⟩, ?_⟩
      rw [hs, ht]
      simp only [Int.toNat_natCast]
      refine loop_set [] (fun i : Nat => [(13, .int .i64 i), (10, .o (ints ((c.repAct x a).take i)))]) (fun i => i ≤ (c.hom x (s : Int)).length) (fun i => (c.hom x (s : Int)).length - i) 0 (by simp only [go_sem]; rfl) (Nat.zero_le _) rfl ?_
      intro i hi
      simp only [go_sem, Nat.reduceLT, Nat.reduceAdd, Nat.reduceSub, Nat.reduceEqDiff, Nat.reduceBEq, Nat.reduceLeDiff, ↓reduceIte]
      rw [hgl s (by omega)]
      refine ⟨fun h3 => ?_, fun h3 => ?_⟩
      · have hrow : ((c.freeL x c.fr.length).getD s []).getD i [] = [0, (c.hom x (s : Int)).getD i 0] := by
          rw [hgt s (by omega), getD_lt (by rw [List.length_map]; exact h3), List.getElem_map, getD_lt h3]
        rw [hrow]
        simp only [List.getD_cons_zero, List.getD_cons_succ, List.length_cons, List.length_nil]
        have hm := Cat.mem_hom.1 (List.getElem_mem h3)
        rw [← getD_lt (d := 0) h3] at hm
        have hr := hc.row ((c.hom x (s : Int)).getD i 0).toNat (by omega)
        have hco := hc.co
        refine ⟨h3, by omega, h3, by omega, ?_⟩
        refine call_of (ret_spec_l02Then c ((c.hom x (s : Int)).getD i 0) a hm.1 (by omega) (by omega) (by omega)) rfl (.inl rfl) ?_
        simp only [go_sem, Nat.reduceLT, Nat.reduceAdd, Nat.reduceSub, ↓reduceIte]
        rw [hgt t (by omega)]
        refine call_of (ret_spec_l05Place ((c.hom x (t : Int)).map fun f => [0, f]) [0, c.cellI ((c.hom x (s : Int)).getD i 0) a] (by rw [List.length_map]; omega) (fun j hj => by rw [List.length_map] at hj; rw [getD_lt (by rw [List.length_map]; exact hj), List.getElem_map]; simp)) rfl (.inl rfl) ?_
        simp only [go_sem, Nat.reduceLT, Nat.reduceAdd, Nat.reduceSub, Nat.reduceBEq, Nat.reduceLeDiff, ↓reduceIte]
        rw [plc_idx]
        refine ⟨by rw [List.length_take]; omega, i + 1, by omega, by omega, ?_⟩
        have hv : (c.repAct x a).getD i 0 = idxI (c.hom x (t : Int)) (c.cellI ((c.hom x (s : Int)).getD i 0) a) := by
          rw [getD_lt h3, getD_lt (by omega)]
          simp only [Cat.repAct, List.getElem_map, hs, ht]
        rw [wrap_lt h3 (by simp only [maxLen]; omega), take_snoc (by omega) 0, hv]
      · refine ⟨by rw [repAcs_len]; omega, a + 1, by omega, by omega, ?_⟩
        rw [wrap_lt h2 (by simp only [maxLen]; omega), List.take_of_length_le (by omega), repAcs_succ]
end Go.D3

/- CONTRACTS: the program's representable set functor. -/
namespace Go.D3
open Go
set_option maxRecDepth 100000
set_option maxHeartbeats 4000000

theorem sj_one (j : Nat) : sj [j] 0 = j := rfl
attribute [go_sem] sj_one
-- (*impl.Category).representable
def c_impl_Category_representable : C :=
  (.seq (.ops [2] [⟨none, .alc [.int .i64 0, .nils (.int .i64 0), .nils (.int .i64 0), .nils (.int .i64 0), .nils (ints []), .nils (.int .i64 0), .nils (ints [])]⟩,
    ⟨none, .asg 3 (.k (.bool false))⟩] [(2, 0)])
  (.seq (.ops [4] [⟨none, .mv (.v 0)⟩,
    ⟨none, .mv (.v 1)⟩,
    ⟨none, .bld [.nilp, .int .i64 0, .int .u32 0, .int .i32 0, .int .u32 0, .nils (ints [])] [(0, 1, (.t 0)), (1, 1, (.t 1))]⟩,
    ⟨none, .boxo 6 (.t 2)⟩,
    ⟨none, .bo (.t 3)⟩] [(4, 4)])
  (.seq (.ops [5] [⟨none, .mv (.v 0)⟩,
    ⟨none, .call 101 [(.t 0)]⟩,
    ⟨none, .bld [.int .i64 0, .nils (.int .i64 0), .nils (.int .i64 0), .nils (.int .i64 0), .nils (ints []), .nils (.int .i64 0), .nils (ints [])] [(0, 5, (.t 1))]⟩,
    ⟨none, .alc [.int .i64 0, .nils (.int .i64 0), .nils (.int .i64 0), .nils (.int .i64 0), .nils (ints []), .nils (.int .i64 0), .nils (ints [])]⟩,
    ⟨none, .stn 7 (.t 3) (.t 2)⟩] [(5, 3)])
  (.seq (.seq (.ops [10, 11] [⟨none, .mv (.v 4)⟩,
    ⟨none, .dyn (.k (.fn 102 [])) [(.t 0)]⟩,
    ⟨none, .len (.t 1)⟩,
    ⟨none, .asg 12 (.i 0)⟩] [(10, 1), (11, 2)])
  (.block 0 (.loop (.opq [] [⟨none, .bin .lss (.v 12) (.v 11)⟩] [] (.t 0) .skip
  (.exit 0)
  (.seq (.block 1 (.seq (.ops [] [⟨none, .idxA 1 (.v 10) (.v 12)⟩,
    ⟨none, .ld (.t 0)⟩,
    ⟨none, .asgA 6 (.t 1)⟩] [])
  (.seq (.opc [] [⟨none, .mv (.v 6)⟩,
    ⟨none, .len (.t 0)⟩,
    ⟨none, .bin .gtr (.t 1) (.i 16)⟩] [] (.t 2) (.seq (.ops [] [⟨none, .bld [.int .i64 0, .nils (.int .i64 0), .nils (.int .i64 0), .nils (.int .i64 0), .nils (ints []), .nils (.int .i64 0), .nils (ints [])] []⟩,
    ⟨none, .stn 7 (.v 2) (.t 0)⟩,
    ⟨none, .asg 3 (.k (.bool false))⟩] [])
  .ret)
  .skip)
  (.ops [] [⟨none, .fA 5 (.v 5)⟩,
    ⟨none, .ld (.t 0)⟩,
    ⟨none, .mv (.v 6)⟩,
    ⟨none, .len (.t 2)⟩,
    ⟨none, .bldS (.int .i64 0) 1 [(0, (.t 3))]⟩,
    ⟨none, .app 1 8 (.t 1) (.t 4)⟩,
    ⟨none, .fA 5 (.v 5)⟩,
    ⟨none, .st (.t 6) (.t 5)⟩] []))))
  (.ops [] [⟨none, .bin .add (.v 12) (.i 1)⟩,
    ⟨none, .asg 12 (.t 0)⟩] []))))))
  (.seq (.seq (.ops [13] [⟨none, .mv (.v 0)⟩,
    ⟨none, .nck (.t 0)⟩,
    ⟨none, .fA 1 (.t 1)⟩,
    ⟨none, .ld (.t 2)⟩,
    ⟨none, .len (.t 3)⟩,
    ⟨none, .asg 14 (.i 0)⟩] [(13, 4)])
  (.block 2 (.loop (.opq [] [⟨none, .bin .lss (.v 14) (.v 13)⟩] [] (.t 0) .skip
  (.exit 2)
  (.seq (.block 3 (.seq (.ops [] [⟨none, .mv (.v 14)⟩,
    ⟨none, .asg 7 (.t 0)⟩] [])
  (.seq (.ops [] [⟨none, .bldS (.int .i64 0) 0 []⟩,
    ⟨none, .asg 8 (.t 0)⟩] [])
  (.seq (.seq (.ops [15, 16, 17] [⟨none, .mv (.v 4)⟩,
    ⟨none, .callk 102 [(.t 0)]⟩,
    ⟨none, .mv (.v 0)⟩,
    ⟨none, .nck (.t 2)⟩,
    ⟨none, .fA 1 (.t 3)⟩,
    ⟨none, .ld (.t 4)⟩,
    ⟨none, .mv (.v 7)⟩,
    ⟨none, .idxA 1 (.t 5) (.t 6)⟩,
    ⟨none, .ld (.t 7)⟩,
    ⟨none, .idxA 1 (.t 1) (.t 8)⟩,
    ⟨none, .ld (.t 9)⟩,
    ⟨none, .len (.t 10)⟩,
    ⟨none, .mv (.i 0)⟩] [(15, 10), (16, 11), (17, 12)])
  (.block 4 (.loop (.opq [] [⟨none, .bin .lss (.v 17) (.v 16)⟩] [] (.t 0) .skip
  (.exit 4)
  (.seq (.block 5 (.seq (.ops [] [⟨none, .idxA 1 (.v 15) (.v 17)⟩,
    ⟨none, .ld (.t 0)⟩,
    ⟨none, .asg 9 (.t 1)⟩] [])
  (.ops [] [⟨none, .mv (.v 8)⟩,
    ⟨none, .mv (.v 4)⟩,
    ⟨none, .callk 102 [(.t 1)]⟩,
    ⟨none, .mv (.v 0)⟩,
    ⟨none, .nck (.t 3)⟩,
    ⟨none, .fA 2 (.t 4)⟩,
    ⟨none, .ld (.t 5)⟩,
    ⟨none, .mv (.v 7)⟩,
    ⟨none, .idxA 1 (.t 6) (.t 7)⟩,
    ⟨none, .ld (.t 8)⟩,
    ⟨none, .idxA 1 (.t 2) (.t 9)⟩,
    ⟨none, .ld (.t 10)⟩,
    ⟨none, .mv (.v 0)⟩,
    ⟨none, .mv (.v 9)⟩,
    ⟨none, .mv (.v 7)⟩,
    ⟨none, .call 104 [(.t 12), (.t 13), (.t 14)]⟩,
    ⟨none, .call 103 [(.t 11), (.t 15)]⟩,
    ⟨none, .bldS (.int .i64 0) 1 [(0, (.t 16))]⟩,
    ⟨none, .app 1 8 (.t 0) (.t 17)⟩,
    ⟨none, .asg 8 (.t 18)⟩] [])))
  (.ops [] [⟨none, .bin .add (.v 17) (.i 1)⟩,
    ⟨none, .asg 17 (.t 0)⟩] []))))))
  (.ops [] [⟨none, .fA 6 (.v 5)⟩,
    ⟨none, .ld (.t 0)⟩,
    ⟨none, .mv (.v 8)⟩,
    ⟨none, .bldS (ints []) 1 [(0, (.t 2))]⟩,
    ⟨none, .app 1 24 (.t 1) (.t 3)⟩,
    ⟨none, .fA 6 (.v 5)⟩,
    ⟨none, .st (.t 5) (.t 4)⟩] [])))))
  (.ops [] [⟨none, .bin .add (.v 14) (.i 1)⟩,
    ⟨none, .asg 14 (.t 0)⟩] []))))))
  (.seq (.ops [] [⟨none, .lda 7 (.v 5)⟩,
    ⟨none, .stn 7 (.v 2) (.t 0)⟩,
    ⟨none, .asg 3 (.k (.bool true))⟩] [])
  .ret))))))
def tr_impl_Category_representable : List Nat := [0, 1, 4, 5, 6, 7, 9, 10, 11, 13, 22, 23, 24, 44, 45, 59, 60, 61]
def rs_impl_Category_representable : List RS := [.c 2 7 true, .t 3]
theorem ok_impl_Category_representable : fnOk Go.Proofs.Try.prog Go.Proofs.Try.f63 tr_impl_Category_representable c_impl_Category_representable 2 rs_impl_Category_representable = true := by decide +kernel

def repBox (c : Cat) (sz : List Int) (act : List (List Int)) : D := .box [.int .i64 c.ob, .o (ints c.fr), .o (ints c.to), .o (ints c.idn), .o (intss c.co), .o (ints sz), .o (intss act)]
theorem ret_impl_Category_representable (c : Cat) (x : Int) (hc : c.Shape) (hcc : Cat.cost c ≤ 1048576) (h0 : 0 < c.ob) :
    Ret Go.Proofs.Try.prog 63 [.v (.ptr c.cells), .v (.int .i64 x)] (if c.smallAt x = true then .tup [(repSf c x).d, .bool true] else .tup [Sf.zero.d, .bool false]) := by
  have h8 := hc.ob8
  have hfl := hc.fr
  obtain ⟨a0, L0, hL⟩ : ∃ a L, c.homs x c.ob.toNat = a :: L := by
    have := homs_len c x c.ob.toNat
    cases h : c.homs x c.ob.toNat with
    | nil => rw [h] at this; simp only [List.length_nil] at this; omega
    | cons a L => exact ⟨a, L, rfl⟩
  refine ret_fn Go.Proofs.Try.func63 ok_impl_Category_representable rfl (show 2 < 500 by decide) rfl ?_; unfold c_impl_Category_representable tr_impl_Category_representable rs_impl_Category_representable; simp only [go_sem, Nat.reduceLT, Nat.reduceAdd, Nat.reduceSub, Nat.reduceLeDiff, ↓reduceIte]
  refine call_of (ret_impl_Category_copy c hcc) rfl (.inl (nv_Cat _)) ?_
  simp only [go_sem, Nat.reduceLT, Nat.reduceAdd, Nat.reduceSub, Nat.reduceEqDiff, Nat.reduceBEq, Nat.reduceLeDiff, ↓reduceIte]
  refine g_call [4] false (ret_list c x hc h0) (by exact ⟨by decide, rfl⟩) (by repeat (first | exact trivial | refine ⟨rfl, ?_⟩)) (by repeat (first | exact trivial | refine ⟨.inl rfl, ?_⟩ | refine ⟨.inr ⟨rfl, rfl⟩, ?_⟩)) (by repeat (first | exact trivial | refine ⟨(fun h => by cases h), ?_⟩)) (fun h => by cases h) ?_
  simp only [outB, atD, hL]
  simp only [go_sem, Nat.reduceLT, Nat.reduceAdd, Nat.reduceSub, Nat.reduceBEq, Nat.reduceLeDiff, ↓reduceIte]
  refine loop_set [6] (fun k : Nat => [(12, .int .i64 k), (5, repBox c (c.repSz x k) [])]) (fun k => k ≤ c.ob.toNat ∧ ∀ i, i < k → (c.hom x (i : Nat)).length ≤ 16) (fun k => c.ob.toNat - k) 0 (by simp only [go_sem, Nat.reduceLT, Nat.reduceBEq, ↓reduceIte]; rfl) ⟨Nat.zero_le _, fun i hi => by omega⟩ rfl ?_
  rintro k ⟨hk, hs⟩
  have hLl : L0.length + 1 = c.ob.toNat := by have := homs_len c x c.ob.toNat; rw [hL] at this; simpa using this
  have hget : ∀ k, k < c.ob.toNat → (a0 :: L0).getD k [] = c.hom x (k : Nat) := fun k hk => by rw [← hL]; exact homs_get hk
  have hK := ret_listK c x h0
  simp only [hL, outB, atD] at hK
  simp only [repBox]
  simp only [go_sem, Nat.reduceLT, Nat.reduceAdd, Nat.reduceSub, Nat.reduceEqDiff, Nat.reduceBEq, Nat.reduceLeDiff, ↓reduceIte]
  refine ⟨fun h => ⟨h, fun h2 => ?_, fun h2 => ⟨by rw [repSz_len]; omega, k + 1, ⟨by omega, fun i hi => ?_⟩, by omega, ?_⟩⟩, fun h => ?_⟩
  · rw [hget k (by omega)] at h2
    rw [if_neg (fun hs => by have := smallAt_iff.1 hs k (by omega); omega)]; rfl
  · rw [hget k (by omega)] at h2
    by_cases hik : i = k
    · subst hik; omega
    · exact hs i (by omega)
  · rw [hget k (by omega), wrap_lt (n := 9) (by omega) (by simp only [maxLen]; omega), repSz_succ]
  obtain rfl : k = c.ob.toNat := by omega
  rw [if_pos (smallAt_iff.2 hs)]
  refine loop_set [6, 7, 8, 9, 15, 16, 17] (fun a : Nat => [(14, .int .i64 a), (5, repBox c (c.repSz x c.ob.toNat) (c.repAcs x a))]) (fun a => a ≤ c.fr.length) (fun a => c.fr.length - a) 0 (by simp only [go_sem, Nat.reduceLT, Nat.reduceBEq, ↓reduceIte]; rfl) (Nat.zero_le _) rfl ?_
  intro a ha
  have hkr : refsL (inB [4].length) [.adr 0 [(0, 0)]] ∧ refsL (inB [4].length) [D.box [D.ptr c.cells, D.int IntKind.i64 x, D.int IntKind.u32 1, D.int IntKind.i32 0, D.int IntKind.u32 0, (intss (a0 :: L0)).o]] ∧ (D.sub 0 [(0, 5)]).refs (inB [4].length) :=
    ⟨⟨Nat.zero_lt_one, trivial⟩, ⟨⟨trivial, trivial, trivial, trivial, trivial, trivial, trivial⟩, trivial⟩, Nat.zero_lt_one⟩
  simp only [repBox]
  simp only [go_sem, Nat.reduceLT, Nat.reduceAdd, Nat.reduceSub, Nat.reduceEqDiff, Nat.reduceBEq, Nat.reduceLeDiff, ↓reduceIte]
  refine ⟨fun h2 => ?_, fun h2 => ?_⟩
  · refine k_call [4] hK (by decide) ⟨⟨by decide, rfl⟩, trivial⟩ ⟨rfl, trivial⟩ hkr rfl ?_
    simp only [go_sem, Nat.reduceLT, Nat.reduceAdd, Nat.reduceSub, Nat.reduceBEq, Nat.reduceLeDiff, ↓reduceIte]
    have hF := hc.fri h2
    have hT := hc.toi h2
    have hidn := hc.idn
    have hgF : (a0 :: L0).getD (c.fr.getD a 0).toNat [] = c.hom x (c.fr.getD a 0) := by rw [hget _ (by omega), Int.toNat_of_nonneg hF.1]
    have hgT : (a0 :: L0).getD (c.to.getD a 0).toNat [] = c.hom x (c.to.getD a 0) := by rw [hget _ (by omega), Int.toNat_of_nonneg hT.1]
    have hal : (c.repAct x a).length = (c.hom x (c.fr.getD a 0)).length := by unfold Cat.repAct; rw [List.length_map]
    have hhl : (c.hom x (c.fr.getD a 0)).length ≤ c.fr.length := hom_len
    refine ⟨h2, ⟨hF.1, by omega⟩, ?_⟩
    rw [hgF]
    refine loop_set [9] (fun i : Nat => [(17, .int .i64 i), (8, .o (ints ((c.repAct x a).take i)))]) (fun i => i ≤ (c.hom x (c.fr.getD a 0)).length) (fun i => (c.hom x (c.fr.getD a 0)).length - i) 0 (by simp only [go_sem, Nat.reduceLT, Nat.reduceBEq, ↓reduceIte]; rfl) (Nat.zero_le _) rfl ?_
    intro i hi
    simp only [go_sem, Nat.reduceLT, Nat.reduceAdd, Nat.reduceSub, Nat.reduceEqDiff, Nat.reduceBEq, Nat.reduceLeDiff, ↓reduceIte]
    rw [hgF]
    refine ⟨fun h3 => ⟨h3, ?_⟩, fun h3 => ?_⟩
    · refine k_call [4] hK (by decide) ⟨⟨by decide, rfl⟩, trivial⟩ ⟨rfl, trivial⟩ hkr rfl ?_
      simp only [go_sem, Nat.reduceLT, Nat.reduceAdd, Nat.reduceSub, ↓reduceIte]
      have hm := Cat.mem_hom.1 (List.getElem_mem h3)
      rw [← getD_lt (d := 0) h3] at hm
      have hrow := hc.row ((c.hom x (c.fr.getD a 0)).getD i 0).toNat (by omega)
      have hco := hc.co
      have htl := hc.to
      refine ⟨by omega, ⟨hT.1, by omega⟩, ?_⟩
      refine call_of (ret_impl_Category_then c ((c.hom x (c.fr.getD a 0)).getD i 0) a hm.1 (by omega) (by omega) (by omega)) rfl (.inl rfl) ?_
      simp only [go_sem, Nat.reduceLT, Nat.reduceAdd, Nat.reduceSub, ↓reduceIte]
      rw [hgT]
      refine call_of (ret_impl_index_int64 (c.hom x (c.to.getD a 0)) _ (idxI (c.hom x (c.to.getD a 0)) (c.cellI ((c.hom x (c.fr.getD a 0)).getD i 0) a)) (idx_ok _ _) (by have := hom_len (c := c) (x := x) (y := c.to.getD a 0); omega)) rfl (.inl rfl) ?_
      simp only [go_sem, Nat.reduceLT, Nat.reduceAdd, Nat.reduceSub, Nat.reduceBEq, Nat.reduceLeDiff, ↓reduceIte]
      refine ⟨by rw [List.length_take]; omega, i + 1, by omega, by omega, ?_⟩
      have hv : (c.repAct x a).getD i 0 = idxI (c.hom x (c.to.getD a 0)) (c.cellI ((c.hom x (c.fr.getD a 0)).getD i 0) a) := by
        rw [getD_lt h3, getD_lt (by omega)]
        simp [Cat.repAct]
      rw [wrap_lt h3 (by simp only [maxLen]; omega), take_snoc (by omega) 0, hv]
    · refine ⟨by rw [repAcs_len]; omega, a + 1, by omega, by omega, ?_⟩
      rw [wrap_lt h2 (by simp only [maxLen]; omega), List.take_of_length_le (by omega), repAcs_succ]
  · obtain rfl : a = c.fr.length := by omega
    rfl
end Go.D3
