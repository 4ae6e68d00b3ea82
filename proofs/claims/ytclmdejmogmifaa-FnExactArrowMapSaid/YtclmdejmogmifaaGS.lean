/- THE ROWS' TYPE OF CATEGORIES. -/
import Derived.Test.YtclmdejmogmifaaGI
import Derived.Test.YtclmdejmogmifaaGR
import Derived.Test.YtclmdejmogmifaaGA
import Derived.Test.YtclmdejmogmifaaClaim
/- CONTRACTS: the law FnExactRepresentable. -/
namespace Go.D3
open Go
set_option maxRecDepth 100000
set_option maxHeartbeats 4000000
theorem cost2_sum {a : List (List Int)} : cost2 a a.length ≤ costL List.length a := by
  have : ∀ i, i ≤ a.length → cost2 a i = ((a.take i).map List.length).sum := by
    intro i
    induction i with
    | zero => intro _; simp [cost2]
    | succ i ih => intro h; rw [cost2, ih (by omega), sum_take (cost := List.length) (by omega) []]
  rw [this _ (Nat.le_refl _), List.take_length]; unfold costL; omega
theorem cat_mcost_le (c : Cat) : c.mcost ≤ c.cost := by
  have h1 := cost2_sum (a := c.co)
  unfold Cat.mcost Cat.cost; omega
theorem repSf_mcost (c : Cat) (x : Int) (hc : c.Shape) (h : c.cost ≤ 1048576) : (repSf c x).mcost ≤ 8000000 := by
  have h1 := cat_mcost_le c
  have h2 := cost2_sum (a := (repSf c x).act)
  have h3 := repSf_cost hc x
  show c.mcost + (repSf c x).sz.length + cost2 (repSf c x).act (repSf c x).act.length ≤ _
  omega
theorem repF_cost (c : Cat) (x : Int) (h : c.cost ≤ 1048576) : (repF c x).1.mcost ≤ 8000000 := by
  by_cases h0 : (repF c x).2 = 0
  · obtain ⟨h1, h2⟩ := repF_code h0
    rw [h2]
    exact repSf_mcost c x (Cat.isB_shape h1) h
  · rw [repF_bad h0]; decide
-- laws.FnExactRepresentable
def c_laws_FnExactRepresentable : C :=
  (.seq (.ops [3] [⟨none, .boxv 5 (.v 0)⟩,
    ⟨none, .asg 2 (.k (.bool false))⟩] [(3, 0)])
  (.seq (.ops [] [⟨none, .asg 4 (.i 1048576)⟩] [])
  (.seq (.ops [] [⟨none, .lda 5 (.v 3)⟩,
    ⟨none, .mv (.v 4)⟩,
    ⟨none, .call 16 [(.t 0), (.t 1)]⟩,
    ⟨none, .asg 4 (.t 2)⟩] [])
  (.seq (.opc [] [⟨none, .mv (.v 4)⟩,
    ⟨none, .bin .lss (.t 0) (.i 0)⟩] [] (.t 1) (.seq (.ops [] [⟨none, .asg 2 (.k (.bool true))⟩] [])
  .ret)
  .skip)
  (.seq (.ops [5] [⟨none, .lda 5 (.v 3)⟩,
    ⟨none, .call 18 [(.t 0)]⟩,
    ⟨none, .mv (.v 1)⟩,
    ⟨none, .call 21 [(.t 1), (.t 2)]⟩,
    ⟨none, .mv (.t 3)⟩,
    ⟨none, .ext 0 (.t 4)⟩,
    ⟨none, .ext 1 (.t 4)⟩,
    ⟨none, .alc [.int .i64 0, .nils (.int .i64 0), .nils (.int .i64 0), .nils (.int .i64 0), .nils (ints []), .nils (.int .i64 0), .nils (ints [])]⟩,
    ⟨none, .stn 7 (.t 7) (.t 5)⟩,
    ⟨none, .asg 6 (.t 6)⟩] [(5, 7)])
  (.seq (.ops [7] [⟨none, .lda 5 (.v 3)⟩,
    ⟨none, .call 18 [(.t 0)]⟩,
    ⟨none, .alc [.int .i64 0, .nils (.int .i64 0), .nils (.int .i64 0), .nils (.int .i64 0), .nils (ints [])]⟩,
    ⟨none, .stn 5 (.t 2) (.t 1)⟩] [(7, 2)])
  (.seq (.ops [8] [⟨none, .lda 5 (.v 7)⟩,
    ⟨none, .mv (.v 1)⟩,
    ⟨none, .call 22 [(.t 0), (.t 1)]⟩,
    ⟨none, .mv (.t 2)⟩,
    ⟨none, .ext 0 (.t 3)⟩,
    ⟨none, .ext 1 (.t 3)⟩,
    ⟨none, .alc [.int .i64 0, .nils (.int .i64 0), .nils (.int .i64 0), .nils (.int .i64 0), .nils (ints []), .nils (.int .i64 0), .nils (ints [])]⟩,
    ⟨none, .stn 7 (.t 6) (.t 4)⟩,
    ⟨none, .asg 9 (.t 5)⟩] [(8, 6)])
  (.seq (.opc [] [⟨none, .lda 7 (.v 8)⟩,
    ⟨none, .lda 7 (.v 5)⟩,
    ⟨none, .call 23 [(.t 0), (.t 1)]⟩,
    ⟨none, .not (.t 2)⟩,
    ⟨none, .mv (.t 3)⟩,
    ⟨some (4, false), .mv (.v 9)⟩,
    ⟨some (4, false), .mv (.v 6)⟩,
    ⟨some (4, false), .bin .neq (.t 5) (.t 6)⟩,
    ⟨none, .pick (.t 4) (.k (.bool true)) (.t 7)⟩] [] (.t 8) (.seq (.ops [] [⟨none, .asg 2 (.k (.bool false))⟩] [])
  .ret)
  .skip)
  (.seq (.opc [] [⟨none, .lda 5 (.v 7)⟩,
    ⟨none, .lda 5 (.v 3)⟩,
    ⟨none, .call 18 [(.t 1)]⟩,
    ⟨none, .call 20 [(.t 0), (.t 2)]⟩,
    ⟨none, .not (.t 3)⟩] [] (.t 4) (.seq (.ops [] [⟨none, .asg 2 (.k (.bool false))⟩] [])
  .ret)
  .skip)
  (.seq (.ops [] [⟨none, .asg 10 (.i 1)⟩] [])
  (.seq (.ops [] [⟨none, .lda 5 (.v 7)⟩,
    ⟨none, .mv (.v 10)⟩,
    ⟨none, .calle 24 [(.t 0), (.t 1)]⟩,
    ⟨none, .asg 10 (.t 2)⟩] [])
  (.seq (.opc [] [⟨none, .mv (.v 10)⟩,
    ⟨none, .bin .lss (.t 0) (.i 0)⟩,
    ⟨none, .mv (.t 1)⟩,
    ⟨some (2, false), .lda 7 (.v 8)⟩,
    ⟨some (2, false), .lda 7 (.v 5)⟩,
    ⟨some (2, false), .call 23 [(.t 3), (.t 4)]⟩,
    ⟨some (2, false), .not (.t 5)⟩,
    ⟨none, .pick (.t 2) (.k (.bool true)) (.t 6)⟩,
    ⟨none, .mv (.t 7)⟩,
    ⟨some (8, false), .mv (.v 9)⟩,
    ⟨some (8, false), .mv (.v 6)⟩,
    ⟨some (8, false), .bin .neq (.t 9) (.t 10)⟩,
    ⟨none, .pick (.t 8) (.k (.bool true)) (.t 11)⟩] [] (.t 12) (.seq (.ops [] [⟨none, .asg 2 (.k (.bool false))⟩] [])
  .ret)
  .skip)
  (.seq (.ops [] [⟨none, .asg 11 (.i 1)⟩] [])
  (.seq (.ops [] [⟨none, .lda 7 (.v 8)⟩,
    ⟨none, .mv (.v 11)⟩,
    ⟨none, .calle 25 [(.t 0), (.t 1)]⟩,
    ⟨none, .asg 11 (.t 2)⟩] [])
  (.seq (.ops [] [⟨none, .asg 12 (.i 1)⟩] [])
  (.seq (.ops [] [⟨none, .lda 7 (.v 8)⟩,
    ⟨none, .mv (.v 12)⟩,
    ⟨none, .call 26 [(.t 0), (.t 1)]⟩,
    ⟨none, .asg 12 (.t 2)⟩] [])
  (.seq (.opc [] [⟨none, .mv (.v 12)⟩,
    ⟨none, .bin .lss (.t 0) (.i 0)⟩] [] (.t 1) (.seq (.ops [] [⟨none, .asg 2 (.k (.bool false))⟩] [])
  .ret)
  .skip)
  (.seq (.opc [] [⟨none, .mv (.v 12)⟩,
    ⟨none, .mv (.v 11)⟩,
    ⟨none, .bin .neq (.t 0) (.t 1)⟩] [] (.t 2) (.seq (.ops [] [⟨none, .asg 2 (.k (.bool false))⟩] [])
  .ret)
  .skip)
  (.seq (.ops [13] [⟨none, .lda 5 (.v 3)⟩,
    ⟨none, .call 18 [(.t 0)]⟩,
    ⟨none, .mv (.v 1)⟩,
    ⟨none, .call 22 [(.t 1), (.t 2)]⟩,
    ⟨none, .mv (.t 3)⟩,
    ⟨none, .ext 0 (.t 4)⟩,
    ⟨none, .ext 1 (.t 4)⟩,
    ⟨none, .alc [.int .i64 0, .nils (.int .i64 0), .nils (.int .i64 0), .nils (.int .i64 0), .nils (ints []), .nils (.int .i64 0), .nils (ints [])]⟩,
    ⟨none, .stn 7 (.t 7) (.t 5)⟩,
    ⟨none, .asg 14 (.t 6)⟩] [(13, 7)])
  (.seq (.opc [] [⟨none, .lda 7 (.v 13)⟩,
    ⟨none, .lda 7 (.v 5)⟩,
    ⟨none, .call 23 [(.t 0), (.t 1)]⟩,
    ⟨none, .not (.t 2)⟩,
    ⟨none, .mv (.t 3)⟩,
    ⟨some (4, false), .mv (.v 14)⟩,
    ⟨some (4, false), .mv (.v 6)⟩,
    ⟨some (4, false), .bin .neq (.t 5) (.t 6)⟩,
    ⟨none, .pick (.t 4) (.k (.bool true)) (.t 7)⟩] [] (.t 8) (.seq (.ops [] [⟨none, .asg 2 (.k (.bool false))⟩] [])
  .ret)
  .skip)
  (.seq (.ops [] [⟨none, .asg 12 (.i 1)⟩] [])
  (.seq (.ops [] [⟨none, .lda 7 (.v 8)⟩,
    ⟨none, .mv (.v 12)⟩,
    ⟨none, .call 26 [(.t 0), (.t 1)]⟩,
    ⟨none, .asg 12 (.t 2)⟩] [])
  (.seq (.opc [] [⟨none, .mv (.v 12)⟩,
    ⟨none, .bin .lss (.t 0) (.i 0)⟩] [] (.t 1) (.seq (.ops [] [⟨none, .asg 2 (.k (.bool false))⟩] [])
  .ret)
  .skip)
  (.seq (.opc [] [⟨none, .mv (.v 12)⟩,
    ⟨none, .mv (.v 11)⟩,
    ⟨none, .bin .neq (.t 0) (.t 1)⟩] [] (.t 2) (.seq (.ops [] [⟨none, .asg 2 (.k (.bool false))⟩] [])
  .ret)
  .skip)
  (.seq (.ops [] [⟨none, .asg 2 (.k (.bool true))⟩] [])
  .ret)))))))))))))))))))))))))
def tr_laws_FnExactRepresentable : List Nat := [0, 1, 4, 2, 5, 6, 7, 8, 9, 10, 11, 12, 13, 14, 15]
def rs_laws_FnExactRepresentable : List RS := [.t 2]
theorem ok_laws_FnExactRepresentable : fnOk Go.Proofs.Try.prog Go.Proofs.Try.f5 tr_laws_FnExactRepresentable c_laws_FnExactRepresentable 2 rs_laws_FnExactRepresentable = true := by decide +kernel

theorem ret_laws_FnExactRepresentable (c : Cat) (x : Int) : Ret Go.Proofs.Try.prog 5 [.v (Cat.d c), .v (.int .i64 x)] (.bool true) := by
  refine ret_fn Go.Proofs.Try.func5 ok_laws_FnExactRepresentable rfl (show 2 < 500 by decide) rfl ?_; unfold c_laws_FnExactRepresentable tr_laws_FnExactRepresentable rs_laws_FnExactRepresentable; simp only [go_sem, Nat.reduceLT, Nat.reduceAdd, Nat.reduceSub, Nat.reduceLeDiff, ↓reduceIte]
  refine call_of (ret_laws_szCategory c _ (by decide) (by decide)) rfl (.inl rfl) ?_
  simp only [go_sem, Nat.reduceLT, Nat.reduceAdd, Nat.reduceSub, Nat.reduceLeDiff, ↓reduceIte]
  refine fun h0 => ?_
  obtain ⟨hs_c, hl0, hh0⟩ := sb_ok (left := 1048576) (n := Cat.cost c) (by decide) (by decide) (by omega)
  have hA1 := cat_mcost_le c
  have hR := repF_cost c x hs_c
  have hsp := ret_spec_Representable c x hs_c
  have him := ret_impl_Representable c x hs_c
  generalize repF c x = R at hR hsp him
  refine call_of (ret_laws_toCategory c hs_c) rfl (.inl (nv_Cat _)) ?_
  simp only [go_sem, Nat.reduceLT, Nat.reduceAdd, Nat.reduceSub, ↓reduceIte]
  refine call_of (hsp) rfl (.inl (by simp only [D.novw, novwL, nv_Sf, Bool.and_true])) ?_
  simp only [go_sem, Nat.reduceLT, Nat.reduceAdd, Nat.reduceSub, Nat.reduceEqDiff, Nat.reduceBEq, Nat.reduceLeDiff, ↓reduceIte]
  refine call_of (ret_laws_toCategory c hs_c) rfl (.inl (nv_Cat _)) ?_
  simp only [go_sem, Nat.reduceLT, Nat.reduceAdd, Nat.reduceSub, Nat.reduceEqDiff, ↓reduceIte]
  refine call_of (him) rfl (.inl (by simp only [D.novw, novwL, nv_Sf, Bool.and_true])) ?_
  simp only [go_sem, Nat.reduceLT, Nat.reduceAdd, Nat.reduceSub, Nat.reduceEqDiff, Nat.reduceBEq, Nat.reduceLeDiff, ↓reduceIte]
  refine call_of (ret_laws_eqSetFunctor R.1) rfl (.inl rfl) ?_
  simp only [go_sem, Nat.reduceLT, Nat.reduceAdd, Nat.reduceSub, Nat.reduceLeDiff, ↓reduceIte]
  refine ⟨fun hh => by simp at hh, fun _ => ?_⟩
  refine call_of (ret_laws_toCategory c hs_c) rfl (.inl (nv_Cat _)) ?_
  simp only [go_sem, Nat.reduceLT, Nat.reduceAdd, Nat.reduceSub, ↓reduceIte]
  refine call_of (ret_laws_eqCategory c) rfl (.inl rfl) ?_
  simp only [go_sem, Nat.reduceLT, Nat.reduceAdd, Nat.reduceSub, Nat.reduceLeDiff, ↓reduceIte]
  refine io_aggH (ret_laws_markCategory c 1 (by omega) (by omega)) trivial ?_
  simp only [go_sem, Nat.reduceLT, Nat.reduceEqDiff, Nat.reduceBEq, ↓reduceIte]
  refine ⟨(c.marks 1).cells, rfl, fill_of ?_⟩
  simp only [go_sem, Nat.reduceLT, Nat.reduceAdd, Nat.reduceSub, Nat.reduceBEq, ↓reduceIte]
  have hk : ∀ z : Int, 0 ≤ z → decide (z < 0) = false := fun z hz => decide_eq_false (by omega)
  simp only [hk _ (show 0 ≤ (1 : Int) + c.mcost by omega), Bool.not_false]
  refine callg_of (fun _ => ret_laws_eqSetFunctor R.1) rfl (fun _ => rfl) (.inl rfl) ?_
  simp only [go_sem, Nat.reduceLT, Nat.reduceAdd, Nat.reduceSub, ↓reduceIte]
  refine ⟨fun hh => by simp at hh, fun _ => ?_⟩
  refine io_aggH (ret_laws_markSetFunctor R.1 1 (by omega) (by omega)) trivial ?_
  simp only [go_sem, Nat.reduceLT, Nat.reduceEqDiff, Nat.reduceBEq, ↓reduceIte]
  refine ⟨(R.1.marks 1).cells, rfl, fill_of ?_⟩
  simp only [go_sem, Nat.reduceLT, Nat.reduceAdd, Nat.reduceSub, Nat.reduceBEq, ↓reduceIte]
  refine call_of (ret_laws_heldSetFunctor R.1 1 (by omega) (by omega)) rfl (.inl rfl) ?_
  simp only [go_sem, Nat.reduceLT, Nat.reduceAdd, Nat.reduceSub, Nat.reduceBEq, Nat.reduceLeDiff, ↓reduceIte]
  refine ⟨fun hh => by omega, fun _ => ?_⟩
  refine ⟨fun hh => by simp at hh, fun _ => ?_⟩
  refine call_of (ret_laws_toCategory c hs_c) rfl (.inl (nv_Cat _)) ?_
  simp only [go_sem, Nat.reduceLT, Nat.reduceAdd, Nat.reduceSub, ↓reduceIte]
  refine call_of (him) rfl (.inl (by simp only [D.novw, novwL, nv_Sf, Bool.and_true])) ?_
  simp only [go_sem, Nat.reduceLT, Nat.reduceAdd, Nat.reduceSub, Nat.reduceEqDiff, Nat.reduceBEq, ↓reduceIte]
  refine call_of (ret_laws_eqSetFunctor R.1) rfl (.inl rfl) ?_
  simp only [go_sem, Nat.reduceLT, Nat.reduceAdd, Nat.reduceSub, ↓reduceIte]
  refine ⟨fun hh => by simp at hh, fun _ => ?_⟩
  refine call_of (ret_laws_heldSetFunctor R.1 1 (by omega) (by omega)) rfl (.inl rfl) ?_
  simp only [go_sem, Nat.reduceLT, Nat.reduceAdd, Nat.reduceSub, Nat.reduceBEq, ↓reduceIte]
  refine ⟨fun hh => by omega, fun _ => ?_⟩
  simp
end Go.D3

/- CONTRACTS: the law FnExactArrowMap. -/
namespace Go.D3
open Go
set_option maxRecDepth 100000
set_option maxHeartbeats 4000000
theorem mapF_cost (c : Cat) (h : Int) (hcc : c.cost ≤ 1048576) : (mapF c h).1.mcost ≤ 40000000 := by
  unfold mapF
  split
  · exact (by decide : Sm.zero.mcost ≤ 40000000)
  · rename_i h0
    have h0 : codeA c h = 0 := by simpa using h0
    have hc := Cat.isB_shape (codeA_one h0).1
    split
    · exact (by decide : Sm.zero.mcost ≤ 40000000)
    · have h1 := repSf_mcost c (c.to.getD h.toNat 0) hc hcc
      have h2 := repSf_mcost c (c.fr.getD h.toNat 0) hc hcc
      have h3 := cost2_sum (a := c.arParts h.toNat c.ob.toNat)
      have h4 := arParts_cost hc h.toNat
      show (repSf c (c.to.getD h.toNat 0)).mcost + (repSf c (c.fr.getD h.toNat 0)).mcost + cost2 (c.arParts h.toNat c.ob.toNat) (c.arParts h.toNat c.ob.toNat).length ≤ _
      omega
-- laws.FnExactArrowMap
def c_laws_FnExactArrowMap : C :=
  (.seq (.ops [3] [⟨none, .boxv 5 (.v 0)⟩,
    ⟨none, .asg 2 (.k (.bool false))⟩] [(3, 0)])
  (.seq (.ops [] [⟨none, .asg 4 (.i 1048576)⟩] [])
  (.seq (.ops [] [⟨none, .lda 5 (.v 3)⟩,
    ⟨none, .mv (.v 4)⟩,
    ⟨none, .call 16 [(.t 0), (.t 1)]⟩,
    ⟨none, .asg 4 (.t 2)⟩] [])
  (.seq (.opc [] [⟨none, .mv (.v 4)⟩,
    ⟨none, .bin .lss (.t 0) (.i 0)⟩] [] (.t 1) (.seq (.ops [] [⟨none, .asg 2 (.k (.bool true))⟩] [])
  .ret)
  .skip)
  (.seq (.ops [5] [⟨none, .lda 5 (.v 3)⟩,
    ⟨none, .call 18 [(.t 0)]⟩,
    ⟨none, .mv (.v 1)⟩,
    ⟨none, .call 30 [(.t 1), (.t 2)]⟩,
    ⟨none, .mv (.t 3)⟩,
    ⟨none, .ext 0 (.t 4)⟩,
    ⟨none, .ext 1 (.t 4)⟩,
    ⟨none, .alc [.int .i64 0, .nils (.int .i64 0), .nils (.int .i64 0), .nils (.int .i64 0), .nils (ints []), .nils (.int .i64 0), .nils (ints []), .int .i64 0, .nils (.int .i64 0), .nils (.int .i64 0), .nils (.int .i64 0), .nils (ints []), .nils (.int .i64 0), .nils (ints []), .nils (ints [])]⟩,
    ⟨none, .stn 15 (.t 7) (.t 5)⟩,
    ⟨none, .asg 6 (.t 6)⟩] [(5, 7)])
  (.seq (.ops [7] [⟨none, .lda 5 (.v 3)⟩,
    ⟨none, .call 18 [(.t 0)]⟩,
    ⟨none, .alc [.int .i64 0, .nils (.int .i64 0), .nils (.int .i64 0), .nils (.int .i64 0), .nils (ints [])]⟩,
    ⟨none, .stn 5 (.t 2) (.t 1)⟩] [(7, 2)])
  (.seq (.ops [8] [⟨none, .lda 5 (.v 7)⟩,
    ⟨none, .mv (.v 1)⟩,
    ⟨none, .call 31 [(.t 0), (.t 1)]⟩,
    ⟨none, .mv (.t 2)⟩,
    ⟨none, .ext 0 (.t 3)⟩,
    ⟨none, .ext 1 (.t 3)⟩,
    ⟨none, .alc [.int .i64 0, .nils (.int .i64 0), .nils (.int .i64 0), .nils (.int .i64 0), .nils (ints []), .nils (.int .i64 0), .nils (ints []), .int .i64 0, .nils (.int .i64 0), .nils (.int .i64 0), .nils (.int .i64 0), .nils (ints []), .nils (.int .i64 0), .nils (ints []), .nils (ints [])]⟩,
    ⟨none, .stn 15 (.t 6) (.t 4)⟩,
    ⟨none, .asg 9 (.t 5)⟩] [(8, 6)])
  (.seq (.opc [] [⟨none, .lda 15 (.v 8)⟩,
    ⟨none, .lda 15 (.v 5)⟩,
    ⟨none, .call 32 [(.t 0), (.t 1)]⟩,
    ⟨none, .not (.t 2)⟩,
    ⟨none, .mv (.t 3)⟩,
    ⟨some (4, false), .mv (.v 9)⟩,
    ⟨some (4, false), .mv (.v 6)⟩,
    ⟨some (4, false), .bin .neq (.t 5) (.t 6)⟩,
    ⟨none, .pick (.t 4) (.k (.bool true)) (.t 7)⟩] [] (.t 8) (.seq (.ops [] [⟨none, .asg 2 (.k (.bool false))⟩] [])
  .ret)
  .skip)
  (.seq (.opc [] [⟨none, .lda 5 (.v 7)⟩,
    ⟨none, .lda 5 (.v 3)⟩,
    ⟨none, .call 18 [(.t 1)]⟩,
    ⟨none, .call 20 [(.t 0), (.t 2)]⟩,
    ⟨none, .not (.t 3)⟩] [] (.t 4) (.seq (.ops [] [⟨none, .asg 2 (.k (.bool false))⟩] [])
  .ret)
  .skip)
  (.seq (.ops [] [⟨none, .asg 10 (.i 1)⟩] [])
  (.seq (.ops [] [⟨none, .lda 5 (.v 7)⟩,
    ⟨none, .mv (.v 10)⟩,
    ⟨none, .calle 24 [(.t 0), (.t 1)]⟩,
    ⟨none, .asg 10 (.t 2)⟩] [])
  (.seq (.opc [] [⟨none, .mv (.v 10)⟩,
    ⟨none, .bin .lss (.t 0) (.i 0)⟩,
    ⟨none, .mv (.t 1)⟩,
    ⟨some (2, false), .lda 15 (.v 8)⟩,
    ⟨some (2, false), .lda 15 (.v 5)⟩,
    ⟨some (2, false), .call 32 [(.t 3), (.t 4)]⟩,
    ⟨some (2, false), .not (.t 5)⟩,
    ⟨none, .pick (.t 2) (.k (.bool true)) (.t 6)⟩,
    ⟨none, .mv (.t 7)⟩,
    ⟨some (8, false), .mv (.v 9)⟩,
    ⟨some (8, false), .mv (.v 6)⟩,
    ⟨some (8, false), .bin .neq (.t 9) (.t 10)⟩,
    ⟨none, .pick (.t 8) (.k (.bool true)) (.t 11)⟩] [] (.t 12) (.seq (.ops [] [⟨none, .asg 2 (.k (.bool false))⟩] [])
  .ret)
  .skip)
  (.seq (.ops [] [⟨none, .asg 11 (.i 1)⟩] [])
  (.seq (.ops [] [⟨none, .lda 15 (.v 8)⟩,
    ⟨none, .mv (.v 11)⟩,
    ⟨none, .calle 33 [(.t 0), (.t 1)]⟩,
    ⟨none, .asg 11 (.t 2)⟩] [])
  (.seq (.ops [] [⟨none, .asg 12 (.i 1)⟩] [])
  (.seq (.ops [] [⟨none, .lda 15 (.v 8)⟩,
    ⟨none, .mv (.v 12)⟩,
    ⟨none, .call 34 [(.t 0), (.t 1)]⟩,
    ⟨none, .asg 12 (.t 2)⟩] [])
  (.seq (.opc [] [⟨none, .mv (.v 12)⟩,
    ⟨none, .bin .lss (.t 0) (.i 0)⟩] [] (.t 1) (.seq (.ops [] [⟨none, .asg 2 (.k (.bool false))⟩] [])
  .ret)
  .skip)
  (.seq (.opc [] [⟨none, .mv (.v 12)⟩,
    ⟨none, .mv (.v 11)⟩,
    ⟨none, .bin .neq (.t 0) (.t 1)⟩] [] (.t 2) (.seq (.ops [] [⟨none, .asg 2 (.k (.bool false))⟩] [])
  .ret)
  .skip)
  (.seq (.ops [13] [⟨none, .lda 5 (.v 3)⟩,
    ⟨none, .call 18 [(.t 0)]⟩,
    ⟨none, .mv (.v 1)⟩,
    ⟨none, .call 31 [(.t 1), (.t 2)]⟩,
    ⟨none, .mv (.t 3)⟩,
    ⟨none, .ext 0 (.t 4)⟩,
    ⟨none, .ext 1 (.t 4)⟩,
    ⟨none, .alc [.int .i64 0, .nils (.int .i64 0), .nils (.int .i64 0), .nils (.int .i64 0), .nils (ints []), .nils (.int .i64 0), .nils (ints []), .int .i64 0, .nils (.int .i64 0), .nils (.int .i64 0), .nils (.int .i64 0), .nils (ints []), .nils (.int .i64 0), .nils (ints []), .nils (ints [])]⟩,
    ⟨none, .stn 15 (.t 7) (.t 5)⟩,
    ⟨none, .asg 14 (.t 6)⟩] [(13, 7)])
  (.seq (.opc [] [⟨none, .lda 15 (.v 13)⟩,
    ⟨none, .lda 15 (.v 5)⟩,
    ⟨none, .call 32 [(.t 0), (.t 1)]⟩,
    ⟨none, .not (.t 2)⟩,
    ⟨none, .mv (.t 3)⟩,
    ⟨some (4, false), .mv (.v 14)⟩,
    ⟨some (4, false), .mv (.v 6)⟩,
    ⟨some (4, false), .bin .neq (.t 5) (.t 6)⟩,
    ⟨none, .pick (.t 4) (.k (.bool true)) (.t 7)⟩] [] (.t 8) (.seq (.ops [] [⟨none, .asg 2 (.k (.bool false))⟩] [])
  .ret)
  .skip)
  (.seq (.ops [] [⟨none, .asg 12 (.i 1)⟩] [])
  (.seq (.ops [] [⟨none, .lda 15 (.v 8)⟩,
    ⟨none, .mv (.v 12)⟩,
    ⟨none, .call 34 [(.t 0), (.t 1)]⟩,
    ⟨none, .asg 12 (.t 2)⟩] [])
  (.seq (.opc [] [⟨none, .mv (.v 12)⟩,
    ⟨none, .bin .lss (.t 0) (.i 0)⟩] [] (.t 1) (.seq (.ops [] [⟨none, .asg 2 (.k (.bool false))⟩] [])
  .ret)
  .skip)
  (.seq (.opc [] [⟨none, .mv (.v 12)⟩,
    ⟨none, .mv (.v 11)⟩,
    ⟨none, .bin .neq (.t 0) (.t 1)⟩] [] (.t 2) (.seq (.ops [] [⟨none, .asg 2 (.k (.bool false))⟩] [])
  .ret)
  .skip)
  (.seq (.ops [] [⟨none, .asg 2 (.k (.bool true))⟩] [])
  .ret)))))))))))))))))))))))))
def tr_laws_FnExactArrowMap : List Nat := [0, 1, 4, 2, 5, 6, 7, 8, 9, 10, 11, 12, 13, 14, 15]
def rs_laws_FnExactArrowMap : List RS := [.t 2]
theorem ok_laws_FnExactArrowMap : fnOk Go.Proofs.Try.prog Go.Proofs.Try.f7 tr_laws_FnExactArrowMap c_laws_FnExactArrowMap 2 rs_laws_FnExactArrowMap = true := by decide +kernel

theorem ret_laws_FnExactArrowMap (c : Cat) (h : Int) : Ret Go.Proofs.Try.prog 7 [.v (Cat.d c), .v (.int .i64 h)] (.bool true) := by
  refine ret_fn Go.Proofs.Try.func7 ok_laws_FnExactArrowMap rfl (show 2 < 500 by decide) rfl ?_; unfold c_laws_FnExactArrowMap tr_laws_FnExactArrowMap rs_laws_FnExactArrowMap; simp only [go_sem, Nat.reduceLT, Nat.reduceAdd, Nat.reduceSub, Nat.reduceLeDiff, ↓reduceIte]
  refine call_of (ret_laws_szCategory c _ (by decide) (by decide)) rfl (.inl rfl) ?_
  simp only [go_sem, Nat.reduceLT, Nat.reduceAdd, Nat.reduceSub, Nat.reduceLeDiff, ↓reduceIte]
  refine fun h0 => ?_
  obtain ⟨hs_c, hl0, hh0⟩ := sb_ok (left := 1048576) (n := Cat.cost c) (by decide) (by decide) (by omega)
  have hA1 := cat_mcost_le c
  have hR := mapF_cost c h hs_c
  have hsp := ret_spec_ArrowMap c h hs_c
  have him := ret_impl_ArrowMap c h hs_c
  generalize mapF c h = R at hR hsp him
  refine call_of (ret_laws_toCategory c hs_c) rfl (.inl (nv_Cat _)) ?_
  simp only [go_sem, Nat.reduceLT, Nat.reduceAdd, Nat.reduceSub, ↓reduceIte]
  refine call_of (hsp) rfl (.inl (by simp only [D.novw, novwL, nv_Sm, Bool.and_true])) ?_
  simp only [go_sem, Nat.reduceLT, Nat.reduceAdd, Nat.reduceSub, Nat.reduceEqDiff, Nat.reduceBEq, Nat.reduceLeDiff, ↓reduceIte]
  refine call_of (ret_laws_toCategory c hs_c) rfl (.inl (nv_Cat _)) ?_
  simp only [go_sem, Nat.reduceLT, Nat.reduceAdd, Nat.reduceSub, Nat.reduceEqDiff, ↓reduceIte]
  refine call_of (him) rfl (.inl (by simp only [D.novw, novwL, nv_Sm, Bool.and_true])) ?_
  simp only [go_sem, Nat.reduceLT, Nat.reduceAdd, Nat.reduceSub, Nat.reduceEqDiff, Nat.reduceBEq, Nat.reduceLeDiff, ↓reduceIte]
  refine call_of (ret_laws_eqSetMap R.1) rfl (.inl rfl) ?_
  simp only [go_sem, Nat.reduceLT, Nat.reduceAdd, Nat.reduceSub, Nat.reduceLeDiff, ↓reduceIte]
  refine ⟨fun hh => by simp at hh, fun _ => ?_⟩
  refine call_of (ret_laws_toCategory c hs_c) rfl (.inl (nv_Cat _)) ?_
  simp only [go_sem, Nat.reduceLT, Nat.reduceAdd, Nat.reduceSub, ↓reduceIte]
  refine call_of (ret_laws_eqCategory c) rfl (.inl rfl) ?_
  simp only [go_sem, Nat.reduceLT, Nat.reduceAdd, Nat.reduceSub, Nat.reduceLeDiff, ↓reduceIte]
  refine io_aggH (ret_laws_markCategory c 1 (by omega) (by omega)) trivial ?_
  simp only [go_sem, Nat.reduceLT, Nat.reduceEqDiff, Nat.reduceBEq, ↓reduceIte]
  refine ⟨(c.marks 1).cells, rfl, fill_of ?_⟩
  simp only [go_sem, Nat.reduceLT, Nat.reduceAdd, Nat.reduceSub, Nat.reduceBEq, ↓reduceIte]
  have hk : ∀ z : Int, 0 ≤ z → decide (z < 0) = false := fun z hz => decide_eq_false (by omega)
  simp only [hk _ (show 0 ≤ (1 : Int) + c.mcost by omega), Bool.not_false]
  refine callg_of (fun _ => ret_laws_eqSetMap R.1) rfl (fun _ => rfl) (.inl rfl) ?_
  simp only [go_sem, Nat.reduceLT, Nat.reduceAdd, Nat.reduceSub, ↓reduceIte]
  refine ⟨fun hh => by simp at hh, fun _ => ?_⟩
  refine io_aggH (ret_laws_markSetMap R.1 1 (by omega) (by omega)) trivial ?_
  simp only [go_sem, Nat.reduceLT, Nat.reduceEqDiff, Nat.reduceBEq, ↓reduceIte]
  refine ⟨(R.1.marks 1).cells, rfl, fill_of ?_⟩
  simp only [go_sem, Nat.reduceLT, Nat.reduceAdd, Nat.reduceSub, Nat.reduceBEq, ↓reduceIte]
  refine call_of (ret_laws_heldSetMap R.1 1 (by omega) (by omega)) rfl (.inl rfl) ?_
  simp only [go_sem, Nat.reduceLT, Nat.reduceAdd, Nat.reduceSub, Nat.reduceBEq, Nat.reduceLeDiff, ↓reduceIte]
  refine ⟨fun hh => by omega, fun _ => ?_⟩
  refine ⟨fun hh => by simp at hh, fun _ => ?_⟩
  refine call_of (ret_laws_toCategory c hs_c) rfl (.inl (nv_Cat _)) ?_
  simp only [go_sem, Nat.reduceLT, Nat.reduceAdd, Nat.reduceSub, ↓reduceIte]
  refine call_of (him) rfl (.inl (by simp only [D.novw, novwL, nv_Sm, Bool.and_true])) ?_
  simp only [go_sem, Nat.reduceLT, Nat.reduceAdd, Nat.reduceSub, Nat.reduceEqDiff, Nat.reduceBEq, ↓reduceIte]
  refine call_of (ret_laws_eqSetMap R.1) rfl (.inl rfl) ?_
  simp only [go_sem, Nat.reduceLT, Nat.reduceAdd, Nat.reduceSub, ↓reduceIte]
  refine ⟨fun hh => by simp at hh, fun _ => ?_⟩
  refine call_of (ret_laws_heldSetMap R.1 1 (by omega) (by omega)) rfl (.inl rfl) ?_
  simp only [go_sem, Nat.reduceLT, Nat.reduceAdd, Nat.reduceSub, Nat.reduceBEq, ↓reduceIte]
  refine ⟨fun hh => by omega, fun _ => ?_⟩
  simp
end Go.D3

/- THE ROWS' TYPE OF CATEGORIES. -/
namespace Go.D3
open Go
def catTy : Ty := .cons (.int .i64) (.cons (.sl (.int .i64)) (.cons (.sl (.int .i64)) (.cons (.sl (.int .i64)) (.cons (.sl (.sl (.int .i64))) .nil))))
def toCat : catTy.V → Cat := fun x => ⟨x.1, x.2.1, x.2.2.1, x.2.2.2.1, x.2.2.2.2.1⟩
theorem cat_d (x : catTy.V) : catTy.d x = (toCat x).d := rfl
end Go.D3
