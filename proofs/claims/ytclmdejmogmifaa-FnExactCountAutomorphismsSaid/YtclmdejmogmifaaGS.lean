/- THE ROWS' TYPE OF CATEGORIES. -/
import Derived.Test.YtclmdejmogmifaaGK
import Derived.Test.YtclmdejmogmifaaGL
import Derived.Test.YtclmdejmogmifaaGA
import Derived.Test.YtclmdejmogmifaaClaim
/- CONTRACTS: the reference's automorphisms. -/
namespace Go.D3
open Go
set_option maxRecDepth 100000
set_option maxHeartbeats 4000000

-- spec.AllIsomorphisms
def c_spec_AllIsomorphisms : C :=
  (.seq (.ops [4, 5] [⟨none, .boxv 5 (.v 0)⟩,
    ⟨none, .boxv 5 (.v 1)⟩,
    ⟨none, .asg 2 (.k (.nils (.agg [.int .i64 0, ints [], ints [], ints [], intss [], .int .i64 0, ints [], ints [], ints [], intss [], ints [], ints []])))⟩,
    ⟨none, .asg 3 (.i 0)⟩] [(4, 0), (5, 1)])
  (.seq (.ops [] [⟨none, .lda 5 (.v 4)⟩,
    ⟨none, .lda 5 (.v 5)⟩,
    ⟨none, .call 136 [(.t 0), (.t 1)]⟩,
    ⟨none, .asg 6 (.t 2)⟩] [])
  (.seq (.opc [] [⟨none, .mv (.v 6)⟩,
    ⟨none, .bin .neq (.t 0) (.i 0)⟩] [] (.t 1) (.seq (.ops [] [⟨none, .mv (.v 6)⟩,
    ⟨none, .asg 2 (.k (.nils (.agg [.int .i64 0, ints [], ints [], ints [], intss [], .int .i64 0, ints [], ints [], ints [], intss [], ints [], ints []])))⟩,
    ⟨none, .asg 3 (.t 0)⟩] [])
  .ret)
  .skip)
  (.seq (.ops [] [⟨none, .lda 5 (.v 4)⟩,
    ⟨none, .lda 5 (.v 5)⟩,
    ⟨none, .call 137 [(.t 0), (.t 1), (.i 201)]⟩,
    ⟨none, .asg 7 (.t 2)⟩] [])
  (.seq (.opc [] [⟨none, .mv (.v 7)⟩,
    ⟨none, .len (.t 0)⟩,
    ⟨none, .bin .gtr (.t 1) (.i 200)⟩] [] (.t 2) (.seq (.ops [] [⟨none, .asg 2 (.k (.nils (.agg [.int .i64 0, ints [], ints [], ints [], intss [], .int .i64 0, ints [], ints [], ints [], intss [], ints [], ints []])))⟩,
    ⟨none, .asg 3 (.i 3)⟩] [])
  .ret)
  .skip)
  (.seq (.ops [] [⟨none, .mv (.v 7)⟩,
    ⟨none, .asg 2 (.t 0)⟩,
    ⟨none, .asg 3 (.i 0)⟩] [])
  .ret))))))
def tr_spec_AllIsomorphisms : List Nat := [0, 1, 4, 5, 2, 3, 6, 7]
def rs_spec_AllIsomorphisms : List RS := [.t 2, .t 3]
theorem ok_spec_AllIsomorphisms : fnOk Go.Proofs.Try.prog Go.Proofs.Try.f93 tr_spec_AllIsomorphisms c_spec_AllIsomorphisms 2 rs_spec_AllIsomorphisms = true := by decide +kernel

theorem ret_spec_AllIsomorphisms (c : Cat) (hcc : Cat.cost c ≤ 1048576) (L : List (List Int × List Int)) (hL : c.Shape → EnO c c [] L) :
    Ret Go.Proofs.Try.prog 93 [.v c.d, .v c.d] (allD (autL c L)) := by
  refine ret_fn Go.Proofs.Try.func93 ok_spec_AllIsomorphisms rfl (show 2 < 500 by decide) rfl ?_; unfold c_spec_AllIsomorphisms tr_spec_AllIsomorphisms rs_spec_AllIsomorphisms; simp only [go_sem, Nat.reduceLT, Nat.reduceAdd, Nat.reduceSub, Nat.reduceLeDiff, ↓reduceIte]
  refine call_of (ret_spec_l10Code c c) rfl (.inl rfl) ?_
  simp only [go_sem, Nat.reduceLT, Nat.reduceAdd, Nat.reduceSub, Nat.reduceLeDiff, ↓reduceIte]
  by_cases hb : c.isB = true
  · have hb' : ¬ c.isB = false := by rw [hb]; simp
    rw [if_neg hb']
    by_cases h16 : (c.fr.length : Int) ≤ 16
    · rw [if_neg (fun h => h h16)]
      have hc := isB_shape hb
      refine ⟨fun h => by simp at h, fun _ => ?_⟩
      refine call_of (ret_spec_l10All c hc hb hcc (by omega) L (hL hc)) rfl (.inl (nv_lst nv_Ftr _)) ?_
      simp only [go_sem, Nat.reduceLT, Nat.reduceAdd, Nat.reduceSub, Nat.reduceBEq, ↓reduceIte]
      refine ⟨fun h => ?_, fun h => ?_⟩
      · rw [List.length_take] at h
        unfold autL; rw [if_neg hb', if_neg (fun h => h h16), if_neg (by omega)]
      · rw [List.length_take] at h
        unfold autL; rw [if_neg hb', if_neg (fun h => h h16), if_pos (by omega), List.take_of_length_le (by omega)]
    · rw [if_pos h16]
      refine ⟨fun _ => ?_, fun h => by simp at h⟩
      unfold autL; rw [if_neg hb', if_pos h16]
  · have hb : c.isB = false := by simpa using hb
    rw [if_pos hb]
    refine ⟨fun _ => ?_, fun h => by simp at h⟩
    unfold autL; rw [if_pos hb]
-- spec.CountAutomorphisms
def c_spec_CountAutomorphisms : C :=
  (.seq (.ops [3] [⟨none, .boxv 5 (.v 0)⟩,
    ⟨none, .asg 1 (.i 0)⟩,
    ⟨none, .asg 2 (.i 0)⟩] [(3, 0)])
  (.seq (.ops [] [⟨none, .lda 5 (.v 3)⟩,
    ⟨none, .lda 5 (.v 3)⟩,
    ⟨none, .call 93 [(.t 0), (.t 1)]⟩,
    ⟨none, .mv (.t 2)⟩,
    ⟨none, .ext 0 (.t 3)⟩,
    ⟨none, .ext 1 (.t 3)⟩,
    ⟨none, .asg 4 (.t 4)⟩,
    ⟨none, .asg 5 (.t 5)⟩] [])
  (.seq (.opc [] [⟨none, .mv (.v 5)⟩,
    ⟨none, .bin .neq (.t 0) (.i 0)⟩] [] (.t 1) (.seq (.ops [] [⟨none, .mv (.v 5)⟩,
    ⟨none, .asg 1 (.i 0)⟩,
    ⟨none, .asg 2 (.t 0)⟩] [])
  .ret)
  .skip)
  (.seq (.ops [] [⟨none, .mv (.v 4)⟩,
    ⟨none, .len (.t 0)⟩,
    ⟨none, .asg 1 (.t 1)⟩,
    ⟨none, .asg 2 (.i 0)⟩] [])
  .ret))))
def tr_spec_CountAutomorphisms : List Nat := [0, 2, 3, 1, 4, 5]
def rs_spec_CountAutomorphisms : List RS := [.t 1, .t 2]
theorem ok_spec_CountAutomorphisms : fnOk Go.Proofs.Try.prog Go.Proofs.Try.f47 tr_spec_CountAutomorphisms c_spec_CountAutomorphisms 1 rs_spec_CountAutomorphisms = true := by decide +kernel

theorem ret_spec_CountAutomorphisms (c : Cat) (hcc : Cat.cost c ≤ 1048576) (L : List (List Int × List Int)) (hL : c.Shape → EnO c c [] L) :
    Ret Go.Proofs.Try.prog 47 [.v c.d] (.tup [.int .i64 (autL c L).1.length, .int .i64 (autL c L).2]) := by
  refine ret_fn Go.Proofs.Try.func47 ok_spec_CountAutomorphisms rfl (show 1 < 500 by decide) rfl ?_; unfold c_spec_CountAutomorphisms tr_spec_CountAutomorphisms rs_spec_CountAutomorphisms; simp only [go_sem, Nat.reduceLT, Nat.reduceAdd, Nat.reduceSub, Nat.reduceLeDiff, ↓reduceIte]
  refine call_of (ret_spec_AllIsomorphisms c hcc L hL) rfl (.inl (by simp only [D.novw, novwL, nv_lst nv_Ftr, Bool.and_true])) ?_
  simp only [go_sem, Nat.reduceLT, Nat.reduceAdd, Nat.reduceSub, Nat.reduceBEq, Nat.reduceLeDiff, ↓reduceIte]
  have h0 : (autL c L).2 ≠ 0 → (autL c L).1.length = 0 := by
    unfold autL
    split
    · exact fun _ => rfl
    · split
      · exact fun _ => rfl
      · split
        · exact fun h => absurd rfl h
        · exact fun _ => rfl
  refine ⟨fun h => ?_, fun h => ?_⟩
  · rw [h0 (by simpa using h)]; rfl
  · rw [show (autL c L).2 = 0 by simpa using h]
end Go.D3

/- CONTRACTS: the law FnExactCountAutomorphisms. -/
namespace Go.D3
open Go
set_option maxRecDepth 100000
set_option maxHeartbeats 4000000
-- laws.FnExactCountAutomorphisms
def c_laws_FnExactCountAutomorphisms : C :=
  (.seq (.ops [2] [⟨none, .boxv 5 (.v 0)⟩,
    ⟨none, .asg 1 (.k (.bool false))⟩] [(2, 0)])
  (.seq (.ops [] [⟨none, .asg 3 (.i 1048576)⟩] [])
  (.seq (.ops [] [⟨none, .lda 5 (.v 2)⟩,
    ⟨none, .mv (.v 3)⟩,
    ⟨none, .call 16 [(.t 0), (.t 1)]⟩,
    ⟨none, .asg 3 (.t 2)⟩] [])
  (.seq (.opc [] [⟨none, .mv (.v 3)⟩,
    ⟨none, .bin .lss (.t 0) (.i 0)⟩] [] (.t 1) (.seq (.ops [] [⟨none, .asg 1 (.k (.bool true))⟩] [])
  .ret)
  .skip)
  (.seq (.ops [] [⟨none, .lda 5 (.v 2)⟩,
    ⟨none, .call 18 [(.t 0)]⟩,
    ⟨none, .call 47 [(.t 1)]⟩,
    ⟨none, .mv (.t 2)⟩,
    ⟨none, .ext 0 (.t 3)⟩,
    ⟨none, .ext 1 (.t 3)⟩,
    ⟨none, .asg 4 (.t 4)⟩,
    ⟨none, .asg 5 (.t 5)⟩] [])
  (.seq (.ops [6] [⟨none, .lda 5 (.v 2)⟩,
    ⟨none, .call 18 [(.t 0)]⟩,
    ⟨none, .alc [.int .i64 0, .nils (.int .i64 0), .nils (.int .i64 0), .nils (.int .i64 0), .nils (ints [])]⟩,
    ⟨none, .stn 5 (.t 2) (.t 1)⟩] [(6, 2)])
  (.seq (.ops [] [⟨none, .lda 5 (.v 6)⟩,
    ⟨none, .call 48 [(.t 0)]⟩,
    ⟨none, .mv (.t 1)⟩,
    ⟨none, .ext 0 (.t 2)⟩,
    ⟨none, .ext 1 (.t 2)⟩,
    ⟨none, .asg 7 (.t 3)⟩,
    ⟨none, .asg 8 (.t 4)⟩] [])
  (.seq (.opc [] [⟨none, .mv (.v 7)⟩,
    ⟨none, .mv (.v 4)⟩,
    ⟨none, .bin .neq (.t 0) (.t 1)⟩,
    ⟨none, .mv (.t 2)⟩,
    ⟨some (3, false), .mv (.v 8)⟩,
    ⟨some (3, false), .mv (.v 5)⟩,
    ⟨some (3, false), .bin .neq (.t 4) (.t 5)⟩,
    ⟨none, .pick (.t 3) (.k (.bool true)) (.t 6)⟩] [] (.t 7) (.seq (.ops [] [⟨none, .asg 1 (.k (.bool false))⟩] [])
  .ret)
  .skip)
  (.seq (.opc [] [⟨none, .lda 5 (.v 6)⟩,
    ⟨none, .lda 5 (.v 2)⟩,
    ⟨none, .call 18 [(.t 1)]⟩,
    ⟨none, .call 20 [(.t 0), (.t 2)]⟩,
    ⟨none, .not (.t 3)⟩] [] (.t 4) (.seq (.ops [] [⟨none, .asg 1 (.k (.bool false))⟩] [])
  .ret)
  .skip)
  (.seq (.ops [] [⟨none, .asg 1 (.k (.bool true))⟩] [])
  .ret))))))))))
def tr_laws_FnExactCountAutomorphisms : List Nat := [0, 2, 1, 3, 4, 5, 6, 7, 8]
def rs_laws_FnExactCountAutomorphisms : List RS := [.t 1]
theorem ok_laws_FnExactCountAutomorphisms : fnOk Go.Proofs.Try.prog Go.Proofs.Try.f10 tr_laws_FnExactCountAutomorphisms c_laws_FnExactCountAutomorphisms 1 rs_laws_FnExactCountAutomorphisms = true := by decide +kernel

theorem ret_laws_FnExactCountAutomorphisms (c : Cat) : Ret Go.Proofs.Try.prog 10 [.v (Cat.d c)] (.bool true) := by
  obtain ⟨L, hL⟩ : ∃ L, c.Shape → EnO c c [] L := by
    by_cases hc : c.Shape
    · obtain ⟨L, hL⟩ := EnO.exists hc hc c.ob.toNat (pre := []) (by have := hc.ob0; simp only [List.length_nil]; omega) (fun i hi => absurd hi (Nat.not_lt_zero _))
      exact ⟨L, fun _ => hL⟩
    · exact ⟨[], fun h => absurd h hc⟩
  refine ret_fn Go.Proofs.Try.func10 ok_laws_FnExactCountAutomorphisms rfl (show 1 < 500 by decide) rfl ?_; unfold c_laws_FnExactCountAutomorphisms tr_laws_FnExactCountAutomorphisms rs_laws_FnExactCountAutomorphisms; simp only [go_sem, Nat.reduceLT, Nat.reduceAdd, Nat.reduceSub, Nat.reduceLeDiff, ↓reduceIte]
  refine call_of (ret_laws_szCategory c _ (by decide) (by decide)) rfl (.inl rfl) ?_
  simp only [go_sem, Nat.reduceLT, Nat.reduceAdd, Nat.reduceSub, Nat.reduceLeDiff, ↓reduceIte]
  refine fun h0 => ?_
  obtain ⟨hs_c, hl0, hh0⟩ := sb_ok (left := 1048576) (n := Cat.cost c) (by decide) (by decide) (by omega)
  refine call_of (ret_laws_toCategory c hs_c) rfl (.inl (nv_Cat _)) ?_
  simp only [go_sem, Nat.reduceLT, Nat.reduceAdd, Nat.reduceSub, ↓reduceIte]
  refine call_of (ret_spec_CountAutomorphisms c hs_c L hL) rfl (.inl rfl) ?_
  simp only [go_sem, Nat.reduceLT, Nat.reduceAdd, Nat.reduceSub, Nat.reduceLeDiff, ↓reduceIte]
  refine call_of (ret_laws_toCategory c hs_c) rfl (.inl (nv_Cat _)) ?_
  simp only [go_sem, Nat.reduceLT, Nat.reduceAdd, Nat.reduceSub, Nat.reduceEqDiff, ↓reduceIte]
  refine call_of (ret_impl_CountAutomorphisms c hs_c L hL) rfl (.inl rfl) ?_
  simp only [go_sem, Nat.reduceLT, Nat.reduceAdd, Nat.reduceSub, Nat.reduceBEq, Nat.reduceLeDiff, ↓reduceIte]
  refine ⟨fun _ => by simp, fun h => by simp at h, fun _ => ?_⟩
  refine call_of (ret_laws_toCategory c hs_c) rfl (.inl (nv_Cat _)) ?_
  simp only [go_sem, Nat.reduceLT, Nat.reduceAdd, Nat.reduceSub, ↓reduceIte]
  refine call_of (ret_laws_eqCategory c) rfl (.inl rfl) ?_
  simp only [go_sem, Nat.reduceLT, Nat.reduceAdd, Nat.reduceSub, Nat.reduceLeDiff, ↓reduceIte]
end Go.D3

/- THE ROWS' TYPE OF CATEGORIES. -/
namespace Go.D3
open Go
def catTy : Ty := .cons (.int .i64) (.cons (.sl (.int .i64)) (.cons (.sl (.int .i64)) (.cons (.sl (.int .i64)) (.cons (.sl (.sl (.int .i64))) .nil))))
def toCat : catTy.V → Cat := fun x => ⟨x.1, x.2.1, x.2.2.1, x.2.2.2.1, x.2.2.2.2.1⟩
theorem cat_d (x : catTy.V) : catTy.d x = (toCat x).d := rfl
end Go.D3
