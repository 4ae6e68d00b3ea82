/- CONTRACTS: the reference's AllFunctors and CountFunctors. -/
import Derived.Test.YtclmdejmogmifaaGD
import Derived.Test.YtclmdejmogmifaaGB
import Derived.Test.YtclmdejmogmifaaGA
/- CONTRACTS: the reference's images that follow from others; how large its categories may be. -/
namespace Go.D3
open Go
set_option maxRecDepth 100000

theorem set_same {q : List Int} {i : Nat} {x : Int} (_ : i < q.length) (h : q.getD i 0 = x) : q.set i x = q := by
  refine List.ext_getElem List.length_set fun j a b => ?_
  rw [List.getElem_set]
  split
  · rename_i hh; subst hh; rw [getD_lt b] at h; exact h.symm
  · rfl

-- spec.l06Force
def c_spec_l06Force : C :=
  (.seq (.ops [4, 5] [⟨none, .boxv 5 (.v 0)⟩,
    ⟨none, .boxv 5 (.v 1)⟩,
    ⟨none, .asg 3 (.k (.bool false))⟩] [(4, 0), (5, 1)])
  (.seq (.seq (.ops [] [⟨none, .asg 6 (.k (.bool true))⟩] [])
  (.block 0 (.loop (.seq (.opc [] [⟨none, .mv (.v 6)⟩] [] (.t 0) .skip
  (.exit 0))
  (.block 1 (.seq (.ops [] [⟨none, .asg 6 (.k (.bool false))⟩] [])
  (.seq (.ops [] [⟨none, .asg 7 (.i 0)⟩] [])
  (.block 2 (.loop (.seq (.opc [] [⟨none, .mv (.v 7)⟩,
    ⟨none, .mv (.v 2)⟩,
    ⟨none, .len (.t 1)⟩,
    ⟨none, .bin .lss (.t 0) (.t 2)⟩] [] (.t 3) .skip
  (.exit 2))
  (.seq (.block 3 (.seq (.ops [] [⟨none, .asg 8 (.i 0)⟩] [])
  (.block 4 (.loop (.seq (.opc [] [⟨none, .mv (.v 8)⟩,
    ⟨none, .mv (.v 2)⟩,
    ⟨none, .len (.t 1)⟩,
    ⟨none, .bin .lss (.t 0) (.t 2)⟩] [] (.t 3) .skip
  (.exit 4))
  (.seq (.block 5 (.seq (.ops [] [⟨none, .fA 4 (.v 4)⟩,
    ⟨none, .ld (.t 0)⟩,
    ⟨none, .mv (.v 7)⟩,
    ⟨none, .idxA 1 (.t 1) (.t 2)⟩,
    ⟨none, .ld (.t 3)⟩,
    ⟨none, .mv (.v 8)⟩,
    ⟨none, .idxA 1 (.t 4) (.t 5)⟩,
    ⟨none, .ld (.t 6)⟩,
    ⟨none, .asg 9 (.t 7)⟩] [])
  (.seq (.opc [] [⟨none, .mv (.v 9)⟩,
    ⟨none, .bin .lss (.t 0) (.i 0)⟩,
    ⟨none, .mv (.t 1)⟩,
    ⟨some (2, false), .mv (.v 2)⟩,
    ⟨some (2, false), .mv (.v 7)⟩,
    ⟨some (2, false), .idxA 1 (.t 3) (.t 4)⟩,
    ⟨some (2, false), .ld (.t 5)⟩,
    ⟨some (2, false), .bin .lss (.t 6) (.i 0)⟩,
    ⟨none, .pick (.t 2) (.k (.bool true)) (.t 7)⟩,
    ⟨none, .mv (.t 8)⟩,
    ⟨some (9, false), .mv (.v 2)⟩,
    ⟨some (9, false), .mv (.v 8)⟩,
    ⟨some (9, false), .idxA 1 (.t 10) (.t 11)⟩,
    ⟨some (9, false), .ld (.t 12)⟩,
    ⟨some (9, false), .bin .lss (.t 13) (.i 0)⟩,
    ⟨none, .pick (.t 9) (.k (.bool true)) (.t 14)⟩] [] (.t 15) (.exit 5)
  .skip)
  (.seq (.ops [] [⟨none, .fA 4 (.v 5)⟩,
    ⟨none, .ld (.t 0)⟩,
    ⟨none, .mv (.v 2)⟩,
    ⟨none, .mv (.v 7)⟩,
    ⟨none, .idxA 1 (.t 2) (.t 3)⟩,
    ⟨none, .ld (.t 4)⟩,
    ⟨none, .idxA 1 (.t 1) (.t 5)⟩,
    ⟨none, .ld (.t 6)⟩,
    ⟨none, .mv (.v 2)⟩,
    ⟨none, .mv (.v 8)⟩,
    ⟨none, .idxA 1 (.t 8) (.t 9)⟩,
    ⟨none, .ld (.t 10)⟩,
    ⟨none, .idxA 1 (.t 7) (.t 11)⟩,
    ⟨none, .ld (.t 12)⟩,
    ⟨none, .asg 10 (.t 13)⟩] [])
  (.seq (.opc [] [⟨none, .mv (.v 2)⟩,
    ⟨none, .mv (.v 9)⟩,
    ⟨none, .idxA 1 (.t 0) (.t 1)⟩,
    ⟨none, .ld (.t 2)⟩,
    ⟨none, .bin .geq (.t 3) (.i 0)⟩,
    ⟨none, .mv (.t 4)⟩,
    ⟨some (5, true), .mv (.v 2)⟩,
    ⟨some (5, true), .mv (.v 9)⟩,
    ⟨some (5, true), .idxA 1 (.t 6) (.t 7)⟩,
    ⟨some (5, true), .ld (.t 8)⟩,
    ⟨some (5, true), .mv (.v 10)⟩,
    ⟨some (5, true), .bin .neq (.t 9) (.t 10)⟩,
    ⟨none, .pick (.t 5) (.t 11) (.k (.bool false))⟩] [] (.t 12) (.seq (.ops [] [⟨none, .asg 3 (.k (.bool false))⟩] [])
  .ret)
  .skip)
  (.seq (.ops [] [⟨none, .mv (.v 6)⟩,
    ⟨none, .mv (.t 0)⟩,
    ⟨some (1, false), .mv (.v 2)⟩,
    ⟨some (1, false), .mv (.v 9)⟩,
    ⟨some (1, false), .idxA 1 (.t 2) (.t 3)⟩,
    ⟨some (1, false), .ld (.t 4)⟩,
    ⟨some (1, false), .bin .lss (.t 5) (.i 0)⟩,
    ⟨none, .pick (.t 1) (.k (.bool true)) (.t 6)⟩,
    ⟨none, .asg 6 (.t 7)⟩] [])
  (.ops [] [⟨none, .mv (.v 2)⟩,
    ⟨none, .mv (.v 9)⟩,
    ⟨none, .mv (.v 10)⟩,
    ⟨none, .idxA 1 (.t 0) (.t 1)⟩,
    ⟨none, .st (.t 3) (.t 2)⟩] [])))))))
  (.ops [] [⟨none, .mv (.v 8)⟩,
    ⟨none, .bin .add (.t 0) (.i 1)⟩,
    ⟨none, .asg 8 (.t 1)⟩] [])))))))
  (.ops [] [⟨none, .mv (.v 7)⟩,
    ⟨none, .bin .add (.t 0) (.i 1)⟩,
    ⟨none, .asg 7 (.t 1)⟩] []))))))))))))
  (.seq (.ops [] [⟨none, .asg 3 (.k (.bool true))⟩] [])
  .ret)))
def tr_spec_l06Force : List Nat := [0, 1, 2, 6, 3, 4, 7, 8, 9, 10, 11]
def rs_spec_l06Force : List RS := [.t 3]
theorem ok_spec_l06Force : fnOk Go.Proofs.Try.prog Go.Proofs.Try.f184 tr_spec_l06Force c_spec_l06Force 3 rs_spec_l06Force = true := by decide +kernel

theorem ret_spec_l06Force (c d : Cat) (o p : List Int) (hc : c.Shape) (hd : d.Shape) (hp : Typed c d o p) :
    RetE Go.Proofs.Try.prog 184 [c.d, d.d, .sub 0 []] [.o (ints p)] fun rc gs' => ∃ r p', SprQ c d o p r p' ∧ rc = .bool r ∧ gs' = [.o (ints p')] := by
  have hfl := hc.fr
  have hcl := hc.co
  have hdl := hd.fr
  have hdcl := hd.co
  refine ret_fnE .tree Go.Proofs.Try.func184 rfl ok_spec_l06Force rfl ⟨by simp only [List.length_cons, List.length_nil]; decide, by simp only [List.length_cons, List.length_nil]; decide⟩ rfl ?_; unfold c_spec_l06Force tr_spec_l06Force rs_spec_l06Force; simp only [go_sem, Nat.reduceLT, Nat.reduceAdd, Nat.reduceSub, Nat.reduceBEq, Nat.reduceLeDiff, ↓reduceIte]
  refine loop_set [7, 8, 9, 10] (fun s : List Int × Bool => [(6, .bool s.2), (11, .o (ints s.1))])
    (fun s => Spr c d o p s.1 ∧ (s.2 = false → ∀ a b, a < c.fr.length → b < c.fr.length → Fit c d s.1 a b)) (fun s => unk s.1 + (if s.2 = true then 1 else 0)) (p, true) (by simp only [go_sem, Nat.reduceLT, Nat.reduceBEq, ↓reduceIte]; rfl) ⟨Spr.refl hp, fun h => by cases h⟩ rfl ?_
  rintro ⟨q, ag⟩ ⟨hq, hco⟩
  simp only [go_sem, Nat.reduceLT, Nat.reduceAdd, Nat.reduceSub, Nat.reduceBEq, Nat.reduceLeDiff, ↓reduceIte]
  simp only at hq hco
  refine ⟨fun hag => ?_, fun hag => ?_⟩
  · refine loop_set [8, 9, 10] (fun s : List Int × Bool × Nat => [(6, .bool s.2.1), (7, .int .i64 s.2.2), (11, .o (ints s.1))])
      (fun s => Spr c d o p s.1 ∧ s.2.2 ≤ c.fr.length ∧ (s.2.1 = false → s.1 = q ∧ ∀ a b, a < s.2.2 → b < c.fr.length → Fit c d s.1 a b) ∧ (s.2.1 = true → unk s.1 < unk q)) (fun s => c.fr.length - s.2.2) (q, false, 0) (by simp only [go_sem, Nat.reduceLT, Nat.reduceBEq, ↓reduceIte]; rfl) ⟨hq, Nat.zero_le _, fun _ => ⟨rfl, fun a b h => absurd h (Nat.not_lt_zero _)⟩, fun h => by cases h⟩ rfl ?_
    rintro ⟨q1, ag1, a⟩ ⟨hq1, ha, hf1, ht1⟩
    simp only [go_sem, Nat.reduceLT, Nat.reduceAdd, Nat.reduceSub, Nat.reduceBEq, Nat.reduceLeDiff, ↓reduceIte]
    simp only at hq1 ha hf1 ht1
    have hql1 : q1.length = c.fr.length := hq1.ty.len
    refine ⟨fun h => ?_, fun h => ?_⟩
    · have hrow := hc.row a (by omega)
      refine loop_set [9, 10] (fun s : List Int × Bool × Nat => [(6, .bool s.2.1), (8, .int .i64 s.2.2), (11, .o (ints s.1))])
        (fun s => Spr c d o p s.1 ∧ s.2.2 ≤ c.fr.length ∧ (s.2.1 = false → s.1 = q ∧ (∀ a' b, a' < a → b < c.fr.length → Fit c d s.1 a' b) ∧ ∀ b, b < s.2.2 → Fit c d s.1 a b) ∧ (s.2.1 = true → unk s.1 < unk q)) (fun s => c.fr.length - s.2.2) (q1, ag1, 0) (by simp only [go_sem, Nat.reduceLT, Nat.reduceBEq, ↓reduceIte]; rfl)
        ⟨hq1, Nat.zero_le _, fun h => ⟨(hf1 h).1, (hf1 h).2, fun b h => absurd h (Nat.not_lt_zero _)⟩, ht1⟩ rfl ?_
      rintro ⟨q2, ag2, b⟩ ⟨hq2, hb, hf2, ht2⟩
      simp only [go_sem, Nat.reduceLT, Nat.reduceAdd, Nat.reduceSub, Nat.reduceBEq, Nat.reduceLeDiff, ↓reduceIte]
      simp only at hq2 hb hf2 ht2
      have hql : q2.length = c.fr.length := hq2.ty.len
      have hcell : (c.co.getD a []).getD b 0 = c.cell a b := rfl
      rw [hcell]
      refine ⟨fun h2 => ?_, fun h2 => ?_⟩
      · have hbn : b < c.fr.length := by omega
        have han : a < c.fr.length := by omega
        refine ⟨by omega, by omega, fun h3 => ⟨h3, by omega⟩, fun h3 => by simpa using h3, fun h3 => ⟨h3, by omega⟩, fun h3 => ?_, fun h3 => ?_, fun h3 => ?_⟩
        · simpa [Bool.or_eq_false_iff] using h3
        · refine ⟨(q2, ag2, b + 1), ⟨hq2, by simp only; omega, fun h4 => ⟨(hf2 h4).1, (hf2 h4).2.1, fun b' hb' => ?_⟩, ht2⟩, by simp only; omega, by rw [wrap_lt hbn (by simp only [maxLen]; omega)] <;> rfl⟩
          by_cases hbb : b' = b
          · subst hbb
            intro c1 c2 c3
            simp only at c1 c2 c3
            simp only [Bool.or_eq_true, decide_eq_true_eq] at h3
            omega
          · exact (hf2 h4).2.2 b' (by simp only at hb'; omega)
        · simp only [Bool.or_eq_false_iff, decide_eq_false_iff_not, Int.not_lt] at h3
          obtain ⟨⟨c1, c2⟩, c3⟩ := h3
          obtain ⟨k1, k2, k3, k4, k5⟩ := hq2.ty.comp hc hd han hbn c1 c2 c3
          have ga := (hq2.ty.get han c2).1
          have gb := (hq2.ty.get hbn c3).1
          have hrd := hd.row (q2.getD a 0).toNat (by omega)
          have hcd : (d.co.getD (q2.getD a 0).toNat []).getD (q2.getD b 0).toNat 0 = d.cellI (q2.getD a 0) (q2.getD b 0) := rfl
          rw [hcd]
          refine ⟨by omega, ⟨c2, by omega⟩, by omega, ⟨c3, by omega⟩, ⟨c1, by omega⟩, fun h4 => ⟨h4, c1, by omega⟩, fun h4 => ?_, fun h4 => ⟨fun h5 => ⟨h5, c1, by omega⟩, fun h5 => by rw [h5]; rfl, ⟨c1, by omega⟩, by omega, ?_⟩⟩
          · simp only [Bool.and_eq_true, decide_eq_true_eq, bne_iff_ne] at h4
            refine ⟨_, _, ⟨false, q2, ⟨hq2, fun h => (by cases h), fun _ F hF => ?_⟩, rfl, rfl⟩, rfl, rfl, rfl, trivial⟩
            exact Spr.clash hc hq2.ty han hbn c1 c2 c3 k1 h4.1 h4.2 F ((hq2.same F).2 hF)
          · by_cases hneg : q2.getD (c.cell a b).toNat 0 < 0
            · obtain ⟨s1, s2⟩ := Spr.step hc hd hq2.ty han hbn c1 c2 c3 hneg
              refine ⟨(_, true, b + 1), ⟨hq2.trans s1, by simp only; omega, fun h6 => (by cases h6), fun _ => ?_⟩, by simp only; omega, by rw [wrap_lt hbn (by simp only [maxLen]; omega), decide_eq_true hneg, Bool.or_true] <;> rfl⟩
              simp only
              cases hag2 : ag2 with
              | false => rw [← (hf2 hag2).1]; exact s2
              | true => have := ht2 hag2; omega
            · have heq : q2.getD (c.cell a b).toNat 0 = d.cellI (q2.getD a 0) (q2.getD b 0) := by
                rw [decide_eq_true (by omega), Bool.true_and] at h4
                simpa using h4
              rw [set_same (by omega) heq, decide_eq_false hneg, Bool.or_false]
              refine ⟨(q2, ag2, b + 1), ⟨hq2, by simp only; omega, fun h6 => ⟨(hf2 h6).1, (hf2 h6).2.1, fun b' hb' => ?_⟩, ht2⟩, by simp only; omega, by rw [wrap_lt hbn (by simp only [maxLen]; omega)] <;> rfl⟩
              by_cases hbb : b' = b
              · subst hbb; exact fun _ _ _ => heq
              · exact (hf2 h6).2.2 b' (by simp only at hb'; omega)
      · have : b = c.fr.length := by omega
        subst this
        have han : a < c.fr.length := by omega
        refine ⟨(q2, ag2, a + 1), ⟨hq2, by simp only; omega, fun h6 => ⟨(hf2 h6).1, fun a' b' ha' hb' => ?_⟩, ht2⟩, by simp only; omega, by rw [wrap_lt han (by simp only [maxLen]; omega)] <;> rfl⟩
        by_cases haa : a' = a
        · subst haa; exact (hf2 h6).2.2 b' hb'
        · exact (hf2 h6).2.1 a' b' (by simp only at ha'; omega) hb'
    · have : a = c.fr.length := by omega
      subst this
      cases ag1 with
      | false => exact ⟨(q1, false), ⟨hq1, fun _ => (hf1 rfl).2⟩, by rw [(hf1 rfl).1, if_pos hag]; simp, rfl⟩
      | true => exact ⟨(q1, true), ⟨hq1, fun h => by cases h⟩, by rw [if_pos hag]; have := ht1 rfl; simp; omega, rfl⟩
  · exact ⟨_, _, ⟨true, q, ⟨hq, fun _ => hco hag, fun h => by cases h⟩, rfl, rfl⟩, rfl, rfl, rfl, trivial⟩

-- spec.l02Unit
def c_spec_l02Unit : C :=
  (.seq (.ops [3] [⟨none, .boxv 5 (.v 0)⟩,
    ⟨none, .asg 2 (.k (.bool false))⟩] [(3, 0)])
  (.seq (.ops [] [⟨none, .fA 3 (.v 3)⟩,
    ⟨none, .ld (.t 0)⟩,
    ⟨none, .fA 1 (.v 3)⟩,
    ⟨none, .ld (.t 2)⟩,
    ⟨none, .mv (.v 1)⟩,
    ⟨none, .idxA 1 (.t 3) (.t 4)⟩,
    ⟨none, .ld (.t 5)⟩,
    ⟨none, .idxA 1 (.t 1) (.t 6)⟩,
    ⟨none, .ld (.t 7)⟩,
    ⟨none, .mv (.v 1)⟩,
    ⟨none, .bin .eql (.t 8) (.t 9)⟩,
    ⟨none, .asg 2 (.t 10)⟩] [])
  .ret))
def tr_spec_l02Unit : List Nat := [0, 1, 4, 2]
def rs_spec_l02Unit : List RS := [.t 2]
theorem ok_spec_l02Unit : fnOk Go.Proofs.Try.prog Go.Proofs.Try.f164 tr_spec_l02Unit c_spec_l02Unit 2 rs_spec_l02Unit = true := by decide +kernel

theorem ret_spec_l02Unit (c : Cat) (hc : c.Shape) (f : Nat) (hf : f < c.fr.length) : Ret Go.Proofs.Try.prog 164 [.v c.d, .v (.int .i64 f)] (.bool (c.idI (c.fr.getD f 0) == f)) := by
  have h1 := mapB_get hc.frm hf
  have h2 := hc.idn
  refine ret_fn Go.Proofs.Try.func164 ok_spec_l02Unit rfl (show 2 < 500 by decide) rfl ?_; unfold c_spec_l02Unit tr_spec_l02Unit rs_spec_l02Unit; simp only [go_sem, Nat.reduceLT, Nat.reduceAdd, Nat.reduceSub, ↓reduceIte]
  exact ⟨hf, ⟨h1.1, by omega⟩, rfl⟩

/-- The arrows among the first 'k' that are no identities. -/
def Cat.movP (c : Cat) (k : Nat) : List Int := ((List.range k).filter fun f => !(c.idI (c.fr.getD f 0) == f)).map fun f : Nat => (f : Int)
theorem Cat.movP_step {c : Cat} {i : Nat} : c.movP (i + 1) = c.movP i ++ if (!(c.idI (c.fr.getD i 0) == i)) = true then [(i : Int)] else [] := by
  unfold Cat.movP
  rw [List.range_succ, List.filter_append, List.map_append]
  congr 1
  simp only [List.filter_cons, List.filter_nil]
  split <;> rfl
theorem Cat.movP_len {c : Cat} {i : Nat} : (c.movP i).length ≤ i := by
  unfold Cat.movP
  rw [List.length_map]
  exact Nat.le_trans (List.length_filter_le _ _) (by simp)
theorem units_len {c : Cat} (hc : c.Shape) : ((List.range c.fr.length).filter fun f => c.idI (c.fr.getD f 0) == f).length = c.idn.length := by
  have hp : ((List.range c.fr.length).filter fun f => c.idI (c.fr.getD f 0) == f).Perm (c.idn.map Int.toNat) := by
    rw [List.perm_ext_iff_of_nodup]
    · intro f
      simp only [List.mem_filter, List.mem_range, beq_iff_eq, List.mem_map]
      constructor
      · rintro ⟨h1, h2⟩
        have h3 := hc.fri h1
        refine ⟨c.idn.getD (c.fr.getD f 0).toNat 0, ?_, ?_⟩
        · rw [getD_lt (by omega)]; exact List.getElem_mem _
        · have : c.idI (c.fr.getD f 0) = c.idn.getD (c.fr.getD f 0).toNat 0 := rfl
          omega
      · rintro ⟨x, h1, h2⟩
        obtain ⟨k, hk, rfl⟩ := List.getElem_of_mem h1
        obtain ⟨a1, a2, a3, a4⟩ := id_ends hc hk
        rw [getD_lt hk] at a1 a2 a3
        subst h2
        refine ⟨a2, ?_⟩
        rw [a3]
        show c.idn.getD (k : Int).toNat 0 = _
        rw [Int.toNat_natCast, getD_lt hk]; omega
    · exact List.Pairwise.filter _ List.nodup_range
    · rw [List.Nodup, List.pairwise_map, List.pairwise_iff_getElem]
      intro i j hi hj hij he
      obtain ⟨a1, a2, a3, _⟩ := id_ends hc hi
      obtain ⟨b1, b2, b3, _⟩ := id_ends hc hj
      rw [getD_lt hi] at a1 a2 a3
      rw [getD_lt hj] at b1 b2 b3
      rw [he] at a3
      omega
  rw [hp.length_eq, List.length_map]
theorem mov_len {c : Cat} (hc : c.Shape) : ((c.movP c.fr.length).length : Int) = c.fr.length - c.ob := by
  have h1 := units_len hc
  have h2 := List.length_eq_countP_add_countP (fun f : Nat => c.idI (c.fr.getD f 0) == (f : Int)) (l := List.range c.fr.length)
  rw [List.length_range, List.countP_eq_length_filter, h1, List.countP_eq_length_filter] at h2
  have h3 : (c.movP c.fr.length).length = ((List.range c.fr.length).filter fun a => decide ¬(c.idI (c.fr.getD a 0) == (a : Int)) = true).length := by
    unfold Cat.movP
    rw [List.length_map]
    congr 2
    funext f
    cases c.idI (c.fr.getD f 0) == (f : Int) <;> rfl
  have := hc.idn
  omega
-- spec.l06Moving
def c_spec_l06Moving : C :=
  (.seq (.ops [2] [⟨none, .boxv 5 (.v 0)⟩,
    ⟨none, .asg 1 (.k (.nils (.int .i64 0)))⟩] [(2, 0)])
  (.seq (.ops [] [⟨none, .bldS (.int .i64 0) 0 []⟩,
    ⟨none, .asg 3 (.t 0)⟩] [])
  (.seq (.seq (.ops [] [⟨none, .asg 4 (.i 0)⟩] [])
  (.block 0 (.loop (.seq (.opc [] [⟨none, .mv (.v 4)⟩,
    ⟨none, .fA 1 (.v 2)⟩,
    ⟨none, .ld (.t 1)⟩,
    ⟨none, .len (.t 2)⟩,
    ⟨none, .bin .lss (.t 0) (.t 3)⟩] [] (.t 4) .skip
  (.exit 0))
  (.seq (.block 1 (.opc [] [⟨none, .lda 5 (.v 2)⟩,
    ⟨none, .mv (.v 4)⟩,
    ⟨none, .call 164 [(.t 0), (.t 1)]⟩,
    ⟨none, .not (.t 2)⟩] [] (.t 3) (.ops [] [⟨none, .mv (.v 3)⟩,
    ⟨none, .mv (.v 4)⟩,
    ⟨none, .bldS (.int .i64 0) 1 [(0, (.t 1))]⟩,
    ⟨none, .app 1 8 (.t 0) (.t 2)⟩,
    ⟨none, .asg 3 (.t 3)⟩] [])
  .skip))
  (.ops [] [⟨none, .mv (.v 4)⟩,
    ⟨none, .bin .add (.t 0) (.i 1)⟩,
    ⟨none, .asg 4 (.t 1)⟩] []))))))
  (.seq (.ops [] [⟨none, .mv (.v 3)⟩,
    ⟨none, .asg 1 (.t 0)⟩] [])
  .ret))))
def tr_spec_l06Moving : List Nat := [0, 2, 1, 3, 4]
def rs_spec_l06Moving : List RS := [.t 1]
theorem ok_spec_l06Moving : fnOk Go.Proofs.Try.prog Go.Proofs.Try.f131 tr_spec_l06Moving c_spec_l06Moving 1 rs_spec_l06Moving = true := by decide +kernel

theorem ret_spec_l06Moving (c : Cat) (hc : c.Shape) : Ret Go.Proofs.Try.prog 131 [.v c.d] (ints (c.movP c.fr.length)) := by
  have hfl := hc.fr
  refine ret_fn Go.Proofs.Try.func131 ok_spec_l06Moving rfl (show 1 < 500 by decide) rfl ?_; unfold c_spec_l06Moving tr_spec_l06Moving rs_spec_l06Moving; simp only [go_sem, Nat.reduceLT, Nat.reduceAdd, Nat.reduceSub, ↓reduceIte]
  refine loop_set [] (fun (i : Nat) => [(4, .int .i64 i), (3, .o (ints (c.movP i)))]) (fun i => i ≤ c.fr.length) (fun i => c.fr.length - i) 0 (by simp only [go_sem]; rfl) (Nat.zero_le _) rfl ?_
  rintro i hi
  simp only [go_sem, Nat.reduceLT, Nat.reduceAdd, Nat.reduceSub, Nat.reduceBEq, Nat.reduceLeDiff, ↓reduceIte]
  refine ⟨fun h => ?_, fun h => ?_⟩
  · refine call_of (ret_spec_l02Unit c hc i h) rfl (.inl rfl) ?_
    simp only [go_sem, Nat.reduceLT, Nat.reduceAdd, Nat.reduceSub, Nat.reduceBEq, ↓reduceIte]
    refine ⟨fun h2 => ⟨by have := @Cat.movP_len c i; omega, i + 1, by omega, by omega, by rw [Cat.movP_step, if_pos h2, wrap_lt h (by simp only [maxLen]; omega)]⟩,
      fun h2 => ⟨i + 1, by omega, by omega, by rw [Cat.movP_step, if_neg (by rw [h2]; decide), List.append_nil, wrap_lt h (by simp only [maxLen]; omega)]⟩⟩
  · rw [show i = c.fr.length by omega]
-- spec.l06Small
def c_spec_l06Small : C :=
  (.seq (.ops [3, 4] [⟨none, .boxv 5 (.v 0)⟩,
    ⟨none, .boxv 5 (.v 1)⟩,
    ⟨none, .asg 2 (.k (.bool false))⟩] [(3, 0), (4, 1)])
  (.seq (.ops [] [⟨none, .lda 5 (.v 3)⟩,
    ⟨none, .call 131 [(.t 0)]⟩,
    ⟨none, .len (.t 1)⟩,
    ⟨none, .bin .leq (.t 2) (.i 8)⟩,
    ⟨none, .mv (.t 3)⟩,
    ⟨some (4, true), .fA 1 (.v 4)⟩,
    ⟨some (4, true), .ld (.t 5)⟩,
    ⟨some (4, true), .len (.t 6)⟩,
    ⟨some (4, true), .bin .leq (.t 7) (.i 16)⟩,
    ⟨none, .pick (.t 4) (.t 8) (.k (.bool false))⟩,
    ⟨none, .asg 2 (.t 9)⟩] [])
  .ret))
def tr_spec_l06Small : List Nat := [0, 1, 4, 2, 3]
def rs_spec_l06Small : List RS := [.t 2]
theorem ok_spec_l06Small : fnOk Go.Proofs.Try.prog Go.Proofs.Try.f87 tr_spec_l06Small c_spec_l06Small 2 rs_spec_l06Small = true := by decide +kernel

theorem ret_spec_l06Small (c d : Cat) (hc : c.Shape) : Ret Go.Proofs.Try.prog 87 [.v c.d, .v d.d] (.bool (smallB c d)) := by
  refine ret_fn Go.Proofs.Try.func87 ok_spec_l06Small rfl (show 2 < 500 by decide) rfl ?_; unfold c_spec_l06Small tr_spec_l06Small rs_spec_l06Small; simp only [go_sem, Nat.reduceLT, Nat.reduceAdd, Nat.reduceSub, Nat.reduceLeDiff, ↓reduceIte]
  refine call_of (ret_spec_l06Moving c hc) rfl (.inl (nv_ints _)) ?_
  simp only [go_sem, Nat.reduceLT, Nat.reduceAdd, Nat.reduceSub, ↓reduceIte]
  unfold smallB
  rw [mov_len hc]
end Go.D3

/- CONTRACTS: the reference's search. -/
namespace Go.D3
open Go
set_option maxRecDepth 100000

/-- The objects with an image in a list, and hom sets of images. -/
def rmI (c d : Cat) (o : List Int) (i : Nat) : Bool := !(decide (c.fr.getD i 0 < o.length) && decide (c.to.getD i 0 < o.length) && ((d.hom (o.getD (c.fr.getD i 0).toNat 0) (o.getD (c.to.getD i 0).toNat 0)).length : Int) == 0)
def rmB (c d : Cat) (o : List Int) : Bool := allB c.fr.length (rmI c d o)
-- spec.l06Rooms
def c_spec_l06Rooms : C :=
  (.seq (.ops [4, 5] [⟨none, .boxv 5 (.v 0)⟩,
    ⟨none, .boxv 5 (.v 1)⟩,
    ⟨none, .asg 3 (.k (.bool false))⟩] [(4, 0), (5, 1)])
  (.seq (.seq (.ops [] [⟨none, .asg 6 (.i 0)⟩] [])
  (.block 0 (.loop (.seq (.opc [] [⟨none, .mv (.v 6)⟩,
    ⟨none, .fA 1 (.v 4)⟩,
    ⟨none, .ld (.t 1)⟩,
    ⟨none, .len (.t 2)⟩,
    ⟨none, .bin .lss (.t 0) (.t 3)⟩] [] (.t 4) .skip
  (.exit 0))
  (.seq (.block 1 (.seq (.ops [7] [⟨none, .fA 1 (.v 4)⟩,
    ⟨none, .ld (.t 0)⟩,
    ⟨none, .mv (.v 6)⟩,
    ⟨none, .idxA 1 (.t 1) (.t 2)⟩,
    ⟨none, .ld (.t 3)⟩,
    ⟨none, .fA 2 (.v 4)⟩,
    ⟨none, .ld (.t 5)⟩,
    ⟨none, .mv (.v 6)⟩,
    ⟨none, .idxA 1 (.t 6) (.t 7)⟩,
    ⟨none, .ld (.t 8)⟩,
    ⟨none, .mv (.t 4)⟩,
    ⟨none, .asg 8 (.t 9)⟩] [(7, 10)])
  (.opc [] [⟨none, .mv (.v 7)⟩,
    ⟨none, .mv (.v 2)⟩,
    ⟨none, .len (.t 1)⟩,
    ⟨none, .bin .lss (.t 0) (.t 2)⟩,
    ⟨none, .mv (.t 3)⟩,
    ⟨some (4, true), .mv (.v 8)⟩,
    ⟨some (4, true), .mv (.v 2)⟩,
    ⟨some (4, true), .len (.t 6)⟩,
    ⟨some (4, true), .bin .lss (.t 5) (.t 7)⟩,
    ⟨none, .pick (.t 4) (.t 8) (.k (.bool false))⟩,
    ⟨none, .mv (.t 9)⟩,
    ⟨some (10, true), .lda 5 (.v 5)⟩,
    ⟨some (10, true), .mv (.v 2)⟩,
    ⟨some (10, true), .mv (.v 7)⟩,
    ⟨some (10, true), .idxA 1 (.t 12) (.t 13)⟩,
    ⟨some (10, true), .ld (.t 14)⟩,
    ⟨some (10, true), .mv (.v 2)⟩,
    ⟨some (10, true), .mv (.v 8)⟩,
    ⟨some (10, true), .idxA 1 (.t 16) (.t 17)⟩,
    ⟨some (10, true), .ld (.t 18)⟩,
    ⟨some (10, true), .call 74 [(.t 11), (.t 15), (.t 19)]⟩,
    ⟨some (10, true), .len (.t 20)⟩,
    ⟨some (10, true), .bin .eql (.t 21) (.i 0)⟩,
    ⟨none, .pick (.t 10) (.t 22) (.k (.bool false))⟩] [] (.t 23) (.seq (.ops [] [⟨none, .asg 3 (.k (.bool false))⟩] [])
  .ret)
  .skip)))
  (.ops [] [⟨none, .mv (.v 6)⟩,
    ⟨none, .bin .add (.t 0) (.i 1)⟩,
    ⟨none, .asg 6 (.t 1)⟩] []))))))
  (.seq (.ops [] [⟨none, .asg 3 (.k (.bool true))⟩] [])
  .ret)))
def tr_spec_l06Rooms : List Nat := [0, 1, 2, 6, 3, 4, 7, 8, 9]
def rs_spec_l06Rooms : List RS := [.t 3]
theorem ok_spec_l06Rooms : fnOk Go.Proofs.Try.prog Go.Proofs.Try.f165 tr_spec_l06Rooms c_spec_l06Rooms 3 rs_spec_l06Rooms = true := by decide +kernel

theorem ret_spec_l06Rooms (c d : Cat) (hc : c.Shape) (hd : d.Shape) (o : List Int) : Ret Go.Proofs.Try.prog 165 [.v c.d, .v d.d, .v (ints o)] (.bool (rmB c d o)) := by
  have hfl := hc.fr
  have htl := hc.to
  have hdl := hd.fr
  refine ret_fn Go.Proofs.Try.func165 ok_spec_l06Rooms rfl (show 3 < 500 by decide) rfl ?_; unfold c_spec_l06Rooms tr_spec_l06Rooms rs_spec_l06Rooms; simp only [go_sem, Nat.reduceLT, Nat.reduceAdd, Nat.reduceSub, ↓reduceIte]
  refine loop_set [7, 8] (fun (i : Nat) => [(6, .int .i64 i)]) (fun i => i ≤ c.fr.length ∧ allB i (rmI c d o) = true) (fun i => c.fr.length - i) 0 (by simp only [go_sem, Nat.reduceLT, ↓reduceIte]; rfl) ⟨Nat.zero_le _, rfl⟩ rfl ?_
  rintro i ⟨hi, hb⟩
  simp only [go_sem, Nat.reduceLT, Nat.reduceAdd, Nat.reduceSub, Nat.reduceLeDiff, ↓reduceIte]
  refine ⟨fun h => ⟨h, by omega, ?_⟩, fun h => ?_⟩
  · have hf1 := mapB_get hc.frm h
    have ht1 := mapB_get hc.tom (show i < c.to.length by omega)
    generalize hg : (decide (c.fr.getD i 0 < (o.length : Int)) && decide (c.to.getD i 0 < (o.length : Int))) = g
    have hg2 : g = true → c.fr.getD i 0 < (o.length : Int) ∧ c.to.getD i 0 < (o.length : Int) := fun hh => by
      rw [hh, Bool.and_eq_true, decide_eq_true_eq, decide_eq_true_eq] at hg; exact hg
    refine ⟨fun hh => ⟨hh, hf1.1, (hg2 hh).1⟩, fun hh => ⟨hh, ht1.1, (hg2 hh).2⟩, ?_⟩
    refine callg_of (fun _ => ret_spec_l02Hom d _ _ (by omega) hd.to) rfl (fun h => h) (.inl (nv_ints _)) ?_
    simp only [go_sem, Nat.reduceLT, Nat.reduceAdd, Nat.reduceSub, ↓reduceIte]
    have hrm : rmI c d o i = !(g && ((d.hom (o.getD (c.fr.getD i 0).toNat 0) (o.getD (c.to.getD i 0).toNat 0)).length : Int) == 0) := by unfold rmI; rw [hg]
    refine ⟨fun h3 => ?_, fun h3 => ?_⟩
    · exact (allB_stop h (by rw [hrm, h3]; rfl)).symm
    · exact ⟨i + 1, ⟨by omega, allB_succ hb (by rw [hrm, h3]; rfl)⟩, by omega, by rw [wrap_lt h (by simp only [maxLen]; omega)]⟩
  · rw [show i = c.fr.length by omega] at hb; exact hb.symm

theorem take_more {α : Type} {A R : List α} (h : 200 < (A.take 201).length) : (A ++ R).take 201 = A.take 201 := by
  rw [List.length_take] at h
  rw [List.take_append_of_le_length (by omega)]

-- spec.l06Arrows
def c_spec_l06Arrows : C :=
  (.seq (.ops [7, 8] [⟨none, .boxv 5 (.v 0)⟩,
    ⟨none, .boxv 5 (.v 1)⟩,
    ⟨none, .asg 6 (.k (.nils (ints [])))⟩] [(7, 0), (8, 1)])
  (.seq (.block 0 (.loop (.seq (.opc [] [⟨none, .mv (.v 4)⟩,
    ⟨none, .mv (.v 3)⟩,
    ⟨none, .len (.t 1)⟩,
    ⟨none, .bin .lss (.t 0) (.t 2)⟩,
    ⟨none, .mv (.t 3)⟩,
    ⟨some (4, true), .mv (.v 3)⟩,
    ⟨some (4, true), .mv (.v 4)⟩,
    ⟨some (4, true), .idxA 1 (.t 5) (.t 6)⟩,
    ⟨some (4, true), .ld (.t 7)⟩,
    ⟨some (4, true), .bin .geq (.t 8) (.i 0)⟩,
    ⟨none, .pick (.t 4) (.t 9) (.k (.bool false))⟩] [] (.t 10) .skip
  (.exit 0))
  (.block 1 (.ops [] [⟨none, .mv (.v 4)⟩,
    ⟨none, .bin .add (.t 0) (.i 1)⟩,
    ⟨none, .asg 4 (.t 1)⟩] [])))))
  (.seq (.opc [] [⟨none, .mv (.v 4)⟩,
    ⟨none, .mv (.v 3)⟩,
    ⟨none, .len (.t 1)⟩,
    ⟨none, .bin .eql (.t 0) (.t 2)⟩] [] (.t 3) (.seq (.ops [] [⟨none, .mv (.v 5)⟩,
    ⟨none, .mv (.v 3)⟩,
    ⟨none, .call 154 [(.t 1)]⟩,
    ⟨none, .bldS (ints []) 1 [(0, (.t 2))]⟩,
    ⟨none, .app 1 24 (.t 0) (.t 3)⟩,
    ⟨none, .asg 6 (.t 4)⟩] [])
  .ret)
  .skip)
  (.seq (.ops [] [⟨none, .lda 5 (.v 8)⟩,
    ⟨none, .mv (.v 2)⟩,
    ⟨none, .fA 1 (.v 7)⟩,
    ⟨none, .ld (.t 2)⟩,
    ⟨none, .mv (.v 4)⟩,
    ⟨none, .idxA 1 (.t 3) (.t 4)⟩,
    ⟨none, .ld (.t 5)⟩,
    ⟨none, .idxA 1 (.t 1) (.t 6)⟩,
    ⟨none, .ld (.t 7)⟩,
    ⟨none, .mv (.v 2)⟩,
    ⟨none, .fA 2 (.v 7)⟩,
    ⟨none, .ld (.t 10)⟩,
    ⟨none, .mv (.v 4)⟩,
    ⟨none, .idxA 1 (.t 11) (.t 12)⟩,
    ⟨none, .ld (.t 13)⟩,
    ⟨none, .idxA 1 (.t 9) (.t 14)⟩,
    ⟨none, .ld (.t 15)⟩,
    ⟨none, .call 74 [(.t 0), (.t 8), (.t 16)]⟩,
    ⟨none, .asg 9 (.t 17)⟩] [])
  (.seq (.seq (.ops [] [⟨none, .asg 10 (.i 0)⟩] [])
  (.block 2 (.loop (.seq (.opc [] [⟨none, .mv (.v 10)⟩,
    ⟨none, .mv (.v 9)⟩,
    ⟨none, .len (.t 1)⟩,
    ⟨none, .bin .lss (.t 0) (.t 2)⟩,
    ⟨none, .mv (.t 3)⟩,
    ⟨some (4, true), .mv (.v 5)⟩,
    ⟨some (4, true), .len (.t 5)⟩,
    ⟨some (4, true), .bin .leq (.t 6) (.i 200)⟩,
    ⟨none, .pick (.t 4) (.t 7) (.k (.bool false))⟩] [] (.t 8) .skip
  (.exit 2))
  (.seq (.block 3 (.seq (.ops [] [⟨none, .mv (.v 3)⟩,
    ⟨none, .call 154 [(.t 0)]⟩,
    ⟨none, .asg 11 (.t 1)⟩] [])
  (.seq (.ops [] [⟨none, .mv (.v 11)⟩,
    ⟨none, .mv (.v 4)⟩,
    ⟨none, .mv (.v 9)⟩,
    ⟨none, .mv (.v 10)⟩,
    ⟨none, .idxA 1 (.t 2) (.t 3)⟩,
    ⟨none, .ld (.t 4)⟩,
    ⟨none, .idxA 1 (.t 0) (.t 1)⟩,
    ⟨none, .st (.t 6) (.t 5)⟩] [])
  (.opc [] [⟨none, .lda 5 (.v 7)⟩,
    ⟨none, .lda 5 (.v 8)⟩,
    ⟨none, .mv (.v 11)⟩,
    ⟨none, .dyn (.k (.fn 184 [])) [(.t 0), (.t 1), (.t 2)]⟩] [] (.t 3) (.ops [] [⟨none, .lda 5 (.v 7)⟩,
    ⟨none, .lda 5 (.v 8)⟩,
    ⟨none, .mv (.v 2)⟩,
    ⟨none, .mv (.v 11)⟩,
    ⟨none, .mv (.v 4)⟩,
    ⟨none, .bin .add (.t 4) (.i 1)⟩,
    ⟨none, .mv (.v 5)⟩,
    ⟨none, .dyn (.k (.fn 166 [])) [(.t 0), (.t 1), (.t 2), (.t 3), (.t 5), (.t 6)]⟩,
    ⟨none, .asg 5 (.t 7)⟩] [])
  .skip))))
  (.ops [] [⟨none, .mv (.v 10)⟩,
    ⟨none, .bin .add (.t 0) (.i 1)⟩,
    ⟨none, .asg 10 (.t 1)⟩] []))))))
  (.seq (.ops [] [⟨none, .mv (.v 5)⟩,
    ⟨none, .asg 6 (.t 0)⟩] [])
  .ret))))))
def tr_spec_l06Arrows : List Nat := [0, 1, 2, 3, 4, 5, 12, 6, 7, 13, 14, 15]
def rs_spec_l06Arrows : List RS := [.t 6]
theorem ok_spec_l06Arrows : fnOk Go.Proofs.Try.prog Go.Proofs.Try.f166 tr_spec_l06Arrows c_spec_l06Arrows 6 rs_spec_l06Arrows = true := by decide +kernel

theorem arrows_leaf (c d : Cat) (o : List Int) (hc : c.Shape) (_ : d.Shape) (_ : (o.length : Int) = c.ob) (p : List Int) (f : Nat) (found : List (List Int)) (L : List (List Int))
    (hp : Typed c d o p) (hco : ∀ a b, a < c.fr.length → b < c.fr.length → Fit c d p a b) (hfl : f ≤ p.length) (hl : found.length ≤ 200) (hL : En c d o p L) (ht : ∀ i, i < p.length → 0 ≤ p.getD i 0) :
    RetE Go.Proofs.Try.prog 166 [c.d, d.d, ints o, ints p, .int .i64 f, .sub 0 []] [.o (intss found)] (fun rc gs' => rc = .o (intss ((found ++ L).take 201)) ∧ gs' = [.dead]) := by
  have hcl := hc.fr
  have hpl := hp.len
  refine ret_fnE .tree Go.Proofs.Try.func166 rfl ok_spec_l06Arrows rfl ⟨by simp only [List.length_cons, List.length_nil]; decide, by simp only [List.length_cons, List.length_nil]; decide⟩ rfl ?_; unfold c_spec_l06Arrows tr_spec_l06Arrows rs_spec_l06Arrows; simp only [go_sem, Nat.reduceLT, Nat.reduceAdd, Nat.reduceSub, Nat.reduceBEq, Nat.reduceLeDiff, ↓reduceIte]
  refine loop_set [] (fun (i : Nat) => [(4, .int .i64 i)]) (fun i => i ≤ p.length) (fun i => p.length - i) f (by simp only [go_sem]; rfl) hfl rfl ?_
  rintro i hi
  simp only [go_sem, Nat.reduceLT, Nat.reduceAdd, Nat.reduceSub, Nat.reduceBEq, Nat.reduceLeDiff, ↓reduceIte]
  refine ⟨fun h => ?_, fun h => ⟨fun _ => ?_, fun h2 => ?_⟩⟩
  · simp only [Bool.and_eq_true, decide_eq_true_eq] at h
    exact ⟨i + 1, by omega, by omega, by rw [wrap_lt h.1 (by simp only [maxLen]; omega)]⟩
  · refine call_of (ret_spec_l01Own p (by omega)) rfl (.inl (nv_ints _)) ?_
    simp only [go_sem, Nat.reduceLT, Nat.reduceAdd, Nat.reduceSub, Nat.reduceEqDiff, Nat.reduceBEq, ↓reduceIte]
    refine ⟨by omega, _, _, ⟨rfl, rfl⟩, rfl, ?_, rfl, trivial⟩
    rw [hL.one hp hco (fun i hi => ht i (by omega)), List.take_of_length_le (by simp; omega)]; rfl
  · have hip : i = p.length := by
      by_cases hlt : i < p.length
      · rw [decide_eq_true hlt, decide_eq_true (ht i hlt)] at h; cases h
      · omega
    rw [hip] at h2; simp at h2

theorem arrows_step (c d : Cat) (o : List Int) (hc : c.Shape) (hd : d.Shape) (ho : (o.length : Int) = c.ob) (p : List Int) (f : Nat) (found : List (List Int)) (L : List (List Int))
    (hp : Typed c d o p) (_ : ∀ a b, a < c.fr.length → b < c.fr.length → Fit c d p a b) (hf : ∀ j, j < f → 0 ≤ p.getD j 0) (hl : found.length ≤ 200) (hL : En c d o p L) (a : Nat) (ha : Fst p a)
    (ih : ∀ (p' : List Int) (f' : Nat) (found' : List (List Int)) (L' : List (List Int)), unk p' < unk p → Typed c d o p' → (∀ a b, a < c.fr.length → b < c.fr.length → Fit c d p' a b) → (∀ j, j < f' → 0 ≤ p'.getD j 0) → f' ≤ p'.length → found'.length ≤ 200 → En c d o p' L' →
      RetE Go.Proofs.Try.prog 166 [c.d, d.d, ints o, ints p', .int .i64 f', .sub 0 []] [.o (intss found')] (fun rc gs' => rc = .o (intss ((found' ++ L').take 201)) ∧ gs' = [.dead])) :
    RetE Go.Proofs.Try.prog 166 [c.d, d.d, ints o, ints p, .int .i64 f, .sub 0 []] [.o (intss found)] (fun rc gs' => rc = .o (intss ((found ++ L).take 201)) ∧ gs' = [.dead]) := by
  have hcl := hc.fr
  have hpl := hp.len
  have hdl := hd.fr
  have hal := ha.lt
  have hfa : f ≤ a := Classical.byContradiction fun hh => by have := hf a (by omega); have := ha.neg; omega
  refine ret_fnE .tree Go.Proofs.Try.func166 rfl ok_spec_l06Arrows rfl ⟨by simp only [List.length_cons, List.length_nil]; decide, by simp only [List.length_cons, List.length_nil]; decide⟩ rfl ?_; unfold c_spec_l06Arrows tr_spec_l06Arrows rs_spec_l06Arrows; simp only [go_sem, Nat.reduceLT, Nat.reduceAdd, Nat.reduceSub, Nat.reduceBEq, Nat.reduceLeDiff, ↓reduceIte]
  refine loop_set [] (fun (i : Nat) => [(4, .int .i64 i)]) (fun i => i ≤ a) (fun i => a - i) f (by simp only [go_sem]; rfl) hfa rfl ?_
  rintro i hi
  simp only [go_sem, Nat.reduceLT, Nat.reduceAdd, Nat.reduceSub, Nat.reduceBEq, Nat.reduceLeDiff, ↓reduceIte]
  refine ⟨fun h => ?_, fun h => ⟨fun h2 => by omega, fun h2 => ?_⟩⟩
  · simp only [Bool.and_eq_true, decide_eq_true_eq] at h
    have : i ≠ a := fun hh => by have := ha.neg; rw [hh] at h; omega
    exact ⟨i + 1, by omega, by omega, by rw [wrap_lt h.1 (by simp only [maxLen]; omega)]⟩
  have hia : i = a := Classical.byContradiction fun hh => by
    rw [decide_eq_true (show i < p.length by omega), decide_eq_true (ha.bef i (by omega))] at h; cases h
  subst hia
  have hac : i < c.fr.length := by omega
  have hf1 := mapB_get hc.frm hac
  have ht1 := mapB_get hc.tom (show i < c.to.length by have := hc.to; omega)
  refine ⟨hac, ⟨hf1.1, by omega⟩, by have := hc.to; omega, ⟨ht1.1, by omega⟩, call_of (ret_spec_l02Hom d _ _ (by omega) hd.to) rfl (.inl (nv_ints _)) ?_⟩
  simp only [go_sem, Nat.reduceLT, Nat.reduceAdd, Nat.reduceSub, Nat.reduceBEq, Nat.reduceLeDiff, ↓reduceIte]
  generalize hH : d.hom (o.getD (c.fr.getD i 0).toNat 0) (o.getD (c.to.getD i 0).toNat 0) = H
  have hHl : H.length ≤ 40 := by rw [← hH]; exact Nat.le_trans Cat.homP_len hdl
  refine loop_set [11] (fun s : Nat × List (List Int) × Bool => [(10, .int .i64 s.1), (5, bif s.2.2 then .sub 12 [] else .o (intss ((found ++ s.2.1).take 201))), (12, bif s.2.2 then .o (intss ((found ++ s.2.1).take 201)) else .dead)])
    (fun s => s.1 ≤ H.length ∧ EnP c d o p i H s.1 s.2.1) (fun s => H.length - s.1) (0, [], true) (by simp only [go_sem, Nat.reduceLT, Nat.reduceBEq, ↓reduceIte]; rfl) ⟨Nat.zero_le _, EnP.zero⟩ (by simp only [List.append_nil, List.take_of_length_le (show found.length ≤ 201 by omega)]; rfl) ?_
  rintro ⟨k, Li, fst⟩ ⟨hk, hEi⟩
  simp only at hk hEi
  cases fst
  · simp only [cond_false]
    simp only [go_sem, Nat.reduceLT, Nat.reduceAdd, Nat.reduceSub, Nat.reduceBEq, Nat.reduceLeDiff, ↓reduceIte]
    refine ⟨fun h3 => ?_, fun h3 => ?_⟩
    · simp only [Bool.and_eq_true, decide_eq_true_eq] at h3
      obtain ⟨hkH, h4⟩ := h3
      have h5 : (found ++ Li).take 201 = found ++ Li := List.take_of_length_le (by rw [List.length_take] at h4; omega)
      rw [h5] at h4 ⊢
      have hm := hom_get (d := d) (x := o.getD (c.fr.getD i 0).toNat 0) (y := o.getD (c.to.getD i 0).toNat 0) (i := k) (by rw [hH]; exact hkH)
      obtain ⟨hty, hun⟩ := ha.hom hp hm
      have hx0 := (Cat.mem_hom.1 hm).1
      rw [hH] at hm hty hun hx0
      obtain ⟨L1, hL1⟩ := En.exists _ (Nat.le_refl _) hty
      have hE1 : EnP c d o p i H (k + 1) (Li ++ L1) := hEi.step hp ha (by rw [← hH]; exact Cat.hom_sorted) hkH hx0 hL1
      refine call_of (ret_spec_l01Own p (by omega)) rfl (.inl (nv_ints _)) ?_
      simp only [go_sem, Nat.reduceLT, Nat.reduceAdd, Nat.reduceSub, Nat.reduceBEq, Nat.reduceLeDiff, ↓reduceIte]
      refine ⟨hkH, hal, hal, e_call [11] false (ret_spec_l06Force c d o _ hc hd hty) (by exact ⟨by decide, rfl⟩) (by repeat (first | exact trivial | refine ⟨rfl, ?_⟩)) (by repeat (first | exact trivial | refine ⟨.inl rfl, ?_⟩ | refine ⟨.inr ⟨rfl, rfl⟩, ?_⟩)) ?_⟩
      rintro _ _ ⟨r, p1, ⟨hs1, hs2, hs3⟩, rfl, rfl⟩
      refine ⟨(by repeat (first | exact trivial | refine ⟨(fun h => by cases h), ?_⟩)), (fun h => by cases h), ?_⟩
      simp only [go_sem, Nat.reduceLT, Nat.reduceAdd, Nat.reduceSub, Nat.reduceBEq, Nat.reduceLeDiff, ↓reduceIte]
      refine ⟨fun hr => ?_, fun hr => ?_⟩
      · have hkn : ∀ j, j < i + 1 → 0 ≤ p1.getD j 0 := fun j hj => by
          have e : 0 ≤ (p.set i (H.getD k 0)).getD j 0 := by
            rw [set_get hal]; split
            · exact hx0
            · exact ha.bef j (by omega)
          rw [hs1.ext j e]; exact e
        have hp1l := hs1.ty.len
        refine e_call [5] true (ih p1 (i + 1) (found ++ Li) L1 (by have := hs1.neg; omega) hs1.ty (hs2 hr) hkn (by omega) (by omega) ((En.spr hs1).1 hL1)) (by exact ⟨by decide, rfl⟩) (by repeat (first | exact trivial | refine ⟨rfl, ?_⟩)) (by refine ⟨.inl rfl, .inl rfl, .inl rfl, .inr ⟨rfl, rfl⟩, .inl ?_, .inl rfl, trivial⟩; rw [wrap_lt hal (by simp only [maxLen]; omega)]; rfl) ?_
        rintro _ _ ⟨rfl, rfl⟩
        refine ⟨(by repeat (first | exact trivial | refine ⟨(fun h => by cases h), ?_⟩)), (fun _ => ⟨by simp only [D.tightX, D.tightC, nv_intss], rfl⟩), ?_⟩
        simp only [go_sem, Nat.reduceLT, Nat.reduceAdd, Nat.reduceSub, Nat.reduceBEq, ↓reduceIte]
        refine ⟨(k + 1, Li ++ L1, false), ⟨hkH, hE1⟩, by simp only; omega, by rw [wrap_lt hkH (by simp only [maxLen]; omega), ← List.append_assoc] <;> rfl⟩
      · have hL0 : L1 = [] := hL1.none (hs3 hr)
        subst hL0
        refine ⟨(k + 1, Li, false), ⟨hkH, by simpa using hE1⟩, by simp only; omega, by rw [wrap_lt hkH (by simp only [maxLen]; omega)]; simp only [cond_false, h5] <;> rfl⟩
    · refine ⟨_, _, ⟨rfl, rfl⟩, rfl, ?_, rfl, trivial⟩
      have hout : (found ++ L).take 201 = (found ++ Li).take 201 := by
        by_cases hkH : k < H.length
        · rw [decide_eq_true hkH, Bool.true_and, decide_eq_false_iff_not] at h3
          obtain ⟨R, hR⟩ := EnP.pre hp ha (by rw [hH]; exact hEi) (by rw [hH]; exact hk) hL
          rw [hR, ← List.append_assoc]
          exact take_more (by omega)
        · have hkk : k = H.length := by omega
          subst hkk
          rw [hL.eq (EnP.done hp ha (by rw [hH]; exact hEi))]
      rw [hout]; rfl
  · simp only [cond_true]
    simp only [go_sem, Nat.reduceLT, Nat.reduceAdd, Nat.reduceSub, Nat.reduceBEq, Nat.reduceLeDiff, ↓reduceIte]
    refine ⟨fun h3 => ?_, fun h3 => ?_⟩
    · simp only [Bool.and_eq_true, decide_eq_true_eq] at h3
      obtain ⟨hkH, h4⟩ := h3
      have h5 : (found ++ Li).take 201 = found ++ Li := List.take_of_length_le (by rw [List.length_take] at h4; omega)
      rw [h5] at h4 ⊢
      have hm := hom_get (d := d) (x := o.getD (c.fr.getD i 0).toNat 0) (y := o.getD (c.to.getD i 0).toNat 0) (i := k) (by rw [hH]; exact hkH)
      obtain ⟨hty, hun⟩ := ha.hom hp hm
      have hx0 := (Cat.mem_hom.1 hm).1
      rw [hH] at hm hty hun hx0
      obtain ⟨L1, hL1⟩ := En.exists _ (Nat.le_refl _) hty
      have hE1 : EnP c d o p i H (k + 1) (Li ++ L1) := hEi.step hp ha (by rw [← hH]; exact Cat.hom_sorted) hkH hx0 hL1
      refine call_of (ret_spec_l01Own p (by omega)) rfl (.inl (nv_ints _)) ?_
      simp only [go_sem, Nat.reduceLT, Nat.reduceAdd, Nat.reduceSub, Nat.reduceBEq, Nat.reduceLeDiff, ↓reduceIte]
      refine ⟨hkH, hal, hal, e_call [11] false (ret_spec_l06Force c d o _ hc hd hty) (by exact ⟨by decide, rfl⟩) (by repeat (first | exact trivial | refine ⟨rfl, ?_⟩)) (by repeat (first | exact trivial | refine ⟨.inl rfl, ?_⟩ | refine ⟨.inr ⟨rfl, rfl⟩, ?_⟩)) ?_⟩
      rintro _ _ ⟨r, p1, ⟨hs1, hs2, hs3⟩, rfl, rfl⟩
      refine ⟨(by repeat (first | exact trivial | refine ⟨(fun h => by cases h), ?_⟩)), (fun h => by cases h), ?_⟩
      simp only [go_sem, Nat.reduceLT, Nat.reduceAdd, Nat.reduceSub, Nat.reduceBEq, Nat.reduceLeDiff, ↓reduceIte]
      refine ⟨fun hr => ?_, fun hr => ?_⟩
      · have hkn : ∀ j, j < i + 1 → 0 ≤ p1.getD j 0 := fun j hj => by
          have e : 0 ≤ (p.set i (H.getD k 0)).getD j 0 := by
            rw [set_get hal]; split
            · exact hx0
            · exact ha.bef j (by omega)
          rw [hs1.ext j e]; exact e
        have hp1l := hs1.ty.len
        refine e_call [12] true (ih p1 (i + 1) (found ++ Li) L1 (by have := hs1.neg; omega) hs1.ty (hs2 hr) hkn (by omega) (by omega) ((En.spr hs1).1 hL1)) (by exact ⟨by decide, rfl⟩) (by repeat (first | exact trivial | refine ⟨rfl, ?_⟩)) (by refine ⟨.inl rfl, .inl rfl, .inl rfl, .inr ⟨rfl, rfl⟩, .inl ?_, .inl rfl, trivial⟩; rw [wrap_lt hal (by simp only [maxLen]; omega)]; rfl) ?_
        rintro _ _ ⟨rfl, rfl⟩
        refine ⟨(by repeat (first | exact trivial | refine ⟨(fun h => by cases h), ?_⟩)), (fun _ => ⟨by simp only [D.tightX, D.tightC, nv_intss], rfl⟩), ?_⟩
        simp only [go_sem, Nat.reduceLT, Nat.reduceAdd, Nat.reduceSub, Nat.reduceBEq, ↓reduceIte]
        refine ⟨(k + 1, Li ++ L1, false), ⟨hkH, hE1⟩, by simp only; omega, by rw [wrap_lt hkH (by simp only [maxLen]; omega), ← List.append_assoc] <;> rfl⟩
      · have hL0 : L1 = [] := hL1.none (hs3 hr)
        subst hL0
        refine ⟨(k + 1, Li, true), ⟨hkH, by simpa using hE1⟩, by simp only; omega, by rw [wrap_lt hkH (by simp only [maxLen]; omega)]; simp only [cond_true, h5] <;> rfl⟩
    · refine ⟨_, _, ⟨rfl, rfl⟩, rfl, ?_, rfl, trivial⟩
      have hout : (found ++ L).take 201 = (found ++ Li).take 201 := by
        by_cases hkH : k < H.length
        · rw [decide_eq_true hkH, Bool.true_and, decide_eq_false_iff_not] at h3
          obtain ⟨R, hR⟩ := EnP.pre hp ha (by rw [hH]; exact hEi) (by rw [hH]; exact hk) hL
          rw [hR, ← List.append_assoc]
          exact take_more (by omega)
        · have hkk : k = H.length := by omega
          subst hkk
          rw [hL.eq (EnP.done hp ha (by rw [hH]; exact hEi))]
      rw [hout]; rfl

theorem ret_spec_l06Arrows (c d : Cat) (o : List Int) (hc : c.Shape) (hd : d.Shape) (ho : (o.length : Int) = c.ob) : ∀ (n : Nat) (p : List Int) (f : Nat) (found : List (List Int)) (L : List (List Int)),
    unk p < n → Typed c d o p → (∀ a b, a < c.fr.length → b < c.fr.length → Fit c d p a b) → (∀ j, j < f → 0 ≤ p.getD j 0) → f ≤ p.length → found.length ≤ 200 → En c d o p L →
    RetE Go.Proofs.Try.prog 166 [c.d, d.d, ints o, ints p, .int .i64 f, .sub 0 []] [.o (intss found)] (fun rc gs' => rc = .o (intss ((found ++ L).take 201)) ∧ gs' = [.dead]) := by
  intro n
  induction n with
  | zero => intro p f found L hn; omega
  | succ n ih =>
    intro p f found L hn hp hco hf hfl hl hL
    rcases fst_or p with ht | ⟨a, ha⟩
    · exact arrows_leaf c d o hc hd ho p f found L hp hco hfl hl hL ht
    · exact arrows_step c d o hc hd ho p f found L hp hco hf hl hL a ha fun p' f' found' L' h => ih p' f' found' L' (by omega)
end Go.D3

/- PLAIN LAWS: the images of identities are closed under composites. -/
namespace Go.D3
open Go

theorem isB_unit {c : Cat} (h : c.isB = true) {f : Nat} (hf : f < c.fr.length) : c.cellI (c.idI (c.fr.getD f 0)) f = f ∧ c.cellI f (c.idI (c.to.getD f 0)) = f := by
  simp only [Cat.isB, Bool.and_eq_true, beq_iff_eq] at h
  have h2 := h.2
  have hn : c.idF f = false := by
    cases hx : c.idF f with
    | false => rfl
    | true =>
      unfold Cat.faultF at h2
      split at h2
      · cases h2
      · rename_i hnone
        rw [List.findSome?_eq_none_iff] at hnone
        have := hnone f (by simpa using hf)
        rw [hx] at this; cases this
  simp only [Cat.idF, Bool.or_eq_false_iff, bne_eq_false_iff_eq] at hn
  exact hn
variable {c d : Cat}
/-- An identity's composite with itself. -/
theorem unit_self (hs : c.Shape) (h : c.isB = true) {x : Nat} (hx : x < c.idn.length) : c.cellI (c.idn.getD x 0) (c.idn.getD x 0) = c.idn.getD x 0 := by
  obtain ⟨a1, a2, a3, a4⟩ := id_ends hs hx
  have hu := (isB_unit h a2).1
  have e : c.idI (c.fr.getD (c.idn.getD x 0).toNat 0) = c.idn.getD x 0 := by rw [a3]; show c.idn.getD (x : Int).toNat 0 = _; rw [Int.toNat_natCast]
  rw [e, Int.toNat_of_nonneg a1] at hu
  exact hu
theorem idn_inj (hs : c.Shape) {x y : Nat} (hx : x < c.idn.length) (hy : y < c.idn.length) (h : (c.idn.getD x 0).toNat = (c.idn.getD y 0).toNat) : x = y := by
  obtain ⟨a1, a2, a3, _⟩ := id_ends hs hx
  obtain ⟨b1, b2, b3, _⟩ := id_ends hs hy
  rw [h] at a3; omega
theorem stF_at (hc : c.Shape) {o : List Int} : ∀ {k : Nat}, k ≤ c.idn.length → ∀ {x : Nat}, x < k → (stF c d o k).getD (c.idn.getD x 0).toNat 0 = d.idn.getD (o.getD x 0).toNat 0
  | 0, _, x, hx => by omega
  | k + 1, hk, x, hx => by
    obtain ⟨a1, a2, a3, _⟩ := id_ends hc (x := k) (by omega)
    rw [stF_succ, set_get (by rw [stF_len]; exact a2)]
    split
    · rename_i he
      rw [idn_inj hc (by omega) (by omega) he]
    · rename_i he
      have : x ≠ k := fun hh => he (by rw [hh])
      exact stF_at hc (by omega) (by omega)
theorem stF_known (hc : c.Shape) {o : List Int} : ∀ {k : Nat}, k ≤ c.idn.length → ∀ {i : Nat}, i < c.fr.length → 0 ≤ (stF c d o k).getD i 0 → ∃ x, x < k ∧ (c.idn.getD x 0).toNat = i
  | 0, _, i, hi, h => by rw [stF_zero, List.getD_eq_getElem?_getD, List.getElem?_replicate, if_pos hi] at h; exact absurd h (by decide)
  | k + 1, hk, i, hi, h => by
    obtain ⟨a1, a2, a3, _⟩ := id_ends hc (x := k) (by omega)
    rw [stF_succ, set_get (by rw [stF_len]; exact a2)] at h
    by_cases he : i = (c.idn.getD k 0).toNat
    · exact ⟨k, by omega, he.symm⟩
    · rw [if_neg he] at h
      obtain ⟨x, h1, h2⟩ := stF_known hc (by omega) hi h
      exact ⟨x, by omega, h2⟩
theorem stF_fit (hc : c.Shape) (hd : d.Shape) (hcb : c.isB = true) (hdb : d.isB = true) {o : List Int} (ho : Full c d o) : ∀ a b, a < c.fr.length → b < c.fr.length → Fit c d (stF c d o c.idn.length) a b := by
  intro a b ha hb h0 h1 h2
  obtain ⟨x, hx, hxa⟩ := stF_known hc (Nat.le_refl _) ha h1
  obtain ⟨y, hy, hyb⟩ := stF_known hc (Nat.le_refl _) hb h2
  obtain ⟨a1, a2, a3, a4⟩ := id_ends hc hx
  obtain ⟨b1, b2, b3, b4⟩ := id_ends hc hy
  have hcomp : c.to.getD a 0 = c.fr.getD b 0 := Classical.byContradiction fun hh => by
    have := hc.cell_out ha hb hh
    rw [cell_eq] at this
    omega
  have hxy : x = y := by rw [← hxa, ← hyb, a4, b3] at hcomp; omega
  subst hxy
  subst hxa
  subst hyb
  have e1 : c.cell (c.idn.getD x 0).toNat (c.idn.getD x 0).toNat = c.idn.getD x 0 := by
    rw [← cell_eq, Int.toNat_of_nonneg a1]; exact unit_self hc hcb hx
  have hr := ho.rng x (by have := ho.len; have := hc.idn; omega)
  rw [e1, stF_at hc (Nat.le_refl _) hx]
  exact (unit_self hd hdb (by have := hd.idn; omega)).symm
end Go.D3

/- CONTRACTS: the reference's lists of functors. -/
namespace Go.D3
open Go
set_option maxRecDepth 100000

theorem no_rooms {c d : Cat} (hc : c.Shape) {pre : List Int} (h : rmB c d pre = false) : ∀ P, Fn c d P → ¬ Agr pre P.1 := by
  intro P hP hA
  obtain ⟨i, hi, hb⟩ := allB_false h
  simp only [rmI, Bool.not_eq_false', Bool.and_eq_true, decide_eq_true_eq, beq_iff_eq] at hb
  obtain ⟨⟨h1, h2⟩, h3⟩ := hb
  have hf1 := mapB_get hc.frm hi
  have ht1 := mapB_get hc.tom (show i < c.to.length by have := hc.to; omega)
  refine no_hom hP hi ?_
  rw [hA.2 _ (by omega), hA.2 _ (by omega)]
  exact List.eq_nil_of_length_eq_zero (by omega)

-- spec.l06Search
def c_spec_l06Search : C :=
  (.seq (.ops [5, 6] [⟨none, .boxv 5 (.v 0)⟩,
    ⟨none, .boxv 5 (.v 1)⟩,
    ⟨none, .asg 4 (.k (.nils (.agg [.int .i64 0, ints [], ints [], ints [], intss [], .int .i64 0, ints [], ints [], ints [], intss [], ints [], ints []])))⟩] [(5, 0), (6, 1)])
  (.seq (.opc [] [⟨none, .lda 5 (.v 5)⟩,
    ⟨none, .lda 5 (.v 6)⟩,
    ⟨none, .mv (.v 2)⟩,
    ⟨none, .call 165 [(.t 0), (.t 1), (.t 2)]⟩,
    ⟨none, .not (.t 3)⟩] [] (.t 4) (.seq (.ops [] [⟨none, .mv (.v 3)⟩,
    ⟨none, .asg 4 (.t 0)⟩] [])
  .ret)
  .skip)
  (.seq (.opc [] [⟨none, .mv (.v 2)⟩,
    ⟨none, .len (.t 0)⟩,
    ⟨none, .fA 0 (.v 5)⟩,
    ⟨none, .ld (.t 2)⟩,
    ⟨none, .bin .eql (.t 1) (.t 3)⟩] [] (.t 4) (.seq (.ops [] [⟨none, .bldS (.int .i64 0) 0 []⟩,
    ⟨none, .asg 7 (.t 0)⟩] [])
  (.seq (.seq (.ops [] [⟨none, .asg 8 (.i 0)⟩] [])
  (.block 0 (.loop (.seq (.opc [] [⟨none, .mv (.v 8)⟩,
    ⟨none, .fA 1 (.v 5)⟩,
    ⟨none, .ld (.t 1)⟩,
    ⟨none, .len (.t 2)⟩,
    ⟨none, .bin .lss (.t 0) (.t 3)⟩] [] (.t 4) .skip
  (.exit 0))
  (.seq (.block 1 (.ops [] [⟨none, .mv (.v 7)⟩,
    ⟨none, .bldS (.int .i64 0) 1 [(0, (.i (-1)))]⟩,
    ⟨none, .app 1 8 (.t 0) (.t 1)⟩,
    ⟨none, .asg 7 (.t 2)⟩] []))
  (.ops [] [⟨none, .mv (.v 8)⟩,
    ⟨none, .bin .add (.t 0) (.i 1)⟩,
    ⟨none, .asg 8 (.t 1)⟩] []))))))
  (.seq (.seq (.ops [] [⟨none, .asg 9 (.i 0)⟩] [])
  (.block 2 (.loop (.seq (.opc [] [⟨none, .mv (.v 9)⟩,
    ⟨none, .mv (.v 2)⟩,
    ⟨none, .len (.t 1)⟩,
    ⟨none, .bin .lss (.t 0) (.t 2)⟩] [] (.t 3) .skip
  (.exit 2))
  (.seq (.block 3 (.ops [] [⟨none, .mv (.v 7)⟩,
    ⟨none, .fA 3 (.v 5)⟩,
    ⟨none, .ld (.t 1)⟩,
    ⟨none, .mv (.v 9)⟩,
    ⟨none, .idxA 1 (.t 2) (.t 3)⟩,
    ⟨none, .ld (.t 4)⟩,
    ⟨none, .fA 3 (.v 6)⟩,
    ⟨none, .ld (.t 6)⟩,
    ⟨none, .mv (.v 2)⟩,
    ⟨none, .mv (.v 9)⟩,
    ⟨none, .idxA 1 (.t 8) (.t 9)⟩,
    ⟨none, .ld (.t 10)⟩,
    ⟨none, .idxA 1 (.t 7) (.t 11)⟩,
    ⟨none, .ld (.t 12)⟩,
    ⟨none, .idxA 1 (.t 0) (.t 5)⟩,
    ⟨none, .st (.t 14) (.t 13)⟩] []))
  (.ops [] [⟨none, .mv (.v 9)⟩,
    ⟨none, .bin .add (.t 0) (.i 1)⟩,
    ⟨none, .asg 9 (.t 1)⟩] []))))))
  (.seq (.ops [] [⟨none, .lda 5 (.v 5)⟩,
    ⟨none, .lda 5 (.v 6)⟩,
    ⟨none, .mv (.v 2)⟩,
    ⟨none, .mv (.v 7)⟩,
    ⟨none, .bldS (ints []) 0 []⟩,
    ⟨none, .dyn (.k (.fn 166 [])) [(.t 0), (.t 1), (.t 2), (.t 3), (.i 0), (.t 4)]⟩,
    ⟨none, .asg 10 (.t 5)⟩] [])
  (.seq (.seq (.ops [] [⟨none, .asg 11 (.i 0)⟩] [])
  (.block 4 (.loop (.seq (.opc [] [⟨none, .mv (.v 11)⟩,
    ⟨none, .mv (.v 10)⟩,
    ⟨none, .len (.t 1)⟩,
    ⟨none, .bin .lss (.t 0) (.t 2)⟩,
    ⟨none, .mv (.t 3)⟩,
    ⟨some (4, true), .mv (.v 3)⟩,
    ⟨some (4, true), .len (.t 5)⟩,
    ⟨some (4, true), .bin .leq (.t 6) (.i 200)⟩,
    ⟨none, .pick (.t 4) (.t 7) (.k (.bool false))⟩] [] (.t 8) .skip
  (.exit 4))
  (.seq (.block 5 (.ops [] [⟨none, .mv (.v 3)⟩,
    ⟨none, .lda 5 (.v 5)⟩,
    ⟨none, .lda 5 (.v 6)⟩,
    ⟨none, .mv (.v 2)⟩,
    ⟨none, .mv (.v 10)⟩,
    ⟨none, .mv (.v 11)⟩,
    ⟨none, .idxA 1 (.t 4) (.t 5)⟩,
    ⟨none, .ld (.t 6)⟩,
    ⟨none, .call 106 [(.t 1), (.t 2), (.t 3), (.t 7)]⟩,
    ⟨none, .bldS (.agg [.int .i64 0, ints [], ints [], ints [], intss [], .int .i64 0, ints [], ints [], ints [], intss [], ints [], ints []]) 1 [(0, (.t 8))]⟩,
    ⟨none, .app 12 256 (.t 0) (.t 9)⟩,
    ⟨none, .asg 3 (.t 10)⟩] []))
  (.ops [] [⟨none, .mv (.v 11)⟩,
    ⟨none, .bin .add (.t 0) (.i 1)⟩,
    ⟨none, .asg 11 (.t 1)⟩] []))))))
  (.seq (.ops [] [⟨none, .mv (.v 3)⟩,
    ⟨none, .asg 4 (.t 0)⟩] [])
  .ret))))))
  .skip)
  (.seq (.seq (.ops [] [⟨none, .asg 12 (.i 0)⟩] [])
  (.block 6 (.loop (.seq (.opc [] [⟨none, .mv (.v 12)⟩,
    ⟨none, .fA 0 (.v 6)⟩,
    ⟨none, .ld (.t 1)⟩,
    ⟨none, .bin .lss (.t 0) (.t 2)⟩,
    ⟨none, .mv (.t 3)⟩,
    ⟨some (4, true), .mv (.v 3)⟩,
    ⟨some (4, true), .len (.t 5)⟩,
    ⟨some (4, true), .bin .leq (.t 6) (.i 200)⟩,
    ⟨none, .pick (.t 4) (.t 7) (.k (.bool false))⟩] [] (.t 8) .skip
  (.exit 6))
  (.seq (.block 7 (.ops [] [⟨none, .lda 5 (.v 5)⟩,
    ⟨none, .lda 5 (.v 6)⟩,
    ⟨none, .mv (.v 2)⟩,
    ⟨none, .call 154 [(.t 2)]⟩,
    ⟨none, .mv (.v 12)⟩,
    ⟨none, .bldS (.int .i64 0) 1 [(0, (.t 4))]⟩,
    ⟨none, .apt 1 8 3 5⟩,
    ⟨none, .mv (.v 3)⟩,
    ⟨none, .dyn (.k (.fn 132 [])) [(.t 0), (.t 1), (.t 6), (.t 7)]⟩,
    ⟨none, .asg 3 (.t 8)⟩] []))
  (.ops [] [⟨none, .mv (.v 12)⟩,
    ⟨none, .bin .add (.t 0) (.i 1)⟩,
    ⟨none, .asg 12 (.t 1)⟩] []))))))
  (.seq (.ops [] [⟨none, .mv (.v 3)⟩,
    ⟨none, .asg 4 (.t 0)⟩] [])
  .ret)))))
def tr_spec_l06Search : List Nat := [0, 1, 2, 3, 8, 4, 5, 9, 10, 11, 12, 13, 14]
def rs_spec_l06Search : List RS := [.t 4]
theorem ok_spec_l06Search : fnOk Go.Proofs.Try.prog Go.Proofs.Try.f132 tr_spec_l06Search c_spec_l06Search 4 rs_spec_l06Search = true := by decide +kernel

theorem search_leaf (c d : Cat) (hc : c.Shape) (hd : d.Shape) (hcb : c.isB = true) (hdb : d.isB = true) (hcc : Cat.cost c ≤ 1048576) (hcd : Cat.cost d ≤ 1048576) (o : List Int) (found : List Ftr) (L : List (List Int × List Int))
    (ho : Full c d o) (hl : found.length ≤ 200) (hL : EnO c d o L) :
    RetE Go.Proofs.Try.prog 132 [c.d, d.d, ints o, .sub 0 []] [.o (ftrs found)] (fun rc gs' => rc = .o (ftrs ((found ++ mkO c d L).take 201)) ∧ gs' = [.dead]) := by
  have hfl := hc.fr
  have hdl := hd.fr
  have hob := hc.ob8
  have hci := hc.idn
  have hdi := hd.idn
  have hol := ho.len
  have hty := stF_typed hc hd ho (Nat.le_refl _)
  obtain ⟨L1, hL1⟩ := En.exists _ (Nat.le_refl _) hty
  have hLL : L = L1.map fun F => (o, F) := hL.eq (EnO.leaf ho hL1)
  subst hLL
  rw [mkO_leaf]
  refine ret_fnE .tree Go.Proofs.Try.func132 rfl ok_spec_l06Search rfl ⟨by simp only [List.length_cons, List.length_nil]; decide, by simp only [List.length_cons, List.length_nil]; decide⟩ rfl ?_; unfold c_spec_l06Search tr_spec_l06Search rs_spec_l06Search; simp only [go_sem, Nat.reduceLT, Nat.reduceAdd, Nat.reduceSub, Nat.reduceBEq, Nat.reduceLeDiff, ↓reduceIte]
  refine call_of (ret_spec_l06Rooms c d hc hd o) rfl (.inl rfl) ?_
  simp only [go_sem, Nat.reduceLT, Nat.reduceAdd, Nat.reduceSub, Nat.reduceBEq, Nat.reduceLeDiff, ↓reduceIte]
  refine ⟨fun h => ?_, fun h => ⟨fun _ => ?_, fun h2 => by rw [hol] at h2; simp at h2⟩⟩
  · simp only [Bool.not_eq_true'] at h
    have hn := hL.none (no_rooms hc h)
    have hL0 : L1 = [] := by simpa using hn
    subst hL0
    refine ⟨_, _, ⟨rfl, rfl⟩, rfl, ?_, rfl, trivial⟩
    simp only [mkF, List.map_nil, List.append_nil]
    rw [List.take_of_length_le (by omega)]; rfl
  refine loop_set [] (fun k : Nat => [(8, .int .i64 k), (7, .o (ints (List.replicate k (-1))))]) (fun k => k ≤ c.fr.length) (fun k => c.fr.length - k) 0 (by simp only [go_sem]; rfl) (Nat.zero_le _) rfl ?_
  rintro k hk
  simp only [go_sem, Nat.reduceLT, Nat.reduceAdd, Nat.reduceSub, Nat.reduceBEq, Nat.reduceLeDiff, ↓reduceIte]
  refine ⟨fun h2 => ⟨by rw [List.length_replicate]; omega, k + 1, h2, by omega, by rw [wrap_lt h2 (by simp only [maxLen]; omega), List.replicate_succ'] <;> rfl⟩, fun h2 => ?_⟩
  have hkk : k = c.fr.length := by omega
  subst hkk
  rw [← stF_zero (c := c) (d := d) (o := o)]
  refine loop_set [] (fun k : Nat => [(9, .int .i64 k), (7, .o (ints (stF c d o k)))]) (fun k => k ≤ o.length) (fun k => o.length - k) 0 (by simp only [go_sem]; rfl) (Nat.zero_le _) rfl ?_
  rintro k hk
  simp only [go_sem, Nat.reduceLT, Nat.reduceAdd, Nat.reduceSub, Nat.reduceBEq, Nat.reduceLeDiff, ↓reduceIte]
  refine ⟨fun h2 => ?_, fun h2 => ?_⟩
  · have hkc : k < c.idn.length := by omega
    obtain ⟨a1, a2, a3, a4⟩ := id_ends hc hkc
    have hr := ho.rng k (by omega)
    have hsl : (stF c d o k).length = c.fr.length := stF_len
    refine ⟨hkc, h2, ⟨hr.1, by omega⟩, ⟨a1, by omega⟩, by omega, k + 1, h2, by omega, ?_⟩
    rw [wrap_lt h2 (by simp only [maxLen]; omega), ← stF_succ] <;> rfl
  have hkk : k = c.idn.length := by omega
  subst hkk
  have hstl : (stF c d o c.idn.length).length = c.fr.length := stF_len
  refine e_call [1004] true (ret_spec_l06Arrows c d o hc hd hol _ _ 0 [] L1 (Nat.lt_succ_self _) hty (stF_fit hc hd hcb hdb ho) (fun j hj => absurd hj (Nat.not_lt_zero _)) (Nat.zero_le _) (Nat.zero_le _) hL1) (by exact ⟨by decide, rfl⟩) (by repeat (first | exact trivial | refine ⟨rfl, ?_⟩)) (by repeat (first | exact trivial | refine ⟨.inl rfl, ?_⟩ | refine ⟨.inr ⟨rfl, rfl⟩, ?_⟩)) ?_
  rintro _ _ ⟨rfl, rfl⟩
  refine ⟨(by repeat (first | exact trivial | refine ⟨(fun h => by cases h), ?_⟩)), (fun _ => ⟨by simp only [D.tightX, D.tightC, nv_intss], rfl⟩), ?_⟩
  simp only [go_sem, Nat.reduceLT, Nat.reduceAdd, Nat.reduceSub, Nat.reduceBEq, Nat.reduceLeDiff, ↓reduceIte]
  have hll : ((L1.take 201).length) = min 201 L1.length := List.length_take
  refine loop_set [] (fun s : Nat × Bool => [(11, .int .i64 s.1), (3, bif s.2 then .sub 13 [] else .o (ftrs (found ++ mkF c d o (L1.take s.1)))), (13, bif s.2 then .o (ftrs (found ++ mkF c d o (L1.take s.1))) else .dead)])
    (fun s => s.1 ≤ (L1.take 201).length ∧ (found ++ mkF c d o (L1.take s.1)).length ≤ 201) (fun s => (L1.take 201).length - s.1) (0, true) (by simp only [go_sem]; rfl) ⟨Nat.zero_le _, by simp [mkF]; omega⟩ (by simp only [List.take_zero, mkF, List.map_nil, List.append_nil]; rfl) ?_
  rintro ⟨k, fst⟩ ⟨hk2, hk3⟩
  simp only at hk2 hk3
  cases fst
  · simp only [cond_false]
    simp only [go_sem, Nat.reduceLT, Nat.reduceAdd, Nat.reduceSub, Nat.reduceBEq, Nat.reduceLeDiff, ↓reduceIte]
    refine ⟨fun h3 => ?_, fun h3 => ?_⟩
    · simp only [Bool.and_eq_true, decide_eq_true_eq] at h3
      obtain ⟨hkl, h4⟩ := h3
      have hkL : k < L1.length := by omega
      have hF : (L1.take 201).getD k [] = L1[k] := by
        rw [List.getD_eq_getElem?_getD, List.getElem?_take_of_lt (by omega), List.getElem?_eq_getElem hkL]; rfl
      have hFl : L1[k].length = c.fr.length := ((hL1.2 _).1 (List.getElem_mem hkL)).1.ty.len
      have hstep : L1.take (k + 1) = L1.take k ++ [L1[k]] := (List.take_append_getElem hkL).symm
      rw [hF]
      refine ⟨hkl, call_of (ret_spec_l06Make c d o L1[k] hcc hcd (by omega) (by omega)) rfl (.inl (nv_Ftr _)) ?_⟩
      simp only [go_sem, Nat.reduceLT, Nat.reduceAdd, Nat.reduceSub, Nat.reduceEqDiff, Nat.reduceBEq, Nat.reduceLeDiff, ↓reduceIte]
      refine ⟨by omega, (k + 1, false), ⟨hkl, by rw [hstep, mkF_app, ← List.append_assoc, List.length_append]; simp only [mkF, List.map_cons, List.map_nil, List.length_cons, List.length_nil]; simp only [mkF] at h4; omega⟩, by simp only; omega, ?_⟩
      simp only [cond_false]
      rw [wrap_lt hkl (by simp only [maxLen]; omega), hstep, mkF_app, ← List.append_assoc] <;> rfl
    · refine ⟨_, _, ⟨rfl, rfl⟩, rfl, ?_, rfl, trivial⟩
      have hout : (found ++ mkF c d o L1).take 201 = found ++ mkF c d o (L1.take k) := by
        have hsp : found ++ mkF c d o L1 = (found ++ mkF c d o (L1.take k)) ++ mkF c d o (L1.drop k) := by rw [List.append_assoc, ← mkF_app, List.take_append_drop]
        by_cases hkl : k < (L1.take 201).length
        · rw [decide_eq_true hkl, Bool.true_and, decide_eq_false_iff_not] at h3
          rw [hsp, List.take_append_of_le_length (by omega), List.take_of_length_le (by omega)]
        · by_cases hL2 : L1.length ≤ 201
          · have : L1.take k = L1 := List.take_of_length_le (by omega)
            rw [this] at hk3 ⊢
            exact List.take_of_length_le (by omega)
          · have hk201 : k = 201 := by omega
            have hlen : (mkF c d o (L1.take k)).length = 201 := by simp only [mkF, List.length_map, List.length_take]; omega
            rw [hsp, List.take_append_of_le_length (by rw [List.length_append]; omega), List.take_of_length_le (by omega)]
      rw [hout]; rfl
  · simp only [cond_true]
    simp only [go_sem, Nat.reduceLT, Nat.reduceAdd, Nat.reduceSub, Nat.reduceBEq, Nat.reduceLeDiff, ↓reduceIte]
    refine ⟨fun h3 => ?_, fun h3 => ?_⟩
    · simp only [Bool.and_eq_true, decide_eq_true_eq] at h3
      obtain ⟨hkl, h4⟩ := h3
      have hkL : k < L1.length := by omega
      have hF : (L1.take 201).getD k [] = L1[k] := by
        rw [List.getD_eq_getElem?_getD, List.getElem?_take_of_lt (by omega), List.getElem?_eq_getElem hkL]; rfl
      have hFl : L1[k].length = c.fr.length := ((hL1.2 _).1 (List.getElem_mem hkL)).1.ty.len
      have hstep : L1.take (k + 1) = L1.take k ++ [L1[k]] := (List.take_append_getElem hkL).symm
      rw [hF]
      refine ⟨hkl, call_of (ret_spec_l06Make c d o L1[k] hcc hcd (by omega) (by omega)) rfl (.inl (nv_Ftr _)) ?_⟩
      simp only [go_sem, Nat.reduceLT, Nat.reduceAdd, Nat.reduceSub, Nat.reduceEqDiff, Nat.reduceBEq, Nat.reduceLeDiff, ↓reduceIte]
      refine ⟨by omega, (k + 1, false), ⟨hkl, by rw [hstep, mkF_app, ← List.append_assoc, List.length_append]; simp only [mkF, List.map_cons, List.map_nil, List.length_cons, List.length_nil]; simp only [mkF] at h4; omega⟩, by simp only; omega, ?_⟩
      simp only [cond_false]
      rw [wrap_lt hkl (by simp only [maxLen]; omega), hstep, mkF_app, ← List.append_assoc] <;> rfl
    · refine ⟨_, _, ⟨rfl, rfl⟩, rfl, ?_, rfl, trivial⟩
      have hout : (found ++ mkF c d o L1).take 201 = found ++ mkF c d o (L1.take k) := by
        have hsp : found ++ mkF c d o L1 = (found ++ mkF c d o (L1.take k)) ++ mkF c d o (L1.drop k) := by rw [List.append_assoc, ← mkF_app, List.take_append_drop]
        by_cases hkl : k < (L1.take 201).length
        · rw [decide_eq_true hkl, Bool.true_and, decide_eq_false_iff_not] at h3
          rw [hsp, List.take_append_of_le_length (by omega), List.take_of_length_le (by omega)]
        · by_cases hL2 : L1.length ≤ 201
          · have : L1.take k = L1 := List.take_of_length_le (by omega)
            rw [this] at hk3 ⊢
            exact List.take_of_length_le (by omega)
          · have hk201 : k = 201 := by omega
            have hlen : (mkF c d o (L1.take k)).length = 201 := by simp only [mkF, List.length_map, List.length_take]; omega
            rw [hsp, List.take_append_of_le_length (by rw [List.length_append]; omega), List.take_of_length_le (by omega)]
      rw [hout]; rfl

theorem search_step (c d : Cat) (hc : c.Shape) (hd : d.Shape) (pre : List Int) (found : List Ftr) (L : List (List Int × List Int))
    (hpre : (pre.length : Int) < c.ob) (hrg : ∀ i, i < pre.length → 0 ≤ pre.getD i 0 ∧ pre.getD i 0 < d.ob) (hl : found.length ≤ 200) (hL : EnO c d pre L)
    (ih : ∀ (y : Nat) (found' : List Ftr) (L' : List (List Int × List Int)), (y : Int) < d.ob → found'.length ≤ 200 → EnO c d (pre ++ [(y : Int)]) L' →
      RetE Go.Proofs.Try.prog 132 [c.d, d.d, ints (pre ++ [(y : Int)]), .sub 0 []] [.o (ftrs found')] (fun rc gs' => rc = .o (ftrs ((found' ++ mkO c d L').take 201)) ∧ gs' = [.dead])) :
    RetE Go.Proofs.Try.prog 132 [c.d, d.d, ints pre, .sub 0 []] [.o (ftrs found)] (fun rc gs' => rc = .o (ftrs ((found ++ mkO c d L).take 201)) ∧ gs' = [.dead]) := by
  have hfl := hc.fr
  have hob := hc.ob8
  have hdo := hd.ob8
  have hd0 := hd.ob0
  refine ret_fnE .tree Go.Proofs.Try.func132 rfl ok_spec_l06Search rfl ⟨by simp only [List.length_cons, List.length_nil]; decide, by simp only [List.length_cons, List.length_nil]; decide⟩ rfl ?_; unfold c_spec_l06Search tr_spec_l06Search rs_spec_l06Search; simp only [go_sem, Nat.reduceLT, Nat.reduceAdd, Nat.reduceSub, Nat.reduceBEq, Nat.reduceLeDiff, ↓reduceIte]
  refine call_of (ret_spec_l06Rooms c d hc hd pre) rfl (.inl rfl) ?_
  simp only [go_sem, Nat.reduceLT, Nat.reduceAdd, Nat.reduceSub, Nat.reduceBEq, Nat.reduceLeDiff, ↓reduceIte]
  refine ⟨fun h => ?_, fun h => ⟨fun h2 => by omega, fun h2 => ?_⟩⟩
  · simp only [Bool.not_eq_true'] at h
    have hL0 : L = [] := hL.none (no_rooms hc h)
    subst hL0
    refine ⟨_, _, ⟨rfl, rfl⟩, rfl, ?_, rfl, trivial⟩
    simp only [mkO, List.map_nil, List.append_nil]
    rw [List.take_of_length_le (by omega)]; rfl
  refine loop_set [] (fun s : Nat × List (List Int × List Int) × Bool => [(12, .int .i64 s.1), (3, bif s.2.2 then .sub 13 [] else .o (ftrs ((found ++ mkO c d s.2.1).take 201))), (13, bif s.2.2 then .o (ftrs ((found ++ mkO c d s.2.1).take 201)) else .dead)])
    (fun s => (s.1 : Int) ≤ d.ob ∧ EnOP c d pre s.1 s.2.1) (fun s => d.ob.toNat - s.1) (0, [], true) (by simp only [go_sem]; rfl) ⟨by simpa using hd0, EnOP.zero hpre⟩ (by simp only [mkO, List.map_nil, List.append_nil, List.take_of_length_le (show found.length ≤ 201 by omega)]; rfl) ?_
  rintro ⟨y, Li, fst⟩ ⟨hy, hEi⟩
  simp only at hy hEi
  cases fst
  · simp only [cond_false]
    simp only [go_sem, Nat.reduceLT, Nat.reduceAdd, Nat.reduceSub, Nat.reduceBEq, Nat.reduceLeDiff, ↓reduceIte]
    refine ⟨fun h3 => ?_, fun h3 => ?_⟩
    · simp only [Bool.and_eq_true, decide_eq_true_eq] at h3
      obtain ⟨hyd, h4⟩ := h3
      have h5 : (found ++ mkO c d Li).take 201 = found ++ mkO c d Li := List.take_of_length_le (by rw [List.length_take] at h4; omega)
      rw [h5] at h4 ⊢
      obtain ⟨L1, hL1⟩ := EnO.exists hc hd (c.ob.toNat - pre.length - 1) (pre := pre ++ [(y : Int)]) (by simp; omega) (snoc_rng hrg hyd)
      have hE1 : EnOP c d pre (y + 1) (Li ++ L1) := hEi.step hpre hL1
      refine call_of (ret_spec_l01Own pre (by omega)) rfl (.inl (nv_ints _)) ?_
      simp only [go_sem, Nat.reduceLT, Nat.reduceAdd, Nat.reduceSub, Nat.reduceEqDiff, ↓reduceIte]
      refine ⟨by omega, ?_⟩
      refine e_call [3] true (ih y (found ++ mkO c d Li) L1 hyd (by omega) hL1) (by exact ⟨by decide, rfl⟩) (by repeat (first | exact trivial | refine ⟨rfl, ?_⟩)) (by repeat (first | exact trivial | refine ⟨.inl rfl, ?_⟩ | refine ⟨.inr ⟨rfl, rfl⟩, ?_⟩)) ?_
      rintro _ _ ⟨rfl, rfl⟩
      refine ⟨(by repeat (first | exact trivial | refine ⟨(fun h => by cases h), ?_⟩)), (fun _ => ⟨by simp only [D.tightX, D.tightC, nv_lst nv_Ftr], rfl⟩), ?_⟩
      simp only [go_sem, Nat.reduceLT, Nat.reduceAdd, Nat.reduceSub, Nat.reduceBEq, ↓reduceIte]
      refine ⟨(y + 1, Li ++ L1, false), ⟨by simp only; omega, hE1⟩, by simp only; omega, ?_⟩
      simp only [cond_false]
      rw [wrap_lt (n := d.ob.toNat) (by omega) (by simp only [maxLen]; omega), mkO_app, ← List.append_assoc] <;> rfl
    · refine ⟨_, _, ⟨rfl, rfl⟩, rfl, ?_, rfl, trivial⟩
      have hout : (found ++ mkO c d L).take 201 = (found ++ mkO c d Li).take 201 := by
        by_cases hyd : (y : Int) < d.ob
        · rw [decide_eq_true hyd, Bool.true_and, decide_eq_false_iff_not] at h3
          obtain ⟨R, hR⟩ := EnOP.pre hc hd hpre hrg hEi hy hL
          rw [hR, mkO_app, ← List.append_assoc]
          exact take_more (by omega)
        · rw [hL.eq (EnOP.done hpre (by omega) hEi)]
      rw [hout]; rfl
  · simp only [cond_true]
    simp only [go_sem, Nat.reduceLT, Nat.reduceAdd, Nat.reduceSub, Nat.reduceBEq, Nat.reduceLeDiff, ↓reduceIte]
    refine ⟨fun h3 => ?_, fun h3 => ?_⟩
    · simp only [Bool.and_eq_true, decide_eq_true_eq] at h3
      obtain ⟨hyd, h4⟩ := h3
      have h5 : (found ++ mkO c d Li).take 201 = found ++ mkO c d Li := List.take_of_length_le (by rw [List.length_take] at h4; omega)
      rw [h5] at h4 ⊢
      obtain ⟨L1, hL1⟩ := EnO.exists hc hd (c.ob.toNat - pre.length - 1) (pre := pre ++ [(y : Int)]) (by simp; omega) (snoc_rng hrg hyd)
      have hE1 : EnOP c d pre (y + 1) (Li ++ L1) := hEi.step hpre hL1
      refine call_of (ret_spec_l01Own pre (by omega)) rfl (.inl (nv_ints _)) ?_
      simp only [go_sem, Nat.reduceLT, Nat.reduceAdd, Nat.reduceSub, Nat.reduceEqDiff, ↓reduceIte]
      refine ⟨by omega, ?_⟩
      refine e_call [13] true (ih y (found ++ mkO c d Li) L1 hyd (by omega) hL1) (by exact ⟨by decide, rfl⟩) (by repeat (first | exact trivial | refine ⟨rfl, ?_⟩)) (by repeat (first | exact trivial | refine ⟨.inl rfl, ?_⟩ | refine ⟨.inr ⟨rfl, rfl⟩, ?_⟩)) ?_
      rintro _ _ ⟨rfl, rfl⟩
      refine ⟨(by repeat (first | exact trivial | refine ⟨(fun h => by cases h), ?_⟩)), (fun _ => ⟨by simp only [D.tightX, D.tightC, nv_lst nv_Ftr], rfl⟩), ?_⟩
      simp only [go_sem, Nat.reduceLT, Nat.reduceAdd, Nat.reduceSub, Nat.reduceBEq, ↓reduceIte]
      refine ⟨(y + 1, Li ++ L1, false), ⟨by simp only; omega, hE1⟩, by simp only; omega, ?_⟩
      simp only [cond_false]
      rw [wrap_lt (n := d.ob.toNat) (by omega) (by simp only [maxLen]; omega), mkO_app, ← List.append_assoc] <;> rfl
    · refine ⟨_, _, ⟨rfl, rfl⟩, rfl, ?_, rfl, trivial⟩
      have hout : (found ++ mkO c d L).take 201 = (found ++ mkO c d Li).take 201 := by
        by_cases hyd : (y : Int) < d.ob
        · rw [decide_eq_true hyd, Bool.true_and, decide_eq_false_iff_not] at h3
          obtain ⟨R, hR⟩ := EnOP.pre hc hd hpre hrg hEi hy hL
          rw [hR, mkO_app, ← List.append_assoc]
          exact take_more (by omega)
        · rw [hL.eq (EnOP.done hpre (by omega) hEi)]
      rw [hout]; rfl

theorem ret_spec_l06Search (c d : Cat) (hc : c.Shape) (hd : d.Shape) (hcb : c.isB = true) (hdb : d.isB = true) (hcc : Cat.cost c ≤ 1048576) (hcd : Cat.cost d ≤ 1048576) : ∀ (n : Nat) (pre : List Int) (found : List Ftr) (L : List (List Int × List Int)),
    (pre.length : Int) + n = c.ob → (∀ i, i < pre.length → 0 ≤ pre.getD i 0 ∧ pre.getD i 0 < d.ob) → found.length ≤ 200 → EnO c d pre L →
    RetE Go.Proofs.Try.prog 132 [c.d, d.d, ints pre, .sub 0 []] [.o (ftrs found)] (fun rc gs' => rc = .o (ftrs ((found ++ mkO c d L).take 201)) ∧ gs' = [.dead]) := by
  intro n
  induction n with
  | zero =>
    intro pre found L hn hr hl hL
    exact search_leaf c d hc hd hcb hdb hcc hcd pre found L ⟨by omega, hr⟩ hl hL
  | succ n ih =>
    intro pre found L hn hr hl hL
    refine search_step c d hc hd pre found L (by omega) hr hl hL fun y found' L' hy hl' hL' => ?_
    exact ih (pre ++ [(y : Int)]) found' L' (by simp; omega) (snoc_rng hr hy) hl' hL'
end Go.D3

/- CONTRACTS: the reference's AllFunctors and CountFunctors. -/
namespace Go.D3
open Go
set_option maxRecDepth 100000

-- spec.l06All
def c_spec_l06All : C :=
  (.seq (.ops [3, 4] [⟨none, .boxv 5 (.v 0)⟩,
    ⟨none, .boxv 5 (.v 1)⟩,
    ⟨none, .asg 2 (.k (.nils (.agg [.int .i64 0, ints [], ints [], ints [], intss [], .int .i64 0, ints [], ints [], ints [], intss [], ints [], ints []])))⟩] [(3, 0), (4, 1)])
  (.seq (.ops [] [⟨none, .lda 5 (.v 3)⟩,
    ⟨none, .lda 5 (.v 4)⟩,
    ⟨none, .bldS (.int .i64 0) 0 []⟩,
    ⟨none, .bldS (.agg [.int .i64 0, ints [], ints [], ints [], intss [], .int .i64 0, ints [], ints [], ints [], intss [], ints [], ints []]) 0 []⟩,
    ⟨none, .dyn (.k (.fn 132 [])) [(.t 0), (.t 1), (.t 2), (.t 3)]⟩,
    ⟨none, .asg 2 (.t 4)⟩] [])
  .ret))
def tr_spec_l06All : List Nat := [0, 1, 4, 2, 3]
def rs_spec_l06All : List RS := [.t 2]
theorem ok_spec_l06All : fnOk Go.Proofs.Try.prog Go.Proofs.Try.f88 tr_spec_l06All c_spec_l06All 2 rs_spec_l06All = true := by decide +kernel

theorem ret_spec_l06All (c d : Cat) (hc : c.Shape) (hd : d.Shape) (hcb : c.isB = true) (hdb : d.isB = true) (hcc : Cat.cost c ≤ 1048576) (hcd : Cat.cost d ≤ 1048576) (L : List (List Int × List Int)) (hL : EnO c d [] L) :
    Ret Go.Proofs.Try.prog 88 [.v c.d, .v d.d] (ftrs ((mkO c d L).take 201)) := by
  have hob0 := hc.ob0
  refine ret_fn Go.Proofs.Try.func88 ok_spec_l06All rfl (show 2 < 500 by decide) rfl ?_; unfold c_spec_l06All tr_spec_l06All rs_spec_l06All; simp only [go_sem, Nat.reduceLT, Nat.reduceAdd, Nat.reduceSub, Nat.reduceLeDiff, ↓reduceIte]
  refine e_call [1003] true (ret_spec_l06Search c d hc hd hcb hdb hcc hcd c.ob.toNat [] [] L (by simp only [List.length_nil]; omega) (fun i hi => absurd hi (Nat.not_lt_zero _)) (Nat.zero_le _) hL) (by exact ⟨by decide, rfl⟩) (by repeat (first | exact trivial | refine ⟨rfl, ?_⟩)) (by repeat (first | exact trivial | refine ⟨.inl rfl, ?_⟩ | refine ⟨.inr ⟨rfl, rfl⟩, ?_⟩)) ?_
  rintro _ _ ⟨rfl, rfl⟩
  refine ⟨(by repeat (first | exact trivial | refine ⟨(fun h => by cases h), ?_⟩)), (fun _ => ⟨by simp only [D.tightX, D.tightC, nv_lst nv_Ftr], rfl⟩), ?_⟩
  simp only [go_sem, Nat.reduceLT, Nat.reduceAdd, Nat.reduceSub, ↓reduceIte]
-- spec.AllFunctors
def c_spec_AllFunctors : C :=
  (.seq (.ops [4, 5] [⟨none, .boxv 5 (.v 0)⟩,
    ⟨none, .boxv 5 (.v 1)⟩,
    ⟨none, .asg 2 (.k (.nils (.agg [.int .i64 0, ints [], ints [], ints [], intss [], .int .i64 0, ints [], ints [], ints [], intss [], ints [], ints []])))⟩,
    ⟨none, .asg 3 (.i 0)⟩] [(4, 0), (5, 1)])
  (.seq (.opc [] [⟨none, .lda 5 (.v 4)⟩,
    ⟨none, .call 51 [(.t 0)]⟩,
    ⟨none, .not (.t 1)⟩,
    ⟨none, .mv (.t 2)⟩,
    ⟨some (3, false), .lda 5 (.v 5)⟩,
    ⟨some (3, false), .call 51 [(.t 4)]⟩,
    ⟨some (3, false), .not (.t 5)⟩,
    ⟨none, .pick (.t 3) (.k (.bool true)) (.t 6)⟩] [] (.t 7) (.seq (.ops [] [⟨none, .asg 2 (.k (.nils (.agg [.int .i64 0, ints [], ints [], ints [], intss [], .int .i64 0, ints [], ints [], ints [], intss [], ints [], ints []])))⟩,
    ⟨none, .asg 3 (.i 1)⟩] [])
  .ret)
  .skip)
  (.seq (.opc [] [⟨none, .lda 5 (.v 4)⟩,
    ⟨none, .lda 5 (.v 5)⟩,
    ⟨none, .call 87 [(.t 0), (.t 1)]⟩,
    ⟨none, .not (.t 2)⟩] [] (.t 3) (.seq (.ops [] [⟨none, .asg 2 (.k (.nils (.agg [.int .i64 0, ints [], ints [], ints [], intss [], .int .i64 0, ints [], ints [], ints [], intss [], ints [], ints []])))⟩,
    ⟨none, .asg 3 (.i 3)⟩] [])
  .ret)
  .skip)
  (.seq (.ops [] [⟨none, .lda 5 (.v 4)⟩,
    ⟨none, .lda 5 (.v 5)⟩,
    ⟨none, .call 88 [(.t 0), (.t 1)]⟩,
    ⟨none, .asg 6 (.t 2)⟩] [])
  (.seq (.opc [] [⟨none, .mv (.v 6)⟩,
    ⟨none, .len (.t 0)⟩,
    ⟨none, .bin .gtr (.t 1) (.i 200)⟩] [] (.t 2) (.seq (.ops [] [⟨none, .asg 2 (.k (.nils (.agg [.int .i64 0, ints [], ints [], ints [], intss [], .int .i64 0, ints [], ints [], ints [], intss [], ints [], ints []])))⟩,
    ⟨none, .asg 3 (.i 3)⟩] [])
  .ret)
  .skip)
  (.seq (.ops [] [⟨none, .mv (.v 6)⟩,
    ⟨none, .asg 2 (.t 0)⟩,
    ⟨none, .asg 3 (.i 0)⟩] [])
  .ret))))))
def tr_spec_AllFunctors : List Nat := [0, 1, 4, 5, 2, 3, 6]
def rs_spec_AllFunctors : List RS := [.t 2, .t 3]
theorem ok_spec_AllFunctors : fnOk Go.Proofs.Try.prog Go.Proofs.Try.f42 tr_spec_AllFunctors c_spec_AllFunctors 2 rs_spec_AllFunctors = true := by decide +kernel

theorem ret_spec_AllFunctors (c d : Cat) (hcc : Cat.cost c ≤ 1048576) (hcd : Cat.cost d ≤ 1048576) (L : List (List Int × List Int)) (hL : c.Shape → d.Shape → EnO c d [] L) :
    Ret Go.Proofs.Try.prog 42 [.v c.d, .v d.d] (allD (allF c d L)) := by
  refine ret_fn Go.Proofs.Try.func42 ok_spec_AllFunctors rfl (show 2 < 500 by decide) rfl ?_; unfold c_spec_AllFunctors tr_spec_AllFunctors rs_spec_AllFunctors; simp only [go_sem, Nat.reduceLT, Nat.reduceAdd, Nat.reduceSub, Nat.reduceLeDiff, ↓reduceIte]
  refine call_of (ret_spec_l02Is c) rfl (.inl rfl) ?_
  simp only [go_sem, Nat.reduceLT, Nat.reduceAdd, Nat.reduceSub, Nat.reduceLeDiff, ↓reduceIte]
  refine callg_of (b := c.isB) (fun _ => ret_spec_l02Is d) rfl (fun h => by simpa using h) (.inl rfl) ?_
  simp only [go_sem, Nat.reduceLT, Nat.reduceAdd, Nat.reduceSub, Nat.reduceLeDiff, ↓reduceIte]
  refine ⟨fun h => by simpa using h, fun h => ?_, fun h => ?_⟩
  · unfold allF
    rw [if_pos (by rw [← Bool.not_and] at h; simpa only [Bool.not_eq_true'] using h)]
  have h' : (c.isB && d.isB) = true := by rw [← Bool.not_and] at h; simpa only [Bool.not_eq_false'] using h
  have h'' := h'
  simp only [Bool.and_eq_true] at h''
  have hc := isB_shape h''.1
  have hd := isB_shape h''.2
  refine call_of (ret_spec_l06Small c d hc) rfl (.inl rfl) ?_
  simp only [go_sem, Nat.reduceLT, Nat.reduceAdd, Nat.reduceSub, Nat.reduceLeDiff, ↓reduceIte]
  refine ⟨fun h2 => ?_, fun h2 => ?_⟩
  · simp only [Bool.not_eq_true'] at h2
    unfold allF; rw [h', if_neg (by simp), if_pos h2]
  simp only [Bool.not_eq_false'] at h2
  refine call_of (ret_spec_l06All c d hc hd h''.1 h''.2 hcc hcd L (hL hc hd)) rfl (.inl (nv_lst nv_Ftr _)) ?_
  simp only [go_sem, Nat.reduceLT, Nat.reduceAdd, Nat.reduceSub, Nat.reduceBEq, ↓reduceIte]
  refine ⟨fun h3 => ?_, fun h3 => ?_⟩
  · unfold allF; rw [h', h2, if_neg (by simp), if_neg (by simp), if_neg (by rw [List.length_take] at h3; omega)]
  · have h4 : (mkO c d L).length ≤ 200 := by rw [List.length_take] at h3; omega
    unfold allF; rw [h', h2, if_neg (by simp), if_neg (by simp), if_pos h4, List.take_of_length_le (by omega)]
-- spec.CountFunctors
def c_spec_CountFunctors : C :=
  (.seq (.ops [4, 5] [⟨none, .boxv 5 (.v 0)⟩,
    ⟨none, .boxv 5 (.v 1)⟩,
    ⟨none, .asg 2 (.i 0)⟩,
    ⟨none, .asg 3 (.i 0)⟩] [(4, 0), (5, 1)])
  (.seq (.ops [] [⟨none, .lda 5 (.v 4)⟩,
    ⟨none, .lda 5 (.v 5)⟩,
    ⟨none, .call 42 [(.t 0), (.t 1)]⟩,
    ⟨none, .mv (.t 2)⟩,
    ⟨none, .ext 0 (.t 3)⟩,
    ⟨none, .ext 1 (.t 3)⟩,
    ⟨none, .asg 6 (.t 4)⟩,
    ⟨none, .asg 7 (.t 5)⟩] [])
  (.seq (.ops [] [⟨none, .mv (.v 6)⟩,
    ⟨none, .len (.t 0)⟩,
    ⟨none, .mv (.v 7)⟩,
    ⟨none, .asg 2 (.t 1)⟩,
    ⟨none, .asg 3 (.t 2)⟩] [])
  .ret)))
def tr_spec_CountFunctors : List Nat := [0, 1, 4, 5, 2, 3, 6, 7]
def rs_spec_CountFunctors : List RS := [.t 2, .t 3]
theorem ok_spec_CountFunctors : fnOk Go.Proofs.Try.prog Go.Proofs.Try.f17 tr_spec_CountFunctors c_spec_CountFunctors 2 rs_spec_CountFunctors = true := by decide +kernel

theorem ret_spec_CountFunctors (c d : Cat) (hcc : Cat.cost c ≤ 1048576) (hcd : Cat.cost d ≤ 1048576) (L : List (List Int × List Int)) (hL : c.Shape → d.Shape → EnO c d [] L) :
    Ret Go.Proofs.Try.prog 17 [.v c.d, .v d.d] (.tup [.int .i64 (allF c d L).1.length, .int .i64 (allF c d L).2]) := by
  refine ret_fn Go.Proofs.Try.func17 ok_spec_CountFunctors rfl (show 2 < 500 by decide) rfl ?_; unfold c_spec_CountFunctors tr_spec_CountFunctors rs_spec_CountFunctors; simp only [go_sem, Nat.reduceLT, Nat.reduceAdd, Nat.reduceSub, Nat.reduceLeDiff, ↓reduceIte]
  refine call_of (ret_spec_AllFunctors c d hcc hcd L hL) rfl (.inl (by simp only [D.novw, novwL, nv_lst nv_Ftr, Bool.and_true])) ?_
  simp only [go_sem, Nat.reduceLT, Nat.reduceAdd, Nat.reduceSub, Nat.reduceBEq, Nat.reduceLeDiff, ↓reduceIte]
end Go.D3
