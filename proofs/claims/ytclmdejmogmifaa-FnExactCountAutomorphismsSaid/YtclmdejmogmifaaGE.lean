/- PLAIN LAWS: kinds of looks, and that their number grows. -/
import Derived.Test.YtclmdejmogmifaaGC
import Derived.Test.YtclmdejmogmifaaGB
import Derived.Test.YtclmdejmogmifaaGA
import Derived.Test.YtclmdejmogmifaaKitG
import Derived.Test.YtclmdejmogmifaaGH
/- CONTRACTS: the reference's images that follow from others; how large its categories may be. -/
namespace Go.D3
open Go
set_option maxRecDepth 100000

theorem set_same {q : List Int} {i : Nat} {x : Int} (_ : i < q.length) (h : q.getD i 0 = x) : q.set i x = q := by
  refine List.ext_getElem List.length_set fun j a b => ?_
  rw [List.getElem_set]
  split
  · rename_i hh; subst hh; rw [getD_lt b] at h; exact h.symm
  · rfl

-- spec.l06Force
def c_spec_l06Force : C :=
  (.seq (.ops [4, 5] [⟨none, .boxv 5 (.v 0)⟩,
    ⟨none, .boxv 5 (.v 1)⟩,
    ⟨none, .asg 3 (.k (.bool false))⟩] [(4, 0), (5, 1)])
  (.seq (.seq (.ops [] [⟨none, .asg 6 (.k (.bool true))⟩] [])
  (.block 0 (.loop (.seq (.opc [] [⟨none, .mv (.v 6)⟩] [] (.t 0) .skip
  (.exit 0))
  (.block 1 (.seq (.ops [] [⟨none, .asg 6 (.k (.bool false))⟩] [])
  (.seq (.ops [] [⟨none, .asg 7 (.i 0)⟩] [])
  (.block 2 (.loop (.seq (.opc [] [⟨none, .mv (.v 7)⟩,
    ⟨none, .mv (.v 2)⟩,
    ⟨none, .len (.t 1)⟩,
    ⟨none, .bin .lss (.t 0) (.t 2)⟩] [] (.t 3) .skip
  (.exit 2))
  (.seq (.block 3 (.seq (.ops [] [⟨none, .asg 8 (.i 0)⟩] [])
  (.block 4 (.loop (.seq (.opc [] [⟨none, .mv (.v 8)⟩,
    ⟨none, .mv (.v 2)⟩,
    ⟨none, .len (.t 1)⟩,
    ⟨none, .bin .lss (.t 0) (.t 2)⟩] [] (.t 3) .skip
  (.exit 4))
  (.seq (.block 5 (.seq (.ops [] [⟨none, .fA 4 (.v 4)⟩,
    ⟨none, .ld (.t 0)⟩,
    ⟨none, .mv (.v 7)⟩,
    ⟨none, .idxA 1 (.t 1) (.t 2)⟩,
    ⟨none, .ld (.t 3)⟩,
    ⟨none, .mv (.v 8)⟩,
    ⟨none, .idxA 1 (.t 4) (.t 5)⟩,
    ⟨none, .ld (.t 6)⟩,
    ⟨none, .asg 9 (.t 7)⟩] [])
  (.seq (.opc [] [⟨none, .mv (.v 9)⟩,
    ⟨none, .bin .lss (.t 0) (.i 0)⟩,
    ⟨none, .mv (.t 1)⟩,
    ⟨some (2, false), .mv (.v 2)⟩,
    ⟨some (2, false), .mv (.v 7)⟩,
    ⟨some (2, false), .idxA 1 (.t 3) (.t 4)⟩,
    ⟨some (2, false), .ld (.t 5)⟩,
    ⟨some (2, false), .bin .lss (.t 6) (.i 0)⟩,
    ⟨none, .pick (.t 2) (.k (.bool true)) (.t 7)⟩,
    ⟨none, .mv (.t 8)⟩,
    ⟨some (9, false), .mv (.v 2)⟩,
    ⟨some (9, false), .mv (.v 8)⟩,
    ⟨some (9, false), .idxA 1 (.t 10) (.t 11)⟩,
    ⟨some (9, false), .ld (.t 12)⟩,
    ⟨some (9, false), .bin .lss (.t 13) (.i 0)⟩,
    ⟨none, .pick (.t 9) (.k (.bool true)) (.t 14)⟩] [] (.t 15) (.exit 5)
  .skip)
  (.seq (.ops [] [⟨none, .fA 4 (.v 5)⟩,
    ⟨none, .ld (.t 0)⟩,
    ⟨none, .mv (.v 2)⟩,
    ⟨none, .mv (.v 7)⟩,
    ⟨none, .idxA 1 (.t 2) (.t 3)⟩,
    ⟨none, .ld (.t 4)⟩,
    ⟨none, .idxA 1 (.t 1) (.t 5)⟩,
    ⟨none, .ld (.t 6)⟩,
    ⟨none, .mv (.v 2)⟩,
    ⟨none, .mv (.v 8)⟩,
    ⟨none, .idxA 1 (.t 8) (.t 9)⟩,
    ⟨none, .ld (.t 10)⟩,
    ⟨none, .idxA 1 (.t 7) (.t 11)⟩,
    ⟨none, .ld (.t 12)⟩,
    ⟨none, .asg 10 (.t 13)⟩] [])
  (.seq (.opc [] [⟨none, .mv (.v 2)⟩,
    ⟨none, .mv (.v 9)⟩,
    ⟨none, .idxA 1 (.t 0) (.t 1)⟩,
    ⟨none, .ld (.t 2)⟩,
    ⟨none, .bin .geq (.t 3) (.i 0)⟩,
    ⟨none, .mv (.t 4)⟩,
    ⟨some (5, true), .mv (.v 2)⟩,
    ⟨some (5, true), .mv (.v 9)⟩,
    ⟨some (5, true), .idxA 1 (.t 6) (.t 7)⟩,
    ⟨some (5, true), .ld (.t 8)⟩,
    ⟨some (5, true), .mv (.v 10)⟩,
    ⟨some (5, true), .bin .neq (.t 9) (.t 10)⟩,
    ⟨none, .pick (.t 5) (.t 11) (.k (.bool false))⟩] [] (.t 12) (.seq (.ops [] [⟨none, .asg 3 (.k (.bool false))⟩] [])
  .ret)
  .skip)
  (.seq (.ops [] [⟨none, .mv (.v 6)⟩,
    ⟨none, .mv (.t 0)⟩,
    ⟨some (1, false), .mv (.v 2)⟩,
    ⟨some (1, false), .mv (.v 9)⟩,
    ⟨some (1, false), .idxA 1 (.t 2) (.t 3)⟩,
    ⟨some (1, false), .ld (.t 4)⟩,
    ⟨some (1, false), .bin .lss (.t 5) (.i 0)⟩,
    ⟨none, .pick (.t 1) (.k (.bool true)) (.t 6)⟩,
    ⟨none, .asg 6 (.t 7)⟩] [])
  (.ops [] [⟨none, .mv (.v 2)⟩,
    ⟨none, .mv (.v 9)⟩,
    ⟨none, .mv (.v 10)⟩,
    ⟨none, .idxA 1 (.t 0) (.t 1)⟩,
    ⟨none, .st (.t 3) (.t 2)⟩] [])))))))
  (.ops [] [⟨none, .mv (.v 8)⟩,
    ⟨none, .bin .add (.t 0) (.i 1)⟩,
    ⟨none, .asg 8 (.t 1)⟩] [])))))))
  (.ops [] [⟨none, .mv (.v 7)⟩,
    ⟨none, .bin .add (.t 0) (.i 1)⟩,
    ⟨none, .asg 7 (.t 1)⟩] []))))))))))))
  (.seq (.ops [] [⟨none, .asg 3 (.k (.bool true))⟩] [])
  .ret)))
def tr_spec_l06Force : List Nat := [0, 1, 2, 6, 3, 4, 7, 8, 9, 10, 11]
def rs_spec_l06Force : List RS := [.t 3]
theorem ok_spec_l06Force : fnOk Go.Proofs.Try.prog Go.Proofs.Try.f184 tr_spec_l06Force c_spec_l06Force 3 rs_spec_l06Force = true := by decide +kernel

theorem ret_spec_l06Force (c d : Cat) (o p : List Int) (hc : c.Shape) (hd : d.Shape) (hp : Typed c d o p) :
    RetE Go.Proofs.Try.prog 184 [c.d, d.d, .sub 0 []] [.o (ints p)] fun rc gs' => ∃ r p', SprQ c d o p r p' ∧ rc = .bool r ∧ gs' = [.o (ints p')] := by
  have hfl := hc.fr
  have hcl := hc.co
  have hdl := hd.fr
  have hdcl := hd.co
  refine ret_fnE .tree Go.Proofs.Try.func184 rfl ok_spec_l06Force rfl ⟨by simp only [List.length_cons, List.length_nil]; decide, by simp only [List.length_cons, List.length_nil]; decide⟩ rfl ?_; unfold c_spec_l06Force tr_spec_l06Force rs_spec_l06Force; simp only [go_sem, Nat.reduceLT, Nat.reduceAdd, Nat.reduceSub, Nat.reduceBEq, Nat.reduceLeDiff, ↓reduceIte]
  refine loop_set [7, 8, 9, 10] (fun s : List Int × Bool => [(6, .bool s.2), (11, .o (ints s.1))])
    (fun s => Spr c d o p s.1 ∧ (s.2 = false → ∀ a b, a < c.fr.length → b < c.fr.length → Fit c d s.1 a b)) (fun s => unk s.1 + (if s.2 = true then 1 else 0)) (p, true) (by simp only [go_sem, Nat.reduceLT, Nat.reduceBEq, ↓reduceIte]; rfl) ⟨Spr.refl hp, fun h => by cases h⟩ rfl ?_
  rintro ⟨q, ag⟩ ⟨hq, hco⟩
  simp only [go_sem, Nat.reduceLT, Nat.reduceAdd, Nat.reduceSub, Nat.reduceBEq, Nat.reduceLeDiff, ↓reduceIte]
  simp only at hq hco
  refine ⟨fun hag => ?_, fun hag => ?_⟩
  · refine loop_set [8, 9, 10] (fun s : List Int × Bool × Nat => [(6, .bool s.2.1), (7, .int .i64 s.2.2), (11, .o (ints s.1))])
      (fun s => Spr c d o p s.1 ∧ s.2.2 ≤ c.fr.length ∧ (s.2.1 = false → s.1 = q ∧ ∀ a b, a < s.2.2 → b < c.fr.length → Fit c d s.1 a b) ∧ (s.2.1 = true → unk s.1 < unk q)) (fun s => c.fr.length - s.2.2) (q, false, 0) (by simp only [go_sem, Nat.reduceLT, Nat.reduceBEq, ↓reduceIte]; rfl) ⟨hq, Nat.zero_le _, fun _ => ⟨rfl, fun a b h => absurd h (Nat.not_lt_zero _)⟩, fun h => by cases h⟩ rfl ?_
    rintro ⟨q1, ag1, a⟩ ⟨hq1, ha, hf1, ht1⟩
    simp only [go_sem, Nat.reduceLT, Nat.reduceAdd, Nat.reduceSub, Nat.reduceBEq, Nat.reduceLeDiff, ↓reduceIte]
    simp only at hq1 ha hf1 ht1
    have hql1 : q1.length = c.fr.length := hq1.ty.len
    refine ⟨fun h => ?_, fun h => ?_⟩
    · have hrow := hc.row a (by omega)
      refine loop_set [9, 10] (fun s : List Int × Bool × Nat => [(6, .bool s.2.1), (8, .int .i64 s.2.2), (11, .o (ints s.1))])
        (fun s => Spr c d o p s.1 ∧ s.2.2 ≤ c.fr.length ∧ (s.2.1 = false → s.1 = q ∧ (∀ a' b, a' < a → b < c.fr.length → Fit c d s.1 a' b) ∧ ∀ b, b < s.2.2 → Fit c d s.1 a b) ∧ (s.2.1 = true → unk s.1 < unk q)) (fun s => c.fr.length - s.2.2) (q1, ag1, 0) (by simp only [go_sem, Nat.reduceLT, Nat.reduceBEq, ↓reduceIte]; rfl)
        ⟨hq1, Nat.zero_le _, fun h => ⟨(hf1 h).1, (hf1 h).2, fun b h => absurd h (Nat.not_lt_zero _)⟩, ht1⟩ rfl ?_
      rintro ⟨q2, ag2, b⟩ ⟨hq2, hb, hf2, ht2⟩
      simp only [go_sem, Nat.reduceLT, Nat.reduceAdd, Nat.reduceSub, Nat.reduceBEq, Nat.reduceLeDiff, ↓reduceIte]
      simp only at hq2 hb hf2 ht2
      have hql : q2.length = c.fr.length := hq2.ty.len
      have hcell : (c.co.getD a []).getD b 0 = c.cell a b := rfl
      rw [hcell]
      refine ⟨fun h2 => ?_, fun h2 => ?_⟩
      · have hbn : b < c.fr.length := by omega
        have han : a < c.fr.length := by omega
        refine ⟨by omega, by omega, fun h3 => ⟨h3, by omega⟩, fun h3 => by simpa using h3, fun h3 => ⟨h3, by omega⟩, fun h3 => ?_, fun h3 => ?_, fun h3 => ?_⟩
        · simpa [Bool.or_eq_false_iff] using h3
        · refine ⟨(q2, ag2, b + 1), ⟨hq2, by simp only; omega, fun h4 => ⟨(hf2 h4).1, (hf2 h4).2.1, fun b' hb' => ?_⟩, ht2⟩, by simp only; omega, by rw [wrap_lt hbn (by simp only [maxLen]; omega)] <;> rfl⟩
          by_cases hbb : b' = b
          · subst hbb
            intro c1 c2 c3
            simp only at c1 c2 c3
            simp only [Bool.or_eq_true, decide_eq_true_eq] at h3
            omega
          · exact (hf2 h4).2.2 b' (by simp only at hb'; omega)
        · simp only [Bool.or_eq_false_iff, decide_eq_false_iff_not, Int.not_lt] at h3
          obtain ⟨⟨c1, c2⟩, c3⟩ := h3
          obtain ⟨k1, k2, k3, k4, k5⟩ := hq2.ty.comp hc hd han hbn c1 c2 c3
          have ga := (hq2.ty.get han c2).1
          have gb := (hq2.ty.get hbn c3).1
          have hrd := hd.row (q2.getD a 0).toNat (by omega)
          have hcd : (d.co.getD (q2.getD a 0).toNat []).getD (q2.getD b 0).toNat 0 = d.cellI (q2.getD a 0) (q2.getD b 0) := rfl
          rw [hcd]
          refine ⟨by omega, ⟨c2, by omega⟩, by omega, ⟨c3, by omega⟩, ⟨c1, by omega⟩, fun h4 => ⟨h4, c1, by omega⟩, fun h4 => ?_, fun h4 => ⟨fun h5 => ⟨h5, c1, by omega⟩, fun h5 => by rw [h5]; rfl, ⟨c1, by omega⟩, by omega, ?_⟩⟩
          · simp only [Bool.and_eq_true, decide_eq_true_eq, bne_iff_ne] at h4
            refine ⟨_, _, ⟨false, q2, ⟨hq2, fun h => (by cases h), fun _ F hF => ?_⟩, rfl, rfl⟩, rfl, rfl, rfl, trivial⟩
            exact Spr.clash hc hq2.ty han hbn c1 c2 c3 k1 h4.1 h4.2 F ((hq2.same F).2 hF)
          · by_cases hneg : q2.getD (c.cell a b).toNat 0 < 0
            · obtain ⟨s1, s2⟩ := Spr.step hc hd hq2.ty han hbn c1 c2 c3 hneg
              refine ⟨(_, true, b + 1), ⟨hq2.trans s1, by simp only; omega, fun h6 => (by cases h6), fun _ => ?_⟩, by simp only; omega, by rw [wrap_lt hbn (by simp only [maxLen]; omega), decide_eq_true hneg, Bool.or_true] <;> rfl⟩
              simp only
              cases hag2 : ag2 with
              | false => rw [← (hf2 hag2).1]; exact s2
              | true => have := ht2 hag2; omega
            · have heq : q2.getD (c.cell a b).toNat 0 = d.cellI (q2.getD a 0) (q2.getD b 0) := by
                rw [decide_eq_true (by omega), Bool.true_and] at h4
                simpa using h4
              rw [set_same (by omega) heq, decide_eq_false hneg, Bool.or_false]
              refine ⟨(q2, ag2, b + 1), ⟨hq2, by simp only; omega, fun h6 => ⟨(hf2 h6).1, (hf2 h6).2.1, fun b' hb' => ?_⟩, ht2⟩, by simp only; omega, by rw [wrap_lt hbn (by simp only [maxLen]; omega)] <;> rfl⟩
              by_cases hbb : b' = b
              · subst hbb; exact fun _ _ _ => heq
              · exact (hf2 h6).2.2 b' (by simp only at hb'; omega)
      · have : b = c.fr.length := by omega
        subst this
        have han : a < c.fr.length := by omega
        refine ⟨(q2, ag2, a + 1), ⟨hq2, by simp only; omega, fun h6 => ⟨(hf2 h6).1, fun a' b' ha' hb' => ?_⟩, ht2⟩, by simp only; omega, by rw [wrap_lt han (by simp only [maxLen]; omega)] <;> rfl⟩
        by_cases haa : a' = a
        · subst haa; exact (hf2 h6).2.2 b' hb'
        · exact (hf2 h6).2.1 a' b' (by simp only at ha'; omega) hb'
    · have : a = c.fr.length := by omega
      subst this
      cases ag1 with
      | false => exact ⟨(q1, false), ⟨hq1, fun _ => (hf1 rfl).2⟩, by rw [(hf1 rfl).1, if_pos hag]; simp, rfl⟩
      | true => exact ⟨(q1, true), ⟨hq1, fun h => by cases h⟩, by rw [if_pos hag]; have := ht1 rfl; simp; omega, rfl⟩
  · exact ⟨_, _, ⟨true, q, ⟨hq, fun _ => hco hag, fun h => by cases h⟩, rfl, rfl⟩, rfl, rfl, rfl, trivial⟩

-- spec.l02Unit
def c_spec_l02Unit : C :=
  (.seq (.ops [3] [⟨none, .boxv 5 (.v 0)⟩,
    ⟨none, .asg 2 (.k (.bool false))⟩] [(3, 0)])
  (.seq (.ops [] [⟨none, .fA 3 (.v 3)⟩,
    ⟨none, .ld (.t 0)⟩,
    ⟨none, .fA 1 (.v 3)⟩,
    ⟨none, .ld (.t 2)⟩,
    ⟨none, .mv (.v 1)⟩,
    ⟨none, .idxA 1 (.t 3) (.t 4)⟩,
    ⟨none, .ld (.t 5)⟩,
    ⟨none, .idxA 1 (.t 1) (.t 6)⟩,
    ⟨none, .ld (.t 7)⟩,
    ⟨none, .mv (.v 1)⟩,
    ⟨none, .bin .eql (.t 8) (.t 9)⟩,
    ⟨none, .asg 2 (.t 10)⟩] [])
  .ret))
def tr_spec_l02Unit : List Nat := [0, 1, 4, 2]
def rs_spec_l02Unit : List RS := [.t 2]
theorem ok_spec_l02Unit : fnOk Go.Proofs.Try.prog Go.Proofs.Try.f164 tr_spec_l02Unit c_spec_l02Unit 2 rs_spec_l02Unit = true := by decide +kernel

theorem ret_spec_l02Unit (c : Cat) (hc : c.Shape) (f : Nat) (hf : f < c.fr.length) : Ret Go.Proofs.Try.prog 164 [.v c.d, .v (.int .i64 f)] (.bool (c.idI (c.fr.getD f 0) == f)) := by
  have h1 := mapB_get hc.frm hf
  have h2 := hc.idn
  refine ret_fn Go.Proofs.Try.func164 ok_spec_l02Unit rfl (show 2 < 500 by decide) rfl ?_; unfold c_spec_l02Unit tr_spec_l02Unit rs_spec_l02Unit; simp only [go_sem, Nat.reduceLT, Nat.reduceAdd, Nat.reduceSub, ↓reduceIte]
  exact ⟨hf, ⟨h1.1, by omega⟩, rfl⟩

/-- The arrows among the first 'k' that are no identities. -/
def Cat.movP (c : Cat) (k : Nat) : List Int := ((List.range k).filter fun f => !(c.idI (c.fr.getD f 0) == f)).map fun f : Nat => (f : Int)
theorem Cat.movP_step {c : Cat} {i : Nat} : c.movP (i + 1) = c.movP i ++ if (!(c.idI (c.fr.getD i 0) == i)) = true then [(i : Int)] else [] := by
  unfold Cat.movP
  rw [List.range_succ, List.filter_append, List.map_append]
  congr 1
  simp only [List.filter_cons, List.filter_nil]
  split <;> rfl
theorem Cat.movP_len {c : Cat} {i : Nat} : (c.movP i).length ≤ i := by
  unfold Cat.movP
  rw [List.length_map]
  exact Nat.le_trans (List.length_filter_le _ _) (by simp)
theorem units_len {c : Cat} (hc : c.Shape) : ((List.range c.fr.length).filter fun f => c.idI (c.fr.getD f 0) == f).length = c.idn.length := by
  have hp : ((List.range c.fr.length).filter fun f => c.idI (c.fr.getD f 0) == f).Perm (c.idn.map Int.toNat) := by
    rw [List.perm_ext_iff_of_nodup]
    · intro f
      simp only [List.mem_filter, List.mem_range, beq_iff_eq, List.mem_map]
      constructor
      · rintro ⟨h1, h2⟩
        have h3 := hc.fri h1
        refine ⟨c.idn.getD (c.fr.getD f 0).toNat 0, ?_, ?_⟩
        · rw [getD_lt (by omega)]; exact List.getElem_mem _
        · have : c.idI (c.fr.getD f 0) = c.idn.getD (c.fr.getD f 0).toNat 0 := rfl
          omega
      · rintro ⟨x, h1, h2⟩
        obtain ⟨k, hk, rfl⟩ := List.getElem_of_mem h1
        obtain ⟨a1, a2, a3, a4⟩ := id_ends hc hk
        rw [getD_lt hk] at a1 a2 a3
        subst h2
        refine ⟨a2, ?_⟩
        rw [a3]
        show c.idn.getD (k : Int).toNat 0 = _
        rw [Int.toNat_natCast, getD_lt hk]; omega
    · exact List.Pairwise.filter _ List.nodup_range
    · rw [List.Nodup, List.pairwise_map, List.pairwise_iff_getElem]
      intro i j hi hj hij he
      obtain ⟨a1, a2, a3, _⟩ := id_ends hc hi
      obtain ⟨b1, b2, b3, _⟩ := id_ends hc hj
      rw [getD_lt hi] at a1 a2 a3
      rw [getD_lt hj] at b1 b2 b3
      rw [he] at a3
      omega
  rw [hp.length_eq, List.length_map]
theorem mov_len {c : Cat} (hc : c.Shape) : ((c.movP c.fr.length).length : Int) = c.fr.length - c.ob := by
  have h1 := units_len hc
  have h2 := List.length_eq_countP_add_countP (fun f : Nat => c.idI (c.fr.getD f 0) == (f : Int)) (l := List.range c.fr.length)
  rw [List.length_range, List.countP_eq_length_filter, h1, List.countP_eq_length_filter] at h2
  have h3 : (c.movP c.fr.length).length = ((List.range c.fr.length).filter fun a => decide ¬(c.idI (c.fr.getD a 0) == (a : Int)) = true).length := by
    unfold Cat.movP
    rw [List.length_map]
    congr 2
    funext f
    cases c.idI (c.fr.getD f 0) == (f : Int) <;> rfl
  have := hc.idn
  omega
-- spec.l06Moving
def c_spec_l06Moving : C :=
  (.seq (.ops [2] [⟨none, .boxv 5 (.v 0)⟩,
    ⟨none, .asg 1 (.k (.nils (.int .i64 0)))⟩] [(2, 0)])
  (.seq (.ops [] [⟨none, .bldS (.int .i64 0) 0 []⟩,
    ⟨none, .asg 3 (.t 0)⟩] [])
  (.seq (.seq (.ops [] [⟨none, .asg 4 (.i 0)⟩] [])
  (.block 0 (.loop (.seq (.opc [] [⟨none, .mv (.v 4)⟩,
    ⟨none, .fA 1 (.v 2)⟩,
    ⟨none, .ld (.t 1)⟩,
    ⟨none, .len (.t 2)⟩,
    ⟨none, .bin .lss (.t 0) (.t 3)⟩] [] (.t 4) .skip
  (.exit 0))
  (.seq (.block 1 (.opc [] [⟨none, .lda 5 (.v 2)⟩,
    ⟨none, .mv (.v 4)⟩,
    ⟨none, .call 164 [(.t 0), (.t 1)]⟩,
    ⟨none, .not (.t 2)⟩] [] (.t 3) (.ops [] [⟨none, .mv (.v 3)⟩,
    ⟨none, .mv (.v 4)⟩,
    ⟨none, .bldS (.int .i64 0) 1 [(0, (.t 1))]⟩,
    ⟨none, .app 1 8 (.t 0) (.t 2)⟩,
    ⟨none, .asg 3 (.t 3)⟩] [])
  .skip))
  (.ops [] [⟨none, .mv (.v 4)⟩,
    ⟨none, .bin .add (.t 0) (.i 1)⟩,
    ⟨none, .asg 4 (.t 1)⟩] []))))))
  (.seq (.ops [] [⟨none, .mv (.v 3)⟩,
    ⟨none, .asg 1 (.t 0)⟩] [])
  .ret))))
def tr_spec_l06Moving : List Nat := [0, 2, 1, 3, 4]
def rs_spec_l06Moving : List RS := [.t 1]
theorem ok_spec_l06Moving : fnOk Go.Proofs.Try.prog Go.Proofs.Try.f131 tr_spec_l06Moving c_spec_l06Moving 1 rs_spec_l06Moving = true := by decide +kernel

theorem ret_spec_l06Moving (c : Cat) (hc : c.Shape) : Ret Go.Proofs.Try.prog 131 [.v c.d] (ints (c.movP c.fr.length)) := by
  have hfl := hc.fr
  refine ret_fn Go.Proofs.Try.func131 ok_spec_l06Moving rfl (show 1 < 500 by decide) rfl ?_; unfold c_spec_l06Moving tr_spec_l06Moving rs_spec_l06Moving; simp only [go_sem, Nat.reduceLT, Nat.reduceAdd, Nat.reduceSub, ↓reduceIte]
  refine loop_set [] (fun (i : Nat) => [(4, .int .i64 i), (3, .o (ints (c.movP i)))]) (fun i => i ≤ c.fr.length) (fun i => c.fr.length - i) 0 (by simp only [go_sem]; rfl) (Nat.zero_le _) rfl ?_
  rintro i hi
  simp only [go_sem, Nat.reduceLT, Nat.reduceAdd, Nat.reduceSub, Nat.reduceBEq, Nat.reduceLeDiff, ↓reduceIte]
  refine ⟨fun h => ?_, fun h => ?_⟩
  · refine call_of (ret_spec_l02Unit c hc i h) rfl (.inl rfl) ?_
    simp only [go_sem, Nat.reduceLT, Nat.reduceAdd, Nat.reduceSub, Nat.reduceBEq, ↓reduceIte]
    refine ⟨fun h2 => ⟨by have := @Cat.movP_len c i; omega, i + 1, by omega, by omega, by rw [Cat.movP_step, if_pos h2, wrap_lt h (by simp only [maxLen]; omega)]⟩,
      fun h2 => ⟨i + 1, by omega, by omega, by rw [Cat.movP_step, if_neg (by rw [h2]; decide), List.append_nil, wrap_lt h (by simp only [maxLen]; omega)]⟩⟩
  · rw [show i = c.fr.length by omega]
-- spec.l06Small
def c_spec_l06Small : C :=
  (.seq (.ops [3, 4] [⟨none, .boxv 5 (.v 0)⟩,
    ⟨none, .boxv 5 (.v 1)⟩,
    ⟨none, .asg 2 (.k (.bool false))⟩] [(3, 0), (4, 1)])
  (.seq (.ops [] [⟨none, .lda 5 (.v 3)⟩,
    ⟨none, .call 131 [(.t 0)]⟩,
    ⟨none, .len (.t 1)⟩,
    ⟨none, .bin .leq (.t 2) (.i 8)⟩,
    ⟨none, .mv (.t 3)⟩,
    ⟨some (4, true), .fA 1 (.v 4)⟩,
    ⟨some (4, true), .ld (.t 5)⟩,
    ⟨some (4, true), .len (.t 6)⟩,
    ⟨some (4, true), .bin .leq (.t 7) (.i 16)⟩,
    ⟨none, .pick (.t 4) (.t 8) (.k (.bool false))⟩,
    ⟨none, .asg 2 (.t 9)⟩] [])
  .ret))
def tr_spec_l06Small : List Nat := [0, 1, 4, 2, 3]
def rs_spec_l06Small : List RS := [.t 2]
theorem ok_spec_l06Small : fnOk Go.Proofs.Try.prog Go.Proofs.Try.f87 tr_spec_l06Small c_spec_l06Small 2 rs_spec_l06Small = true := by decide +kernel

theorem ret_spec_l06Small (c d : Cat) (hc : c.Shape) : Ret Go.Proofs.Try.prog 87 [.v c.d, .v d.d] (.bool (smallB c d)) := by
  refine ret_fn Go.Proofs.Try.func87 ok_spec_l06Small rfl (show 2 < 500 by decide) rfl ?_; unfold c_spec_l06Small tr_spec_l06Small rs_spec_l06Small; simp only [go_sem, Nat.reduceLT, Nat.reduceAdd, Nat.reduceSub, Nat.reduceLeDiff, ↓reduceIte]
  refine call_of (ret_spec_l06Moving c hc) rfl (.inl (nv_ints _)) ?_
  simp only [go_sem, Nat.reduceLT, Nat.reduceAdd, Nat.reduceSub, ↓reduceIte]
  unfold smallB
  rw [mov_len hc]
end Go.D3

/- CONTRACTS: the reference's search. -/
namespace Go.D3
open Go
set_option maxRecDepth 100000

/-- The objects with an image in a list, and hom sets of images. -/
def rmI (c d : Cat) (o : List Int) (i : Nat) : Bool := !(decide (c.fr.getD i 0 < o.length) && decide (c.to.getD i 0 < o.length) && ((d.hom (o.getD (c.fr.getD i 0).toNat 0) (o.getD (c.to.getD i 0).toNat 0)).length : Int) == 0)
def rmB (c d : Cat) (o : List Int) : Bool := allB c.fr.length (rmI c d o)
-- spec.l06Rooms
def c_spec_l06Rooms : C :=
  (.seq (.ops [4, 5] [⟨none, .boxv 5 (.v 0)⟩,
    ⟨none, .boxv 5 (.v 1)⟩,
    ⟨none, .asg 3 (.k (.bool false))⟩] [(4, 0), (5, 1)])
  (.seq (.seq (.ops [] [⟨none, .asg 6 (.i 0)⟩] [])
  (.block 0 (.loop (.seq (.opc [] [⟨none, .mv (.v 6)⟩,
    ⟨none, .fA 1 (.v 4)⟩,
    ⟨none, .ld (.t 1)⟩,
    ⟨none, .len (.t 2)⟩,
    ⟨none, .bin .lss (.t 0) (.t 3)⟩] [] (.t 4) .skip
  (.exit 0))
  (.seq (.block 1 (.seq (.ops [7] [⟨none, .fA 1 (.v 4)⟩,
    ⟨none, .ld (.t 0)⟩,
    ⟨none, .mv (.v 6)⟩,
    ⟨none, .idxA 1 (.t 1) (.t 2)⟩,
    ⟨none, .ld (.t 3)⟩,
    ⟨none, .fA 2 (.v 4)⟩,
    ⟨none, .ld (.t 5)⟩,
    ⟨none, .mv (.v 6)⟩,
    ⟨none, .idxA 1 (.t 6) (.t 7)⟩,
    ⟨none, .ld (.t 8)⟩,
    ⟨none, .mv (.t 4)⟩,
    ⟨none, .asg 8 (.t 9)⟩] [(7, 10)])
  (.opc [] [⟨none, .mv (.v 7)⟩,
    ⟨none, .mv (.v 2)⟩,
    ⟨none, .len (.t 1)⟩,
    ⟨none, .bin .lss (.t 0) (.t 2)⟩,
    ⟨none, .mv (.t 3)⟩,
    ⟨some (4, true), .mv (.v 8)⟩,
    ⟨some (4, true), .mv (.v 2)⟩,
    ⟨some (4, true), .len (.t 6)⟩,
    ⟨some (4, true), .bin .lss (.t 5) (.t 7)⟩,
    ⟨none, .pick (.t 4) (.t 8) (.k (.bool false))⟩,
    ⟨none, .mv (.t 9)⟩,
    ⟨some (10, true), .lda 5 (.v 5)⟩,
    ⟨some (10, true), .mv (.v 2)⟩,
    ⟨some (10, true), .mv (.v 7)⟩,
    ⟨some (10, true), .idxA 1 (.t 12) (.t 13)⟩,
    ⟨some (10, true), .ld (.t 14)⟩,
    ⟨some (10, true), .mv (.v 2)⟩,
    ⟨some (10, true), .mv (.v 8)⟩,
    ⟨some (10, true), .idxA 1 (.t 16) (.t 17)⟩,
    ⟨some (10, true), .ld (.t 18)⟩,
    ⟨some (10, true), .call 74 [(.t 11), (.t 15), (.t 19)]⟩,
    ⟨some (10, true), .len (.t 20)⟩,
    ⟨some (10, true), .bin .eql (.t 21) (.i 0)⟩,
    ⟨none, .pick (.t 10) (.t 22) (.k (.bool false))⟩] [] (.t 23) (.seq (.ops [] [⟨none, .asg 3 (.k (.bool false))⟩] [])
  .ret)
  .skip)))
  (.ops [] [⟨none, .mv (.v 6)⟩,
    ⟨none, .bin .add (.t 0) (.i 1)⟩,
    ⟨none, .asg 6 (.t 1)⟩] []))))))
  (.seq (.ops [] [⟨none, .asg 3 (.k (.bool true))⟩] [])
  .ret)))
def tr_spec_l06Rooms : List Nat := [0, 1, 2, 6, 3, 4, 7, 8, 9]
def rs_spec_l06Rooms : List RS := [.t 3]
theorem ok_spec_l06Rooms : fnOk Go.Proofs.Try.prog Go.Proofs.Try.f165 tr_spec_l06Rooms c_spec_l06Rooms 3 rs_spec_l06Rooms = true := by decide +kernel

theorem ret_spec_l06Rooms (c d : Cat) (hc : c.Shape) (hd : d.Shape) (o : List Int) : Ret Go.Proofs.Try.prog 165 [.v c.d, .v d.d, .v (ints o)] (.bool (rmB c d o)) := by
  have hfl := hc.fr
  have htl := hc.to
  have hdl := hd.fr
  refine ret_fn Go.Proofs.Try.func165 ok_spec_l06Rooms rfl (show 3 < 500 by decide) rfl ?_; unfold c_spec_l06Rooms tr_spec_l06Rooms rs_spec_l06Rooms; simp only [go_sem, Nat.reduceLT, Nat.reduceAdd, Nat.reduceSub, ↓reduceIte]
  refine loop_set [7, 8] (fun (i : Nat) => [(6, .int .i64 i)]) (fun i => i ≤ c.fr.length ∧ allB i (rmI c d o) = true) (fun i => c.fr.length - i) 0 (by simp only [go_sem, Nat.reduceLT, ↓reduceIte]; rfl) ⟨Nat.zero_le _, rfl⟩ rfl ?_
  rintro i ⟨hi, hb⟩
  simp only [go_sem, Nat.reduceLT, Nat.reduceAdd, Nat.reduceSub, Nat.reduceLeDiff, ↓reduceIte]
  refine ⟨fun h => ⟨h, by omega, ?_⟩, fun h => ?_⟩
  · have hf1 := mapB_get hc.frm h
    have ht1 := mapB_get hc.tom (show i < c.to.length by omega)
    generalize hg : (decide (c.fr.getD i 0 < (o.length : Int)) && decide (c.to.getD i 0 < (o.length : Int))) = g
    have hg2 : g = true → c.fr.getD i 0 < (o.length : Int) ∧ c.to.getD i 0 < (o.length : Int) := fun hh => by
      rw [hh, Bool.and_eq_true, decide_eq_true_eq, decide_eq_true_eq] at hg; exact hg
    refine ⟨fun hh => ⟨hh, hf1.1, (hg2 hh).1⟩, fun hh => ⟨hh, ht1.1, (hg2 hh).2⟩, ?_⟩
    refine callg_of (fun _ => ret_spec_l02Hom d _ _ (by omega) hd.to) rfl (fun h => h) (.inl (nv_ints _)) ?_
    simp only [go_sem, Nat.reduceLT, Nat.reduceAdd, Nat.reduceSub, ↓reduceIte]
    have hrm : rmI c d o i = !(g && ((d.hom (o.getD (c.fr.getD i 0).toNat 0) (o.getD (c.to.getD i 0).toNat 0)).length : Int) == 0) := by unfold rmI; rw [hg]
    refine ⟨fun h3 => ?_, fun h3 => ?_⟩
    · exact (allB_stop h (by rw [hrm, h3]; rfl)).symm
    · exact ⟨i + 1, ⟨by omega, allB_succ hb (by rw [hrm, h3]; rfl)⟩, by omega, by rw [wrap_lt h (by simp only [maxLen]; omega)]⟩
  · rw [show i = c.fr.length by omega] at hb; exact hb.symm

theorem take_more {α : Type} {A R : List α} (h : 200 < (A.take 201).length) : (A ++ R).take 201 = A.take 201 := by
  rw [List.length_take] at h
  rw [List.take_append_of_le_length (by omega)]

-- spec.l06Arrows
def c_spec_l06Arrows : C :=
  (.seq (.ops [7, 8] [⟨none, .boxv 5 (.v 0)⟩,
    ⟨none, .boxv 5 (.v 1)⟩,
    ⟨none, .asg 6 (.k (.nils (ints [])))⟩] [(7, 0), (8, 1)])
  (.seq (.block 0 (.loop (.seq (.opc [] [⟨none, .mv (.v 4)⟩,
    ⟨none, .mv (.v 3)⟩,
    ⟨none, .len (.t 1)⟩,
    ⟨none, .bin .lss (.t 0) (.t 2)⟩,
    ⟨none, .mv (.t 3)⟩,
    ⟨some (4, true), .mv (.v 3)⟩,
    ⟨some (4, true), .mv (.v 4)⟩,
    ⟨some (4, true), .idxA 1 (.t 5) (.t 6)⟩,
    ⟨some (4, true), .ld (.t 7)⟩,
    ⟨some (4, true), .bin .geq (.t 8) (.i 0)⟩,
    ⟨none, .pick (.t 4) (.t 9) (.k (.bool false))⟩] [] (.t 10) .skip
  (.exit 0))
  (.block 1 (.ops [] [⟨none, .mv (.v 4)⟩,
    ⟨none, .bin .add (.t 0) (.i 1)⟩,
    ⟨none, .asg 4 (.t 1)⟩] [])))))
  (.seq (.opc [] [⟨none, .mv (.v 4)⟩,
    ⟨none, .mv (.v 3)⟩,
    ⟨none, .len (.t 1)⟩,
    ⟨none, .bin .eql (.t 0) (.t 2)⟩] [] (.t 3) (.seq (.ops [] [⟨none, .mv (.v 5)⟩,
    ⟨none, .mv (.v 3)⟩,
    ⟨none, .call 154 [(.t 1)]⟩,
    ⟨none, .bldS (ints []) 1 [(0, (.t 2))]⟩,
    ⟨none, .app 1 24 (.t 0) (.t 3)⟩,
    ⟨none, .asg 6 (.t 4)⟩] [])
  .ret)
  .skip)
  (.seq (.ops [] [⟨none, .lda 5 (.v 8)⟩,
    ⟨none, .mv (.v 2)⟩,
    ⟨none, .fA 1 (.v 7)⟩,
    ⟨none, .ld (.t 2)⟩,
    ⟨none, .mv (.v 4)⟩,
    ⟨none, .idxA 1 (.t 3) (.t 4)⟩,
    ⟨none, .ld (.t 5)⟩,
    ⟨none, .idxA 1 (.t 1) (.t 6)⟩,
    ⟨none, .ld (.t 7)⟩,
    ⟨none, .mv (.v 2)⟩,
    ⟨none, .fA 2 (.v 7)⟩,
    ⟨none, .ld (.t 10)⟩,
    ⟨none, .mv (.v 4)⟩,
    ⟨none, .idxA 1 (.t 11) (.t 12)⟩,
    ⟨none, .ld (.t 13)⟩,
    ⟨none, .idxA 1 (.t 9) (.t 14)⟩,
    ⟨none, .ld (.t 15)⟩,
    ⟨none, .call 74 [(.t 0), (.t 8), (.t 16)]⟩,
    ⟨none, .asg 9 (.t 17)⟩] [])
  (.seq (.seq (.ops [] [⟨none, .asg 10 (.i 0)⟩] [])
  (.block 2 (.loop (.seq (.opc [] [⟨none, .mv (.v 10)⟩,
    ⟨none, .mv (.v 9)⟩,
    ⟨none, .len (.t 1)⟩,
    ⟨none, .bin .lss (.t 0) (.t 2)⟩,
    ⟨none, .mv (.t 3)⟩,
    ⟨some (4, true), .mv (.v 5)⟩,
    ⟨some (4, true), .len (.t 5)⟩,
    ⟨some (4, true), .bin .leq (.t 6) (.i 200)⟩,
    ⟨none, .pick (.t 4) (.t 7) (.k (.bool false))⟩] [] (.t 8) .skip
  (.exit 2))
  (.seq (.block 3 (.seq (.ops [] [⟨none, .mv (.v 3)⟩,
    ⟨none, .call 154 [(.t 0)]⟩,
    ⟨none, .asg 11 (.t 1)⟩] [])
  (.seq (.ops [] [⟨none, .mv (.v 11)⟩,
    ⟨none, .mv (.v 4)⟩,
    ⟨none, .mv (.v 9)⟩,
    ⟨none, .mv (.v 10)⟩,
    ⟨none, .idxA 1 (.t 2) (.t 3)⟩,
    ⟨none, .ld (.t 4)⟩,
    ⟨none, .idxA 1 (.t 0) (.t 1)⟩,
    ⟨none, .st (.t 6) (.t 5)⟩] [])
  (.opc [] [⟨none, .lda 5 (.v 7)⟩,
    ⟨none, .lda 5 (.v 8)⟩,
    ⟨none, .mv (.v 11)⟩,
    ⟨none, .dyn (.k (.fn 184 [])) [(.t 0), (.t 1), (.t 2)]⟩] [] (.t 3) (.ops [] [⟨none, .lda 5 (.v 7)⟩,
    ⟨none, .lda 5 (.v 8)⟩,
    ⟨none, .mv (.v 2)⟩,
    ⟨none, .mv (.v 11)⟩,
    ⟨none, .mv (.v 4)⟩,
    ⟨none, .bin .add (.t 4) (.i 1)⟩,
    ⟨none, .mv (.v 5)⟩,
    ⟨none, .dyn (.k (.fn 166 [])) [(.t 0), (.t 1), (.t 2), (.t 3), (.t 5), (.t 6)]⟩,
    ⟨none, .asg 5 (.t 7)⟩] [])
  .skip))))
  (.ops [] [⟨none, .mv (.v 10)⟩,
    ⟨none, .bin .add (.t 0) (.i 1)⟩,
    ⟨none, .asg 10 (.t 1)⟩] []))))))
  (.seq (.ops [] [⟨none, .mv (.v 5)⟩,
    ⟨none, .asg 6 (.t 0)⟩] [])
  .ret))))))
def tr_spec_l06Arrows : List Nat := [0, 1, 2, 3, 4, 5, 12, 6, 7, 13, 14, 15]
def rs_spec_l06Arrows : List RS := [.t 6]
theorem ok_spec_l06Arrows : fnOk Go.Proofs.Try.prog Go.Proofs.Try.f166 tr_spec_l06Arrows c_spec_l06Arrows 6 rs_spec_l06Arrows = true := by decide +kernel

theorem arrows_leaf (c d : Cat) (o : List Int) (hc : c.Shape) (_ : d.Shape) (_ : (o.length : Int) = c.ob) (p : List Int) (f : Nat) (found : List (List Int)) (L : List (List Int))
    (hp : Typed c d o p) (hco : ∀ a b, a < c.fr.length → b < c.fr.length → Fit c d p a b) (hfl : f ≤ p.length) (hl : found.length ≤ 200) (hL : En c d o p L) (ht : ∀ i, i < p.length → 0 ≤ p.getD i 0) :
    RetE Go.Proofs.Try.prog 166 [c.d, d.d, ints o, ints p, .int .i64 f, .sub 0 []] [.o (intss found)] (fun rc gs' => rc = .o (intss ((found ++ L).take 201)) ∧ gs' = [.dead]) := by
  have hcl := hc.fr
  have hpl := hp.len
  refine ret_fnE .tree Go.Proofs.Try.func166 rfl ok_spec_l06Arrows rfl ⟨by simp only [List.length_cons, List.length_nil]; decide, by simp only [List.length_cons, List.length_nil]; decide⟩ rfl ?_; unfold c_spec_l06Arrows tr_spec_l06Arrows rs_spec_l06Arrows; simp only [go_sem, Nat.reduceLT, Nat.reduceAdd, Nat.reduceSub, Nat.reduceBEq, Nat.reduceLeDiff, ↓reduceIte]
  refine loop_set [] (fun (i : Nat) => [(4, .int .i64 i)]) (fun i => i ≤ p.length) (fun i => p.length - i) f (by simp only [go_sem]; rfl) hfl rfl ?_
  rintro i hi
  simp only [go_sem, Nat.reduceLT, Nat.reduceAdd, Nat.reduceSub, Nat.reduceBEq, Nat.reduceLeDiff, ↓reduceIte]
  refine ⟨fun h => ?_, fun h => ⟨fun _ => ?_, fun h2 => ?_⟩⟩
  · simp only [Bool.and_eq_true, decide_eq_true_eq] at h
    exact ⟨i + 1, by omega, by omega, by rw [wrap_lt h.1 (by simp only [maxLen]; omega)]⟩
  · refine call_of (ret_spec_l01Own p (by omega)) rfl (.inl (nv_ints _)) ?_
    simp only [go_sem, Nat.reduceLT, Nat.reduceAdd, Nat.reduceSub, Nat.reduceEqDiff, Nat.reduceBEq, ↓reduceIte]
    refine ⟨by omega, _, _, ⟨rfl, rfl⟩, rfl, ?_, rfl, trivial⟩
    rw [hL.one hp hco (fun i hi => ht i (by omega)), List.take_of_length_le (by simp; omega)]; rfl
  · have hip : i = p.length := by
      by_cases hlt : i < p.length
      · rw [decide_eq_true hlt, decide_eq_true (ht i hlt)] at h; cases h
      · omega
    rw [hip] at h2; simp at h2

theorem arrows_step (c d : Cat) (o : List Int) (hc : c.Shape) (hd : d.Shape) (ho : (o.length : Int) = c.ob) (p : List Int) (f : Nat) (found : List (List Int)) (L : List (List Int))
    (hp : Typed c d o p) (_ : ∀ a b, a < c.fr.length → b < c.fr.length → Fit c d p a b) (hf : ∀ j, j < f → 0 ≤ p.getD j 0) (hl : found.length ≤ 200) (hL : En c d o p L) (a : Nat) (ha : Fst p a)
    (ih : ∀ (p' : List Int) (f' : Nat) (found' : List (List Int)) (L' : List (List Int)), unk p' < unk p → Typed c d o p' → (∀ a b, a < c.fr.length → b < c.fr.length → Fit c d p' a b) → (∀ j, j < f' → 0 ≤ p'.getD j 0) → f' ≤ p'.length → found'.length ≤ 200 → En c d o p' L' →
      RetE Go.Proofs.Try.prog 166 [c.d, d.d, ints o, ints p', .int .i64 f', .sub 0 []] [.o (intss found')] (fun rc gs' => rc = .o (intss ((found' ++ L').take 201)) ∧ gs' = [.dead])) :
    RetE Go.Proofs.Try.prog 166 [c.d, d.d, ints o, ints p, .int .i64 f, .sub 0 []] [.o (intss found)] (fun rc gs' => rc = .o (intss ((found ++ L).take 201)) ∧ gs' = [.dead]) := by
  have hcl := hc.fr
  have hpl := hp.len
  have hdl := hd.fr
  have hal := ha.lt
  have hfa : f ≤ a := Classical.byContradiction fun hh => by have := hf a (by omega); have := ha.neg; omega
  refine ret_fnE .tree Go.Proofs.Try.func166 rfl ok_spec_l06Arrows rfl ⟨by simp only [List.length_cons, List.length_nil]; decide, by simp only [List.length_cons, List.length_nil]; decide⟩ rfl ?_; unfold c_spec_l06Arrows tr_spec_l06Arrows rs_spec_l06Arrows; simp only [go_sem, Nat.reduceLT, Nat.reduceAdd, Nat.reduceSub, Nat.reduceBEq, Nat.reduceLeDiff, ↓reduceIte]
  refine loop_set [] (fun (i : Nat) => [(4, .int .i64 i)]) (fun i => i ≤ a) (fun i => a - i) f (by simp only [go_sem]; rfl) hfa rfl ?_
  rintro i hi
  simp only [go_sem, Nat.reduceLT, Nat.reduceAdd, Nat.reduceSub, Nat.reduceBEq, Nat.reduceLeDiff, ↓reduceIte]
  refine ⟨fun h => ?_, fun h => ⟨fun h2 => by omega, fun h2 => ?_⟩⟩
  · simp only [Bool.and_eq_true, decide_eq_true_eq] at h
    have : i ≠ a := fun hh => by have := ha.neg; rw [hh] at h; omega
    exact ⟨i + 1, by omega, by omega, by rw [wrap_lt h.1 (by simp only [maxLen]; omega)]⟩
  have hia : i = a := Classical.byContradiction fun hh => by
    rw [decide_eq_true (show i < p.length by omega), decide_eq_true (ha.bef i (by omega))] at h; cases h
  subst hia
  have hac : i < c.fr.length := by omega
  have hf1 := mapB_get hc.frm hac
  have ht1 := mapB_get hc.tom (show i < c.to.length by have := hc.to; omega)
  refine ⟨hac, ⟨hf1.1, by omega⟩, by have := hc.to; omega, ⟨ht1.1, by omega⟩, call_of (ret_spec_l02Hom d _ _ (by omega) hd.to) rfl (.inl (nv_ints _)) ?_⟩
  simp only [go_sem, Nat.reduceLT, Nat.reduceAdd, Nat.reduceSub, Nat.reduceBEq, Nat.reduceLeDiff, ↓reduceIte]
  generalize hH : d.hom (o.getD (c.fr.getD i 0).toNat 0) (o.getD (c.to.getD i 0).toNat 0) = H
  have hHl : H.length ≤ 40 := by rw [← hH]; exact Nat.le_trans Cat.homP_len hdl
  refine loop_set [11] (fun s : Nat × List (List Int) × Bool => [(10, .int .i64 s.1), (5, bif s.2.2 then .sub 12 [] else .o (intss ((found ++ s.2.1).take 201))), (12, bif s.2.2 then .o (intss ((found ++ s.2.1).take 201)) else .dead)])
    (fun s => s.1 ≤ H.length ∧ EnP c d o p i H s.1 s.2.1) (fun s => H.length - s.1) (0, [], true) (by simp only [go_sem, Nat.reduceLT, Nat.reduceBEq, ↓reduceIte]; rfl) ⟨Nat.zero_le _, EnP.zero⟩ (by simp only [List.append_nil, List.take_of_length_le (show found.length ≤ 201 by omega)]; rfl) ?_
  rintro ⟨k, Li, fst⟩ ⟨hk, hEi⟩
  simp only at hk hEi
  cases fst
  · simp only [cond_false]
    simp only [go_sem, Nat.reduceLT, Nat.reduceAdd, Nat.reduceSub, Nat.reduceBEq, Nat.reduceLeDiff, ↓reduceIte]
    refine ⟨fun h3 => ?_, fun h3 => ?_⟩
    · simp only [Bool.and_eq_true, decide_eq_true_eq] at h3
      obtain ⟨hkH, h4⟩ := h3
      have h5 : (found ++ Li).take 201 = found ++ Li := List.take_of_length_le (by rw [List.length_take] at h4; omega)
      rw [h5] at h4 ⊢
      have hm := hom_get (d := d) (x := o.getD (c.fr.getD i 0).toNat 0) (y := o.getD (c.to.getD i 0).toNat 0) (i := k) (by rw [hH]; exact hkH)
      obtain ⟨hty, hun⟩ := ha.hom hp hm
      have hx0 := (Cat.mem_hom.1 hm).1
      rw [hH] at hm hty hun hx0
      obtain ⟨L1, hL1⟩ := En.exists _ (Nat.le_refl _) hty
      have hE1 : EnP c d o p i H (k + 1) (Li ++ L1) := hEi.step hp ha (by rw [← hH]; exact Cat.hom_sorted) hkH hx0 hL1
      refine call_of (ret_spec_l01Own p (by omega)) rfl (.inl (nv_ints _)) ?_
      simp only [go_sem, Nat.reduceLT, Nat.reduceAdd, Nat.reduceSub, Nat.reduceBEq, Nat.reduceLeDiff, ↓reduceIte]
      refine ⟨hkH, hal, hal, e_call [11] false (ret_spec_l06Force c d o _ hc hd hty) (by exact ⟨by decide, rfl⟩) (by repeat (first | exact trivial | refine ⟨rfl, ?_⟩)) (by repeat (first | exact trivial | refine ⟨.inl rfl, ?_⟩ | refine ⟨.inr ⟨rfl, rfl⟩, ?_⟩)) ?_⟩
      rintro _ _ ⟨r, p1, ⟨hs1, hs2, hs3⟩, rfl, rfl⟩
      refine ⟨(by repeat (first | exact trivial | refine ⟨(fun h => by cases h), ?_⟩)), (fun h => by cases h), ?_⟩
      simp only [go_sem, Nat.reduceLT, Nat.reduceAdd, Nat.reduceSub, Nat.reduceBEq, Nat.reduceLeDiff, ↓reduceIte]
      refine ⟨fun hr => ?_, fun hr => ?_⟩
      · have hkn : ∀ j, j < i + 1 → 0 ≤ p1.getD j 0 := fun j hj => by
          have e : 0 ≤ (p.set i (H.getD k 0)).getD j 0 := by
            rw [set_get hal]; split
            · exact hx0
            · exact ha.bef j (by omega)
          rw [hs1.ext j e]; exact e
        have hp1l := hs1.ty.len
        refine e_call [5] true (ih p1 (i + 1) (found ++ Li) L1 (by have := hs1.neg; omega) hs1.ty (hs2 hr) hkn (by omega) (by omega) ((En.spr hs1).1 hL1)) (by exact ⟨by decide, rfl⟩) (by repeat (first | exact trivial | refine ⟨rfl, ?_⟩)) (by refine ⟨.inl rfl, .inl rfl, .inl rfl, .inr ⟨rfl, rfl⟩, .inl ?_, .inl rfl, trivial⟩; rw [wrap_lt hal (by simp only [maxLen]; omega)]; rfl) ?_
        rintro _ _ ⟨rfl, rfl⟩
        refine ⟨(by repeat (first | exact trivial | refine ⟨(fun h => by cases h), ?_⟩)), (fun _ => ⟨by simp only [D.tightX, D.tightC, nv_intss], rfl⟩), ?_⟩
        simp only [go_sem, Nat.reduceLT, Nat.reduceAdd, Nat.reduceSub, Nat.reduceBEq, ↓reduceIte]
        refine ⟨(k + 1, Li ++ L1, false), ⟨hkH, hE1⟩, by simp only; omega, by rw [wrap_lt hkH (by simp only [maxLen]; omega), ← List.append_assoc] <;> rfl⟩
      · have hL0 : L1 = [] := hL1.none (hs3 hr)
        subst hL0
        refine ⟨(k + 1, Li, false), ⟨hkH, by simpa using hE1⟩, by simp only; omega, by rw [wrap_lt hkH (by simp only [maxLen]; omega)]; simp only [cond_false, h5] <;> rfl⟩
    · refine ⟨_, _, ⟨rfl, rfl⟩, rfl, ?_, rfl, trivial⟩
      have hout : (found ++ L).take 201 = (found ++ Li).take 201 := by
        by_cases hkH : k < H.length
        · rw [decide_eq_true hkH, Bool.true_and, decide_eq_false_iff_not] at h3
          obtain ⟨R, hR⟩ := EnP.pre hp ha (by rw [hH]; exact hEi) (by rw [hH]; exact hk) hL
          rw [hR, ← List.append_assoc]
          exact take_more (by omega)
        · have hkk : k = H.length := by omega
          subst hkk
          rw [hL.eq (EnP.done hp ha (by rw [hH]; exact hEi))]
      rw [hout]; rfl
  · simp only [cond_true]
    simp only [go_sem, Nat.reduceLT, Nat.reduceAdd, Nat.reduceSub, Nat.reduceBEq, Nat.reduceLeDiff, ↓reduceIte]
    refine ⟨fun h3 => ?_, fun h3 => ?_⟩
    · simp only [Bool.and_eq_true, decide_eq_true_eq] at h3
      obtain ⟨hkH, h4⟩ := h3
      have h5 : (found ++ Li).take 201 = found ++ Li := List.take_of_length_le (by rw [List.length_take] at h4; omega)
      rw [h5] at h4 ⊢
      have hm := hom_get (d := d) (x := o.getD (c.fr.getD i 0).toNat 0) (y := o.getD (c.to.getD i 0).toNat 0) (i := k) (by rw [hH]; exact hkH)
      obtain ⟨hty, hun⟩ := ha.hom hp hm
      have hx0 := (Cat.mem_hom.1 hm).1
      rw [hH] at hm hty hun hx0
      obtain ⟨L1, hL1⟩ := En.exists _ (Nat.le_refl _) hty
      have hE1 : EnP c d o p i H (k + 1) (Li ++ L1) := hEi.step hp ha (by rw [← hH]; exact Cat.hom_sorted) hkH hx0 hL1
      refine call_of (ret_spec_l01Own p (by omega)) rfl (.inl (nv_ints _)) ?_
      simp only [go_sem, Nat.reduceLT, Nat.reduceAdd, Nat.reduceSub, Nat.reduceBEq, Nat.reduceLeDiff, ↓reduceIte]
      refine ⟨hkH, hal, hal, e_call [11] false (ret_spec_l06Force c d o _ hc hd hty) (by exact ⟨by decide, rfl⟩) (by repeat (first | exact trivial | refine ⟨rfl, ?_⟩)) (by repeat (first | exact trivial | refine ⟨.inl rfl, ?_⟩ | refine ⟨.inr ⟨rfl, rfl⟩, ?_⟩)) ?_⟩
      rintro _ _ ⟨r, p1, ⟨hs1, hs2, hs3⟩, rfl, rfl⟩
      refine ⟨(by repeat (first | exact trivial | refine ⟨(fun h => by cases h), ?_⟩)), (fun h => by cases h), ?_⟩
      simp only [go_sem, Nat.reduceLT, Nat.reduceAdd, Nat.reduceSub, Nat.reduceBEq, Nat.reduceLeDiff, ↓reduceIte]
      refine ⟨fun hr => ?_, fun hr => ?_⟩
      · have hkn : ∀ j, j < i + 1 → 0 ≤ p1.getD j 0 := fun j hj => by
          have e : 0 ≤ (p.set i (H.getD k 0)).getD j 0 := by
            rw [set_get hal]; split
            · exact hx0
            · exact ha.bef j (by omega)
          rw [hs1.ext j e]; exact e
        have hp1l := hs1.ty.len
        refine e_call [12] true (ih p1 (i + 1) (found ++ Li) L1 (by have := hs1.neg; omega) hs1.ty (hs2 hr) hkn (by omega) (by omega) ((En.spr hs1).1 hL1)) (by exact ⟨by decide, rfl⟩) (by repeat (first | exact trivial | refine ⟨rfl, ?_⟩)) (by refine ⟨.inl rfl, .inl rfl, .inl rfl, .inr ⟨rfl, rfl⟩, .inl ?_, .inl rfl, trivial⟩; rw [wrap_lt hal (by simp only [maxLen]; omega)]; rfl) ?_
        rintro _ _ ⟨rfl, rfl⟩
        refine ⟨(by repeat (first | exact trivial | refine ⟨(fun h => by cases h), ?_⟩)), (fun _ => ⟨by simp only [D.tightX, D.tightC, nv_intss], rfl⟩), ?_⟩
        simp only [go_sem, Nat.reduceLT, Nat.reduceAdd, Nat.reduceSub, Nat.reduceBEq, ↓reduceIte]
        refine ⟨(k + 1, Li ++ L1, false), ⟨hkH, hE1⟩, by simp only; omega, by rw [wrap_lt hkH (by simp only [maxLen]; omega), ← List.append_assoc] <;> rfl⟩
      · have hL0 : L1 = [] := hL1.none (hs3 hr)
        subst hL0
        refine ⟨(k + 1, Li, true), ⟨hkH, by simpa using hE1⟩, by simp only; omega, by rw [wrap_lt hkH (by simp only [maxLen]; omega)]; simp only [cond_true, h5] <;> rfl⟩
    · refine ⟨_, _, ⟨rfl, rfl⟩, rfl, ?_, rfl, trivial⟩
      have hout : (found ++ L).take 201 = (found ++ Li).take 201 := by
        by_cases hkH : k < H.length
        · rw [decide_eq_true hkH, Bool.true_and, decide_eq_false_iff_not] at h3
          obtain ⟨R, hR⟩ := EnP.pre hp ha (by rw [hH]; exact hEi) (by rw [hH]; exact hk) hL
          rw [hR, ← List.append_assoc]
          exact take_more (by omega)
        · have hkk : k = H.length := by omega
          subst hkk
          rw [hL.eq (EnP.done hp ha (by rw [hH]; exact hEi))]
      rw [hout]; rfl

theorem ret_spec_l06Arrows (c d : Cat) (o : List Int) (hc : c.Shape) (hd : d.Shape) (ho : (o.length : Int) = c.ob) : ∀ (n : Nat) (p : List Int) (f : Nat) (found : List (List Int)) (L : List (List Int)),
    unk p < n → Typed c d o p → (∀ a b, a < c.fr.length → b < c.fr.length → Fit c d p a b) → (∀ j, j < f → 0 ≤ p.getD j 0) → f ≤ p.length → found.length ≤ 200 → En c d o p L →
    RetE Go.Proofs.Try.prog 166 [c.d, d.d, ints o, ints p, .int .i64 f, .sub 0 []] [.o (intss found)] (fun rc gs' => rc = .o (intss ((found ++ L).take 201)) ∧ gs' = [.dead]) := by
  intro n
  induction n with
  | zero => intro p f found L hn; omega
  | succ n ih =>
    intro p f found L hn hp hco hf hfl hl hL
    rcases fst_or p with ht | ⟨a, ha⟩
    · exact arrows_leaf c d o hc hd ho p f found L hp hco hfl hl hL ht
    · exact arrows_step c d o hc hd ho p f found L hp hco hf hl hL a ha fun p' f' found' L' h => ih p' f' found' L' (by omega)
end Go.D3

/- CONTRACTS: order and sorting of lists of numbers. -/
namespace Go.D3
open Go
set_option maxRecDepth 100000
set_option maxHeartbeats 4000000

/-- Less, as lists of numbers. -/
def lexB : List Int → List Int → Bool
  | [], [] => false
  | [], _ :: _ => true
  | _ :: _, [] => false
  | a :: l, b :: r => if a = b then lexB l r else decide (a < b)
theorem lexB_irr : ∀ a : List Int, lexB a a = false
  | [] => rfl
  | x :: l => by simp only [lexB, if_true]; exact lexB_irr l
theorem lexB_asymm : ∀ {a b : List Int}, lexB a b = true → lexB b a = false
  | [], [], _ => rfl
  | [], _ :: _, _ => rfl
  | _ :: _, [], h => by cases h
  | a :: l, b :: r, h => by
    unfold lexB at h ⊢
    by_cases e : a = b
    · rw [if_pos e] at h; rw [if_pos e.symm]; exact lexB_asymm h
    · rw [if_neg e] at h; rw [if_neg (Ne.symm e)]; simp at h ⊢; omega
/-- Not greater is transitive. -/
theorem lexB_trans : ∀ {a b c : List Int}, lexB b a = false → lexB c b = false → lexB c a = false
  | [], _, [], _, _ => rfl
  | [], _, _ :: _, _, _ => rfl
  | _ :: _, [], _, h, _ => by cases h
  | _ :: _, _ :: _, [], _, h => by cases h
  | a :: l, b :: r, c :: s, h1, h2 => by
    unfold lexB at h1 h2 ⊢
    by_cases e1 : b = a
    · subst e1
      rw [if_pos rfl] at h1
      by_cases e2 : c = b
      · subst e2; rw [if_pos rfl] at h2 ⊢; exact lexB_trans h1 h2
      · rw [if_neg e2] at h2 ⊢; exact h2
    · rw [if_neg e1] at h1
      by_cases e2 : c = b
      · subst e2; rw [if_neg e1]; exact h1
      · rw [if_neg e2] at h2
        simp at h1 h2
        rw [if_neg (by omega)]
        simp; omega
theorem lexB_eq : ∀ {a b : List Int}, lexB a b = false → lexB b a = false → a = b
  | [], [], _, _ => rfl
  | [], _ :: _, h, _ => by cases h
  | _ :: _, [], _, h => by cases h
  | a :: l, b :: r, h1, h2 => by
    unfold lexB at h1 h2
    by_cases e : a = b
    · subst e; rw [if_pos rfl] at h1 h2; rw [lexB_eq h1 h2]
    · rw [if_neg e] at h1; rw [if_neg (Ne.symm e)] at h2; simp at h1 h2; omega
theorem lexB_drop {a b : List Int} {i : Nat} (ha : i < a.length) (hb : i < b.length) (h : a.getD i 0 = b.getD i 0) : lexB (a.drop i) (b.drop i) = lexB (a.drop (i + 1)) (b.drop (i + 1)) := by
  rw [getD_lt ha, getD_lt hb] at h
  rw [List.drop_eq_getElem_cons ha, List.drop_eq_getElem_cons hb]
  simp only [lexB, h, if_true]

-- spec.l01Less
def c_spec_l01Less : C :=
  (.seq (.ops [] [⟨none, .asg 2 (.k (.bool false))⟩] [])
  (.seq (.seq (.ops [] [⟨none, .asg 3 (.i 0)⟩] [])
  (.block 0 (.loop (.seq (.opc [] [⟨none, .mv (.v 3)⟩,
    ⟨none, .mv (.v 0)⟩,
    ⟨none, .len (.t 1)⟩,
    ⟨none, .bin .lss (.t 0) (.t 2)⟩,
    ⟨none, .mv (.t 3)⟩,
    ⟨some (4, true), .mv (.v 3)⟩,
    ⟨some (4, true), .mv (.v 1)⟩,
    ⟨some (4, true), .len (.t 6)⟩,
    ⟨some (4, true), .bin .lss (.t 5) (.t 7)⟩,
    ⟨none, .pick (.t 4) (.t 8) (.k (.bool false))⟩] [] (.t 9) .skip
  (.exit 0))
  (.seq (.block 1 (.opc [] [⟨none, .mv (.v 0)⟩,
    ⟨none, .mv (.v 3)⟩,
    ⟨none, .idxA 1 (.t 0) (.t 1)⟩,
    ⟨none, .ld (.t 2)⟩,
    ⟨none, .mv (.v 1)⟩,
    ⟨none, .mv (.v 3)⟩,
    ⟨none, .idxA 1 (.t 4) (.t 5)⟩,
    ⟨none, .ld (.t 6)⟩,
    ⟨none, .bin .neq (.t 3) (.t 7)⟩] [] (.t 8) (.seq (.ops [] [⟨none, .mv (.v 0)⟩,
    ⟨none, .mv (.v 3)⟩,
    ⟨none, .idxA 1 (.t 0) (.t 1)⟩,
    ⟨none, .ld (.t 2)⟩,
    ⟨none, .mv (.v 1)⟩,
    ⟨none, .mv (.v 3)⟩,
    ⟨none, .idxA 1 (.t 4) (.t 5)⟩,
    ⟨none, .ld (.t 6)⟩,
    ⟨none, .bin .lss (.t 3) (.t 7)⟩,
    ⟨none, .asg 2 (.t 8)⟩] [])
  .ret)
  .skip))
  (.ops [] [⟨none, .mv (.v 3)⟩,
    ⟨none, .bin .add (.t 0) (.i 1)⟩,
    ⟨none, .asg 3 (.t 1)⟩] []))))))
  (.seq (.ops [] [⟨none, .mv (.v 0)⟩,
    ⟨none, .len (.t 0)⟩,
    ⟨none, .mv (.v 1)⟩,
    ⟨none, .len (.t 2)⟩,
    ⟨none, .bin .lss (.t 1) (.t 3)⟩,
    ⟨none, .asg 2 (.t 4)⟩] [])
  .ret)))
def tr_spec_l01Less : List Nat := [0, 1, 4, 5]
def rs_spec_l01Less : List RS := [.t 2]
theorem ok_spec_l01Less : fnOk Go.Proofs.Try.prog Go.Proofs.Try.f204 tr_spec_l01Less c_spec_l01Less 2 rs_spec_l01Less = true := by decide +kernel

theorem ret_spec_l01Less (a b : List Int) (hl : a.length ≤ 1048576) : Ret Go.Proofs.Try.prog 204 [.v (ints a), .v (ints b)] (.bool (lexB a b)) := by
  refine ret_fn Go.Proofs.Try.func204 ok_spec_l01Less rfl (show 2 < 500 by decide) rfl ?_; unfold c_spec_l01Less tr_spec_l01Less rs_spec_l01Less; simp only [go_sem, Nat.reduceLT, Nat.reduceAdd, ↓reduceIte]
  refine loop_set [] (fun i : Nat => [(3, .int .i64 i)]) (fun i => i ≤ a.length ∧ i ≤ b.length ∧ lexB a b = lexB (a.drop i) (b.drop i)) (fun i => a.length - i) 0 (by simp only [go_sem]; rfl) ⟨Nat.zero_le _, Nat.zero_le _, rfl⟩ rfl ?_
  rintro i ⟨hi, hi2, hs⟩
  simp only [go_sem, Nat.reduceLT, Nat.reduceAdd, Nat.reduceSub, ↓reduceIte]
  refine ⟨fun h => ?_, fun h => ?_⟩
  · simp only [Bool.and_eq_true, decide_eq_true_eq] at h
    refine ⟨h.1, h.2, fun h2 => ⟨h.1, h.2, ?_⟩, fun h2 => ⟨i + 1, ⟨h.1, h.2, ?_⟩, by omega, by rw [wrap_lt h.1 (by simp only [maxLen]; omega)]⟩⟩
    · have h3 : a.getD i 0 ≠ b.getD i 0 := by simpa using h2
      rw [hs, List.drop_eq_getElem_cons h.1, List.drop_eq_getElem_cons h.2]
      rw [getD_lt h.1, getD_lt h.2] at h3 ⊢
      simp only [lexB, if_neg h3]
    · have h3 : a.getD i 0 = b.getD i 0 := by simpa using h2
      rw [hs, lexB_drop h.1 h.2 h3]
  · rw [hs]
    by_cases h1 : i < a.length
    · have h2 : ¬ i < b.length := by simp only [h1, decide_true, Bool.true_and, decide_eq_false_iff_not] at h; exact h
      rw [List.drop_eq_getElem_cons h1, List.drop_eq_nil_of_le (show b.length ≤ i by omega)]
      simp only [lexB, decide_eq_false_iff_not]; omega
    · rw [List.drop_eq_nil_of_le (show a.length ≤ i by omega)]
      by_cases h2 : i < b.length
      · rw [List.drop_eq_getElem_cons h2]; simp only [lexB, decide_eq_true_eq]; omega
      · rw [List.drop_eq_nil_of_le (show b.length ≤ i by omega)]; simp only [lexB, decide_eq_false_iff_not]; omega

/-- Ascending order. -/
def sortL (l : List (List Int)) : List (List Int) := l.mergeSort fun a b => !lexB b a
theorem sortL_perm (l : List (List Int)) : (sortL l).Perm l := List.mergeSort_perm _ _
theorem sortL_pw (l : List (List Int)) : (sortL l).Pairwise fun a b => (!lexB b a) = true :=
  List.pairwise_mergeSort (fun a b c h1 h2 => by simp only [Bool.not_eq_true'] at h1 h2 ⊢; exact lexB_trans h1 h2)
    (fun a b => by cases h : lexB b a; simp; simp [lexB_asymm h]) l
theorem sortL_eq {l r : List (List Int)} (hp : r.Perm l) (hs : r.Pairwise fun a b => (!lexB b a) = true) : r = sortL l :=
  (hp.trans (sortL_perm l).symm).eq_of_pairwise (le := fun a b => (!lexB b a) = true) (fun a b _ _ h1 h2 => by simp only [Bool.not_eq_true'] at h1 h2; exact lexB_eq h2 h1) hs (sortL_pw l)
theorem sortL_congr {l r : List (List Int)} (hp : r.Perm l) : sortL r = sortL l := sortL_eq ((sortL_perm r).trans hp) (sortL_pw r)

-- spec.l25Sorted
def c_spec_l25Sorted : C :=
  (.seq (.ops [] [⟨none, .asg 1 (.k (.nils (ints [])))⟩] [])
  (.seq (.ops [] [⟨none, .bldS (ints []) 0 []⟩,
    ⟨none, .mv (.v 0)⟩,
    ⟨none, .app 1 24 (.t 0) (.t 1)⟩,
    ⟨none, .asg 2 (.t 2)⟩] [])
  (.seq (.seq (.ops [] [⟨none, .asg 3 (.i 1)⟩] [])
  (.block 0 (.loop (.seq (.opc [] [⟨none, .mv (.v 3)⟩,
    ⟨none, .mv (.v 2)⟩,
    ⟨none, .len (.t 1)⟩,
    ⟨none, .bin .lss (.t 0) (.t 2)⟩] [] (.t 3) .skip
  (.exit 0))
  (.seq (.block 1 (.seq (.ops [] [⟨none, .mv (.v 3)⟩,
    ⟨none, .asg 4 (.t 0)⟩] [])
  (.block 2 (.loop (.seq (.opc [] [⟨none, .mv (.v 4)⟩,
    ⟨none, .bin .gtr (.t 0) (.i 0)⟩,
    ⟨none, .mv (.t 1)⟩,
    ⟨some (2, true), .mv (.v 2)⟩,
    ⟨some (2, true), .mv (.v 4)⟩,
    ⟨some (2, true), .idxA 1 (.t 3) (.t 4)⟩,
    ⟨some (2, true), .ld (.t 5)⟩,
    ⟨some (2, true), .mv (.v 2)⟩,
    ⟨some (2, true), .mv (.v 4)⟩,
    ⟨some (2, true), .bin .sub (.t 8) (.i 1)⟩,
    ⟨some (2, true), .idxA 1 (.t 7) (.t 9)⟩,
    ⟨some (2, true), .ld (.t 10)⟩,
    ⟨some (2, true), .call 204 [(.t 6), (.t 11)]⟩,
    ⟨none, .pick (.t 2) (.t 12) (.k (.bool false))⟩] [] (.t 13) .skip
  (.exit 2))
  (.seq (.block 3 (.seq (.ops [] [⟨none, .mv (.v 2)⟩,
    ⟨none, .mv (.v 4)⟩,
    ⟨none, .idxA 1 (.t 0) (.t 1)⟩,
    ⟨none, .ld (.t 2)⟩,
    ⟨none, .asg 5 (.t 3)⟩] [])
  (.seq (.ops [] [⟨none, .mv (.v 2)⟩,
    ⟨none, .mv (.v 4)⟩,
    ⟨none, .mv (.v 2)⟩,
    ⟨none, .mv (.v 4)⟩,
    ⟨none, .bin .sub (.t 3) (.i 1)⟩,
    ⟨none, .idxA 1 (.t 2) (.t 4)⟩,
    ⟨none, .ld (.t 5)⟩,
    ⟨none, .idxA 1 (.t 0) (.t 1)⟩,
    ⟨none, .st (.t 7) (.t 6)⟩] [])
  (.ops [] [⟨none, .mv (.v 2)⟩,
    ⟨none, .mv (.v 4)⟩,
    ⟨none, .bin .sub (.t 1) (.i 1)⟩,
    ⟨none, .mv (.v 5)⟩,
    ⟨none, .idxA 1 (.t 0) (.t 2)⟩,
    ⟨none, .st (.t 4) (.t 3)⟩] []))))
  (.ops [] [⟨none, .mv (.v 4)⟩,
    ⟨none, .bin .sub (.t 0) (.i 1)⟩,
    ⟨none, .asg 4 (.t 1)⟩] [])))))))
  (.ops [] [⟨none, .mv (.v 3)⟩,
    ⟨none, .bin .add (.t 0) (.i 1)⟩,
    ⟨none, .asg 3 (.t 1)⟩] []))))))
  (.seq (.ops [] [⟨none, .mv (.v 2)⟩,
    ⟨none, .asg 1 (.t 0)⟩] [])
  .ret))))
def tr_spec_l25Sorted : List Nat := [0, 2, 3, 4, 5, 6]
def rs_spec_l25Sorted : List RS := [.t 1]
theorem ok_spec_l25Sorted : fnOk Go.Proofs.Try.prog Go.Proofs.Try.f197 tr_spec_l25Sorted c_spec_l25Sorted 1 rs_spec_l25Sorted = true := by decide +kernel

theorem hole_get {o : List (List Int)} {k j : Nat} (hj : j ≠ k) : ((o.map ints).set k .dead).getD j (ints []) = ints (o.getD j []) := by
  rw [List.getD_eq_getElem?_getD, List.getElem?_set_ne (Ne.symm hj), List.getElem?_map, List.getD_eq_getElem?_getD]
  cases o[j]? <;> rfl
theorem get_set {L : List D} {k : Nat} {x z : D} (hk : k < L.length) : (L.set k x).getD k z = x := by
  rw [List.getD_eq_getElem?_getD, List.getElem?_set_self hk]; rfl
theorem get_set_ne {L : List D} {k j : Nat} {x z : D} (hj : j ≠ k) : (L.set k x).getD j z = L.getD j z := by
  rw [List.getD_eq_getElem?_getD, List.getElem?_set_ne (Ne.symm hj), List.getD_eq_getElem?_getD]
theorem swap_set {m : List D} {i j : Nat} {d A B : D} (h : i ≠ j) : (((m.set i d).set j d).set i A).set j B = (m.set i A).set j B := by
  rw [List.set_comm d A (Ne.symm h), List.set_set, List.set_set]
/-- Two elements change places. -/
def swapL (o : List (List Int)) (k : Nat) : List (List Int) := (o.set k (o.getD (k - 1) [])).set (k - 1) (o.getD k [])
theorem swap_get {o : List (List Int)} {k : Nat} (hk0 : 0 < k) (hk : k < o.length) (q : Nat) : (swapL o k).getD q [] = if q = k - 1 then o.getD k [] else if q = k then o.getD (k - 1) [] else o.getD q [] := by
  unfold swapL
  have gs : ∀ {L : List (List Int)} {j : Nat} {x : List Int}, j < L.length → (L.set j x).getD j [] = x := fun h => by rw [List.getD_eq_getElem?_getD, List.getElem?_set_self h]; rfl
  have gn : ∀ {L : List (List Int)} {j q : Nat} {x : List Int}, q ≠ j → (L.set j x).getD q [] = L.getD q [] := fun h => by rw [List.getD_eq_getElem?_getD, List.getElem?_set_ne (Ne.symm h), List.getD_eq_getElem?_getD]
  by_cases h1 : q = k - 1
  · subst h1; rw [if_pos rfl, gs (by rw [List.length_set]; omega)]
  · rw [if_neg h1, gn h1]
    by_cases h2 : q = k
    · subst h2; rw [if_pos rfl, gs hk]
    · rw [if_neg h2, gn h2]
theorem swap_perm {o : List (List Int)} {k : Nat} (hk : k < o.length) : (swapL o k).Perm o := by
  unfold swapL
  rw [getD_lt hk, getD_lt (show k - 1 < o.length by omega)]
  exact List.set_set_perm hk (by omega)
theorem swap_ord {o : List (List Int)} {k i : Nat} (hk0 : 0 < k) (hk : k < o.length) (hlx : lexB (o.getD k []) (o.getD (k - 1) []) = true)
    (hs : ∀ (p q : Nat), p < q → q ≤ i → q ≠ k → lexB (o.getD q []) (o.getD p []) = false) (p q : Nat) (hpq : p < q) (hq : q ≤ i) (hqk : q ≠ k - 1) : lexB ((swapL o k).getD q []) ((swapL o k).getD p []) = false := by
  rw [swap_get hk0 hk, swap_get hk0 hk, if_neg hqk]
  by_cases h1 : q = k
  · rw [if_pos h1]
    by_cases h2 : p = k - 1
    · rw [if_pos h2]; exact lexB_asymm hlx
    · rw [if_neg h2, if_neg (by omega)]; exact hs p (k - 1) (by omega) (by omega) (by omega)
  · rw [if_neg h1]
    by_cases h2 : p = k - 1
    · rw [if_pos h2]; exact hs k q (by omega) hq h1
    · rw [if_neg h2]
      by_cases h3 : p = k
      · rw [if_pos h3]; exact hs (k - 1) q (by omega) hq h1
      · rw [if_neg h3]; exact hs p q hpq hq h1
theorem sorted_one (l : List (List Int)) (hl : l.length ≤ 1048576) (hr : ∀ x, x ∈ l → x.length ≤ 1048576) :
    RetE Go.Proofs.Try.prog 197 [.sub 0 []] [.o (intss l)] (fun rc gs' => rc = .o (intss (sortL l)) ∧ gs' = [.dead]) := by
  refine ret_fnE .tree Go.Proofs.Try.func197 rfl ok_spec_l25Sorted rfl ⟨by simp only [List.length_cons, List.length_nil]; decide, by simp only [List.length_cons, List.length_nil]; decide⟩ rfl ?_; unfold c_spec_l25Sorted tr_spec_l25Sorted rs_spec_l25Sorted; simp only [go_sem, Nat.reduceLT, Nat.reduceAdd, Nat.reduceSub, Nat.reduceEqDiff, Nat.reduceBEq, Nat.reduceLeDiff, ↓reduceIte]
  refine ⟨fun e he => by obtain ⟨x, _, rfl⟩ := List.mem_map.1 he; rfl, by rw [List.length_map]; omega, ?_⟩
  refine loop_set [4, 5] (fun s : Nat × List (List Int) => [(2, .o (intss s.2)), (3, .int .i64 s.1)]) (fun s => s.2.Perm l ∧ s.1 ≤ max 1 l.length ∧ ∀ p q, p < q → q < s.1 → q < l.length → lexB (s.2.getD q []) (s.2.getD p []) = false) (fun s => l.length - s.1) (1, l) (by simp only [go_sem, Nat.reduceLT, ↓reduceIte]; rfl)
    ⟨.refl _, by simp only; omega, fun p q h1 h2 _ => absurd h2 (by simp only; omega)⟩ rfl ?_
  rintro ⟨i, o⟩ ⟨hp, hi, hs⟩
  simp only at hp hi hs
  have hol := hp.length_eq
  simp only [go_sem, Nat.reduceLT, Nat.reduceAdd, Nat.reduceSub, Nat.reduceBEq, Nat.reduceLeDiff, ↓reduceIte]
  refine ⟨fun h => ?_, fun h => ?_⟩
  · refine loop_set [5] (fun s : Nat × List (List Int) => [(2, .o (intss s.2)), (4, .int .i64 s.1)]) (fun s => s.2.Perm l ∧ s.1 ≤ i ∧ ∀ p q, p < q → q ≤ i → q ≠ s.1 → lexB (s.2.getD q []) (s.2.getD p []) = false) (fun s => s.1) (i, o) (by simp only [go_sem, Nat.reduceLT, ↓reduceIte]; rfl)
      ⟨hp, Nat.le_refl _, fun p q h1 h2 h3 => hs p q h1 (by simp only at h3; omega) (by omega)⟩ rfl ?_
    rintro ⟨k, o1⟩ ⟨hp1, hk, hs1⟩
    simp only at hp1 hk hs1
    have hol1 := hp1.length_eq
    simp only [go_sem, Nat.reduceLT, Nat.reduceAdd, Nat.reduceSub, ↓reduceIte]
    have wk : 0 < (k : Int) → IntKind.i64.wrap ((k : Int) - 1) = ((k - 1 : Nat) : Int) := fun h => by rw [wrap_small (by omega) (by omega)]; omega
    refine ⟨fun h1 => ⟨h1, by omega⟩, fun h1 => ⟨h1, by rw [wk h1]; omega, by rw [wk h1]; omega⟩, ?_⟩
    refine callg_of (fun _ => ret_spec_l01Less _ _ (by
      have : k < o1.length := by omega
      rw [getD_lt this]
      exact hr _ (hp1.mem_iff.1 (List.getElem_mem this)))) rfl (fun h => h) (.inl rfl) ?_
    simp only [go_sem, Nat.reduceLT, Nat.reduceAdd, Nat.reduceSub, Nat.reduceBEq, Nat.reduceLeDiff, ↓reduceIte]
    refine ⟨fun h1 => ?_, fun h1 => ?_⟩
    · simp only [Bool.and_eq_true, decide_eq_true_eq] at h1
      obtain ⟨hk0, hlx⟩ := h1
      have hk1 : k - 1 ≠ k := by omega
      have hko : k < o1.length := by omega
      simp only [wk hk0, Int.toNat_natCast] at hlx ⊢
      have hkm : k < (o1.map ints).length := by rw [List.length_map]; exact hko
      have hkm1 : k - 1 < (o1.map ints).length := by rw [List.length_map]; omega
      rw [hole_get hk1]
      simp only [go_sem, Nat.reduceLT, Nat.reduceAdd, Nat.reduceSub, Nat.reduceEqDiff, Nat.reduceBEq, ↓reduceIte]
      have hkm2 : k - 1 < ((o1.map ints).set k D.dead).length := by rw [List.length_set]; exact hkm1
      simp only [wk hk0, Int.toNat_natCast, hole_get hk1, get_set hkm, get_set hkm2, get_set_ne hk1, get_set_ne (Ne.symm hk1)]
      simp only [go_sem]
      simp only [List.length_set]
      refine ⟨hko, hkm1, hkm, hkm, hkm1, hkm1, (k - 1, swapL o1 k), ⟨(swap_perm hko).trans hp1, by simp only; omega, fun p q h1 h2 h3 => swap_ord (by omega) hko hlx hs1 p q h1 h2 h3⟩, by simp only; omega, ?_⟩
      rw [swap_set (Ne.symm hk1)]
      unfold swapL
      simp only [intss, lst, List.map_set]
    · refine ⟨(i + 1, o1), ⟨hp1, by simp only; omega, fun p q h2 h3 _ => ?_⟩, by simp only; omega, by rw [wrap_lt h (by simp only [maxLen]; omega)]⟩
      simp only at h3
      by_cases hqk : q = k
      · subst hqk
        have hq0 : 0 < (q : Int) := by omega
        have hlx : lexB (o1.getD q []) (o1.getD (q - 1) []) = false := by simpa only [hq0, decide_true, Bool.true_and, wk hq0, Int.toNat_natCast] using h1
        by_cases h4 : p = q - 1
        · subst h4; exact hlx
        · exact lexB_trans (hs1 p (q - 1) (by omega) (by omega) (by omega)) hlx
      · exact hs1 p q h2 (by omega) hqk
  · refine ⟨.o (intss (sortL l)), [.dead], ⟨rfl, rfl⟩, rfl, ?_, rfl, trivial⟩
    have : o = sortL l := sortL_eq hp (List.pairwise_iff_getElem.2 fun p q h1 h2 h3 => by
      have := hs p q h3 (by omega) (by omega)
      rw [getD_lt h1, getD_lt h2] at this
      simp only [this, Bool.not_false])
    rw [this]; rfl

-- spec.l01Flat
def c_spec_l01Flat : C :=
  (.seq (.ops [] [⟨none, .asg 1 (.k (.nils (.int .i64 0)))⟩] [])
  (.seq (.ops [] [⟨none, .bldS (.int .i64 0) 0 []⟩,
    ⟨none, .asg 2 (.t 0)⟩] [])
  (.seq (.seq (.ops [] [⟨none, .asg 3 (.i 0)⟩] [])
  (.block 0 (.loop (.seq (.opc [] [⟨none, .mv (.v 3)⟩,
    ⟨none, .mv (.v 0)⟩,
    ⟨none, .len (.t 1)⟩,
    ⟨none, .bin .lss (.t 0) (.t 2)⟩] [] (.t 3) .skip
  (.exit 0))
  (.seq (.block 1 (.ops [] [⟨none, .mv (.v 2)⟩,
    ⟨none, .mv (.v 0)⟩,
    ⟨none, .mv (.v 3)⟩,
    ⟨none, .idxA 1 (.t 1) (.t 2)⟩,
    ⟨none, .ld (.t 3)⟩,
    ⟨none, .app 1 8 (.t 0) (.t 4)⟩,
    ⟨none, .asg 2 (.t 5)⟩] []))
  (.ops [] [⟨none, .mv (.v 3)⟩,
    ⟨none, .bin .add (.t 0) (.i 1)⟩,
    ⟨none, .asg 3 (.t 1)⟩] []))))))
  (.seq (.ops [] [⟨none, .mv (.v 2)⟩,
    ⟨none, .asg 1 (.t 0)⟩] [])
  .ret))))
def tr_spec_l01Flat : List Nat := [0, 2, 3, 4]
def rs_spec_l01Flat : List RS := [.t 1]
theorem ok_spec_l01Flat : fnOk Go.Proofs.Try.prog Go.Proofs.Try.f84 tr_spec_l01Flat c_spec_l01Flat 1 rs_spec_l01Flat = true := by decide +kernel

theorem flat_any (P : List (List Int)) (hl : P.length ≤ 1048576) (hf : P.flatten.length ≤ 1099511627776) : Ret Go.Proofs.Try.prog 84 [.v (intss P)] (ints P.flatten) := by
  refine ret_fn Go.Proofs.Try.func84 ok_spec_l01Flat rfl (show 1 < 500 by decide) rfl ?_; unfold c_spec_l01Flat tr_spec_l01Flat rs_spec_l01Flat; simp only [go_sem, Nat.reduceLT, Nat.reduceAdd, Nat.reduceSub, ↓reduceIte]
  refine loop_set [] (fun (i : Nat) => [(2, .o (ints (P.take i).flatten)), (3, .int .i64 i)]) (fun i => i ≤ P.length) (fun i => P.length - i) 0 (by simp only [go_sem]; rfl) (Nat.zero_le _) rfl ?_
  rintro i hi
  simp only [go_sem, Nat.reduceLT, Nat.reduceAdd, Nat.reduceSub, Nat.reduceBEq, ↓reduceIte]
  refine ⟨fun h => ⟨h, fun e he => by obtain ⟨x, _, rfl⟩ := List.mem_map.1 he; rfl, ?_, i + 1, by omega, by omega, ?_⟩, fun h => by rw [List.take_of_length_le (by omega)]⟩
  · have h1 : P.flatten = (P.take (i + 1)).flatten ++ (P.drop (i + 1)).flatten := by rw [← List.flatten_append, List.take_append_drop]
    rw [take_snoc h []] at h1
    have h2 := congrArg List.length h1
    simp only [List.flatten_append, List.flatten_cons, List.flatten_nil, List.append_nil, List.length_append] at h2
    rw [List.length_map]
    omega
  · rw [wrap_lt h (by simp only [maxLen]; omega), take_snoc h []]
    simp only [List.flatten_append, List.flatten_cons, List.flatten_nil, List.append_nil, lst, List.map_append]
end Go.D3

/- CONTRACTS: the reference's small functions for isomorphisms. -/
namespace Go.D3
open Go
set_option maxRecDepth 100000
set_option maxHeartbeats 4000000

-- spec.l10Which
def c_spec_l10Which : C :=
  (.seq (.ops [] [⟨none, .asg 3 (.i 0)⟩] [])
  (.seq (.ops [] [⟨none, .asg 4 (.i 0)⟩] [])
  (.seq (.opc [] [⟨none, .mv (.v 0)⟩,
    ⟨none, .mv (.v 1)⟩,
    ⟨none, .bin .eql (.t 0) (.t 1)⟩] [] (.t 2) (.ops [] [⟨none, .mv (.v 4)⟩,
    ⟨none, .bin .add (.t 0) (.i 1)⟩,
    ⟨none, .asg 4 (.t 1)⟩] [])
  .skip)
  (.seq (.opc [] [⟨none, .mv (.v 0)⟩,
    ⟨none, .mv (.v 2)⟩,
    ⟨none, .bin .eql (.t 0) (.t 1)⟩] [] (.t 2) (.ops [] [⟨none, .mv (.v 4)⟩,
    ⟨none, .bin .add (.t 0) (.i 2)⟩,
    ⟨none, .asg 4 (.t 1)⟩] [])
  .skip)
  (.seq (.ops [] [⟨none, .mv (.v 4)⟩,
    ⟨none, .asg 3 (.t 0)⟩] [])
  .ret)))))
def tr_spec_l10Which : List Nat := [0, 1, 2, 6, 7]
def rs_spec_l10Which : List RS := [.t 3]
theorem ok_spec_l10Which : fnOk Go.Proofs.Try.prog Go.Proofs.Try.f196 tr_spec_l10Which c_spec_l10Which 3 rs_spec_l10Which = true := by decide +kernel

def whichI (h f g : Int) : Int := (if h = f then 1 else 0) + (if h = g then 2 else 0)
theorem ret_spec_l10Which (h f g : Int) : Ret Go.Proofs.Try.prog 196 [.v (.int .i64 h), .v (.int .i64 f), .v (.int .i64 g)] (.int .i64 (whichI h f g)) := by
  refine ret_fn Go.Proofs.Try.func196 ok_spec_l10Which rfl (show 3 < 500 by decide) rfl ?_; unfold c_spec_l10Which tr_spec_l10Which rs_spec_l10Which; simp only [go_sem, Nat.reduceLT, Nat.reduceAdd, Nat.reduceSub, ↓reduceIte]
  refine ⟨fun h1 => ⟨fun h2 => ?_, fun h2 => ?_⟩, fun h1 => ⟨fun h2 => ?_, fun h2 => ?_⟩⟩
  · unfold whichI; rw [if_pos h1, if_pos h2]; rfl
  · unfold whichI; rw [if_pos h1, if_neg (by simpa using h2)]; rfl
  · unfold whichI; rw [if_neg (by simpa using h1), if_pos h2]; rfl
  · unfold whichI; rw [if_neg (by simpa using h1), if_neg (by simpa using h2)]; rfl
-- spec.l10Code
def c_spec_l10Code : C :=
  (.seq (.ops [3, 4] [⟨none, .boxv 5 (.v 0)⟩,
    ⟨none, .boxv 5 (.v 1)⟩,
    ⟨none, .asg 2 (.i 0)⟩] [(3, 0), (4, 1)])
  (.seq (.block 0 (.opc [] [⟨none, .lda 5 (.v 3)⟩,
    ⟨none, .call 51 [(.t 0)]⟩,
    ⟨none, .not (.t 1)⟩,
    ⟨none, .mv (.t 2)⟩,
    ⟨some (3, false), .lda 5 (.v 4)⟩,
    ⟨some (3, false), .call 51 [(.t 4)]⟩,
    ⟨some (3, false), .not (.t 5)⟩,
    ⟨none, .pick (.t 3) (.k (.bool true)) (.t 6)⟩,
    ⟨none, .mv (.t 7)⟩] [] (.t 8) (.seq (.ops [] [⟨none, .asg 2 (.i 1)⟩] [])
  .ret)
  (.opc [] [⟨none, .fA 1 (.v 3)⟩,
    ⟨none, .ld (.t 0)⟩,
    ⟨none, .len (.t 1)⟩,
    ⟨none, .bin .gtr (.t 2) (.i 16)⟩,
    ⟨none, .mv (.t 3)⟩,
    ⟨some (4, false), .fA 1 (.v 4)⟩,
    ⟨some (4, false), .ld (.t 5)⟩,
    ⟨some (4, false), .len (.t 6)⟩,
    ⟨some (4, false), .bin .gtr (.t 7) (.i 16)⟩,
    ⟨none, .pick (.t 4) (.k (.bool true)) (.t 8)⟩,
    ⟨none, .mv (.t 9)⟩] [] (.t 10) (.seq (.ops [] [⟨none, .asg 2 (.i 3)⟩] [])
  .ret)
  .skip)))
  (.seq (.ops [] [⟨none, .asg 2 (.i 0)⟩] [])
  .ret)))
def tr_spec_l10Code : List Nat := [0, 1, 4, 2, 3]
def rs_spec_l10Code : List RS := [.t 2]
theorem ok_spec_l10Code : fnOk Go.Proofs.Try.prog Go.Proofs.Try.f136 tr_spec_l10Code c_spec_l10Code 2 rs_spec_l10Code = true := by decide +kernel

theorem ret_spec_l10Code (c d : Cat) : Ret Go.Proofs.Try.prog 136 [.v c.d, .v d.d] (.int .i64 (if (c.isB && d.isB) = false then 1 else if (decide ((c.fr.length : Int) ≤ 16) && decide ((d.fr.length : Int) ≤ 16)) = false then 3 else 0)) := by
  refine ret_fn Go.Proofs.Try.func136 ok_spec_l10Code rfl (show 2 < 500 by decide) rfl ?_; unfold c_spec_l10Code tr_spec_l10Code rs_spec_l10Code; simp only [go_sem, Nat.reduceLT, Nat.reduceAdd, Nat.reduceSub, Nat.reduceLeDiff, ↓reduceIte]
  refine call_of (ret_spec_l02Is c) rfl (.inl rfl) ?_
  simp only [go_sem, Nat.reduceLT, Nat.reduceAdd, Nat.reduceSub, Nat.reduceLeDiff, ↓reduceIte]
  refine callg_of (b := c.isB) (fun _ => ret_spec_l02Is d) rfl (fun h => by simpa using h) (.inl rfl) ?_
  simp only [go_sem, Nat.reduceLT, Nat.reduceAdd, Nat.reduceSub, ↓reduceIte]
  refine ⟨fun h => by simpa using h, fun h => ?_, fun h => ⟨fun h2 => by simpa using h2, fun h2 => ?_, fun h2 => ?_⟩⟩
  · rw [if_pos (by rw [← Bool.not_and] at h; simpa only [Bool.not_eq_true'] using h)]
  · have h' : (c.isB && d.isB) = true := by rw [← Bool.not_and] at h; simpa only [Bool.not_eq_false'] using h
    rw [h', if_neg (by simp), if_pos]
    simp only [Bool.or_eq_true, decide_eq_true_eq] at h2
    simp only [Bool.and_eq_false_iff, decide_eq_false_iff_not]
    omega
  · have h' : (c.isB && d.isB) = true := by rw [← Bool.not_and] at h; simpa only [Bool.not_eq_false'] using h
    rw [h', if_neg (by simp), if_neg]
    simp only [Bool.or_eq_false_iff, decide_eq_false_iff_not] at h2
    simp only [Bool.and_eq_false_iff, decide_eq_false_iff_not]
    omega
-- spec.l10Alike
def c_spec_l10Alike : C :=
  (.seq (.ops [] [⟨none, .asg 2 (.k (.bool false))⟩] [])
  (.seq (.opc [] [⟨none, .mv (.v 0)⟩,
    ⟨none, .len (.t 0)⟩,
    ⟨none, .mv (.v 1)⟩,
    ⟨none, .len (.t 2)⟩,
    ⟨none, .bin .neq (.t 1) (.t 3)⟩] [] (.t 4) (.seq (.ops [] [⟨none, .asg 2 (.k (.bool false))⟩] [])
  .ret)
  .skip)
  (.seq (.seq (.ops [] [⟨none, .asg 3 (.i 0)⟩] [])
  (.block 0 (.loop (.seq (.opc [] [⟨none, .mv (.v 3)⟩,
    ⟨none, .mv (.v 0)⟩,
    ⟨none, .len (.t 1)⟩,
    ⟨none, .bin .lss (.t 0) (.t 2)⟩] [] (.t 3) .skip
  (.exit 0))
  (.seq (.block 1 (.seq (.ops [] [⟨none, .asg 4 (.i 0)⟩] [])
  (.seq (.seq (.ops [] [⟨none, .asg 5 (.i 0)⟩] [])
  (.block 2 (.loop (.seq (.opc [] [⟨none, .mv (.v 5)⟩,
    ⟨none, .mv (.v 0)⟩,
    ⟨none, .len (.t 1)⟩,
    ⟨none, .bin .lss (.t 0) (.t 2)⟩] [] (.t 3) .skip
  (.exit 2))
  (.seq (.block 3 (.seq (.opc [] [⟨none, .mv (.v 0)⟩,
    ⟨none, .mv (.v 5)⟩,
    ⟨none, .idxA 1 (.t 0) (.t 1)⟩,
    ⟨none, .ld (.t 2)⟩,
    ⟨none, .mv (.v 0)⟩,
    ⟨none, .mv (.v 3)⟩,
    ⟨none, .idxA 1 (.t 4) (.t 5)⟩,
    ⟨none, .ld (.t 6)⟩,
    ⟨none, .bin .eql (.t 3) (.t 7)⟩] [] (.t 8) (.ops [] [⟨none, .mv (.v 4)⟩,
    ⟨none, .bin .add (.t 0) (.i 1)⟩,
    ⟨none, .asg 4 (.t 1)⟩] [])
  .skip)
  (.opc [] [⟨none, .mv (.v 1)⟩,
    ⟨none, .mv (.v 5)⟩,
    ⟨none, .idxA 1 (.t 0) (.t 1)⟩,
    ⟨none, .ld (.t 2)⟩,
    ⟨none, .mv (.v 0)⟩,
    ⟨none, .mv (.v 3)⟩,
    ⟨none, .idxA 1 (.t 4) (.t 5)⟩,
    ⟨none, .ld (.t 6)⟩,
    ⟨none, .bin .eql (.t 3) (.t 7)⟩] [] (.t 8) (.ops [] [⟨none, .mv (.v 4)⟩,
    ⟨none, .bin .sub (.t 0) (.i 1)⟩,
    ⟨none, .asg 4 (.t 1)⟩] [])
  .skip)))
  (.ops [] [⟨none, .mv (.v 5)⟩,
    ⟨none, .bin .add (.t 0) (.i 1)⟩,
    ⟨none, .asg 5 (.t 1)⟩] []))))))
  (.opc [] [⟨none, .mv (.v 4)⟩,
    ⟨none, .bin .neq (.t 0) (.i 0)⟩] [] (.t 1) (.seq (.ops [] [⟨none, .asg 2 (.k (.bool false))⟩] [])
  .ret)
  .skip))))
  (.ops [] [⟨none, .mv (.v 3)⟩,
    ⟨none, .bin .add (.t 0) (.i 1)⟩,
    ⟨none, .asg 3 (.t 1)⟩] []))))))
  (.seq (.ops [] [⟨none, .asg 2 (.k (.bool true))⟩] [])
  .ret))))
def tr_spec_l10Alike : List Nat := [0, 1, 4, 5, 6, 7]
def rs_spec_l10Alike : List RS := [.t 2]
theorem ok_spec_l10Alike : fnOk Go.Proofs.Try.prog Go.Proofs.Try.f188 tr_spec_l10Alike c_spec_l10Alike 2 rs_spec_l10Alike = true := by decide +kernel

theorem ret_spec_l10Alike (a : List Int) (hl : a.length ≤ 1048576) : Ret Go.Proofs.Try.prog 188 [.v (ints a), .v (ints a)] (.bool true) := by
  refine ret_fn Go.Proofs.Try.func188 ok_spec_l10Alike rfl (show 2 < 500 by decide) rfl ?_; unfold c_spec_l10Alike tr_spec_l10Alike rs_spec_l10Alike; simp only [go_sem, Nat.reduceLT, Nat.reduceAdd, Nat.reduceSub, ↓reduceIte]
  refine ⟨fun h => by simp at h, fun _ => ?_⟩
  refine loop_set [4, 5] (fun i : Nat => [(3, .int .i64 i)]) (fun i => i ≤ a.length) (fun i => a.length - i) 0 (by simp only [go_sem, Nat.reduceLT, ↓reduceIte]; rfl) (Nat.zero_le _) rfl ?_
  intro k hk
  simp only [go_sem, Nat.reduceLT, Nat.reduceAdd, Nat.reduceSub, ↓reduceIte]
  intro h
  refine loop_set [] (fun i : Nat => [(5, .int .i64 i)]) (fun i => i ≤ a.length) (fun i => a.length - i) 0 (by simp only [go_sem]; rfl) (Nat.zero_le _) rfl ?_
  intro i hi
  simp only [go_sem, Nat.reduceLT, Nat.reduceAdd, Nat.reduceSub, ↓reduceIte]
  refine ⟨fun h1 => ⟨h1, h, fun h2 => ⟨h1, h, fun _ => ⟨i + 1, by omega, by omega, ?_⟩, fun h3 => absurd h2 (by simpa using h3)⟩, fun h2 => ⟨h1, h, fun h3 => absurd h3 (by simpa using h2), fun _ => ⟨i + 1, by omega, by omega, ?_⟩⟩⟩, fun h1 => ?_⟩
  · rw [wrap_lt h1 (by simp only [maxLen]; omega)]; rfl
  · rw [wrap_lt h1 (by simp only [maxLen]; omega)]
  · refine ⟨fun h2 => by simp at h2, fun _ => ⟨k + 1, by omega, by omega, ?_⟩⟩
    rw [wrap_lt h (by simp only [maxLen]; omega)]
/-- What an arrow's composites look like. -/
def lkL (c : Cat) (col : List Int) (f : Nat) : Nat → List (List Int)
  | 0 => []
  | g + 1 => lkL c col f g ++ (if 0 ≤ c.cellI f g then [[0, col.getD g 0, col.getD (c.cellI f g).toNat 0, whichI (c.cellI f g) f g]] else []) ++ (if 0 ≤ c.cellI g f then [[1, col.getD g 0, col.getD (c.cellI g f).toNat 0, whichI (c.cellI g f) f g]] else [])
def lookI (c : Cat) (col : List Int) (f : Nat) : List Int := col.getD f 0 :: (sortL (lkL c col f c.fr.length)).flatten
theorem lkL_len {c : Cat} {col : List Int} {f : Nat} : ∀ n, (lkL c col f n).length ≤ 2 * n
  | 0 => Nat.le_refl _
  | n + 1 => by
    have := lkL_len (c := c) (col := col) (f := f) n
    simp only [lkL, List.length_append]
    split <;> split <;> simp only [List.length_cons, List.length_nil] <;> omega
theorem lkL_row {c : Cat} {col : List Int} {f : Nat} : ∀ n x, x ∈ lkL c col f n → x.length = 4
  | 0, x, hx => by cases hx
  | n + 1, x, hx => by
    simp only [lkL, List.mem_append] at hx
    rcases hx with (hx | hx) | hx
    · exact lkL_row n x hx
    · split at hx
      · rw [List.mem_singleton.1 hx]; rfl
      · cases hx
    · split at hx
      · rw [List.mem_singleton.1 hx]; rfl
      · cases hx

theorem cell_rng {c : Cat} (hc : c.Shape) {f g : Nat} (hf : f < c.fr.length) (hg : g < c.fr.length) (h : 0 ≤ c.cellI f g) : c.cellI f g < c.fr.length := by
  by_cases e : c.to.getD f 0 = c.fr.getD g 0
  · exact (hc.cell_in hf hg e).2.1
  · rw [hc.cell_out hf hg e] at h; omega
theorem flat4 : ∀ {L : List (List Int)}, (∀ x, x ∈ L → x.length = 4) → L.flatten.length = 4 * L.length
  | [], _ => rfl
  | x :: r, h => by
    have h1 := h x (List.mem_cons_self ..)
    have h2 := flat4 (L := r) fun y hy => h y (List.mem_cons_of_mem _ hy)
    simp only [List.flatten_cons, List.length_append, List.length_cons, h1, h2]; omega
theorem app_row4 (L : List (List Int)) (a b c d : Int) : (intss L).appL [.slice (.int .i64 0) [.int .i64 a, .int .i64 b, .int .i64 c, .int .i64 d]] = intss (L ++ [[a, b, c, d]]) := by
  simp only [intss, lst, D.appL, List.map_append]; rfl
-- spec.l10Look
def c_spec_l10Look : C :=
  (.seq (.ops [4] [⟨none, .boxv 5 (.v 0)⟩,
    ⟨none, .asg 3 (.k (.nils (.int .i64 0)))⟩] [(4, 0)])
  (.seq (.ops [] [⟨none, .bldS (ints []) 0 []⟩,
    ⟨none, .asg 5 (.t 0)⟩] [])
  (.seq (.seq (.ops [] [⟨none, .asg 6 (.i 0)⟩] [])
  (.block 0 (.loop (.seq (.opc [] [⟨none, .mv (.v 6)⟩,
    ⟨none, .fA 1 (.v 4)⟩,
    ⟨none, .ld (.t 1)⟩,
    ⟨none, .len (.t 2)⟩,
    ⟨none, .bin .lss (.t 0) (.t 3)⟩] [] (.t 4) .skip
  (.exit 0))
  (.seq (.block 1 (.seq (.opc [] [⟨none, .fA 4 (.v 4)⟩,
    ⟨none, .ld (.t 0)⟩,
    ⟨none, .mv (.v 2)⟩,
    ⟨none, .idxA 1 (.t 1) (.t 2)⟩,
    ⟨none, .ld (.t 3)⟩,
    ⟨none, .mv (.v 6)⟩,
    ⟨none, .idxA 1 (.t 4) (.t 5)⟩,
    ⟨none, .ld (.t 6)⟩,
    ⟨none, .bin .geq (.t 7) (.i 0)⟩] [] (.t 8) (.ops [] [⟨none, .mv (.v 5)⟩,
    ⟨none, .mv (.v 1)⟩,
    ⟨none, .mv (.v 6)⟩,
    ⟨none, .idxA 1 (.t 1) (.t 2)⟩,
    ⟨none, .ld (.t 3)⟩,
    ⟨none, .mv (.v 1)⟩,
    ⟨none, .fA 4 (.v 4)⟩,
    ⟨none, .ld (.t 6)⟩,
    ⟨none, .mv (.v 2)⟩,
    ⟨none, .idxA 1 (.t 7) (.t 8)⟩,
    ⟨none, .ld (.t 9)⟩,
    ⟨none, .mv (.v 6)⟩,
    ⟨none, .idxA 1 (.t 10) (.t 11)⟩,
    ⟨none, .ld (.t 12)⟩,
    ⟨none, .idxA 1 (.t 5) (.t 13)⟩,
    ⟨none, .ld (.t 14)⟩,
    ⟨none, .fA 4 (.v 4)⟩,
    ⟨none, .ld (.t 16)⟩,
    ⟨none, .mv (.v 2)⟩,
    ⟨none, .idxA 1 (.t 17) (.t 18)⟩,
    ⟨none, .ld (.t 19)⟩,
    ⟨none, .mv (.v 6)⟩,
    ⟨none, .idxA 1 (.t 20) (.t 21)⟩,
    ⟨none, .ld (.t 22)⟩,
    ⟨none, .mv (.v 2)⟩,
    ⟨none, .mv (.v 6)⟩,
    ⟨none, .call 196 [(.t 23), (.t 24), (.t 25)]⟩,
    ⟨none, .bldS (.int .i64 0) 4 [(0, (.i 0)), (1, (.t 4)), (2, (.t 15)), (3, (.t 26))]⟩,
    ⟨none, .bldS (ints []) 1 [(0, (.t 27))]⟩,
    ⟨none, .app 1 24 (.t 0) (.t 28)⟩,
    ⟨none, .asg 5 (.t 29)⟩] [])
  .skip)
  (.opc [] [⟨none, .fA 4 (.v 4)⟩,
    ⟨none, .ld (.t 0)⟩,
    ⟨none, .mv (.v 6)⟩,
    ⟨none, .idxA 1 (.t 1) (.t 2)⟩,
    ⟨none, .ld (.t 3)⟩,
    ⟨none, .mv (.v 2)⟩,
    ⟨none, .idxA 1 (.t 4) (.t 5)⟩,
    ⟨none, .ld (.t 6)⟩,
    ⟨none, .bin .geq (.t 7) (.i 0)⟩] [] (.t 8) (.ops [] [⟨none, .mv (.v 5)⟩,
    ⟨none, .mv (.v 1)⟩,
    ⟨none, .mv (.v 6)⟩,
    ⟨none, .idxA 1 (.t 1) (.t 2)⟩,
    ⟨none, .ld (.t 3)⟩,
    ⟨none, .mv (.v 1)⟩,
    ⟨none, .fA 4 (.v 4)⟩,
    ⟨none, .ld (.t 6)⟩,
    ⟨none, .mv (.v 6)⟩,
    ⟨none, .idxA 1 (.t 7) (.t 8)⟩,
    ⟨none, .ld (.t 9)⟩,
    ⟨none, .mv (.v 2)⟩,
    ⟨none, .idxA 1 (.t 10) (.t 11)⟩,
    ⟨none, .ld (.t 12)⟩,
    ⟨none, .idxA 1 (.t 5) (.t 13)⟩,
    ⟨none, .ld (.t 14)⟩,
    ⟨none, .fA 4 (.v 4)⟩,
    ⟨none, .ld (.t 16)⟩,
    ⟨none, .mv (.v 6)⟩,
    ⟨none, .idxA 1 (.t 17) (.t 18)⟩,
    ⟨none, .ld (.t 19)⟩,
    ⟨none, .mv (.v 2)⟩,
    ⟨none, .idxA 1 (.t 20) (.t 21)⟩,
    ⟨none, .ld (.t 22)⟩,
    ⟨none, .mv (.v 2)⟩,
    ⟨none, .mv (.v 6)⟩,
    ⟨none, .call 196 [(.t 23), (.t 24), (.t 25)]⟩,
    ⟨none, .bldS (.int .i64 0) 4 [(0, (.i 1)), (1, (.t 4)), (2, (.t 15)), (3, (.t 26))]⟩,
    ⟨none, .bldS (ints []) 1 [(0, (.t 27))]⟩,
    ⟨none, .app 1 24 (.t 0) (.t 28)⟩,
    ⟨none, .asg 5 (.t 29)⟩] [])
  .skip)))
  (.ops [] [⟨none, .mv (.v 6)⟩,
    ⟨none, .bin .add (.t 0) (.i 1)⟩,
    ⟨none, .asg 6 (.t 1)⟩] []))))))
  (.seq (.alt [] (.two 4 6 [0, 1, 2, 3, 5, 6, 4, 7, 8, 9] (.leaf [⟨none, .mv (.v 1)⟩,
    ⟨none, .mv (.v 2)⟩,
    ⟨none, .idxA 1 (.t 0) (.t 1)⟩,
    ⟨none, .ld (.t 2)⟩,
    ⟨none, .bldS (.int .i64 0) 1 [(0, (.t 3))]⟩,
    ⟨none, .mv (.v 5)⟩,
    ⟨none, .dyn (.k (.fn 197 [])) [(.t 5)]⟩,
    ⟨none, .call 84 [(.t 6)]⟩,
    ⟨none, .app 1 8 (.t 4) (.t 7)⟩,
    ⟨none, .asg 3 (.t 8)⟩] [])
  (.two 3 5 [0, 1, 2, 4, 5, 3, 6, 7, 8, 9] (.leaf [⟨none, .mv (.v 1)⟩,
    ⟨none, .mv (.v 2)⟩,
    ⟨none, .idxA 1 (.t 0) (.t 1)⟩,
    ⟨none, .ld (.t 2)⟩,
    ⟨none, .mv (.v 5)⟩,
    ⟨none, .dyn (.k (.fn 197 [])) [(.t 4)]⟩,
    ⟨none, .bldS (.int .i64 0) 1 [(0, (.t 3))]⟩,
    ⟨none, .call 84 [(.t 5)]⟩,
    ⟨none, .app 1 8 (.t 6) (.t 7)⟩,
    ⟨none, .asg 3 (.t 8)⟩] [])
  (.two 2 4 [0, 1, 3, 4, 2, 5, 6, 7, 8, 9] (.leaf [⟨none, .mv (.v 1)⟩,
    ⟨none, .mv (.v 2)⟩,
    ⟨none, .idxA 1 (.t 0) (.t 1)⟩,
    ⟨none, .mv (.v 5)⟩,
    ⟨none, .dyn (.k (.fn 197 [])) [(.t 3)]⟩,
    ⟨none, .ld (.t 2)⟩,
    ⟨none, .bldS (.int .i64 0) 1 [(0, (.t 5))]⟩,
    ⟨none, .call 84 [(.t 4)]⟩,
    ⟨none, .app 1 8 (.t 6) (.t 7)⟩,
    ⟨none, .asg 3 (.t 8)⟩] [])
  (.leaf [⟨none, .mv (.v 1)⟩,
    ⟨none, .mv (.v 2)⟩,
    ⟨none, .mv (.v 5)⟩,
    ⟨none, .dyn (.k (.fn 197 [])) [(.t 2)]⟩,
    ⟨none, .idxA 1 (.t 0) (.t 1)⟩,
    ⟨none, .ld (.t 4)⟩,
    ⟨none, .bldS (.int .i64 0) 1 [(0, (.t 5))]⟩,
    ⟨none, .call 84 [(.t 3)]⟩,
    ⟨none, .app 1 8 (.t 6) (.t 7)⟩,
    ⟨none, .asg 3 (.t 8)⟩] [])))))
  .ret))))
def tr_spec_l10Look : List Nat := [0, 1, 2, 6, 3, 7, 8]
def rs_spec_l10Look : List RS := [.t 3]
theorem ok_spec_l10Look : fnOk Go.Proofs.Try.prog Go.Proofs.Try.f187 tr_spec_l10Look c_spec_l10Look 3 rs_spec_l10Look = true := by decide +kernel

theorem ret_spec_l10Look (c : Cat) (hc : c.Shape) (hcc : c.fr.length ≤ 16) (col : List Int) (hl : col.length = c.fr.length) (f : Nat) (hf : f < c.fr.length) :
    Ret Go.Proofs.Try.prog 187 [.v c.d, .v (ints col), .v (.int .i64 f)] (ints (lookI c col f)) := by
  refine ret_fn Go.Proofs.Try.func187 ok_spec_l10Look rfl (show 3 < 500 by decide) rfl ?_; unfold c_spec_l10Look tr_spec_l10Look rs_spec_l10Look; simp only [go_sem, Nat.reduceLT, Nat.reduceAdd, Nat.reduceSub, ↓reduceIte]
  refine loop_set [] (fun i : Nat => [(5, .o (intss (lkL c col f i))), (6, .int .i64 i)]) (fun i => i ≤ c.fr.length) (fun i => c.fr.length - i) 0 (by simp only [go_sem]; rfl) (Nat.zero_le _) rfl ?_
  intro g hg
  simp only [go_sem, Nat.reduceLT, Nat.reduceAdd, Nat.reduceSub, ↓reduceIte]
  have hco := hc.co
  refine ⟨fun hgl => ?_, fun hgl => ?_⟩
  · have hrf := hc.row f hf
    have hrg := hc.row g hgl
    have e1 : (c.co.getD f []).getD g 0 = c.cellI f g := rfl
    have e2 : (c.co.getD g []).getD f 0 = c.cellI g f := rfl
    have r1 := cell_rng hc hf hgl
    have r2 := cell_rng hc hgl hf
    simp only [e1, e2]
    refine ⟨by omega, by omega, fun h1 => ⟨by omega, by omega, by omega, ⟨h1, by omega⟩, by omega, by omega, ?_⟩, fun h1 => ?_⟩
    · refine call_of (ret_spec_l10Which _ _ _) rfl (.inl rfl) ?_
      simp only [go_sem, Nat.reduceLT, Nat.reduceAdd, Nat.reduceSub, Nat.reduceEqDiff, Nat.reduceBEq, ↓reduceIte]
      rw [app_row4]
      have kl := lkL_len (c := c) (col := col) (f := f) g
      refine ⟨by omega, rfl, ?_⟩
      simp only [go_sem, Nat.reduceLT, Nat.reduceAdd, Nat.reduceSub, ↓reduceIte]
      simp only [e2]
      refine ⟨by omega, by omega, fun h2 => ⟨by omega, by omega, by omega, ⟨h2, by omega⟩, by omega, by omega, ?_⟩, fun h2 => ?_⟩
      · refine call_of (ret_spec_l10Which _ _ _) rfl (.inl rfl) ?_
        simp only [go_sem, Nat.reduceLT, Nat.reduceAdd, Nat.reduceSub, Nat.reduceEqDiff, Nat.reduceBEq, ↓reduceIte]
        rw [app_row4]
        refine ⟨by simp only [List.length_append, List.length_cons, List.length_nil]; omega, rfl, ?_⟩
        simp only [go_sem, Nat.reduceLT, Nat.reduceAdd, Nat.reduceSub, ↓reduceIte]
        refine ⟨g + 1, by omega, by omega, ?_⟩
        rw [wrap_lt hgl (by simp only [maxLen]; omega)]
        simp only [lkL, if_pos h1, if_pos h2]
      · refine ⟨g + 1, by omega, by omega, ?_⟩
        rw [wrap_lt hgl (by simp only [maxLen]; omega)]
        simp only [lkL, if_pos h1, if_neg h2, List.append_nil]
    · refine ⟨by omega, by omega, fun h2 => ⟨by omega, by omega, by omega, ⟨h2, by omega⟩, by omega, by omega, ?_⟩, fun h2 => ?_⟩
      · refine call_of (ret_spec_l10Which _ _ _) rfl (.inl rfl) ?_
        simp only [go_sem, Nat.reduceLT, Nat.reduceAdd, Nat.reduceSub, Nat.reduceEqDiff, Nat.reduceBEq, ↓reduceIte]
        rw [app_row4]
        have kl := lkL_len (c := c) (col := col) (f := f) g
        refine ⟨by omega, rfl, ?_⟩
        simp only [go_sem, Nat.reduceLT, Nat.reduceAdd, Nat.reduceSub, ↓reduceIte]
        refine ⟨g + 1, by omega, by omega, ?_⟩
        rw [wrap_lt hgl (by simp only [maxLen]; omega)]
        simp only [lkL, if_neg h1, if_pos h2, List.append_nil]
      · refine ⟨g + 1, by omega, by omega, ?_⟩
        rw [wrap_lt hgl (by simp only [maxLen]; omega)]
        simp only [lkL, if_neg h1, if_neg h2, List.append_nil]
  · have key : ∀ x, x ∈ lkL c col f g → x.length ≤ 1048576 := fun x hx => by have := lkL_row g x hx; omega
    have kl := lkL_len (c := c) (col := col) (f := f) g
    have hs := sorted_one (lkL c col f g) (by omega) key
    have hgc : g = c.fr.length := by omega
    have kr : (sortL (lkL c col f g)).flatten.length = 4 * (lkL c col f g).length := by rw [flat4 fun x hx => lkL_row g x ((sortL_perm _).mem_iff.1 hx), (sortL_perm _).length_eq]
    have kp : (sortL (lkL c col f g)).length = (lkL c col f g).length := (sortL_perm _).length_eq
    have hfl := flat_any (sortL (lkL c col f g)) (by omega) (by omega)
    have hlk : lookI c col f = col.getD f 0 :: (sortL (lkL c col f g)).flatten := by rw [hgc]; rfl
    refine ⟨⟨by omega, ?_⟩, ⟨by omega, ?_⟩, ⟨by omega, ?_⟩, ?_⟩
    · refine e_call [5] false hs (by exact ⟨by decide, rfl⟩) (by repeat (first | exact trivial | refine ⟨rfl, ?_⟩)) (by repeat (first | exact trivial | refine ⟨.inl rfl, ?_⟩ | refine ⟨.inr ⟨rfl, rfl⟩, ?_⟩)) ?_
      rintro _ _ ⟨rfl, rfl⟩
      refine ⟨(by repeat (first | exact trivial | refine ⟨(fun h => by cases h), ?_⟩)), (fun h => by cases h), ?_⟩
      simp only [go_sem, Nat.reduceLT, Nat.reduceAdd, Nat.reduceSub, Nat.reduceBEq, ↓reduceIte]
      refine call_of hfl rfl (.inl (nv_ints _)) ?_
      simp only [go_sem, Nat.reduceLT, Nat.reduceAdd, Nat.reduceSub, Nat.reduceEqDiff, ↓reduceIte]
      exact ⟨scal_ints _, by rw [List.length_map]; omega, by rw [hlk]; rfl⟩
    · refine e_call [5] false hs (by exact ⟨by decide, rfl⟩) (by repeat (first | exact trivial | refine ⟨rfl, ?_⟩)) (by repeat (first | exact trivial | refine ⟨.inl rfl, ?_⟩ | refine ⟨.inr ⟨rfl, rfl⟩, ?_⟩)) ?_
      rintro _ _ ⟨rfl, rfl⟩
      refine ⟨(by repeat (first | exact trivial | refine ⟨(fun h => by cases h), ?_⟩)), (fun h => by cases h), ?_⟩
      simp only [go_sem, Nat.reduceLT, Nat.reduceAdd, Nat.reduceSub, Nat.reduceBEq, ↓reduceIte]
      refine call_of hfl rfl (.inl (nv_ints _)) ?_
      simp only [go_sem, Nat.reduceLT, Nat.reduceAdd, Nat.reduceSub, Nat.reduceEqDiff, ↓reduceIte]
      exact ⟨scal_ints _, by rw [List.length_map]; omega, by rw [hlk]; rfl⟩
    · refine e_call [5] false hs (by exact ⟨by decide, rfl⟩) (by repeat (first | exact trivial | refine ⟨rfl, ?_⟩)) (by repeat (first | exact trivial | refine ⟨.inl rfl, ?_⟩ | refine ⟨.inr ⟨rfl, rfl⟩, ?_⟩)) ?_
      rintro _ _ ⟨rfl, rfl⟩
      refine ⟨(by repeat (first | exact trivial | refine ⟨(fun h => by cases h), ?_⟩)), (fun h => by cases h), ?_⟩
      simp only [go_sem, Nat.reduceLT, Nat.reduceAdd, Nat.reduceSub, Nat.reduceBEq, ↓reduceIte]
      refine call_of hfl rfl (.inl (nv_ints _)) ?_
      simp only [go_sem, Nat.reduceLT, Nat.reduceAdd, Nat.reduceSub, Nat.reduceEqDiff, ↓reduceIte]
      exact ⟨scal_ints _, by rw [List.length_map]; omega, by rw [hlk]; rfl⟩
    · refine e_call [5] false hs (by exact ⟨by decide, rfl⟩) (by repeat (first | exact trivial | refine ⟨rfl, ?_⟩)) (by repeat (first | exact trivial | refine ⟨.inl rfl, ?_⟩ | refine ⟨.inr ⟨rfl, rfl⟩, ?_⟩)) ?_
      rintro _ _ ⟨rfl, rfl⟩
      refine ⟨(by repeat (first | exact trivial | refine ⟨(fun h => by cases h), ?_⟩)), (fun h => by cases h), ?_⟩
      simp only [go_sem, Nat.reduceLT, Nat.reduceAdd, Nat.reduceSub, Nat.reduceBEq, ↓reduceIte]
      refine ⟨by omega, ?_⟩
      refine call_of hfl rfl (.inl (nv_ints _)) ?_
      simp only [go_sem, Nat.reduceLT, Nat.reduceAdd, Nat.reduceSub, Nat.reduceEqDiff, ↓reduceIte]
      exact ⟨scal_ints _, by rw [List.length_map]; omega, by rw [hlk]; rfl⟩
end Go.D3

/- PLAIN LAWS: automorphisms keep how arrows look. -/
namespace Go.D3
open Go

theorem map_perm {n : Nat} {φ : Nat → Nat} (hr : ∀ i, i < n → φ i < n) (hi : ∀ i j, i < n → j < n → φ i = φ j → i = j) : ((List.range n).map φ).Perm (List.range n) := by
  have nd : ((List.range n).map φ).Nodup := by
    rw [List.Nodup, List.pairwise_map]
    exact List.nodup_range.imp_of_mem fun ha hb hab he => hab (hi _ _ (List.mem_range.1 ha) (List.mem_range.1 hb) he)
  have hs : ∀ x, x ∈ (List.range n).map φ → x ∈ List.range n := fun x hx => by
    obtain ⟨i, h1, rfl⟩ := List.mem_map.1 hx
    exact List.mem_range.2 (hr i (List.mem_range.1 h1))
  refine (List.perm_ext_iff_of_nodup nd List.nodup_range).2 fun x => ⟨hs x, fun hx => ?_⟩
  apply Classical.byContradiction
  intro hn
  have := List.Nodup.length_le_of_subset (l₁ := x :: (List.range n).map φ) (l₂ := List.range n) (List.nodup_cons.2 ⟨hn, nd⟩) fun y hy => by
    rcases List.mem_cons.1 hy with rfl | hy
    · exact hx
    · exact hs y hy
  simp at this
  omega

def ent (c : Cat) (col : List Int) (f g : Nat) : List (List Int) :=
  (if 0 ≤ c.cellI f g then [[0, col.getD g 0, col.getD (c.cellI f g).toNat 0, whichI (c.cellI f g) f g]] else []) ++ (if 0 ≤ c.cellI g f then [[1, col.getD g 0, col.getD (c.cellI g f).toNat 0, whichI (c.cellI g f) f g]] else [])
theorem lkL_flat {c : Cat} {col : List Int} {f : Nat} : ∀ n, lkL c col f n = (List.range n).flatMap (ent c col f)
  | 0 => rfl
  | n + 1 => by
    rw [List.range_succ, List.flatMap_append, ← lkL_flat n]
    simp only [lkL, ent, List.flatMap_cons, List.flatMap_nil, List.append_nil, List.append_assoc]

section
variable {c : Cat} {P : List Int × List Int}
/-- The image of an arrow. -/
def imA (P : List Int × List Int) (f : Nat) : Nat := (P.2.getD f 0).toNat
theorem imA_rng (h : Fn c c P) {f : Nat} (hf : f < c.fr.length) : ((imA P f : Nat) : Int) = P.2.getD f 0 ∧ imA P f < c.fr.length := by
  have h1 := h.2.1.tot f hf
  have h2 := (h.2.1.ty.get hf h1).1
  unfold imA; omega
theorem imA_inj (h : Fn c c P) (hb : dstB P.2 = true) {f g : Nat} (hf : f < c.fr.length) (hg : g < c.fr.length) (he : imA P f = imA P g) : f = g :=
  dst_inj h hb hf hg (by have := (imA_rng h hf).1; have := (imA_rng h hg).1; omega)
theorem imA_cell (hc : c.Shape) (h : Fn c c P) {f g : Nat} (hf : f < c.fr.length) (hg : g < c.fr.length) (h0 : 0 ≤ c.cellI f g) : c.cellI (imA P f) (imA P g) = imA P (c.cellI f g).toNat := by
  have h1 := h.2.1.co f g hf hg h0 (h.2.1.tot f hf) (h.2.1.tot g hg)
  have h2 := cell_rng hc hf hg h0
  rw [(imA_rng h hf).1, (imA_rng h hg).1, (imA_rng h (show (c.cellI f g).toNat < c.fr.length by omega)).1]
  exact h1.symm
theorem imA_no (hc : c.Shape) (h : Fn c c P) (hb : dstB P.2 = true) {f g : Nat} (hf : f < c.fr.length) (hg : g < c.fr.length) (h0 : 0 ≤ c.cellI (imA P f) (imA P g)) : 0 ≤ c.cellI f g := by
  obtain ⟨e1, r1⟩ := imA_rng h hf
  obtain ⟨e2, r2⟩ := imA_rng h hg
  have hto : c.to.getD (imA P f) 0 = c.fr.getD (imA P g) 0 := Classical.byContradiction fun hn => by rw [hc.cell_out r1 r2 hn] at h0; omega
  have t1 := (h.2.1.ty.get hf (h.2.1.tot f hf)).2.2
  have t2 := (h.2.1.ty.get hg (h.2.1.tot g hg)).2.1
  have a1 := hc.toi hf
  have a2 := hc.fri hg
  have hol := h.1.len
  have hi := hc.idn
  have e : P.1.getD (c.to.getD f 0).toNat 0 = P.1.getD (c.fr.getD g 0).toNat 0 := by rw [← t1, ← t2]; exact hto
  have := dst_obj hc hc h hb (by omega) (by omega) e
  exact (hc.cell_in hf hg (by omega)).1
theorem look_keep (hc : c.Shape) (h : Fn c c P) (hb : dstB P.2 = true) {col : List Int} (hk : ∀ f, f < c.fr.length → col.getD (imA P f) 0 = col.getD f 0) {f : Nat} (hf : f < c.fr.length) : lookI c col (imA P f) = lookI c col f := by
  have hw : ∀ (a b e : Nat), a < c.fr.length → b < c.fr.length → e < c.fr.length → whichI (imA P a) (imA P b) (imA P e) = whichI a b e := fun a b e ha hb' he => by
    have q : ∀ z, z < c.fr.length → (((imA P a : Nat) : Int) = imA P z ↔ (a : Int) = z) := fun z hz => by
      constructor
      · intro q; have := imA_inj h hb ha hz (by omega); omega
      · intro q; have : a = z := by omega
        rw [this]
    have q1 := q b hb'
    have q2 := q e he
    unfold whichI; simp only [q1, q2]
  have hone : ∀ (k : Int) (a b : Nat), a < c.fr.length → b < c.fr.length → ∀ g, g < c.fr.length →
      (if 0 ≤ c.cellI (imA P a) (imA P b) then [[k, col.getD (imA P g) 0, col.getD (c.cellI (imA P a) (imA P b)).toNat 0, whichI (c.cellI (imA P a) (imA P b)) (imA P f) (imA P g)]] else []) =
      (if 0 ≤ c.cellI a b then [[k, col.getD g 0, col.getD (c.cellI a b).toNat 0, whichI (c.cellI a b) f g]] else []) := fun k a b ha hb' g hg => by
    by_cases h0 : 0 ≤ c.cellI a b
    · have h2 := cell_rng hc ha hb' h0
      have h3 : (c.cellI a b).toNat < c.fr.length := by omega
      have h4 : (((c.cellI a b).toNat : Nat) : Int) = c.cellI a b := by omega
      have h5 := hw (c.cellI a b).toNat f g h3 hf hg
      rw [h4] at h5
      rw [if_pos h0, imA_cell hc h ha hb' h0, if_pos (by omega), Int.toNat_natCast, hk g hg, hk _ h3, h5]
    · rw [if_neg h0, if_neg fun hn => h0 (imA_no hc h hb ha hb' hn)]
  have he : ∀ g, g < c.fr.length → ent c col (imA P f) (imA P g) = ent c col f g := fun g hg => by
    unfold ent
    rw [hone 0 f g hf hg g hg, hone 1 g f hg hf g hg]
  have hp : (lkL c col (imA P f) c.fr.length).Perm (lkL c col f c.fr.length) := by
    rw [lkL_flat, lkL_flat]
    have h1 := (map_perm (n := c.fr.length) (φ := imA P) (fun i hi => (imA_rng h hi).2) fun i j hi hj he => imA_inj h hb hi hj he).flatMap_right (ent c col (imA P f))
    refine h1.symm.trans ?_
    rw [List.flatMap_map]
    have : (List.range c.fr.length).flatMap (fun g => ent c col (imA P f) (imA P g)) = (List.range c.fr.length).flatMap (ent c col f) := by
      simp only [List.flatMap]
      congr 1
      exact List.map_congr_left fun g hg => he g (List.mem_range.1 hg)
    rw [this]
  unfold lookI
  rw [hk f hf, sortL_congr hp]
end
end Go.D3

/- PLAIN LAWS: kinds of looks, and that their number grows. -/
namespace Go.D3
open Go

theorem plc_mem {l : List (List Int)} {x : List Int} (h : x ∈ l) : ∃ j, j < l.length ∧ plcI l x = (j : Int) ∧ l.getD j [] = x := by
  have h1 : l.findIdx (· == x) < l.length := List.findIdx_lt_length_of_exists ⟨x, h, by simp⟩
  refine ⟨l.findIdx (· == x), h1, by unfold plcI; rw [if_pos h1], ?_⟩
  rw [getD_lt h1]
  have := List.findIdx_getElem (w := h1)
  simpa using this
theorem plc_neg {l : List (List Int)} {x : List Int} : plcI l x < 0 ↔ x ∉ l := by
  constructor
  · intro h hm
    obtain ⟨j, _, h2, _⟩ := plc_mem hm
    omega
  · intro h
    unfold plcI
    split
    · rename_i h1
      have := List.findIdx_getElem (w := h1)
      exact absurd (List.getElem_mem h1) (by rw [show l[l.findIdx (· == x)] = x by simpa using this]; exact h)
    · omega
theorem plc_at {l : List (List Int)} (hn : l.Nodup) {j : Nat} (hj : j < l.length) : plcI l (l.getD j []) = j := by
  have hm : l.getD j [] ∈ l := by rw [getD_lt hj]; exact List.getElem_mem hj
  obtain ⟨i, h1, h2, h3⟩ := plc_mem hm
  rw [h2]
  rw [getD_lt h1, getD_lt hj] at h3
  have hp := List.pairwise_iff_getElem.1 hn
  rcases Nat.lt_trichotomy i j with h4 | h4 | h4
  · exact absurd h3 (hp i j h1 hj h4)
  · rw [h4]
  · exact absurd h3.symm (hp j i hj h1 h4)
/-- The different ones of a list, in order. -/
def kindsL (l : List (List Int)) : List (List Int) := l.foldl (fun ks x => if plcI ks x < 0 then ks ++ [x] else ks) []
theorem kindsL_snoc {l : List (List Int)} {x : List Int} : kindsL (l ++ [x]) = if plcI (kindsL l) x < 0 then kindsL l ++ [x] else kindsL l := by
  unfold kindsL; rw [List.foldl_append]; rfl
theorem kindsL_ind {l : List (List Int)} : ∀ n, n ≤ l.length → (kindsL (l.take n)).Nodup ∧ ∀ x, x ∈ kindsL (l.take n) ↔ x ∈ l.take n
  | 0, _ => ⟨by simp [kindsL], fun x => by simp [kindsL]⟩
  | n + 1, h => by
    obtain ⟨h1, h2⟩ := kindsL_ind (l := l) n (by omega)
    rw [take_snoc (show n < l.length by omega) [], kindsL_snoc]
    split
    · rename_i hp
      have hp := plc_neg.1 hp
      refine ⟨?_, fun x => by rw [List.mem_append, List.mem_append, h2]⟩
      rw [List.nodup_append]
      exact ⟨h1, by simp, fun a ha b hb e => hp (by rw [← List.mem_singleton.1 hb, ← e]; exact ha)⟩
    · rename_i hp
      have hp : l.getD n [] ∈ kindsL (l.take n) := Classical.byContradiction fun hh => hp (plc_neg.2 hh)
      refine ⟨h1, fun x => ?_⟩
      rw [h2, List.mem_append]
      exact ⟨.inl, fun hx => hx.elim id fun hx => by rw [List.mem_singleton.1 hx]; exact (h2 _).1 hp⟩
theorem kindsL_nodup (l : List (List Int)) : (kindsL l).Nodup := by have := (kindsL_ind (l := l) l.length (Nat.le_refl _)).1; rwa [List.take_length] at this
theorem mem_kindsL {l : List (List Int)} {x : List Int} : x ∈ kindsL l ↔ x ∈ l := by have := (kindsL_ind (l := l) l.length (Nat.le_refl _)).2 x; rwa [List.take_length] at this
theorem kindsL_len (l : List (List Int)) : (kindsL l).length ≤ l.length := List.Nodup.length_le_of_subset (kindsL_nodup l) fun _ hx => mem_kindsL.1 hx

/-- There are at least so many colours. -/
def Many (n : Nat) (col : List Int) (k : Nat) : Prop := ∃ V : List Int, V.Nodup ∧ V.length = k ∧ ∀ v, v ∈ V → ∃ f, f < n ∧ col.getD f 0 = v
def looksL (c : Cat) (col : List Int) : List (List Int) := (List.range c.fr.length).map (lookI c col)
/-- The next colours. -/
def nextC (c : Cat) (col : List Int) : List Int := (looksL c col).map (plcI (kindsL (looksL c col ++ looksL c col)))
theorem kinds_grow {c : Cat} {col : List Int} {k : Nat} (h : Many c.fr.length col k) : k ≤ (kindsL (looksL c col ++ looksL c col)).length := by
  obtain ⟨V, h1, rfl, h3⟩ := h
  have := List.Nodup.length_le_of_subset (l₁ := V) (l₂ := (kindsL (looksL c col ++ looksL c col)).map fun x => x.getD 0 0) h1 fun v hv => by
    obtain ⟨f, hf, rfl⟩ := h3 v hv
    exact List.mem_map.2 ⟨lookI c col f, mem_kindsL.2 (List.mem_append.2 (.inl (List.mem_map.2 ⟨f, List.mem_range.2 hf, rfl⟩))), rfl⟩
  rwa [List.length_map] at this
theorem next_get {c : Cat} {col : List Int} {f : Nat} (hf : f < c.fr.length) : (nextC c col).getD f 0 = plcI (kindsL (looksL c col ++ looksL c col)) (lookI c col f) := by
  unfold nextC looksL
  rw [List.getD_eq_getElem?_getD, List.getElem?_map, List.getElem?_map, List.getElem?_range hf]; rfl
theorem next_many {c : Cat} {col : List Int} : Many c.fr.length (nextC c col) (kindsL (looksL c col ++ looksL c col)).length := by
  refine ⟨(List.range (kindsL (looksL c col ++ looksL c col)).length).map fun j : Nat => (j : Int), ?_, by rw [List.length_map, List.length_range], fun v hv => ?_⟩
  · rw [List.Nodup, List.pairwise_map]
    exact List.nodup_range.imp fun h e => h (by omega)
  · obtain ⟨j, hj, rfl⟩ := List.mem_map.1 hv
    have hj := List.mem_range.1 hj
    have hm : (kindsL (looksL c col ++ looksL c col)).getD j [] ∈ looksL c col := by
      have : (kindsL (looksL c col ++ looksL c col)).getD j [] ∈ kindsL (looksL c col ++ looksL c col) := by rw [getD_lt hj]; exact List.getElem_mem hj
      exact (List.mem_append.1 (mem_kindsL.1 this)).elim id id
    obtain ⟨f, hf, he⟩ := List.mem_map.1 hm
    have hf := List.mem_range.1 hf
    exact ⟨f, hf, by rw [next_get hf, he, plc_at (kindsL_nodup _) hj]⟩
theorem next_keep {c : Cat} {P : List Int × List Int} (hc : c.Shape) (h : Fn c c P) (hb : dstB P.2 = true) {col : List Int} (hk : ∀ f, f < c.fr.length → col.getD (imA P f) 0 = col.getD f 0) (f : Nat) (hf : f < c.fr.length) : (nextC c col).getD (imA P f) 0 = (nextC c col).getD f 0 := by
  rw [next_get hf, next_get (imA_rng h hf).2, look_keep hc h hb hk hf]
end Go.D3
