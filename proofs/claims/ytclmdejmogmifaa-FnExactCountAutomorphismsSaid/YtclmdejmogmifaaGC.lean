/- CONTRACTS: the search over the images of objects, for bijective functors: its end, and what rules an image out. -/
import Derived.Test.YtclmdejmogmifaaGH
import Derived.Test.YtclmdejmogmifaaGB
import Derived.Test.YtclmdejmogmifaaGA
/- CONTRACTS: the images that follow from others. -/
namespace Go.D3
open Go
set_option maxRecDepth 100000

/-- The objects of a search: the struct, what has been found. -/
abbrev sB (c d : Cat) (M : Nat) (o p : List Int) : D := .box [.ptr c.cells, .ptr d.cells, .o (ints o), .o (ints p), .bool false, foundD c d M 1]
abbrev gS (c d : Cat) (M : Nat) (o p : List Int) (l : List Ftr) : List D := [sB c d M o p, .box [.o (ftrs l)]]

/-- What 'spread' tells of 'p'. -/
def SprQ (c d : Cat) (o p : List Int) (r : Bool) (p' : List Int) : Prop := Spr c d o p p' ∧ (r = true → ∀ a b, a < c.fr.length → b < c.fr.length → Fit c d p' a b) ∧ (r = false → ∀ F, ¬ Comp c d o p F)

-- (*impl.search).spread
def c_impl_search_spread : C :=
  (.seq (.ops [] [⟨none, .asg 1 (.k (.bool false))⟩] [])
  (.seq (.seq (.ops [] [⟨none, .asg 2 (.k (.bool true))⟩] [])
  (.block 0 (.loop (.seq (.opc [] [⟨none, .mv (.v 2)⟩] [] (.t 0) .skip
  (.exit 0))
  (.block 1 (.seq (.ops [] [⟨none, .asg 2 (.k (.bool false))⟩] [])
  (.seq (.ops [8, 9] [⟨none, .mv (.v 0)⟩,
    ⟨none, .nck (.t 0)⟩,
    ⟨none, .fA 0 (.t 1)⟩,
    ⟨none, .ld (.t 2)⟩,
    ⟨none, .nck (.t 3)⟩,
    ⟨none, .fA 4 (.t 4)⟩,
    ⟨none, .ld (.t 5)⟩,
    ⟨none, .len (.t 6)⟩,
    ⟨none, .asg 10 (.i 0)⟩] [(8, 6), (9, 7)])
  (.block 2 (.loop (.opq [] [⟨none, .bin .lss (.v 10) (.v 9)⟩] [] (.t 0) .skip
  (.exit 2)
  (.seq (.block 3 (.seq (.ops [] [⟨none, .mv (.v 10)⟩,
    ⟨none, .idxA 1 (.v 8) (.v 10)⟩,
    ⟨none, .ld (.t 1)⟩,
    ⟨none, .asg 3 (.t 0)⟩,
    ⟨none, .asg 4 (.t 2)⟩] [])
  (.seq (.ops [12] [⟨none, .asg 11 (.v 4)⟩,
    ⟨none, .len (.v 11)⟩,
    ⟨none, .asg 13 (.i 0)⟩] [(12, 1)])
  (.block 4 (.loop (.opq [] [⟨none, .bin .lss (.v 13) (.v 12)⟩] [] (.t 0) .skip
  (.exit 4)
  (.seq (.block 5 (.seq (.ops [] [⟨none, .mv (.v 13)⟩,
    ⟨none, .idxA 1 (.v 11) (.v 13)⟩,
    ⟨none, .ld (.t 1)⟩,
    ⟨none, .asg 5 (.t 0)⟩,
    ⟨none, .asg 6 (.t 2)⟩] [])
  (.seq (.opc [] [⟨none, .mv (.v 6)⟩,
    ⟨none, .bin .lss (.t 0) (.i 0)⟩,
    ⟨none, .mv (.t 1)⟩,
    ⟨some (2, false), .mv (.v 0)⟩,
    ⟨some (2, false), .nck (.t 3)⟩,
    ⟨some (2, false), .fA 3 (.t 4)⟩,
    ⟨some (2, false), .ld (.t 5)⟩,
    ⟨some (2, false), .mv (.v 3)⟩,
    ⟨some (2, false), .idxA 1 (.t 6) (.t 7)⟩,
    ⟨some (2, false), .ld (.t 8)⟩,
    ⟨some (2, false), .bin .lss (.t 9) (.i 0)⟩,
    ⟨none, .pick (.t 2) (.k (.bool true)) (.t 10)⟩,
    ⟨none, .mv (.t 11)⟩,
    ⟨some (12, false), .mv (.v 0)⟩,
    ⟨some (12, false), .nck (.t 13)⟩,
    ⟨some (12, false), .fA 3 (.t 14)⟩,
    ⟨some (12, false), .ld (.t 15)⟩,
    ⟨some (12, false), .mv (.v 5)⟩,
    ⟨some (12, false), .idxA 1 (.t 16) (.t 17)⟩,
    ⟨some (12, false), .ld (.t 18)⟩,
    ⟨some (12, false), .bin .lss (.t 19) (.i 0)⟩,
    ⟨none, .pick (.t 12) (.k (.bool true)) (.t 20)⟩] [] (.t 21) (.exit 5)
  .skip)
  (.seq (.ops [] [⟨none, .mv (.v 0)⟩,
    ⟨none, .nck (.t 0)⟩,
    ⟨none, .fA 1 (.t 1)⟩,
    ⟨none, .ld (.t 2)⟩,
    ⟨none, .mv (.v 0)⟩,
    ⟨none, .nck (.t 4)⟩,
    ⟨none, .fA 3 (.t 5)⟩,
    ⟨none, .ld (.t 6)⟩,
    ⟨none, .mv (.v 3)⟩,
    ⟨none, .idxA 1 (.t 7) (.t 8)⟩,
    ⟨none, .ld (.t 9)⟩,
    ⟨none, .mv (.v 0)⟩,
    ⟨none, .nck (.t 11)⟩,
    ⟨none, .fA 3 (.t 12)⟩,
    ⟨none, .ld (.t 13)⟩,
    ⟨none, .mv (.v 5)⟩,
    ⟨none, .idxA 1 (.t 14) (.t 15)⟩,
    ⟨none, .ld (.t 16)⟩,
    ⟨none, .call 104 [(.t 3), (.t 10), (.t 17)]⟩,
    ⟨none, .asg 7 (.t 18)⟩] [])
  (.seq (.opc [] [⟨none, .mv (.v 0)⟩,
    ⟨none, .nck (.t 0)⟩,
    ⟨none, .fA 3 (.t 1)⟩,
    ⟨none, .ld (.t 2)⟩,
    ⟨none, .mv (.v 6)⟩,
    ⟨none, .idxA 1 (.t 3) (.t 4)⟩,
    ⟨none, .ld (.t 5)⟩,
    ⟨none, .bin .lss (.t 6) (.i 0)⟩] [] (.t 7) (.seq (.ops [] [⟨none, .mv (.v 0)⟩,
    ⟨none, .nck (.t 0)⟩,
    ⟨none, .fA 3 (.t 1)⟩,
    ⟨none, .ld (.t 2)⟩,
    ⟨none, .mv (.v 6)⟩,
    ⟨none, .mv (.v 7)⟩,
    ⟨none, .idxA 1 (.t 3) (.t 4)⟩,
    ⟨none, .st (.t 6) (.t 5)⟩] [])
  (.ops [] [⟨none, .asg 2 (.k (.bool true))⟩] []))
  .skip)
  (.opc [] [⟨none, .mv (.v 0)⟩,
    ⟨none, .nck (.t 0)⟩,
    ⟨none, .fA 3 (.t 1)⟩,
    ⟨none, .ld (.t 2)⟩,
    ⟨none, .mv (.v 6)⟩,
    ⟨none, .idxA 1 (.t 3) (.t 4)⟩,
    ⟨none, .ld (.t 5)⟩,
    ⟨none, .mv (.v 7)⟩,
    ⟨none, .bin .neq (.t 6) (.t 7)⟩] [] (.t 8) (.seq (.ops [] [⟨none, .asg 1 (.k (.bool false))⟩] [])
  .ret)
  .skip))))))
  (.ops [] [⟨none, .bin .add (.v 13) (.i 1)⟩,
    ⟨none, .asg 13 (.t 0)⟩] []))))))))
  (.ops [] [⟨none, .bin .add (.v 10) (.i 1)⟩,
    ⟨none, .asg 10 (.t 0)⟩] []))))))))))))
  (.seq (.ops [] [⟨none, .mv (.v 0)⟩,
    ⟨none, .nck (.t 0)⟩,
    ⟨none, .fA 4 (.t 1)⟩,
    ⟨none, .ld (.t 2)⟩,
    ⟨none, .not (.t 3)⟩,
    ⟨none, .mv (.t 4)⟩,
    ⟨some (5, false), .mv (.v 0)⟩,
    ⟨some (5, false), .call 185 [(.t 6)]⟩,
    ⟨none, .pick (.t 5) (.k (.bool true)) (.t 7)⟩,
    ⟨none, .asg 1 (.t 8)⟩] [])
  .ret)))
def tr_impl_search_spread : List Nat := [0, 2, 3, 4, 5, 6, 7, 8, 16, 17, 18, 23, 24, 25]
def rs_impl_search_spread : List RS := [.t 1]
theorem ok_impl_search_spread : fnOk Go.Proofs.Try.prog Go.Proofs.Try.f167 tr_impl_search_spread c_impl_search_spread 1 rs_impl_search_spread = true := by decide +kernel

theorem ret_impl_search_spread (c d : Cat) (M : Nat) (o p : List Int) (l : List Ftr) (hc : c.Shape) (hd : d.Shape) (hp : Typed c d o p) :
    RetE Go.Proofs.Try.prog 167 [.adr 0 [(0, 0)]] (gS c d M o p l) fun rc gs' => ∃ r p', SprQ c d o p r p' ∧ rc = .bool r ∧ gs' = gS c d M o p' l := by
  have hfl := hc.fr
  refine ret_fnE .tree Go.Proofs.Try.func167 rfl ok_impl_search_spread rfl ⟨by simp only [List.length_cons, List.length_nil]; decide, by simp only [List.length_cons, List.length_nil]; decide⟩ rfl ?_; unfold c_impl_search_spread tr_impl_search_spread rs_impl_search_spread; simp only [go_sem, Nat.reduceLT, Nat.reduceAdd, Nat.reduceBEq, Nat.reduceLeDiff, ↓reduceIte]
  refine loop_set [3, 4, 5, 6, 7, 8, 9, 10, 11, 12, 13] (fun s : List Int × Bool => [(2, .bool s.2), (14, .box [.ptr c.cells, .ptr d.cells, .o (ints o), .o (ints s.1), .bool false, foundD c d M 15])])
    (fun s => Spr c d o p s.1 ∧ (s.2 = false → ∀ a b, a < c.fr.length → b < c.fr.length → Fit c d s.1 a b)) (fun s => unk s.1 + (if s.2 = true then 1 else 0)) (p, true) (by simp only [go_sem, Nat.reduceLT, Nat.reduceBEq, ↓reduceIte]; rfl) ⟨Spr.refl hp, fun h => by cases h⟩ rfl ?_
  rintro ⟨q, ag⟩ ⟨hq, hco⟩
  simp only [go_sem, Nat.reduceLT, Nat.reduceAdd, Nat.reduceSub, Nat.reduceBEq, Nat.reduceLeDiff, ↓reduceIte]
  simp only at hq hco
  have hcl := hc.co
  refine ⟨fun hag => ?_, fun hag => ?_⟩
  · refine loop_set [3, 4, 5, 6, 7, 11, 12, 13] (fun s : List Int × Bool × Nat => [(2, .bool s.2.1), (10, .int .i64 s.2.2), (14, .box [.ptr c.cells, .ptr d.cells, .o (ints o), .o (ints s.1), .bool false, foundD c d M 15])])
      (fun s => Spr c d o p s.1 ∧ s.2.2 ≤ c.fr.length ∧ (s.2.1 = false → s.1 = q ∧ ∀ a b, a < s.2.2 → b < c.fr.length → Fit c d s.1 a b) ∧ (s.2.1 = true → unk s.1 < unk q)) (fun s => c.fr.length - s.2.2) (q, false, 0) (by simp only [go_sem, Nat.reduceLT, Nat.reduceBEq, ↓reduceIte]; rfl) ⟨hq, Nat.zero_le _, fun _ => ⟨rfl, fun a b h => absurd h (Nat.not_lt_zero _)⟩, fun h => by cases h⟩ rfl ?_
    rintro ⟨q1, ag1, a⟩ ⟨hq1, ha, hf1, ht1⟩
    simp only [go_sem, Nat.reduceLT, Nat.reduceAdd, Nat.reduceSub, Nat.reduceBEq, Nat.reduceLeDiff, ↓reduceIte]
    simp only at hq1 ha hf1 ht1
    refine ⟨fun h => ⟨h, ?_⟩, fun h => ?_⟩
    · have hrow := hc.row a (by omega)
      refine loop_set [5, 6, 7] (fun s : List Int × Bool × Nat => [(2, .bool s.2.1), (13, .int .i64 s.2.2), (14, .box [.ptr c.cells, .ptr d.cells, .o (ints o), .o (ints s.1), .bool false, foundD c d M 15])])
        (fun s => Spr c d o p s.1 ∧ s.2.2 ≤ c.fr.length ∧ (s.2.1 = false → s.1 = q ∧ (∀ a' b, a' < a → b < c.fr.length → Fit c d s.1 a' b) ∧ ∀ b, b < s.2.2 → Fit c d s.1 a b) ∧ (s.2.1 = true → unk s.1 < unk q)) (fun s => c.fr.length - s.2.2) (q1, ag1, 0) (by simp only [go_sem, Nat.reduceLT, Nat.reduceBEq, ↓reduceIte]; rfl)
        ⟨hq1, Nat.zero_le _, fun h => ⟨(hf1 h).1, (hf1 h).2, fun b h => absurd h (Nat.not_lt_zero _)⟩, ht1⟩ rfl ?_
      rintro ⟨q2, ag2, b⟩ ⟨hq2, hb, hf2, ht2⟩
      simp only [go_sem, Nat.reduceLT, Nat.reduceAdd, Nat.reduceSub, Nat.reduceBEq, Nat.reduceLeDiff, ↓reduceIte]
      simp only at hq2 hb hf2 ht2
      have hql : q2.length = c.fr.length := hq2.ty.len
      have hcell : (c.co.getD a []).getD b 0 = c.cell a b := rfl
      rw [hcell]
      refine ⟨fun h2 => ?_, fun h2 => ?_⟩
      · have hbn : b < c.fr.length := by omega
        have han : a < c.fr.length := by omega
        refine ⟨h2, fun h3 => ⟨h3, by omega⟩, fun h3 => by simpa using h3, fun h3 => ⟨h3, by omega⟩, fun h3 => ?_, fun h3 => ?_, fun h3 => ?_⟩
        · simpa [Bool.or_eq_false_iff] using h3
        · refine ⟨(q2, ag2, b + 1), ⟨hq2, by simp only; omega, fun h4 => ⟨(hf2 h4).1, (hf2 h4).2.1, fun b' hb' => ?_⟩, ht2⟩, by simp only; omega, by rw [wrap_lt hbn (by simp only [maxLen]; omega)] <;> rfl⟩
          by_cases hbb : b' = b
          · subst hbb
            intro c1 c2 c3
            simp only at c1 c2 c3
            simp only [Bool.or_eq_true, decide_eq_true_eq] at h3
            omega
          · exact (hf2 h4).2.2 b' (by simp only at hb'; omega)
        · simp only [Bool.or_eq_false_iff, decide_eq_false_iff_not, Int.not_lt] at h3
          obtain ⟨⟨c1, c2⟩, c3⟩ := h3
          obtain ⟨k1, k2, k3, k4, k5⟩ := hq2.ty.comp hc hd han hbn c1 c2 c3
          refine ⟨by omega, by omega, call_of (retS_then hd (q2.getD a 0) (q2.getD b 0) c2 (hq2.ty.get han c2).1 c3 (hq2.ty.get hbn c3).1) rfl (.inl rfl) ?_⟩
          simp only [go_sem, Nat.reduceLT, Nat.reduceAdd, Nat.reduceSub, Nat.reduceBEq, Nat.reduceLeDiff, ↓reduceIte]
          have hset : (q2.set (c.cell a b).toNat (d.cellI (q2.getD a 0) (q2.getD b 0))).getD (c.cell a b).toNat 0 = d.cellI (q2.getD a 0) (q2.getD b 0) := by rw [set_get (by omega), if_pos rfl]
          refine ⟨⟨c1, by omega⟩, fun h4 => ⟨⟨c1, by omega⟩, by omega, ⟨c1, by rw [List.length_set]; omega⟩, fun h5 => ?_, fun h5 => ?_⟩, fun h4 => ⟨⟨c1, by omega⟩, fun h5 => ?_, fun h5 => ?_⟩⟩
          · rw [hset] at h5; simp at h5
          · obtain ⟨s1, s2⟩ := Spr.step hc hd hq2.ty han hbn c1 c2 c3 h4
            refine ⟨(_, true, b + 1), ⟨hq2.trans s1, by simp only; omega, fun h6 => (by cases h6), fun _ => ?_⟩, by simp only; omega, by rw [wrap_lt hbn (by simp only [maxLen]; omega)] <;> rfl⟩
            simp only
            cases hag2 : ag2 with
            | false => rw [← (hf2 hag2).1]; exact s2
            | true => have := ht2 hag2; omega
          · have hne : q2.getD (c.cell a b).toNat 0 ≠ d.cellI (q2.getD a 0) (q2.getD b 0) := by simpa using h5
            refine ⟨_, _, ⟨false, q2, ⟨hq2, fun h => (by cases h), fun _ F hF => ?_⟩, rfl, rfl⟩, rfl, rfl, rfl, rfl, trivial⟩
            exact Spr.clash hc hq2.ty han hbn c1 c2 c3 k1 (by omega) hne F ((hq2.same F).2 hF)
          · have heq : q2.getD (c.cell a b).toNat 0 = d.cellI (q2.getD a 0) (q2.getD b 0) := by simpa using h5
            refine ⟨(q2, ag2, b + 1), ⟨hq2, by simp only; omega, fun h6 => ⟨(hf2 h6).1, (hf2 h6).2.1, fun b' hb' => ?_⟩, ht2⟩, by simp only; omega, by rw [wrap_lt hbn (by simp only [maxLen]; omega)] <;> rfl⟩
            by_cases hbb : b' = b
            · subst hbb; exact fun _ _ _ => heq
            · exact (hf2 h6).2.2 b' (by simp only at hb'; omega)
      · have : b = c.fr.length := by omega
        subst this
        have han : a < c.fr.length := by omega
        refine ⟨(q2, ag2, a + 1), ⟨hq2, by simp only; omega, fun h6 => ⟨(hf2 h6).1, fun a' b' ha' hb' => ?_⟩, ht2⟩, by simp only; omega, by rw [wrap_lt han (by simp only [maxLen]; omega)] <;> rfl⟩
        by_cases haa : a' = a
        · subst haa; exact (hf2 h6).2.2 b' hb'
        · exact (hf2 h6).2.1 a' b' (by simp only at ha'; omega) hb'
    · have : a = c.fr.length := by omega
      subst this
      cases ag1 with
      | false => exact ⟨(q1, false), ⟨hq1, fun _ => (hf1 rfl).2⟩, by rw [(hf1 rfl).1, if_pos hag]; simp, rfl⟩
      | true => exact ⟨(q1, true), ⟨hq1, fun h => by cases h⟩, by rw [if_pos hag]; have := ht1 rfl; simp; omega, rfl⟩
  · refine callg_of (res := .bool false) (fun h => by cases h) rfl (fun h => by cases h) (.inl rfl) ?_
    simp only [go_sem, Nat.reduceLT, Nat.reduceAdd, Nat.reduceSub, Nat.reduceBEq, Nat.reduceLeDiff, ↓reduceIte]
    exact ⟨_, _, ⟨true, q, ⟨hq, fun _ => hco hag, fun h => by cases h⟩, rfl, rfl⟩, rfl, rfl, rfl, rfl, trivial⟩
end Go.D3

/- CONTRACTS: the search over the images of arrows. -/
namespace Go.D3
open Go
set_option maxRecDepth 100000

theorem hom_get {d : Cat} {x y : Int} {i : Nat} (hi : i < (d.hom x y).length) : (d.hom x y).getD i 0 ∈ d.hom x y := by rw [getD_lt hi]; exact List.getElem_mem _
theorem EnP.extend {c d : Cat} {o p : List Int} {a : Nat} (hp : Typed c d o p) (ha : Fst p a) {i : Nat} {Li : List (List Int)} (h : EnP c d o p a (d.hom (o.getD (c.fr.getD a 0).toNat 0) (o.getD (c.to.getD a 0).toNat 0)) i Li) :
    ∀ k, i + k ≤ (d.hom (o.getD (c.fr.getD a 0).toNat 0) (o.getD (c.to.getD a 0).toNat 0)).length → ∃ R, EnP c d o p a (d.hom (o.getD (c.fr.getD a 0).toNat 0) (o.getD (c.to.getD a 0).toNat 0)) (i + k) (Li ++ R)
  | 0, _ => ⟨[], by simpa using h⟩
  | k + 1, hk => by
    obtain ⟨R, hR⟩ := EnP.extend hp ha h k (by omega)
    have hm := hom_get (d := d) (x := o.getD (c.fr.getD a 0).toNat 0) (y := o.getD (c.to.getD a 0).toNat 0) (i := i + k) (by omega)
    obtain ⟨h1, h2⟩ := ha.hom hp hm
    obtain ⟨L1, hL1⟩ := En.exists _ (Nat.le_refl _) h1
    exact ⟨R ++ L1, by rw [← List.append_assoc, ← Nat.add_assoc]; exact hR.step hp ha Cat.hom_sorted (by omega) (Cat.mem_hom.1 hm).1 hL1⟩
theorem EnP.pre {c d : Cat} {o p : List Int} {a : Nat} (hp : Typed c d o p) (ha : Fst p a) {i : Nat} {Li L : List (List Int)} (h : EnP c d o p a (d.hom (o.getD (c.fr.getD a 0).toNat 0) (o.getD (c.to.getD a 0).toNat 0)) i Li)
    (hi : i ≤ (d.hom (o.getD (c.fr.getD a 0).toNat 0) (o.getD (c.to.getD a 0).toNat 0)).length) (hL : En c d o p L) : ∃ R, L = Li ++ R := by
  obtain ⟨R, hR⟩ := h.extend hp ha (_ - i) (Nat.le_of_eq (Nat.add_sub_cancel' hi))
  rw [Nat.add_sub_cancel' hi] at hR
  exact ⟨R, hL.eq (hR.done hp ha)⟩
theorem take_stop {α : Type} {A R : List α} {M : Nat} (h : ¬ A.length ≤ M) : (A ++ R).take (M + 1) = A.take (M + 1) := by
  rw [List.take_append_of_le_length (by omega)]
theorem idx_none {c d : Cat} {o p : List Int} (_ : Typed c d o p) (ht : ∀ i, i < p.length → 0 ≤ p.getD i 0) : idxOf p (-1) (-1) := .inl ⟨rfl, fun j hj hh => by have := ht j hj; omega⟩
theorem idx_fst {c d : Cat} {o p : List Int} (hp : Typed c d o p) {a : Nat} (ha : Fst p a) : idxOf p (-1) a := .inr ⟨a, rfl, ha.lt, hp.neg1 (by rw [← hp.len]; exact ha.lt) (by have := ha.neg; omega), fun j hj hh => by have := ha.bef j hj; omega⟩
theorem cpy_all {α : Type} {p q : List α} {f : α → D} (h : p.length = q.length) : (p.map f).take (q.map f).length ++ (q.map f).drop (p.map f).length = p.map f := by
  rw [List.length_map, List.length_map, ← h, List.take_of_length_le (by simp), List.drop_of_length_le (by simp [h]), List.append_nil]

/-- The functors of lists of images. -/
def mkF (c d : Cat) (o : List Int) (L : List (List Int)) : List Ftr := L.map fun F => ⟨c, d, o, F⟩
theorem mkF_app {c d : Cat} {o : List Int} {L R : List (List Int)} : mkF c d o (L ++ R) = mkF c d o L ++ mkF c d o R := by simp [mkF]

/-- What 'next' tells. -/
def NextQ (c d : Cat) (M : Nat) (o p : List Int) (l : List Ftr) (L : List (List Int)) (rc : D) (gs' : List D) : Prop :=
  ∃ ok p', (ok = true → p' = p) ∧ p'.length = p.length ∧ ok = decide ((l ++ mkF c d o L).length ≤ M) ∧ rc = .bool ok ∧ gs' = gS c d M o p' ((l ++ mkF c d o L).take (M + 1))

-- (*impl.search).next
def c_impl_search_next : C :=
  (.seq (.ops [] [⟨none, .asg 1 (.k (.bool false))⟩] [])
  (.seq (.ops [] [⟨none, .mv (.v 0)⟩,
    ⟨none, .nck (.t 0)⟩,
    ⟨none, .fA 3 (.t 1)⟩,
    ⟨none, .ld (.t 2)⟩,
    ⟨none, .call 103 [(.t 3), (.i (-1))]⟩,
    ⟨none, .asg 2 (.t 4)⟩] [])
  (.seq (.opc [] [⟨none, .mv (.v 2)⟩,
    ⟨none, .bin .lss (.t 0) (.i 0)⟩] [] (.t 1) (.seq (.ops [] [⟨none, .mv (.v 0)⟩,
    ⟨none, .nck (.t 0)⟩,
    ⟨none, .fA 5 (.t 1)⟩,
    ⟨none, .ld (.t 2)⟩,
    ⟨none, .mv (.v 0)⟩,
    ⟨none, .nck (.t 4)⟩,
    ⟨none, .fA 2 (.t 5)⟩,
    ⟨none, .ld (.t 6)⟩,
    ⟨none, .mv (.v 0)⟩,
    ⟨none, .nck (.t 8)⟩,
    ⟨none, .fA 3 (.t 9)⟩,
    ⟨none, .ld (.t 10)⟩,
    ⟨none, .dyn (.t 3) [(.t 7), (.t 11)]⟩,
    ⟨none, .asg 1 (.t 12)⟩] [])
  .ret)
  .skip)
  (.seq (.ops [] [⟨none, .mv (.v 0)⟩,
    ⟨none, .nck (.t 0)⟩,
    ⟨none, .fA 3 (.t 1)⟩,
    ⟨none, .ld (.t 2)⟩,
    ⟨none, .call 145 [(.t 3)]⟩,
    ⟨none, .asg 3 (.t 4)⟩] [])
  (.seq (.seq (.ops [5, 6, 7] [⟨none, .mv (.v 0)⟩,
    ⟨none, .nck (.t 0)⟩,
    ⟨none, .fA 1 (.t 1)⟩,
    ⟨none, .ld (.t 2)⟩,
    ⟨none, .mv (.v 0)⟩,
    ⟨none, .nck (.t 4)⟩,
    ⟨none, .fA 2 (.t 5)⟩,
    ⟨none, .ld (.t 6)⟩,
    ⟨none, .mv (.v 0)⟩,
    ⟨none, .nck (.t 8)⟩,
    ⟨none, .fA 0 (.t 9)⟩,
    ⟨none, .ld (.t 10)⟩,
    ⟨none, .nck (.t 11)⟩,
    ⟨none, .fA 1 (.t 12)⟩,
    ⟨none, .ld (.t 13)⟩,
    ⟨none, .mv (.v 2)⟩,
    ⟨none, .idxA 1 (.t 14) (.t 15)⟩,
    ⟨none, .ld (.t 16)⟩,
    ⟨none, .idxA 1 (.t 7) (.t 17)⟩,
    ⟨none, .ld (.t 18)⟩,
    ⟨none, .mv (.v 0)⟩,
    ⟨none, .nck (.t 20)⟩,
    ⟨none, .fA 2 (.t 21)⟩,
    ⟨none, .ld (.t 22)⟩,
    ⟨none, .mv (.v 0)⟩,
    ⟨none, .nck (.t 24)⟩,
    ⟨none, .fA 0 (.t 25)⟩,
    ⟨none, .ld (.t 26)⟩,
    ⟨none, .nck (.t 27)⟩,
    ⟨none, .fA 2 (.t 28)⟩,
    ⟨none, .ld (.t 29)⟩,
    ⟨none, .mv (.v 2)⟩,
    ⟨none, .idxA 1 (.t 30) (.t 31)⟩,
    ⟨none, .ld (.t 32)⟩,
    ⟨none, .idxA 1 (.t 23) (.t 33)⟩,
    ⟨none, .ld (.t 34)⟩,
    ⟨none, .call 121 [(.t 3), (.t 19), (.t 35)]⟩,
    ⟨none, .len (.t 36)⟩,
    ⟨none, .mv (.i 0)⟩] [(5, 36), (6, 37), (7, 38)])
  (.block 0 (.loop (.opq [] [⟨none, .bin .lss (.v 7) (.v 6)⟩] [] (.t 0) .skip
  (.exit 0)
  (.seq (.block 1 (.seq (.ops [] [⟨none, .idxA 1 (.v 5) (.v 7)⟩,
    ⟨none, .ld (.t 0)⟩,
    ⟨none, .asg 4 (.t 1)⟩] [])
  (.seq (.ops [] [⟨none, .mv (.v 0)⟩,
    ⟨none, .nck (.t 0)⟩,
    ⟨none, .fA 3 (.t 1)⟩,
    ⟨none, .ld (.t 2)⟩,
    ⟨none, .mv (.v 2)⟩,
    ⟨none, .mv (.v 4)⟩,
    ⟨none, .idxA 1 (.t 3) (.t 4)⟩,
    ⟨none, .st (.t 6) (.t 5)⟩] [])
  (.seq (.opc [] [⟨none, .mv (.v 0)⟩,
    ⟨none, .dyn (.k (.fn 167 [])) [(.t 0)]⟩,
    ⟨none, .mv (.t 1)⟩,
    ⟨some (2, true), .mv (.v 0)⟩,
    ⟨some (2, true), .dyn (.k (.fn 168 [])) [(.t 3)]⟩,
    ⟨some (2, true), .not (.t 4)⟩,
    ⟨none, .pick (.t 2) (.t 5) (.k (.bool false))⟩] [] (.t 6) (.seq (.ops [] [⟨none, .asg 1 (.k (.bool false))⟩] [])
  .ret)
  .skip)
  (.ops [] [⟨none, .mv (.v 0)⟩,
    ⟨none, .nck (.t 0)⟩,
    ⟨none, .fA 3 (.t 1)⟩,
    ⟨none, .ld (.t 2)⟩,
    ⟨none, .mv (.v 3)⟩,
    ⟨none, .cpy (.t 3) (.t 4)⟩] [])))))
  (.ops [] [⟨none, .bin .add (.v 7) (.i 1)⟩,
    ⟨none, .asg 7 (.t 0)⟩] []))))))
  (.seq (.ops [] [⟨none, .asg 1 (.k (.bool true))⟩] [])
  .ret))))))
def tr_impl_search_next : List Nat := [0, 2, 3, 4, 6, 68, 69, 70]
def rs_impl_search_next : List RS := [.t 1]
theorem ok_impl_search_next : fnOk Go.Proofs.Try.prog Go.Proofs.Try.f168 tr_impl_search_next c_impl_search_next 1 rs_impl_search_next = true := by decide +kernel

theorem next_leaf (c d : Cat) (M : Nat) (hM : M ≤ 1000000) (o : List Int) (hc : c.Shape) (hd : d.Shape) (ho : (o.length : Int) = c.ob) (hcc : Cat.cost c ≤ 1048576) (hcd : Cat.cost d ≤ 1048576) (p : List Int) (l : List Ftr) (L : List (List Int))
    (hp : Typed c d o p) (hco : ∀ a b, a < c.fr.length → b < c.fr.length → Fit c d p a b) (hl : l.length ≤ M) (hL : En c d o p L) (ht : ∀ i, i < p.length → 0 ≤ p.getD i 0) :
    RetE Go.Proofs.Try.prog 168 [.adr 0 [(0, 0)]] (gS c d M o p l) (NextQ c d M o p l L) := by
  have hfl := hc.fr
  have hdl := hd.fr
  have hpl := hp.len
  have hob := hc.ob8
  refine ret_fnE .tree Go.Proofs.Try.func168 rfl ok_impl_search_next rfl ⟨by simp only [List.length_cons, List.length_nil]; decide, by simp only [List.length_cons, List.length_nil]; decide⟩ rfl ?_; unfold c_impl_search_next tr_impl_search_next rs_impl_search_next; simp only [go_sem, Nat.reduceLT, Nat.reduceAdd, Nat.reduceSub, Nat.reduceBEq, Nat.reduceLeDiff, ↓reduceIte]
  refine call_of (ret_impl_index_int64 p (-1) (-1) (idx_none hp ht) (by omega)) rfl (.inl rfl) ?_
  simp only [go_sem, Nat.reduceLT, Nat.reduceAdd, Nat.reduceSub, Nat.reduceBEq, Nat.reduceLeDiff, ↓reduceIte]
  refine ⟨fun _ => ?_, fun h => by omega⟩
  refine g_call [9] true (ret_found c d M hM o p l hcc hcd (by omega) (by omega) (by omega)) (by exact ⟨by decide, rfl⟩) (by repeat (first | exact trivial | refine ⟨rfl, ?_⟩)) (by repeat (first | exact trivial | refine ⟨.inl rfl, ?_⟩ | refine ⟨.inr ⟨rfl, rfl⟩, ?_⟩)) (by repeat (first | exact trivial | refine ⟨(fun h => by cases h), ?_⟩)) (fun _ => ⟨rfl, by simp only [tightXL, D.tightX, tightCL, D.tightC, nv_lst nv_Ftr, Bool.and_true]⟩) ?_
  simp only [go_sem, Nat.reduceLT, Nat.reduceAdd, Nat.reduceSub, Nat.reduceBEq, Nat.reduceLeDiff, ↓reduceIte]
  have hLp := hL.one hp hco (fun i hi => ht i (by omega))
  refine ⟨_, _, ⟨decide (l.length + 1 ≤ M), p, fun _ => rfl, rfl, by rw [hLp]; simp [mkF], rfl, rfl⟩, rfl, rfl, rfl, ?_, trivial⟩
  rw [hLp, List.take_of_length_le (by simp [mkF]; omega)]; rfl

theorem next_step (c d : Cat) (M : Nat) (_ : M ≤ 1000000) (o : List Int) (hc : c.Shape) (hd : d.Shape) (ho : (o.length : Int) = c.ob) (_ : Cat.cost c ≤ 1048576) (_ : Cat.cost d ≤ 1048576) (p : List Int) (l : List Ftr) (L : List (List Int))
    (hp : Typed c d o p) (_ : ∀ a b, a < c.fr.length → b < c.fr.length → Fit c d p a b) (hl : l.length ≤ M) (hL : En c d o p L) (a : Nat) (ha : Fst p a)
    (ih : ∀ (p' : List Int) (l' : List Ftr) (L' : List (List Int)), unk p' < unk p → Typed c d o p' → (∀ a b, a < c.fr.length → b < c.fr.length → Fit c d p' a b) → l'.length ≤ M → En c d o p' L' → RetE Go.Proofs.Try.prog 168 [.adr 0 [(0, 0)]] (gS c d M o p' l') (NextQ c d M o p' l' L')) :
    RetE Go.Proofs.Try.prog 168 [.adr 0 [(0, 0)]] (gS c d M o p l) (NextQ c d M o p l L) := by
  have hfl := hc.fr
  have hdl := hd.fr
  have hpl := hp.len
  have hob := hc.ob8
  refine ret_fnE .tree Go.Proofs.Try.func168 rfl ok_impl_search_next rfl ⟨by simp only [List.length_cons, List.length_nil]; decide, by simp only [List.length_cons, List.length_nil]; decide⟩ rfl ?_; unfold c_impl_search_next tr_impl_search_next rs_impl_search_next; simp only [go_sem, Nat.reduceLT, Nat.reduceAdd, Nat.reduceSub, Nat.reduceBEq, Nat.reduceLeDiff, ↓reduceIte]
  refine call_of (ret_impl_index_int64 p (-1) a (idx_fst hp ha) (by omega)) rfl (.inl rfl) ?_
  simp only [go_sem, Nat.reduceLT, Nat.reduceAdd, Nat.reduceSub, Nat.reduceBEq, Nat.reduceLeDiff, ↓reduceIte]
  refine ⟨fun h => by omega, fun _ => call_of (ret_impl_clone p (by omega)) rfl (.inl (nv_ints _)) ?_⟩
  simp only [go_sem, Nat.reduceLT, Nat.reduceAdd, Nat.reduceSub, Nat.reduceBEq, Nat.reduceLeDiff, ↓reduceIte]
  have hac : a < c.fr.length := by have := ha.lt; omega
  have hf1 := mapB_get hc.frm hac
  have ht1 := mapB_get hc.tom (show a < c.to.length by have := hc.to; omega)
  refine ⟨hac, ⟨hf1.1, by omega⟩, by have := hc.to; omega, ⟨ht1.1, by omega⟩, call_of (ret_impl_Category_hom d _ _ (by omega) hd.to) rfl (.inl (nv_ints _)) ?_⟩
  simp only [go_sem, Nat.reduceLT, Nat.reduceAdd, Nat.reduceSub, Nat.reduceBEq, Nat.reduceLeDiff, ↓reduceIte]
  generalize hH : d.hom (o.getD (c.fr.getD a 0).toNat 0) (o.getD (c.to.getD a 0).toNat 0) = H
  have hHl : H.length ≤ 40 := by rw [← hH]; exact Nat.le_trans Cat.homP_len hdl
  refine loop_set [4] (fun s : Nat × List (List Int) => [(7, .int .i64 s.1), (8, .box [.ptr c.cells, .ptr d.cells, .o (ints o), .o (ints p), .bool false, foundD c d M 9]), (9, .box [.o (ftrs (l ++ mkF c d o s.2))])])
    (fun s => s.1 ≤ H.length ∧ EnP c d o p a H s.1 s.2 ∧ (l ++ mkF c d o s.2).length ≤ M) (fun s => H.length - s.1) (0, []) (by simp only [go_sem, Nat.reduceLT, Nat.reduceBEq, ↓reduceIte]; rfl) ⟨Nat.zero_le _, EnP.zero, by simpa [mkF] using hl⟩ (by simp only [mkF, List.map_nil, List.append_nil]; rfl) ?_
  rintro ⟨i, Li⟩ ⟨hi, hEi, hli⟩
  simp only [go_sem, Nat.reduceLT, Nat.reduceAdd, Nat.reduceSub, Nat.reduceBEq, Nat.reduceLeDiff, ↓reduceIte]
  simp only at hi hEi hli
  refine ⟨fun hiH => ?_, fun hiH => ?_⟩
  · have hm := hom_get (d := d) (x := o.getD (c.fr.getD a 0).toNat 0) (y := o.getD (c.to.getD a 0).toNat 0) (i := i) (by rw [hH]; exact hiH)
    obtain ⟨hty, hun⟩ := ha.hom hp hm
    have hx0 := (Cat.mem_hom.1 hm).1
    rw [hH] at hm hty hun hx0
    obtain ⟨L1, hL1⟩ := En.exists _ (Nat.le_refl _) hty
    have hE1 : EnP c d o p a H (i + 1) (Li ++ L1) := hEi.step hp ha (by rw [← hH]; exact Cat.hom_sorted) hiH hx0 hL1
    refine ⟨hiH, ha.lt, ha.lt, ?_⟩
    refine e_call [8, 9] false (ret_impl_search_spread c d M o _ (l ++ mkF c d o Li) hc hd hty) (by exact ⟨by decide, rfl⟩) (by repeat (first | exact trivial | refine ⟨rfl, ?_⟩)) (by repeat (first | exact trivial | refine ⟨.inl rfl, ?_⟩ | refine ⟨.inr ⟨rfl, rfl⟩, ?_⟩)) ?_
    rintro _ _ ⟨r, p1, ⟨hs1, hs2, hs3⟩, rfl, rfl⟩
    refine ⟨(by repeat (first | exact trivial | refine ⟨(fun h => by cases h), ?_⟩)), (fun h => by cases h), ?_⟩
    simp only [go_sem, Nat.reduceLT, Nat.reduceAdd, Nat.reduceSub, Nat.reduceBEq, ↓reduceIte]
    refine dyn_guard (fun hr => ?_) (fun hr => ?_)
    · simp only [go_sem]
      refine e_callg [8, 9] false hr (ih p1 _ L1 (by have := hs1.neg; omega) hs1.ty (hs2 hr) hli ((En.spr hs1).1 hL1)) (by exact ⟨by decide, rfl⟩) (by repeat (first | exact trivial | refine ⟨rfl, ?_⟩)) (by repeat (first | exact trivial | refine ⟨.inl rfl, ?_⟩ | refine ⟨.inr ⟨rfl, rfl⟩, ?_⟩)) ?_
      rintro _ _ ⟨ok, p2, hok1, hok2, hok3, rfl, rfl⟩
      refine ⟨(by repeat (first | exact trivial | refine ⟨(fun h => by cases h), ?_⟩)), (fun h => by cases h), rfl, ?_⟩
      simp only [go_sem, Nat.reduceLT, Nat.reduceAdd, Nat.reduceSub, Nat.reduceBEq, Nat.reduceLeDiff, ↓reduceIte]
      refine ⟨fun h2 => ?_, fun h2 => ?_⟩
      · have hno : ok = false := by rw [hr] at h2; simpa using h2
        rw [hok3, decide_eq_false_iff_not] at hno
        obtain ⟨R, hR⟩ := EnP.pre hp ha (by rw [hH]; exact hE1) (by rw [hH]; omega) hL
        have hout : (l ++ mkF c d o L).take (M + 1) = (l ++ mkF c d o Li ++ mkF c d o L1).take (M + 1) := by
          rw [hR, mkF_app, mkF_app, ← List.append_assoc, ← List.append_assoc, take_stop hno]
        have hlen : ¬ (l ++ mkF c d o L).length ≤ M := by
          rw [hR, mkF_app, mkF_app, ← List.append_assoc, ← List.append_assoc, List.length_append]; omega
        refine ⟨_, _, ⟨false, p2, fun h => (by cases h), by rw [hok2, hs1.ty.len, hpl], by rw [decide_eq_false hlen], rfl, rfl⟩, rfl, rfl, rfl, ?_, trivial⟩
        rw [hout]; rfl
      · have hok : ok = true := by rw [hr] at h2; simpa using h2
        have hpp := hok1 hok
        subst hpp
        refine cpy_part (k := 8) (M := p.map (D.int .i64)) rfl (scal_ints p) ?_
        simp only [go_sem, Nat.reduceLT, Nat.reduceBEq, ↓reduceIte]
        refine ⟨_, p2.map (D.int .i64), rfl, ⟨rfl, scal_ints p2⟩, fill_of ?_⟩
        simp only [go_sem, Nat.reduceLT, Nat.reduceAdd, Nat.reduceSub, Nat.reduceBEq, Nat.reduceLeDiff, ↓reduceIte]
        rw [cpy_all (by rw [hpl, hs1.ty.len])]
        rw [hok3, decide_eq_true_eq] at hok
        have hL2 : l ++ mkF c d o (Li ++ L1) = (l ++ mkF c d o Li ++ mkF c d o L1).take (M + 1) := by rw [mkF_app, ← List.append_assoc, List.take_of_length_le (by omega)]
        refine ⟨(i + 1, Li ++ L1), ⟨hiH, hE1, by rw [mkF_app, ← List.append_assoc]; exact hok⟩, by simp only; omega, by rw [wrap_lt hiH (by simp only [maxLen]; omega), ← hL2] <;> rfl⟩
    · simp only [go_sem, Nat.reduceLT, Nat.reduceAdd, Nat.reduceSub, Nat.reduceBEq, Nat.reduceLeDiff, ↓reduceIte]
      refine ⟨(fun h2 => by rw [hr] at h2; cases h2), (fun h2 => by rw [hr] at h2; cases h2), fun _ => ?_⟩
      refine cpy_part (k := 8) (M := p.map (D.int .i64)) rfl (scal_ints p) ?_
      simp only [go_sem, Nat.reduceLT, Nat.reduceBEq, ↓reduceIte]
      refine ⟨_, p1.map (D.int .i64), rfl, ⟨rfl, scal_ints p1⟩, fill_of ?_⟩
      simp only [go_sem, Nat.reduceLT, Nat.reduceAdd, Nat.reduceSub, Nat.reduceBEq, Nat.reduceLeDiff, ↓reduceIte]
      rw [cpy_all (by rw [hpl, hs1.ty.len])]
      have hL0 : L1 = [] := hL1.none (hs3 hr)
      subst hL0
      refine ⟨(i + 1, Li), ⟨hiH, by simpa using hE1, hli⟩, by simp only; omega, by rw [wrap_lt hiH (by simp only [maxLen]; omega)] <;> rfl⟩
  · have hii : i = H.length := by omega
    subst hii
    have hLL : L = Li := hL.eq (EnP.done hp ha (by rw [hH]; exact hEi))
    subst hLL
    refine ⟨_, _, ⟨true, p, fun _ => rfl, rfl, by simpa using hli, rfl, rfl⟩, rfl, rfl, rfl, ?_, trivial⟩
    rw [List.take_of_length_le (by omega)]; rfl

theorem ret_impl_search_next (c d : Cat) (M : Nat) (hM : M ≤ 1000000) (o : List Int) (hc : c.Shape) (hd : d.Shape) (ho : (o.length : Int) = c.ob) (hcc : Cat.cost c ≤ 1048576) (hcd : Cat.cost d ≤ 1048576) : ∀ (n : Nat) (p : List Int) (l : List Ftr) (L : List (List Int)),
    unk p < n → Typed c d o p → (∀ a b, a < c.fr.length → b < c.fr.length → Fit c d p a b) → l.length ≤ M → En c d o p L →
    RetE Go.Proofs.Try.prog 168 [.adr 0 [(0, 0)]] (gS c d M o p l) (NextQ c d M o p l L) := by
  intro n
  induction n with
  | zero => intro p l L hn; omega
  | succ n ih =>
    intro p l L hn hp hco hl hL
    rcases fst_or p with ht | ⟨a, ha⟩
    · exact next_leaf c d M hM o hc hd ho hcc hcd p l L hp hco hl hL ht
    · exact next_step c d M hM o hc hd ho hcc hcd p l L hp hco hl hL a ha fun p' l' L' h => ih p' l' L' (by omega)
end Go.D3

/- PLAIN LAWS: all functors in their order. -/
namespace Go.D3
open Go

variable {c d : Cat}
/-- The images of identities. -/
def stF (c d : Cat) (o : List Int) (k : Nat) : List Int := (List.range k).foldl (fun p x => p.set (c.idn.getD x 0).toNat (d.idn.getD (o.getD x 0).toNat 0)) (List.replicate c.fr.length (-1))
theorem stF_succ {o : List Int} {k : Nat} : stF c d o (k + 1) = (stF c d o k).set (c.idn.getD k 0).toNat (d.idn.getD (o.getD k 0).toNat 0) := by
  unfold stF; rw [List.range_succ, List.foldl_append]; rfl
theorem stF_zero {o : List Int} : stF c d o 0 = List.replicate c.fr.length (-1) := rfl
structure Full (c d : Cat) (o : List Int) : Prop where
  len : (o.length : Int) = c.ob
  rng : ∀ i, i < o.length → 0 ≤ o.getD i 0 ∧ o.getD i 0 < d.ob
theorem stF_len {o : List Int} {k : Nat} : (stF c d o k).length = c.fr.length := by
  induction k with
  | zero => simp [stF_zero]
  | succ k ih => rw [stF_succ, List.length_set, ih]
theorem id_ends (hc : c.Shape) {x : Nat} (hx : x < c.idn.length) : 0 ≤ c.idn.getD x 0 ∧ (c.idn.getD x 0).toNat < c.fr.length ∧ c.fr.getD (c.idn.getD x 0).toNat 0 = x ∧ c.to.getD (c.idn.getD x 0).toNat 0 = x := by
  have h1 := hc.idx hx
  have h2 := hc.ids x hx
  simp only [Cat.idB, Bool.and_eq_true, beq_iff_eq] at h2
  exact ⟨h1.1, by omega, h2.1, h2.2⟩
theorem stF_typed (hc : c.Shape) (hd : d.Shape) {o : List Int} (ho : Full c d o) : ∀ {k : Nat}, k ≤ c.idn.length → Typed c d o (stF c d o k)
  | 0, _ => ⟨stF_len, fun i hi => .inl (by rw [stF_zero, List.getD_eq_getElem?_getD, List.getElem?_replicate, if_pos hi]; rfl)⟩
  | k + 1, hk => by
    have ih := stF_typed hc hd ho (k := k) (by omega)
    obtain ⟨a1, a2, a3, a4⟩ := id_ends hc (x := k) (by omega)
    have hci := hc.idn
    have hdi := hd.idn
    have hol := ho.len
    have hr := ho.rng k (by omega)
    obtain ⟨b1, b2, b3, b4⟩ := id_ends hd (x := (o.getD k 0).toNat) (by omega)
    rw [stF_succ]
    exact ih.set a2 b1 (by omega) (by rw [b3, a3, Int.toNat_natCast]; exact Int.toNat_of_nonneg hr.1) (by rw [b4, a4, Int.toNat_natCast]; exact Int.toNat_of_nonneg hr.1)

def Fn (c d : Cat) (P : List Int × List Int) : Prop := Full c d P.1 ∧ Comp c d P.1 (stF c d P.1 c.idn.length) P.2
def plt (P Q : List Int × List Int) : Prop := lexlt P.1 Q.1 ∨ (P.1 = Q.1 ∧ lexlt P.2 Q.2)
theorem plt_asymm (P Q : List Int × List Int) (h : plt P Q) : ¬ plt Q P := by
  rintro (h2 | ⟨e, h2⟩)
  · rcases h with h | ⟨e, h⟩
    · exact lexlt_asymm h h2
    · rw [e] at h2; exact lexlt_asymm h2 h2
  · rcases h with h | ⟨e', h⟩
    · rw [e] at h; exact lexlt_asymm h h
    · exact lexlt_asymm h h2
def Agr (pre o : List Int) : Prop := pre.length ≤ o.length ∧ ∀ i, i < pre.length → o.getD i 0 = pre.getD i 0
def EnO (c d : Cat) (pre : List Int) (L : List (List Int × List Int)) : Prop := L.Pairwise plt ∧ ∀ P, P ∈ L ↔ Fn c d P ∧ Agr pre P.1
theorem EnO.eq {pre : List Int} {L L' : List (List Int × List Int)} (h : EnO c d pre L) (h' : EnO c d pre L') : L = L' := sorted_eq plt_asymm h.1 h'.1 fun P => (h.2 P).trans (h'.2 P).symm
theorem EnO.leaf {o : List Int} {L : List (List Int)} (ho : Full c d o) (h : En c d o (stF c d o c.idn.length) L) : EnO c d o (L.map fun F => (o, F)) := by
  refine ⟨?_, fun P => ?_⟩
  · rw [List.pairwise_map]
    exact h.1.imp fun hh => .inr ⟨rfl, hh⟩
  · rw [List.mem_map]
    constructor
    · rintro ⟨F, hF, rfl⟩
      exact ⟨⟨ho, (h.2 F).1 hF⟩, Nat.le_refl _, fun _ _ => rfl⟩
    · rintro ⟨⟨h1, h2⟩, h3, h4⟩
      have hl : P.1.length = o.length := by have := h1.len; have := ho.len; omega
      have e : P.1 = o := List.ext_getElem hl fun i a b => by
        have := h4 i b
        rwa [getD_lt a, getD_lt b] at this
      exact ⟨P.2, (h.2 _).2 (by rw [← e]; exact h2), by rw [← e]⟩
def EnOP (c d : Cat) (pre : List Int) (y : Nat) (L : List (List Int × List Int)) : Prop := L.Pairwise plt ∧ ∀ P, P ∈ L ↔ (Fn c d P ∧ Agr pre P.1) ∧ P.1.getD pre.length 0 < y
theorem EnOP.zero {pre : List Int} (hpre : (pre.length : Int) < c.ob) : EnOP c d pre 0 [] :=
  ⟨List.Pairwise.nil, fun P => ⟨fun h => (by cases h), fun ⟨⟨h1, _⟩, h3⟩ => by
    have := h1.1.rng pre.length (by have := h1.1.len; omega)
    omega⟩⟩
theorem agr_snoc {pre o : List Int} {y : Int} : Agr (pre ++ [y]) o ↔ Agr pre o ∧ pre.length < o.length ∧ o.getD pre.length 0 = y := by
  have get : ∀ i, i < pre.length → (pre ++ [y]).getD i 0 = pre.getD i 0 := fun i hi => by
    rw [List.getD_eq_getElem?_getD, List.getElem?_append_left hi, ← List.getD_eq_getElem?_getD]
  have gl : (pre ++ [y]).getD pre.length 0 = y := by simp
  constructor
  · rintro ⟨h1, h2⟩
    simp only [List.length_append, List.length_cons, List.length_nil] at h1 h2
    exact ⟨⟨by omega, fun i hi => by rw [h2 i (by omega), get i hi]⟩, by omega, by rw [h2 pre.length (by omega), gl]⟩
  · rintro ⟨⟨h1, h2⟩, h3, h4⟩
    refine ⟨by simp; omega, fun i hi => ?_⟩
    simp only [List.length_append, List.length_cons, List.length_nil] at hi
    by_cases h : i < pre.length
    · rw [h2 i h, get i h]
    · rw [show i = pre.length by omega, h4, gl]
theorem EnOP.step {pre : List Int} (hpre : (pre.length : Int) < c.ob) {y : Nat} {L L1 : List (List Int × List Int)} (h : EnOP c d pre y L) (h1 : EnO c d (pre ++ [(y : Int)]) L1) : EnOP c d pre (y + 1) (L ++ L1) := by
  refine ⟨List.pairwise_append.2 ⟨h.1, h1.1, fun P hP Q hQ => ?_⟩, fun P => ?_⟩
  · obtain ⟨⟨_, a1, a2⟩, a3⟩ := (h.2 P).1 hP
    obtain ⟨_, b1⟩ := (h1.2 Q).1 hQ
    obtain ⟨⟨b2, b3⟩, b4, b5⟩ := agr_snoc.1 b1
    exact .inl ⟨pre.length, fun j hj => by rw [a2 j hj, b3 j hj], by omega⟩
  · rw [List.mem_append, h.2, h1.2, agr_snoc]
    constructor
    · rintro (⟨h2, h3⟩ | ⟨h2, h3, h4, h5⟩)
      · exact ⟨h2, by omega⟩
      · exact ⟨⟨h2, h3⟩, by omega⟩
    · rintro ⟨⟨h2, h3⟩, h4⟩
      by_cases hy : P.1.getD pre.length 0 < y
      · exact .inl ⟨⟨h2, h3⟩, hy⟩
      · exact .inr ⟨h2, h3, by have := h2.1.len; omega, by omega⟩
theorem EnOP.done {pre : List Int} (hpre : (pre.length : Int) < c.ob) {y : Nat} (hy : (y : Int) = d.ob) {L : List (List Int × List Int)} (h : EnOP c d pre y L) : EnO c d pre L := by
  refine ⟨h.1, fun P => ?_⟩
  rw [h.2]
  refine ⟨fun hh => hh.1, fun hh => ⟨hh, ?_⟩⟩
  have := hh.1.1.rng pre.length (by have := hh.1.1.len; omega)
  omega
theorem EnO.none {pre : List Int} {L : List (List Int × List Int)} (h : EnO c d pre L) (hn : ∀ P, Fn c d P → ¬ Agr pre P.1) : L = [] := by
  cases L with
  | nil => rfl
  | cons P L => have := (h.2 P).1 (by simp); exact (hn P this.1 this.2).elim
theorem EnO.nil {pre : List Int} (hn : ∀ P, Fn c d P → ¬ Agr pre P.1) : EnO c d pre [] := ⟨List.Pairwise.nil, fun P => ⟨fun h => (by cases h), fun h => (hn P h.1 h.2).elim⟩⟩
theorem EnO.exists (hc : c.Shape) (hd : d.Shape) : ∀ (n : Nat) {pre : List Int}, (pre.length : Int) + n = c.ob → (∀ i, i < pre.length → 0 ≤ pre.getD i 0 ∧ pre.getD i 0 < d.ob) → ∃ L, EnO c d pre L
  | 0, pre, hn, hr => by
    have ho : Full c d pre := ⟨by omega, hr⟩
    obtain ⟨L, hL⟩ := En.exists _ (Nat.le_refl _) (stF_typed hc hd ho (Nat.le_refl _))
    exact ⟨_, EnO.leaf ho hL⟩
  | n + 1, pre, hn, hr => by
    have hpre : (pre.length : Int) < c.ob := by omega
    have key : ∀ y : Nat, (y : Int) ≤ d.ob → ∃ L, EnOP c d pre y L := by
      intro y
      induction y with
      | zero => exact fun _ => ⟨[], EnOP.zero hpre⟩
      | succ y ih =>
        intro hy
        obtain ⟨L, hL⟩ := ih (by omega)
        obtain ⟨L1, hL1⟩ := EnO.exists hc hd n (pre := pre ++ [(y : Int)]) (by simp; omega) (fun i hi => by
          simp only [List.length_append, List.length_cons, List.length_nil] at hi
          by_cases h : i < pre.length
          · rw [List.getD_eq_getElem?_getD, List.getElem?_append_left h, ← List.getD_eq_getElem?_getD]; exact hr i h
          · rw [show i = pre.length by omega]; simp; omega)
        exact ⟨_, hL.step hpre hL1⟩
    have := hd.ob0
    obtain ⟨L, hL⟩ := key d.ob.toNat (by omega)
    exact ⟨L, hL.done hpre (by omega)⟩
theorem snoc_rng {pre : List Int} {y : Nat} (hr : ∀ i, i < pre.length → 0 ≤ pre.getD i 0 ∧ pre.getD i 0 < d.ob) (hy : (y : Int) < d.ob) : ∀ i, i < (pre ++ [(y : Int)]).length → 0 ≤ (pre ++ [(y : Int)]).getD i 0 ∧ (pre ++ [(y : Int)]).getD i 0 < d.ob := fun i hi => by
  simp only [List.length_append, List.length_cons, List.length_nil] at hi
  by_cases h : i < pre.length
  · rw [List.getD_eq_getElem?_getD, List.getElem?_append_left h, ← List.getD_eq_getElem?_getD]; exact hr i h
  · rw [show i = pre.length by omega]; simp; omega
theorem EnOP.extend (hc : c.Shape) (hd : d.Shape) {pre : List Int} (hpre : (pre.length : Int) < c.ob) (hr : ∀ i, i < pre.length → 0 ≤ pre.getD i 0 ∧ pre.getD i 0 < d.ob) {y : Nat} {Li : List (List Int × List Int)} (h : EnOP c d pre y Li) :
    ∀ k : Nat, (y : Int) + k ≤ d.ob → ∃ R, EnOP c d pre (y + k) (Li ++ R)
  | 0, _ => ⟨[], by simpa using h⟩
  | k + 1, hk => by
    obtain ⟨R, hR⟩ := EnOP.extend hc hd hpre hr h k (by omega)
    obtain ⟨L1, hL1⟩ := EnO.exists hc hd (c.ob.toNat - pre.length - 1) (pre := pre ++ [((y + k : Nat) : Int)]) (by simp; omega) (snoc_rng hr (by omega))
    exact ⟨R ++ L1, by rw [← List.append_assoc, ← Nat.add_assoc]; exact hR.step hpre hL1⟩
theorem EnOP.pre (hc : c.Shape) (hd : d.Shape) {pre : List Int} (hpre : (pre.length : Int) < c.ob) (hr : ∀ i, i < pre.length → 0 ≤ pre.getD i 0 ∧ pre.getD i 0 < d.ob) {y : Nat} {Li L : List (List Int × List Int)} (h : EnOP c d pre y Li) (hy : (y : Int) ≤ d.ob) (hL : EnO c d pre L) : ∃ R, L = Li ++ R := by
  obtain ⟨R, hR⟩ := h.extend hc hd hpre hr (d.ob.toNat - y) (by omega)
  exact ⟨R, hL.eq (hR.done hpre (by omega))⟩

/-- The functors of pairs of lists. -/
def mkO (c d : Cat) (L : List (List Int × List Int)) : List Ftr := L.map fun P => ⟨c, d, P.1, P.2⟩
theorem mkO_app {L R : List (List Int × List Int)} : mkO c d (L ++ R) = mkO c d L ++ mkO c d R := by simp [mkO]
theorem mkO_leaf {o : List Int} {L : List (List Int)} : mkO c d (L.map fun F => (o, F)) = mkF c d o L := by simp [mkO, mkF]

/-- Where the images of the ends of an arrow have no arrow between them, there is no functor. -/
theorem no_hom {P : List Int × List Int} (h : Fn c d P) {i : Nat} (hi : i < c.fr.length) (h0 : d.hom (P.1.getD (c.fr.getD i 0).toNat 0) (P.1.getD (c.to.getD i 0).toNat 0) = []) : False := by
  have h1 := h.2.1.tot i hi
  obtain ⟨h2, h3, h4⟩ := h.2.1.ty.get hi h1
  have := (Cat.mem_hom (c := d)).2 ⟨h1, h2, h3, h4⟩
  rw [h0] at this
  cases this
end Go.D3

/- CONTRACTS: the search over the images of objects. -/
namespace Go.D3
open Go
set_option maxRecDepth 100000

theorem gset_ne {l : List Int} {i j : Nat} {x : Int} (h : i ≠ j) : (l.set i x).getD j 0 = l.getD j 0 := by
  rw [List.getD_eq_getElem?_getD, List.getElem?_set_ne h, ← List.getD_eq_getElem?_getD]
theorem gset_eq {l : List Int} {i : Nat} {x : Int} (h : i < l.length) : (l.set i x).getD i 0 = x := by
  rw [List.getD_eq_getElem?_getD, List.getElem?_set_self h]; rfl
theorem Agr.full {c d : Cat} {pre o : List Int} (h : Agr pre o) (hl : pre.length = o.length) (hp : (pre.length : Int) = c.ob) (hr : ∀ i, i < pre.length → 0 ≤ pre.getD i 0 ∧ pre.getD i 0 < d.ob) : pre = o ∧ Full c d o := by
  have e : pre = o := List.ext_getElem hl fun i a b => by
    have := h.2 i a
    rw [getD_lt a, getD_lt b] at this
    exact this.symm
  exact ⟨e, by rw [← e]; exact ⟨hp, hr⟩⟩
theorem Agr.set {pre o : List Int} {y : Int} (h : Agr pre o) (hl : pre.length < o.length) : Agr (pre ++ [y]) (o.set pre.length y) := by
  rw [agr_snoc]
  refine ⟨⟨by rw [List.length_set]; exact h.1, fun i hi => ?_⟩, by rw [List.length_set]; exact hl, gset_eq hl⟩
  rw [gset_ne (by omega)]; exact h.2 i hi

/-- What 'run' tells. -/
def RunQ (c d : Cat) (M : Nat) (pre o p : List Int) (l : List Ftr) (L : List (List Int × List Int)) (rc : D) (gs' : List D) : Prop :=
  ∃ ok o' p', o'.length = o.length ∧ Agr pre o' ∧ p'.length = p.length ∧ ok = decide ((l ++ mkO c d L).length ≤ M) ∧ rc = .bool ok ∧ gs' = gS c d M o' p' ((l ++ mkO c d L).take (M + 1))

-- (*impl.search).run
def c_impl_search_run : C :=
  (.seq (.ops [] [⟨none, .asg 2 (.k (.bool false))⟩] [])
  (.seq (.opc [] [⟨none, .mv (.v 1)⟩,
    ⟨none, .mv (.v 0)⟩,
    ⟨none, .nck (.t 1)⟩,
    ⟨none, .fA 0 (.t 2)⟩,
    ⟨none, .ld (.t 3)⟩,
    ⟨none, .nck (.t 4)⟩,
    ⟨none, .fA 0 (.t 5)⟩,
    ⟨none, .ld (.t 6)⟩,
    ⟨none, .bin .eql (.t 0) (.t 7)⟩] [] (.t 8) (.seq (.seq (.ops [7] [⟨none, .mv (.v 0)⟩,
    ⟨none, .nck (.t 0)⟩,
    ⟨none, .fA 3 (.t 1)⟩,
    ⟨none, .ld (.t 2)⟩,
    ⟨none, .len (.t 3)⟩,
    ⟨none, .asg 8 (.i 0)⟩] [(7, 4)])
  (.block 0 (.loop (.opq [] [⟨none, .bin .lss (.v 8) (.v 7)⟩] [] (.t 0) .skip
  (.exit 0)
  (.seq (.block 1 (.seq (.ops [] [⟨none, .mv (.v 8)⟩,
    ⟨none, .asg 3 (.t 0)⟩] [])
  (.ops [] [⟨none, .mv (.v 0)⟩,
    ⟨none, .nck (.t 0)⟩,
    ⟨none, .fA 3 (.t 1)⟩,
    ⟨none, .ld (.t 2)⟩,
    ⟨none, .mv (.v 3)⟩,
    ⟨none, .idxA 1 (.t 3) (.t 4)⟩,
    ⟨none, .st (.t 5) (.i (-1))⟩] [])))
  (.ops [] [⟨none, .bin .add (.v 8) (.i 1)⟩,
    ⟨none, .asg 8 (.t 0)⟩] []))))))
  (.seq (.seq (.ops [9, 10] [⟨none, .mv (.v 0)⟩,
    ⟨none, .nck (.t 0)⟩,
    ⟨none, .fA 0 (.t 1)⟩,
    ⟨none, .ld (.t 2)⟩,
    ⟨none, .nck (.t 3)⟩,
    ⟨none, .fA 3 (.t 4)⟩,
    ⟨none, .ld (.t 5)⟩,
    ⟨none, .len (.t 6)⟩,
    ⟨none, .asg 11 (.i 0)⟩] [(9, 6), (10, 7)])
  (.block 2 (.loop (.opq [] [⟨none, .bin .lss (.v 11) (.v 10)⟩] [] (.t 0) .skip
  (.exit 2)
  (.seq (.block 3 (.seq (.ops [] [⟨none, .mv (.v 11)⟩,
    ⟨none, .idxA 1 (.v 9) (.v 11)⟩,
    ⟨none, .ld (.t 1)⟩,
    ⟨none, .asg 4 (.t 0)⟩,
    ⟨none, .asg 5 (.t 2)⟩] [])
  (.ops [] [⟨none, .mv (.v 0)⟩,
    ⟨none, .nck (.t 0)⟩,
    ⟨none, .fA 3 (.t 1)⟩,
    ⟨none, .ld (.t 2)⟩,
    ⟨none, .mv (.v 5)⟩,
    ⟨none, .mv (.v 0)⟩,
    ⟨none, .nck (.t 5)⟩,
    ⟨none, .fA 1 (.t 6)⟩,
    ⟨none, .ld (.t 7)⟩,
    ⟨none, .nck (.t 8)⟩,
    ⟨none, .fA 3 (.t 9)⟩,
    ⟨none, .ld (.t 10)⟩,
    ⟨none, .mv (.v 0)⟩,
    ⟨none, .nck (.t 12)⟩,
    ⟨none, .fA 2 (.t 13)⟩,
    ⟨none, .ld (.t 14)⟩,
    ⟨none, .mv (.v 4)⟩,
    ⟨none, .idxA 1 (.t 15) (.t 16)⟩,
    ⟨none, .ld (.t 17)⟩,
    ⟨none, .idxA 1 (.t 11) (.t 18)⟩,
    ⟨none, .ld (.t 19)⟩,
    ⟨none, .idxA 1 (.t 3) (.t 4)⟩,
    ⟨none, .st (.t 21) (.t 20)⟩] [])))
  (.ops [] [⟨none, .bin .add (.v 11) (.i 1)⟩,
    ⟨none, .asg 11 (.t 0)⟩] []))))))
  (.seq (.opc [] [⟨none, .mv (.v 0)⟩,
    ⟨none, .dyn (.k (.fn 167 [])) [(.t 0)]⟩,
    ⟨none, .not (.t 1)⟩] [] (.t 2) (.seq (.ops [] [⟨none, .asg 2 (.k (.bool true))⟩] [])
  .ret)
  .skip)
  (.seq (.ops [] [⟨none, .mv (.v 0)⟩,
    ⟨none, .dyn (.k (.fn 168 [])) [(.t 0)]⟩,
    ⟨none, .asg 2 (.t 1)⟩] [])
  .ret))))
  .skip)
  (.seq (.seq (.ops [] [⟨none, .asg 6 (.i 0)⟩] [])
  (.block 4 (.loop (.seq (.opc [] [⟨none, .mv (.v 6)⟩,
    ⟨none, .mv (.v 0)⟩,
    ⟨none, .nck (.t 1)⟩,
    ⟨none, .fA 1 (.t 2)⟩,
    ⟨none, .ld (.t 3)⟩,
    ⟨none, .nck (.t 4)⟩,
    ⟨none, .fA 0 (.t 5)⟩,
    ⟨none, .ld (.t 6)⟩,
    ⟨none, .bin .lss (.t 0) (.t 7)⟩] [] (.t 8) .skip
  (.exit 4))
  (.seq (.block 5 (.seq (.opc [] [⟨none, .mv (.v 0)⟩,
    ⟨none, .nck (.t 0)⟩,
    ⟨none, .fA 4 (.t 1)⟩,
    ⟨none, .ld (.t 2)⟩,
    ⟨none, .mv (.t 3)⟩,
    ⟨some (4, true), .mv (.v 0)⟩,
    ⟨some (4, true), .nck (.t 5)⟩,
    ⟨some (4, true), .fA 2 (.t 6)⟩,
    ⟨some (4, true), .ld (.t 7)⟩,
    ⟨some (4, true), .mv (.v 1)⟩,
    ⟨some (4, true), .sl (.t 8) none (some (.t 9))⟩,
    ⟨some (4, true), .mv (.v 6)⟩,
    ⟨some (4, true), .call 169 [(.t 10), (.t 11)]⟩,
    ⟨none, .pick (.t 4) (.t 12) (.k (.bool false))⟩] [] (.t 13) (.exit 5)
  .skip)
  (.seq (.ops [] [⟨none, .mv (.v 0)⟩,
    ⟨none, .nck (.t 0)⟩,
    ⟨none, .fA 2 (.t 1)⟩,
    ⟨none, .ld (.t 2)⟩,
    ⟨none, .mv (.v 1)⟩,
    ⟨none, .mv (.v 6)⟩,
    ⟨none, .idxA 1 (.t 3) (.t 4)⟩,
    ⟨none, .st (.t 6) (.t 5)⟩] [])
  (.opc [] [⟨none, .mv (.v 0)⟩,
    ⟨none, .mv (.v 1)⟩,
    ⟨none, .call 170 [(.t 0), (.t 1)]⟩,
    ⟨none, .mv (.t 2)⟩,
    ⟨some (3, true), .mv (.v 0)⟩,
    ⟨some (3, true), .mv (.v 1)⟩,
    ⟨some (3, true), .bin .add (.t 5) (.i 1)⟩,
    ⟨some (3, true), .dyn (.k (.fn 135 [])) [(.t 4), (.t 6)]⟩,
    ⟨some (3, true), .not (.t 7)⟩,
    ⟨none, .pick (.t 3) (.t 8) (.k (.bool false))⟩] [] (.t 9) (.seq (.ops [] [⟨none, .asg 2 (.k (.bool false))⟩] [])
  .ret)
  .skip))))
  (.ops [] [⟨none, .mv (.v 6)⟩,
    ⟨none, .bin .add (.t 0) (.i 1)⟩,
    ⟨none, .asg 6 (.t 1)⟩] []))))))
  (.seq (.ops [] [⟨none, .asg 2 (.k (.bool true))⟩] [])
  .ret))))
def tr_impl_search_run : List Nat := [0, 1, 4, 5, 6, 7, 8, 22, 23, 39, 40, 41]
def rs_impl_search_run : List RS := [.t 2]
theorem ok_impl_search_run : fnOk Go.Proofs.Try.prog Go.Proofs.Try.f135 tr_impl_search_run c_impl_search_run 2 rs_impl_search_run = true := by decide +kernel

theorem run_leaf (c d : Cat) (M : Nat) (hM : M ≤ 1000000) (hc : c.Shape) (hd : d.Shape) (hcc : Cat.cost c ≤ 1048576) (hcd : Cat.cost d ≤ 1048576) (o p : List Int) (l : List Ftr) (L : List (List Int × List Int))
    (ho : Full c d o) (hp : p.length = c.fr.length) (hl : l.length ≤ M) (hL : EnO c d o L) :
    RetE Go.Proofs.Try.prog 135 [.adr 0 [(0, 0)], .int .i64 c.ob] (gS c d M o p l) (RunQ c d M o o p l L) := by
  have hfl := hc.fr
  have hdl := hd.fr
  have hob := hc.ob8
  have hci := hc.idn
  have hdi := hd.idn
  have hol := ho.len
  obtain ⟨L1, hL1⟩ := En.exists _ (Nat.le_refl _) (stF_typed hc hd ho (Nat.le_refl _))
  have hLL : L = L1.map fun F => (o, F) := hL.eq (EnO.leaf ho hL1)
  subst hLL
  refine ret_fnE .tree Go.Proofs.Try.func135 rfl ok_impl_search_run rfl ⟨by simp only [List.length_cons, List.length_nil]; decide, by simp only [List.length_cons, List.length_nil]; decide⟩ rfl ?_; unfold c_impl_search_run tr_impl_search_run rs_impl_search_run; simp only [go_sem, Nat.reduceLT, Nat.reduceAdd, Nat.reduceSub, Nat.reduceBEq, Nat.reduceLeDiff, ↓reduceIte]
  refine ⟨?_, fun h => by simp at h⟩
  refine loop_set [3] (fun s : Nat × List Int => [(8, .int .i64 s.1), (12, .box [.ptr c.cells, .ptr d.cells, .o (ints o), .o (ints s.2), .bool false, foundD c d M 13])])
    (fun s => s.1 ≤ p.length ∧ s.2.length = p.length ∧ ∀ j, j < s.1 → s.2.getD j 0 = -1) (fun s => p.length - s.1) (0, p) (by simp only [go_sem, Nat.reduceLT, Nat.reduceBEq, ↓reduceIte]; rfl) ⟨Nat.zero_le _, rfl, fun j hj => absurd hj (Nat.not_lt_zero _)⟩ rfl ?_
  rintro ⟨i, q⟩ ⟨hi, hq, hq1⟩
  simp only at hi hq hq1
  simp only [go_sem, Nat.reduceLT, Nat.reduceAdd, Nat.reduceSub, Nat.reduceBEq, Nat.reduceLeDiff, ↓reduceIte]
  refine ⟨fun h => ⟨by omega, by omega, (i + 1, q.set i (-1)), ⟨h, by simp only [List.length_set]; exact hq, fun j hj => ?_⟩, by simp only; omega, by rw [wrap_lt h (by simp only [maxLen]; omega)] <;> rfl⟩, fun h => ?_⟩
  · simp only at hj ⊢
    rw [set_get (by omega)]
    by_cases hji : j = i
    · rw [if_pos hji]
    · rw [if_neg hji]; exact hq1 j (by omega)
  have hq2 : q = stF c d o 0 := List.ext_getElem (by rw [stF_len]; omega) fun j a b => by
    have := hq1 j (by omega)
    rw [getD_lt a] at this
    rw [this]; simp [stF_zero]
  subst hq2
  refine loop_set [4, 5] (fun i : Nat => [(11, .int .i64 i), (12, .box [.ptr c.cells, .ptr d.cells, .o (ints o), .o (ints (stF c d o i)), .bool false, foundD c d M 13])])
    (fun i => i ≤ c.idn.length) (fun i => c.idn.length - i) 0 (by simp only [go_sem, Nat.reduceLT, Nat.reduceBEq, ↓reduceIte]; rfl) (Nat.zero_le _) rfl ?_
  intro k hk
  simp only [go_sem, Nat.reduceLT, Nat.reduceAdd, Nat.reduceSub, Nat.reduceBEq, Nat.reduceLeDiff, ↓reduceIte]
  refine ⟨fun h => ?_, fun h => ?_⟩
  · obtain ⟨a1, a2, a3, a4⟩ := id_ends hc h
    have hr := ho.rng k (by omega)
    have hsl : (stF c d o k).length = c.fr.length := stF_len
    refine ⟨h, by omega, ⟨hr.1, by omega⟩, ⟨a1, by omega⟩, by omega, k + 1, h, by omega, ?_⟩
    rw [wrap_lt h (by simp only [maxLen]; omega), ← stF_succ] <;> rfl
  have hkk : k = c.idn.length := by omega
  subst hkk
  refine e_call [12, 13] false (ret_impl_search_spread c d M o _ l hc hd (stF_typed hc hd ho (Nat.le_refl _))) (by exact ⟨by decide, rfl⟩) (by repeat (first | exact trivial | refine ⟨rfl, ?_⟩)) (by repeat (first | exact trivial | refine ⟨.inl rfl, ?_⟩ | refine ⟨.inr ⟨rfl, rfl⟩, ?_⟩)) ?_
  rintro _ _ ⟨r, p1, ⟨hs1, hs2, hs3⟩, rfl, rfl⟩
  refine ⟨(by repeat (first | exact trivial | refine ⟨(fun h => by cases h), ?_⟩)), (fun h => by cases h), ?_⟩
  simp only [go_sem, Nat.reduceLT, Nat.reduceAdd, Nat.reduceSub, Nat.reduceBEq, Nat.reduceLeDiff, ↓reduceIte]
  refine ⟨fun hr => ?_, fun hr => ?_⟩
  · have hr : r = false := by simpa using hr
    have hL0 : L1 = [] := hL1.none (hs3 hr)
    subst hL0
    refine ⟨_, _, ⟨true, o, p1, rfl, ⟨Nat.le_refl _, fun _ _ => rfl⟩, by rw [hs1.ty.len, hp], by simpa [mkO] using hl, rfl, rfl⟩, rfl, rfl, rfl, ?_, trivial⟩
    rw [List.take_of_length_le (by simp [mkO]; omega)]; simp only [mkO, List.map_nil, List.append_nil]; rfl
  · have hr : r = true := by simpa using hr
    refine e_call [12, 13] false (ret_impl_search_next c d M hM o hc hd hol hcc hcd _ p1 l L1 (Nat.lt_succ_self _) hs1.ty (hs2 hr) hl ((En.spr hs1).1 hL1)) (by exact ⟨by decide, rfl⟩) (by repeat (first | exact trivial | refine ⟨rfl, ?_⟩)) (by repeat (first | exact trivial | refine ⟨.inl rfl, ?_⟩ | refine ⟨.inr ⟨rfl, rfl⟩, ?_⟩)) ?_
    rintro _ _ ⟨ok, p2, hok1, hok2, hok3, rfl, rfl⟩
    refine ⟨(by repeat (first | exact trivial | refine ⟨(fun h => by cases h), ?_⟩)), (fun h => by cases h), ?_⟩
    simp only [go_sem, Nat.reduceLT, Nat.reduceAdd, Nat.reduceSub, Nat.reduceBEq, Nat.reduceLeDiff, ↓reduceIte]
    refine ⟨_, _, ⟨ok, o, p2, rfl, ⟨Nat.le_refl _, fun _ _ => rfl⟩, by rw [hok2, hs1.ty.len, hp], by rw [mkO_leaf]; exact hok3, rfl, rfl⟩, rfl, rfl, rfl, ?_, trivial⟩
    rw [mkO_leaf]; rfl

theorem allB_false {n : Nat} {p : Nat → Bool} (h : allB n p = false) : ∃ i, i < n ∧ p i = false := by
  refine Classical.byContradiction fun hn => ?_
  rw [allB_iff.2 fun i hi => ?_] at h
  · cases h
  · cases hp : p i with
    | true => rfl
    | false => exact absurd ⟨i, hi, hp⟩ hn
theorem no_room {c d : Cat} (hc : c.Shape) {pre o : List Int} {y : Int} (_ : (pre ++ [y]).length ≤ o.length) (ha1 : Agr (pre ++ [y]) o) (h : plc c d o (pre.length : Int) = false) : ∀ P, Fn c d P → ¬ Agr (pre ++ [y]) P.1 := by
  intro P hP hA
  obtain ⟨i, hi, hb⟩ := allB_false h
  simp only [plB, Bool.or_eq_false_iff, decide_eq_false_iff_not, Int.not_lt] at hb
  obtain ⟨⟨⟨h1, h2⟩, _⟩, h3⟩ := hb
  have hf1 := mapB_get hc.frm hi
  have ht1 := mapB_get hc.tom (show i < c.to.length by have := hc.to; omega)
  have hlen : (pre ++ [y]).length = pre.length + 1 := by simp
  refine no_hom hP hi ?_
  rw [hA.2 _ (by rw [hlen]; omega), hA.2 _ (by rw [hlen]; omega), ← ha1.2 _ (by rw [hlen]; omega), ← ha1.2 _ (by rw [hlen]; omega)]
  have : (d.hom (o.getD (c.fr.getD i 0).toNat 0) (o.getD (c.to.getD i 0).toNat 0)).length < 1 := by simp only [Bool.not_eq_false', decide_eq_true_eq] at h3; omega
  exact List.eq_nil_of_length_eq_zero (by omega)

theorem run_step (c d : Cat) (M : Nat) (_ : M ≤ 1000000) (hc : c.Shape) (hd : d.Shape) (_ : Cat.cost c ≤ 1048576) (_ : Cat.cost d ≤ 1048576) (pre o p : List Int) (l : List Ftr) (L : List (List Int × List Int))
    (hpre : (pre.length : Int) < c.ob) (hrg : ∀ i, i < pre.length → 0 ≤ pre.getD i 0 ∧ pre.getD i 0 < d.ob) (ho : (o.length : Int) = c.ob) (hag : Agr pre o) (hp : p.length = c.fr.length) (hl : l.length ≤ M) (hL : EnO c d pre L)
    (ih : ∀ (y : Nat) (o' p' : List Int) (l' : List Ftr) (L' : List (List Int × List Int)), (y : Int) < d.ob → (o'.length : Int) = c.ob → Agr (pre ++ [(y : Int)]) o' → p'.length = c.fr.length → l'.length ≤ M → EnO c d (pre ++ [(y : Int)]) L' →
      RetE Go.Proofs.Try.prog 135 [.adr 0 [(0, 0)], .int .i64 ((pre.length + 1 : Nat) : Int)] (gS c d M o' p' l') (RunQ c d M (pre ++ [(y : Int)]) o' p' l' L')) :
    RetE Go.Proofs.Try.prog 135 [.adr 0 [(0, 0)], .int .i64 pre.length] (gS c d M o p l) (RunQ c d M pre o p l L) := by
  have hfl := hc.fr
  have hdl := hd.fr
  have hob := hc.ob8
  have hci := hc.idn
  have hdi := hd.idn
  have hdo := hd.ob8
  have hd0 := hd.ob0
  refine ret_fnE .tree Go.Proofs.Try.func135 rfl ok_impl_search_run rfl ⟨by simp only [List.length_cons, List.length_nil]; decide, by simp only [List.length_cons, List.length_nil]; decide⟩ rfl ?_; unfold c_impl_search_run tr_impl_search_run rs_impl_search_run; simp only [go_sem, Nat.reduceLT, Nat.reduceAdd, Nat.reduceSub, Nat.reduceBEq, Nat.reduceLeDiff, ↓reduceIte]
  refine ⟨fun h => by omega, fun _ => ?_⟩
  refine loop_set [] (fun s : Nat × List Int × List Int × List (List Int × List Int) => [(6, .int .i64 s.1), (12, .box [.ptr c.cells, .ptr d.cells, .o (ints s.2.1), .o (ints s.2.2.1), .bool false, foundD c d M 13]), (13, .box [.o (ftrs (l ++ mkO c d s.2.2.2))])])
    (fun s => (s.1 : Int) ≤ d.ob ∧ s.2.1.length = o.length ∧ Agr pre s.2.1 ∧ s.2.2.1.length = p.length ∧ EnOP c d pre s.1 s.2.2.2 ∧ (l ++ mkO c d s.2.2.2).length ≤ M) (fun s => d.ob.toNat - s.1) (0, o, p, []) (by simp only [go_sem]; rfl)
    ⟨by simpa using hd0, rfl, hag, rfl, EnOP.zero hpre, by simpa [mkO] using hl⟩ (by simp only [mkO, List.map_nil, List.append_nil]; rfl) ?_
  rintro ⟨y, o1, p1, Li⟩ ⟨hy, ho1, hag1, hp1, hEi, hli⟩
  simp only at hy ho1 hag1 hp1 hEi hli
  simp only [go_sem, Nat.reduceLT, Nat.reduceAdd, Nat.reduceSub, Nat.reduceEqDiff, Nat.reduceBEq, Nat.reduceLeDiff, ↓reduceIte]
  refine ⟨fun hyd => ?_, fun hyd => ?_⟩
  · refine callg_of (res := .bool false) (fun h => by cases h) rfl (fun h => by cases h) (.inl rfl) ?_
    simp only [go_sem, Nat.reduceLT, Nat.reduceAdd, Nat.reduceSub, Nat.reduceBEq, Nat.reduceLeDiff, ↓reduceIte]
    have hpl : pre.length < o1.length := by omega
    obtain ⟨L1, hL1⟩ := EnO.exists hc hd (c.ob.toNat - pre.length - 1) (pre := pre ++ [(y : Int)]) (by simp; omega) (snoc_rng hrg hyd)
    have hE1 : EnOP c d pre (y + 1) (Li ++ L1) := hEi.step hpre hL1
    refine ⟨hpl, hpl, ?_⟩
    have hag2 : Agr (pre ++ [(y : Int)]) (o1.set pre.length y) := hag1.set hpl
    have hsl : (o1.set pre.length (y : Int)).length = o1.length := List.length_set
    generalize hO2 : o1.set pre.length (y : Int) = o2 at hag2 hsl ⊢
    refine call_of (ret_impl_search_placed c d hc hd o2 (by omega) (ints p1) pre.length _) rfl (.inl rfl) ?_
    simp only [go_sem, Nat.reduceLT, Nat.reduceAdd, Nat.reduceSub, ↓reduceIte]
    have hw := wrap_lt hpl (by simp only [maxLen]; omega)
    refine dyn_guard (fun hr => ?_) (fun hr => ?_)
    · simp only [go_sem]
      refine e_callg [12, 13] false hr (ih y o2 p1 _ L1 hyd (by omega) hag2 (by omega) hli hL1) (by exact ⟨by decide, rfl⟩) (by repeat (first | exact trivial | refine ⟨rfl, ?_⟩)) (by refine ⟨.inl rfl, .inl ?_, trivial⟩; rw [hw]; rfl) ?_
      rintro _ _ ⟨ok, o3, p3, ho3, hag3, hp3, hok, rfl, rfl⟩
      refine ⟨(by repeat (first | exact trivial | refine ⟨(fun h => by cases h), ?_⟩)), (fun h => by cases h), rfl, ?_⟩
      simp only [go_sem, Nat.reduceLT, Nat.reduceAdd, Nat.reduceSub, Nat.reduceBEq, Nat.reduceLeDiff, ↓reduceIte]
      refine ⟨fun h2 => ?_, fun h2 => ?_⟩
      · have hno : ok = false := by rw [hr] at h2; simpa using h2
        rw [hok, decide_eq_false_iff_not] at hno
        obtain ⟨R, hR⟩ := EnOP.pre hc hd hpre hrg hE1 (by omega) hL
        have hout : (l ++ mkO c d L).take (M + 1) = (l ++ mkO c d Li ++ mkO c d L1).take (M + 1) := by
          rw [hR, mkO_app, mkO_app, ← List.append_assoc, ← List.append_assoc, take_stop hno]
        have hlen : ¬ (l ++ mkO c d L).length ≤ M := by
          rw [hR, mkO_app, mkO_app, ← List.append_assoc, ← List.append_assoc, List.length_append]; omega
        refine ⟨_, _, ⟨false, o3, p3, by omega, (agr_snoc.1 hag3).1, by omega, by rw [decide_eq_false hlen], rfl, rfl⟩, rfl, rfl, rfl, ?_, trivial⟩
        rw [hout]; rfl
      · have hok2 : ok = true := by rw [hr] at h2; simpa using h2
        rw [hok, decide_eq_true_eq] at hok2
        have hL2 : l ++ mkO c d (Li ++ L1) = (l ++ mkO c d Li ++ mkO c d L1).take (M + 1) := by rw [mkO_app, ← List.append_assoc, List.take_of_length_le (by omega)]
        refine ⟨(y + 1, o3, p3, Li ++ L1), ⟨by simp only; omega, by simp only; omega, (agr_snoc.1 hag3).1, by simp only; omega, hE1, by rw [mkO_app, ← List.append_assoc]; exact hok2⟩, by simp only; omega, by rw [wrap_lt (n := d.ob.toNat) (by omega) (by simp only [maxLen]; omega), ← hL2] <;> rfl⟩
    · simp only [go_sem, Nat.reduceLT, Nat.reduceAdd, Nat.reduceSub, Nat.reduceBEq, Nat.reduceLeDiff, ↓reduceIte]
      refine ⟨(fun h2 => by rw [hr] at h2; cases h2), (fun h2 => by rw [hr] at h2; cases h2), fun _ => ?_⟩
      have hL0 : L1 = [] := hL1.none (no_room hc (by simp; omega) hag2 hr)
      subst hL0
      refine ⟨(y + 1, o2, p1, Li), ⟨by simp only; omega, by simp only; omega, (agr_snoc.1 hag2).1, by simp only; omega, by simpa using hE1, hli⟩, by simp only; omega, by rw [wrap_lt (n := d.ob.toNat) (by omega) (by simp only [maxLen]; omega)] <;> rfl⟩
  · have hyy : (y : Int) = d.ob := by omega
    have hLL : L = Li := hL.eq (EnOP.done hpre hyy hEi)
    subst hLL
    refine ⟨_, _, ⟨true, o1, p1, ho1, hag1, hp1, by simpa using hli, rfl, rfl⟩, rfl, rfl, rfl, ?_, trivial⟩
    rw [List.take_of_length_le (by omega)]; rfl

theorem ret_impl_search_run (c d : Cat) (M : Nat) (hM : M ≤ 1000000) (hc : c.Shape) (hd : d.Shape) (hcc : Cat.cost c ≤ 1048576) (hcd : Cat.cost d ≤ 1048576) : ∀ (n : Nat) (pre o p : List Int) (l : List Ftr) (L : List (List Int × List Int)),
    (pre.length : Int) + n = c.ob → (∀ i, i < pre.length → 0 ≤ pre.getD i 0 ∧ pre.getD i 0 < d.ob) → (o.length : Int) = c.ob → Agr pre o → p.length = c.fr.length → l.length ≤ M → EnO c d pre L →
    RetE Go.Proofs.Try.prog 135 [.adr 0 [(0, 0)], .int .i64 pre.length] (gS c d M o p l) (RunQ c d M pre o p l L) := by
  intro n
  induction n with
  | zero =>
    intro pre o p l L hn hr ho ha hp hl hL
    obtain ⟨e, hF⟩ := ha.full (c := c) (d := d) (by omega) (by omega) hr
    subst e
    rw [show (pre.length : Int) = c.ob by omega]
    exact run_leaf c d M hM hc hd hcc hcd pre p l L hF hp hl hL
  | succ n ih =>
    intro pre o p l L hn hr ho ha hp hl hL
    refine run_step c d M hM hc hd hcc hcd pre o p l L (by omega) hr ho ha hp hl hL fun y o' p' l' L' hy ho' ha' hp' hl' hL' => ?_
    have := ih (pre ++ [(y : Int)]) o' p' l' L' (by simp; omega) (snoc_rng hr hy) ho' ha' hp' hl' hL'
    rwa [show (pre ++ [(y : Int)]).length = pre.length + 1 by simp] at this
end Go.D3

/- CONTRACTS: the program's lists of functors. -/
namespace Go.D3
open Go
set_option maxRecDepth 100000

-- impl.allFunctors
def c_impl_allFunctors : C :=
  (.seq (.ops [6, 7, 8] [⟨none, .boxv 1 (.v 0)⟩,
    ⟨none, .boxv 1 (.v 1)⟩,
    ⟨none, .boxv 1 (.v 3)⟩,
    ⟨none, .asg 4 (.k (.nils (.agg [.int .i64 0, ints [], ints [], ints [], intss [], .int .i64 0, ints [], ints [], ints [], intss [], ints [], ints []])))⟩,
    ⟨none, .asg 5 (.k (.bool false))⟩] [(6, 0), (7, 1), (8, 2)])
  (.seq (.ops [9] [⟨none, .bldS (.agg [.int .i64 0, ints [], ints [], ints [], intss [], .int .i64 0, ints [], ints [], ints [], intss [], ints [], ints []]) 0 []⟩,
    ⟨none, .alc [.nils (.agg [.int .i64 0, ints [], ints [], ints [], intss [], .int .i64 0, ints [], ints [], ints [], intss [], ints [], ints []])]⟩,
    ⟨none, .st (.t 1) (.t 0)⟩] [(9, 1)])
  (.seq (.ops [10] [⟨none, .ld (.v 6)⟩,
    ⟨none, .ld (.v 7)⟩,
    ⟨none, .mv (.v 2)⟩,
    ⟨none, .mkf 134 [(.v 9), (.v 6), (.v 7), (.v 8)]⟩,
    ⟨none, .dyn (.k (.fn 133 [])) [(.t 0), (.t 1), (.t 2), (.t 3)]⟩,
    ⟨none, .bo (.t 4)⟩] [(10, 5)])
  (.seq (.ops [] [⟨none, .mv (.v 10)⟩,
    ⟨none, .dyn (.k (.fn 135 [])) [(.t 0), (.i 0)]⟩,
    ⟨none, .asg 11 (.t 1)⟩] [])
  (.seq (.ops [] [⟨none, .ld (.v 9)⟩,
    ⟨none, .mv (.v 11)⟩,
    ⟨none, .asg 4 (.t 0)⟩,
    ⟨none, .asg 5 (.t 1)⟩] [])
  .ret)))))
def tr_impl_allFunctors : List Nat := [0, 1, 2, 3, 8, 9, 4, 5, 7, 10, 11, 12]
def rs_impl_allFunctors : List RS := [.t 4, .t 5]
theorem ok_impl_allFunctors : fnOk Go.Proofs.Try.prog Go.Proofs.Try.f91 tr_impl_allFunctors c_impl_allFunctors 4 rs_impl_allFunctors = true := by decide +kernel

theorem ret_impl_allFunctors (c d : Cat) (M : Nat) (hM : M ≤ 1000000) (hc : c.Shape) (hd : d.Shape) (hcc : Cat.cost c ≤ 1048576) (hcd : Cat.cost d ≤ 1048576) (L : List (List Int × List Int)) (hL : EnO c d [] L) :
    Ret Go.Proofs.Try.prog 91 [.v (.ptr c.cells), .v (.ptr d.cells), .v (.bool false), .v (.int .i64 M)] (.tup [ftrs ((mkO c d L).take (M + 1)), .bool (decide ((mkO c d L).length ≤ M))]) := by
  have hfl := hc.fr
  have hob := hc.ob8
  have hob0 := hc.ob0
  refine ret_fn Go.Proofs.Try.func91 ok_impl_allFunctors rfl (show 4 < 500 by decide) rfl ?_; unfold c_impl_allFunctors tr_impl_allFunctors rs_impl_allFunctors; simp only [go_sem, Nat.reduceLT, Nat.reduceAdd, Nat.reduceSub, Nat.reduceEqDiff, ↓reduceIte]
  refine g_call [9] false (ret_impl_searchFor c d M [] (by omega) (by omega) (by omega)) (by exact ⟨by decide, rfl⟩) (by repeat (first | exact trivial | refine ⟨rfl, ?_⟩)) (by repeat (first | exact trivial | refine ⟨.inl rfl, ?_⟩ | refine ⟨.inr ⟨rfl, rfl⟩, ?_⟩)) (by repeat (first | exact trivial | refine ⟨(fun h => by cases h), ?_⟩)) (fun h => by cases h) ?_
  simp only [go_sem, Nat.reduceLT, Nat.reduceAdd, Nat.reduceSub, Nat.reduceBEq, Nat.reduceLeDiff, ↓reduceIte]
  refine e_call [10, 9] false (ret_impl_search_run c d M hM hc hd hcc hcd c.ob.toNat [] (List.replicate c.ob.toNat 0) (List.replicate c.fr.length 0) [] L (by simp only [List.length_nil]; omega) (fun i hi => absurd hi (Nat.not_lt_zero _)) (by rw [List.length_replicate]; omega) ⟨Nat.zero_le _, fun i hi => absurd hi (Nat.not_lt_zero _)⟩ List.length_replicate (Nat.zero_le _) hL) (by exact ⟨by decide, rfl⟩) (by repeat (first | exact trivial | refine ⟨rfl, ?_⟩)) (by repeat (first | exact trivial | refine ⟨.inl rfl, ?_⟩ | refine ⟨.inr ⟨rfl, rfl⟩, ?_⟩)) ?_
  rintro _ _ ⟨ok, o', p', ho', _, hp', hok, rfl, rfl⟩
  refine ⟨(by repeat (first | exact trivial | refine ⟨(fun h => by cases h), ?_⟩)), (fun h => by cases h), ?_⟩
  simp only [go_sem, Nat.reduceLT, Nat.reduceAdd, Nat.reduceSub, Nat.reduceBEq, Nat.reduceLeDiff, ↓reduceIte]
  rw [hok]; rfl

-- impl.areCategories
def c_impl_areCategories : C :=
  (.seq (.ops [] [⟨none, .asg 1 (.k (.bool false))⟩] [])
  (.seq (.seq (.ops [4] [⟨none, .asg 3 (.v 0)⟩,
    ⟨none, .len (.v 3)⟩,
    ⟨none, .asg 5 (.i 0)⟩] [(4, 1)])
  (.block 0 (.loop (.opq [] [⟨none, .bin .lss (.v 5) (.v 4)⟩] [] (.t 0) .skip
  (.exit 0)
  (.seq (.block 1 (.seq (.ops [] [⟨none, .idxA 1 (.v 3) (.v 5)⟩,
    ⟨none, .ld (.t 0)⟩,
    ⟨none, .asg 2 (.t 1)⟩] [])
  (.opc [] [⟨none, .mv (.v 2)⟩,
    ⟨none, .call 68 [(.t 0)]⟩,
    ⟨none, .not (.t 1)⟩] [] (.t 2) (.seq (.ops [] [⟨none, .asg 1 (.k (.bool false))⟩] [])
  .ret)
  .skip)))
  (.ops [] [⟨none, .bin .add (.v 5) (.i 1)⟩,
    ⟨none, .asg 5 (.t 0)⟩] []))))))
  (.seq (.ops [] [⟨none, .asg 1 (.k (.bool true))⟩] [])
  .ret)))
def tr_impl_areCategories : List Nat := [0, 2, 4, 5, 6, 7]
def rs_impl_areCategories : List RS := [.t 1]
theorem ok_impl_areCategories : fnOk Go.Proofs.Try.prog Go.Proofs.Try.f89 tr_impl_areCategories c_impl_areCategories 1 rs_impl_areCategories = true := by decide +kernel

theorem isB_shape {c : Cat} (h : c.isB = true) : c.Shape := by
  simp only [Cat.isB, Bool.and_eq_true] at h; exact Cat.shapeB_iff.1 h.1
theorem ret_impl_areCategories (c d : Cat) : Ret Go.Proofs.Try.prog 89 [.v (.slice .nilp [.ptr c.cells, .ptr d.cells])] (.bool (c.isB && d.isB)) := by
  refine ret_fn Go.Proofs.Try.func89 ok_impl_areCategories rfl (show 1 < 500 by decide) rfl ?_; unfold c_impl_areCategories tr_impl_areCategories rs_impl_areCategories; simp only [go_sem, Nat.reduceLT, Nat.reduceAdd, Nat.reduceSub, ↓reduceIte]
  refine loop_set [2] (fun (i : Nat) => [(5, .int .i64 i)]) (fun i => i ≤ 2 ∧ (1 ≤ i → c.isB = true) ∧ (2 ≤ i → d.isB = true)) (fun i => 2 - i) 0 (by simp only [go_sem, Nat.reduceLT, ↓reduceIte]; rfl) ⟨Nat.zero_le _, fun h => by omega, fun h => by omega⟩ rfl ?_
  rintro i ⟨hi, h1, h2⟩
  obtain rfl | rfl | rfl : i = 0 ∨ i = 1 ∨ i = 2 := by omega
  · simp only [go_sem, Nat.reduceLT, Nat.reduceAdd, Nat.reduceSub, ↓reduceIte]
    refine call_of (ret_impl_Category_isCategory c) rfl (.inl rfl) ?_
    simp only [go_sem, Nat.reduceLT, Nat.reduceAdd, Nat.reduceSub, ↓reduceIte]
    exact ⟨fun h => by simp only [Bool.not_eq_true'] at h; rw [h]; rfl, fun h => ⟨1, ⟨by omega, fun _ => by simpa using h, fun h => by omega⟩, by omega, rfl⟩⟩
  · simp only [go_sem, Nat.reduceLT, Nat.reduceAdd, Nat.reduceSub, ↓reduceIte]
    refine call_of (ret_impl_Category_isCategory d) rfl (.inl rfl) ?_
    simp only [go_sem, Nat.reduceLT, Nat.reduceAdd, Nat.reduceSub, ↓reduceIte]
    exact ⟨fun h => by simp only [Bool.not_eq_true'] at h; rw [h, Bool.and_false], fun h => ⟨2, ⟨by omega, fun _ => h1 (by omega), fun _ => by simpa using h⟩, by omega, rfl⟩⟩
  · simp only [go_sem, Nat.reduceLT, Nat.reduceAdd, Nat.reduceSub, ↓reduceIte]
    rw [h1 (by omega), h2 (by omega)]; rfl

def smallB (c d : Cat) : Bool := decide ((c.fr.length : Int) - c.ob ≤ 8) && decide ((d.fr.length : Int) ≤ 16)
-- impl.movable
def c_impl_movable : C :=
  (.seq (.ops [] [⟨none, .asg 2 (.k (.bool false))⟩] [])
  (.seq (.ops [] [⟨none, .mv (.v 0)⟩,
    ⟨none, .call 111 [(.t 0)]⟩,
    ⟨none, .mv (.v 0)⟩,
    ⟨none, .nck (.t 2)⟩,
    ⟨none, .fA 0 (.t 3)⟩,
    ⟨none, .ld (.t 4)⟩,
    ⟨none, .bin .sub (.t 1) (.t 5)⟩,
    ⟨none, .bin .leq (.t 6) (.i 8)⟩,
    ⟨none, .mv (.t 7)⟩,
    ⟨some (8, true), .mv (.v 1)⟩,
    ⟨some (8, true), .call 111 [(.t 9)]⟩,
    ⟨some (8, true), .bin .leq (.t 10) (.i 16)⟩,
    ⟨none, .pick (.t 8) (.t 11) (.k (.bool false))⟩,
    ⟨none, .asg 2 (.t 12)⟩] [])
  .ret))
def tr_impl_movable : List Nat := [0, 1, 4]
def rs_impl_movable : List RS := [.t 2]
theorem ok_impl_movable : fnOk Go.Proofs.Try.prog Go.Proofs.Try.f90 tr_impl_movable c_impl_movable 2 rs_impl_movable = true := by decide +kernel

theorem ret_impl_movable (c d : Cat) (hc : c.Shape) : Ret Go.Proofs.Try.prog 90 [.v (.ptr c.cells), .v (.ptr d.cells)] (.bool (smallB c d)) := by
  have hfl := hc.fr
  have hob := hc.ob8
  have hob0 := hc.ob0
  refine ret_fn Go.Proofs.Try.func90 ok_impl_movable rfl (show 2 < 500 by decide) rfl ?_; unfold c_impl_movable tr_impl_movable rs_impl_movable; simp only [go_sem, Nat.reduceLT, Nat.reduceAdd, Nat.reduceSub, ↓reduceIte]
  refine call_of (ret_impl_Category_arrows c) rfl (.inl rfl) ?_
  simp only [go_sem, Nat.reduceLT, Nat.reduceAdd, Nat.reduceSub, ↓reduceIte]
  have hw : IntKind.i64.wrap ((c.fr.length : Int) - c.ob) = c.fr.length - c.ob := wrap_small (by omega) (by omega)
  simp only [hw]
  refine callg_of (fun _ => ret_impl_Category_arrows d) rfl (fun h => h) (.inl rfl) ?_
  simp only [go_sem, Nat.reduceLT, Nat.reduceAdd, Nat.reduceSub, ↓reduceIte]
  rfl

/-- What both sides answer. -/
def allF (c d : Cat) (L : List (List Int × List Int)) : List Ftr × Int := if (c.isB && d.isB) = false then ([], 1) else if smallB c d = false then ([], 3) else if (mkO c d L).length ≤ 200 then (mkO c d L, 0) else ([], 3)
abbrev allD (p : List Ftr × Int) : D := .tup [ftrs p.1, .int .i64 p.2]
-- impl.AllFunctors
def c_impl_AllFunctors : C :=
  (.seq (.ops [4, 5] [⟨none, .boxv 5 (.v 0)⟩,
    ⟨none, .boxv 5 (.v 1)⟩,
    ⟨none, .asg 2 (.k (.nils (.agg [.int .i64 0, ints [], ints [], ints [], intss [], .int .i64 0, ints [], ints [], ints [], intss [], ints [], ints []])))⟩,
    ⟨none, .asg 3 (.i 0)⟩] [(4, 0), (5, 1)])
  (.seq (.opc [] [⟨none, .bldS (.nilp) 2 [(0, (.v 4)), (1, (.v 5))]⟩,
    ⟨none, .call 89 [(.t 0)]⟩,
    ⟨none, .not (.t 1)⟩] [] (.t 2) (.seq (.ops [] [⟨none, .asg 2 (.k (.nils (.agg [.int .i64 0, ints [], ints [], ints [], intss [], .int .i64 0, ints [], ints [], ints [], intss [], ints [], ints []])))⟩,
    ⟨none, .asg 3 (.i 1)⟩] [])
  .ret)
  .skip)
  (.seq (.opc [] [⟨none, .call 90 [(.v 4), (.v 5)]⟩,
    ⟨none, .not (.t 0)⟩] [] (.t 1) (.seq (.ops [] [⟨none, .asg 2 (.k (.nils (.agg [.int .i64 0, ints [], ints [], ints [], intss [], .int .i64 0, ints [], ints [], ints [], intss [], ints [], ints []])))⟩,
    ⟨none, .asg 3 (.i 3)⟩] [])
  .ret)
  .skip)
  (.seq (.ops [] [⟨none, .call 91 [(.v 4), (.v 5), (.k (.bool false)), (.i 200)]⟩,
    ⟨none, .mv (.t 0)⟩,
    ⟨none, .ext 0 (.t 1)⟩,
    ⟨none, .ext 1 (.t 1)⟩,
    ⟨none, .asg 6 (.t 2)⟩,
    ⟨none, .asg 7 (.t 3)⟩] [])
  (.seq (.opc [] [⟨none, .mv (.v 7)⟩,
    ⟨none, .not (.t 0)⟩] [] (.t 1) (.seq (.ops [] [⟨none, .asg 2 (.k (.nils (.agg [.int .i64 0, ints [], ints [], ints [], intss [], .int .i64 0, ints [], ints [], ints [], intss [], ints [], ints []])))⟩,
    ⟨none, .asg 3 (.i 3)⟩] [])
  .ret)
  .skip)
  (.seq (.ops [] [⟨none, .mv (.v 6)⟩,
    ⟨none, .asg 2 (.t 0)⟩,
    ⟨none, .asg 3 (.i 0)⟩] [])
  .ret))))))
def tr_impl_AllFunctors : List Nat := [0, 1, 4, 5, 2, 3, 6, 7]
def rs_impl_AllFunctors : List RS := [.t 2, .t 3]
theorem ok_impl_AllFunctors : fnOk Go.Proofs.Try.prog Go.Proofs.Try.f43 tr_impl_AllFunctors c_impl_AllFunctors 2 rs_impl_AllFunctors = true := by decide +kernel

theorem ret_impl_AllFunctors (c d : Cat) (hcc : Cat.cost c ≤ 1048576) (hcd : Cat.cost d ≤ 1048576) (L : List (List Int × List Int)) (hL : c.Shape → d.Shape → EnO c d [] L) :
    Ret Go.Proofs.Try.prog 43 [.v c.d, .v d.d] (allD (allF c d L)) := by
  refine ret_fn Go.Proofs.Try.func43 ok_impl_AllFunctors rfl (show 2 < 500 by decide) rfl ?_; unfold c_impl_AllFunctors tr_impl_AllFunctors rs_impl_AllFunctors; simp only [go_sem, Nat.reduceLT, Nat.reduceAdd, Nat.reduceSub, ↓reduceIte]
  refine call_of (ret_impl_areCategories c d) rfl (.inl rfl) ?_
  simp only [go_sem, Nat.reduceLT, Nat.reduceAdd, Nat.reduceSub, ↓reduceIte]
  refine ⟨fun h => ?_, fun h => ?_⟩
  · simp only [Bool.not_eq_true'] at h
    unfold allF; rw [if_pos h]
  simp only [Bool.not_eq_false'] at h
  have h' := h
  simp only [Bool.and_eq_true] at h'
  have hc := isB_shape h'.1
  have hd := isB_shape h'.2
  refine call_of (ret_impl_movable c d hc) rfl (.inl rfl) ?_
  simp only [go_sem, Nat.reduceLT, Nat.reduceAdd, Nat.reduceSub, ↓reduceIte]
  refine ⟨fun h2 => ?_, fun h2 => ?_⟩
  · simp only [Bool.not_eq_true'] at h2
    unfold allF; rw [h, if_neg (by simp), if_pos h2]
  simp only [Bool.not_eq_false'] at h2
  refine call_of (ret_impl_allFunctors c d 200 (by decide) hc hd hcc hcd L (hL hc hd)) rfl (.inl (by simp only [D.novw, novwL, nv_lst nv_Ftr, Bool.and_true])) ?_
  simp only [go_sem, Nat.reduceLT, Nat.reduceAdd, Nat.reduceSub, Nat.reduceBEq, Nat.reduceLeDiff, ↓reduceIte]
  refine ⟨fun h3 => ?_, fun h3 => ?_⟩
  · simp only [Bool.not_eq_true', decide_eq_false_iff_not] at h3
    unfold allF; rw [h, h2, if_neg (by simp), if_neg (by simp), if_neg h3]
  · simp only [Bool.not_eq_false', decide_eq_true_eq] at h3
    unfold allF; rw [h, h2, if_neg (by simp), if_neg (by simp), if_pos h3, List.take_of_length_le (by omega)]
-- impl.CountFunctors
def c_impl_CountFunctors : C :=
  (.seq (.ops [4, 5] [⟨none, .boxv 5 (.v 0)⟩,
    ⟨none, .boxv 5 (.v 1)⟩,
    ⟨none, .asg 2 (.i 0)⟩,
    ⟨none, .asg 3 (.i 0)⟩] [(4, 0), (5, 1)])
  (.seq (.ops [] [⟨none, .lda 5 (.v 4)⟩,
    ⟨none, .lda 5 (.v 5)⟩,
    ⟨none, .call 43 [(.t 0), (.t 1)]⟩,
    ⟨none, .mv (.t 2)⟩,
    ⟨none, .ext 0 (.t 3)⟩,
    ⟨none, .ext 1 (.t 3)⟩,
    ⟨none, .asg 6 (.t 4)⟩,
    ⟨none, .asg 7 (.t 5)⟩] [])
  (.seq (.ops [] [⟨none, .mv (.v 6)⟩,
    ⟨none, .len (.t 0)⟩,
    ⟨none, .mv (.v 7)⟩,
    ⟨none, .asg 2 (.t 1)⟩,
    ⟨none, .asg 3 (.t 2)⟩] [])
  .ret)))
def tr_impl_CountFunctors : List Nat := [0, 1, 4, 5, 2, 3, 6, 7]
def rs_impl_CountFunctors : List RS := [.t 2, .t 3]
theorem ok_impl_CountFunctors : fnOk Go.Proofs.Try.prog Go.Proofs.Try.f19 tr_impl_CountFunctors c_impl_CountFunctors 2 rs_impl_CountFunctors = true := by decide +kernel

theorem ret_impl_CountFunctors (c d : Cat) (hcc : Cat.cost c ≤ 1048576) (hcd : Cat.cost d ≤ 1048576) (L : List (List Int × List Int)) (hL : c.Shape → d.Shape → EnO c d [] L) :
    Ret Go.Proofs.Try.prog 19 [.v c.d, .v d.d] (.tup [.int .i64 (allF c d L).1.length, .int .i64 (allF c d L).2]) := by
  refine ret_fn Go.Proofs.Try.func19 ok_impl_CountFunctors rfl (show 2 < 500 by decide) rfl ?_; unfold c_impl_CountFunctors tr_impl_CountFunctors rs_impl_CountFunctors; simp only [go_sem, Nat.reduceLT, Nat.reduceAdd, Nat.reduceSub, Nat.reduceLeDiff, ↓reduceIte]
  refine call_of (ret_impl_AllFunctors c d hcc hcd L hL) rfl (.inl (by simp only [D.novw, novwL, nv_lst nv_Ftr, Bool.and_true])) ?_
  simp only [go_sem, Nat.reduceLT, Nat.reduceAdd, Nat.reduceSub, Nat.reduceBEq, Nat.reduceLeDiff, ↓reduceIte]
end Go.D3

/- PLAIN LAWS: bijective functors among the functors of a list. -/
namespace Go.D3
open Go
/-- No two known images are equal. -/
def dstR (p : List Int) (j : Nat) : Bool := allB j fun i => !(decide (0 ≤ p.getD i 0) && p.getD i 0 == p.getD j 0)
def dstB (p : List Int) : Bool := allB p.length (dstR p)
theorem dstB_iff {p : List Int} : dstB p = true ↔ ∀ j, j < p.length → ∀ i, i < j → 0 ≤ p.getD i 0 → p.getD i 0 ≠ p.getD j 0 := by
  unfold dstB dstR
  simp only [allB_iff, Bool.not_eq_true', Bool.and_eq_false_iff, decide_eq_false_iff_not, beq_eq_false_iff_ne]
  constructor
  · intro h j hj i hi h0
    rcases h j hj i hi with h1 | h1
    · exact absurd h0 h1
    · exact h1
  · intro h j hj i hi
    by_cases h0 : 0 ≤ p.getD i 0
    · exact .inr (h j hj i hi h0)
    · exact .inl h0
section
variable {c d : Cat} {o p : List Int}
theorem dst_no (hp : Typed c d o p) (h : dstB p = false) {F : List Int} (hF : Comp c d o p F) : dstB F = false := by
  cases hb : dstB F with
  | false => rfl
  | true =>
    exfalso
    have h1 := dstB_iff.1 hb
    have h2 : dstB p = true := dstB_iff.2 fun j hj i hi h0 heq => by
      have hl := hF.1.ty.len
      have hpl := hp.len
      have e1 := hF.2 i (by omega) h0
      have e2 := hF.2 j hj (by omega)
      exact h1 j (by omega) i hi (by omega) (by omega)
    rw [h] at h2; cases h2
/-- The bijective ones of a list. -/
def mkJ (c d : Cat) (o : List Int) (L : List (List Int)) : List Ftr := mkF c d o (L.filter dstB)
theorem mkJ_app {L R : List (List Int)} : mkJ c d o (L ++ R) = mkJ c d o L ++ mkJ c d o R := by simp [mkJ, List.filter_append, mkF_app]
theorem mkJ_no {L : List (List Int)} (h : En c d o p L) (hn : ∀ F, Comp c d o p F → dstB F = false) : mkJ c d o L = [] := by
  have : L.filter dstB = [] := List.filter_eq_nil_iff.2 fun F hF => by rw [hn F ((h.2 F).1 hF)]; simp
  unfold mkJ; rw [this]; rfl
theorem mkJ_one (h : dstB p = true) : mkJ c d o [p] = [⟨c, d, o, p⟩] := by
  unfold mkJ mkF; simp [List.filter, h]
def mkI (c d : Cat) (L : List (List Int × List Int)) : List Ftr := mkO c d (L.filter fun P => dstB P.2)
theorem mkI_app {L R : List (List Int × List Int)} : mkI c d (L ++ R) = mkI c d L ++ mkI c d R := by simp [mkI, List.filter_append, mkO_app]
theorem mkI_leaf {o : List Int} {L : List (List Int)} : mkI c d (L.map fun F => (o, F)) = mkJ c d o L := by
  unfold mkI mkJ
  rw [← mkO_leaf, List.filter_map]; rfl
theorem mkI_no {pre : List Int} {L : List (List Int × List Int)} (h : EnO c d pre L) (hn : ∀ P, Fn c d P → Agr pre P.1 → dstB P.2 = false) : mkI c d L = [] := by
  have : (L.filter fun P => dstB P.2) = [] := List.filter_eq_nil_iff.2 fun P hP => by
    obtain ⟨h1, h2⟩ := (h.2 P).1 hP
    rw [hn P h1 h2]; simp
  unfold mkI; rw [this]; rfl
end
end Go.D3

/- CONTRACTS: the program's search for bijective functors: what it asks on the way. -/
namespace Go.D3
open Go
set_option maxRecDepth 100000
set_option maxHeartbeats 4000000
theorem searchFor_one (c d : Cat) (M : Nat) (l : List Ftr) (h0 : 0 ≤ c.ob) (h1 : c.ob ≤ 1048576) (h2 : c.fr.length ≤ 1048576) :
    RetG Go.Proofs.Try.prog 133 [.ptr c.cells, .ptr d.cells, .bool true, foundD c d M 0] [.box [.o (ftrs l)]] (.box [.ptr c.cells, .ptr d.cells, .o (ints (List.replicate c.ob.toNat 0)), .o (ints (List.replicate c.fr.length 0)), .bool true, foundD c d M 0]) [.box [.o (ftrs l)]] := by
  refine ret_fnG .boxd Go.Proofs.Try.func133 rfl ok_impl_searchFor rfl ⟨by simp only [List.length_cons, List.length_nil]; decide, by simp only [List.length_cons, List.length_nil]; decide⟩ rfl ?_; unfold c_impl_searchFor tr_impl_searchFor rs_impl_searchFor; simp only [go_sem, Nat.reduceLT, Nat.reduceAdd, Nat.reduceSub, Nat.reduceBEq, Nat.reduceLeDiff, ↓reduceIte]
  refine ⟨⟨h0, Int.le_refl _, by omega⟩, call_of (ret_impl_Category_arrows c) rfl (.inl rfl) ?_⟩
  simp only [go_sem, Nat.reduceLT, Nat.reduceAdd, Nat.reduceSub, Nat.reduceEqDiff, Nat.reduceBEq, Nat.reduceLeDiff, ↓reduceIte]
  exact ⟨Nat.le_refl _, by omega⟩
theorem need_one (c d : Cat) (hc : c.Shape) (o p : D) (x y : Int) (f : D) : Ret Go.Proofs.Try.prog 186 [.v (.ptr [.ptr c.cells, .ptr d.cells, o, p, .bool true, f]), .v (.int .i64 x), .v (.int .i64 y)] (.int .i64 (c.hom x y).length) := by
  have hfl := hc.fr
  refine ret_fn Go.Proofs.Try.func186 ok_impl_search_need rfl (show 3 < 500 by decide) rfl ?_; unfold c_impl_search_need tr_impl_search_need rs_impl_search_need; simp only [go_sem, Nat.reduceLT, Nat.reduceAdd, Nat.reduceSub, ↓reduceIte]
  refine call_of (ret_impl_Category_hom c _ _ (by omega) hc.to) rfl (.inl (nv_ints _)) ?_
  simp only [go_sem, Nat.reduceLT, Nat.reduceAdd, Nat.reduceSub, ↓reduceIte]

/-- The arrow 'i' is not yet asked for, or its images have a hom set that is no smaller. -/
def pjB (c d : Cat) (o : List Int) (x : Int) (i : Nat) : Bool :=
  (decide (x < c.fr.getD i 0) || decide (x < c.to.getD i 0) || c.fr.getD i 0 != x && c.to.getD i 0 != x) || !decide (((d.hom (o.getD (c.fr.getD i 0).toNat 0) (o.getD (c.to.getD i 0).toNat 0)).length : Int) < (c.hom (c.fr.getD i 0) (c.to.getD i 0)).length)
def pjc (c d : Cat) (o : List Int) (x : Int) : Bool := allB c.fr.length (pjB c d o x)
theorem placed_one (c d : Cat) (hc : c.Shape) (hd : d.Shape) (o : List Int) (ho : (o.length : Int) = c.ob) (p : D) (x : Int) (f : D) : Ret Go.Proofs.Try.prog 170 [.v (.ptr [.ptr c.cells, .ptr d.cells, ints o, p, .bool true, f]), .v (.int .i64 x)] (.bool (pjc c d o x)) := by
  have hfl := hc.fr
  have htl := hc.to
  have hdl := hd.fr
  refine ret_fn Go.Proofs.Try.func170 ok_impl_search_placed rfl (show 2 < 500 by decide) rfl ?_; unfold c_impl_search_placed tr_impl_search_placed rs_impl_search_placed; simp only [go_sem, Nat.reduceLT, Nat.reduceAdd, Nat.reduceSub, ↓reduceIte]
  refine loop_set [3, 4, 5] (fun (i : Nat) => [(7, .int .i64 i)]) (fun i => i ≤ c.fr.length ∧ allB i (pjB c d o x) = true) (fun i => c.fr.length - i) 0 (by simp only [go_sem, Nat.reduceLT, ↓reduceIte]; rfl) ⟨Nat.zero_le _, rfl⟩ rfl ?_
  rintro i ⟨hi, hb⟩
  simp only [go_sem, Nat.reduceLT, Nat.reduceAdd, Nat.reduceSub, ↓reduceIte]
  have step : i < c.fr.length → pjB c d o x i = true → ∃ x', (x' ≤ c.fr.length ∧ allB x' (pjB c d o x) = true) ∧ c.fr.length - x' < c.fr.length - i ∧ IntKind.i64.wrap ((i : Int) + 1) = (x' : Int) := fun h hh => ⟨i + 1, ⟨by omega, allB_succ hb hh⟩, by omega, wrap_lt h (by simp only [maxLen]; omega)⟩
  have hpl : ∀ b, pjB c d o x i = b ↔ ((decide (x < c.fr.getD i 0) || decide (x < c.to.getD i 0) || c.fr.getD i 0 != x && c.to.getD i 0 != x) || !decide (((d.hom (o.getD (c.fr.getD i 0).toNat 0) (o.getD (c.to.getD i 0).toNat 0)).length : Int) < (c.hom (c.fr.getD i 0) (c.to.getD i 0)).length)) = b := fun b => Iff.rfl
  refine ⟨fun h => ⟨h, by omega, fun h3 => by simpa using h3, fun h3 => ⟨h3, fun h4 => by rw [h3, h4]; rfl⟩, fun h3 => ?_, fun h3 => ?_, fun h3 => ?_⟩, fun h => ?_⟩
  · rw [← Bool.not_or, h3]; rfl
  · obtain ⟨x', e1, e2, e3⟩ := step h ((hpl _).2 (by rw [h3]; rfl))
    exact ⟨x', e1, e2, by rw [e3]⟩
  · have hf1 := mapB_get hc.frm h
    have ht1 := mapB_get hc.tom (show i < c.to.length by omega)
    refine ⟨⟨hf1.1, by omega⟩, ⟨ht1.1, by omega⟩, call_of (ret_impl_Category_hom d _ _ (by omega) hd.to) rfl (.inl (nv_ints _)) ?_⟩
    simp only [go_sem, Nat.reduceLT, Nat.reduceAdd, Nat.reduceSub, ↓reduceIte]
    refine call_of (need_one c d hc _ _ _ _ f) rfl (.inl rfl) ?_
    simp only [go_sem, Nat.reduceLT, Nat.reduceAdd, Nat.reduceSub, ↓reduceIte]
    refine ⟨fun h4 => ?_, fun h4 => ?_⟩
    · exact (allB_stop h ((hpl _).2 (by rw [h3]; simpa using h4))).symm
    · obtain ⟨x', e1, e2, e3⟩ := step h ((hpl _).2 (by rw [h3]; simpa using h4))
      exact ⟨x', e1, e2, by rw [e3]⟩
  · rw [show i = c.fr.length by omega] at hb; exact hb.symm

/-- Which images the first 'i' arrows have. -/
def seen (n : Nat) (p : List Int) (i : Nat) : List Bool := (List.range n).map fun v : Nat => (p.take i).contains (v : Int)
theorem seen_len {n : Nat} {p : List Int} {i : Nat} : (seen n p i).length = n := by simp [seen]
theorem seen_get {n : Nat} {p : List Int} {i v : Nat} (h : v < n) : (seen n p i).getD v false = (p.take i).contains (v : Int) := by
  unfold seen
  rw [List.getD_eq_getElem?_getD, List.getElem?_map, List.getElem?_range h]; rfl
theorem seen_set {n : Nat} {p : List Int} {i v : Nat} (_ : v < n) (hi : i < p.length) (hv : p.getD i 0 = v) : (seen n p i).set v true = seen n p (i + 1) := by
  refine List.ext_getElem (by rw [List.length_set, seen_len, seen_len]) fun j h1 h2 => ?_
  have hj : j < n := by rw [seen_len] at h2; exact h2
  have e2 : (seen n p (i + 1))[j] = (p.take (i + 1)).contains (j : Int) := by
    have := seen_get (p := p) (i := i + 1) hj
    rwa [getD_lt h2] at this
  rw [e2, List.getElem_set, take_snoc hi 0, hv]
  by_cases hjv : v = j
  · subst hjv
    simp
  · rw [if_neg hjv]
    have e1 : (seen n p i)[j]'(by rw [seen_len]; exact hj) = (p.take i).contains (j : Int) := by
      have := seen_get (p := p) (i := i) hj
      rwa [getD_lt (by rw [seen_len]; exact hj)] at this
    rw [e1, List.contains_append]
    have : ([(v : Int)] : List Int).contains (j : Int) = false := by simp; omega
    rw [this, Bool.or_false]
theorem seen_keep {n : Nat} {p : List Int} {i : Nat} (hi : i < p.length) (hv : p.getD i 0 < 0) : seen n p (i + 1) = seen n p i := by
  unfold seen
  refine List.map_congr_left fun v _ => ?_
  rw [take_snoc hi 0, List.contains_append]
  have : ([p.getD i 0] : List Int).contains (v : Int) = false := by
    generalize p.getD i 0 = y at hv
    simp; omega
  rw [this, Bool.or_false]
theorem seen_zero {n : Nat} {p : List Int} : seen n p 0 = List.replicate n false := by
  unfold seen
  simp [List.map_const']
theorem mem_take_get {p : List Int} {i : Nat} {x : Int} (hi : i ≤ p.length) : (p.take i).contains x = true ↔ ∃ j, j < i ∧ p.getD j 0 = x := by
  rw [List.contains_iff_mem]
  constructor
  · intro h
    obtain ⟨j, hj, rfl⟩ := List.getElem_of_mem h
    have hj' : j < i := by rw [List.length_take] at hj; omega
    exact ⟨j, hj', by rw [List.getElem_take, getD_lt (by omega)]⟩
  · rintro ⟨j, hj, rfl⟩
    rw [getD_lt (show j < p.length by omega)]
    have : (p.take i)[j]'(by rw [List.length_take]; omega) = p[j] := List.getElem_take
    rw [← this]; exact List.getElem_mem _
theorem dstR_seen {p : List Int} {i : Nat} (hi : i < p.length) (h0 : 0 ≤ p.getD i 0) : (p.take i).contains (p.getD i 0) = !dstR p i := by
  cases h : dstR p i with
  | true =>
    unfold dstR at h
    rw [allB_iff] at h
    cases h2 : (p.take i).contains (p.getD i 0) with
    | false => rfl
    | true =>
      obtain ⟨j, hj, he⟩ := (mem_take_get (by omega)).1 h2
      have h3 := h j hj
      rw [he, decide_eq_true h0, beq_self_eq_true] at h3
      cases h3
  | false =>
    rw [Bool.not_false, mem_take_get (by omega)]
    apply Classical.byContradiction
    intro hn
    have : dstR p i = true := by
      unfold dstR
      rw [allB_iff]
      intro j hj
      simp only [Bool.not_eq_true', Bool.and_eq_false_iff, decide_eq_false_iff_not, beq_eq_false_iff_ne]
      exact .inr fun he => hn ⟨j, hj, he⟩
    rw [this] at h; cases h
theorem dstR_neg {p : List Int} {i : Nat} (h0 : ¬ 0 ≤ p.getD i 0) : dstR p i = true := by
  unfold dstR
  rw [allB_iff]
  intro j hj
  simp only [Bool.not_eq_true', Bool.and_eq_false_iff, decide_eq_false_iff_not, beq_eq_false_iff_ne]
  by_cases h1 : 0 ≤ p.getD j 0
  · exact .inr fun he => h0 (by rw [← he]; exact h1)
  · exact .inl h1
-- (*impl.search).distinct
def c_impl_search_distinct : C :=
  (.seq (.ops [] [⟨none, .asg 1 (.k (.bool false))⟩] [])
  (.seq (.ops [] [⟨none, .mv (.v 0)⟩,
    ⟨none, .nck (.t 0)⟩,
    ⟨none, .fA 1 (.t 1)⟩,
    ⟨none, .ld (.t 2)⟩,
    ⟨none, .call 111 [(.t 3)]⟩,
    ⟨none, .mkS (.bool false) 1 (.t 4) (.t 4)⟩,
    ⟨none, .asg 2 (.t 5)⟩] [])
  (.seq (.seq (.ops [4, 5] [⟨none, .mv (.v 0)⟩,
    ⟨none, .nck (.t 0)⟩,
    ⟨none, .fA 3 (.t 1)⟩,
    ⟨none, .ld (.t 2)⟩,
    ⟨none, .len (.t 3)⟩,
    ⟨none, .asg 6 (.i 0)⟩] [(4, 3), (5, 4)])
  (.block 0 (.loop (.opq [] [⟨none, .bin .lss (.v 6) (.v 5)⟩] [] (.t 0) .skip
  (.exit 0)
  (.seq (.block 1 (.seq (.ops [] [⟨none, .idxA 1 (.v 4) (.v 6)⟩,
    ⟨none, .ld (.t 0)⟩,
    ⟨none, .asg 3 (.t 1)⟩] [])
  (.seq (.opc [] [⟨none, .mv (.v 3)⟩,
    ⟨none, .bin .geq (.t 0) (.i 0)⟩,
    ⟨none, .mv (.t 1)⟩,
    ⟨some (2, true), .mv (.v 2)⟩,
    ⟨some (2, true), .mv (.v 3)⟩,
    ⟨some (2, true), .idxA 1 (.t 3) (.t 4)⟩,
    ⟨some (2, true), .ld (.t 5)⟩,
    ⟨none, .pick (.t 2) (.t 6) (.k (.bool false))⟩] [] (.t 7) (.seq (.ops [] [⟨none, .asg 1 (.k (.bool false))⟩] [])
  .ret)
  .skip)
  (.opc [] [⟨none, .mv (.v 3)⟩,
    ⟨none, .bin .geq (.t 0) (.i 0)⟩] [] (.t 1) (.ops [] [⟨none, .mv (.v 2)⟩,
    ⟨none, .mv (.v 3)⟩,
    ⟨none, .idxA 1 (.t 0) (.t 1)⟩,
    ⟨none, .st (.t 2) (.k (.bool true))⟩] [])
  .skip))))
  (.ops [] [⟨none, .bin .add (.v 6) (.i 1)⟩,
    ⟨none, .asg 6 (.t 0)⟩] []))))))
  (.seq (.ops [] [⟨none, .asg 1 (.k (.bool true))⟩] [])
  .ret))))
def tr_impl_search_distinct : List Nat := [0, 2, 3, 5, 15, 16, 17]
def rs_impl_search_distinct : List RS := [.t 1]
theorem ok_impl_search_distinct : fnOk Go.Proofs.Try.prog Go.Proofs.Try.f185 tr_impl_search_distinct c_impl_search_distinct 1 rs_impl_search_distinct = true := by decide +kernel

theorem ret_impl_search_distinct (c d : Cat) (o p : List Int) (hd : d.Shape) (hc : c.Shape) (hp : Typed c d o p) (f : D) : Ret Go.Proofs.Try.prog 185 [.v (.ptr [.ptr c.cells, .ptr d.cells, ints o, ints p, .bool true, f])] (.bool (dstB p)) := by
  have hdl := hd.fr
  have hcl := hc.fr
  have hpl := hp.len
  refine ret_fn Go.Proofs.Try.func185 ok_impl_search_distinct rfl (show 1 < 500 by decide) rfl ?_; unfold c_impl_search_distinct tr_impl_search_distinct rs_impl_search_distinct; simp only [go_sem, Nat.reduceLT, Nat.reduceAdd, Nat.reduceSub, ↓reduceIte]
  refine call_of (ret_impl_Category_arrows d) rfl (.inl rfl) ?_
  simp only [go_sem, Nat.reduceLT, Nat.reduceAdd, Nat.reduceSub, ↓reduceIte]
  refine ⟨by omega, ?_⟩
  refine loop_set [3] (fun (i : Nat) => [(2, .o (bools (seen d.fr.length p i))), (6, .int .i64 i)]) (fun i => i ≤ p.length ∧ allB i (dstR p) = true) (fun i => p.length - i) 0 (by simp only [go_sem, Nat.reduceLT, ↓reduceIte]; rfl) ⟨Nat.zero_le _, rfl⟩ (by simp only [go_sem, seen_zero]; rfl) ?_
  rintro i ⟨hi, hb⟩
  simp only [go_sem, Nat.reduceLT, Nat.reduceAdd, Nat.reduceSub, Nat.reduceBEq, Nat.reduceLeDiff, ↓reduceIte]
  have hw : i < p.length → IntKind.i64.wrap ((i : Int) + 1) = ((i + 1 : Nat) : Int) := fun h => wrap_lt h (by simp only [maxLen]; omega)
  refine ⟨fun h => ?_, fun h => by rw [show i = p.length by omega] at hb; exact hb.symm⟩
  by_cases h0 : 0 ≤ p.getD i 0
  · have hg := (hp.get (i := i) (by omega) h0).1
    obtain ⟨v, hv⟩ : ∃ v : Nat, p.getD i 0 = v := ⟨(p.getD i 0).toNat, by omega⟩
    have hs := dstR_seen h h0
    have hse : (seen d.fr.length p i).getD (p.getD i 0).toNat false = !dstR p i := by
      rw [← hs, hv, Int.toNat_natCast, seen_get (by omega)]
    rw [hse, decide_eq_true h0, Bool.true_and]
    refine ⟨h, fun _ => ⟨h0, h0, by rw [seen_len]; exact hg⟩, fun h2 => ?_, fun h2 => ⟨fun _ => ⟨⟨h0, by rw [seen_len]; exact hg⟩, by rw [seen_len]; omega, i + 1, ⟨h, allB_succ hb (by simpa using h2)⟩, by omega, ?_⟩, fun hn => absurd h0 hn⟩⟩
    · exact (allB_stop h (by simpa using h2)).symm
    · rw [hw h, ← seen_set (n := d.fr.length) (v := v) (by omega) h hv, hv, Int.toNat_natCast]
  · rw [decide_eq_false h0, Bool.false_and]
    refine ⟨h, fun hn => absurd hn h0, fun hn => (by cases hn), fun _ => ⟨fun hn => absurd hn h0, fun _ => ⟨i + 1, ⟨h, allB_succ hb (dstR_neg h0)⟩, by omega, ?_⟩⟩⟩
    rw [hw h, seen_keep h (by omega)]
end Go.D3

/- CONTRACTS: the images that follow from others, all different. -/
namespace Go.D3
open Go
set_option maxRecDepth 100000
set_option maxHeartbeats 4000000

/-- The objects of a search: the struct, what has been found. -/
abbrev sJ (c d : Cat) (M : Nat) (o p : List Int) : D := .box [.ptr c.cells, .ptr d.cells, .o (ints o), .o (ints p), .bool true, foundD c d M 1]
abbrev gJ (c d : Cat) (M : Nat) (o p : List Int) (l : List Ftr) : List D := [sJ c d M o p, .box [.o (ftrs l)]]

/-- What 'spread' tells of 'p'. -/
def SprJ (c d : Cat) (o p : List Int) (r : Bool) (p' : List Int) : Prop := Spr c d o p p' ∧ (r = true → (∀ a b, a < c.fr.length → b < c.fr.length → Fit c d p' a b) ∧ dstB p' = true) ∧ (r = false → ∀ F, Comp c d o p F → dstB F = false)

theorem spread_one (c d : Cat) (M : Nat) (o p : List Int) (l : List Ftr) (hc : c.Shape) (hd : d.Shape) (hp : Typed c d o p) :
    RetE Go.Proofs.Try.prog 167 [.adr 0 [(0, 0)]] (gJ c d M o p l) fun rc gs' => ∃ r p', SprJ c d o p r p' ∧ rc = .bool r ∧ gs' = gJ c d M o p' l := by
  have hfl := hc.fr
  refine ret_fnE .tree Go.Proofs.Try.func167 rfl ok_impl_search_spread rfl ⟨by simp only [List.length_cons, List.length_nil]; decide, by simp only [List.length_cons, List.length_nil]; decide⟩ rfl ?_; unfold c_impl_search_spread tr_impl_search_spread rs_impl_search_spread; simp only [go_sem, Nat.reduceLT, Nat.reduceAdd, Nat.reduceBEq, Nat.reduceLeDiff, ↓reduceIte]
  refine loop_set [3, 4, 5, 6, 7, 8, 9, 10, 11, 12, 13] (fun s : List Int × Bool => [(2, .bool s.2), (14, .box [.ptr c.cells, .ptr d.cells, .o (ints o), .o (ints s.1), .bool true, foundD c d M 15])])
    (fun s => Spr c d o p s.1 ∧ (s.2 = false → ∀ a b, a < c.fr.length → b < c.fr.length → Fit c d s.1 a b)) (fun s => unk s.1 + (if s.2 = true then 1 else 0)) (p, true) (by simp only [go_sem, Nat.reduceLT, Nat.reduceBEq, ↓reduceIte]; rfl) ⟨Spr.refl hp, fun h => by cases h⟩ rfl ?_
  rintro ⟨q, ag⟩ ⟨hq, hco⟩
  simp only [go_sem, Nat.reduceLT, Nat.reduceAdd, Nat.reduceSub, Nat.reduceBEq, Nat.reduceLeDiff, ↓reduceIte]
  simp only at hq hco
  have hcl := hc.co
  refine ⟨fun hag => ?_, fun hag => ?_⟩
  · refine loop_set [3, 4, 5, 6, 7, 11, 12, 13] (fun s : List Int × Bool × Nat => [(2, .bool s.2.1), (10, .int .i64 s.2.2), (14, .box [.ptr c.cells, .ptr d.cells, .o (ints o), .o (ints s.1), .bool true, foundD c d M 15])])
      (fun s => Spr c d o p s.1 ∧ s.2.2 ≤ c.fr.length ∧ (s.2.1 = false → s.1 = q ∧ ∀ a b, a < s.2.2 → b < c.fr.length → Fit c d s.1 a b) ∧ (s.2.1 = true → unk s.1 < unk q)) (fun s => c.fr.length - s.2.2) (q, false, 0) (by simp only [go_sem, Nat.reduceLT, Nat.reduceBEq, ↓reduceIte]; rfl) ⟨hq, Nat.zero_le _, fun _ => ⟨rfl, fun a b h => absurd h (Nat.not_lt_zero _)⟩, fun h => by cases h⟩ rfl ?_
    rintro ⟨q1, ag1, a⟩ ⟨hq1, ha, hf1, ht1⟩
    simp only [go_sem, Nat.reduceLT, Nat.reduceAdd, Nat.reduceSub, Nat.reduceBEq, Nat.reduceLeDiff, ↓reduceIte]
    simp only at hq1 ha hf1 ht1
    refine ⟨fun h => ⟨h, ?_⟩, fun h => ?_⟩
    · have hrow := hc.row a (by omega)
      refine loop_set [5, 6, 7] (fun s : List Int × Bool × Nat => [(2, .bool s.2.1), (13, .int .i64 s.2.2), (14, .box [.ptr c.cells, .ptr d.cells, .o (ints o), .o (ints s.1), .bool true, foundD c d M 15])])
        (fun s => Spr c d o p s.1 ∧ s.2.2 ≤ c.fr.length ∧ (s.2.1 = false → s.1 = q ∧ (∀ a' b, a' < a → b < c.fr.length → Fit c d s.1 a' b) ∧ ∀ b, b < s.2.2 → Fit c d s.1 a b) ∧ (s.2.1 = true → unk s.1 < unk q)) (fun s => c.fr.length - s.2.2) (q1, ag1, 0) (by simp only [go_sem, Nat.reduceLT, Nat.reduceBEq, ↓reduceIte]; rfl)
        ⟨hq1, Nat.zero_le _, fun h => ⟨(hf1 h).1, (hf1 h).2, fun b h => absurd h (Nat.not_lt_zero _)⟩, ht1⟩ rfl ?_
      rintro ⟨q2, ag2, b⟩ ⟨hq2, hb, hf2, ht2⟩
      simp only [go_sem, Nat.reduceLT, Nat.reduceAdd, Nat.reduceSub, Nat.reduceBEq, Nat.reduceLeDiff, ↓reduceIte]
      simp only at hq2 hb hf2 ht2
      have hql : q2.length = c.fr.length := hq2.ty.len
      have hcell : (c.co.getD a []).getD b 0 = c.cell a b := rfl
      rw [hcell]
      refine ⟨fun h2 => ?_, fun h2 => ?_⟩
      · have hbn : b < c.fr.length := by omega
        have han : a < c.fr.length := by omega
        refine ⟨h2, fun h3 => ⟨h3, by omega⟩, fun h3 => by simpa using h3, fun h3 => ⟨h3, by omega⟩, fun h3 => ?_, fun h3 => ?_, fun h3 => ?_⟩
        · simpa [Bool.or_eq_false_iff] using h3
        · refine ⟨(q2, ag2, b + 1), ⟨hq2, by simp only; omega, fun h4 => ⟨(hf2 h4).1, (hf2 h4).2.1, fun b' hb' => ?_⟩, ht2⟩, by simp only; omega, by rw [wrap_lt hbn (by simp only [maxLen]; omega)] <;> rfl⟩
          by_cases hbb : b' = b
          · subst hbb
            intro c1 c2 c3
            simp only at c1 c2 c3
            simp only [Bool.or_eq_true, decide_eq_true_eq] at h3
            omega
          · exact (hf2 h4).2.2 b' (by simp only at hb'; omega)
        · simp only [Bool.or_eq_false_iff, decide_eq_false_iff_not, Int.not_lt] at h3
          obtain ⟨⟨c1, c2⟩, c3⟩ := h3
          obtain ⟨k1, k2, k3, k4, k5⟩ := hq2.ty.comp hc hd han hbn c1 c2 c3
          refine ⟨by omega, by omega, call_of (retS_then hd (q2.getD a 0) (q2.getD b 0) c2 (hq2.ty.get han c2).1 c3 (hq2.ty.get hbn c3).1) rfl (.inl rfl) ?_⟩
          simp only [go_sem, Nat.reduceLT, Nat.reduceAdd, Nat.reduceSub, Nat.reduceBEq, Nat.reduceLeDiff, ↓reduceIte]
          have hset : (q2.set (c.cell a b).toNat (d.cellI (q2.getD a 0) (q2.getD b 0))).getD (c.cell a b).toNat 0 = d.cellI (q2.getD a 0) (q2.getD b 0) := by rw [set_get (by omega), if_pos rfl]
          refine ⟨⟨c1, by omega⟩, fun h4 => ⟨⟨c1, by omega⟩, by omega, ⟨c1, by rw [List.length_set]; omega⟩, fun h5 => ?_, fun h5 => ?_⟩, fun h4 => ⟨⟨c1, by omega⟩, fun h5 => ?_, fun h5 => ?_⟩⟩
          · rw [hset] at h5; simp at h5
          · obtain ⟨s1, s2⟩ := Spr.step hc hd hq2.ty han hbn c1 c2 c3 h4
            refine ⟨(_, true, b + 1), ⟨hq2.trans s1, by simp only; omega, fun h6 => (by cases h6), fun _ => ?_⟩, by simp only; omega, by rw [wrap_lt hbn (by simp only [maxLen]; omega)] <;> rfl⟩
            simp only
            cases hag2 : ag2 with
            | false => rw [← (hf2 hag2).1]; exact s2
            | true => have := ht2 hag2; omega
          · have hne : q2.getD (c.cell a b).toNat 0 ≠ d.cellI (q2.getD a 0) (q2.getD b 0) := by simpa using h5
            refine ⟨_, _, ⟨false, q2, ⟨hq2, fun h => (by cases h), fun _ F hF => ?_⟩, rfl, rfl⟩, rfl, rfl, rfl, rfl, trivial⟩
            exact absurd ((hq2.same F).2 hF) (Spr.clash hc hq2.ty han hbn c1 c2 c3 k1 (by omega) hne F)
          · have heq : q2.getD (c.cell a b).toNat 0 = d.cellI (q2.getD a 0) (q2.getD b 0) := by simpa using h5
            refine ⟨(q2, ag2, b + 1), ⟨hq2, by simp only; omega, fun h6 => ⟨(hf2 h6).1, (hf2 h6).2.1, fun b' hb' => ?_⟩, ht2⟩, by simp only; omega, by rw [wrap_lt hbn (by simp only [maxLen]; omega)] <;> rfl⟩
            by_cases hbb : b' = b
            · subst hbb; exact fun _ _ _ => heq
            · exact (hf2 h6).2.2 b' (by simp only at hb'; omega)
      · have : b = c.fr.length := by omega
        subst this
        have han : a < c.fr.length := by omega
        refine ⟨(q2, ag2, a + 1), ⟨hq2, by simp only; omega, fun h6 => ⟨(hf2 h6).1, fun a' b' ha' hb' => ?_⟩, ht2⟩, by simp only; omega, by rw [wrap_lt han (by simp only [maxLen]; omega)] <;> rfl⟩
        by_cases haa : a' = a
        · subst haa; exact (hf2 h6).2.2 b' hb'
        · exact (hf2 h6).2.1 a' b' (by simp only at ha'; omega) hb'
    · have : a = c.fr.length := by omega
      subst this
      cases ag1 with
      | false => exact ⟨(q1, false), ⟨hq1, fun _ => (hf1 rfl).2⟩, by rw [(hf1 rfl).1, if_pos hag]; simp, rfl⟩
      | true => exact ⟨(q1, true), ⟨hq1, fun h => by cases h⟩, by rw [if_pos hag]; have := ht1 rfl; simp; omega, rfl⟩
  · refine callg_of (fun _ => ret_impl_search_distinct c d o q hd hc hq.ty _) rfl (fun h => h) (.inl rfl) ?_
    simp only [go_sem, Nat.reduceLT, Nat.reduceAdd, Nat.reduceSub, Nat.reduceBEq, Nat.reduceLeDiff, ↓reduceIte]
    exact ⟨_, _, ⟨dstB q, q, ⟨hq, fun h => ⟨hco hag, h⟩, fun h F hF => dst_no hq.ty h ((hq.same F).2 hF)⟩, rfl, rfl⟩, rfl, rfl, rfl, rfl, trivial⟩
end Go.D3

/- CONTRACTS: the search over the images of arrows, all different. -/
namespace Go.D3
open Go
set_option maxRecDepth 100000
set_option maxHeartbeats 4000000

/-- What 'next' tells. -/
def NextJ (c d : Cat) (M : Nat) (o p : List Int) (l : List Ftr) (L : List (List Int)) (rc : D) (gs' : List D) : Prop :=
  ∃ ok p', (ok = true → p' = p) ∧ p'.length = p.length ∧ ok = decide ((l ++ mkJ c d o L).length ≤ M) ∧ rc = .bool ok ∧ gs' = gJ c d M o p' ((l ++ mkJ c d o L).take (M + 1))

theorem nextJ_leaf (c d : Cat) (M : Nat) (hM : M ≤ 1000000) (o : List Int) (hc : c.Shape) (hd : d.Shape) (ho : (o.length : Int) = c.ob) (hcc : Cat.cost c ≤ 1048576) (hcd : Cat.cost d ≤ 1048576) (p : List Int) (l : List Ftr) (L : List (List Int))
    (hp : Typed c d o p) (hco : ∀ a b, a < c.fr.length → b < c.fr.length → Fit c d p a b) (hdp : dstB p = true) (hl : l.length ≤ M) (hL : En c d o p L) (ht : ∀ i, i < p.length → 0 ≤ p.getD i 0) :
    RetE Go.Proofs.Try.prog 168 [.adr 0 [(0, 0)]] (gJ c d M o p l) (NextJ c d M o p l L) := by
  have hfl := hc.fr
  have hdl := hd.fr
  have hpl := hp.len
  have hob := hc.ob8
  refine ret_fnE .tree Go.Proofs.Try.func168 rfl ok_impl_search_next rfl ⟨by simp only [List.length_cons, List.length_nil]; decide, by simp only [List.length_cons, List.length_nil]; decide⟩ rfl ?_; unfold c_impl_search_next tr_impl_search_next rs_impl_search_next; simp only [go_sem, Nat.reduceLT, Nat.reduceAdd, Nat.reduceSub, Nat.reduceBEq, Nat.reduceLeDiff, ↓reduceIte]
  refine call_of (ret_impl_index_int64 p (-1) (-1) (idx_none hp ht) (by omega)) rfl (.inl rfl) ?_
  simp only [go_sem, Nat.reduceLT, Nat.reduceAdd, Nat.reduceSub, Nat.reduceBEq, Nat.reduceLeDiff, ↓reduceIte]
  refine ⟨fun _ => ?_, fun h => by omega⟩
  refine g_call [9] true (ret_found c d M hM o p l hcc hcd (by omega) (by omega) (by omega)) (by exact ⟨by decide, rfl⟩) (by repeat (first | exact trivial | refine ⟨rfl, ?_⟩)) (by repeat (first | exact trivial | refine ⟨.inl rfl, ?_⟩ | refine ⟨.inr ⟨rfl, rfl⟩, ?_⟩)) (by repeat (first | exact trivial | refine ⟨(fun h => by cases h), ?_⟩)) (fun _ => ⟨rfl, by simp only [tightXL, D.tightX, tightCL, D.tightC, nv_lst nv_Ftr, Bool.and_true]⟩) ?_
  simp only [go_sem, Nat.reduceLT, Nat.reduceAdd, Nat.reduceSub, Nat.reduceBEq, Nat.reduceLeDiff, ↓reduceIte]
  have hLp := hL.one hp hco (fun i hi => ht i (by omega))
  refine ⟨_, _, ⟨decide (l.length + 1 ≤ M), p, fun _ => rfl, rfl, by rw [hLp, mkJ_one hdp]; simp, rfl, rfl⟩, rfl, rfl, rfl, ?_, trivial⟩
  rw [hLp, mkJ_one hdp, List.take_of_length_le (by simp; omega)]; rfl

theorem nextJ_step (c d : Cat) (M : Nat) (_ : M ≤ 1000000) (o : List Int) (hc : c.Shape) (hd : d.Shape) (ho : (o.length : Int) = c.ob) (_ : Cat.cost c ≤ 1048576) (_ : Cat.cost d ≤ 1048576) (p : List Int) (l : List Ftr) (L : List (List Int))
    (hp : Typed c d o p) (_ : ∀ a b, a < c.fr.length → b < c.fr.length → Fit c d p a b) (_ : dstB p = true) (hl : l.length ≤ M) (hL : En c d o p L) (a : Nat) (ha : Fst p a)
    (ih : ∀ (p' : List Int) (l' : List Ftr) (L' : List (List Int)), unk p' < unk p → Typed c d o p' → (∀ a b, a < c.fr.length → b < c.fr.length → Fit c d p' a b) → dstB p' = true → l'.length ≤ M → En c d o p' L' → RetE Go.Proofs.Try.prog 168 [.adr 0 [(0, 0)]] (gJ c d M o p' l') (NextJ c d M o p' l' L')) :
    RetE Go.Proofs.Try.prog 168 [.adr 0 [(0, 0)]] (gJ c d M o p l) (NextJ c d M o p l L) := by
  have hfl := hc.fr
  have hdl := hd.fr
  have hpl := hp.len
  have hob := hc.ob8
  refine ret_fnE .tree Go.Proofs.Try.func168 rfl ok_impl_search_next rfl ⟨by simp only [List.length_cons, List.length_nil]; decide, by simp only [List.length_cons, List.length_nil]; decide⟩ rfl ?_; unfold c_impl_search_next tr_impl_search_next rs_impl_search_next; simp only [go_sem, Nat.reduceLT, Nat.reduceAdd, Nat.reduceSub, Nat.reduceBEq, Nat.reduceLeDiff, ↓reduceIte]
  refine call_of (ret_impl_index_int64 p (-1) a (idx_fst hp ha) (by omega)) rfl (.inl rfl) ?_
  simp only [go_sem, Nat.reduceLT, Nat.reduceAdd, Nat.reduceSub, Nat.reduceBEq, Nat.reduceLeDiff, ↓reduceIte]
  refine ⟨fun h => by omega, fun _ => call_of (ret_impl_clone p (by omega)) rfl (.inl (nv_ints _)) ?_⟩
  simp only [go_sem, Nat.reduceLT, Nat.reduceAdd, Nat.reduceSub, Nat.reduceBEq, Nat.reduceLeDiff, ↓reduceIte]
  have hac : a < c.fr.length := by have := ha.lt; omega
  have hf1 := mapB_get hc.frm hac
  have ht1 := mapB_get hc.tom (show a < c.to.length by have := hc.to; omega)
  refine ⟨hac, ⟨hf1.1, by omega⟩, by have := hc.to; omega, ⟨ht1.1, by omega⟩, call_of (ret_impl_Category_hom d _ _ (by omega) hd.to) rfl (.inl (nv_ints _)) ?_⟩
  simp only [go_sem, Nat.reduceLT, Nat.reduceAdd, Nat.reduceSub, Nat.reduceBEq, Nat.reduceLeDiff, ↓reduceIte]
  generalize hH : d.hom (o.getD (c.fr.getD a 0).toNat 0) (o.getD (c.to.getD a 0).toNat 0) = H
  have hHl : H.length ≤ 40 := by rw [← hH]; exact Nat.le_trans Cat.homP_len hdl
  refine loop_set [4] (fun s : Nat × List (List Int) => [(7, .int .i64 s.1), (8, .box [.ptr c.cells, .ptr d.cells, .o (ints o), .o (ints p), .bool true, foundD c d M 9]), (9, .box [.o (ftrs (l ++ mkJ c d o s.2))])])
    (fun s => s.1 ≤ H.length ∧ EnP c d o p a H s.1 s.2 ∧ (l ++ mkJ c d o s.2).length ≤ M) (fun s => H.length - s.1) (0, []) (by simp only [go_sem, Nat.reduceLT, Nat.reduceBEq, ↓reduceIte]; rfl) ⟨Nat.zero_le _, EnP.zero, by simpa [mkJ, mkF] using hl⟩ (by simp only [mkJ, mkF, List.filter_nil, List.map_nil, List.append_nil]; rfl) ?_
  rintro ⟨i, Li⟩ ⟨hi, hEi, hli⟩
  simp only [go_sem, Nat.reduceLT, Nat.reduceAdd, Nat.reduceSub, Nat.reduceBEq, Nat.reduceLeDiff, ↓reduceIte]
  simp only at hi hEi hli
  refine ⟨fun hiH => ?_, fun hiH => ?_⟩
  · have hm := hom_get (d := d) (x := o.getD (c.fr.getD a 0).toNat 0) (y := o.getD (c.to.getD a 0).toNat 0) (i := i) (by rw [hH]; exact hiH)
    obtain ⟨hty, hun⟩ := ha.hom hp hm
    have hx0 := (Cat.mem_hom.1 hm).1
    rw [hH] at hm hty hun hx0
    obtain ⟨L1, hL1⟩ := En.exists _ (Nat.le_refl _) hty
    have hE1 : EnP c d o p a H (i + 1) (Li ++ L1) := hEi.step hp ha (by rw [← hH]; exact Cat.hom_sorted) hiH hx0 hL1
    refine ⟨hiH, ha.lt, ha.lt, ?_⟩
    refine e_call [8, 9] false (spread_one c d M o _ (l ++ mkJ c d o Li) hc hd hty) (by exact ⟨by decide, rfl⟩) (by repeat (first | exact trivial | refine ⟨rfl, ?_⟩)) (by repeat (first | exact trivial | refine ⟨.inl rfl, ?_⟩ | refine ⟨.inr ⟨rfl, rfl⟩, ?_⟩)) ?_
    rintro _ _ ⟨r, p1, ⟨hs1, hs2, hs3⟩, rfl, rfl⟩
    refine ⟨(by repeat (first | exact trivial | refine ⟨(fun h => by cases h), ?_⟩)), (fun h => by cases h), ?_⟩
    simp only [go_sem, Nat.reduceLT, Nat.reduceAdd, Nat.reduceSub, Nat.reduceBEq, ↓reduceIte]
    refine dyn_guard (fun hr => ?_) (fun hr => ?_)
    · simp only [go_sem]
      refine e_callg [8, 9] false hr (ih p1 _ L1 (by have := hs1.neg; omega) hs1.ty (hs2 hr).1 (hs2 hr).2 hli ((En.spr hs1).1 hL1)) (by exact ⟨by decide, rfl⟩) (by repeat (first | exact trivial | refine ⟨rfl, ?_⟩)) (by repeat (first | exact trivial | refine ⟨.inl rfl, ?_⟩ | refine ⟨.inr ⟨rfl, rfl⟩, ?_⟩)) ?_
      rintro _ _ ⟨ok, p2, hok1, hok2, hok3, rfl, rfl⟩
      refine ⟨(by repeat (first | exact trivial | refine ⟨(fun h => by cases h), ?_⟩)), (fun h => by cases h), rfl, ?_⟩
      simp only [go_sem, Nat.reduceLT, Nat.reduceAdd, Nat.reduceSub, Nat.reduceBEq, Nat.reduceLeDiff, ↓reduceIte]
      refine ⟨fun h2 => ?_, fun h2 => ?_⟩
      · have hno : ok = false := by rw [hr] at h2; simpa using h2
        rw [hok3, decide_eq_false_iff_not] at hno
        obtain ⟨R, hR⟩ := EnP.pre hp ha (by rw [hH]; exact hE1) (by rw [hH]; omega) hL
        have hout : (l ++ mkJ c d o L).take (M + 1) = (l ++ mkJ c d o Li ++ mkJ c d o L1).take (M + 1) := by
          rw [hR, mkJ_app, mkJ_app, ← List.append_assoc, ← List.append_assoc, take_stop hno]
        have hlen : ¬ (l ++ mkJ c d o L).length ≤ M := by
          rw [hR, mkJ_app, mkJ_app, ← List.append_assoc, ← List.append_assoc, List.length_append]; omega
        refine ⟨_, _, ⟨false, p2, fun h => (by cases h), by rw [hok2, hs1.ty.len, hpl], by rw [decide_eq_false hlen], rfl, rfl⟩, rfl, rfl, rfl, ?_, trivial⟩
        rw [hout]; rfl
      · have hok : ok = true := by rw [hr] at h2; simpa using h2
        have hpp := hok1 hok
        subst hpp
        refine cpy_part (k := 8) (M := p.map (D.int .i64)) rfl (scal_ints p) ?_
        simp only [go_sem, Nat.reduceLT, Nat.reduceBEq, ↓reduceIte]
        refine ⟨_, p2.map (D.int .i64), rfl, ⟨rfl, scal_ints p2⟩, fill_of ?_⟩
        simp only [go_sem, Nat.reduceLT, Nat.reduceAdd, Nat.reduceSub, Nat.reduceBEq, Nat.reduceLeDiff, ↓reduceIte]
        rw [cpy_all (by rw [hpl, hs1.ty.len])]
        rw [hok3, decide_eq_true_eq] at hok
        have hL2 : l ++ mkJ c d o (Li ++ L1) = (l ++ mkJ c d o Li ++ mkJ c d o L1).take (M + 1) := by rw [mkJ_app, ← List.append_assoc, List.take_of_length_le (by omega)]
        refine ⟨(i + 1, Li ++ L1), ⟨hiH, hE1, by rw [mkJ_app, ← List.append_assoc]; exact hok⟩, by simp only; omega, by rw [wrap_lt hiH (by simp only [maxLen]; omega), ← hL2] <;> rfl⟩
    · simp only [go_sem, Nat.reduceLT, Nat.reduceAdd, Nat.reduceSub, Nat.reduceBEq, Nat.reduceLeDiff, ↓reduceIte]
      refine ⟨(fun h2 => by rw [hr] at h2; cases h2), (fun h2 => by rw [hr] at h2; cases h2), fun _ => ?_⟩
      refine cpy_part (k := 8) (M := p.map (D.int .i64)) rfl (scal_ints p) ?_
      simp only [go_sem, Nat.reduceLT, Nat.reduceBEq, ↓reduceIte]
      refine ⟨_, p1.map (D.int .i64), rfl, ⟨rfl, scal_ints p1⟩, fill_of ?_⟩
      simp only [go_sem, Nat.reduceLT, Nat.reduceAdd, Nat.reduceSub, Nat.reduceBEq, Nat.reduceLeDiff, ↓reduceIte]
      rw [cpy_all (by rw [hpl, hs1.ty.len])]
      have hL0 : mkJ c d o L1 = [] := mkJ_no hL1 (hs3 hr)
      refine ⟨(i + 1, Li ++ L1), ⟨hiH, hE1, by rw [mkJ_app, hL0, List.append_nil]; exact hli⟩, by simp only; omega, by rw [wrap_lt hiH (by simp only [maxLen]; omega), mkJ_app, hL0, List.append_nil] <;> rfl⟩
  · have hii : i = H.length := by omega
    subst hii
    have hLL : L = Li := hL.eq (EnP.done hp ha (by rw [hH]; exact hEi))
    subst hLL
    refine ⟨_, _, ⟨true, p, fun _ => rfl, rfl, by simpa using hli, rfl, rfl⟩, rfl, rfl, rfl, ?_, trivial⟩
    rw [List.take_of_length_le (by omega)]; rfl

theorem next_one (c d : Cat) (M : Nat) (hM : M ≤ 1000000) (o : List Int) (hc : c.Shape) (hd : d.Shape) (ho : (o.length : Int) = c.ob) (hcc : Cat.cost c ≤ 1048576) (hcd : Cat.cost d ≤ 1048576) : ∀ (n : Nat) (p : List Int) (l : List Ftr) (L : List (List Int)),
    unk p < n → Typed c d o p → (∀ a b, a < c.fr.length → b < c.fr.length → Fit c d p a b) → dstB p = true → l.length ≤ M → En c d o p L →
    RetE Go.Proofs.Try.prog 168 [.adr 0 [(0, 0)]] (gJ c d M o p l) (NextJ c d M o p l L) := by
  intro n
  induction n with
  | zero => intro p l L hn; omega
  | succ n ih =>
    intro p l L hn hp hco hdp hl hL
    rcases fst_or p with ht | ⟨a, ha⟩
    · exact nextJ_leaf c d M hM o hc hd ho hcc hcd p l L hp hco hdp hl hL ht
    · exact nextJ_step c d M hM o hc hd ho hcc hcd p l L hp hco hdp hl hL a ha fun p' l' L' h => ih p' l' L' (by omega)
end Go.D3

/- PLAIN LAWS: the images of identities are closed under composites. -/
namespace Go.D3
open Go

theorem isB_unit {c : Cat} (h : c.isB = true) {f : Nat} (hf : f < c.fr.length) : c.cellI (c.idI (c.fr.getD f 0)) f = f ∧ c.cellI f (c.idI (c.to.getD f 0)) = f := by
  simp only [Cat.isB, Bool.and_eq_true, beq_iff_eq] at h
  have h2 := h.2
  have hn : c.idF f = false := by
    cases hx : c.idF f with
    | false => rfl
    | true =>
      unfold Cat.faultF at h2
      split at h2
      · cases h2
      · rename_i hnone
        rw [List.findSome?_eq_none_iff] at hnone
        have := hnone f (by simpa using hf)
        rw [hx] at this; cases this
  simp only [Cat.idF, Bool.or_eq_false_iff, bne_eq_false_iff_eq] at hn
  exact hn
variable {c d : Cat}
/-- An identity's composite with itself. -/
theorem unit_self (hs : c.Shape) (h : c.isB = true) {x : Nat} (hx : x < c.idn.length) : c.cellI (c.idn.getD x 0) (c.idn.getD x 0) = c.idn.getD x 0 := by
  obtain ⟨a1, a2, a3, a4⟩ := id_ends hs hx
  have hu := (isB_unit h a2).1
  have e : c.idI (c.fr.getD (c.idn.getD x 0).toNat 0) = c.idn.getD x 0 := by rw [a3]; show c.idn.getD (x : Int).toNat 0 = _; rw [Int.toNat_natCast]
  rw [e, Int.toNat_of_nonneg a1] at hu
  exact hu
theorem idn_inj (hs : c.Shape) {x y : Nat} (hx : x < c.idn.length) (hy : y < c.idn.length) (h : (c.idn.getD x 0).toNat = (c.idn.getD y 0).toNat) : x = y := by
  obtain ⟨a1, a2, a3, _⟩ := id_ends hs hx
  obtain ⟨b1, b2, b3, _⟩ := id_ends hs hy
  rw [h] at a3; omega
theorem stF_at (hc : c.Shape) {o : List Int} : ∀ {k : Nat}, k ≤ c.idn.length → ∀ {x : Nat}, x < k → (stF c d o k).getD (c.idn.getD x 0).toNat 0 = d.idn.getD (o.getD x 0).toNat 0
  | 0, _, x, hx => by omega
  | k + 1, hk, x, hx => by
    obtain ⟨a1, a2, a3, _⟩ := id_ends hc (x := k) (by omega)
    rw [stF_succ, set_get (by rw [stF_len]; exact a2)]
    split
    · rename_i he
      rw [idn_inj hc (by omega) (by omega) he]
    · rename_i he
      have : x ≠ k := fun hh => he (by rw [hh])
      exact stF_at hc (by omega) (by omega)
theorem stF_known (hc : c.Shape) {o : List Int} : ∀ {k : Nat}, k ≤ c.idn.length → ∀ {i : Nat}, i < c.fr.length → 0 ≤ (stF c d o k).getD i 0 → ∃ x, x < k ∧ (c.idn.getD x 0).toNat = i
  | 0, _, i, hi, h => by rw [stF_zero, List.getD_eq_getElem?_getD, List.getElem?_replicate, if_pos hi] at h; exact absurd h (by decide)
  | k + 1, hk, i, hi, h => by
    obtain ⟨a1, a2, a3, _⟩ := id_ends hc (x := k) (by omega)
    rw [stF_succ, set_get (by rw [stF_len]; exact a2)] at h
    by_cases he : i = (c.idn.getD k 0).toNat
    · exact ⟨k, by omega, he.symm⟩
    · rw [if_neg he] at h
      obtain ⟨x, h1, h2⟩ := stF_known hc (by omega) hi h
      exact ⟨x, by omega, h2⟩
theorem stF_fit (hc : c.Shape) (hd : d.Shape) (hcb : c.isB = true) (hdb : d.isB = true) {o : List Int} (ho : Full c d o) : ∀ a b, a < c.fr.length → b < c.fr.length → Fit c d (stF c d o c.idn.length) a b := by
  intro a b ha hb h0 h1 h2
  obtain ⟨x, hx, hxa⟩ := stF_known hc (Nat.le_refl _) ha h1
  obtain ⟨y, hy, hyb⟩ := stF_known hc (Nat.le_refl _) hb h2
  obtain ⟨a1, a2, a3, a4⟩ := id_ends hc hx
  obtain ⟨b1, b2, b3, b4⟩ := id_ends hc hy
  have hcomp : c.to.getD a 0 = c.fr.getD b 0 := Classical.byContradiction fun hh => by
    have := hc.cell_out ha hb hh
    rw [cell_eq] at this
    omega
  have hxy : x = y := by rw [← hxa, ← hyb, a4, b3] at hcomp; omega
  subst hxy
  subst hxa
  subst hyb
  have e1 : c.cell (c.idn.getD x 0).toNat (c.idn.getD x 0).toNat = c.idn.getD x 0 := by
    rw [← cell_eq, Int.toNat_of_nonneg a1]; exact unit_self hc hcb hx
  have hr := ho.rng x (by have := ho.len; have := hc.idn; omega)
  rw [e1, stF_at hc (Nat.le_refl _) hx]
  exact (unit_self hd hdb (by have := hd.idn; omega)).symm
end Go.D3

/- CONTRACTS: the search over the images of objects, for bijective functors: its end, and what rules an image out. -/
namespace Go.D3
open Go
set_option maxRecDepth 100000
set_option maxHeartbeats 4000000

/-- What 'run' tells. -/
def RunJ (c d : Cat) (M : Nat) (pre o p : List Int) (l : List Ftr) (L : List (List Int × List Int)) (rc : D) (gs' : List D) : Prop :=
  ∃ ok o' p', o'.length = o.length ∧ Agr pre o' ∧ p'.length = p.length ∧ ok = decide ((l ++ mkI c d L).length ≤ M) ∧ rc = .bool ok ∧ gs' = gJ c d M o' p' ((l ++ mkI c d L).take (M + 1))

theorem runJ_leaf (c d : Cat) (M : Nat) (hM : M ≤ 1000000) (hc : c.Shape) (hd : d.Shape) (hcc : Cat.cost c ≤ 1048576) (hcd : Cat.cost d ≤ 1048576) (o p : List Int) (l : List Ftr) (L : List (List Int × List Int))
    (ho : Full c d o) (hp : p.length = c.fr.length) (hl : l.length ≤ M) (hL : EnO c d o L) :
    RetE Go.Proofs.Try.prog 135 [.adr 0 [(0, 0)], .int .i64 c.ob] (gJ c d M o p l) (RunJ c d M o o p l L) := by
  have hfl := hc.fr
  have hdl := hd.fr
  have hob := hc.ob8
  have hci := hc.idn
  have hdi := hd.idn
  have hol := ho.len
  obtain ⟨L1, hL1⟩ := En.exists _ (Nat.le_refl _) (stF_typed hc hd ho (Nat.le_refl _))
  have hLL : L = L1.map fun F => (o, F) := hL.eq (EnO.leaf ho hL1)
  subst hLL
  refine ret_fnE .tree Go.Proofs.Try.func135 rfl ok_impl_search_run rfl ⟨by simp only [List.length_cons, List.length_nil]; decide, by simp only [List.length_cons, List.length_nil]; decide⟩ rfl ?_; unfold c_impl_search_run tr_impl_search_run rs_impl_search_run; simp only [go_sem, Nat.reduceLT, Nat.reduceAdd, Nat.reduceSub, Nat.reduceBEq, Nat.reduceLeDiff, ↓reduceIte]
  refine ⟨?_, fun h => by simp at h⟩
  refine loop_set [3] (fun s : Nat × List Int => [(8, .int .i64 s.1), (12, .box [.ptr c.cells, .ptr d.cells, .o (ints o), .o (ints s.2), .bool true, foundD c d M 13])])
    (fun s => s.1 ≤ p.length ∧ s.2.length = p.length ∧ ∀ j, j < s.1 → s.2.getD j 0 = -1) (fun s => p.length - s.1) (0, p) (by simp only [go_sem, Nat.reduceLT, Nat.reduceBEq, ↓reduceIte]; rfl) ⟨Nat.zero_le _, rfl, fun j hj => absurd hj (Nat.not_lt_zero _)⟩ rfl ?_
  rintro ⟨i, q⟩ ⟨hi, hq, hq1⟩
  simp only at hi hq hq1
  simp only [go_sem, Nat.reduceLT, Nat.reduceAdd, Nat.reduceSub, Nat.reduceBEq, Nat.reduceLeDiff, ↓reduceIte]
  refine ⟨fun h => ⟨by omega, by omega, (i + 1, q.set i (-1)), ⟨h, by simp only [List.length_set]; exact hq, fun j hj => ?_⟩, by simp only; omega, by rw [wrap_lt h (by simp only [maxLen]; omega)] <;> rfl⟩, fun h => ?_⟩
  · simp only at hj ⊢
    rw [set_get (by omega)]
    by_cases hji : j = i
    · rw [if_pos hji]
    · rw [if_neg hji]; exact hq1 j (by omega)
  have hq2 : q = stF c d o 0 := List.ext_getElem (by rw [stF_len]; omega) fun j a b => by
    have := hq1 j (by omega)
    rw [getD_lt a] at this
    rw [this]; simp [stF_zero]
  subst hq2
  refine loop_set [4, 5] (fun i : Nat => [(11, .int .i64 i), (12, .box [.ptr c.cells, .ptr d.cells, .o (ints o), .o (ints (stF c d o i)), .bool true, foundD c d M 13])])
    (fun i => i ≤ c.idn.length) (fun i => c.idn.length - i) 0 (by simp only [go_sem, Nat.reduceLT, Nat.reduceBEq, ↓reduceIte]; rfl) (Nat.zero_le _) rfl ?_
  intro k hk
  simp only [go_sem, Nat.reduceLT, Nat.reduceAdd, Nat.reduceSub, Nat.reduceBEq, Nat.reduceLeDiff, ↓reduceIte]
  refine ⟨fun h => ?_, fun h => ?_⟩
  · obtain ⟨a1, a2, a3, a4⟩ := id_ends hc h
    have hr := ho.rng k (by omega)
    have hsl : (stF c d o k).length = c.fr.length := stF_len
    refine ⟨h, by omega, ⟨hr.1, by omega⟩, ⟨a1, by omega⟩, by omega, k + 1, h, by omega, ?_⟩
    rw [wrap_lt h (by simp only [maxLen]; omega), ← stF_succ] <;> rfl
  have hkk : k = c.idn.length := by omega
  subst hkk
  refine e_call [12, 13] false (spread_one c d M o _ l hc hd (stF_typed hc hd ho (Nat.le_refl _))) (by exact ⟨by decide, rfl⟩) (by repeat (first | exact trivial | refine ⟨rfl, ?_⟩)) (by repeat (first | exact trivial | refine ⟨.inl rfl, ?_⟩ | refine ⟨.inr ⟨rfl, rfl⟩, ?_⟩)) ?_
  rintro _ _ ⟨r, p1, ⟨hs1, hs2, hs3⟩, rfl, rfl⟩
  refine ⟨(by repeat (first | exact trivial | refine ⟨(fun h => by cases h), ?_⟩)), (fun h => by cases h), ?_⟩
  simp only [go_sem, Nat.reduceLT, Nat.reduceAdd, Nat.reduceSub, Nat.reduceBEq, Nat.reduceLeDiff, ↓reduceIte]
  refine ⟨fun hr => ?_, fun hr => ?_⟩
  · have hr : r = false := by simpa using hr
    have hL0 : mkI c d (L1.map fun F => (o, F)) = [] := by rw [mkI_leaf]; exact mkJ_no hL1 (hs3 hr)
    refine ⟨_, _, ⟨true, o, p1, rfl, ⟨Nat.le_refl _, fun _ _ => rfl⟩, by rw [hs1.ty.len, hp], by rw [hL0, List.append_nil, decide_eq_true hl], rfl, rfl⟩, rfl, rfl, rfl, ?_, trivial⟩
    rw [hL0, List.append_nil, List.take_of_length_le (by omega)]; rfl
  · have hr : r = true := by simpa using hr
    refine e_call [12, 13] false (next_one c d M hM o hc hd hol hcc hcd _ p1 l L1 (Nat.lt_succ_self _) hs1.ty (hs2 hr).1 (hs2 hr).2 hl ((En.spr hs1).1 hL1)) (by exact ⟨by decide, rfl⟩) (by repeat (first | exact trivial | refine ⟨rfl, ?_⟩)) (by repeat (first | exact trivial | refine ⟨.inl rfl, ?_⟩ | refine ⟨.inr ⟨rfl, rfl⟩, ?_⟩)) ?_
    rintro _ _ ⟨ok, p2, hok1, hok2, hok3, rfl, rfl⟩
    refine ⟨(by repeat (first | exact trivial | refine ⟨(fun h => by cases h), ?_⟩)), (fun h => by cases h), ?_⟩
    simp only [go_sem, Nat.reduceLT, Nat.reduceAdd, Nat.reduceSub, Nat.reduceBEq, Nat.reduceLeDiff, ↓reduceIte]
    refine ⟨_, _, ⟨ok, o, p2, rfl, ⟨Nat.le_refl _, fun _ _ => rfl⟩, by rw [hok2, hs1.ty.len, hp], by rw [mkI_leaf]; exact hok3, rfl, rfl⟩, rfl, rfl, rfl, ?_, trivial⟩
    rw [mkI_leaf]; rfl

theorem nodup_le : ∀ {l m : List Int}, l.Nodup → (∀ x, x ∈ l → x ∈ m) → l.length ≤ m.length
  | [], _, _, _ => Nat.zero_le _
  | a :: r, m, hn, hs => by
    obtain ⟨h1, h2⟩ := List.nodup_cons.1 hn
    have ha : a ∈ m := hs a (by simp)
    have ih := nodup_le (l := r) (m := m.erase a) h2 fun x hx => (List.mem_erase_of_ne (fun e => h1 (by rw [← e]; exact hx))).2 (hs x (by simp [hx]))
    rw [List.length_erase_of_mem ha] at ih
    have := List.length_pos_of_mem ha
    simp only [List.length_cons]; omega
section
variable {c d : Cat} {P : List Int × List Int}
theorem dst_inj (h : Fn c d P) (hb : dstB P.2 = true) {i j : Nat} (hi : i < c.fr.length) (hj : j < c.fr.length) (he : P.2.getD i 0 = P.2.getD j 0) : i = j := by
  have hl := h.2.1.ty.len
  have h1 := dstB_iff.1 hb
  rcases Nat.lt_trichotomy i j with h2 | h2 | h2
  · exact absurd he (h1 j (by omega) i h2 (h.2.1.tot i hi))
  · exact h2
  · exact absurd he.symm (h1 i (by omega) j h2 (h.2.1.tot j hj))
/-- Different objects go to different ones. -/
theorem dst_obj (hc : c.Shape) (hd : d.Shape) (h : Fn c d P) (hb : dstB P.2 = true) {x y : Nat} (hx : x < P.1.length) (hy : y < P.1.length) (he : P.1.getD x 0 = P.1.getD y 0) : x = y := by
  have hci := hc.idn
  have hol := h.1.len
  have hx' : x < c.idn.length := by omega
  have hy' : y < c.idn.length := by omega
  obtain ⟨_, a2, a3, _⟩ := id_ends hc hx'
  obtain ⟨_, b2, b3, _⟩ := id_ends hc hy'
  have hdi := hd.idn
  have key : ∀ {z : Nat}, z < c.idn.length → P.2.getD (c.idn.getD z 0).toNat 0 = d.idn.getD (P.1.getD z 0).toNat 0 := fun {z} hz => by
    obtain ⟨_, e2, _, _⟩ := id_ends hc hz
    have hr := h.1.rng z (by omega)
    have h0 := (id_ends hd (x := (P.1.getD z 0).toNat) (by omega)).1
    have hst := stF_at (d := d) hc (o := P.1) (Nat.le_refl _) hz
    rw [h.2.2 _ (by rw [stF_len]; exact e2) (by rw [hst]; exact h0), hst]
  have e := dst_inj h hb a2 b2
  have e2 := e (by rw [key hx', key hy', he])
  rw [e2, b3] at a3
  omega
/-- A hom set goes to one that is no smaller. -/
theorem dst_hom (h : Fn c d P) (hb : dstB P.2 = true) (x y : Int) : (c.hom x y).length ≤ (d.hom (P.1.getD x.toNat 0) (P.1.getD y.toNat 0)).length := by
  have h1 : ((c.hom x y).map fun f => P.2.getD f.toNat 0).Nodup := by
    rw [List.Nodup, List.pairwise_map]
    have hs := (Cat.hom_sorted (c := c) (x := x) (y := y))
    refine hs.imp_of_mem fun {a b} ha hbm hab he => ?_
    have h2 := Cat.mem_hom.1 ha
    have h3 := Cat.mem_hom.1 hbm
    have := dst_inj h hb (i := a.toNat) (j := b.toNat) (by omega) (by omega) he
    omega
  have h2 := nodup_le h1 (m := d.hom (P.1.getD x.toNat 0) (P.1.getD y.toNat 0)) fun v hv => by
    obtain ⟨f, hf, rfl⟩ := List.mem_map.1 hv
    obtain ⟨f0, f1, f2, f3⟩ := Cat.mem_hom.1 hf
    have t1 := h.2.1.tot f.toNat (by omega)
    obtain ⟨t2, t3, t4⟩ := h.2.1.ty.get (i := f.toNat) (by omega) t1
    rw [f2] at t3
    rw [f3] at t4
    exact Cat.mem_hom.2 ⟨t1, t2, t3, t4⟩
  rw [List.length_map] at h2
  exact h2
theorem no_roomJ (hc : c.Shape) {pre o : List Int} {y : Int} (_ : (pre ++ [y]).length ≤ o.length) (ha1 : Agr (pre ++ [y]) o) (h : pjc c d o (pre.length : Int) = false) : ∀ P, Fn c d P → Agr (pre ++ [y]) P.1 → dstB P.2 = false := by
  intro P hP hA
  cases hb : dstB P.2 with
  | false => rfl
  | true =>
    exfalso
    obtain ⟨i, hi, hbi⟩ := allB_false h
    simp only [pjB, Bool.or_eq_false_iff, decide_eq_false_iff_not, Int.not_lt] at hbi
    obtain ⟨⟨⟨h1, h2⟩, _⟩, h3⟩ := hbi
    have hf1 := mapB_get hc.frm hi
    have ht1 := mapB_get hc.tom (show i < c.to.length by have := hc.to; omega)
    have hlen : (pre ++ [y]).length = pre.length + 1 := by simp
    have hh := dst_hom hP hb (c.fr.getD i 0) (c.to.getD i 0)
    rw [hA.2 _ (by rw [hlen]; omega), hA.2 _ (by rw [hlen]; omega), ← ha1.2 _ (by rw [hlen]; omega), ← ha1.2 _ (by rw [hlen]; omega)] at hh
    simp only [Bool.not_eq_false', decide_eq_true_eq] at h3
    omega
theorem no_dup (hc : c.Shape) (hd : d.Shape) {pre : List Int} {y : Int} (hm : y ∈ pre) : ∀ P, Fn c d P → Agr (pre ++ [y]) P.1 → dstB P.2 = false := by
  intro P hP hA
  cases hb : dstB P.2 with
  | false => rfl
  | true =>
    exfalso
    obtain ⟨i, hi, he⟩ := List.getElem_of_mem hm
    have hlen : (pre ++ [y]).length = pre.length + 1 := by simp
    have hpl := hA.1
    have e1 := hA.2 i (by rw [hlen]; omega)
    have e2 := hA.2 pre.length (by rw [hlen]; omega)
    have g1 : (pre ++ [y]).getD i 0 = y := by rw [List.getD_eq_getElem?_getD, List.getElem?_append_left hi, List.getElem?_eq_getElem hi, he]; rfl
    have g2 : (pre ++ [y]).getD pre.length 0 = y := by rw [List.getD_eq_getElem?_getD, List.getElem?_append_right (Nat.le_refl _)]; simp
    have := dst_obj hc hd hP hb (x := i) (y := pre.length) (by omega) (by omega) (by rw [e1, e2, g1, g2])
    omega
end
end Go.D3
