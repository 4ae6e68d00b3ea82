/- CONTRACTS: the program's automorphisms. -/
import Derived.Test.YtclmdejmogmifaaGC
/- CONTRACTS: the search over the images of objects, for bijective functors. -/
namespace Go.D3
open Go
set_option maxRecDepth 100000
set_option maxHeartbeats 4000000

-- impl.has
def c_impl_has : C :=
  (.seq (.ops [] [⟨none, .asg 2 (.k (.bool false))⟩] [])
  (.seq (.seq (.ops [5] [⟨none, .asg 4 (.v 0)⟩,
    ⟨none, .len (.v 4)⟩,
    ⟨none, .asg 6 (.i 0)⟩] [(5, 1)])
  (.block 0 (.loop (.opq [] [⟨none, .bin .lss (.v 6) (.v 5)⟩] [] (.t 0) .skip
  (.exit 0)
  (.seq (.block 1 (.seq (.ops [] [⟨none, .idxA 1 (.v 4) (.v 6)⟩,
    ⟨none, .ld (.t 0)⟩,
    ⟨none, .asg 3 (.t 1)⟩] [])
  (.opc [] [⟨none, .mv (.v 3)⟩,
    ⟨none, .mv (.v 1)⟩,
    ⟨none, .bin .eql (.t 0) (.t 1)⟩] [] (.t 2) (.seq (.ops [] [⟨none, .asg 2 (.k (.bool true))⟩] [])
  .ret)
  .skip)))
  (.ops [] [⟨none, .bin .add (.v 6) (.i 1)⟩,
    ⟨none, .asg 6 (.t 0)⟩] []))))))
  (.seq (.ops [] [⟨none, .asg 2 (.k (.bool false))⟩] [])
  .ret)))
def tr_impl_has : List Nat := [0, 1, 4, 6, 7, 8, 9]
def rs_impl_has : List RS := [.t 2]
theorem ok_impl_has : fnOk Go.Proofs.Try.prog Go.Proofs.Try.f169 tr_impl_has c_impl_has 2 rs_impl_has = true := by decide +kernel

theorem ret_impl_has (l : List Int) (x : Int) (hm : l.length ≤ 1048576) : Ret Go.Proofs.Try.prog 169 [.v (ints l), .v (.int .i64 x)] (.bool (l.contains x)) := by
  refine ret_fn Go.Proofs.Try.func169 ok_impl_has rfl (show 2 < 500 by decide) rfl ?_; unfold c_impl_has tr_impl_has rs_impl_has; simp only [go_sem, Nat.reduceLT, Nat.reduceAdd, Nat.reduceSub, ↓reduceIte]
  refine loop_set [3] (fun (i : Nat) => [(6, .int .i64 i)]) (fun i => i ≤ l.length ∧ (l.take i).contains x = false) (fun i => l.length - i) 0 (by simp only [go_sem, Nat.reduceLT, ↓reduceIte]; rfl) ⟨Nat.zero_le _, rfl⟩ rfl ?_
  rintro i ⟨hi, hn⟩
  simp only [go_sem, Nat.reduceLT, Nat.reduceAdd, Nat.reduceSub, ↓reduceIte]
  refine ⟨fun h => ⟨h, fun h2 => ?_, fun h2 => ⟨i + 1, ⟨h, ?_⟩, by omega, by rw [wrap_lt h (by simp only [maxLen]; omega)]⟩⟩, fun h => by rw [show i = l.length by omega, List.take_length] at hn; exact hn.symm⟩
  · have h2 : l.getD i 0 = x := by simpa using h2
    rw [getD_lt h] at h2
    exact (List.contains_iff_mem.2 (h2 ▸ List.getElem_mem _)).symm
  · have h2 : l.getD i 0 ≠ x := by simpa using h2
    rw [take_snoc h 0, List.contains_append, hn, Bool.false_or]
    generalize l.getD i 0 = v at h2
    simp; exact fun e => h2 e.symm
theorem agr_take {pre o : List Int} (h : Agr pre o) (_ : pre.length ≤ o.length) : o.take pre.length = pre := by
  refine List.ext_getElem (by rw [List.length_take]; have := h.1; omega) fun i h1 h2 => ?_
  have := h.2 i h2
  rw [List.getElem_take, ← getD_lt (d := 0) (by have := h.1; omega), ← getD_lt (d := 0) h2, this]
theorem runJ_step (c d : Cat) (M : Nat) (_ : M ≤ 1000000) (hc : c.Shape) (hd : d.Shape) (_ : Cat.cost c ≤ 1048576) (_ : Cat.cost d ≤ 1048576) (pre o p : List Int) (l : List Ftr) (L : List (List Int × List Int))
    (hpre : (pre.length : Int) < c.ob) (hrg : ∀ i, i < pre.length → 0 ≤ pre.getD i 0 ∧ pre.getD i 0 < d.ob) (ho : (o.length : Int) = c.ob) (hag : Agr pre o) (hp : p.length = c.fr.length) (hl : l.length ≤ M) (hL : EnO c d pre L)
    (ih : ∀ (y : Nat) (o' p' : List Int) (l' : List Ftr) (L' : List (List Int × List Int)), (y : Int) < d.ob → (o'.length : Int) = c.ob → Agr (pre ++ [(y : Int)]) o' → p'.length = c.fr.length → l'.length ≤ M → EnO c d (pre ++ [(y : Int)]) L' →
      RetE Go.Proofs.Try.prog 135 [.adr 0 [(0, 0)], .int .i64 ((pre.length + 1 : Nat) : Int)] (gJ c d M o' p' l') (RunJ c d M (pre ++ [(y : Int)]) o' p' l' L')) :
    RetE Go.Proofs.Try.prog 135 [.adr 0 [(0, 0)], .int .i64 pre.length] (gJ c d M o p l) (RunJ c d M pre o p l L) := by
  have hfl := hc.fr
  have hdl := hd.fr
  have hob := hc.ob8
  have hci := hc.idn
  have hdi := hd.idn
  have hdo := hd.ob8
  have hd0 := hd.ob0
  refine ret_fnE .tree Go.Proofs.Try.func135 rfl ok_impl_search_run rfl ⟨by simp only [List.length_cons, List.length_nil]; decide, by simp only [List.length_cons, List.length_nil]; decide⟩ rfl ?_; unfold c_impl_search_run tr_impl_search_run rs_impl_search_run; simp only [go_sem, Nat.reduceLT, Nat.reduceAdd, Nat.reduceSub, Nat.reduceBEq, Nat.reduceLeDiff, ↓reduceIte]
  refine ⟨fun h => by omega, fun _ => ?_⟩
  refine loop_set [] (fun s : Nat × List Int × List Int × List (List Int × List Int) => [(6, .int .i64 s.1), (12, .box [.ptr c.cells, .ptr d.cells, .o (ints s.2.1), .o (ints s.2.2.1), .bool true, foundD c d M 13]), (13, .box [.o (ftrs (l ++ mkI c d s.2.2.2))])])
    (fun s => (s.1 : Int) ≤ d.ob ∧ s.2.1.length = o.length ∧ Agr pre s.2.1 ∧ s.2.2.1.length = p.length ∧ EnOP c d pre s.1 s.2.2.2 ∧ (l ++ mkI c d s.2.2.2).length ≤ M) (fun s => d.ob.toNat - s.1) (0, o, p, []) (by simp only [go_sem]; rfl)
    ⟨by simpa using hd0, rfl, hag, rfl, EnOP.zero hpre, by simpa [mkI, mkO] using hl⟩ (by simp only [mkI, mkO, List.filter_nil, List.map_nil, List.append_nil]; rfl) ?_
  rintro ⟨y, o1, p1, Li⟩ ⟨hy, ho1, hag1, hp1, hEi, hli⟩
  simp only at hy ho1 hag1 hp1 hEi hli
  simp only [go_sem, Nat.reduceLT, Nat.reduceAdd, Nat.reduceSub, Nat.reduceEqDiff, Nat.reduceBEq, Nat.reduceLeDiff, ↓reduceIte]
  refine ⟨fun hyd => ?_, fun hyd => ?_⟩
  · have hpl : pre.length < o1.length := by omega
    have htk : o1.take pre.length = pre := agr_take hag1 (by omega)
    obtain ⟨L1, hL1⟩ := EnO.exists hc hd (c.ob.toNat - pre.length - 1) (pre := pre ++ [(y : Int)]) (by simp; omega) (snoc_rng hrg hyd)
    have hE1 : EnOP c d pre (y + 1) (Li ++ L1) := hEi.step hpre hL1
    refine ⟨by omega, ?_⟩
    split
    case h_2 x hx => exact absurd rfl (hx _ _)
    rename_i z l' hz
    injection hz with hz1 hz2
    subst hz1; subst hz2
    simp only [Option.bind_some]
    refine callg_of (res := .bool (pre.contains (y : Int))) (fun _ => ret_impl_has pre y (by omega)) (by rw [← List.map_take, htk]; rfl) (fun _ => rfl) (.inl rfl) ?_
    simp only [go_sem, Nat.reduceLT, Nat.reduceAdd, Nat.reduceSub, Nat.reduceBEq, Nat.reduceLeDiff, ↓reduceIte]
    have hnx : mkI c d L1 = [] → ∀ (o2 : List Int), o2.length = o1.length → Agr pre o2 → ∃ x' : Nat × List Int × List Int × List (List Int × List Int), ((x'.1 : Int) ≤ d.ob ∧ x'.2.1.length = o.length ∧ Agr pre x'.2.1 ∧ x'.2.2.1.length = p.length ∧ EnOP c d pre x'.1 x'.2.2.2 ∧ (l ++ mkI c d x'.2.2.2).length ≤ M) ∧
        d.ob.toNat - x'.1 < d.ob.toNat - y ∧ x'.1 = y + 1 ∧ x'.2.1 = o2 ∧ x'.2.2.1 = p1 ∧ mkI c d x'.2.2.2 = mkI c d Li := fun h0 o2 h1 h2 =>
      ⟨(y + 1, o2, p1, Li ++ L1), ⟨by simp only; omega, by simp only; omega, h2, hp1, hE1, by rw [mkI_app, h0, List.append_nil]; exact hli⟩, by simp only; omega, rfl, rfl, rfl, by rw [mkI_app, h0, List.append_nil]⟩
    have hwy := wrap_lt (i := y) (n := d.ob.toNat) (by omega) (by simp only [maxLen]; omega)
    refine ⟨fun hct => ?_, fun hct => ⟨hpl, hpl, ?_⟩⟩
    · obtain ⟨x', q1, q2, q3, q4, q5, q6⟩ := hnx (mkI_no hL1 (no_dup hc hd (List.contains_iff_mem.1 hct))) o1 rfl hag1
      refine ⟨x', q1, q2, ?_⟩
      rw [q3, q4, q5, q6, hwy]; rfl
    have hag2 : Agr (pre ++ [(y : Int)]) (o1.set pre.length y) := hag1.set hpl
    have hsl : (o1.set pre.length (y : Int)).length = o1.length := List.length_set
    generalize hO2 : o1.set pre.length (y : Int) = o2 at hag2 hsl ⊢
    refine call_of (placed_one c d hc hd o2 (by omega) (ints p1) pre.length _) rfl (.inl rfl) ?_
    simp only [go_sem, Nat.reduceLT, Nat.reduceAdd, Nat.reduceSub, ↓reduceIte]
    have hw := wrap_lt hpl (by simp only [maxLen]; omega)
    refine dyn_guard (fun hr => ?_) (fun hr => ?_)
    · simp only [go_sem]
      refine e_callg [12, 13] false hr (ih y o2 p1 _ L1 hyd (by omega) hag2 (by omega) hli hL1) (by exact ⟨by decide, rfl⟩) (by repeat (first | exact trivial | refine ⟨rfl, ?_⟩)) (by refine ⟨.inl rfl, .inl ?_, trivial⟩; rw [hw]; rfl) ?_
      rintro _ _ ⟨ok, o3, p3, ho3, hag3, hp3, hok, rfl, rfl⟩
      refine ⟨(by repeat (first | exact trivial | refine ⟨(fun h => by cases h), ?_⟩)), (fun h => by cases h), rfl, ?_⟩
      simp only [go_sem, Nat.reduceLT, Nat.reduceAdd, Nat.reduceSub, Nat.reduceBEq, Nat.reduceLeDiff, ↓reduceIte]
      refine ⟨fun h2 => ?_, fun h2 => ?_⟩
      · have hno : ok = false := by rw [hr] at h2; simpa using h2
        rw [hok, decide_eq_false_iff_not] at hno
        obtain ⟨R, hR⟩ := EnOP.pre hc hd hpre hrg hE1 (by omega) hL
        have hout : (l ++ mkI c d L).take (M + 1) = (l ++ mkI c d Li ++ mkI c d L1).take (M + 1) := by
          rw [hR, mkI_app, mkI_app, ← List.append_assoc, ← List.append_assoc, take_stop hno]
        have hlen : ¬ (l ++ mkI c d L).length ≤ M := by
          rw [hR, mkI_app, mkI_app, ← List.append_assoc, ← List.append_assoc, List.length_append]; omega
        refine ⟨_, _, ⟨false, o3, p3, by omega, (agr_snoc.1 hag3).1, by omega, by rw [decide_eq_false hlen], rfl, rfl⟩, rfl, rfl, rfl, ?_, trivial⟩
        rw [hout]; rfl
      · have hok2 : ok = true := by rw [hr] at h2; simpa using h2
        rw [hok, decide_eq_true_eq] at hok2
        have hL2 : l ++ mkI c d (Li ++ L1) = (l ++ mkI c d Li ++ mkI c d L1).take (M + 1) := by rw [mkI_app, ← List.append_assoc, List.take_of_length_le (by omega)]
        refine ⟨(y + 1, o3, p3, Li ++ L1), ⟨by simp only; omega, by simp only; omega, (agr_snoc.1 hag3).1, by simp only; omega, hE1, by rw [mkI_app, ← List.append_assoc]; exact hok2⟩, by simp only; omega, by rw [hwy, ← hL2] <;> rfl⟩
    · simp only [go_sem, Nat.reduceLT, Nat.reduceAdd, Nat.reduceSub, Nat.reduceBEq, Nat.reduceLeDiff, ↓reduceIte]
      refine ⟨(fun h2 => by rw [hr] at h2; cases h2), (fun h2 => by rw [hr] at h2; cases h2), fun _ => ?_⟩
      obtain ⟨x', q1, q2, q3, q4, q5, q6⟩ := hnx (mkI_no hL1 (no_roomJ hc (by simp; omega) hag2 hr)) o2 hsl (agr_snoc.1 hag2).1
      refine ⟨x', q1, q2, ?_⟩
      rw [q3, q4, q5, q6, hwy]; rfl
  · have hyy : (y : Int) = d.ob := by omega
    have hLL : L = Li := hL.eq (EnOP.done hpre hyy hEi)
    subst hLL
    refine ⟨_, _, ⟨true, o1, p1, ho1, hag1, hp1, by simpa using hli, rfl, rfl⟩, rfl, rfl, rfl, ?_, trivial⟩
    rw [List.take_of_length_le (by omega)]; rfl

theorem runJ_one (c d : Cat) (M : Nat) (hM : M ≤ 1000000) (hc : c.Shape) (hd : d.Shape) (hcc : Cat.cost c ≤ 1048576) (hcd : Cat.cost d ≤ 1048576) : ∀ (n : Nat) (pre o p : List Int) (l : List Ftr) (L : List (List Int × List Int)),
    (pre.length : Int) + n = c.ob → (∀ i, i < pre.length → 0 ≤ pre.getD i 0 ∧ pre.getD i 0 < d.ob) → (o.length : Int) = c.ob → Agr pre o → p.length = c.fr.length → l.length ≤ M → EnO c d pre L →
    RetE Go.Proofs.Try.prog 135 [.adr 0 [(0, 0)], .int .i64 pre.length] (gJ c d M o p l) (RunJ c d M pre o p l L) := by
  intro n
  induction n with
  | zero =>
    intro pre o p l L hn hr ho ha hp hl hL
    obtain ⟨e, hF⟩ := ha.full (c := c) (d := d) (by omega) (by omega) hr
    subst e
    rw [show (pre.length : Int) = c.ob by omega]
    exact runJ_leaf c d M hM hc hd hcc hcd pre p l L hF hp hl hL
  | succ n ih =>
    intro pre o p l L hn hr ho ha hp hl hL
    refine runJ_step c d M hM hc hd hcc hcd pre o p l L (by omega) hr ho ha hp hl hL fun y o' p' l' L' hy ho' ha' hp' hl' hL' => ?_
    have := ih (pre ++ [(y : Int)]) o' p' l' L' (by simp; omega) (snoc_rng hr hy) ho' ha' hp' hl' hL'
    rwa [show (pre ++ [(y : Int)]).length = pre.length + 1 by simp] at this
end Go.D3

/- CONTRACTS: the program's automorphisms. -/
namespace Go.D3
open Go
set_option maxRecDepth 100000
set_option maxHeartbeats 4000000

theorem all_one (c d : Cat) (M : Nat) (hM : M ≤ 1000000) (hc : c.Shape) (hd : d.Shape) (hcc : Cat.cost c ≤ 1048576) (hcd : Cat.cost d ≤ 1048576) (L : List (List Int × List Int)) (hL : EnO c d [] L) :
    Ret Go.Proofs.Try.prog 91 [.v (.ptr c.cells), .v (.ptr d.cells), .v (.bool true), .v (.int .i64 M)] (.tup [ftrs ((mkI c d L).take (M + 1)), .bool (decide ((mkI c d L).length ≤ M))]) := by
  have hfl := hc.fr
  have hob := hc.ob8
  have hob0 := hc.ob0
  refine ret_fn Go.Proofs.Try.func91 ok_impl_allFunctors rfl (show 4 < 500 by decide) rfl ?_; unfold c_impl_allFunctors tr_impl_allFunctors rs_impl_allFunctors; simp only [go_sem, Nat.reduceLT, Nat.reduceAdd, Nat.reduceSub, Nat.reduceEqDiff, ↓reduceIte]
  refine g_call [9] false (searchFor_one c d M [] (by omega) (by omega) (by omega)) (by exact ⟨by decide, rfl⟩) (by repeat (first | exact trivial | refine ⟨rfl, ?_⟩)) (by repeat (first | exact trivial | refine ⟨.inl rfl, ?_⟩ | refine ⟨.inr ⟨rfl, rfl⟩, ?_⟩)) (by repeat (first | exact trivial | refine ⟨(fun h => by cases h), ?_⟩)) (fun h => by cases h) ?_
  simp only [go_sem, Nat.reduceLT, Nat.reduceAdd, Nat.reduceSub, Nat.reduceBEq, Nat.reduceLeDiff, ↓reduceIte]
  refine e_call [10, 9] false (runJ_one c d M hM hc hd hcc hcd c.ob.toNat [] (List.replicate c.ob.toNat 0) (List.replicate c.fr.length 0) [] L (by simp only [List.length_nil]; omega) (fun i hi => absurd hi (Nat.not_lt_zero _)) (by rw [List.length_replicate]; omega) ⟨Nat.zero_le _, fun i hi => absurd hi (Nat.not_lt_zero _)⟩ List.length_replicate (Nat.zero_le _) hL) (by exact ⟨by decide, rfl⟩) (by repeat (first | exact trivial | refine ⟨rfl, ?_⟩)) (by repeat (first | exact trivial | refine ⟨.inl rfl, ?_⟩ | refine ⟨.inr ⟨rfl, rfl⟩, ?_⟩)) ?_
  rintro _ _ ⟨ok, o', p', ho', _, hp', hok, rfl, rfl⟩
  refine ⟨(by repeat (first | exact trivial | refine ⟨(fun h => by cases h), ?_⟩)), (fun h => by cases h), ?_⟩
  simp only [go_sem, Nat.reduceLT, Nat.reduceAdd, Nat.reduceSub, Nat.reduceBEq, Nat.reduceLeDiff, ↓reduceIte]
  rw [hok]; rfl

-- impl.searchable
def c_impl_searchable : C :=
  (.seq (.ops [] [⟨none, .asg 2 (.k (.bool false))⟩] [])
  (.seq (.ops [] [⟨none, .mv (.v 0)⟩,
    ⟨none, .call 111 [(.t 0)]⟩,
    ⟨none, .bin .leq (.t 1) (.i 16)⟩,
    ⟨none, .mv (.t 2)⟩,
    ⟨some (3, true), .mv (.v 1)⟩,
    ⟨some (3, true), .call 111 [(.t 4)]⟩,
    ⟨some (3, true), .bin .leq (.t 5) (.i 16)⟩,
    ⟨none, .pick (.t 3) (.t 6) (.k (.bool false))⟩,
    ⟨none, .asg 2 (.t 7)⟩] [])
  .ret))
def tr_impl_searchable : List Nat := [0, 1, 4]
def rs_impl_searchable : List RS := [.t 2]
theorem ok_impl_searchable : fnOk Go.Proofs.Try.prog Go.Proofs.Try.f138 tr_impl_searchable c_impl_searchable 2 rs_impl_searchable = true := by decide +kernel

theorem ret_impl_searchable (c d : Cat) : Ret Go.Proofs.Try.prog 138 [.v (.ptr c.cells), .v (.ptr d.cells)] (.bool (decide ((c.fr.length : Int) ≤ 16) && decide ((d.fr.length : Int) ≤ 16))) := by
  refine ret_fn Go.Proofs.Try.func138 ok_impl_searchable rfl (show 2 < 500 by decide) rfl ?_; unfold c_impl_searchable tr_impl_searchable rs_impl_searchable; simp only [go_sem, Nat.reduceLT, Nat.reduceAdd, Nat.reduceSub, ↓reduceIte]
  refine call_of (ret_impl_Category_arrows c) rfl (.inl rfl) ?_
  simp only [go_sem, Nat.reduceLT, Nat.reduceAdd, Nat.reduceSub, ↓reduceIte]
  refine callg_of (fun _ => ret_impl_Category_arrows d) rfl (fun h => h) (.inl rfl) ?_
  simp only [go_sem, Nat.reduceLT, Nat.reduceAdd, Nat.reduceSub, ↓reduceIte]

-- impl.isomorphisms
def c_impl_isomorphisms : C :=
  (.seq (.ops [] [⟨none, .asg 3 (.k (.nils (.agg [.int .i64 0, ints [], ints [], ints [], intss [], .int .i64 0, ints [], ints [], ints [], intss [], ints [], ints []])))⟩,
    ⟨none, .asg 4 (.k (.bool false))⟩] [])
  (.seq (.opc [] [⟨none, .mv (.v 0)⟩,
    ⟨none, .nck (.t 0)⟩,
    ⟨none, .fA 0 (.t 1)⟩,
    ⟨none, .ld (.t 2)⟩,
    ⟨none, .mv (.v 1)⟩,
    ⟨none, .nck (.t 4)⟩,
    ⟨none, .fA 0 (.t 5)⟩,
    ⟨none, .ld (.t 6)⟩,
    ⟨none, .bin .neq (.t 3) (.t 7)⟩,
    ⟨none, .mv (.t 8)⟩,
    ⟨some (9, false), .mv (.v 0)⟩,
    ⟨some (9, false), .call 111 [(.t 10)]⟩,
    ⟨some (9, false), .mv (.v 1)⟩,
    ⟨some (9, false), .call 111 [(.t 12)]⟩,
    ⟨some (9, false), .bin .neq (.t 11) (.t 13)⟩,
    ⟨none, .pick (.t 9) (.k (.bool true)) (.t 14)⟩] [] (.t 15) (.seq (.ops [] [⟨none, .asg 3 (.k (.nils (.agg [.int .i64 0, ints [], ints [], ints [], intss [], .int .i64 0, ints [], ints [], ints [], intss [], ints [], ints []])))⟩,
    ⟨none, .asg 4 (.k (.bool true))⟩] [])
  .ret)
  .skip)
  (.seq (.ops [] [⟨none, .mv (.v 0)⟩,
    ⟨none, .mv (.v 1)⟩,
    ⟨none, .mv (.v 2)⟩,
    ⟨none, .call 91 [(.t 0), (.t 1), (.k (.bool true)), (.t 2)]⟩,
    ⟨none, .ext 0 (.t 3)⟩,
    ⟨none, .ext 1 (.t 3)⟩,
    ⟨none, .asg 3 (.t 4)⟩,
    ⟨none, .asg 4 (.t 5)⟩] [])
  .ret)))
def tr_impl_isomorphisms : List Nat := [0, 1, 2, 6, 7]
def rs_impl_isomorphisms : List RS := [.t 3, .t 4]
theorem ok_impl_isomorphisms : fnOk Go.Proofs.Try.prog Go.Proofs.Try.f139 tr_impl_isomorphisms c_impl_isomorphisms 3 rs_impl_isomorphisms = true := by decide +kernel

theorem ret_isoms (c : Cat) (M : Nat) (hM : M ≤ 1000000) (hc : c.Shape) (hcc : Cat.cost c ≤ 1048576) (L : List (List Int × List Int)) (hL : EnO c c [] L) :
    Ret Go.Proofs.Try.prog 139 [.v (.ptr c.cells), .v (.ptr c.cells), .v (.int .i64 M)] (.tup [ftrs ((mkI c c L).take (M + 1)), .bool (decide ((mkI c c L).length ≤ M))]) := by
  refine ret_fn Go.Proofs.Try.func139 ok_impl_isomorphisms rfl (show 3 < 500 by decide) rfl ?_; unfold c_impl_isomorphisms tr_impl_isomorphisms rs_impl_isomorphisms; simp only [go_sem, Nat.reduceLT, Nat.reduceAdd, Nat.reduceSub, ↓reduceIte]
  rw [show (c.ob != c.ob) = false by simp]
  simp only [Bool.not_false]
  refine callg_of (fun _ => ret_impl_Category_arrows c) rfl (fun _ => rfl) (.inl rfl) ?_
  simp only [go_sem, Nat.reduceLT, Nat.reduceAdd, Nat.reduceSub, ↓reduceIte]
  refine callg_of (fun _ => ret_impl_Category_arrows c) rfl (fun _ => rfl) (.inl rfl) ?_
  simp only [go_sem, Nat.reduceLT, Nat.reduceAdd, Nat.reduceSub, ↓reduceIte]
  rw [show ((c.fr.length : Int) != c.fr.length) = false by simp]
  simp only [go_sem]
  refine call_of (all_one c c M hM hc hc hcc hcc L hL) rfl (.inl (by simp only [D.novw, novwL, nv_lst nv_Ftr, Bool.and_true])) ?_
  simp only [go_sem, Nat.reduceLT, Nat.reduceAdd, Nat.reduceSub, Nat.reduceBEq, Nat.reduceLeDiff, ↓reduceIte]

/-- What both sides answer: the automorphisms, and a code. -/
def autL (c : Cat) (L : List (List Int × List Int)) : List Ftr × Int := if c.isB = false then ([], 1) else if ¬ (c.fr.length : Int) ≤ 16 then ([], 3) else if (mkI c c L).length ≤ 200 then (mkI c c L, 0) else ([], 3)
-- impl.isoCode
def c_impl_isoCode : C :=
  (.seq (.ops [] [⟨none, .asg 2 (.k (.nils (.agg [.int .i64 0, ints [], ints [], ints [], intss [], .int .i64 0, ints [], ints [], ints [], intss [], ints [], ints []])))⟩,
    ⟨none, .asg 3 (.i 0)⟩] [])
  (.seq (.opc [] [⟨none, .mv (.v 0)⟩,
    ⟨none, .mv (.v 1)⟩,
    ⟨none, .bldS (.nilp) 2 [(0, (.t 0)), (1, (.t 1))]⟩,
    ⟨none, .call 89 [(.t 2)]⟩,
    ⟨none, .not (.t 3)⟩] [] (.t 4) (.seq (.ops [] [⟨none, .asg 2 (.k (.nils (.agg [.int .i64 0, ints [], ints [], ints [], intss [], .int .i64 0, ints [], ints [], ints [], intss [], ints [], ints []])))⟩,
    ⟨none, .asg 3 (.i 1)⟩] [])
  .ret)
  .skip)
  (.seq (.opc [] [⟨none, .mv (.v 0)⟩,
    ⟨none, .mv (.v 1)⟩,
    ⟨none, .call 138 [(.t 0), (.t 1)]⟩,
    ⟨none, .not (.t 2)⟩] [] (.t 3) (.seq (.ops [] [⟨none, .asg 2 (.k (.nils (.agg [.int .i64 0, ints [], ints [], ints [], intss [], .int .i64 0, ints [], ints [], ints [], intss [], ints [], ints []])))⟩,
    ⟨none, .asg 3 (.i 3)⟩] [])
  .ret)
  .skip)
  (.seq (.ops [] [⟨none, .mv (.v 0)⟩,
    ⟨none, .mv (.v 1)⟩,
    ⟨none, .call 139 [(.t 0), (.t 1), (.i 200)]⟩,
    ⟨none, .mv (.t 2)⟩,
    ⟨none, .ext 0 (.t 3)⟩,
    ⟨none, .ext 1 (.t 3)⟩,
    ⟨none, .asg 4 (.t 4)⟩,
    ⟨none, .asg 5 (.t 5)⟩] [])
  (.seq (.opc [] [⟨none, .mv (.v 5)⟩,
    ⟨none, .not (.t 0)⟩] [] (.t 1) (.seq (.ops [] [⟨none, .asg 2 (.k (.nils (.agg [.int .i64 0, ints [], ints [], ints [], intss [], .int .i64 0, ints [], ints [], ints [], intss [], ints [], ints []])))⟩,
    ⟨none, .asg 3 (.i 3)⟩] [])
  .ret)
  .skip)
  (.seq (.ops [] [⟨none, .mv (.v 4)⟩,
    ⟨none, .asg 2 (.t 0)⟩,
    ⟨none, .asg 3 (.i 0)⟩] [])
  .ret))))))
def tr_impl_isoCode : List Nat := [0, 1, 4, 5, 6, 7]
def rs_impl_isoCode : List RS := [.t 2, .t 3]
theorem ok_impl_isoCode : fnOk Go.Proofs.Try.prog Go.Proofs.Try.f94 tr_impl_isoCode c_impl_isoCode 2 rs_impl_isoCode = true := by decide +kernel

theorem ret_impl_isoCode (c : Cat) (hcc : Cat.cost c ≤ 1048576) (L : List (List Int × List Int)) (hL : c.Shape → EnO c c [] L) :
    Ret Go.Proofs.Try.prog 94 [.v (.ptr c.cells), .v (.ptr c.cells)] (allD (autL c L)) := by
  refine ret_fn Go.Proofs.Try.func94 ok_impl_isoCode rfl (show 2 < 500 by decide) rfl ?_; unfold c_impl_isoCode tr_impl_isoCode rs_impl_isoCode; simp only [go_sem, Nat.reduceLT, Nat.reduceAdd, Nat.reduceSub, ↓reduceIte]
  refine call_of (ret_impl_areCategories c c) rfl (.inl rfl) ?_
  simp only [go_sem, Nat.reduceLT, Nat.reduceAdd, Nat.reduceSub, ↓reduceIte]
  refine ⟨fun h => ?_, fun h => ?_⟩
  · simp only [Bool.not_eq_true'] at h
    unfold autL; rw [if_pos h]
  simp only [Bool.not_eq_false'] at h
  have hc := isB_shape h
  refine call_of (ret_impl_searchable c c) rfl (.inl rfl) ?_
  simp only [go_sem, Nat.reduceLT, Nat.reduceAdd, Nat.reduceSub, ↓reduceIte]
  refine ⟨fun h2 => ?_, fun h2 => ?_⟩
  · simp only [Bool.not_eq_true', decide_eq_false_iff_not] at h2
    unfold autL; rw [h, if_neg (by simp), if_pos h2]
  simp only [Bool.not_eq_false', decide_eq_true_eq] at h2
  refine call_of (ret_isoms c 200 (by decide) hc hcc L (hL hc)) rfl (.inl (by simp only [D.novw, novwL, nv_lst nv_Ftr, Bool.and_true])) ?_
  simp only [go_sem, Nat.reduceLT, Nat.reduceAdd, Nat.reduceSub, Nat.reduceBEq, Nat.reduceLeDiff, ↓reduceIte]
  refine ⟨fun h3 => ?_, fun h3 => ?_⟩
  · simp only [Bool.not_eq_true', decide_eq_false_iff_not] at h3
    unfold autL; rw [h, if_neg (by simp), if_neg (by simpa using h2), if_neg h3]
  · simp only [Bool.not_eq_false', decide_eq_true_eq] at h3
    unfold autL; rw [h, if_neg (by simp), if_neg (by simpa using h2), if_pos h3, List.take_of_length_le (by omega)]
-- impl.CountAutomorphisms
def c_impl_CountAutomorphisms : C :=
  (.seq (.ops [3] [⟨none, .boxv 5 (.v 0)⟩,
    ⟨none, .asg 1 (.i 0)⟩,
    ⟨none, .asg 2 (.i 0)⟩] [(3, 0)])
  (.seq (.ops [] [⟨none, .call 94 [(.v 3), (.v 3)]⟩,
    ⟨none, .mv (.t 0)⟩,
    ⟨none, .ext 0 (.t 1)⟩,
    ⟨none, .ext 1 (.t 1)⟩,
    ⟨none, .asg 4 (.t 2)⟩,
    ⟨none, .asg 5 (.t 3)⟩] [])
  (.seq (.ops [] [⟨none, .mv (.v 4)⟩,
    ⟨none, .len (.t 0)⟩,
    ⟨none, .mv (.v 5)⟩,
    ⟨none, .asg 1 (.t 1)⟩,
    ⟨none, .asg 2 (.t 2)⟩] [])
  .ret)))
def tr_impl_CountAutomorphisms : List Nat := [0, 2, 3, 1, 4, 5]
def rs_impl_CountAutomorphisms : List RS := [.t 1, .t 2]
theorem ok_impl_CountAutomorphisms : fnOk Go.Proofs.Try.prog Go.Proofs.Try.f48 tr_impl_CountAutomorphisms c_impl_CountAutomorphisms 1 rs_impl_CountAutomorphisms = true := by decide +kernel

theorem ret_impl_CountAutomorphisms (c : Cat) (hcc : Cat.cost c ≤ 1048576) (L : List (List Int × List Int)) (hL : c.Shape → EnO c c [] L) :
    Ret Go.Proofs.Try.prog 48 [.v c.d] (.tup [.int .i64 (autL c L).1.length, .int .i64 (autL c L).2]) := by
  refine ret_fn Go.Proofs.Try.func48 ok_impl_CountAutomorphisms rfl (show 1 < 500 by decide) rfl ?_; unfold c_impl_CountAutomorphisms tr_impl_CountAutomorphisms rs_impl_CountAutomorphisms; simp only [go_sem, Nat.reduceLT, Nat.reduceAdd, Nat.reduceSub, ↓reduceIte]
  refine call_of (ret_impl_isoCode c hcc L hL) rfl (.inl (by simp only [D.novw, novwL, nv_lst nv_Ftr, Bool.and_true])) ?_
  simp only [go_sem, Nat.reduceLT, Nat.reduceAdd, Nat.reduceSub, Nat.reduceBEq, Nat.reduceLeDiff, ↓reduceIte]
end Go.D3
