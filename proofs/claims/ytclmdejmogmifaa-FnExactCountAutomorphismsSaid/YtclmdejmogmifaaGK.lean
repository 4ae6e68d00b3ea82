/- CONTRACTS: the reference's search for the images of objects. -/
import Derived.Test.YtclmdejmogmifaaKit
import Derived.Test.YtclmdejmogmifaaGJ
import Derived.Test.YtclmdejmogmifaaGE
/- WHAT IS LEFT WHEN SIZES OF ARGUMENTS HAVE BEEN TAKEN OFF; calls with pointers to the first part of a struct. -/
namespace Go.D3
open Go
theorem sb_ok {left : Int} {n : Nat} (h0 : 0 ≤ left) (h1 : left ≤ 1048576) (h : 0 ≤ sb left n) : n ≤ 1048576 ∧ 0 ≤ sb left n ∧ sb left n ≤ 1048576 := by
  unfold sb at h ⊢
  split at h
  · rename_i hh; rw [if_pos hh]; omega
  · omega

theorem lst_cellv {α : Type} {f : α → D} {d : α} {l : List α} {k : Nat} {p : Path} : cellv k p (lst f d l) = lst f d l := rfl
theorem lst_setKid {α : Type} {f : α → D} {d : α} {l : List α} {i o : Nat} {y : D} : (lst f d l).setKid i o y = .slice (f d) ((l.map f).set i (setc (f (l.getD i d)) o y)) := lst_setKidT
attribute [go_sem] lst_cellv lst_setKid
theorem lst_takeL {α : Type} {f : α → D} {d : α} {l : List α} {dn r : List D} {K : List D → St → Prop} {st : St} : takeL dn (lst f d l :: r) K st = takeL (dn ++ [lst f d l]) r K st := by
  have : takeL dn (lst f d l :: r) K st = ((lst f d l).pc = true ∧ takeL (dn ++ [lst f d l]) r K st) := rfl
  rw [this, lst_pc]; simp
attribute [go_sem ↓] lst_takeL

/-- A pointer to more cells is one to the first of them. -/
def wk1 (a d : D) : Prop := a = d ∨ ∃ n l, d = .ptr l ∧ a = .ptr (l.take n)
def wkL : List D → List D → Prop
  | [], [] => True
  | a :: xs, d :: ds => wk1 a d ∧ wkL xs ds
  | _, _ => False
theorem Rd.wk {w : World} {A : Nat → Prop} {v : Value} {a d : D} (h : Rd w A v d) (hw : wk1 a d) : Rd w A v a := by
  rcases hw with rfl | ⟨n, l, rfl, rfl⟩
  · exact h
  · cases h with
    | ptr hA vs hc hr =>
      have key : ∀ (j : Nat) (x : D), (l.take n)[j]? = some x → l[j]? = some x := fun j x hx => by
        rw [List.getElem?_take] at hx
        split at hx
        · exact hx
        · cases hx
      exact .ptr hA vs (fun j x hx => hc j x (key j x hx)) fun j x hx => hr j x (key j x hx)
theorem wkL_len : ∀ {xs ds : List D}, wkL xs ds → xs.length = ds.length
  | [], [], _ => rfl
  | _ :: _, _ :: _, h => by simp only [List.length_cons, wkL_len h.2]
  | [], _ :: _, h => h.elim
  | _ :: _, [], h => h.elim
theorem wkL_get : ∀ {xs ds : List D}, wkL xs ds → ∀ {j : Nat} {a : D}, xs[j]? = some a → ∃ d, ds[j]? = some d ∧ wk1 a d
  | [], _, _, j, a, hj => by simp at hj
  | x :: r, y :: s, h, 0, a, hj => by
    simp only [List.getElem?_cons_zero, Option.some.injEq] at hj
    exact ⟨y, rfl, hj ▸ h.1⟩
  | x :: r, y :: s, h, j + 1, a, hj => by
    simp only [List.getElem?_cons_succ] at hj ⊢
    exact wkL_get h.2 hj
  | _ :: _, [], h, _, _, _ => h.elim
theorem ret_wk {P : Program} {f : FuncId} {xs ds : List D} {res : D} (h : Ret P f (xs.map .v) res) (hw : wkL xs ds) : Ret P f (ds.map .v) res := by
  intro w A vs Fs h1 h2 h3 h4 h5
  have hl := wkL_len hw
  refine (h w A vs Fs h1 (by rw [h2]; simp [hl]) (fun j a hj => ?_) h4 fun j b hb => ⟨(h5 j b hb).1, (h5 j b hb).2.1, by simpa [hl] using (h5 j b hb).2.2⟩).mono ?_
  · rw [List.getElem?_map, Option.map_eq_some_iff] at hj
    obtain ⟨x, hx, rfl⟩ := hj
    obtain ⟨d, hd, hwd⟩ := wkL_get hw hx
    have := h3 j (.v d) (by rw [List.getElem?_map, hd]; rfl)
    exact ⟨this.1.wk hwd, this.2⟩
  · rintro e w' ⟨v, F, Fs', e1, e2, e3, e4, e5, e6, e7⟩
    refine ⟨v, F, Fs', e1, e2, e3, fun j a hj => ?_, e5, fun j b hb => ⟨(e6 j b hb).1, (e6 j b hb).2.1, by simpa [hl] using (e6 j b hb).2.2⟩, e7⟩
    rw [List.getElem?_map, Option.map_eq_some_iff] at hj
    obtain ⟨d, hd, rfl⟩ := hj
    have hj2 : j < xs.length := by rw [hl]; exact (List.getElem?_eq_some_iff.1 hd).1
    exact e4 j (.v xs[j]) (by rw [List.getElem?_map, List.getElem?_eq_getElem hj2]; rfl)
theorem map_v_inj {xs bs : List D} (h : xs.map Arg.v = bs.map Arg.v) : xs = bs := by
  induction xs generalizing bs with
  | nil => cases bs with
    | nil => rfl
    | cons _ _ => cases h
  | cons a r ih => cases bs with
    | nil => cases h
    | cons b s => simp only [List.map_cons, List.cons.injEq, Arg.v.injEq] at h; rw [h.1, ih h.2]
/-- A call whose contract speaks of fewer cells behind its pointers. -/
theorem call_wk {P : Program} {f : FuncId} {pl : Prop} {K : St → Prop} {st : St} {xs : List Arg} {bs ds : List D} {res : D} (hR : Ret P f xs res) (ha : xs = bs.map .v) (hw : wkL bs ds) (hn : res.novw = true ∨ pl) (hK : K (st.push (contOf res))) : @callVC P f (some ds) true pl none ⟨K⟩ st :=
  call_of (ret_wk (ha ▸ hR) hw) rfl hn hK
theorem callg_wk {P : Program} {f : FuncId} {gt : Bool} {pl : Prop} {K : St → Prop} {st : St} {xs : List Arg} {bs ds : List D} {res : D} {b : Bool} (hR : b = true → Ret P f xs res) (ha : xs = bs.map .v) (hw : wkL bs ds) (hgt : b = true → gt = true) (hn : res.novw = true ∨ pl) (hK : K (st.push (.when b res))) :
    @callVC P f (some ds) gt pl (some b) ⟨K⟩ st := callg_of (fun h => ret_wk (ha ▸ hR h) hw) rfl hgt hn hK
end Go.D3

/- CONTRACT: the reference's search for the images of arrows. -/
namespace Go.D3
open Go
set_option maxRecDepth 100000
set_option maxHeartbeats 4000000

/-- The reference's state. -/
abbrev tS (c : Cat) (col : List Int) (l : List Ftr) : D := .box [.int .i64 c.ob, ints c.fr, ints c.to, ints c.idn, intss c.co, .int .i64 c.ob, ints c.fr, ints c.to, ints c.idn, intss c.co, .o (ints col), .o (ints col), .int .i64 201, .o (ftrs l)]
-- spec.l10Arrows
def c_spec_l10Arrows : C :=
  (.seq (.ops [] [⟨none, .asg 3 (.i 0)⟩] [])
  (.seq (.block 0 (.loop (.seq (.opc [] [⟨none, .mv (.v 3)⟩,
    ⟨none, .mv (.v 2)⟩,
    ⟨none, .len (.t 1)⟩,
    ⟨none, .bin .lss (.t 0) (.t 2)⟩,
    ⟨none, .mv (.t 3)⟩,
    ⟨some (4, true), .mv (.v 2)⟩,
    ⟨some (4, true), .mv (.v 3)⟩,
    ⟨some (4, true), .idxA 1 (.t 5) (.t 6)⟩,
    ⟨some (4, true), .ld (.t 7)⟩,
    ⟨some (4, true), .bin .geq (.t 8) (.i 0)⟩,
    ⟨none, .pick (.t 4) (.t 9) (.k (.bool false))⟩] [] (.t 10) .skip
  (.exit 0))
  (.block 1 (.ops [] [⟨none, .mv (.v 3)⟩,
    ⟨none, .bin .add (.t 0) (.i 1)⟩,
    ⟨none, .asg 3 (.t 1)⟩] [])))))
  (.seq (.opc [] [⟨none, .mv (.v 3)⟩,
    ⟨none, .mv (.v 2)⟩,
    ⟨none, .len (.t 1)⟩,
    ⟨none, .bin .eql (.t 0) (.t 2)⟩] [] (.t 3) (.seq (.ops [] [⟨none, .mv (.v 0)⟩,
    ⟨none, .mv (.v 0)⟩,
    ⟨none, .nck (.t 1)⟩,
    ⟨none, .fA 13 (.t 2)⟩,
    ⟨none, .mv (.v 0)⟩,
    ⟨none, .nck (.t 4)⟩,
    ⟨none, .fA 0 (.t 5)⟩,
    ⟨none, .mv (.v 0)⟩,
    ⟨none, .nck (.t 7)⟩,
    ⟨none, .fA 5 (.t 8)⟩,
    ⟨none, .mv (.v 1)⟩,
    ⟨none, .mv (.v 2)⟩,
    ⟨none, .ld (.t 3)⟩,
    ⟨none, .lda 5 (.t 6)⟩,
    ⟨none, .lda 5 (.t 9)⟩,
    ⟨none, .call 106 [(.t 13), (.t 14), (.t 10), (.t 11)]⟩,
    ⟨none, .bldS (.agg [.int .i64 0, ints [], ints [], ints [], intss [], .int .i64 0, ints [], ints [], ints [], intss [], ints [], ints []]) 1 [(0, (.t 15))]⟩,
    ⟨none, .app 12 256 (.t 12) (.t 16)⟩,
    ⟨none, .nck (.t 0)⟩,
    ⟨none, .fA 13 (.t 18)⟩,
    ⟨none, .st (.t 19) (.t 17)⟩] [])
  .ret)
  .skip)
  (.seq (.ops [] [⟨none, .mv (.v 0)⟩,
    ⟨none, .nck (.t 0)⟩,
    ⟨none, .fA 5 (.t 1)⟩,
    ⟨none, .lda 5 (.t 2)⟩,
    ⟨none, .mv (.v 1)⟩,
    ⟨none, .mv (.v 0)⟩,
    ⟨none, .nck (.t 5)⟩,
    ⟨none, .fA 0 (.t 6)⟩,
    ⟨none, .fA 1 (.t 7)⟩,
    ⟨none, .ld (.t 8)⟩,
    ⟨none, .mv (.v 3)⟩,
    ⟨none, .idxA 1 (.t 9) (.t 10)⟩,
    ⟨none, .ld (.t 11)⟩,
    ⟨none, .idxA 1 (.t 4) (.t 12)⟩,
    ⟨none, .ld (.t 13)⟩,
    ⟨none, .mv (.v 1)⟩,
    ⟨none, .mv (.v 0)⟩,
    ⟨none, .nck (.t 16)⟩,
    ⟨none, .fA 0 (.t 17)⟩,
    ⟨none, .fA 2 (.t 18)⟩,
    ⟨none, .ld (.t 19)⟩,
    ⟨none, .mv (.v 3)⟩,
    ⟨none, .idxA 1 (.t 20) (.t 21)⟩,
    ⟨none, .ld (.t 22)⟩,
    ⟨none, .idxA 1 (.t 15) (.t 23)⟩,
    ⟨none, .ld (.t 24)⟩,
    ⟨none, .call 74 [(.t 3), (.t 14), (.t 25)]⟩,
    ⟨none, .asg 4 (.t 26)⟩] [])
  (.seq (.ops [] [⟨none, .asg 5 (.i 0)⟩] [])
  (.block 2 (.loop (.seq (.opc [] [⟨none, .mv (.v 5)⟩,
    ⟨none, .mv (.v 4)⟩,
    ⟨none, .len (.t 1)⟩,
    ⟨none, .bin .lss (.t 0) (.t 2)⟩,
    ⟨none, .mv (.t 3)⟩,
    ⟨some (4, true), .mv (.v 0)⟩,
    ⟨some (4, true), .nck (.t 5)⟩,
    ⟨some (4, true), .fA 13 (.t 6)⟩,
    ⟨some (4, true), .ld (.t 7)⟩,
    ⟨some (4, true), .len (.t 8)⟩,
    ⟨some (4, true), .mv (.v 0)⟩,
    ⟨some (4, true), .nck (.t 10)⟩,
    ⟨some (4, true), .fA 12 (.t 11)⟩,
    ⟨some (4, true), .ld (.t 12)⟩,
    ⟨some (4, true), .bin .lss (.t 9) (.t 13)⟩,
    ⟨none, .pick (.t 4) (.t 14) (.k (.bool false))⟩] [] (.t 15) .skip
  (.exit 2))
  (.seq (.block 3 (.seq (.opc [] [⟨none, .mv (.v 2)⟩,
    ⟨none, .mv (.v 4)⟩,
    ⟨none, .mv (.v 5)⟩,
    ⟨none, .idxA 1 (.t 1) (.t 2)⟩,
    ⟨none, .ld (.t 3)⟩,
    ⟨none, .call 181 [(.t 0), (.t 4)]⟩,
    ⟨none, .mv (.t 5)⟩,
    ⟨some (6, false), .mv (.v 0)⟩,
    ⟨some (6, false), .nck (.t 7)⟩,
    ⟨some (6, false), .fA 10 (.t 8)⟩,
    ⟨some (6, false), .ld (.t 9)⟩,
    ⟨some (6, false), .mv (.v 3)⟩,
    ⟨some (6, false), .idxA 1 (.t 10) (.t 11)⟩,
    ⟨some (6, false), .ld (.t 12)⟩,
    ⟨some (6, false), .mv (.v 0)⟩,
    ⟨some (6, false), .nck (.t 14)⟩,
    ⟨some (6, false), .fA 11 (.t 15)⟩,
    ⟨some (6, false), .ld (.t 16)⟩,
    ⟨some (6, false), .mv (.v 4)⟩,
    ⟨some (6, false), .mv (.v 5)⟩,
    ⟨some (6, false), .idxA 1 (.t 18) (.t 19)⟩,
    ⟨some (6, false), .ld (.t 20)⟩,
    ⟨some (6, false), .idxA 1 (.t 17) (.t 21)⟩,
    ⟨some (6, false), .ld (.t 22)⟩,
    ⟨some (6, false), .bin .neq (.t 13) (.t 23)⟩,
    ⟨none, .pick (.t 6) (.k (.bool true)) (.t 24)⟩] [] (.t 25) (.exit 3)
  .skip)
  (.seq (.ops [] [⟨none, .mv (.v 2)⟩,
    ⟨none, .call 154 [(.t 0)]⟩,
    ⟨none, .asg 6 (.t 1)⟩] [])
  (.seq (.ops [] [⟨none, .mv (.v 6)⟩,
    ⟨none, .mv (.v 3)⟩,
    ⟨none, .mv (.v 4)⟩,
    ⟨none, .mv (.v 5)⟩,
    ⟨none, .idxA 1 (.t 2) (.t 3)⟩,
    ⟨none, .ld (.t 4)⟩,
    ⟨none, .idxA 1 (.t 0) (.t 1)⟩,
    ⟨none, .st (.t 6) (.t 5)⟩] [])
  (.opc [] [⟨none, .mv (.v 0)⟩,
    ⟨none, .mv (.v 6)⟩,
    ⟨none, .mv (.v 3)⟩,
    ⟨none, .call 198 [(.t 0), (.t 1), (.t 2)]⟩] [] (.t 3) (.ops [] [⟨none, .mv (.v 0)⟩,
    ⟨none, .mv (.v 1)⟩,
    ⟨none, .mv (.v 6)⟩,
    ⟨none, .dyn (.k (.fn 189 [])) [(.t 0), (.t 1), (.t 2)]⟩] [])
  .skip)))))
  (.ops [] [⟨none, .mv (.v 5)⟩,
    ⟨none, .bin .add (.t 0) (.i 1)⟩,
    ⟨none, .asg 5 (.t 1)⟩] []))))))))))
def tr_spec_l10Arrows : List Nat := [0, 1, 2, 6, 7, 8, 9]
def rs_spec_l10Arrows : List RS := []
theorem ok_spec_l10Arrows : fnOk Go.Proofs.Try.prog Go.Proofs.Try.f189 tr_spec_l10Arrows c_spec_l10Arrows 3 rs_spec_l10Arrows = true := by decide +kernel

theorem arrowsJ_leaf (c : Cat) (hc : c.Shape) (hcc : Cat.cost c ≤ 1048576) (o : List Int) (ho : (o.length : Int) = c.ob) (p : List Int) (l : List Ftr) (L : List (List Int))
    (hp : Typed c c o p) (hw : WellF c p) (hb : dstB p = true) (hl : l.length ≤ 200) (hL : En c c o p L) (ht : ∀ i, i < p.length → 0 ≤ p.getD i 0) :
    RetE Go.Proofs.Try.prog 189 [.adr 0 [(0, 0)], .sub 1 [], .sub 2 []] [tS c (finC c) l, .o (ints o), .o (ints p)] (fun rc gs' => rc = .o (.tup []) ∧ gs' = [tS c (finC c) ((l ++ mkJ c c o L).take 201), .o (ints o), .o (ints p)]) := by
  have hcl := hc.fr
  have hpl := hp.len
  have hob := hc.ob8
  refine ret_fnE .tree Go.Proofs.Try.func189 rfl ok_spec_l10Arrows rfl ⟨by simp only [List.length_cons, List.length_nil]; decide, by simp only [List.length_cons, List.length_nil]; decide⟩ rfl ?_; unfold c_spec_l10Arrows tr_spec_l10Arrows rs_spec_l10Arrows; simp only [go_sem, Nat.reduceLT, Nat.reduceAdd, Nat.reduceBEq, Nat.reduceLeDiff, ↓reduceIte]
  refine loop_set [] (fun (i : Nat) => [(3, .int .i64 i)]) (fun i => i ≤ p.length) (fun i => p.length - i) 0 (by simp only [go_sem]; rfl) (Nat.zero_le _) rfl ?_
  rintro i hi
  simp only [go_sem, Nat.reduceLT, Nat.reduceAdd, Nat.reduceSub, Nat.reduceBEq, Nat.reduceLeDiff, ↓reduceIte]
  refine ⟨fun h => ?_, fun h => ⟨fun _ => ?_, fun h2 => ?_⟩⟩
  · simp only [Bool.and_eq_true, decide_eq_true_eq] at h
    exact ⟨i + 1, by omega, by omega, by rw [wrap_lt h.1 (by simp only [maxLen]; omega)]⟩
  · refine call_of (ret_spec_l06Make c c o p hcc hcc (by omega) (by omega)) rfl (.inl (nv_Ftr _)) ?_
    simp only [go_sem, Nat.reduceLT, Nat.reduceAdd, Nat.reduceSub, Nat.reduceEqDiff, Nat.reduceBEq, Nat.reduceLeDiff, ↓reduceIte]
    refine ⟨by omega, _, _, ⟨rfl, rfl⟩, rfl, rfl, ?_⟩
    rw [hL.one hp (well_fit hw hpl hc ht) (fun i hi => ht i (by omega)), mkJ_one hb, List.take_of_length_le (by simp; omega)]
    exact ⟨rfl, rfl, rfl, trivial⟩
  · have hip : i = p.length := by
      by_cases hlt : i < p.length
      · rw [decide_eq_true hlt, decide_eq_true (ht i hlt)] at h; cases h
      · omega
    rw [hip] at h2; simp at h2

theorem arrowsJ_step (c : Cat) (hc : c.Shape) (_ : Cat.cost c ≤ 1048576) (o : List Int) (ho : (o.length : Int) = c.ob) (p : List Int) (l : List Ftr) (L : List (List Int))
    (hp : Typed c c o p) (hF : ∀ F, Comp c c o p F → Fn c c (o, F)) (hw : WellF c p) (hb : dstB p = true) (hl : l.length ≤ 200) (hL : En c c o p L) (a : Nat) (ha : Fst p a)
    (ih : ∀ (p' : List Int) (l' : List Ftr) (L' : List (List Int)), unk p' < unk p → Typed c c o p' → (∀ F, Comp c c o p' F → Fn c c (o, F)) → WellF c p' → dstB p' = true → l'.length ≤ 200 → En c c o p' L' →
      RetE Go.Proofs.Try.prog 189 [.adr 0 [(0, 0)], .sub 1 [], .sub 2 []] [tS c (finC c) l', .o (ints o), .o (ints p')] (fun rc gs' => rc = .o (.tup []) ∧ gs' = [tS c (finC c) ((l' ++ mkJ c c o L').take 201), .o (ints o), .o (ints p')])) :
    RetE Go.Proofs.Try.prog 189 [.adr 0 [(0, 0)], .sub 1 [], .sub 2 []] [tS c (finC c) l, .o (ints o), .o (ints p)] (fun rc gs' => rc = .o (.tup []) ∧ gs' = [tS c (finC c) ((l ++ mkJ c c o L).take 201), .o (ints o), .o (ints p)]) := by
  have hcl := hc.fr
  have hpl := hp.len
  have hob := hc.ob8
  have hal := ha.lt
  have hfc := finC_len (c := c)
  refine ret_fnE .tree Go.Proofs.Try.func189 rfl ok_spec_l10Arrows rfl ⟨by simp only [List.length_cons, List.length_nil]; decide, by simp only [List.length_cons, List.length_nil]; decide⟩ rfl ?_; unfold c_spec_l10Arrows tr_spec_l10Arrows rs_spec_l10Arrows; simp only [go_sem, Nat.reduceLT, Nat.reduceAdd, Nat.reduceBEq, Nat.reduceLeDiff, ↓reduceIte]
  refine loop_set [] (fun (i : Nat) => [(3, .int .i64 i)]) (fun i => i ≤ a) (fun i => a - i) 0 (by simp only [go_sem]; rfl) (Nat.zero_le _) rfl ?_
  rintro i hi
  simp only [go_sem, Nat.reduceLT, Nat.reduceAdd, Nat.reduceSub, Nat.reduceBEq, Nat.reduceLeDiff, ↓reduceIte]
  refine ⟨fun h => ?_, fun h => ⟨fun h2 => by omega, fun h2 => ?_⟩⟩
  · simp only [Bool.and_eq_true, decide_eq_true_eq] at h
    have : i ≠ a := fun hh => by have := ha.neg; rw [hh] at h; omega
    exact ⟨i + 1, by omega, by omega, by rw [wrap_lt h.1 (by simp only [maxLen]; omega)]⟩
  have hia : i = a := Classical.byContradiction fun hh => by
    rw [decide_eq_true (show i < p.length by omega), decide_eq_true (ha.bef i (by omega))] at h; cases h
  subst hia
  have hac : i < c.fr.length := by omega
  have hf1 := mapB_get hc.frm hac
  have ht1 := mapB_get hc.tom (show i < c.to.length by have := hc.to; omega)
  refine ⟨hac, ⟨hf1.1, by omega⟩, by have := hc.to; omega, ⟨ht1.1, by omega⟩, call_of (ret_spec_l02Hom c _ _ (by omega) hc.to) rfl (.inl (nv_ints _)) ?_⟩
  simp only [go_sem, Nat.reduceLT, Nat.reduceAdd, Nat.reduceSub, Nat.reduceBEq, Nat.reduceLeDiff, ↓reduceIte]
  generalize hH : c.hom (o.getD (c.fr.getD i 0).toNat 0) (o.getD (c.to.getD i 0).toNat 0) = H
  have hHl : H.length ≤ 40 := by rw [← hH]; exact Nat.le_trans Cat.homP_len hcl
  refine loop_set [6] (fun s : Nat × List (List Int) => [(5, .int .i64 s.1), (7, tS c (finC c) ((l ++ mkJ c c o s.2).take 201))])
    (fun s => s.1 ≤ H.length ∧ EnP c c o p i H s.1 s.2) (fun s => H.length - s.1) (0, []) (by simp only [go_sem, Nat.reduceLT, Nat.reduceBEq, ↓reduceIte]; rfl) ⟨Nat.zero_le _, EnP.zero⟩ (by rw [show mkJ c c o [] = [] from rfl, List.append_nil, List.take_of_length_le (show l.length ≤ 201 by omega)]; rfl) ?_
  rintro ⟨k, Li⟩ ⟨hk, hEi⟩
  simp only at hk hEi
  simp only [go_sem, Nat.reduceLT, Nat.reduceAdd, Nat.reduceSub, Nat.reduceLeDiff, ↓reduceIte]
  refine ⟨fun h3 => ?_, fun h3 => ?_⟩
  · simp only [Bool.and_eq_true, decide_eq_true_eq] at h3
    obtain ⟨hkH, h4⟩ := h3
    have h5 : (l ++ mkJ c c o Li).take 201 = l ++ mkJ c c o Li := List.take_of_length_le (by rw [List.length_take] at h4; omega)
    rw [h5] at h4 ⊢
    have hm := hom_get (d := c) (x := o.getD (c.fr.getD i 0).toNat 0) (y := o.getD (c.to.getD i 0).toNat 0) (i := k) (by rw [hH]; exact hkH)
    obtain ⟨hty, hun⟩ := ha.hom hp hm
    have hmm := Cat.mem_hom.1 hm
    rw [hH] at hm hty hun hmm
    have hx0 := hmm.1
    have hx1 := hmm.2.1
    obtain ⟨L1, hL1⟩ := En.exists _ (Nat.le_refl _) hty
    have hE1 : EnP c c o p i H (k + 1) (Li ++ L1) := hEi.step hp ha (by rw [← hH]; exact Cat.hom_sorted) hkH hx0 hL1
    have e1 : IntKind.i64.wrap ((k : Int) + 1) = ((k + 1 : Nat) : Int) := wrap_lt hkH (by simp only [maxLen]; omega)
    have skip : (∀ F, Comp c c o (p.set i (H.getD k 0)) F → dstB F = false) → mkJ c c o (Li ++ L1) = mkJ c c o Li := fun h => by rw [mkJ_app, mkJ_no hL1 h, List.append_nil]
    refine ⟨hkH, call_of (ret_spec_l01Has p (H.getD k 0) (by omega)) rfl (.inl rfl) ?_⟩
    simp only [go_sem, Nat.reduceLT, Nat.reduceAdd, Nat.reduceSub, Nat.reduceBEq, Nat.reduceLeDiff, ↓reduceIte]
    refine ⟨fun h => ⟨h, by omega⟩, fun h => ⟨h, hkH⟩, fun h => ⟨h, hx0, by omega⟩, fun h => by rw [h]; rfl, fun hs => ?_, fun hs => ?_⟩
    · have hz := skip fun F hc2 => by
        rw [Bool.or_eq_true] at hs
        rcases hs with hs | hs
        · exact dst_no hty (dst_has hal ha.neg hx0 (List.contains_iff_mem.1 hs)) hc2
        · exact col_no hc hp hac ha.neg hx0 hF (by simpa using hs) hc2
      exact ⟨(k + 1, Li ++ L1), ⟨hkH, hE1⟩, by simp only; omega, by simp only [e1, hz, h5]⟩
    · rw [Bool.or_eq_false_iff] at hs
      obtain ⟨hs1, hs2⟩ := hs
      have hnm : H.getD k 0 ∉ p := fun hmem => by rw [List.contains_iff_mem.2 hmem] at hs1; cases hs1
      refine call_of (ret_spec_l01Own p (by omega)) rfl (.inl (nv_ints _)) ?_
      simp only [go_sem, Nat.reduceLT, Nat.reduceAdd, Nat.reduceSub, Nat.reduceBEq, Nat.reduceLeDiff, ↓reduceIte]
      have hpr : ∀ j, j < (p.set i (H.getD k 0)).length → (p.set i (H.getD k 0)).getD j 0 < c.fr.length := fun j hj => by
        by_cases h0 : 0 ≤ (p.set i (H.getD k 0)).getD j 0
        · exact (hty.get (by rw [← hty.len]; exact hj) h0).1
        · omega
      have h0i : 0 ≤ (p.set i (H.getD k 0)).getD i 0 := by rw [set_get hal, if_pos rfl]; exact hx0
      refine ⟨hkH, hal, hal, call_of (ret_spec_l10Fits c hc (by omega) (finC c) 201 (ftrs (l ++ mkJ c c o Li)) _ hty.len hpr i hac h0i) rfl (.inl rfl) ?_⟩
      simp only [go_sem, Nat.reduceLT, Nat.reduceAdd, Nat.reduceSub, Nat.reduceBEq, Nat.reduceLeDiff, ↓reduceIte]
      refine ⟨fun hr => ?_, fun hr => ?_⟩
      · refine e_call [7, 8, 6] false (ih (p.set i (H.getD k 0)) (l ++ mkJ c c o Li) L1 hun hty (fun F h => hF F ((Comp.set hp hac ha.neg hx0).1 h).1) (well_set hc hpl hw hac hx0 hr) (dst_set hb hal ha.neg hnm) (by omega) hL1) (by exact ⟨by decide, rfl⟩) (by repeat (first | exact trivial | refine ⟨rfl, ?_⟩)) (by repeat (first | exact trivial | refine ⟨.inl rfl, ?_⟩ | refine ⟨.inr ⟨rfl, rfl⟩, ?_⟩)) ?_
        rintro _ _ ⟨rfl, rfl⟩
        refine ⟨(by repeat (first | exact trivial | refine ⟨(fun h => by cases h), ?_⟩)), (fun h => by cases h), ?_⟩
        simp only [go_sem, Nat.reduceLT, Nat.reduceAdd, Nat.reduceSub, Nat.reduceBEq, Nat.reduceLeDiff, ↓reduceIte]
        exact ⟨(k + 1, Li ++ L1), ⟨hkH, hE1⟩, by simp only; omega, by simp only [e1, mkJ_app, List.append_assoc]⟩
      · have hL0 : L1 = [] := hL1.none fun F h => by rw [fits_of hc h hty.len hac h0i] at hr; cases hr
        subst hL0
        exact ⟨(k + 1, Li), ⟨hkH, by simpa using hE1⟩, by simp only; omega, by simp only [e1, h5]⟩
  · refine ⟨_, _, ⟨rfl, rfl⟩, rfl, rfl, ?_⟩
    have hout : (l ++ mkJ c c o L).take 201 = (l ++ mkJ c c o Li).take 201 := by
      by_cases hkH : k < H.length
      · rw [decide_eq_true hkH, Bool.true_and, decide_eq_false_iff_not] at h3
        obtain ⟨R, hR⟩ := EnP.pre hp ha (by rw [hH]; exact hEi) (by rw [hH]; exact hk) hL
        rw [hR, mkJ_app, ← List.append_assoc]
        exact take_more (by omega)
      · have hkk : k = H.length := by omega
        subst hkk
        rw [hL.eq (EnP.done hp ha (by rw [hH]; exact hEi))]
    rw [hout]
    exact ⟨rfl, rfl, rfl, trivial⟩

theorem ret_spec_l10Arrows (c : Cat) (hc : c.Shape) (hcc : Cat.cost c ≤ 1048576) (o : List Int) (ho : (o.length : Int) = c.ob) : ∀ (n : Nat) (p : List Int) (l : List Ftr) (L : List (List Int)),
    unk p < n → Typed c c o p → (∀ F, Comp c c o p F → Fn c c (o, F)) → WellF c p → dstB p = true → l.length ≤ 200 → En c c o p L →
    RetE Go.Proofs.Try.prog 189 [.adr 0 [(0, 0)], .sub 1 [], .sub 2 []] [tS c (finC c) l, .o (ints o), .o (ints p)] (fun rc gs' => rc = .o (.tup []) ∧ gs' = [tS c (finC c) ((l ++ mkJ c c o L).take 201), .o (ints o), .o (ints p)]) := by
  intro n
  induction n with
  | zero => intro p l L hn; omega
  | succ n ih =>
    intro p l L hn hp hF hw hb hl hL
    rcases fst_or p with ht | ⟨a, ha⟩
    · exact arrowsJ_leaf c hc hcc o ho p l L hp hw hb hl hL ht
    · exact arrowsJ_step c hc hcc o ho p l L hp hF hw hb hl hL a ha fun p' l' L' h => ih p' l' L' (by omega)
end Go.D3

/- CONTRACTS: the reference's search for the images of objects. -/
namespace Go.D3
open Go
set_option maxRecDepth 100000
set_option maxHeartbeats 4000000

-- spec.l10Objects
def c_spec_l10Objects : C :=
  (.seq (.ops [] [⟨none, .mv (.v 1)⟩,
    ⟨none, .len (.t 0)⟩,
    ⟨none, .asg 2 (.t 1)⟩] [])
  (.seq (.opc [] [⟨none, .mv (.v 2)⟩,
    ⟨none, .mv (.v 0)⟩,
    ⟨none, .nck (.t 1)⟩,
    ⟨none, .fA 0 (.t 2)⟩,
    ⟨none, .fA 0 (.t 3)⟩,
    ⟨none, .ld (.t 4)⟩,
    ⟨none, .bin .eql (.t 0) (.t 5)⟩] [] (.t 6) (.seq (.ops [] [⟨none, .bldS (.int .i64 0) 0 []⟩,
    ⟨none, .asg 3 (.t 0)⟩] [])
  (.seq (.seq (.ops [] [⟨none, .asg 4 (.i 0)⟩] [])
  (.block 0 (.loop (.seq (.opc [] [⟨none, .mv (.v 4)⟩,
    ⟨none, .mv (.v 0)⟩,
    ⟨none, .nck (.t 1)⟩,
    ⟨none, .fA 0 (.t 2)⟩,
    ⟨none, .fA 1 (.t 3)⟩,
    ⟨none, .ld (.t 4)⟩,
    ⟨none, .len (.t 5)⟩,
    ⟨none, .bin .lss (.t 0) (.t 6)⟩] [] (.t 7) .skip
  (.exit 0))
  (.seq (.block 1 (.ops [] [⟨none, .mv (.v 3)⟩,
    ⟨none, .bldS (.int .i64 0) 1 [(0, (.i (-1)))]⟩,
    ⟨none, .app 1 8 (.t 0) (.t 1)⟩,
    ⟨none, .asg 3 (.t 2)⟩] []))
  (.ops [] [⟨none, .mv (.v 4)⟩,
    ⟨none, .bin .add (.t 0) (.i 1)⟩,
    ⟨none, .asg 4 (.t 1)⟩] []))))))
  (.seq (.seq (.ops [] [⟨none, .asg 5 (.i 0)⟩] [])
  (.block 2 (.loop (.seq (.opc [] [⟨none, .mv (.v 5)⟩,
    ⟨none, .mv (.v 1)⟩,
    ⟨none, .len (.t 1)⟩,
    ⟨none, .bin .lss (.t 0) (.t 2)⟩] [] (.t 3) .skip
  (.exit 2))
  (.seq (.block 3 (.ops [] [⟨none, .mv (.v 3)⟩,
    ⟨none, .mv (.v 0)⟩,
    ⟨none, .nck (.t 1)⟩,
    ⟨none, .fA 0 (.t 2)⟩,
    ⟨none, .fA 3 (.t 3)⟩,
    ⟨none, .ld (.t 4)⟩,
    ⟨none, .mv (.v 5)⟩,
    ⟨none, .idxA 1 (.t 5) (.t 6)⟩,
    ⟨none, .ld (.t 7)⟩,
    ⟨none, .mv (.v 0)⟩,
    ⟨none, .nck (.t 9)⟩,
    ⟨none, .fA 5 (.t 10)⟩,
    ⟨none, .fA 3 (.t 11)⟩,
    ⟨none, .ld (.t 12)⟩,
    ⟨none, .mv (.v 1)⟩,
    ⟨none, .mv (.v 5)⟩,
    ⟨none, .idxA 1 (.t 14) (.t 15)⟩,
    ⟨none, .ld (.t 16)⟩,
    ⟨none, .idxA 1 (.t 13) (.t 17)⟩,
    ⟨none, .ld (.t 18)⟩,
    ⟨none, .idxA 1 (.t 0) (.t 8)⟩,
    ⟨none, .st (.t 20) (.t 19)⟩] []))
  (.ops [] [⟨none, .mv (.v 5)⟩,
    ⟨none, .bin .add (.t 0) (.i 1)⟩,
    ⟨none, .asg 5 (.t 1)⟩] []))))))
  (.seq (.ops [] [⟨none, .mv (.v 0)⟩,
    ⟨none, .mv (.v 1)⟩,
    ⟨none, .mv (.v 3)⟩,
    ⟨none, .dyn (.k (.fn 189 [])) [(.t 0), (.t 1), (.t 2)]⟩] [])
  .ret))))
  .skip)
  (.seq (.ops [] [⟨none, .asg 6 (.i 0)⟩] [])
  (.block 4 (.loop (.seq (.opc [] [⟨none, .mv (.v 6)⟩,
    ⟨none, .mv (.v 0)⟩,
    ⟨none, .nck (.t 1)⟩,
    ⟨none, .fA 5 (.t 2)⟩,
    ⟨none, .fA 0 (.t 3)⟩,
    ⟨none, .ld (.t 4)⟩,
    ⟨none, .bin .lss (.t 0) (.t 5)⟩,
    ⟨none, .mv (.t 6)⟩,
    ⟨some (7, true), .mv (.v 0)⟩,
    ⟨some (7, true), .nck (.t 8)⟩,
    ⟨some (7, true), .fA 13 (.t 9)⟩,
    ⟨some (7, true), .ld (.t 10)⟩,
    ⟨some (7, true), .len (.t 11)⟩,
    ⟨some (7, true), .mv (.v 0)⟩,
    ⟨some (7, true), .nck (.t 13)⟩,
    ⟨some (7, true), .fA 12 (.t 14)⟩,
    ⟨some (7, true), .ld (.t 15)⟩,
    ⟨some (7, true), .bin .lss (.t 12) (.t 16)⟩,
    ⟨none, .pick (.t 7) (.t 17) (.k (.bool false))⟩] [] (.t 18) .skip
  (.exit 4))
  (.seq (.block 5 (.seq (.opc [] [⟨none, .mv (.v 1)⟩,
    ⟨none, .mv (.v 6)⟩,
    ⟨none, .call 181 [(.t 0), (.t 1)]⟩] [] (.t 2) (.exit 5)
  .skip)
  (.seq (.ops [] [⟨none, .mv (.v 1)⟩,
    ⟨none, .call 154 [(.t 0)]⟩,
    ⟨none, .mv (.v 6)⟩,
    ⟨none, .bldS (.int .i64 0) 1 [(0, (.t 2))]⟩,
    ⟨none, .app 1 8 (.t 1) (.t 3)⟩,
    ⟨none, .asg 7 (.t 4)⟩] [])
  (.seq (.ops [] [⟨none, .asg 8 (.k (.bool true))⟩] [])
  (.seq (.seq (.ops [] [⟨none, .asg 9 (.i 0)⟩] [])
  (.block 6 (.loop (.seq (.opc [] [⟨none, .mv (.v 8)⟩,
    ⟨none, .mv (.t 0)⟩,
    ⟨some (1, true), .mv (.v 9)⟩,
    ⟨some (1, true), .mv (.v 2)⟩,
    ⟨some (1, true), .bin .leq (.t 2) (.t 3)⟩,
    ⟨none, .pick (.t 1) (.t 4) (.k (.bool false))⟩] [] (.t 5) .skip
  (.exit 6))
  (.seq (.block 7 (.ops [] [⟨none, .mv (.v 0)⟩,
    ⟨none, .nck (.t 0)⟩,
    ⟨none, .fA 0 (.t 1)⟩,
    ⟨none, .lda 5 (.t 2)⟩,
    ⟨none, .mv (.v 9)⟩,
    ⟨none, .mv (.v 2)⟩,
    ⟨none, .call 74 [(.t 3), (.t 4), (.t 5)]⟩,
    ⟨none, .len (.t 6)⟩,
    ⟨none, .mv (.v 0)⟩,
    ⟨none, .nck (.t 8)⟩,
    ⟨none, .fA 5 (.t 9)⟩,
    ⟨none, .lda 5 (.t 10)⟩,
    ⟨none, .mv (.v 7)⟩,
    ⟨none, .mv (.v 9)⟩,
    ⟨none, .idxA 1 (.t 12) (.t 13)⟩,
    ⟨none, .ld (.t 14)⟩,
    ⟨none, .mv (.v 6)⟩,
    ⟨none, .call 74 [(.t 11), (.t 15), (.t 16)]⟩,
    ⟨none, .len (.t 17)⟩,
    ⟨none, .bin .eql (.t 7) (.t 18)⟩,
    ⟨none, .mv (.t 19)⟩,
    ⟨some (20, true), .mv (.v 0)⟩,
    ⟨some (20, true), .nck (.t 21)⟩,
    ⟨some (20, true), .fA 0 (.t 22)⟩,
    ⟨some (20, true), .lda 5 (.t 23)⟩,
    ⟨some (20, true), .mv (.v 2)⟩,
    ⟨some (20, true), .mv (.v 9)⟩,
    ⟨some (20, true), .call 74 [(.t 24), (.t 25), (.t 26)]⟩,
    ⟨some (20, true), .len (.t 27)⟩,
    ⟨some (20, true), .mv (.v 0)⟩,
    ⟨some (20, true), .nck (.t 29)⟩,
    ⟨some (20, true), .fA 5 (.t 30)⟩,
    ⟨some (20, true), .lda 5 (.t 31)⟩,
    ⟨some (20, true), .mv (.v 6)⟩,
    ⟨some (20, true), .mv (.v 7)⟩,
    ⟨some (20, true), .mv (.v 9)⟩,
    ⟨some (20, true), .idxA 1 (.t 34) (.t 35)⟩,
    ⟨some (20, true), .ld (.t 36)⟩,
    ⟨some (20, true), .call 74 [(.t 32), (.t 33), (.t 37)]⟩,
    ⟨some (20, true), .len (.t 38)⟩,
    ⟨some (20, true), .bin .eql (.t 28) (.t 39)⟩,
    ⟨none, .pick (.t 20) (.t 40) (.k (.bool false))⟩,
    ⟨none, .asg 8 (.t 41)⟩] []))
  (.ops [] [⟨none, .mv (.v 9)⟩,
    ⟨none, .bin .add (.t 0) (.i 1)⟩,
    ⟨none, .asg 9 (.t 1)⟩] []))))))
  (.opc [] [⟨none, .mv (.v 8)⟩] [] (.t 0) (.ops [] [⟨none, .mv (.v 0)⟩,
    ⟨none, .mv (.v 7)⟩,
    ⟨none, .dyn (.k (.fn 172 [])) [(.t 0), (.t 1)]⟩] [])
  .skip))))))
  (.ops [] [⟨none, .mv (.v 6)⟩,
    ⟨none, .bin .add (.t 0) (.i 1)⟩,
    ⟨none, .asg 6 (.t 1)⟩] []))))))))
def tr_spec_l10Objects : List Nat := [0, 1, 4, 5, 6, 7, 8, 9, 10, 11]
def rs_spec_l10Objects : List RS := []
theorem ok_spec_l10Objects : fnOk Go.Proofs.Try.prog Go.Proofs.Try.f172 tr_spec_l10Objects c_spec_l10Objects 2 rs_spec_l10Objects = true := by decide +kernel

theorem objectsJ_leaf (c : Cat) (hc : c.Shape) (hcb : c.isB = true) (hcc : Cat.cost c ≤ 1048576) (o : List Int) (l : List Ftr) (L : List (List Int × List Int))
    (ho : Full c c o) (hn : o.Nodup) (hl : l.length ≤ 200) (hL : EnO c c o L) :
    RetE Go.Proofs.Try.prog 172 [.adr 0 [(0, 0)], .sub 1 []] [tS c (finC c) l, .o (ints o)] (fun rc gs' => rc = .o (.tup []) ∧ gs' = [tS c (finC c) ((l ++ mkI c c L).take 201), .o (ints o)]) := by
  have hcl := hc.fr
  have hob := hc.ob8
  have hci := hc.idn
  have hol := ho.len
  obtain ⟨L1, hL1⟩ := En.exists _ (Nat.le_refl _) (stF_typed hc hc ho (Nat.le_refl _))
  have hLL : L = L1.map fun F => (o, F) := hL.eq (EnO.leaf ho hL1)
  subst hLL
  refine ret_fnE .tree Go.Proofs.Try.func172 rfl ok_spec_l10Objects rfl ⟨by simp only [List.length_cons, List.length_nil]; decide, by simp only [List.length_cons, List.length_nil]; decide⟩ rfl ?_; unfold c_spec_l10Objects tr_spec_l10Objects rs_spec_l10Objects; simp only [go_sem, Nat.reduceLT, Nat.reduceAdd, Nat.reduceSub, Nat.reduceBEq, Nat.reduceLeDiff, ↓reduceIte]
  refine ⟨fun _ => ?_, fun h => by simp [hol] at h⟩
  refine loop_set [] (fun (i : Nat) => [(3, .o (ints (List.replicate i (-1)))), (4, .int .i64 i)]) (fun i => i ≤ c.fr.length) (fun i => c.fr.length - i) 0 (by simp only [go_sem]; rfl) (Nat.zero_le _) rfl ?_
  rintro i hi
  simp only [go_sem, Nat.reduceLT, Nat.reduceAdd, Nat.reduceSub, Nat.reduceBEq, Nat.reduceLeDiff, ↓reduceIte]
  refine ⟨fun h => ⟨by simp only [List.length_replicate]; omega, i + 1, h, by omega, by rw [wrap_lt h (by simp only [maxLen]; omega), List.replicate_succ']⟩, fun h => ?_⟩
  have hi : i = c.fr.length := by omega
  subst hi
  refine loop_set [4] (fun (i : Nat) => [(3, .o (ints (stF c c o i))), (5, .int .i64 i)]) (fun i => i ≤ o.length) (fun i => o.length - i) 0 (by simp only [go_sem, Nat.reduceLT, Nat.reduceBEq, ↓reduceIte]; rfl) (Nat.zero_le _) rfl ?_
  rintro k hk
  simp only [go_sem, Nat.reduceLT, Nat.reduceAdd, Nat.reduceSub, Nat.reduceBEq, Nat.reduceLeDiff, ↓reduceIte]
  refine ⟨fun h => ?_, fun h => ?_⟩
  · obtain ⟨a1, a2, a3, a4⟩ := id_ends hc (x := k) (by omega)
    have hr := ho.rng k (by omega)
    have hsl : (stF c c o k).length = c.fr.length := stF_len
    exact ⟨by omega, h, ⟨hr.1, by omega⟩, ⟨a1, by omega⟩, by omega, k + 1, h, by omega, by rw [wrap_lt h (by simp only [maxLen]; omega), ← stF_succ]⟩
  have hkk : k = c.idn.length := by omega
  subst hkk
  refine e_call [10, 11, 3] false (ret_spec_l10Arrows c hc hcc o hol _ (stF c c o c.idn.length) l L1 (Nat.lt_succ_self _) (stF_typed hc hc ho (Nat.le_refl _)) (fun F h => ⟨ho, h⟩) (well_start hc hcb ho) (dst_start hc ho hn) hl hL1) (by exact ⟨by decide, rfl⟩) (by repeat (first | exact trivial | refine ⟨rfl, ?_⟩)) (by repeat (first | exact trivial | refine ⟨.inl rfl, ?_⟩ | refine ⟨.inr ⟨rfl, rfl⟩, ?_⟩)) ?_
  rintro _ _ ⟨rfl, rfl⟩
  refine ⟨(by repeat (first | exact trivial | refine ⟨(fun h => by cases h), ?_⟩)), (fun h => by cases h), ?_⟩
  simp only [go_sem, Nat.reduceLT, Nat.reduceAdd, Nat.reduceBEq, Nat.reduceLeDiff, ↓reduceIte]
  refine ⟨_, _, ⟨rfl, rfl⟩, rfl, rfl, ?_⟩
  rw [mkI_leaf]
  exact ⟨rfl, rfl, trivial⟩

/-- The hom sets between the object 'x' and the last one are as large as those of their images. -/
def homB (c : Cat) (nx : List Int) (n : Nat) (x : Nat) : Bool := decide ((c.hom x n).length = (c.hom (nx.getD x 0) (nx.getD n 0)).length) && decide ((c.hom n x).length = (c.hom (nx.getD n 0) (nx.getD x 0)).length)
theorem homB_no {c : Cat} (hc : c.Shape) {nx : List Int} {n : Nat} (hl : nx.length = n + 1) (hb : allB (n + 1) (homB c nx n) = false) : ∀ P, Fn c c P → Agr nx P.1 → dstB P.2 = false := by
  intro P hP hA
  cases hd : dstB P.2 with
  | false => rfl
  | true =>
    exfalso
    obtain ⟨x, hx, hx2⟩ := allB_false hb
    have hol := hP.1.len
    have h1 := hA.1
    have e1 := hA.2 x (by omega)
    have e2 := hA.2 n (by omega)
    have s1 := hom_same hc hP hd (x := x) (y := n) (by omega) (by omega)
    have s2 := hom_same hc hP hd (x := n) (y := x) (by omega) (by omega)
    rw [e1, e2] at s1 s2
    unfold homB at hx2
    rw [decide_eq_true s1, decide_eq_true s2] at hx2
    cases hx2

theorem objectsJ_step (c : Cat) (hc : c.Shape) (_ : Cat.cost c ≤ 1048576) (pre : List Int) (l : List Ftr) (L : List (List Int × List Int))
    (hpre : (pre.length : Int) < c.ob) (hrg : ∀ i, i < pre.length → 0 ≤ pre.getD i 0 ∧ pre.getD i 0 < c.ob) (hn : pre.Nodup) (hl : l.length ≤ 200) (hL : EnO c c pre L)
    (ih : ∀ (y : Nat) (l' : List Ftr) (L' : List (List Int × List Int)), (y : Int) < c.ob → (pre ++ [(y : Int)]).Nodup → l'.length ≤ 200 → EnO c c (pre ++ [(y : Int)]) L' →
      RetE Go.Proofs.Try.prog 172 [.adr 0 [(0, 0)], .sub 1 []] [tS c (finC c) l', .o (ints (pre ++ [(y : Int)]))] (fun rc gs' => rc = .o (.tup []) ∧ gs' = [tS c (finC c) ((l' ++ mkI c c L').take 201), .o (ints (pre ++ [(y : Int)]))])) :
    RetE Go.Proofs.Try.prog 172 [.adr 0 [(0, 0)], .sub 1 []] [tS c (finC c) l, .o (ints pre)] (fun rc gs' => rc = .o (.tup []) ∧ gs' = [tS c (finC c) ((l ++ mkI c c L).take 201), .o (ints pre)]) := by
  have hcl := hc.fr
  have hob := hc.ob8
  have hci := hc.idn
  have hd0 := hc.ob0
  refine ret_fnE .tree Go.Proofs.Try.func172 rfl ok_spec_l10Objects rfl ⟨by simp only [List.length_cons, List.length_nil]; decide, by simp only [List.length_cons, List.length_nil]; decide⟩ rfl ?_; unfold c_spec_l10Objects tr_spec_l10Objects rs_spec_l10Objects; simp only [go_sem, Nat.reduceLT, Nat.reduceAdd, Nat.reduceSub, Nat.reduceBEq, Nat.reduceLeDiff, ↓reduceIte]
  refine ⟨fun h => by omega, fun _ => ?_⟩
  refine loop_set [7, 8, 9] (fun s : Nat × List (List Int × List Int) => [(6, .int .i64 s.1), (10, tS c (finC c) ((l ++ mkI c c s.2).take 201))])
    (fun s => (s.1 : Int) ≤ c.ob ∧ EnOP c c pre s.1 s.2) (fun s => c.ob.toNat - s.1) (0, []) (by simp only [go_sem, Nat.reduceLT, Nat.reduceBEq, ↓reduceIte]; rfl) ⟨by simpa using hd0, EnOP.zero hpre⟩ (by rw [show mkI c c [] = [] from rfl, List.append_nil, List.take_of_length_le (show l.length ≤ 201 by omega)]; rfl) ?_
  rintro ⟨y, Li⟩ ⟨hy, hEi⟩
  simp only at hy hEi
  simp only [go_sem, Nat.reduceLT, Nat.reduceAdd, Nat.reduceSub, Nat.reduceLeDiff, ↓reduceIte]
  refine ⟨fun h3 => ?_, fun h3 => ?_⟩
  · simp only [Bool.and_eq_true, decide_eq_true_eq] at h3
    obtain ⟨hyd, h4⟩ := h3
    have h5 : (l ++ mkI c c Li).take 201 = l ++ mkI c c Li := List.take_of_length_le (by rw [List.length_take] at h4; omega)
    rw [h5] at h4 ⊢
    obtain ⟨L1, hL1⟩ := EnO.exists hc hc (c.ob.toNat - pre.length - 1) (pre := pre ++ [(y : Int)]) (by simp; omega) (snoc_rng hrg hyd)
    have hE1 : EnOP c c pre (y + 1) (Li ++ L1) := hEi.step hpre hL1
    have e1 : IntKind.i64.wrap ((y : Int) + 1) = ((y + 1 : Nat) : Int) := wrap_lt (n := 8) (by omega) (by simp only [maxLen]; omega)
    have skip : (∀ P, Fn c c P → Agr (pre ++ [(y : Int)]) P.1 → dstB P.2 = false) → mkI c c (Li ++ L1) = mkI c c Li := fun h => by rw [mkI_app, mkI_no hL1 h, List.append_nil]
    refine call_of (ret_spec_l01Has pre (y : Int) (by omega)) rfl (.inl rfl) ?_
    simp only [go_sem, Nat.reduceLT, Nat.reduceAdd, Nat.reduceSub, Nat.reduceBEq, Nat.reduceLeDiff, ↓reduceIte]
    refine ⟨fun hs => ?_, fun hs => ?_⟩
    · have hz := skip (no_dup hc hc (List.contains_iff_mem.1 hs))
      exact ⟨(y + 1, Li ++ L1), ⟨by simp only; omega, hE1⟩, by simp only; omega, by simp only [e1, hz, h5]⟩
    have hnd : (pre ++ [(y : Int)]).Nodup := List.nodup_append.2 ⟨hn, by simp, fun a ha b hb e => by rw [List.mem_singleton.1 hb] at e; rw [e] at ha; rw [List.contains_iff_mem.2 ha] at hs; cases hs⟩
    refine call_of (ret_spec_l01Own pre (by omega)) rfl (.inl (nv_ints _)) ?_
    simp only [go_sem, Nat.reduceLT, Nat.reduceAdd, Nat.reduceSub, Nat.reduceBEq, Nat.reduceLeDiff, ↓reduceIte]
    generalize hnx : pre ++ [(y : Int)] = nx at *
    have hnl : nx.length = pre.length + 1 := by rw [← hnx]; simp
    have hny : nx.getD pre.length 0 = y := by rw [← hnx]; simp
    have hnr : ∀ i, i < nx.length → 0 ≤ nx.getD i 0 ∧ nx.getD i 0 < c.ob := by rw [← hnx]; exact snoc_rng hrg hyd
    refine ⟨by omega, loop_set [] (fun s : Nat × Bool => [(8, .bool s.2), (9, .int .i64 s.1)]) (fun s => s.1 ≤ pre.length + 1 ∧ s.2 = allB s.1 (homB c nx pre.length)) (fun s => pre.length + 1 - s.1) (0, true) (by simp only [go_sem]; rfl) ⟨Nat.zero_le _, rfl⟩ rfl ?_⟩
    rintro ⟨x, b⟩ ⟨hx, hb⟩
    simp only at hx hb
    simp only [go_sem, Nat.reduceLT, Nat.reduceAdd, Nat.reduceSub, Nat.reduceBEq, Nat.reduceLeDiff, ↓reduceIte]
    refine ⟨fun hbx => ?_, fun hbx => ⟨fun hbt => ?_, fun hbf => ?_⟩⟩
    · simp only [Bool.and_eq_true, decide_eq_true_eq] at hbx
      obtain ⟨hbt, hxl⟩ := hbx
      refine call_of (ret_spec_l02Hom c _ _ (by omega) hc.to) rfl (.inl (nv_ints _)) ?_
      simp only [go_sem, Nat.reduceLT, Nat.reduceAdd, Nat.reduceSub, ↓reduceIte]
      refine ⟨by omega, call_of (ret_spec_l02Hom c _ _ (by omega) hc.to) rfl (.inl (nv_ints _)) ?_⟩
      simp only [go_sem, Nat.reduceLT, Nat.reduceAdd, Nat.reduceSub, ↓reduceIte]
      generalize hg : (((c.hom x pre.length).length : Int) == ((c.hom (nx.getD x 0) y).length : Int)) = g
      refine callg_of (fun _ => ret_spec_l02Hom c _ _ (by omega) hc.to) rfl (fun h => h) (.inl (nv_ints _)) ?_
      simp only [go_sem, Nat.reduceLT, Nat.reduceAdd, Nat.reduceSub, ↓reduceIte]
      refine ⟨fun h => ⟨h, by omega⟩, callg_of (fun _ => ret_spec_l02Hom c _ _ (by omega) hc.to) rfl (fun h => h) (.inl (nv_ints _)) ?_⟩
      simp only [go_sem, Nat.reduceLT, Nat.reduceAdd, Nat.reduceSub, Nat.reduceBEq, Nat.reduceLeDiff, ↓reduceIte]
      have e2 : (g && ((c.hom pre.length x).length : Int) == ((c.hom y (nx.getD x 0)).length : Int)) = homB c nx pre.length x := by
        rw [← hg, Bool.eq_iff_iff]
        unfold homB
        rw [hny]
        simp only [Bool.and_eq_true, beq_iff_eq, decide_eq_true_eq]
        omega
      refine ⟨(x + 1, homB c nx pre.length x), ⟨by simp only; omega, ?_⟩, by simp only; omega, ?_⟩
      · rw [hbt] at hb
        simp only
        cases hq : homB c nx pre.length x with
        | true => exact (allB_succ hb.symm hq).symm
        | false => exact (allB_stop (by omega) hq).symm
      · simp only [e2, wrap_lt (i := x) (n := 9) (by omega) (by simp only [maxLen]; omega)]
    · rw [hbt, Bool.true_and, decide_eq_false_iff_not] at hbx
      refine e_call [10, 7] false (hnx ▸ ih y (l ++ mkI c c Li) L1 hyd (hnx ▸ hnd) (by omega) (hnx ▸ hL1)) (by exact ⟨by decide, rfl⟩) (by repeat (first | exact trivial | refine ⟨rfl, ?_⟩)) (by repeat (first | exact trivial | refine ⟨.inl rfl, ?_⟩ | refine ⟨.inr ⟨rfl, rfl⟩, ?_⟩)) ?_
      rintro _ _ ⟨rfl, rfl⟩
      refine ⟨(by repeat (first | exact trivial | refine ⟨(fun h => by cases h), ?_⟩)), (fun h => by cases h), ?_⟩
      simp only [go_sem, Nat.reduceLT, Nat.reduceAdd, Nat.reduceSub, Nat.reduceBEq, Nat.reduceLeDiff, ↓reduceIte]
      exact ⟨(y + 1, Li ++ L1), ⟨by simp only; omega, hE1⟩, by simp only; omega, by simp only [e1, mkI_app, List.append_assoc]⟩
    · have hz := skip (homB_no hc hnl (by
        cases hq : allB (pre.length + 1) (homB c nx pre.length) with
        | false => rfl
        | true => rw [allB_iff.2 fun i hi => allB_iff.1 hq i (by omega)] at hb; rw [hb] at hbf; cases hbf))
      exact ⟨(y + 1, Li ++ L1), ⟨by simp only; omega, hE1⟩, by simp only; omega, by simp only [e1, hz, h5]⟩
  · refine ⟨_, _, ⟨rfl, rfl⟩, rfl, rfl, ?_⟩
    have hout : (l ++ mkI c c L).take 201 = (l ++ mkI c c Li).take 201 := by
      by_cases hyd : (y : Int) < c.ob
      · rw [decide_eq_true hyd, Bool.true_and, decide_eq_false_iff_not] at h3
        obtain ⟨R, hR⟩ := EnOP.pre hc hc hpre hrg hEi hy hL
        rw [hR, mkI_app, ← List.append_assoc]
        exact take_more (by omega)
      · rw [hL.eq (EnOP.done hpre (by omega) hEi)]
    rw [hout]
    exact ⟨rfl, rfl, trivial⟩

theorem ret_spec_l10Objects (c : Cat) (hc : c.Shape) (hcb : c.isB = true) (hcc : Cat.cost c ≤ 1048576) : ∀ (n : Nat) (pre : List Int) (l : List Ftr) (L : List (List Int × List Int)),
    (pre.length : Int) + n = c.ob → (∀ i, i < pre.length → 0 ≤ pre.getD i 0 ∧ pre.getD i 0 < c.ob) → pre.Nodup → l.length ≤ 200 → EnO c c pre L →
    RetE Go.Proofs.Try.prog 172 [.adr 0 [(0, 0)], .sub 1 []] [tS c (finC c) l, .o (ints pre)] (fun rc gs' => rc = .o (.tup []) ∧ gs' = [tS c (finC c) ((l ++ mkI c c L).take 201), .o (ints pre)]) := by
  intro n
  induction n with
  | zero => exact fun pre l L hn hr hd hl hL => objectsJ_leaf c hc hcb hcc pre l L ⟨by omega, hr⟩ hd hl hL
  | succ n ih => exact fun pre l L hn hr hd hl hL => objectsJ_step c hc hcc pre l L (by omega) hr hd hl hL fun y l' L' hy hnd hl' hL' => ih _ l' L' (by simp; omega) (snoc_rng hr hy) hnd hl' hL'

-- spec.l10All
def c_spec_l10All : C :=
  (.seq (.ops [4, 5] [⟨none, .boxv 5 (.v 0)⟩,
    ⟨none, .boxv 5 (.v 1)⟩,
    ⟨none, .asg 3 (.k (.nils (.agg [.int .i64 0, ints [], ints [], ints [], intss [], .int .i64 0, ints [], ints [], ints [], intss [], ints [], ints []])))⟩] [(4, 0), (5, 1)])
  (.seq (.ops [6] [⟨none, .lda 5 (.v 4)⟩,
    ⟨none, .lda 5 (.v 5)⟩,
    ⟨none, .mv (.v 2)⟩,
    ⟨none, .bldS (.agg [.int .i64 0, ints [], ints [], ints [], intss [], .int .i64 0, ints [], ints [], ints [], intss [], ints [], ints []]) 0 []⟩,
    ⟨none, .bld [.int .i64 0, .nils (.int .i64 0), .nils (.int .i64 0), .nils (.int .i64 0), .nils (ints []), .int .i64 0, .nils (.int .i64 0), .nils (.int .i64 0), .nils (.int .i64 0), .nils (ints []), .nils (.int .i64 0), .nils (.int .i64 0), .int .i64 0, .nils (.agg [.int .i64 0, ints [], ints [], ints [], intss [], .int .i64 0, ints [], ints [], ints [], intss [], ints [], ints []])] [(0, 5, (.t 0)), (5, 5, (.t 1)), (12, 1, (.t 2)), (13, 1, (.t 3))]⟩,
    ⟨none, .boxo 14 (.t 4)⟩,
    ⟨none, .bo (.t 5)⟩] [(6, 6)])
  (.seq (.opc [] [⟨none, .fA 0 (.v 4)⟩,
    ⟨none, .ld (.t 0)⟩,
    ⟨none, .fA 0 (.v 5)⟩,
    ⟨none, .ld (.t 2)⟩,
    ⟨none, .bin .neq (.t 1) (.t 3)⟩,
    ⟨none, .mv (.t 4)⟩,
    ⟨some (5, false), .fA 1 (.v 4)⟩,
    ⟨some (5, false), .ld (.t 6)⟩,
    ⟨some (5, false), .len (.t 7)⟩,
    ⟨some (5, false), .fA 1 (.v 5)⟩,
    ⟨some (5, false), .ld (.t 9)⟩,
    ⟨some (5, false), .len (.t 10)⟩,
    ⟨some (5, false), .bin .neq (.t 8) (.t 11)⟩,
    ⟨none, .pick (.t 5) (.k (.bool true)) (.t 12)⟩] [] (.t 13) (.seq (.ops [] [⟨none, .mv (.v 6)⟩,
    ⟨none, .nck (.t 0)⟩,
    ⟨none, .fA 13 (.t 1)⟩,
    ⟨none, .ld (.t 2)⟩,
    ⟨none, .asg 3 (.t 3)⟩] [])
  .ret)
  .skip)
  (.seq (.ops [] [⟨none, .lda 5 (.v 4)⟩,
    ⟨none, .lda 5 (.v 5)⟩,
    ⟨none, .call 171 [(.t 0), (.t 1)]⟩,
    ⟨none, .mv (.t 2)⟩,
    ⟨none, .ext 0 (.t 3)⟩,
    ⟨none, .ext 1 (.t 3)⟩,
    ⟨none, .ext 2 (.t 3)⟩,
    ⟨none, .asg 7 (.t 4)⟩,
    ⟨none, .asg 8 (.t 5)⟩,
    ⟨none, .asg 9 (.t 6)⟩] [])
  (.seq (.ops [] [⟨none, .mv (.v 6)⟩,
    ⟨none, .mv (.v 7)⟩,
    ⟨none, .nck (.t 0)⟩,
    ⟨none, .fA 10 (.t 2)⟩,
    ⟨none, .st (.t 3) (.t 1)⟩] [])
  (.seq (.ops [] [⟨none, .mv (.v 6)⟩,
    ⟨none, .mv (.v 8)⟩,
    ⟨none, .nck (.t 0)⟩,
    ⟨none, .fA 11 (.t 2)⟩,
    ⟨none, .st (.t 3) (.t 1)⟩] [])
  (.seq (.opc [] [⟨none, .mv (.v 9)⟩] [] (.t 0) (.ops [] [⟨none, .mv (.v 6)⟩,
    ⟨none, .bldS (.int .i64 0) 0 []⟩,
    ⟨none, .dyn (.k (.fn 172 [])) [(.t 0), (.t 1)]⟩] [])
  .skip)
  (.seq (.ops [] [⟨none, .mv (.v 6)⟩,
    ⟨none, .nck (.t 0)⟩,
    ⟨none, .fA 13 (.t 1)⟩,
    ⟨none, .ld (.t 2)⟩,
    ⟨none, .asg 3 (.t 3)⟩] [])
  .ret))))))))
def tr_spec_l10All : List Nat := [0, 1, 2, 6, 3, 4, 7, 8, 9, 10]
def rs_spec_l10All : List RS := [.t 3]
theorem ok_spec_l10All : fnOk Go.Proofs.Try.prog Go.Proofs.Try.f137 tr_spec_l10All c_spec_l10All 3 rs_spec_l10All = true := by decide +kernel

theorem ret_spec_l10All (c : Cat) (hc : c.Shape) (hcb : c.isB = true) (hcc : Cat.cost c ≤ 1048576) (h16 : c.fr.length ≤ 16) (L : List (List Int × List Int)) (hL : EnO c c [] L) :
    Ret Go.Proofs.Try.prog 137 [.v c.d, .v c.d, .v (.int .i64 201)] (ftrs ((mkI c c L).take 201)) := by
  have hob0 := hc.ob0
  refine ret_fn Go.Proofs.Try.func137 ok_spec_l10All rfl (show 3 < 500 by decide) rfl ?_; unfold c_spec_l10All tr_spec_l10All rs_spec_l10All; simp only [go_sem, Nat.reduceLT, Nat.reduceAdd, Nat.reduceSub, Nat.reduceBEq, Nat.reduceLeDiff, ↓reduceIte]
  refine ⟨fun _ => by simp, fun h => by simp at h, fun _ => ?_⟩
  refine call_of (ret_spec_l10Colours c hc h16) rfl (.inl (by simp only [D.novw, novwL, nv_ints, Bool.and_true])) ?_
  simp only [go_sem, Nat.reduceLT, Nat.reduceAdd, Nat.reduceSub, Nat.reduceEqDiff, Nat.reduceBEq, ↓reduceIte]
  refine e_call [6, 1001] false (ret_spec_l10Objects c hc hcb hcc c.ob.toNat [] [] L (by simp only [List.length_nil]; omega) (fun i hi => absurd hi (Nat.not_lt_zero _)) (by simp) (Nat.zero_le _) hL) (by exact ⟨by decide, rfl⟩) (by repeat (first | exact trivial | refine ⟨rfl, ?_⟩)) (by repeat (first | exact trivial | refine ⟨.inl rfl, ?_⟩ | refine ⟨.inr ⟨rfl, rfl⟩, ?_⟩)) ?_
  rintro _ _ ⟨rfl, rfl⟩
  refine ⟨(by repeat (first | exact trivial | refine ⟨(fun h => by cases h), ?_⟩)), (fun h => by cases h), ?_⟩
  simp only [go_sem, Nat.reduceLT, Nat.reduceAdd, Nat.reduceSub, Nat.reduceBEq, ↓reduceIte]
end Go.D3
