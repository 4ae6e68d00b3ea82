/- CONTRACTS: the program's lists of functors. -/
import Derived.Test.YtclmdejmogmifaaGC
import Derived.Test.YtclmdejmogmifaaGB
/- PLAIN LAWS: all functors in their order. -/
namespace Go.D3
open Go

variable {c d : Cat}
/-- The images of identities. -/
def stF (c d : Cat) (o : List Int) (k : Nat) : List Int := (List.range k).foldl (fun p x => p.set (c.idn.getD x 0).toNat (d.idn.getD (o.getD x 0).toNat 0)) (List.replicate c.fr.length (-1))
theorem stF_succ {o : List Int} {k : Nat} : stF c d o (k + 1) = (stF c d o k).set (c.idn.getD k 0).toNat (d.idn.getD (o.getD k 0).toNat 0) := by
  unfold stF; rw [List.range_succ, List.foldl_append]; rfl
theorem stF_zero {o : List Int} : stF c d o 0 = List.replicate c.fr.length (-1) := rfl
structure Full (c d : Cat) (o : List Int) : Prop where
  len : (o.length : Int) = c.ob
  rng : ∀ i, i < o.length → 0 ≤ o.getD i 0 ∧ o.getD i 0 < d.ob
theorem stF_len {o : List Int} {k : Nat} : (stF c d o k).length = c.fr.length := by
  induction k with
  | zero => simp [stF_zero]
  | succ k ih => rw [stF_succ, List.length_set, ih]
theorem id_ends (hc : c.Shape) {x : Nat} (hx : x < c.idn.length) : 0 ≤ c.idn.getD x 0 ∧ (c.idn.getD x 0).toNat < c.fr.length ∧ c.fr.getD (c.idn.getD x 0).toNat 0 = x ∧ c.to.getD (c.idn.getD x 0).toNat 0 = x := by
  have h1 := hc.idx hx
  have h2 := hc.ids x hx
  simp only [Cat.idB, Bool.and_eq_true, beq_iff_eq] at h2
  exact ⟨h1.1, by omega, h2.1, h2.2⟩
theorem stF_typed (hc : c.Shape) (hd : d.Shape) {o : List Int} (ho : Full c d o) : ∀ {k : Nat}, k ≤ c.idn.length → Typed c d o (stF c d o k)
  | 0, _ => ⟨stF_len, fun i hi => .inl (by rw [stF_zero, List.getD_eq_getElem?_getD, List.getElem?_replicate, if_pos hi]; rfl)⟩
  | k + 1, hk => by
    have ih := stF_typed hc hd ho (k := k) (by omega)
    obtain ⟨a1, a2, a3, a4⟩ := id_ends hc (x := k) (by omega)
    have hci := hc.idn
    have hdi := hd.idn
    have hol := ho.len
    have hr := ho.rng k (by omega)
    obtain ⟨b1, b2, b3, b4⟩ := id_ends hd (x := (o.getD k 0).toNat) (by omega)
    rw [stF_succ]
    exact ih.set a2 b1 (by omega) (by rw [b3, a3, Int.toNat_natCast]; exact Int.toNat_of_nonneg hr.1) (by rw [b4, a4, Int.toNat_natCast]; exact Int.toNat_of_nonneg hr.1)

def Fn (c d : Cat) (P : List Int × List Int) : Prop := Full c d P.1 ∧ Comp c d P.1 (stF c d P.1 c.idn.length) P.2
def plt (P Q : List Int × List Int) : Prop := lexlt P.1 Q.1 ∨ (P.1 = Q.1 ∧ lexlt P.2 Q.2)
theorem plt_asymm (P Q : List Int × List Int) (h : plt P Q) : ¬ plt Q P := by
  rintro (h2 | ⟨e, h2⟩)
  · rcases h with h | ⟨e, h⟩
    · exact lexlt_asymm h h2
    · rw [e] at h2; exact lexlt_asymm h2 h2
  · rcases h with h | ⟨e', h⟩
    · rw [e] at h; exact lexlt_asymm h h
    · exact lexlt_asymm h h2
def Agr (pre o : List Int) : Prop := pre.length ≤ o.length ∧ ∀ i, i < pre.length → o.getD i 0 = pre.getD i 0
def EnO (c d : Cat) (pre : List Int) (L : List (List Int × List Int)) : Prop := L.Pairwise plt ∧ ∀ P, P ∈ L ↔ Fn c d P ∧ Agr pre P.1
theorem EnO.eq {pre : List Int} {L L' : List (List Int × List Int)} (h : EnO c d pre L) (h' : EnO c d pre L') : L = L' := sorted_eq plt_asymm h.1 h'.1 fun P => (h.2 P).trans (h'.2 P).symm
theorem EnO.leaf {o : List Int} {L : List (List Int)} (ho : Full c d o) (h : En c d o (stF c d o c.idn.length) L) : EnO c d o (L.map fun F => (o, F)) := by
  refine ⟨?_, fun P => ?_⟩
  · rw [List.pairwise_map]
    exact h.1.imp fun hh => .inr ⟨rfl, hh⟩
  · rw [List.mem_map]
    constructor
    · rintro ⟨F, hF, rfl⟩
      exact ⟨⟨ho, (h.2 F).1 hF⟩, Nat.le_refl _, fun _ _ => rfl⟩
    · rintro ⟨⟨h1, h2⟩, h3, h4⟩
      have hl : P.1.length = o.length := by have := h1.len; have := ho.len; omega
      have e : P.1 = o := List.ext_getElem hl fun i a b => by
        have := h4 i b
        rwa [getD_lt a, getD_lt b] at this
      exact ⟨P.2, (h.2 _).2 (by rw [← e]; exact h2), by rw [← e]⟩
def EnOP (c d : Cat) (pre : List Int) (y : Nat) (L : List (List Int × List Int)) : Prop := L.Pairwise plt ∧ ∀ P, P ∈ L ↔ (Fn c d P ∧ Agr pre P.1) ∧ P.1.getD pre.length 0 < y
theorem EnOP.zero {pre : List Int} (hpre : (pre.length : Int) < c.ob) : EnOP c d pre 0 [] :=
  ⟨List.Pairwise.nil, fun P => ⟨fun h => (by cases h), fun ⟨⟨h1, _⟩, h3⟩ => by
    have := h1.1.rng pre.length (by have := h1.1.len; omega)
    omega⟩⟩
theorem agr_snoc {pre o : List Int} {y : Int} : Agr (pre ++ [y]) o ↔ Agr pre o ∧ pre.length < o.length ∧ o.getD pre.length 0 = y := by
  have get : ∀ i, i < pre.length → (pre ++ [y]).getD i 0 = pre.getD i 0 := fun i hi => by
    rw [List.getD_eq_getElem?_getD, List.getElem?_append_left hi, ← List.getD_eq_getElem?_getD]
  have gl : (pre ++ [y]).getD pre.length 0 = y := by simp
  constructor
  · rintro ⟨h1, h2⟩
    simp only [List.length_append, List.length_cons, List.length_nil] at h1 h2
    exact ⟨⟨by omega, fun i hi => by rw [h2 i (by omega), get i hi]⟩, by omega, by rw [h2 pre.length (by omega), gl]⟩
  · rintro ⟨⟨h1, h2⟩, h3, h4⟩
    refine ⟨by simp; omega, fun i hi => ?_⟩
    simp only [List.length_append, List.length_cons, List.length_nil] at hi
    by_cases h : i < pre.length
    · rw [h2 i h, get i h]
    · rw [show i = pre.length by omega, h4, gl]
theorem EnOP.step {pre : List Int} (hpre : (pre.length : Int) < c.ob) {y : Nat} {L L1 : List (List Int × List Int)} (h : EnOP c d pre y L) (h1 : EnO c d (pre ++ [(y : Int)]) L1) : EnOP c d pre (y + 1) (L ++ L1) := by
  refine ⟨List.pairwise_append.2 ⟨h.1, h1.1, fun P hP Q hQ => ?_⟩, fun P => ?_⟩
  · obtain ⟨⟨_, a1, a2⟩, a3⟩ := (h.2 P).1 hP
    obtain ⟨_, b1⟩ := (h1.2 Q).1 hQ
    obtain ⟨⟨b2, b3⟩, b4, b5⟩ := agr_snoc.1 b1
    exact .inl ⟨pre.length, fun j hj => by rw [a2 j hj, b3 j hj], by omega⟩
  · rw [List.mem_append, h.2, h1.2, agr_snoc]
    constructor
    · rintro (⟨h2, h3⟩ | ⟨h2, h3, h4, h5⟩)
      · exact ⟨h2, by omega⟩
      · exact ⟨⟨h2, h3⟩, by omega⟩
    · rintro ⟨⟨h2, h3⟩, h4⟩
      by_cases hy : P.1.getD pre.length 0 < y
      · exact .inl ⟨⟨h2, h3⟩, hy⟩
      · exact .inr ⟨h2, h3, by have := h2.1.len; omega, by omega⟩
theorem EnOP.done {pre : List Int} (hpre : (pre.length : Int) < c.ob) {y : Nat} (hy : (y : Int) = d.ob) {L : List (List Int × List Int)} (h : EnOP c d pre y L) : EnO c d pre L := by
  refine ⟨h.1, fun P => ?_⟩
  rw [h.2]
  refine ⟨fun hh => hh.1, fun hh => ⟨hh, ?_⟩⟩
  have := hh.1.1.rng pre.length (by have := hh.1.1.len; omega)
  omega
theorem EnO.none {pre : List Int} {L : List (List Int × List Int)} (h : EnO c d pre L) (hn : ∀ P, Fn c d P → ¬ Agr pre P.1) : L = [] := by
  cases L with
  | nil => rfl
  | cons P L => have := (h.2 P).1 (by simp); exact (hn P this.1 this.2).elim
theorem EnO.nil {pre : List Int} (hn : ∀ P, Fn c d P → ¬ Agr pre P.1) : EnO c d pre [] := ⟨List.Pairwise.nil, fun P => ⟨fun h => (by cases h), fun h => (hn P h.1 h.2).elim⟩⟩
theorem EnO.exists (hc : c.Shape) (hd : d.Shape) : ∀ (n : Nat) {pre : List Int}, (pre.length : Int) + n = c.ob → (∀ i, i < pre.length → 0 ≤ pre.getD i 0 ∧ pre.getD i 0 < d.ob) → ∃ L, EnO c d pre L
  | 0, pre, hn, hr => by
    have ho : Full c d pre := ⟨by omega, hr⟩
    obtain ⟨L, hL⟩ := En.exists _ (Nat.le_refl _) (stF_typed hc hd ho (Nat.le_refl _))
    exact ⟨_, EnO.leaf ho hL⟩
  | n + 1, pre, hn, hr => by
    have hpre : (pre.length : Int) < c.ob := by omega
    have key : ∀ y : Nat, (y : Int) ≤ d.ob → ∃ L, EnOP c d pre y L := by
      intro y
      induction y with
      | zero => exact fun _ => ⟨[], EnOP.zero hpre⟩
      | succ y ih =>
        intro hy
        obtain ⟨L, hL⟩ := ih (by omega)
        obtain ⟨L1, hL1⟩ := EnO.exists hc hd n (pre := pre ++ [(y : Int)]) (by simp; omega) (fun i hi => by
          simp only [List.length_append, List.length_cons, List.length_nil] at hi
          by_cases h : i < pre.length
          · rw [List.getD_eq_getElem?_getD, List.getElem?_append_left h, ← List.getD_eq_getElem?_getD]; exact hr i h
          · rw [show i = pre.length by omega]; simp; omega)
        exact ⟨_, hL.step hpre hL1⟩
    have := hd.ob0
    obtain ⟨L, hL⟩ := key d.ob.toNat (by omega)
    exact ⟨L, hL.done hpre (by omega)⟩
theorem snoc_rng {pre : List Int} {y : Nat} (hr : ∀ i, i < pre.length → 0 ≤ pre.getD i 0 ∧ pre.getD i 0 < d.ob) (hy : (y : Int) < d.ob) : ∀ i, i < (pre ++ [(y : Int)]).length → 0 ≤ (pre ++ [(y : Int)]).getD i 0 ∧ (pre ++ [(y : Int)]).getD i 0 < d.ob := fun i hi => by
  simp only [List.length_append, List.length_cons, List.length_nil] at hi
  by_cases h : i < pre.length
  · rw [List.getD_eq_getElem?_getD, List.getElem?_append_left h, ← List.getD_eq_getElem?_getD]; exact hr i h
  · rw [show i = pre.length by omega]; simp; omega
theorem EnOP.extend (hc : c.Shape) (hd : d.Shape) {pre : List Int} (hpre : (pre.length : Int) < c.ob) (hr : ∀ i, i < pre.length → 0 ≤ pre.getD i 0 ∧ pre.getD i 0 < d.ob) {y : Nat} {Li : List (List Int × List Int)} (h : EnOP c d pre y Li) :
    ∀ k : Nat, (y : Int) + k ≤ d.ob → ∃ R, EnOP c d pre (y + k) (Li ++ R)
  | 0, _ => ⟨[], by simpa using h⟩
  | k + 1, hk => by
    obtain ⟨R, hR⟩ := EnOP.extend hc hd hpre hr h k (by omega)
    obtain ⟨L1, hL1⟩ := EnO.exists hc hd (c.ob.toNat - pre.length - 1) (pre := pre ++ [((y + k : Nat) : Int)]) (by simp; omega) (snoc_rng hr (by omega))
    exact ⟨R ++ L1, by rw [← List.append_assoc, ← Nat.add_assoc]; exact hR.step hpre hL1⟩
theorem EnOP.pre (hc : c.Shape) (hd : d.Shape) {pre : List Int} (hpre : (pre.length : Int) < c.ob) (hr : ∀ i, i < pre.length → 0 ≤ pre.getD i 0 ∧ pre.getD i 0 < d.ob) {y : Nat} {Li L : List (List Int × List Int)} (h : EnOP c d pre y Li) (hy : (y : Int) ≤ d.ob) (hL : EnO c d pre L) : ∃ R, L = Li ++ R := by
  obtain ⟨R, hR⟩ := h.extend hc hd hpre hr (d.ob.toNat - y) (by omega)
  exact ⟨R, hL.eq (hR.done hpre (by omega))⟩

/-- The functors of pairs of lists. -/
def mkO (c d : Cat) (L : List (List Int × List Int)) : List Ftr := L.map fun P => ⟨c, d, P.1, P.2⟩
theorem mkO_app {L R : List (List Int × List Int)} : mkO c d (L ++ R) = mkO c d L ++ mkO c d R := by simp [mkO]
theorem mkO_leaf {o : List Int} {L : List (List Int)} : mkO c d (L.map fun F => (o, F)) = mkF c d o L := by simp [mkO, mkF]

/-- Where the images of the ends of an arrow have no arrow between them, there is no functor. -/
theorem no_hom {P : List Int × List Int} (h : Fn c d P) {i : Nat} (hi : i < c.fr.length) (h0 : d.hom (P.1.getD (c.fr.getD i 0).toNat 0) (P.1.getD (c.to.getD i 0).toNat 0) = []) : False := by
  have h1 := h.2.1.tot i hi
  obtain ⟨h2, h3, h4⟩ := h.2.1.ty.get hi h1
  have := (Cat.mem_hom (c := d)).2 ⟨h1, h2, h3, h4⟩
  rw [h0] at this
  cases this
end Go.D3

/- CONTRACTS: the search over the images of objects. -/
namespace Go.D3
open Go
set_option maxRecDepth 100000

theorem gset_ne {l : List Int} {i j : Nat} {x : Int} (h : i ≠ j) : (l.set i x).getD j 0 = l.getD j 0 := by
  rw [List.getD_eq_getElem?_getD, List.getElem?_set_ne h, ← List.getD_eq_getElem?_getD]
theorem gset_eq {l : List Int} {i : Nat} {x : Int} (h : i < l.length) : (l.set i x).getD i 0 = x := by
  rw [List.getD_eq_getElem?_getD, List.getElem?_set_self h]; rfl
theorem Agr.full {c d : Cat} {pre o : List Int} (h : Agr pre o) (hl : pre.length = o.length) (hp : (pre.length : Int) = c.ob) (hr : ∀ i, i < pre.length → 0 ≤ pre.getD i 0 ∧ pre.getD i 0 < d.ob) : pre = o ∧ Full c d o := by
  have e : pre = o := List.ext_getElem hl fun i a b => by
    have := h.2 i a
    rw [getD_lt a, getD_lt b] at this
    exact this.symm
  exact ⟨e, by rw [← e]; exact ⟨hp, hr⟩⟩
theorem Agr.set {pre o : List Int} {y : Int} (h : Agr pre o) (hl : pre.length < o.length) : Agr (pre ++ [y]) (o.set pre.length y) := by
  rw [agr_snoc]
  refine ⟨⟨by rw [List.length_set]; exact h.1, fun i hi => ?_⟩, by rw [List.length_set]; exact hl, gset_eq hl⟩
  rw [gset_ne (by omega)]; exact h.2 i hi

/-- What 'run' tells. -/
def RunQ (c d : Cat) (M : Nat) (pre o p : List Int) (l : List Ftr) (L : List (List Int × List Int)) (rc : D) (gs' : List D) : Prop :=
  ∃ ok o' p', o'.length = o.length ∧ Agr pre o' ∧ p'.length = p.length ∧ ok = decide ((l ++ mkO c d L).length ≤ M) ∧ rc = .bool ok ∧ gs' = gS c d M o' p' ((l ++ mkO c d L).take (M + 1))

-- (*impl.search).run
def c_impl_search_run : C :=
  (.seq (.ops [] [⟨none, .asg 2 (.k (.bool false))⟩] [])
  (.seq (.opc [] [⟨none, .mv (.v 1)⟩,
    ⟨none, .mv (.v 0)⟩,
    ⟨none, .nck (.t 1)⟩,
    ⟨none, .fA 0 (.t 2)⟩,
    ⟨none, .ld (.t 3)⟩,
    ⟨none, .nck (.t 4)⟩,
    ⟨none, .fA 0 (.t 5)⟩,
    ⟨none, .ld (.t 6)⟩,
    ⟨none, .bin .eql (.t 0) (.t 7)⟩] [] (.t 8) (.seq (.seq (.ops [7] [⟨none, .mv (.v 0)⟩,
    ⟨none, .nck (.t 0)⟩,
    ⟨none, .fA 3 (.t 1)⟩,
    ⟨none, .ld (.t 2)⟩,
    ⟨none, .len (.t 3)⟩,
    ⟨none, .asg 8 (.i 0)⟩] [(7, 4)])
  (.block 0 (.loop (.opq [] [⟨none, .bin .lss (.v 8) (.v 7)⟩] [] (.t 0) .skip
  (.exit 0)
  (.seq (.block 1 (.seq (.ops [] [⟨none, .mv (.v 8)⟩,
    ⟨none, .asg 3 (.t 0)⟩] [])
  (.ops [] [⟨none, .mv (.v 0)⟩,
    ⟨none, .nck (.t 0)⟩,
    ⟨none, .fA 3 (.t 1)⟩,
    ⟨none, .ld (.t 2)⟩,
    ⟨none, .mv (.v 3)⟩,
    ⟨none, .idxA 1 (.t 3) (.t 4)⟩,
    ⟨none, .st (.t 5) (.i (-1))⟩] [])))
  (.ops [] [⟨none, .bin .add (.v 8) (.i 1)⟩,
    ⟨none, .asg 8 (.t 0)⟩] []))))))
  (.seq (.seq (.ops [9, 10] [⟨none, .mv (.v 0)⟩,
    ⟨none, .nck (.t 0)⟩,
    ⟨none, .fA 0 (.t 1)⟩,
    ⟨none, .ld (.t 2)⟩,
    ⟨none, .nck (.t 3)⟩,
    ⟨none, .fA 3 (.t 4)⟩,
    ⟨none, .ld (.t 5)⟩,
    ⟨none, .len (.t 6)⟩,
    ⟨none, .asg 11 (.i 0)⟩] [(9, 6), (10, 7)])
  (.block 2 (.loop (.opq [] [⟨none, .bin .lss (.v 11) (.v 10)⟩] [] (.t 0) .skip
  (.exit 2)
  (.seq (.block 3 (.seq (.ops [] [⟨none, .mv (.v 11)⟩,
    ⟨none, .idxA 1 (.v 9) (.v 11)⟩,
    ⟨none, .ld (.t 1)⟩,
    ⟨none, .asg 4 (.t 0)⟩,
    ⟨none, .asg 5 (.t 2)⟩] [])
  (.ops [] [⟨none, .mv (.v 0)⟩,
    ⟨none, .nck (.t 0)⟩,
    ⟨none, .fA 3 (.t 1)⟩,
    ⟨none, .ld (.t 2)⟩,
    ⟨none, .mv (.v 5)⟩,
    ⟨none, .mv (.v 0)⟩,
    ⟨none, .nck (.t 5)⟩,
    ⟨none, .fA 1 (.t 6)⟩,
    ⟨none, .ld (.t 7)⟩,
    ⟨none, .nck (.t 8)⟩,
    ⟨none, .fA 3 (.t 9)⟩,
    ⟨none, .ld (.t 10)⟩,
    ⟨none, .mv (.v 0)⟩,
    ⟨none, .nck (.t 12)⟩,
    ⟨none, .fA 2 (.t 13)⟩,
    ⟨none, .ld (.t 14)⟩,
    ⟨none, .mv (.v 4)⟩,
    ⟨none, .idxA 1 (.t 15) (.t 16)⟩,
    ⟨none, .ld (.t 17)⟩,
    ⟨none, .idxA 1 (.t 11) (.t 18)⟩,
    ⟨none, .ld (.t 19)⟩,
    ⟨none, .idxA 1 (.t 3) (.t 4)⟩,
    ⟨none, .st (.t 21) (.t 20)⟩] [])))
  (.ops [] [⟨none, .bin .add (.v 11) (.i 1)⟩,
    ⟨none, .asg 11 (.t 0)⟩] []))))))
  (.seq (.opc [] [⟨none, .mv (.v 0)⟩,
    ⟨none, .dyn (.k (.fn 167 [])) [(.t 0)]⟩,
    ⟨none, .not (.t 1)⟩] [] (.t 2) (.seq (.ops [] [⟨none, .asg 2 (.k (.bool true))⟩] [])
  .ret)
  .skip)
  (.seq (.ops [] [⟨none, .mv (.v 0)⟩,
    ⟨none, .dyn (.k (.fn 168 [])) [(.t 0)]⟩,
    ⟨none, .asg 2 (.t 1)⟩] [])
  .ret))))
  .skip)
  (.seq (.seq (.ops [] [⟨none, .asg 6 (.i 0)⟩] [])
  (.block 4 (.loop (.seq (.opc [] [⟨none, .mv (.v 6)⟩,
    ⟨none, .mv (.v 0)⟩,
    ⟨none, .nck (.t 1)⟩,
    ⟨none, .fA 1 (.t 2)⟩,
    ⟨none, .ld (.t 3)⟩,
    ⟨none, .nck (.t 4)⟩,
    ⟨none, .fA 0 (.t 5)⟩,
    ⟨none, .ld (.t 6)⟩,
    ⟨none, .bin .lss (.t 0) (.t 7)⟩] [] (.t 8) .skip
  (.exit 4))
  (.seq (.block 5 (.seq (.opc [] [⟨none, .mv (.v 0)⟩,
    ⟨none, .nck (.t 0)⟩,
    ⟨none, .fA 4 (.t 1)⟩,
    ⟨none, .ld (.t 2)⟩,
    ⟨none, .mv (.t 3)⟩,
    ⟨some (4, true), .mv (.v 0)⟩,
    ⟨some (4, true), .nck (.t 5)⟩,
    ⟨some (4, true), .fA 2 (.t 6)⟩,
    ⟨some (4, true), .ld (.t 7)⟩,
    ⟨some (4, true), .mv (.v 1)⟩,
    ⟨some (4, true), .sl (.t 8) none (some (.t 9))⟩,
    ⟨some (4, true), .mv (.v 6)⟩,
    ⟨some (4, true), .call 169 [(.t 10), (.t 11)]⟩,
    ⟨none, .pick (.t 4) (.t 12) (.k (.bool false))⟩] [] (.t 13) (.exit 5)
  .skip)
  (.seq (.ops [] [⟨none, .mv (.v 0)⟩,
    ⟨none, .nck (.t 0)⟩,
    ⟨none, .fA 2 (.t 1)⟩,
    ⟨none, .ld (.t 2)⟩,
    ⟨none, .mv (.v 1)⟩,
    ⟨none, .mv (.v 6)⟩,
    ⟨none, .idxA 1 (.t 3) (.t 4)⟩,
    ⟨none, .st (.t 6) (.t 5)⟩] [])
  (.opc [] [⟨none, .mv (.v 0)⟩,
    ⟨none, .mv (.v 1)⟩,
    ⟨none, .call 170 [(.t 0), (.t 1)]⟩,
    ⟨none, .mv (.t 2)⟩,
    ⟨some (3, true), .mv (.v 0)⟩,
    ⟨some (3, true), .mv (.v 1)⟩,
    ⟨some (3, true), .bin .add (.t 5) (.i 1)⟩,
    ⟨some (3, true), .dyn (.k (.fn 135 [])) [(.t 4), (.t 6)]⟩,
    ⟨some (3, true), .not (.t 7)⟩,
    ⟨none, .pick (.t 3) (.t 8) (.k (.bool false))⟩] [] (.t 9) (.seq (.ops [] [⟨none, .asg 2 (.k (.bool false))⟩] [])
  .ret)
  .skip))))
  (.ops [] [⟨none, .mv (.v 6)⟩,
    ⟨none, .bin .add (.t 0) (.i 1)⟩,
    ⟨none, .asg 6 (.t 1)⟩] []))))))
  (.seq (.ops [] [⟨none, .asg 2 (.k (.bool true))⟩] [])
  .ret))))
def tr_impl_search_run : List Nat := [0, 1, 4, 5, 6, 7, 8, 22, 23, 39, 40, 41]
def rs_impl_search_run : List RS := [.t 2]
theorem ok_impl_search_run : fnOk Go.Proofs.Try.prog Go.Proofs.Try.f135 tr_impl_search_run c_impl_search_run 2 rs_impl_search_run = true := by decide +kernel

theorem run_leaf (c d : Cat) (M : Nat) (hM : M ≤ 1000000) (hc : c.Shape) (hd : d.Shape) (hcc : Cat.cost c ≤ 1048576) (hcd : Cat.cost d ≤ 1048576) (o p : List Int) (l : List Ftr) (L : List (List Int × List Int))
    (ho : Full c d o) (hp : p.length = c.fr.length) (hl : l.length ≤ M) (hL : EnO c d o L) :
    RetE Go.Proofs.Try.prog 135 [.adr 0 [(0, 0)], .int .i64 c.ob] (gS c d M o p l) (RunQ c d M o o p l L) := by
  have hfl := hc.fr
  have hdl := hd.fr
  have hob := hc.ob8
  have hci := hc.idn
  have hdi := hd.idn
  have hol := ho.len
  obtain ⟨L1, hL1⟩ := En.exists _ (Nat.le_refl _) (stF_typed hc hd ho (Nat.le_refl _))
  have hLL : L = L1.map fun F => (o, F) := hL.eq (EnO.leaf ho hL1)
  subst hLL
  refine ret_fnE .tree Go.Proofs.Try.func135 rfl ok_impl_search_run rfl ⟨by simp only [List.length_cons, List.length_nil]; decide, by simp only [List.length_cons, List.length_nil]; decide⟩ rfl ?_; unfold c_impl_search_run tr_impl_search_run rs_impl_search_run; simp only [go_sem, Nat.reduceLT, Nat.reduceAdd, Nat.reduceSub, Nat.reduceBEq, Nat.reduceLeDiff, ↓reduceIte]
  refine ⟨?_, fun h => by simp at h⟩
  refine loop_set [3] (fun s : Nat × List Int => [(8, .int .i64 s.1), (12, .box [.ptr c.cells, .ptr d.cells, .o (ints o), .o (ints s.2), .bool false, foundD c d M 13])])
    (fun s => s.1 ≤ p.length ∧ s.2.length = p.length ∧ ∀ j, j < s.1 → s.2.getD j 0 = -1) (fun s => p.length - s.1) (0, p) (by simp only [go_sem, Nat.reduceLT, Nat.reduceBEq, ↓reduceIte]; rfl) ⟨Nat.zero_le _, rfl, fun j hj => absurd hj (Nat.not_lt_zero _)⟩ rfl ?_
  rintro ⟨i, q⟩ ⟨hi, hq, hq1⟩
  simp only at hi hq hq1
  simp only [go_sem, Nat.reduceLT, Nat.reduceAdd, Nat.reduceSub, Nat.reduceBEq, Nat.reduceLeDiff, ↓reduceIte]
  refine ⟨fun h => ⟨by omega, by omega, (i + 1, q.set i (-1)), ⟨h, by simp only [List.length_set]; exact hq, fun j hj => ?_⟩, by simp only; omega, by rw [wrap_lt h (by simp only [maxLen]; omega)] <;> rfl⟩, fun h => ?_⟩
  · simp only at hj ⊢
    rw [set_get (by omega)]
    by_cases hji : j = i
    · rw [if_pos hji]
    · rw [if_neg hji]; exact hq1 j (by omega)
  have hq2 : q = stF c d o 0 := List.ext_getElem (by rw [stF_len]; omega) fun j a b => by
    have := hq1 j (by omega)
    rw [getD_lt a] at this
    rw [this]; simp [stF_zero]
  subst hq2
  refine loop_set [4, 5] (fun i : Nat => [(11, .int .i64 i), (12, .box [.ptr c.cells, .ptr d.cells, .o (ints o), .o (ints (stF c d o i)), .bool false, foundD c d M 13])])
    (fun i => i ≤ c.idn.length) (fun i => c.idn.length - i) 0 (by simp only [go_sem, Nat.reduceLT, Nat.reduceBEq, ↓reduceIte]; rfl) (Nat.zero_le _) rfl ?_
  intro k hk
  simp only [go_sem, Nat.reduceLT, Nat.reduceAdd, Nat.reduceSub, Nat.reduceBEq, Nat.reduceLeDiff, ↓reduceIte]
  refine ⟨fun h => ?_, fun h => ?_⟩
  · obtain ⟨a1, a2, a3, a4⟩ := id_ends hc h
    have hr := ho.rng k (by omega)
    have hsl : (stF c d o k).length = c.fr.length := stF_len
    refine ⟨h, by omega, ⟨hr.1, by omega⟩, ⟨a1, by omega⟩, by omega, k + 1, h, by omega, ?_⟩
    rw [wrap_lt h (by simp only [maxLen]; omega), ← stF_succ] <;> rfl
  have hkk : k = c.idn.length := by omega
  subst hkk
  refine e_call [12, 13] false (ret_impl_search_spread c d M o _ l hc hd (stF_typed hc hd ho (Nat.le_refl _))) (by exact ⟨by decide, rfl⟩) (by repeat (first | exact trivial | refine ⟨rfl, ?_⟩)) (by repeat (first | exact trivial | refine ⟨.inl rfl, ?_⟩ | refine ⟨.inr ⟨rfl, rfl⟩, ?_⟩)) ?_
  rintro _ _ ⟨r, p1, ⟨hs1, hs2, hs3⟩, rfl, rfl⟩
  refine ⟨(by repeat (first | exact trivial | refine ⟨(fun h => by cases h), ?_⟩)), (fun h => by cases h), ?_⟩
  simp only [go_sem, Nat.reduceLT, Nat.reduceAdd, Nat.reduceSub, Nat.reduceBEq, Nat.reduceLeDiff, ↓reduceIte]
  refine ⟨fun hr => ?_, fun hr => ?_⟩
  · have hr : r = false := by simpa using hr
    have hL0 : L1 = [] := hL1.none (hs3 hr)
    subst hL0
    refine ⟨_, _, ⟨true, o, p1, rfl, ⟨Nat.le_refl _, fun _ _ => rfl⟩, by rw [hs1.ty.len, hp], by simpa [mkO] using hl, rfl, rfl⟩, rfl, rfl, rfl, ?_, trivial⟩
    rw [List.take_of_length_le (by simp [mkO]; omega)]; simp only [mkO, List.map_nil, List.append_nil]; rfl
  · have hr : r = true := by simpa using hr
    refine e_call [12, 13] false (ret_impl_search_next c d M hM o hc hd hol hcc hcd _ p1 l L1 (Nat.lt_succ_self _) hs1.ty (hs2 hr) hl ((En.spr hs1).1 hL1)) (by exact ⟨by decide, rfl⟩) (by repeat (first | exact trivial | refine ⟨rfl, ?_⟩)) (by repeat (first | exact trivial | refine ⟨.inl rfl, ?_⟩ | refine ⟨.inr ⟨rfl, rfl⟩, ?_⟩)) ?_
    rintro _ _ ⟨ok, p2, hok1, hok2, hok3, rfl, rfl⟩
    refine ⟨(by repeat (first | exact trivial | refine ⟨(fun h => by cases h), ?_⟩)), (fun h => by cases h), ?_⟩
    simp only [go_sem, Nat.reduceLT, Nat.reduceAdd, Nat.reduceSub, Nat.reduceBEq, Nat.reduceLeDiff, ↓reduceIte]
    refine ⟨_, _, ⟨ok, o, p2, rfl, ⟨Nat.le_refl _, fun _ _ => rfl⟩, by rw [hok2, hs1.ty.len, hp], by rw [mkO_leaf]; exact hok3, rfl, rfl⟩, rfl, rfl, rfl, ?_, trivial⟩
    rw [mkO_leaf]; rfl

theorem allB_false {n : Nat} {p : Nat → Bool} (h : allB n p = false) : ∃ i, i < n ∧ p i = false := by
  refine Classical.byContradiction fun hn => ?_
  rw [allB_iff.2 fun i hi => ?_] at h
  · cases h
  · cases hp : p i with
    | true => rfl
    | false => exact absurd ⟨i, hi, hp⟩ hn
theorem no_room {c d : Cat} (hc : c.Shape) {pre o : List Int} {y : Int} (_ : (pre ++ [y]).length ≤ o.length) (ha1 : Agr (pre ++ [y]) o) (h : plc c d o (pre.length : Int) = false) : ∀ P, Fn c d P → ¬ Agr (pre ++ [y]) P.1 := by
  intro P hP hA
  obtain ⟨i, hi, hb⟩ := allB_false h
  simp only [plB, Bool.or_eq_false_iff, decide_eq_false_iff_not, Int.not_lt] at hb
  obtain ⟨⟨⟨h1, h2⟩, _⟩, h3⟩ := hb
  have hf1 := mapB_get hc.frm hi
  have ht1 := mapB_get hc.tom (show i < c.to.length by have := hc.to; omega)
  have hlen : (pre ++ [y]).length = pre.length + 1 := by simp
  refine no_hom hP hi ?_
  rw [hA.2 _ (by rw [hlen]; omega), hA.2 _ (by rw [hlen]; omega), ← ha1.2 _ (by rw [hlen]; omega), ← ha1.2 _ (by rw [hlen]; omega)]
  have : (d.hom (o.getD (c.fr.getD i 0).toNat 0) (o.getD (c.to.getD i 0).toNat 0)).length < 1 := by simp only [Bool.not_eq_false', decide_eq_true_eq] at h3; omega
  exact List.eq_nil_of_length_eq_zero (by omega)

theorem run_step (c d : Cat) (M : Nat) (_ : M ≤ 1000000) (hc : c.Shape) (hd : d.Shape) (_ : Cat.cost c ≤ 1048576) (_ : Cat.cost d ≤ 1048576) (pre o p : List Int) (l : List Ftr) (L : List (List Int × List Int))
    (hpre : (pre.length : Int) < c.ob) (hrg : ∀ i, i < pre.length → 0 ≤ pre.getD i 0 ∧ pre.getD i 0 < d.ob) (ho : (o.length : Int) = c.ob) (hag : Agr pre o) (hp : p.length = c.fr.length) (hl : l.length ≤ M) (hL : EnO c d pre L)
    (ih : ∀ (y : Nat) (o' p' : List Int) (l' : List Ftr) (L' : List (List Int × List Int)), (y : Int) < d.ob → (o'.length : Int) = c.ob → Agr (pre ++ [(y : Int)]) o' → p'.length = c.fr.length → l'.length ≤ M → EnO c d (pre ++ [(y : Int)]) L' →
      RetE Go.Proofs.Try.prog 135 [.adr 0 [(0, 0)], .int .i64 ((pre.length + 1 : Nat) : Int)] (gS c d M o' p' l') (RunQ c d M (pre ++ [(y : Int)]) o' p' l' L')) :
    RetE Go.Proofs.Try.prog 135 [.adr 0 [(0, 0)], .int .i64 pre.length] (gS c d M o p l) (RunQ c d M pre o p l L) := by
  have hfl := hc.fr
  have hdl := hd.fr
  have hob := hc.ob8
  have hci := hc.idn
  have hdi := hd.idn
  have hdo := hd.ob8
  have hd0 := hd.ob0
  refine ret_fnE .tree Go.Proofs.Try.func135 rfl ok_impl_search_run rfl ⟨by simp only [List.length_cons, List.length_nil]; decide, by simp only [List.length_cons, List.length_nil]; decide⟩ rfl ?_; unfold c_impl_search_run tr_impl_search_run rs_impl_search_run; simp only [go_sem, Nat.reduceLT, Nat.reduceAdd, Nat.reduceSub, Nat.reduceBEq, Nat.reduceLeDiff, ↓reduceIte]
  refine ⟨fun h => by omega, fun _ => ?_⟩
  refine loop_set [] (fun s : Nat × List Int × List Int × List (List Int × List Int) => [(6, .int .i64 s.1), (12, .box [.ptr c.cells, .ptr d.cells, .o (ints s.2.1), .o (ints s.2.2.1), .bool false, foundD c d M 13]), (13, .box [.o (ftrs (l ++ mkO c d s.2.2.2))])])
    (fun s => (s.1 : Int) ≤ d.ob ∧ s.2.1.length = o.length ∧ Agr pre s.2.1 ∧ s.2.2.1.length = p.length ∧ EnOP c d pre s.1 s.2.2.2 ∧ (l ++ mkO c d s.2.2.2).length ≤ M) (fun s => d.ob.toNat - s.1) (0, o, p, []) (by simp only [go_sem]; rfl)
    ⟨by simpa using hd0, rfl, hag, rfl, EnOP.zero hpre, by simpa [mkO] using hl⟩ (by simp only [mkO, List.map_nil, List.append_nil]; rfl) ?_
  rintro ⟨y, o1, p1, Li⟩ ⟨hy, ho1, hag1, hp1, hEi, hli⟩
  simp only at hy ho1 hag1 hp1 hEi hli
  simp only [go_sem, Nat.reduceLT, Nat.reduceAdd, Nat.reduceSub, Nat.reduceEqDiff, Nat.reduceBEq, Nat.reduceLeDiff, ↓reduceIte]
  refine ⟨fun hyd => ?_, fun hyd => ?_⟩
  · refine callg_of (res := .bool false) (fun h => by cases h) rfl (fun h => by cases h) (.inl rfl) ?_
    simp only [go_sem, Nat.reduceLT, Nat.reduceAdd, Nat.reduceSub, Nat.reduceBEq, Nat.reduceLeDiff, ↓reduceIte]
    have hpl : pre.length < o1.length := by omega
    obtain ⟨L1, hL1⟩ := EnO.exists hc hd (c.ob.toNat - pre.length - 1) (pre := pre ++ [(y : Int)]) (by simp; omega) (snoc_rng hrg hyd)
    have hE1 : EnOP c d pre (y + 1) (Li ++ L1) := hEi.step hpre hL1
    refine ⟨hpl, hpl, ?_⟩
    have hag2 : Agr (pre ++ [(y : Int)]) (o1.set pre.length y) := hag1.set hpl
    have hsl : (o1.set pre.length (y : Int)).length = o1.length := List.length_set
    generalize hO2 : o1.set pre.length (y : Int) = o2 at hag2 hsl ⊢
    refine call_of (ret_impl_search_placed c d hc hd o2 (by omega) (ints p1) pre.length _) rfl (.inl rfl) ?_
    simp only [go_sem, Nat.reduceLT, Nat.reduceAdd, Nat.reduceSub, ↓reduceIte]
    have hw := wrap_lt hpl (by simp only [maxLen]; omega)
    refine dyn_guard (fun hr => ?_) (fun hr => ?_)
    · simp only [go_sem]
      refine e_callg [12, 13] false hr (ih y o2 p1 _ L1 hyd (by omega) hag2 (by omega) hli hL1) (by exact ⟨by decide, rfl⟩) (by repeat (first | exact trivial | refine ⟨rfl, ?_⟩)) (by refine ⟨.inl rfl, .inl ?_, trivial⟩; rw [hw]; rfl) ?_
      rintro _ _ ⟨ok, o3, p3, ho3, hag3, hp3, hok, rfl, rfl⟩
      refine ⟨(by repeat (first | exact trivial | refine ⟨(fun h => by cases h), ?_⟩)), (fun h => by cases h), rfl, ?_⟩
      simp only [go_sem, Nat.reduceLT, Nat.reduceAdd, Nat.reduceSub, Nat.reduceBEq, Nat.reduceLeDiff, ↓reduceIte]
      refine ⟨fun h2 => ?_, fun h2 => ?_⟩
      · have hno : ok = false := by rw [hr] at h2; simpa using h2
        rw [hok, decide_eq_false_iff_not] at hno
        obtain ⟨R, hR⟩ := EnOP.pre hc hd hpre hrg hE1 (by omega) hL
        have hout : (l ++ mkO c d L).take (M + 1) = (l ++ mkO c d Li ++ mkO c d L1).take (M + 1) := by
          rw [hR, mkO_app, mkO_app, ← List.append_assoc, ← List.append_assoc, take_stop hno]
        have hlen : ¬ (l ++ mkO c d L).length ≤ M := by
          rw [hR, mkO_app, mkO_app, ← List.append_assoc, ← List.append_assoc, List.length_append]; omega
        refine ⟨_, _, ⟨false, o3, p3, by omega, (agr_snoc.1 hag3).1, by omega, by rw [decide_eq_false hlen], rfl, rfl⟩, rfl, rfl, rfl, ?_, trivial⟩
        rw [hout]; rfl
      · have hok2 : ok = true := by rw [hr] at h2; simpa using h2
        rw [hok, decide_eq_true_eq] at hok2
        have hL2 : l ++ mkO c d (Li ++ L1) = (l ++ mkO c d Li ++ mkO c d L1).take (M + 1) := by rw [mkO_app, ← List.append_assoc, List.take_of_length_le (by omega)]
        refine ⟨(y + 1, o3, p3, Li ++ L1), ⟨by simp only; omega, by simp only; omega, (agr_snoc.1 hag3).1, by simp only; omega, hE1, by rw [mkO_app, ← List.append_assoc]; exact hok2⟩, by simp only; omega, by rw [wrap_lt (n := d.ob.toNat) (by omega) (by simp only [maxLen]; omega), ← hL2] <;> rfl⟩
    · simp only [go_sem, Nat.reduceLT, Nat.reduceAdd, Nat.reduceSub, Nat.reduceBEq, Nat.reduceLeDiff, ↓reduceIte]
      refine ⟨(fun h2 => by rw [hr] at h2; cases h2), (fun h2 => by rw [hr] at h2; cases h2), fun _ => ?_⟩
      have hL0 : L1 = [] := hL1.none (no_room hc (by simp; omega) hag2 hr)
      subst hL0
      refine ⟨(y + 1, o2, p1, Li), ⟨by simp only; omega, by simp only; omega, (agr_snoc.1 hag2).1, by simp only; omega, by simpa using hE1, hli⟩, by simp only; omega, by rw [wrap_lt (n := d.ob.toNat) (by omega) (by simp only [maxLen]; omega)] <;> rfl⟩
  · have hyy : (y : Int) = d.ob := by omega
    have hLL : L = Li := hL.eq (EnOP.done hpre hyy hEi)
    subst hLL
    refine ⟨_, _, ⟨true, o1, p1, ho1, hag1, hp1, by simpa using hli, rfl, rfl⟩, rfl, rfl, rfl, ?_, trivial⟩
    rw [List.take_of_length_le (by omega)]; rfl

theorem ret_impl_search_run (c d : Cat) (M : Nat) (hM : M ≤ 1000000) (hc : c.Shape) (hd : d.Shape) (hcc : Cat.cost c ≤ 1048576) (hcd : Cat.cost d ≤ 1048576) : ∀ (n : Nat) (pre o p : List Int) (l : List Ftr) (L : List (List Int × List Int)),
    (pre.length : Int) + n = c.ob → (∀ i, i < pre.length → 0 ≤ pre.getD i 0 ∧ pre.getD i 0 < d.ob) → (o.length : Int) = c.ob → Agr pre o → p.length = c.fr.length → l.length ≤ M → EnO c d pre L →
    RetE Go.Proofs.Try.prog 135 [.adr 0 [(0, 0)], .int .i64 pre.length] (gS c d M o p l) (RunQ c d M pre o p l L) := by
  intro n
  induction n with
  | zero =>
    intro pre o p l L hn hr ho ha hp hl hL
    obtain ⟨e, hF⟩ := ha.full (c := c) (d := d) (by omega) (by omega) hr
    subst e
    rw [show (pre.length : Int) = c.ob by omega]
    exact run_leaf c d M hM hc hd hcc hcd pre p l L hF hp hl hL
  | succ n ih =>
    intro pre o p l L hn hr ho ha hp hl hL
    refine run_step c d M hM hc hd hcc hcd pre o p l L (by omega) hr ho ha hp hl hL fun y o' p' l' L' hy ho' ha' hp' hl' hL' => ?_
    have := ih (pre ++ [(y : Int)]) o' p' l' L' (by simp; omega) (snoc_rng hr hy) ho' ha' hp' hl' hL'
    rwa [show (pre ++ [(y : Int)]).length = pre.length + 1 by simp] at this
end Go.D3

/- CONTRACTS: the program's lists of functors. -/
namespace Go.D3
open Go
set_option maxRecDepth 100000

-- impl.allFunctors
def c_impl_allFunctors : C :=
  (.seq (.ops [6, 7, 8] [⟨none, .boxv 1 (.v 0)⟩,
    ⟨none, .boxv 1 (.v 1)⟩,
    ⟨none, .boxv 1 (.v 3)⟩,
    ⟨none, .asg 4 (.k (.nils (.agg [.int .i64 0, ints [], ints [], ints [], intss [], .int .i64 0, ints [], ints [], ints [], intss [], ints [], ints []])))⟩,
    ⟨none, .asg 5 (.k (.bool false))⟩] [(6, 0), (7, 1), (8, 2)])
  (.seq (.ops [9] [⟨none, .bldS (.agg [.int .i64 0, ints [], ints [], ints [], intss [], .int .i64 0, ints [], ints [], ints [], intss [], ints [], ints []]) 0 []⟩,
    ⟨none, .alc [.nils (.agg [.int .i64 0, ints [], ints [], ints [], intss [], .int .i64 0, ints [], ints [], ints [], intss [], ints [], ints []])]⟩,
    ⟨none, .st (.t 1) (.t 0)⟩] [(9, 1)])
  (.seq (.ops [10] [⟨none, .ld (.v 6)⟩,
    ⟨none, .ld (.v 7)⟩,
    ⟨none, .mv (.v 2)⟩,
    ⟨none, .mkf 134 [(.v 9), (.v 6), (.v 7), (.v 8)]⟩,
    ⟨none, .dyn (.k (.fn 133 [])) [(.t 0), (.t 1), (.t 2), (.t 3)]⟩,
    ⟨none, .bo (.t 4)⟩] [(10, 5)])
  (.seq (.ops [] [⟨none, .mv (.v 10)⟩,
    ⟨none, .dyn (.k (.fn 135 [])) [(.t 0), (.i 0)]⟩,
    ⟨none, .asg 11 (.t 1)⟩] [])
  (.seq (.ops [] [⟨none, .ld (.v 9)⟩,
    ⟨none, .mv (.v 11)⟩,
    ⟨none, .asg 4 (.t 0)⟩,
    ⟨none, .asg 5 (.t 1)⟩] [])
  .ret)))))
def tr_impl_allFunctors : List Nat := [0, 1, 2, 3, 8, 9, 4, 5, 7, 10, 11, 12]
def rs_impl_allFunctors : List RS := [.t 4, .t 5]
theorem ok_impl_allFunctors : fnOk Go.Proofs.Try.prog Go.Proofs.Try.f91 tr_impl_allFunctors c_impl_allFunctors 4 rs_impl_allFunctors = true := by decide +kernel

theorem ret_impl_allFunctors (c d : Cat) (M : Nat) (hM : M ≤ 1000000) (hc : c.Shape) (hd : d.Shape) (hcc : Cat.cost c ≤ 1048576) (hcd : Cat.cost d ≤ 1048576) (L : List (List Int × List Int)) (hL : EnO c d [] L) :
    Ret Go.Proofs.Try.prog 91 [.v (.ptr c.cells), .v (.ptr d.cells), .v (.bool false), .v (.int .i64 M)] (.tup [ftrs ((mkO c d L).take (M + 1)), .bool (decide ((mkO c d L).length ≤ M))]) := by
  have hfl := hc.fr
  have hob := hc.ob8
  have hob0 := hc.ob0
  refine ret_fn Go.Proofs.Try.func91 ok_impl_allFunctors rfl (show 4 < 500 by decide) rfl ?_; unfold c_impl_allFunctors tr_impl_allFunctors rs_impl_allFunctors; simp only [go_sem, Nat.reduceLT, Nat.reduceAdd, Nat.reduceSub, Nat.reduceEqDiff, ↓reduceIte]
  refine g_call [9] false (ret_impl_searchFor c d M [] (by omega) (by omega) (by omega)) (by exact ⟨by decide, rfl⟩) (by repeat (first | exact trivial | refine ⟨rfl, ?_⟩)) (by repeat (first | exact trivial | refine ⟨.inl rfl, ?_⟩ | refine ⟨.inr ⟨rfl, rfl⟩, ?_⟩)) (by repeat (first | exact trivial | refine ⟨(fun h => by cases h), ?_⟩)) (fun h => by cases h) ?_
  simp only [go_sem, Nat.reduceLT, Nat.reduceAdd, Nat.reduceSub, Nat.reduceBEq, Nat.reduceLeDiff, ↓reduceIte]
  refine e_call [10, 9] false (ret_impl_search_run c d M hM hc hd hcc hcd c.ob.toNat [] (List.replicate c.ob.toNat 0) (List.replicate c.fr.length 0) [] L (by simp only [List.length_nil]; omega) (fun i hi => absurd hi (Nat.not_lt_zero _)) (by rw [List.length_replicate]; omega) ⟨Nat.zero_le _, fun i hi => absurd hi (Nat.not_lt_zero _)⟩ List.length_replicate (Nat.zero_le _) hL) (by exact ⟨by decide, rfl⟩) (by repeat (first | exact trivial | refine ⟨rfl, ?_⟩)) (by repeat (first | exact trivial | refine ⟨.inl rfl, ?_⟩ | refine ⟨.inr ⟨rfl, rfl⟩, ?_⟩)) ?_
  rintro _ _ ⟨ok, o', p', ho', _, hp', hok, rfl, rfl⟩
  refine ⟨(by repeat (first | exact trivial | refine ⟨(fun h => by cases h), ?_⟩)), (fun h => by cases h), ?_⟩
  simp only [go_sem, Nat.reduceLT, Nat.reduceAdd, Nat.reduceSub, Nat.reduceBEq, Nat.reduceLeDiff, ↓reduceIte]
  rw [hok]; rfl

-- impl.areCategories
def c_impl_areCategories : C :=
  (.seq (.ops [] [⟨none, .asg 1 (.k (.bool false))⟩] [])
  (.seq (.seq (.ops [4] [⟨none, .asg 3 (.v 0)⟩,
    ⟨none, .len (.v 3)⟩,
    ⟨none, .asg 5 (.i 0)⟩] [(4, 1)])
  (.block 0 (.loop (.opq [] [⟨none, .bin .lss (.v 5) (.v 4)⟩] [] (.t 0) .skip
  (.exit 0)
  (.seq (.block 1 (.seq (.ops [] [⟨none, .idxA 1 (.v 3) (.v 5)⟩,
    ⟨none, .ld (.t 0)⟩,
    ⟨none, .asg 2 (.t 1)⟩] [])
  (.opc [] [⟨none, .mv (.v 2)⟩,
    ⟨none, .call 68 [(.t 0)]⟩,
    ⟨none, .not (.t 1)⟩] [] (.t 2) (.seq (.ops [] [⟨none, .asg 1 (.k (.bool false))⟩] [])
  .ret)
  .skip)))
  (.ops [] [⟨none, .bin .add (.v 5) (.i 1)⟩,
    ⟨none, .asg 5 (.t 0)⟩] []))))))
  (.seq (.ops [] [⟨none, .asg 1 (.k (.bool true))⟩] [])
  .ret)))
def tr_impl_areCategories : List Nat := [0, 2, 4, 5, 6, 7]
def rs_impl_areCategories : List RS := [.t 1]
theorem ok_impl_areCategories : fnOk Go.Proofs.Try.prog Go.Proofs.Try.f89 tr_impl_areCategories c_impl_areCategories 1 rs_impl_areCategories = true := by decide +kernel

theorem isB_shape {c : Cat} (h : c.isB = true) : c.Shape := by
  simp only [Cat.isB, Bool.and_eq_true] at h; exact Cat.shapeB_iff.1 h.1
theorem ret_impl_areCategories (c d : Cat) : Ret Go.Proofs.Try.prog 89 [.v (.slice .nilp [.ptr c.cells, .ptr d.cells])] (.bool (c.isB && d.isB)) := by
  refine ret_fn Go.Proofs.Try.func89 ok_impl_areCategories rfl (show 1 < 500 by decide) rfl ?_; unfold c_impl_areCategories tr_impl_areCategories rs_impl_areCategories; simp only [go_sem, Nat.reduceLT, Nat.reduceAdd, Nat.reduceSub, ↓reduceIte]
  refine loop_set [2] (fun (i : Nat) => [(5, .int .i64 i)]) (fun i => i ≤ 2 ∧ (1 ≤ i → c.isB = true) ∧ (2 ≤ i → d.isB = true)) (fun i => 2 - i) 0 (by simp only [go_sem, Nat.reduceLT, ↓reduceIte]; rfl) ⟨Nat.zero_le _, fun h => by omega, fun h => by omega⟩ rfl ?_
  rintro i ⟨hi, h1, h2⟩
  obtain rfl | rfl | rfl : i = 0 ∨ i = 1 ∨ i = 2 := by omega
  · simp only [go_sem, Nat.reduceLT, Nat.reduceAdd, Nat.reduceSub, ↓reduceIte]
    refine call_of (ret_impl_Category_isCategory c) rfl (.inl rfl) ?_
    simp only [go_sem, Nat.reduceLT, Nat.reduceAdd, Nat.reduceSub, ↓reduceIte]
    exact ⟨fun h => by simp only [Bool.not_eq_true'] at h; rw [h]; rfl, fun h => ⟨1, ⟨by omega, fun _ => by simpa using h, fun h => by omega⟩, by omega, rfl⟩⟩
  · simp only [go_sem, Nat.reduceLT, Nat.reduceAdd, Nat.reduceSub, ↓reduceIte]
    refine call_of (ret_impl_Category_isCategory d) rfl (.inl rfl) ?_
    simp only [go_sem, Nat.reduceLT, Nat.reduceAdd, Nat.reduceSub, ↓reduceIte]
    exact ⟨fun h => by simp only [Bool.not_eq_true'] at h; rw [h, Bool.and_false], fun h => ⟨2, ⟨by omega, fun _ => h1 (by omega), fun _ => by simpa using h⟩, by omega, rfl⟩⟩
  · simp only [go_sem, Nat.reduceLT, Nat.reduceAdd, Nat.reduceSub, ↓reduceIte]
    rw [h1 (by omega), h2 (by omega)]; rfl

def smallB (c d : Cat) : Bool := decide ((c.fr.length : Int) - c.ob ≤ 8) && decide ((d.fr.length : Int) ≤ 16)
-- impl.movable
def c_impl_movable : C :=
  (.seq (.ops [] [⟨none, .asg 2 (.k (.bool false))⟩] [])
  (.seq (.ops [] [⟨none, .mv (.v 0)⟩,
    ⟨none, .call 111 [(.t 0)]⟩,
    ⟨none, .mv (.v 0)⟩,
    ⟨none, .nck (.t 2)⟩,
    ⟨none, .fA 0 (.t 3)⟩,
    ⟨none, .ld (.t 4)⟩,
    ⟨none, .bin .sub (.t 1) (.t 5)⟩,
    ⟨none, .bin .leq (.t 6) (.i 8)⟩,
    ⟨none, .mv (.t 7)⟩,
    ⟨some (8, true), .mv (.v 1)⟩,
    ⟨some (8, true), .call 111 [(.t 9)]⟩,
    ⟨some (8, true), .bin .leq (.t 10) (.i 16)⟩,
    ⟨none, .pick (.t 8) (.t 11) (.k (.bool false))⟩,
    ⟨none, .asg 2 (.t 12)⟩] [])
  .ret))
def tr_impl_movable : List Nat := [0, 1, 4]
def rs_impl_movable : List RS := [.t 2]
theorem ok_impl_movable : fnOk Go.Proofs.Try.prog Go.Proofs.Try.f90 tr_impl_movable c_impl_movable 2 rs_impl_movable = true := by decide +kernel

theorem ret_impl_movable (c d : Cat) (hc : c.Shape) : Ret Go.Proofs.Try.prog 90 [.v (.ptr c.cells), .v (.ptr d.cells)] (.bool (smallB c d)) := by
  have hfl := hc.fr
  have hob := hc.ob8
  have hob0 := hc.ob0
  refine ret_fn Go.Proofs.Try.func90 ok_impl_movable rfl (show 2 < 500 by decide) rfl ?_; unfold c_impl_movable tr_impl_movable rs_impl_movable; simp only [go_sem, Nat.reduceLT, Nat.reduceAdd, Nat.reduceSub, ↓reduceIte]
  refine call_of (ret_impl_Category_arrows c) rfl (.inl rfl) ?_
  simp only [go_sem, Nat.reduceLT, Nat.reduceAdd, Nat.reduceSub, ↓reduceIte]
  have hw : IntKind.i64.wrap ((c.fr.length : Int) - c.ob) = c.fr.length - c.ob := wrap_small (by omega) (by omega)
  simp only [hw]
  refine callg_of (fun _ => ret_impl_Category_arrows d) rfl (fun h => h) (.inl rfl) ?_
  simp only [go_sem, Nat.reduceLT, Nat.reduceAdd, Nat.reduceSub, ↓reduceIte]
  rfl

/-- What both sides answer. -/
def allF (c d : Cat) (L : List (List Int × List Int)) : List Ftr × Int := if (c.isB && d.isB) = false then ([], 1) else if smallB c d = false then ([], 3) else if (mkO c d L).length ≤ 200 then (mkO c d L, 0) else ([], 3)
abbrev allD (p : List Ftr × Int) : D := .tup [ftrs p.1, .int .i64 p.2]
-- impl.AllFunctors
def c_impl_AllFunctors : C :=
  (.seq (.ops [4, 5] [⟨none, .boxv 5 (.v 0)⟩,
    ⟨none, .boxv 5 (.v 1)⟩,
    ⟨none, .asg 2 (.k (.nils (.agg [.int .i64 0, ints [], ints [], ints [], intss [], .int .i64 0, ints [], ints [], ints [], intss [], ints [], ints []])))⟩,
    ⟨none, .asg 3 (.i 0)⟩] [(4, 0), (5, 1)])
  (.seq (.opc [] [⟨none, .bldS (.nilp) 2 [(0, (.v 4)), (1, (.v 5))]⟩,
    ⟨none, .call 89 [(.t 0)]⟩,
    ⟨none, .not (.t 1)⟩] [] (.t 2) (.seq (.ops [] [⟨none, .asg 2 (.k (.nils (.agg [.int .i64 0, ints [], ints [], ints [], intss [], .int .i64 0, ints [], ints [], ints [], intss [], ints [], ints []])))⟩,
    ⟨none, .asg 3 (.i 1)⟩] [])
  .ret)
  .skip)
  (.seq (.opc [] [⟨none, .call 90 [(.v 4), (.v 5)]⟩,
    ⟨none, .not (.t 0)⟩] [] (.t 1) (.seq (.ops [] [⟨none, .asg 2 (.k (.nils (.agg [.int .i64 0, ints [], ints [], ints [], intss [], .int .i64 0, ints [], ints [], ints [], intss [], ints [], ints []])))⟩,
    ⟨none, .asg 3 (.i 3)⟩] [])
  .ret)
  .skip)
  (.seq (.ops [] [⟨none, .call 91 [(.v 4), (.v 5), (.k (.bool false)), (.i 200)]⟩,
    ⟨none, .mv (.t 0)⟩,
    ⟨none, .ext 0 (.t 1)⟩,
    ⟨none, .ext 1 (.t 1)⟩,
    ⟨none, .asg 6 (.t 2)⟩,
    ⟨none, .asg 7 (.t 3)⟩] [])
  (.seq (.opc [] [⟨none, .mv (.v 7)⟩,
    ⟨none, .not (.t 0)⟩] [] (.t 1) (.seq (.ops [] [⟨none, .asg 2 (.k (.nils (.agg [.int .i64 0, ints [], ints [], ints [], intss [], .int .i64 0, ints [], ints [], ints [], intss [], ints [], ints []])))⟩,
    ⟨none, .asg 3 (.i 3)⟩] [])
  .ret)
  .skip)
  (.seq (.ops [] [⟨none, .mv (.v 6)⟩,
    ⟨none, .asg 2 (.t 0)⟩,
    ⟨none, .asg 3 (.i 0)⟩] [])
  .ret))))))
def tr_impl_AllFunctors : List Nat := [0, 1, 4, 5, 2, 3, 6, 7]
def rs_impl_AllFunctors : List RS := [.t 2, .t 3]
theorem ok_impl_AllFunctors : fnOk Go.Proofs.Try.prog Go.Proofs.Try.f43 tr_impl_AllFunctors c_impl_AllFunctors 2 rs_impl_AllFunctors = true := by decide +kernel

theorem ret_impl_AllFunctors (c d : Cat) (hcc : Cat.cost c ≤ 1048576) (hcd : Cat.cost d ≤ 1048576) (L : List (List Int × List Int)) (hL : c.Shape → d.Shape → EnO c d [] L) :
    Ret Go.Proofs.Try.prog 43 [.v c.d, .v d.d] (allD (allF c d L)) := by
  refine ret_fn Go.Proofs.Try.func43 ok_impl_AllFunctors rfl (show 2 < 500 by decide) rfl ?_; unfold c_impl_AllFunctors tr_impl_AllFunctors rs_impl_AllFunctors; simp only [go_sem, Nat.reduceLT, Nat.reduceAdd, Nat.reduceSub, ↓reduceIte]
  refine call_of (ret_impl_areCategories c d) rfl (.inl rfl) ?_
  simp only [go_sem, Nat.reduceLT, Nat.reduceAdd, Nat.reduceSub, ↓reduceIte]
  refine ⟨fun h => ?_, fun h => ?_⟩
  · simp only [Bool.not_eq_true'] at h
    unfold allF; rw [if_pos h]
  simp only [Bool.not_eq_false'] at h
  have h' := h
  simp only [Bool.and_eq_true] at h'
  have hc := isB_shape h'.1
  have hd := isB_shape h'.2
  refine call_of (ret_impl_movable c d hc) rfl (.inl rfl) ?_
  simp only [go_sem, Nat.reduceLT, Nat.reduceAdd, Nat.reduceSub, ↓reduceIte]
  refine ⟨fun h2 => ?_, fun h2 => ?_⟩
  · simp only [Bool.not_eq_true'] at h2
    unfold allF; rw [h, if_neg (by simp), if_pos h2]
  simp only [Bool.not_eq_false'] at h2
  refine call_of (ret_impl_allFunctors c d 200 (by decide) hc hd hcc hcd L (hL hc hd)) rfl (.inl (by simp only [D.novw, novwL, nv_lst nv_Ftr, Bool.and_true])) ?_
  simp only [go_sem, Nat.reduceLT, Nat.reduceAdd, Nat.reduceSub, Nat.reduceBEq, Nat.reduceLeDiff, ↓reduceIte]
  refine ⟨fun h3 => ?_, fun h3 => ?_⟩
  · simp only [Bool.not_eq_true', decide_eq_false_iff_not] at h3
    unfold allF; rw [h, h2, if_neg (by simp), if_neg (by simp), if_neg h3]
  · simp only [Bool.not_eq_false', decide_eq_true_eq] at h3
    unfold allF; rw [h, h2, if_neg (by simp), if_neg (by simp), if_pos h3, List.take_of_length_le (by omega)]
-- impl.CountFunctors
def c_impl_CountFunctors : C :=
  (.seq (.ops [4, 5] [⟨none, .boxv 5 (.v 0)⟩,
    ⟨none, .boxv 5 (.v 1)⟩,
    ⟨none, .asg 2 (.i 0)⟩,
    ⟨none, .asg 3 (.i 0)⟩] [(4, 0), (5, 1)])
  (.seq (.ops [] [⟨none, .lda 5 (.v 4)⟩,
    ⟨none, .lda 5 (.v 5)⟩,
    ⟨none, .call 43 [(.t 0), (.t 1)]⟩,
    ⟨none, .mv (.t 2)⟩,
    ⟨none, .ext 0 (.t 3)⟩,
    ⟨none, .ext 1 (.t 3)⟩,
    ⟨none, .asg 6 (.t 4)⟩,
    ⟨none, .asg 7 (.t 5)⟩] [])
  (.seq (.ops [] [⟨none, .mv (.v 6)⟩,
    ⟨none, .len (.t 0)⟩,
    ⟨none, .mv (.v 7)⟩,
    ⟨none, .asg 2 (.t 1)⟩,
    ⟨none, .asg 3 (.t 2)⟩] [])
  .ret)))
def tr_impl_CountFunctors : List Nat := [0, 1, 4, 5, 2, 3, 6, 7]
def rs_impl_CountFunctors : List RS := [.t 2, .t 3]
theorem ok_impl_CountFunctors : fnOk Go.Proofs.Try.prog Go.Proofs.Try.f19 tr_impl_CountFunctors c_impl_CountFunctors 2 rs_impl_CountFunctors = true := by decide +kernel

theorem ret_impl_CountFunctors (c d : Cat) (hcc : Cat.cost c ≤ 1048576) (hcd : Cat.cost d ≤ 1048576) (L : List (List Int × List Int)) (hL : c.Shape → d.Shape → EnO c d [] L) :
    Ret Go.Proofs.Try.prog 19 [.v c.d, .v d.d] (.tup [.int .i64 (allF c d L).1.length, .int .i64 (allF c d L).2]) := by
  refine ret_fn Go.Proofs.Try.func19 ok_impl_CountFunctors rfl (show 2 < 500 by decide) rfl ?_; unfold c_impl_CountFunctors tr_impl_CountFunctors rs_impl_CountFunctors; simp only [go_sem, Nat.reduceLT, Nat.reduceAdd, Nat.reduceSub, Nat.reduceLeDiff, ↓reduceIte]
  refine call_of (ret_impl_AllFunctors c d hcc hcd L hL) rfl (.inl (by simp only [D.novw, novwL, nv_lst nv_Ftr, Bool.and_true])) ?_
  simp only [go_sem, Nat.reduceLT, Nat.reduceAdd, Nat.reduceSub, Nat.reduceBEq, Nat.reduceLeDiff, ↓reduceIte]
end Go.D3
