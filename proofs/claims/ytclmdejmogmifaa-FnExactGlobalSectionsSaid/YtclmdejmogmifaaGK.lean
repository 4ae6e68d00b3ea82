/- CONTRACTS: the program's search for natural maps. -/
import Derived.Test.YtclmdejmogmifaaGI
import Derived.Test.YtclmdejmogmifaaGH
import Derived.Test.YtclmdejmogmifaaDraw
import Derived.Test.YtclmdejmogmifaaGJ
/- PLAIN LAWS: natural maps in their order. -/
namespace Go.D3
open Go

theorem countP_ltG {α : Type} {p q : α → Bool} : ∀ (L : List α), (∀ x ∈ L, q x = true → p x = true) → (∃ x ∈ L, p x = true ∧ q x = false) → L.countP q < L.countP p
  | [], _, h => by obtain ⟨x, hx, _⟩ := h; cases hx
  | a :: L, h, hx => by
    have hle : L.countP q ≤ L.countP p := List.countP_mono_left fun x hx hq => h x (by simp [hx]) hq
    obtain ⟨x, hx, h1, h2⟩ := hx
    rcases List.mem_cons.1 hx with rfl | hx
    · rw [List.countP_cons_of_pos h1, List.countP_cons_of_neg (by simp [h2])]; omega
    · have ih := countP_ltG L (fun x hx hq => h x (by simp [hx]) hq) ⟨x, hx, h1, h2⟩
      by_cases hq : q a = true
      · rw [List.countP_cons_of_pos hq, List.countP_cons_of_pos (h a (by simp) hq)]; omega
      · rw [List.countP_cons_of_neg hq]
        exact Nat.lt_of_lt_of_le ih (by rw [List.countP_cons]; omega)

def pc (P : List (List Int)) (x i : Nat) : Int := (P.getD x []).getD i 0
def Sf.fr (f : Sf) (a : Nat) : Nat := (f.shp.fr.getD a 0).toNat
def Sf.to (f : Sf) (a : Nat) : Nat := (f.shp.to.getD a 0).toNat
def Sf.sz1 (f : Sf) (x : Nat) : Nat := f.size (x : Int)
def Sf.im (f : Sf) (a i : Nat) : Nat := (f.ac a i).toNat

/-- Two set functors on one category. -/
structure Two (f g : Sf) : Prop where
  okf : f.Ok
  okg : g.Ok
  eq : g.shp = f.shp

section
variable {f g : Sf}
theorem Sf.Ok.frl (h : f.Ok) {a : Nat} (ha : a < f.shp.fr.length) : f.fr a < f.shp.idn.length := by
  have := h.cs.fri ha; unfold Sf.fr; omega
theorem Sf.Ok.tol (h : f.Ok) {a : Nat} (ha : a < f.shp.fr.length) : f.to a < f.shp.idn.length := by
  have := h.cs.toi ha; unfold Sf.to; omega
theorem Sf.Ok.iml (h : f.Ok) {a i : Nat} (ha : a < f.shp.fr.length) (hi : i < f.sz1 (f.fr a)) : f.im a i < f.sz1 (f.to a) := by
  have h1 := h.cs.fri ha
  have h2 := h.cs.toi ha
  unfold Sf.sz1 Sf.fr at hi
  rw [Int.toNat_of_nonneg h1.1] at hi
  have h3 := h.aci ha (e := i) (by omega) (by omega)
  unfold Sf.sz1 Sf.to Sf.im
  rw [Int.toNat_of_nonneg h2.1]
  omega
theorem Sf.Ok.acn (h : f.Ok) {a i : Nat} (ha : a < f.shp.fr.length) (hi : i < f.sz1 (f.fr a)) : f.ac a i = (f.im a i : Int) := by
  have h1 := h.cs.fri ha
  unfold Sf.sz1 Sf.fr at hi
  rw [Int.toNat_of_nonneg h1.1] at hi
  have h3 := h.aci ha (e := i) (by omega) (by omega)
  unfold Sf.im; omega
/-- The identity of an object. -/
theorem Sf.Ok.idm (h : f.Ok) {x : Nat} (hx : x < f.shp.idn.length) : ∀ i, i < f.sz1 x → f.im (f.shp.idn.getD x 0).toNat i = i := fun i hi => by
  have h1 := h.cs.idx hx
  have h3 := h.id x i hx hi
  unfold Sf.im
  unfold Cat.idI at h3
  rw [Int.toNat_natCast] at h3
  rw [Int.toNat_of_nonneg h1.1, h3]; simp
theorem Two.idn (h : Two f g) {x : Nat} (hx : x < f.shp.idn.length) : ∃ a, a < f.shp.fr.length ∧ f.fr a = x ∧ f.to a = x ∧ (∀ i, i < f.sz1 x → f.im a i = i) ∧ ∀ i, i < g.sz1 x → g.im a i = i := by
  have h1 := h.okf.cs.idx hx
  have h2 := h.okf.cs.ids x hx
  simp only [Cat.idB, Bool.and_eq_true, beq_iff_eq] at h2
  have h3 := h.okg.idm (x := x) (by rw [h.eq]; exact hx)
  rw [h.eq] at h3
  exact ⟨(f.shp.idn.getD x 0).toNat, by omega, by unfold Sf.fr; rw [h2.1]; simp, by unfold Sf.to; rw [h2.2]; simp, h.okf.idm hx, h3⟩
/-- Composites. -/
theorem Two.comp (h : Two f g) {a b : Nat} (ha : a < f.shp.fr.length) (hb : b < f.shp.fr.length) (hab : f.to a = f.fr b) : ∃ c, c < f.shp.fr.length ∧ f.fr c = f.fr a ∧ f.to c = f.to b ∧ (∀ i, i < f.sz1 (f.fr a) → f.im c i = f.im b (f.im a i)) ∧ ∀ i, i < g.sz1 (f.fr a) → g.im c i = g.im b (g.im a i) := by
  have h1 := h.okf.cs.fri ha
  have h2 := h.okf.cs.toi ha
  have h3 := h.okf.cs.fri hb
  have hab' : f.shp.to.getD a 0 = f.shp.fr.getD b 0 := by unfold Sf.to Sf.fr at hab; omega
  obtain ⟨c0, c1, c2, c3⟩ := h.okf.cs.cell_in ha hb hab'
  have key : ∀ {k : Sf}, k.Ok → k.shp = f.shp → ∀ i, i < k.sz1 (f.fr a) → k.im (f.shp.cellI a b).toNat i = k.im b (k.im a i) := by
    intro k hk hs i hi
    have hfr : k.fr a = f.fr a := by unfold Sf.fr; rw [hs]
    have h4 : i < k.size (k.shp.fr.getD a 0) := by
      rw [hs]; unfold Sf.sz1 Sf.fr at hi; rwa [Int.toNat_of_nonneg h1.1] at hi
    have h5 := hk.co a b i (by rw [hs]; exact ha) (by rw [hs]; exact hb) (by rw [hs]; exact hab') h4
    have h6 := hk.acn (a := a) (i := i) (by rw [hs]; exact ha) (by rw [hfr]; exact hi)
    rw [h6] at h5
    unfold Sf.im at h5 ⊢
    rw [hs] at h5
    rw [Int.toNat_of_nonneg c0, h5]
  exact ⟨(f.shp.cellI a b).toNat, by omega, by unfold Sf.fr; rw [c2], by unfold Sf.to; rw [c3], key h.okf rfl, key h.okg h.eq⟩

/-- Lists of images, -1 for unknown ones. -/
structure PT (f g : Sf) (P : List (List Int)) : Prop where
  len : P.length = f.shp.idn.length
  row : ∀ x, x < f.shp.idn.length → (P.getD x []).length = f.sz1 x
  rng : ∀ x i, x < f.shp.idn.length → i < f.sz1 x → pc P x i = -1 ∨ (0 ≤ pc P x i ∧ pc P x i < g.sz1 x)
/-- Natural maps. -/
structure NatM (f g : Sf) (m : List (List Int)) : Prop where
  ty : PT f g m
  tot : ∀ x i, x < f.shp.idn.length → i < f.sz1 x → 0 ≤ pc m x i
  nat : ∀ a i, a < f.shp.fr.length → i < f.sz1 (f.fr a) → pc m (f.to a) (f.im a i) = g.im a (pc m (f.fr a) i).toNat
def ExM (f : Sf) (P m : List (List Int)) : Prop := ∀ x i, x < f.shp.idn.length → i < f.sz1 x → 0 ≤ pc P x i → pc m x i = pc P x i
def mlt (m m' : List (List Int)) : Prop := ∃ x i, (∀ x' i', (x' < x ∨ (x' = x ∧ i' < i)) → pc m x' i' = pc m' x' i') ∧ pc m x i < pc m' x i
theorem mlt_asymm (m m' : List (List Int)) (h : mlt m m') : ¬ mlt m' m := by
  rintro ⟨y, j, h3, h4⟩
  obtain ⟨x, i, h1, h2⟩ := h
  by_cases h5 : y < x ∨ (y = x ∧ j < i)
  · have := h1 y j h5; omega
  · by_cases h6 : x < y ∨ (x = y ∧ i < j)
    · have := h3 x i h6; omega
    · obtain ⟨rfl, rfl⟩ : x = y ∧ i = j := by omega
      omega
def EnM (f g : Sf) (P : List (List Int)) (L : List (List (List Int))) : Prop := L.Pairwise mlt ∧ ∀ m, m ∈ L ↔ NatM f g m ∧ ExM f P m
theorem EnM.eq {P : List (List Int)} {L L' : List (List (List Int))} (h : EnM f g P L) (h' : EnM f g P L') : L = L' := sorted_eq mlt_asymm h.1 h'.1 fun P => (h.2 P).trans (h'.2 P).symm
theorem pc_set {P : List (List Int)} {y i y' i' : Nat} {v : Int} (hy : y < P.length) (hi : i < (P.getD y []).length) : pc (P.set y ((P.getD y []).set i v)) y' i' = if y' = y ∧ i' = i then v else pc P y' i' := by
  unfold pc
  by_cases h : y' = y
  · subst h
    rw [List.getD_eq_getElem?_getD (l := P.set _ _), List.getElem?_set_self hy, Option.getD_some]
    by_cases h2 : i' = i
    · subst h2; rw [if_pos ⟨rfl, rfl⟩, List.getD_eq_getElem?_getD, List.getElem?_set_self hi]; rfl
    · rw [if_neg (by omega), List.getD_eq_getElem?_getD, List.getElem?_set_ne (fun hh => h2 hh.symm), ← List.getD_eq_getElem?_getD]
  · rw [if_neg (by omega), List.getD_eq_getElem?_getD (l := P.set _ _), List.getElem?_set_ne (fun hh => h hh.symm), ← List.getD_eq_getElem?_getD]
theorem row_set {P : List (List Int)} {y i x : Nat} {v : Int} : ((P.set y ((P.getD y []).set i v)).getD x []).length = (P.getD x []).length := by
  by_cases h : y = x
  · subst h
    by_cases hy : y < P.length
    · rw [List.getD_eq_getElem?_getD (l := P.set _ _), List.getElem?_set_self hy]; simp
    · rw [List.set_eq_of_length_le (by omega)]
  · rw [List.getD_eq_getElem?_getD (l := P.set _ _), List.getElem?_set_ne h, ← List.getD_eq_getElem?_getD]
theorem PT.set {P : List (List Int)} (h : PT f g P) {y i : Nat} {v : Int} (hy : y < f.shp.idn.length) (hi : i < f.sz1 y) (hv : v = -1 ∨ (0 ≤ v ∧ v < g.sz1 y)) : PT f g (P.set y ((P.getD y []).set i v)) := by
  refine ⟨by rw [List.length_set, h.len], fun x hx => by rw [row_set, h.row x hx], fun x j hx hj => ?_⟩
  rw [pc_set (by rw [h.len]; exact hy) (by rw [h.row y hy]; exact hi)]
  by_cases hh : x = y ∧ j = i
  · rw [if_pos hh, hh.1]; exact hv
  · rw [if_neg hh]; exact h.rng x j hx hj
theorem PT.ext {P P' : List (List Int)} (h : PT f g P) (h' : PT f g P') (he : ∀ x i, x < f.shp.idn.length → i < f.sz1 x → pc P x i = pc P' x i) : P = P' := by
  refine List.ext_getElem (by rw [h.len, h'.len]) fun x h1 h2 => ?_
  have hx : x < f.shp.idn.length := by rw [← h.len]; exact h1
  have r1 := h.row x hx
  have r2 := h'.row x hx
  have e1 : P.getD x [] = P[x] := getD_lt h1 _
  have e2 : P'.getD x [] = P'[x] := getD_lt h2 _
  rw [e1] at r1
  rw [e2] at r2
  refine List.ext_getElem (by omega) fun i h3 h4 => ?_
  have := he x i hx (by omega)
  unfold pc at this
  rwa [e1, e2, getD_lt h3, getD_lt h4] at this

/-- An element and the images that follow, of the arrows of which 'A' holds. -/
structure Stp (f g : Sf) (P : List (List Int)) (x e d : Nat) (A : Nat → Prop) (P' : List (List Int)) : Prop where
  ty : PT f g P'
  old : ∀ y i, y < f.shp.idn.length → i < f.sz1 y → 0 ≤ pc P y i → pc P' y i = pc P y i
  new : ∀ y i, y < f.shp.idn.length → i < f.sz1 y → pc P' y i = pc P y i ∨ (pc P y i < 0 ∧ ∃ a, a < f.shp.fr.length ∧ f.fr a = x ∧ f.to a = y ∧ f.im a e = i ∧ pc P' y i = g.im a d)
  all : ∀ a, A a → a < f.shp.fr.length → f.fr a = x → pc P' (f.to a) (f.im a e) = g.im a d
structure Inp (f g : Sf) (x e d : Nat) : Prop where
  hx : x < f.shp.idn.length
  he : e < f.sz1 x
  hd : d < g.sz1 x
theorem Two.gim (h : Two f g) {a d : Nat} (ha : a < f.shp.fr.length) (hd : d < g.sz1 (f.fr a)) : g.im a d < g.sz1 (f.to a) := by
  have := h.okg.iml (a := a) (i := d) (by rw [h.eq]; exact ha) (by unfold Sf.fr; rw [h.eq]; exact hd)
  unfold Sf.to at this ⊢; rwa [h.eq] at this
section
variable {P P1 : List (List Int)} {x e d : Nat} {A : Nat → Prop} {a : Nat}
theorem Stp.zero (hP : PT f g P) : Stp f g P x e d (fun _ => False) P := ⟨hP, fun _ _ _ _ _ => rfl, fun _ _ _ _ => .inl rfl, fun _ h => h.elim⟩
theorem Stp.sub (h : Stp f g P x e d A P1) {A' : Nat → Prop} (hA : ∀ a, A' a → A a) : Stp f g P x e d A' P1 := ⟨h.ty, h.old, h.new, fun a ha => h.all a (hA a ha)⟩
theorem Stp.skip (h : Stp f g P x e d A P1) (hs : f.fr a ≠ x) : Stp f g P x e d (fun b => A b ∨ b = a) P1 :=
  ⟨h.ty, h.old, h.new, fun b hb h1 h2 => hb.elim (fun hb => h.all b hb h1 h2) fun hb => (hs (by rw [← hb]; exact h2)).elim⟩
theorem Stp.keep (h : Stp f g P x e d A P1) (hv : pc P1 (f.to a) (f.im a e) = g.im a d) : Stp f g P x e d (fun b => A b ∨ b = a) P1 :=
  ⟨h.ty, h.old, h.new, fun b hb h1 h2 => hb.elim (fun hb => h.all b hb h1 h2) fun hb => by rw [hb]; exact hv⟩
theorem Stp.set (ht : Two f g) (hi : Inp f g x e d) (h : Stp f g P x e d A P1) (ha : a < f.shp.fr.length) (hs : f.fr a = x) (hv : pc P1 (f.to a) (f.im a e) < 0) :
    Stp f g P x e d (fun b => A b ∨ b = a) (P1.set (f.to a) ((P1.getD (f.to a) []).set (f.im a e) (g.im a d))) := by
  have hy := ht.okf.tol ha
  have hii := ht.okf.iml ha (i := e) (by rw [hs]; exact hi.he)
  have hg := ht.gim ha (d := d) (by rw [hs]; exact hi.hd)
  have hp : ∀ y i, pc (P1.set (f.to a) ((P1.getD (f.to a) []).set (f.im a e) (g.im a d))) y i = if y = f.to a ∧ i = f.im a e then (g.im a d : Int) else pc P1 y i := fun y i =>
    pc_set (by rw [h.ty.len]; exact hy) (by rw [h.ty.row _ hy]; exact hii)
  have hneg : pc P (f.to a) (f.im a e) < 0 := by
    apply Classical.byContradiction
    intro hn
    have := h.old _ _ hy hii (by omega)
    omega
  refine ⟨h.ty.set hy hii (.inr ⟨by omega, by omega⟩), fun y i h1 h2 h3 => ?_, fun y i h1 h2 => ?_, fun b hb h1 h2 => ?_⟩
  · rw [hp, if_neg (by rintro ⟨rfl, rfl⟩; omega)]; exact h.old y i h1 h2 h3
  · rw [hp]
    by_cases hh : y = f.to a ∧ i = f.im a e
    · rw [if_pos hh]
      obtain ⟨rfl, rfl⟩ := hh
      exact .inr ⟨hneg, a, ha, hs, rfl, rfl, rfl⟩
    · rw [if_neg hh]; exact h.new y i h1 h2
  · rw [hp]
    by_cases hh : f.to b = f.to a ∧ f.im b e = f.im a e
    · rw [if_pos hh]
      rcases hb with hb | rfl
      · have := h.all b hb h1 h2
        rw [hh.1, hh.2] at this; omega
      · rfl
    · rw [if_neg hh]
      rcases hb with hb | rfl
      · exact h.all b hb h1 h2
      · exact absurd ⟨rfl, rfl⟩ hh
/-- What extends 'P' and maps the element so extends what followed. -/
theorem Stp.ext (h : Stp f g P x e d A P1) (hi : Inp f g x e d) {m : List (List Int)} (hm : NatM f g m) (he : ExM f P m) (hd : pc m x e = d) : ExM f P1 m := by
  intro y i h1 h2 h3
  rcases h.new y i h1 h2 with h4 | ⟨h4, a, a1, a2, a3, a4, a5⟩
  · rw [h4]; exact he y i h1 h2 (by omega)
  · have := hm.nat a e a1 (by rw [a2]; exact hi.he)
    rw [a2, hd, Int.toNat_natCast, a3, a4] at this
    rw [this, a5]
theorem Stp.clash (h : Stp f g P x e d A P1) (hi : Inp f g x e d) (ht : Two f g) (ha : a < f.shp.fr.length) (hs : f.fr a = x) (h0 : 0 ≤ pc P1 (f.to a) (f.im a e)) (hne : pc P1 (f.to a) (f.im a e) ≠ g.im a d) : ∀ m, NatM f g m → ExM f P m → pc m x e ≠ d := by
  intro m hm he hd
  have h1 := h.ext hi hm he hd _ _ (ht.okf.tol ha) (ht.okf.iml ha (by rw [hs]; exact hi.he)) h0
  have h2 := hm.nat a e ha (by rw [hs]; exact hi.he)
  rw [hs, hd, Int.toNat_natCast] at h2
  omega
theorem Stp.at (h : Stp f g P x e d (fun a => a < f.shp.fr.length) P1) (ht : Two f g) (hi : Inp f g x e d) : pc P1 x e = d := by
  obtain ⟨a, a1, a2, a3, a4, a5⟩ := ht.idn hi.hx
  have h1 := h.all a a1 a1 a2
  rw [a3, a4 e hi.he, a5 d hi.hd] at h1
  exact h1
theorem Stp.iff (h : Stp f g P x e d (fun a => a < f.shp.fr.length) P1) (ht : Two f g) (hi : Inp f g x e d) (m : List (List Int)) : NatM f g m ∧ ExM f P1 m ↔ (NatM f g m ∧ ExM f P m) ∧ pc m x e = d := by
  constructor
  · rintro ⟨hm, he⟩
    refine ⟨⟨hm, fun y i h1 h2 h3 => ?_⟩, ?_⟩
    · have h4 := h.old y i h1 h2 h3
      rw [he y i h1 h2 (by omega), h4]
    · have h4 := h.at ht hi
      rw [he x e hi.hx hi.he (by omega), h4]
  · rintro ⟨⟨hm, he⟩, hd⟩
    exact ⟨hm, h.ext hi hm he hd⟩
/-- What is known is kept by arrows. -/
def Clo (f g : Sf) (P : List (List Int)) : Prop := ∀ a i, a < f.shp.fr.length → i < f.sz1 (f.fr a) → 0 ≤ pc P (f.fr a) i → pc P (f.to a) (f.im a i) = g.im a (pc P (f.fr a) i).toNat
theorem Stp.clo (h : Stp f g P x e d (fun a => a < f.shp.fr.length) P1) (ht : Two f g) (hi : Inp f g x e d) (hc : Clo f g P) : Clo f g P1 := by
  intro b i hb h1 h2
  have hfr := ht.okf.frl hb
  rcases h.new _ i hfr h1 with h3 | ⟨h3, a, a1, a2, a3, a4, a5⟩
  · have h4 := hc b i hb h1 (by omega)
    rw [h3]
    rw [← h4]
    exact h.old _ _ (ht.okf.tol hb) (ht.okf.iml hb h1) (by rw [h4]; omega)
  · obtain ⟨c, c1, c2, c3, c4, c5⟩ := ht.comp a1 hb a3
    have h4 := h.all c c1 c1 (by rw [c2, a2])
    rw [c3, c4 e (by rw [a2]; exact hi.he), c5 d (by rw [a2]; exact hi.hd), a4] at h4
    rw [h4, a5, Int.toNat_natCast]

/-! ### Counting what is not known -/
def prs (f : Sf) : List (Nat × Nat) := (List.range f.shp.idn.length).flatMap fun x => (List.range (f.sz1 x)).map fun i => (x, i)
theorem mem_prs {p : Nat × Nat} : p ∈ prs f ↔ p.1 < f.shp.idn.length ∧ p.2 < f.sz1 p.1 := by
  simp only [prs, List.mem_flatMap, List.mem_range, List.mem_map]
  constructor
  · rintro ⟨x, hx, i, hi, rfl⟩; exact ⟨hx, hi⟩
  · rintro ⟨h1, h2⟩; exact ⟨p.1, h1, p.2, h2, rfl⟩
def unkM (f : Sf) (P : List (List Int)) : Nat := (prs f).countP fun p => decide (pc P p.1 p.2 < 0)
theorem Stp.unk (h : Stp f g P x e d (fun a => a < f.shp.fr.length) P1) (ht : Two f g) (hi : Inp f g x e d) (h0 : pc P x e < 0) : unkM f P1 < unkM f P := by
  refine countP_ltG _ (fun p hp hq => ?_) ⟨(x, e), mem_prs.2 ⟨hi.hx, hi.he⟩, by simpa using h0, by have := h.at ht hi; simp only [decide_eq_false_iff_not]; omega⟩
  simp only [decide_eq_true_eq] at hq ⊢
  obtain ⟨h1, h2⟩ := mem_prs.1 hp
  apply Classical.byContradiction
  intro hn
  have := h.old _ _ h1 h2 (by omega)
  omega
theorem unk_none (h : unkM f P = 0) : ∀ x i, x < f.shp.idn.length → i < f.sz1 x → 0 ≤ pc P x i := by
  intro x i h1 h2
  unfold unkM at h
  rw [List.countP_eq_zero] at h
  have := h (x, i) (mem_prs.2 ⟨h1, h2⟩)
  simpa using this

/-! ### Either an element can be mapped so, or no natural map does it -/
theorem Stp.run (ht : Two f g) (hi : Inp f g x e d) (hP : PT f g P) : (∃ P', Stp f g P x e d (fun a => a < f.shp.fr.length) P') ∨ ∀ m, NatM f g m → ExM f P m → pc m x e ≠ d := by
  have key : ∀ n, n ≤ f.shp.fr.length → (∃ P', Stp f g P x e d (fun a => a < n) P') ∨ ∀ m, NatM f g m → ExM f P m → pc m x e ≠ d := by
    intro n
    induction n with
    | zero => exact fun _ => .inl ⟨P, (Stp.zero hP).sub fun a ha => absurd ha (Nat.not_lt_zero _)⟩
    | succ n ih =>
      intro hn
      rcases ih (by omega) with ⟨P1, h⟩ | h
      · have sub : ∀ {P'}, Stp f g P x e d (fun b => b < n ∨ b = n) P' → ∃ P', Stp f g P x e d (fun b => b < n + 1) P' := fun h => ⟨_, h.sub fun a ha => by omega⟩
        by_cases hs : f.fr n = x
        · by_cases h0 : pc P1 (f.to n) (f.im n e) < 0
          · exact .inl (sub (h.set ht hi (by omega) hs h0))
          · by_cases h1 : pc P1 (f.to n) (f.im n e) = g.im n d
            · exact .inl (sub (h.keep h1))
            · exact .inr (h.clash hi ht (by omega) hs (by omega) h1)
        · exact .inl (sub (h.skip hs))
      · exact .inr h
  exact key f.shp.fr.length (Nat.le_refl _)

/-! ### All natural maps -/
theorem EnM.leaf (hP : PT f g P) (hc : Clo f g P) (h0 : ∀ x i, x < f.shp.idn.length → i < f.sz1 x → 0 ≤ pc P x i) (ht : Two f g) : EnM f g P [P] := by
  have hn : NatM f g P := ⟨hP, h0, fun a i ha hi => hc a i ha hi (h0 _ _ (ht.okf.frl ha) hi)⟩
  refine ⟨List.pairwise_singleton _ _, fun m => ?_⟩
  rw [List.mem_singleton]
  constructor
  · rintro rfl; exact ⟨hn, fun _ _ _ _ _ => rfl⟩
  · rintro ⟨hm, he⟩
    exact hm.ty.ext hP fun x i h1 h2 => he x i h1 h2 (h0 x i h1 h2)
def EnMP (f g : Sf) (P : List (List Int)) (x e d : Nat) (L : List (List (List Int))) : Prop := L.Pairwise mlt ∧ ∀ m, m ∈ L ↔ (NatM f g m ∧ ExM f P m) ∧ pc m x e < d
theorem EnMP.zero (hx : x < f.shp.idn.length) (he : e < f.sz1 x) : EnMP f g P x e 0 [] :=
  ⟨List.Pairwise.nil, fun m => ⟨fun h => (by cases h), fun ⟨⟨h1, _⟩, h3⟩ => by have := h1.tot x e hx he; omega⟩⟩
/-- All before an element is known. -/
def FsM (f : Sf) (P : List (List Int)) (x e : Nat) : Prop := ∀ x' i', (x' < x ∨ (x' = x ∧ i' < e)) → i' < f.sz1 x' → 0 ≤ pc P x' i'
theorem EnMP.step (ht : Two f g) (hi : Inp f g x e d) (_ : PT f g P) (hF : FsM f P x e) {L L1 : List (List (List Int))} (h : EnMP f g P x e d L) (hs : Stp f g P x e d (fun a => a < f.shp.fr.length) P1) (h1 : EnM f g P1 L1) : EnMP f g P x e (d + 1) (L ++ L1) := by
  refine ⟨List.pairwise_append.2 ⟨h.1, h1.1, fun m hm m' hm' => ?_⟩, fun m => ?_⟩
  · obtain ⟨⟨a1, a2⟩, a3⟩ := (h.2 m).1 hm
    obtain ⟨⟨b1, b2⟩, b3⟩ := (hs.iff ht hi m').1 ((h1.2 m').1 hm')
    refine ⟨x, e, fun x' i' hb => ?_, by omega⟩
    have hx' : x' < f.shp.idn.length := by have := hi.hx; omega
    by_cases hi' : i' < f.sz1 x'
    · have h0 := hF x' i' hb hi'
      rw [a2 x' i' hx' hi' h0, b2 x' i' hx' hi' h0]
    · unfold pc
      rw [List.getD_eq_getElem?_getD, List.getElem?_eq_none (by rw [a1.ty.row x' hx']; omega), List.getD_eq_getElem?_getD, List.getElem?_eq_none (by rw [b1.ty.row x' hx']; omega)]
  · rw [List.mem_append, h.2, h1.2, hs.iff ht hi]
    constructor
    · rintro (⟨h2, h3⟩ | ⟨h2, h3⟩)
      · exact ⟨h2, by omega⟩
      · exact ⟨h2, by omega⟩
    · rintro ⟨h2, h3⟩
      by_cases h4 : pc m x e < d
      · exact .inl ⟨h2, h4⟩
      · exact .inr ⟨h2, by omega⟩
theorem EnMP.no {L : List (List (List Int))} (h : EnMP f g P x e d L) (hn : ∀ m, NatM f g m → ExM f P m → pc m x e ≠ d) : EnMP f g P x e (d + 1) L :=
  ⟨h.1, fun m => (h.2 m).trans ⟨fun ⟨h1, h2⟩ => ⟨h1, by omega⟩, fun ⟨h1, h2⟩ => ⟨h1, by have := hn m h1.1 h1.2; omega⟩⟩⟩
theorem EnMP.done {L : List (List (List Int))} (hx : x < f.shp.idn.length) (he : e < f.sz1 x) (h : EnMP f g P x e (g.sz1 x) L) : EnM f g P L := by
  refine ⟨h.1, fun m => ?_⟩
  rw [h.2]
  refine ⟨fun hh => hh.1, fun hh => ⟨hh, ?_⟩⟩
  have h1 := hh.1.tot x e hx he
  rcases hh.1.ty.rng x e hx he with h2 | h2 <;> omega
theorem EnM.none {L : List (List (List Int))} (h : EnM f g P L) (hn : ∀ m, NatM f g m → ExM f P m → False) : L = [] := by
  cases L with
  | nil => rfl
  | cons m L => have := (h.2 m).1 (by simp); exact (hn m this.1 this.2).elim
/-- The first element that is not known. -/
theorem fst_unk (f : Sf) (P : List (List Int)) (h : ¬ ∀ x i, x < f.shp.idn.length → i < f.sz1 x → 0 ≤ pc P x i) : ∃ x e, x < f.shp.idn.length ∧ e < f.sz1 x ∧ pc P x e < 0 ∧ FsM f P x e := by
  have h1 : ∃ x, x < f.shp.idn.length ∧ ∃ i, i < f.sz1 x ∧ pc P x i < 0 := by
    apply Classical.byContradiction
    intro hn
    exact h fun x i hx hi => by
      apply Classical.byContradiction
      intro h2
      exact hn ⟨x, hx, i, hi, by omega⟩
  obtain ⟨x0, hx0⟩ := h1
  obtain ⟨x, ⟨hx, i0, hi0⟩, hmin⟩ := least' (fun x => x < f.shp.idn.length ∧ ∃ i, i < f.sz1 x ∧ pc P x i < 0) x0 hx0
  obtain ⟨e, ⟨he, h2⟩, hmin2⟩ := least' (fun i => i < f.sz1 x ∧ pc P x i < 0) i0 hi0
  refine ⟨x, e, hx, he, h2, fun x' i' hb hi' => ?_⟩
  apply Classical.byContradiction
  intro h3
  rcases hb with hb | ⟨rfl, hb⟩
  · have := hmin x' ⟨by omega, i', hi', by omega⟩; omega
  · have := hmin2 i' ⟨hi', by omega⟩; omega
theorem EnM.exists (ht : Two f g) : ∀ (n : Nat) {P : List (List Int)}, unkM f P ≤ n → PT f g P → Clo f g P → ∃ L, EnM f g P L := by
  intro n
  induction n with
  | zero => exact fun hn hP hc => ⟨_, EnM.leaf hP hc (unk_none (by omega)) ht⟩
  | succ n ih =>
    intro P hn hP hc
    by_cases h0 : ∀ x i, x < f.shp.idn.length → i < f.sz1 x → 0 ≤ pc P x i
    · exact ⟨_, EnM.leaf hP hc h0 ht⟩
    obtain ⟨x, e, hx, he, hu, hF⟩ := fst_unk f P h0
    have key : ∀ d, d ≤ g.sz1 x → ∃ L, EnMP f g P x e d L := by
      intro d
      induction d with
      | zero => exact fun _ => ⟨[], EnMP.zero hx he⟩
      | succ d ihd =>
        intro hd
        obtain ⟨L, hL⟩ := ihd (by omega)
        have hi : Inp f g x e d := ⟨hx, he, by omega⟩
        rcases Stp.run ht hi hP with ⟨P', hs⟩ | hno
        · have := hs.unk ht hi hu
          obtain ⟨L1, hL1⟩ := ih (by omega) hs.ty (hs.clo ht hi hc)
          exact ⟨_, hL.step ht hi hP hF hs hL1⟩
        · exact ⟨_, hL.no hno⟩
    obtain ⟨L, hL⟩ := key _ (Nat.le_refl _)
    exact ⟨L, hL.done hx he⟩
/-- The enumeration so far is the beginning of the whole one. -/
theorem EnMP.pre (ht : Two f g) (hP : PT f g P) (hc : Clo f g P) (hF : FsM f P x e) (hx : x < f.shp.idn.length) (he : e < f.sz1 x) {L Li : List (List (List Int))} (h : EnMP f g P x e d Li) (hd : d ≤ g.sz1 x) (hL : EnM f g P L) : ∃ R, L = Li ++ R := by
  have key : ∀ k, d + k ≤ g.sz1 x → ∃ R, EnMP f g P x e (d + k) (Li ++ R) := by
    intro k
    induction k with
    | zero => exact fun _ => ⟨[], by simpa using h⟩
    | succ k ih =>
      intro hk
      obtain ⟨R, hR⟩ := ih (by omega)
      have hi : Inp f g x e (d + k) := ⟨hx, he, by omega⟩
      rcases Stp.run ht hi hP with ⟨P', hs⟩ | hno
      · obtain ⟨L1, hL1⟩ := EnM.exists ht _ (Nat.le_refl _) hs.ty (hs.clo ht hi hc)
        exact ⟨R ++ L1, by rw [← List.append_assoc]; exact hR.step ht hi hP hF hs hL1⟩
      · exact ⟨R, hR.no hno⟩
  obtain ⟨R, hR⟩ := key (g.sz1 x - d) (by omega)
  rw [show d + (g.sz1 x - d) = g.sz1 x by omega] at hR
  exact ⟨R, hL.eq (hR.done hx he)⟩
end
end
/-- No parts are known yet. -/
def openP (f : Sf) : List (List Int) := f.sz.map fun n => List.replicate n.toNat (-1)
theorem openP_pt {f g : Sf} (ht : Two f g) : PT f g (openP f) := by
  have hsl := ht.okf.szl
  have key : ∀ x, x < f.sz.length → (openP f).getD x [] = List.replicate (f.sz1 x) (-1) := fun x hx => by
    unfold openP
    rw [List.getD_eq_getElem?_getD, List.getElem?_map, List.getElem?_eq_getElem hx]
    unfold Sf.sz1 Sf.size
    rw [Int.toNat_natCast, getD_lt hx]; rfl
  refine ⟨by unfold openP; rw [List.length_map, hsl], fun x hx => by rw [key x (by omega)]; simp, fun x i hx hi => .inl ?_⟩
  unfold pc
  rw [key x (by omega), List.getD_eq_getElem?_getD, List.getElem?_replicate, if_pos hi]; rfl
theorem openP_neg {f g : Sf} (ht : Two f g) {x i : Nat} (hx : x < f.shp.idn.length) (hi : i < f.sz1 x) : pc (openP f) x i = -1 := by
  have hsl := ht.okf.szl
  unfold pc openP
  rw [List.getD_eq_getElem?_getD (l := f.sz.map _), List.getElem?_map, List.getElem?_eq_getElem (by omega)]
  unfold Sf.sz1 Sf.size at hi
  rw [Int.toNat_natCast, getD_lt (by omega)] at hi
  simp only [Option.map_some, Option.getD_some]
  rw [List.getD_eq_getElem?_getD, List.getElem?_replicate, if_pos hi]; rfl
theorem openP_clo {f g : Sf} (ht : Two f g) : Clo f g (openP f) := fun a i ha hi h0 => by
  rw [openP_neg ht (ht.okf.frl ha) hi] at h0; omega
end Go.D3

/- PLAIN LAWS: the set functor with one element everywhere; what global sections are. -/
namespace Go.D3
open Go
theorem getD_rep {α : Type} {n i : Nat} {a z : α} (h : i < n) : (List.replicate n a).getD i z = a := by
  rw [List.getD_eq_getElem?_getD, List.getElem?_replicate, if_pos h]; rfl
theorem oneSf_ac {c : Cat} {a e : Int} : (oneSf c).ac a e = 0 := by
  unfold Sf.ac oneSf
  by_cases h : a.toNat < c.fr.length
  · simp only; rw [getD_rep h]
    cases e.toNat <;> simp
  · simp only
    rw [List.getD_eq_getElem?_getD (l := List.replicate _ _), List.getElem?_replicate, if_neg h]
    simp
theorem oneSf_sz {c : Cat} (hc : c.Shape) {x : Nat} (hx : x < c.idn.length) : (oneSf c).sz.getD x 0 = 1 := by
  have := hc.idn
  have := hc.ob0
  exact getD_rep (by omega)
theorem oneSf_sz1 {c : Cat} (hc : c.Shape) {x : Nat} (hx : x < c.idn.length) : (oneSf c).sz1 x = 1 := by
  unfold Sf.sz1 Sf.size
  rw [Int.toNat_natCast, oneSf_sz hc hx]; rfl
theorem oneSf_ok {c : Cat} (h : c.isB = true) : (oneSf c).Ok := by
  have hc := Cat.isB_shape h
  have hi := hc.idn
  have h0 := hc.ob0
  refine ⟨⟨h, ?_, ?_, ?_, fun a ha => ?_⟩, fun x e hx he => ?_, fun a b e ha hb hab he => ?_⟩
  · show (List.replicate c.ob.toNat (1 : Int)).length = c.idn.length
    rw [List.length_replicate]; omega
  · show mapB 17 (List.replicate c.ob.toNat (1 : Int)) = true
    unfold mapB
    simp []
  · exact List.length_replicate
  · have ha' : a < c.fr.length := by simpa [oneSf] using ha
    have h1 := hc.fri ha'
    have h2 := hc.toi ha'
    unfold Sf.actB
    have e1 : (oneSf c).sz.getD ((oneSf c).shp.fr.getD a 0).toNat 0 = 1 := oneSf_sz hc (x := (c.fr.getD a 0).toNat) (by omega)
    have e2 : (oneSf c).sz.getD ((oneSf c).shp.to.getD a 0).toNat 0 = 1 := oneSf_sz hc (x := (c.to.getD a 0).toNat) (by omega)
    have e3 : (oneSf c).act.getD a [] = [0] := getD_rep ha'
    rw [e1, e2, e3]; rfl
  · have h1 := oneSf_sz1 hc (x := x) hx
    unfold Sf.sz1 at h1
    rw [oneSf_ac]; omega
  · rw [oneSf_ac, oneSf_ac]
theorem one_two {g : Sf} (h : g.isB = true) : Two (oneSf g.shp) g := by
  have := Sf.isB_ok h
  exact ⟨oneSf_ok this.cat, this, rfl⟩
/-- The lists of first numbers. -/
def cols (L : List (List (List Int))) : List (List Int) := L.map colF
theorem cols_app {L R : List (List (List Int))} : cols (L ++ R) = cols L ++ cols R := by simp [cols]
/-- What both sides answer. -/
def secF (g : Sf) (L : List (List (List Int))) : List (List Int) × Int := if g.isB = false then ([], 1) else if (cols L).length ≤ 200 then (cols L, 0) else ([], 3)
theorem secL (g : Sf) : ∃ L, g.isB = true → EnM (oneSf g.shp) g (openP (oneSf g.shp)) L := by
  by_cases h : g.isB = true
  · have ht := one_two h
    obtain ⟨L, hL⟩ := EnM.exists ht _ (Nat.le_refl _) (openP_pt ht) (openP_clo ht)
    exact ⟨L, fun _ => hL⟩
  · exact ⟨[], fun h' => absurd h' h⟩
theorem sec_row {g : Sf} {L : List (List (List Int))} (h : g.isB = true) (hL : EnM (oneSf g.shp) g (openP (oneSf g.shp)) L) {P : List (List Int)} (hP : P ∈ L) : P.length = g.shp.idn.length ∧ ∀ x, x < P.length → (P.getD x []).length = 1 := by
  have h1 := ((hL.2 P).1 hP).1
  have h2 := one_two h
  have hl := h1.ty.len
  refine ⟨hl, fun x hx => ?_⟩
  have hr := h1.ty.row x (by rw [← hl]; exact hx)
  rw [hr]; exact oneSf_sz1 h2.okf.cs (show x < g.shp.idn.length by rw [← show P.length = g.shp.idn.length from hl]; exact hx)
theorem cost2_all {a : List (List Int)} {B : Nat} (h : ∀ x ∈ a, x.length ≤ B) : ∀ i, i ≤ a.length → cost2 a i ≤ i * B
  | 0, _ => by simp [cost2]
  | i + 1, hi => by
    have h1 := cost2_all h i (by omega)
    have h2 : (a.getD i []).length ≤ B := by rw [getD_lt (by omega)]; exact h _ (List.getElem_mem _)
    rw [cost2, Nat.add_mul]; omega
theorem secF_cost (g : Sf) (L : List (List (List Int))) (hL : g.isB = true → EnM (oneSf g.shp) g (openP (oneSf g.shp)) L) : cost2 (secF g L).1 (secF g L).1.length ≤ 10000 := by
  unfold secF
  by_cases h : g.isB = false
  · rw [if_pos h]; exact Nat.zero_le _
  rw [if_neg h]
  by_cases h3 : (cols L).length ≤ 200
  · rw [if_pos h3]
    have h' : g.isB = true := by simpa using h
    have h8 := (one_two h').okg.cs.idl
    refine Nat.le_trans (cost2_all (B := 8) (fun x hx => ?_) _ (Nat.le_refl _)) (by simp only; omega)
    obtain ⟨P, hP, rfl⟩ := List.mem_map.1 hx
    have := (sec_row h' (hL h') hP).1
    simp only [colF, List.length_map]; omega
  · rw [if_neg h3]; exact Nat.zero_le _
end Go.D3

/- CONTRACTS: the program's search for natural maps. -/
namespace Go.D3
open Go
set_option maxRecDepth 100000
set_option maxHeartbeats 4000000

/-- Pairs of numbers. -/
def prD (p : Nat × Nat) : D := .agg [.int .i64 p.1, .int .i64 p.2]
abbrev prsD (N : List (Nat × Nat)) : D := lst prD (0, 0) N
theorem prD_eq {a b : Nat} : prD (a, b) = .agg [.int .i64 a, .int .i64 b] := rfl
theorem slice_pr : D.slice (.agg [.int .i64 0, .int .i64 0]) [] = prsD [] := rfl
theorem app_pr {N : List (Nat × Nat)} {a b : Nat} : (prsD N).appL [.agg [.int .i64 a, .int .i64 b]] = prsD (N ++ [(a, b)]) := lst_app1 (f := prD) (x := (a, b))
theorem prD_cells {p : Nat × Nat} : (prD p).cells = [.int .i64 p.1, .int .i64 p.2] := rfl
attribute [go_sem] slice_pr prD_cells
attribute [go_sem high] app_pr
/-- The objects of a search: the struct, the boxes of the closures, what has been found, how many are wanted. -/
abbrev fB (k : Nat) : D := .box [.fn 130 [.adr k [(0, 0)], .adr (k + 1) [(0, 0)]]]
abbrev mB (f g : Sf) (k : Nat) (P : List (List Int)) : D := .box [.ptr f.cells, .ptr g.cells, .bool false, .o (intss P), .fn 162 [.adr k [(0, 0)]]]
abbrev oB (l : List (List Int)) : D := .box [.o (intss l)]
abbrev cB (M : Nat) : D := .box [.int .i64 M]
abbrev gM (f g : Sf) (M : Nat) (P l : List (List Int)) : List D := [mB f g 1 P, fB 2, oB l, cB M]
abbrev gM5 (f g : Sf) (M : Nat) (P l : List (List Int)) (N : List (Nat × Nat)) : List D := [mB f g 1 P, fB 2, oB l, cB M, .box [.o (prsD N)]]

-- (*impl.SetFunctor).globalSections$1
def c_impl_SetFunctor_globalSections_1 : C :=
  (.seq (.ops [] [⟨none, .asg 3 (.k (.bool false))⟩] [])
  (.seq (.ops [] [⟨none, .ld (.v 1)⟩,
    ⟨none, .mv (.v 0)⟩,
    ⟨none, .bldS (ints []) 1 [(0, (.t 1))]⟩,
    ⟨none, .app 1 24 (.t 0) (.t 2)⟩,
    ⟨none, .st (.v 1) (.t 3)⟩] [])
  (.seq (.ops [] [⟨none, .ld (.v 1)⟩,
    ⟨none, .len (.t 0)⟩,
    ⟨none, .ld (.v 2)⟩,
    ⟨none, .bin .leq (.t 1) (.t 2)⟩,
    ⟨none, .asg 3 (.t 3)⟩] [])
  .ret)))
def tr_impl_SetFunctor_globalSections_1 : List Nat := [0, 1, 2, 4]
def rs_impl_SetFunctor_globalSections_1 : List RS := [.t 3]
theorem ok_impl_SetFunctor_globalSections_1 : fnOk Go.Proofs.Try.prog Go.Proofs.Try.f130 tr_impl_SetFunctor_globalSections_1 c_impl_SetFunctor_globalSections_1 1 rs_impl_SetFunctor_globalSections_1 = true := by decide +kernel

theorem ret_gs1 (M : Nat) (r : List Int) (l : List (List Int)) (hl : l.length ≤ 1048576) :
    RetG Go.Proofs.Try.prog 130 [.sub 0 [], .adr 1 [(0, 0)], .adr 2 [(0, 0)]] [.o (ints r), oB l, cB M] (.bool (decide (l.length + 1 ≤ M))) [.dead, oB (l ++ [r]), cB M] := by
  refine ret_fnG .tree Go.Proofs.Try.func130 rfl ok_impl_SetFunctor_globalSections_1 rfl ⟨by simp only [List.length_cons, List.length_nil]; decide, by simp only [List.length_cons, List.length_nil]; decide⟩ rfl ?_; unfold c_impl_SetFunctor_globalSections_1 tr_impl_SetFunctor_globalSections_1 rs_impl_SetFunctor_globalSections_1; simp only [go_sem, Nat.reduceLT, Nat.reduceAdd, Nat.reduceSub, Nat.reduceEqDiff, Nat.reduceBEq, Nat.reduceLeDiff, ↓reduceIte]
  exact ⟨by omega, by rw [List.length_append]; rfl⟩
-- (*impl.SetFunctor).sections$1
def c_impl_SetFunctor_sections_1 : C :=
  (.seq (.ops [] [⟨none, .asg 2 (.k (.bool false))⟩] [])
  (.seq (.ops [] [⟨none, .ld (.v 1)⟩,
    ⟨none, .mv (.v 0)⟩,
    ⟨none, .call 163 [(.t 1), (.i 0)]⟩,
    ⟨none, .dyn (.t 0) [(.t 2)]⟩,
    ⟨none, .asg 2 (.t 3)⟩] [])
  .ret))
def tr_impl_SetFunctor_sections_1 : List Nat := [0, 1, 3]
def rs_impl_SetFunctor_sections_1 : List RS := [.t 2]
theorem ok_impl_SetFunctor_sections_1 : fnOk Go.Proofs.Try.prog Go.Proofs.Try.f162 tr_impl_SetFunctor_sections_1 c_impl_SetFunctor_sections_1 1 rs_impl_SetFunctor_sections_1 = true := by decide +kernel

theorem ret_se1 (M : Nat) (P l : List (List Int)) (hP : ∀ x, x < P.length → 0 < (P.getD x []).length) (hPl : P.length ≤ 1048576) (hl : l.length ≤ 1048576) :
    RetG Go.Proofs.Try.prog 162 [intss P, .adr 0 [(0, 0)]] [fB 1, oB l, cB M] (.bool (decide (l.length + 1 ≤ M))) [fB 1, oB (l ++ [colF P]), cB M] := by
  refine ret_fnG .tree Go.Proofs.Try.func162 rfl ok_impl_SetFunctor_sections_1 rfl ⟨by simp only [List.length_cons, List.length_nil]; decide, by simp only [List.length_cons, List.length_nil]; decide⟩ rfl ?_; unfold c_impl_SetFunctor_sections_1 tr_impl_SetFunctor_sections_1 rs_impl_SetFunctor_sections_1; simp only [go_sem, Nat.reduceLT, Nat.reduceAdd, Nat.reduceSub, Nat.reduceBEq, Nat.reduceLeDiff, ↓reduceIte]
  refine call_of (ret_impl_column P hP hPl) rfl (.inl (nv_ints _)) ?_
  simp only [go_sem, Nat.reduceLT, Nat.reduceAdd, Nat.reduceSub, ↓reduceIte]
  refine g_call [1002, 4, 5] false (ret_gs1 M (colF P) l hl) (by exact ⟨by decide, rfl⟩) (by repeat (first | exact trivial | refine ⟨rfl, ?_⟩)) (by repeat (first | exact trivial | refine ⟨.inl rfl, ?_⟩ | refine ⟨.inr ⟨rfl, rfl⟩, ?_⟩)) (by repeat (first | exact trivial | refine ⟨(fun h => by cases h), ?_⟩)) (fun h => by cases h) ?_
  simp only [go_sem, Nat.reduceLT, Nat.reduceAdd, Nat.reduceSub, Nat.reduceBEq, Nat.reduceLeDiff, ↓reduceIte]

theorem Stp.sub2 {f g : Sf} {P P1 : List (List Int)} {x e d : Nat} {A A' : Nat → Prop} (h : Stp f g P x e d A P1) (hA : ∀ a, A' a → a < f.shp.fr.length → f.fr a = x → A a) : Stp f g P x e d A' P1 := ⟨h.ty, h.old, h.new, fun a h1 h2 h3 => h.all a (hA a h1 h2 h3) h2 h3⟩
/-- What 'set' notes. -/
structure Und (f : Sf) (P P' : List (List Int)) (N : List (Nat × Nat)) : Prop where
  rng : ∀ p, p ∈ N → p.1 < f.shp.idn.length ∧ p.2 < f.sz1 p.1 ∧ pc P p.1 p.2 = -1
  same : ∀ y i, y < f.shp.idn.length → i < f.sz1 y → pc P' y i = pc P y i ∨ (y, i) ∈ N
theorem Und.zero {f : Sf} {P : List (List Int)} : Und f P P [] := ⟨fun p h => (by cases h), fun _ _ _ _ => .inl rfl⟩
theorem Und.set {f g : Sf} {P P1 : List (List Int)} {N : List (Nat × Nat)} (h : Und f P P1 N) (hP : PT f g P) (hP1 : PT f g P1) {y i : Nat} {v : Int} (hy : y < f.shp.idn.length) (hi : i < f.sz1 y) (h0 : pc P1 y i < 0) (hold : 0 ≤ pc P y i → pc P1 y i = pc P y i) : Und f P (P1.set y ((P1.getD y []).set i v)) (N ++ [(y, i)]) := by
  refine ⟨fun p hp => ?_, fun y' i' h1 h2 => ?_⟩
  · rcases List.mem_append.1 hp with hp | hp
    · exact h.rng p hp
    · obtain rfl : p = (y, i) := by simpa using hp
      refine ⟨hy, hi, ?_⟩
      rcases hP.rng y i hy hi with h3 | h3
      · exact h3
      · have := hold h3.1; omega
  · rw [pc_set (by rw [hP1.len]; exact hy) (by rw [hP1.row y hy]; exact hi)]
    by_cases hh : y' = y ∧ i' = i
    · obtain ⟨rfl, rfl⟩ := hh
      exact .inr (by simp)
    · rw [if_neg hh]
      exact (h.same y' i' h1 h2).imp id fun h => by simp [h]

def SetQ (f g : Sf) (M : Nat) (P l : List (List Int)) (x e d : Nat) (rc : D) (gs' : List D) : Prop :=
  ∃ r P' N, PT f g P' ∧ (Und f P P' N ∧ N.length ≤ f.shp.fr.length) ∧ (r = true → Stp f g P x e d (fun a => a < f.shp.fr.length) P') ∧ (r = false → ∀ m, NatM f g m → ExM f P m → pc m x e ≠ d) ∧ rc = .bool r ∧ gs' = gM5 f g M P' l N

-- (*impl.mapSearch).set
def c_impl_mapSearch_set : C :=
  (.seq (.ops [] [⟨none, .asg 5 (.k (.bool false))⟩] [])
  (.seq (.ops [] [⟨none, .mv (.v 0)⟩,
    ⟨none, .nck (.t 0)⟩,
    ⟨none, .fA 0 (.t 1)⟩,
    ⟨none, .ld (.t 2)⟩,
    ⟨none, .nck (.t 3)⟩,
    ⟨none, .fA 0 (.t 4)⟩,
    ⟨none, .asg 6 (.t 5)⟩] [])
  (.seq (.seq (.ops [11, 12] [⟨none, .mv (.v 6)⟩,
    ⟨none, .mv (.v 1)⟩,
    ⟨none, .call 203 [(.t 0), (.t 1)]⟩,
    ⟨none, .len (.t 2)⟩,
    ⟨none, .asg 13 (.i 0)⟩] [(11, 2), (12, 3)])
  (.block 0 (.loop (.opq [] [⟨none, .bin .lss (.v 13) (.v 12)⟩] [] (.t 0) .skip
  (.exit 0)
  (.seq (.block 1 (.seq (.ops [] [⟨none, .idxA 1 (.v 11) (.v 13)⟩,
    ⟨none, .ld (.t 0)⟩,
    ⟨none, .asg 7 (.t 1)⟩] [])
  (.seq (.ops [8, 9] [⟨none, .mv (.v 6)⟩,
    ⟨none, .nck (.t 0)⟩,
    ⟨none, .fA 2 (.t 1)⟩,
    ⟨none, .ld (.t 2)⟩,
    ⟨none, .mv (.v 7)⟩,
    ⟨none, .idxA 1 (.t 3) (.t 4)⟩,
    ⟨none, .ld (.t 5)⟩,
    ⟨none, .mv (.v 0)⟩,
    ⟨none, .nck (.t 7)⟩,
    ⟨none, .fA 0 (.t 8)⟩,
    ⟨none, .ld (.t 9)⟩,
    ⟨none, .nck (.t 10)⟩,
    ⟨none, .fA 6 (.t 11)⟩,
    ⟨none, .ld (.t 12)⟩,
    ⟨none, .mv (.v 7)⟩,
    ⟨none, .idxA 1 (.t 13) (.t 14)⟩,
    ⟨none, .ld (.t 15)⟩,
    ⟨none, .mv (.v 2)⟩,
    ⟨none, .idxA 1 (.t 16) (.t 17)⟩,
    ⟨none, .ld (.t 18)⟩,
    ⟨none, .mv (.v 0)⟩,
    ⟨none, .nck (.t 20)⟩,
    ⟨none, .fA 1 (.t 21)⟩,
    ⟨none, .ld (.t 22)⟩,
    ⟨none, .nck (.t 23)⟩,
    ⟨none, .fA 6 (.t 24)⟩,
    ⟨none, .ld (.t 25)⟩,
    ⟨none, .mv (.v 7)⟩,
    ⟨none, .idxA 1 (.t 26) (.t 27)⟩,
    ⟨none, .ld (.t 28)⟩,
    ⟨none, .mv (.v 3)⟩,
    ⟨none, .idxA 1 (.t 29) (.t 30)⟩,
    ⟨none, .ld (.t 31)⟩,
    ⟨none, .mv (.t 6)⟩,
    ⟨none, .mv (.t 19)⟩,
    ⟨none, .asg 10 (.t 32)⟩] [(8, 33), (9, 34)])
  (.seq (.opc [] [⟨none, .mv (.v 0)⟩,
    ⟨none, .nck (.t 0)⟩,
    ⟨none, .fA 3 (.t 1)⟩,
    ⟨none, .ld (.t 2)⟩,
    ⟨none, .mv (.v 8)⟩,
    ⟨none, .idxA 1 (.t 3) (.t 4)⟩,
    ⟨none, .ld (.t 5)⟩,
    ⟨none, .mv (.v 9)⟩,
    ⟨none, .idxA 1 (.t 6) (.t 7)⟩,
    ⟨none, .ld (.t 8)⟩,
    ⟨none, .bin .geq (.t 9) (.i 0)⟩] [] (.t 10) (.seq (.opc [] [⟨none, .mv (.v 0)⟩,
    ⟨none, .nck (.t 0)⟩,
    ⟨none, .fA 3 (.t 1)⟩,
    ⟨none, .ld (.t 2)⟩,
    ⟨none, .mv (.v 8)⟩,
    ⟨none, .idxA 1 (.t 3) (.t 4)⟩,
    ⟨none, .ld (.t 5)⟩,
    ⟨none, .mv (.v 9)⟩,
    ⟨none, .idxA 1 (.t 6) (.t 7)⟩,
    ⟨none, .ld (.t 8)⟩,
    ⟨none, .mv (.v 10)⟩,
    ⟨none, .bin .neq (.t 9) (.t 10)⟩] [] (.t 11) (.seq (.ops [] [⟨none, .asg 5 (.k (.bool false))⟩] [])
  .ret)
  .skip)
  (.exit 1))
  .skip)
  (.seq (.opc [] [⟨none, .mv (.v 0)⟩,
    ⟨none, .nck (.t 0)⟩,
    ⟨none, .fA 2 (.t 1)⟩,
    ⟨none, .ld (.t 2)⟩,
    ⟨none, .mv (.t 3)⟩,
    ⟨some (4, true), .mv (.v 0)⟩,
    ⟨some (4, true), .nck (.t 5)⟩,
    ⟨some (4, true), .fA 3 (.t 6)⟩,
    ⟨some (4, true), .ld (.t 7)⟩,
    ⟨some (4, true), .mv (.v 8)⟩,
    ⟨some (4, true), .idxA 1 (.t 8) (.t 9)⟩,
    ⟨some (4, true), .ld (.t 10)⟩,
    ⟨some (4, true), .mv (.v 10)⟩,
    ⟨some (4, true), .call 169 [(.t 11), (.t 12)]⟩,
    ⟨none, .pick (.t 4) (.t 13) (.k (.bool false))⟩] [] (.t 14) (.seq (.ops [] [⟨none, .asg 5 (.k (.bool false))⟩] [])
  .ret)
  .skip)
  (.seq (.ops [] [⟨none, .mv (.v 0)⟩,
    ⟨none, .nck (.t 0)⟩,
    ⟨none, .fA 3 (.t 1)⟩,
    ⟨none, .ld (.t 2)⟩,
    ⟨none, .mv (.v 8)⟩,
    ⟨none, .idxA 1 (.t 3) (.t 4)⟩,
    ⟨none, .ld (.t 5)⟩,
    ⟨none, .mv (.v 9)⟩,
    ⟨none, .mv (.v 10)⟩,
    ⟨none, .idxA 1 (.t 6) (.t 7)⟩,
    ⟨none, .st (.t 9) (.t 8)⟩] [])
  (.ops [] [⟨none, .mv (.v 4)⟩,
    ⟨none, .mv (.v 4)⟩,
    ⟨none, .nck (.t 1)⟩,
    ⟨none, .ld (.t 2)⟩,
    ⟨none, .mv (.v 8)⟩,
    ⟨none, .mv (.v 9)⟩,
    ⟨none, .bld [.int .i64 0, .int .i64 0] [(0, 1, (.t 4)), (1, 1, (.t 5))]⟩,
    ⟨none, .bldS (.agg [.int .i64 0, .int .i64 0]) 1 [(0, (.t 6))]⟩,
    ⟨none, .app 2 16 (.t 3) (.t 7)⟩,
    ⟨none, .nck (.t 0)⟩,
    ⟨none, .st (.t 9) (.t 8)⟩] [])))))))
  (.ops [] [⟨none, .bin .add (.v 13) (.i 1)⟩,
    ⟨none, .asg 13 (.t 0)⟩] []))))))
  (.seq (.ops [] [⟨none, .asg 5 (.k (.bool true))⟩] [])
  .ret))))
def tr_impl_mapSearch_set : List Nat := [0, 1, 2, 3, 4, 10, 11, 13, 14, 15, 16, 25, 26, 27]
def rs_impl_mapSearch_set : List RS := [.t 5]
theorem ok_impl_mapSearch_set : fnOk Go.Proofs.Try.prog Go.Proofs.Try.f195 tr_impl_mapSearch_set c_impl_mapSearch_set 5 rs_impl_mapSearch_set = true := by decide +kernel

theorem ret_impl_mapSearch_set (f g : Sf) (M : Nat) (P l : List (List Int)) (x e d : Nat) (ht : Two f g) (hi : Inp f g x e d) (hP : PT f g P) :
    RetE Go.Proofs.Try.prog 195 [.adr 0 [(0, 0)], .int .i64 x, .int .i64 e, .int .i64 d, .adr 4 [(0, 0)]] (gM5 f g M P l []) (SetQ f g M P l x e d) := by
  have hfl := ht.okf.cs.fr
  refine ret_fnE .tree Go.Proofs.Try.func195 rfl ok_impl_mapSearch_set rfl ⟨by simp only [List.length_cons, List.length_nil]; decide, by simp only [List.length_cons, List.length_nil]; decide⟩ rfl ?_; unfold c_impl_mapSearch_set tr_impl_mapSearch_set rs_impl_mapSearch_set; simp only [go_sem, Nat.reduceLT, Nat.reduceAdd, Nat.reduceSub, Nat.reduceBEq, Nat.reduceLeDiff, ↓reduceIte]
  refine call_wk (bs := [.ptr f.shp.cells, .int .i64 x]) (ret_impl_Category_outOf f.shp x (by omega)) rfl ⟨.inr ⟨5, _, rfl, rfl⟩, .inl rfl, trivial⟩ (.inl (nv_ints _)) ?_
  simp only [go_sem, Nat.reduceLT, Nat.reduceAdd, Nat.reduceSub, Nat.reduceBEq, Nat.reduceLeDiff, ↓reduceIte]
  have hol := Cat.outs_len (c := f.shp) (x := (x : Int)) f.shp.fr.length
  refine loop_set [7, 8, 9, 10] (fun s : Nat × List (List Int) × List (Nat × Nat) => [(13, .int .i64 s.1), (14, .box [.ptr f.cells, .ptr g.cells, .bool false, .o (intss s.2.1), .fn 162 [.adr 15 [(0, 0)]]]), (18, .box [.o (prsD s.2.2)])])
    (fun s => s.1 ≤ (f.shp.outs x f.shp.fr.length).length ∧ Stp f g P x e d (fun a => (a : Int) ∈ (f.shp.outs x f.shp.fr.length).take s.1) s.2.1 ∧ Und f P s.2.1 s.2.2 ∧ s.2.2.length ≤ s.1) (fun s => (f.shp.outs x f.shp.fr.length).length - s.1) (0, P, []) (by simp only [go_sem, Nat.reduceLT, Nat.reduceBEq, ↓reduceIte]; rfl)
    ⟨Nat.zero_le _, (show Stp f g P x e d (fun a => (a : Int) ∈ (f.shp.outs (x : Int) f.shp.fr.length).take 0) P from (Stp.zero hP).sub fun a h => by simp at h), Und.zero, Nat.le_refl _⟩ rfl ?_
  rintro ⟨j, P1, N1⟩ ⟨hj, hst, hun, hnl⟩
  simp only [go_sem, Nat.reduceLT, Nat.reduceAdd, Nat.reduceSub, Nat.reduceBEq, Nat.reduceLeDiff, ↓reduceIte]
  simp only at hj hst hun hnl
  have hpcd : ∀ y i : Nat, (P1.getD y []).getD i 0 = pc P1 y i := fun _ _ => rfl
  refine ⟨fun h => ?_, fun h => ?_⟩
  · obtain ⟨a, ha0, hal, ha2⟩ := Cat.mem_outs.1 (show (f.shp.outs (x : Int) f.shp.fr.length).getD j 0 ∈ f.shp.outs (x : Int) f.shp.fr.length by rw [getD_lt h]; exact List.getElem_mem _)
    have htk : ∀ b : Nat, (b : Int) ∈ (f.shp.outs (x : Int) f.shp.fr.length).take (j + 1) ↔ ((b : Int) ∈ (f.shp.outs (x : Int) f.shp.fr.length).take j ∨ b = a) := fun b => by
      rw [take_snoc h 0, List.mem_append, ha0, List.mem_singleton]
      exact or_congr Iff.rfl ⟨fun h => by omega, fun h => by omega⟩
    have e1 := ht.okf.cs.fri hal
    have e2 := ht.okf.cs.toi hal
    have hto := ht.okf.cs.to
    have hactl := ht.okf.actl
    have hgactl := ht.okg.actl
    rw [ht.eq] at hgactl
    have hfx : f.fr a = x := by unfold Sf.fr; omega
    have hgx : g.fr a = x := by unfold Sf.fr at hfx ⊢; rw [ht.eq]; exact hfx
    have hy : f.shp.to.getD a 0 = (f.to a : Int) := by unfold Sf.to; omega
    have hiv : (f.act.getD a []).getD e 0 = (f.im a e : Int) := ht.okf.acn hal (by rw [hfx]; exact hi.he)
    have hkv : (g.act.getD a []).getD d 0 = (g.im a d : Int) := ht.okg.acn (by rw [ht.eq]; exact hal) (by rw [hgx]; exact hi.hd)
    have hyl := ht.okf.tol hal
    have hil := ht.okf.iml hal (i := e) (by rw [hfx]; exact hi.he)
    have hgl := ht.gim hal (d := d) (by rw [hfx]; exact hi.hd)
    have hr1 := hst.ty.row _ hyl
    have hl1 := hst.ty.len
    have hacl := (ht.okf.acl hal).1
    have hgacl := (ht.okg.acl (a := a) (by rw [ht.eq]; exact hal)).1
    rw [ha2] at hacl
    rw [ht.eq, ha2] at hgacl
    have he1 := hi.he
    have hd1 := hi.hd
    unfold Sf.sz1 at he1 hd1
    rw [ha0]
    simp only [Int.toNat_natCast]
    rw [hy, hiv, hkv]
    simp only [Int.toNat_natCast, hpcd]
    have hwr := wrap_lt h (by simp only [maxLen]; omega)
    have hle : j + 1 ≤ (f.shp.outs (x : Int) f.shp.fr.length).length := h
    refine ⟨h, by omega, by omega, by omega, by omega, by omega, by omega, by omega, fun h4 => ⟨by omega, by omega, fun h5 => ?_, fun h5 => ?_⟩, fun h4 => ?_⟩
    · exact ⟨_, _, ⟨false, P1, N1, hst.ty, ⟨hun, by omega⟩, fun h => (by cases h), fun _ => hst.clash hi ht hal hfx h4 (by simpa using h5), rfl, rfl⟩, rfl, rfl, rfl, rfl, rfl, rfl, rfl, trivial⟩
    · have h6 : pc P1 (f.to a) (f.im a e) = g.im a d := by simpa using h5
      exact ⟨(j + 1, P1, N1), ⟨hle, (hst.keep h6).sub fun b hb => (htk b).1 hb, hun, by simp only; omega⟩, by simp only; omega, by rw [hwr] <;> rfl⟩
    · refine callg_of (res := .bool false) (fun h => by cases h) rfl (fun h => by cases h) (.inl rfl) ?_
      simp only [go_sem, Nat.reduceLT, Nat.reduceAdd, Nat.reduceSub, Nat.reduceEqDiff, Nat.reduceBEq, Nat.reduceLeDiff, ↓reduceIte]
      exact ⟨by omega, by omega, ⟨by omega, by omega⟩, by omega, (j + 1, _, N1 ++ [(f.to a, f.im a e)]), ⟨hle, (hst.set ht hi hal hfx (by omega)).sub fun b hb => (htk b).1 hb, hun.set hP hst.ty hyl hil (by omega) (fun h0 => hst.old _ _ hyl hil h0), by simp only [List.length_append, List.length_cons, List.length_nil]; omega⟩, by simp only; omega, by rw [hwr] <;> rfl⟩
  · have hjj : j = (f.shp.outs (x : Int) f.shp.fr.length).length := by omega
    rw [hjj, List.take_length] at hst
    exact ⟨_, _, ⟨true, P1, N1, hst.ty, ⟨hun, by omega⟩, fun _ => hst.sub2 fun a h1 h2 h3 => Cat.mem_outs.2 ⟨a, rfl, h2, by
      have := ht.okf.cs.fri h2
      unfold Sf.fr at h3; omega⟩, fun h => (by cases h), rfl, rfl⟩, rfl, rfl, rfl, rfl, rfl, rfl, rfl, trivial⟩

theorem take_stop' {α : Type} {A R : List α} {M : Nat} (h : ¬ A.length ≤ M) : (A ++ R).take (M + 1) = A.take (M + 1) := by
  rw [List.take_append_of_le_length (by omega)]


-- (*impl.mapSearch).run
def c_impl_mapSearch_run : C :=
  (.seq (.ops [] [⟨none, .asg 1 (.k (.bool false))⟩] [])
  (.seq (.seq (.ops [9] [⟨none, .mv (.v 0)⟩,
    ⟨none, .nck (.t 0)⟩,
    ⟨none, .fA 3 (.t 1)⟩,
    ⟨none, .ld (.t 2)⟩,
    ⟨none, .len (.t 3)⟩,
    ⟨none, .asg 10 (.i 0)⟩] [(9, 4)])
  (.block 0 (.loop (.opq [] [⟨none, .bin .lss (.v 10) (.v 9)⟩] [] (.t 0) .skip
  (.exit 0)
  (.seq (.block 1 (.seq (.ops [] [⟨none, .mv (.v 10)⟩,
    ⟨none, .asg 2 (.t 0)⟩] [])
  (.seq (.ops [] [⟨none, .mv (.v 0)⟩,
    ⟨none, .nck (.t 0)⟩,
    ⟨none, .fA 3 (.t 1)⟩,
    ⟨none, .ld (.t 2)⟩,
    ⟨none, .mv (.v 2)⟩,
    ⟨none, .idxA 1 (.t 3) (.t 4)⟩,
    ⟨none, .ld (.t 5)⟩,
    ⟨none, .call 103 [(.t 6), (.i (-1))]⟩,
    ⟨none, .asg 3 (.t 7)⟩] [])
  (.seq (.opc [] [⟨none, .mv (.v 3)⟩,
    ⟨none, .bin .lss (.t 0) (.i 0)⟩] [] (.t 1) (.exit 1)
  .skip)
  (.seq (.seq (.ops [] [⟨none, .asg 4 (.i 0)⟩] [])
  (.block 2 (.loop (.seq (.opc [] [⟨none, .mv (.v 4)⟩,
    ⟨none, .mv (.v 0)⟩,
    ⟨none, .nck (.t 1)⟩,
    ⟨none, .fA 1 (.t 2)⟩,
    ⟨none, .ld (.t 3)⟩,
    ⟨none, .nck (.t 4)⟩,
    ⟨none, .fA 5 (.t 5)⟩,
    ⟨none, .ld (.t 6)⟩,
    ⟨none, .mv (.v 2)⟩,
    ⟨none, .idxA 1 (.t 7) (.t 8)⟩,
    ⟨none, .ld (.t 9)⟩,
    ⟨none, .bin .lss (.t 0) (.t 10)⟩] [] (.t 11) .skip
  (.exit 2))
  (.seq (.block 3 (.seq (.ops [5] [⟨none, .bldS (.agg [.int .i64 0, .int .i64 0]) 0 []⟩,
    ⟨none, .alc [.nils (.agg [.int .i64 0, .int .i64 0])]⟩,
    ⟨none, .st (.t 1) (.t 0)⟩] [(5, 1)])
  (.seq (.ops [] [⟨none, .mv (.v 0)⟩,
    ⟨none, .mv (.v 2)⟩,
    ⟨none, .mv (.v 3)⟩,
    ⟨none, .mv (.v 4)⟩,
    ⟨none, .dyn (.k (.fn 195 [])) [(.t 0), (.t 1), (.t 2), (.t 3), (.v 5)]⟩,
    ⟨none, .asg 6 (.t 4)⟩] [])
  (.seq (.ops [] [⟨none, .mv (.v 6)⟩,
    ⟨none, .not (.t 0)⟩,
    ⟨none, .mv (.t 1)⟩,
    ⟨some (2, false), .mv (.v 0)⟩,
    ⟨some (2, false), .dyn (.k (.fn 183 [])) [(.t 3)]⟩,
    ⟨none, .pick (.t 2) (.k (.bool true)) (.t 4)⟩,
    ⟨none, .asg 7 (.t 5)⟩] [])
  (.seq (.seq (.ops [11, 12] [⟨none, .ld (.v 5)⟩,
    ⟨none, .len (.t 0)⟩,
    ⟨none, .asg 13 (.i 0)⟩] [(11, 0), (12, 1)])
  (.block 4 (.loop (.opq [] [⟨none, .bin .lss (.v 13) (.v 12)⟩] [] (.t 0) .skip
  (.exit 4)
  (.seq (.block 5 (.seq (.ops [8] [⟨none, .idxA 2 (.v 11) (.v 13)⟩,
    ⟨none, .lda 2 (.t 0)⟩,
    ⟨none, .alc [.int .i64 0, .int .i64 0]⟩,
    ⟨none, .stn 2 (.t 2) (.t 1)⟩] [(8, 2)])
  (.ops [] [⟨none, .mv (.v 0)⟩,
    ⟨none, .nck (.t 0)⟩,
    ⟨none, .fA 3 (.t 1)⟩,
    ⟨none, .ld (.t 2)⟩,
    ⟨none, .fA 0 (.v 8)⟩,
    ⟨none, .ld (.t 4)⟩,
    ⟨none, .idxA 1 (.t 3) (.t 5)⟩,
    ⟨none, .ld (.t 6)⟩,
    ⟨none, .fA 1 (.v 8)⟩,
    ⟨none, .ld (.t 8)⟩,
    ⟨none, .idxA 1 (.t 7) (.t 9)⟩,
    ⟨none, .st (.t 10) (.i (-1))⟩] [])))
  (.ops [] [⟨none, .bin .add (.v 13) (.i 1)⟩,
    ⟨none, .asg 13 (.t 0)⟩] []))))))
  (.opc [] [⟨none, .mv (.v 7)⟩,
    ⟨none, .not (.t 0)⟩] [] (.t 1) (.seq (.ops [] [⟨none, .asg 1 (.k (.bool false))⟩] [])
  .ret)
  .skip))))))
  (.ops [] [⟨none, .mv (.v 4)⟩,
    ⟨none, .bin .add (.t 0) (.i 1)⟩,
    ⟨none, .asg 4 (.t 1)⟩] []))))))
  (.seq (.ops [] [⟨none, .asg 1 (.k (.bool true))⟩] [])
  .ret))))))
  (.ops [] [⟨none, .bin .add (.v 10) (.i 1)⟩,
    ⟨none, .asg 10 (.t 0)⟩] []))))))
  (.seq (.ops [] [⟨none, .mv (.v 0)⟩,
    ⟨none, .nck (.t 0)⟩,
    ⟨none, .fA 4 (.t 1)⟩,
    ⟨none, .ld (.t 2)⟩,
    ⟨none, .mv (.v 0)⟩,
    ⟨none, .nck (.t 4)⟩,
    ⟨none, .fA 3 (.t 5)⟩,
    ⟨none, .ld (.t 6)⟩,
    ⟨none, .dyn (.t 3) [(.t 7)]⟩,
    ⟨none, .asg 1 (.t 8)⟩] [])
  .ret)))
def tr_impl_mapSearch_run : List Nat := [0, 2, 3, 4, 5, 6, 7, 8, 10, 15, 16, 55, 56, 57]
def rs_impl_mapSearch_run : List RS := [.t 1]
theorem ok_impl_mapSearch_run : fnOk Go.Proofs.Try.prog Go.Proofs.Try.f183 tr_impl_mapSearch_run c_impl_mapSearch_run 1 rs_impl_mapSearch_run = true := by decide +kernel

theorem ret_run (f g : Sf) (M : Nat) (hM : M ≤ 1000000) (ht : Two f g) (hone : ∀ x, x < f.shp.idn.length → 0 < f.sz1 x) : ∀ (n : Nat) (P l : List (List Int)) (L : List (List (List Int))), unkM f P < n → PT f g P → Clo f g P → l.length ≤ M → EnM f g P L →
    RetG Go.Proofs.Try.prog 183 [.adr 0 [(0, 0)]] (gM f g M P l) (.bool (decide ((l ++ cols L).length ≤ M))) (gM f g M P ((l ++ cols L).take (M + 1))) := by
  intro n
  induction n with
  | zero => intro P l L hn; omega
  | succ n ih =>
  intro P l L hn hP hc hl hL
  have h8 := ht.okf.cs.idl
  have hPl := hP.len
  have hfl := ht.okf.cs.fr
  refine ret_fnG .tree Go.Proofs.Try.func183 rfl ok_impl_mapSearch_run rfl ⟨by simp only [List.length_cons, List.length_nil]; decide, by simp only [List.length_cons, List.length_nil]; decide⟩ rfl ?_; unfold c_impl_mapSearch_run tr_impl_mapSearch_run rs_impl_mapSearch_run; simp only [go_sem, Nat.reduceLT, Nat.reduceAdd, Nat.reduceSub, Nat.reduceBEq, Nat.reduceLeDiff, ↓reduceIte]
  refine loop_set [2, 3] (fun (x : Nat) => [(10, .int .i64 x)]) (fun x => x ≤ f.shp.idn.length ∧ ∀ x' i' : Nat, x' < x → i' < f.sz1 x' → 0 ≤ pc P x' i') (fun x => f.shp.idn.length - x) 0 (by simp only [go_sem, Nat.reduceLT, Nat.reduceBEq, ↓reduceIte]; rfl) ⟨Nat.zero_le _, fun _ _ h => absurd h (Nat.not_lt_zero _)⟩ rfl ?_
  rintro x ⟨hx, hbef⟩
  simp only [go_sem, Nat.reduceLT, Nat.reduceAdd, Nat.reduceSub, Nat.reduceBEq, Nat.reduceLeDiff, ↓reduceIte]
  refine ⟨fun h => ?_, fun h => ?_⟩
  · have hxl : x < f.shp.idn.length := by omega
    have hrow := hP.row x hxl
    have hgi := ht.okf.szi (x := (x : Int)) (by omega) (by omega)
    have hz : f.sz1 x ≤ 16 := by unfold Sf.sz1 Sf.size; omega
    have hgg := ht.okg.szi (x := (x : Int)) (by omega) (by rw [ht.eq]; omega)
    have hgz : g.sz1 x = (g.sz.getD x 0).toNat := by unfold Sf.sz1 Sf.size; rw [Int.toNat_natCast]
    rw [Int.toNat_natCast] at hgg
    have hgl := ht.okg.szl
    rw [ht.eq] at hgl
    refine ⟨h, ?_⟩
    by_cases hall : ∀ i, i < f.sz1 x → 0 ≤ pc P x i
    · refine call_of (ret_impl_index_int64 (P.getD x []) (-1) (-1) (.inl ⟨rfl, fun j hj => by
        have := hall j (by omega)
        unfold pc at this; omega⟩) (by omega)) rfl (.inl rfl) ?_
      simp only [go_sem, Nat.reduceLT, Nat.reduceAdd, Nat.reduceSub, Nat.reduceBEq, Nat.reduceLeDiff, ↓reduceIte]
      refine ⟨fun _ => ⟨x + 1, ⟨by omega, fun x' i' h1 h2 => by
        by_cases hxx : x' = x
        · subst hxx; exact hall i' h2
        · exact hbef x' i' (by omega) h2⟩, by omega, by rw [wrap_lt hxl (by simp only [maxLen]; omega)]⟩, fun hh => absurd (by decide) hh⟩
    · have hex : ∃ i, i < f.sz1 x ∧ pc P x i < 0 := by
        apply Classical.byContradiction
        intro hn'
        exact hall fun i hi => by
          apply Classical.byContradiction
          intro h2
          exact hn' ⟨i, hi, by omega⟩
      obtain ⟨i0, hi0⟩ := hex
      obtain ⟨e, ⟨he, hu⟩, hmin⟩ := least' (fun i => i < f.sz1 x ∧ pc P x i < 0) i0 hi0
      have hF : FsM f P x e := fun x' i' hb hi' => by
        rcases hb with hb | ⟨rfl, hb⟩
        · exact hbef x' i' hb hi'
        · apply Classical.byContradiction
          intro h3
          have := hmin i' ⟨hi', by omega⟩; omega
      have hem : (P.getD x []).getD e 0 = -1 := by
        rcases hP.rng x e hxl he with h1 | h1
        · exact h1
        · omega
      refine call_of (ret_impl_index_int64 (P.getD x []) (-1) e (.inr ⟨e, rfl, by omega, hem, fun j hj hh => by
        have := hF x j (.inr ⟨rfl, hj⟩) (by omega)
        unfold pc at this; omega⟩) (by omega)) rfl (.inl rfl) ?_
      simp only [go_sem, Nat.reduceLT, Nat.reduceAdd, Nat.reduceSub, Nat.reduceBEq, Nat.reduceLeDiff, ↓reduceIte]
      refine ⟨fun hh => by omega, fun _ => ?_⟩
      refine loop_set [5, 6, 7, 8, 11, 12, 13] (fun s : Nat × List (List (List Int)) => [(4, .int .i64 s.1), (16, .box [.o (intss (l ++ cols s.2))])]) (fun s => s.1 ≤ g.sz1 x ∧ EnMP f g P x e s.1 s.2 ∧ (l ++ cols s.2).length ≤ M) (fun s => g.sz1 x - s.1) (0, []) (by simp only [go_sem, Nat.reduceLT, Nat.reduceBEq, ↓reduceIte]; rfl) ⟨Nat.zero_le _, EnMP.zero hxl he, by simpa [cols] using hl⟩ (by simp only [cols, List.map_nil, List.append_nil]; rfl) ?_
      rintro ⟨d, Li⟩ ⟨hd, hE, hlm⟩
      simp only at hd hE hlm
      simp only [go_sem, Nat.reduceLT, Nat.reduceAdd, Nat.reduceSub, Nat.reduceEqDiff, Nat.reduceBEq, Nat.reduceLeDiff, ↓reduceIte]
      refine ⟨by omega, fun hdz => ?_, fun hdz => ?_⟩
      · have hI : Inp f g x e d := ⟨hxl, he, by omega⟩
        refine e_call [14, 15, 16, 17, 5] false (ret_impl_mapSearch_set f g M P (l ++ cols Li) x e d ht hI hP) (by exact ⟨by decide, rfl⟩) (by repeat (first | exact trivial | refine ⟨rfl, ?_⟩)) (by repeat (first | exact trivial | refine ⟨.inl rfl, ?_⟩ | refine ⟨.inr ⟨rfl, rfl⟩, ?_⟩)) ?_
        rintro _ _ ⟨r, P', N, hPT, ⟨hun, hNl⟩, hs1, hs0, rfl, rfl⟩
        refine ⟨(by repeat (first | exact trivial | refine ⟨(fun h => by cases h), ?_⟩)), (fun h => by cases h), ?_⟩
        simp only [go_sem, Nat.reduceLT, Nat.reduceAdd, Nat.reduceSub, Nat.reduceBEq, Nat.reduceLeDiff, ↓reduceIte]
        have hnl : ∀ p, p ∈ N → p.1 < f.shp.idn.length ∧ p.2 < f.sz1 p.1 := fun p hp => ⟨(hun.rng p hp).1, (hun.rng p hp).2.1⟩
        refine dyn_guard (fun hr => ?_) (fun hr => ?_)
        · have hr1 : r = true := by simpa using hr
          have hS := hs1 hr1
          obtain ⟨L1, hL1⟩ := EnM.exists ht _ (Nat.le_refl _) hS.ty (hS.clo ht hI hc)
          have hun2 := hS.unk ht hI hu
          simp only [go_sem]
          refine g_callg [14, 15, 16, 17] false hr (ih P' (l ++ cols Li) L1 (by omega) hS.ty (hS.clo ht hI hc) hlm hL1) (by exact ⟨by decide, rfl⟩) (by repeat (first | exact trivial | refine ⟨rfl, ?_⟩)) (by repeat (first | exact trivial | refine ⟨.inl rfl, ?_⟩ | refine ⟨.inr ⟨rfl, rfl⟩, ?_⟩)) (by repeat (first | exact trivial | refine ⟨(fun h => by cases h), ?_⟩)) (fun h => by cases h) rfl ?_
          simp only [go_sem, Nat.reduceLT, Nat.reduceAdd, Nat.reduceSub, Nat.reduceBEq, Nat.reduceLeDiff, ↓reduceIte]
          refine loop_set [8] (fun s : Nat × List (List Int) => [(13, .int .i64 s.1), (14, .box [.ptr f.cells, .ptr g.cells, .bool false, .o (intss s.2), .fn 162 [.adr 15 [(0, 0)]]])]) (fun s => s.1 ≤ N.length ∧ PT f g s.2 ∧ ∀ y i : Nat, y < f.shp.idn.length → i < f.sz1 y → pc s.2 y i = pc P y i ∨ (y, i) ∈ N.drop s.1) (fun s => N.length - s.1) (0, P') (by simp only [go_sem, Nat.reduceLT, Nat.reduceBEq, ↓reduceIte]; rfl) ⟨Nat.zero_le _, hPT, fun y i h1 h2 => by rw [List.drop_zero]; exact hun.same y i h1 h2⟩ rfl ?_
          rintro ⟨j, Pj⟩ ⟨hj, hPj, hsm⟩
          simp only at hj hPj hsm
          simp only [go_sem, Nat.reduceLT, Nat.reduceAdd, Nat.reduceSub, Nat.reduceBEq, Nat.reduceLeDiff, ↓reduceIte]
          refine ⟨fun hjl => ?_, fun hjl => ?_⟩
          · have hm := hun.rng (N.getD j (0, 0)) (by rw [getD_lt hjl]; exact List.getElem_mem _)
            have hrj := hPj.row _ hm.1
            have hlj := hPj.len
            have hm1 := hm.1
            have hm2 := hm.2.1
            have hset : PT f g (Pj.set (N.getD j (0, 0)).1 ((Pj.getD (N.getD j (0, 0)).1 []).set (N.getD j (0, 0)).2 (-1))) ∧ ∀ y i : Nat, y < f.shp.idn.length → i < f.sz1 y → pc (Pj.set (N.getD j (0, 0)).1 ((Pj.getD (N.getD j (0, 0)).1 []).set (N.getD j (0, 0)).2 (-1))) y i = pc P y i ∨ (y, i) ∈ N.drop (j + 1) := by
              refine ⟨hPj.set hm1 hm2 (.inl rfl), fun y i h1 h2 => ?_⟩
              rw [pc_set (by omega) (by omega)]
              by_cases hh : y = (N.getD j (0, 0)).1 ∧ i = (N.getD j (0, 0)).2
              · rw [if_pos hh, hh.1, hh.2, hm.2.2]; exact .inl rfl
              · rw [if_neg hh]
                rcases hsm y i h1 h2 with h3 | h3
                · exact .inl h3
                · rw [List.drop_eq_getElem_cons hjl, List.mem_cons] at h3
                  rcases h3 with h3 | h3
                  · rw [getD_lt hjl, ← h3] at hh
                    exact absurd ⟨rfl, rfl⟩ hh
                  · exact .inr h3
            have hwr := wrap_lt hjl (by simp only [maxLen]; omega)
            exact ⟨hjl, by omega, by omega, by omega, ⟨by omega, by omega⟩, (j + 1, _), ⟨by simp only; omega, hset⟩, by simp only; omega, by rw [hwr] <;> rfl⟩
          · have hPP : Pj = P := hPj.ext hP fun y i h1 h2 => by
              rcases hsm y i h1 h2 with h3 | h3
              · exact h3
              · rw [List.drop_eq_nil_of_le (by omega)] at h3; cases h3
            subst hPP
            have hwd := wrap_lt (i := d) (n := 17) (by omega) (by simp only [maxLen]; omega)
            have hE2 := hE.step ht hI hP hF hS hL1
            refine ⟨fun h2 => ?_, fun h2 => ?_⟩
            · have hno : ¬ (l ++ cols Li ++ cols L1).length ≤ M := by
                rw [hr1] at h2; simpa using h2
              obtain ⟨R, hR⟩ := EnMP.pre ht hP hc hF hxl he hE2 (by omega) hL
              have hcl : l ++ cols L = (l ++ cols Li ++ cols L1) ++ cols R := by rw [hR, cols_app, cols_app, ← List.append_assoc, ← List.append_assoc]
              have hout : (l ++ cols L).take (M + 1) = (l ++ cols Li ++ cols L1).take (M + 1) := by rw [hcl, take_stop' hno]
              have hlen : ¬ (l ++ cols L).length ≤ M := by rw [hcl, List.length_append]; omega
              rw [hout, decide_eq_false hlen]
              simp only [go_sem]
            · have hyes : (l ++ cols Li ++ cols L1).length ≤ M := by
                rw [hr1] at h2; simpa using h2
              have hc2 : (l ++ cols Li ++ cols L1).take (M + 1) = l ++ cols (Li ++ L1) := by rw [List.take_of_length_le (by omega), cols_app, List.append_assoc]
              exact ⟨(d + 1, Li ++ L1), ⟨by simp only; omega, hE2, by rw [cols_app, ← List.append_assoc]; exact hyes⟩, by simp only; omega, by rw [hwd, hc2] <;> rfl⟩
        · have hr1 : r = false := by simpa using hr
          simp only [go_sem, Nat.reduceLT, Nat.reduceAdd, Nat.reduceSub, Nat.reduceBEq, Nat.reduceLeDiff, ↓reduceIte]
          refine ⟨fun hh => (by rw [hr1] at hh; simp at hh), ?_⟩
          refine loop_set [8] (fun s : Nat × List (List Int) => [(13, .int .i64 s.1), (14, .box [.ptr f.cells, .ptr g.cells, .bool false, .o (intss s.2), .fn 162 [.adr 15 [(0, 0)]]])]) (fun s => s.1 ≤ N.length ∧ PT f g s.2 ∧ ∀ y i : Nat, y < f.shp.idn.length → i < f.sz1 y → pc s.2 y i = pc P y i ∨ (y, i) ∈ N.drop s.1) (fun s => N.length - s.1) (0, P') (by simp only [go_sem, Nat.reduceLT, Nat.reduceBEq, ↓reduceIte]; rfl) ⟨Nat.zero_le _, hPT, fun y i h1 h2 => by rw [List.drop_zero]; exact hun.same y i h1 h2⟩ rfl ?_
          rintro ⟨j, Pj⟩ ⟨hj, hPj, hsm⟩
          simp only at hj hPj hsm
          simp only [go_sem, Nat.reduceLT, Nat.reduceAdd, Nat.reduceSub, Nat.reduceBEq, Nat.reduceLeDiff, ↓reduceIte]
          refine ⟨fun hjl => ?_, fun hjl => ?_⟩
          · have hm := hun.rng (N.getD j (0, 0)) (by rw [getD_lt hjl]; exact List.getElem_mem _)
            have hrj := hPj.row _ hm.1
            have hlj := hPj.len
            have hm1 := hm.1
            have hm2 := hm.2.1
            have hset : PT f g (Pj.set (N.getD j (0, 0)).1 ((Pj.getD (N.getD j (0, 0)).1 []).set (N.getD j (0, 0)).2 (-1))) ∧ ∀ y i : Nat, y < f.shp.idn.length → i < f.sz1 y → pc (Pj.set (N.getD j (0, 0)).1 ((Pj.getD (N.getD j (0, 0)).1 []).set (N.getD j (0, 0)).2 (-1))) y i = pc P y i ∨ (y, i) ∈ N.drop (j + 1) := by
              refine ⟨hPj.set hm1 hm2 (.inl rfl), fun y i h1 h2 => ?_⟩
              rw [pc_set (by omega) (by omega)]
              by_cases hh : y = (N.getD j (0, 0)).1 ∧ i = (N.getD j (0, 0)).2
              · rw [if_pos hh, hh.1, hh.2, hm.2.2]; exact .inl rfl
              · rw [if_neg hh]
                rcases hsm y i h1 h2 with h3 | h3
                · exact .inl h3
                · rw [List.drop_eq_getElem_cons hjl, List.mem_cons] at h3
                  rcases h3 with h3 | h3
                  · rw [getD_lt hjl, ← h3] at hh
                    exact absurd ⟨rfl, rfl⟩ hh
                  · exact .inr h3
            have hwr := wrap_lt hjl (by simp only [maxLen]; omega)
            exact ⟨hjl, by omega, by omega, by omega, ⟨by omega, by omega⟩, (j + 1, _), ⟨by simp only; omega, hset⟩, by simp only; omega, by rw [hwr] <;> rfl⟩
          · have hPP : Pj = P := hPj.ext hP fun y i h1 h2 => by
              rcases hsm y i h1 h2 with h3 | h3
              · exact h3
              · rw [List.drop_eq_nil_of_le (by omega)] at h3; cases h3
            subst hPP
            have hwd := wrap_lt (i := d) (n := 17) (by omega) (by simp only [maxLen]; omega)
            have hE2 := hE.no (hs0 hr1)
            refine ⟨fun h2 => by rw [hr1] at h2; simp at h2, fun h2 => ?_⟩
            exact ⟨(d + 1, Li), ⟨by simp only; omega, hE2, hlm⟩, by simp only; omega, by rw [hwd] <;> rfl⟩
      · have hd2 : d = g.sz1 x := by omega
        subst hd2
        have hLL : L = Li := hL.eq (hE.done hxl he)
        subst hLL
        rw [List.take_of_length_le (by omega)]
        exact ⟨(decide_eq_true hlm).symm, rfl⟩
  · have hxx : x = f.shp.idn.length := by omega
    subst hxx
    have hLL : L = [P] := hL.eq (EnM.leaf hP hc (fun x i h1 h2 => hbef x i h1 h2) ht)
    subst hLL
    refine g_call [15, 16, 17] true (ret_se1 M P l (fun y hy => by rw [hP.row y (by omega)]; exact hone y (by omega)) (by omega) (by omega)) (by exact ⟨by decide, rfl⟩) (by repeat (first | exact trivial | refine ⟨rfl, ?_⟩)) (by repeat (first | exact trivial | refine ⟨.inl rfl, ?_⟩ | refine ⟨.inr ⟨rfl, rfl⟩, ?_⟩)) (by repeat (first | exact trivial | refine ⟨(fun h => by cases h), ?_⟩)) (fun _ => ⟨rfl, by simp only [tightXL, D.tightX, tightCL, D.tightC, D.tight, tightL, nv_intss, Bool.and_true]⟩) ?_
    simp only [go_sem, Nat.reduceLT, Nat.reduceAdd, Nat.reduceSub, Nat.reduceBEq, Nat.reduceLeDiff, ↓reduceIte]
    have hc1 : cols [P] = [colF P] := rfl
    rw [hc1, List.take_of_length_le (by rw [List.length_append]; simp; omega), List.length_append]
    exact ⟨rfl, rfl⟩
end Go.D3
