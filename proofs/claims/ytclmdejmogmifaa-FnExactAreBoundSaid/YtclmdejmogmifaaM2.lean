/- PLAIN LAWS: the first fault of a shape. -/
import Derived.Test.YtclmdejmogmifaaM1
namespace Go.D3

theorem ltS {P : Nat → Prop} {n : Nat} (h : ∀ j, j < n → P j) (hn : P n) : ∀ j, j < n + 1 → P j := fun j hj => by
  by_cases h1 : j < n
  · exact h j h1
  · rw [show j = n by omega]; exact hn
theorem findSome_none {α : Type} {F : Nat → Option α} : ∀ (n : Nat), (∀ j, j < n → F j = none) → (List.range n).findSome? F = none := by
  intro n h
  rw [List.findSome?_eq_none_iff]
  intro x hx; exact h x (by simpa using hx)
theorem findSome_first {α : Type} {F : Nat → Option α} {i : Nat} {r : α} : ∀ (n : Nat), (∀ j, j < i → F j = none) → i < n → F i = some r → (List.range n).findSome? F = some r
  | 0, _, h, _ => by omega
  | n + 1, h0, h1, h2 => by
    rw [List.range_succ, List.findSome?_append]
    by_cases h : i < n
    · rw [findSome_first n h0 h h2]; rfl
    · have : i = n := by omega
      subst this
      rw [findSome_none i h0]; simp [h2]

def Cat.cellI (c : Cat) (f g : Int) : Int := (c.co.getD f.toNat []).getD g.toNat 0
def Cat.idI (c : Cat) (x : Int) : Int := c.idn.getD x.toNat 0
def Cat.idF (c : Cat) (f : Nat) : Bool := c.cellI (c.idI (c.fr.getD f 0)) f != f || c.cellI f (c.idI (c.to.getD f 0)) != f
def Cat.asF (c : Cat) (f g h : Nat) : Bool := c.to.getD f 0 == c.fr.getD g 0 && c.to.getD g 0 == c.fr.getD h 0 && c.cellI (c.cellI f g) h != c.cellI f (c.cellI g h)
def Cat.faultF (c : Cat) : Int × Int × Int × Int :=
  match (List.range c.fr.length).findSome? fun f => if c.idF f then some f else none with
  | some f => (1, f, 0, 0)
  | none => match (List.range c.fr.length).findSome? fun f => (List.range c.fr.length).findSome? fun g => (List.range c.fr.length).findSome? fun h => if c.asF f g h then some (f, g, h) else none with
    | some (f, g, h) => (2, f, g, h)
    | none => (0, 0, 0, 0)
section
variable {c : Cat}
theorem Cat.asF_no {f g h : Nat} (h2 : c.to.getD f 0 ≠ c.fr.getD g 0) : c.asF f g h = false := by unfold Cat.asF; rw [beq_eq_false_iff_ne.2 h2]; rfl
theorem Cat.asF_of {f g h : Nat} (h2 : c.to.getD f 0 = c.fr.getD g 0) : c.asF f g h = (c.to.getD g 0 == c.fr.getD h 0 && c.cellI (c.cellI f g) h != c.cellI f (c.cellI g h)) := by unfold Cat.asF; rw [beq_iff_eq.2 h2]; rfl
theorem Cat.fault_id {f : Nat} (h0 : ∀ j, j < f → c.idF j = false) (h1 : f < c.fr.length) (h2 : c.idF f = true) : c.faultF = (1, (f : Int), 0, 0) := by
  unfold Cat.faultF
  rw [findSome_first (i := f) (r := f) _ (fun j hj => by simp [h0 j hj]) h1 (by simp [h2])]
theorem Cat.fault_no (h0 : ∀ j, j < c.fr.length → c.idF j = false) (h : ∀ f g h, f < c.fr.length → g < c.fr.length → h < c.fr.length → c.asF f g h = false) : c.faultF = (0, 0, 0, 0) := by
  unfold Cat.faultF
  rw [findSome_none _ (fun j hj => by simp [h0 j hj])]
  simp only
  rw [findSome_none _ fun f hf => findSome_none _ fun g hg => findSome_none _ fun h' hh => by simp [h f g h' hf hg hh]]
theorem Cat.fault_as {f g h : Nat} (h0 : ∀ j, j < c.fr.length → c.idF j = false) (hf : f < c.fr.length) (hg : g < c.fr.length) (hh : h < c.fr.length) (h1 : c.asF f g h = true)
    (h2 : ∀ h', h' < h → c.asF f g h' = false) (h3 : ∀ g' h', g' < g → h' < c.fr.length → c.asF f g' h' = false) (h4 : ∀ f' g' h', f' < f → g' < c.fr.length → h' < c.fr.length → c.asF f' g' h' = false) : c.faultF = (2, (f : Int), (g : Int), (h : Int)) := by
  unfold Cat.faultF
  rw [findSome_none _ (fun j hj => by simp [h0 j hj])]
  simp only
  rw [findSome_first (i := f) (r := (f, g, h)) _ (fun f' hf' => findSome_none _ fun g' hg' => findSome_none _ fun h' hh' => by simp [h4 f' g' h' hf' hg' hh']) hf
    (findSome_first (i := g) _ (fun g' hg' => findSome_none _ fun h' hh' => by simp [h3 g' h' hg' hh']) hg (findSome_first (i := h) _ (fun h' hh' => by simp [h2 h' hh']) hh (by simp [h1])))]

theorem Cat.Shape.fri (hs : c.Shape) {f : Nat} (hf : f < c.fr.length) : 0 ≤ c.fr.getD f 0 ∧ c.fr.getD f 0 < c.idn.length := by
  have := mapB_get hs.frm hf; have := hs.idn; omega
theorem Cat.Shape.toi (hs : c.Shape) {f : Nat} (hf : f < c.fr.length) : 0 ≤ c.to.getD f 0 ∧ c.to.getD f 0 < c.idn.length := by
  have := mapB_get hs.tom (i := f) (by have := hs.to; omega); have := hs.idn; omega
theorem Cat.Shape.idi (hs : c.Shape) {x : Int} (h0 : 0 ≤ x) (h1 : x < c.idn.length) : 0 ≤ c.idI x ∧ c.idI x < c.fr.length := hs.toPre.idx (x := x.toNat) (by omega)
theorem Cat.Shape.rowl (hs : c.Shape) {f : Int} (h0 : 0 ≤ f) (h1 : f < c.fr.length) : (c.co.getD f.toNat []).length = c.fr.length := hs.row f.toNat (by omega)
theorem Cat.Shape.cell_in (hs : c.Shape) {f g : Nat} (hf : f < c.fr.length) (hg : g < c.fr.length) (h : c.to.getD f 0 = c.fr.getD g 0) : 0 ≤ c.cellI f g ∧ c.cellI f g < c.fr.length ∧ c.fr.getD (c.cellI f g).toNat 0 = c.fr.getD f 0 ∧ c.to.getD (c.cellI f g).toNat 0 = c.to.getD g 0 := by
  have hc := hs.cells f g hf hg
  unfold Cat.cellB at hc
  rw [if_neg (by simp only [h, bne_self_eq_false]; decide)] at hc
  have e : c.cell f g = c.cellI f g := by simp [Cat.cell, Cat.cellI]
  simp only [e, Bool.and_eq_true, decide_eq_true_eq, beq_iff_eq] at hc
  exact ⟨hc.1.1.1, hc.1.1.2, hc.1.2, hc.2⟩
theorem Cat.Shape.cell_out (hs : c.Shape) {f g : Nat} (hf : f < c.fr.length) (hg : g < c.fr.length) (h : c.to.getD f 0 ≠ c.fr.getD g 0) : c.cellI f g = -1 := by
  have hc := hs.cells f g hf hg
  unfold Cat.cellB at hc
  rw [if_pos (by simpa using h)] at hc
  have e : c.cell f g = c.cellI f g := by simp [Cat.cell, Cat.cellI]
  rw [e] at hc
  simpa using hc
end
def fd (r : Int × Int × Int × Int) : D := .tup [.int .i64 r.1, .int .i64 r.2.1, .int .i64 r.2.2.1, .int .i64 r.2.2.2]
def Cat.isB (c : Cat) : Bool := c.shapeB && c.faultF.1 == 0
def bI (l : List Bnd) (i : Nat) : Bool := isL (l.getD i Bnd.zero).nm && (l.getD i Bnd.zero).cat.isB && (decide (i = 0) || Op.bytesLess (l.getD (i - 1) Bnd.zero).nm (l.getD i Bnd.zero).nm)
def bndB (l : List Bnd) : Bool := allB l.length (bI l)
end Go.D3
