/- PLAIN LAWS: what a shape and a category are. -/
import Derived.Test.YtclmdejmogmifaaB1
namespace Go.D3

/-! ### Tests over numbers below a bound -/
def allB (n : Nat) (p : Nat → Bool) : Bool := (List.range n).all p
theorem allB_iff {n : Nat} {p : Nat → Bool} : allB n p = true ↔ ∀ i, i < n → p i = true := by simp [allB]
theorem allB_succ {n : Nat} {p : Nat → Bool} (h : allB n p = true) (hp : p n = true) : allB (n + 1) p = true := by
  rw [allB_iff] at *; intro i hi; by_cases h1 : i < n
  · exact h i h1
  · rw [show i = n by omega]; exact hp
theorem allB_stop {n i : Nat} {p : Nat → Bool} (hi : i < n) (hp : p i = false) : allB n p = false := by
  cases h : allB n p with
  | false => rfl
  | true => rw [allB_iff.1 h i hi] at hp; cases hp
theorem allB_zero {p : Nat → Bool} : allB 0 p = true := rfl

theorem mapB_iff {n : Int} {l : List Int} : mapB n l = true ↔ ∀ y ∈ l, 0 ≤ y ∧ y < n := by simp [mapB]
theorem mapB_get {n : Int} {l : List Int} (h : mapB n l = true) {i : Nat} (hi : i < l.length) : 0 ≤ l.getD i 0 ∧ l.getD i 0 < n := by
  rw [getD_lt hi]; exact mapB_iff.1 h _ (List.getElem_mem hi)

/-! ### Texts in order -/
theorem bl_tri : ∀ (q p : List UInt8), (Op.bytesLess q p || q == p) = !Op.bytesLess p q
  | [], [] => rfl
  | [], b :: y => rfl
  | a :: x, [] => rfl
  | a :: x, b :: y => by
    have ih := bl_tri x y
    simp only [Op.bytesLess]
    by_cases h : a = b
    · subst h
      have h1 : (a :: x == a :: y) = (x == y) := by rw [Bool.eq_iff_iff]; simp
      have h2 : (decide (a < a)) = false := by simp
      rw [h1, h2]; simpa using ih
    · have h1 : (a :: x == b :: y) = false := by simp [h]
      have h2 : (a == b) = false := by simpa using h
      have h3 : (b == a) = false := by simpa using fun e => h e.symm
      rw [h1, h2, h3]
      simp only [Bool.false_and, Bool.or_false]
      rw [Bool.eq_iff_iff]
      simp only [decide_eq_true_eq, Bool.not_eq_true', decide_eq_false_iff_not, UInt8.lt_iff_toNat_lt]
      have : a.toNat ≠ b.toNat := fun e => h (UInt8.toNat_inj.1 e)
      omega
theorem bl_geq (p q : List UInt8) : (!Op.bytesLess p q) = !Op.bytesLess p q := rfl
theorem wrap_pred {i : Nat} (h : 0 < i) (h2 : i ≤ maxLen) : IntKind.i64.wrap ((i : Int) - 1) = ((i - 1 : Nat) : Int) := by
  have := wrap_sub (a := (i : Int)) (n := 1) (by omega) (by omega) (by simp only [maxLen]; omega)
  simp only [Int.natCast_one] at this
  rw [this]; omega

/-! ### Shapes -/
def Cat.preB (c : Cat) : Bool := inR c.ob 0 8 && decide (c.fr.length ≤ 40) && mapB c.ob c.fr && ((c.to.length : Int) == c.fr.length) && mapB c.ob c.to && ((c.co.length : Int) == c.fr.length) && ((c.idn.length : Int) == c.ob) && mapB c.fr.length c.idn
def Cat.idB (c : Cat) (x : Nat) : Bool := c.fr.getD (c.idn.getD x 0).toNat 0 == (x : Int) && c.to.getD (c.idn.getD x 0).toNat 0 == (x : Int)
def Cat.cell (c : Cat) (f g : Nat) : Int := (c.co.getD f []).getD g 0
def Cat.cellB (c : Cat) (f g : Nat) : Bool :=
  if c.to.getD f 0 != c.fr.getD g 0 then c.cell f g == -1
  else decide (0 ≤ c.cell f g) && decide (c.cell f g < c.fr.length) && (c.fr.getD (c.cell f g).toNat 0 == c.fr.getD f 0) && (c.to.getD (c.cell f g).toNat 0 == c.to.getD g 0)
def Cat.rowB (c : Cat) (f : Nat) : Bool := ((c.co.getD f []).length : Int) == c.fr.length && allB c.fr.length (c.cellB f)
def Cat.shapeB (c : Cat) : Bool := c.preB && allB c.idn.length c.idB && allB c.fr.length c.rowB

structure Cat.Pre (c : Cat) : Prop where
  ob0 : 0 ≤ c.ob
  ob8 : c.ob ≤ 8
  fr : c.fr.length ≤ 40
  frm : mapB c.ob c.fr = true
  to : c.to.length = c.fr.length
  tom : mapB c.ob c.to = true
  co : c.co.length = c.fr.length
  idn : (c.idn.length : Int) = c.ob
  idm : mapB c.fr.length c.idn = true
theorem Cat.preB_iff {c : Cat} : c.preB = true ↔ c.Pre := by
  simp only [Cat.preB, inR, Bool.and_eq_true, decide_eq_true_eq, beq_iff_eq]
  constructor
  · rintro ⟨⟨⟨⟨⟨⟨⟨⟨h1, h2⟩, h3⟩, h4⟩, h5⟩, h6⟩, h7⟩, h8⟩, h9⟩
    exact ⟨h1, h2, h3, h4, by omega, h6, by omega, h8, h9⟩
  · rintro ⟨h1, h2, h3, h4, h5, h6, h7, h8, h9⟩
    exact ⟨⟨⟨⟨⟨⟨⟨⟨h1, h2⟩, h3⟩, h4⟩, by omega⟩, h6⟩, by omega⟩, h8⟩, h9⟩
structure Cat.Shape (c : Cat) : Prop extends Cat.Pre c where
  ids : ∀ x, x < c.idn.length → c.idB x = true
  row : ∀ f, f < c.fr.length → (c.co.getD f []).length = c.fr.length
  cells : ∀ f g, f < c.fr.length → g < c.fr.length → c.cellB f g = true
theorem Cat.shapeB_iff {c : Cat} : c.shapeB = true ↔ c.Shape := by
  simp only [Cat.shapeB, Cat.rowB, Bool.and_eq_true, allB_iff, Cat.preB_iff, beq_iff_eq]
  constructor
  · rintro ⟨⟨h1, h2⟩, h3⟩
    exact ⟨h1, h2, fun f hf => by have := (h3 f hf).1; omega, fun f g hf hg => (h3 f hf).2 g hg⟩
  · rintro ⟨h1, h2, h3, h4⟩
    exact ⟨⟨h1, h2⟩, fun f hf => ⟨by have := h3 f hf; omega, fun g hg => h4 f g hf hg⟩⟩
theorem Cat.Pre.idl {c : Cat} (h : c.Pre) : c.idn.length ≤ 8 := by have := h.idn; have := h.ob8; omega
theorem Cat.Pre.idx {c : Cat} (h : c.Pre) {x : Nat} (hx : x < c.idn.length) : 0 ≤ c.idn.getD x 0 ∧ c.idn.getD x 0 < c.fr.length := mapB_get h.idm hx
theorem Cat.not_id {c : Cat} {x : Nat} (hx : x < c.idn.length) (h : c.idB x = false) : c.shapeB = false := by
  unfold Cat.shapeB; rw [allB_stop hx h]; simp
theorem Cat.not_row {c : Cat} {f : Nat} (hf : f < c.fr.length) (h : c.rowB f = false) : c.shapeB = false := by
  unfold Cat.shapeB; rw [allB_stop hf h]; simp
theorem Cat.not_cell {c : Cat} {f g : Nat} (hf : f < c.fr.length) (hg : g < c.fr.length) (h : c.cellB f g = false) : c.shapeB = false := by
  refine Cat.not_row hf ?_; unfold Cat.rowB; rw [allB_stop hg h]; simp
theorem Cat.is_shape {c : Cat} (hp : c.Pre) (h1 : allB c.idn.length c.idB = true) (h2 : allB c.fr.length c.rowB = true) : c.shapeB = true := by
  unfold Cat.shapeB; rw [h1, h2, Cat.preB_iff.2 hp]; rfl
theorem Cat.not_shape {c : Cat} (h : ¬ c.Pre) : c.shapeB = false := by
  cases hs : c.shapeB with
  | false => rfl
  | true => exact absurd (Cat.shapeB_iff.1 hs).toPre h
end Go.D3
