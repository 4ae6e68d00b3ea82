/- CONTRACTS: what the reference asks on the way to representables. -/
import Derived.Test.YtclmdejmogmifaaGI
import Derived.Test.YtclmdejmogmifaaGH
import Derived.Test.YtclmdejmogmifaaGN
import Derived.Test.YtclmdejmogmifaaGB
/- CONTRACTS: the arrows out of an object, listed once. -/
namespace Go.D3
open Go
set_option maxRecDepth 100000
set_option maxHeartbeats 4000000

def Cat.homs (c : Cat) (x : Int) (n : Nat) : List (List Int) := (List.range n).map fun y : Nat => c.hom x (y : Int)
theorem homs_succ (c : Cat) (x : Int) (n : Nat) : c.homs x (n + 1) = c.homs x n ++ [c.hom x n] := by simp [Cat.homs, List.range_succ]
theorem homs_len (c : Cat) (x : Int) (n : Nat) : (c.homs x n).length = n := by simp [Cat.homs]
def atD : List (List Int) → D
  | [] => .nils (ints [])
  | a :: l => .o (intss (a :: l))
def outB (c : Cat) (x d s : Int) (L : List (List Int)) : D := .box [.ptr c.cells, .int .i64 x, .int .u32 d, .int .i32 s, .int .u32 0, atD L]

-- (*impl.arrowsOut).list$1
def c_impl_arrowsOut_list_1 : C :=
  (.seq (.ops [] [⟨none, .asg 1 (.i 0)⟩] [])
  (.block 0 (.loop (.seq (.opc [] [⟨none, .mv (.v 1)⟩,
    ⟨none, .ld (.v 0)⟩,
    ⟨none, .nck (.t 1)⟩,
    ⟨none, .fA 0 (.t 2)⟩,
    ⟨none, .ld (.t 3)⟩,
    ⟨none, .nck (.t 4)⟩,
    ⟨none, .fA 0 (.t 5)⟩,
    ⟨none, .ld (.t 6)⟩,
    ⟨none, .bin .lss (.t 0) (.t 7)⟩] [] (.t 8) .skip
  (.exit 0))
  (.seq (.block 1 (.alt [] (.two 0 16 [1, 2, 3, 4, 5, 6, 7, 8, 9, 10, 11, 12, 13, 14, 15, 16, 0, 17, 18, 19] (.leaf [⟨none, .ld (.v 0)⟩,
    ⟨none, .ld (.v 0)⟩,
    ⟨none, .nck (.t 1)⟩,
    ⟨none, .fA 5 (.t 2)⟩,
    ⟨none, .ld (.t 3)⟩,
    ⟨none, .ld (.v 0)⟩,
    ⟨none, .nck (.t 5)⟩,
    ⟨none, .fA 0 (.t 6)⟩,
    ⟨none, .ld (.t 7)⟩,
    ⟨none, .ld (.v 0)⟩,
    ⟨none, .nck (.t 9)⟩,
    ⟨none, .fA 1 (.t 10)⟩,
    ⟨none, .ld (.t 11)⟩,
    ⟨none, .mv (.v 1)⟩,
    ⟨none, .call 121 [(.t 8), (.t 12), (.t 13)]⟩,
    ⟨none, .bldS (ints []) 1 [(0, (.t 14))]⟩,
    ⟨none, .app 1 24 (.t 4) (.t 15)⟩,
    ⟨none, .nck (.t 0)⟩,
    ⟨none, .fA 5 (.t 17)⟩,
    ⟨none, .st (.t 18) (.t 16)⟩] [])
  (.leaf [⟨none, .ld (.v 0)⟩,
    ⟨none, .nck (.t 0)⟩,
    ⟨none, .fA 5 (.t 1)⟩,
    ⟨none, .ld (.t 2)⟩,
    ⟨none, .ld (.v 0)⟩,
    ⟨none, .nck (.t 4)⟩,
    ⟨none, .fA 0 (.t 5)⟩,
    ⟨none, .ld (.t 6)⟩,
    ⟨none, .ld (.v 0)⟩,
    ⟨none, .nck (.t 8)⟩,
    ⟨none, .fA 1 (.t 9)⟩,
    ⟨none, .ld (.t 10)⟩,
    ⟨none, .mv (.v 1)⟩,
    ⟨none, .call 121 [(.t 7), (.t 11), (.t 12)]⟩,
    ⟨none, .bldS (ints []) 1 [(0, (.t 13))]⟩,
    ⟨none, .app 1 24 (.t 3) (.t 14)⟩,
    ⟨none, .ld (.v 0)⟩,
    ⟨none, .nck (.t 16)⟩,
    ⟨none, .fA 5 (.t 17)⟩,
    ⟨none, .st (.t 18) (.t 15)⟩] []))))
  (.ops [] [⟨none, .mv (.v 1)⟩,
    ⟨none, .bin .add (.t 0) (.i 1)⟩,
    ⟨none, .asg 1 (.t 1)⟩] []))))))
def tr_impl_arrowsOut_list_1 : List Nat := [0, 1]
def rs_impl_arrowsOut_list_1 : List RS := []
theorem ok_impl_arrowsOut_list_1 : fnOk Go.Proofs.Try.prog Go.Proofs.Try.f147 tr_impl_arrowsOut_list_1 c_impl_arrowsOut_list_1 0 rs_impl_arrowsOut_list_1 = true := by decide +kernel

theorem ret_list1 (c : Cat) (x : Int) (hc : c.Shape) : RetG Go.Proofs.Try.prog 147 [.adr 1 [(0, 0)]] [outB c x 0 1 [], .box [.adr 0 [(0, 0)]]] (.tup []) [outB c x 0 1 (c.homs x c.ob.toNat), .box [.adr 0 [(0, 0)]]] := by
  have hob := hc.ob8
  have hob0 := hc.ob0
  refine ret_fnG .refs Go.Proofs.Try.func147 rfl ok_impl_arrowsOut_list_1 rfl ⟨by simp only [List.length_cons, List.length_nil]; decide, by simp only [List.length_cons, List.length_nil]; decide⟩ rfl ?_; unfold c_impl_arrowsOut_list_1 tr_impl_arrowsOut_list_1 rs_impl_arrowsOut_list_1; simp only [go_sem, Nat.reduceLT, Nat.reduceAdd, Nat.reduceBEq, Nat.reduceLeDiff, ↓reduceIte]
  refine loop_set [] (fun y : Nat => [(1, .int .i64 y), (2, outB c x 0 1 (c.homs x y))]) (fun y => (y : Int) ≤ c.ob) (fun y => c.ob.toNat - y) 0 (by simp only [go_sem]; rfl) (by simpa using hob0) rfl ?_
  intro y hy
  have hfl := hc.fr
  have hto := hc.to
  have hlen := homs_len c x y
  have hsucc := homs_succ c x y
  have hw : (y : Int) < c.ob → IntKind.i64.wrap ((y : Int) + 1) = ((y + 1 : Nat) : Int) := fun h => wrap_lt (n := c.ob.toNat) (by omega) (by simp only [maxLen]; omega)
  have hend : ¬ (y : Int) < c.ob → c.ob.toNat = y := fun h => by omega
  cases hL : c.homs x y with
  | nil =>
    rw [hL] at hlen hsucc
    simp only [outB, atD]
    simp only [go_sem, Nat.reduceLT, Nat.reduceAdd, Nat.reduceSub, Nat.reduceLeDiff, ↓reduceIte]
    refine ⟨fun h => ⟨?_, ?_⟩, fun h => ⟨rfl, rfl, by rw [hend h, hL]; rfl⟩⟩
    all_goals (try (refine call_of (ret_impl_Category_hom c x y (by omega) hto) rfl (.inl (nv_ints _)) ?_; simp only [go_sem, Nat.reduceLT, Nat.reduceAdd, Nat.reduceSub, Nat.reduceEqDiff, Nat.reduceBEq, Nat.reduceLeDiff, ↓reduceIte]; refine ⟨by simp at hlen; omega, y + 1, by omega, by omega, ?_⟩; rw [hw h, hsucc]; rfl))
  | cons a L =>
    rw [hL] at hlen hsucc
    simp only [outB, atD]
    simp only [go_sem, Nat.reduceLT, Nat.reduceAdd, Nat.reduceSub, Nat.reduceLeDiff, ↓reduceIte]
    refine ⟨fun h => ⟨?_, ?_⟩, fun h => ⟨rfl, rfl, by rw [hend h, hL]; rfl⟩⟩
    all_goals (try (refine call_of (ret_impl_Category_hom c x y (by omega) hto) rfl (.inl (nv_ints _)) ?_; simp only [go_sem, Nat.reduceLT, Nat.reduceAdd, Nat.reduceSub, Nat.reduceEqDiff, Nat.reduceBEq, Nat.reduceLeDiff, ↓reduceIte]; refine ⟨by simp at hlen; omega, y + 1, by omega, by omega, ?_⟩; rw [hw h, hsucc]; rfl))

theorem outB_bare (c : Cat) (x d s : Int) (L : List (List Int)) : refsL noRef [.ptr c.cells, .int .i64 x, .int .u32 d, .int .i32 s, .int .u32 0, atD L] := by
  refine ⟨trivial, trivial, trivial, trivial, trivial, ?_, trivial⟩
  cases L <;> trivial

-- (*impl.arrowsOut).list
def c_impl_arrowsOut_list : C :=
  (.seq (.ops [2] [⟨none, .box 1 (.v 0)⟩,
    ⟨none, .asgA 1 (.k (.nils (ints [])))⟩] [(2, 0)])
  (.seq (.ops [] [⟨none, .ld (.v 2)⟩,
    ⟨none, .nck (.t 0)⟩,
    ⟨none, .fA 2 (.t 1)⟩,
    ⟨none, .mkf 147 [(.v 2)]⟩,
    ⟨none, .dyn (.k (.fn 146 [])) [(.t 2), (.t 3)]⟩] [])
  (.seq (.ops [] [⟨none, .ld (.v 2)⟩,
    ⟨none, .nck (.t 0)⟩,
    ⟨none, .fA 5 (.t 1)⟩,
    ⟨none, .ld (.t 2)⟩,
    ⟨none, .asgA 1 (.t 3)⟩] [])
  .ret)))
def tr_impl_arrowsOut_list : List Nat := [0, 2, 1]
def rs_impl_arrowsOut_list : List RS := [.t 1]
theorem ok_impl_arrowsOut_list : fnOk Go.Proofs.Try.prog Go.Proofs.Try.f102 tr_impl_arrowsOut_list c_impl_arrowsOut_list 1 rs_impl_arrowsOut_list = true := by decide +kernel

theorem ret_list (c : Cat) (x : Int) (hc : c.Shape) (h0 : 0 < c.ob) : RetG Go.Proofs.Try.prog 102 [.adr 0 [(0, 0)]] [outB c x 0 0 []] (.sub 0 [(0, 5)]) [outB c x 1 0 (c.homs x c.ob.toNat)] := by
  refine ret_fnG .refs Go.Proofs.Try.func102 rfl ok_impl_arrowsOut_list rfl ⟨by simp only [List.length_cons, List.length_nil]; decide, by simp only [List.length_cons, List.length_nil]; decide⟩ rfl ?_; unfold c_impl_arrowsOut_list tr_impl_arrowsOut_list rs_impl_arrowsOut_list; simp only [go_sem, Nat.reduceLT, Nat.reduceAdd, Nat.reduceSub, Nat.reduceBEq, Nat.reduceLeDiff, ↓reduceIte]
  simp only [outB, atD]
  simp only [go_sem, Nat.reduceLT, Nat.reduceAdd, Nat.reduceSub, ↓reduceIte]
  have hQ : ∀ rc g, (rc = D.tup [] ∧ g = [outB c x 0 1 (c.homs x c.ob.toNat), .box [.adr 0 [(0, 0)]]]) → rc = .tup [] ∧ ∃ l', g = [.box l', .box [.adr 0 [(0, 0)]]] ∧ refsL noRef l' ∧ (∃ n, l'[2]? = some (.int .u32 n)) ∧ l'[2 + 1]? = some (.int .i32 1) := by
    rintro rc g ⟨rfl, rfl⟩
    exact ⟨rfl, _, rfl, outB_bare _ _ _ _ _, ⟨0, rfl⟩, rfl⟩
  refine e_call [3, 2] false (ret_onceDo 147 _ 2 _ (outB_bare c x 0 0 []) rfl rfl (ret_list1 c x hc) hQ) (by exact ⟨by decide, rfl⟩) (by repeat (first | exact trivial | refine ⟨rfl, ?_⟩)) (by repeat (first | exact trivial | refine ⟨.inl rfl, ?_⟩ | refine ⟨.inr ⟨rfl, rfl⟩, ?_⟩)) ?_
  rintro _ _ ⟨rfl, l, ⟨_, hl⟩, rfl⟩
  injection hl with hl; injection hl with hl; subst hl
  refine ⟨(by repeat (first | exact trivial | refine ⟨(fun h => by cases h), ?_⟩)), (fun h => by cases h), ?_⟩
  cases hL : c.homs x c.ob.toNat with
  | nil =>
    have := homs_len c x c.ob.toNat
    rw [hL] at this
    simp only [List.length_nil] at this
    omega
  | cons a L =>
    simp only [atD, List.set_cons_succ, List.set_cons_zero]
    simp only [go_sem, Nat.reduceLT, Nat.reduceAdd, Nat.reduceSub, Nat.reduceEqDiff, Nat.reduceBEq, Nat.reduceLeDiff, ↓reduceIte]
    trace_state

/-- Behind the first time. -/
theorem ret_listA (c : Cat) (x : Int) (h0 : 0 < c.ob) : RetG Go.Proofs.Try.prog 102 [.adr 0 [(0, 0)]] [outB c x 1 0 (c.homs x c.ob.toNat)] (.sub 0 [(0, 5)]) [outB c x 1 0 (c.homs x c.ob.toNat)] := by
  refine ret_fnG .refs Go.Proofs.Try.func102 rfl ok_impl_arrowsOut_list rfl ⟨by simp only [List.length_cons, List.length_nil]; decide, by simp only [List.length_cons, List.length_nil]; decide⟩ rfl ?_; unfold c_impl_arrowsOut_list tr_impl_arrowsOut_list rs_impl_arrowsOut_list; simp only [go_sem, Nat.reduceLT, Nat.reduceAdd, Nat.reduceSub, Nat.reduceBEq, Nat.reduceLeDiff, ↓reduceIte]
  cases hL : c.homs x c.ob.toNat with
  | nil =>
    have := homs_len c x c.ob.toNat
    rw [hL] at this
    simp only [List.length_nil] at this
    omega
  | cons a L =>
    simp only [outB, atD]
    simp only [go_sem, Nat.reduceLT, Nat.reduceAdd, Nat.reduceSub, ↓reduceIte]
    refine g_call [3, 2] false (ret_onceDone 147 _ 2 (outB_bare c x 1 0 (a :: L)) rfl) (by exact ⟨by decide, rfl⟩) (by repeat (first | exact trivial | refine ⟨rfl, ?_⟩)) (by repeat (first | exact trivial | refine ⟨.inl rfl, ?_⟩ | refine ⟨.inr ⟨rfl, rfl⟩, ?_⟩)) (by repeat (first | exact trivial | refine ⟨(fun h => by cases h), ?_⟩)) (fun h => by cases h) ?_
    simp only [atD]
    simp only [go_sem, Nat.reduceLT, Nat.reduceAdd, Nat.reduceSub, Nat.reduceEqDiff, Nat.reduceBEq, Nat.reduceLeDiff, ↓reduceIte]
    trace_state
end Go.D3

/- The arrows out of an object behind the first time: nothing that was there changes. -/
namespace Go.D3
open Go
set_option maxRecDepth 100000
set_option maxHeartbeats 4000000

theorem on_done (a : Addr) (fv : Value) (w : World) (h0 : w.cell? a = some (.int .u32 1)) :
    Calls Go.Proofs.Try.prog 146 #[.pointer (some a), fv] w fun e w' => e = .returned (.tuple #[]) ∧ w' = w := by
  have hnot : ∀ (x : Bool) (w : World), (Op.unary .not (.bool x)).run Go.Proofs.Try.prog w = .ok (.bool (!x)) w := fun _ _ => rfl
  go_enter Go.Proofs.Try.func146, Go.Proofs.Try.ntmps146
  go_wp2_with (go_at_call 174; refine (on_load a 1 _ h0).mono ?_; rintro e w' ⟨rfl, rfl⟩)
  go_end0
  exact ⟨rfl, rfl⟩

theorem list_walk (b : Nat) (v : Value) (w : World) (hb : b < w.heap.size) (h2 : w.cell? ⟨b, 2, none⟩ = some (.int .u32 1)) (h5 : w.cell? ⟨b, 5, none⟩ = some v) (_ : v.oneCell' = true) :
    Calls Go.Proofs.Try.prog 102 #[.pointer (some ⟨b, 0, none⟩)] w fun e w' => e = .returned v ∧ w' = w.alloc (.cells #[.pointer (some ⟨b, 0, none⟩)] 127) := by
  have hmf : ∀ (fn : Fn) (first cap : Array Value) (w : World), (Instr.makeFunc fn first cap).run Go.Proofs.Try.prog w = .ok (.func fn first cap) w := fun _ _ _ _ => rfl
  have a2 : (w.alloc (.cells #[.pointer (some ⟨b, 0, none⟩)] 127)).cell? ⟨b, 2, none⟩ = some (.int .u32 1) := by rw [World.cell?_alloc_past _ _ _ hb]; exact h2
  have a5 : (w.alloc (.cells #[.pointer (some ⟨b, 0, none⟩)] 127)).cell? ⟨b, 5, none⟩ = some v := by rw [World.cell?_alloc_past _ _ _ hb]; exact h5
  go_enter Go.Proofs.Try.func102, Go.Proofs.Try.ntmps102
  go_wp2_with (go_at_call 146; refine (on_done ⟨b, 2, none⟩ _ _ a2).mono ?_; rintro e w' ⟨rfl, rfl⟩)
  go_ret
  exact ⟨rfl, rfl⟩

theorem ret_listK (c : Cat) (x : Int) (h0 : 0 < c.ob) : RetK Go.Proofs.Try.prog 102 [.adr 0 [(0, 0)]] [outB c x 1 0 (c.homs x c.ob.toNat)] (.sub 0 [(0, 5)]) := by
  refine ⟨by decide +kernel, ?_⟩
  intro w A vs gv Fs hA hvs hpre hgpre hgemp hFd hFs
  obtain ⟨a0, L, hL⟩ : ∃ a L, c.homs x c.ob.toNat = a :: L := by
    have := homs_len c x c.ob.toNat
    cases h : c.homs x c.ob.toNat with
    | nil => rw [h] at this; simp only [List.length_nil] at this; omega
    | cons a L => exact ⟨a, L, rfl⟩
  rw [hL] at hpre hgpre hgemp ⊢
  have hb := hgpre 0
  obtain ⟨_, b, cs, e, Fs', h1, h2, h3, h4, h5, _⟩ := hb
  have hcs : cs.size = 6 := h3
  have hbl : b < w.heap.size := (hFs 0 b h5).1
  have hv0 : vs = #[.pointer (some ⟨b, 0, none⟩)] := by
    obtain ⟨q1, a, q2, q3⟩ := pl_adr (hpre 0 _ rfl)
    have hv0 : vs.getD 0 undef = .pointer (some ⟨b, 0, none⟩) := by
      have : adrAt w (gv 0) (nth [outB c x 1 0 (a0 :: L)] 0) [(0, 0)] = some ⟨b, 0, none⟩ := by
        rw [h1]; rfl
      rw [this] at q2
      injection q2 with q2
      rw [q3, ← q2]
    apply Array.ext
    · simpa using hvs
    · intro i hi hi'
      have hi2 : i < 1 := by simpa [hvs] using hi
      obtain rfl : i = 0 := by omega
      have hg : vs[0] = vs.getD 0 undef := by simp [hi]
      rw [hg, hv0]; rfl
  have hc2 : w.cell? ⟨b, 2, none⟩ = some (.int .u32 1) := by
    obtain ⟨hv, _⟩ := pl_int (ct := nth [outB c x 1 0 (a0 :: L)]) (vl := gv) (h4 2 (.int .u32 1) rfl)
    rw [cell_own h2 (by omega), hv]
  have hc5 : w.cell? ⟨b, 5, none⟩ = some (cs.getD 5 undef) := cell_own h2 (by omega)
  have hown : Own w A (cs.getD 5 undef) (intss (a0 :: L)) (Fs' 5) := h4 5 (.o (intss (a0 :: L))) rfl
  obtain ⟨p, q, hsl⟩ : ∃ p q, cs.getD 5 undef = .slice p (a0 :: L).length q := by
    generalize cs.getD 5 undef = u at hown
    have h6 := hown.rd (A' := fun b => A b ∨ Fs' 5 b) (fun b hb => .inl hb) (fun b hb => .inr hb)
    obtain ⟨p, q, h7, _⟩ := rd_slice h6
    exact ⟨p, q, by simpa using h7⟩
  rw [hv0]
  refine (list_walk b _ w hbl hc2 hc5 (by rw [hsl]; rfl)).mono ?_
  rintro e w' ⟨rfl, rfl⟩
  have hsame : ∀ c, c < w.heap.size → (w.alloc (.cells #[.pointer (some ⟨b, 0, none⟩)] 127)).heap[c]? = w.heap[c]? := fun c hc => by
    simp only [World.alloc, Array.getElem?_push]
    rw [if_neg (by omega)]
  refine ⟨_, rfl, ?_, hsame, ?_, rfl, rfl, rfl⟩
  · simp only [World.alloc, Array.size_push]; omega
  · refine .ref ⟨⟨⟨rfl, by show 5 < 6; decide, trivial⟩, fun _ => rfl⟩, ?_, p, _, q, hsl⟩
    show valAt _ (gv 0) (outB c x 1 0 (a0 :: L)) [(0, 5)] = _
    rw [h1]
    show (kidV _ _ _ 0 5).bind some = _
    show (World.cell? _ ⟨b, 0 + 5, none⟩).bind some = _
    rw [Nat.zero_add, hc5]; rfl
end Go.D3

/- PLAIN LAWS: where a number is first; the representable set functor. -/
namespace Go.D3

def idxI (l : List Int) (x : Int) : Int := if l.findIdx (· == x) < l.length then ((l.findIdx (· == x) : Nat) : Int) else -1
theorem idx_ok (l : List Int) (x : Int) : idxOf l x (idxI l x) := by
  unfold idxI
  by_cases h : l.findIdx (· == x) < l.length
  · rw [if_pos h]
    refine .inr ⟨_, rfl, h, ?_, fun j hj => ?_⟩
    · rw [getD_lt h]
      have := List.findIdx_getElem (w := h)
      simpa using this
    · have hj2 : j < l.length := by omega
      rw [getD_lt hj2]
      have := List.not_of_lt_findIdx hj
      simpa using this
  · rw [if_neg h]
    refine .inl ⟨rfl, fun j hj he => h ?_⟩
    rw [getD_lt hj] at he
    have : l.findIdx (· == x) ≤ j := by
      apply Nat.le_of_not_lt
      intro hh
      have := List.not_of_lt_findIdx hh
      rw [he] at this
      simp at this
    omega

/-- The images of the arrows from 'x' under an arrow. -/
def Cat.repAct (c : Cat) (x : Int) (a : Nat) : List Int := (c.hom x (c.fr.getD a 0)).map fun h => idxI (c.hom x (c.to.getD a 0)) (c.cellI h a)
def Cat.repSz (c : Cat) (x : Int) (n : Nat) : List Int := (c.homs x n).map fun l : List Int => (l.length : Int)
def Cat.repAcs (c : Cat) (x : Int) (n : Nat) : List (List Int) := (List.range n).map (c.repAct x)
def repSf (c : Cat) (x : Int) : Sf := ⟨c, c.repSz x c.ob.toNat, c.repAcs x c.fr.length⟩
/-- The hom sets out of 'x' are not too large. -/
def Cat.smallAt (c : Cat) (x : Int) : Bool := (c.homs x c.ob.toNat).all fun l => decide (l.length ≤ 16)

theorem homs_get {c : Cat} {x : Int} {n k : Nat} (h : k < n) : (c.homs x n).getD k [] = c.hom x k := by
  unfold Cat.homs
  rw [List.getD_eq_getElem?_getD, List.getElem?_map, List.getElem?_range h]; rfl
theorem repSz_succ {c : Cat} {x : Int} {k : Nat} : c.repSz x (k + 1) = c.repSz x k ++ [((c.hom x k).length : Int)] := by
  unfold Cat.repSz; rw [homs_succ]; simp
theorem repSz_len {c : Cat} {x : Int} {k : Nat} : (c.repSz x k).length = k := by unfold Cat.repSz; rw [List.length_map, homs_len]
theorem repAcs_succ {c : Cat} {x : Int} {k : Nat} : c.repAcs x (k + 1) = c.repAcs x k ++ [c.repAct x k] := by
  unfold Cat.repAcs; rw [List.range_succ, List.map_append]; rfl
theorem repAcs_len {c : Cat} {x : Int} {k : Nat} : (c.repAcs x k).length = k := by unfold Cat.repAcs; simp
theorem hom_len {c : Cat} {x y : Int} : (c.hom x y).length ≤ c.fr.length := Cat.homP_len
theorem smallAt_iff {c : Cat} {x : Int} : c.smallAt x = true ↔ ∀ k, k < c.ob.toNat → (c.hom x (k : Nat)).length ≤ 16 := by
  unfold Cat.smallAt Cat.homs
  simp
end Go.D3

/- CONTRACTS: what the reference asks on the way to representables. -/
namespace Go.D3
open Go
set_option maxRecDepth 100000
set_option maxHeartbeats 4000000

-- spec.l01Same
def c_spec_l01Same : C :=
  (.seq (.ops [] [⟨none, .asg 2 (.k (.bool false))⟩] [])
  (.seq (.opc [] [⟨none, .mv (.v 0)⟩,
    ⟨none, .len (.t 0)⟩,
    ⟨none, .mv (.v 1)⟩,
    ⟨none, .len (.t 2)⟩,
    ⟨none, .bin .neq (.t 1) (.t 3)⟩] [] (.t 4) (.seq (.ops [] [⟨none, .asg 2 (.k (.bool false))⟩] [])
  .ret)
  .skip)
  (.seq (.seq (.ops [] [⟨none, .asg 3 (.i 0)⟩] [])
  (.block 0 (.loop (.seq (.opc [] [⟨none, .mv (.v 3)⟩,
    ⟨none, .mv (.v 0)⟩,
    ⟨none, .len (.t 1)⟩,
    ⟨none, .bin .lss (.t 0) (.t 2)⟩] [] (.t 3) .skip
  (.exit 0))
  (.seq (.block 1 (.opc [] [⟨none, .mv (.v 0)⟩,
    ⟨none, .mv (.v 3)⟩,
    ⟨none, .idxA 1 (.t 0) (.t 1)⟩,
    ⟨none, .ld (.t 2)⟩,
    ⟨none, .mv (.v 1)⟩,
    ⟨none, .mv (.v 3)⟩,
    ⟨none, .idxA 1 (.t 4) (.t 5)⟩,
    ⟨none, .ld (.t 6)⟩,
    ⟨none, .bin .neq (.t 3) (.t 7)⟩] [] (.t 8) (.seq (.ops [] [⟨none, .asg 2 (.k (.bool false))⟩] [])
  .ret)
  .skip))
  (.ops [] [⟨none, .mv (.v 3)⟩,
    ⟨none, .bin .add (.t 0) (.i 1)⟩,
    ⟨none, .asg 3 (.t 1)⟩] []))))))
  (.seq (.ops [] [⟨none, .asg 2 (.k (.bool true))⟩] [])
  .ret))))
def tr_spec_l01Same : List Nat := [0, 1, 4, 5]
def rs_spec_l01Same : List RS := [.t 2]
theorem ok_spec_l01Same : fnOk Go.Proofs.Try.prog Go.Proofs.Try.f173 tr_spec_l01Same c_spec_l01Same 2 rs_spec_l01Same = true := by decide +kernel

theorem ret_spec_l01Same (a b : List Int) (hl : a.length ≤ 1048576) : Ret Go.Proofs.Try.prog 173 [.v (ints a), .v (ints b)] (.bool (a == b)) := by
  refine ret_fn Go.Proofs.Try.func173 ok_spec_l01Same rfl (show 2 < 500 by decide) rfl ?_; unfold c_spec_l01Same tr_spec_l01Same rs_spec_l01Same; simp only [go_sem, Nat.reduceLT, Nat.reduceAdd, Nat.reduceSub, ↓reduceIte]
  refine ⟨fun h => ?_, fun h => ?_⟩
  · have : a ≠ b := fun e => by subst e; simp at h
    simpa using this
  have hab : a.length = b.length := by simp at h; omega
  refine loop_set [] (fun i : Nat => [(3, .int .i64 i)]) (fun i => i ≤ a.length ∧ ∀ j, j < i → a.getD j 0 = b.getD j 0) (fun i => a.length - i) 0 (by simp only [go_sem]; rfl) ⟨Nat.zero_le _, fun j hj => by omega⟩ rfl ?_
  rintro i ⟨hi, hs⟩
  simp only [go_sem, Nat.reduceLT, Nat.reduceAdd, Nat.reduceSub, ↓reduceIte]
  refine ⟨fun h1 => ⟨h1, by omega, fun h2 => ?_, fun h2 => ⟨i + 1, ⟨by omega, fun j hj => ?_⟩, by omega, by rw [wrap_lt h1 (by simp only [maxLen]; omega)]⟩⟩, fun h1 => ?_⟩
  · have : a ≠ b := fun e => by subst e; simp at h2
    simpa using this
  · by_cases hji : j = i
    · subst hji; simpa using h2
    · exact hs j (by omega)
  · have : a = b := by
      apply List.ext_getElem hab
      intro j h3 h4
      have := hs j (by omega)
      rwa [getD_lt h3, getD_lt h4] at this
    simpa using this

/-- Where a list is first. -/
def plcI (l : List (List Int)) (x : List Int) : Int := if l.findIdx (· == x) < l.length then ((l.findIdx (· == x) : Nat) : Int) else -1
-- spec.l05Place
def c_spec_l05Place : C :=
  (.seq (.ops [] [⟨none, .asg 2 (.i 0)⟩] [])
  (.seq (.seq (.ops [] [⟨none, .asg 3 (.i 0)⟩] [])
  (.block 0 (.loop (.seq (.opc [] [⟨none, .mv (.v 3)⟩,
    ⟨none, .mv (.v 0)⟩,
    ⟨none, .len (.t 1)⟩,
    ⟨none, .bin .lss (.t 0) (.t 2)⟩] [] (.t 3) .skip
  (.exit 0))
  (.seq (.block 1 (.opc [] [⟨none, .mv (.v 0)⟩,
    ⟨none, .mv (.v 3)⟩,
    ⟨none, .idxA 1 (.t 0) (.t 1)⟩,
    ⟨none, .ld (.t 2)⟩,
    ⟨none, .mv (.v 1)⟩,
    ⟨none, .call 173 [(.t 3), (.t 4)]⟩] [] (.t 5) (.seq (.ops [] [⟨none, .mv (.v 3)⟩,
    ⟨none, .asg 2 (.t 0)⟩] [])
  .ret)
  .skip))
  (.ops [] [⟨none, .mv (.v 3)⟩,
    ⟨none, .bin .add (.t 0) (.i 1)⟩,
    ⟨none, .asg 3 (.t 1)⟩] []))))))
  (.seq (.ops [] [⟨none, .asg 2 (.i (-1))⟩] [])
  .ret)))
def tr_spec_l05Place : List Nat := [0, 1, 4, 5]
def rs_spec_l05Place : List RS := [.t 2]
theorem ok_spec_l05Place : fnOk Go.Proofs.Try.prog Go.Proofs.Try.f143 tr_spec_l05Place c_spec_l05Place 2 rs_spec_l05Place = true := by decide +kernel

theorem ret_spec_l05Place (l : List (List Int)) (x : List Int) (hl : l.length ≤ 1048576) (hx : ∀ i, i < l.length → (l.getD i []).length ≤ 1048576) : Ret Go.Proofs.Try.prog 143 [.v (intss l), .v (ints x)] (.int .i64 (plcI l x)) := by
  refine ret_fn Go.Proofs.Try.func143 ok_spec_l05Place rfl (show 2 < 500 by decide) rfl ?_; unfold c_spec_l05Place tr_spec_l05Place rs_spec_l05Place; simp only [go_sem, Nat.reduceLT, Nat.reduceAdd, ↓reduceIte]
  refine loop_set [] (fun i : Nat => [(3, .int .i64 i)]) (fun i => i ≤ l.findIdx (· == x)) (fun i => l.length - i) 0 (by simp only [go_sem]; rfl) (Nat.zero_le _) rfl ?_
  intro i hi
  have hfl := List.findIdx_le_length (p := (· == x)) (xs := l)
  simp only [go_sem, Nat.reduceLT, Nat.reduceAdd, Nat.reduceSub, ↓reduceIte]
  refine ⟨fun h1 => ⟨h1, call_of (ret_spec_l01Same _ x (hx i h1)) rfl (.inl rfl) ?_⟩, fun h1 => ?_⟩
  · simp only [go_sem, Nat.reduceLT, Nat.reduceAdd, Nat.reduceSub, ↓reduceIte]
    refine ⟨fun h2 => ?_, fun h2 => ⟨i + 1, ?_, by omega, by rw [wrap_lt h1 (by simp only [maxLen]; omega)]⟩⟩
    · have : l.findIdx (· == x) ≤ i := by
        apply Nat.le_of_not_lt
        intro hh
        have := List.not_of_lt_findIdx hh
        rw [← getD_lt (d := []) h1, h2] at this
        simp at this
      have e : l.findIdx (· == x) = i := by omega
      unfold plcI
      rw [e, if_pos h1]
    · by_cases hlt : i < l.findIdx (· == x)
      · omega
      · have e : l.findIdx (· == x) = i := by omega
        have := List.findIdx_getElem (w := show l.findIdx (· == x) < l.length by omega)
        simp only [e] at this
        rw [← getD_lt (d := []) h1, h2] at this
        cases this
  · unfold plcI
    rw [if_neg (by omega)]
-- spec.l01Index
def c_spec_l01Index : C :=
  (.seq (.ops [] [⟨none, .asg 2 (.i 0)⟩] [])
  (.seq (.seq (.ops [] [⟨none, .asg 3 (.i 0)⟩] [])
  (.block 0 (.loop (.seq (.opc [] [⟨none, .mv (.v 3)⟩,
    ⟨none, .mv (.v 0)⟩,
    ⟨none, .len (.t 1)⟩,
    ⟨none, .bin .lss (.t 0) (.t 2)⟩] [] (.t 3) .skip
  (.exit 0))
  (.seq (.block 1 (.opc [] [⟨none, .mv (.v 0)⟩,
    ⟨none, .mv (.v 3)⟩,
    ⟨none, .idxA 1 (.t 0) (.t 1)⟩,
    ⟨none, .ld (.t 2)⟩,
    ⟨none, .mv (.v 1)⟩,
    ⟨none, .bin .eql (.t 3) (.t 4)⟩] [] (.t 5) (.seq (.ops [] [⟨none, .mv (.v 3)⟩,
    ⟨none, .asg 2 (.t 0)⟩] [])
  .ret)
  .skip))
  (.ops [] [⟨none, .mv (.v 3)⟩,
    ⟨none, .bin .add (.t 0) (.i 1)⟩,
    ⟨none, .asg 3 (.t 1)⟩] []))))))
  (.seq (.ops [] [⟨none, .asg 2 (.i (-1))⟩] [])
  .ret)))
def tr_spec_l01Index : List Nat := [0, 1, 4, 5]
def rs_spec_l01Index : List RS := [.t 2]
theorem ok_spec_l01Index : fnOk Go.Proofs.Try.prog Go.Proofs.Try.f75 tr_spec_l01Index c_spec_l01Index 2 rs_spec_l01Index = true := by decide +kernel

theorem ret_spec_l01Index (l : List Int) (x : Int) (hl : l.length ≤ 1048576) : Ret Go.Proofs.Try.prog 75 [.v (ints l), .v (.int .i64 x)] (.int .i64 (idxI l x)) := by
  refine ret_fn Go.Proofs.Try.func75 ok_spec_l01Index rfl (show 2 < 500 by decide) rfl ?_; unfold c_spec_l01Index tr_spec_l01Index rs_spec_l01Index; simp only [go_sem, Nat.reduceLT, Nat.reduceAdd, ↓reduceIte]
  refine loop_set [] (fun i : Nat => [(3, .int .i64 i)]) (fun i => i ≤ l.findIdx (· == x)) (fun i => l.length - i) 0 (by simp only [go_sem]; rfl) (Nat.zero_le _) rfl ?_
  intro i hi
  have hfl := List.findIdx_le_length (p := (· == x)) (xs := l)
  simp only [go_sem, Nat.reduceLT, Nat.reduceAdd, Nat.reduceSub, ↓reduceIte]
  refine ⟨fun h1 => ⟨h1, fun h2 => ?_, fun h2 => ⟨i + 1, ?_, by omega, by rw [wrap_lt h1 (by simp only [maxLen]; omega)]⟩⟩, fun h1 => ?_⟩
  · have : l.findIdx (· == x) ≤ i := by
      apply Nat.le_of_not_lt
      intro hh
      have := List.not_of_lt_findIdx hh
      rw [← getD_lt (d := 0) h1, h2] at this
      simp at this
    have e : l.findIdx (· == x) = i := by omega
    unfold idxI
    rw [e, if_pos h1]
  · by_cases hlt : i < l.findIdx (· == x)
    · omega
    · have e : l.findIdx (· == x) = i := by omega
      have := List.findIdx_getElem (w := show l.findIdx (· == x) < l.length by omega)
      simp only [e] at this
      rw [← getD_lt (d := 0) h1, h2] at this
      cases this
  · unfold idxI
    rw [if_neg (by omega)]

theorem plc_idx (l : List Int) (k v : Int) : plcI (l.map fun h => [k, h]) [k, v] = idxI l v := by
  have e : (l.map fun h => [k, h]).findIdx (· == [k, v]) = l.findIdx (· == v) := by
    rw [List.findIdx_map]
    congr 1
    funext h
    simp
  unfold plcI idxI
  rw [e, List.length_map]

-- spec.l02Then
def c_spec_l02Then : C :=
  (.seq (.ops [4] [⟨none, .boxv 5 (.v 0)⟩,
    ⟨none, .asg 3 (.i 0)⟩] [(4, 0)])
  (.seq (.ops [] [⟨none, .fA 4 (.v 4)⟩,
    ⟨none, .ld (.t 0)⟩,
    ⟨none, .mv (.v 1)⟩,
    ⟨none, .idxA 1 (.t 1) (.t 2)⟩,
    ⟨none, .ld (.t 3)⟩,
    ⟨none, .mv (.v 2)⟩,
    ⟨none, .idxA 1 (.t 4) (.t 5)⟩,
    ⟨none, .ld (.t 6)⟩,
    ⟨none, .asg 3 (.t 7)⟩] [])
  .ret))
def tr_spec_l02Then : List Nat := [0, 1, 2, 6, 3]
def rs_spec_l02Then : List RS := [.t 3]
theorem ok_spec_l02Then : fnOk Go.Proofs.Try.prog Go.Proofs.Try.f76 tr_spec_l02Then c_spec_l02Then 3 rs_spec_l02Then = true := by decide +kernel

theorem ret_spec_l02Then (c : Cat) (f g : Int) (h0 : 0 ≤ f) (h1 : f < c.co.length) (h2 : 0 ≤ g) (h3 : g < (c.co.getD f.toNat []).length) : Ret Go.Proofs.Try.prog 76 [.v c.d, .v (.int .i64 f), .v (.int .i64 g)] (.int .i64 (c.cellI f g)) := by
  refine ret_fn Go.Proofs.Try.func76 ok_spec_l02Then rfl (show 3 < 500 by decide) rfl ?_; unfold c_spec_l02Then tr_spec_l02Then rs_spec_l02Then; simp only [go_sem, Nat.reduceLT, Nat.reduceAdd, Nat.reduceSub, ↓reduceIte]
  exact ⟨⟨h0, h1⟩, ⟨h2, h3⟩, rfl⟩
-- spec.l02Object
def c_spec_l02Object : C :=
  (.seq (.ops [3] [⟨none, .boxv 5 (.v 0)⟩,
    ⟨none, .asg 2 (.k (.bool false))⟩] [(3, 0)])
  (.seq (.ops [] [⟨none, .mv (.v 1)⟩,
    ⟨none, .bin .geq (.t 0) (.i 0)⟩,
    ⟨none, .mv (.t 1)⟩,
    ⟨some (2, true), .mv (.v 1)⟩,
    ⟨some (2, true), .fA 0 (.v 3)⟩,
    ⟨some (2, true), .ld (.t 4)⟩,
    ⟨some (2, true), .bin .lss (.t 3) (.t 5)⟩,
    ⟨none, .pick (.t 2) (.t 6) (.k (.bool false))⟩,
    ⟨none, .asg 2 (.t 7)⟩] [])
  .ret))
def tr_spec_l02Object : List Nat := [0, 1, 4, 2]
def rs_spec_l02Object : List RS := [.t 2]
theorem ok_spec_l02Object : fnOk Go.Proofs.Try.prog Go.Proofs.Try.f98 tr_spec_l02Object c_spec_l02Object 2 rs_spec_l02Object = true := by decide +kernel

theorem ret_spec_l02Object (c : Cat) (x : Int) : Ret Go.Proofs.Try.prog 98 [.v c.d, .v (.int .i64 x)] (.bool (mapB c.ob [x])) := by
  refine ret_fn Go.Proofs.Try.func98 ok_spec_l02Object rfl (show 2 < 500 by decide) rfl ?_; unfold c_spec_l02Object tr_spec_l02Object rs_spec_l02Object; simp only [go_sem, Nat.reduceLT, Nat.reduceAdd, Nat.reduceSub, ↓reduceIte]
  simp [mapB]
-- spec.l02Arrow
def c_spec_l02Arrow : C :=
  (.seq (.ops [3] [⟨none, .boxv 5 (.v 0)⟩,
    ⟨none, .asg 2 (.k (.bool false))⟩] [(3, 0)])
  (.seq (.ops [] [⟨none, .mv (.v 1)⟩,
    ⟨none, .bin .geq (.t 0) (.i 0)⟩,
    ⟨none, .mv (.t 1)⟩,
    ⟨some (2, true), .mv (.v 1)⟩,
    ⟨some (2, true), .fA 1 (.v 3)⟩,
    ⟨some (2, true), .ld (.t 4)⟩,
    ⟨some (2, true), .len (.t 5)⟩,
    ⟨some (2, true), .bin .lss (.t 3) (.t 6)⟩,
    ⟨none, .pick (.t 2) (.t 7) (.k (.bool false))⟩,
    ⟨none, .asg 2 (.t 8)⟩] [])
  .ret))
def tr_spec_l02Arrow : List Nat := [0, 1, 4, 2]
def rs_spec_l02Arrow : List RS := [.t 2]
theorem ok_spec_l02Arrow : fnOk Go.Proofs.Try.prog Go.Proofs.Try.f72 tr_spec_l02Arrow c_spec_l02Arrow 2 rs_spec_l02Arrow = true := by decide +kernel

theorem ret_spec_l02Arrow (c : Cat) (x : Int) : Ret Go.Proofs.Try.prog 72 [.v c.d, .v (.int .i64 x)] (.bool (mapB c.fr.length [x])) := by
  refine ret_fn Go.Proofs.Try.func72 ok_spec_l02Arrow rfl (show 2 < 500 by decide) rfl ?_; unfold c_spec_l02Arrow tr_spec_l02Arrow rs_spec_l02Arrow; simp only [go_sem, Nat.reduceLT, Nat.reduceAdd, Nat.reduceSub, ↓reduceIte]
  simp [mapB]
-- spec.l20Small
def c_spec_l20Small : C :=
  (.seq (.ops [3] [⟨none, .boxv 5 (.v 0)⟩,
    ⟨none, .asg 2 (.k (.bool false))⟩] [(3, 0)])
  (.seq (.seq (.ops [] [⟨none, .asg 4 (.i 0)⟩] [])
  (.block 0 (.loop (.seq (.opc [] [⟨none, .mv (.v 4)⟩,
    ⟨none, .fA 0 (.v 3)⟩,
    ⟨none, .ld (.t 1)⟩,
    ⟨none, .bin .lss (.t 0) (.t 2)⟩] [] (.t 3) .skip
  (.exit 0))
  (.seq (.block 1 (.opc [] [⟨none, .lda 5 (.v 3)⟩,
    ⟨none, .mv (.v 1)⟩,
    ⟨none, .mv (.v 4)⟩,
    ⟨none, .call 74 [(.t 0), (.t 1), (.t 2)]⟩,
    ⟨none, .len (.t 3)⟩,
    ⟨none, .bin .gtr (.t 4) (.i 16)⟩] [] (.t 5) (.seq (.ops [] [⟨none, .asg 2 (.k (.bool false))⟩] [])
  .ret)
  .skip))
  (.ops [] [⟨none, .mv (.v 4)⟩,
    ⟨none, .bin .add (.t 0) (.i 1)⟩,
    ⟨none, .asg 4 (.t 1)⟩] []))))))
  (.seq (.ops [] [⟨none, .asg 2 (.k (.bool true))⟩] [])
  .ret)))
def tr_spec_l20Small : List Nat := [0, 1, 4, 2, 5]
def rs_spec_l20Small : List RS := [.t 2]
theorem ok_spec_l20Small : fnOk Go.Proofs.Try.prog Go.Proofs.Try.f73 tr_spec_l20Small c_spec_l20Small 2 rs_spec_l20Small = true := by decide +kernel

theorem ret_spec_l20Small (c : Cat) (x : Int) (hc : c.Shape) : Ret Go.Proofs.Try.prog 73 [.v c.d, .v (.int .i64 x)] (.bool (c.smallAt x)) := by
  have h8 := hc.ob8
  have h0 := hc.ob0
  have hfl := hc.fr
  refine ret_fn Go.Proofs.Try.func73 ok_spec_l20Small rfl (show 2 < 500 by decide) rfl ?_; unfold c_spec_l20Small tr_spec_l20Small rs_spec_l20Small; simp only [go_sem, Nat.reduceLT, Nat.reduceAdd, Nat.reduceSub, ↓reduceIte]
  refine loop_set [] (fun k : Nat => [(4, .int .i64 k)]) (fun k => k ≤ c.ob.toNat ∧ ∀ i, i < k → (c.hom x (i : Nat)).length ≤ 16) (fun k => c.ob.toNat - k) 0 (by simp only [go_sem]; rfl) ⟨Nat.zero_le _, fun i hi => by omega⟩ rfl ?_
  rintro k ⟨hk, hs⟩
  simp only [go_sem, Nat.reduceLT, Nat.reduceAdd, Nat.reduceSub, Nat.reduceLeDiff, ↓reduceIte]
  refine ⟨fun h1 => ?_, fun h1 => ?_⟩
  · refine call_of (ret_spec_l02Hom c x k (by omega) hc.to) rfl (.inl (nv_ints _)) ?_
    simp only [go_sem, Nat.reduceLT, Nat.reduceAdd, Nat.reduceSub, ↓reduceIte]
    refine ⟨fun h2 => ?_, fun h2 => ⟨k + 1, ⟨by omega, fun i hi => ?_⟩, by omega, by rw [wrap_lt (n := 9) (by omega) (by simp only [maxLen]; omega)]⟩⟩
    · cases hh : c.smallAt x with
      | false => rfl
      | true => have := smallAt_iff.1 hh k (by omega); omega
    · by_cases hik : i = k
      · subst hik; omega
      · exact hs i (by omega)
  · rw [smallAt_iff.2 fun i hi => hs i (by omega)]
-- spec.l19Own
def c_spec_l19Own : C :=
  (.seq (.ops [2, 1] [⟨none, .boxv 7 (.v 0)⟩,
    ⟨none, .alc [.int .i64 0, .nils (.int .i64 0), .nils (.int .i64 0), .nils (.int .i64 0), .nils (ints []), .nils (.int .i64 0), .nils (ints [])]⟩] [(2, 0), (1, 1)])
  (.seq (.ops [] [⟨none, .fA 0 (.v 2)⟩,
    ⟨none, .lda 5 (.t 0)⟩,
    ⟨none, .call 126 [(.t 1)]⟩,
    ⟨none, .fA 5 (.v 2)⟩,
    ⟨none, .ld (.t 3)⟩,
    ⟨none, .call 154 [(.t 4)]⟩,
    ⟨none, .fA 6 (.v 2)⟩,
    ⟨none, .ld (.t 6)⟩,
    ⟨none, .call 118 [(.t 7)]⟩,
    ⟨none, .bld [.int .i64 0, .nils (.int .i64 0), .nils (.int .i64 0), .nils (.int .i64 0), .nils (ints []), .nils (.int .i64 0), .nils (ints [])] [(0, 5, (.t 2)), (5, 1, (.t 5)), (6, 1, (.t 8))]⟩,
    ⟨none, .stn 7 (.v 1) (.t 9)⟩] [])
  .ret))
def tr_spec_l19Own : List Nat := [0, 2, 1]
def rs_spec_l19Own : List RS := [.c 1 7 true]
theorem ok_spec_l19Own : fnOk Go.Proofs.Try.prog Go.Proofs.Try.f117 tr_spec_l19Own c_spec_l19Own 1 rs_spec_l19Own = true := by decide +kernel

theorem ret_spec_l19Own (f : Sf) (h1 : Cat.cost f.shp ≤ 1048576) (h2 : f.sz.length ≤ 1048576) (h3 : costL List.length f.act ≤ 1048576) : Ret Go.Proofs.Try.prog 117 [.v f.d] f.d := by
  refine ret_fn Go.Proofs.Try.func117 ok_spec_l19Own rfl (show 1 < 500 by decide) rfl ?_; unfold c_spec_l19Own tr_spec_l19Own rs_spec_l19Own; simp only [go_sem, Nat.reduceLT, Nat.reduceAdd, Nat.reduceSub, Nat.reduceLeDiff, ↓reduceIte]
  refine call_of (ret_spec_l02Own f.shp h1) rfl (.inl (nv_Cat _)) ?_
  simp only [go_sem, Nat.reduceLT, Nat.reduceAdd, Nat.reduceSub, ↓reduceIte]
  refine call_of (ret_spec_l01Own f.sz h2) rfl (.inl (nv_ints _)) ?_
  simp only [go_sem, Nat.reduceLT, Nat.reduceAdd, Nat.reduceSub, ↓reduceIte]
  refine call_of (ret_spec_l01Own2 f.act h3) rfl (.inl (nv_intss _)) ?_
  simp only [go_sem, Nat.reduceLT, Nat.reduceAdd, Nat.reduceSub, Nat.reduceEqDiff, Nat.reduceBEq, Nat.reduceLeDiff, ↓reduceIte]
  all_goals rfl
-- spec.l19Make
def c_spec_l19Make : C :=
  (.seq (.ops [4, 5, 3] [⟨none, .boxv 7 (.v 0)⟩,
    ⟨none, .boxv 7 (.v 1)⟩,
    ⟨none, .alc [.int .i64 0, .nils (.int .i64 0), .nils (.int .i64 0), .nils (.int .i64 0), .nils (ints []), .nils (.int .i64 0), .nils (ints []), .int .i64 0, .nils (.int .i64 0), .nils (.int .i64 0), .nils (.int .i64 0), .nils (ints []), .nils (.int .i64 0), .nils (ints []), .nils (ints [])]⟩] [(4, 0), (5, 1), (3, 2)])
  (.seq (.ops [] [⟨none, .lda 7 (.v 4)⟩,
    ⟨none, .call 117 [(.t 0)]⟩,
    ⟨none, .lda 7 (.v 5)⟩,
    ⟨none, .call 117 [(.t 2)]⟩,
    ⟨none, .mv (.v 2)⟩,
    ⟨none, .call 118 [(.t 4)]⟩,
    ⟨none, .bld [.int .i64 0, .nils (.int .i64 0), .nils (.int .i64 0), .nils (.int .i64 0), .nils (ints []), .nils (.int .i64 0), .nils (ints []), .int .i64 0, .nils (.int .i64 0), .nils (.int .i64 0), .nils (.int .i64 0), .nils (ints []), .nils (.int .i64 0), .nils (ints []), .nils (ints [])] [(0, 7, (.t 1)), (7, 7, (.t 3)), (14, 1, (.t 5))]⟩,
    ⟨none, .stn 15 (.v 3) (.t 6)⟩] [])
  .ret))
def tr_spec_l19Make : List Nat := [0, 1, 2, 6, 3, 4]
def rs_spec_l19Make : List RS := [.c 3 15 true]
theorem ok_spec_l19Make : fnOk Go.Proofs.Try.prog Go.Proofs.Try.f77 tr_spec_l19Make c_spec_l19Make 3 rs_spec_l19Make = true := by decide +kernel

theorem ret_spec_l19Make (f g : Sf) (P : List (List Int)) (hf : Cat.cost f.shp ≤ 1048576 ∧ f.sz.length ≤ 1048576 ∧ costL List.length f.act ≤ 1048576) (hg : Cat.cost g.shp ≤ 1048576 ∧ g.sz.length ≤ 1048576 ∧ costL List.length g.act ≤ 1048576) (hP : costL List.length P ≤ 1048576) :
    Ret Go.Proofs.Try.prog 77 [.v f.d, .v g.d, .v (intss P)] (Sm.d ⟨f, g, P⟩) := by
  refine ret_fn Go.Proofs.Try.func77 ok_spec_l19Make rfl (show 3 < 500 by decide) rfl ?_; unfold c_spec_l19Make tr_spec_l19Make rs_spec_l19Make; simp only [go_sem, Nat.reduceLT, Nat.reduceAdd, Nat.reduceSub, Nat.reduceLeDiff, ↓reduceIte]
  refine call_of (ret_spec_l19Own f hf.1 hf.2.1 hf.2.2) rfl (.inl (nv_Sf _)) ?_
  simp only [go_sem, Nat.reduceLT, Nat.reduceAdd, Nat.reduceSub, Nat.reduceLeDiff, ↓reduceIte]
  refine call_of (ret_spec_l19Own g hg.1 hg.2.1 hg.2.2) rfl (.inl (nv_Sf _)) ?_
  simp only [go_sem, Nat.reduceLT, Nat.reduceAdd, Nat.reduceSub, ↓reduceIte]
  refine call_of (ret_spec_l01Own2 P hP) rfl (.inl (nv_intss _)) ?_
  simp only [go_sem, Nat.reduceLT, Nat.reduceAdd, Nat.reduceSub, Nat.reduceEqDiff, Nat.reduceBEq, Nat.reduceLeDiff, ↓reduceIte]
  all_goals rfl
end Go.D3
