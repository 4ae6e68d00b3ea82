/- CONTRACTS: the reference's maps between representables. -/
import Derived.Test.YtclmdejmogmifaaGQ
import Derived.Test.YtclmdejmogmifaaGI
import Derived.Test.YtclmdejmogmifaaGB
/- CONTRACTS: the program's representables and the maps between them. -/
namespace Go.D3
open Go
set_option maxRecDepth 100000
set_option maxHeartbeats 4000000

def codeO (c : Cat) (x : Int) : Int := if c.isB = false then 1 else if mapB c.ob [x] = false then 2 else 0
def codeA (c : Cat) (h : Int) : Int := if c.isB = false then 1 else if mapB c.fr.length [h] = false then 2 else 0

-- impl.objectCode
def c_impl_objectCode : C :=
  (.seq (.ops [] [⟨none, .asg 2 (.i 0)⟩] [])
  (.seq (.opc [] [⟨none, .mv (.v 0)⟩,
    ⟨none, .call 68 [(.t 0)]⟩,
    ⟨none, .not (.t 1)⟩] [] (.t 2) (.seq (.ops [] [⟨none, .asg 2 (.i 1)⟩] [])
  .ret)
  .skip)
  (.seq (.opc [] [⟨none, .mv (.v 1)⟩,
    ⟨none, .mv (.v 0)⟩,
    ⟨none, .nck (.t 1)⟩,
    ⟨none, .fA 0 (.t 2)⟩,
    ⟨none, .ld (.t 3)⟩,
    ⟨none, .call 100 [(.t 0), (.t 4)]⟩,
    ⟨none, .not (.t 5)⟩] [] (.t 6) (.seq (.ops [] [⟨none, .asg 2 (.i 2)⟩] [])
  .ret)
  .skip)
  (.seq (.ops [] [⟨none, .asg 2 (.i 0)⟩] [])
  .ret))))
def tr_impl_objectCode : List Nat := [0, 1, 4]
def rs_impl_objectCode : List RS := [.t 2]
theorem ok_impl_objectCode : fnOk Go.Proofs.Try.prog Go.Proofs.Try.f62 tr_impl_objectCode c_impl_objectCode 2 rs_impl_objectCode = true := by decide +kernel

theorem ret_impl_objectCode (c : Cat) (x : Int) : Ret Go.Proofs.Try.prog 62 [.v (.ptr c.cells), .v (ints [x])] (.int .i64 (codeO c x)) := by
  refine ret_fn Go.Proofs.Try.func62 ok_impl_objectCode rfl (show 2 < 500 by decide) rfl ?_; unfold c_impl_objectCode tr_impl_objectCode rs_impl_objectCode; simp only [go_sem, Nat.reduceLT, Nat.reduceAdd, Nat.reduceSub, ↓reduceIte]
  refine call_of (ret_impl_Category_isCategory c) rfl (.inl rfl) ?_
  simp only [go_sem, Nat.reduceLT, Nat.reduceAdd, Nat.reduceSub, ↓reduceIte]
  unfold codeO
  refine ⟨fun h => ?_, fun h => ?_⟩
  · rw [if_pos (by simpa using h)]
  have hb : c.isB = true := by simpa using h
  have hc := Cat.isB_shape hb
  refine call_of (ret_impl_within c.ob [x] hc.ob0) rfl (.inl rfl) ?_
  simp only [go_sem, Nat.reduceLT, Nat.reduceAdd, Nat.reduceSub, ↓reduceIte]
  rw [if_neg (by simp [hb])]
  refine ⟨fun h => ?_, fun h => ?_⟩
  · rw [if_pos (by simpa using h)]
  · rw [if_neg (by simpa using h)]

-- impl.arrowCode
def c_impl_arrowCode : C :=
  (.seq (.ops [] [⟨none, .asg 2 (.i 0)⟩] [])
  (.seq (.opc [] [⟨none, .mv (.v 0)⟩,
    ⟨none, .call 68 [(.t 0)]⟩,
    ⟨none, .not (.t 1)⟩] [] (.t 2) (.seq (.ops [] [⟨none, .asg 2 (.i 1)⟩] [])
  .ret)
  .skip)
  (.seq (.opc [] [⟨none, .mv (.v 1)⟩,
    ⟨none, .mv (.v 0)⟩,
    ⟨none, .call 111 [(.t 1)]⟩,
    ⟨none, .call 100 [(.t 0), (.t 2)]⟩,
    ⟨none, .not (.t 3)⟩] [] (.t 4) (.seq (.ops [] [⟨none, .asg 2 (.i 2)⟩] [])
  .ret)
  .skip)
  (.seq (.ops [] [⟨none, .asg 2 (.i 0)⟩] [])
  .ret))))
def tr_impl_arrowCode : List Nat := [0, 1, 4]
def rs_impl_arrowCode : List RS := [.t 2]
theorem ok_impl_arrowCode : fnOk Go.Proofs.Try.prog Go.Proofs.Try.f78 tr_impl_arrowCode c_impl_arrowCode 2 rs_impl_arrowCode = true := by decide +kernel

theorem ret_impl_arrowCode (c : Cat) (x : Int) : Ret Go.Proofs.Try.prog 78 [.v (.ptr c.cells), .v (ints [x])] (.int .i64 (codeA c x)) := by
  refine ret_fn Go.Proofs.Try.func78 ok_impl_arrowCode rfl (show 2 < 500 by decide) rfl ?_; unfold c_impl_arrowCode tr_impl_arrowCode rs_impl_arrowCode; simp only [go_sem, Nat.reduceLT, Nat.reduceAdd, Nat.reduceSub, ↓reduceIte]
  refine call_of (ret_impl_Category_isCategory c) rfl (.inl rfl) ?_
  simp only [go_sem, Nat.reduceLT, Nat.reduceAdd, Nat.reduceSub, ↓reduceIte]
  unfold codeA
  refine ⟨fun h => ?_, fun h => ?_⟩
  · rw [if_pos (by simpa using h)]
  have hb : c.isB = true := by simpa using h
  refine call_of (ret_impl_Category_arrows c) rfl (.inl rfl) ?_
  simp only [go_sem, Nat.reduceLT, Nat.reduceAdd, Nat.reduceSub, ↓reduceIte]
  refine call_of (ret_impl_within c.fr.length [x] (by omega)) rfl (.inl rfl) ?_
  simp only [go_sem, Nat.reduceLT, Nat.reduceAdd, Nat.reduceSub, ↓reduceIte]
  rw [if_neg (by simp [hb])]
  refine ⟨fun h => ?_, fun h => ?_⟩
  · rw [if_pos (by simpa using h)]
  · rw [if_neg (by simpa using h)]

theorem codeO_one {c : Cat} {x : Int} (h : codeO c x = 0) : c.isB = true ∧ 0 ≤ x ∧ x < c.ob := by
  unfold codeO at h
  split at h
  · cases h
  split at h
  · cases h
  rename_i h1 h2
  have h3 : mapB c.ob [x] = true := by simpa using h2
  exact ⟨by simpa using h1, by simpa using mapB_iff.1 h3 x (by simp)⟩
theorem codeA_one {c : Cat} {x : Int} (h : codeA c x = 0) : c.isB = true ∧ 0 ≤ x ∧ x < c.fr.length := by
  unfold codeA at h
  split at h
  · cases h
  split at h
  · cases h
  rename_i h1 h2
  have h3 : mapB c.fr.length [x] = true := by simpa using h2
  exact ⟨by simpa using h1, by simpa using mapB_iff.1 h3 x (by simp)⟩

/-- What Representable answers. -/
def repF (c : Cat) (x : Int) : Sf × Int := if codeO c x ≠ 0 then (Sf.zero, codeO c x) else if c.smallAt x = false then (Sf.zero, 3) else (repSf c x, 0)

-- impl.Representable
def c_impl_Representable : C :=
  (.seq (.ops [4, 2] [⟨none, .boxv 5 (.v 0)⟩,
    ⟨none, .alc [.int .i64 0, .nils (.int .i64 0), .nils (.int .i64 0), .nils (.int .i64 0), .nils (ints []), .nils (.int .i64 0), .nils (ints [])]⟩,
    ⟨none, .asg 3 (.i 0)⟩] [(4, 0), (2, 1)])
  (.seq (.seq (.ops [] [⟨none, .mv (.v 1)⟩,
    ⟨none, .bldS (.int .i64 0) 1 [(0, (.t 0))]⟩,
    ⟨none, .call 62 [(.v 4), (.t 1)]⟩,
    ⟨none, .asg 5 (.t 2)⟩] [])
  (.opc [] [⟨none, .mv (.v 5)⟩,
    ⟨none, .bin .neq (.t 0) (.i 0)⟩] [] (.t 1) (.seq (.ops [] [⟨none, .bld [.int .i64 0, .nils (.int .i64 0), .nils (.int .i64 0), .nils (.int .i64 0), .nils (ints []), .nils (.int .i64 0), .nils (ints [])] []⟩,
    ⟨none, .mv (.v 5)⟩,
    ⟨none, .stn 7 (.v 2) (.t 0)⟩,
    ⟨none, .asg 3 (.t 1)⟩] [])
  .ret)
  .skip))
  (.seq (.ops [6] [⟨none, .mv (.v 1)⟩,
    ⟨none, .call 63 [(.v 4), (.t 0)]⟩,
    ⟨none, .mv (.t 1)⟩,
    ⟨none, .ext 0 (.t 2)⟩,
    ⟨none, .ext 1 (.t 2)⟩,
    ⟨none, .alc [.int .i64 0, .nils (.int .i64 0), .nils (.int .i64 0), .nils (.int .i64 0), .nils (ints []), .nils (.int .i64 0), .nils (ints [])]⟩,
    ⟨none, .stn 7 (.t 5) (.t 3)⟩,
    ⟨none, .asg 7 (.t 4)⟩] [(6, 5)])
  (.seq (.opc [] [⟨none, .mv (.v 7)⟩,
    ⟨none, .not (.t 0)⟩] [] (.t 1) (.seq (.ops [] [⟨none, .bld [.int .i64 0, .nils (.int .i64 0), .nils (.int .i64 0), .nils (.int .i64 0), .nils (ints []), .nils (.int .i64 0), .nils (ints [])] []⟩,
    ⟨none, .stn 7 (.v 2) (.t 0)⟩,
    ⟨none, .asg 3 (.i 3)⟩] [])
  .ret)
  .skip)
  (.seq (.ops [] [⟨none, .lda 7 (.v 6)⟩,
    ⟨none, .stn 7 (.v 2) (.t 0)⟩,
    ⟨none, .asg 3 (.i 0)⟩] [])
  .ret)))))
def tr_impl_Representable : List Nat := [0, 1, 4, 5, 2, 6, 7, 8]
def rs_impl_Representable : List RS := [.c 2 7 true, .t 3]
theorem ok_impl_Representable : fnOk Go.Proofs.Try.prog Go.Proofs.Try.f22 tr_impl_Representable c_impl_Representable 2 rs_impl_Representable = true := by decide +kernel

theorem ret_impl_Representable (c : Cat) (x : Int) (hcc : Cat.cost c ≤ 1048576) : Ret Go.Proofs.Try.prog 22 [.v c.d, .v (.int .i64 x)] (.tup [(repF c x).1.d, .int .i64 (repF c x).2]) := by
  refine ret_fn Go.Proofs.Try.func22 ok_impl_Representable rfl (show 2 < 500 by decide) rfl ?_; unfold c_impl_Representable tr_impl_Representable rs_impl_Representable; simp only [go_sem, Nat.reduceLT, Nat.reduceAdd, Nat.reduceSub, ↓reduceIte]
  refine call_of (ret_impl_objectCode c x) rfl (.inl rfl) ?_
  simp only [go_sem, Nat.reduceLT, Nat.reduceAdd, Nat.reduceSub, Nat.reduceEqDiff, ↓reduceIte]
  refine ⟨fun h => ?_, fun h => ?_⟩
  · unfold repF; rw [if_pos (by simpa using h)]; rfl
  have h : codeO c x = 0 := by simpa using h
  obtain ⟨h1, h2⟩ := codeO_one h
  refine call_of (ret_impl_Category_representable c x (Cat.isB_shape h1) hcc (by omega)) rfl (.inl (by split <;> simp only [D.novw, novwL, nv_Sf, Bool.and_self])) ?_
  unfold repF
  rw [if_neg (by simp [h])]
  cases hs : c.smallAt x with
  | true =>
    simp only [↓reduceIte, Bool.true_eq_false]
    simp only [go_sem, Nat.reduceLT, Nat.reduceAdd, Nat.reduceSub, Nat.reduceEqDiff, Nat.reduceBEq, Nat.reduceLeDiff, ↓reduceIte]
  | false =>
    simp only [↓reduceIte, Bool.false_eq_true]
    simp only [go_sem, Nat.reduceLT, Nat.reduceAdd, Nat.reduceSub, Nat.reduceEqDiff, Nat.reduceBEq, Nat.reduceLeDiff, ↓reduceIte]
    rfl

def Cat.arPart (c : Cat) (h : Nat) (z : Nat) : List Int := (c.hom (c.to.getD h 0) z).map fun k => idxI (c.hom (c.fr.getD h 0) z) (c.cellI h k)
def Cat.arParts (c : Cat) (h : Nat) (n : Nat) : List (List Int) := (List.range n).map (c.arPart h)
theorem arParts_succ {c : Cat} {h k : Nat} : c.arParts h (k + 1) = c.arParts h k ++ [c.arPart h k] := by unfold Cat.arParts; rw [List.range_succ, List.map_append]; rfl
theorem arParts_len {c : Cat} {h k : Nat} : (c.arParts h k).length = k := by unfold Cat.arParts; simp
theorem arPart_len {c : Cat} {h z : Nat} : (c.arPart h z).length = (c.hom (c.to.getD h 0) z).length := by unfold Cat.arPart; simp

-- (*impl.Category).arrowParts
def c_impl_Category_arrowParts : C :=
  (.seq (.ops [] [⟨none, .asg 2 (.k (.nils (ints [])))⟩] [])
  (.seq (.ops [] [⟨none, .bldS (ints []) 0 []⟩,
    ⟨none, .asg 3 (.t 0)⟩] [])
  (.seq (.seq (.ops [] [⟨none, .asg 4 (.i 0)⟩] [])
  (.block 0 (.loop (.seq (.opc [] [⟨none, .mv (.v 4)⟩,
    ⟨none, .mv (.v 0)⟩,
    ⟨none, .nck (.t 1)⟩,
    ⟨none, .fA 0 (.t 2)⟩,
    ⟨none, .ld (.t 3)⟩,
    ⟨none, .bin .lss (.t 0) (.t 4)⟩] [] (.t 5) .skip
  (.exit 0))
  (.seq (.block 1 (.seq (.ops [] [⟨none, .mv (.v 0)⟩,
    ⟨none, .mv (.v 0)⟩,
    ⟨none, .nck (.t 1)⟩,
    ⟨none, .fA 1 (.t 2)⟩,
    ⟨none, .ld (.t 3)⟩,
    ⟨none, .mv (.v 1)⟩,
    ⟨none, .idxA 1 (.t 4) (.t 5)⟩,
    ⟨none, .ld (.t 6)⟩,
    ⟨none, .mv (.v 4)⟩,
    ⟨none, .call 121 [(.t 0), (.t 7), (.t 8)]⟩,
    ⟨none, .asg 5 (.t 9)⟩] [])
  (.seq (.ops [] [⟨none, .bldS (.int .i64 0) 0 []⟩,
    ⟨none, .asg 6 (.t 0)⟩] [])
  (.seq (.seq (.ops [8, 9] [⟨none, .mv (.v 0)⟩,
    ⟨none, .mv (.v 0)⟩,
    ⟨none, .nck (.t 1)⟩,
    ⟨none, .fA 2 (.t 2)⟩,
    ⟨none, .ld (.t 3)⟩,
    ⟨none, .mv (.v 1)⟩,
    ⟨none, .idxA 1 (.t 4) (.t 5)⟩,
    ⟨none, .ld (.t 6)⟩,
    ⟨none, .mv (.v 4)⟩,
    ⟨none, .call 121 [(.t 0), (.t 7), (.t 8)]⟩,
    ⟨none, .len (.t 9)⟩,
    ⟨none, .asg 10 (.i 0)⟩] [(8, 9), (9, 10)])
  (.block 2 (.loop (.opq [] [⟨none, .bin .lss (.v 10) (.v 9)⟩] [] (.t 0) .skip
  (.exit 2)
  (.seq (.block 3 (.seq (.ops [] [⟨none, .idxA 1 (.v 8) (.v 10)⟩,
    ⟨none, .ld (.t 0)⟩,
    ⟨none, .asg 7 (.t 1)⟩] [])
  (.ops [] [⟨none, .mv (.v 6)⟩,
    ⟨none, .mv (.v 5)⟩,
    ⟨none, .mv (.v 0)⟩,
    ⟨none, .mv (.v 1)⟩,
    ⟨none, .mv (.v 7)⟩,
    ⟨none, .call 104 [(.t 2), (.t 3), (.t 4)]⟩,
    ⟨none, .call 103 [(.t 1), (.t 5)]⟩,
    ⟨none, .bldS (.int .i64 0) 1 [(0, (.t 6))]⟩,
    ⟨none, .app 1 8 (.t 0) (.t 7)⟩,
    ⟨none, .asg 6 (.t 8)⟩] [])))
  (.ops [] [⟨none, .bin .add (.v 10) (.i 1)⟩,
    ⟨none, .asg 10 (.t 0)⟩] []))))))
  (.ops [] [⟨none, .mv (.v 3)⟩,
    ⟨none, .mv (.v 6)⟩,
    ⟨none, .bldS (ints []) 1 [(0, (.t 1))]⟩,
    ⟨none, .app 1 24 (.t 0) (.t 2)⟩,
    ⟨none, .asg 3 (.t 3)⟩] [])))))
  (.ops [] [⟨none, .mv (.v 4)⟩,
    ⟨none, .bin .add (.t 0) (.i 1)⟩,
    ⟨none, .asg 4 (.t 1)⟩] []))))))
  (.seq (.ops [] [⟨none, .mv (.v 3)⟩,
    ⟨none, .asg 2 (.t 0)⟩] [])
  .ret))))
def tr_impl_Category_arrowParts : List Nat := [0, 1, 4, 5, 6, 7, 8, 10, 40, 41, 42]
def rs_impl_Category_arrowParts : List RS := [.t 2]
theorem ok_impl_Category_arrowParts : fnOk Go.Proofs.Try.prog Go.Proofs.Try.f80 tr_impl_Category_arrowParts c_impl_Category_arrowParts 2 rs_impl_Category_arrowParts = true := by decide +kernel

theorem ret_impl_Category_arrowParts (c : Cat) (h : Nat) (hc : c.Shape) (hh : h < c.fr.length) : Ret Go.Proofs.Try.prog 80 [.v (.ptr c.cells), .v (.int .i64 h)] (intss (c.arParts h c.ob.toNat)) := by
  have hob := hc.ob8
  have hob0 := hc.ob0
  have hfl := hc.fr
  have hto := hc.to
  have hF := hc.fri hh
  have hT := hc.toi hh
  refine ret_fn Go.Proofs.Try.func80 ok_impl_Category_arrowParts rfl (show 2 < 500 by decide) rfl ?_; unfold c_impl_Category_arrowParts tr_impl_Category_arrowParts rs_impl_Category_arrowParts; simp only [go_sem, Nat.reduceLT, Nat.reduceAdd, Nat.reduceSub, ↓reduceIte]
  refine loop_set [5, 6, 7, 8, 9, 10] (fun z : Nat => [(4, .int .i64 z), (3, .o (intss (c.arParts h z)))]) (fun z => (z : Int) ≤ c.ob) (fun z => c.ob.toNat - z) 0 (by simp only [go_sem, Nat.reduceLT, ↓reduceIte]; rfl) (by simpa using hob0) rfl ?_
  intro z hz
  simp only [go_sem, Nat.reduceLT, Nat.reduceAdd, Nat.reduceSub, Nat.reduceBEq, ↓reduceIte]
  refine ⟨fun hzo => ?_, fun hzo => ?_⟩
  · refine ⟨by omega, call_of (ret_impl_Category_hom c _ _ (by omega) hto) rfl (.inl (nv_ints _)) ?_⟩
    simp only [go_sem, Nat.reduceLT, Nat.reduceAdd, Nat.reduceSub, ↓reduceIte]
    refine ⟨by omega, call_of (ret_impl_Category_hom c _ _ (by omega) hto) rfl (.inl (nv_ints _)) ?_⟩
    simp only [go_sem, Nat.reduceLT, Nat.reduceAdd, Nat.reduceSub, ↓reduceIte]
    have hl1 : (c.hom (c.to.getD h 0) z).length ≤ c.fr.length := hom_len
    have hl2 : (c.hom (c.fr.getD h 0) z).length ≤ c.fr.length := hom_len
    have hpl := arPart_len (c := c) (h := h) (z := z)
    refine loop_set [7] (fun i : Nat => [(10, .int .i64 i), (6, .o (ints ((c.arPart h z).take i)))]) (fun i => i ≤ (c.hom (c.to.getD h 0) z).length) (fun i => (c.hom (c.to.getD h 0) z).length - i) 0 (by simp only [go_sem, Nat.reduceLT, ↓reduceIte]; rfl) (Nat.zero_le _) rfl ?_
    intro i hi
    simp only [go_sem, Nat.reduceLT, Nat.reduceAdd, Nat.reduceSub, Nat.reduceEqDiff, Nat.reduceBEq, Nat.reduceLeDiff, ↓reduceIte]
    refine ⟨fun h3 => ⟨h3, ?_⟩, fun h3 => ?_⟩
    · have hm := Cat.mem_hom.1 (List.getElem_mem h3)
      rw [← getD_lt (d := 0) h3] at hm
      have hrow := hc.row h hh
      have hco := hc.co
      refine call_of (ret_impl_Category_then c h ((c.hom (c.to.getD h 0) z).getD i 0) (by omega) (by omega) hm.1 (by simp only [Int.toNat_natCast]; omega)) rfl (.inl rfl) ?_
      simp only [go_sem, Nat.reduceLT, Nat.reduceAdd, Nat.reduceSub, ↓reduceIte]
      refine call_of (ret_impl_index_int64 (c.hom (c.fr.getD h 0) z) _ (idxI (c.hom (c.fr.getD h 0) z) (c.cellI h ((c.hom (c.to.getD h 0) z).getD i 0))) (idx_ok _ _) (by omega)) rfl (.inl rfl) ?_
      simp only [go_sem, Nat.reduceLT, Nat.reduceAdd, Nat.reduceSub, Nat.reduceBEq, Nat.reduceLeDiff, ↓reduceIte]
      refine ⟨by rw [List.length_take]; omega, i + 1, by omega, by omega, ?_⟩
      have hv : (c.arPart h z).getD i 0 = idxI (c.hom (c.fr.getD h 0) z) (c.cellI h ((c.hom (c.to.getD h 0) z).getD i 0)) := by
        rw [getD_lt h3, getD_lt (by omega)]
        simp [Cat.arPart]
      rw [wrap_lt h3 (by simp only [maxLen]; omega), take_snoc (by omega) 0, hv]
    · refine ⟨by rw [arParts_len]; omega, z + 1, by omega, by omega, ?_⟩
      rw [wrap_lt (n := 9) (by omega) (by simp only [maxLen]; omega), List.take_of_length_le (by omega), arParts_succ]
  · rw [show c.ob.toNat = z by omega]

theorem costL_le {l : List (List Int)} {n m : Nat} (hn : l.length ≤ n) (hm : ∀ x ∈ l, x.length ≤ m) : costL List.length l ≤ n * (m + 1) := by
  have : (l.map List.length).sum ≤ l.length * m := by
    clear hn
    induction l with
    | nil => simp
    | cons a l ih =>
      have h1 := ih fun x hx => hm x (by simp [hx])
      have h2 := hm a (by simp)
      simp only [List.map_cons, List.sum_cons, List.length_cons]
      rw [Nat.add_mul]; omega
  have h3 : l.length * (m + 1) ≤ n * (m + 1) := Nat.mul_le_mul_right _ hn
  rw [Nat.mul_add] at h3
  unfold costL
  omega

-- (*impl.SetFunctor).copy
def c_impl_SetFunctor_copy : C :=
  (.seq (.ops [1] [⟨none, .alc [.int .i64 0, .nils (.int .i64 0), .nils (.int .i64 0), .nils (.int .i64 0), .nils (ints []), .nils (.int .i64 0), .nils (ints [])]⟩] [(1, 0)])
  (.seq (.ops [] [⟨none, .mv (.v 0)⟩,
    ⟨none, .nck (.t 0)⟩,
    ⟨none, .fA 0 (.t 1)⟩,
    ⟨none, .call 101 [(.t 2)]⟩,
    ⟨none, .mv (.v 0)⟩,
    ⟨none, .nck (.t 4)⟩,
    ⟨none, .fA 5 (.t 5)⟩,
    ⟨none, .ld (.t 6)⟩,
    ⟨none, .call 145 [(.t 7)]⟩,
    ⟨none, .mv (.v 0)⟩,
    ⟨none, .nck (.t 9)⟩,
    ⟨none, .fA 6 (.t 10)⟩,
    ⟨none, .ld (.t 11)⟩,
    ⟨none, .call 120 [(.t 12)]⟩,
    ⟨none, .bld [.int .i64 0, .nils (.int .i64 0), .nils (.int .i64 0), .nils (.int .i64 0), .nils (ints []), .nils (.int .i64 0), .nils (ints [])] [(0, 5, (.t 3)), (5, 1, (.t 8)), (6, 1, (.t 13))]⟩,
    ⟨none, .stn 7 (.v 1) (.t 14)⟩] [])
  .ret))
def tr_impl_SetFunctor_copy : List Nat := [0, 2]
def rs_impl_SetFunctor_copy : List RS := [.c 1 7 true]
theorem ok_impl_SetFunctor_copy : fnOk Go.Proofs.Try.prog Go.Proofs.Try.f119 tr_impl_SetFunctor_copy c_impl_SetFunctor_copy 1 rs_impl_SetFunctor_copy = true := by decide +kernel

theorem ret_impl_SetFunctor_copy (f : Sf) (h1 : Cat.cost f.shp ≤ 1048576) (h2 : f.sz.length ≤ 1048576) (h3 : costL List.length f.act ≤ 1048576) : Ret Go.Proofs.Try.prog 119 [.v (.ptr f.cells)] f.d := by
  refine ret_fn Go.Proofs.Try.func119 ok_impl_SetFunctor_copy rfl (show 1 < 500 by decide) rfl ?_; unfold c_impl_SetFunctor_copy tr_impl_SetFunctor_copy rs_impl_SetFunctor_copy; simp only [go_sem, Nat.reduceLT, Nat.reduceAdd, Nat.reduceSub, ↓reduceIte]
  refine call_wk (bs := [.ptr f.shp.cells]) (ret_impl_Category_copy f.shp h1) rfl ⟨.inr ⟨5, _, rfl, rfl⟩, trivial⟩ (.inl (nv_Cat _)) ?_
  simp only [go_sem, Nat.reduceLT, Nat.reduceAdd, Nat.reduceSub, ↓reduceIte]
  refine call_of (ret_impl_clone f.sz h2) rfl (.inl (nv_ints _)) ?_
  simp only [go_sem, Nat.reduceLT, Nat.reduceAdd, Nat.reduceSub, ↓reduceIte]
  refine call_of (ret_impl_clones f.act h3) rfl (.inl (nv_intss _)) ?_
  simp only [go_sem, Nat.reduceLT, Nat.reduceAdd, Nat.reduceSub, Nat.reduceEqDiff, Nat.reduceBEq, Nat.reduceLeDiff, ↓reduceIte]
  all_goals rfl

-- impl.setMap
def c_impl_setMap : C :=
  (.seq (.ops [3] [⟨none, .alc [.int .i64 0, .nils (.int .i64 0), .nils (.int .i64 0), .nils (.int .i64 0), .nils (ints []), .nils (.int .i64 0), .nils (ints []), .int .i64 0, .nils (.int .i64 0), .nils (.int .i64 0), .nils (.int .i64 0), .nils (ints []), .nils (.int .i64 0), .nils (ints []), .nils (ints [])]⟩] [(3, 0)])
  (.seq (.ops [] [⟨none, .mv (.v 0)⟩,
    ⟨none, .call 119 [(.t 0)]⟩,
    ⟨none, .mv (.v 1)⟩,
    ⟨none, .call 119 [(.t 2)]⟩,
    ⟨none, .mv (.v 2)⟩,
    ⟨none, .call 120 [(.t 4)]⟩,
    ⟨none, .bld [.int .i64 0, .nils (.int .i64 0), .nils (.int .i64 0), .nils (.int .i64 0), .nils (ints []), .nils (.int .i64 0), .nils (ints []), .int .i64 0, .nils (.int .i64 0), .nils (.int .i64 0), .nils (.int .i64 0), .nils (ints []), .nils (.int .i64 0), .nils (ints []), .nils (ints [])] [(0, 7, (.t 1)), (7, 7, (.t 3)), (14, 1, (.t 5))]⟩,
    ⟨none, .stn 15 (.v 3) (.t 6)⟩] [])
  .ret))
def tr_impl_setMap : List Nat := [0, 1, 2, 6]
def rs_impl_setMap : List RS := [.c 3 15 true]
theorem ok_impl_setMap : fnOk Go.Proofs.Try.prog Go.Proofs.Try.f79 tr_impl_setMap c_impl_setMap 3 rs_impl_setMap = true := by decide +kernel

theorem ret_impl_setMap (f g : Sf) (P : List (List Int)) (hf : Cat.cost f.shp ≤ 1048576 ∧ f.sz.length ≤ 1048576 ∧ costL List.length f.act ≤ 1048576) (hg : Cat.cost g.shp ≤ 1048576 ∧ g.sz.length ≤ 1048576 ∧ costL List.length g.act ≤ 1048576) (hP : costL List.length P ≤ 1048576) :
    Ret Go.Proofs.Try.prog 79 [.v (.ptr f.cells), .v (.ptr g.cells), .v (intss P)] (Sm.d ⟨f, g, P⟩) := by
  refine ret_fn Go.Proofs.Try.func79 ok_impl_setMap rfl (show 3 < 500 by decide) rfl ?_; unfold c_impl_setMap tr_impl_setMap rs_impl_setMap; simp only [go_sem, Nat.reduceLT, Nat.reduceAdd, Nat.reduceSub, ↓reduceIte]
  refine call_of (ret_impl_SetFunctor_copy f hf.1 hf.2.1 hf.2.2) rfl (.inl (nv_Sf _)) ?_
  simp only [go_sem, Nat.reduceLT, Nat.reduceAdd, Nat.reduceSub, ↓reduceIte]
  refine call_of (ret_impl_SetFunctor_copy g hg.1 hg.2.1 hg.2.2) rfl (.inl (nv_Sf _)) ?_
  simp only [go_sem, Nat.reduceLT, Nat.reduceAdd, Nat.reduceSub, ↓reduceIte]
  refine call_of (ret_impl_clones P hP) rfl (.inl (nv_intss _)) ?_
  simp only [go_sem, Nat.reduceLT, Nat.reduceAdd, Nat.reduceSub, Nat.reduceEqDiff, Nat.reduceBEq, Nat.reduceLeDiff, ↓reduceIte]
  all_goals rfl
end Go.D3

/- CONTRACTS: the program's maps between representables. -/
namespace Go.D3
open Go
set_option maxRecDepth 100000
set_option maxHeartbeats 4000000

/-- What ArrowMap answers. -/
def mapF (c : Cat) (h : Int) : Sm × Int := if codeA c h ≠ 0 then (Sm.zero, codeA c h) else if (c.smallAt (c.to.getD h.toNat 0) && c.smallAt (c.fr.getD h.toNat 0)) = false then (Sm.zero, 3) else
  (⟨repSf c (c.to.getD h.toNat 0), repSf c (c.fr.getD h.toNat 0), c.arParts h.toNat c.ob.toNat⟩, 0)

theorem repSf_cost {c : Cat} (hc : c.Shape) (x : Int) : (repSf c x).sz.length ≤ 1048576 ∧ costL List.length (repSf c x).act ≤ 1048576 := by
  have h8 := hc.ob8
  have h40 := hc.fr
  refine ⟨by show (c.repSz x c.ob.toNat).length ≤ _; rw [repSz_len]; omega, ?_⟩
  refine Nat.le_trans (costL_le (n := 40) (m := 40) (by show (c.repAcs x c.fr.length).length ≤ _; rw [repAcs_len]; omega) fun l hl => ?_) (by decide)
  have hl : l ∈ (List.range c.fr.length).map (c.repAct x) := hl
  obtain ⟨a, _, rfl⟩ := List.mem_map.1 hl
  unfold Cat.repAct
  rw [List.length_map]
  exact Nat.le_trans hom_len h40
theorem arParts_cost {c : Cat} (hc : c.Shape) (h : Nat) : costL List.length (c.arParts h c.ob.toNat) ≤ 1048576 := by
  have h8 := hc.ob8
  have h40 := hc.fr
  refine Nat.le_trans (costL_le (n := 40) (m := 40) (by rw [arParts_len]; omega) fun l hl => ?_) (by decide)
  obtain ⟨a, _, rfl⟩ := List.mem_map.1 (show l ∈ (List.range c.ob.toNat).map (c.arPart h) from hl)
  rw [arPart_len]
  exact Nat.le_trans hom_len h40

-- impl.ArrowMap
def c_impl_ArrowMap : C :=
  (.seq (.ops [4, 2] [⟨none, .boxv 5 (.v 0)⟩,
    ⟨none, .alc [.int .i64 0, .nils (.int .i64 0), .nils (.int .i64 0), .nils (.int .i64 0), .nils (ints []), .nils (.int .i64 0), .nils (ints []), .int .i64 0, .nils (.int .i64 0), .nils (.int .i64 0), .nils (.int .i64 0), .nils (ints []), .nils (.int .i64 0), .nils (ints []), .nils (ints [])]⟩,
    ⟨none, .asg 3 (.i 0)⟩] [(4, 0), (2, 1)])
  (.seq (.seq (.ops [] [⟨none, .mv (.v 1)⟩,
    ⟨none, .bldS (.int .i64 0) 1 [(0, (.t 0))]⟩,
    ⟨none, .call 78 [(.v 4), (.t 1)]⟩,
    ⟨none, .asg 5 (.t 2)⟩] [])
  (.opc [] [⟨none, .mv (.v 5)⟩,
    ⟨none, .bin .neq (.t 0) (.i 0)⟩] [] (.t 1) (.seq (.ops [] [⟨none, .bld [.int .i64 0, .nils (.int .i64 0), .nils (.int .i64 0), .nils (.int .i64 0), .nils (ints []), .nils (.int .i64 0), .nils (ints []), .int .i64 0, .nils (.int .i64 0), .nils (.int .i64 0), .nils (.int .i64 0), .nils (ints []), .nils (.int .i64 0), .nils (ints []), .nils (ints [])] []⟩,
    ⟨none, .mv (.v 5)⟩,
    ⟨none, .stn 15 (.v 2) (.t 0)⟩,
    ⟨none, .asg 3 (.t 1)⟩] [])
  .ret)
  .skip))
  (.seq (.ops [6] [⟨none, .fA 2 (.v 4)⟩,
    ⟨none, .ld (.t 0)⟩,
    ⟨none, .mv (.v 1)⟩,
    ⟨none, .idxA 1 (.t 1) (.t 2)⟩,
    ⟨none, .ld (.t 3)⟩,
    ⟨none, .call 63 [(.v 4), (.t 4)]⟩,
    ⟨none, .mv (.t 5)⟩,
    ⟨none, .ext 0 (.t 6)⟩,
    ⟨none, .ext 1 (.t 6)⟩,
    ⟨none, .alc [.int .i64 0, .nils (.int .i64 0), .nils (.int .i64 0), .nils (.int .i64 0), .nils (ints []), .nils (.int .i64 0), .nils (ints [])]⟩,
    ⟨none, .stn 7 (.t 9) (.t 7)⟩,
    ⟨none, .asg 7 (.t 8)⟩] [(6, 9)])
  (.seq (.ops [8] [⟨none, .fA 1 (.v 4)⟩,
    ⟨none, .ld (.t 0)⟩,
    ⟨none, .mv (.v 1)⟩,
    ⟨none, .idxA 1 (.t 1) (.t 2)⟩,
    ⟨none, .ld (.t 3)⟩,
    ⟨none, .call 63 [(.v 4), (.t 4)]⟩,
    ⟨none, .mv (.t 5)⟩,
    ⟨none, .ext 0 (.t 6)⟩,
    ⟨none, .ext 1 (.t 6)⟩,
    ⟨none, .alc [.int .i64 0, .nils (.int .i64 0), .nils (.int .i64 0), .nils (.int .i64 0), .nils (ints []), .nils (.int .i64 0), .nils (ints [])]⟩,
    ⟨none, .stn 7 (.t 9) (.t 7)⟩,
    ⟨none, .asg 9 (.t 8)⟩] [(8, 9)])
  (.seq (.opc [] [⟨none, .mv (.v 7)⟩,
    ⟨none, .not (.t 0)⟩,
    ⟨none, .mv (.t 1)⟩,
    ⟨some (2, false), .mv (.v 9)⟩,
    ⟨some (2, false), .not (.t 3)⟩,
    ⟨none, .pick (.t 2) (.k (.bool true)) (.t 4)⟩] [] (.t 5) (.seq (.ops [] [⟨none, .bld [.int .i64 0, .nils (.int .i64 0), .nils (.int .i64 0), .nils (.int .i64 0), .nils (ints []), .nils (.int .i64 0), .nils (ints []), .int .i64 0, .nils (.int .i64 0), .nils (.int .i64 0), .nils (.int .i64 0), .nils (ints []), .nils (.int .i64 0), .nils (ints []), .nils (ints [])] []⟩,
    ⟨none, .stn 15 (.v 2) (.t 0)⟩,
    ⟨none, .asg 3 (.i 3)⟩] [])
  .ret)
  .skip)
  (.seq (.ops [] [⟨none, .mv (.v 1)⟩,
    ⟨none, .call 80 [(.v 4), (.t 0)]⟩,
    ⟨none, .call 79 [(.v 6), (.v 8), (.t 1)]⟩,
    ⟨none, .stn 15 (.v 2) (.t 2)⟩,
    ⟨none, .asg 3 (.i 0)⟩] [])
  .ret))))))
def tr_impl_ArrowMap : List Nat := [0, 1, 4, 5, 2, 6, 7, 8, 9, 10]
def rs_impl_ArrowMap : List RS := [.c 2 15 true, .t 3]
theorem ok_impl_ArrowMap : fnOk Go.Proofs.Try.prog Go.Proofs.Try.f31 tr_impl_ArrowMap c_impl_ArrowMap 2 rs_impl_ArrowMap = true := by decide +kernel

theorem ret_impl_ArrowMap (c : Cat) (h : Int) (hcc : Cat.cost c ≤ 1048576) : Ret Go.Proofs.Try.prog 31 [.v c.d, .v (.int .i64 h)] (.tup [(mapF c h).1.d, .int .i64 (mapF c h).2]) := by
  refine ret_fn Go.Proofs.Try.func31 ok_impl_ArrowMap rfl (show 2 < 500 by decide) rfl ?_; unfold c_impl_ArrowMap tr_impl_ArrowMap rs_impl_ArrowMap; simp only [go_sem, Nat.reduceLT, Nat.reduceAdd, Nat.reduceSub, ↓reduceIte]
  refine call_of (ret_impl_arrowCode c h) rfl (.inl rfl) ?_
  simp only [go_sem, Nat.reduceLT, Nat.reduceAdd, Nat.reduceSub, Nat.reduceEqDiff, ↓reduceIte]
  refine ⟨fun h0 => ?_, fun h0 => ?_⟩
  · unfold mapF; rw [if_pos (by simpa using h0)]; rfl
  have h0 : codeA c h = 0 := by simpa using h0
  obtain ⟨h1, h2, h3⟩ := codeA_one h0
  obtain ⟨n, rfl⟩ : ∃ n : Nat, h = n := ⟨h.toNat, by omega⟩
  have hc := Cat.isB_shape h1
  have hn : n < c.fr.length := by omega
  have hto := hc.to
  have hF := hc.fri hn
  have hT := hc.toi hn
  have hidn := hc.idn
  refine ⟨⟨h2, by omega⟩, ?_⟩
  simp only [Int.toNat_natCast]
  refine call_of (ret_impl_Category_representable c (c.to.getD n 0) hc hcc (by omega)) rfl (.inl (by split <;> simp only [D.novw, novwL, nv_Sf, Bool.and_self])) ?_
  unfold mapF
  rw [if_neg (by simp [h0])]
  have e1 : (if c.smallAt (c.to.getD n 0) = true then D.tup [(repSf c (c.to.getD n 0)).d, .bool true] else .tup [Sf.zero.d, .bool false]) = .tup [(if c.smallAt (c.to.getD n 0) = true then repSf c (c.to.getD n 0) else Sf.zero).d, .bool (c.smallAt (c.to.getD n 0))] := by
    cases c.smallAt (c.to.getD n 0) <;> rfl
  have e2 : (if c.smallAt (c.fr.getD n 0) = true then D.tup [(repSf c (c.fr.getD n 0)).d, .bool true] else .tup [Sf.zero.d, .bool false]) = .tup [(if c.smallAt (c.fr.getD n 0) = true then repSf c (c.fr.getD n 0) else Sf.zero).d, .bool (c.smallAt (c.fr.getD n 0))] := by
    cases c.smallAt (c.fr.getD n 0) <;> rfl
  rw [e1]
  simp only [go_sem, Nat.reduceLT, Nat.reduceAdd, Nat.reduceSub, Nat.reduceEqDiff, Nat.reduceBEq, Nat.reduceLeDiff, ↓reduceIte]
  refine ⟨by omega, ?_⟩
  refine call_of (ret_impl_Category_representable c (c.fr.getD n 0) hc hcc (by omega)) rfl (.inl (by split <;> simp only [D.novw, novwL, nv_Sf, Bool.and_self])) ?_
  rw [e2]
  cases hs1 : c.smallAt (c.to.getD n 0) with
  | false =>
    simp only [↓reduceIte, Bool.false_eq_true]
    simp only [go_sem, Nat.reduceLT, Nat.reduceAdd, Nat.reduceSub, Nat.reduceEqDiff, Nat.reduceBEq, Nat.reduceLeDiff, ↓reduceIte]
    simp only [hs1, Bool.false_and, ↓reduceIte]; rfl
  | true =>
    cases hs2 : c.smallAt (c.fr.getD n 0) with
    | false =>
      simp only [↓reduceIte, Bool.false_eq_true]
      simp only [go_sem, Nat.reduceLT, Nat.reduceAdd, Nat.reduceSub, Nat.reduceEqDiff, Nat.reduceBEq, Nat.reduceLeDiff, ↓reduceIte]
      simp only [hs1, hs2, Bool.and_false, ↓reduceIte]; rfl
    | true =>
      simp only [↓reduceIte]
      simp only [go_sem, Nat.reduceLT, Nat.reduceAdd, Nat.reduceSub, Nat.reduceEqDiff, Nat.reduceBEq, Nat.reduceLeDiff, ↓reduceIte]
      refine call_of (ret_impl_Category_arrowParts c n hc hn) rfl (.inl (nv_intss _)) ?_
      simp only [go_sem, Nat.reduceLT, Nat.reduceAdd, Nat.reduceSub, ↓reduceIte]
      refine call_of (ret_impl_setMap (repSf c (c.to.getD n 0)) (repSf c (c.fr.getD n 0)) (c.arParts n c.ob.toNat) ⟨hcc, repSf_cost hc _⟩ ⟨hcc, repSf_cost hc _⟩ (arParts_cost hc n)) rfl (.inl (nv_Sm _)) ?_
      simp only [go_sem, Nat.reduceLT, Nat.reduceAdd, Nat.reduceSub, Nat.reduceEqDiff, ↓reduceIte]
      simp only [hs1, hs2, Bool.and_self, Bool.true_eq_false, ↓reduceIte, repSf]
end Go.D3

/- CONTRACTS: the reference's representables and the maps between them. -/
namespace Go.D3
open Go
set_option maxRecDepth 100000
set_option maxHeartbeats 4000000

-- spec.l20Code
def c_spec_l20Code : C :=
  (.seq (.ops [3] [⟨none, .boxv 5 (.v 0)⟩,
    ⟨none, .asg 2 (.i 0)⟩] [(3, 0)])
  (.seq (.block 0 (.opc [] [⟨none, .lda 5 (.v 3)⟩,
    ⟨none, .call 51 [(.t 0)]⟩,
    ⟨none, .not (.t 1)⟩,
    ⟨none, .mv (.t 2)⟩] [] (.t 3) (.seq (.ops [] [⟨none, .asg 2 (.i 1)⟩] [])
  .ret)
  (.opc [] [⟨none, .lda 5 (.v 3)⟩,
    ⟨none, .mv (.v 1)⟩,
    ⟨none, .call 98 [(.t 0), (.t 1)]⟩,
    ⟨none, .not (.t 2)⟩,
    ⟨none, .mv (.t 3)⟩] [] (.t 4) (.seq (.ops [] [⟨none, .asg 2 (.i 2)⟩] [])
  .ret)
  (.opc [] [⟨none, .lda 5 (.v 3)⟩,
    ⟨none, .mv (.v 1)⟩,
    ⟨none, .call 73 [(.t 0), (.t 1)]⟩,
    ⟨none, .not (.t 2)⟩,
    ⟨none, .mv (.t 3)⟩] [] (.t 4) (.seq (.ops [] [⟨none, .asg 2 (.i 3)⟩] [])
  .ret)
  .skip))))
  (.seq (.ops [] [⟨none, .asg 2 (.i 0)⟩] [])
  .ret)))
def tr_spec_l20Code : List Nat := [0, 1, 4, 2]
def rs_spec_l20Code : List RS := [.t 2]
theorem ok_spec_l20Code : fnOk Go.Proofs.Try.prog Go.Proofs.Try.f60 tr_spec_l20Code c_spec_l20Code 2 rs_spec_l20Code = true := by decide +kernel

theorem ret_spec_l20Code (c : Cat) (x : Int) : Ret Go.Proofs.Try.prog 60 [.v c.d, .v (.int .i64 x)] (.int .i64 (repF c x).2) := by
  refine ret_fn Go.Proofs.Try.func60 ok_spec_l20Code rfl (show 2 < 500 by decide) rfl ?_; unfold c_spec_l20Code tr_spec_l20Code rs_spec_l20Code; simp only [go_sem, Nat.reduceLT, Nat.reduceAdd, Nat.reduceSub, Nat.reduceLeDiff, ↓reduceIte]
  refine call_of (ret_spec_l02Is c) rfl (.inl rfl) ?_
  simp only [go_sem, Nat.reduceLT, Nat.reduceAdd, Nat.reduceSub, Nat.reduceLeDiff, ↓reduceIte]
  unfold repF codeO
  refine ⟨fun h => ?_, fun h => ?_⟩
  · have hb : c.isB = false := by simpa using h
    rw [hb]; rfl
  have hb : c.isB = true := by simpa using h
  have hc := Cat.isB_shape hb
  refine call_of (ret_spec_l02Object c x) rfl (.inl rfl) ?_
  simp only [go_sem, Nat.reduceLT, Nat.reduceAdd, Nat.reduceSub, Nat.reduceLeDiff, ↓reduceIte]
  refine ⟨fun h => ?_, fun h => ?_⟩
  · have h2 : mapB c.ob [x] = false := by simpa using h
    rw [hb, h2]; rfl
  have h2 : mapB c.ob [x] = true := by simpa using h
  refine call_of (ret_spec_l20Small c x hc) rfl (.inl rfl) ?_
  simp only [go_sem, Nat.reduceLT, Nat.reduceAdd, Nat.reduceSub, ↓reduceIte]
  refine ⟨fun h => ?_, fun h => ?_⟩
  · have h3 : c.smallAt x = false := by simpa using h
    rw [hb, h2, h3]; rfl
  · have h3 : c.smallAt x = true := by simpa using h
    rw [hb, h2, h3]; rfl

-- spec.l20Rep
def c_spec_l20Rep : C :=
  (.seq (.ops [3, 2] [⟨none, .boxv 5 (.v 0)⟩,
    ⟨none, .alc [.int .i64 0, .nils (.int .i64 0), .nils (.int .i64 0), .nils (.int .i64 0), .nils (ints []), .nils (.int .i64 0), .nils (ints [])]⟩] [(3, 0), (2, 1)])
  (.seq (.ops [] [⟨none, .lda 5 (.v 3)⟩,
    ⟨none, .mv (.v 1)⟩,
    ⟨none, .bldS (.int .i64 0) 1 [(0, (.t 1))]⟩,
    ⟨none, .call 99 [(.t 0), (.t 2)]⟩,
    ⟨none, .stn 7 (.v 2) (.t 3)⟩] [])
  .ret))
def tr_spec_l20Rep : List Nat := [0, 1, 4, 2]
def rs_spec_l20Rep : List RS := [.c 2 7 true]
theorem ok_spec_l20Rep : fnOk Go.Proofs.Try.prog Go.Proofs.Try.f61 tr_spec_l20Rep c_spec_l20Rep 2 rs_spec_l20Rep = true := by decide +kernel

theorem ret_spec_l20Rep (c : Cat) (x : Int) (hc : c.Shape) (hcc : Cat.cost c ≤ 1048576) : Ret Go.Proofs.Try.prog 61 [.v c.d, .v (.int .i64 x)] (repSf c x).d := by
  refine ret_fn Go.Proofs.Try.func61 ok_spec_l20Rep rfl (show 2 < 500 by decide) rfl ?_; unfold c_spec_l20Rep tr_spec_l20Rep rs_spec_l20Rep; simp only [go_sem, Nat.reduceLT, Nat.reduceAdd, Nat.reduceSub, Nat.reduceLeDiff, ↓reduceIte]
  refine call_of (ret_spec_l19Free c x hc hcc) rfl (.inl (nv_Sf _)) ?_
  simp only [go_sem, Nat.reduceLT, Nat.reduceAdd, Nat.reduceSub, Nat.reduceEqDiff, ↓reduceIte]
  all_goals rfl

theorem repF_code {c : Cat} {x : Int} : (repF c x).2 = 0 → c.isB = true ∧ repF c x = (repSf c x, 0) := by
  unfold repF
  split
  · rename_i h; intro h2; exact absurd h2 h
  · rename_i h
    split
    · intro h2; cases h2
    · intro _
      have h : codeO c x = 0 := by simpa using h
      exact ⟨(codeO_one h).1, rfl⟩
theorem repF_bad {c : Cat} {x : Int} (h : (repF c x).2 ≠ 0) : (repF c x).1 = Sf.zero := by
  revert h
  unfold repF
  split
  · intro _; rfl
  · split
    · intro _; rfl
    · intro h; exact absurd rfl h

-- spec.Representable
def c_spec_Representable : C :=
  (.seq (.ops [4, 2] [⟨none, .boxv 5 (.v 0)⟩,
    ⟨none, .alc [.int .i64 0, .nils (.int .i64 0), .nils (.int .i64 0), .nils (.int .i64 0), .nils (ints []), .nils (.int .i64 0), .nils (ints [])]⟩,
    ⟨none, .asg 3 (.i 0)⟩] [(4, 0), (2, 1)])
  (.seq (.ops [] [⟨none, .lda 5 (.v 4)⟩,
    ⟨none, .mv (.v 1)⟩,
    ⟨none, .call 60 [(.t 0), (.t 1)]⟩,
    ⟨none, .asg 5 (.t 2)⟩] [])
  (.seq (.opc [] [⟨none, .mv (.v 5)⟩,
    ⟨none, .bin .neq (.t 0) (.i 0)⟩] [] (.t 1) (.seq (.ops [] [⟨none, .bld [.int .i64 0, .nils (.int .i64 0), .nils (.int .i64 0), .nils (.int .i64 0), .nils (ints []), .nils (.int .i64 0), .nils (ints [])] []⟩,
    ⟨none, .mv (.v 5)⟩,
    ⟨none, .stn 7 (.v 2) (.t 0)⟩,
    ⟨none, .asg 3 (.t 1)⟩] [])
  .ret)
  .skip)
  (.seq (.ops [] [⟨none, .lda 5 (.v 4)⟩,
    ⟨none, .mv (.v 1)⟩,
    ⟨none, .call 61 [(.t 0), (.t 1)]⟩,
    ⟨none, .stn 7 (.v 2) (.t 2)⟩,
    ⟨none, .asg 3 (.i 0)⟩] [])
  .ret))))
def tr_spec_Representable : List Nat := [0, 1, 4, 5, 2, 6]
def rs_spec_Representable : List RS := [.c 2 7 true, .t 3]
theorem ok_spec_Representable : fnOk Go.Proofs.Try.prog Go.Proofs.Try.f21 tr_spec_Representable c_spec_Representable 2 rs_spec_Representable = true := by decide +kernel

theorem ret_spec_Representable (c : Cat) (x : Int) (hcc : Cat.cost c ≤ 1048576) : Ret Go.Proofs.Try.prog 21 [.v c.d, .v (.int .i64 x)] (.tup [(repF c x).1.d, .int .i64 (repF c x).2]) := by
  refine ret_fn Go.Proofs.Try.func21 ok_spec_Representable rfl (show 2 < 500 by decide) rfl ?_; unfold c_spec_Representable tr_spec_Representable rs_spec_Representable; simp only [go_sem, Nat.reduceLT, Nat.reduceAdd, Nat.reduceSub, Nat.reduceLeDiff, ↓reduceIte]
  refine call_of (ret_spec_l20Code c x) rfl (.inl rfl) ?_
  simp only [go_sem, Nat.reduceLT, Nat.reduceAdd, Nat.reduceSub, Nat.reduceEqDiff, Nat.reduceLeDiff, ↓reduceIte]
  refine ⟨fun h => ?_, fun h => ?_⟩
  · have h : (repF c x).2 ≠ 0 := by simpa using h
    rw [repF_bad h]; rfl
  · have h : (repF c x).2 = 0 := by simpa using h
    obtain ⟨h1, h2⟩ := repF_code h
    refine call_of (ret_spec_l20Rep c x (Cat.isB_shape h1) hcc) rfl (.inl (nv_Sf _)) ?_
    rw [h2]
    simp only [go_sem, Nat.reduceLT, Nat.reduceAdd, Nat.reduceSub, Nat.reduceEqDiff, ↓reduceIte]
    all_goals rfl

end Go.D3

/- CONTRACTS: the reference's maps between representables. -/
namespace Go.D3
open Go
set_option maxRecDepth 100000
set_option maxHeartbeats 4000000

-- spec.ArrowMap
def c_spec_ArrowMap : C :=
  (.seq (.ops [4, 2] [⟨none, .boxv 5 (.v 0)⟩,
    ⟨none, .alc [.int .i64 0, .nils (.int .i64 0), .nils (.int .i64 0), .nils (.int .i64 0), .nils (ints []), .nils (.int .i64 0), .nils (ints []), .int .i64 0, .nils (.int .i64 0), .nils (.int .i64 0), .nils (.int .i64 0), .nils (ints []), .nils (.int .i64 0), .nils (ints []), .nils (ints [])]⟩,
    ⟨none, .asg 3 (.i 0)⟩] [(4, 0), (2, 1)])
  (.seq (.opc [] [⟨none, .lda 5 (.v 4)⟩,
    ⟨none, .call 51 [(.t 0)]⟩,
    ⟨none, .not (.t 1)⟩] [] (.t 2) (.seq (.ops [] [⟨none, .bld [.int .i64 0, .nils (.int .i64 0), .nils (.int .i64 0), .nils (.int .i64 0), .nils (ints []), .nils (.int .i64 0), .nils (ints []), .int .i64 0, .nils (.int .i64 0), .nils (.int .i64 0), .nils (.int .i64 0), .nils (ints []), .nils (.int .i64 0), .nils (ints []), .nils (ints [])] []⟩,
    ⟨none, .stn 15 (.v 2) (.t 0)⟩,
    ⟨none, .asg 3 (.i 1)⟩] [])
  .ret)
  .skip)
  (.seq (.opc [] [⟨none, .lda 5 (.v 4)⟩,
    ⟨none, .mv (.v 1)⟩,
    ⟨none, .call 72 [(.t 0), (.t 1)]⟩,
    ⟨none, .not (.t 2)⟩] [] (.t 3) (.seq (.ops [] [⟨none, .bld [.int .i64 0, .nils (.int .i64 0), .nils (.int .i64 0), .nils (.int .i64 0), .nils (ints []), .nils (.int .i64 0), .nils (ints []), .int .i64 0, .nils (.int .i64 0), .nils (.int .i64 0), .nils (.int .i64 0), .nils (ints []), .nils (.int .i64 0), .nils (ints []), .nils (ints [])] []⟩,
    ⟨none, .stn 15 (.v 2) (.t 0)⟩,
    ⟨none, .asg 3 (.i 2)⟩] [])
  .ret)
  .skip)
  (.seq (.ops [5] [⟨none, .fA 1 (.v 4)⟩,
    ⟨none, .ld (.t 0)⟩,
    ⟨none, .mv (.v 1)⟩,
    ⟨none, .idxA 1 (.t 1) (.t 2)⟩,
    ⟨none, .ld (.t 3)⟩,
    ⟨none, .fA 2 (.v 4)⟩,
    ⟨none, .ld (.t 5)⟩,
    ⟨none, .mv (.v 1)⟩,
    ⟨none, .idxA 1 (.t 6) (.t 7)⟩,
    ⟨none, .ld (.t 8)⟩,
    ⟨none, .mv (.t 4)⟩,
    ⟨none, .asg 6 (.t 9)⟩] [(5, 10)])
  (.seq (.opc [] [⟨none, .lda 5 (.v 4)⟩,
    ⟨none, .mv (.v 5)⟩,
    ⟨none, .call 73 [(.t 0), (.t 1)]⟩,
    ⟨none, .not (.t 2)⟩,
    ⟨none, .mv (.t 3)⟩,
    ⟨some (4, false), .lda 5 (.v 4)⟩,
    ⟨some (4, false), .mv (.v 6)⟩,
    ⟨some (4, false), .call 73 [(.t 5), (.t 6)]⟩,
    ⟨some (4, false), .not (.t 7)⟩,
    ⟨none, .pick (.t 4) (.k (.bool true)) (.t 8)⟩] [] (.t 9) (.seq (.ops [] [⟨none, .bld [.int .i64 0, .nils (.int .i64 0), .nils (.int .i64 0), .nils (.int .i64 0), .nils (ints []), .nils (.int .i64 0), .nils (ints []), .int .i64 0, .nils (.int .i64 0), .nils (.int .i64 0), .nils (.int .i64 0), .nils (ints []), .nils (.int .i64 0), .nils (ints []), .nils (ints [])] []⟩,
    ⟨none, .stn 15 (.v 2) (.t 0)⟩,
    ⟨none, .asg 3 (.i 3)⟩] [])
  .ret)
  .skip)
  (.seq (.ops [] [⟨none, .bldS (ints []) 0 []⟩,
    ⟨none, .asg 7 (.t 0)⟩] [])
  (.seq (.seq (.ops [] [⟨none, .asg 8 (.i 0)⟩] [])
  (.block 0 (.loop (.seq (.opc [] [⟨none, .mv (.v 8)⟩,
    ⟨none, .fA 0 (.v 4)⟩,
    ⟨none, .ld (.t 1)⟩,
    ⟨none, .bin .lss (.t 0) (.t 2)⟩] [] (.t 3) .skip
  (.exit 0))
  (.seq (.block 1 (.seq (.ops [9, 10] [⟨none, .lda 5 (.v 4)⟩,
    ⟨none, .mv (.v 6)⟩,
    ⟨none, .mv (.v 8)⟩,
    ⟨none, .call 74 [(.t 0), (.t 1), (.t 2)]⟩,
    ⟨none, .lda 5 (.v 4)⟩,
    ⟨none, .mv (.v 5)⟩,
    ⟨none, .mv (.v 8)⟩,
    ⟨none, .call 74 [(.t 4), (.t 5), (.t 6)]⟩,
    ⟨none, .bldS (.int .i64 0) 0 []⟩,
    ⟨none, .mv (.t 3)⟩,
    ⟨none, .mv (.t 7)⟩,
    ⟨none, .asg 11 (.t 8)⟩] [(9, 9), (10, 10)])
  (.seq (.seq (.ops [] [⟨none, .asg 12 (.i 0)⟩] [])
  (.block 2 (.loop (.seq (.opc [] [⟨none, .mv (.v 12)⟩,
    ⟨none, .mv (.v 9)⟩,
    ⟨none, .len (.t 1)⟩,
    ⟨none, .bin .lss (.t 0) (.t 2)⟩] [] (.t 3) .skip
  (.exit 2))
  (.seq (.block 3 (.ops [] [⟨none, .mv (.v 11)⟩,
    ⟨none, .mv (.v 10)⟩,
    ⟨none, .lda 5 (.v 4)⟩,
    ⟨none, .mv (.v 1)⟩,
    ⟨none, .mv (.v 9)⟩,
    ⟨none, .mv (.v 12)⟩,
    ⟨none, .idxA 1 (.t 4) (.t 5)⟩,
    ⟨none, .ld (.t 6)⟩,
    ⟨none, .call 76 [(.t 2), (.t 3), (.t 7)]⟩,
    ⟨none, .call 75 [(.t 1), (.t 8)]⟩,
    ⟨none, .bldS (.int .i64 0) 1 [(0, (.t 9))]⟩,
    ⟨none, .app 1 8 (.t 0) (.t 10)⟩,
    ⟨none, .asg 11 (.t 11)⟩] []))
  (.ops [] [⟨none, .mv (.v 12)⟩,
    ⟨none, .bin .add (.t 0) (.i 1)⟩,
    ⟨none, .asg 12 (.t 1)⟩] []))))))
  (.ops [] [⟨none, .mv (.v 7)⟩,
    ⟨none, .mv (.v 11)⟩,
    ⟨none, .bldS (ints []) 1 [(0, (.t 1))]⟩,
    ⟨none, .app 1 24 (.t 0) (.t 2)⟩,
    ⟨none, .asg 7 (.t 3)⟩] []))))
  (.ops [] [⟨none, .mv (.v 8)⟩,
    ⟨none, .bin .add (.t 0) (.i 1)⟩,
    ⟨none, .asg 8 (.t 1)⟩] []))))))
  (.seq (.ops [] [⟨none, .lda 5 (.v 4)⟩,
    ⟨none, .mv (.v 6)⟩,
    ⟨none, .call 61 [(.t 0), (.t 1)]⟩,
    ⟨none, .lda 5 (.v 4)⟩,
    ⟨none, .mv (.v 5)⟩,
    ⟨none, .call 61 [(.t 3), (.t 4)]⟩,
    ⟨none, .mv (.v 7)⟩,
    ⟨none, .call 77 [(.t 2), (.t 5), (.t 6)]⟩,
    ⟨none, .stn 15 (.v 2) (.t 7)⟩,
    ⟨none, .asg 3 (.i 0)⟩] [])
  .ret))))))))
def tr_spec_ArrowMap : List Nat := [0, 1, 4, 5, 2, 6, 7, 8, 9, 10, 11, 12, 13]
def rs_spec_ArrowMap : List RS := [.c 2 15 true, .t 3]
theorem ok_spec_ArrowMap : fnOk Go.Proofs.Try.prog Go.Proofs.Try.f30 tr_spec_ArrowMap c_spec_ArrowMap 2 rs_spec_ArrowMap = true := by decide +kernel

theorem ret_spec_ArrowMap (c : Cat) (h : Int) (hcc : Cat.cost c ≤ 1048576) : Ret Go.Proofs.Try.prog 30 [.v c.d, .v (.int .i64 h)] (.tup [(mapF c h).1.d, .int .i64 (mapF c h).2]) := by
  refine ret_fn Go.Proofs.Try.func30 ok_spec_ArrowMap rfl (show 2 < 500 by decide) rfl ?_; unfold c_spec_ArrowMap tr_spec_ArrowMap rs_spec_ArrowMap; simp only [go_sem, Nat.reduceLT, Nat.reduceAdd, Nat.reduceSub, Nat.reduceLeDiff, ↓reduceIte]
  refine call_of (ret_spec_l02Is c) rfl (.inl rfl) ?_
  simp only [go_sem, Nat.reduceLT, Nat.reduceAdd, Nat.reduceSub, Nat.reduceEqDiff, Nat.reduceLeDiff, ↓reduceIte]
  refine ⟨fun h1 => ?_, fun h1 => ?_⟩
  · have hb : c.isB = false := by simpa using h1
    unfold mapF codeA; rw [hb]; rfl
  have hb : c.isB = true := by simpa using h1
  have hc := Cat.isB_shape hb
  refine call_of (ret_spec_l02Arrow c h) rfl (.inl rfl) ?_
  simp only [go_sem, Nat.reduceLT, Nat.reduceAdd, Nat.reduceSub, Nat.reduceEqDiff, Nat.reduceLeDiff, ↓reduceIte]
  refine ⟨fun h1 => ?_, fun h1 => ?_⟩
  · have h2 : mapB c.fr.length [h] = false := by simpa using h1
    unfold mapF codeA; rw [hb, h2]; rfl
  have h2 : mapB c.fr.length [h] = true := by simpa using h1
  have h0 : codeA c h = 0 := by unfold codeA; rw [hb, h2]; rfl
  obtain ⟨_, h3, h4⟩ := codeA_one h0
  obtain ⟨n, rfl⟩ : ∃ n : Nat, h = n := ⟨h.toNat, by omega⟩
  have hn : n < c.fr.length := by omega
  have hto := hc.to
  have hF := hc.fri hn
  have hT := hc.toi hn
  have hidn := hc.idn
  have h8 := hc.ob8
  have hob0 := hc.ob0
  have hfl := hc.fr
  simp only [Int.toNat_natCast]
  unfold mapF
  rw [if_neg (by simp [h0])]
  refine ⟨⟨h3, by omega⟩, ⟨h3, by omega⟩, ?_⟩
  refine call_of (ret_spec_l20Small c (c.fr.getD n 0) hc) rfl (.inl rfl) ?_
  simp only [go_sem, Nat.reduceLT, Nat.reduceAdd, Nat.reduceSub, Nat.reduceLeDiff, ↓reduceIte]
  refine callg_of (fun _ => ret_spec_l20Small c (c.to.getD n 0) hc) rfl (fun h => by simpa using h) (.inl rfl) ?_
  simp only [go_sem, Nat.reduceLT, Nat.reduceAdd, Nat.reduceSub, Nat.reduceEqDiff, ↓reduceIte]
  cases hs1 : c.smallAt (c.to.getD n 0) with
  | false =>
    simp only [Bool.false_and, ↓reduceIte]
    exact ⟨fun h => by simpa using h, fun _ => rfl, fun h => by simp at h⟩
  | true =>
    cases hs2 : c.smallAt (c.fr.getD n 0) with
    | false =>
      simp only [Bool.and_false, ↓reduceIte]
      exact ⟨fun h => by simp at h, fun _ => rfl, fun h => by simp at h⟩
    | true =>
      simp only [Bool.and_self, Bool.true_eq_false, ↓reduceIte]
      refine ⟨fun _ => trivial, fun h => by simp at h, fun _ => ?_⟩
      refine loop_set [9, 10, 11, 12] (fun z : Nat => [(8, .int .i64 z), (7, .o (intss (c.arParts n z)))]) (fun z => (z : Int) ≤ c.ob) (fun z => c.ob.toNat - z) 0 (by simp only [go_sem, Nat.reduceLT, ↓reduceIte]; rfl) (by simpa using hob0) rfl ?_
      intro z hz
      simp only [go_sem, Nat.reduceLT, Nat.reduceAdd, Nat.reduceSub, Nat.reduceLeDiff, ↓reduceIte]
      refine ⟨fun hzo => ?_, fun hzo => ?_⟩
      · refine call_of (ret_spec_l02Hom c _ _ (by omega) hto) rfl (.inl (nv_ints _)) ?_
        simp only [go_sem, Nat.reduceLT, Nat.reduceAdd, Nat.reduceSub, Nat.reduceLeDiff, ↓reduceIte]
        refine call_of (ret_spec_l02Hom c _ _ (by omega) hto) rfl (.inl (nv_ints _)) ?_
        simp only [go_sem, Nat.reduceLT, Nat.reduceAdd, Nat.reduceSub, Nat.reduceBEq, Nat.reduceLeDiff, ↓reduceIte]
        have hl1 : (c.hom (c.to.getD n 0) z).length ≤ c.fr.length := hom_len
        have hl2 : (c.hom (c.fr.getD n 0) z).length ≤ c.fr.length := hom_len
        have hpl := arPart_len (c := c) (h := n) (z := z)
        refine loop_set [] (fun i : Nat => [(12, .int .i64 i), (11, .o (ints ((c.arPart n z).take i)))]) (fun i => i ≤ (c.hom (c.to.getD n 0) z).length) (fun i => (c.hom (c.to.getD n 0) z).length - i) 0 (by simp only [go_sem]; rfl) (Nat.zero_le _) rfl ?_
        intro i hi
        simp only [go_sem, Nat.reduceLT, Nat.reduceAdd, Nat.reduceSub, Nat.reduceEqDiff, Nat.reduceBEq, Nat.reduceLeDiff, ↓reduceIte]
        refine ⟨fun h5 => ⟨h5, ?_⟩, fun h5 => ?_⟩
        · have hm := Cat.mem_hom.1 (List.getElem_mem h5)
          rw [← getD_lt (d := 0) h5] at hm
          have hrow := hc.row n hn
          have hco := hc.co
          refine call_of (ret_spec_l02Then c n ((c.hom (c.to.getD n 0) z).getD i 0) (by omega) (by omega) hm.1 (by simp only [Int.toNat_natCast]; omega)) rfl (.inl rfl) ?_
          simp only [go_sem, Nat.reduceLT, Nat.reduceAdd, Nat.reduceSub, ↓reduceIte]
          refine call_of (ret_spec_l01Index (c.hom (c.fr.getD n 0) z) _ (by omega)) rfl (.inl rfl) ?_
          simp only [go_sem, Nat.reduceLT, Nat.reduceAdd, Nat.reduceSub, Nat.reduceBEq, Nat.reduceLeDiff, ↓reduceIte]
          refine ⟨by rw [List.length_take]; omega, i + 1, by omega, by omega, ?_⟩
          have hv : (c.arPart n z).getD i 0 = idxI (c.hom (c.fr.getD n 0) z) (c.cellI n ((c.hom (c.to.getD n 0) z).getD i 0)) := by
            rw [getD_lt h5, getD_lt (by omega)]
            simp [Cat.arPart]
          rw [wrap_lt h5 (by simp only [maxLen]; omega), take_snoc (by omega) 0, hv]
        · refine ⟨by rw [arParts_len]; omega, z + 1, by omega, by omega, ?_⟩
          rw [wrap_lt (n := 9) (by omega) (by simp only [maxLen]; omega), List.take_of_length_le (by omega), arParts_succ]
      · obtain rfl : z = c.ob.toNat := by omega
        refine call_of (ret_spec_l20Rep c (c.to.getD n 0) hc hcc) rfl (.inl (nv_Sf _)) ?_
        simp only [go_sem, Nat.reduceLT, Nat.reduceAdd, Nat.reduceSub, Nat.reduceLeDiff, ↓reduceIte]
        refine call_of (ret_spec_l20Rep c (c.fr.getD n 0) hc hcc) rfl (.inl (nv_Sf _)) ?_
        simp only [go_sem, Nat.reduceLT, Nat.reduceAdd, Nat.reduceSub, ↓reduceIte]
        refine call_of (ret_spec_l19Make (repSf c (c.to.getD n 0)) (repSf c (c.fr.getD n 0)) (c.arParts n c.ob.toNat) ⟨hcc, repSf_cost hc _⟩ ⟨hcc, repSf_cost hc _⟩ (arParts_cost hc n)) rfl (.inl (nv_Sm _)) ?_
        simp only [go_sem, Nat.reduceLT, Nat.reduceAdd, Nat.reduceSub, Nat.reduceEqDiff, Nat.reduceBEq, Nat.reduceLeDiff, ↓reduceIte]
        simp only [hs1, hs2, Bool.and_self, Bool.true_eq_false, ↓reduceIte]
end Go.D3
