/- CONTRACTS: the law FnExactGlobalSections. -/
import Derived.Test.YtclmdejmogmifaaGJ
import Derived.Test.YtclmdejmogmifaaGK
import Derived.Test.YtclmdejmogmifaaGI
/- CONTRACTS: the reference's search for natural maps. -/
namespace Go.D3
open Go
set_option maxRecDepth 100000
set_option maxHeartbeats 4000000

/-- The cells of the reference's search. -/
def sC (f g : Sf) (fd : D) : List D := [.int .i64 f.shp.ob, ints f.shp.fr, ints f.shp.to, ints f.shp.idn, intss f.shp.co, ints f.sz, intss f.act, .int .i64 g.shp.ob, ints g.shp.fr, ints g.shp.to, ints g.shp.idn, intss g.shp.co, ints g.sz, intss g.act, .bool false, .int .i64 201, fd]
attribute [go_sem] sC.eq_1
section
variable {f g : Sf} {P P1 P' : List (List Int)} {x e d : Nat} {A : Nat → Prop}
/-- What is known in part fits what is known in the end. -/
theorem Stp.fit (h : Stp f g P x e d A P1) (h' : Stp f g P x e d (fun a => a < f.shp.fr.length) P') {y i : Nat} (hy : y < f.shp.idn.length) (hi : i < f.sz1 y) (h0 : 0 ≤ pc P1 y i) : pc P' y i = pc P1 y i := by
  rcases h.new y i hy hi with h1 | ⟨_, a, a1, a2, a3, a4, a5⟩
  · rw [h1]; exact h'.old y i hy hi (by omega)
  · have := h'.all a a1 a1 a2
    rw [a3, a4] at this
    rw [this, a5]
theorem Stp.uniq (h : Stp f g P x e d (fun a => a < f.shp.fr.length) P1) (h' : Stp f g P x e d (fun a => a < f.shp.fr.length) P') : P1 = P' := by
  refine h.ty.ext h'.ty fun y i hy hi => ?_
  by_cases h0 : 0 ≤ pc P1 y i
  · exact (h.fit h' hy hi h0).symm
  · by_cases h1 : 0 ≤ pc P' y i
    · exact h'.fit h hy hi h1
    · rcases h.ty.rng y i hy hi with h2 | h2 <;> rcases h'.ty.rng y i hy hi with h3 | h3 <;> omega
theorem Stp.noclash (ht : Two f g) (hi : Inp f g x e d) (h : Stp f g P x e d A P1) (h' : Stp f g P x e d (fun a => a < f.shp.fr.length) P') {a : Nat} (ha : a < f.shp.fr.length) (hs : f.fr a = x) (h0 : 0 ≤ pc P1 (f.to a) (f.im a e)) : pc P1 (f.to a) (f.im a e) = g.im a d := by
  rw [← h.fit h' (ht.okf.tol ha) (ht.okf.iml ha (by rw [hs]; exact hi.he)) h0]
  exact h'.all a ha ha hs
theorem sum_le {l : List Nat} {B : Nat} (h : ∀ x ∈ l, x ≤ B) : l.sum ≤ l.length * B := by
  induction l with
  | nil => simp
  | cons a r ih =>
    have h1 := h a (by simp)
    have h2 := ih fun x hx => h x (by simp [hx])
    simp only [List.sum_cons, List.length_cons, Nat.add_mul]; omega
theorem PT.cost (hf : f.Ok) (h : PT f g P) : costL List.length P ≤ 1000 := by
  have h8 := hf.cs.idl
  have hl := h.len
  unfold costL
  have : ((P.map List.length).sum) ≤ (P.map List.length).length * 16 := sum_le fun n hn => by
    obtain ⟨r, hr, rfl⟩ := List.mem_map.1 hn
    obtain ⟨i, hi, rfl⟩ := List.getElem_of_mem hr
    have h1 := h.row i (by omega)
    rw [getD_lt hi] at h1
    have h2 := hf.szi (x := (i : Int)) (by omega) (by omega)
    rw [h1]; unfold Sf.sz1 Sf.size; omega
  rw [List.length_map] at this
  omega
end

-- spec.l19Set
def c_spec_l19Set : C :=
  (.seq (.ops [] [⟨none, .asg 5 (.k (.nils (ints [])))⟩,
    ⟨none, .asg 6 (.k (.bool false))⟩] [])
  (.seq (.ops [] [⟨none, .mv (.v 1)⟩,
    ⟨none, .call 118 [(.t 0)]⟩,
    ⟨none, .asg 7 (.t 1)⟩] [])
  (.seq (.seq (.ops [] [⟨none, .asg 8 (.i 0)⟩] [])
  (.block 0 (.loop (.seq (.opc [] [⟨none, .mv (.v 8)⟩,
    ⟨none, .mv (.v 0)⟩,
    ⟨none, .nck (.t 1)⟩,
    ⟨none, .fA 0 (.t 2)⟩,
    ⟨none, .fA 6 (.t 3)⟩,
    ⟨none, .ld (.t 4)⟩,
    ⟨none, .len (.t 5)⟩,
    ⟨none, .bin .lss (.t 0) (.t 6)⟩] [] (.t 7) .skip
  (.exit 0))
  (.seq (.block 1 (.seq (.opc [] [⟨none, .mv (.v 0)⟩,
    ⟨none, .nck (.t 0)⟩,
    ⟨none, .fA 0 (.t 1)⟩,
    ⟨none, .fA 0 (.t 2)⟩,
    ⟨none, .fA 1 (.t 3)⟩,
    ⟨none, .ld (.t 4)⟩,
    ⟨none, .mv (.v 8)⟩,
    ⟨none, .idxA 1 (.t 5) (.t 6)⟩,
    ⟨none, .ld (.t 7)⟩,
    ⟨none, .mv (.v 2)⟩,
    ⟨none, .bin .neq (.t 8) (.t 9)⟩] [] (.t 10) (.exit 1)
  .skip)
  (.seq (.ops [9, 10] [⟨none, .mv (.v 0)⟩,
    ⟨none, .nck (.t 0)⟩,
    ⟨none, .fA 0 (.t 1)⟩,
    ⟨none, .fA 0 (.t 2)⟩,
    ⟨none, .fA 2 (.t 3)⟩,
    ⟨none, .ld (.t 4)⟩,
    ⟨none, .mv (.v 8)⟩,
    ⟨none, .idxA 1 (.t 5) (.t 6)⟩,
    ⟨none, .ld (.t 7)⟩,
    ⟨none, .mv (.v 0)⟩,
    ⟨none, .nck (.t 9)⟩,
    ⟨none, .fA 0 (.t 10)⟩,
    ⟨none, .fA 6 (.t 11)⟩,
    ⟨none, .ld (.t 12)⟩,
    ⟨none, .mv (.v 8)⟩,
    ⟨none, .idxA 1 (.t 13) (.t 14)⟩,
    ⟨none, .ld (.t 15)⟩,
    ⟨none, .mv (.v 3)⟩,
    ⟨none, .idxA 1 (.t 16) (.t 17)⟩,
    ⟨none, .ld (.t 18)⟩,
    ⟨none, .mv (.v 0)⟩,
    ⟨none, .nck (.t 20)⟩,
    ⟨none, .fA 7 (.t 21)⟩,
    ⟨none, .fA 6 (.t 22)⟩,
    ⟨none, .ld (.t 23)⟩,
    ⟨none, .mv (.v 8)⟩,
    ⟨none, .idxA 1 (.t 24) (.t 25)⟩,
    ⟨none, .ld (.t 26)⟩,
    ⟨none, .mv (.v 4)⟩,
    ⟨none, .idxA 1 (.t 27) (.t 28)⟩,
    ⟨none, .ld (.t 29)⟩,
    ⟨none, .mv (.t 8)⟩,
    ⟨none, .mv (.t 19)⟩,
    ⟨none, .asg 11 (.t 30)⟩] [(9, 31), (10, 32)])
  (.seq (.opc [] [⟨none, .mv (.v 7)⟩,
    ⟨none, .mv (.v 9)⟩,
    ⟨none, .idxA 1 (.t 0) (.t 1)⟩,
    ⟨none, .ld (.t 2)⟩,
    ⟨none, .mv (.v 10)⟩,
    ⟨none, .idxA 1 (.t 3) (.t 4)⟩,
    ⟨none, .ld (.t 5)⟩,
    ⟨none, .bin .geq (.t 6) (.i 0)⟩,
    ⟨none, .mv (.t 7)⟩,
    ⟨some (8, true), .mv (.v 7)⟩,
    ⟨some (8, true), .mv (.v 9)⟩,
    ⟨some (8, true), .idxA 1 (.t 9) (.t 10)⟩,
    ⟨some (8, true), .ld (.t 11)⟩,
    ⟨some (8, true), .mv (.v 10)⟩,
    ⟨some (8, true), .idxA 1 (.t 12) (.t 13)⟩,
    ⟨some (8, true), .ld (.t 14)⟩,
    ⟨some (8, true), .mv (.v 11)⟩,
    ⟨some (8, true), .bin .neq (.t 15) (.t 16)⟩,
    ⟨none, .pick (.t 8) (.t 17) (.k (.bool false))⟩] [] (.t 18) (.seq (.ops [] [⟨none, .asg 5 (.k (.nils (ints [])))⟩,
    ⟨none, .asg 6 (.k (.bool false))⟩] [])
  .ret)
  .skip)
  (.seq (.opc [] [⟨none, .mv (.v 0)⟩,
    ⟨none, .nck (.t 0)⟩,
    ⟨none, .fA 14 (.t 1)⟩,
    ⟨none, .ld (.t 2)⟩,
    ⟨none, .mv (.t 3)⟩,
    ⟨some (4, true), .mv (.v 7)⟩,
    ⟨some (4, true), .mv (.v 9)⟩,
    ⟨some (4, true), .idxA 1 (.t 5) (.t 6)⟩,
    ⟨some (4, true), .ld (.t 7)⟩,
    ⟨some (4, true), .mv (.v 10)⟩,
    ⟨some (4, true), .idxA 1 (.t 8) (.t 9)⟩,
    ⟨some (4, true), .ld (.t 10)⟩,
    ⟨some (4, true), .bin .lss (.t 11) (.i 0)⟩,
    ⟨none, .pick (.t 4) (.t 12) (.k (.bool false))⟩,
    ⟨none, .mv (.t 13)⟩,
    ⟨some (14, true), .mv (.v 7)⟩,
    ⟨some (14, true), .mv (.v 9)⟩,
    ⟨some (14, true), .idxA 1 (.t 15) (.t 16)⟩,
    ⟨some (14, true), .ld (.t 17)⟩,
    ⟨some (14, true), .mv (.v 11)⟩,
    ⟨some (14, true), .call 181 [(.t 18), (.t 19)]⟩,
    ⟨none, .pick (.t 14) (.t 20) (.k (.bool false))⟩] [] (.t 21) (.seq (.ops [] [⟨none, .asg 5 (.k (.nils (ints [])))⟩,
    ⟨none, .asg 6 (.k (.bool false))⟩] [])
  .ret)
  .skip)
  (.ops [] [⟨none, .mv (.v 7)⟩,
    ⟨none, .mv (.v 9)⟩,
    ⟨none, .idxA 1 (.t 0) (.t 1)⟩,
    ⟨none, .ld (.t 2)⟩,
    ⟨none, .mv (.v 10)⟩,
    ⟨none, .mv (.v 11)⟩,
    ⟨none, .idxA 1 (.t 3) (.t 4)⟩,
    ⟨none, .st (.t 6) (.t 5)⟩] []))))))
  (.ops [] [⟨none, .mv (.v 8)⟩,
    ⟨none, .bin .add (.t 0) (.i 1)⟩,
    ⟨none, .asg 8 (.t 1)⟩] []))))))
  (.seq (.ops [] [⟨none, .mv (.v 7)⟩,
    ⟨none, .asg 5 (.t 0)⟩,
    ⟨none, .asg 6 (.k (.bool true))⟩] [])
  .ret))))
def tr_spec_l19Set : List Nat := [0, 1, 2, 3, 4, 10, 11, 12, 13, 14, 15, 16]
def rs_spec_l19Set : List RS := [.t 5, .t 6]
theorem ok_spec_l19Set : fnOk Go.Proofs.Try.prog Go.Proofs.Try.f158 tr_spec_l19Set c_spec_l19Set 5 rs_spec_l19Set = true := by decide +kernel

theorem ret_set (f g : Sf) (fd : D) (P : List (List Int)) (x e d : Nat) (ht : Two f g) (hi : Inp f g x e d) (hP : PT f g P) (r : Bool) (P' : List (List Int)) (hr : r = true → Stp f g P x e d (fun a => a < f.shp.fr.length) P') (hr2 : r = false → P' = [] ∧ ¬ ∃ P', Stp f g P x e d (fun a => a < f.shp.fr.length) P') :
    Ret Go.Proofs.Try.prog 158 [.v (.ptr (sC f g fd)), .v (intss P), .v (.int .i64 x), .v (.int .i64 e), .v (.int .i64 d)] (.tup [intss P', .bool r]) := by
  have hc := ht.okf.cs
  have hfl := hc.fr
  have hto := hc.to
  have hidn := hc.idn
  have hactl := ht.okf.actl
  have hgactl := ht.okg.actl
  rw [ht.eq] at hgactl
  refine ret_fn Go.Proofs.Try.func158 ok_spec_l19Set rfl (show 5 < 500 by decide) rfl ?_; unfold c_spec_l19Set tr_spec_l19Set rs_spec_l19Set; simp only [go_sem, Nat.reduceLT, Nat.reduceAdd, Nat.reduceSub, ↓reduceIte]
  refine call_of (ret_spec_l01Own2 P (Nat.le_trans (hP.cost ht.okf) (by decide))) rfl (.inl (nv_intss _)) ?_
  simp only [go_sem, Nat.reduceLT, Nat.reduceAdd, Nat.reduceSub, ↓reduceIte]
  refine loop_set [9, 10, 11] (fun s : Nat × List (List Int) => [(8, .int .i64 s.1), (7, .o (intss s.2))]) (fun s => s.1 ≤ f.act.length ∧ Stp f g P x e d (fun a => a < s.1) s.2) (fun s => f.act.length - s.1) (0, P) (by simp only [go_sem, Nat.reduceLT, ↓reduceIte]; rfl) ⟨Nat.zero_le _, (Stp.zero hP).sub fun a h => absurd h (Nat.not_lt_zero _)⟩ rfl ?_
  rintro ⟨a, P1⟩ ⟨ha, hst⟩
  simp only at ha hst
  simp only [go_sem, Nat.reduceLT, Nat.reduceAdd, Nat.reduceSub, Nat.reduceBEq, Nat.reduceLeDiff, ↓reduceIte]
  have hpcd : ∀ y i : Nat, (P1.getD y []).getD i 0 = pc P1 y i := fun _ _ => rfl
  refine ⟨fun h => ?_, fun h => ?_⟩
  · have hal : a < f.shp.fr.length := by omega
    have e1 := hc.fri hal
    have e2 := hc.toi hal
    refine ⟨hal, fun h2 => ?_, fun h2 => ?_⟩
    · have h3 : f.shp.fr.getD a 0 ≠ (x : Int) := by simpa using h2
      have h2' : f.fr a ≠ x := by unfold Sf.fr; omega
      exact ⟨(a + 1, P1), ⟨by simp only; omega, (hst.skip h2').sub fun b hb => by omega⟩, by simp only; omega, by rw [wrap_lt hal (by simp only [maxLen]; omega)] <;> rfl⟩
    · have h3 : f.shp.fr.getD a 0 = (x : Int) := by simpa using h2
      have hfx : f.fr a = x := by unfold Sf.fr; omega
      have hgx : g.fr a = x := by unfold Sf.fr at hfx ⊢; rw [ht.eq]; exact hfx
      have hy : f.shp.to.getD a 0 = (f.to a : Int) := by unfold Sf.to; omega
      have hiv : (f.act.getD a []).getD e 0 = (f.im a e : Int) := ht.okf.acn hal (by rw [hfx]; exact hi.he)
      have hkv : (g.act.getD a []).getD d 0 = (g.im a d : Int) := ht.okg.acn (by rw [ht.eq]; exact hal) (by rw [hgx]; exact hi.hd)
      have hyl := ht.okf.tol hal
      have hil := ht.okf.iml hal (i := e) (by rw [hfx]; exact hi.he)
      have hgl := ht.gim hal (d := d) (by rw [hfx]; exact hi.hd)
      have hr1 := hst.ty.row _ hyl
      have hl1 := hst.ty.len
      have hacl := (ht.okf.acl hal).1
      have hgacl := (ht.okg.acl (a := a) (by rw [ht.eq]; exact hal)).1
      rw [h3] at hacl
      rw [ht.eq, h3] at hgacl
      have he1 := hi.he
      have hd1 := hi.hd
      unfold Sf.sz1 at he1 hd1
      rw [hy, hiv, hkv]
      simp only [Int.toNat_natCast, hpcd]
      refine ⟨by omega, h, by omega, by omega, by omega, by omega, by omega, fun h4 => by omega, fun h4 => by omega, fun h4 => ?_, fun h4 => ?_⟩
      · simp only [Bool.and_eq_true, decide_eq_true_eq, bne_iff_ne] at h4
        cases hrr : r with
        | true => exact absurd (hst.noclash ht hi (hr hrr) hal hfx h4.1) h4.2
        | false => rw [(hr2 hrr).1]
      · refine callg_of (res := .bool false) (fun h => by cases h) rfl (fun h => by cases h) (.inl rfl) ?_
        simp only [go_sem, Nat.reduceLT, Nat.reduceAdd, Nat.reduceSub, Nat.reduceBEq, Nat.reduceLeDiff, ↓reduceIte]
        have hle : a + 1 ≤ f.act.length := h
        have hwr := wrap_lt hal (by simp only [maxLen]; omega)
        by_cases h5 : pc P1 (f.to a) (f.im a e) < 0
        · refine ⟨by omega, by omega, by omega, (a + 1, _), ⟨hle, (hst.set ht hi hal hfx h5).sub fun b hb => by omega⟩, by simp only; omega, by rw [hwr] <;> rfl⟩
        · have h6 : pc P1 (f.to a) (f.im a e) = g.im a d := by
            simp only [Bool.and_eq_false_iff, decide_eq_false_iff_not, bne_eq_false_iff_eq] at h4
            omega
          have h7 : P1.set (f.to a) ((P1.getD (f.to a) []).set (f.im a e) (g.im a d)) = P1 := by
            refine (hst.ty.set hyl hil (.inr ⟨by omega, by omega⟩)).ext hst.ty fun y i _ _ => ?_
            rw [pc_set (by omega) (by omega)]
            by_cases hh : y = f.to a ∧ i = f.im a e
            · rw [if_pos hh, hh.1, hh.2, h6]
            · rw [if_neg hh]
          refine ⟨by omega, by omega, by omega, (a + 1, P1), ⟨hle, (hst.keep h6).sub fun b hb => by omega⟩, by simp only; omega, by rw [hwr, h7] <;> rfl⟩
  · have : a = f.shp.fr.length := by omega
    subst this
    cases hrr : r with
    | true => rw [hst.uniq (hr hrr)]
    | false => exact absurd ⟨P1, hst⟩ (hr2 hrr).2

/-- The images that an element may have. -/
def chF (p : Nat → Bool) : Nat → List Int
  | 0 => []
  | n + 1 => chF p n ++ if p n = true then [(n : Int)] else []
theorem chF_len {p : Nat → Bool} : ∀ n, (chF p n).length ≤ n
  | 0 => Nat.le_refl _
  | n + 1 => by
    have := chF_len (p := p) n
    unfold chF; split <;> simp <;> omega
theorem chF_mono {p : Nat → Bool} {a b : Nat} (h : a ≤ b) : (chF p a).length ≤ (chF p b).length := by
  induction h with
  | refl => exact Nat.le_refl _
  | step _ ih => rw [chF, List.length_append]; omega
theorem chF_get {p : Nat → Bool} : ∀ {n k : Nat}, k < (chF p n).length → ∃ u, u < n ∧ p u = true ∧ (chF p u).length = k ∧ (chF p n).getD k 0 = u
  | 0, k, h => by simp [chF] at h
  | n + 1, k, h => by
    by_cases hk : k < (chF p n).length
    · obtain ⟨u, h1, h2, h3, h4⟩ := chF_get hk
      refine ⟨u, by omega, h2, h3, ?_⟩
      rw [chF, List.getD_eq_getElem?_getD, List.getElem?_append_left hk, ← List.getD_eq_getElem?_getD, h4]
    · unfold chF at h
      split at h
      · rename_i hp
        simp only [List.length_append, List.length_cons, List.length_nil] at h
        refine ⟨n, by omega, hp, by omega, ?_⟩
        rw [chF, if_pos hp, List.getD_eq_getElem?_getD, List.getElem?_append_right (by omega), show k - (chF p n).length = 0 by omega]; rfl
      · simp at h; omega
/-- Between two choices there is none. -/
theorem chF_gap {p : Nat → Bool} {d u v : Nat} (h : (chF p d).length = (chF p u).length) (h1 : d ≤ v) (h2 : v < u) : p v = false := by
  cases hp : p v with
  | false => rfl
  | true =>
    have h3 := chF_mono (p := p) h1
    have h4 := chF_mono (p := p) (show v + 1 ≤ u by omega)
    rw [chF, if_pos hp, List.length_append] at h4
    simp at h4; omega
theorem EnMP.gap {f g : Sf} {P : List (List Int)} {x e d u : Nat} {L : List (List (List Int))} (ht : Two f g) (hP : PT f g P) (hx : x < f.shp.idn.length) (he : e < f.sz1 x) (p : Nat → Bool) (hp : ∀ u, u < g.sz1 x → (p u = true ↔ ∃ P', Stp f g P x e u (fun a => a < f.shp.fr.length) P')) (h : EnMP f g P x e d L) (hd : d ≤ u) (hu : u ≤ g.sz1 x) (hn : ∀ v, d ≤ v → v < u → p v = false) : EnMP f g P x e u L := by
  induction u with
  | zero => rw [show d = 0 by omega] at h; exact h
  | succ u ih =>
    by_cases hdu : d = u + 1
    · rw [← hdu]; exact h
    · refine (ih (by omega) (by omega) fun v h1 h2 => hn v h1 (by omega)).no ?_
      have h1 := hn u (by omega) (by omega)
      rcases Stp.run ht ⟨hx, he, show u < g.sz1 x by omega⟩ hP with h2 | h2
      · rw [(hp u (by omega)).2 h2] at h1; cases h1
      · exact h2

-- spec.l19Choices
def c_spec_l19Choices : C :=
  (.seq (.ops [] [⟨none, .asg 4 (.k (.nils (.int .i64 0)))⟩] [])
  (.seq (.ops [] [⟨none, .bldS (.int .i64 0) 0 []⟩,
    ⟨none, .asg 5 (.t 0)⟩] [])
  (.seq (.seq (.ops [] [⟨none, .asg 6 (.i 0)⟩] [])
  (.block 0 (.loop (.seq (.opc [] [⟨none, .mv (.v 6)⟩,
    ⟨none, .mv (.v 0)⟩,
    ⟨none, .nck (.t 1)⟩,
    ⟨none, .fA 7 (.t 2)⟩,
    ⟨none, .fA 5 (.t 3)⟩,
    ⟨none, .ld (.t 4)⟩,
    ⟨none, .mv (.v 2)⟩,
    ⟨none, .idxA 1 (.t 5) (.t 6)⟩,
    ⟨none, .ld (.t 7)⟩,
    ⟨none, .bin .lss (.t 0) (.t 8)⟩] [] (.t 9) .skip
  (.exit 0))
  (.seq (.block 1 (.seq (.ops [] [⟨none, .mv (.v 0)⟩,
    ⟨none, .mv (.v 1)⟩,
    ⟨none, .mv (.v 2)⟩,
    ⟨none, .mv (.v 3)⟩,
    ⟨none, .mv (.v 6)⟩,
    ⟨none, .call 158 [(.t 0), (.t 1), (.t 2), (.t 3), (.t 4)]⟩,
    ⟨none, .mv (.t 5)⟩,
    ⟨none, .ext 0 (.t 6)⟩,
    ⟨none, .ext 1 (.t 6)⟩,
    ⟨none, .mv (.t 7)⟩,
    ⟨none, .asg 7 (.t 8)⟩] [])
  (.opc [] [⟨none, .mv (.v 7)⟩] [] (.t 0) (.ops [] [⟨none, .mv (.v 5)⟩,
    ⟨none, .mv (.v 6)⟩,
    ⟨none, .bldS (.int .i64 0) 1 [(0, (.t 1))]⟩,
    ⟨none, .app 1 8 (.t 0) (.t 2)⟩,
    ⟨none, .asg 5 (.t 3)⟩] [])
  .skip)))
  (.ops [] [⟨none, .mv (.v 6)⟩,
    ⟨none, .bin .add (.t 0) (.i 1)⟩,
    ⟨none, .asg 6 (.t 1)⟩] []))))))
  (.seq (.ops [] [⟨none, .mv (.v 5)⟩,
    ⟨none, .asg 4 (.t 0)⟩] [])
  .ret))))
def tr_spec_l19Choices : List Nat := [0, 1, 2, 3, 8, 9, 10, 12]
def rs_spec_l19Choices : List RS := [.t 4]
theorem ok_spec_l19Choices : fnOk Go.Proofs.Try.prog Go.Proofs.Try.f157 tr_spec_l19Choices c_spec_l19Choices 4 rs_spec_l19Choices = true := by decide +kernel

theorem ret_choices (f g : Sf) (fd : D) (P : List (List Int)) (x e : Nat) (ht : Two f g) (hx : x < f.shp.idn.length) (he : e < f.sz1 x) (hP : PT f g P) (p : Nat → Bool) (hp : ∀ u, u < g.sz1 x → (p u = true ↔ ∃ P', Stp f g P x e u (fun a => a < f.shp.fr.length) P')) :
    Ret Go.Proofs.Try.prog 157 [.v (.ptr (sC f g fd)), .v (intss P), .v (.int .i64 x), .v (.int .i64 e)] (ints (chF p (g.sz1 x))) := by
  have hgl := ht.okg.szl
  rw [ht.eq] at hgl
  have hgi := ht.okg.szi (x := (x : Int)) (by omega) (by rw [ht.eq]; omega)
  rw [Int.toNat_natCast] at hgi
  have hz : g.sz1 x = (g.sz.getD x 0).toNat := by unfold Sf.sz1 Sf.size; rw [Int.toNat_natCast]
  refine ret_fn Go.Proofs.Try.func157 ok_spec_l19Choices rfl (show 4 < 500 by decide) rfl ?_; unfold c_spec_l19Choices tr_spec_l19Choices rs_spec_l19Choices; simp only [go_sem, Nat.reduceLT, Nat.reduceAdd, Nat.reduceSub, ↓reduceIte]
  refine loop_set [7] (fun (u : Nat) => [(6, .int .i64 u), (5, .o (ints (chF p u)))]) (fun u => u ≤ g.sz1 x) (fun u => g.sz1 x - u) 0 (by simp only [go_sem, Nat.reduceLT, ↓reduceIte]; rfl) (Nat.zero_le _) rfl ?_
  rintro u hu
  simp only [go_sem, Nat.reduceLT, Nat.reduceAdd, Nat.reduceSub, Nat.reduceBEq, ↓reduceIte]
  have hcl := chF_len (p := p) u
  refine ⟨by omega, fun h => ?_, fun h => ?_⟩
  · have hi : Inp f g x e u := ⟨hx, he, by omega⟩
    cases hpu : p u with
    | true =>
      obtain ⟨P', hS⟩ := (hp u (by omega)).1 hpu
      refine call_of (ret_set f g fd P x e u ht hi hP true P' (fun _ => hS) (fun h => by cases h)) rfl (.inl (by simp only [D.novw, novwL, nv_intss, Bool.and_true])) ?_
      simp only [go_sem, Nat.reduceLT, Nat.reduceAdd, Nat.reduceSub, Nat.reduceBEq, Nat.reduceLeDiff, ↓reduceIte]
      refine ⟨by omega, u + 1, by omega, by omega, ?_⟩
      rw [wrap_lt (n := g.sz1 x) (by omega) (by simp only [maxLen]; omega), chF, if_pos hpu]
    | false =>
      refine call_of (ret_set f g fd P x e u ht hi hP false [] (fun h => by cases h) (fun _ => ⟨rfl, fun hh => by rw [(hp u (by omega)).2 hh] at hpu; cases hpu⟩)) rfl (.inl (by simp only [D.novw, novwL, nv_intss, Bool.and_true])) ?_
      simp only [go_sem, Nat.reduceLT, Nat.reduceAdd, Nat.reduceSub, Nat.reduceBEq, Nat.reduceLeDiff, ↓reduceIte]
      refine ⟨u + 1, by omega, by omega, ?_⟩
      rw [wrap_lt (n := g.sz1 x) (by omega) (by simp only [maxLen]; omega), chF, hpu]; simp
  · rw [show u = g.sz1 x by omega]

/-- What has been found, as the struct's cell holds it. -/
def fC (l : List (List (List Int))) : D := match l with
  | [] => .nils (intss [])
  | a :: r => .o (intsss (a :: r))
-- spec.l19Open
def c_spec_l19Open : C :=
  (.seq (.ops [2] [⟨none, .boxv 7 (.v 0)⟩,
    ⟨none, .asg 1 (.k (.nils (ints [])))⟩] [(2, 0)])
  (.seq (.ops [] [⟨none, .bldS (ints []) 0 []⟩,
    ⟨none, .asg 3 (.t 0)⟩] [])
  (.seq (.seq (.ops [] [⟨none, .asg 4 (.i 0)⟩] [])
  (.block 0 (.loop (.seq (.opc [] [⟨none, .mv (.v 4)⟩,
    ⟨none, .fA 5 (.v 2)⟩,
    ⟨none, .ld (.t 1)⟩,
    ⟨none, .len (.t 2)⟩,
    ⟨none, .bin .lss (.t 0) (.t 3)⟩] [] (.t 4) .skip
  (.exit 0))
  (.seq (.block 1 (.seq (.ops [] [⟨none, .bldS (.int .i64 0) 0 []⟩,
    ⟨none, .asg 5 (.t 0)⟩] [])
  (.seq (.seq (.ops [] [⟨none, .asg 6 (.i 0)⟩] [])
  (.block 2 (.loop (.seq (.opc [] [⟨none, .mv (.v 6)⟩,
    ⟨none, .fA 5 (.v 2)⟩,
    ⟨none, .ld (.t 1)⟩,
    ⟨none, .mv (.v 4)⟩,
    ⟨none, .idxA 1 (.t 2) (.t 3)⟩,
    ⟨none, .ld (.t 4)⟩,
    ⟨none, .bin .lss (.t 0) (.t 5)⟩] [] (.t 6) .skip
  (.exit 2))
  (.seq (.block 3 (.ops [] [⟨none, .mv (.v 5)⟩,
    ⟨none, .bldS (.int .i64 0) 1 [(0, (.i (-1)))]⟩,
    ⟨none, .app 1 8 (.t 0) (.t 1)⟩,
    ⟨none, .asg 5 (.t 2)⟩] []))
  (.ops [] [⟨none, .mv (.v 6)⟩,
    ⟨none, .bin .add (.t 0) (.i 1)⟩,
    ⟨none, .asg 6 (.t 1)⟩] []))))))
  (.ops [] [⟨none, .mv (.v 3)⟩,
    ⟨none, .mv (.v 5)⟩,
    ⟨none, .bldS (ints []) 1 [(0, (.t 1))]⟩,
    ⟨none, .app 1 24 (.t 0) (.t 2)⟩,
    ⟨none, .asg 3 (.t 3)⟩] []))))
  (.ops [] [⟨none, .mv (.v 4)⟩,
    ⟨none, .bin .add (.t 0) (.i 1)⟩,
    ⟨none, .asg 4 (.t 1)⟩] []))))))
  (.seq (.ops [] [⟨none, .mv (.v 3)⟩,
    ⟨none, .asg 1 (.t 0)⟩] [])
  .ret))))
def tr_spec_l19Open : List Nat := [0, 2, 1, 3, 4, 5, 6]
def rs_spec_l19Open : List RS := [.t 1]
theorem ok_spec_l19Open : fnOk Go.Proofs.Try.prog Go.Proofs.Try.f125 tr_spec_l19Open c_spec_l19Open 1 rs_spec_l19Open = true := by decide +kernel

theorem ret_spec_l19Open (f g : Sf) (ht : Two f g) : Ret Go.Proofs.Try.prog 125 [.v f.d] (intss (openP f)) := by
  have hsl := ht.okf.szl
  have h8 := ht.okf.cs.idl
  refine ret_fn Go.Proofs.Try.func125 ok_spec_l19Open rfl (show 1 < 500 by decide) rfl ?_; unfold c_spec_l19Open tr_spec_l19Open rs_spec_l19Open; simp only [go_sem, Nat.reduceLT, Nat.reduceAdd, Nat.reduceSub, ↓reduceIte]
  refine loop_set [5, 6] (fun (x : Nat) => [(4, .int .i64 x), (3, .o (intss ((openP f).take x)))]) (fun x => x ≤ f.sz.length) (fun x => f.sz.length - x) 0 (by simp only [go_sem, Nat.reduceLT, ↓reduceIte]; rfl) (Nat.zero_le _) rfl ?_
  rintro x hx
  simp only [go_sem, Nat.reduceLT, Nat.reduceAdd, Nat.reduceSub, Nat.reduceBEq, ↓reduceIte]
  have hol : (openP f).length = f.sz.length := by unfold openP; simp
  refine ⟨fun h => ?_, fun h => by rw [List.take_of_length_le (by omega)]⟩
  have hgi := ht.okf.szi (x := (x : Int)) (by omega) (by omega)
  rw [Int.toNat_natCast] at hgi
  refine loop_set [] (fun (e : Nat) => [(6, .int .i64 e), (5, .o (ints (List.replicate e (-1))))]) (fun e => (e : Int) ≤ f.sz.getD x 0) (fun e => (f.sz.getD x 0).toNat - e) 0 (by simp only [go_sem]; rfl) (by simpa using hgi.1) rfl ?_
  rintro e he
  simp only [go_sem, Nat.reduceLT, Nat.reduceAdd, Nat.reduceSub, Nat.reduceEqDiff, Nat.reduceBEq, ↓reduceIte]
  refine ⟨h, fun h2 => ⟨by simp only [List.length_replicate]; omega, e + 1, by omega, by omega, ?_⟩, fun h2 => ⟨by rw [List.length_take]; omega, x + 1, by omega, by omega, ?_⟩⟩
  · rw [wrap_lt (n := 17) (by omega) (by simp only [maxLen]; omega), List.replicate_succ']
  · rw [wrap_lt h (by simp only [maxLen]; omega), take_snoc (by omega) [], show (openP f).getD x [] = List.replicate e (-1) by
      unfold openP
      rw [List.getD_eq_getElem?_getD, List.getElem?_map, List.getElem?_eq_getElem h, Option.map_some, Option.getD_some, ← getD_lt h 0]
      congr 1; omega]

/-- The reference's search, with what it has found. -/
abbrev sB (f g : Sf) (l : List (List (List Int))) : D := .box (sC f g (fC l))
section
variable {l : List (List (List Int))}
theorem gath_fC {ob : Nat → D} {n : Nat} : gath ob (n + 1) (fC l) = some (intsss l) := by cases l <;> rfl
theorem kill_fC {q : D → Bool} : (fC l).kill q = fC l := by cases l <;> rfl
theorem ren_fC {σ : Nat → Nat} : (fC l).ren σ = fC l := by cases l <;> rfl
theorem refs_fC {Q : D → Prop} : (fC l).refs Q = True := by cases l <;> rfl
theorem tight_fC : (fC l).tightC = true := by
  cases l with
  | nil => rfl
  | cons a r => exact nv_intsss _
theorem pc_fC_nil : (fC []).pc = true := rfl
theorem fC_nil : fC [] = .nils (intss []) := rfl
theorem fC_cons {a : List (List Int)} {r : List (List (List Int))} : fC (a :: r) = .o (intsss (a :: r)) := rfl
attribute [go_sem] fC_nil fC_cons gath_fC kill_fC ren_fC refs_fC
end

/-- The first element that is not known, of those from 'm' on in the row 'y' and behind. -/
def FU (f : Sf) (P : List (List Int)) (y m : Nat) (x e : Int) : Prop :=
  (x = -1 ∧ e = -1 ∧ ∀ x' i' : Nat, (y < x' ∨ (x' = y ∧ m ≤ i')) → x' < f.shp.idn.length → i' < f.sz1 x' → 0 ≤ pc P x' i') ∨
  (∃ x0 e0 : Nat, x = x0 ∧ e = e0 ∧ x0 < f.shp.idn.length ∧ e0 < f.sz1 x0 ∧ pc P x0 e0 < 0 ∧ ∀ x' i' : Nat, (y < x' ∨ (x' = y ∧ m ≤ i')) → (x' < x0 ∨ (x' = x0 ∧ i' < e0)) → i' < f.sz1 x' → 0 ≤ pc P x' i')
section
variable {f g : Sf} {P : List (List Int)} {y m : Nat} {x e : Int}
theorem FU.all : FU f P f.shp.idn.length 0 (-1) (-1) := .inl ⟨rfl, rfl, fun x' i' h1 h2 _ => by omega⟩
theorem FU.row (h : FU f P (y + 1) 0 x e) : FU f P y (f.sz1 y) x e := by
  rcases h with ⟨h1, h2, h3⟩ | ⟨x0, e0, h1, h2, h3, h4, h5, h6⟩
  · exact .inl ⟨h1, h2, fun x' i' k1 k2 k3 => h3 x' i' (by
      rcases k1 with k1 | ⟨rfl, k1⟩
      · omega
      · omega) k2 k3⟩
  · exact .inr ⟨x0, e0, h1, h2, h3, h4, h5, fun x' i' k1 k2 k3 => h6 x' i' (by
      rcases k1 with k1 | ⟨rfl, k1⟩
      · omega
      · omega) k2 k3⟩
theorem FU.keep (h : FU f P y (m + 1) x e) (h0 : 0 ≤ pc P y m) : FU f P y m x e := by
  have key : ∀ x' i' : Nat, (y < x' ∨ (x' = y ∧ m ≤ i')) → (y < x' ∨ (x' = y ∧ m + 1 ≤ i')) ∨ (x' = y ∧ i' = m) := fun x' i' h => by omega
  rcases h with ⟨h1, h2, h3⟩ | ⟨x0, e0, h1, h2, h3, h4, h5, h6⟩
  · exact .inl ⟨h1, h2, fun x' i' k1 k2 k3 => (key x' i' k1).elim (fun k => h3 x' i' k k2 k3) fun ⟨k, k'⟩ => by rw [k, k']; exact h0⟩
  · exact .inr ⟨x0, e0, h1, h2, h3, h4, h5, fun x' i' k1 k2 k3 => (key x' i' k1).elim (fun k => h6 x' i' k k2 k3) fun ⟨k, k'⟩ => by rw [k, k']; exact h0⟩
theorem FU.new (h1 : y < f.shp.idn.length) (h2 : m < f.sz1 y) (h3 : pc P y m < 0) : FU f P y m y m := .inr ⟨y, m, rfl, rfl, h1, h2, h3, fun x' i' k1 k2 _ => by omega⟩
/-- An element that has no image. -/
theorem no_choice (ht : Two f g) (hP : PT f g P) {x e : Nat} (hx : x < f.shp.idn.length) (he : e < f.sz1 x) (p : Nat → Bool) (hp : ∀ u, u < g.sz1 x → (p u = true ↔ ∃ P', Stp f g P x e u (fun a => a < f.shp.fr.length) P')) (h : (chF p (g.sz1 x)).length = 0) {L : List (List (List Int))} (hL : EnM f g P L) : L = [] := by
  refine hL.none fun m hm hE => ?_
  have h1 := hm.tot x e hx he
  rcases hm.ty.rng x e hx he with h2 | ⟨h2, h3⟩
  · omega
  have h4 : p (pc m x e).toNat = false := chF_gap (d := 0) (u := g.sz1 x) (by rw [h]; rfl) (Nat.zero_le _) (by omega)
  rcases Stp.run ht ⟨hx, he, show (pc m x e).toNat < g.sz1 x by omega⟩ hP with h5 | h5
  · rw [(hp _ (by omega)).2 h5] at h4; cases h4
  · exact h5 m hm hE (by omega)
theorem ch_ex (f g : Sf) (P : List (List Int)) (x e : Nat) : ∃ p : Nat → Bool, ∀ u, u < g.sz1 x → (p u = true ↔ ∃ P', Stp f g P x e u (fun a => a < f.shp.fr.length) P') :=
  ⟨fun u => @decide _ (Classical.propDecidable (∃ P', Stp f g P x e u (fun a => a < f.shp.fr.length) P')), fun u _ => by simp⟩
end
theorem take_full {α : Type} {a b : List α} {n : Nat} (h : n ≤ a.length) : (a ++ b).take n = a.take n := by
  rw [List.take_append_of_le_length h]

-- spec.l19Go
def c_spec_l19Go : C :=
  (.seq (.ops [] [⟨none, .asg 2 (.i (-1))⟩,
    ⟨none, .asg 3 (.i (-1))⟩] [])
  (.seq (.seq (.ops [] [⟨none, .mv (.v 1)⟩,
    ⟨none, .len (.t 0)⟩,
    ⟨none, .bin .sub (.t 1) (.i 1)⟩,
    ⟨none, .asg 4 (.t 2)⟩] [])
  (.block 0 (.loop (.seq (.opc [] [⟨none, .mv (.v 4)⟩,
    ⟨none, .bin .geq (.t 0) (.i 0)⟩] [] (.t 1) .skip
  (.exit 0))
  (.seq (.block 1 (.seq (.ops [] [⟨none, .mv (.v 1)⟩,
    ⟨none, .mv (.v 4)⟩,
    ⟨none, .idxA 1 (.t 0) (.t 1)⟩,
    ⟨none, .ld (.t 2)⟩,
    ⟨none, .len (.t 3)⟩,
    ⟨none, .bin .sub (.t 4) (.i 1)⟩,
    ⟨none, .asg 5 (.t 5)⟩] [])
  (.block 2 (.loop (.seq (.opc [] [⟨none, .mv (.v 5)⟩,
    ⟨none, .bin .geq (.t 0) (.i 0)⟩] [] (.t 1) .skip
  (.exit 2))
  (.seq (.block 3 (.opc [] [⟨none, .mv (.v 1)⟩,
    ⟨none, .mv (.v 4)⟩,
    ⟨none, .idxA 1 (.t 0) (.t 1)⟩,
    ⟨none, .ld (.t 2)⟩,
    ⟨none, .mv (.v 5)⟩,
    ⟨none, .idxA 1 (.t 3) (.t 4)⟩,
    ⟨none, .ld (.t 5)⟩,
    ⟨none, .bin .lss (.t 6) (.i 0)⟩] [] (.t 7) (.seq (.ops [] [⟨none, .mv (.v 4)⟩,
    ⟨none, .mv (.v 5)⟩,
    ⟨none, .asg 2 (.t 0)⟩,
    ⟨none, .asg 3 (.t 1)⟩] [])
  (.opc [] [⟨none, .mv (.v 0)⟩,
    ⟨none, .mv (.v 1)⟩,
    ⟨none, .mv (.v 2)⟩,
    ⟨none, .mv (.v 3)⟩,
    ⟨none, .call 157 [(.t 0), (.t 1), (.t 2), (.t 3)]⟩,
    ⟨none, .len (.t 4)⟩,
    ⟨none, .bin .eql (.t 5) (.i 0)⟩] [] (.t 6) .ret
  .skip))
  .skip))
  (.ops [] [⟨none, .mv (.v 5)⟩,
    ⟨none, .bin .sub (.t 0) (.i 1)⟩,
    ⟨none, .asg 5 (.t 1)⟩] [])))))))
  (.ops [] [⟨none, .mv (.v 4)⟩,
    ⟨none, .bin .sub (.t 0) (.i 1)⟩,
    ⟨none, .asg 4 (.t 1)⟩] []))))))
  (.seq (.opc [] [⟨none, .mv (.v 2)⟩,
    ⟨none, .bin .lss (.t 0) (.i 0)⟩] [] (.t 1) (.seq (.ops [] [⟨none, .mv (.v 0)⟩,
    ⟨none, .mv (.v 0)⟩,
    ⟨none, .nck (.t 1)⟩,
    ⟨none, .fA 16 (.t 2)⟩,
    ⟨none, .ld (.t 3)⟩,
    ⟨none, .mv (.v 1)⟩,
    ⟨none, .bldS (intss []) 1 [(0, (.t 5))]⟩,
    ⟨none, .app 1 24 (.t 4) (.t 6)⟩,
    ⟨none, .nck (.t 0)⟩,
    ⟨none, .fA 16 (.t 8)⟩,
    ⟨none, .st (.t 9) (.t 7)⟩] [])
  .ret)
  .skip)
  (.seq (.ops [] [⟨none, .mv (.v 0)⟩,
    ⟨none, .mv (.v 1)⟩,
    ⟨none, .mv (.v 2)⟩,
    ⟨none, .mv (.v 3)⟩,
    ⟨none, .call 157 [(.t 0), (.t 1), (.t 2), (.t 3)]⟩,
    ⟨none, .asg 6 (.t 4)⟩] [])
  (.seq (.ops [] [⟨none, .asg 7 (.i 0)⟩] [])
  (.block 4 (.loop (.seq (.opc [] [⟨none, .mv (.v 7)⟩,
    ⟨none, .mv (.v 6)⟩,
    ⟨none, .len (.t 1)⟩,
    ⟨none, .bin .lss (.t 0) (.t 2)⟩,
    ⟨none, .mv (.t 3)⟩,
    ⟨some (4, true), .mv (.v 0)⟩,
    ⟨some (4, true), .nck (.t 5)⟩,
    ⟨some (4, true), .fA 16 (.t 6)⟩,
    ⟨some (4, true), .ld (.t 7)⟩,
    ⟨some (4, true), .len (.t 8)⟩,
    ⟨some (4, true), .mv (.v 0)⟩,
    ⟨some (4, true), .nck (.t 10)⟩,
    ⟨some (4, true), .fA 15 (.t 11)⟩,
    ⟨some (4, true), .ld (.t 12)⟩,
    ⟨some (4, true), .bin .lss (.t 9) (.t 13)⟩,
    ⟨none, .pick (.t 4) (.t 14) (.k (.bool false))⟩] [] (.t 15) .skip
  (.exit 4))
  (.seq (.block 5 (.seq (.ops [] [⟨none, .mv (.v 0)⟩,
    ⟨none, .mv (.v 1)⟩,
    ⟨none, .mv (.v 2)⟩,
    ⟨none, .mv (.v 3)⟩,
    ⟨none, .mv (.v 6)⟩,
    ⟨none, .mv (.v 7)⟩,
    ⟨none, .idxA 1 (.t 4) (.t 5)⟩,
    ⟨none, .ld (.t 6)⟩,
    ⟨none, .call 158 [(.t 0), (.t 1), (.t 2), (.t 3), (.t 7)]⟩,
    ⟨none, .mv (.t 8)⟩,
    ⟨none, .ext 0 (.t 9)⟩,
    ⟨none, .ext 1 (.t 9)⟩,
    ⟨none, .asg 8 (.t 10)⟩,
    ⟨none, .mv (.t 11)⟩] [])
  (.ops [] [⟨none, .mv (.v 0)⟩,
    ⟨none, .mv (.v 8)⟩,
    ⟨none, .dyn (.k (.fn 124 [])) [(.t 0), (.t 1)]⟩] [])))
  (.ops [] [⟨none, .mv (.v 7)⟩,
    ⟨none, .bin .add (.t 0) (.i 1)⟩,
    ⟨none, .asg 7 (.t 1)⟩] []))))))))))
def tr_spec_l19Go : List Nat := [0, 1, 4, 5, 6, 7, 8, 9, 10]
def rs_spec_l19Go : List RS := []
theorem ok_spec_l19Go : fnOk Go.Proofs.Try.prog Go.Proofs.Try.f124 tr_spec_l19Go c_spec_l19Go 2 rs_spec_l19Go = true := by decide +kernel

theorem ret_go (f g : Sf) (ht : Two f g) : ∀ (n : Nat) (P : List (List Int)) (l L : List (List (List Int))), unkM f P < n → PT f g P → Clo f g P → l.length ≤ 200 → EnM f g P L →
    RetE Go.Proofs.Try.prog 124 [.adr 0 [(0, 0)], .sub 1 []] [sB f g l, .o (intss P)] (fun rc gs' => rc = .o (.tup []) ∧ (gs' = [sB f g ((l ++ L).take 201), .dead] ∨ gs' = [sB f g ((l ++ L).take 201), .o (intss P)])) := by
  intro n
  induction n with
  | zero => intro P l L hn; omega
  | succ n ih =>
  intro P l L hn hP hc hl hL
  have h8 := ht.okf.cs.idl
  have hPl := hP.len
  refine ret_fnE .tree Go.Proofs.Try.func124 rfl ok_spec_l19Go rfl ⟨by simp only [List.length_cons, List.length_nil]; decide, by simp only [List.length_cons, List.length_nil]; decide⟩ rfl ?_; unfold c_spec_l19Go tr_spec_l19Go rs_spec_l19Go; simp only [go_sem, Nat.reduceLT, Nat.reduceAdd, Nat.reduceSub, Nat.reduceBEq, Nat.reduceLeDiff, ↓reduceIte]
  refine loop_set [5] (fun s : Nat × Int × Int => [(4, .int .i64 ((s.1 : Int) - 1)), (2, .int .i64 s.2.1), (3, .int .i64 s.2.2)]) (fun s => s.1 ≤ f.shp.idn.length ∧ FU f P s.1 0 s.2.1 s.2.2) (fun s => s.1) (f.shp.idn.length, -1, -1) (by simp only [go_sem, Nat.reduceLT, Nat.reduceBEq, ↓reduceIte]; rfl) ⟨Nat.le_refl _, FU.all⟩ ?_ ?_
  · simp only [go_sem, hPl]; rw [wrap_small (by omega) (by omega)]
  rintro ⟨y, x, e⟩ ⟨hy, hfu⟩
  simp only at hy hfu
  simp only [go_sem, Nat.reduceLT, Nat.reduceAdd, Nat.reduceSub, Nat.reduceBEq, Nat.reduceLeDiff, ↓reduceIte]
  refine ⟨fun h => ?_, fun h => ?_⟩
  · obtain ⟨y, rfl⟩ : ∃ y', y = y' + 1 := ⟨y - 1, by omega⟩
    have hyy : ((y + 1 : Nat) : Int) - 1 = y := by omega
    have hrow := hP.row y (by omega)
    have hgi := ht.okf.szi (x := (y : Int)) (by omega) (by omega)
    have hz : f.sz1 y ≤ 16 := by unfold Sf.sz1 Sf.size; omega
    rw [hyy]
    simp only [go_sem]
    refine ⟨by omega, ?_⟩
    refine loop_set [] (fun s : Nat × Int × Int => [(5, .int .i64 ((s.1 : Int) - 1)), (2, .int .i64 s.2.1), (3, .int .i64 s.2.2)]) (fun s => s.1 ≤ f.sz1 y ∧ FU f P y s.1 s.2.1 s.2.2) (fun s => s.1) (f.sz1 y, x, e) (by simp only [go_sem]; rfl) ⟨Nat.le_refl _, hfu.row⟩ ?_ ?_
    · simp only [go_sem, hrow]; rw [wrap_small (by omega) (by omega)]
    rintro ⟨m, x1, e1⟩ ⟨hm, hfu1⟩
    simp only at hm hfu1
    simp only [go_sem, Nat.reduceLT, Nat.reduceAdd, Nat.reduceSub, Nat.reduceBEq, Nat.reduceLeDiff, ↓reduceIte]
    refine ⟨fun h1 => ?_, fun h1 => ?_⟩
    · obtain ⟨m, rfl⟩ : ∃ m', m = m' + 1 := ⟨m - 1, by omega⟩
      have hmm : ((m + 1 : Nat) : Int) - 1 = m := by omega
      have hpcd : (P.getD y []).getD m 0 = pc P y m := rfl
      rw [hmm]
      simp only [Int.toNat_natCast, hpcd]
      have hws : IntKind.i64.wrap ((m : Int) - 1) = (m : Int) - 1 := wrap_small (by omega) (by omega)
      refine ⟨by omega, by omega, fun h2 => ?_, fun h2 => ?_⟩
      · obtain ⟨p, hp⟩ := ch_ex f g P y m
        refine call_of (ret_choices f g (intsss l) P y m ht (by omega) (by omega) hP p hp) rfl (.inl (nv_ints _)) ?_
        simp only [go_sem, Nat.reduceLT, Nat.reduceAdd, Nat.reduceSub, Nat.reduceBEq, Nat.reduceLeDiff, ↓reduceIte]
        refine ⟨fun h3 => ?_, fun h3 => ?_⟩
        · have hL0 : L = [] := no_choice ht hP (by omega) (by omega) p hp (by simpa using h3) hL
          subst hL0
          have htk : (l ++ []).take 201 = l := by rw [List.append_nil, List.take_of_length_le (by omega)]
          rw [htk]
          cases l <;> exact ⟨_, _, ⟨rfl, .inr rfl⟩, rfl, rfl, rfl, rfl, trivial⟩
        · exact ⟨(m, y, m), ⟨by simp only; omega, FU.new (by omega) (by omega) h2⟩, by simp only; omega, by rw [hws] <;> rfl⟩
      · exact ⟨(m, x1, e1), ⟨by simp only; omega, hfu1.keep (by omega)⟩, by simp only; omega, by rw [hws] <;> rfl⟩
    · have hm0 : m = 0 := by omega
      subst hm0
      have hws : IntKind.i64.wrap ((y : Int) - 1) = (y : Int) - 1 := wrap_small (by omega) (by omega)
      exact ⟨(y, x1, e1), ⟨by simp only; omega, hfu1⟩, by simp only; omega, by rw [hws] <;> rfl⟩
  · have hy0 : y = 0 := by omega
    subst hy0
    rcases hfu with ⟨rfl, rfl, hall⟩ | ⟨x0, e0, rfl, rfl, hx0, he0, hu0, hF⟩
    · have hL1 : L = [P] := hL.eq (EnM.leaf hP hc (fun x i h1 h2 => hall x i (by omega) h1 h2) ht)
      subst hL1
      refine ⟨fun _ => ?_, fun hh => absurd (by decide) hh⟩
      have htk : (l ++ [P]).take 201 = l ++ [P] := List.take_of_length_le (by simp; omega)
      rw [htk]
      cases l with
      | nil =>
        simp only [go_sem, Nat.reduceLT, Nat.reduceAdd, Nat.reduceSub, Nat.reduceEqDiff, Nat.reduceBEq, Nat.reduceLeDiff, ↓reduceIte]
        exact ⟨by omega, _, _, ⟨rfl, .inl rfl⟩, rfl, rfl, rfl, rfl, trivial⟩
      | cons b r =>
        simp only [go_sem, Nat.reduceLT, Nat.reduceAdd, Nat.reduceSub, Nat.reduceEqDiff, Nat.reduceBEq, Nat.reduceLeDiff, ↓reduceIte]
        simp only [List.length_cons] at hl
        exact ⟨by omega, _, _, ⟨rfl, .inl rfl⟩, rfl, rfl, rfl, rfl, trivial⟩
    · refine ⟨fun hh => by omega, fun _ => ?_⟩
      obtain ⟨p, hp⟩ := ch_ex f g P x0 e0
      refine call_of (ret_choices f g (intsss l) P x0 e0 ht hx0 he0 hP p hp) rfl (.inl (nv_ints _)) ?_
      simp only [go_sem, Nat.reduceLT, Nat.reduceAdd, Nat.reduceSub, Nat.reduceBEq, Nat.reduceLeDiff, ↓reduceIte]
      refine loop_set [8] (fun s : Nat × List (List (List Int)) => [(7, .int .i64 s.1), (9, .box (sC f g (fC ((l ++ s.2).take 201))))]) (fun s => s.1 ≤ (chF p (g.sz1 x0)).length ∧ ∃ d, d ≤ g.sz1 x0 ∧ (chF p d).length = s.1 ∧ EnMP f g P x0 e0 d s.2) (fun s => (chF p (g.sz1 x0)).length - s.1) (0, []) (by simp only [go_sem, Nat.reduceLT, Nat.reduceBEq, ↓reduceIte]; rfl) ⟨Nat.zero_le _, 0, Nat.zero_le _, rfl, EnMP.zero hx0 he0⟩ ?_ ?_
      · simp only [go_sem]; rw [List.take_of_length_le (by omega)]; rfl
      rintro ⟨k, Li⟩ ⟨hk, d, hd, hdk, hE⟩
      simp only at hk hd hdk hE
      generalize hq : (l ++ Li).take 201 = q
      have fin : ∀ {R}, L = Li ++ R → (R = [] ∨ 201 ≤ (l ++ Li).length) → (l ++ L).take 201 = q := fun {R} h1 h2 => by
        rw [h1, ← List.append_assoc, ← hq]
        rcases h2 with rfl | h2
        · rw [List.append_nil]
        · exact take_full h2
      have stop : (k < (chF p (g.sz1 x0)).length → 201 ≤ q.length) → (l ++ L).take 201 = q := fun hh => by
        by_cases hk2 : k < (chF p (g.sz1 x0)).length
        · have := hh hk2
          obtain ⟨R, hR⟩ := EnMP.pre ht hP hc (fun x' i' h1 h2 => hF x' i' (by omega) h1 h2) hx0 he0 hE hd hL
          exact fin hR (.inr (by rw [← hq, List.length_take] at this; omega))
        · have hE2 := hE.gap ht hP hx0 he0 p hp hd (Nat.le_refl _) fun v h1 h2 => chF_gap (by omega) h1 h2
          exact fin (R := []) (by rw [List.append_nil]; exact hL.eq (hE2.done hx0 he0)) (.inl rfl)
      have more : k < (chF p (g.sz1 x0)).length → q.length < 201 → ∃ u P', u < g.sz1 x0 ∧ (chF p (g.sz1 x0)).getD k 0 = (u : Int) ∧ Stp f g P x0 e0 u (fun a => a < f.shp.fr.length) P' ∧ q = l ++ Li ∧
          ∀ L1, EnM f g P' L1 → ∃ d', d' ≤ g.sz1 x0 ∧ (chF p d').length = k + 1 ∧ EnMP f g P x0 e0 d' (Li ++ L1) := fun hk2 hq2 => by
        obtain ⟨u, u1, u2, u3, u4⟩ := chF_get hk2
        obtain ⟨P', hS⟩ := (hp u u1).1 u2
        have hdu : d ≤ u := by
          apply Classical.byContradiction
          intro hn
          have := chF_mono (p := p) (show u + 1 ≤ d by omega)
          rw [chF, if_pos u2, List.length_append] at this
          simp at this; omega
        have hE2 := hE.gap ht hP hx0 he0 p hp hdu (by omega) fun v h1 h2 => chF_gap (by omega) h1 h2
        refine ⟨u, P', u1, u4, hS, ?_, fun L1 h1 => ⟨u + 1, by omega, by rw [chF, if_pos u2, List.length_append]; simp; omega, hE2.step ht ⟨hx0, he0, u1⟩ hP (fun x' i' h1 h2 => hF x' i' (by omega) h1 h2) hS h1⟩⟩
        rw [← hq]
        rw [← hq, List.length_take] at hq2
        rw [List.take_of_length_le (by omega)]
      clear hq
      cases q with
      | nil =>
        simp only [go_sem, Nat.reduceLT, Nat.reduceAdd, Nat.reduceSub, Nat.reduceLeDiff, ↓reduceIte]
        refine ⟨fun h1 => ?_, fun h1 => ?_⟩
        · simp only [Bool.and_eq_true, decide_eq_true_eq] at h1
          obtain ⟨u, P', u1, u2, hS, hqq, hnext⟩ := more h1.1 (by simp)
          have hI : Inp f g x0 e0 u := ⟨hx0, he0, u1⟩
          rw [u2]
          refine ⟨h1.1, call_of (ret_set f g (intsss []) P x0 e0 u ht hI hP true P' (fun _ => hS) (fun h => by cases h)) rfl (.inl (by simp only [D.novw, novwL, nv_intss, Bool.and_true])) ?_⟩
          simp only [go_sem, Nat.reduceLT, Nat.reduceAdd, Nat.reduceSub, Nat.reduceBEq, Nat.reduceLeDiff, ↓reduceIte]
          have hun := hS.unk ht hI hu0
          obtain ⟨L1, hL1⟩ := EnM.exists ht _ (Nat.le_refl _) hS.ty (hS.clo ht hI hc)
          obtain ⟨d', d1, d2, d3⟩ := hnext L1 hL1
          have hcl := chF_len (p := p) (g.sz1 x0)
          have hgz := ht.okg.szi (x := (x0 : Int)) (by omega) (by rw [ht.eq]; omega)
          have hg16 : g.sz1 x0 ≤ 16 := by unfold Sf.sz1 Sf.size; omega
          refine e_call [9, 8] false (ih P' ([]) L1 (by omega) hS.ty (hS.clo ht hI hc) (by simp) hL1) (by exact ⟨by decide, rfl⟩) (by repeat (first | exact trivial | refine ⟨rfl, ?_⟩)) (by repeat (first | exact trivial | refine ⟨.inl rfl, ?_⟩ | refine ⟨.inr ⟨rfl, rfl⟩, ?_⟩)) ?_
          rintro _ _ ⟨rfl, hg | hg⟩ <;> subst hg
          all_goals
            refine ⟨(by repeat (first | exact trivial | refine ⟨(fun h => by cases h), ?_⟩)), (fun h => by cases h), ?_⟩
            simp only [go_sem, Nat.reduceLT, Nat.reduceAdd, Nat.reduceSub, Nat.reduceBEq, Nat.reduceLeDiff, ↓reduceIte]
            exact ⟨(k + 1, Li ++ L1), ⟨by simp only; omega, d', d1, d2, d3⟩, by simp only; omega, by rw [wrap_lt h1.1 (by simp only [maxLen]; omega), ← List.append_assoc, ← hqq] <;> rfl⟩
        · have hst := stop fun hk2 => by
            simp only [Bool.and_eq_false_iff, decide_eq_false_iff_not] at h1
            simp only [List.length_nil] at *
            omega
          rw [hst]
          exact ⟨_, _, ⟨rfl, .inr rfl⟩, rfl, rfl, rfl, rfl, trivial⟩
      | cons b r =>
        simp only [go_sem, Nat.reduceLT, Nat.reduceAdd, Nat.reduceSub, Nat.reduceLeDiff, ↓reduceIte]
        refine ⟨fun h1 => ?_, fun h1 => ?_⟩
        · simp only [Bool.and_eq_true, decide_eq_true_eq] at h1
          obtain ⟨u, P', u1, u2, hS, hqq, hnext⟩ := more h1.1 (by have := h1.2; simp only [List.length_cons]; omega)
          have hI : Inp f g x0 e0 u := ⟨hx0, he0, u1⟩
          rw [u2]
          refine ⟨h1.1, call_of (ret_set f g (intsss (b :: r)) P x0 e0 u ht hI hP true P' (fun _ => hS) (fun h => by cases h)) rfl (.inl (by simp only [D.novw, novwL, nv_intss, Bool.and_true])) ?_⟩
          simp only [go_sem, Nat.reduceLT, Nat.reduceAdd, Nat.reduceSub, Nat.reduceBEq, Nat.reduceLeDiff, ↓reduceIte]
          have hun := hS.unk ht hI hu0
          obtain ⟨L1, hL1⟩ := EnM.exists ht _ (Nat.le_refl _) hS.ty (hS.clo ht hI hc)
          obtain ⟨d', d1, d2, d3⟩ := hnext L1 hL1
          have hcl := chF_len (p := p) (g.sz1 x0)
          have hgz := ht.okg.szi (x := (x0 : Int)) (by omega) (by rw [ht.eq]; omega)
          have hg16 : g.sz1 x0 ≤ 16 := by unfold Sf.sz1 Sf.size; omega
          refine e_call [9, 8] false (ih P' ((b :: r)) L1 (by omega) hS.ty (hS.clo ht hI hc) (by simp only [List.length_cons] at h1 ⊢; omega) hL1) (by exact ⟨by decide, rfl⟩) (by repeat (first | exact trivial | refine ⟨rfl, ?_⟩)) (by repeat (first | exact trivial | refine ⟨.inl rfl, ?_⟩ | refine ⟨.inr ⟨rfl, rfl⟩, ?_⟩)) ?_
          rintro _ _ ⟨rfl, hg | hg⟩ <;> subst hg
          all_goals
            refine ⟨(by repeat (first | exact trivial | refine ⟨(fun h => by cases h), ?_⟩)), (fun h => by cases h), ?_⟩
            simp only [go_sem, Nat.reduceLT, Nat.reduceAdd, Nat.reduceSub, Nat.reduceBEq, Nat.reduceLeDiff, ↓reduceIte]
            exact ⟨(k + 1, Li ++ L1), ⟨by simp only; omega, d', d1, d2, d3⟩, by simp only; omega, by rw [wrap_lt h1.1 (by simp only [maxLen]; omega), ← List.append_assoc, ← hqq] <;> rfl⟩
        · have hst := stop fun hk2 => by
            simp only [Bool.and_eq_false_iff, decide_eq_false_iff_not] at h1
            simp only [List.length_cons] at *
            omega
          rw [hst]
          exact ⟨_, _, ⟨rfl, .inr rfl⟩, rfl, rfl, rfl, rfl, trivial⟩

-- spec.l19Maps
def c_spec_l19Maps : C :=
  (.seq (.ops [5, 6] [⟨none, .boxv 7 (.v 0)⟩,
    ⟨none, .boxv 7 (.v 1)⟩,
    ⟨none, .asg 4 (.k (.nils (intss [])))⟩] [(5, 0), (6, 1)])
  (.seq (.ops [7] [⟨none, .lda 7 (.v 5)⟩,
    ⟨none, .lda 7 (.v 6)⟩,
    ⟨none, .mv (.v 2)⟩,
    ⟨none, .mv (.v 3)⟩,
    ⟨none, .bld [.int .i64 0, .nils (.int .i64 0), .nils (.int .i64 0), .nils (.int .i64 0), .nils (ints []), .nils (.int .i64 0), .nils (ints []), .int .i64 0, .nils (.int .i64 0), .nils (.int .i64 0), .nils (.int .i64 0), .nils (ints []), .nils (.int .i64 0), .nils (ints []), .bool false, .int .i64 0, .nils (intss [])] [(0, 7, (.t 0)), (7, 7, (.t 1)), (14, 1, (.t 2)), (15, 1, (.t 3))]⟩,
    ⟨none, .boxo 17 (.t 4)⟩,
    ⟨none, .bo (.t 5)⟩] [(7, 6)])
  (.seq (.ops [] [⟨none, .mv (.v 7)⟩,
    ⟨none, .lda 7 (.v 5)⟩,
    ⟨none, .call 125 [(.t 1)]⟩,
    ⟨none, .dyn (.k (.fn 124 [])) [(.t 0), (.t 2)]⟩] [])
  (.seq (.ops [] [⟨none, .mv (.v 7)⟩,
    ⟨none, .nck (.t 0)⟩,
    ⟨none, .fA 16 (.t 1)⟩,
    ⟨none, .ld (.t 2)⟩,
    ⟨none, .asg 4 (.t 3)⟩] [])
  .ret))))
def tr_spec_l19Maps : List Nat := [0, 1, 2, 3, 8, 4, 5, 9]
def rs_spec_l19Maps : List RS := [.t 4]
theorem ok_spec_l19Maps : fnOk Go.Proofs.Try.prog Go.Proofs.Try.f82 tr_spec_l19Maps c_spec_l19Maps 4 rs_spec_l19Maps = true := by decide +kernel

theorem ret_spec_l19Maps (f g : Sf) (ht : Two f g) (L : List (List (List Int))) (hL : EnM f g (openP f) L) :
    Ret Go.Proofs.Try.prog 82 [.v f.d, .v g.d, .v (.bool false), .v (.int .i64 201)] (intsss (L.take 201)) := by
  refine ret_fn Go.Proofs.Try.func82 ok_spec_l19Maps rfl (show 4 < 500 by decide) rfl ?_; unfold c_spec_l19Maps tr_spec_l19Maps rs_spec_l19Maps; simp only [go_sem, Nat.reduceLT, Nat.reduceAdd, Nat.reduceSub, Nat.reduceLeDiff, ↓reduceIte]
  refine call_of (ret_spec_l19Open f g ht) rfl (.inl (nv_intss _)) ?_
  simp only [go_sem, Nat.reduceLT, Nat.reduceAdd, Nat.reduceSub, ↓reduceIte]
  refine e_call [7, 1002] false (ret_go f g ht _ (openP f) [] L (Nat.lt_succ_self _) (openP_pt ht) (openP_clo ht) (by simp) hL) (by exact ⟨by decide, rfl⟩) (by repeat (first | exact trivial | refine ⟨rfl, ?_⟩)) (by repeat (first | exact trivial | refine ⟨.inl rfl, ?_⟩ | refine ⟨.inr ⟨rfl, rfl⟩, ?_⟩)) ?_
  rintro _ _ ⟨rfl, hg | hg⟩ <;> subst hg
  all_goals
    refine ⟨(by repeat (first | exact trivial | refine ⟨(fun h => by cases h), ?_⟩)), (fun h => by cases h), ?_⟩
    rw [List.nil_append]
    generalize L.take 201 = q
    cases q <;> simp only [go_sem, Nat.reduceLT, Nat.reduceAdd, Nat.reduceSub, Nat.reduceBEq, Nat.reduceLeDiff, ↓reduceIte]
end Go.D3

/- CONTRACTS: global sections. -/
namespace Go.D3
open Go
set_option maxRecDepth 100000
set_option maxHeartbeats 4000000

abbrev mB0 (f g : Sf) (k : Nat) : D := .box [.ptr f.cells, .ptr g.cells, .bool false, .nils (ints []), .fn 162 [.adr k [(0, 0)]]]
theorem ret_run0 (f g : Sf) (M : Nat) (_ : M ≤ 1000000) (ht : Two f g) (h0 : f.shp.idn.length = 0) (hP : openP f = []) (L : List (List (List Int))) (hL : EnM f g (openP f) L) :
    RetG Go.Proofs.Try.prog 183 [.adr 0 [(0, 0)]] [mB0 f g 1, fB 2, oB [], cB M] (.bool (decide ((cols L).length ≤ M))) [mB0 f g 1, fB 2, oB ((cols L).take (M + 1)), cB M] := by
  refine ret_fnG .tree Go.Proofs.Try.func183 rfl ok_impl_mapSearch_run rfl ⟨by simp only [List.length_cons, List.length_nil]; decide, by simp only [List.length_cons, List.length_nil]; decide⟩ rfl ?_; unfold c_impl_mapSearch_run tr_impl_mapSearch_run rs_impl_mapSearch_run; simp only [go_sem, Nat.reduceLT, Nat.reduceAdd, Nat.reduceSub, Nat.reduceBEq, Nat.reduceLeDiff, ↓reduceIte]
  refine loop_set [2, 3] (fun (x : Nat) => [(10, .int .i64 x)]) (fun x => x = 0) (fun x => 0 - x) 0 (by simp only [go_sem, Nat.reduceLT, Nat.reduceBEq, ↓reduceIte]; rfl) rfl rfl ?_
  rintro x rfl
  simp only [go_sem, Nat.reduceLT, Nat.reduceAdd, Nat.reduceSub, Nat.reduceEqDiff, Nat.reduceBEq, Nat.reduceLeDiff, ↓reduceIte]
  have hLL := hL.eq (EnM.leaf (openP_pt ht) (openP_clo ht) (fun x i h1 h2 => by omega) ht)
  rw [hP] at hLL
  subst hLL
  refine g_call [15, 16, 17] true (ret_se1 M [] [] (fun x hx => by simp at hx) (by simp) (by simp)) (by exact ⟨by decide, rfl⟩) (by repeat (first | exact trivial | refine ⟨rfl, ?_⟩)) (by repeat (first | exact trivial | refine ⟨.inl rfl, ?_⟩ | refine ⟨.inr ⟨rfl, rfl⟩, ?_⟩)) (by repeat (first | exact trivial | refine ⟨(fun h => by cases h), ?_⟩)) (fun _ => ⟨rfl, by simp only [tightXL, D.tightX, tightCL, D.tightC, D.tight, tightL, nv_intss, Bool.and_true]⟩) ?_
  simp only [go_sem, Nat.reduceLT, Nat.reduceAdd, Nat.reduceSub, Nat.reduceBEq, Nat.reduceLeDiff, ↓reduceIte]
  have hc1 : cols [[]] = [colF []] := rfl
  rw [hc1, List.take_of_length_le (by simp)]
  exact ⟨rfl, rfl⟩
theorem openP_take {f : Sf} {x : Nat} (h : x < f.sz.length) : (openP f).take (x + 1) = (openP f).take x ++ [List.replicate (f.sz.getD x 0).toNat (-1)] := by
  have hol : (openP f).length = f.sz.length := by unfold openP; simp
  rw [take_snoc (by omega) []]
  congr 2
  unfold openP
  rw [List.getD_eq_getElem?_getD, List.getElem?_map, List.getElem?_eq_getElem h, Option.map_some, Option.getD_some, ← getD_lt h 0]
-- impl.setMaps
def c_impl_setMaps : C :=
  (.seq (.ops [] [⟨none, .asg 4 (.k (.bool false))⟩] [])
  (.seq (.ops [5] [⟨none, .mv (.v 0)⟩,
    ⟨none, .mv (.v 1)⟩,
    ⟨none, .mv (.v 2)⟩,
    ⟨none, .mv (.v 3)⟩,
    ⟨none, .bld [.nilp, .nilp, .bool false, .nils (ints []), .dead] [(0, 1, (.t 0)), (1, 1, (.t 1)), (2, 1, (.t 2)), (4, 1, (.t 3))]⟩,
    ⟨none, .boxo 5 (.t 4)⟩,
    ⟨none, .bo (.t 5)⟩] [(5, 6)])
  (.seq (.seq (.ops [7, 8] [⟨none, .mv (.v 0)⟩,
    ⟨none, .nck (.t 0)⟩,
    ⟨none, .fA 5 (.t 1)⟩,
    ⟨none, .ld (.t 2)⟩,
    ⟨none, .len (.t 3)⟩,
    ⟨none, .asg 9 (.i 0)⟩] [(7, 3), (8, 4)])
  (.block 0 (.loop (.opq [] [⟨none, .bin .lss (.v 9) (.v 8)⟩] [] (.t 0) .skip
  (.exit 0)
  (.seq (.block 1 (.seq (.ops [] [⟨none, .idxA 1 (.v 7) (.v 9)⟩,
    ⟨none, .ld (.t 0)⟩,
    ⟨none, .asg 6 (.t 1)⟩] [])
  (.ops [] [⟨none, .mv (.v 5)⟩,
    ⟨none, .mv (.v 5)⟩,
    ⟨none, .nck (.t 1)⟩,
    ⟨none, .fA 3 (.t 2)⟩,
    ⟨none, .mv (.v 6)⟩,
    ⟨none, .ld (.t 3)⟩,
    ⟨none, .call 182 [(.i (-1)), (.t 4)]⟩,
    ⟨none, .bldS (ints []) 1 [(0, (.t 6))]⟩,
    ⟨none, .app 1 24 (.t 5) (.t 7)⟩,
    ⟨none, .nck (.t 0)⟩,
    ⟨none, .fA 3 (.t 9)⟩,
    ⟨none, .st (.t 10) (.t 8)⟩] [])))
  (.ops [] [⟨none, .bin .add (.v 9) (.i 1)⟩,
    ⟨none, .asg 9 (.t 0)⟩] []))))))
  (.seq (.ops [] [⟨none, .mv (.v 5)⟩,
    ⟨none, .dyn (.k (.fn 183 [])) [(.t 0)]⟩,
    ⟨none, .asg 4 (.t 1)⟩] [])
  .ret))))
def tr_impl_setMaps : List Nat := [0, 1, 2, 3, 8, 9, 11, 21, 22, 23]
def rs_impl_setMaps : List RS := [.t 4]
theorem ok_impl_setMaps : fnOk Go.Proofs.Try.prog Go.Proofs.Try.f161 tr_impl_setMaps c_impl_setMaps 4 rs_impl_setMaps = true := by decide +kernel

theorem ret_impl_setMaps (f g : Sf) (M : Nat) (hM : M ≤ 1000000) (ht : Two f g) (hone : ∀ x, x < f.shp.idn.length → 0 < f.sz1 x) (L : List (List (List Int))) (hL : EnM f g (openP f) L) :
    RetG Go.Proofs.Try.prog 161 [.ptr f.cells, .ptr g.cells, .bool false, .fn 162 [.adr 0 [(0, 0)]]] [fB 1, oB [], cB M] (.bool (decide ((cols L).length ≤ M))) [fB 1, oB ((cols L).take (M + 1)), cB M] := by
  refine ret_fnG .tree Go.Proofs.Try.func161 rfl ok_impl_setMaps rfl ⟨by simp only [List.length_cons, List.length_nil]; decide, by simp only [List.length_cons, List.length_nil]; decide⟩ rfl ?_; unfold c_impl_setMaps tr_impl_setMaps rs_impl_setMaps; simp only [go_sem, Nat.reduceLT, Nat.reduceAdd, Nat.reduceSub, Nat.reduceBEq, Nat.reduceLeDiff, ↓reduceIte]
  have hsl := ht.okf.szl
  have h8 := ht.okf.cs.idl
  have hol : (openP f).length = f.sz.length := by unfold openP; simp
  refine loop_set [6] (fun (x : Nat) => [(9, .int .i64 x), (5, .box [.ptr f.cells, .ptr g.cells, .bool false, (match x with | 0 => .nils (ints []) | x + 1 => .o (intss ((openP f).take (x + 1)))), .fn 162 [.adr 10 [(0, 0)]]])]) (fun x => x ≤ f.sz.length) (fun x => f.sz.length - x) 0 (by simp only [go_sem, Nat.reduceLT, Nat.reduceBEq, ↓reduceIte]; rfl) (Nat.zero_le _) rfl ?_
  rintro x hx
  cases x with
  | zero =>
    simp only [go_sem, Nat.reduceLT, Nat.reduceAdd, Nat.reduceSub, Nat.reduceBEq, Nat.reduceLeDiff, ↓reduceIte]
    refine ⟨fun h => ?_, fun h => ?_⟩
    · refine ⟨h, ?_⟩
      have hgi := ht.okf.szi (x := ((0 : Nat) : Int)) (by omega) (by omega)
      rw [Int.toNat_natCast] at hgi
      refine call_of (ret_impl_repeated (-1) (f.sz.getD 0 0) hgi.1 (by omega)) rfl (.inl (nv_ints _)) ?_
      simp only [go_sem, Nat.reduceLT, Nat.reduceAdd, Nat.reduceSub, Nat.reduceEqDiff, Nat.reduceBEq, Nat.reduceLeDiff, ↓reduceIte]
      have e : (lst ints [] [List.replicate (f.sz.getD 0 0).toNat (-1)]) = intss ((openP f).take (0 + 1)) := by rw [openP_take h]; rfl
      exact ⟨by decide, 1, by omega, by omega, by rw [e]; rfl⟩
    · have hP : openP f = [] := List.length_eq_zero_iff.1 (by omega)
      refine g_call [5, 10, 11, 12] false (ret_run0 f g M hM ht (by omega) hP L hL) (by exact ⟨by decide, rfl⟩) (by repeat (first | exact trivial | refine ⟨rfl, ?_⟩)) (by repeat (first | exact trivial | refine ⟨.inl rfl, ?_⟩ | refine ⟨.inr ⟨rfl, rfl⟩, ?_⟩)) (by repeat (first | exact trivial | refine ⟨(fun h => by cases h), ?_⟩)) (fun h => by cases h) ?_
      simp only [go_sem, Nat.reduceLT, Nat.reduceAdd, Nat.reduceSub, Nat.reduceBEq, Nat.reduceLeDiff, ↓reduceIte]
  | succ x =>
    simp only [go_sem, Nat.reduceLT, Nat.reduceAdd, Nat.reduceSub, Nat.reduceBEq, Nat.reduceLeDiff, ↓reduceIte]
    refine ⟨fun h => ?_, fun h => ?_⟩
    · refine ⟨h, ?_⟩
      have hgi := ht.okf.szi (x := ((x + 1 : Nat) : Int)) (by omega) (by omega)
      rw [Int.toNat_natCast] at hgi
      refine call_of (ret_impl_repeated (-1) (f.sz.getD (x + 1) 0) hgi.1 (by omega)) rfl (.inl (nv_ints _)) ?_
      simp only [go_sem, Nat.reduceLT, Nat.reduceAdd, Nat.reduceSub, Nat.reduceEqDiff, Nat.reduceBEq, Nat.reduceLeDiff, ↓reduceIte]
      refine ⟨by rw [List.length_take]; omega, x + 2, by omega, by omega, ?_⟩
      rw [wrap_lt h (by simp only [maxLen]; omega), ← openP_take h]
    · rw [List.take_of_length_le (l := openP f) (by omega)]
      refine g_call [5, 10, 11, 12] false (ret_run f g M hM ht hone _ (openP f) [] L (Nat.lt_succ_self _) (openP_pt ht) (openP_clo ht) (Nat.zero_le _) hL) (by exact ⟨by decide, rfl⟩) (by repeat (first | exact trivial | refine ⟨rfl, ?_⟩)) (by repeat (first | exact trivial | refine ⟨.inl rfl, ?_⟩ | refine ⟨.inr ⟨rfl, rfl⟩, ?_⟩)) (by repeat (first | exact trivial | refine ⟨(fun h => by cases h), ?_⟩)) (fun h => by cases h) ?_
      simp only [go_sem, Nat.reduceLT, Nat.reduceAdd, Nat.reduceSub, Nat.reduceBEq, Nat.reduceLeDiff, ↓reduceIte]
-- (*impl.SetFunctor).sections
def c_impl_SetFunctor_sections : C :=
  (.seq (.ops [3] [⟨none, .box 1 (.v 1)⟩,
    ⟨none, .asg 2 (.k (.bool false))⟩] [(3, 0)])
  (.seq (.ops [4] [⟨none, .mv (.v 0)⟩,
    ⟨none, .nck (.t 0)⟩,
    ⟨none, .fA 0 (.t 1)⟩,
    ⟨none, .call 160 [(.t 2), (.i 1)]⟩,
    ⟨none, .alc [.int .i64 0, .nils (.int .i64 0), .nils (.int .i64 0), .nils (.int .i64 0), .nils (ints []), .nils (.int .i64 0), .nils (ints [])]⟩,
    ⟨none, .stn 7 (.t 4) (.t 3)⟩] [(4, 4)])
  (.seq (.ops [] [⟨none, .mv (.v 0)⟩,
    ⟨none, .mkf 162 [(.v 3)]⟩,
    ⟨none, .dyn (.k (.fn 161 [])) [(.v 4), (.t 0), (.k (.bool false)), (.t 1)]⟩,
    ⟨none, .asg 2 (.t 2)⟩] [])
  .ret)))
def tr_impl_SetFunctor_sections : List Nat := [0, 1, 4, 3, 5]
def rs_impl_SetFunctor_sections : List RS := [.t 2]
theorem ok_impl_SetFunctor_sections : fnOk Go.Proofs.Try.prog Go.Proofs.Try.f129 tr_impl_SetFunctor_sections c_impl_SetFunctor_sections 2 rs_impl_SetFunctor_sections = true := by decide +kernel

theorem ret_sections (g : Sf) (M : Nat) (hM : M ≤ 1000000) (hg : g.isB = true) (hcc : Cat.cost g.shp ≤ 1048576) (L : List (List (List Int))) (hL : EnM (oneSf g.shp) g (openP (oneSf g.shp)) L) :
    RetG Go.Proofs.Try.prog 129 [.ptr g.cells, .fn 130 [.adr 0 [(0, 0)], .adr 1 [(0, 0)]]] [oB [], cB M] (.bool (decide ((cols L).length ≤ M))) [oB ((cols L).take (M + 1)), cB M] := by
  have ht := one_two hg
  refine ret_fnG .tree Go.Proofs.Try.func129 rfl ok_impl_SetFunctor_sections rfl ⟨by simp only [List.length_cons, List.length_nil]; decide, by simp only [List.length_cons, List.length_nil]; decide⟩ rfl ?_; unfold c_impl_SetFunctor_sections tr_impl_SetFunctor_sections rs_impl_SetFunctor_sections; simp only [go_sem, Nat.reduceLT, Nat.reduceAdd, Nat.reduceSub, Nat.reduceBEq, Nat.reduceLeDiff, ↓reduceIte]
  refine call_wk (bs := [.ptr g.shp.cells, .int .i64 1]) (ret_impl_constantSets g.shp hcc ht.okf.cs) rfl ⟨.inr ⟨5, _, rfl, rfl⟩, .inl rfl, trivial⟩ (.inl (nv_Sf _)) ?_
  simp only [go_sem, Nat.reduceLT, Nat.reduceAdd, Nat.reduceSub, Nat.reduceEqDiff, Nat.reduceBEq, Nat.reduceLeDiff, ↓reduceIte]
  refine g_call [3, 5, 6] true (ret_impl_setMaps (oneSf g.shp) g M hM ht (fun x hx => by rw [oneSf_sz1 (c := g.shp) ht.okg.cs hx]; decide) L hL) (by exact ⟨by decide, rfl⟩) (by repeat (first | exact trivial | refine ⟨rfl, ?_⟩)) (by repeat (first | exact trivial | refine ⟨.inl rfl, ?_⟩ | refine ⟨.inr ⟨rfl, rfl⟩, ?_⟩)) (by repeat (first | exact trivial | refine ⟨(fun h => by cases h), ?_⟩)) (fun _ => ⟨rfl, by simp only [tightXL, D.tightX, tightCL, D.tightC, D.tight, tightL, nv_intss, Bool.and_true]⟩) ?_
  simp only [go_sem, Nat.reduceLT, Nat.reduceAdd, Nat.reduceSub, Nat.reduceBEq, Nat.reduceLeDiff, ↓reduceIte]
-- (*impl.SetFunctor).globalSections
def c_impl_SetFunctor_globalSections : C :=
  (.seq (.ops [4] [⟨none, .box 1 (.v 1)⟩,
    ⟨none, .asg 2 (.k (.nils (ints [])))⟩,
    ⟨none, .asg 3 (.k (.bool false))⟩] [(4, 0)])
  (.seq (.ops [5] [⟨none, .bldS (ints []) 0 []⟩,
    ⟨none, .alc [.nils (ints [])]⟩,
    ⟨none, .st (.t 1) (.t 0)⟩] [(5, 1)])
  (.seq (.ops [] [⟨none, .mv (.v 0)⟩,
    ⟨none, .mkf 130 [(.v 5), (.v 4)]⟩,
    ⟨none, .dyn (.k (.fn 129 [])) [(.t 0), (.t 1)]⟩,
    ⟨none, .asg 6 (.t 2)⟩] [])
  (.seq (.ops [] [⟨none, .ld (.v 5)⟩,
    ⟨none, .mv (.v 6)⟩,
    ⟨none, .asg 2 (.t 0)⟩,
    ⟨none, .asg 3 (.t 1)⟩] [])
  .ret))))
def tr_impl_SetFunctor_globalSections : List Nat := [0, 1, 4, 5, 3, 6, 7]
def rs_impl_SetFunctor_globalSections : List RS := [.t 2, .t 3]
theorem ok_impl_SetFunctor_globalSections : fnOk Go.Proofs.Try.prog Go.Proofs.Try.f86 tr_impl_SetFunctor_globalSections c_impl_SetFunctor_globalSections 2 rs_impl_SetFunctor_globalSections = true := by decide +kernel

theorem ret_gsections (g : Sf) (M : Nat) (hM : M ≤ 1000000) (hg : g.isB = true) (hcc : Cat.cost g.shp ≤ 1048576) (L : List (List (List Int))) (hL : EnM (oneSf g.shp) g (openP (oneSf g.shp)) L) :
    Ret Go.Proofs.Try.prog 86 [.v (.ptr g.cells), .v (.int .i64 M)] (.tup [intss ((cols L).take (M + 1)), .bool (decide ((cols L).length ≤ M))]) := by
  refine ret_fn Go.Proofs.Try.func86 ok_impl_SetFunctor_globalSections rfl (show 2 < 500 by decide) rfl ?_; unfold c_impl_SetFunctor_globalSections tr_impl_SetFunctor_globalSections rs_impl_SetFunctor_globalSections; simp only [go_sem, Nat.reduceLT, Nat.reduceAdd, Nat.reduceSub, Nat.reduceEqDiff, ↓reduceIte]
  refine g_call [5, 4] false (ret_sections g M hM hg hcc L hL) (by exact ⟨by decide, rfl⟩) (by repeat (first | exact trivial | refine ⟨rfl, ?_⟩)) (by repeat (first | exact trivial | refine ⟨.inl rfl, ?_⟩ | refine ⟨.inr ⟨rfl, rfl⟩, ?_⟩)) (by repeat (first | exact trivial | refine ⟨(fun h => by cases h), ?_⟩)) (fun h => by cases h) ?_
  simp only [go_sem, Nat.reduceLT, Nat.reduceAdd, Nat.reduceSub, Nat.reduceBEq, ↓reduceIte]
abbrev secD (p : List (List Int) × Int) : D := .tup [intss p.1, .int .i64 p.2]
-- impl.GlobalSections
def c_impl_GlobalSections : C :=
  (.seq (.ops [3] [⟨none, .boxv 7 (.v 0)⟩,
    ⟨none, .asg 1 (.k (.nils (ints [])))⟩,
    ⟨none, .asg 2 (.i 0)⟩] [(3, 0)])
  (.seq (.opc [] [⟨none, .call 85 [(.v 3)]⟩,
    ⟨none, .not (.t 0)⟩] [] (.t 1) (.seq (.ops [] [⟨none, .asg 1 (.k (.nils (ints [])))⟩,
    ⟨none, .asg 2 (.i 1)⟩] [])
  .ret)
  .skip)
  (.seq (.ops [] [⟨none, .call 86 [(.v 3), (.i 200)]⟩,
    ⟨none, .mv (.t 0)⟩,
    ⟨none, .ext 0 (.t 1)⟩,
    ⟨none, .ext 1 (.t 1)⟩,
    ⟨none, .asg 4 (.t 2)⟩,
    ⟨none, .asg 5 (.t 3)⟩] [])
  (.seq (.opc [] [⟨none, .mv (.v 5)⟩,
    ⟨none, .not (.t 0)⟩] [] (.t 1) (.seq (.ops [] [⟨none, .asg 1 (.k (.nils (ints [])))⟩,
    ⟨none, .asg 2 (.i 3)⟩] [])
  .ret)
  .skip)
  (.seq (.ops [] [⟨none, .mv (.v 4)⟩,
    ⟨none, .asg 1 (.t 0)⟩,
    ⟨none, .asg 2 (.i 0)⟩] [])
  .ret)))))
def tr_impl_GlobalSections : List Nat := [0, 2, 3, 1, 4, 5]
def rs_impl_GlobalSections : List RS := [.t 1, .t 2]
theorem ok_impl_GlobalSections : fnOk Go.Proofs.Try.prog Go.Proofs.Try.f38 tr_impl_GlobalSections c_impl_GlobalSections 1 rs_impl_GlobalSections = true := by decide +kernel

theorem ret_impl_GlobalSections (g : Sf) (hcc : Sf.cost g ≤ 1048576) (L : List (List (List Int))) (hL : g.isB = true → EnM (oneSf g.shp) g (openP (oneSf g.shp)) L) :
    Ret Go.Proofs.Try.prog 38 [.v g.d] (secD (secF g L)) := by
  have hc : Cat.cost g.shp ≤ 1048576 := by unfold Sf.cost at hcc; omega
  refine ret_fn Go.Proofs.Try.func38 ok_impl_GlobalSections rfl (show 1 < 500 by decide) rfl ?_; unfold c_impl_GlobalSections tr_impl_GlobalSections rs_impl_GlobalSections; simp only [go_sem, Nat.reduceLT, Nat.reduceAdd, Nat.reduceSub, ↓reduceIte]
  refine call_of (ret_impl_SetFunctor_isSetFunctor g) rfl (.inl rfl) ?_
  simp only [go_sem, Nat.reduceLT, Nat.reduceAdd, Nat.reduceSub, ↓reduceIte]
  refine ⟨fun h => ?_, fun h => ?_⟩
  · rw [Bool.not_eq_true'] at h
    unfold secF; rw [if_pos h]
  rw [Bool.not_eq_false'] at h
  refine call_of (ret_gsections g 200 (by decide) h hc L (hL h)) rfl (.inl (by simp only [D.novw, novwL, nv_intss, Bool.and_true])) ?_
  simp only [go_sem, Nat.reduceLT, Nat.reduceAdd, Nat.reduceSub, Nat.reduceBEq, Nat.reduceLeDiff, ↓reduceIte]
  refine ⟨fun h3 => ?_, fun h3 => ?_⟩
  · simp only [Bool.not_eq_true', decide_eq_false_iff_not] at h3
    unfold secF; rw [h, if_neg (by simp), if_neg h3]
  · simp only [Bool.not_eq_false', decide_eq_true_eq] at h3
    unfold secF; rw [h, if_neg (by simp), if_pos h3, List.take_of_length_le (by omega)]
-- spec.GlobalSections
def c_spec_GlobalSections : C :=
  (.seq (.ops [3] [⟨none, .boxv 7 (.v 0)⟩,
    ⟨none, .asg 1 (.k (.nils (ints [])))⟩,
    ⟨none, .asg 2 (.i 0)⟩] [(3, 0)])
  (.seq (.opc [] [⟨none, .lda 7 (.v 3)⟩,
    ⟨none, .call 81 [(.t 0)]⟩,
    ⟨none, .not (.t 1)⟩] [] (.t 2) (.seq (.ops [] [⟨none, .asg 1 (.k (.nils (ints [])))⟩,
    ⟨none, .asg 2 (.i 1)⟩] [])
  .ret)
  .skip)
  (.seq (.ops [] [⟨none, .fA 0 (.v 3)⟩,
    ⟨none, .lda 5 (.t 0)⟩,
    ⟨none, .call 83 [(.t 1), (.i 1)]⟩,
    ⟨none, .lda 7 (.v 3)⟩,
    ⟨none, .call 82 [(.t 2), (.t 3), (.k (.bool false)), (.i 201)]⟩,
    ⟨none, .asg 4 (.t 4)⟩] [])
  (.seq (.opc [] [⟨none, .mv (.v 4)⟩,
    ⟨none, .len (.t 0)⟩,
    ⟨none, .bin .gtr (.t 1) (.i 200)⟩] [] (.t 2) (.seq (.ops [] [⟨none, .asg 1 (.k (.nils (ints [])))⟩,
    ⟨none, .asg 2 (.i 3)⟩] [])
  .ret)
  .skip)
  (.seq (.ops [] [⟨none, .bldS (ints []) 0 []⟩,
    ⟨none, .asg 5 (.t 0)⟩] [])
  (.seq (.seq (.ops [] [⟨none, .asg 6 (.i 0)⟩] [])
  (.block 0 (.loop (.seq (.opc [] [⟨none, .mv (.v 6)⟩,
    ⟨none, .mv (.v 4)⟩,
    ⟨none, .len (.t 1)⟩,
    ⟨none, .bin .lss (.t 0) (.t 2)⟩] [] (.t 3) .skip
  (.exit 0))
  (.seq (.block 1 (.ops [] [⟨none, .mv (.v 5)⟩,
    ⟨none, .mv (.v 4)⟩,
    ⟨none, .mv (.v 6)⟩,
    ⟨none, .idxA 1 (.t 1) (.t 2)⟩,
    ⟨none, .ld (.t 3)⟩,
    ⟨none, .call 84 [(.t 4)]⟩,
    ⟨none, .bldS (ints []) 1 [(0, (.t 5))]⟩,
    ⟨none, .app 1 24 (.t 0) (.t 6)⟩,
    ⟨none, .asg 5 (.t 7)⟩] []))
  (.ops [] [⟨none, .mv (.v 6)⟩,
    ⟨none, .bin .add (.t 0) (.i 1)⟩,
    ⟨none, .asg 6 (.t 1)⟩] []))))))
  (.seq (.ops [] [⟨none, .mv (.v 5)⟩,
    ⟨none, .asg 1 (.t 0)⟩,
    ⟨none, .asg 2 (.i 0)⟩] [])
  .ret)))))))
def tr_spec_GlobalSections : List Nat := [0, 2, 3, 1, 4, 5, 6]
def rs_spec_GlobalSections : List RS := [.t 1, .t 2]
theorem ok_spec_GlobalSections : fnOk Go.Proofs.Try.prog Go.Proofs.Try.f36 tr_spec_GlobalSections c_spec_GlobalSections 1 rs_spec_GlobalSections = true := by decide +kernel

theorem ret_spec_GlobalSections (g : Sf) (hcc : Sf.cost g ≤ 1048576) (L : List (List (List Int))) (hL : g.isB = true → EnM (oneSf g.shp) g (openP (oneSf g.shp)) L) :
    Ret Go.Proofs.Try.prog 36 [.v g.d] (secD (secF g L)) := by
  have hc : Cat.cost g.shp ≤ 1048576 := by unfold Sf.cost at hcc; omega
  refine ret_fn Go.Proofs.Try.func36 ok_spec_GlobalSections rfl (show 1 < 500 by decide) rfl ?_; unfold c_spec_GlobalSections tr_spec_GlobalSections rs_spec_GlobalSections; simp only [go_sem, Nat.reduceLT, Nat.reduceAdd, Nat.reduceSub, Nat.reduceLeDiff, ↓reduceIte]
  refine call_of (ret_spec_l19Is g) rfl (.inl rfl) ?_
  simp only [go_sem, Nat.reduceLT, Nat.reduceAdd, Nat.reduceSub, Nat.reduceLeDiff, ↓reduceIte]
  refine ⟨fun h => ?_, fun h => ?_⟩
  · rw [Bool.not_eq_true'] at h
    unfold secF; rw [if_pos h]
  rw [Bool.not_eq_false'] at h
  have ht := one_two h
  refine call_of (ret_spec_l19Constant g.shp hc ht.okf.cs) rfl (.inl (nv_Sf _)) ?_
  simp only [go_sem, Nat.reduceLT, Nat.reduceAdd, Nat.reduceSub, Nat.reduceLeDiff, ↓reduceIte]
  refine call_of (ret_spec_l19Maps (oneSf g.shp) g ht L (hL h)) rfl (.inl (nv_lst nv_intss _)) ?_
  simp only [go_sem, Nat.reduceLT, Nat.reduceAdd, Nat.reduceSub, ↓reduceIte]
  have hm := fun P hP => sec_row h (hL h) (P := P) hP
  refine ⟨fun h3 => ?_, fun h3 => ?_⟩
  · unfold secF; rw [h, if_neg (by simp), if_neg (by rw [List.length_take] at h3; simp only [cols, List.length_map]; omega)]
  have hl2 : L.length ≤ 200 := by rw [List.length_take] at h3; omega
  rw [List.take_of_length_le (by omega)]
  refine loop_set [] (fun (i : Nat) => [(5, .o (intss (cols (L.take i)))), (6, .int .i64 i)]) (fun i => i ≤ L.length) (fun i => L.length - i) 0 (by simp only [go_sem]; rfl) (Nat.zero_le _) rfl ?_
  rintro i hi
  simp only [go_sem, Nat.reduceLT, Nat.reduceAdd, Nat.reduceSub, Nat.reduceBEq, Nat.reduceLeDiff, ↓reduceIte]
  refine ⟨fun h4 => ?_, fun h4 => ?_⟩
  · have hmi := hm (L.getD i []) (by rw [getD_lt h4]; exact List.getElem_mem _)
    have h8 := ht.okg.cs.idl
    refine ⟨h4, call_of (ret_spec_l01Flat (L.getD i []) hmi.2 (by omega)) rfl (.inl (nv_ints _)) ?_⟩
    simp only [go_sem, Nat.reduceLT, Nat.reduceAdd, Nat.reduceSub, Nat.reduceEqDiff, Nat.reduceBEq, ↓reduceIte]
    refine ⟨by simp only [cols, List.length_map, List.length_take]; omega, i + 1, by omega, by omega, ?_⟩
    rw [wrap_lt h4 (by simp only [maxLen]; omega), take_snoc h4 [], cols_app]; rfl
  · rw [show i = L.length by omega, List.take_length]
    unfold secF; rw [h, if_neg (by simp), if_pos (by simpa [cols] using hl2)]
end Go.D3

/- CONTRACTS: the law FnExactGlobalSections. -/
namespace Go.D3
open Go
set_option maxRecDepth 100000
set_option maxHeartbeats 4000000
theorem cost2_sum {a : List (List Int)} : cost2 a a.length ≤ costL List.length a := by
  have : ∀ i, i ≤ a.length → cost2 a i = ((a.take i).map List.length).sum := by
    intro i
    induction i with
    | zero => intro _; simp [cost2]
    | succ i ih => intro h; rw [cost2, ih (by omega), sum_take (cost := List.length) (by omega) []]
  rw [this _ (Nat.le_refl _), List.take_length]; unfold costL; omega
theorem sf_mcost_le (g : Sf) : g.mcost ≤ g.cost := by
  have h1 := cost2_sum (a := g.shp.co)
  have h2 := cost2_sum (a := g.act)
  unfold Sf.mcost Sf.cost Cat.mcost Cat.cost; omega
-- laws.FnExactGlobalSections
def c_laws_FnExactGlobalSections : C :=
  (.seq (.ops [2] [⟨none, .boxv 7 (.v 0)⟩,
    ⟨none, .asg 1 (.k (.bool false))⟩] [(2, 0)])
  (.seq (.ops [] [⟨none, .asg 3 (.i 1048576)⟩] [])
  (.seq (.ops [] [⟨none, .lda 7 (.v 2)⟩,
    ⟨none, .mv (.v 3)⟩,
    ⟨none, .call 35 [(.t 0), (.t 1)]⟩,
    ⟨none, .asg 3 (.t 2)⟩] [])
  (.seq (.opc [] [⟨none, .mv (.v 3)⟩,
    ⟨none, .bin .lss (.t 0) (.i 0)⟩] [] (.t 1) (.seq (.ops [] [⟨none, .asg 1 (.k (.bool true))⟩] [])
  .ret)
  .skip)
  (.seq (.ops [] [⟨none, .lda 7 (.v 2)⟩,
    ⟨none, .call 37 [(.t 0)]⟩,
    ⟨none, .call 36 [(.t 1)]⟩,
    ⟨none, .mv (.t 2)⟩,
    ⟨none, .ext 0 (.t 3)⟩,
    ⟨none, .ext 1 (.t 3)⟩,
    ⟨none, .asg 4 (.t 4)⟩,
    ⟨none, .asg 5 (.t 5)⟩] [])
  (.seq (.ops [6] [⟨none, .lda 7 (.v 2)⟩,
    ⟨none, .call 37 [(.t 0)]⟩,
    ⟨none, .alc [.int .i64 0, .nils (.int .i64 0), .nils (.int .i64 0), .nils (.int .i64 0), .nils (ints []), .nils (.int .i64 0), .nils (ints [])]⟩,
    ⟨none, .stn 7 (.t 2) (.t 1)⟩] [(6, 2)])
  (.seq (.ops [] [⟨none, .lda 7 (.v 6)⟩,
    ⟨none, .call 38 [(.t 0)]⟩,
    ⟨none, .mv (.t 1)⟩,
    ⟨none, .ext 0 (.t 2)⟩,
    ⟨none, .ext 1 (.t 2)⟩,
    ⟨none, .asg 7 (.t 3)⟩,
    ⟨none, .asg 8 (.t 4)⟩] [])
  (.seq (.opc [] [⟨none, .mv (.v 7)⟩,
    ⟨none, .mv (.v 4)⟩,
    ⟨none, .call 39 [(.t 0), (.t 1)]⟩,
    ⟨none, .not (.t 2)⟩,
    ⟨none, .mv (.t 3)⟩,
    ⟨some (4, false), .mv (.v 8)⟩,
    ⟨some (4, false), .mv (.v 5)⟩,
    ⟨some (4, false), .bin .neq (.t 5) (.t 6)⟩,
    ⟨none, .pick (.t 4) (.k (.bool true)) (.t 7)⟩] [] (.t 8) (.seq (.ops [] [⟨none, .asg 1 (.k (.bool false))⟩] [])
  .ret)
  .skip)
  (.seq (.opc [] [⟨none, .lda 7 (.v 6)⟩,
    ⟨none, .lda 7 (.v 2)⟩,
    ⟨none, .call 37 [(.t 1)]⟩,
    ⟨none, .call 23 [(.t 0), (.t 2)]⟩,
    ⟨none, .not (.t 3)⟩] [] (.t 4) (.seq (.ops [] [⟨none, .asg 1 (.k (.bool false))⟩] [])
  .ret)
  .skip)
  (.seq (.ops [] [⟨none, .asg 9 (.i 1)⟩] [])
  (.seq (.ops [] [⟨none, .lda 7 (.v 6)⟩,
    ⟨none, .mv (.v 9)⟩,
    ⟨none, .calle 25 [(.t 0), (.t 1)]⟩,
    ⟨none, .asg 9 (.t 2)⟩] [])
  (.seq (.opc [] [⟨none, .mv (.v 9)⟩,
    ⟨none, .bin .lss (.t 0) (.i 0)⟩,
    ⟨none, .mv (.t 1)⟩,
    ⟨some (2, false), .mv (.v 7)⟩,
    ⟨some (2, false), .mv (.v 4)⟩,
    ⟨some (2, false), .call 39 [(.t 3), (.t 4)]⟩,
    ⟨some (2, false), .not (.t 5)⟩,
    ⟨none, .pick (.t 2) (.k (.bool true)) (.t 6)⟩,
    ⟨none, .mv (.t 7)⟩,
    ⟨some (8, false), .mv (.v 8)⟩,
    ⟨some (8, false), .mv (.v 5)⟩,
    ⟨some (8, false), .bin .neq (.t 9) (.t 10)⟩,
    ⟨none, .pick (.t 8) (.k (.bool true)) (.t 11)⟩] [] (.t 12) (.seq (.ops [] [⟨none, .asg 1 (.k (.bool false))⟩] [])
  .ret)
  .skip)
  (.seq (.ops [] [⟨none, .asg 10 (.i 1)⟩] [])
  (.seq (.ops [] [⟨none, .mv (.v 7)⟩,
    ⟨none, .mv (.v 10)⟩,
    ⟨none, .calle 40 [(.t 0), (.t 1)]⟩,
    ⟨none, .asg 10 (.t 2)⟩] [])
  (.seq (.ops [] [⟨none, .asg 11 (.i 1)⟩] [])
  (.seq (.ops [] [⟨none, .mv (.v 7)⟩,
    ⟨none, .mv (.v 11)⟩,
    ⟨none, .call 41 [(.t 0), (.t 1)]⟩,
    ⟨none, .asg 11 (.t 2)⟩] [])
  (.seq (.opc [] [⟨none, .mv (.v 11)⟩,
    ⟨none, .bin .lss (.t 0) (.i 0)⟩] [] (.t 1) (.seq (.ops [] [⟨none, .asg 1 (.k (.bool false))⟩] [])
  .ret)
  .skip)
  (.seq (.opc [] [⟨none, .mv (.v 11)⟩,
    ⟨none, .mv (.v 10)⟩,
    ⟨none, .bin .neq (.t 0) (.t 1)⟩] [] (.t 2) (.seq (.ops [] [⟨none, .asg 1 (.k (.bool false))⟩] [])
  .ret)
  .skip)
  (.seq (.ops [] [⟨none, .lda 7 (.v 2)⟩,
    ⟨none, .call 37 [(.t 0)]⟩,
    ⟨none, .call 38 [(.t 1)]⟩,
    ⟨none, .mv (.t 2)⟩,
    ⟨none, .ext 0 (.t 3)⟩,
    ⟨none, .ext 1 (.t 3)⟩,
    ⟨none, .asg 12 (.t 4)⟩,
    ⟨none, .asg 13 (.t 5)⟩] [])
  (.seq (.opc [] [⟨none, .mv (.v 12)⟩,
    ⟨none, .mv (.v 4)⟩,
    ⟨none, .call 39 [(.t 0), (.t 1)]⟩,
    ⟨none, .not (.t 2)⟩,
    ⟨none, .mv (.t 3)⟩,
    ⟨some (4, false), .mv (.v 13)⟩,
    ⟨some (4, false), .mv (.v 5)⟩,
    ⟨some (4, false), .bin .neq (.t 5) (.t 6)⟩,
    ⟨none, .pick (.t 4) (.k (.bool true)) (.t 7)⟩] [] (.t 8) (.seq (.ops [] [⟨none, .asg 1 (.k (.bool false))⟩] [])
  .ret)
  .skip)
  (.seq (.ops [] [⟨none, .asg 11 (.i 1)⟩] [])
  (.seq (.ops [] [⟨none, .mv (.v 7)⟩,
    ⟨none, .mv (.v 11)⟩,
    ⟨none, .call 41 [(.t 0), (.t 1)]⟩,
    ⟨none, .asg 11 (.t 2)⟩] [])
  (.seq (.opc [] [⟨none, .mv (.v 11)⟩,
    ⟨none, .bin .lss (.t 0) (.i 0)⟩] [] (.t 1) (.seq (.ops [] [⟨none, .asg 1 (.k (.bool false))⟩] [])
  .ret)
  .skip)
  (.seq (.opc [] [⟨none, .mv (.v 11)⟩,
    ⟨none, .mv (.v 10)⟩,
    ⟨none, .bin .neq (.t 0) (.t 1)⟩] [] (.t 2) (.seq (.ops [] [⟨none, .asg 1 (.k (.bool false))⟩] [])
  .ret)
  .skip)
  (.seq (.ops [] [⟨none, .asg 1 (.k (.bool true))⟩] [])
  .ret)))))))))))))))))))))))))
def tr_laws_FnExactGlobalSections : List Nat := [0, 2, 1, 3, 4, 5, 6, 7, 8, 9, 10, 11, 12, 13]
def rs_laws_FnExactGlobalSections : List RS := [.t 1]
theorem ok_laws_FnExactGlobalSections : fnOk Go.Proofs.Try.prog Go.Proofs.Try.f8 tr_laws_FnExactGlobalSections c_laws_FnExactGlobalSections 1 rs_laws_FnExactGlobalSections = true := by decide +kernel

theorem ret_laws_FnExactGlobalSections (g : Sf) : Ret Go.Proofs.Try.prog 8 [.v (Sf.d g)] (.bool true) := by
  obtain ⟨L, hL⟩ := secL g
  refine ret_fn Go.Proofs.Try.func8 ok_laws_FnExactGlobalSections rfl (show 1 < 500 by decide) rfl ?_; unfold c_laws_FnExactGlobalSections tr_laws_FnExactGlobalSections rs_laws_FnExactGlobalSections; simp only [go_sem, Nat.reduceLT, Nat.reduceAdd, Nat.reduceSub, Nat.reduceLeDiff, ↓reduceIte]
  refine call_of (ret_laws_szSetFunctor g _ (by decide) (by decide)) rfl (.inl rfl) ?_
  simp only [go_sem, Nat.reduceLT, Nat.reduceAdd, Nat.reduceSub, Nat.reduceLeDiff, ↓reduceIte]
  refine fun h0 => ?_
  obtain ⟨hs_g, hl0, hh0⟩ := sb_ok (left := 1048576) (n := Sf.cost g) (by decide) (by decide) (by omega)
  have hA1 := sf_mcost_le g
  have hR := secF_cost g L hL
  have hsp := ret_spec_GlobalSections g hs_g L hL
  have him := ret_impl_GlobalSections g hs_g L hL
  generalize secF g L = R at hR hsp him
  refine call_of (ret_laws_toSetFunctor g hs_g) rfl (.inl (nv_Sf _)) ?_
  simp only [go_sem, Nat.reduceLT, Nat.reduceAdd, Nat.reduceSub, ↓reduceIte]
  refine call_of (hsp) rfl (.inl (by simp only [D.novw, novwL, nv_intss, Bool.and_true])) ?_
  simp only [go_sem, Nat.reduceLT, Nat.reduceAdd, Nat.reduceSub, Nat.reduceBEq, Nat.reduceLeDiff, ↓reduceIte]
  refine call_of (ret_laws_toSetFunctor g hs_g) rfl (.inl (nv_Sf _)) ?_
  simp only [go_sem, Nat.reduceLT, Nat.reduceAdd, Nat.reduceSub, Nat.reduceEqDiff, ↓reduceIte]
  refine call_of (him) rfl (.inl (by simp only [D.novw, novwL, nv_intss, Bool.and_true])) ?_
  simp only [go_sem, Nat.reduceLT, Nat.reduceAdd, Nat.reduceSub, Nat.reduceBEq, Nat.reduceLeDiff, ↓reduceIte]
  refine call_of (ret_laws_eqInt64SS R.1) rfl (.inl rfl) ?_
  simp only [go_sem, Nat.reduceLT, Nat.reduceAdd, Nat.reduceSub, Nat.reduceLeDiff, ↓reduceIte]
  refine ⟨fun hh => by simp at hh, fun _ => ?_⟩
  refine call_of (ret_laws_toSetFunctor g hs_g) rfl (.inl (nv_Sf _)) ?_
  simp only [go_sem, Nat.reduceLT, Nat.reduceAdd, Nat.reduceSub, ↓reduceIte]
  refine call_of (ret_laws_eqSetFunctor g) rfl (.inl rfl) ?_
  simp only [go_sem, Nat.reduceLT, Nat.reduceAdd, Nat.reduceSub, Nat.reduceLeDiff, ↓reduceIte]
  refine io_aggH (ret_laws_markSetFunctor g 1 (by omega) (by omega)) trivial ?_
  simp only [go_sem, Nat.reduceLT, Nat.reduceEqDiff, Nat.reduceBEq, ↓reduceIte]
  refine ⟨(g.marks 1).cells, rfl, fill_of ?_⟩
  simp only [go_sem, Nat.reduceLT, Nat.reduceAdd, Nat.reduceSub, Nat.reduceBEq, ↓reduceIte]
  have hk : ∀ z : Int, 0 ≤ z → decide (z < 0) = false := fun z hz => decide_eq_false (by omega)
  simp only [hk _ (show 0 ≤ (1 : Int) + g.mcost by omega), Bool.not_false]
  refine callg_of (fun _ => ret_laws_eqInt64SS R.1) rfl (fun _ => rfl) (.inl rfl) ?_
  simp only [go_sem, Nat.reduceLT, Nat.reduceAdd, Nat.reduceSub, ↓reduceIte]
  refine ⟨fun hh => by simp at hh, fun _ => ?_⟩
  refine io_tree (ret_laws_markInt64SS R.1 1 (by omega) (by omega)) rfl trivial rfl ?_
  simp only [go_sem, Nat.reduceLT, Nat.reduceAdd, Nat.reduceSub, Nat.reduceBEq, Nat.reduceLeDiff, ↓reduceIte]
  refine call_of (ret_laws_heldInt64SS R.1 1 (by omega) (by omega)) rfl (.inl rfl) ?_
  simp only [go_sem, Nat.reduceLT, Nat.reduceAdd, Nat.reduceSub, Nat.reduceBEq, Nat.reduceLeDiff, ↓reduceIte]
  refine ⟨fun hh => by omega, fun _ => ?_⟩
  refine ⟨fun hh => by simp at hh, fun _ => ?_⟩
  refine call_of (ret_laws_toSetFunctor g hs_g) rfl (.inl (nv_Sf _)) ?_
  simp only [go_sem, Nat.reduceLT, Nat.reduceAdd, Nat.reduceSub, ↓reduceIte]
  refine call_of (him) rfl (.inl (by simp only [D.novw, novwL, nv_intss, Bool.and_true])) ?_
  simp only [go_sem, Nat.reduceLT, Nat.reduceAdd, Nat.reduceSub, Nat.reduceBEq, Nat.reduceLeDiff, ↓reduceIte]
  refine call_of (ret_laws_eqInt64SS R.1) rfl (.inl rfl) ?_
  simp only [go_sem, Nat.reduceLT, Nat.reduceAdd, Nat.reduceSub, Nat.reduceLeDiff, ↓reduceIte]
  refine ⟨fun hh => by simp at hh, fun _ => ?_⟩
  refine call_of (ret_laws_heldInt64SS R.1 1 (by omega) (by omega)) rfl (.inl rfl) ?_
  simp only [go_sem, Nat.reduceLT, Nat.reduceAdd, Nat.reduceSub, Nat.reduceBEq, Nat.reduceLeDiff, ↓reduceIte]
  refine ⟨fun hh => by omega, fun _ => ?_⟩
  simp
end Go.D3
