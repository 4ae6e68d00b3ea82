/- REGIONS THAT DRAW THEIR ORDER: quiet operations in any order, effects as barriers. Generic. -/
import Derived.Test.YtclmdejmogmifaaRun
namespace Go.D3
open Go

/-! ### Quiet operations apart from what follows -/
def rdC (ct : Nat → D) : X → D
  | .t i => opv (1000 + i) (ct (1000 + i))
  | .v j => opv j (ct j)
  | .i n => .int .i64 n
  | .k d => d

theorem rdC_st (st : St) (x : X) : rdC st.cont x = st.rd x := by cases x <;> rfl

def OpOk (P : Program) (k : Kp) (g : Option Bool) (rd : X → D) (ob : Nat → D) (c : D) : Prop :=
  match k with
  | .call f xs => ∃ ds res, gathL ob rd xs = some ds ∧ onG g (gates rd xs = true ∧ Ret P f (ds.map .v) res ∧ (res.novw = true ∨ plainL rd xs)) ∧ c = contRes g res
  | .box n x => g = none ∧ ∃ side, newR (.box n x) rd = some (side, c) ∧ side
  | .boxv n x => g = none ∧ ∃ side, newR (.boxv n x) rd = some (side, c) ∧ side
  | .alc zs => g = none ∧ ∃ side, newR (.alc zs) rd = some (side, c) ∧ side
  | .mkS z b l u => g = none ∧ ∃ side, newR (.mkS z b l u) rd = some (side, c) ∧ side
  | .bldS z n ps => g = none ∧ ∃ side, newR (.bldS z n ps) rd = some (side, c) ∧ side
  | k => ∃ side res, pev k rd ob = some (side, res) ∧ onG g side ∧ res.okc = true ∧ c = whG g res

theorem pure_split {r : Option PR} {g : Option Bool} {K : St → Prop} {st : St} (h : pureVC r g K st) : ∃ c, (∃ side res, r = some (side, res) ∧ onG g side ∧ res.okc = true ∧ c = whG g res) ∧ K (st.push c) := by
  unfold pureVC at h
  split at h
  · exact h.elim
  · exact ⟨_, ⟨_, _, rfl, h.1, h.2.1, rfl⟩, h.2.2⟩

theorem new_split {r : Option PR} {g : Option Bool} {K : St → Prop} {st : St} (h : newVC r g K st) : ∃ c, (g = none ∧ ∃ side, r = some (side, c) ∧ side) ∧ K (st.push c) := by
  unfold newVC at h
  split at h
  · exact ⟨_, ⟨rfl, _, rfl, h.1⟩, h.2⟩
  · exact h.elim

theorem op_split {P : Program} {k : Kp} {g : Option Bool} {K : St → Prop} {st : St} (hk : k.isEff = false) (h : opVC P k g K st) : ∃ c, OpOk P k g st.rd st.cont c ∧ K (st.push c) := by
  cases k <;> try (simp [Kp.isEff] at hk; done)
  case call f xs =>
    obtain ⟨dts, res, h1, h2, h3⟩ := h
    refine ⟨_, ⟨dts, res, h1, h2, rfl⟩, ?_⟩
    cases g <;> exact h3
  case box => exact new_split h
  case boxv => exact new_split h
  case alc => exact new_split h
  case mkS => exact new_split h
  case bldS => exact new_split h
  all_goals exact pure_split h

section
variable {ob ob' : Nat → D} (hm : ∀ k c, lk ob k = some c → lk ob' k = some c)
include hm

theorem lk_bind {α : Type} {k : Nat} {F : D → Option α} {r : α} (h : (lk ob k).bind F = some r) : (lk ob' k).bind F = some r := by
  rw [Option.bind_eq_some_iff] at h ⊢
  obtain ⟨c, h1, h2⟩ := h
  exact ⟨c, hm k c h1, h2⟩

theorem pev_mono {k : Kp} {rd : X → D} {r : PR} (h : pev k rd ob = some r) : pev k rd ob' = some r := by
  have g1m : ∀ {x : D} {a b : Option PR}, (∀ r, a = some r → b = some r) → g1 x a = some r → g1 x b = some r := by
    intro x a b hab ha
    cases a with
    | none => cases ha
    | some q => rw [hab q rfl]; exact ha
  have g2m : ∀ {x y : D} {a b : Option PR}, (∀ r, a = some r → b = some r) → g2 x y a = some r → g2 x y b = some r := by
    intro x y a b hab ha
    cases a with
    | none => cases ha
    | some q => rw [hab q rfl]; exact ha
  cases k <;> try exact h
  case len x =>
    refine g1m (fun r hr => ?_) h
    unfold lenR at hr ⊢
    split at hr
    · exact lk_bind hm hr
    · exact hr
  case idxA sz x i =>
    refine g2m (fun r hr => ?_) h
    unfold idxAR at hr ⊢
    split at hr
    · split at hr
      · exact lk_bind hm hr
      · exact hr
    · cases hr
  case ld a =>
    refine g1m (fun r hr => ?_) h
    unfold ldR at hr ⊢
    split at hr
    · exact hr
    · exact lk_bind hm hr
    · cases hr
  case lda n a =>
    refine g1m (fun r hr => ?_) h
    unfold ldaR at hr ⊢
    split at hr
    · exact hr
    · exact lk_bind hm hr
    · cases hr
  case fA off a =>
    refine g1m (fun r hr => ?_) h
    unfold fAR at hr ⊢
    split at hr
    · exact hr
    · exact lk_bind hm hr
    · cases hr

omit hm in
theorem mapO_mono {f g : D → Option D} (h : ∀ x y, f x = some y → g x = some y) : ∀ {l r : List D}, mapO f l = some r → mapO g l = some r
  | [], r, hr => hr
  | x :: l, r, hr => by
    simp only [mapO, Option.bind_eq_some_iff] at hr ⊢
    obtain ⟨y, h1, z, h2, h3⟩ := hr
    exact ⟨y, h x y h1, z, mapO_mono h h2, h3⟩

theorem gath_mono : ∀ (n : Nat) {d r : D}, gath ob n d = some r → gath ob' n d = some r
  | 0, d, r, h => by simp [gath] at h
  | n + 1, d, r, h => by
    have ih : ∀ x y, gath ob n x = some y → gath ob' n x = some y := fun x y => gath_mono n
    cases d <;> try exact h
    case sub k p =>
      simp only [gath] at h ⊢
      rw [Option.bind_eq_some_iff] at h ⊢
      obtain ⟨c, h1, h2⟩ := h
      refine ⟨c, hm k c h1, ?_⟩
      cases c <;> try exact h2
      rename_i z l
      simp only [Option.bind_eq_some_iff] at h2 ⊢
      obtain ⟨l', h3, h4⟩ := h2
      exact ⟨l', mapO_mono ih h3, h4⟩
    case adr k p =>
      simp only [gath] at h ⊢
      rw [Option.bind_eq_some_iff] at h ⊢
      obtain ⟨c, h1, h2⟩ := h
      refine ⟨c, hm k c h1, ?_⟩
      split at h2
      · simp only [Option.bind_eq_some_iff] at h2 ⊢
        obtain ⟨l', h3, h4⟩ := h2
        exact ⟨l', mapO_mono ih h3, h4⟩
      · cases h2
    case agg l =>
      simp only [gath, Option.bind_eq_some_iff] at h ⊢
      obtain ⟨l', h3, h4⟩ := h
      exact ⟨l', mapO_mono ih h3, h4⟩
    case fn f caps =>
      cases caps <;> exact h

theorem gathL_mono {rd : X → D} : ∀ {xs : List X} {l : List D}, gathL ob rd xs = some l → gathL ob' rd xs = some l
  | [], l, h => h
  | x :: r, l, h => by
    simp only [gathL, Option.bind_eq_some_iff] at h ⊢
    obtain ⟨y, h1, z, h2, h3⟩ := h
    exact ⟨y, gath_mono hm 4 h1, z, gathL_mono h2, h3⟩

theorem OpOk.mono {P : Program} {k : Kp} {g : Option Bool} {rd : X → D} {c : D} (h : OpOk P k g rd ob c) : OpOk P k g rd ob' c := by
  cases k
  case call f xs =>
    obtain ⟨dts, res, h1, h2, h3⟩ := h
    exact ⟨dts, res, gathL_mono hm h1, h2, h3⟩
  case box => exact h
  case boxv => exact h
  case alc => exact h
  case mkS => exact h
  case bldS => exact h
  all_goals
    obtain ⟨side, res, h1, h2⟩ := h
    exact ⟨side, res, pev_mono hm h1, h2⟩
end

/-! ### Frames in the midst of a region -/
structure Fd (cx : Ctx) (nt : Nat) (tr pre : List Nat) (ds : List (Option Nat)) (ct : Nat → D) (done : Nat → Prop) (a : Act) (w : World) : Prop where
  ex : ∃ vl fp G, Hp cx ct vl fp G w ∧ (∀ (j t : Nat), tr[j]? = some t → pre.contains j = false → a.tmps.getD t undef = vl j) ∧ (∀ (i t : Nat), done i → ds[i]? = some (some t) → a.tmps.getD t undef = vl (1000 + i)) ∧ ∀ k, tr.length ≤ k → k < 1000 → vl k = cx.gv k
  dd : ∀ j, pre.contains j = true → ct j = .dead
  size : a.tmps.size = nt
  defers : a.defers = []

section
variable {P : Program} {cx : Ctx} {nt : Nat} {tr pre : List Nat} {ds : List (Option Nat)} {ct : Nat → D} {done : Nat → Prop} {a : Act} {w : World} {o : Oper} {Q : Exit → Act → World → Prop} {vl : Nat → Value} {fp : Nat → Nat → Prop} {G : Nat → Prop}

theorem isX_okC (h : Hp cx ct vl fp G w) (htr : ∀ (j t : Nat), tr[j]? = some t → pre.contains j = false → a.tmps.getD t undef = vl j) (htm : ∀ (i t : Nat), done i → ds[i]? = some (some t) → a.tmps.getD t undef = vl (1000 + i))
    {x : Operand} {y : X} (hx : isX ds tr x y = true) (hi : ∀ i, y = .t i → done i) (hv : ∀ j, y = .v j → pre.contains j = false) : PlG w (stab cx fp G w) (RefOk w ct vl) (a.eval x) (rdC ct y) := by
  have lit : ∀ {v : Value} {d : D}, Rd w (stab cx fp G w) v d → PlG w (stab cx fp G w) (RefOk w ct vl) v d := fun hd => Pl.plg (.rd hd) ref_when
  unfold isX at hx
  split at hx <;> try (cases hx; done)
  · rename_i t i
    have := htm i t (hi i rfl) (by simpa using hx)
    show PlG _ _ _ (a.tmps.getD t undef) (opv (1000 + i) (ct (1000 + i)))
    rw [this]
    exact opv_ok (h.ok _)
  · rename_i t j
    have := htr j t (by simpa using hx) (hv j rfl)
    show PlG _ _ _ (a.tmps.getD t undef) (opv j (ct j))
    rw [this]
    exact opv_ok (h.ok _)
  · simp only [Bool.and_eq_true, decide_eq_true_eq] at hx
    obtain ⟨⟨rfl, rfl⟩, h1⟩ := hx
    exact lit (.int (okInt_has h1))
  · simp only [Bool.and_eq_true, decide_eq_true_eq] at hx
    obtain ⟨⟨rfl, rfl⟩, h1⟩ := hx
    exact lit (.int (okInt_has h1))
  · simp only [beq_iff_eq] at hx
    subst hx
    exact lit .bool
  · simp only [Bool.and_eq_true, decide_eq_true_eq] at hx
    show PlG _ _ _ (Value.string _) _
    rw [eqL_const hx.1]
    exact lit (.str (by have := hx.2; simp only [maxLen]; omega))
  · exact lit .nils
  · exact lit .nilp
  · simp only [beq_iff_eq] at hx
    subst hx
    exact lit .fn

theorem Fd.put (hS : Slots nt tr pre ds) (h : Fd cx nt tr pre ds ct done a w) {i : Nat} {s : SOp} (hd : ds[i]? = some (resDst o s)) (ha : s.k.asgTo = none) (hlt : ∀ t, o.dst = some t → t < nt) {w' : World} {v : Value} {c : D}
    (htr0 : ∀ (j t : Nat), tr[j]? = some t → pre.contains j = false → a.tmps.getD t undef = vl j) (htm0 : ∀ (i t : Nat), done i → ds[i]? = some (some t) → a.tmps.getD t undef = vl (1000 + i)) (hgh : ∀ k, tr.length ≤ k → k < 1000 → vl k = cx.gv k)
    (hp : ∃ fp' G', Hp cx (upd ct (1000 + i) c) (upd vl (1000 + i) v) fp' G' w') : Fd cx nt tr pre ds (upd ct (1000 + i) c) (fun j => done j ∨ j = i) (a.put o.dst v) w' := by
  obtain ⟨fp', G', hp⟩ := hp
  have hres : resDst o s = o.dst := by simp [resDst, ha]
  rw [hres] at hd
  have hjlt : ∀ j t, tr[j]? = some t → j < 1000 := fun j t hj => by have := (List.getElem?_eq_some_iff.1 hj).1; have := hS.few; omega
  refine ⟨⟨_, _, _, hp, fun j t hj hpre => ?_, fun j t hj hit => ?_, fun k h1 h2 => by rw [upd_ne _ _ (by omega)]; exact hgh k h1 h2⟩, fun j hj => by rw [upd_ne _ _ (by have := hS.prelt j hj; have := hS.few; omega)]; exact h.dd j hj, ?_, ?_⟩
  · rw [upd_ne _ _ (by have := hjlt j t hj; omega)]
    cases hod : o.dst with
    | none => exact htr0 j t hj hpre
    | some d =>
      have hne : d ≠ t := by
        rintro rfl
        rw [hod] at hd
        have := hS.apart _ _ hd j hj
        rw [hpre] at this; cases this
      simp only [Act.put]
      rw [getD_set_ne _ hne]
      exact htr0 j t hj hpre
  · by_cases hin : j = i
    · subst hin
      rw [upd_same]
      rw [hd] at hit
      injection hit with hit
      rw [hit]
      simp only [Act.put]
      exact getD_set_eq _ (by rw [h.size]; exact hlt t hit)
    · rw [upd_ne _ _ (by omega)]
      have hj' := hj.resolve_right hin
      cases hod : o.dst with
      | none => exact htm0 j t hj' hit
      | some d =>
        have hne : d ≠ t := by
          rintro rfl
          rw [hod] at hd
          exact hin (hS.nodup _ _ _ hit hd)
        simp only [Act.put]
        rw [getD_set_ne _ hne]
        exact htm0 j t hj' hit
  · cases o.dst <;> simp [Act.put, h.size]
  · cases o.dst <;> simp [Act.put, h.defers]

theorem put_plainC (h : Hp cx ct vl fp G w) {k : Nat} (hk : (ct k).isObj = false) {v : Value} {c : D} (hc : ContOk w (stab cx fp G w) (RefOk w ct vl) v (fun _ => False) c) : ∃ fp' G', Hp cx (upd ct k c) (upd vl k v) fp' G' w :=
  ⟨_, G, h.put hk (F := fun _ => False) hc (fun _ h => h.elim) (fun _ h => h) (fun _ h => h.elim) (fun _ _ h => h)⟩

/-- One quiet operation. -/
theorem q_step (hS : Slots nt tr pre ds) (h : Fd cx nt tr pre ds ct done a w) {i : Nat} (hct : (ct (1000 + i)).isObj = false) {s : SOp} {g : Option Bool} (hg : g ≠ some false) (hk : isK P ds tr o s.k = true) (hd : ds[i]? = some (resDst o s)) (hna : s.k.asgTo = none) (hlt : ∀ t, o.dst = some t → t < nt)
    {rd : X → D} {ob : Nat → D} (hrd : ∀ y, y ∈ s.k.xs → ∀ x, isX ds tr x y = true → rd y = rdC ct y) (hreads : ∀ j, j ∈ s.k.reads → done j) (hxs : ∀ j, X.v j ∈ s.k.xs → pre.contains j = false) (hob : ∀ j, (ct j).isObj = true → ob j = ct j) {c : D} (hop : OpOk P s.k g rd ob c) :
    o.wp P a w (fun a' w' => Fd cx nt tr pre ds (upd ct (1000 + i) c) (fun j => done j ∨ j = i) a' w') Q := by
  obtain ⟨vl, fp, G, hp, htr, htm, hgh⟩ := h.ex
  obtain ⟨g0, k⟩ := s
  simp only at hk hd hna hrd hreads hxs hop
  have hx : ∀ y, y ∈ k.xs → ∀ x, isX ds tr x y = true → PlG w (stab cx fp G w) (RefOk w ct vl) (a.eval x) (rd y) := fun y hy x hxy => by
    rw [hrd y hy x hxy]
    exact isX_okC hp htr htm hxy (fun i hi => hreads i (reads_of (by rw [← hi]; exact hy))) (fun j hj => hxs j (by rw [← hj]; exact hy))
  have hok : ∀ j, ∃ F, ContOk w (stab cx fp G w) (RefOk w ct vl) (vl j) F (ct j) := fun j => ⟨_, hp.ok j⟩
  have pure : (∃ side res, pev k rd ob = some (side, res) ∧ onG g side ∧ res.okc = true ∧ c = whG g res) → o.wp P a w (fun a' w' => Fd cx nt tr pre ds (upd ct (1000 + i) c) (fun j => done j ∨ j = i) a' w') Q := by
    rintro ⟨side, res, hpev, hs, hoc, rfl⟩
    have hside : side := by
      cases g with
      | none => exact hs
      | some b => cases b with
        | false => exact absurd rfl hg
        | true => exact hs rfl
    obtain ⟨v, hrun, hpl⟩ := pev_sound (P := P) (o := o) hpev hk hx hob hok hside
    exact wp_of_value hrun (h.put hS (s := ⟨g0, k⟩) hd hna hlt htr htm hgh (put_plainC hp hct (whG_ok hpl hoc hg)))
  have new : (g = none ∧ ∃ side, newR k rd = some (side, c) ∧ side) → o.wp P a w (fun a' w' => Fd cx nt tr pre ds (upd ct (1000 + i) c) (fun j => done j ∨ j = i) a' w') Q := by
    rintro ⟨rfl, side, hnew, hs⟩
    obtain ⟨v, w', F, hrun, hext, hF, hc, hemp⟩ := new_sound (P := P) (o := o) (A := stab cx fp G w) hnew hk hx (fun b hb => hb.1.1) hs
    exact wp_of_value hrun (h.put hS (s := ⟨g0, k⟩) hd hna hlt htr htm hgh ⟨_, _, hp.add hext (k := 1000 + i) hct hF hc hemp⟩)
  cases k with
  | call f xs =>
    obtain ⟨dts, res, hgl, hrest, rfl⟩ := hop
    have hh : gates rd xs = true ∧ Ret P f (dts.map .v) res ∧ (res.novw = true ∨ plainL rd xs) := by
      cases g with
      | none => exact hrest
      | some b => cases b with
        | false => exact absurd rfl hg
        | true => exact hrest rfl
    refine call_sound (ob := ob) hp hk hx hob hgl hh.1 hh.2.1 hh.2.2 g hg fun v w' F hext hF hc hemp => ?_
    exact h.put hS (s := ⟨g0, .call f xs⟩) hd hna hlt htr htm hgh ⟨_, _, hp.add hext (k := 1000 + i) hct hF hc hemp⟩
  | asg j x => simp [Kp.asgTo] at hna
  | asgA j x => simp [Kp.asgTo] at hna
  | st x y => obtain ⟨_, _, h, _⟩ := hop; cases h
  | stn n x y => obtain ⟨_, _, h, _⟩ := hop; cases h
  | app n m x y => obtain ⟨_, _, h, _⟩ := hop; cases h
  | calle f xs => obtain ⟨_, _, h, _⟩ := hop; cases h
  | dyn f xs => obtain ⟨_, _, h, _⟩ := hop; cases h
  | box n x => exact new hop
  | boxv n x => exact new hop
  | alc zs => exact new hop
  | mkS z b l c => exact new hop
  | bldS z n ps => exact new hop
  | _ => exact pure hop

/-- A quiet operation whose guard does not hold. -/
theorem q_skip (hS : Slots nt tr pre ds) (h : Fd cx nt tr pre ds ct done a w) {i : Nat} (hct : (ct (1000 + i)).isObj = false) {s : SOp} (hd : ds[i]? = some (resDst o s)) (hna : s.k.asgTo = none) (hlt : ∀ t, o.dst = some t → t < nt)
    {rd : X → D} {ob : Nat → D} {c : D} (hop : OpOk P s.k (some false) rd ob c) : Fd cx nt tr pre ds (upd ct (1000 + i) c) (fun j => done j ∨ j = i) (a.put o.dst undef) w := by
  obtain ⟨vl, fp, G, hp, htr, htm, hgh⟩ := h.ex
  have hc : ∃ d, c = .when false d := by
    obtain ⟨g0, k⟩ := s
    cases k with
    | call f xs => obtain ⟨_, res, _, _, rfl⟩ := hop; exact ⟨res, rfl⟩
    | box n x => cases hop.1
    | boxv n x => cases hop.1
    | alc zs => cases hop.1
    | mkS z b l c => cases hop.1
    | bldS z n ps => cases hop.1
    | _ => obtain ⟨_, res, _, _, _, rfl⟩ := hop; exact ⟨res, rfl⟩
  obtain ⟨d, rfl⟩ := hc
  exact h.put hS hd hna hlt htr htm hgh (put_plainC hp hct when_false)
end

/-! ### What the checks say, by numbers -/
theorem fitOps_get {P : Program} {nt : Nat} {ds : List (Option Nat)} {tr : List Nat} : ∀ {lo : List Oper} {ls : List SOp} {n : Nat}, fitOps P nt ds tr n lo ls = true → ∀ {i : Nat} {s : SOp}, ls[i]? = some s → ∃ o, lo[i]? = some o ∧ (∀ t, o.dst = some t → t < nt) ∧
    (∀ j, s.k.asgTo = some j → o.dst = tr[j]? ∧ j < tr.length ∧ s.g = none) ∧
    (match o.guard, s.g with
       | none, none => true
       | some (j, want), some (i', want') => j == i' && want == want' && decide (i' < n + i) && (match ds[i']? with | some (some _) => true | _ => false)
       | _, _ => false) = true ∧ isK P ds tr o s.k = true ∧ (∀ j, j ∈ s.k.reads → j < n + i)
  | [], [], n, _, i, s, hs => by simp at hs
  | [], _ :: _, n, h, i, s, hs => by simp [fitOps] at h
  | _ :: _, [], n, h, i, s, hs => by simp at hs
  | o :: lo, s :: ls, n, h, i, s', hs => by
    simp only [fitOps, Bool.and_eq_true] at h
    obtain ⟨⟨⟨⟨⟨hf1, hf2⟩, hf3⟩, hf4⟩, hf5⟩, hf⟩ := h
    cases i with
    | zero =>
      simp only [List.getElem?_cons_zero, Option.some.injEq] at hs
      subst hs
      refine ⟨o, rfl, fun t ht => by rw [ht] at hf1; simpa using hf1, fun j hj => ?_, hf3, hf4, fun j hj => by simpa using (List.all_eq_true.1 hf5) j hj⟩
      rw [hj] at hf2
      simp only [Bool.and_eq_true, decide_eq_true_eq] at hf2
      exact ⟨hf2.1.1, hf2.1.2, by simpa using hf2.2⟩
    | succ i =>
      simp only [List.getElem?_cons_succ] at hs ⊢
      have := fitOps_get hf hs
      rw [show n + 1 + i = n + (i + 1) by omega] at this
      exact this

theorem resDsts_get : ∀ {lo : List Oper} {ls : List SOp} {i : Nat} {o : Oper} {s : SOp}, lo[i]? = some o → ls[i]? = some s → (resDsts lo ls)[i]? = some (resDst o s)
  | o :: lo, s :: ls, 0, o', s', h1, h2 => by simp at h1 h2; subst h1 h2; rfl
  | o :: lo, s :: ls, i + 1, o', s', h1, h2 => by simp at h1 h2 ⊢; simp only [resDsts, List.getElem?_cons_succ]; exact resDsts_get h1 h2
  | [], _, i, o, s, h1, h2 => by simp at h1
  | _ :: _, [], i, o, s, h1, h2 => by simp at h2

theorem closures_pre : ∀ (l : List Oper) (acc : List Nat), ∃ r, closures acc l = acc ++ r ∧ r.length = l.length
  | [], acc => ⟨[], by simp [closures], rfl⟩
  | o :: l, acc => by
    obtain ⟨r, h1, h2⟩ := closures_pre l (acc ++ [closure acc o])
    exact ⟨closure acc o :: r, by simp [closures, h1], by simp [h2]⟩

theorem closures_get : ∀ (l : List Oper) (acc : List Nat) (i : Nat) (o : Oper), l[i]? = some o → ∃ acc', (closures acc l).getD (acc.length + i) 0 = closure acc' o ∧ ∀ j, acc'.getD j 0 ≠ 0 → acc'.getD j 0 = (closures acc l).getD j 0
  | [], acc, i, o, h => by simp at h
  | o :: l, acc, 0, o', h => by
    simp at h
    subst h
    obtain ⟨r, h1, _⟩ := closures_pre l (acc ++ [closure acc o])
    refine ⟨acc, by simp [closures, h1], fun j hj => ?_⟩
    have hlt : j < acc.length := by
      apply Classical.byContradiction
      intro hn
      apply hj
      simp [List.getD_eq_getElem?_getD, List.getElem?_eq_none (show acc.length ≤ j by omega)]
    rw [closures, h1]
    simp only [List.getD_eq_getElem?_getD, List.append_assoc]
    rw [List.getElem?_append_left hlt]
  | o :: l, acc, i + 1, o', h => by
    simp at h
    have := closures_get l (acc ++ [closure acc o]) i o' h
    simp only [List.length_append, List.length_cons, List.length_nil] at this
    rw [show acc.length + (0 + 1) + i = acc.length + (i + 1) by omega] at this
    exact this

theorem closure_bits {acc : List Nat} {x : Nat} : ∀ (l : List Edge) (s : Nat), (l.foldl (fun s e => if Region.binds .any e = true then s ||| (1 <<< e.on ||| acc.getD e.on 0) else s) s).testBit x = true →
    s.testBit x = true ∨ ∃ e ∈ l, Region.binds .any e = true ∧ (x = e.on ∨ (acc.getD e.on 0).testBit x = true)
  | [], s, h => .inl h
  | e :: l, s, h => by
    simp only [List.foldl_cons] at h
    rcases closure_bits l _ h with h1 | ⟨e', h1, h2⟩
    · split at h1
      · rename_i hb
        rw [Nat.testBit_or, Nat.testBit_or, Bool.or_eq_true, Bool.or_eq_true] at h1
        rcases h1 with h1 | h1 | h1
        · exact .inl h1
        · refine .inr ⟨e, by simp, hb, .inl ?_⟩
          rw [Nat.one_shiftLeft, Nat.testBit_two_pow] at h1
          exact (of_decide_eq_true h1).symm
        · exact .inr ⟨e, by simp, hb, .inr h1⟩
      · exact .inl h1
    · exact .inr ⟨e', by simp [h1], h2⟩

/-- Who is in an operation's closure. -/
theorem closure_mem {l : List Oper} {i x : Nat} {o : Oper} (hi : l[i]? = some o) (hx : inC (closures [] l) i x = true) : ∃ e ∈ o.after, Region.binds .any e = true ∧ (x = e.on ∨ inC (closures [] l) e.on x = true) := by
  obtain ⟨acc, h1, h2⟩ := closures_get l [] i o hi
  simp only [List.length_nil, Nat.zero_add] at h1
  unfold inC at hx
  rw [h1] at hx
  rcases closure_bits _ _ hx with h | ⟨e, he, hb, hx⟩
  · simp at h
  · refine ⟨e, by simpa using he, hb, ?_⟩
    rcases hx with hx | hx
    · exact .inl hx
    · right
      unfold inC
      rw [← h2 _ (by intro h; rw [h] at hx; simp at hx)]
      exact hx

/-! ### Segments of quiet operations -/
def pushes (st : St) (cs : List D) : St := cs.foldl St.push st

theorem pushes_wf : ∀ (cs : List D) {st : St}, st.wf → (pushes st cs).wf ∧ (pushes st cs).n = st.n + cs.length
  | [], st, h => ⟨h, rfl⟩
  | c :: cs, st, h => by
    obtain ⟨h1, h2⟩ := pushes_wf cs (St.wf_push h c)
    exact ⟨h1, by rw [show pushes st (c :: cs) = pushes (st.push c) cs from rfl, h2]; simp only [St.push, List.length_cons]; omega⟩

def sw (b : Bool) (x : D) : D := match b with | true => x | false => .dead

/-- Contents with those of a segment, as far as they are there. -/
def segC (base : Nat → D) (n : Nat) (cs : List D) (T : Nat → Bool) (k : Nat) : D :=
  if 1000 + n ≤ k ∧ k < 1000 + n + cs.length then sw (T (k - 1000)) (cs.getD (k - 1000 - n) .dead) else base k

theorem segC_in {base : Nat → D} {n : Nat} {cs : List D} {T : Nat → Bool} {i : Nat} (h1 : n ≤ i) (h2 : i < n + cs.length) : segC base n cs T (1000 + i) = sw (T i) (cs.getD (i - n) .dead) := by
  unfold segC
  rw [if_pos (by omega), show 1000 + i - 1000 = i by omega]
theorem segC_out {base : Nat → D} {n : Nat} {cs : List D} {T : Nat → Bool} {k : Nat} (h : ¬ (1000 + n ≤ k ∧ k < 1000 + n + cs.length)) : segC base n cs T k = base k := by
  unfold segC
  rw [if_neg h]

theorem pushes_cont : ∀ (cs : List D) {st : St}, st.wf → (pushes st cs).cont = segC st.cont st.n cs fun _ => true
  | [], st, h => by funext k; simp only [segC, pushes, List.foldl_nil, List.length_nil]; rw [if_neg (by omega)]
  | c :: cs, st, h => by
    rw [show pushes st (c :: cs) = pushes (st.push c) cs from rfl, pushes_cont cs (St.wf_push h c)]
    funext k
    simp only [segC, St.cont_push h, sw, List.length_cons]
    have e : (st.push c).n = st.n + 1 := rfl
    rw [e]
    by_cases h1 : 1000 + (st.n + 1) ≤ k ∧ k < 1000 + (st.n + 1) + cs.length
    · rw [if_pos h1, if_pos (by omega)]
      obtain ⟨m, hm⟩ : ∃ m, k - 1000 - st.n = m + 1 := ⟨k - 1000 - st.n - 1, by omega⟩
      rw [hm, show k - 1000 - (st.n + 1) = m by omega]
      rfl
    · rw [if_neg h1]
      by_cases h2 : k = 1000 + st.n
      · subst h2
        rw [upd_same, if_pos (by omega), show 1000 + st.n - 1000 - st.n = 0 by omega]
        rfl
      · rw [upd_ne _ _ h2, if_neg (by omega)]

def OpAt (P : Program) (s : SOp) (st : St) (c : D) : Prop :=
  match s.g with
  | none => OpOk P s.k none st.rd st.cont c
  | some (j, want) => ∃ b, gd (st.rd (.t j)) want = some b ∧ OpOk P s.k (some b) st.rd st.cont c

theorem seg_facts {P : Program} {K : St → Prop} : ∀ (seg rest : List SOp) {st : St}, vcOps P K (seg ++ rest) st → (∀ s ∈ seg, s.k.isEff = false) →
    ∃ cs : List D, cs.length = seg.length ∧ (∀ (i : Nat) (s : SOp), seg[i]? = some s → OpAt P s (pushes st (cs.take i)) (cs.getD i .dead)) ∧ vcOps P K rest (pushes st cs)
  | [], rest, st, h, _ => ⟨[], rfl, fun i s hs => by simp at hs, h⟩
  | s :: seg, rest, st, h, hq => by
    have step : ∃ c, OpAt P s st c ∧ vcOps P K (seg ++ rest) (st.push c) := by
      obtain ⟨g, k⟩ := s
      cases g with
      | none =>
        obtain ⟨c, h1, h2⟩ := op_split (hq ⟨none, k⟩ (by simp)) h
        exact ⟨c, h1, h2⟩
      | some gg =>
        obtain ⟨j, want⟩ := gg
        simp only [List.cons_append, vcOps, guardVC] at h
        split at h
        · rename_i b hb
          obtain ⟨c, h1, h2⟩ := op_split (hq ⟨some (j, want), k⟩ (by simp)) h
          exact ⟨c, ⟨b, hb, h1⟩, h2⟩
        · exact h.elim
    obtain ⟨c, h1, h2⟩ := step
    obtain ⟨cs, h3, h4, h5⟩ := seg_facts seg rest h2 fun s hs => hq s (by simp [hs])
    refine ⟨c :: cs, by simp [h3], fun i s' hs => ?_, h5⟩
    cases i with
    | zero => simp at hs; subst hs; exact h1
    | succ i => simp at hs; exact h4 i s' hs

theorem split_quiet : ∀ sl : List SOp, ∃ seg rest, sl = seg ++ rest ∧ (∀ s ∈ seg, s.k.isEff = false) ∧ (rest = [] ∨ ∃ e r, rest = e :: r ∧ e.k.isEff = true)
  | [] => ⟨[], [], rfl, by simp, .inl rfl⟩
  | s :: sl => by
    cases h : s.k.isEff with
    | true => exact ⟨[], s :: sl, rfl, by simp, .inr ⟨s, sl, rfl, h⟩⟩
    | false =>
      obtain ⟨seg, rest, h1, h2, h3⟩ := split_quiet sl
      exact ⟨s :: seg, rest, by rw [h1]; rfl, fun x hx => by rcases List.mem_cons.1 hx with rfl | hx; exact h; exact h2 x hx, h3⟩

theorem countP_lt {p q : Nat → Bool} : ∀ (L : List Nat), (∀ x ∈ L, q x = true → p x = true) → (∃ x ∈ L, p x = true ∧ q x = false) → L.countP q < L.countP p
  | [], _, h => by obtain ⟨x, hx, _⟩ := h; cases hx
  | a :: L, h, hx => by
    have hle : L.countP q ≤ L.countP p := List.countP_mono_left fun x hx hq => h x (by simp [hx]) hq
    obtain ⟨x, hx, h1, h2⟩ := hx
    rcases List.mem_cons.1 hx with rfl | hx
    · rw [List.countP_cons_of_pos h1, List.countP_cons_of_neg (by simp [h2])]; omega
    · have ih := countP_lt L (fun x hx hq => h x (by simp [hx]) hq) ⟨x, hx, h1, h2⟩
      by_cases hq : q a = true
      · rw [List.countP_cons_of_pos hq, List.countP_cons_of_pos (h a (by simp) hq)]; omega
      · rw [List.countP_cons_of_neg hq]
        exact Nat.lt_of_lt_of_le ih (by rw [List.countP_cons]; omega)

theorem least' (p : Nat → Prop) : ∀ n, p n → ∃ m, p m ∧ ∀ k, p k → m ≤ k := by
  intro n
  induction n using Nat.strongRecOn with
  | _ n ih =>
    intro hn
    by_cases h : ∃ k, k < n ∧ p k
    · obtain ⟨k, hk, hpk⟩ := h
      exact ih k hk hpk
    · exact ⟨n, hn, fun k hk => by
        by_cases hkn : k < n
        · exact absurd ⟨k, hkn, hk⟩ h
        · omega⟩

structure Rg (P : Program) (nt : Nat) (tr pre : List Nat) (ops : Array Oper) (l : List SOp) : Prop where
  slots : Slots nt tr pre (resDsts ops.toList l)
  size : ops.size = l.length
  fit : fitOps P nt (resDsts ops.toList l) tr 0 ops.toList l = true
  pre : ∀ s ∈ l, opPre pre s = true
  edges : edgesOk ops.toList = true
  draw : drawOk (closures [] ops.toList) l = true

section
variable {P : Program} {cx : Ctx} {nt : Nat} {tr pre : List Nat} {ops : Array Oper} {l : List SOp} {Q : Exit → Act → World → Prop}

theorem Rg.op (h : Rg P nt tr pre ops l) {i : Nat} {s : SOp} (hs : l[i]? = some s) : ∃ o, ops[i]? = some o ∧ (resDsts ops.toList l)[i]? = some (resDst o s) ∧ (∀ t, o.dst = some t → t < nt) ∧
    (∀ j, s.k.asgTo = some j → o.dst = tr[j]? ∧ j < tr.length ∧ pre.contains j = false) ∧
    (match o.guard, s.g with
       | none, none => true
       | some (j, want), some (i', want') => j == i' && want == want' && decide (i' < i) && (match (resDsts ops.toList l)[i']? with | some (some _) => true | _ => false)
       | _, _ => false) = true ∧ isK P (resDsts ops.toList l) tr o s.k = true ∧ (∀ j, j ∈ s.k.reads → j < i) ∧ (∀ j, X.v j ∈ s.k.xs → pre.contains j = false) := by
  obtain ⟨o, h1, h2, h3, h4, h5, h6⟩ := fitOps_get h.fit hs
  have hp := h.pre s (List.mem_of_getElem? hs)
  simp only [opPre, Bool.and_eq_true, List.all_eq_true] at hp
  simp only [Nat.zero_add] at h4 h6
  exact ⟨o, by simpa using h1, resDsts_get h1 hs, h2, fun j hj => ⟨(h3 j hj).1, (h3 j hj).2.1, by have := hp.1; rw [hj] at this; simpa using this⟩, h4, h5, h6, fun j hj => by simpa using hp.2 _ hj⟩

theorem Rg.dr (h : Rg P nt tr pre ops l) {i : Nat} {s : SOp} (hs : l[i]? = some s) : (∀ j, j ∈ s.k.reads → inC (closures [] ops.toList) i j = true) ∧ (∀ j want, s.g = some (j, want) → inC (closures [] ops.toList) i j = true) ∧
    (s.k.isEff = true → (∀ j, j < i → inC (closures [] ops.toList) i j = true) ∧ ∀ j, i < j → j < l.length → inC (closures [] ops.toList) j i = true) := by
  have := h.draw
  simp only [drawOk, List.all_eq_true] at this
  have := this (s, i) (List.mem_zipIdx_iff_getElem?.2 hs)
  simp only [Bool.and_eq_true, Bool.or_eq_true, Bool.not_eq_true', List.all_eq_true, decide_eq_true_eq, List.mem_range] at this
  obtain ⟨⟨h1, h2⟩, h3⟩ := this
  refine ⟨h1, fun j want hg => ?_, fun he => ?_⟩
  · rw [hg] at h2; simpa using h2
  · obtain ⟨h4, h5⟩ := h3.resolve_left (by simp [he])
    exact ⟨h4, fun j hj hl => (h5 j hl).resolve_left (by omega)⟩

theorem setT_ne {T : Array Bool} {i j : Nat} (h : i ≠ j) : (T.setIfInBounds i true).getD j false = T.getD j false := _root_.Go.getD_set_ne false h

/-- What is listed takes with it what comes before it. -/
def Closed (ops : Array Oper) (T : Array Bool) : Prop := T.size = ops.size ∧ ∀ j, T.getD j false = true → ∀ x, inC (closures [] ops.toList) j x = true → T.getD x false = true

def unl (ops : Array Oper) (T : Array Bool) : Nat := (List.range ops.size).countP fun i => !T.getD i false

theorem getD_both {T : Array Bool} {i : Nat} (h : i < T.size) (b : Bool) : T.getD i b = T.getD i false := by
  simp [Array.getD, h]

theorem ready_unl {T : Array Bool} (hT : Closed ops T) {i : Nat} (h : i ∈ Region.ready .any ops T) : i < ops.size ∧ T.getD i false = false ∧ ∀ x, inC (closures [] ops.toList) i x = true → T.getD x false = true := by
  rw [mem_ready] at h
  obtain ⟨h1, o, ho, h2⟩ := h
  have hi : i < ops.size := (Array.getElem?_eq_some_iff.1 ho).1
  refine ⟨hi, by rw [getD_both (by rw [hT.1]; exact hi)] at h1; exact h1, fun x hx => ?_⟩
  obtain ⟨e, he, hb, hx⟩ := closure_mem (l := ops.toList) (by simpa using ho) hx
  rcases hx with rfl | hx
  · exact h2 e he hb
  · exact hT.2 _ (h2 e he hb) x hx

theorem ready_ne {T : Array Bool} (hE : edgesOk ops.toList = true) (hT : T.size = ops.size) {i : Nat} (hi : i < ops.size) (hu : T.getD i false = false) : Region.ready .any ops T ≠ [] := by
  obtain ⟨m, hm, hmin⟩ := least' (fun i => i < ops.size ∧ T.getD i false = false) i ⟨hi, hu⟩
  intro hr
  have : m ∈ Region.ready .any ops T := by
    rw [mem_ready]
    refine ⟨by rw [getD_both (by rw [hT]; exact hm.1)]; exact hm.2, ops[m], by simp [hm.1], fun e he hb => ?_⟩
    simp only [edgesOk, List.all_eq_true] at hE
    have h1 := hE (ops[m], m) (List.mem_zipIdx_iff_getElem?.2 (by simp [hm.1])) e (by simpa using he)
    simp only [hb, Bool.not_true, Bool.false_or, decide_eq_true_eq] at h1
    cases h2 : T.getD e.on false with
    | true => rfl
    | false => exact absurd (hmin e.on ⟨by omega, h2⟩) (by omega)
  rw [hr] at this
  cases this

theorem closed_set {T : Array Bool} (hT : Closed ops T) {i : Nat} (hi : i < ops.size) (hc : ∀ x, inC (closures [] ops.toList) i x = true → T.getD x false = true) : Closed ops (T.setIfInBounds i true) := by
  refine ⟨by simp [hT.1], fun j hj x hx => ?_⟩
  by_cases hxi : i = x
  · subst hxi; simp [Array.getD, hT.1, hi]
  · rw [setT_ne hxi]
    by_cases hji : i = j
    · subst hji; exact hc x hx
    · rw [setT_ne hji] at hj
      exact hT.2 j hj x hx

theorem getD_set_self {T : Array Bool} {i : Nat} (hi : i < T.size) : (T.setIfInBounds i true).getD i false = true := by simp [Array.getD, hi]

theorem unl_set {T : Array Bool} (hT : T.size = ops.size) {i : Nat} (hi : i < ops.size) (hu : T.getD i false = false) : unl ops (T.setIfInBounds i true) < unl ops T := by
  refine countP_lt _ (fun x hx hq => ?_) ⟨i, List.mem_range.2 hi, by simp [hu], by rw [getD_set_self (by omega)]; rfl⟩
  by_cases hxi : i = x
  · subst hxi; rw [getD_set_self (by omega)] at hq; cases hq
  · rw [setT_ne hxi] at hq; exact hq

theorem unl_pos {T : Array Bool} {i : Nat} (hi : i < ops.size) (hu : T.getD i false = false) : 0 < unl ops T := by
  unfold unl
  rw [List.countP_pos_iff]
  exact ⟨i, List.mem_range.2 hi, by simp [hu]⟩

/-- A guard's value is what its operation yielded. -/
theorem gd_yieldsC {ds : List (Option Nat)} {ct : Nat → D} {done : Nat → Prop} {a : Act} {w : World} {i t : Nat} {want b : Bool} (h : Fd cx nt tr pre ds ct done a w) (hi : done i) (hds : ds[i]? = some (some t)) (hj : (ops[i]?).bind (·.dst) = some t) (hg : gd (rdC ct (.t i)) want = some b) :
    (yielded ops a.tmps i == some want) = b := by
  obtain ⟨vl, fp, G, hp, _, htm, _⟩ := h.ex
  have he : PlG w (stab cx fp G w) (RefOk w ct vl) (a.tmps.getD t undef) (rdC ct (.t i)) := by
    rw [htm i t hi hds]
    exact opv_ok (hp.ok _)
  have hy : yielded ops a.tmps i = match a.tmps.getD t undef with | .bool b => some b | _ => none := by
    unfold yielded
    rw [hj, Option.bind_some]
    by_cases ht : t < a.tmps.size
    · rw [getD_some ht]
      cases a.tmps.getD t undef <;> rfl
    · have h1 : a.tmps[t]? = none := by simp; omega
      have h2 : a.tmps.getD t undef = undef := by simp [h1]
      rw [h1, h2]
      rfl
  unfold gd at hg
  rw [Option.bind_eq_some_iff] at hg
  obtain ⟨c, hc, hg⟩ := hg
  injection hg with hg
  rw [hy]
  generalize rdC ct (.t i) = d at he hc hg
  cases hgt : d.gate with
  | false =>
    rw [he.2 hgt]
    rw [hgt] at hg
    simp at hg
    subst hg
    rfl
  | true =>
    have h1 := he.1 hgt
    have hcore : d.core = .bool c := by
      revert hc
      cases d.core <;> simp [D.bool?]
    rw [hcore] at h1
    rw [pl_bool h1]
    rw [hgt] at hg
    cases want <;> cases c <;> simp at hg <;> subst hg <;> rfl

theorem segC_set {base : Nat → D} {n : Nat} {cs : List D} {T : Array Bool} {i : Nat} (h1 : n ≤ i) (h2 : i < n + cs.length) (hi : i < T.size) :
    segC base n cs (fun j => (T.setIfInBounds i true).getD j false) = upd (segC base n cs fun j => T.getD j false) (1000 + i) (cs.getD (i - n) .dead) := by
  funext k
  by_cases hk : k = 1000 + i
  · subst hk
    rw [upd_same]
    unfold segC
    rw [if_pos (by omega), show 1000 + i - 1000 = i by omega]
    dsimp only
    rw [getD_set_self hi]
    rfl
  · rw [upd_ne _ _ hk]
    unfold segC
    by_cases hr : 1000 + n ≤ k ∧ k < 1000 + n + cs.length
    · rw [if_pos hr, if_pos hr]
      dsimp only
      rw [setT_ne (by omega)]
    · rw [if_neg hr, if_neg hr]

/-- All of a segment is done. -/
theorem seg_full (hR : Rg P nt tr pre ops l) {st : St} (hwf : st.wf) {seg : List SOp} {cs : List D} (hlen : cs.length = seg.length) {T : Array Bool} {a : Act} {w : World}
    (h : Fd cx nt tr pre (resDsts ops.toList l) (segC st.cont st.n cs fun i => T.getD i false) (fun i => T.getD i false = true) a w) (hall : ∀ i, st.n ≤ i → i < st.n + cs.length → T.getD i false = true) (h1 : ∀ i, i < st.n → T.getD i false = true) :
    Fm cx nt tr pre (resDsts ops.toList l) (pushes st cs) a w := by
  obtain ⟨⟨vl, fp, G, e1, e2, e3, egh⟩, e4, e5, e6⟩ := h
  obtain ⟨pw, pn⟩ := pushes_wf cs hwf
  have hsame : segC st.cont st.n cs (fun i => T.getD i false) = (pushes st cs).cont := by
    rw [pushes_cont cs hwf]
    funext k
    unfold segC
    by_cases hr : 1000 + st.n ≤ k ∧ k < 1000 + st.n + cs.length
    · rw [if_pos hr, if_pos hr]
      dsimp only
      rw [hall _ (by omega) (by omega)]
    · rw [if_neg hr, if_neg hr]
  rw [hsame] at e1 e4
  refine ⟨⟨vl, fp, G, e1, e2, fun i t hi hit => e3 i t ?_ hit, egh⟩, pw, e4, e5, e6⟩
  rw [pn] at hi
  by_cases hi' : i < st.n
  · exact h1 i hi'
  · exact hall i (by omega) hi

/-- A segment of quiet operations, in any order. -/
theorem seg_any (hR : Rg P nt tr pre ops l) {st : St} (hwf : st.wf) {seg rest : List SOp} (hl : l.drop st.n = seg ++ rest) (hq : ∀ s ∈ seg, s.k.isEff = false) (hb : rest = [] ∨ ∃ e r, rest = e :: r ∧ e.k.isEff = true)
    {cs : List D} (hlen : cs.length = seg.length) (hf : ∀ (i : Nat) (s : SOp), seg[i]? = some s → OpAt P s (pushes st (cs.take i)) (cs.getD i .dead))
    (hK : ∀ (fuel : Nat) (T : Array Bool) (a : Act) (w : World), Closed ops T → (∀ i, i < ops.size → (T.getD i false = true ↔ i < st.n + seg.length)) → unl ops T ≤ fuel → Fm cx nt tr pre (resDsts ops.toList l) (pushes st cs) a w → wpAny P .any ops Q fuel T a w) :
    ∀ (fuel : Nat) (T : Array Bool) (a : Act) (w : World), Closed ops T → (∀ i, i < st.n → T.getD i false = true) → (∀ i, st.n + seg.length ≤ i → i < ops.size → T.getD i false = false) → unl ops T ≤ fuel →
      Fd cx nt tr pre (resDsts ops.toList l) (segC st.cont st.n cs fun i => T.getD i false) (fun i => T.getD i false = true) a w → wpAny P .any ops Q fuel T a w := by
  have hsl : ∀ i, l[st.n + i]? = (seg ++ rest)[i]? := fun i => by rw [← hl, List.getElem?_drop]
  have hll : l.length - st.n = seg.length + rest.length := by have := congrArg List.length hl; simpa using this
  intro fuel
  induction fuel with
  | zero =>
    intro T a w hT h1 h2 hu h
    refine hK 0 T a w hT (fun i hi => ⟨fun ht => ?_, fun hlt => ?_⟩) hu ?_
    · apply Classical.byContradiction; intro hn; rw [h2 i (by omega) hi] at ht; cases ht
    · cases ht : T.getD i false with
      | true => rfl
      | false => have := unl_pos hi ht; omega
    · have hall : ∀ i, st.n ≤ i → i < st.n + cs.length → T.getD i false = true := by
        intro i ha hb'
        cases ht : T.getD i false with
        | true => rfl
        | false => have := unl_pos (ops := ops) (i := i) (by rw [hR.size]; omega) ht; omega
      exact seg_full hR hwf hlen h hall h1
  | succ fuel ih =>
    intro T a w hT h1 h2 hu h
    by_cases hall : ∀ i, st.n ≤ i → i < st.n + cs.length → T.getD i false = true
    · refine hK (fuel + 1) T a w hT (fun i hi => ⟨fun ht => ?_, fun hlt => ?_⟩) hu (seg_full hR hwf hlen h hall h1)
      · apply Classical.byContradiction; intro hn; rw [h2 i (by omega) hi] at ht; cases ht
      · by_cases hi' : i < st.n
        · exact h1 i hi'
        · exact hall i (by omega) (by omega)
    · simp only [Classical.not_forall] at hall
      obtain ⟨i0, ha, hb0, hu0⟩ := hall
      have hu0 : T.getD i0 false = false := by simpa using hu0
      have hi0 : i0 < ops.size := by rw [hR.size]; omega
      refine ⟨fun hr => absurd hr (ready_ne hR.edges hT.1 hi0 hu0), fun i hi => ?_⟩
      obtain ⟨hio, hiu, hic⟩ := ready_unl hT hi
      have hige : st.n ≤ i := by
        apply Classical.byContradiction; intro hn; rw [h1 i (by omega)] at hiu; cases hiu
      have hilt : i < st.n + seg.length := by
        apply Classical.byContradiction
        intro hn
        rcases hb with rfl | ⟨e, r, rfl, he⟩
        · simp only [List.length_nil] at hll; rw [hR.size] at hio; omega
        · have hle : l[st.n + seg.length]? = some e := by rw [hsl, List.getElem?_append_right (Nat.le_refl _)]; simp
          obtain ⟨d1, d2⟩ := (hR.dr hle).2.2 he
          by_cases hie : i = st.n + seg.length
          · subst hie
            rw [hic i0 (d1 i0 (by omega))] at hu0; cases hu0
          · have := hic _ (d2 i (by omega) (by rw [← hR.size]; exact hio))
            rw [h2 _ (Nat.le_refl _) (by omega)] at this; cases this
      obtain ⟨m, rfl⟩ : ∃ m, i = st.n + m := ⟨i - st.n, by omega⟩
      have hm : m < seg.length := by omega
      have hs : seg[m]? = some seg[m] := List.getElem?_eq_getElem hm
      have hls : l[st.n + m]? = some seg[m] := by rw [hsl, List.getElem?_append_left hm, hs]
      generalize hsm : seg[m] = s at hs hls
      have hse : s.k.isEff = false := hq s (List.mem_of_getElem? hs)
      obtain ⟨o, ho, hd, hlt, hasg, hgd, hk, hreads, hxs⟩ := hR.op hls
      obtain ⟨r1, r2, _⟩ := hR.dr hls
      have hna : s.k.asgTo = none := by
        revert hse; cases s.k <;> simp [Kp.isEff, Kp.asgTo]
      have hop := hf m s hs
      have hcm : (pushes st (cs.take m)).cont = segC st.cont st.n (cs.take m) fun _ => true := pushes_cont _ hwf
      have hcE : (pushes st cs).cont = segC st.cont st.n cs fun _ => true := pushes_cont _ hwf
      have htl : (cs.take m).length = m := by simp; omega
      have hout : ∀ k, 1000 + st.n ≤ k → st.cont k = .dead := fun k hk => St.cont_out (by simp only [St.in, not_or, not_and]; omega)
      have hval : ∀ j, j < st.n + m → T.getD j false = true → (pushes st (cs.take m)).cont (1000 + j) = segC st.cont st.n cs (fun i => T.getD i false) (1000 + j) := by
        intro j hj ht
        rw [hcm]
        unfold segC
        by_cases hjn : st.n ≤ j
        · rw [if_pos (by first | omega | (rw [htl]; omega)), if_pos (by first | omega | (rw [htl]; omega)), show 1000 + j - 1000 = j by omega]
          dsimp only
          rw [ht]
          simp only [sw, List.getD_eq_getElem?_getD]
          rw [List.getElem?_take_of_lt (by omega)]
        · rw [if_neg (by omega), if_neg (by omega)]
      have hrd : ∀ y, y ∈ s.k.xs → ∀ x, isX (resDsts ops.toList l) tr x y = true → (pushes st (cs.take m)).rd y = rdC (segC st.cont st.n cs fun i => T.getD i false) y := by
        intro y hy x hxy
        rw [← rdC_st]
        cases y with
        | t j =>
          have hj := reads_of hy
          show opv _ _ = opv _ _
          rw [hval j (hreads j hj) (hic j (r1 j hj))]
        | v j =>
          have hj : j < 1000 := by
            have hjt : ∃ t, tr[j]? = some t := by
              cases x
              case tmp t => exact ⟨t, by simpa [isX] using hxy⟩
              all_goals (unfold isX at hxy; split at hxy <;> first | contradiction | cases hxy)
            obtain ⟨t, ht⟩ := hjt
            have := (List.getElem?_eq_some_iff.1 ht).1; have := hR.slots.few; omega
          show opv _ _ = opv _ _
          rw [hcm]
          unfold segC
          rw [if_neg (by omega), if_neg (by omega)]
        | i n => rfl
        | k d => rfl
      have hme : ∀ k, ((pushes st (cs.take m)).cont k).isObj = true → (pushes st cs).cont k = (pushes st (cs.take m)).cont k := by
        intro k hk
        rw [hcm] at hk ⊢
        rw [hcE]
        by_cases hk1 : 1000 + st.n ≤ k
        · by_cases hk2 : k < 1000 + st.n + m
          · obtain ⟨i, rfl⟩ : ∃ i, k = 1000 + i := ⟨k - 1000, by omega⟩
            rw [segC_in (by omega) (by omega), segC_in (by omega) (by omega)]
            simp only [sw, List.getD_eq_getElem?_getD]
            rw [List.getElem?_take_of_lt (by omega)]
          · rw [segC_out (by omega), hout k hk1] at hk
            simp [D.isObj] at hk
        · rw [segC_out (by omega), segC_out (by omega)]
      have hmono : ∀ k c, lk (pushes st (cs.take m)).cont k = some c → lk (pushes st cs).cont k = some c := by
        intro k c hk
        unfold lk at hk ⊢
        split at hk
        · rename_i ho'
          rw [hme k ho', if_pos ho']
          exact hk
        · cases hk
      have hob : ∀ j, (segC st.cont st.n cs (fun i => T.getD i false) j).isObj = true → (pushes st cs).cont j = segC st.cont st.n cs (fun i => T.getD i false) j := by
        intro j hj
        rw [hcE]
        by_cases hr : 1000 + st.n ≤ j ∧ j < 1000 + st.n + cs.length
        · obtain ⟨i, rfl⟩ : ∃ i, j = 1000 + i := ⟨j - 1000, by omega⟩
          rw [segC_in (by omega) (by omega)] at hj ⊢
          rw [segC_in (by omega) (by omega)]
          cases ht : T.getD i false with
          | true => rfl
          | false => rw [ht] at hj; cases hj
        · rw [segC_out hr, segC_out hr]
      have hct : (segC st.cont st.n cs (fun i => T.getD i false) (1000 + (st.n + m))).isObj = false := by
        rw [segC_in (by omega) (by omega), hiu]
        rfl
      have hdone : ∀ j, j ∈ s.k.reads → T.getD j false = true := fun j hj => hic j (r1 j hj)
      have hnext : ∀ a' w', Fd cx nt tr pre (resDsts ops.toList l) (upd (segC st.cont st.n cs fun i => T.getD i false) (1000 + (st.n + m)) (cs.getD m .dead)) (fun j => T.getD j false = true ∨ j = st.n + m) a' w' →
          wpAny P .any ops Q fuel (T.setIfInBounds (st.n + m) true) a' w' := by
        intro a' w' hF
        refine ih _ a' w' (closed_set hT hio hic) (fun j hj => ?_) (fun j hj hj' => ?_) ?_ ?_
        · rw [setT_ne (by omega)]; exact h1 j hj
        · rw [setT_ne (by omega)]; exact h2 j hj hj'
        · have := unl_set hT.1 hio hiu; omega
        · rw [segC_set (by omega) (by omega) (by rw [hT.1]; exact hio), show st.n + m - st.n = m by omega]
          obtain ⟨⟨vl, fp, G, e1, e2, e3, egh⟩, e4, e5, e6⟩ := hF
          refine ⟨⟨vl, fp, G, e1, e2, fun j t hj => e3 j t ?_, egh⟩, e4, e5, e6⟩
          by_cases hji : st.n + m = j
          · exact .inr hji.symm
          · rw [setT_ne hji] at hj; exact .inl hj
      unfold wpOp
      rw [ho]
      simp only
      obtain ⟨g0, k⟩ := s
      cases hog : o.guard with
      | none =>
        cases g0 with
        | some _ => rw [hog] at hgd; cases hgd
        | none =>
          have hw : Region.wanted o (yielded ops a.tmps) = true := by simp [Region.wanted, hog]
          rw [if_pos hw]
          exact .inl (Oper.wp_mono hnext (q_step hR.slots h hct (g := none) (by simp) hk hd hna hlt hrd hdone hxs hob (OpOk.mono hmono hop)))
      | some gg =>
        obtain ⟨j, want⟩ := gg
        cases g0 with
        | none => rw [hog] at hgd; cases hgd
        | some g1 =>
          obtain ⟨i', want'⟩ := g1
          rw [hog] at hgd
          simp only [Bool.and_eq_true, beq_iff_eq, decide_eq_true_eq] at hgd
          obtain ⟨⟨⟨rfl, rfl⟩, hjn⟩, hj2⟩ := hgd
          have hjd : ∃ t, (resDsts ops.toList l)[j]? = some (some t) := by
            split at hj2
            · exact ⟨_, by assumption⟩
            · cases hj2
          obtain ⟨t, hjd⟩ := hjd
          obtain ⟨b, hgb, hop⟩ := hop
          have hjT : T.getD j false = true := hic j (r2 j want rfl)
          have hwb : Region.wanted o (yielded ops a.tmps) = b := by
            simp only [Region.wanted, hog]
            refine gd_yieldsC h hjT hjd (by have := resDsts_dst hjd; simpa using this) ?_
            rw [← hgb]
            show gd (opv _ _) _ = gd (opv _ _) _
            rw [hval j hjn hjT]
          cases b with
          | true =>
            rw [if_pos hwb]
            exact .inl (Oper.wp_mono hnext (q_step hR.slots h hct (g := some true) (by simp) hk hd hna hlt hrd hdone hxs hob (OpOk.mono hmono hop)))
          | false =>
            rw [if_neg (by rw [hwb]; simp)]
            exact hnext _ _ (q_skip hR.slots h hct hd hna hlt hop)

/-- A region that draws its order. -/
theorem draw_any (hR : Rg P nt tr pre ops l) {K : St → Prop} (hQ : ∀ a w st, K st → st.n = l.length → Fm cx nt tr pre (resDsts ops.toList l) st a w → Q .normal a w) :
    ∀ (N : Nat) (sl : List SOp) (st : St) (fuel : Nat) (T : Array Bool) (a : Act) (w : World), sl.length < N → l.drop st.n = sl → st.n ≤ l.length → Fm cx nt tr pre (resDsts ops.toList l) st a w → vcOps P K sl st →
      Closed ops T → (∀ i, i < ops.size → (T.getD i false = true ↔ i < st.n)) → unl ops T ≤ fuel → wpAny P .any ops Q fuel T a w
  | 0, sl, st, fuel, T, a, w, hN, _, _, _, _, _, _, _ => by omega
  | N + 1, sl, st, fuel, T, a, w, hN, hl, hn, h, hv, hT, hx, hu => by
    obtain ⟨seg, rest, rfl, hq, hb⟩ := split_quiet sl
    obtain ⟨cs, hlen, hf, hvr⟩ := seg_facts seg rest hv hq
    have hll : l.length - st.n = seg.length + rest.length := by have := congrArg List.length hl; simpa using this
    have hsl : ∀ i, l[st.n + i]? = (seg ++ rest)[i]? := fun i => by rw [← hl, List.getElem?_drop]
    obtain ⟨pw, pn⟩ := pushes_wf cs h.wf
    refine seg_any (cx := cx) hR h.wf hl hq hb hlen hf (fun fuel T a w hT hx hu h => ?_) fuel T a w hT (fun i hi => (hx i (by rw [hR.size]; omega)).2 hi) (fun i hi hi' => ?_) hu ?_
    · rcases hb with rfl | ⟨e, r, rfl, he⟩
      · have hnone : Region.ready .any ops T = [] := by
          rw [List.eq_nil_iff_forall_not_mem]
          intro i hi
          obtain ⟨h1, h2, _⟩ := ready_unl hT hi
          rw [(hx i h1).2 (by rw [hR.size] at h1; simp only [List.length_nil] at hll; omega)] at h2
          cases h2
        have hq := hQ a w _ hvr (by rw [pn, hlen]; simp only [List.length_nil] at hll; omega) h
        cases fuel with
        | zero => exact ⟨hnone, hq⟩
        | succ fuel => exact ⟨fun _ => hq, fun i hi => by rw [hnone] at hi; cases hi⟩
      · simp only [List.length_cons] at hll
        have hls : l[st.n + seg.length]? = some e := by rw [hsl, List.getElem?_append_right (Nat.le_refl _)]; simp
        have hpo : st.n + seg.length < ops.size := by rw [hR.size]; omega
        have hpu : T.getD (st.n + seg.length) false = false := by
          cases ht : T.getD (st.n + seg.length) false with
          | false => rfl
          | true => have := (hx _ hpo).1 ht; omega
        cases fuel with
        | zero => have := unl_pos hpo hpu; omega
        | succ fuel =>
          refine ⟨fun hr => absurd hr (ready_ne hR.edges hT.1 hpo hpu), fun i hi => ?_⟩
          obtain ⟨hio, hiu, hic⟩ := ready_unl hT hi
          obtain ⟨d1, d2⟩ := (hR.dr hls).2.2 he
          have hie : i = st.n + seg.length := by
            apply Classical.byContradiction
            intro hne
            by_cases hlt : i < st.n + seg.length
            · rw [(hx i hio).2 hlt] at hiu; cases hiu
            · rw [hic _ (d2 i (by omega) (by rw [← hR.size]; exact hio))] at hpu; cases hpu
          subst hie
          obtain ⟨o, ho, hd, hlt, hasg, hgd, hk, hreads, hxs⟩ := hR.op hls
          have hpn : (pushes st cs).n = st.n + seg.length := by rw [pn, hlen]
          rw [← hpn] at hd
          have hr' : ∀ j, j ∈ e.k.reads → j < (pushes st cs).n := fun j hj => by rw [hpn]; exact hreads j hj
          have hnext : ∀ a' w', (∃ st', vcOps P K r st' ∧ Fm cx nt tr pre (resDsts ops.toList l) st' a' w' ∧ st'.n = (pushes st cs).n + 1) → wpAny P .any ops Q fuel (T.setIfInBounds (st.n + seg.length) true) a' w' := by
            rintro a' w' ⟨st', k1, k2, k3⟩
            rw [hpn] at k3
            refine draw_any hR hQ N r st' fuel _ a' w' (by simp only [List.length_append, List.length_cons] at hN; omega) ?_ (by omega) k2 k1 (closed_set hT hio hic) (fun i hi => ?_) ?_
            · rw [k3, show st.n + seg.length + 1 = st.n + (seg.length + 1) by omega, ← List.drop_drop, hl, List.drop_append]
              simp
            · by_cases hij : st.n + seg.length = i
              · subst hij
                rw [getD_set_self (by rw [hT.1]; exact hi)]
                simp; omega
              · rw [setT_ne hij, hx i hi]
                omega
            · have := unl_set hT.1 hio hiu; omega
          unfold wpOp
          rw [ho]
          simp only
          obtain ⟨g0, k⟩ := e
          cases hog : o.guard with
          | none =>
            cases g0 with
            | some _ => rw [hog] at hgd; cases hgd
            | none =>
              have hw : Region.wanted o (yielded ops a.tmps) = true := by simp [Region.wanted, hog]
              rw [if_pos hw]
              exact .inl (Oper.wp_mono hnext (op_step hR.slots h (g := none) (by simp) hk hd hasg hlt hr' hxs hvr))
          | some gg =>
            obtain ⟨j, want⟩ := gg
            cases g0 with
            | none => rw [hog] at hgd; cases hgd
            | some g1 =>
              obtain ⟨i', want'⟩ := g1
              rw [hog] at hgd
              simp only [Bool.and_eq_true, beq_iff_eq, decide_eq_true_eq] at hgd
              obtain ⟨⟨⟨rfl, rfl⟩, hjn⟩, hj2⟩ := hgd
              have hjd : ∃ t, (resDsts ops.toList l)[j]? = some (some t) := by
                split at hj2
                · exact ⟨_, by assumption⟩
                · cases hj2
              obtain ⟨t, hjd⟩ := hjd
              have hna : k.asgTo = none := by
                cases hka : k.asgTo with
                | none => rfl
                | some j' =>
                  obtain ⟨o', _, _, h3, _⟩ := fitOps_get hR.fit hls
                  have := (h3 j' hka).2.2
                  cases this
              simp only [vcOps, guardVC] at hvr
              split at hvr
              · rename_i b hgb
                have hwb : Region.wanted o (yielded ops a.tmps) = b := by
                  simp only [Region.wanted, hog]
                  exact gd_yields h (by rw [hpn]; exact hjn) hjd (by have := resDsts_dst hjd; simpa using this) hgb
                cases b with
                | true =>
                  rw [if_pos hwb]
                  exact .inl (Oper.wp_mono hnext (op_step hR.slots h (g := some true) (by simp) hk hd hasg hlt hr' hxs hvr))
                | false =>
                  rw [if_neg (by rw [hwb]; simp)]
                  exact hnext _ _ (skip_step hR.slots h hd hna hlt hvr)
              · exact hvr.elim
    · cases ht : T.getD i false with
      | false => rfl
      | true => have := (hx i hi').1 ht; omega
    · obtain ⟨⟨vl, fp, G, e1, e2, e3, egh⟩, e4, e5, e6, e7⟩ := h
      have hsame : segC st.cont st.n cs (fun i => T.getD i false) = st.cont := by
        funext k
        unfold segC
        by_cases hr : 1000 + st.n ≤ k ∧ k < 1000 + st.n + cs.length
        · rw [if_pos hr]
          have hk : T.getD (k - 1000) false = false := by
            cases ht : T.getD (k - 1000) false with
            | false => rfl
            | true => have := (hx (k - 1000) (by rw [hR.size]; omega)).1 ht; omega
          dsimp only
          rw [hk, St.cont_out (by simp only [St.in, not_or, not_and]; omega)]
          rfl
        · rw [if_neg hr]
      rw [hsame]
      refine ⟨⟨vl, fp, G, e1, e2, fun i t hi hit => e3 i t ?_ hit, egh⟩, e5, e6, e7⟩
      have hio : i < ops.size := by
        apply Classical.byContradiction
        intro hn
        simp [Array.getD, show ¬ i < T.size by rw [hT.1]; exact hn] at hi
      exact (hx i hio).1 hi
end
end Go.D3
