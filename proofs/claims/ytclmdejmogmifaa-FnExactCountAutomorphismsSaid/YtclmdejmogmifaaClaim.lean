/- FROM A LAW's CONTRACT TO WHAT A ROW ASKS. Generic. -/
import Derived.Test.YtclmdejmogmifaaTy
import Derived.ChangeSame
namespace Go.D3
open Go Go.ChangeShapes Go.RowKit

/-- The arguments, one by one. -/
def Ty.args : (t : Ty) → t.V → List D
  | .cons a b, (x, y) => a.d x :: b.args y
  | _, _ => []
def Ty.chkAll (P : Program) : Ty → List TypeId → Bool
  | .nil, [] => true
  | .cons a b, T :: r => a.chk P (.inl T) && P.readableRec T && decide (T < P.types.size) && (a.st == (match P.underlying T with | some (.struct _) => true | _ => false)) && b.chkAll P r
  | _, _ => false

section
variable {H : Type} {enc : TypeId × Value → H} {P : Program} {w w' : World}

theorem wrap_rd {A : Nat → Prop} {ty : Ty} {T : TypeId} {v : Value} {base : Nat} (hc : ty.chk P (.inl T) = true) (hst : ty.st = (match P.underlying T with | some (.struct _) => true | _ => false)) (hv : Value.okWide P w .any base T v) {y : ty.V}
    (hl : v.cells.toList.length = ty.n) (h : ∀ j c, (ty.cs y)[j]? = some c → Rd w A (v.cells.toList.getD j undef) c) : Rd w A v (ty.d y) := by
  have one : ty.st = false → (∀ cs, v ≠ .agg cs) → Rd w A v (ty.d y) := by
    intro hs hna
    have hcells : v.cells = #[v] := by cases v <;> first | rfl | exact absurd rfl (hna _)
    rw [hcells] at h
    have : ∃ c, ty.cs y = [c] := by
      cases ty <;> first | exact ⟨_, rfl⟩ | cases hs
    obtain ⟨c, hc⟩ := this
    have hd : ty.d y = c := by unfold Ty.d wrapD; rw [hs, hc]; rfl
    rw [hd]
    exact h 0 c (by rw [hc]; rfl)
  cases hs : ty.st with
  | false =>
    refine one hs fun cs hcs => ?_
    subst hcs
    rw [hs] at hst
    unfold Value.okWide at hv
    cases ty <;> simp only [Ty.chk] at hc <;> first | cases hs | skip
    all_goals
      split at hc <;> try (cases hc; done)
      rename_i hu
      rw [hu] at hv
      simp [Cell.okWide, Cell.ok, hu] at hv
  | true =>
    have hu : ∃ fs, P.underlying T = some (.struct fs) := by
      rw [hs] at hst
      split at hst
      · exact ⟨_, by assumption⟩
      · cases hst
    obtain ⟨fs, hu⟩ := hu
    unfold Value.okWide at hv
    rw [hu] at hv
    obtain ⟨cs, rfl, _, _⟩ := hv
    have hd : ty.d y = .agg (ty.cs y) := by unfold Ty.d wrapD; rw [hs]
    rw [hd]
    refine .agg (by rw [Ty.cs_len]; simpa [Value.cells] using hl) fun j c hj => ?_
    have := h j c hj
    simpa [Value.cells] using this

theorem args_rd {base : Nat} : ∀ (ty : Ty) {ts : List TypeId} {vs : List Value} {ds : List (DataW H)} {ps : List MemPlace}, ty.chkAll P ts = true → DataW.TrodAll enc P w 0 (fun _ => true) true ts vs ds ps →
    (∀ (j : Nat) (t : TypeId) (v : Value), ts[j]? = some t → vs[j]? = some v → Value.okWide P w .any base t v) →
    ∃ y : ty.V, vs.length = (ty.args y).length ∧ ∀ (j : Nat) (d : D), (ty.args y)[j]? = some d → Rd w (live' w) (vs.getD j undef) d
  | .cons a b, T :: ts, vs, ds, ps, hc, h, hv => by
    obtain ⟨v, vs', d, ds', p, q, rfl, rfl, rfl, h1, h2⟩ := trodAll_cons h
    simp only [Ty.chkAll, Bool.and_eq_true, beq_iff_eq] at hc
    obtain ⟨⟨⟨⟨c1, c2⟩, c3⟩, c4⟩, c5⟩ := hc
    obtain ⟨fuel, hf⟩ := h1
    obtain ⟨y1, k1, k2⟩ := (trod_ty a).1 c1 hf
    obtain ⟨y2, k3, k4⟩ := args_rd b c5 h2 fun j t v' hj hv' => hv (j + 1) t v' (by simpa using hj) (by simpa using hv')
    refine ⟨(y1, y2), by simp [Ty.args, k3], fun j x hx => ?_⟩
    cases j with
    | zero =>
      simp [Ty.args] at hx
      subst hx
      exact wrap_rd c1 c4 (hv 0 T v rfl rfl) k1 k2
    | succ j =>
      simp [Ty.args] at hx
      simpa using k4 j x hx
  | .nil, [], vs, ds, ps, hc, h, hv => by
    obtain ⟨rfl, rfl, rfl⟩ := trodAll_nil h
    exact ⟨(), rfl, fun j x hx => by simp [Ty.args] at hx⟩
  | .cons a b, [], vs, ds, ps, hc, h, hv => by simp [Ty.chkAll] at hc
  | .nil, _ :: _, vs, ds, ps, hc, h, hv => by simp [Ty.chkAll] at hc
  | .int _, ts, vs, ds, ps, hc, h, hv => by cases ts <;> simp [Ty.chkAll] at hc
  | .bool, ts, vs, ds, ps, hc, h, hv => by cases ts <;> simp [Ty.chkAll] at hc
  | .str, ts, vs, ds, ps, hc, h, hv => by cases ts <;> simp [Ty.chkAll] at hc
  | .sl _, ts, vs, ds, ps, hc, h, hv => by cases ts <;> simp [Ty.chkAll] at hc

theorem args_again (hl : laidOutB P = true) (hb : Below w.heap.size w w') {sp : Nat → Bool} : ∀ (ty : Ty) {ts : List TypeId} {vs : List Value} {ds : List (DataW H)} {ps : List MemPlace}, ty.chkAll P ts = true → DataW.TrodAll enc P w 0 (fun _ => true) true ts vs ds ps →
    (∀ p ∈ ps, p.block < w.heap.size) → (∀ p ∈ ps, sp p.block = true) → DataW.TrodAll enc P w' 0 sp true ts vs ds ps
  | .cons a b, T :: ts, vs, ds, ps, hc, h, hlt, hsp => by
    obtain ⟨v, vs', d, ds', p, q, rfl, rfl, rfl, h1, h2⟩ := trodAll_cons h
    simp only [Ty.chkAll, Bool.and_eq_true, decide_eq_true_eq] at hc
    obtain ⟨⟨⟨⟨c1, c2⟩, c3⟩, c4⟩, c5⟩ := hc
    exact trodAll_cons_mk (WideElems.Trod_stays hl c2 c3 h1 (fun x hx => hb.same (hlt x (List.mem_append_left _ hx))) fun x hx => hsp x (List.mem_append_left _ hx))
      (args_again hl hb b c5 h2 (fun x hx => hlt x (List.mem_append_right _ hx)) fun x hx => hsp x (List.mem_append_right _ hx))
  | .nil, [], vs, ds, ps, hc, h, hlt, hsp => by
    obtain ⟨rfl, rfl, rfl⟩ := trodAll_nil h
    exact trodAll_mk0
  | .cons a b, [], vs, ds, ps, hc, h, _, _ => by simp [Ty.chkAll] at hc
  | .nil, _ :: _, vs, ds, ps, hc, h, _, _ => by simp [Ty.chkAll] at hc
  | .int _, ts, vs, ds, ps, hc, h, _, _ => by cases ts <;> simp [Ty.chkAll] at hc
  | .bool, ts, vs, ds, ps, hc, h, _, _ => by cases ts <;> simp [Ty.chkAll] at hc
  | .str, ts, vs, ds, ps, hc, h, _, _ => by cases ts <;> simp [Ty.chkAll] at hc
  | .sl _, ts, vs, ds, ps, hc, h, _, _ => by cases ts <;> simp [Ty.chkAll] at hc

theorem kept_of_below (hb : Below w.heap.size w w') (may : MemPlace → Prop) : w.keptBut w' may := by
  refine ⟨hb.os, hb.output, fun i hi => ?_⟩
  rw [hb.block i hi]
  cases w.heap[i]? with
  | none => rfl
  | some o => cases o <;> first | exact ⟨rfl, rfl, rfl, fun _ _ => rfl⟩ | exact .inr ⟨rfl, rfl⟩ | rfl

/-- A law that answers 'true' and leaves its arguments as they were. -/
theorem law_contract {f : FuncId} {fn : Func} {s : ChangeSpec} {ty : Ty} {tb : TypeId} {fresh handsOn again : Bool} (hvars : s.vars = []) (hres : fn.resultTypes = #[tb]) (htb : P.underlying tb = some .bool) (hl : laidOutB P = true)
    (hchk : ty.chkAll P fn.params.toList = true) (hspec : ∀ ds : List (DataW H), ds.length = fn.params.size → s.fn H ds = { results := [.lit (.bool true)], args := ds }) (hR : ∀ y : ty.V, Ret P f ((ty.args y).map .v) (.bool true))
    {W : World} {base : Nat} {args : Array Value} {ds gs : List (DataW H)} {before : List MemPlace}
    (hval : ∀ (j : Nat) t v, fn.params[j]? = some t → args[j]? = some v → Value.okWide P W .any base t v) (hW : DataW.Whole enc P fn.params.toList s.vars false W args.toList ds gs before) :
    Calls P f args W fun e W' => ∃ v, e = .returned v ∧ s.post enc P fn false fresh handsOn again W args v W' := by
  have hW' := hW
  obtain ⟨p, q, hA, hV, rfl, hz, _⟩ := hW
  rw [hvars] at hV
  obtain ⟨rfl, rfl⟩ := trodVars_none hV
  have hlen : ds.length = fn.params.size := by
    have key : ∀ {ts : List TypeId} {vs : List Value} {ds : List (DataW H)} {ps : List MemPlace}, DataW.TrodAll enc P W 0 (fun _ => true) true ts vs ds ps → ds.length = ts.length := by
      intro ts
      induction ts with
      | nil => intro vs ds ps h; obtain ⟨_, rfl, _⟩ := trodAll_nil h; rfl
      | cons t ts ih => intro vs ds ps h; obtain ⟨v, vs', d, ds', a, b, _, rfl, _, _, h2⟩ := trodAll_cons h; simp [ih h2]
    simpa using key hA
  have hlt := hW'.lt
  simp only [List.append_nil] at hlt hz hW'
  obtain ⟨y, hy1, hy2⟩ := args_rd (base := base) ty hchk hA fun j t v hj hv => hval j t v (by simpa using hj) (by simpa using hv)
  refine (hR y W (live' W) args (fun _ _ => False) (fun _ h => h) (by simpa using hy1) (fun j a ha => ?_) (fun _ _ _ _ h => h.elim) (fun _ _ h => h.elim)).mono ?_
  · rw [List.getElem?_map, Option.map_eq_some_iff] at ha
    obtain ⟨d, hd, rfl⟩ := ha
    refine ⟨?_, fun _ h => h⟩
    have := hy2 j d hd
    simpa using this
  rintro e W' ⟨v, F, Fs', rfl, hsz, hown, _, _, _, _, hsame, hos, htape, hout⟩
  have hv : v = .bool true := by cases hown; rfl
  subst hv
  have hb : Below W.heap.size W W' := ⟨hos, htape, hout, hsz, fun k hk => hsame k hk fun _ h => h⟩
  refine ⟨_, rfl, ?_⟩
  have hold : ∀ x ∈ p, (fun b => decide (b < W.heap.size)) x.block = true := fun x hx => by simpa using hlt x hx
  have hsp : s.fn H (ds ++ []) = { results := [.lit (.bool true)], args := ds } := by rw [List.append_nil]; exact hspec ds hlen
  have hresl : (Value.bool true).resultList fn.resultTypes.size = [.bool true] := by rw [hres]; rfl
  have hr : ∀ (b : Nat) (sp : Nat → Bool) (hd : Bool), DataW.TrodAll enc P W' b sp hd fn.resultTypes.toList ((Value.bool true).resultList fn.resultTypes.size) [.lit (.bool true)] [] := fun b sp hd => by
    rw [hresl, hres]; exact trodAll_cons_mk (shut_bool htb _) trodAll_mk0
  have hargs : ∀ sp : Nat → Bool, (∀ x ∈ p, sp x.block = true) → DataW.TrodAll enc P W' 0 sp true fn.params.toList args.toList ds p := fun sp h => args_again hl hb ty hchk hA hlt h
  refine ⟨ds, [], p, [], p, [], by rw [hvars] at hW' ⊢; exact hW', ?_, ?_, ?_, kept_of_below hb _, fun _ => ⟨?_, [.lit (.bool true)] ++ ds, [], p, ?_, fun _ h _ => h⟩⟩
  · rw [hsp]; exact hr _ _ _
  · rw [hsp]; exact hargs _ hold
  · rw [hsp, hvars]; rfl
  · exact ok_one hres rfl (okWide_bool_mk htb _)
  · refine ⟨p, [], ?_, by rw [hvars]; rfl, by simp, ?_, fun h => by cases h⟩
    · have := trodAll_append (hargs (fun _ => true) fun _ _ => rfl) (hr 0 (fun _ => true) true)
      simpa using this
    · intro b off hx
      have hbl := hlt _ hx
      have := hz b off hx
      have e : W'.frozen? ⟨b, off, none⟩ = W.frozen? ⟨b, off, none⟩ := by
        unfold World.frozen?
        rw [hb.block b hbl]
      rw [e]; exact this
end
end Go.D3
