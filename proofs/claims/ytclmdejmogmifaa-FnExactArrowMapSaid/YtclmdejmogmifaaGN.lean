/- sync.Once IN ONE GOROUTINE: Do. -/
import Derived.Test.YtclmdejmogmifaaChecked
import Derived.Tactics
import Derived.Tactics2
import Derived.Defers
import Derived.Laws.Pointers
import Derived.Laws.LoneSync
import Derived.RegionTactic
import Derived.RegionCalls
import Derived.ChangeAlike
import Derived.Laws.NewBlocks
import Derived.Test.YtclmdejmogmifaaGcall
import Derived.Test.YtclmdejmogmifaaKitG
/- sync.Once IN ONE GOROUTINE: its parts, Do's two ways. -/
namespace Go.D3
open Go
set_option maxRecDepth 100000
set_option maxHeartbeats 4000000

theorem on_disable (w : World) : (callFunc 205 #[]).run Go.Proofs.Try.prog w = .ok (.value (.tuple #[])) w := run_call_mark0 Go.Proofs.Try.func205 (by kernel_rfl) (by kernel_rfl) (by kernel_rfl) .disable (by kernel_rfl) w
theorem on_enable (w : World) : (callFunc 207 #[]).run Go.Proofs.Try.prog w = .ok (.value (.tuple #[])) w := run_call_mark0 Go.Proofs.Try.func207 (by kernel_rfl) (by kernel_rfl) (by kernel_rfl) .enable (by kernel_rfl) w
theorem on_acquire (a : Addr) (w : World) : (callFunc 208 #[.pointer (some a)]).run Go.Proofs.Try.prog w = .ok (.value (.tuple #[])) w := run_call_marked Go.Proofs.Try.func208 (by kernel_rfl) (by kernel_rfl) (by kernel_rfl) .acquire (by kernel_rfl) a w
theorem on_release (a : Addr) (w : World) : (callFunc 210 #[.pointer (some a)]).run Go.Proofs.Try.prog w = .ok (.value (.tuple #[])) w := run_call_marked Go.Proofs.Try.func210 (by kernel_rfl) (by kernel_rfl) (by kernel_rfl) .releaseMerge (by kernel_rfl) a w

/-- The flag is set, entered as a deferred call. -/
theorem on_store (a : Addr) (x : Value) (u : FrameMode) (w : World) (hc : w.cell? a = some x) (hz : w.frozen? a = false) :
    CallsD Go.Proofs.Try.prog 193 #[.pointer (some a), .bool true] u w fun e u' w' => u' = u ∧ (e = .returned (.tuple #[]) ∧ w' = w.drew.setCell a (.int .u32 1)) := by
  have hc' : w.drew.cell? a = some x := by go_simp
  have hz' : w.drew.frozen? a = false := by go_simp
  have hst := run_call_store (P := Go.Proofs.Try.prog) Go.Proofs.Try.func201 (by kernel_rfl) (by kernel_rfl) (by kernel_rfl) (by kernel_rfl) (k := .u32) (y := 1) hc' hz'
  go_enter_d Go.Proofs.Try.func193, Go.Proofs.Try.ntmps193
  go_wp2
  go_region_calls
  all_goals (go_end0; exact ⟨rfl, rfl⟩)

/-- Unlock, entered as a deferred call. -/
theorem on_unlock (a : Addr) (u : FrameMode) (w : World) (hc : w.cell? a = some (.int .i32 1)) (hz : w.frozen? a = false) :
    CallsD Go.Proofs.Try.prog 192 #[.pointer (some a)] u w fun e u' w' => u' = u ∧ (e = .returned (.tuple #[]) ∧ w' = w.setCell a (.int .i32 0)) := by
  have hd := on_disable
  have he := on_enable
  have hr := on_release
  have hadd := run_call_add (P := Go.Proofs.Try.prog) Go.Proofs.Try.func211 (by kernel_rfl) (by kernel_rfl) (by kernel_rfl) .i32 (by kernel_rfl) (y := -1) (s := 0) hc hz (by simp [go_sem]; rfl)
  have hcv := run_convert_to_unsafe (P := Go.Proofs.Try.prog) (src := 238) (dst := 242) Go.Proofs.Try.underlying238 Go.Proofs.Try.underlying242 (by kernel_rfl) hc
  go_enter_d Go.Proofs.Try.func192, Go.Proofs.Try.ntmps192
  go_wp2
  go_end0
  go_wp2
  go_end0
  exact ⟨rfl, rfl⟩

/-- Lock, the lock free. -/
theorem on_lock (a : Addr) (w : World) (hc : w.cell? a = some (.int .i32 0)) (hz : w.frozen? a = false) :
    Calls Go.Proofs.Try.prog 191 #[.pointer (some a)] w fun e w' => e = .returned (.tuple #[]) ∧ w' = w.setCell a (.int .i32 1) := by
  have hd := on_disable
  have he := on_enable
  have ha := on_acquire
  have hcas := run_call_cas_hit (P := Go.Proofs.Try.prog) Go.Proofs.Try.func206 (by kernel_rfl) (by kernel_rfl) (by kernel_rfl) .i32 (by kernel_rfl) (y := 1) hc hz
  have hc' : (w.setCell a (.int .i32 1)).cell? a = some (.int .i32 1) := World.cell?_setCell_same w a _ hc
  have hcv := run_convert_to_unsafe (P := Go.Proofs.Try.prog) (src := 238) (dst := 242) Go.Proofs.Try.underlying238 Go.Proofs.Try.underlying242 (by kernel_rfl) hc'
  go_enter Go.Proofs.Try.func191, Go.Proofs.Try.ntmps191
  go_wp2
  first | go_end0 | (simp only [Exit.inBlock, Exit.then]; refine bodyPost_ret (results_none rfl _ _ _) rfl ?_) | refine bodyPost_ret (results_none rfl _ _ _) rfl ?_
  go_wp2
  go_end0
  exact ⟨rfl, rfl⟩
end Go.D3

/- sync.Once IN ONE GOROUTINE: doSlow and Do, where what is called is known by a contract. -/
namespace Go.D3
open Go
set_option maxRecDepth 100000
set_option maxHeartbeats 4000000

/-- The flag is looked at. -/
theorem on_load (a : Addr) (x : Int) (w : World) (h0 : w.cell? a = some (.int .u32 x)) :
    Calls Go.Proofs.Try.prog 174 #[.pointer (some a)] w fun e w' => e = .returned (.bool (x != 0)) ∧ w' = w := by
  have hl := run_call_load (P := Go.Proofs.Try.prog) Go.Proofs.Try.func190 (by kernel_rfl) (by kernel_rfl) (by kernel_rfl) .u32 (by kernel_rfl) h0
  go_enter Go.Proofs.Try.func174, Go.Proofs.Try.ntmps174
  go_wp2
  go_ret
  exact ⟨rfl, rfl⟩

/-- The two cells of a Once that is held and not done. -/
def OnceAt (a a1 : Addr) (x y : Value) (w : World) : Prop := w.cell? a = some x ∧ w.cell? a1 = some y ∧ w.frozen? a = false ∧ w.frozen? a1 = false

theorem once_slow (b o : Nat) (fv : FuncId) (cs : Array Value) (w : World) (h0 : OnceAt ⟨b, o, none⟩ ⟨b, o + 1, none⟩ (.int .u32 0) (.int .i32 0) w) (Φ : World → Prop)
    (hfn : ∀ w, (callFunc fv cs).run Go.Proofs.Try.prog w = .ok (.enter fv cs) w)
    (hf : Calls Go.Proofs.Try.prog fv cs (w.setCell ⟨b, o + 1, none⟩ (.int .i32 1)) fun e w' => e = .returned (.tuple #[]) ∧ (∃ x, OnceAt ⟨b, o, none⟩ ⟨b, o + 1, none⟩ x (.int .i32 1) w') ∧ Φ w') :
    Calls Go.Proofs.Try.prog 175 #[.pointer (some ⟨b, o, none⟩), .func (.func fv) #[] cs] w fun e w' => e = .returned (.tuple #[]) ∧
      ∃ w2, Φ w2 ∧ w' = (w2.drew.setCell ⟨b, o, none⟩ (.int .u32 1)).setCell ⟨b, o + 1, none⟩ (.int .i32 0) := by
  obtain ⟨h0, h1, f0, f1⟩ := h0
  have hl := run_call_load (P := Go.Proofs.Try.prog) Go.Proofs.Try.func190 (by kernel_rfl) (by kernel_rfl) (by kernel_rfl) .u32 (by kernel_rfl) (w := w.setCell ⟨b, o + 1, none⟩ (.int .i32 1)) (a := ⟨b, o, none⟩) (x := 0) ((World.cell?_setCell_other _ ⟨b, o + 1, none⟩ ⟨b, o, none⟩ _ (by simp)).trans h0)
  have hnot : ∀ (x : Bool) (w : World), (Op.unary .not (.bool x)).run Go.Proofs.Try.prog w = .ok (.bool (!x)) w := fun _ _ => rfl
  go_enter_defers Go.Proofs.Try.func175, Go.Proofs.Try.ntmps175
  go_wp2_with (go_at_call 191; refine (on_lock ⟨b, o + 1, none⟩ _ (by go_simp) (by go_simp)).mono ?_; rintro e w' ⟨rfl, rfl⟩)
  go_wp2_with (go_at_call 174; refine (on_load ⟨b, o, none⟩ 0 _ ((World.cell?_setCell_other _ ⟨b, o + 1, none⟩ ⟨b, o, none⟩ _ (by simp)).trans h0)).mono ?_; rintro e w' ⟨rfl, rfl⟩)
  refine hf.mono ?_
  rintro e w2 ⟨rfl, ⟨x, g0, g1, e0, e1⟩, hΦ⟩
  go_wp2
  -- two deferred calls, the last laid first
  refine leaves_cons (f := 193) (args := #[.pointer (some ⟨b, o, none⟩), .bool true]) (by simp) (by simp [go_sem]) ?_
  refine (on_store ⟨b, o, none⟩ x .returning _ g0 e0).mono ?_
  rintro e u' w'' ⟨rfl, rfl, rfl⟩
  refine leaves_cons (f := 192) (args := #[.pointer (some ⟨b, o + 1, none⟩)]) (by simp [settle]) (by simp [go_sem]) ?_
  refine (on_unlock ⟨b, o + 1, none⟩ _ _ ?_ ?_).mono ?_
  · refine (World.cell?_setCell_other _ ⟨b, o, none⟩ ⟨b, o + 1, none⟩ _ (by simp)).trans ?_
    rw [World.cell?_drew]
    exact g1
  · simp [e1]
  rintro e u' w'' ⟨rfl, rfl, rfl⟩
  simp [Leaves, settle, results, Go.Proofs.Try.results175]
  exact ⟨w2, hΦ, rfl⟩
end Go.D3

/- sync.Once IN ONE GOROUTINE: what holds of objects that are lent to Do. -/
namespace Go.D3
open Go
set_option maxRecDepth 100000
set_option maxHeartbeats 4000000

section
variable {cx : Ctx} {ct : Nat → D} {vl : Nat → Value} {fp : Nat → Nat → Prop} {G : Nat → Prop} {w : World}

/-- A number in a box: where it lies. -/
theorem hp_num (h : Hp cx ct vl fp G w) {k : Nat} {l : List D} (hk : ct k = .box l) : ∃ b, vl k = .pointer (some ⟨b, 0, none⟩) ∧ fp k b ∧ ∀ j kd n, l[j]? = some (.int kd n) → w.cell? ⟨b, j, none⟩ = some (.int kd n) ∧ w.frozen? ⟨b, j, none⟩ = false := by
  have hb := h.ok k
  rw [hk] at hb
  obtain ⟨_, b, cs, e, Fs, h1, h2, h3, h4, h5, _⟩ := hb
  refine ⟨b, h1, h5, fun j kd n hj => ?_⟩
  have hjl := (List.getElem?_eq_some_iff.1 hj).1
  have hc := h4 j _ hj
  obtain ⟨hv, _⟩ := pl_int (ct := ct) (vl := vl) hc
  refine ⟨?_, by simp [World.frozen?, h2]⟩
  rw [cell_own h2 (by omega), hv]

/-- A number in a box is overwritten. -/
theorem hp_setn (h : Hp cx ct vl fp G w) {k : Nat} {l : List D} (hk : ct k = .box l) {b j : Nat} (hb : vl k = .pointer (some ⟨b, 0, none⟩)) (hj : j < l.length) {kd : IntKind} {n : Int} (hn : kd.has n)
    (hrefs : ∀ i, (ct i).refs fun d => qSt k [(0, j)] d = false) :
    ∃ fp', Hp cx (upd ct k (.box (l.set j (.int kd n)))) vl fp' G (w.setCell ⟨b, j, none⟩ (.int kd n)) := by
  have key := h.store (k := k) (p := [(0, j)]) (a := ⟨b, j, none⟩) (u' := .int kd n) (y := .int kd n) (Fy := fun _ => False) (G' := G) (by rw [hk]; exact ⟨rfl, hj, trivial⟩) (by simp) (by rw [hk, hb]; simp [adrAt, kidA, D.un, kidAT])
    (by rw [hk]; exact Pl.rd (.int hn)) (by rw [hk]; simp [okAtC]) hrefs (fun _ => trivial) (fun _ hh => hh.elim) (fun _ hh => hh) (fun _ hh => hh.elim)
  obtain ⟨_, _, _, key, _⟩ := key
  rw [hk] at key
  exact ⟨_, key⟩
end

/-- What Do leaves, from what its function leaves. -/
def OnceQ (o : Nat) (Q : D → List D → Prop) (rc : D) (g : List D) : Prop :=
  rc = .tup [] ∧ ∃ l, Q (.tup []) [.box l, .box [.adr 0 [(0, 0)]]] ∧ g = [.box ((l.set o (.int .u32 1)).set (o + 1) (.int .i32 0)), .box [.adr 0 [(0, 0)]]]

theorem ret_doSlow (fv : FuncId) (l : List D) (o : Nat) (Q : D → List D → Prop) (hbare : refsL noRef l) (h0 : l[o]? = some (.int .u32 0)) (h1 : l[o + 1]? = some (.int .i32 0))
    (hR : RetE Go.Proofs.Try.prog fv [.adr 1 [(0, 0)]] [.box (l.set (o + 1) (.int .i32 1)), .box [.adr 0 [(0, 0)]]] Q)
    (hQ : ∀ rc g, Q rc g → rc = .tup [] ∧ ∃ l', g = [.box l', .box [.adr 0 [(0, 0)]]] ∧ refsL noRef l' ∧ (∃ n, l'[o]? = some (.int .u32 n)) ∧ l'[o + 1]? = some (.int .i32 1)) :
    RetE Go.Proofs.Try.prog 175 [.adr 0 [(0, o)], .fn fv [.adr 1 [(0, 0)]]] [.box l, .box [.adr 0 [(0, 0)]]] (OnceQ o Q) := by
  refine ⟨by decide +kernel, ?_⟩
  intro w A vs gv Fs hA hvs hpre hgpre hgemp hFd hFs
  have hv0 : ∃ b, gv 0 = .pointer (some ⟨b, 0, none⟩) ∧ vs.getD 0 undef = .pointer (some ⟨b, o, none⟩) ∧ o < l.length := by
    obtain ⟨q1, a, q2, q3⟩ := pl_adr (hpre 0 _ rfl)
    have hb := hgpre 0
    obtain ⟨_, b, cs, e, Fs', h1', _⟩ := hb
    refine ⟨b, h1', ?_, q1.2.1⟩
    have : adrAt w (gv 0) (.box l) [(0, o)] = some ⟨b, o, none⟩ := by rw [h1']; simp [adrAt, kidA, D.un, kidAT]
    rw [show nth [D.box l, .box [.adr 0 [(0, 0)]]] 0 = .box l from rfl, this] at q2
    injection q2 with q2
    rw [q3, ← q2]
  obtain ⟨b, hgv, hv0, hol⟩ := hv0
  obtain ⟨cs, hv1, hcs, hpc⟩ := pl_fn (hpre 1 _ rfl)
  have hvs' : vs = #[.pointer (some ⟨b, o, none⟩), .func (.func fv) #[] cs] := by
    apply Array.ext
    · simpa using hvs
    · intro i hi hi'
      have hi2 : i < 2 := by simpa [hvs] using hi
      have hg : vs[i] = vs.getD i undef := by simp [hi]
      rw [hg]
      rcases i with _ | _ | i
      · rw [hv0]; rfl
      · rw [hv1]; rfl
      · omega
  have hcs' : cs = #[cs.getD 0 undef] := by
    apply Array.ext
    · simpa using hcs
    · intro i hi hi'
      have hi2 : i < 1 := by simpa [hcs] using hi
      obtain rfl : i = 0 := by omega
      simp [hi]
  generalize hc0 : cs.getD 0 undef = c0 at hcs'
  have hpc0 := hpc 0 _ rfl
  rw [hc0] at hpc0
  have hol1 : o + 1 < l.length := (List.getElem?_eq_some_iff.1 h1).1
  -- the state at the call
  let cx : Ctx := ⟨w, fun b => ∃ j, Fs j b, A, gv⟩
  let st0 : St := ⟨[.box l, .box [.adr 0 [(0, 0)]], .adr 1 [(0, 0)]], 0, []⟩
  let vl : Nat → Value := upd gv 2 c0
  have hstA : ∀ b, A b → stab cx Fs (fun _ => False) w b := fun b hb => ⟨⟨hA b hb, fun _ => hb⟩, fun h => h, fun k hk => (hFs k b hk).2 hb⟩
  have hnth : (⟨[.box l, .box [.adr 0 [(0, 0)]]], 0, []⟩ : St).cont = nth [D.box l, .box [.adr 0 [(0, 0)]]] := by
    funext k; rw [cont0]; split
    · rfl
    · exact (nth_over _ _ (by simp; omega)).symm
  have hp00 : Hp cx (⟨[.box l, .box [.adr 0 [(0, 0)]]], 0, []⟩ : St).cont gv Fs (fun _ => False) w := by
    rw [hnth]
    exact ⟨fun k => (hgpre k).mono (Q := fun _ => True) hstA (fun _ _ => rfl) (fun _ _ => rfl) (fun _ h => h) (refs_all (fun _ => trivial) _) fun _ _ _ h => h, fun i j hij b => hFd i j b hij, fun _ _ _ h => h, hgemp, fun k b hb => ⟨(hFs k b hb).1, .inl ⟨k, hb⟩⟩, fun _ h => h.elim, Nat.le_refl _, fun _ _ _ => rfl, rfl, rfl, rfl⟩
  have hd2 : (⟨[.box l, .box [.adr 0 [(0, 0)]]], 0, []⟩ : St).cont 2 = .dead := by rw [hnth]; rfl
  obtain ⟨fp0, hp0⟩ : ∃ fp0, Hp cx st0.cont vl fp0 (fun _ => False) w := by
    have := hp00.put (k := 2) (v := c0) (c := .adr 1 [(0, 0)]) (F := fun _ => False) (G' := fun _ => False) (by rw [hd2]; rfl)
      (by rw [hnth]; exact Pl.mono (Q := fun _ => True) hpc0 hstA (fun _ _ => rfl) (refs_all (fun _ => trivial) _) fun _ _ _ h => h) (fun _ h => h) (fun _ h => h) (fun _ h => h.elim) (fun _ _ h => h)
    have he : st0.cont = upd (⟨[.box l, .box [.adr 0 [(0, 0)]]], 0, []⟩ : St).cont 2 (.adr 1 [(0, 0)]) := by
      funext k
      rcases k with _ | _ | _ | k
      · rfl
      · rfl
      · rfl
      · simp only [upd]; rw [cont0, cont0]; rfl
    exact ⟨_, by rw [he]; exact this⟩
  have hc00 : st0.cont 0 = .box l := rfl
  have hvl0 : vl 0 = .pointer (some ⟨b, 0, none⟩) := hgv
  obtain ⟨b', hb1, hb2, hb3⟩ := hp_num hp0 hc00
  rw [hvl0] at hb1
  injection hb1 with hb1; injection hb1 with hb1; injection hb1 with hb1; subst hb1
  have hOnce : OnceAt ⟨b, o, none⟩ ⟨b, o + 1, none⟩ (.int .u32 0) (.int .i32 0) w := ⟨(hb3 _ _ _ h0).1, (hb3 _ _ _ h1).1, (hb3 _ _ _ h0).2, (hb3 _ _ _ h1).2⟩
  -- the lock
  let st1 : St := ⟨[.box (l.set (o + 1) (.int .i32 1)), .box [.adr 0 [(0, 0)]], .adr 1 [(0, 0)]], 0, []⟩
  have hq : ∀ (l : List D) (j : Nat), refsL noRef l → ∀ i, ((⟨[.box l, .box [.adr 0 [(0, 0)]], .adr 1 [(0, 0)]], 0, []⟩ : St).cont i).refs fun d => qSt 0 [(0, j)] d = false := by
    intro l j hl i
    rw [cont0]
    split
    · rcases i with _ | _ | _ | i
      · exact refs_mono (fun d hd => hd.elim) (show (D.box l).refs noRef from hl)
      · exact ⟨rfl, trivial⟩
      · rfl
      · trivial
    · trivial
  have hset : ∀ (l l' : List D), upd (⟨[.box l, .box [.adr 0 [(0, 0)]], .adr 1 [(0, 0)]], 0, []⟩ : St).cont 0 (.box l') = (⟨[.box l', .box [.adr 0 [(0, 0)]], .adr 1 [(0, 0)]], 0, []⟩ : St).cont := by
    intro l l'; funext k
    rcases k with _ | k
    · rfl
    · simp only [upd]; rw [cont0, cont0]; rfl
  obtain ⟨fp1, hp1⟩ := hp_setn hp0 hc00 hvl0 hol1 (kd := .i32) (n := 1) (by constructor <;> decide) (hq l (o + 1) hbare)
  rw [hset] at hp1
  -- the call
  have hσ : ∀ i, i < 2 → sg 0 [0, 1] i = i := fun i hi => by
    rcases i with _ | _ | i
    · rfl
    · rfl
    · omega
  have hbare1 : refsL noRef (l.set (o + 1) (.int .i32 1)) := refsL_iff.2 fun x hx => (List.mem_or_eq_of_mem_set hx).elim (refsL_iff.1 hbare x) fun e => e ▸ trivial
  have hren : ∀ l : List D, refsL noRef l → (D.box l).ren (sg 0 [0, 1]) = .box l := fun l hl => ren_bare _ hl
  have hcall := g_sound (P := Go.Proofs.Try.prog) (f := fv) (vs := #[c0]) (ds := [.adr 1 [(0, 0)]]) (K := fun c st => c = .tup [] ∧ ∃ l', Q (.tup []) [.box l', .box [.adr 0 [(0, 0)]]] ∧ refsL noRef l' ∧ (∃ n, l'[o]? = some (.int .u32 n)) ∧ l'[o + 1]? = some (.int .i32 1) ∧
      st.cont 0 = .box l' ∧ st.cont 1 = .box [.adr 0 [(0, 0)]] ∧ (st.cont 2).isObj = false ∧ ∀ k, 2 < k → st.cont k = .dead) hp1 rfl rfl (fun j d hj => by
        obtain rfl : j = 0 := by have := (List.getElem?_eq_some_iff.1 hj).1; simpa using this
        injection hj with hj; subst hj
        have := hp1.ok 2
        exact this)
      ⟨[0, 1], false, [.adr 1 [(0, 0)]], _, Q, hR, ⟨by simp, by simp⟩, ⟨(hren _ hbare1).symm, rfl, trivial⟩, ⟨.inl rfl, trivial⟩, fun rc g' hq => by
        obtain ⟨rfl, l', rfl, q1, q2, q3⟩ := hQ _ _ hq
        refine ⟨⟨fun h => (by cases h), fun h => (by cases h), trivial⟩, fun h => (by cases h), rfl, l', hq, q1, q2, q3, ?_, rfl, ?_, fun k hk => ?_⟩
        · exact hren _ q1
        · exact isObj_kill (qG [0, 1] [.box (l.set (o + 1) (.int .i32 1)), .box [.adr 0 [(0, 0)]]] [.box l', .box [.adr 0 [(0, 0)]]]) (.adr 1 [(0, 0)])
        · have : (putsG (sg 0 [0, 1]) (St.kill ⟨[.box (l.set (o + 1) (.int .i32 1)), .box [.adr 0 [(0, 0)]], .adr 1 [(0, 0)]], 0, []⟩ (qG [0, 1] [.box (l.set (o + 1) (.int .i32 1)), .box [.adr 0 [(0, 0)]]] [.box l', .box [.adr 0 [(0, 0)]]])) [0, 1] [.box l', .box [.adr 0 [(0, 0)]]]).cont k = .dead := by
            show (⟨[_, _, _], 0, []⟩ : St).cont k = .dead
            rw [cont0]
            split
            · exact nth_over _ _ (by simp; omega)
            · rfl
          exact this⟩
  obtain ⟨hbody, hcall⟩ := hcall
  rw [hvs']
  have hfn : ∀ w, (callFunc fv cs).run Go.Proofs.Try.prog w = .ok (.enter fv cs) w := fun w => by
    unfold bodyF at hbody
    cases hf : Go.Proofs.Try.prog.funcs[fv]? with
    | none => rw [hf] at hbody; cases hbody
    | some fn =>
      rw [hf] at hbody
      simp only [Bool.and_eq_true, Bool.not_eq_true'] at hbody
      obtain ⟨k1, k2⟩ := hbody
      cases hbo : fn.body with
      | none => rw [hbo] at k1; cases k1
      | some c => simp [callFunc, hf, hbo]; simpa using k2
  rw [← hcs'] at hcall
  refine (once_slow b o fv cs w hOnce (fun w2 => ∃ (l' : List D) (fp2 : Nat → Nat → Prop) (F2 : Nat → Prop) (st2 : St), Q (.tup []) [.box l', .box [.adr 0 [(0, 0)]]] ∧ refsL noRef l' ∧ (∃ n, l'[o]? = some (.int .u32 n)) ∧ l'[o + 1]? = some (.int .i32 1) ∧
      st2.cont 0 = .box l' ∧ st2.cont 1 = .box [.adr 0 [(0, 0)]] ∧ (st2.cont 2).isObj = false ∧ (∀ k, 2 < k → st2.cont k = .dead) ∧ Hp cx st2.cont vl fp2 F2 w2) hfn ?_).mono ?_
  · refine hcall.mono ?_
    rintro e w2 ⟨v, c, st2, rfl, ⟨rfl, l', q1, q2, ⟨n, q3⟩, q4, q5, q6, q6', q7⟩, ⟨fp2, F2, r1, r2, _⟩, _⟩
    obtain ⟨b2, s1, s2, s3⟩ := hp_num r1 q5
    rw [hvl0] at s1
    injection s1 with s1; injection s1 with s1; injection s1 with s1; subst s1
    obtain ⟨ts, rfl, ht, _⟩ := pl_tup (ct := st2.cont) (vl := vl) r2
    obtain rfl : ts = #[] := Array.eq_empty_of_size_eq_zero ht
    exact ⟨rfl, ⟨_, (s3 _ _ _ q3).1, (s3 _ _ _ q4).1, (s3 _ _ _ q3).2, (s3 _ _ _ q4).2⟩, l', fp2, F2, st2, q1, q2, ⟨n, q3⟩, q4, q5, q6, q6', q7, r1⟩
  rintro e w' ⟨rfl, w2, ⟨l', fp2, F2, st2, q1, q2, ⟨n, q3⟩, q4, q5, q6, q6', q7, r1⟩, rfl⟩
  have hol' : o < l'.length := (List.getElem?_eq_some_iff.1 q3).1
  have hol1' : o + 1 < l'.length := (List.getElem?_eq_some_iff.1 q4).1
  -- slots above are forgotten
  have hct2 : upd st2.cont 2 .dead = nth [D.box l', .box [.adr 0 [(0, 0)]]] := by
    funext k
    rcases k with _ | _ | _ | k
    · exact q5
    · exact q6
    · rfl
    · simp only [upd]; rw [if_neg (by omega), q7 _ (by omega), nth_over _ _ (by simp)]
  have hq2 : ∀ (l : List D) (j : Nat), refsL noRef l → ∀ i, (nth [D.box l, .box [.adr 0 [(0, 0)]]] i).refs fun d => qSt 0 [(0, j)] d = false := by
    intro l j hl i
    rcases i with _ | _ | i
    · exact refs_mono (fun d hd => hd.elim) (show (D.box l).refs noRef from hl)
    · exact ⟨rfl, trivial⟩
    · rw [nth_over _ _ (by simp)]; trivial
  have hset2 : ∀ (l l' : List D), upd (nth [D.box l, .box [.adr 0 [(0, 0)]]]) 0 (.box l') = nth [D.box l', .box [.adr 0 [(0, 0)]]] := by
    intro l l'; funext k
    rcases k with _ | k
    · rfl
    · simp only [upd]; rfl
  have r3 := r1.put (k := 2) (v := c0) (c := .dead) (F := fun _ => False) (G' := F2) q6' Pl.dead (fun _ h => h.elim) (fun _ h => h) (fun _ h => h.elim) (fun _ _ h => h)
  rw [hct2] at r3
  have r4 : Hp cx (nth [D.box l', .box [.adr 0 [(0, 0)]]]) (upd vl 2 c0) _ F2 w2.drew := r3.drew (w2.drawn + 1)
  obtain ⟨fp4, r4⟩ := hp_setn r4 (k := 0) rfl (b := b) (j := o) hgv hol' (kd := .u32) (n := 1) (by constructor <;> decide) (hq2 l' o q2)
  rw [hset2] at r4
  have hb4 : refsL noRef (l'.set o (.int .u32 1)) := refsL_iff.2 fun x hx => (List.mem_or_eq_of_mem_set hx).elim (refsL_iff.1 q2 x) fun e => e ▸ trivial
  obtain ⟨fp5, r5⟩ := hp_setn r4 (k := 0) rfl (b := b) (j := o + 1) hgv (by simpa using hol1') (kd := .i32) (n := 0) (by constructor <;> decide) (hq2 _ (o + 1) hb4)
  rw [hset2] at r5
  clear r4 r3 r1
  generalize hgl : (l'.set o (.int .u32 1)).set (o + 1) (.int .i32 0) = l5 at r5
  have hvl5 : ∀ k, k < 2 → upd vl 2 c0 k = gv k := fun k hk => by simp only [vl, upd]; rw [if_neg (by omega), if_neg (by omega)]
  generalize hw5 : ((w2.drew.setCell ⟨b, o, none⟩ (.int .u32 1)).setCell ⟨b, o + 1, none⟩ (.int .i32 0)) = w5 at r5
  refine ⟨.tup [], [.box l5, .box [.adr 0 [(0, 0)]]], .tuple #[], fun _ => False, gv, fp5, ⟨rfl, l', q1, by rw [hgl]⟩, rfl, r5.size, .tup rfl (fun j x hx => by simp at hx), fun _ _ h => h, fun k => ?_, r5.emp, fun _ _ => rfl, fun _ h => h.elim, fun j c hc => ?_, fun i j c hij => r5.dis i j hij c, fun c hc hn => r5.same c hc fun ⟨j, hj⟩ => hn j hj, r5.os, r5.tape, r5.output⟩
  · by_cases hk : k < 2
    · have h5 := r5.ok k
      rw [hvl5 k hk] at h5
      refine h5.mono (Q := fun d => match d with | .adr j _ => j = 0 | .sub j _ => j = 0 | _ => True) (fun c hc => ?_) (fun _ _ => rfl) (fun _ _ => rfl) (fun _ h => h) ?_ ?_
      · by_cases hco : c < w.heap.size
        · exact .inl (hc.1.2 hco)
        · exact .inr ⟨Nat.le_of_not_lt hco, hc.1.1, fun h => h, hc.2.2⟩
      · rcases k with _ | _ | k
        · have : refsL noRef l5 := by
            rw [← hgl]
            exact refsL_iff.2 fun x hx => (List.mem_or_eq_of_mem_set hx).elim (refsL_iff.1 hb4 x) fun e => e ▸ trivial
          exact refs_mono (fun d hd => hd.elim) (show (D.box l5).refs noRef from this)
        · exact ⟨rfl, trivial⟩
        · omega
      · intro v d hd hr
        have e0 : upd vl 2 c0 0 = gv 0 := hvl5 0 (by omega)
        cases d with
        | sub j p => obtain rfl : j = 0 := hd; rw [RefOk, e0] at hr; exact hr
        | adr j p => obtain rfl : j = 0 := hd; rw [RefOk, AdrOk, e0] at hr; exact hr
        | pre j p n => obtain rfl : j = 0 := hd; rw [RefOk, e0] at hr; exact hr
        | _ => exact hr.elim
    · rw [nth_over _ _ (by simp; omega)]; exact Pl.dead
  · obtain ⟨t1, t2⟩ := r5.lt j c hc
    exact ⟨t1, t2.symm⟩
end Go.D3

/- sync.Once IN ONE GOROUTINE: Do. -/
namespace Go.D3
open Go
set_option maxRecDepth 100000
set_option maxHeartbeats 4000000

theorem ret_onceLoad (l : List D) (r : List D) (o : Nat) (n : Int) (h0 : l[o]? = some (.int .u32 n)) :
    RetG Go.Proofs.Try.prog 174 [.adr 0 [(0, o)]] (.box l :: r) (.bool (n != 0)) (.box l :: r) := by
  refine ⟨by decide +kernel, ?_⟩
  intro w A vs gv Fs hA hvs hpre hgpre hgemp hFd hFs
  have hv0 : ∃ b, gv 0 = .pointer (some ⟨b, 0, none⟩) ∧ vs.getD 0 undef = .pointer (some ⟨b, o, none⟩) ∧ w.cell? ⟨b, o, none⟩ = some (.int .u32 n) := by
    obtain ⟨q1, a, q2, q3⟩ := pl_adr (hpre 0 _ rfl)
    have hb := hgpre 0
    obtain ⟨_, b, cs, e, Fs', h1', h2, h3, h4, _⟩ := hb
    have hjl := (List.getElem?_eq_some_iff.1 h0).1
    refine ⟨b, h1', ?_, ?_⟩
    · have : adrAt w (gv 0) (.box l) [(0, o)] = some ⟨b, o, none⟩ := by rw [h1']; simp [adrAt, kidA, D.un, kidAT]
      rw [show nth (D.box l :: r) 0 = .box l from rfl, this] at q2
      injection q2 with q2
      rw [q3, ← q2]
    · obtain ⟨hv, _⟩ := pl_int (ct := nth (D.box l :: r)) (vl := gv) (h4 o _ h0)
      rw [cell_own h2 (by omega), hv]
  obtain ⟨b, hgv, hv0, hc⟩ := hv0
  have hvs' : vs = #[.pointer (some ⟨b, o, none⟩)] := by
    apply Array.ext
    · simpa using hvs
    · intro i hi hi'
      have hi2 : i < 1 := by simpa [hvs] using hi
      obtain rfl : i = 0 := by omega
      have hg : vs[0] = vs.getD 0 undef := by simp [hi]
      rw [hg, hv0]; rfl
  rw [hvs']
  refine (on_load ⟨b, o, none⟩ n w hc).mono ?_
  rintro e w' ⟨rfl, rfl⟩
  refine ⟨_, _, _, fun _ => False, gv, Fs, ⟨rfl, rfl⟩, rfl, Nat.le_refl _, Pl.rd .bool, fun _ _ h => h, fun k => ?_, hgemp, fun _ _ => rfl, fun _ h => h.elim, fun j c hc => ⟨(hFs j c hc).1, .inr ⟨j, hc⟩⟩, hFd, fun _ _ _ => rfl, rfl, rfl, rfl⟩
  exact (hgpre k).mono (Q := fun _ => True) (fun c hc => .inl hc) (fun _ _ => rfl) (fun _ _ => rfl) (fun _ h => h) (refs_all (fun _ => trivial) _) fun _ _ _ h => h

-- (*sync.Once).Do
def c_sync_Once_Do : C :=
  (.opc [] [⟨none, .mv (.v 0)⟩,
    ⟨none, .nck (.t 0)⟩,
    ⟨none, .fA 0 (.t 1)⟩,
    ⟨none, .dyn (.k (.fn 174 [])) [(.t 2)]⟩,
    ⟨none, .not (.t 3)⟩] [] (.t 4) (.ops [] [⟨none, .mv (.v 0)⟩,
    ⟨none, .mv (.v 1)⟩,
    ⟨none, .dyn (.k (.fn 175 [])) [(.t 0), (.t 1)]⟩] [])
  .skip)
def tr_sync_Once_Do : List Nat := [0, 1]
def rs_sync_Once_Do : List RS := []
theorem ok_sync_Once_Do : fnOk Go.Proofs.Try.prog Go.Proofs.Try.f146 tr_sync_Once_Do c_sync_Once_Do 2 rs_sync_Once_Do = true := by decide +kernel

theorem ret_onceDo (fv : FuncId) (l : List D) (o : Nat) (Q : D → List D → Prop) (hbare : refsL noRef l) (h0 : l[o]? = some (.int .u32 0)) (h1 : l[o + 1]? = some (.int .i32 0))
    (hR : RetE Go.Proofs.Try.prog fv [.adr 1 [(0, 0)]] [.box (l.set (o + 1) (.int .i32 1)), .box [.adr 0 [(0, 0)]]] Q)
    (hQ : ∀ rc g, Q rc g → rc = .tup [] ∧ ∃ l', g = [.box l', .box [.adr 0 [(0, 0)]]] ∧ refsL noRef l' ∧ (∃ n, l'[o]? = some (.int .u32 n)) ∧ l'[o + 1]? = some (.int .i32 1)) :
    RetE Go.Proofs.Try.prog 146 [.adr 0 [(0, o)], .fn fv [.adr 1 [(0, 0)]]] [.box l, .box [.adr 0 [(0, 0)]]] (OnceQ o Q) := by
  have hol := (List.getElem?_eq_some_iff.1 h0).1
  refine ret_fnE .refs Go.Proofs.Try.func146 rfl ok_sync_Once_Do rfl ⟨by simp only [List.length_cons, List.length_nil]; decide, by simp only [List.length_cons, List.length_nil]; decide⟩ rfl ?_; unfold c_sync_Once_Do tr_sync_Once_Do rs_sync_Once_Do; simp only [go_sem, Nat.reduceLT, Nat.reduceAdd, Nat.reduceSub, ↓reduceIte]
  have hrn : ∀ σ, renL σ l = l := fun σ => by have := ren_bare (σ := σ) (.box l) hbare; simpa [D.ren] using this
  have hkl : ∀ q, killL q l = l := fun q => by have := kill_bare (q := q) (.box l) hbare; simpa [D.kill] using this
  rw [hrn]
  refine ⟨hol, ?_⟩
  refine g_call [2, 3] false (ret_onceLoad l [.box [.adr 0 [(0, 0)]]] o 0 h0) (by exact ⟨by decide, rfl⟩) ⟨(ren_bare (.box l) hbare).symm, rfl, trivial⟩ (by repeat (first | exact trivial | refine ⟨.inl rfl, ?_⟩ | refine ⟨.inr ⟨rfl, rfl⟩, ?_⟩)) (by repeat (first | exact trivial | refine ⟨(fun h => by cases h), ?_⟩)) (fun h => by cases h) ?_
  simp only [go_sem, Nat.reduceLT, Nat.reduceAdd, Nat.reduceSub, Nat.reduceBEq, Nat.reduceLeDiff, ↓reduceIte, hrn, hkl, beq_self_eq_true, Bool.not_true, Bool.false_eq_true, bne_self_eq_false, Bool.not_false]
  refine e_call [2, 3] false (ret_doSlow fv l o Q hbare h0 h1 hR hQ) (by exact ⟨by decide, rfl⟩) ⟨(ren_bare (.box l) hbare).symm, rfl, trivial⟩ (by repeat (first | exact trivial | refine ⟨.inl rfl, ?_⟩ | refine ⟨.inr ⟨rfl, rfl⟩, ?_⟩)) ?_
  rintro _ _ ⟨rfl, l', hq, rfl⟩
  obtain ⟨_, l2, he, hb2, ⟨n, hn⟩, hn1⟩ := hQ _ _ hq
  injection he with he; injection he with he; subst he
  have hb3 : refsL noRef ((l'.set o (.int .u32 1)).set (o + 1) (.int .i32 0)) := refsL_iff.2 fun x hx => (List.mem_or_eq_of_mem_set hx).elim (fun hx => (List.mem_or_eq_of_mem_set hx).elim (refsL_iff.1 hb2 x) fun e => e ▸ trivial) fun e => e ▸ trivial
  refine ⟨(by repeat (first | exact trivial | refine ⟨(fun h => by cases h), ?_⟩)), (fun h => by cases h), ?_⟩
  generalize hl3 : (l'.set o (.int .u32 1)).set (o + 1) (.int .i32 0) = l3 at hb3
  have hrn3 : ∀ σ, renL σ l3 = l3 := fun σ => by have := ren_bare (σ := σ) (.box l3) hb3; simpa [D.ren] using this
  have hkl3 : ∀ q, killL q l3 = l3 := fun q => by have := kill_bare (q := q) (.box l3) hb3; simpa [D.kill] using this
  simp only [go_sem, Nat.reduceLT, Nat.reduceAdd, Nat.reduceBEq, Nat.reduceLeDiff, ↓reduceIte, hrn3, hkl3]
  refine ⟨rfl, _, _, ⟨rfl, l', hq, rfl⟩, rfl, rfl, ?_, rfl, trivial⟩
  rw [hl3]
  simp only [D.ren, hrn3]; rfl

theorem ret_onceDone (fv : FuncId) (l : List D) (o : Nat) (hbare : refsL noRef l) (h0 : l[o]? = some (.int .u32 1)) :
    RetG Go.Proofs.Try.prog 146 [.adr 0 [(0, o)], .fn fv [.adr 1 [(0, 0)]]] [.box l, .box [.adr 0 [(0, 0)]]] (.tup []) [.box l, .box [.adr 0 [(0, 0)]]] := by
  have hol := (List.getElem?_eq_some_iff.1 h0).1
  refine ret_fnG .refs Go.Proofs.Try.func146 rfl ok_sync_Once_Do rfl ⟨by simp only [List.length_cons, List.length_nil]; decide, by simp only [List.length_cons, List.length_nil]; decide⟩ rfl ?_; unfold c_sync_Once_Do tr_sync_Once_Do rs_sync_Once_Do; simp only [go_sem, Nat.reduceLT, Nat.reduceAdd, Nat.reduceSub, ↓reduceIte]
  have hrn : ∀ σ, renL σ l = l := fun σ => by have := ren_bare (σ := σ) (.box l) hbare; simpa [D.ren] using this
  have hkl : ∀ q, killL q l = l := fun q => by have := kill_bare (q := q) (.box l) hbare; simpa [D.kill] using this
  rw [hrn]
  refine ⟨hol, ?_⟩
  refine g_call [2, 3] false (ret_onceLoad l [.box [.adr 0 [(0, 0)]]] o 1 h0) (by exact ⟨by decide, rfl⟩) ⟨(ren_bare (.box l) hbare).symm, rfl, trivial⟩ (by repeat (first | exact trivial | refine ⟨.inl rfl, ?_⟩ | refine ⟨.inr ⟨rfl, rfl⟩, ?_⟩)) (by repeat (first | exact trivial | refine ⟨(fun h => by cases h), ?_⟩)) (fun h => by cases h) ?_
  simp only [go_sem, Nat.reduceLT, Nat.reduceAdd, Nat.reduceSub, Nat.reduceBEq, Nat.reduceLeDiff, ↓reduceIte, hrn, hkl, beq_self_eq_true, Bool.not_true, Bool.false_eq_true]
  exact ⟨fun h => (by cases h), fun _ => ⟨rfl, rfl⟩⟩
end Go.D3
