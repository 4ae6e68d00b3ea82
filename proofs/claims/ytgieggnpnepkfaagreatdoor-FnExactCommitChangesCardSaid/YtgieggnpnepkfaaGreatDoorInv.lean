/- WHAT A READING SAYS OF A VALUE;struct literals,comparisons of structs,slices of views,function values. Generic. -/
import Derived.Test.YtgieggnpnepkfaaGreatDoorFit
namespace Go.D3
open Go
theorem eqL_eq:∀ {l r:List UInt8},eqL l r=true→l=r
 | [],[],_=>rfl
 | [],_::_,h=>by simp [eqL] at h
 | _::_,[],h=>by simp [eqL] at h
 | a::l,b::r,h=>by
  simp [eqL] at h
  rw [h.1,eqL_eq h.2]
theorem data_mk (s:ByteArray):s=⟨s.data.toList.toArray⟩:=by cases s;simp
section
variable {P:Program} {o:Oper} {w:World} {A:Nat→Prop} {ct:Nat→D} {vl:Nat→Value} {a:Act} {v:Value}
theorem pl_int {k:IntKind} {n:Int} (h:Pl w A (RefOk w ct vl) v (.int k n)):v=.int k n∧k.has n:=by
 cases h with
 | rd h=>cases h with | int h=>exact ⟨rfl,h⟩
 | ref h=>exact h.elim
theorem pl_bool {b:Bool} (h:Pl w A (RefOk w ct vl) v (.bool b)):v=.bool b:=by
 cases h with
 | rd h=>cases h;rfl
 | ref h=>exact h.elim
theorem pl_str {l:List UInt8} (h:Pl w A (RefOk w ct vl) v (.str l)):v=.string ⟨l.toArray⟩∧l.length≤maxLen:=by
 cases h with
 | rd h=>cases h with | str h=>exact ⟨rfl,h⟩
 | ref h=>exact h.elim
theorem pl_agg {l:List D} (h:Pl w A (RefOk w ct vl) v (.agg l)):∃ cs:Array Value,v=.agg cs∧cs.size=l.length∧∀ j x,l[j]?=some x→Pl w A (RefOk w ct vl) (cs.getD j undef) x:=by
 cases h with
 | rd h=>cases h with | agg hs hr=>exact ⟨_,rfl,hs,fun j x hx=>.rd (hr j x hx)⟩
 | ref h=>exact h.elim
 | agg hs hr=>exact ⟨_,rfl,hs,hr⟩
theorem pl_tup {l:List D} (h:Pl w A (RefOk w ct vl) v (.tup l)):∃ cs:Array Value,v=.tuple cs∧cs.size=l.length∧∀ j x,l[j]?=some x→Pl w A (RefOk w ct vl) (cs.getD j undef) x:=by
 cases h with
 | rd h=>cases h with | tup hs hr=>exact ⟨_,rfl,hs,fun j x hx=>.rd (hr j x hx)⟩
 | ref h=>exact h.elim
 | tup hs hr=>exact ⟨_,rfl,hs,hr⟩
theorem pl_ptr {l:List D} (h:Pl w A (RefOk w ct vl) v (.ptr l)):∃ b off,v=.pointer (some ⟨b,off,none⟩)∧A b∧∀ j x,l[j]?=some x→∃ u,w.cell? ⟨b,off+j,none⟩=some u∧Rd w A u x:=by
 cases h with
 | rd h=>cases h with | ptr hA vs hc hr=>exact ⟨_,_,rfl,hA,fun j x hx=>⟨vs j,hc j x hx,hr j x hx⟩⟩
 | ref h=>exact h.elim
theorem pl_rd {d:D} (h:Pl w A (RefOk w ct vl) v d) (hd:∀ k p,d≠.sub k p) (ha:∀ k p,d≠.adr k p) (hf:∀ f c,d≠.fn f c) (hg:∀ l,d≠.agg l) (ht:∀ l,d≠.tup l) (hp:∀ k p n,d≠.pre k p n:=by simp):Rd w A v d:=by
 cases h with
 | rd h=>exact h
 | @ref v d h=>cases d<;>first | exact h.elim | exact absurd rfl (hd _ _) | exact absurd rfl (ha _ _) | exact absurd rfl (hf _ _) | exact absurd rfl (hp _ _ _)
 | agg=>exact absurd rfl (hg _)
 | tup=>exact absurd rfl (ht _)
 | fn=>exact absurd rfl (hf _ _)
theorem pl_slice {z:D} {L:List D} (h:Pl w A (RefOk w ct vl) v (.slice z L)):Rd w A v (.slice z L) :=
 pl_rd h (by simp) (by simp) (by simp) (by simp) (by simp)
theorem pl_sub {k:Nat} {p:Path} (h:Pl w A (RefOk w ct vl) v (.sub k p)):RefOk w ct vl v (.sub k p):=by
 cases h with
 | rd h=>cases h
 | ref h=>exact h
theorem pl_adr {k:Nat} {p:Path} (h:Pl w A (RefOk w ct vl) v (.adr k p)):AdrOk w ct vl v k p:=by
 cases h with
 | rd h=>cases h
 | ref h=>exact h
theorem pl_fn {f:FuncId} {caps:List D} (h:Pl w A (RefOk w ct vl) v (.fn f caps)):∃ cs:Array Value,v=.func (.func f) #[] cs∧cs.size=caps.length∧∀ j x,caps[j]?=some x→Pl w A (RefOk w ct vl) (cs.getD j undef) x:=by
 cases h with
 | rd h=>cases h with | fn hs hr=>exact ⟨_,rfl,hs,fun j x hx=>.rd (hr j x hx)⟩
 | ref h=>exact h.elim
 | fn hs hr=>exact ⟨_,rfl,hs,hr⟩
theorem rd_slice {z:D} {L:List D} (h:Rd w A v (.slice z L)):∃ p cap,v=.slice p L.length cap∧L.length≤cap∧cap≤maxLen ∧
  (L≠[]→∃ b off,p=some ⟨b,off,none⟩∧A b∧0<z.cells.length∧(∀ x∈L,x.cells.length=z.cells.length)∧∀ j x,cellAt L z.cells.length j=some x→∃ u,w.cell? ⟨b,off+j,none⟩=some u∧Rd w A u x):=by
 cases h with
 | nil=>exact ⟨none,0,rfl,Nat.le_refl _,Nat.zero_le _,fun h=>absurd rfl h⟩
 | empty hm=>exact ⟨_,_,rfl,Nat.zero_le _,hm,fun h=>absurd rfl h⟩
 | slice hA hc hm hz hzz hsz vs hcells hr =>
  subst hzz
  exact ⟨_,_,rfl,hc,hm,fun _=>⟨_,_,rfl,hA,hz,hsz,fun j x hx=>⟨vs j,hcells j x hx,hr j x hx⟩⟩⟩
theorem own_slice {z:D} {L:List D} {F:Nat→Prop} (h:Own w A v (.slice z L) F):∃ p cap,v=.slice p L.length cap∧L.length≤cap∧cap≤maxLen∧(L≠[]→∃ b off,p=some ⟨b,off,none⟩):=by
 cases h with
 | nil=>exact ⟨none,0,rfl,Nat.le_refl _,Nat.zero_le _,fun h=>absurd rfl h⟩
 | slice Fs hb hroom hc hm hz hzz hsz hr hF hfs hdis=>exact ⟨_,_,rfl,hc,hm,fun _=>⟨_,_,rfl⟩⟩
theorem value_cells {w:World} {A:Nat→Prop} {x:D} (h:Pl w A (RefOk w ct vl) v x) {l:List D} (hl:x.cellsOf=some l):v.cells.size=l.length∧∀ j c,l[j]?=some c→Pl w A (RefOk w ct vl) (v.cells.getD j undef) c:=by
 have one:(v.cells=#[v])→l=[x]→v.cells.size=l.length∧∀ j c,l[j]?=some c→Pl w A (RefOk w ct vl) (v.cells.getD j undef) c:=by
  rintro h1 rfl
  refine ⟨by simp [h1],fun j c hc=>?_⟩
  cases j with
  | zero=>simp at hc;subst hc;simpa [h1] using h
  | succ j=>simp at hc
 have rdc:∀ {v:Value} {d:D},Rd w A v d→(∀ l,d≠.agg l)→d≠.dead→(∀ y,d≠.o y)→(∀ y,d≠.vw y)→v.cells=#[v]:=by
  intro v d h h1 h2 h3 h4
  cases h<;>first | rfl | exact absurd rfl (h1 _) | exact absurd rfl h2 | exact absurd rfl (h3 _) | exact absurd rfl (h4 _)
 cases x<;>simp only [D.cellsOf,Option.some.injEq,reduceCtorEq] at hl
 case agg l' =>
  subst hl
  obtain ⟨cs,rfl,h1,h2⟩:=pl_agg h
  exact ⟨h1,h2⟩
 case pre k p n =>
  refine one ?_ hl.symm
  cases h with
  | rd h=>cases h
  | ref h=>obtain ⟨q,m,c,_,_,rfl⟩:=h;rfl
 all_goals
  refine one ?_ hl.symm
 case sub k p=>obtain ⟨_,_,⟨q,n,c,rfl⟩ | ⟨r,rfl⟩⟩:=pl_sub h<;>rfl
 case adr k p=>obtain ⟨_,_,_,rfl⟩:=pl_adr h;rfl
 case fn f caps=>obtain ⟨cs,rfl,_⟩:=pl_fn h;rfl
 all_goals exact rdc (pl_rd h (by simp) (by simp) (by simp) (by simp) (by simp)) (by simp) (by simp) (by simp) (by simp)
end
end Go.D3
