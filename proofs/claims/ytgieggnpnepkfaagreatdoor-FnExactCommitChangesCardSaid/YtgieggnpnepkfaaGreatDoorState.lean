/- WHAT SLOTS HOLD,references among them,and the heap's part of a state ('Hp'). Generic. -/
import Derived.Test.YtgieggnpnepkfaaGreatDoorTree
namespace Go.D3
open Go
def D.isObj:D→Bool
 | .o _ | .box _ | .row _ _=>true
 | _=>false
def D.hasC:D→Path→Prop
 | .o x,p=>x.has p
 | .box _,[]=>True
 | .box l,(i,off)::p=>i=0∧off<l.length∧match p with
  | []=>True
  | s::p=>match l.getD off .dead with
   | .o y=>y.has (s::p)
   | _=>False
 | .row _ _,p=>p=[]
 | _,_=>False
def cellLvl:D→Path→Bool
 | .box _,[_]=>true
 | _,_=>false
def D.isO:D→Bool
 | .o _=>true
 | _=>false
def D.hasS (c:D) (p:Path):Prop:=c.hasC p∧(cellLvl c p=true→(c.at p).isO=true)
def AdrOk (w:World) (ct:Nat→D) (vl:Nat→Value) (v:Value) (k:Nat) (p:Path):Prop :=
 (ct k).hasC p∧∃ a,adrAt w (vl k) (ct k) p=some a∧v=.pointer (some a)
def refV (v:Value):Prop:=(∃ q n c,v=.slice q n c)∨∃ r,v=.map r
def RefOk (w:World) (ct:Nat→D) (vl:Nat→Value) (v:Value):D→Prop
 | .sub k p=>(ct k).hasS p∧valAt w (vl k) (ct k) p=some v∧refV v
 | .adr k p=>AdrOk w ct vl v k p
 | .pre k p n=>∃ q m c,((ct k).hasS p∧valAt w (vl k) (ct k) p=some (.slice q m c))∧n≤m∧v=.slice q n c
 | _=>False
inductive Pl (w:World) (A:Nat→Prop) (R:Value→D→Prop):Value→D→Prop
 | rd {v:Value} {d:D} (h:Rd w A v d):Pl w A R v d
 | ref {v:Value} {d:D} (h:R v d):Pl w A R v d
 | agg {cs:Array Value} {l:List D} (hs:cs.size=l.length) (hr:∀ j x,l[j]?=some x→Pl w A R (cs.getD j undef) x):Pl w A R (.agg cs) (.agg l)
 | tup {cs:Array Value} {l:List D} (hs:cs.size=l.length) (hr:∀ j x,l[j]?=some x→Pl w A R (cs.getD j undef) x):Pl w A R (.tuple cs) (.tup l)
 | fn {f:FuncId} {cs:Array Value} {l:List D} (hs:cs.size=l.length) (hr:∀ j x,l[j]?=some x→Pl w A R (cs.getD j undef) x):Pl w A R (.func (.func f) #[] cs) (.fn f l)
def D.pc:D→Bool
 | .agg _ | .tup _ | .box _ | .row _ _ | .when _ _ | .o _ | .vw _ | .pre _ _ _=>false
 | _=>true
def CellOk (w:World) (A:Nat→Prop) (R:Value→D→Prop) (v:Value) (F:Nat→Prop):D→Prop
 | .o x=>Own w A v x F
 | .box _ | .row _ _ | .when _ _ | .agg _ | .tup _ | .vw _ | .pre _ _ _=>False
 | c=>Pl w A R v c
def BoxOk (w:World) (A:Nat→Prop) (R:Value→D→Prop) (v:Value) (F:Nat→Prop) (l:List D):Prop :=
 0<l.length∧∃ (b:Nat) (cs:Array Value) (e:TypeId) (Fs:Nat→Nat→Prop),v=.pointer (some ⟨b,0,none⟩)∧w.heap[b]?=some (.cells cs e (0,0))∧cs.size=l.length ∧
  (∀ j c,l[j]?=some c→CellOk w A R (cs.getD j undef) (Fs j) c)∧F b∧(∀ j c,Fs j c→c≠b∧F c)∧(∀ i j c,i≠j→Fs i c→¬ Fs j c)
def RowOk (w:World) (A:Nat→Prop) (R:Value→D→Prop) (v:Value) (F:Nat→Prop) (z:D) (l:List D):Prop :=
 ∃ (b sz:Nat) (cs:Array Value) (e:TypeId),v=.slice (some ⟨b,0,none⟩) l.length l.length∧w.heap[b]?=some (.cells cs e (0,0))∧cs.size=l.length*sz∧l.length≤maxLen ∧
  0<sz∧z.cells.length=sz∧(∀ x∈l,x.cells.length=sz) ∧
  (∀ j c,cellAt l sz j=some c→Pl w A R (cs.getD j undef) c∧c.pc=true)∧F b
def ContOk (w:World) (A:Nat→Prop) (R:Value→D→Prop) (v:Value) (F:Nat→Prop):D→Prop
 | .o x=>Own w A v x F
 | .box l=>BoxOk w A R v F l
 | .row z l=>RowOk w A R v F z l
 | .when g c=>(g=true→Pl w A R v c)∧(g=false→v=undef)
 | c=>Pl w A R v c
mutual
def D.refs (Q:D→Prop):D→Prop
 | .sub k p=>Q (.sub k p)
 | .adr k p=>Q (.adr k p)
 | .pre k p _=>Q (.sub k p)
 | .fn _ caps=>refsL Q caps
 | .agg l=>refsL Q l
 | .tup l=>refsL Q l
 | .box l=>refsL Q l
 | .row _ l=>refsL Q l
 | .when _ x=>x.refs Q
 | _=>True
def refsL (Q:D→Prop):List D→Prop
 | []=>True
 | x::r=>x.refs Q∧refsL Q r
end
mutual
def D.kill (q:D→Bool):D→D
 | .sub k p=>if q (.sub k p) then .dead else .sub k p
 | .adr k p=>if q (.adr k p) then .dead else .adr k p
 | .pre k p n=>if q (.sub k p) then .dead else .pre k p n
 | .fn f caps=>.fn f (killL q caps)
 | .agg l=>.agg (killL q l)
 | .tup l=>.tup (killL q l)
 | .box l=>.box (killL q l)
 | .row z l=>.row z (killL q l)
 | .when g x=>.when g (x.kill q)
 | x=>x
def killL (q:D→Bool):List D→List D
 | []=>[]
 | x::r=>x.kill q::killL q r
end
mutual
def D.ren (σ:Nat→Nat):D→D
 | .sub k p=>.sub (σ k) p
 | .adr k p=>.adr (σ k) p
 | .pre k p n=>.pre (σ k) p n
 | .fn f caps=>.fn f (renL σ caps)
 | .agg l=>.agg (renL σ l)
 | .tup l=>.tup (renL σ l)
 | .box l=>.box (renL σ l)
 | .row z l=>.row z (renL σ l)
 | .when g x=>.when g (x.ren σ)
 | x=>x
def renL (σ:Nat→Nat):List D→List D
 | []=>[]
 | x::r=>x.ren σ::renL σ r
end
theorem refsL_iff {Q:D→Prop}:∀ {l:List D},refsL Q l↔∀ x∈l,x.refs Q
 | []=>by simp [refsL]
 | x::r=>by simp only [refsL,refsL_iff (l:=r),List.mem_cons,forall_eq_or_imp]
theorem killL_map (q:D→Bool):∀ l,killL q l=l.map (D.kill q)
 | []=>rfl
 | x::r=>by rw [killL,killL_map q r,List.map_cons]
theorem D.ind {M:D→Prop} (int:∀ k n,M (.int k n)) (bool:∀ b,M (.bool b)) (str:∀ s,M (.str s)) (slice:∀ z l,M z→(∀ x∈l,M x)→M (.slice z l))
  (agg:∀ l,(∀ x∈l,M x)→M (.agg l)) (tup:∀ l,(∀ x∈l,M x)→M (.tup l)) (ptr:∀ l,(∀ x∈l,M x)→M (.ptr l)) (nilp:M .nilp) (fn:∀ f caps,(∀ x∈caps,M x)→M (.fn f caps))
  (vw:∀ x,M x→M (.vw x)) (o:∀ x,M x→M (.o x)) (box:∀ l,(∀ x∈l,M x)→M (.box l)) (row:∀ z l,M z→(∀ x∈l,M x)→M (.row z l))
  (sub:∀ k p,M (.sub k p)) (adr:∀ k p,M (.adr k p)) (pre:∀ k p n,M (.pre k p n)) (when:∀ g x,M x→M (.when g x)) (nils:∀ z,M z→M (.nils z)) (dead:M .dead)
  (mp:∀ ks vs,(∀ x∈ks,M x)→(∀ x∈vs,M x)→M (.mp ks vs)) (nmp:M .nmp) (ifc:∀ t x,M x→M (.ifc t x)) (nifc:M .nifc) (itr:∀ s p,M (.itr s p)) (sent:∀ n,M (.sent n)):∀ d,M d:=fun d =>
 D.rec (motive_1:=M) (motive_2:=fun l=>∀ x∈l,M x) int bool str slice agg tup ptr nilp fn vw o box row sub adr pre when nils dead mp nmp ifc nifc itr sent (by simp) (fun x r hx hr=>by simp;exact ⟨hx,hr⟩) d
section
variable {w w':World} {A A':Nat→Prop} {R R':Value→D→Prop} {v:Value} {F F':Nat→Prop}
theorem Pl.mono {Q:D→Prop} {c:D} (h:Pl w A R v c):(∀ b,A b→A' b)→(∀ b,A b→w'.heap[b]?=w.heap[b]?)→c.refs Q →
  (∀ v d,d.refs Q→R v d→R' v d)→Pl w' A' R' v c:=by
 induction h with
 | rd h=>exact fun hA hw _ _=>.rd (h.mono hA hw)
 | ref h=>exact fun _ _ hq hR=>.ref (hR _ _ hq h)
 | agg hs _ ih=>exact fun hA hw hq hR=>.agg hs fun j x hx=>ih j x hx hA hw (refsL_iff.1 hq x (List.mem_of_getElem? hx)) hR
 | tup hs _ ih=>exact fun hA hw hq hR=>.tup hs fun j x hx=>ih j x hx hA hw (refsL_iff.1 hq x (List.mem_of_getElem? hx)) hR
 | fn hs _ ih=>exact fun hA hw hq hR=>.fn hs fun j x hx=>ih j x hx hA hw (refsL_iff.1 hq x (List.mem_of_getElem? hx)) hR
theorem CellOk.mono {Q:D→Prop} {c:D} (h:CellOk w A R v F c) (hA:∀ b,A b→A' b) (hwA:∀ b,A b→w'.heap[b]?=w.heap[b]?) (hwF:∀ b,F b→w'.heap[b]?=w.heap[b]?) (hF:∀ b,F b→F' b)
  (hq:c.refs Q) (hR:∀ v d,d.refs Q→R v d→R' v d):CellOk w' A' R' v F' c:=by
 cases c<;>first | exact Pl.mono h hA hwA hq hR | exact h.elim | exact Own.mono h hA hwA hwF hF
theorem refs_cells {Q:D→Prop} {x c:D} (h:x.refs Q) (hc:c∈x.cells):c.refs Q:=by
 cases x<;>simp only [D.cells,List.mem_singleton] at hc<;>first | (subst hc;exact h) | exact refsL_iff.1 h c hc
theorem refs_cellAt {Q:D→Prop} {l:List D} {sz j:Nat} {c:D} (h:∀ x∈l,x.refs Q) (hc:cellAt l sz j=some c):c.refs Q:=by
 unfold cellAt at hc
 cases hL:l[j / sz]? with
 | none=>simp [hL] at hc
 | some d =>
  rw [hL,Option.bind_some] at hc
  exact refs_cells (h d (List.mem_of_getElem? hL)) (List.mem_of_getElem? hc)
theorem ContOk.mono {Q:D→Prop} {c:D}:∀ {F F':Nat→Prop},ContOk w A R v F c→(∀ b,A b→A' b)→(∀ b,A b→w'.heap[b]?=w.heap[b]?)→(∀ b,F b→w'.heap[b]?=w.heap[b]?)→(∀ b,F b→F' b) →
  c.refs Q→(∀ v d,d.refs Q→R v d→R' v d)→ContOk w' A' R' v F' c:=by
 induction c using D.ind with
 | o x _=>exact fun h hA hwA hwF hF _ _=>Own.mono h hA hwA hwF hF
 | box l _ =>
  rintro F F' ⟨h0,b,cs,e,Fs,h1,h2,h3,h4,h5,h6,h7⟩ hA hwA hwF hF hq hR
  replace hq:=refsL_iff.1 hq
  exact ⟨h0,b,cs,e,Fs,h1,(hwF b h5).trans h2,h3,fun j c hj=>(h4 j c hj).mono hA hwA (fun d hd=>hwF d (h6 j d hd).2) (fun _ h=>h) (hq c (List.mem_of_getElem? hj)) hR,hF b h5,
   fun j c hj=>⟨(h6 j c hj).1,hF c (h6 j c hj).2⟩,h7⟩
 | row z l _ _ =>
  rintro F F' ⟨b,sz,cs,e,h1,h2,h3,h3',h3'',h3a,h3b,h4,h5⟩ hA hwA hwF hF hq hR
  replace hq:=refsL_iff.1 hq
  exact ⟨b,sz,cs,e,h1,(hwF b h5).trans h2,h3,h3',h3'',h3a,h3b,fun j c hj=>⟨(h4 j c hj).1.mono hA hwA (refs_cellAt hq hj) hR,(h4 j c hj).2⟩,hF b h5⟩
 | when g c ih =>
  exact fun h hA hwA _ _ hq hR=>⟨fun hg=>Pl.mono (h.1 hg) hA hwA hq hR,h.2⟩
 | _=>exact fun h hA hwA _ _ hq hR=>Pl.mono h hA hwA hq hR
theorem kill_refs (q:D→Bool) (c:D):(c.kill q).refs fun d=>q d=false:=by
 induction c using D.ind with
 | sub k p=>simp only [D.kill];split<;>simp_all [D.refs]
 | adr k p=>simp only [D.kill];split<;>simp_all [D.refs]
 | pre k p n=>simp only [D.kill];split<;>simp_all [D.refs]
 | agg l ih | tup l ih | box l ih | fn _ l ih=>simp only [D.kill,D.refs,refsL_iff,killL_map,List.mem_map];rintro _ ⟨y,hy,rfl⟩;exact ih y hy
 | row z l _ ih=>simp only [D.kill,D.refs,refsL_iff,killL_map,List.mem_map];rintro _ ⟨y,hy,rfl⟩;exact ih y hy
 | when g x ih=>exact ih
 | _=>trivial
theorem Pl.dead:Pl w A R v .dead:=.rd .dead
theorem Rd.kill {q:D→Bool} {d:D} (h:Rd w A v d):Rd w A v (d.kill q):=by
 induction h with
 | agg hs _ ih =>
  refine .agg (by simpa [killL_map] using hs) fun j x hx=>?_
  rw [killL_map,List.getElem?_map,Option.map_eq_some_iff] at hx
  obtain ⟨y,hy,rfl⟩:=hx
  exact ih j y hy
 | tup hs _ ih =>
  refine .tup (by simpa [killL_map] using hs) fun j x hx=>?_
  rw [killL_map,List.getElem?_map,Option.map_eq_some_iff] at hx
  obtain ⟨y,hy,rfl⟩:=hx
  exact ih j y hy
 | int h=>exact .int h
 | bool=>exact .bool
 | str h=>exact .str h
 | nil=>exact .nil
 | empty h=>exact .empty h
 | slice hA hc hm hz hzz hsz vs hcells hr ih=>exact .slice hA hc hm hz hzz hsz vs hcells hr
 | ptr hA vs hcells hr ih=>exact .ptr hA vs hcells hr
 | nilp=>exact .nilp
 | fn hs _ ih =>
  refine .fn (by simpa [killL_map] using hs) fun j x hx=>?_
  rw [killL_map,List.getElem?_map,Option.map_eq_some_iff] at hx
  obtain ⟨y,hy,rfl⟩:=hx
  exact ih j y hy
 | vw h=>exact .vw h
 | o h=>exact .o h
 | nils=>exact .nils
 | dead=>exact .dead
 | mp hA hb hE=>exact .mp hA hb hE
 | nmp=>exact .nmp
 | ifc h ih=>exact .ifc h
 | nifc=>exact .nifc
 | itr hA hb hs=>exact .itr hA hb hs
 | sent hA hc=>exact .sent hA hc
theorem Pl.kill {q:D→Bool} {c:D} (h:Pl w A R v c) (hR:∀ v d,R v d→(∃ k p,d=.sub k p)∨(∃ k p,d=.adr k p)∨(∃ k p n,d=.pre k p n)):Pl w A R v (c.kill q):=by
 induction h with
 | rd h=>exact .rd h.kill
 | @ref v d h =>
  rcases hR v d h with ⟨k,p,rfl⟩ | ⟨k,p,rfl⟩ | ⟨k,p,n,rfl⟩
  ·simp only [D.kill];split
   ·exact .dead
   ·exact .ref h
  ·simp only [D.kill];split
   ·exact .dead
   ·exact .ref h
  ·simp only [D.kill];split
   ·exact .dead
   ·exact .ref h
 | agg hs _ ih =>
  refine .agg (by simpa [killL_map] using hs) fun j x hx=>?_
  rw [killL_map] at hx
  rw [List.getElem?_map,Option.map_eq_some_iff] at hx
  obtain ⟨y,hy,rfl⟩:=hx
  exact ih j y hy
 | tup hs _ ih =>
  refine .tup (by simpa [killL_map] using hs) fun j x hx=>?_
  rw [killL_map] at hx
  rw [List.getElem?_map,Option.map_eq_some_iff] at hx
  obtain ⟨y,hy,rfl⟩:=hx
  exact ih j y hy
 | fn hs _ ih =>
  refine .fn (by simpa [killL_map] using hs) fun j x hx=>?_
  rw [killL_map] at hx
  rw [List.getElem?_map,Option.map_eq_some_iff] at hx
  obtain ⟨y,hy,rfl⟩:=hx
  exact ih j y hy
theorem RefOk.form {ct:Nat→D} {vl:Nat→Value} (v:Value) (d:D) (h:RefOk w ct vl v d):(∃ k p,d=.sub k p)∨(∃ k p,d=.adr k p)∨(∃ k p n,d=.pre k p n):=by
 cases d<;>first | exact .inl ⟨_,_,rfl⟩ | exact .inr (.inl ⟨_,_,rfl⟩) | exact .inr (.inr ⟨_,_,_,rfl⟩) | exact h.elim
theorem CellOk.kill {q:D→Bool} {c:D} (h:CellOk w A R v F c) (hR:∀ v d,R v d→(∃ k p,d=.sub k p)∨(∃ k p,d=.adr k p)∨(∃ k p n,d=.pre k p n)):CellOk w A R v F (c.kill q):=by
 cases c
 case sub k p=>have:=Pl.kill (q:=q) h hR;simp only [D.kill] at this ⊢;split<;>simp_all [CellOk]
 case adr k p=>have:=Pl.kill (q:=q) h hR;simp only [D.kill] at this ⊢;split<;>simp_all [CellOk]
 case fn k p=>have:=Pl.kill (q:=q) h hR;simp only [D.kill] at this ⊢;exact this
 case o x=>exact h
 all_goals first | exact h | exact h.elim
theorem kill_cells (q:D→Bool) (x:D):(x.kill q).cells=x.cells.map (D.kill q):=by
 cases x<;>first | rfl | (simp only [D.kill,D.cells,List.map_cons,List.map_nil,killL_map];done) | (simp only [D.kill,D.cells,List.map_cons,List.map_nil];by_cases h:q (.sub ‹_› ‹_›)=true<;>simp [h];done) | (simp only [D.kill];split<;>rename_i h<;>simp [D.cells,D.kill,h])
theorem kill_pc (q:D→Bool) {c:D} (h:c.pc=true):(c.kill q).pc=true:=by
 cases c<;>first | exact h | (simp only [D.kill];split<;>rfl) | (simp [D.pc] at h)
theorem cellAt_kill (q:D→Bool) (l:List D) (sz j:Nat):cellAt (l.map (D.kill q)) sz j=(cellAt l sz j).map (D.kill q):=by
 unfold cellAt
 rw [List.getElem?_map]
 cases l[j / sz]? with
 | none=>rfl
 | some d=>simp only [Option.map_some,Option.bind_some,kill_cells,List.getElem?_map]
theorem ContOk.kill {q:D→Bool} {c:D} (hR:∀ v d,R v d→(∃ k p,d=.sub k p)∨(∃ k p,d=.adr k p)∨(∃ k p n,d=.pre k p n)):∀ {F:Nat→Prop},ContOk w A R v F c→ContOk w A R v F (c.kill q):=by
 induction c using D.ind with
 | o x _=>exact fun h=>h
 | box l _ =>
  rintro F ⟨h0,b,cs,e,Fs,h1,h2,h3,h4,h5,h6,h7⟩
  rw [D.kill,killL_map]
  refine ⟨by simpa using h0,b,cs,e,Fs,h1,h2,by simpa using h3,fun j c hj=>?_,h5,h6,h7⟩
  rw [List.getElem?_map,Option.map_eq_some_iff] at hj
  obtain ⟨y,hy,rfl⟩:=hj
  exact (h4 j y hy).kill hR
 | row z l _ _ =>
  rintro F ⟨b,sz,cs,e,h1,h2,h3,h3',h3'',h3a,h3b,h4,h5⟩
  rw [D.kill,killL_map]
  refine ⟨b,sz,cs,e,by simpa using h1,h2,by simpa using h3,by simpa using h3',h3'',h3a,fun x hx=>?_,fun j c hj=>?_,h5⟩
  ·obtain ⟨y,hy,rfl⟩:=List.mem_map.1 hx
   rw [kill_cells,List.length_map]
   exact h3b y hy
  ·rw [cellAt_kill,Option.map_eq_some_iff] at hj
   obtain ⟨y,hy,rfl⟩:=hj
   exact ⟨(h4 j y hy).1.kill hR,kill_pc _ (h4 j y hy).2⟩
 | when g c ih=>exact fun h=>⟨fun hg=>Pl.kill (h.1 hg) hR,h.2⟩
 | sub k p=>intro F h;have:=Pl.kill (q:=q) h hR;simp only [D.kill] at this ⊢;split<;>simp_all [ContOk]
 | adr k p=>intro F h;have:=Pl.kill (q:=q) h hR;simp only [D.kill] at this ⊢;split<;>simp_all [ContOk]
 | pre k p n=>intro F h;have:=Pl.kill (q:=q) h hR;simp only [D.kill] at this ⊢;split<;>simp_all [ContOk]
 | fn k p=>intro F h;have:=Pl.kill (q:=q) h hR;simp only [D.kill] at this ⊢;exact this
 | _=>exact fun h=>Pl.kill (q:=q) h hR
end
end Go.D3
