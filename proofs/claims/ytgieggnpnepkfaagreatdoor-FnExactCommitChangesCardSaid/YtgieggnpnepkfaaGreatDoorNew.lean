/- THE OPERATIONS THAT MAKE MEMORY. Generic. -/
import Derived.Test.YtgieggnpnepkfaaGreatDoorPevB
import Derived.Lib.ConvBytes
namespace Go.D3
open Go
structure Ext (w w':World):Prop where
 size:w.heap.size≤w'.heap.size
 same:∀ b,b<w.heap.size→w'.heap[b]?=w.heap[b]?
 os:w'.os=w.os
 tape:w'.tape=w.tape
 output:w'.output=w.output
theorem Ext.refl (w:World):Ext w w:=⟨Nat.le_refl _,fun _ _=>rfl,rfl,rfl,rfl⟩
theorem Ext.trans {w w' w'':World} (h:Ext w w') (h':Ext w' w''):Ext w w'' :=
 ⟨Nat.le_trans h.size h'.size,fun b hb=>(h'.same b (Nat.lt_of_lt_of_le hb h.size)).trans (h.same b hb),h'.os.trans h.os,h'.tape.trans h.tape,h'.output.trans h.output⟩
theorem ext_alloc (w:World) (o:Go.Obj):Ext w (w.alloc o):=⟨by simp,fun b hb=>heap_alloc_old w o b hb,rfl,rfl,rfl⟩
def newA (A:Nat→Prop) (w w':World) (F:Nat→Prop) (b:Nat):Prop:=A b∨(w.heap.size≤b∧b<w'.heap.size∧¬ F b)
section
variable {cx:Ctx} {ct:Nat→D} {vl:Nat→Value} {fp:Nat→Nat→Prop} {G:Nat→Prop} {w:World}
theorem Hp.add (h:Hp cx ct vl fp G w) {w':World} (he:Ext w w') {k:Nat} (hk:(ct k).isObj=false) {v:Value} {c:D} {F:Nat→Prop} (hF:∀ b,F b→w.heap.size≤b∧b<w'.heap.size)
  (hc:ContOk w' (newA (stab cx fp G w) w w' F) (RefOk w ct vl) v F c) (hemp:c.isObj=false→∀ b,¬ F b):Hp cx (upd ct k c) (upd vl k v) (upd fp k F) G w':=by
 have h1:=h.grow he.size he.same he.os he.tape he.output
 have h2:=h1.release (G':=fun b=>G b∨F b) (fun b hb=>hb.imp id fun h=>hF b h)
 have hkeep:∀ v d,RefOk w ct vl v d→RefOk w' ct vl v d:=by
  intro v d hr
  refine hr.keep (refs_all (fun d=>?_) _)
  cases d<;>try trivial
  case sub k p=>exact fun hp=>⟨hp,(valAt_cont (h.ok k) hp.1 fun b hb=>he.same b (h.lt k b hb).1).1⟩
  case adr k p=>exact fun hp=>⟨hp,(valAt_cont (h.ok k) hp fun b hb=>he.same b (h.lt k b hb).1).2⟩
 refine h2.put hk (hc.mono (Q:=fun _=>True) (fun b hb=>?_) (fun _ _=>rfl) (fun _ _=>rfl) (fun _ h=>h) (refs_all (fun _=>trivial) _) fun v d _ hr=>hkeep v d hr) (fun b hb=>.inr hb) (fun b hb=>.inl hb) (fun b hb hg=>?_) hemp
 ·rcases hb with hb | ⟨hb1,hb2,hb3⟩
  ·exact ⟨⟨Nat.lt_of_lt_of_le hb.1.1 he.size,hb.1.2⟩,fun hg=>hg.elim hb.2.1 fun hf=>by have:=(hF b hf).1;have:=hb.1.1;omega,hb.2.2⟩
  ·exact ⟨⟨hb2,fun hlt=>by have:=h.size;omega⟩,fun hg=>hg.elim (fun hg=>by have:=(h.ltG b hg).1;omega) hb3,fun j hj=>by have:=(h.lt j b hj).1;omega⟩
 ·have:=(h.ltG b hg).1;have:=(hF b hb).1;omega
end
def NewOk (P:Program) (o:Oper) (a:Act) (w:World) (A:Nat→Prop) (R:Value→D→Prop) (c:D):Prop :=
 ∃ (v:Value) (w':World) (F:Nat→Prop),(execOp a.eval o).run P w=.ok (.value v) w'∧Ext w w'∧(∀ b,F b→w.heap.size≤b∧b<w'.heap.size)∧ContOk w' (newA A w w' F) R v F c∧(c.isObj=false→∀ b,¬ F b)
section
variable {P:Program} {o:Oper} {w:World} {A:Nat→Prop} {ct:Nat→D} {vl:Nat→Value} {a:Act} {ds:List (Option Nat)} {tr:List Nat} {rd:X→D}
theorem pcs_all:∀ {l:List D},pcs l=true→∀ x∈l,x.pc=true
 | [],_,x,hx=>by cases hx
 | y::r,h,x,hx=>by
  simp only [pcs,Bool.and_eq_true] at h
  rcases List.mem_cons.1 hx with rfl | hx
  ·exact h.1
  ·exact pcs_all h.2 x hx
theorem cell_of_pl {R:Value→D→Prop} {v:Value} {c:D} {F:Nat→Prop} (h:Pl w A R v c) (hc:c.pc=true):CellOk w A R v F c:=by
 cases c<;>first | exact h | (simp [D.pc] at hc)
theorem plain_rd {v:Value} {x y:D} (h:Pl w A (RefOk w ct vl) v x) (hy:x.plain?=some y):Rd w A v y:=by
 cases x<;>simp only [D.plain?,Option.some.injEq,reduceCtorEq] at hy
 case fn f caps =>
  cases caps with
  | nil =>
   simp only [Option.some.injEq] at hy
   subst hy
   cases h with
   | rd h=>exact h
   | ref h=>exact h.elim
   | fn hs hr=>exact .fn hs (fun j x hx=>by simp at hx)
  | cons _ _=>cases hy
 case nils z =>
  subst hy
  have:=pl_rd h (by simp) (by simp) (by simp) (by simp) (by simp)
  cases this;exact .nil
 all_goals
  subst hy
  exact pl_rd h (by simp) (by simp) (by simp) (by simp) (by simp)
theorem mapO_get {f:D→Option D}:∀ {l l':List D},mapO f l=some l'→l'.length=l.length∧∀ (j:Nat) (y:D),l'[j]?=some y→∃ x:D,l[j]?=some x∧f x=some y
 | [],l',h=>by simp [mapO] at h;subst h;simp
 | x::r,l',h=>by
  simp only [mapO,Option.bind_eq_some_iff,Option.some.injEq] at h
  obtain ⟨y,hy,l'',hl,rfl⟩:=h
  obtain ⟨h1,h2⟩:=mapO_get hl
  refine ⟨by simp [h1],fun j z hz=>?_⟩
  cases j with
  | zero=>simp at hz;subst hz;exact ⟨x,rfl,hy⟩
  | succ j=>simpa using h2 j z (by simpa using hz)
theorem run_box {e:TypeId} {x:Operand} (ho:o.op=.box e x):(execOp a.eval o).run P w=.ok (.value (.pointer (some ⟨w.heap.size,0,none⟩))) (w.alloc (.cells (a.eval x).cells e)):=by
 simp [execOp,ho,Instr.box,newVar,newRow]
theorem new_cells {cs:Array Value} {e:TypeId} {l:List D} (hl:cs.size=l.length) (h0 : 0<l.length) (hc:∀ j c,l[j]?=some c→CellOk w A (RefOk w ct vl) (cs.getD j undef) (fun _=>False) c)
  (hlive:∀ b,A b→b<w.heap.size)
  (hrun:(execOp a.eval o).run P w=.ok (.value (.pointer (some ⟨w.heap.size,0,none⟩))) (w.alloc (.cells cs e))):NewOk P o a w A (RefOk w ct vl) (.box l):=by
 refine ⟨_,_,(·=w.heap.size),hrun,ext_alloc w _,fun b hb=>by subst hb;simp,⟨h0,w.heap.size,cs,e,fun _ _=>False,rfl,heap_alloc_new w _,hl,fun j c hj=>?_,rfl,fun _ _ h=>h.elim,fun _ _ _ _ h=>h.elim⟩,fun h=>by cases h⟩
 exact (hc j c hj).mono (Q:=fun _=>True) (fun b hb=>.inl hb) (fun b hb=>heap_alloc_old w _ b (hlive b hb)) (fun _ h=>h.elim) (fun _ h=>h) (refs_all (fun _=>trivial) _) fun v d _ hr=>hr
theorem getD_madeCells {z:Array Value} {n j:Nat} (hj:j<n) (hz : 0<z.size):(madeCells z n).getD j undef=z.getD (j % z.size) undef:=by
 have:=Nat.mod_lt j hz
 simp [madeCells,hj,this]
theorem isRowParts_get:∀ {ps:List (Nat×Operand)} {parts:List (Nat×X)},isRowParts ds tr ps parts=true→ps.length=parts.length∧∀ (j i:Nat) x k y,ps[j]?=some (i,x)→parts[j]?=some (k,y)→i=k∧isX ds tr x y=true
 | [],[],_=>⟨rfl,by simp⟩
 | [],_::_,h=>by simp [isRowParts] at h
 | _::_,[],h=>by simp [isRowParts] at h
 | (i,x)::ps,(k,y)::parts,h=>by
  simp only [isRowParts,Bool.and_eq_true,beq_iff_eq] at h
  obtain ⟨h1,h2⟩:=isRowParts_get h.2
  refine ⟨by simp [h1],fun j=>?_⟩
  cases j with
  | zero =>
   intro i' x' k' y' he he'
   simp at he he'
   obtain ⟨rfl,rfl⟩:=he
   obtain ⟨rfl,rfl⟩:=he'
   exact h.1
  | succ j=>intro i' x' k' y' he he';exact h2 j i' x' k' y' (by simpa using he) (by simpa using he')
theorem setN_set (l:List D) (i:Nat) (x:D):setN l i x=l.set i x:=by
 induction l generalizing i with
 | nil=>rfl
 | cons a l ih=>cases i with
  | zero=>rfl
  | succ i=>simp [setN,ih]
theorem cellsOf_cells {x:D} {l:List D} (h:x.cellsOf=some l):x.cells=l:=by
 cases x<;>simp [D.cellsOf] at h<;>first | exact h | (subst h;rfl)
theorem cellAt_setE {L:List D} {sz i j:Nat} {y:D} (_:y.cells.length=sz) (hi:i<L.length) (hz : 0<sz) :
  cellAt (L.set i y) sz j=if i*sz≤j∧j<i*sz+sz then y.cells[j-i*sz]? else cellAt L sz j:=by
 unfold cellAt
 have hmod:=Nat.div_add_mod j sz
 have hlt:=Nat.mod_lt j hz
 by_cases h:j / sz=i
 ·rw [Nat.mul_comm,h] at hmod
  rw [if_pos (by omega),h,List.getElem?_set_self hi,Option.bind_some]
  congr 1
  omega
 ·rw [List.getElem?_set_ne (Ne.symm h),if_neg]
  rintro ⟨h1,h2⟩
  apply h
  have:j / sz<i+1:=(Nat.div_lt_iff_lt_mul hz).2 (by rw [Nat.add_mul];omega)
  have:i≤j / sz:=(Nat.le_div_iff_mul_le hz).2 h1
  omega
theorem fillE_rd {sz:Nat} (hz : 0<sz):∀ (ps:List (Nat×Operand)) (parts:List (Nat×X)) (cs:Array Value) (L:List D) (g:Bool) (L':List D),isRowParts ds tr ps parts=true →
  (∀ y,y∈parts.map (·.2)→∀ x,isX ds tr x y=true→PlG w A (RefOk w ct vl) (a.eval x) (rd y)) →
  cs.size=L.length*sz→(∀ x∈L,x.cells.length=sz)→(∀ j c,cellAt L sz j=some c→Pl w A (RefOk w ct vl) (cs.getD j undef) c∧c.pc=true)→fillE rd sz L parts=some (g,L')→g=true →
  ∃ cs',Instr.fill (fun i=>some (i*sz,sz)) cs (ps.map fun (i,x)=>(i,a.eval x))=some cs'∧cs'.size=L'.length*sz∧L'.length=L.length∧(∀ x∈L',x.cells.length=sz)∧∀ j c,cellAt L' sz j=some c→Pl w A (RefOk w ct vl) (cs'.getD j undef) c∧c.pc=true
 | [],[],cs,l,g,l',_,_,h1,h1',h2,hf,_=>by
  simp [fillE] at hf
  obtain ⟨_,rfl⟩:=hf
  exact ⟨cs,rfl,h1,rfl,h1',h2⟩
 | [],_::_,_,_,_,_,h,_,_,_,_,_,_=>by simp [isRowParts] at h
 | _::_,[],_,_,_,_,h,_,_,_,_,_,_=>by simp [isRowParts] at h
 | (i,x)::ps,(k,y)::parts,cs,L,g,L',hp,hr,h1,h1',h2,hf,hg=>by
  simp only [isRowParts,Bool.and_eq_true,beq_iff_eq] at hp
  obtain ⟨⟨rfl,hx⟩,hp⟩:=hp
  simp only [fillE,Option.bind_eq_some_iff] at hf
  obtain ⟨xs,hxs,hf⟩:=hf
  split at hf
  ·rename_i hlen
   rw [Option.bind_eq_some_iff] at hf
   obtain ⟨⟨g',L''⟩,hf,he⟩:=hf
   simp only [Option.some.injEq,Prod.mk.injEq] at he
   obtain ⟨he1,rfl⟩:=he
   rw [hg] at he1
   simp at he1
   have hv:=(hr y (by simp) x hx).1 he1.1
   obtain ⟨h3,h4⟩:=value_cells hv hxs
   have hcel:=cellsOf_cells hxs
   rw [setN_set] at hf
   have hle:i*sz+sz≤cs.size:=by
    rw [h1]
    have:(i+1)*sz≤L.length*sz:=Nat.mul_le_mul_right _ hlen.2.1
    rw [Nat.add_mul] at this;omega
   have hvl:(a.eval x).cells.toList.length=sz:=by simp;omega
   obtain ⟨cs',h7,h8,h9,h10,h11⟩:=fillE_rd hz ps parts (setVals cs (i*sz) (a.eval x).cells.toList) (L.set i (rd y).core) g' L'' hp (fun y hy=>hr y (by simp only [List.map_cons,List.mem_cons];exact .inr hy))
    (by rw [setVals_size,h1,List.length_set])
    (fun x hx=>by rcases List.mem_or_eq_of_mem_set hx with h | h
                  ·exact h1' x h
                  ·rw [h,hcel];exact hlen.1)
    (fun j c hj=>by
      rw [cellAt_setE (by rw [hcel];exact hlen.1) hlen.2.1 hz] at hj
      rw [setVals_get _ _ _ _ (by omega),hvl]
      split at hj
      ·rename_i hh
       rw [if_pos hh]
       rw [hcel] at hj
       have:=h4 _ _ hj
       exact ⟨by simpa using this,pcs_all hlen.2.2 _ (List.mem_of_getElem? hj)⟩
      ·rename_i hh
       rw [if_neg hh]
       exact h2 j c hj) hf he1.2
   refine ⟨cs',?_,h8,by rw [h9,List.length_set],h10,h11⟩
   simp only [List.map_cons,Instr.fill]
   have hcond:¬ ((decide ((a.eval x).cells.size≠sz) || decide (i*sz+(a.eval x).cells.size > cs.size))=true):=by simp;omega
   rw [if_neg hcond]
   have:=foldl_setVals (a.eval x).cells.toList 0 (i*sz) cs
   simp only [Nat.add_zero] at this
   rw [← Array.foldl_toList,Array.toList_zipIdx,this]
   exact h7
  ·cases hf
theorem run_bldS {t e:TypeId} {n:Nat} {ps:Array (Nat×Operand)} (ho:o.op=.buildSlice t n ps) (hu:P.underlying t=some (.slice e)) {i:TypeInfo} {z:Value} (hi:P.info? e=some i) (hz:i.zero=some z) (hsm:n*i.size≤16777216)
  {cs:Array Value} (hf:Instr.fill (fun j=>some (j*i.size,i.size)) (madeCells z.cells (n*i.size)) (ps.toList.map fun (i,x)=>(i,a.eval x))=some cs) :
  (execOp a.eval o).run P w=.ok (.value (.slice (some ⟨w.heap.size,0,none⟩) n n)) (w.alloc (.cells cs e)):=by
 have hf':Instr.fill (fun j=>some (j*i.size,i.size)) (madeCells z.cells (n*i.size)) (ps.toList.map fun x=>(x.fst,a.eval x.snd))=some cs:=hf
 have hsm':¬ 16777216<n*i.size:=by omega
 by_cases h0:n*i.size=0
 ·have hm:madeCells z.cells (n*i.size)=#[]:=by rw [h0];simp [madeCells,Array.range_zero']
  rw [hm] at hf'
  simp only [execOp,ho,Sem.run_bind,Instr.buildSlice,run_underlying hu,Result.andThen_ok,sizeOf,typeInfo,run_program]
  simp [hi,h0,hf',newRow,Array.range_zero']
 ·simp only [execOp,ho,Sem.run_bind,Instr.buildSlice,run_underlying hu,Result.andThen_ok,sizeOf,typeInfo,run_program]
  simp only [madeCells] at hf'
  simp [hi,hz,hsm',h0,zeroValue,typeInfo,hf',newRow]
theorem cellAt_rep {z:D} {n j:Nat} (hz : 0<z.cells.length):cellAt (List.replicate n z) z.cells.length j=if j<n*z.cells.length then z.cells[j % z.cells.length]? else none:=by
 unfold cellAt
 rw [List.getElem?_replicate]
 by_cases h:j / z.cells.length<n
 ·rw [if_pos h,if_pos ((Nat.div_lt_iff_lt_mul hz).1 h)];rfl
 ·rw [if_neg h,if_neg (fun hh=>h ((Nat.div_lt_iff_lt_mul hz).2 hh))];rfl
theorem zeroC_pc {v:Value} {d:D} (h:zeroC v d=true):d.pc=true:=by
 unfold zeroC at h
 split at h<;>first | rfl | cases h
theorem new_sound {k:Kp} {side:Prop} {c:D} (hp:newR k rd=some (side,c)) (hk:isK P ds tr o k=true)
  (hx:∀ y,y∈k.xs→∀ x,isX ds tr x y=true→PlG w A (RefOk w ct vl) (a.eval x) (rd y)) (hlive:∀ b,A b→b<w.heap.size) (hs:side):NewOk P o a w A (RefOk w ct vl) c:=by
 cases k<;>try (simp [newR] at hp;done)
 case box n x =>
  simp only [isK] at hk
  split at hk<;>try (cases hk;done)
  rename_i e x' hop
  have ho:=opBox_s hop
  simp only [Bool.and_eq_true] at hk
  simp only [newR,boxR,Option.bind_eq_some_iff] at hp
  obtain ⟨l,hl,hp⟩:=hp
  simp only [Option.some.injEq,Prod.mk.injEq] at hp
  obtain ⟨rfl,rfl⟩:=hp
  obtain ⟨⟨h1,h2,h3⟩,h4⟩:=hs
  obtain ⟨h5,h6⟩:=value_cells ((hx x (by simp [Kp.xs]) x' hk.1).1 h1) hl
  exact new_cells h5 (by omega) (fun j c hj=>cell_of_pl (h6 j c hj) (pcs_all h3 _ (List.mem_of_getElem? hj))) hlive (run_box ho)
 case boxv n x =>
  simp only [isK] at hk
  split at hk<;>try (cases hk;done)
  rename_i e x' hop
  have ho:=opBox_s hop
  simp only [Bool.and_eq_true] at hk
  simp only [newR,boxvR,Option.bind_eq_some_iff] at hp
  obtain ⟨l,hl,l',hl',hp⟩:=hp
  simp only [Option.some.injEq,Prod.mk.injEq] at hp
  obtain ⟨rfl,rfl⟩:=hp
  obtain ⟨h1,h4⟩:=hs
  obtain ⟨h5,h6⟩:=value_cells ((hx x (by simp [Kp.xs]) x' hk.1).1 h1) hl
  obtain ⟨h7,h8⟩:=mapO_get hl'
  refine ⟨_,_,fun _=>False,run_box ho,ext_alloc w _,fun _ h=>h.elim,.rd (.ptr (.inr ⟨Nat.le_refl _,by simp,fun h=>h⟩) (fun j=>(a.eval x').cells.getD j undef) (fun j y hj=>?_) (fun j y hj=>?_)),fun _ _ h=>h⟩
  ·rw [Nat.zero_add]
   exact cell_own (heap_alloc_new w _) (by have:=(List.getElem?_eq_some_iff.1 hj).1;omega)
  ·obtain ⟨z,hz,hzy⟩:=h8 j y hj
   exact (plain_rd (h6 j z hz) hzy).mono (fun b hb=>.inl hb) (fun b hb=>heap_alloc_old w _ b (hlive b hb))
 case mkM =>
  simp only [isK,Option.isSome_iff_exists] at hk
  obtain ⟨t,hop⟩:=hk
  have ho:=opMkM_s hop
  simp only [newR,Option.some.injEq,Prod.mk.injEq] at hp
  obtain ⟨rfl,rfl⟩:=hp
  refine ⟨.map (some w.heap.size),w.alloc (.map #[] 0),fun b=>b=w.heap.size,by simp [execOp,ho,Instr.makeMap,Result.andThen],ext_alloc w _,fun b hb=>by subst hb;simp,?_,fun hh=>by cases hh⟩
  exact Own.mp rfl (heap_alloc_new w _) ⟨⟨rfl,rfl,Nat.zero_le _⟩,fun j e k hj=>by simp at hj,fun j e k hj=>by simp at hj⟩
 case rng x =>
  simp only [isK] at hk
  split at hk<;>try (cases hk;done)
  rename_i t x' hop
  simp only [Bool.and_eq_true] at hk
  obtain ⟨hk1,hk2⟩:=hk
  split at hk2<;>try (cases hk2;done)
  rename_i hu
  have ho:=opRng_s hop
  simp only [newR,rngR,Option.bind_eq_some_iff] at hp
  obtain ⟨s,hl,hp⟩:=hp
  simp only [Option.some.injEq,Prod.mk.injEq] at hp
  obtain ⟨rfl,rfl⟩:=hp
  have hx1:=(hx x (by simp [Kp.xs]) x' hk1).1 hs
  have hxs:(rd x).core=.str s:=by cases hcx:(rd x).core<;>rw [hcx] at hl<;>simp [D.str?] at hl;subst hl;rfl
  rw [hxs] at hx1
  refine ⟨.pointer (some ⟨w.heap.size,0,none⟩),w.alloc (.stringIter ⟨s.toArray⟩ 0),fun b=>b=w.heap.size,?_,ext_alloc w _,fun b hb=>by subst hb;simp,Own.itr rfl (heap_alloc_new w _) (pl_str hx1).2,fun hh=>by cases hh⟩
  simp only [execOp,ho,(pl_str hx1).1,Sem.run_bind,run_range_string w t _ hu,Result.andThen_ok,Sem.run_pure]
  rfl
 case cvB x =>
  simp only [isK] at hk
  split at hk<;>try (cases hk;done)
  rename_i s0 d0 x' hop
  have ho:=opConv_s hop
  simp only [Bool.and_eq_true] at hk
  obtain ⟨hk1,hk2⟩:=hk
  split at hk2<;>try (cases hk2;done)
  rename_i e hu1 hu2
  split at hk2<;>try (cases hk2;done)
  rename_i hu3
  simp only [newR,cvBR,Option.bind_eq_some_iff] at hp
  obtain ⟨s,hl,hp⟩:=hp
  simp only [Option.some.injEq,Prod.mk.injEq] at hp
  obtain ⟨rfl,rfl⟩:=hp
  obtain ⟨hg,hmax⟩:=hs
  have hx1:=(hx x (by simp [Kp.xs]) x' hk1).1 hg
  have hxs:(rd x).core=.str s:=by cases hcx:(rd x).core<;>rw [hcx] at hl<;>simp [D.str?] at hl;subst hl;rfl
  rw [hxs] at hx1
  have hsz:(⟨s.toArray⟩:ByteArray).size=s.length:=by show s.toArray.size=_;simp
  have hcm:grownCap w s.length 0 e≤maxLen:=grownCap_le_maxLen w _ 0 e (by simp only [maxLen];omega)
  have hge:=grownCap_ge w s.length 0 e
  have hcs:(Lib.bytesCells w e ⟨s.toArray⟩).size=grownCap w s.length 0 e:=by simp only [Lib.bytesCells,hsz,Array.size_append,Array.size_map,List.size_toArray,Array.size_replicate];omega
  refine ⟨_,Lib.bytesWorld w e ⟨s.toArray⟩,fun b=>b=w.heap.size,by simp only [execOp,ho,(pl_str hx1).1,Sem.run_bind,Lib.run_convert_string_bytes w s0 d0 e _ hu1 hu2 hu3,Result.andThen_ok,Sem.run_pure];rfl,
   ⟨by rw [Lib.bytesWorld_size];omega,fun b hb=>Lib.bytesWorld_at_old w e _ b hb,rfl,rfl,rfl⟩,fun b hb=>by subst hb;rw [Lib.bytesWorld_size];omega,?_,fun hh=>by cases hh⟩
  rw [hsz]
  have key:=Own.slice (w:=Lib.bytesWorld w e ⟨s.toArray⟩) (A:=newA A w (Lib.bytesWorld w e ⟨s.toArray⟩) (·=w.heap.size)) (z:=.int .u8 0) (L:=s.map fun b=>D.int .u8 b.toNat) (b:=w.heap.size) (off:=0) (cap:=grownCap w s.length 0 e) (sz:=1) (F:=(·=w.heap.size))
   (fun _ _=>False) (Lib.bytesWorld_at_new w e ⟨s.toArray⟩) ⟨by omega,.inr (Nat.le_refl _)⟩ (by rw [List.length_map];exact hge) hcm (by decide) rfl (fun x hx=>by obtain ⟨y,_,rfl⟩:=List.mem_map.1 hx;rfl) (fun j x hj=>?_) rfl (fun _ _ h=>h.elim) (fun _ _ _ _ h=>h.elim)
  ·rw [List.length_map] at key;exact key
  unfold cellAt at hj
  rw [Nat.div_one,Nat.mod_one,List.getElem?_map] at hj
  cases hq:s[j]? with
  | none=>rw [hq] at hj;cases hj
  | some b =>
   rw [hq] at hj
   simp only [Option.map_some,Option.bind_some,D.cells,List.getElem?_cons_zero,Option.some.injEq] at hj
   subst hj
   have hjl:=(List.getElem?_eq_some_iff.1 hq).1
   have hv:(Lib.bytesCells w e ⟨s.toArray⟩).getD (0+j) undef=.int .u8 b.toNat:=by
    rw [Nat.zero_add,Array.getD_eq_getD_getElem?]
    unfold Lib.bytesCells
    rw [Array.getElem?_append_left (by simpa using hjl),Array.getElem?_map,List.getElem?_toArray,hq]
    rfl
   rw [hv]
   have:=b.toNat_lt
   refine .int ?_
   simp [IntKind.has,IntKind.min,IntKind.max,IntKind.signed,IntKind.bits]
   omega
 case alc zs =>
  simp only [isK] at hk
  split at hk<;>try (cases hk;done)
  rename_i t hop
  have ho:=opAlloc_s hop
  simp only [newR,Option.some.injEq,Prod.mk.injEq] at hp
  obtain ⟨rfl,rfl⟩:=hp
  obtain ⟨i,z,h1,h2,h3,h4,h5⟩:=zeroT_parts hk
  exact new_cells (cs:=z.cells) (e:=t) (by simpa using h4) (List.length_pos_iff.2 hs) (fun j c hc=>zeroN_cell (h5 j (unnil c) (by rw [List.getElem?_map,hc];rfl))) hlive (by simp [execOp,ho,Instr.alloc,zeroValue,typeInfo,h1,h2,newVar,newRow])
 case mkS z bytes x y =>
  simp only [isK] at hk
  split at hk<;>try (cases hk;done)
  rename_i t x' y' hop
  have ho:=opMkS_s hop
  simp only [Bool.and_eq_true,decide_eq_true_eq] at hk
  obtain ⟨⟨⟨hk1,hk2⟩,hk3⟩,hk4⟩:=hk
  split at hk4<;>try (cases hk4;done)
  rename_i e he
  simp only [Bool.and_eq_true,decide_eq_true_eq] at hk4
  obtain ⟨i,z',h1,h2,h3,h4,h5⟩:=zeroT_parts hk4.1.1
  have hby:i.bytes=bytes:=by
   have:=hk4.1.2
   unfold bytesT at this
   rw [h1] at this
   simpa using this
  simp only [newR,mkSR,Option.bind_eq_some_iff] at hp
  obtain ⟨l,hl,cc,hc,hp⟩:=hp
  simp only [Option.some.injEq,Prod.mk.injEq] at hp
  obtain ⟨rfl,rfl⟩:=hp
  obtain ⟨⟨g1,g2⟩,hl0,hlc,hbytes⟩:=hs
  have hx1:=(hx x (by simp [Kp.xs]) x' hk1).1 g1
  have hy1:=(hx y (by simp [Kp.xs]) y' hk2).1 g2
  have ek1:∃ k,a.eval x'=.int k l:=by
   cases hcx:(rd x).core<;>rw [hcx] at hl hx1<;>simp [D.int?] at hl
   subst hl;exact ⟨_,(pl_int hx1).1⟩
  have ek2:∃ k,a.eval y'=.int k cc:=by
   cases hcx:(rd y).core<;>rw [hcx] at hc hy1<;>simp [D.int?] at hc
   subst hc;exact ⟨_,(pl_int hy1).1⟩
  obtain ⟨k1,ek1⟩:=ek1
  obtain ⟨k2,ek2⟩:=ek2
  have hc63:cc≤9223372036854775807∧cc.toNat≤maxLen:=by
   have h10:cc≤bytes*cc:=by
    have:(1:Int)*cc≤bytes*cc:=Int.mul_le_mul_of_nonneg_right (by have:=hk4.2;omega) (by omega)
    omega
   simp only [maxLen]
   omega
  have hrun:=run_make (P:=P) w t e i z' (sliceT_under he) h1 h2 k1 k2 l cc hl0 hlc (by rw [hby];exact hbytes) hc63.1
  have hsz:z'.cells.size=z.cells.length:=h4
  refine ⟨.slice (some ⟨w.heap.size,0,none⟩) l.toNat cc.toNat,w.alloc (.cells (madeCells z'.cells (cc.toNat*i.size)) e),(·=w.heap.size),?_,ext_alloc w _,fun b hb=>by subst hb;simp,?_,fun h=>by cases h⟩
  ·simp only [execOp,ho,ek1,ek2,Sem.run_bind,hrun,Result.andThen_ok,Sem.run_pure]
  ·have:=Own.slice (w:=w.alloc (.cells (madeCells z'.cells (cc.toNat*i.size)) e)) (A:=newA A w (w.alloc (.cells (madeCells z'.cells (cc.toNat*i.size)) e)) (·=w.heap.size)) (z:=z) (L:=List.replicate l.toNat z) (off:=0) (cap:=cc.toNat) (sz:=z.cells.length) (F:=(·=w.heap.size)) (fun _ _=>False) (heap_alloc_new w _) (by simp [madeCells,h3]) (by simp;omega) hc63.2 hk3 rfl
     (fun x hx=>by rw [(List.mem_replicate.1 hx).2])
     (fun j x hx=>by
       rw [cellAt_rep hk3] at hx
       split at hx
       ·rename_i hj
        have hj2:j<cc.toNat*i.size:=by
         rw [h3];exact Nat.lt_of_lt_of_le hj (Nat.mul_le_mul_right _ (by omega))
        rw [Nat.zero_add,getD_madeCells hj2 (by omega),hsz]
        exact (zeroC_own (h5 _ _ hx)).1
       ·cases hx) rfl (fun _ _ h=>h.elim) (fun _ _ _ _ h=>h.elim)
   rw [List.length_replicate] at this
   exact this
 case bldS z n parts =>
  simp only [isK] at hk
  split at hk<;>try (cases hk;done)
  rename_i t n' ps hop
  have ho:=opBldS_s hop
  simp only [Bool.and_eq_true,decide_eq_true_eq,beq_iff_eq] at hk
  obtain ⟨⟨⟨⟨rfl,hk1⟩,hk2⟩,hk3⟩,hk4⟩:=hk
  split at hk4<;>try (cases hk4;done)
  rename_i e he
  obtain ⟨i,z',h1,h2,h3,h4,h5⟩:=zeroT_parts hk4
  have hu:=sliceT_under he
  have hm2:∀ j c,cellAt (List.replicate n z) z.cells.length j=some c→Pl w A (RefOk w ct vl) ((madeCells z'.cells (n*i.size)).getD j undef) c∧c.pc=true:=by
   intro j c hj
   rw [cellAt_rep hk2] at hj
   split at hj
   ·rename_i hjn
    rw [getD_madeCells (by rw [h3];exact hjn) (by omega),h4]
    exact ⟨.rd (zeroC_rd (h5 _ _ hj)),zeroC_pc (h5 _ _ hj)⟩
   ·cases hj
  have hfill:=fun g L' (hf:fillE rd z.cells.length (List.replicate n z) parts=some (g,L')) (hg:g=true) =>
   fillE_rd (w:=w) (A:=A) (ct:=ct) (vl:=vl) (a:=a) hk2 ps.toList parts (madeCells z'.cells (n*i.size)) (List.replicate n z) g L' hk1 hx (by simp [madeCells,h3]) (fun x hx=>by rw [(List.mem_replicate.1 hx).2]) hm2 hf hg
  simp only [newR] at hp
  unfold bldSR at hp
  split at hp
  ·
   simp only [Option.some.injEq,Prod.mk.injEq] at hp
   obtain ⟨_,rfl⟩:=hp
   have hps:ps.toList=[]:=by
    have:=(isRowParts_get hk1).1
    exact List.eq_nil_of_length_eq_zero (by simpa using this)
   have hf:Instr.fill (fun j=>some (j*i.size,i.size)) (madeCells z'.cells (0*i.size)) (ps.toList.map fun (i,x)=>(i,a.eval x))=some (madeCells z'.cells (0*i.size)):=by rw [hps];rfl
   have hrun:=run_bldS (P:=P) (w:=w) ho hu h1 h2 (by omega) hf
   refine ⟨_,_,(·=w.heap.size),hrun,ext_alloc w _,fun b hb=>by subst hb;simp,?_,fun h=>by cases h⟩
   exact Own.slice (L:=[]) (off:=0) (cap:=0) (sz:=z.cells.length) (fun _ _=>False) (heap_alloc_new w _) (by simp) (by simp) (by simp) hk2 rfl (by simp) (by simp [cellAt]) rfl (fun _ _ h=>h.elim) (fun _ _ _ _ h=>h.elim)
  ·cases hp
  ·rename_i n
   rw [Option.bind_eq_some_iff] at hp
   obtain ⟨⟨g,L⟩,hf,hp⟩:=hp
   simp only [Option.some.injEq,Prod.mk.injEq] at hp
   obtain ⟨rfl,rfl⟩:=hp
   obtain ⟨cs',h6,h7,h8,h9,h10⟩:=hfill g L hf hs
   have hL:L.length=n+1:=by simpa using h8
   rw [← h3] at h6
   have hrun:=run_bldS (P:=P) (w:=w) ho hu h1 h2 (by rw [h3];exact hk3) h6
   have hb1:n+1≤16777216:=by
    have h11:(n+1)*1≤(n+1)*z.cells.length:=Nat.mul_le_mul_left _ hk2
    have h12:(n+1)*z.cells.length≤16777216:=hk3
    omega
   refine ⟨_,_,(·=w.heap.size),hrun,ext_alloc w _,fun b hb=>by subst hb;simp,⟨w.heap.size,z.cells.length,cs',e,by rw [hL],heap_alloc_new w _,h7,by rw [hL];simp only [maxLen];omega,hk2,rfl,h9,fun j c hj=>?_,rfl⟩,fun h=>by cases h⟩
   exact ⟨(h10 j c hj).1.mono (Q:=fun _=>True) (fun b hb=>.inl hb) (fun b hb=>heap_alloc_old w _ b (hlive b hb)) (refs_all (fun _=>trivial) _) fun v d _ hr=>hr,(h10 j c hj).2⟩
end
end Go.D3
