/- PIECES OF PURE OPERATIONS: cells,struct literals,comparisons of structs,slices of views,function values. Generic. -/
import Derived.Test.YtgieggnpnepkfaaGreatDoorInv
namespace Go.D3
open Go
theorem setCells_length:∀ (xs l:List D) (off:Nat),(setCells l off xs).length=l.length
 | [],_,_=>rfl
 | x::r,l,off=>by simp [setCells,setCells_length r]
theorem setCells_get:∀ (xs l:List D) (off j:Nat),off+xs.length≤l.length→(setCells l off xs)[j]?=if off≤j∧j<off+xs.length then xs[j-off]? else l[j]?
 | [],l,off,j,_=>by simp [setCells];intro h1 h2;omega
 | x::r,l,off,j,h=>by
  simp only [List.length_cons] at h
  rw [setCells,setCells_get r _ _ _ (by simp;omega)]
  simp only [List.length_cons]
  by_cases h1:off+1≤j∧j<off+1+r.length
  ·rw [if_pos h1,if_pos (by omega)]
   obtain ⟨k,rfl⟩:∃ k,j=off+1+k:=⟨j-(off+1),by omega⟩
   simp [show off+1+k-off=k+1 by omega]
  ·rw [if_neg h1]
   by_cases h2:j=off
   ·subst h2
    rw [if_pos (by omega)]
    simp [show j<l.length by omega]
   ·rw [if_neg (by omega),List.getElem?_set_ne (by omega)]
def setVals (cs:Array Value) (off:Nat):List Value→Array Value
 | []=>cs
 | v::r=>setVals (cs.setIfInBounds off v) (off+1) r
theorem foldl_setVals:∀ (l:List Value) (k off:Nat) (cs:Array Value),(l.zipIdx k).foldl (fun cs (p:Value×Nat)=>cs.setIfInBounds (off+p.2) p.1) cs=setVals cs (off+k) l
 | [],_,_,_=>rfl
 | v::r,k,off,cs=>by
  simp only [List.zipIdx_cons,List.foldl_cons,setVals]
  rw [foldl_setVals r (k+1) off]
  congr 1
theorem setVals_size:∀ (l:List Value) (off:Nat) (cs:Array Value),(setVals cs off l).size=cs.size
 | [],_,_=>rfl
 | v::r,off,cs=>by rw [setVals,setVals_size r];simp
theorem setVals_get:∀ (l:List Value) (off:Nat) (cs:Array Value) (j:Nat),off+l.length≤cs.size→(setVals cs off l).getD j undef=if off≤j∧j<off+l.length then l.getD (j-off) undef else cs.getD j undef
 | [],off,cs,j,_=>by simp [setVals];intro h1 h2;omega
 | v::r,off,cs,j,h=>by
  simp only [List.length_cons] at h
  rw [setVals,setVals_get r _ _ _ (by simp;omega)]
  simp only [List.length_cons]
  by_cases h1:off+1≤j∧j<off+1+r.length
  ·rw [if_pos h1,if_pos (by omega)]
   obtain ⟨k,rfl⟩:∃ k,j=off+1+k:=⟨j-(off+1),by omega⟩
   simp [show off+1+k-off=k+1 by omega]
  ·rw [if_neg h1]
   by_cases h2:j=off
   ·subst h2
    rw [if_pos (by omega)]
    simp [show j<cs.size by omega]
   ·rw [if_neg (by omega)]
    simp [Array.getElem?_setIfInBounds_ne (show off≠j by omega)]
section
variable {P:Program} {o:Oper} {w:World} {A:Nat→Prop} {ct:Nat→D} {vl:Nat→Value} {a:Act} {ds:List (Option Nat)} {tr:List Nat} {rd:X→D}
theorem set_rd {R:Value→D→Prop} {cs vs:Array Value} {l xs:List D} {off:Nat} (hs:cs.size=l.length) (hr:∀ j c,l[j]?=some c→R (cs.getD j undef) c)
  (hs':vs.size=xs.length) (hr':∀ j c,xs[j]?=some c→R (vs.getD j undef) c) (h:off+xs.length≤l.length) :
  (setVals cs off vs.toList).size=(setCells l off xs).length∧∀ j c,(setCells l off xs)[j]?=some c→R ((setVals cs off vs.toList).getD j undef) c:=by
 refine ⟨by rw [setVals_size,setCells_length,hs],fun j c hc=>?_⟩
 rw [setCells_get _ _ _ _ h] at hc
 rw [setVals_get _ _ _ _ (by simp;omega)]
 simp only [Array.length_toList,hs']
 split at hc
 ·rename_i h1
  rw [if_pos h1]
  have:=hr' _ _ hc
  simpa using this
 ·rename_i h1
  rw [if_neg h1]
  exact hr _ _ hc
theorem zeroC_own {v:Value} {d:D} {F:Nat→Prop} (h:zeroC v d=true):Own w A v d F∧d.isAgg=false:=by
 unfold zeroC at h
 split at h
 ·simp at h
  obtain ⟨⟨h1,h2⟩,h3⟩:=h
  subst h1;subst h2
  exact ⟨.int (okInt_has h3),rfl⟩
 ·simp at h;subst h;exact ⟨.bool,rfl⟩
 ·rename_i s
  have:s.data.toList=[]:=by simpa using h
  rw [data_mk s,this]
  exact ⟨.str (by simp),rfl⟩
 ·exact ⟨.dead,rfl⟩
 ·exact ⟨.nil,rfl⟩
 ·exact ⟨.nilp,rfl⟩
 ·exact ⟨.nmp,rfl⟩
 ·exact ⟨.nifc,rfl⟩
 ·cases h
theorem zeroC_rd {v:Value} {d:D} (h:zeroC v d=true):Rd w A v d :=
 ((zeroC_own (w:=w) (A:=A) (F:=fun _=>False) h).1).rd (fun _ h=>h) (fun _ h=>h.elim)
theorem zeroN_rd {v:Value} {d:D} (h:zeroC v (unnil d)=true):Rd w A v d:=by
 cases d with
 | nils z =>
  simp only [unnil] at h
  unfold zeroC at h
  split at h<;>first | exact .nils | cases h | (rename_i hh _;cases hh) | skip
  all_goals first | exact .nils | contradiction
 | _=>exact zeroC_rd h
theorem zeroN_cell {R:Value→D→Prop} {v:Value} {d:D} {F:Nat→Prop} (h:zeroC v (unnil d)=true):CellOk w A R v F d:=by
 have hr:=zeroN_rd (w:=w) (A:=A) h
 cases d<;>first | exact Pl.rd hr | (simp only [unnil] at h;unfold zeroC at h;split at h<;>first | contradiction | cases h)
theorem zeroCs_get:∀ {vs:List Value} {zs:List D},zeroCs vs zs=true→vs.length=zs.length∧∀ j z,zs[j]?=some z→zeroC (vs.getD j undef) z=true
 | [],[],_=>⟨rfl,by simp⟩
 | [],_::_,h=>by simp [zeroCs] at h
 | _::_,[],h=>by simp [zeroCs] at h
 | v::vs,d::zs,h=>by
  simp [zeroCs] at h
  obtain ⟨h1,h2⟩:=zeroCs_get h.2
  refine ⟨by simp [h1],fun j z hz=>?_⟩
  cases j with
  | zero=>simp at hz;subst hz;simpa using h.1
  | succ j=>simpa using h2 j z (by simpa using hz)
theorem zeroT_parts {t:TypeId} {zs:List D} (h:zeroT P t zs=true):∃ i z,P.info? t=some i∧i.zero=some z∧i.size=zs.length∧z.cells.size=zs.length∧∀ j d,zs[j]?=some d→zeroC (z.cells.getD j undef) d=true:=by
 unfold zeroT at h
 cases hi:P.info? t with
 | none=>simp [hi] at h
 | some i =>
  cases hz:i.zero with
  | none=>simp [hi,hz] at h
  | some z =>
   simp [hi,hz] at h
   obtain ⟨h1,h2⟩:=zeroCs_get h.1
   exact ⟨i,z,rfl,hz,h.2,by simpa using h1,fun j d hd=>by simpa using h2 j d hd⟩
theorem fieldT_parts {t f:Nat} {off:Nat} {ft:TypeId} (h:fieldT P t f=some (off,ft)):∃ fs fl,P.underlying t=some (.struct fs)∧fs[f]?=some fl∧fl.offset=off∧fl.type=ft:=by
 unfold fieldT at h
 cases hu:P.underlying t with
 | none=>simp [hu] at h
 | some d =>
  cases d<;>simp [hu] at h
  obtain ⟨fl,hfl,h1,h2⟩:=h
  exact ⟨_,fl,rfl,hfl,h1,h2⟩
theorem isParts_places {t:TypeId} {fs:Array Field} (hu:P.underlying t=some (.struct fs)):∀ {ps:List (Nat×Operand)} {parts:List (Nat×Nat×X)},isParts P ds tr t ps parts=true →
  ∀ (places:Nat→Option (Nat×Nat)),(∀ (i:Nat) fl n,fs[i]?=some fl→sizeT P fl.type n=true→places i=some (fl.offset,n)) →
  ps.length=parts.length∧∀ (j i:Nat) x off n y,ps[j]?=some (i,x)→parts[j]?=some (off,n,y)→places i=some (off,n)∧isX ds tr x y=true
 | [],[],_,_,_=>⟨rfl,by simp⟩
 | [],_::_,h,_,_=>by simp [isParts] at h
 | _::_,[],h,_,_=>by simp [isParts] at h
 | (i,x)::ps,(off,n,y)::parts,h,places,hp=>by
  simp only [isParts,Bool.and_eq_true] at h
  obtain ⟨⟨h1,h2⟩,h3⟩:=h
  obtain ⟨h4,h5⟩:=isParts_places hu h3 places hp
  refine ⟨by simp [h4],fun j=>?_⟩
  cases j with
  | zero =>
   rintro i' x' off' n' y' he he'
   simp at he he'
   obtain ⟨rfl,rfl⟩:=he
   obtain ⟨rfl,rfl,rfl⟩:=he'
   cases hf:fieldT P t i with
   | none=>simp [hf] at h1
   | some q =>
    obtain ⟨o',ft⟩:=q
    simp [hf] at h1
    obtain ⟨fs',fl,hu',hfl,h6,h7⟩:=fieldT_parts hf
    rw [hu] at hu';injection hu' with hu';injection hu' with hu';subst hu'
    refine ⟨?_,h2⟩
    rw [← h1.1,← h6]
    exact hp i fl n hfl (by rw [h7];exact h1.2)
  | succ j=>intro i' x' off' n' y' he he';exact h5 j i' x' off' n' y' (by simpa using he) (by simpa using he')
theorem fill_rd (places:Nat→Option (Nat×Nat)):∀ (ps:List (Nat×Operand)) (parts:List (Nat×Nat×X)) (cs:Array Value) (l:List D) (g:Bool) (l':List D),ps.length=parts.length →
  (∀ (j i:Nat) x off n y,ps[j]?=some (i,x)→parts[j]?=some (off,n,y)→places i=some (off,n)∧isX ds tr x y=true) →
  (∀ y,y∈parts.map (·.2.2)→∀ x,isX ds tr x y=true→PlG w A (RefOk w ct vl) (a.eval x) (rd y)) →
  cs.size=l.length→(∀ j c,l[j]?=some c→Pl w A (RefOk w ct vl) (cs.getD j undef) c)→fillR rd l parts=some (g,l')→g=true →
  ∃ cs',Instr.fill places cs (ps.map fun (i,x)=>(i,a.eval x))=some cs'∧cs'.size=l'.length∧∀ j c,l'[j]?=some c→Pl w A (RefOk w ct vl) (cs'.getD j undef) c
 | [],[],cs,l,g,l',_,_,_,h1,h2,hf,_=>by
  simp [fillR] at hf
  obtain ⟨_,rfl⟩:=hf
  exact ⟨cs,rfl,h1,h2⟩
 | [],_::_,_,_,_,_,h,_,_,_,_,_,_=>by simp at h
 | _::_,[],_,_,_,_,h,_,_,_,_,_,_=>by simp at h
 | (i,x)::ps,(off,n,y)::parts,cs,l,g,l',hl,hp,hr,h1,h2,hf,hg=>by
  simp only [fillR] at hf
  obtain ⟨hpl,hx⟩:=hp 0 i x off n y rfl rfl
  cases hc:((rd y).core).cellsOf with
  | none=>simp [hc] at hf
  | some xs =>
   simp only [hc,Option.bind_some] at hf
   split at hf
   ·rename_i hlen
    rw [Option.bind_eq_some_iff] at hf
    obtain ⟨⟨g',l''⟩,hf,he⟩:=hf
    injection he with he
    injection he with he1 he2
    subst he2
    rw [hg] at he1
    simp at he1
    have hv:=(hr y (by simp) x hx).1 he1.1
    obtain ⟨h3,h4⟩:=value_cells hv hc
    obtain ⟨h5,h6⟩:=set_rd (R:=Pl w A (RefOk w ct vl)) (off:=off) h1 h2 h3 h4 (by omega)
    obtain ⟨cs',h7,h8⟩:=fill_rd places ps parts _ _ g' l'' (by simpa using hl) (fun j i x off n y hj hj'=>hp (j+1) i x off n y (by simpa using hj) (by simpa using hj'))
     (fun y hy=>hr y (by simp only [List.map_cons,List.mem_cons];exact .inr hy)) h5 h6 hf he1.2
    refine ⟨cs',?_,h8⟩
    simp only [List.map_cons,Instr.fill,hpl]
    have hcond:¬ ((decide ((a.eval x).cells.size≠n) || decide (off+(a.eval x).cells.size > cs.size))=true):=by simp;omega
    rw [if_neg hcond]
    have:=foldl_setVals (a.eval x).cells.toList 0 off cs
    simp only [Nat.add_zero] at this
    rw [← Array.foldl_toList,Array.toList_zipIdx,this]
    exact h7
   ·cases hf
theorem yd_bld {t:TypeId} {ps:Array (Nat×Operand)} (ho:o.op=.build t ps) {zs:List D} {parts:List (Nat×Nat×X)} (hz:zeroT P t (zs.map unnil)=true) (hp:isParts P ds tr t ps.toList parts=true)
  (hst:∃ fs,P.underlying t=some (.struct fs)∧∀ f∈fs.toList,(P.info? f.type).isSome=true)
  (hr:∀ y,y∈parts.map (·.2.2)→∀ x,isX ds tr x y=true→PlG w A (RefOk w ct vl) (a.eval x) (rd y)) {g:Bool} {l:List D} (hf:fillR rd zs parts=some (g,l)) (hg:g=true) :
  ∃ v,Yd P o a w v∧Pl w A (RefOk w ct vl) v (.agg l):=by
 obtain ⟨fs,hu,hfs⟩:=hst
 obtain ⟨i,z,hi,hiz,hsz,hzs,hzc⟩:=zeroT_parts hz
 have hpl:fs.toList.mapM (fun f=>(P.info? f.type).map fun i=>(f.offset,i.size))=some (fs.toList.map fun f=>(f.offset,((P.info? f.type).map (·.size)).getD 0)):=by
  generalize fs.toList=l at hfs
  induction l with
  | nil=>rfl
  | cons f r ih =>
   have h1:=hfs f (by simp)
   cases hq:P.info? f.type with
   | none=>simp [hq] at h1
   | some q=>simp [List.mapM_cons,hq,ih fun f hf=>hfs f (by simp [hf])]
 obtain ⟨h1,h2⟩:=isParts_places hu hp (fun i=>(fs.toList.map fun f=>(f.offset,((P.info? f.type).map (·.size)).getD 0)).toArray[i]?) (fun i fl n hfl hn=>by
  have:fs.toList[i]?=some fl:=by simpa using hfl
  simp only [List.getElem?_toArray,List.getElem?_map,this,Option.map_some]
  unfold sizeT at hn
  cases hq:P.info? fl.type with
  | none=>simp [hq] at hn
  | some q=>simp [hq] at hn;simp [hn])
 obtain ⟨cs',h3,h4,h5⟩:=fill_rd (w:=w) (A:=A) (ct:=ct) (vl:=vl) (a:=a) _ ps.toList parts z.cells zs g l h1 h2 hr (by simpa using hzs) (fun j c hc=>.rd (zeroN_rd (hzc j (unnil c) (by rw [List.getElem?_map,hc];rfl)))) hf hg
 have hb:P.built t ((ps.map fun (i,x)=>(i,a.eval x)).toList)=some cs':=by
  simp only [Program.built,hi,hu,hiz,hpl]
  rw [Array.toList_map]
  exact h3
 exact ⟨.agg cs',by simp only [Yd,execOp,ho];simp [run_build w t _ cs' hb],.agg h4 h5⟩
theorem eqvs_run {xs ys:Array Value}:∀ (fs:List Field) (ks:List Nat) (i d:Nat) (l r:List D) (b:Bool),eqFields P i fs ks=true →
  (∀ (j:Nat) c,l[j]?=some c→i+j<xs.size∧Pl w A (RefOk w ct vl) (xs.getD (i+j) undef) c)→(∀ (j:Nat) c,r[j]?=some c→i+j<ys.size∧Pl w A (RefOk w ct vl) (ys.getD (i+j) undef) c)→eqvs ks l r=some b →
  (Op.eqFields (d+1) xs ys fs).run P w=.ok b w
 | [],[],_,_,l,r,b,_,_,_,h=>by
  cases l<;>cases r<;>simp [eqvs] at h
  subst h;simp [Op.eqFields]
 | [],_::_,_,_,_,_,_,h,_,_,_=>by simp [eqFields] at h
 | _::_,[],_,_,_,_,_,h,_,_,_=>by simp [eqFields] at h
 | f::fs,k::ks,i,d,l,r,b,hf,h1,h2,h=>by
  simp only [eqFields,Bool.and_eq_true,decide_eq_true_eq] at hf
  obtain ⟨⟨⟨hn,hoff⟩,hpe⟩,hf⟩:=hf
  have hn':f.name≠ "_":=by simpa using hn
  have hc:cellT P f.type=true:=by
   unfold kindT at hpe
   unfold cellT
   split at hpe<;>simp_all
  have key:∃ x l' y r' b1 b2,l=x::l'∧r=y::r'∧b=(b1&&b2)∧eqvs ks l' r'=some b2 ∧
    ((Pl w A (RefOk w ct vl) (xs.getD i undef) x→Pl w A (RefOk w ct vl) (ys.getD i undef) y→(Op.equalIn (d+1) f.type (xs.getD i undef) (ys.getD i undef)).run P w=.ok b1 w)):=by
   unfold kindT at hpe
   unfold eqvs at h
   split at h
   ·simp_all
   ·split at h
    ·rename_i hk
     subst hk
     rw [Option.bind_eq_some_iff] at h
     obtain ⟨b2,hb2,h⟩:=h
     injection h with h;subst h
     rename_i heq
     injection heq with hk0 hks
     subst hks
     refine ⟨_,_,_,_,_,b2,rfl,rfl,rfl,hb2,fun hx hy=>?_⟩
     obtain ⟨hx,_⟩:=pl_int hx
     obtain ⟨hy,_⟩:=pl_int hy
     rw [hx,hy]
     split at hpe<;>simp_all
     exact run_equalIn_int w d f.type _ _ _ _ (by assumption)
    ·cases h
   ·rw [Option.bind_eq_some_iff] at h
    obtain ⟨b2,hb2,h⟩:=h
    injection h with h;subst h
    rename_i heq
    injection heq with hk0 hks
    subst hks
    refine ⟨_,_,_,_,_,b2,rfl,rfl,rfl,hb2,fun hx hy=>?_⟩
    have hx:=pl_bool hx
    have hy:=pl_bool hy
    rw [hx,hy]
    split at hpe<;>simp_all
    exact run_equalIn_bool' w d f.type _ _ (by assumption)
   ·rw [Option.bind_eq_some_iff] at h
    obtain ⟨b2,hb2,h⟩:=h
    injection h with h;subst h
    rename_i heq
    injection heq with hk0 hks
    subst hks
    refine ⟨_,_,_,_,_,b2,rfl,rfl,rfl,hb2,fun hx hy=>?_⟩
    obtain ⟨hx,_⟩:=pl_str hx
    obtain ⟨hy,_⟩:=pl_str hy
    rw [hx,hy]
    split at hpe<;>simp_all
    rw [run_equalIn_string w d f.type _ _ (by assumption),ByteArray.toList_eq,ByteArray.toList_eq]
   ·cases h
  obtain ⟨x,l',y,r',b1,b2,rfl,rfl,rfl,hrest,hrun⟩:=key
  obtain ⟨hx1,hx2⟩:=h1 0 _ rfl
  obtain ⟨hy1,hy2⟩:=h2 0 _ rfl
  simp only [Nat.add_zero] at hx1 hx2 hy1 hy2
  have hp1:=part_cell (P:=P) (w:=w) hc (cs:=xs) (off:=i) hx1
  have hp2:=part_cell (P:=P) (w:=w) hc (cs:=ys) (off:=i) hy1
  have he:=hrun hx2 hy2
  simp only [Op.eqFields,hn',ne_eq,not_false_eq_true,if_true,Sem.run_bind,hoff,hp1,hp2,Result.andThen_ok,he,Sem.run_ite]
  cases b1
  ·simp
  ·simp only [Bool.not_true,Bool.false_eq_true,if_false,Bool.true_and]
   exact eqvs_run fs ks (i+1) d l' r' b2 hf
    (fun j c hj=>by have:=h1 (j+1) c (by simpa using hj);rwa [show i+(j+1)=i+1+j by omega] at this)
    (fun j c hj=>by have:=h2 (j+1) c (by simpa using hj);rwa [show i+(j+1)=i+1+j by omega] at this) hrest
theorem yd_eqs {neg:Bool} {t u:TypeId} {x y:Operand} (ho:o.op=.binOp (if neg then .neq else .eql) t x y u) {fs:Array Field} {ks:List Nat} (hu:P.underlying t=some (.struct fs)) (hf:eqFields P 0 fs.toList ks=true)
  (hs:P.stoodInHeld t=false) (hq:P.eqGuardType P.depth t=false) {l r:List D} (hx:Pl w A (RefOk w ct vl) (a.eval x) (.agg l)) (hy:Pl w A (RefOk w ct vl) (a.eval y) (.agg r))
  {b:Bool} (hb:eqvs ks l r=some b):Yd P o a w (.bool (if neg then !b else b)):=by
 obtain ⟨xs,hxs,h1,h2⟩:=pl_agg hx
 obtain ⟨ys,hys,h3,h4⟩:=pl_agg hy
 have hfo:P.fieldsOf t=fs:=by simp [Program.fieldsOf,hu]
 have hrun:=eqvs_run (P:=P) (w:=w) (A:=A) (ct:=ct) (vl:=vl) (xs:=xs) (ys:=ys) fs.toList ks 0 9998 l r b hf
  (fun j c hj=>⟨by have:=(List.getElem?_eq_some_iff.1 hj).1;omega,by simpa using h2 j c hj⟩) (fun j c hj=>⟨by have:=(List.getElem?_eq_some_iff.1 hj).1;omega,by simpa using h4 j c hj⟩) hb
 have he:(Op.equalIn 10000 t (.agg xs) (.agg ys)).run P w=.ok b w:=by
  rw [run_equalIn_agg w 9999 t xs ys (by rw [hfo];exact hu) hs,hfo];exact hrun
 cases neg
 ·simp only [Bool.false_eq_true,if_false] at ho ⊢
  simp [Yd,execOp,ho,hxs,hys,run_eqGuard_agg (P:=P) w .eql t x y xs ys hq,run_eql_struct (P:=P) w t xs ys,he]
 ·simp only [if_true] at ho ⊢
  simp [Yd,execOp,ho,hxs,hys,run_eqGuard_agg (P:=P) w .neq t x y xs ys hq,run_neq_struct (P:=P) w t xs ys,he]
theorem capsR_rd:∀ {xs:List Operand} {ys:List X} {l:List D},isXs ds tr xs ys=true→(∀ y,y∈ys→∀ x,isX ds tr x y=true→PlG w A (RefOk w ct vl) (a.eval x) (rd y))→capsR rd ys=some l →
  xs.length=l.length∧∀ j c,l[j]?=some c→Pl w A (RefOk w ct vl) ((xs.map a.eval).getD j undef) c
 | [],[],l,_,_,h=>by simp [capsR] at h;subst h;simp
 | [],_::_,_,h,_,_=>by simp [isXs] at h
 | _::_,[],_,h,_,_=>by simp [isXs] at h
 | x::xs,y::ys,l,hx,hr,h=>by
  simp only [isXs,Bool.and_eq_true] at hx
  simp only [capsR,Option.bind_eq_some_iff] at h
  obtain ⟨d,hd,l',hl',h⟩:=h
  injection h with h;subst h
  obtain ⟨h1,h2⟩:=capsR_rd hx.2 (fun y hy=>hr y (by simp [hy])) hl'
  have hv:=hr y (by simp) x hx.1
  refine ⟨by simp [h1],fun j c hj=>?_⟩
  cases j with
  | zero =>
   simp at hj
   subst hj
   cases hy:rd y<;>rw [hy] at hd hv<;>simp [D.adr?] at hd
   all_goals
    subst hd
    exact hv.1 rfl
  | succ j=>simpa using h2 j c (by simpa using hj)
theorem yd_mkf {f:FuncId} {caps:Array Operand} {first:Array Operand} (ho:o.op=.makeFunc (.func f) first caps) (hfirst:first.isEmpty=true) {ys:List X} (hx:isXs ds tr caps.toList ys=true)
  (hr:∀ y,y∈ys→∀ x,isX ds tr x y=true→PlG w A (RefOk w ct vl) (a.eval x) (rd y)) {l:List D} (hl:capsR rd ys=some l):∃ v,Yd P o a w v∧Pl w A (RefOk w ct vl) v (.fn f l):=by
 obtain ⟨h1,h2⟩:=capsR_rd hx hr hl
 have hf:first=#[]:=by simpa using hfirst
 subst hf
 refine ⟨.func (.func f) #[] (caps.map a.eval),by simp [Yd,execOp,ho,Instr.makeFunc],.fn (by simpa using h1) fun j c hj=>?_⟩
 have:=h2 j c hj
 simpa using this
theorem cellAt_cut {L:List D} {sz l h j:Nat} {x:D} (hz : 0<sz) (hx:cellAt ((L.take h).drop l) sz j=some x):cellAt L sz (l*sz+j)=some x:=by
 unfold cellAt at *
 have h1:(l*sz+j) / sz=l+j / sz:=by rw [Nat.mul_comm,Nat.mul_add_div hz]
 have h2:(l*sz+j) % sz=j % sz:=by rw [Nat.mul_comm,Nat.mul_add_mod]
 rw [h1,h2]
 cases hq:((L.take h).drop l)[j / sz]? with
 | none=>simp [hq] at hx
 | some y =>
  rw [hq] at hx
  rw [List.getElem?_drop,List.getElem?_take] at hq
  split at hq
  ·rw [hq];exact hx
  ·cases hq
theorem bnd_run {x:Option Operand} {y:Option X} (hx:isXo ds tr x y=true) (hr:∀ z,y=some z→∀ x,isX ds tr x z=true→PlG w A (RefOk w ct vl) (a.eval x) (rd z)) {dflt:Nat} {g:Bool} {m:Int} (h:bndR rd dflt y=some (g,m)) (hg:g=true) :
  (x.map a.eval=none∧m=dflt)∨∃ k,x.map a.eval=some (.int k m):=by
 cases x<;>cases y<;>simp [isXo] at hx
 ·simp [bndR] at h;exact .inl ⟨rfl,h.2.symm⟩
 ·rename_i z y
  simp only [bndR,Option.bind_eq_some_iff] at h
  obtain ⟨n,hn,h⟩:=h
  injection h with h;injection h with h1 h2
  subst h2
  have hv:=(hr y rfl z hx).1 (by rw [h1];exact hg)
  cases hc:(rd y).core<;>rw [hc] at hn hv<;>simp [D.int?] at hn
  subst hn
  exact .inr ⟨_,congrArg some (pl_int hv).1⟩
theorem bounds_run (isS:Bool) (len cap:Nat) (hc:len≤cap) (lo hi:Option Value) (l h:Int) (h0 : 0≤l) (h1:l≤h) (h2:h≤len)
  (hlo:(lo=none∧l=0)∨∃ k,lo=some (.int k l)) (hhi:(hi=none∧h=len)∨∃ k,hi=some (.int k h)):(Instr.sliceBounds isS len cap lo hi none).run P w=.ok (l.toNat,h.toNat,cap) w:=by
 have e1:h≤(cap:Int):=by omega
 have e2 : 0≤h:=by omega
 have e3:(h.toNat:Int)=h:=by omega
 rcases hhi with ⟨rfl,rfl⟩ | ⟨k,rfl⟩<;>rcases hlo with ⟨rfl,rfl⟩ | ⟨k',rfl⟩<;>simp [Instr.sliceBounds,Instr.sliceBound,asIntOf,h0,h1,e1,e2,e3]
theorem data_extract (s:List UInt8) (l h:Nat):(⟨s.toArray⟩:ByteArray).extract l h=⟨((s.take h).drop l).toArray⟩:=by
 apply ByteArray.ext
 rw [ByteArray.data_extract]
 apply Array.ext'
 simp [List.drop_take]
theorem yd_slStr {t:TypeId} {x:Operand} {lo hi:Option Operand} (ho:o.op=.slice t x lo hi none) (ht:P.underlying t=some .string) {s:List UInt8} (hx:a.eval x=.string ⟨s.toArray⟩) {l h:Int} (h0 : 0≤l) (h1:l≤h) (h2:h≤s.length)
  (hlo:(lo.map a.eval=none∧l=0)∨∃ k,lo.map a.eval=some (.int k l)) (hhi:(hi.map a.eval=none∧h=s.length)∨∃ k,hi.map a.eval=some (.int k h)) :
  Yd P o a w (.string ⟨((s.take h.toNat).drop l.toNat).toArray⟩):=by
 have hb:=bounds_run (P:=P) (w:=w) false s.length s.length (Nat.le_refl _) (lo.map a.eval) (hi.map a.eval) l h h0 h1 h2 hlo hhi
 have hsz:(⟨s.toArray⟩:ByteArray).size=s.length:=rfl
 simp [Yd,execOp,ho,hx,Instr.sliceAt,Instr.slice,run_underlying ht,hsz,hb,data_extract]
theorem yd_slView {t e:TypeId} {x:Operand} {lo hi:Option Operand} (ho:o.op=.slice t x lo hi none) (ht:P.underlying t=some (.slice e)) {inf:TypeInfo} (hi':P.info? e=some inf) (hiz:inf.size=1) {z:D} {L:List D} (hzc:z.cells.length=1)
  (hx:Rd w A (a.eval x) (.slice z L)) {l h:Int} (h0 : 0≤l) (h1:l≤h) (h2:h≤L.length)
  (hlo:(lo.map a.eval=none∧l=0)∨∃ k,lo.map a.eval=some (.int k l)) (hhi:(hi.map a.eval=none∧h=L.length)∨∃ k,hi.map a.eval=some (.int k h)) :
  ∃ v,Yd P o a w v∧Rd w A v (.slice z ((L.take h.toNat).drop l.toNat)):=by
 have hlen:((L.take h.toNat).drop l.toNat).length=h.toNat-l.toNat:=by simp;omega
 have hne:(Instr.sliceAt t (a.eval x) (lo.map a.eval) (hi.map a.eval) none).run P w=(Instr.slice t (a.eval x) (lo.map a.eval) (hi.map a.eval) none).run P w:=by
  simp [Instr.sliceAt,run_underlying ht]
 generalize hv:a.eval x=v at *
 cases hx with
 | nil =>
  have hb:=bounds_run (P:=P) (w:=w) true 0 0 (Nat.le_refl _) (lo.map a.eval) (hi.map a.eval) l h h0 h1 (by simpa using h2) hlo (by simpa using hhi)
  have e1:l=0:=by simp at h2;omega
  have e2:h=0:=by simp at h2;omega
  subst e1;subst e2
  refine ⟨.slice none 0 0,?_,by simpa using Rd.nil⟩
  simp only [Yd,execOp,ho,hv,Sem.run_bind,Option.map_none,hne]
  simp [Instr.slice,run_underlying ht,hb,sizeOf,typeInfo,hi']
 | @empty _ p cap hm =>
  have hb:=bounds_run (P:=P) (w:=w) true 0 cap (Nat.zero_le _) (lo.map a.eval) (hi.map a.eval) l h h0 h1 (by simpa using h2) hlo (by simpa using hhi)
  have e1:l=0:=by simp at h2;omega
  have e2:h=0:=by simp at h2;omega
  subst e1;subst e2
  refine ⟨.slice (some p) 0 cap,?_,by simpa using Rd.empty hm⟩
  simp only [Yd,execOp,ho,hv,Sem.run_bind,Option.map_none,hne]
  have hadd:p.add 0=p:=by unfold Addr.add;simp
  simp [Instr.slice,run_underlying ht,hb,sizeOf,typeInfo,hi',hadd]
 | @slice _ _ b off cap sz hA hc hm hz hzz hsz vs hcells hr =>
  have hs1:sz=1:=by omega
  subst hs1
  have hb:=bounds_run (P:=P) (w:=w) true L.length cap hc (lo.map a.eval) (hi.map a.eval) l h h0 h1 h2 hlo hhi
  by_cases hml:cap=l.toNat
  ·subst hml
   refine ⟨.slice (some ⟨b,off,none⟩) (h.toNat-l.toNat) (l.toNat-l.toNat),?_,?_⟩
   ·simp only [Yd,execOp,ho,hv,Sem.run_bind,Option.map_none,hne]
    simp [Instr.slice,run_underlying ht,hb,sizeOf,typeInfo,hi']
   ·have:(L.take h.toNat).drop l.toNat=[]:=List.eq_nil_of_length_eq_zero (by omega)
    have hr2:Rd w A (.slice (some ⟨b,off,none⟩) ([]:List D).length (l.toNat-l.toNat)) (.slice z []):=Rd.slice hA (by simp) (by omega) hz hzz (by simp) (fun _=>undef) (by simp [cellAt]) (by simp [cellAt])
    rw [← hlen,this];exact hr2
  ·have hml':¬ cap=l.toNat:=hml
   refine ⟨.slice (some ⟨b,off+l.toNat*inf.size,none⟩) (h.toNat-l.toNat) (cap-l.toNat),?_,?_⟩
   ·simp only [Yd,execOp,ho,hv,Sem.run_bind,Option.map_none,hne]
    have hadd:(⟨b,off,none⟩:Addr).add (l.toNat*inf.size)=⟨b,off+l.toNat*inf.size,none⟩:=by unfold Addr.add;split<;>simp_all
    simp [Instr.slice,run_underlying ht,hb,sizeOf,typeInfo,hi',hml',hadd]
   ·rw [hiz,← hlen]
    refine Rd.slice hA (by omega) (by omega) hz hzz (fun y hy=>hsz y (List.mem_of_mem_take (List.mem_of_mem_drop hy))) (fun j=>vs (l.toNat*1+j)) (fun j y hy=>?_) (fun j y hy=>?_)
    ·have:=hcells _ _ (cellAt_cut hz hy)
     rwa [← Nat.add_assoc] at this
    ·exact hr _ _ (cellAt_cut hz hy)
theorem yd_slPre {t e:TypeId} {x:Operand} {hi:Option Operand} (ho:o.op=.slice t x none hi none) (ht:P.underlying t=some (.slice e)) {inf:TypeInfo} (hi':P.info? e=some inf)
  {q:Option Addr} {m c:Nat} (hv:a.eval x=.slice q m c) (hmc:m≤c) (hq:q=none→c=0) {h:Int} (h0 : 0≤h) (h1:h≤m)
  (hhi:(hi.map a.eval=none∧h=m)∨∃ k,hi.map a.eval=some (.int k h)):Yd P o a w (.slice q h.toNat c):=by
 have hne:(Instr.sliceAt t (.slice q m c) none (hi.map a.eval) none).run P w=(Instr.slice t (.slice q m c) none (hi.map a.eval) none).run P w:=by
  simp [Instr.sliceAt,run_underlying ht]
 have hb:=bounds_run (P:=P) (w:=w) true m c hmc none (hi.map a.eval) 0 h (Int.le_refl _) h0 h1 (.inl ⟨rfl,rfl⟩) hhi
 cases q with
 | none =>
  have e1:=hq rfl
  subst e1
  have e2:m=0:=by omega
  subst e2
  have e3:h=0:=by omega
  subst e3
  simp only [Yd,execOp,ho,hv,Sem.run_bind,Option.map_none,hne]
  simp [Instr.slice,run_underlying ht,hb,sizeOf,typeInfo,hi']
 | some p =>
  have hadd:p.add 0=p:=by unfold Addr.add;simp
  by_cases hc0:c=0
  ·subst hc0
   simp only [Yd,execOp,ho,hv,Sem.run_bind,Option.map_none,hne]
   simp [Instr.slice,run_underlying ht,hb,sizeOf,typeInfo,hi']
  ·simp only [Yd,execOp,ho,hv,Sem.run_bind,Option.map_none,hne]
   simp [Instr.slice,run_underlying ht,hb,sizeOf,typeInfo,hi',hc0,hadd]
end
end Go.D3
