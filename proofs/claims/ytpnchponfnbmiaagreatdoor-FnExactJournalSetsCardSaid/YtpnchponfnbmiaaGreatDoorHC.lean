/- CALLS whose arguments are only read. Generic. -/
import Derived.Test.YtpnchponfnbmiaaGreatDoorHB
import Derived.MapKept
import Derived.Laws.RangeAny
import Derived.Laws.BytesString
import Derived.Lib.ConvBytes
namespace Go.D3
open Go
theorem Mj:∀(xs l:List D)(off:Nat),(setCells l off xs).length=l.length
 | [],_,_=>rfl
 | x::r,l,off=>by simp[setCells,Mj r]
theorem Bd:∀(xs l:List D)(off j:Nat),off+xs.length<=l.length->(setCells l off xs)[j]?=if off<=j/\j<off+xs.length then xs[j-off]? else l[j]?
 | [],l,off,j,_=>by simp[setCells];intro h1 h2;omega
 | x::r,l,off,j,h=>by
  simp only[List.length_cons] at h;rw[setCells,Bd r _ _ _ (by simp;omega)];simp only[List.length_cons];by_cases h1:off+1<=j/\j<off+1+r.length
  ·rw[if_pos h1,if_pos (by omega)]
   obtain⟨k,rfl⟩:∃k,j=off+1+k:=⟨j-(off+1),by omega⟩;simp[show off+1+k-off=k+1 by omega]
  ·rw[if_neg h1]
   by_cases h2:j=off
   ·subst h2
    rw[if_pos (by omega)];simp[show j<l.length by omega]
   ·rw[if_neg (by omega),List.getElem?_set_ne (by omega)]
def fu(cs:Array Value)(off:Nat):List Value->Array Value
 | []=>cs
 | v::r=>fu (cs.setIfInBounds off v) (off+1) r
theorem vi:∀(l:List Value)(k off:Nat)(cs:Array Value),(l.zipIdx k).foldl (fun cs (p:Value×Nat)=>cs.setIfInBounds (off+p.2) p.1) cs=fu cs (off+k) l
 | [],_,_,_=>rfl
 | v::r,k,off,cs=>by
  simp only[List.zipIdx_cons,List.foldl_cons,fu];rw[vi r (k+1) off];congr 1
theorem rJ:∀(l:List Value)(off:Nat)(cs:Array Value),(fu cs off l).size=cs.size
 | [],_,_=>rfl
 | v::r,off,cs=>by rw[fu,rJ r];simp
theorem rI:∀(l:List Value)(off:Nat)(cs:Array Value)(j:Nat),off+l.length<=cs.size->(fu cs off l).getD j undef=if off<=j/\j<off+l.length then l.getD (j-off) undef else cs.getD j undef
 | [],off,cs,j,_=>by simp[fu];intro h1 h2;omega
 | v::r,off,cs,j,h=>by
  simp only[List.length_cons] at h;rw[fu,rI r _ _ _ (by simp;omega)];simp only[List.length_cons];by_cases h1:off+1<=j/\j<off+1+r.length
  ·rw[if_pos h1,if_pos (by omega)]
   obtain⟨k,rfl⟩:∃k,j=off+1+k:=⟨j-(off+1),by omega⟩;simp[show off+1+k-off=k+1 by omega]
  ·rw[if_neg h1]
   by_cases h2:j=off
   ·subst h2
    rw[if_pos (by omega)];simp[show j<cs.size by omega]
   ·rw[if_neg (by omega)]
    simp[Array.getElem?_setIfInBounds_ne (show off≠j by omega)]
section
variable{P:Program}{o:Oper}{w:World}{A:Nat->Prop}{ct:Nat->D}{vl:Nat->Value}{a:Act}{ds:List (Option Nat)}{tr:List Nat}{rd:X->D}
theorem ZQ{R:Value->D->Prop}{cs vs:Array Value}{l xs:List D}{off:Nat}(hs:cs.size=l.length)(hr:∀j c,l[j]?=some c->R (cs.getD j undef) c)
  (hs':vs.size=xs.length) (hr':∀j c,xs[j]?=some c->R (vs.getD j undef) c) (h:off+xs.length<=l.length) :
  (fu cs off vs.toList).size=(setCells l off xs).length/\∀j c,(setCells l off xs)[j]?=some c->R ((fu cs off vs.toList).getD j undef) c:=by
 refine⟨by rw[rJ,Mj,hs],fun j c hc=>?_⟩;rw[Bd _ _ _ _ h] at hc;rw[rI _ _ _ _ (by simp;omega)];simp only[Array.length_toList,hs'];split at hc
 ·rename_i h1
  rw[if_pos h1];have:=hr' _ _ hc;simpa using this
 ·rename_i h1
  rw[if_neg h1];exact hr _ _ hc
theorem Na{v:Value}{d:D}{F:Nat->Prop}(h:gy v d=true):aj w A v d F/\d.isAgg=false:=by
 unfold gy at h;split at h
 ·simp at h
  obtain⟨⟨h1,h2⟩,h3⟩:=h;subst h1;subst h2;exact⟨.int (jM h3),rfl⟩
 ·simp at h;subst h;exact⟨.bool,rfl⟩
 ·rename_i s
  have:s.data.toList=[]:=by simpa using h
  rw[yn s,this];exact⟨.str (by simp),rfl⟩
 ·exact⟨.dead,rfl⟩
 ·exact⟨.nil,rfl⟩
 ·exact⟨.bc,rfl⟩
 ·exact⟨.bJ,rfl⟩
 ·exact⟨.aY,rfl⟩
 ·cases h
theorem xh{v:Value}{d:D}(h:gy v d=true):Rd w A v d :=
 ((Na (w:=w) (A:=A) (F:=fun _=>False) h).1).rd (fun _ h=>h) (fun _ h=>h.elim)
theorem abM{v:Value}{d:D}{F:Nat->Prop}(h:gy v (DM d)=true):aj w A v d F:=by
 unfold DM at h;split at h
 ·rename_i z
  have:v=.slice none 0 0:=by
   unfold gy at h;split at h<;>simp_all
  subst this;exact .vw .aB
 ·exact(Na h).1
theorem Nc{v:Value}{d:D}(h:gy v (nb d)=true):Rd w A v d:=by
 cases d with
 | aB z =>
  simp only[nb] at h;unfold gy at h;split at h<;>first | exact .aB | cases h | (rename_i hh _;cases hh) | skip
  all_goals first | exact .aB | contradiction
 | _=>exact xh h
theorem abL{R:Value->D->Prop}{v:Value}{d:D}{F:Nat->Prop}(h:gy v (nb d)=true):bV w A R v F d:=by
 have hr:=Nc (w:=w) (A:=A) h;cases d<;>first | exact Pl.rd hr | (simp only[nb] at h;unfold gy at h;split at h<;>first | contradiction | cases h)
theorem Nb:∀{vs:List Value}{zs:List D},rW vs zs=true->vs.length=zs.length/\∀j z,zs[j]?=some z->gy (vs.getD j undef) z=true
 | [],[],_=>⟨rfl,by simp⟩
 | [],_::_,h=>by simp[rW] at h
 | _::_,[],h=>by simp[rW] at h
 | v::vs,d::zs,h=>by
  simp[rW] at h;obtain⟨h1,h2⟩:=Nb h.2;refine⟨by simp[h1],fun j z hz=>?_⟩;cases j with
  | zero=>simp at hz;subst hz;simpa using h.1
  | succ j=>simpa using h2 j z (by simpa using hz)
theorem uv{t:TypeId}{zs:List D}(h:oK P t zs=true):∃i z,P.info? t=some i/\i.zero=some z/\i.size=zs.length/\z.cells.size=zs.length/\∀j d,zs[j]?=some d->gy (z.cells.getD j undef) d=true:=by
 unfold oK at h;cases hi:P.info? t with
 | none=>simp[hi] at h
 | some i =>
  cases hz:i.zero with
  | none=>simp[hi,hz] at h
  | some z =>
   simp[hi,hz] at h;obtain⟨h1,h2⟩:=Nb h.1;exact⟨i,z,rfl,hz,h.2,by simpa using h1,fun j d hd=>by simpa using h2 j d hd⟩
theorem PB{t f:Nat}{off:Nat}{ft:TypeId}(h:iP P t f=some (off,ft)):∃fs fl,P.underlying t=some (.struct fs)/\fs[f]?=some fl/\fl.offset=off/\fl.type=ft:=by
 unfold iP at h;cases hu:P.underlying t with
 | none=>simp[hu] at h
 | some d =>
  cases d<;>simp[hu] at h;obtain⟨fl,hfl,h1,h2⟩:=h;exact⟨_,fl,rfl,hfl,h1,h2⟩
theorem GG{t:TypeId}{fs:Array Field}(hu:P.underlying t=some (.struct fs)):∀{ps:List (Nat×Operand)}{parts:List (Nat×Nat×X)},pg P ds tr t ps parts=true ->
  ∀(places:Nat->Option (Nat×Nat)),(∀(i:Nat) fl n,fs[i]?=some fl->dy P fl.type n=true->places i=some (fl.offset,n)) ->
  ps.length=parts.length/\∀(j i:Nat) x off n y,ps[j]?=some (i,x)->parts[j]?=some (off,n,y)->places i=some (off,n)/\aJ ds tr x y=true
 | [],[],_,_,_=>⟨rfl,by simp⟩
 | [],_::_,h,_,_=>by simp[pg] at h
 | _::_,[],h,_,_=>by simp[pg] at h
 | (i,x)::ps,(off,n,y)::parts,h,places,hp=>by
  simp only[pg,Bool.and_eq_true] at h;obtain⟨⟨h1,h2⟩,h3⟩:=h;obtain⟨h4,h5⟩:=GG hu h3 places hp;refine⟨by simp[h4],fun j=>?_⟩;cases j with
  | zero =>
   rintro i' x' off' n' y' he he';simp at he he';obtain⟨rfl,rfl⟩:=he;obtain⟨rfl,rfl,rfl⟩:=he';cases hf:iP P t i with
   | none=>simp[hf] at h1
   | some q =>
    obtain⟨o',ft⟩:=q;simp[hf] at h1;obtain⟨fs',fl,hu',hfl,h6,h7⟩:=PB hf;rw[hu] at hu';injection hu' with hu';injection hu' with hu';subst hu'
    refine⟨?_,h2⟩;rw[<-h1.1,<-h6];exact hp i fl n hfl (by rw[h7];exact h1.2)
  | succ j=>intro i' x' off' n' y' he he';exact h5 j i' x' off' n' y' (by simpa using he) (by simpa using he')
theorem F7(places:Nat->Option (Nat×Nat)):∀(ps:List (Nat×Operand))(parts:List (Nat×Nat×X))(cs:Array Value)(l:List D)(g:Bool)(l':List D),ps.length=parts.length ->
  (∀(j i:Nat) x off n y,ps[j]?=some (i,x)->parts[j]?=some (off,n,y)->places i=some (off,n)/\aJ ds tr x y=true) ->
  (∀y,y∈parts.map (·.2.2)->∀x,aJ ds tr x y=true->cd w A (af w ct vl) (a.eval x) (rd y)) ->
  cs.size=l.length->(∀j c,l[j]?=some c->Pl w A (af w ct vl) (cs.getD j undef) c)->nG rd l parts=some (g,l')->g=true ->
  ∃cs',Instr.fill places cs (ps.map fun(i,x)=>(i,a.eval x))=some cs'/\cs'.size=l'.length/\∀j c,l'[j]?=some c->Pl w A (af w ct vl) (cs'.getD j undef) c
 | [],[],cs,l,g,l',_,_,_,h1,h2,hf,_=>by
  simp[nG] at hf;obtain⟨_,rfl⟩:=hf;exact⟨cs,rfl,h1,h2⟩
 | [],_::_,_,_,_,_,h,_,_,_,_,_,_=>by simp at h
 | _::_,[],_,_,_,_,h,_,_,_,_,_,_=>by simp at h
 | (i,x)::ps,(off,n,y)::parts,cs,l,g,l',hl,hp,hr,h1,h2,hf,hg=>by
  simp only[nG] at hf;obtain⟨hpl,hx⟩:=hp 0 i x off n y rfl rfl;cases hc:((rd y).core).cellsOf with
  | none=>simp[hc] at hf
  | some xs =>
   simp only[hc,Option.bind_some] at hf;split at hf
   ·rename_i hlen
    rw[Option.bind_eq_some_iff] at hf;obtain⟨⟨g',l''⟩,hf,he⟩:=hf;injection he with he
    injection he with he1 he2
    subst he2;rw[hg] at he1;simp at he1;have hv:=(hr y (by simp) x hx).1 he1.1;obtain⟨h3,h4⟩:=oJ hv hc;obtain⟨h5,h6⟩:=ZQ (R:=Pl w A (af w ct vl)) (off:=off) h1 h2 h3 h4 (by omega)
    obtain⟨cs',h7,h8⟩:=F7 places ps parts _ _ g' l'' (by simpa using hl) (fun j i x off n y hj hj'=>hp (j+1) i x off n y (by simpa using hj) (by simpa using hj'))
     (fun y hy=>hr y (by simp only[List.map_cons,List.mem_cons];exact .inr hy)) h5 h6 hf he1.2
    refine⟨cs',?_,h8⟩;simp only[List.map_cons,Instr.fill,hpl];have hcond:¬((decide ((a.eval x).cells.size≠n) || decide (off+(a.eval x).cells.size > cs.size))=true):=by simp;omega
    rw[if_neg hcond];have:=vi (a.eval x).cells.toList 0 off cs;simp only[Nat.add_zero] at this;rw[<-Array.foldl_toList,Array.toList_zipIdx,this];exact h7
   ·cases hf
theorem abr{t:TypeId}{ps:Array (Nat×Operand)}(ho:o.op=.build t ps){zs:List D}{parts:List (Nat×Nat×X)}(hz:oK P t (zs.map nb)=true)(hp:pg P ds tr t ps.toList parts=true)
  (aM:∃fs,P.underlying t=some (.struct fs)/\∀f∈fs.toList,(P.info? f.type).isSome=true)
  (hr:∀y,y∈parts.map (·.2.2)->∀x,aJ ds tr x y=true->cd w A (af w ct vl) (a.eval x) (rd y)) {g:Bool} {l:List D} (hf:nG rd zs parts=some (g,l)) (hg:g=true) :
  ∃v,Yd P o a w v/\Pl w A (af w ct vl) v (.agg l):=by
 obtain⟨fs,hu,hfs⟩:=aM;obtain⟨i,z,hi,hiz,hsz,hzs,hzc⟩:=uv hz
 have hpl:fs.toList.mapM (fun f=>(P.info? f.type).map fun i=>(f.offset,i.size))=some (fs.toList.map fun f=>(f.offset,((P.info? f.type).map (·.size)).getD 0)):=by
  generalize fs.toList=l at hfs;induction l with
  | nil=>rfl
  | cons f r ih =>
   have h1:=hfs f (by simp);cases hq:P.info? f.type with
   | none=>simp[hq] at h1
   | some q=>simp[List.mapM_cons,hq,ih fun f hf=>hfs f (by simp[hf])]
 obtain⟨h1,h2⟩:=GG hu hp (fun i=>(fs.toList.map fun f=>(f.offset,((P.info? f.type).map (·.size)).getD 0)).toArray[i]?) (fun i fl n hfl hn=>by
  have:fs.toList[i]?=some fl:=by simpa using hfl
  simp only[List.getElem?_toArray,List.getElem?_map,this,Option.map_some];unfold dy at hn;cases hq:P.info? fl.type with
  | none=>simp[hq] at hn
  | some q=>simp[hq] at hn;simp[hn])
 obtain⟨cs',h3,h4,h5⟩:=F7 (w:=w) (A:=A) (ct:=ct) (vl:=vl) (a:=a) _ ps.toList parts z.cells zs g l h1 h2 hr (by simpa using hzs) (fun j c hc=>.rd (Nc (hzc j (nb c) (by rw[List.getElem?_map,hc];rfl)))) hf hg
 have hb:P.built t ((ps.map fun(i,x)=>(i,a.eval x)).toList)=some cs':=by
  simp only[Program.built,hi,hu,hiz,hpl];rw[Array.toList_map];exact h3
 exact⟨.agg cs',by simp only[Yd,execOp,ho];simp[run_build w t _ cs' hb],.agg h4 h5⟩
theorem FR{xs ys:Array Value}:∀(fs:List Field)(ks:List Nat)(i d:Nat)(l r:List D)(b:Bool),eqFields P i fs ks=true ->
  (∀(j:Nat) c,l[j]?=some c->i+j<xs.size/\Pl w A (af w ct vl) (xs.getD (i+j) undef) c)->(∀(j:Nat) c,r[j]?=some c->i+j<ys.size/\Pl w A (af w ct vl) (ys.getD (i+j) undef) c)->iu ks l r=some b ->
  (Op.eqFields (d+1) xs ys fs).run P w=.ok b w
 | [],[],_,_,l,r,b,_,_,_,h=>by
  cases l<;>cases r<;>simp[iu] at h;subst h;simp[Op.eqFields]
 | [],_::_,_,_,_,_,_,h,_,_,_=>by simp[eqFields] at h
 | _::_,[],_,_,_,_,_,h,_,_,_=>by simp[eqFields] at h
 | f::fs,k::ks,i,d,l,r,b,hf,h1,h2,h=>by
  simp only[eqFields,Bool.and_eq_true,decide_eq_true_eq] at hf;obtain⟨⟨⟨hn,hoff⟩,hpe⟩,hf⟩:=hf;have hn':f.name≠ "_":=by simpa using hn
  have hc:j0 P f.type=true:=by
   unfold lA at hpe;unfold j0;split at hpe<;>simp_all
  have key:∃x l' y r' b1 b2,l=x::l'/\r=y::r'/\b=(b1&&b2)/\iu ks l' r'=some b2 /\
    ((Pl w A (af w ct vl) (xs.getD i undef) x->Pl w A (af w ct vl) (ys.getD i undef) y->(Op.equalIn (d+1) f.type (xs.getD i undef) (ys.getD i undef)).run P w=.ok b1 w)):=by
   unfold lA at hpe;unfold iu at h;split at h
   ·simp_all
   ·split at h
    ·rename_i hk
     subst hk;rw[Option.bind_eq_some_iff] at h;obtain⟨b2,hb2,h⟩:=h;injection h with h;subst h
     rename_i heq;injection heq with hk0 hks
     subst hks;refine⟨_,_,_,_,_,b2,rfl,rfl,rfl,hb2,fun hx hy=>?_⟩;obtain⟨hx,_⟩:=ek hx;obtain⟨hy,_⟩:=ek hy;rw[hx,hy];split at hpe<;>simp_all;exact run_equalIn_int w d f.type _ _ _ _ (by assumption)
    ·cases h
   ·rw[Option.bind_eq_some_iff] at h
    obtain⟨b2,hb2,h⟩:=h;injection h with h;subst h
    rename_i heq;injection heq with hk0 hks
    subst hks;refine⟨_,_,_,_,_,b2,rfl,rfl,rfl,hb2,fun hx hy=>?_⟩;have hx:=pl_bool hx;have hy:=pl_bool hy;rw[hx,hy];split at hpe<;>simp_all;exact run_equalIn_bool' w d f.type _ _ (by assumption)
   ·rw[Option.bind_eq_some_iff] at h
    obtain⟨b2,hb2,h⟩:=h;injection h with h;subst h
    rename_i heq;injection heq with hk0 hks
    subst hks;refine⟨_,_,_,_,_,b2,rfl,rfl,rfl,hb2,fun hx hy=>?_⟩;obtain⟨hx,_⟩:=gI hx;obtain⟨hy,_⟩:=gI hy;rw[hx,hy];split at hpe<;>simp_all;rw[run_equalIn_string w d f.type _ _ (by assumption),ByteArray.toList_eq,ByteArray.toList_eq]
   ·cases h
  obtain⟨x,l',y,r',b1,b2,rfl,rfl,rfl,hrest,hrun⟩:=key;obtain⟨hx1,hx2⟩:=h1 0 _ rfl;obtain⟨hy1,hy2⟩:=h2 0 _ rfl;simp only[Nat.add_zero] at hx1 hx2 hy1 hy2;have hp1:=Ag (P:=P) (w:=w) hc (cs:=xs) (off:=i) hx1;have hp2:=Ag (P:=P) (w:=w) hc (cs:=ys) (off:=i) hy1;have he:=hrun hx2 hy2;simp only[Op.eqFields,hn',ne_eq,not_false_eq_true,if_true,Sem.run_bind,hoff,hp1,hp2,Result.andThen_ok,he,Sem.run_ite];cases b1
  ·simp
  ·simp only[Bool.not_true,Bool.false_eq_true,if_false,Bool.true_and]
   exact FR fs ks (i+1) d l' r' b2 hf
    (fun j c hj=>by have:=h1 (j+1) c (by simpa using hj);rwa [show i+(j+1)=i+1+j by omega] at this)
    (fun j c hj=>by have:=h2 (j+1) c (by simpa using hj);rwa [show i+(j+1)=i+1+j by omega] at this) hrest
theorem abu{neg:Bool}{t u:TypeId}{x y:Operand}(ho:o.op=.binOp (if neg then .neq else .eql) t x y u){fs:Array Field}{ks:List Nat}(hu:P.underlying t=some (.struct fs))(hf:eqFields P 0 fs.toList ks=true)
  (hs:P.stoodInHeld t=false) (hq:P.eqGuardType P.depth t=false) {l r:List D} (hx:Pl w A (af w ct vl) (a.eval x) (.agg l)) (hy:Pl w A (af w ct vl) (a.eval y) (.agg r))
  {b:Bool} (hb:iu ks l r=some b):Yd P o a w (.bool (if neg then !b else b)):=by
 obtain⟨xs,hxs,h1,h2⟩:=mJ hx;obtain⟨ys,hys,h3,h4⟩:=mJ hy;have hfo:P.fieldsOf t=fs:=by simp[Program.fieldsOf,hu]
 have hrun:=FR (P:=P) (w:=w) (A:=A) (ct:=ct) (vl:=vl) (xs:=xs) (ys:=ys) fs.toList ks 0 9998 l r b hf
  (fun j c hj=>⟨by have:=(List.getElem?_eq_some_iff.1 hj).1;omega,by simpa using h2 j c hj⟩) (fun j c hj=>⟨by have:=(List.getElem?_eq_some_iff.1 hj).1;omega,by simpa using h4 j c hj⟩) hb
 have he:(Op.equalIn 10000 t (.agg xs) (.agg ys)).run P w=.ok b w:=by
  rw[run_equalIn_agg w 9999 t xs ys (by rw[hfo];exact hu) hs,hfo];exact hrun
 cases neg
 ·simp only[Bool.false_eq_true,if_false] at ho|-
  simp[Yd,execOp,ho,hxs,hys,run_eqGuard_agg (P:=P) w .eql t x y xs ys hq,run_eql_struct (P:=P) w t xs ys,he]
 ·simp only[if_true] at ho|-
  simp[Yd,execOp,ho,hxs,hys,run_eqGuard_agg (P:=P) w .neq t x y xs ys hq,run_neq_struct (P:=P) w t xs ys,he]
theorem ET:∀{xs:List Operand}{ys:List X}{l:List D},eX ds tr xs ys=true->(∀y,y∈ys->∀x,aJ ds tr x y=true->cd w A (af w ct vl) (a.eval x) (rd y))->nx rd ys=some l ->
  xs.length=l.length/\∀j c,l[j]?=some c->Pl w A (af w ct vl) ((xs.map a.eval).getD j undef) c
 | [],[],l,_,_,h=>by simp[nx] at h;subst h;simp
 | [],_::_,_,h,_,_=>by simp[eX] at h
 | _::_,[],_,h,_,_=>by simp[eX] at h
 | x::xs,y::ys,l,hx,hr,h=>by
  simp only[eX,Bool.and_eq_true] at hx;simp only[nx,Option.bind_eq_some_iff] at h;obtain⟨d,hd,l',hl',h⟩:=h;injection h with h;subst h
  obtain⟨h1,h2⟩:=ET hx.2 (fun y hy=>hr y (by simp[hy])) hl';have hv:=hr y (by simp) x hx.1;refine⟨by simp[h1],fun j c hj=>?_⟩;cases j with
  | zero =>
   simp at hj;subst hj;cases hy:rd y<;>rw[hy] at hd hv<;>simp[D.sa] at hd
   all_goals
    subst hd;exact hv.1 rfl
  | succ j=>simpa using h2 j c (by simpa using hj)
theorem abD{f:FuncId}{caps:Array Operand}{first:Array Operand}(ho:o.op=.makeFunc (.func f) first caps)(hfirst:first.isEmpty=true){ys:List X}(hx:eX ds tr caps.toList ys=true)
  (hr:∀y,y∈ys->∀x,aJ ds tr x y=true->cd w A (af w ct vl) (a.eval x) (rd y)) {l:List D} (hl:nx rd ys=some l):∃v,Yd P o a w v/\Pl w A (af w ct vl) v (.fn f l):=by
 obtain⟨h1,h2⟩:=ET hx hr hl;have hf:first=#[]:=by simpa using hfirst
 subst hf;refine⟨.func (.func f) #[] (caps.map a.eval),by simp[Yd,execOp,ho,Instr.makeFunc],.fn (by simpa using h1) fun j c hj=>?_⟩;have:=h2 j c hj;simpa using this
theorem xZ{L:List D}{sz l h j:Nat}{x:D}(hz : 0<sz)(hx:cellAt ((L.take h).drop l) sz j=some x):cellAt L sz (l*sz+j)=some x:=by
 unfold cellAt at *;have h1:(l*sz+j) / sz=l+j / sz:=by rw[Nat.mul_comm,Nat.mul_add_div hz]
 have h2:(l*sz+j) % sz=j % sz:=by rw[Nat.mul_comm,Nat.mul_add_mod]
 rw[h1,h2];cases hq:((L.take h).drop l)[j / sz]? with
 | none=>simp[hq] at hx
 | some y =>
  rw[hq] at hx;rw[List.getElem?_drop,List.getElem?_take] at hq;split at hq
  ·rw[hq];exact hx
  ·cases hq
theorem sr{x:Option Operand}{y:Option X}(hx:pj ds tr x y=true)(hr:∀z,y=some z->∀x,aJ ds tr x z=true->cd w A (af w ct vl) (a.eval x) (rd z)){dflt:Nat}{g:Bool}{m:Int}(h:kX rd dflt y=some (g,m))(hg:g=true) :
  (x.map a.eval=none/\m=dflt)\/∃k,x.map a.eval=some (.int k m):=by
 cases x<;>cases y<;>simp[pj] at hx
 ·simp[kX] at h;exact .inl ⟨rfl,h.2.symm⟩
 ·rename_i z y
  simp only[kX,Option.bind_eq_some_iff] at h;obtain⟨n,hn,h⟩:=h;injection h with h;injection h with h1 h2
  subst h2;have hv:=(hr y rfl z hx).1 (by rw[h1];exact hg);cases hc:(rd y).core<;>rw[hc] at hn hv<;>simp[D.int?] at hn;subst hn;exact .inr ⟨_,congrArg some (ek hv).1⟩
theorem ss(isS:Bool)(len cap:Nat)(hc:len<=cap)(lo hi:Option Value)(l h:Int)(h0 : 0<=l)(h1:l<=h)(h2:h<=len)
  (hlo:(lo=none/\l=0)\/∃k,lo=some (.int k l)) (hhi:(hi=none/\h=len)\/∃k,hi=some (.int k h)):(Instr.sliceBounds isS len cap lo hi none).run P w=.ok (l.toNat,h.toNat,cap) w:=by
 have e1:h<=(cap:Int):=by omega
 have e2 : 0<=h:=by omega
 have e3:(h.toNat:Int)=h:=by omega
 rcases hhi with⟨rfl,rfl⟩ | ⟨k,rfl⟩<;>rcases hlo with⟨rfl,rfl⟩ | ⟨k',rfl⟩<;>simp[Instr.sliceBounds,Instr.sliceBound,asIntOf,h0,h1,e1,e2,e3]
theorem data_extract(s:List UInt8)(l h:Nat):(⟨s.toArray⟩:ByteArray).extract l h=⟨((s.take h).drop l).toArray⟩:=by
 apply ByteArray.ext;rw[ByteArray.data_extract];apply Array.ext';simp[List.drop_take]
theorem abJ{t:TypeId}{x:Operand}{lo hi:Option Operand}(ho:o.op=.slice t x lo hi none)(ht:P.underlying t=some .string){s:List UInt8}(hx:a.eval x=.string ⟨s.toArray⟩){l h:Int}(h0 : 0<=l)(h1:l<=h)(h2:h<=s.length)
  (hlo:(lo.map a.eval=none/\l=0)\/∃k,lo.map a.eval=some (.int k l)) (hhi:(hi.map a.eval=none/\h=s.length)\/∃k,hi.map a.eval=some (.int k h)) :
  Yd P o a w (.string ⟨((s.take h.toNat).drop l.toNat).toArray⟩):=by
 have hb:=ss (P:=P) (w:=w) false s.length s.length (Nat.le_refl _) (lo.map a.eval) (hi.map a.eval) l h h0 h1 h2 hlo hhi;have hsz:(⟨s.toArray⟩:ByteArray).size=s.length:=rfl;simp[Yd,execOp,ho,hx,Instr.sliceAt,Instr.slice,run_underlying ht,hsz,hb,data_extract]
theorem M9{t e:TypeId}{x:Operand}{lo hi:Option Operand}(ho:o.op=.slice t x lo hi none)(ht:P.underlying t=some (.slice e)){inf:TypeInfo}(hi':P.info? e=some inf)(hiz:inf.size=1){z:D}{L:List D}(hzc:z.cells.length=1)
  (hx:Rd w A (a.eval x) (.slice z L)) {l h:Int} (h0 : 0<=l) (h1:l<=h) (h2:h<=L.length)
  (hlo:(lo.map a.eval=none/\l=0)\/∃k,lo.map a.eval=some (.int k l)) (hhi:(hi.map a.eval=none/\h=L.length)\/∃k,hi.map a.eval=some (.int k h)) :
  ∃v,Yd P o a w v/\Rd w A v (.slice z ((L.take h.toNat).drop l.toNat)):=by
 have hlen:((L.take h.toNat).drop l.toNat).length=h.toNat-l.toNat:=by simp;omega
 have hne:(Instr.sliceAt t (a.eval x) (lo.map a.eval) (hi.map a.eval) none).run P w=(Instr.slice t (a.eval x) (lo.map a.eval) (hi.map a.eval) none).run P w:=by
  simp[Instr.sliceAt,run_underlying ht]
 generalize hv:a.eval x=v at *;cases hx with
 | nil =>
  have hb:=ss (P:=P) (w:=w) true 0 0 (Nat.le_refl _) (lo.map a.eval) (hi.map a.eval) l h h0 h1 (by simpa using h2) hlo (by simpa using hhi);have e1:l=0:=by simp at h2;omega
  have e2:h=0:=by simp at h2;omega
  subst e1;subst e2;refine⟨.slice none 0 0,?_,by simpa using Rd.nil⟩;simp only[Yd,execOp,ho,hv,Sem.run_bind,Option.map_none,hne];simp[Instr.slice,run_underlying ht,hb,sizeOf,typeInfo,hi']
 | @empty _ p cap hm =>
  have hb:=ss (P:=P) (w:=w) true 0 cap (Nat.zero_le _) (lo.map a.eval) (hi.map a.eval) l h h0 h1 (by simpa using h2) hlo (by simpa using hhi);have e1:l=0:=by simp at h2;omega
  have e2:h=0:=by simp at h2;omega
  subst e1;subst e2;refine⟨.slice (some p) 0 cap,?_,by simpa using Rd.empty hm⟩;simp only[Yd,execOp,ho,hv,Sem.run_bind,Option.map_none,hne];have hadd:p.add 0=p:=by unfold Addr.add;simp
  simp[Instr.slice,run_underlying ht,hb,sizeOf,typeInfo,hi',hadd]
 | @slice _ _ b off cap sz hA hc hm hz hzz hsz vs hcells hr =>
  have hs1:sz=1:=by omega
  subst hs1;have hb:=ss (P:=P) (w:=w) true L.length cap hc (lo.map a.eval) (hi.map a.eval) l h h0 h1 h2 hlo hhi;by_cases hml:cap=l.toNat
  ·subst hml
   refine⟨.slice (some ⟨b,off,none⟩) (h.toNat-l.toNat) (l.toNat-l.toNat),?_,?_⟩
   ·simp only[Yd,execOp,ho,hv,Sem.run_bind,Option.map_none,hne]
    simp[Instr.slice,run_underlying ht,hb,sizeOf,typeInfo,hi']
   ·have:(L.take h.toNat).drop l.toNat=[]:=List.eq_nil_of_length_eq_zero (by omega)
    have hr2:Rd w A (.slice (some ⟨b,off,none⟩) ([]:List D).length (l.toNat-l.toNat)) (.slice z []):=Rd.slice hA (by simp) (by omega) hz hzz (by simp) (fun _=>undef) (by simp[cellAt]) (by simp[cellAt]);rw[<-hlen,this];exact hr2
  ·have hml':¬cap=l.toNat:=hml
   refine⟨.slice (some ⟨b,off+l.toNat*inf.size,none⟩) (h.toNat-l.toNat) (cap-l.toNat),?_,?_⟩
   ·simp only[Yd,execOp,ho,hv,Sem.run_bind,Option.map_none,hne]
    have hadd:(⟨b,off,none⟩:Addr).add (l.toNat*inf.size)=⟨b,off+l.toNat*inf.size,none⟩:=by unfold Addr.add;split<;>simp_all
    simp[Instr.slice,run_underlying ht,hb,sizeOf,typeInfo,hi',hml',hadd]
   ·rw[hiz,<-hlen]
    refine Rd.slice hA (by omega) (by omega) hz hzz (fun y hy=>hsz y (List.mem_of_mem_take (List.mem_of_mem_drop hy))) (fun j=>vs (l.toNat*1+j)) (fun j y hy=>?_) (fun j y hy=>?_)
    ·have:=hcells _ _ (xZ hz hy)
     rwa [<-Nat.add_assoc] at this
    ·exact hr _ _ (xZ hz hy)
theorem abI{t e:TypeId}{x:Operand}{hi:Option Operand}(ho:o.op=.slice t x none hi none)(ht:P.underlying t=some (.slice e)){inf:TypeInfo}(hi':P.info? e=some inf)
  {q:Option Addr} {m c:Nat} (hv:a.eval x=.slice q m c) (hmc:m<=c) (hq:q=none->c=0) {h:Int} (h0 : 0<=h) (h1:h<=m)
  (hhi:(hi.map a.eval=none/\h=m)\/∃k,hi.map a.eval=some (.int k h)):Yd P o a w (.slice q h.toNat c):=by
 have hne:(Instr.sliceAt t (.slice q m c) none (hi.map a.eval) none).run P w=(Instr.slice t (.slice q m c) none (hi.map a.eval) none).run P w:=by
  simp[Instr.sliceAt,run_underlying ht]
 have hb:=ss (P:=P) (w:=w) true m c hmc none (hi.map a.eval) 0 h (Int.le_refl _) h0 h1 (.inl ⟨rfl,rfl⟩) hhi;cases q with
 | none =>
  have e1:=hq rfl;subst e1;have e2:m=0:=by omega
  subst e2;have e3:h=0:=by omega
  subst e3;simp only[Yd,execOp,ho,hv,Sem.run_bind,Option.map_none,hne];simp[Instr.slice,run_underlying ht,hb,sizeOf,typeInfo,hi']
 | some p =>
  have hadd:p.add 0=p:=by unfold Addr.add;simp
  by_cases hc0:c=0
  ·subst hc0
   simp only[Yd,execOp,ho,hv,Sem.run_bind,Option.map_none,hne];simp[Instr.slice,run_underlying ht,hb,sizeOf,typeInfo,hi']
  ·simp only[Yd,execOp,ho,hv,Sem.run_bind,Option.map_none,hne]
   simp[Instr.slice,run_underlying ht,hb,sizeOf,typeInfo,hi',hc0,hadd]
end
end Go.D3
namespace Go.D3
open Go
section
variable{op:Op}
theorem wb{x:Operand}(h:wa op=some x):op=.move x\/op=.assign x:=by cases op<;>simp_all[wa]
theorem VT{a b c:Operand}(h:z7 op=some (c,a,b)):op=.pick c a b:=by cases op<;>simp_all[z7]
theorem rn{q:BinOp}{t:TypeId}{x y:Operand}(h:oa op=some (q,t,x,y)):∃u,op=.binOp q t x y u:=by cases op<;>simp_all[oa]
theorem VU{t:TypeId}{x:Operand}(h:z8 op=some (t,x)):op=.range t x:=by cases op<;>simp_all[z8]
theorem VS{x:Operand}(h:z6 op=some x):op=.next x true:=by
 cases op<;>simp[z6] at h;rename_i y b;cases b<;>simp at h;rw[h]
theorem VR{x:Operand}(h:zZ op=some x):∃t,op=.unOp .not t x:=by
 cases op<;>simp[zZ] at h;rename_i q t z;cases q<;>simp at h;exact⟨t,by rw[h]⟩
theorem zL{s t:TypeId}{x:Operand}(h:s9 op=some (s,t,x)):op=.convert s t x:=by cases op<;>simp_all[s9]
theorem oc{b:Builtin}{xs:List Operand}{ts:List TypeId}(h:mD b op=some (xs,ts)):op=.call { callee:=.builtin b,args:=xs.toArray,argTypes:=ts.toArray }:=by
 cases op<;>simp[mD] at h;rename_i c;obtain⟨ce,as,tys⟩:=c;cases ce<;>simp at h;obtain⟨rfl,rfl,rfl⟩:=h;rfl
theorem zK{f:FuncId}{xs:List Operand}(h:pJ op=some (f,xs)):∃ts,op=.call { callee:=.value (.func f),args:=xs.toArray,argTypes:=ts }:=by
 cases op<;>simp[pJ] at h;rename_i c;obtain⟨ce,as,tys⟩:=c;cases ce<;>simp at h;rename_i v;cases v<;>simp at h;obtain⟨rfl,rfl⟩:=h;exact⟨tys,rfl⟩
theorem VJ{t:TypeId}{x y:Operand}(h:zQ op=some (t,x,y)):op=.indexAddr t x y:=by cases op<;>simp_all[zQ]
theorem Il{t:TypeId}{x:Operand}(h:v8 op=some (t,x)):op=.load t x:=by cases op<;>simp_all[v8]
theorem Ip{t:TypeId}{x y:Operand}(h:td op=some (t,x,y)):op=.store t x y:=by cases op<;>simp_all[td]
theorem Ij{t:TypeId}{x:Operand}{f:Nat}(h:zP op=some (t,x,f)):op=.fieldAddr t x f:=by cases op<;>simp_all[zP]
theorem Ik{t:TypeId}{x:Operand}{f:Nat}(h:v7 op=some (t,x,f)):op=.field t x f:=by cases op<;>simp_all[v7]
theorem VG{t:TypeId}{ps:Array (Nat×Operand)}(h:zI op=some (t,ps)):op=.build t ps:=by cases op<;>simp_all[zI]
theorem VK{t:TypeId}{x y:Operand}(h:zR op=some (t,x,y)):op=.index t x y:=by cases op<;>simp_all[zR]
theorem VI{x:Operand}{i:Nat}(h:zO op=some (x,i)):op=.extract x i:=by cases op<;>simp_all[zO]
theorem Im{x:Operand}(h:zY op=some x):op=.nilCheck x:=by cases op<;>simp_all[zY]
theorem zJ{t:TypeId}{x:Operand}(h:vZ op=some (t,x)):op=.box t x:=by cases op<;>simp_all[vZ]
theorem VF{t:TypeId}(h:zH op=some t):op=.alloc t:=by cases op<;>simp_all[zH]
theorem VO{t:TypeId}{x y:Operand}(h:zV op=some (t,x,y)):op=.makeSlice t x y:=by cases op<;>simp_all[zV]
theorem Ii{t:TypeId}{n:Nat}{ps:Array (Nat×Operand)}(h:vY op=some (t,n,ps)):op=.buildSlice t n ps:=by cases op<;>simp_all[vY]
theorem Io{t:TypeId}{x:Operand}{lo hi:Option Operand}(h:wc op=some (t,x,lo,hi)):op=.slice t x lo hi none:=by
 cases op<;>simp[wc] at h;rename_i t' x' a b c;cases c<;>simp at h;obtain⟨rfl,rfl,rfl,rfl⟩:=h;rfl
theorem VM{t:TypeId}{x:Operand}(h:zT op=some (t,x)):op=.makeInterface t x:=by cases op<;>simp_all[zT]
theorem VP{f:FuncId}{a b:Array Operand}(h:zW op=some (f,a,b)):op=.makeFunc (.func f) a b:=by
 cases op<;>simp[zW] at h;rename_i fn x y;cases fn<;>simp at h;obtain⟨rfl,rfl,rfl⟩:=h;rfl
end
theorem wS{P:Program}{t:TypeId}{n:Nat}(h:dy P t n=true):∃i,P.info? t=some i/\i.size=n:=by
 unfold dy at h;cases hi:P.info? t with
 | none=>simp[hi] at h
 | some i=>simp[hi] at h;exact⟨i,rfl,h⟩
theorem jQ{P:Program}{t e:TypeId}(h:iE P t=some e):P.underlying t=some (.slice e):=by
 unfold iE at h;split at h<;>simp_all
theorem eT{x:D}{r:Option PR}{side:Prop}{d:D}(h:g1 x r=some (side,d)):∃s,r=some (s,d)/\side=(x.gate=true/\s):=by
 cases r with
 | none=>cases h
 | some p=>obtain⟨s,d'⟩:=p;simp only[g1,Option.some.injEq,Prod.mk.injEq] at h;obtain⟨h1,rfl⟩:=h;exact⟨s,rfl,h1.symm⟩
theorem nI{x y:D}{r:Option PR}{side:Prop}{d:D}(h:g2 x y r=some (side,d)):∃s,r=some (s,d)/\side=((x.gate=true/\y.gate=true)/\s):=by
 cases r with
 | none=>cases h
 | some p=>obtain⟨s,d'⟩:=p;simp only[g2,Option.some.injEq,Prod.mk.injEq] at h;obtain⟨h1,rfl⟩:=h;exact⟨s,rfl,h1.symm⟩
section
variable{P:Program}{o:Oper}{w:World}{A:Nat->Prop}{ct:Nat->D}{vl:Nat->Value}{a:Act}{ds:List (Option Nat)}{tr:List Nat}{rd:X->D}{ob:Nat->D}
theorem PW{c:D}{p:Path}(h:c.eA p):c.isObj=true:=o8 h.1
theorem sU(hob:∀j,(ct j).isObj=true->ob j=ct j){v:Value}{k:Nat}{p:Path}(h:af w ct vl v (.sub k p)):lk ob k=some (ct k):=by
 have:=PW h.1;unfold lk;rw[hob k this,if_pos this]
theorem zi(hob:∀j,(ct j).isObj=true->ob j=ct j){v:Value}{k:Nat}{p:Path}(h:lQ w ct vl v k p):lk ob k=some (ct k):=by
 have:=o8 h.1;unfold lk;rw[hob k this,if_pos this]
theorem Q1{y:D}{v:Value}{F:Nat->Prop}{n:Nat}(h:aj w A v y F)(hn:y.cm=some n):∃q c,v=.slice q n c/\n<=maxLen/\(0<n->q≠none):=by
 cases y<;>simp[D.cm] at hn<;>try(cases h;done)
 subst hn;obtain⟨p,cap,h1,h2,h3,h4⟩:=tp h;refine⟨p,cap,h1,by omega,fun h0=>?_⟩;obtain⟨_,_,h5⟩:=h4 (List.ne_nil_of_length_pos h0);rw[h5];exact Option.some_ne_none _
theorem Q2{y:D}{v:Value}{n:Nat}(h:Rd w A v y)(hn:y.cm=some n):∃q c,v=.slice q n c/\n<=maxLen/\(0<n->q≠none):=by
 cases y<;>simp[D.cm] at hn<;>try(cases h;done)
 ·subst hn
  obtain⟨p,cap,h1,h2,h3,h4⟩:=Aw h;refine⟨p,cap,h1,by omega,fun h0=>?_⟩;obtain⟨_,_,h5,_⟩:=h4 (List.ne_nil_of_length_pos h0);rw[h5];exact Option.some_ne_none _
 ·subst hn;cases h;exact⟨_,_,rfl,by simp,fun h=>absurd h (Nat.lt_irrefl 0)⟩
theorem G8(hob:∀j,(ct j).isObj=true->ob j=ct j)(hok:∀j,∃F,aI w A (af w ct vl) (vl j) F (ct j)){v:Value}{x:D}(hv:Pl w A (af w ct vl) v x){side:Prop}{d:D}(h:lB ob x=some (side,d)) :
  ∃(n:Nat)(q:Option Addr)(c:Nat),d=.int .i64 n/\v=.slice q n c/\n<=maxLen/\(0<n->q≠none):=by
 unfold lB at h;split at h
 ·rename_i k p
  have hr:=dM hv;rw[sU hob hr,Option.bind_some,Option.bind_eq_some_iff] at h;obtain⟨n,hn,h⟩:=h;simp only[one,Option.some.injEq,Prod.mk.injEq] at h;obtain⟨_,rfl⟩:=h;obtain⟨F,hF⟩:=hok k;rcases mY hF hr with⟨z,l,hc,rfl,hvl⟩ | ⟨F',hown,_⟩
  ·rw[hc] at hn hF
   obtain⟨b,sz,cs,e,h1,h2,h3,h4,_⟩:=hF;simp only[D.bm,D.at,D.un,D.cm,Option.some.injEq] at hn;subst hn;exact⟨_,_,_,rfl,hvl.trans h1,h4,fun _=>Option.some_ne_none _⟩
  ·obtain⟨q,c,h1,h2⟩:=Q1 hown hn
   exact⟨_,_,_,rfl,h1,h2⟩
 ·rename_i hns
  rw[Option.bind_eq_some_iff] at h;obtain⟨n,hn,h⟩:=h;simp only[one,Option.some.injEq,Prod.mk.injEq] at h;obtain⟨_,rfl⟩:=h
  have hne:∀z l,x≠.row z l:=by
   rintro z l rfl;cases hv with
   | rd h=>cases h
   | ref h=>exact h.elim
  have hrd:Rd w A v x:=by
   cases x<;>simp[D.cm] at hn
   ·exact pN hv
   ·exact absurd rfl (hne _ _)
   ·exact bU hv (by simp) (by simp) (by simp) (by simp) (by simp)
  obtain⟨q,c,h1,h2⟩:=Q2 hrd hn;exact⟨_,_,_,rfl,h1,h2⟩
theorem Nt{v:Value}{s:List UInt8}(h:Pl w A (af w ct vl) v (.agg [.str s])):Rd w A v (.agg [.str s]):=by
 cases h with
 | rd h=>exact h
 | ref h=>exact h.elim
 | agg hsz hc =>
  refine .agg hsz fun j y hy=>?_
  have h1:=hc j y hy;cases j with
  | zero =>
   simp at hy;subst hy;exact bU h1 (by simp) (by simp) (by simp) (by simp) (by simp) (by simp)
  | succ j=>simp at hy
theorem WO{z:D}{L:List D}{v:Value}(h:Rd w A v (.slice z L)){n:Nat}(hn:n<L.length):∃b off c,v=.slice (some ⟨b,off,none⟩) L.length c/\Rd w A (.pointer (some ⟨b,off+n*z.cells.length,none⟩)) (.ptr (L.getD n z).cells)/\0<z.cells.length:=by
 have hL:L.getD n z=L[n]:=by rw[List.getD_eq_getElem?_getD,List.getElem?_eq_getElem hn];rfl
 cases h with
 | empty=>simp at hn
 | nil=>simp at hn
 | @slice _ _ b off cap sz hA hc hm hz hzz hsz vs hcells hr =>
  subst hzz;refine⟨b,off,cap,rfl,?_,hz⟩
  have key:∀(j:Nat) x,(L.getD n z).cells[j]?=some x->cellAt L z.cells.length (n*z.cells.length+j)=some x:=by
   intro j x hx;rw[hL] at hx;have hj:=(List.getElem?_eq_some_iff.1 hx).1;rw[hsz _ (List.getElem_mem hn)] at hj;unfold cellAt;have e1:(n*z.cells.length+j) / z.cells.length=n:=by rw[Nat.mul_comm,Nat.mul_add_div hz,Nat.div_eq_of_lt hj];rfl
   have e2:(n*z.cells.length+j) % z.cells.length=j:=by rw[Nat.mul_comm,Nat.mul_add_mod,Nat.mod_eq_of_lt hj]
   rw[e1,e2,List.getElem?_eq_getElem hn];exact hx
  refine .ptr hA (fun j=>vs (n*z.cells.length+j)) (fun j x hx=>?_) (fun j x hx=>hr _ _ (key j x hx));have:=hcells _ _ (key j x hx)
  rwa [<-Nat.add_assoc] at this
theorem G4(hob:∀j,(ct j).isObj=true->ob j=ct j)(hok:∀j,∃F,aI w A (af w ct vl) (vl j) F (ct j)){v:Value}{x:D}(hv:Pl w A (af w ct vl) v x){side:Prop}{d:D}(h:nU ob x=some (side,d)) :
  ∃b off u,v=.pointer (some ⟨b,off,none⟩)/\w.cell? ⟨b,off,none⟩=some u/\Pl w A (af w ct vl) u d:=by
 unfold nU at h;split at h
 ·rename_i y r
  simp only[one,Option.some.injEq,Prod.mk.injEq] at h;obtain⟨_,rfl⟩:=h;obtain⟨b,off,h1,h2,h3⟩:=ru hv;obtain⟨u,h4,h5⟩:=h3 0 y rfl;exact⟨b,off,u,h1,h4,.rd h5⟩
 ·rename_i k p
  have hr:=fG hv;rw[zi hob hr,Option.bind_some] at h;simp only[one,Option.some.injEq,Prod.mk.injEq] at h;obtain⟨_,rfl⟩:=h;obtain⟨h1,ad,h2,h3⟩:=hr;obtain⟨F,hF⟩:=hok k;obtain⟨u,h4,h5,h6⟩:=zj hF h1 (by rintro rfl;simp[aH] at h2) h2;obtain⟨b,off,sp⟩:=ad;simp only at h5;cases sp with
  | some _=>simp at h5
  | none=>exact⟨b,off,u,h3,h4,h6⟩
 ·cases h
theorem sf(hok:∀j,∃F,aI w A (af w ct vl) (vl j) F (ct j)){v:Value}{k:Nat}{p:Path}(hr:lQ w ct vl v k p):∃b off,v=.pointer (some ⟨b,off,none⟩)/\p≠[]/\aH w (vl k) (ct k) p=some ⟨b,off,none⟩:=by
 obtain⟨h1,ad,h2,h3⟩:=hr;have hne:p≠[]:=by rintro rfl;simp[aH] at h2
 obtain⟨F,hF⟩:=hok k;obtain⟨u,h4,h5,h6⟩:=zj hF h1 hne h2;obtain⟨b,off,sp⟩:=ad;simp only at h5;cases sp with
 | some _=>simp at h5
 | none=>exact⟨b,off,h3,hne,h2⟩
theorem EI{p:Path}(n:Nat)(h:p≠[]):bump p n≠[]:=by
 match p with
 | []=>exact absurd rfl h
 | [_]=>simp[bump]
 | _::_::_=>simp[bump]
theorem QG{v:Value}{x:D}{i off n:Nat}{b o':Nat}(h:dK v x i off=some ⟨b,o',none⟩):dK v x i (off+n)=some ⟨b,o'+n,none⟩:=by
 unfold dK at *;cases hx:x.un<;>rw[hx] at h<;>simp only[dY] at h|-<;>try(cases h;done)
 all_goals
  split at h
  ·rename_i ad _ _
   simp only[Option.some.injEq,Addr.mk.injEq] at h|-
   obtain⟨h1,h2,h3⟩:=h;exact⟨h1,by omega,h3⟩
  ·cases h
theorem qm{n:Nat}:∀(p:Path){v:Value}{x:D}{b o':Nat},aH w v x p=some ⟨b,o',none⟩->aH w v x (bump p n)=some ⟨b,o'+n,none⟩
 | [],_,_,_,_,h=>by simp[aH] at h
 | [(i,off)],v,x,b,o',h=>QG h
 | (i,off)::t::p,v,x,b,o',h=>by
  simp only[aH,Option.bind_eq_some_iff] at h;obtain⟨u,h1,h2⟩:=h;have:=qm (n:=n) (t::p) h2;obtain⟨i',off'⟩:=t;cases p<;>simp only[bump,aH,h1,Option.bind_some] at this|-<;>exact this
theorem Hj(k:Nat)(c:D)(p:Path):∀(n j m:Nat),(looks k c p n j)[m]?=if m<n then some (px k c (bump p (j+m))) else none
 | 0,j,m=>by simp[looks]
 | n+1,j,0=>by simp[looks]
 | n+1,j,m+1=>by
  simp only[looks,List.getElem?_cons_succ,Hj k c p n (j+1) m,Nat.add_lt_add_iff_right];rw[show j+1+m=j+(m+1) by omega]
theorem Hk(k:Nat)(c:D)(p:Path):∀(n j:Nat),(looks k c p n j).length=n
 | 0,_=>rfl
 | n+1,j=>by simp[looks,Hk k c p n]
theorem Gv{c:D}{p:Path}:∀{n j:Nat},sK c p n j->∀m,m<n->c.aZ (bump p (j+m))
 | 0,_,_,m,hm=>by omega
 | n+1,j,h,0,_=>h.1
 | n+1,j,h,m+1,hm=>by
  have:=Gv h.2 m (by omega)
  rwa [show j+1+m=j+(m+1) by omega] at this
theorem G5(hob:∀j,(ct j).isObj=true->ob j=ct j)(hok:∀j,∃F,aI w A (af w ct vl) (vl j) F (ct j)){n:Nat}{v:Value}{x:D}(hv:Pl w A (af w ct vl) v x){side:Prop}{d:D}(h:nV n ob x=some (side,d))(hs:side) :
  ∃(b off:Nat)(cs:List Value),v=.pointer (some ⟨b,off,none⟩)/\cs.length=n/\(∀j u,cs[j]?=some u->w.cell? ⟨b,off+j,none⟩=some u)/\Pl w A (af w ct vl) (.agg cs.toArray) d:=by
 have fin:∀(b off:Nat)(l:List D)(us:Nat->Value),l.length=n->(∀j x,l[j]?=some x->w.cell? ⟨b,off+j,none⟩=some (us j)/\Pl w A (af w ct vl) (us j) x)->v=.pointer (some ⟨b,off,none⟩) ->
   ∃(b off:Nat)(cs:List Value),v=.pointer (some ⟨b,off,none⟩)/\cs.length=n/\(∀j u,cs[j]?=some u->w.cell? ⟨b,off+j,none⟩=some u)/\Pl w A (af w ct vl) (.agg cs.toArray) (.agg l):=by
  intro b off l us hl hc hv;refine⟨b,off,(List.range n).map us,hv,by simp,fun j u hj=>?_,.agg (by simp[hl]) fun j x hx=>?_⟩
  ·rw[List.getElem?_map,Option.map_eq_some_iff] at hj
   obtain⟨m,hm,rfl⟩:=hj;obtain⟨h1,h2⟩:=List.getElem?_eq_some_iff.1 hm;simp at h1 h2;subst h2;exact(hc j l[j] (List.getElem?_eq_getElem (by omega))).1
  ·have hj:=(List.getElem?_eq_some_iff.1 hx).1
   have:((List.range n).map us).toArray.getD j undef=us j:=by simp[show j<n by omega]
   rw[this];exact(hc j x hx).2
 unfold nV at h;split at h
 ·rename_i l
  simp only[Option.some.injEq,Prod.mk.injEq] at h;obtain⟨h0,rfl⟩:=h;rw[<-h0] at hs;obtain⟨b,off,h1,h2,h3⟩:=ru hv
  have hch:∀j,∃u,∀x,l[j]?=some x->w.cell? ⟨b,off+j,none⟩=some u/\Rd w A u x:=by
   intro j;cases hj:l[j]? with
   | none=>exact⟨undef,by simp⟩
   | some x=>obtain⟨u,h4,h5⟩:=h3 j x hj;exact⟨u,fun y hy=>by injection hy with hy;subst hy;exact⟨h4,h5⟩⟩
  refine fin b off (l.take n) (fun j=>Classical.choose (hch j)) (by simp;omega) (fun j x hx=>?_) h1;rw[List.getElem?_take] at hx;split at hx
  ·obtain⟨h4,h5⟩:=Classical.choose_spec (hch j) x hx
   exact⟨h4,.rd h5⟩
  ·cases hx
 ·rename_i k p
  have hr:=fG hv;rw[zi hob hr,Option.bind_some] at h;simp only[Option.some.injEq,Prod.mk.injEq] at h;obtain⟨h0,rfl⟩:=h;rw[<-h0] at hs;obtain⟨b,off,h1,hne,h2⟩:=sf hok hr;obtain⟨F,hF⟩:=hok k
  have hch:∀j,∃u,j<n->w.cell? ⟨b,off+j,none⟩=some u/\Pl w A (af w ct vl) u (px k (ct k) (bump p j)):=by
   intro j;by_cases hj:j<n
   ·have h3:=Gv hs j hj
    rw[Nat.zero_add] at h3;obtain⟨u,h4,_,h6⟩:=zj hF h3 (EI _ hne) (qm p h2);exact⟨u,fun _=>⟨h4,h6⟩⟩
   ·exact⟨undef,fun h=>absurd h hj⟩
  refine fin b off _ (fun j=>Classical.choose (hch j)) (Hk _ _ _ _ _) (fun j x hx=>?_) h1;rw[Hj] at hx;split at hx
  ·rename_i hj
   injection hx with hx
   rw[Nat.zero_add] at hx;subst hx;exact Classical.choose_spec (hch j) hj
  ·cases hx
 ·cases h
end
end Go.D3
namespace Go.D3
open Go
def kindOk(d:TypeDesc)(k:D):Prop :=
 match d,k with
 | .int _,.int _ _=>True
 | .bool,.bool _=>True
 | .string,.str _=>True
 | _,_=>False
theorem GW{P:Program}{t:TypeId}{kk:Nat}{k:D}(ht:lA P t kk=true)(hk:k.kz kk=true):∃d,P.underlying t=some d/\kindOk d k:=by
 unfold lA at ht;split at ht<;>try(cases ht;done)
 all_goals
  rename_i hu;cases k<;>simp only[D.kz,Bool.false_eq_true] at hk<;>try(simp at hk;done)
  exact⟨_,hu,trivial⟩
theorem Zq{d:TypeDesc}{kv ev:Value}{k x:D}{b:Bool}(hd:kindOk d k)(hk:Sc kv k)(hx:Sc ev x)(h:mh k x=some b):Instr.sameNow d kv ev=some b/\(b=true->ev=kv/\x=k):=by
 unfold mh at h;split at h
 ·split at h
  ·rename_i hkk
   subst hkk;injection h with h
   cases hk;cases hx;cases d<;>try exact hd.elim
   subst h;refine⟨by simp[Instr.sameNow],fun hb=>?_⟩;have:=eq_of_beq hb;subst this;exact⟨rfl,rfl⟩
  ·cases h
 ·injection h with h
  cases hk;cases hx;cases d<;>try exact hd.elim
  rename_i a b' _ _;subst h;refine⟨?_,fun hb=>?_⟩
  ·simp only[Instr.sameNow,Option.some.injEq]
   rw[Bool.eq_iff_iff,MapKept.bytes_beq,beq_iff_eq];simp
  ·have:=eq_of_beq hb
   subst this;exact⟨rfl,rfl⟩
 ·injection h with h
  cases hk;cases hx;cases d<;>try exact hd.elim
  subst h;refine⟨rfl,fun hb=>?_⟩;have:=eq_of_beq hb;subst this;exact⟨rfl,rfl⟩
 ·cases h
theorem yG{d:TypeDesc}{kv:Value}{k:D}(hd:kindOk d k)(hk:Sc kv k):∀(l:List MapEntry)(ks:List D)(n:Nat){r:Option Nat},l.length=ks.length ->
  (∀(j:Nat)(e:MapEntry)(x:D),l[j]?=some e->ks[j]?=some x->Sc e.key x)->fQ k ks=some r ->
  Instr.findNow d kv l n=some (r.map fun i=>(n+i,((l[i]?).map (·.val)).getD undef))/\∀i,r=some i->∃e,l[i]?=some e/\e.key=kv/\ks[i]?=some k
 | [],[],n,r,_,_,h=>by
  simp only[fQ,Option.some.injEq] at h;subst h;exact⟨rfl,fun i hi=>by cases hi⟩
 | [],_::_,_,_,h,_,_=>by simp at h
 | _::_,[],_,_,h,_,_=>by simp at h
 | e::l,x::ks,n,r,hl,hs,h=>by
  simp only[fQ,Option.bind_eq_some_iff] at h;obtain⟨b,hb,h⟩:=h;obtain⟨h1,h2⟩:=Zq hd hk (hs 0 e x rfl rfl) hb;cases b with
  | true =>
   simp only[if_true,Option.some.injEq] at h;subst h;obtain⟨h3,h4⟩:=h2 rfl;refine⟨by simp[Instr.findNow,h1],fun i hi=>?_⟩;injection hi with hi
   subst hi;exact⟨e,rfl,h3,by rw[h4];rfl⟩
  | false =>
   simp only[Bool.false_eq_true,if_false,Option.bind_eq_some_iff] at h;obtain⟨r',hr',h⟩:=h;injection h with h
   subst h;obtain⟨i1,i2⟩:=yG hd hk l ks (n+1) (by simpa using hl) (fun j e x hj hx=>hs (j+1) e x (by simpa using hj) (by simpa using hx)) hr';refine⟨?_,fun i hi=>?_⟩
   ·simp only[Instr.findNow,h1,i1]
    cases r' with
    | none=>rfl
    | some i=>simp only[Option.map_some,List.getElem?_cons_succ];rw[show n+1+i=n+(i+1) by omega]
   ·cases r' with
    | none=>cases hi
    | some j =>
     simp only[Option.map_some,Option.some.injEq] at hi;subst hi;obtain⟨e',e1,e2,e3⟩:=i2 j rfl;exact⟨e',by simpa using e1,e2,by simpa using e3⟩
theorem sx{P:Program}{w:World}{kt:TypeId}{d:TypeDesc}{k:D}{kv:Value}(hu:P.underlying kt=some d)(hd:kindOk d k)(hk:Sc kv k)(e:Bool)(n:Nat):(Instr.checkKey e (n+1) kt kv).run P w=.ok () w:=by
 unfold Instr.checkKey;simp only[Sem.run_bind,run_underlying hu,Result.andThen];cases d<;>cases k<;>first | exact hd.elim | (cases hk;simp)
theorem Sc.rd{w:World}{A:Nat->Prop}{v:Value}{d:D}(h:Sc v d):Rd w A v d:=by
 induction h with
 | int h=>exact .int h
 | bool=>exact .bool
 | str h=>exact .str h
 | agg hs _ ih=>exact .agg hs ih
theorem A5{w:World}{A:Nat->Prop}{v:Value}{d:D}(h:Rd w A v d)(hd:d.b8=true):Sc v d:=by
 cases h<;>first | cases hd | skip
 ·exact .int ‹_›
 ·exact .bool
 ·exact .str ‹_›
theorem GP{kk:Nat}{d:D}(h:d.kz kk=true):d.b8=true:=by cases d<;>first | rfl | (simp[D.kz] at h)
section
variable{P:Program}{o:Oper}{w:World}{A:Nat->Prop}{ct:Nat->D}{vl:Nat->Value}{a:Act}{ob:Nat->D}
theorem Hw(hob:∀j,(ct j).isObj=true->ob j=ct j)(hok:∀j,∃F,aI w A (af w ct vl) (vl j) F (ct j)){v:Value}{x:D}(h:Pl w A (af w ct vl) v x){e:List D×List D}(hm:mapOf ob x=some e) :
  (v=.map none/\e=([],[]))\/∃r es clock,v=.map (some r)/\w.heap[r]?=some (.map es clock)/\oO es e.1 e.2:=by
 unfold mapOf at hm;split at hm
 ·rename_i k p
  have hr:=dM h;rw[sU hob hr,Option.bind_some] at hm;obtain⟨F,hF⟩:=hok k;rcases mY hF hr with⟨z,l,hck,rfl,_⟩ | ⟨F',hown,_,_,_⟩
  ·rw[hck] at hm;cases hm
  ·generalize(ct k).bm p=y at hm hown
   cases hown<;>simp only[D.kE,reduceCtorEq,Option.some.injEq] at hm;subst hm;exact .inr ⟨_,_,_,rfl,‹_›,‹_›⟩
 ·rename_i hno
  have hrd:=bU h (fun k p hh=>hno k p hh) (by rintro k p rfl;cases hm) (by rintro f c rfl;cases hm) (by rintro l rfl;cases hm) (by rintro l rfl;cases hm) (by rintro k p n rfl;cases hm);cases hrd<;>simp only[D.rh,reduceCtorEq,Option.some.injEq] at hm
  ·subst hm;exact .inr ⟨_,_,_,rfl,‹_›,‹_›⟩
  ·subst hm;exact .inl ⟨rfl,rfl⟩
theorem J1{t:TypeId}{i:TypeInfo}{z:Value}(h:P.info? t=some i)(hz:i.zero=some z):(zeroValue t).run P w=.ok z w:=by
 simp[zeroValue,typeInfo,h,hz]
theorem Q8{t kt et:TypeId}{d:TypeDesc}{kv m zv:Value}{k:D}{e:List D×List D}{r:Option Nat}{i:TypeInfo}(ok:Bool)(hm:P.underlying t=some (.map kt et))(hu:P.underlying kt=some d)(hd:kindOk d k)(hk:Sc kv k)
  (hv:(m=.map none/\e=([],[]))\/∃r es clock,m=.map (some r)/\w.heap[r]?=some (.map es clock)/\oO es e.1 e.2) (hf:fQ k e.1=some r) (hi:P.info? et=some i) (hz:i.zero=some zv) {z:D} (hzz:Sc zv z) :
  ∃u,(Instr.lookup t m kv ok).run P w=.ok (if ok then .tuple #[u,.bool r.isSome] else u) w/\Sc u (jK z e.2 r):=by
 rcases hv with⟨rfl,rfl⟩ | ⟨b,es,clock,rfl,hb,hE⟩
 ·simp only[fQ,Option.some.injEq] at hf
  subst hf;refine⟨zv,?_,hzz⟩;unfold Instr.lookup;simp only[Sem.run_bind,run_underlying hm,Result.andThen_ok,Sem.run_pure,sx hu hd hk,MapKept.run_findKey hu (show Instr.findNow d kv (#[]:Array MapEntry).toList 0=some none from rfl),J1 hi hz];cases ok<;>rfl
 ·obtain⟨⟨l1,l2,l3⟩,s1,s2⟩:=hE
  obtain⟨f1,f2⟩:=yG hd hk es.toList e.1 0 (by simpa using l1) (fun j x y hj hy=>s1 j x y (by simpa using hj) hy) hf;cases r with
  | none =>
   refine⟨zv,?_,hzz⟩;unfold Instr.lookup;simp only[Sem.run_bind,run_underlying hm,Result.andThen_ok,Sem.run_pure,MapKept.run_getObj_map hb,sx hu hd hk,MapKept.run_findKey hu f1,J1 hi hz,Option.map_none];cases ok<;>rfl
  | some j =>
   obtain⟨x,x1,x2,x3⟩:=f2 j rfl;have hj:j<e.2.length:=by have:=(List.getElem?_eq_some_iff.1 x1).1;simp at this;omega
   refine⟨x.val,?_,?_⟩
   ·unfold Instr.lookup
    simp only[Sem.run_bind,run_underlying hm,Result.andThen_ok,Sem.run_pure,MapKept.run_getObj_map hb,sx hu hd hk,MapKept.run_findKey hu f1,Option.map_some,x1,Option.getD_some];cases ok<;>rfl
   ·have:jK z e.2 (some j)=e.2[j]:=by simp[jK,hj]
    rw[this];exact s2 j x _ (by simpa using x1) (List.getElem?_eq_getElem hj)
theorem S5{o:Oper}{a:Act}{neg:Bool}{v:Value}{d:D}(h:Pl w A (af w ct vl) v d){side:Prop}{s:D}(hn:rk neg d=some (side,s)){t:TypeId}{ms:Array (String×TypeId)}(hu:P.underlying t=some (.interface ms)){x:Operand}{u:TypeId}(ho:o.op=.binOp (if neg then .neq else .eql) t x (.const .nilIface) u)(hx:a.eval x=v) :
  ∃b,s=.bool b/\(execOp a.eval o).run P w=.ok (.value (.bool b)) w:=by
 have hcn:a.eval (.const .nilIface)=.nilIface:=rfl;unfold rk at hn;split at hn
 ·simp only[Option.some.injEq,Prod.mk.injEq] at hn
  obtain⟨_,rfl⟩:=hn;have:=bU h (by simp) (by simp) (by simp) (by simp) (by simp) (by simp);cases this;have e:∀n:Nat,(Op.equalIn (n+1) t .nilIface .nilIface).run P w=.ok true w:=fun n=>by simp[Op.equalIn,run_underlying hu]
  refine⟨_,rfl,?_⟩;cases neg<;>simp[execOp,ho,hx,hcn,eqGuard,binOp,Op.equal,Op.maxDepth,e 9999]
 ·rename_i t' y
  simp only[Option.some.injEq,Prod.mk.injEq] at hn;obtain⟨_,rfl⟩:=hn;have:=bU h (by simp) (by simp) (by simp) (by simp) (by simp) (by simp);cases this;have e:∀n:Nat,∀v,(Op.equalIn (n+1) t (.iface t' v) .nilIface).run P w=.ok false w:=fun n v=>by simp[Op.equalIn,run_underlying hu]
  refine⟨_,rfl,?_⟩;cases neg<;>simp[execOp,ho,hx,hcn,eqGuard,binOp,Op.equal,Op.maxDepth,e 9999]
 ·cases hn
theorem VN{op:Op}{t:TypeId}(h:zU op=some t):op=.makeMap t none:=by
 cases op<;>simp[zU] at h;rename_i t' r;cases r<;>simp at h;rw[h]
theorem VL{op:Op}{t:TypeId}{x i:Operand}{ok:Bool}(h:zS op=some (t,x,i,ok)):op=.lookup t x i ok:=by cases op<;>simp_all[zS]
theorem VQ{op:Op}{t:TypeId}{m k v:Operand}(h:zX op=some (t,m,k,v)):op=.mapUpdate t m k v:=by cases op<;>simp_all[zX]
theorem vH{t k e:TypeId}(h:rb P t=some (k,e)):P.underlying t=some (.map k e):=by
 unfold rb at h;split at h
 ·rename_i hu
  injection h with h;injection h with h1 h2
  subst h1;subst h2;exact hu
 ·cases h
theorem abN{t:TypeId}{d:D}(h:zeroV P t d=true):∃i z,P.info? t=some i/\i.zero=some z/\Sc z d:=by
 unfold zeroV at h;split at h
 ·rename_i i hi
  split at h
  ·rename_i z hz
   simp only[Bool.and_eq_true] at h;exact⟨i,z,hi,hz,A5 (xh (w:=default) (A:=fun _=>False) h.1) h.2⟩
  ·cases h
 ·cases h
theorem Ox{w:World}{A:Nat->Prop}{vs:Nat->Value}:∀{l:List D}{s:List UInt8},bytesOf l=some s->(∀j x,l[j]?=some x->Rd w A (vs j) x) ->
  ∃ns:List Int,ns.length=l.length/\(∀j n,ns[j]?=some n->vs j=.int .u8 n)/\s=ns.map fun n=>UInt8.ofNat n.toNat:=by
 intro l;induction l generalizing vs with
 | nil=>intro s h _;simp only[bytesOf,Option.some.injEq] at h;subst h;exact⟨[],rfl,by simp,rfl⟩
 | cons x r ih =>
  intro s h hr;unfold bytesOf at h;split at h
  ·rename_i h0;cases h0
  ·rename_i n r' h0
   injection h0 with h1 h2
   subst h1;subst h2;rw[Option.bind_eq_some_iff] at h;obtain⟨s',hs',h⟩:=h;injection h with h
   subst h;obtain⟨ns,n1,n2,n3⟩:=ih (vs:=fun j=>vs (j+1)) hs' (fun j y hj=>hr (j+1) y (by simpa using hj));refine⟨n::ns,by simp[n1],fun j m hj=>?_,by rw[n3];rfl⟩;cases j with
   | zero =>
    simp at hj;subst hj;have:=hr 0 _ rfl;generalize vs 0=u at this|-
    cases this;rfl
   | succ j=>exact n2 j m (by simpa using hj)
  ·cases h
theorem foldl_push(ns:List Int):∀(s:ByteArray),ns.foldl (fun r n=>r.push (UInt8.ofNat n.toNat)) s=⟨s.data++(ns.map fun n=>UInt8.ofNat n.toNat).toArray⟩:=by
 induction ns with
 | nil=>intro s;simp
 | cons n ns ih =>
  intro s;rw[List.foldl_cons,ih];have:(s.push (UInt8.ofNat n.toNat)).data=s.data.push (UInt8.ofNat n.toNat):=rfl;rw[this];congr 1;apply Array.ext';simp
theorem EN:∀{L:List D}{l:List UInt8},bytesOf L=some l->∀x∈L,x.cells=[x]
 | [],_,_,x,hx=>by cases hx
 | y::r,l,hl,x,hx=>by
  unfold bytesOf at hl;split at hl
  ·rename_i h0;cases h0
  ·rename_i n r' h0
   injection h0 with h1 h2
   subst h1;subst h2;rw[Option.bind_eq_some_iff] at hl;obtain⟨s',hs',_⟩:=hl;rcases List.mem_cons.1 hx with rfl | hx
   ·rfl
   ·exact EN hs' x hx
  ·cases hl
theorem Ov{sz j:Nat}{x:D}:∀{L:List D}{l:List UInt8},bytesOf L=some l->cellAt L sz j=some x->∃n,x=.int .u8 n:=by
 intro L l hl hx
 have go:∀{L:List D}{l:List UInt8},bytesOf L=some l->∀d∈L,∃n,d=.int .u8 n:=by
  intro L;induction L with
  | nil=>intro _ _ d hd;cases hd
  | cons y r ih =>
   intro l hl d hd;unfold bytesOf at hl;split at hl
   ·rename_i h0;cases h0
   ·rename_i n r' h0
    injection h0 with h1 h2
    subst h1;subst h2;rw[Option.bind_eq_some_iff] at hl;obtain⟨s',hs',_⟩:=hl;rcases List.mem_cons.1 hd with rfl | hd
    ·exact⟨n,rfl⟩
    ·exact ih hs' d hd
   ·cases hl
 unfold cellAt at hx;rw[Option.bind_eq_some_iff] at hx;obtain⟨d,h1,h2⟩:=hx;obtain⟨n,rfl⟩:=go hl d (List.mem_of_getElem? h1);have:=List.mem_of_getElem? h2;simp only[D.cells,List.mem_singleton] at this;exact⟨n,this⟩
theorem Pd(hob:∀j,(ct j).isObj=true->ob j=ct j)(hok:∀j,∃F,aI w A (af w ct vl) (vl j) F (ct j)){v:Value}{x:D}(h:Pl w A (af w ct vl) v x){side:Prop}{res:D}(hc:qI ob x=some (side,res))
  {s t e:TypeId} (hs:P.underlying s=some (.slice e)) (he:P.underlying e=some (.int .u8)) (ht:P.underlying t=some .string) :
  ∃l:List UInt8,res=.str l/\l.length<=maxLen/\(convert s t v).run P w=.ok (.string ⟨l.toArray⟩) w:=by
 have nilc:∀l:List UInt8,v=.slice none 0 0->l=[]->(convert s t v).run P w=.ok (.string ⟨l.toArray⟩) w:=by
  rintro l rfl rfl;rw[run_convert_bytes_string w s t e none 0 0 hs he ht];simp[Conv.bytesToString];rfl
 have key:∀{d:D}{l:List UInt8},d.lY=some l->Rd w (fun _=>True) v d->l.length<=maxLen/\(convert s t v).run P w=.ok (.string ⟨l.toArray⟩) w:=by
  intro d l hl hr;cases hr<;>simp only[D.lY,reduceCtorEq] at hl
  ·simp only[bytesOf,Option.some.injEq] at hl;subst hl
   exact⟨Nat.zero_le _,nilc _ rfl rfl⟩
  ·simp only[bytesOf,Option.some.injEq] at hl;subst hl
   refine⟨Nat.zero_le _,?_⟩;rw[run_convert_bytes_string w s t e _ _ _ hs he ht,run_bytesToString w _ 0 _ [] (by simpa using run_loadCells_list (P:=P) w _ [] (fun j v hj=>by simp at hj))];rfl
  ·rename_i z L b off cap sz hA hc hm hz hzz hsz vs hcells hr'
   have h1:∀x∈L,x.cells=[x]:=EN hl
   have hcell:∀j,cellAt L 1 j=L[j]?:=fun j=>by
    unfold cellAt;rw[Nat.div_one,Nat.mod_one];cases hq:L[j]? with
    | none=>rfl
    | some d=>simp[h1 d (List.mem_of_getElem? hq)]
   by_cases hL0:L=[]
   ·subst hL0
    simp only[bytesOf,Option.some.injEq] at hl;subst hl;refine⟨Nat.zero_le _,?_⟩;rw[run_convert_bytes_string w s t e _ _ _ hs he ht,List.length_nil,run_bytesToString w _ 0 _ [] (by simpa using run_loadCells_list (P:=P) w _ [] (fun j v hj=>by simp at hj))];rfl
   have hs1:sz=1:=by
    obtain⟨x,hx⟩:=List.exists_mem_of_ne_nil L hL0;have:=hsz x hx;rw[h1 x hx] at this;exact this.symm
   subst hs1;obtain⟨ns,n1,n2,n3⟩:=Ox hl (fun j x hx=>hr' j x (by rw[hcell];exact hx));have hll:l.length=L.length:=by rw[n3,List.length_map,n1]
   refine⟨by omega,?_⟩;rw[run_convert_bytes_string w s t e _ _ _ hs he ht,run_bytesToString w _ L.length _ ns,foldl_push,<-n3]
   ·simp
   ·have:=run_loadCells_list (P:=P) w ⟨b,off,none⟩ (ns.map (Value.int .u8)) (fun j v hj=>by
     rw[List.getElem?_map,Option.map_eq_some_iff] at hj;obtain⟨n,hn,rfl⟩:=hj;have hj':=(List.getElem?_eq_some_iff.1 hn).1;rw[Addr.add_lit,<-n2 j n hn]
     exact hcells j L[j] (by rw[hcell];exact List.getElem?_eq_getElem (by omega)))
    rw[List.length_map,n1] at this;exact this
  ·injection hl with hl
   subst hl;exact⟨Nat.zero_le _,nilc _ rfl rfl⟩
 unfold qI at hc;split at hc
 ·rename_i k p
  have hr:=dM h;rw[sU hob hr,Option.bind_some,Option.bind_eq_some_iff] at hc;obtain⟨l,hl,hc⟩:=hc;simp only[one,Option.some.injEq,Prod.mk.injEq] at hc;obtain⟨_,rfl⟩:=hc;obtain⟨F,hF⟩:=hok k;rcases mY hF hr with⟨z,l',hck,rfl,hvk⟩ | ⟨F',hown,_,_,_⟩
  ·rw[hck] at hl hF
   have hl:bytesOf l'=some l:=hl;obtain⟨b,sz,cs,e,h1,h2,h3,h4,h5,h6,h7,h8,h9⟩:=hF;refine⟨l,rfl,key (d:=.slice z l') hl ?_⟩;rw[hvk,h1];refine .slice trivial (Nat.le_refl _) h4 h5 h6 h7 (fun j=>cs.getD j undef) (fun j x hj=>?_) (fun j x hj=>?_)
   ·rw[Nat.zero_add]
    exact dU h2 (by have:=l4 h5 hj;omega)
   ·have hx:=(h8 j x hj).1
    obtain⟨n,rfl⟩:=Ov hl hj;exact(ek hx).1▸.int (ek hx).2
  ·exact⟨l,rfl,key hl (hown.rd (fun _ _=>trivial) fun _ _=>trivial)⟩
 ·rename_i hno
  rw[Option.bind_eq_some_iff] at hc;obtain⟨l,hl,hc⟩:=hc;simp only[one,Option.some.injEq,Prod.mk.injEq] at hc;obtain⟨_,rfl⟩:=hc;have hrd:=bU h (fun k p hh=>hno k p hh) (by rintro k p rfl;cases hl) (by rintro f c rfl;cases hl) (by rintro l rfl;cases hl) (by rintro l rfl;cases hl) (by rintro k p n rfl;cases hl);exact⟨l,rfl,key hl (hrd.mono (fun _ _=>trivial) fun _ _=>rfl)⟩
end
end Go.D3
namespace Go.D3
open Go
section
variable{P:Program}{o:Oper}{w:World}{A:Nat->Prop}{ct:Nat->D}{vl:Nat->Value}{a:Act}{ds:List (Option Nat)}{tr:List Nat}{rd:X->D}{ob:Nat->D}
theorem IA{v:Value}{y:D}{F:Nat->Prop}(h:aj w A v y F):(∀z l,y≠.row z l)/\∀z,y≠.aB z:=by
 cases h<;>exact⟨by simp,by simp⟩
theorem Wn{v:Value}{z:D}{l:List D}(h:Pl w A (af w ct vl) v (.row z l)):False:=by
 cases h with
 | rd h=>cases h
 | ref h=>exact h.elim
theorem IH{k:Kp}{side:Prop}{res:D}(hp:bC k rd ob=some (side,res))(hk:aW P ds tr o k=true)
  (hx:∀y,y∈k.xs->∀x,aJ ds tr x y=true->cd w A (af w ct vl) (a.eval x) (rd y))
  (hob:∀j,(ct j).isObj=true->ob j=ct j) (hok:∀j,∃F,aI w A (af w ct vl) (vl j) F (ct j)) (hs:side):∃v,Yd P o a w v/\Pl w A (af w ct vl) v res:=by
 cases k<;>try(simp[bC] at hp;done)
 case mv y =>
  simp only[aW] at hk;split at hk<;>try(cases hk;done)
  rename_i x' hop;have hp:g1 (rd y) (one (rd y).core)=some (side,res):=hp;obtain⟨s,h1,rfl⟩:=eT hp;simp only[one,Option.some.injEq,Prod.mk.injEq] at h1;obtain⟨_,rfl⟩:=h1;exact⟨_,xf (wb hop),(hx y (by simp[Kp.xs]) x' hk).1 hs.1⟩
 case pick c x y =>
  simp only[aW] at hk;split at hk<;>try(cases hk;done)
  rename_i c' a' b' hop;have ho:=VT hop;simp only[Bool.and_eq_true] at hk;have hc:=hx c (by simp[Kp.xs]) c' hk.1.1;have hx':=hx x (by simp[Kp.xs]) a' hk.1.2;have hy':=hx y (by simp[Kp.xs]) b' hk.2;simp only[bC] at hp;generalize hcc:(rd c).core=cc at hp;generalize hxx:(rd x).core=xx at hp;generalize hyy:(rd y).core=yy at hp;unfold wq at hp;split at hp
  ·rename_i cb p q
   simp only[Option.some.injEq,Prod.mk.injEq] at hp;obtain⟨rfl,rfl⟩:=hp;obtain⟨h1,h2,h3⟩:=hs;have hc:=hc.1 h1;rw[hcc] at hc;refine⟨_,abG (cb:=cb) (p:=p) (q:=q) ho (pl_bool hc) (fun hb=>?_) (fun hb=>?_),.rd .bool⟩
   ·have:=hx'.1 (h2 hb);rw[hxx] at this;exact pl_bool this
   ·have:=hy'.1 (h3 hb);rw[hyy] at this;exact pl_bool this
  ·cases hp
 case bin op x y =>
  simp only[aW] at hk;split at hk<;>try(cases hk;done)
  rename_i op' t x' y' hop;obtain⟨u,ho⟩:=rn hop;simp only[Bool.and_eq_true,decide_eq_true_eq] at hk;obtain⟨⟨rfl,hk1⟩,hk2⟩:=hk;obtain⟨s,h1,rfl⟩:=nI hp;obtain⟨⟨g1,g2⟩,hs⟩:=hs;have hx':=(hx x (by simp[Kp.xs]) x' hk1).1 g1;have hy':=(hx y (by simp[Kp.xs]) y' hk2).1 g2;generalize(rd x).core=xx at h1 hx';generalize(rd y).core=yy at h1 hy';unfold sn at h1;split at h1
  ·split at h1
   ·rename_i hkk
    subst hkk;obtain⟨e1,e2⟩:=ek hx';obtain⟨e3,e4⟩:=ek hy';obtain⟨v,hv,hrun⟩:=Qc (w:=w) (P:=P) (o:=o) (a:=a) e2 h1 hs;exact⟨v,hrun ho e1 e3,.rd (hv.mono (fun _ h=>h.elim) fun _ h=>h.elim)⟩
   ·cases h1
  ·obtain⟨v,hv,hrun⟩:=aav (w:=w) (P:=P) (o:=o) (a:=a) h1 hs
   exact⟨v,hrun ho (gI hx').1 (gI hy').1,.rd (hv.mono (fun _ h=>h.elim) fun _ h=>h.elim)⟩
  ·cases h1
 case mm mx x y =>
  simp only[aW] at hk;split at hk<;>try(cases hk;done)
  rename_i x' y' ts hop;have ho:=oc hop;simp only[Bool.and_eq_true] at hk;obtain⟨hk1,hk2⟩:=hk;obtain⟨s,h1,rfl⟩:=nI hp;obtain⟨⟨g1,g2⟩,hs⟩:=hs;have hx':=(hx x (by simp[Kp.xs]) x' hk1).1 g1;have hy':=(hx y (by simp[Kp.xs]) y' hk2).1 g2;generalize(rd x).core=xx at h1 hx';generalize(rd y).core=yy at h1 hy';unfold vL at h1;split at h1
  ·split at h1
   ·rename_i hkk
    injection h1 with h1
    injection h1 with h1 h1'
    subst h1';subst hkk;obtain⟨e1,e2⟩:=ek hx';obtain⟨e3,e4⟩:=ek hy';exact⟨_,abE ho e1 e3,.rd (.int (Sq e2 e4))⟩
   ·cases h1
  ·cases h1
 case not x =>
  simp only[aW] at hk;split at hk<;>try(cases hk;done)
  rename_i x' hop;obtain⟨u,ho⟩:=VR hop;obtain⟨s,h1,rfl⟩:=eT hp;have hx':=(hx x (by simp[Kp.xs]) x' hk).1 hs.1;generalize(rd x).core=xx at h1 hx';unfold vS at h1;split at h1
  ·simp only[one,Option.some.injEq,Prod.mk.injEq] at h1
   obtain⟨_,rfl⟩:=h1;exact⟨_,abF ho (pl_bool hx'),.rd .bool⟩
  ·cases h1
 case conv k x =>
  simp only[aW] at hk;split at hk<;>try(cases hk;done)
  rename_i t1 t2 x' hop;have ho:=zL hop;simp only[Bool.and_eq_true] at hk;obtain⟨hk1,hk2⟩:=hk;obtain⟨s,h1,rfl⟩:=eT hp;have hx':=(hx x (by simp[Kp.xs]) x' hk1).1 hs.1;generalize(rd x).core=xx at h1 hx';split at hk2
  ·rename_i hu1 hu2
   simp at hk2;subst hk2;unfold uW at h1;split at h1
   ·simp only[one,Option.some.injEq,Prod.mk.injEq] at h1
    obtain⟨_,rfl⟩:=h1;obtain⟨e1,e2⟩:=ek hx';obtain⟨h3,h4⟩:=abt (P:=P) (w:=w) ho hu1 hu2 e1 e2;exact⟨_,h3,.rd (.int h4)⟩
   ·cases h1
  ·cases hk2
 case len x =>
  simp only[aW] at hk;split at hk<;>try(cases hk;done)
  rename_i x' t hop;have ho:=oc hop;simp only[Bool.and_eq_true] at hk;obtain⟨s,h1,rfl⟩:=eT hp;obtain⟨n,q,c,rfl,h2,h3,_⟩:=G8 hob hok ((hx x (by simp[Kp.xs]) x' hk.1).1 hs.1) h1;cases he:iE P t with
  | none=>rw[he] at hk;simp at hk
  | some e=>exact⟨_,abB ho (jQ he) h2,.rd (.int (mb h3))⟩
 case qY x =>
  simp only[aW] at hk;split at hk<;>try(cases hk;done)
  rename_i x' t hop;have ho:=oc hop;simp only[Bool.and_eq_true] at hk;obtain⟨hk1,hk2⟩:=hk;obtain⟨s,h1,rfl⟩:=eT hp;have hx':=(hx x (by simp[Kp.xs]) x' hk1).1 hs.1;generalize(rd x).core=xx at h1 hx';split at hk2
  ·rename_i hu
   unfold vC at h1;split at h1
   ·simp only[one,Option.some.injEq,Prod.mk.injEq] at h1
    obtain⟨_,rfl⟩:=h1;obtain⟨h2,h3⟩:=gI hx';exact⟨_,abC ho hu h2,.rd (.int (mb h3))⟩
   ·cases h1
  ·cases hk2
 case pz ok kk z m k =>
  simp only[aW] at hk;split at hk<;>try(cases hk;done)
  rename_i t m' k' ok' hop;have ho:=VL hop;simp only[Bool.and_eq_true,beq_iff_eq] at hk;obtain⟨⟨⟨hk1,hk2⟩,rfl⟩,hk3⟩:=hk;split at hk3<;>try(cases hk3;done)
  rename_i kt et hmt;simp only[Bool.and_eq_true] at hk3;obtain⟨hkt,hz⟩:=hk3;obtain⟨s,h1,rfl⟩:=nI hp;have hm':=(hx m (by simp[Kp.xs]) m' hk1).1 hs.1.1;have hk':=(hx k (by simp[Kp.xs]) k' hk2).1 hs.1.2;unfold vJ at h1;rw[Option.bind_eq_some_iff] at h1;obtain⟨e,he,h1⟩:=h1;rw[Option.bind_eq_some_iff] at h1;obtain⟨r,hr,h1⟩:=h1;simp only[Option.some.injEq,Prod.mk.injEq] at h1;obtain⟨hs1,rfl⟩:=h1;have hkey:(rd k).core.kz kk=true:=by rw[hs1];exact hs.2
  obtain⟨d,hu,hd⟩:=GW hkt hkey
  have hsc:Sc (a.eval k') (rd k).core:=by
   have hsl:=GP hkey;refine A5 (w:=w) (A:=A) (bU hk' ?_ ?_ ?_ ?_ ?_ ?_) hsl<;>intros<;>intro hh<;>rw[hh] at hsl<;>cases hsl
  obtain⟨i,zv,hi,hiz,hzz⟩:=abN hz;obtain⟨u,h2,h3⟩:=Q8 ok (vH hmt) hu hd hsc (Hw hob hok hm' he) hr hi hiz hzz;refine⟨if ok then .tuple #[u,.bool r.isSome] else u,by simp only[Yd,execOp,ho,Sem.run_bind,h2,Result.andThen_ok,Sem.run_pure],?_⟩;cases ok
  ·exact .rd h3.rd
  ·refine .rd (.al rfl fun j x hj=>?_)
   match j,hj with
   | 0,hj=>simp at hj;subst hj;exact h3.rd
   | 1,hj=>simp at hj;subst hj;exact .bool
   | j+2,hj=>simp at hj
 case pv x =>
  simp only[aW] at hk;split at hk<;>try(cases hk;done)
  rename_i x' t hop;have ho:=oc hop;simp only[Bool.and_eq_true] at hk;obtain⟨s,h1,rfl⟩:=eT hp;unfold vB at h1;rw[Option.bind_eq_some_iff] at h1;obtain⟨e,he,h1⟩:=h1;simp only[Option.some.injEq,Prod.mk.injEq] at h1;obtain⟨_,rfl⟩:=h1;cases hmt:rb P t with
  | none=>rw[hmt] at hk;simp at hk
  | some q =>
   obtain⟨kt,et⟩:=q;rcases Hw hob hok ((hx x (by simp[Kp.xs]) x' hk.1).1 hs.1) he with⟨h2,rfl⟩ | ⟨r,es,clock,h2,hb,hE⟩
   ·refine⟨.int .i64 0,?_,.rd (.int (mb (n:=0) (Nat.zero_le _)))⟩
    simp[Yd,execOp,ho,h2,resolve,invoke,builtin,Builtin.len_,run_underlying (vH hmt),goInt]
   ·refine⟨.int .i64 e.1.length,?_,.rd (.int (mb hE.1.2.2))⟩
    have:=hE.1.1;simp[Yd,execOp,ho,h2,resolve,invoke,builtin,Builtin.len_,run_underlying (vH hmt),MapKept.run_getObj_map hb,goInt,this]
 case oZ x =>
  simp only[aW] at hk;split at hk<;>try(cases hk;done)
  rename_i s0 d0 x' hop;have ho:=zL hop;simp only[Bool.and_eq_true] at hk;obtain⟨hk1,hk2⟩:=hk;split at hk2<;>try(cases hk2;done)
  rename_i e hu1 hu2;split at hk2<;>try(cases hk2;done)
  rename_i hu3;obtain⟨s,h1,rfl⟩:=eT hp;obtain⟨l,rfl,hl,h2⟩:=Pd hob hok ((hx x (by simp[Kp.xs]) x' hk1).1 hs.1) h1 hu1 hu3 hu2;exact⟨_,by simp only[Yd,execOp,ho,Sem.run_bind,h2,Result.andThen_ok,Sem.run_pure],.rd (.str hl)⟩
 case rj neg x =>
  simp only[aW] at hk;split at hk<;>try(cases hk;done)
  rename_i op' t x' hop;obtain⟨u,ho⟩:=rn hop;simp only[Bool.and_eq_true,decide_eq_true_eq] at hk;obtain⟨⟨rfl,hk1⟩,hk2⟩:=hk;split at hk2<;>try(cases hk2;done)
  rename_i ms hu;obtain⟨s,h1,rfl⟩:=eT hp;have hx':=(hx x (by simp[Kp.xs]) x' hk1).1 hs.1;obtain⟨b,hb,hrun⟩:=S5 (P:=P) (w:=w) (t:=t) hx' h1 hu ho rfl;exact⟨.bool b,hrun,by rw[hb];exact .rd .bool⟩
 case pE neg x =>
  simp only[aW] at hk;split at hk<;>try(cases hk;done)
  rename_i op' t x' n0 c0 hop;obtain⟨u,ho⟩:=rn hop;simp only[Bool.and_eq_true,decide_eq_true_eq] at hk;obtain⟨⟨rfl,hk1⟩,hk2⟩:=hk;cases he:iE P t with
  | none=>rw[he] at hk2;cases hk2
  | some e =>
  obtain⟨s,h1,rfl⟩:=eT hp;have hx':=(hx x (by simp[Kp.xs]) x' hk1).1 hs.1;have hcn:a.eval (.const (.slice none n0 c0))=.slice none n0 c0:=rfl;unfold sX at h1;split at h1
  ·rename_i z hz
   simp only[Option.some.injEq,Prod.mk.injEq] at h1;obtain⟨_,rfl⟩:=h1;rw[hz] at hx';have hr:=bU hx' (by simp) (by simp) (by simp) (by simp) (by simp) (by simp);generalize hv:a.eval x'=v at hr;cases hr;have e9:∀n:Nat,(Op.equalIn (n+1) t (.slice none 0 0) (.slice none n0 c0)).run P w=.ok true w:=fun n=>by simp[Op.equalIn,run_underlying (jQ he)]
   exact⟨.bool (!neg),by cases neg<;>simp[Yd,execOp,ho,hv,hcn,eqGuard,binOp,Op.equal,Op.maxDepth,e9 9999],.rd .bool⟩
  ·rw[Option.bind_eq_some_iff] at h1
   obtain⟨pp,h2,h3⟩:=h1;obtain⟨n,q,c,h4,h5,_,h6⟩:=G8 hob hok hx' (side:=pp.1) (d:=pp.2) (by rw[h2]);rw[h4] at h3;simp only[Option.some.injEq,Prod.mk.injEq] at h3;obtain⟨h7,rfl⟩:=h3;have h0 : 0<n:=by have:=hs.2;rw[<-h7] at this;omega
   cases q with
   | none=>exact absurd rfl (h6 h0)
   | some q =>
   have e9:∀m:Nat,(Op.equalIn (m+1) t (.slice (some q) n c) (.slice none n0 c0)).run P w=.ok false w:=fun m=>by simp[Op.equalIn,run_underlying (jQ he)]
   exact⟨.bool neg,by cases neg<;>simp[Yd,execOp,ho,h5,hcn,eqGuard,binOp,Op.equal,Op.maxDepth,e9 9999],.rd .bool⟩
 case re t x =>
  simp only[aW] at hk;split at hk<;>try(cases hk;done)
  rename_i t' x' hop;have ho:=VM hop;simp only[Bool.and_eq_true,decide_eq_true_eq] at hk;obtain⟨⟨rfl,hk1⟩,hk2⟩:=hk;obtain⟨s,h1,rfl⟩:=eT hp;have hx':=(hx x (by simp[Kp.xs]) x' hk1).1 hs.1;unfold zm at h1;split at h1
  ·rename_i str hz
   simp only[Option.some.injEq,Prod.mk.injEq] at h1;obtain⟨_,rfl⟩:=h1;rw[hz] at hx';have hr:=Nt hx';refine⟨.iface t (a.eval x'),?_,.rd (.bf hr)⟩;cases hu:P.underlying t with
   | none=>rw[hu] at hk2;cases hk2
   | some u =>
    rw[hu] at hk2
    have:(Instr.makeInterface t (a.eval x')).run P w=.ok (.iface t (a.eval x')) w:=by
     cases u<;>first | (simp[Instr.makeInterface,run_underlying hu];done) | cases hk2
    simp only[Yd,execOp,ho,Sem.run_bind,this,Result.andThen_ok,Sem.run_pure]
  ·cases h1
 case br sz x i =>
  simp only[aW] at hk;split at hk<;>try(cases hk;done)
  rename_i t x' i' hop;have ho:=VJ hop;simp only[Bool.and_eq_true,decide_eq_true_eq] at hk;obtain⟨⟨⟨hk1,hk2⟩,hk3⟩,hk4⟩:=hk;split at hk4
  ·rename_i e he
   obtain⟨inf,hi1,hi2⟩:=wS hk4;obtain⟨s,h1,rfl⟩:=nI hp;obtain⟨⟨g1,g2⟩,hs⟩:=hs;have hx':=(hx x (by simp[Kp.xs]) x' hk1).1 g1;have hi':=(hx i (by simp[Kp.xs]) i' hk2).1 g2;generalize(rd x).core=xx at h1 hx';generalize(rd i).core=ii at h1 hi';unfold nP at h1;split at h1
   ·rename_i ki n
    obtain⟨hn,_⟩:=ek hi';split at h1
    ·rename_i k p
     have hr:=dM hx';rw[sU hob hr,Option.bind_some] at h1;obtain⟨F,hF⟩:=hok k;rcases mY hF hr with⟨z,l,hc,_,_⟩ | ⟨F',hown,_,hreach,hnr⟩
     ·rw[hc] at h1;cases h1
     ·have h1':((ct k).bm p).cm.bind (fun m=>some ((0<=n/\n<(m:Int)/\(((ct k).bm p).jA n.toNat).length=sz),D.av k (p++[(n.toNat,0)])))=some (s,res):=by
       revert h1;cases hc:ct k<;>first | exact id | exact absurd hc (hnr _ _)
      rw[Option.bind_eq_some_iff] at h1';obtain⟨m,hm,h1'⟩:=h1';simp only[Option.some.injEq,Prod.mk.injEq] at h1';obtain⟨h2,rfl⟩:=h1';rw[<-h2] at hs;obtain⟨h3,h4,h5⟩:=hs;generalize hy:(ct k).bm p=y at hown hm h5 hreach;cases y<;>simp[D.cm] at hm<;>first | exact absurd rfl ((IA hown).1 _ _) | exact absurd rfl ((IA hown).2 _) | skip
      rename_i z L;subst hm;have hlt:n.toNat<L.length:=by omega
      have hL:L.getD n.toNat z=L[n.toNat]:=by rw[List.getD_eq_getElem?_getD,List.getElem?_eq_getElem hlt];rfl
      have hun:=hown.un.1
      have hvc:∃b off c,a.eval x'=.slice (some ⟨b,off,none⟩) L.length c/\z.cells.length=sz:=by
       have hsz:=hown.oA z L (.inl rfl) L[n.toNat] (List.getElem_mem hlt);obtain⟨q,cap,e1,_,_,e4⟩:=tp hown;obtain⟨b,off,rfl⟩:=e4 (by rintro rfl;simp at hlt);refine⟨b,off,cap,e1,?_⟩;rw[<-hsz,<-h5];simp only[D.jA,hL]
      obtain⟨b,off,c,e1,e2⟩:=hvc;have hkid:(D.slice z L).has [(n.toNat,0)]:=⟨⟨hlt,by omega⟩,trivial⟩;obtain⟨r1,_,r3⟩:=hreach _ hkid;refine⟨_,M7 ho (jQ he) hi1 hi2 e1 hn h3 (by exact_mod_cast h4),.ref ⟨r1,_,(r3 (by simp)).trans ?_,rfl⟩⟩;rw[e1];simp only[aH,dK,D.un,dY,e2,Nat.add_zero]
    ·rename_i hns
     rw[Option.bind_eq_some_iff] at h1;obtain⟨m,hm,h1⟩:=h1;simp only[Option.some.injEq,Prod.mk.injEq] at h1;obtain⟨h2,rfl⟩:=h1;rw[<-h2] at hs;obtain⟨h3,h4,h5⟩:=hs;cases xx<;>simp[D.cm] at hm
     ·rename_i z L
      subst hm;have hlt:n.toNat<L.length:=by omega
      have hL:L.getD n.toNat z=L[n.toNat]:=by rw[List.getD_eq_getElem?_getD,List.getElem?_eq_getElem hlt];rfl
      have hrd:=pN hx';obtain⟨_,_,_,_,_,hh⟩:=Aw hrd;obtain⟨_,_,_,_,_,hsz,_⟩:=hh (by rintro rfl;simp at hlt);obtain⟨b,off,c,e1,e2,e3⟩:=WO hrd hlt
      have e4:z.cells.length=sz:=by
       rw[<-hsz _ (List.getElem_mem hlt),<-h5];simp only[D.jA,hL]
      rw[e4] at e2;exact⟨_,M7 ho (jQ he) hi1 hi2 e1 hn h3 (by exact_mod_cast h4),.rd e2⟩
     ·exact(Wn hx').elim
     ·subst hm;omega
   ·cases h1
  ·cases hk4
 case ld x =>
  simp only[aW] at hk;split at hk<;>try(cases hk;done)
  rename_i t x' hop;have ho:=Il hop;simp only[Bool.and_eq_true] at hk;obtain⟨s,h1,rfl⟩:=eT hp;obtain⟨b,off,u,h2,h3,h4⟩:=G4 hob hok ((hx x (by simp[Kp.xs]) x' hk.1).1 hs.1) h1;exact⟨u,abz ho hk.2 h2 h3,h4⟩
 case ee n x =>
  simp only[aW] at hk;split at hk<;>try(cases hk;done)
  rename_i t x' hop;have ho:=Il hop;simp only[Bool.and_eq_true] at hk;obtain⟨s,h1,rfl⟩:=eT hp;obtain⟨b,off,cs,h2,h3,h4,h5⟩:=G5 hob hok ((hx x (by simp[Kp.xs]) x' hk.1.1).1 hs.1) h1 hs.2;exact⟨_,abA ho hk.1.2 hk.2 h2 h3 h4,h5⟩
 case fA off x =>
  simp only[aW] at hk;split at hk<;>try(cases hk;done)
  rename_i t x' f hop;have ho:=Ij hop;simp only[Bool.and_eq_true] at hk;obtain⟨hk1,hk2⟩:=hk;split at hk2
  ·rename_i p0 ft hf
   simp only[Bool.and_eq_true,decide_eq_true_eq,Bool.not_eq_true'] at hk2;obtain⟨⟨rfl,h2⟩,h3⟩:=hk2;obtain⟨s,h1,rfl⟩:=eT hp;have hx':=(hx x (by simp[Kp.xs]) x' hk1).1 hs.1;generalize(rd x).core=xx at h1 hx';unfold nD at h1;split at h1
   ·rename_i l
    simp only[one,Option.some.injEq,Prod.mk.injEq] at h1;obtain⟨_,rfl⟩:=h1;have hrd:Rd w A (a.eval x') (.ptr l):=bU hx' (by simp) (by simp) (by simp) (by simp) (by simp);generalize hv:a.eval x'=v at hrd;cases hrd with
    | @ptr b o' _ hA vs hcells hr =>
     refine⟨_,xe ho hf h2 h3 hv,.rd (.ptr hA (fun j=>vs (p0+j)) (fun j x hj=>?_) (fun j x hj=>?_))⟩
     ·rw[List.getElem?_drop] at hj
      have:=hcells _ _ hj
      rwa [<-Nat.add_assoc] at this
     ·rw[List.getElem?_drop] at hj
      exact hr _ _ hj
   ·rename_i k p
    have hr:=fG hx';rw[zi hob hr,Option.bind_some] at h1;simp only[Option.some.injEq,Prod.mk.injEq] at h1;obtain⟨e1,rfl⟩:=h1;obtain⟨b,o',e2,e3,e4⟩:=sf hok hr;exact⟨_,xe ho hf h2 h3 e2,.ref ⟨by rw[e1];exact hs.2,_,qm p e4,rfl⟩⟩
   ·cases h1
  ·cases hk2
 case qR off x =>
  simp only[aW] at hk;split at hk<;>try(cases hk;done)
  rename_i t x' f hop;have ho:=Ik hop;simp only[Bool.and_eq_true] at hk;obtain⟨hk1,hk2⟩:=hk;split at hk2
  ·rename_i p0 ft hf
   simp only[Bool.and_eq_true,decide_eq_true_eq] at hk2;obtain⟨rfl,h2⟩:=hk2;obtain⟨s,h1,rfl⟩:=eT hp;have hx':=(hx x (by simp[Kp.xs]) x' hk1).1 hs.1;generalize(rd x).core=xx at h1 hx';unfold vf at h1;split at h1
   ·rename_i l
    simp only[Option.some.injEq,Prod.mk.injEq] at h1;obtain⟨e1,rfl⟩:=h1;have hs2:=hs.2;rw[<-e1] at hs2;obtain⟨cs,e2,e3,e4⟩:=mJ hx';refine⟨_,abw ho hf h2 e2 (by omega),e4 p0 _ ?_⟩;rw[List.getD_eq_getElem?_getD,List.getElem?_eq_getElem hs2];rfl
   ·cases h1
  ·cases hk2
 case im zs parts =>
  simp only[aW] at hk;split at hk<;>try(cases hk;done)
  rename_i t ps hop;have ho:=VG hop;simp only[Bool.and_eq_true] at hk;obtain⟨⟨hk1,hk2⟩,hk3⟩:=hk;simp only[bC,Option.bind_eq_some_iff] at hp;obtain⟨⟨g,l⟩,hf,hp⟩:=hp;simp only[Option.some.injEq,Prod.mk.injEq] at hp;obtain⟨rfl,rfl⟩:=hp;refine abr ho hk1 hk2 ?_ hx hf hs;unfold F4 at hk3;split at hk3
  ·rename_i fs hu
   exact⟨fs,hu,fun f hf=>by simpa using List.all_eq_true.1 hk3 f hf⟩
  ·cases hk3
 case qU x i =>
  simp only[aW] at hk;split at hk<;>try(cases hk;done)
  rename_i t x' i' hop;have ho:=VK hop;simp only[Bool.and_eq_true] at hk;obtain⟨⟨hk1,hk2⟩,hk3⟩:=hk;split at hk3
  ·rename_i hu
   obtain⟨s,h1,rfl⟩:=nI hp;obtain⟨⟨g1,g2⟩,hs⟩:=hs;have hx':=(hx x (by simp[Kp.xs]) x' hk1).1 g1;have hi':=(hx i (by simp[Kp.xs]) i' hk2).1 g2;generalize(rd x).core=xx at h1 hx';generalize(rd i).core=ii at h1 hi';unfold vp at h1;split at h1
   ·simp only[Option.some.injEq,Prod.mk.injEq] at h1
    obtain⟨e1,rfl⟩:=h1;rw[<-e1] at hs;obtain⟨h3,h4⟩:=aby (P:=P) (w:=w) ho hu (gI hx').1 (ek hi').1 hs.1 hs.2;exact⟨_,h3,.rd (.int h4)⟩
   ·cases h1
  ·cases hk3
 case ext i x =>
  simp only[aW] at hk;split at hk<;>try(cases hk;done)
  rename_i x' i' hop;have ho:=VI hop;simp only[Bool.and_eq_true,beq_iff_eq] at hk;obtain⟨hk1,rfl⟩:=hk;obtain⟨s,h1,rfl⟩:=eT hp;have hx':=(hx x (by simp[Kp.xs]) x' hk1).1 hs.1;generalize(rd x).core=xx at h1 hx';unfold vb at h1;split at h1
  ·rename_i l
   simp only[Option.some.injEq,Prod.mk.injEq] at h1;obtain⟨e1,rfl⟩:=h1;have hs2:=hs.2;rw[<-e1] at hs2;obtain⟨cs,e2,e3,e4⟩:=Wp hx';refine⟨_,abv ho e2 (by omega),e4 i _ ?_⟩;rw[List.getD_eq_getElem?_getD,List.getElem?_eq_getElem hs2];rfl
  ·cases h1
 case bD x =>
  simp only[aW] at hk;split at hk<;>try(cases hk;done)
  rename_i x' hop;have ho:=Im hop;obtain⟨s,h1,rfl⟩:=eT hp;have hx':=(hx x (by simp[Kp.xs]) x' hk).1 hs.1;generalize(rd x).core=xx at h1 hx';unfold nX at h1;split at h1
  all_goals try(cases h1;done)
  all_goals
   simp only[one,Option.some.injEq,Prod.mk.injEq] at h1;obtain⟨_,rfl⟩:=h1
  ·obtain⟨b,off,e1,_⟩:=ru hx'
   exact⟨_,xg ho e1,by rw[<-e1];exact hx'⟩
  ·obtain⟨b,off,e1,_⟩:=sf hok (fG hx')
   exact⟨_,xg ho e1,by rw[<-e1];exact hx'⟩
  ·obtain⟨cs,e1,_⟩:=oh hx'
   exact⟨_,M8 ho e1,by rw[<-e1];exact hx'⟩
 case eqs neg ks x y =>
  simp only[aW] at hk;split at hk<;>try(cases hk;done)
  rename_i op' t x' y' hop;obtain⟨u,ho⟩:=rn hop;simp only[Bool.and_eq_true,decide_eq_true_eq,Bool.not_eq_true'] at hk;obtain⟨⟨⟨⟨rfl,hk1⟩,hk2⟩,hk3⟩,hk4⟩:=hk;split at hk3
  ·rename_i fs hu
   simp only[Bool.and_eq_true,Bool.not_eq_true'] at hk3;obtain⟨s,h1,rfl⟩:=nI hp;obtain⟨⟨g1,g2⟩,hs⟩:=hs;have hx':=(hx x (by simp[Kp.xs]) x' hk1).1 g1;have hy':=(hx y (by simp[Kp.xs]) y' hk2).1 g2;generalize(rd x).core=xx at h1 hx';generalize(rd y).core=yy at h1 hy';unfold u7 at h1;split at h1
   ·rw[Option.bind_eq_some_iff] at h1
    obtain⟨b,hb,h1⟩:=h1;simp only[Option.some.injEq,Prod.mk.injEq] at h1;obtain⟨_,rfl⟩:=h1;exact⟨_,abu ho hu hk3.1 hk3.2 hk4 hx' hy' hb,.rd .bool⟩
   ·cases h1
  ·cases hk3
 case qb x lo hi =>
  simp only[aW] at hk;split at hk<;>try(cases hk;done)
  rename_i t x' lo' hi' hop;have ho:=Io hop;simp only[Bool.and_eq_true] at hk;obtain⟨⟨⟨hk1,hk2⟩,hk3⟩,hk4⟩:=hk;simp only[bC,Bi,Option.bind_eq_some_iff] at hp;obtain⟨s,hs1,⟨g1,l⟩,hlo,⟨g2,h⟩,hhi,hp⟩:=hp;simp only[Option.some.injEq,Prod.mk.injEq] at hp;obtain⟨rfl,rfl⟩:=hp;obtain⟨⟨g0,hg1,hg2⟩,h0,h1,h2⟩:=hs;have hx':=(hx x (by simp[Kp.xs]) x' hk1).1 g0;cases hc:(rd x).core<;>rw[hc] at hs1 hx'<;>simp[D.oE] at hs1;subst hs1;split at hk4
  ·rename_i hu
   obtain⟨e1,e2⟩:=gI hx';refine⟨_,abJ ho hu e1 h0 h1 h2 (sr hk2 (fun z hz=>hx z (by simp[Kp.xs,hz])) hlo hg1) (sr hk3 (fun z hz=>hx z (by simp[Kp.xs,hz])) hhi hg2),.rd (.str (by simp;omega))⟩
  ·cases hk4
 case sl x lo hi =>
  simp only[aW] at hk;split at hk<;>try(cases hk;done)
  rename_i t x' lo' hi' hop;have ho:=Io hop;simp only[Bool.and_eq_true] at hk;obtain⟨⟨⟨hk1,hk2⟩,hk3⟩,hk4⟩:=hk;simp only[bC] at hp;unfold wT at hp;cases hso:oH (rd x).core lo with
  | some kp =>
   obtain⟨k,p⟩:=kp;obtain⟨hcx,rfl⟩:=aaw hso;rw[hso] at hp;simp only[Option.elim_some] at hp;simp only[Option.bind_eq_some_iff] at hp;obtain⟨c,hlk,n,hn,⟨g2,h⟩,hhi,hp⟩:=hp;simp only[Option.some.injEq,Prod.mk.injEq] at hp;obtain⟨rfl,rfl⟩:=hp;obtain⟨⟨g0,hg2⟩,hez,h0,h2⟩:=hs;have hx':=(hx x (by simp[Kp.xs]) x' hk1).1 g0;rw[hcx] at hx';have hr:=dM hx';rw[sU hob hr] at hlk;injection hlk with hlk
   subst hlk;obtain⟨F,hokk⟩:=hok k;have b2:=sr (a:=a) (w:=w) (A:=A) (ct:=ct) (vl:=vl) hk3 (fun z hz=>hx z (by simp[Kp.xs,hz])) hhi hg2;have hlo':lo'=none:=by cases lo' with | none=>rfl | some _=>simp[pj] at hk2
   subst hlo';split at hk4
   ·rename_i e hu
    obtain⟨inf,hi1,hi2⟩:=wS hk4;rcases mY hokk hr with⟨z,l,e1,e2,_⟩ | ⟨F',hown,_,_,_⟩
    ·rw[e1,e2] at hez;simp[D.bm,D.at,D.un,D.gR] at hez
    ·have key:∃q m c,a.eval x'=.slice q m c/\m<=c/\(q=none->c=0)/\n=m:=by
      generalize(ct k).bm p=y at hown hn;generalize a.eval x'=v at hown;cases hown<;>simp[D.cm] at hn
      ·exact⟨_,_,_,rfl,Nat.le_refl _,fun _=>rfl,hn.symm⟩
      ·rename_i hc _ _ _ _ _ _ _ _
       exact⟨_,_,_,rfl,by omega,fun h=>(by cases h),hn.symm⟩
     obtain⟨q,m,c,e1,e2,e3,rfl⟩:=key;have hrv:=hr.2.1;rw[e1] at hrv;exact⟨_,abI (P:=P) (a:=a) ho hu hi1 e1 e2 e3 h0 h2 b2,.ref ⟨q,n,c,⟨hr.1,hrv⟩,by omega,rfl⟩⟩
   ·cases hk4
  | none =>
  rw[hso] at hp;simp only[Option.elim_none,Option.bind_eq_some_iff] at hp;obtain⟨n,hn,⟨g1,l⟩,hlo,⟨g2,h⟩,hhi,z,hz,hp⟩:=hp;simp only[Option.some.injEq,Prod.mk.injEq] at hp;obtain⟨rfl,rfl⟩:=hp;obtain⟨⟨g0,hg1,hg2⟩,hez,h0,h1,h2⟩:=hs;have hx':=(hx x (by simp[Kp.xs]) x' hk1).1 g0;have b1:=sr (a:=a) (w:=w) (A:=A) (ct:=ct) (vl:=vl) hk2 (fun z hz=>hx z (by simp[Kp.xs,hz])) hlo hg1;have b2:=sr (a:=a) (w:=w) (A:=A) (ct:=ct) (vl:=vl) hk3 (fun z hz=>hx z (by simp[Kp.xs,hz])) hhi hg2;split at hk4
  ·rename_i e hu
   obtain⟨inf,hi1,hi2⟩:=wS hk4;cases hc:(rd x).core<;>rw[hc] at hn hx' hz hez<;>simp[D.cut] at hz<;>try(simp[D.cm] at hn;done)
   ·rename_i z0 L
    subst hz;simp only[D.cm,Option.some.injEq] at hn;subst hn;obtain⟨v,e1,e2⟩:=M9 (P:=P) (a:=a) ho hu hi1 hi2 hez (pN hx') h0 h1 h2 b1 b2;exact⟨v,e1,.rd e2⟩
   ·rename_i z0
    subst hz;simp only[D.cm,Option.some.injEq] at hn;subst hn;have hrd:Rd w A (a.eval x') (.aB z0):=bU hx' (by simp) (by simp) (by simp) (by simp) (by simp)
    have hrd':Rd w A (a.eval x') (.slice z0 []):=by
     generalize a.eval x'=v at hrd;cases hrd;exact .nil
    obtain⟨v,e1,e2⟩:=M9 (P:=P) (a:=a) ho hu hi1 hi2 hez hrd' h0 h1 h2 b1 b2;exact⟨v,e1,.rd (by simpa using e2)⟩
  ·cases hk4
 case rf f caps =>
  simp only[aW] at hk;split at hk<;>try(cases hk;done)
  rename_i f' first captured hop
  have ho:=VP hop;simp only[Bool.and_eq_true,beq_iff_eq] at hk;obtain⟨⟨rfl,hk1⟩,hk2⟩:=hk;simp only[bC,Option.bind_eq_some_iff] at hp;obtain⟨l,hl,hp⟩:=hp;simp only[Option.some.injEq,Prod.mk.injEq] at hp;obtain⟨_,rfl⟩:=hp;exact abD ho hk1 hk2 hx hl
end
end Go.D3
namespace Go.D3
open Go
theorem OL{L:List D}{sz j:Nat}{c:D}(h:jg L=true)(hj:cellAt L sz j=some c):c.b8=true:=by
 have key:∀{L:List D},jg L=true->∀x∈L,x.b8=true:=fun {L}=>by
  induction L with
  | nil=>intro _ x hx;cases hx
  | cons y L ih =>
   intro h x hx;rw[jg,Bool.and_eq_true] at h;rcases List.mem_cons.1 hx with rfl | hx
   ·exact h.1
   ·exact ih h.2 x hx
 unfold cellAt at hj;rw[Option.bind_eq_some_iff] at hj;obtain⟨d,hd,hc⟩:=hj;have hs:=key h d (List.mem_of_getElem? hd);have hm:=List.mem_of_getElem? hc;cases d<;>simp[D.b8] at hs<;>simp[D.cells] at hm<;>subst hm<;>rfl
theorem Wo{w w':World}{A A':Nat->Prop}{ct:Nat->D}{vl:Nat->Value}{v:Value}{c:D}{F:Nat->Prop}(h:Pl w A (af w ct vl) v c)(hs:c.b8=true):aj w' A' v c F:=by
 cases h with
 | rd h=>cases h<;>first | exact .int ‹_› | exact .bool | exact .str ‹_› | cases hs
 | ref h=>cases c<;>first | exact h.elim | cases hs
 | _=>cases hs
structure Ext[Mode](w w':World):Prop where
 size:w.heap.size<=w'.heap.size
 same:∀b,b<w.heap.size->w'.heap[b]?=w.heap[b]?
 os:w'.os=w.os
 tape:w'.tape=w.tape
 output:cJ w w'
theorem Ext.refl[Mode](w:World):Ext w w:=⟨Nat.le_refl _,fun _ _=>rfl,rfl,rfl,.of rfl rfl⟩
theorem Ext.trans[Mode]{w w' w'':World}(h:Ext w w')(h':Ext w' w''):Ext w w'' :=
 ⟨Nat.le_trans h.size h'.size,fun b hb=>(h'.same b (Nat.lt_of_lt_of_le hb h.size)).trans (h.same b hb),h'.os.trans h.os,h'.tape.trans h.tape,h'.output.trans h.output⟩
theorem nC[Mode](w:World)(o:Go.Obj):Ext w (w.alloc o):=⟨by simp,fun b hb=>heap_alloc_old w o b hb,rfl,rfl,.of rfl rfl⟩
def iW(A:Nat->Prop)(w w':World)(F:Nat->Prop)(b:Nat):Prop:=A b\/(w.heap.size<=b/\b<w'.heap.size/\¬F b)
section
variable{cx:Ctx}{ct:Nat->D}{vl:Nat->Value}{fp:Nat->Nat->Prop}{G:Nat->Prop}{w:World}
theorem Hp.add[Mode](h:Hp cx ct vl fp G w){w':World}(he:Ext w w'){k:Nat}(hk:(ct k).isObj=false){v:Value}{c:D}{F:Nat->Prop}(hF:∀b,F b->w.heap.size<=b/\b<w'.heap.size)
  (hc:aI w' (iW (aq cx fp G w) w w' F) (af w ct vl) v F c) (hemp:c.isObj=false->∀b,¬F b):Hp cx (aA ct k c) (aA vl k v) (aA fp k F) G w':=by
 have h1:=h.grow he.size he.same he.os he.tape he.output;have h2:=h1.release (G':=fun b=>G b\/F b) (fun b hb=>hb.imp id fun h=>hF b h)
 have hkeep:∀v d,af w ct vl v d->af w' ct vl v d:=by
  intro v d hr;refine hr.bW (bn (fun d=>?_) _);cases d<;>try trivial
  case sub k p=>exact fun hp=>⟨hp,(gN (h.ok k) hp.1 fun b hb=>he.same b (h.lt k b hb).1).1⟩
  case av k p=>exact fun hp=>⟨hp,(gN (h.ok k) hp fun b hb=>he.same b (h.lt k b hb).1).2⟩
 refine h2.put hk (hc.mono (Q:=fun _=>True) (fun b hb=>?_) (fun _ _=>rfl) (fun _ _=>rfl) (fun _ h=>h) (bn (fun _=>trivial) _) fun v d _ hr=>hkeep v d hr) (fun b hb=>.inr hb) (fun b hb=>.inl hb) (fun b hb hg=>?_) hemp
 ·rcases hb with hb | ⟨hb1,hb2,hb3⟩
  ·exact⟨⟨Nat.lt_of_lt_of_le hb.1.1 he.size,hb.1.2⟩,fun hg=>hg.elim hb.2.1 fun hf=>by have:=(hF b hf).1;have:=hb.1.1;omega,hb.2.2⟩
  ·exact⟨⟨hb2,fun hlt=>by have:=h.size;omega⟩,fun hg=>hg.elim (fun hg=>by have:=(h.cY b hg).1;omega) hb3,fun j hj=>by have:=(h.lt j b hj).1;omega⟩
 ·have:=(h.cY b hg).1;have:=(hF b hb).1;omega
end
def DV[Mode](P:Program)(o:Oper)(a:Act)(w:World)(A:Nat->Prop)(R:Value->D->Prop)(c:D):Prop :=
 ∃(v:Value)(w':World)(F:Nat->Prop),(execOp a.eval o).run P w=.ok (.value v) w'/\Ext w w'/\(∀b,F b->w.heap.size<=b/\b<w'.heap.size)/\aI w' (iW A w w' F) R v F c/\(c.isObj=false->∀b,¬F b)
section
variable{P:Program}{o:Oper}{w:World}{A:Nat->Prop}{ct:Nat->D}{vl:Nat->Value}{a:Act}{ds:List (Option Nat)}{tr:List Nat}{rd:X->D}
theorem Ah:∀{l:List D},pL l=true->∀x∈l,x.pc=true
 | [],_,x,hx=>by cases hx
 | y::r,h,x,hx=>by
  simp only[pL,Bool.and_eq_true] at h;rcases List.mem_cons.1 hx with rfl | hx
  ·exact h.1
  ·exact Ah h.2 x hx
theorem E0{R:Value->D->Prop}{v:Value}{c:D}{F:Nat->Prop}(h:Pl w A R v c)(hc:c.pc=true):bV w A R v F c:=by
 cases c<;>first | exact h | (simp[D.pc] at hc)
theorem Aj{v:Value}{x y:D}(h:Pl w A (af w ct vl) v x)(hy:x.fS=some y):Rd w A v y:=by
 cases x<;>simp only[D.fS,Option.some.injEq,reduceCtorEq] at hy
 case fn f caps =>
  cases caps with
  | nil =>
   simp only[Option.some.injEq] at hy;subst hy;cases h with
   | rd h=>exact h
   | ref h=>exact h.elim
   | fn hs hr=>exact .fn hs (fun j x hx=>by simp at hx)
  | cons _ _=>cases hy
 case aB z =>
  subst hy;have:=bU h (by simp) (by simp) (by simp) (by simp) (by simp);cases this;exact .nil
 all_goals
  subst hy;exact bU h (by simp) (by simp) (by simp) (by simp) (by simp)
theorem gW{f:D->Option D}:∀{l l':List D},eC f l=some l'->l'.length=l.length/\∀(j:Nat)(y:D),l'[j]?=some y->∃x:D,l[j]?=some x/\f x=some y
 | [],l',h=>by simp[eC] at h;subst h;simp
 | x::r,l',h=>by
  simp only[eC,Option.bind_eq_some_iff,Option.some.injEq] at h;obtain⟨y,hy,l'',hl,rfl⟩:=h;obtain⟨h1,h2⟩:=gW hl;refine⟨by simp[h1],fun j z hz=>?_⟩;cases j with
  | zero=>simp at hz;subst hz;exact⟨x,rfl,hy⟩
  | succ j=>simpa using h2 j z (by simpa using hz)
theorem AZ{e:TypeId}{x:Operand}(ho:o.op=.box e x):(execOp a.eval o).run P w=.ok (.value (.pointer (some ⟨w.heap.size,0,none⟩))) (w.alloc (.cells (a.eval x).cells e)):=by
 simp[execOp,ho,Instr.box,newVar,newRow]
theorem HH[Mode]{cs:Array Value}{e:TypeId}{l:List D}(hl:cs.size=l.length)(h0 : 0<l.length)(hc:∀j c,l[j]?=some c->bV w A (af w ct vl) (cs.getD j undef) (fun _=>False) c)
  (hlive:∀b,A b->b<w.heap.size)
  (hrun:(execOp a.eval o).run P w=.ok (.value (.pointer (some ⟨w.heap.size,0,none⟩))) (w.alloc (.cells cs e))):DV P o a w A (af w ct vl) (.box l):=by
 refine⟨_,_,(·=w.heap.size),hrun,nC w _,fun b hb=>by subst hb;simp,⟨h0,w.heap.size,cs,e,fun _ _=>False,rfl,heap_alloc_new w _,hl,fun j c hj=>?_,rfl,fun _ _ h=>h.elim,fun _ _ _ _ h=>h.elim⟩,fun h=>by cases h⟩;exact(hc j c hj).mono (Q:=fun _=>True) (fun b hb=>.inl hb) (fun b hb=>heap_alloc_old w _ b (hlive b hb)) (fun _ h=>h.elim) (fun _ h=>h) (bn (fun _=>trivial) _) fun v d _ hr=>hr
theorem Gk{z:Array Value}{n j:Nat}(hj:j<n)(hz : 0<z.size):(madeCells z n).getD j undef=z.getD (j % z.size) undef:=by
 have:=Nat.mod_lt j hz;simp[madeCells,hj,this]
theorem yZ:∀{ps:List (Nat×Operand)}{parts:List (Nat×X)},ku ds tr ps parts=true->ps.length=parts.length/\∀(j i:Nat) x k y,ps[j]?=some (i,x)->parts[j]?=some (k,y)->i=k/\aJ ds tr x y=true
 | [],[],_=>⟨rfl,by simp⟩
 | [],_::_,h=>by simp[ku] at h
 | _::_,[],h=>by simp[ku] at h
 | (i,x)::ps,(k,y)::parts,h=>by
  simp only[ku,Bool.and_eq_true,beq_iff_eq] at h;obtain⟨h1,h2⟩:=yZ h.2;refine⟨by simp[h1],fun j=>?_⟩;cases j with
  | zero =>
   intro i' x' k' y' he he';simp at he he';obtain⟨rfl,rfl⟩:=he;obtain⟨rfl,rfl⟩:=he';exact h.1
  | succ j=>intro i' x' k' y' he he';exact h2 j i' x' k' y' (by simpa using he) (by simpa using he')
theorem ZK(l:List D)(i:Nat)(x:D):eP l i x=l.set i x:=by
 induction l generalizing i with
 | nil=>rfl
 | cons a l ih=>cases i with
  | zero=>rfl
  | succ i=>simp[eP,ih]
theorem OQ{x:D}{l:List D}(h:x.cellsOf=some l):x.cells=l:=by
 cases x<;>simp[D.cellsOf] at h<;>first | exact h | (subst h;rfl)
theorem ON{L:List D}{sz i j:Nat}{y:D}(_:y.cells.length=sz)(hi:i<L.length)(hz : 0<sz) :
  cellAt (L.set i y) sz j=if i*sz<=j/\j<i*sz+sz then y.cells[j-i*sz]? else cellAt L sz j:=by
 unfold cellAt;have hmod:=Nat.div_add_mod j sz;have hlt:=Nat.mod_lt j hz;by_cases h:j / sz=i
 ·rw[Nat.mul_comm,h] at hmod
  rw[if_pos (by omega),h,List.getElem?_set_self hi,Option.bind_some];congr 1;omega
 ·rw[List.getElem?_set_ne (Ne.symm h),if_neg]
  rintro⟨h1,h2⟩;apply h;have:j / sz<i+1:=(Nat.div_lt_iff_lt_mul hz).2 (by rw[Nat.add_mul];omega);have:i<=j / sz:=(Nat.le_div_iff_mul_le hz).2 h1;omega
theorem F5{sz:Nat}(hz : 0<sz):∀(ps:List (Nat×Operand))(parts:List (Nat×X))(cs:Array Value)(L:List D)(g:Bool)(L':List D),ku ds tr ps parts=true ->
  (∀y,y∈parts.map (·.2)->∀x,aJ ds tr x y=true->cd w A (af w ct vl) (a.eval x) (rd y)) ->
  cs.size=L.length*sz->(∀x∈L,x.cells.length=sz)->(∀j c,cellAt L sz j=some c->Pl w A (af w ct vl) (cs.getD j undef) c/\c.pc=true)->nF rd sz L parts=some (g,L')->g=true ->
  ∃cs',Instr.fill (fun i=>some (i*sz,sz)) cs (ps.map fun(i,x)=>(i,a.eval x))=some cs'/\cs'.size=L'.length*sz/\L'.length=L.length/\(∀x∈L',x.cells.length=sz)/\∀j c,cellAt L' sz j=some c->Pl w A (af w ct vl) (cs'.getD j undef) c/\c.pc=true
 | [],[],cs,l,g,l',_,_,h1,h1',h2,hf,_=>by
  simp[nF] at hf;obtain⟨_,rfl⟩:=hf;exact⟨cs,rfl,h1,rfl,h1',h2⟩
 | [],_::_,_,_,_,_,h,_,_,_,_,_,_=>by simp[ku] at h
 | _::_,[],_,_,_,_,h,_,_,_,_,_,_=>by simp[ku] at h
 | (i,x)::ps,(k,y)::parts,cs,L,g,L',hp,hr,h1,h1',h2,hf,hg=>by
  simp only[ku,Bool.and_eq_true,beq_iff_eq] at hp;obtain⟨⟨rfl,hx⟩,hp⟩:=hp;simp only[nF,Option.bind_eq_some_iff] at hf;obtain⟨xs,hxs,hf⟩:=hf;split at hf
  ·rename_i hlen
   rw[Option.bind_eq_some_iff] at hf;obtain⟨⟨g',L''⟩,hf,he⟩:=hf;simp only[Option.some.injEq,Prod.mk.injEq] at he;obtain⟨he1,rfl⟩:=he;rw[hg] at he1;simp at he1;have hv:=(hr y (by simp) x hx).1 he1.1;obtain⟨h3,h4⟩:=oJ hv hxs;have hcel:=OQ hxs;rw[ZK] at hf
   have hle:i*sz+sz<=cs.size:=by
    rw[h1];have:(i+1)*sz<=L.length*sz:=Nat.mul_le_mul_right _ hlen.2.1;rw[Nat.add_mul] at this;omega
   have hvl:(a.eval x).cells.toList.length=sz:=by simp;omega
   obtain⟨cs',h7,h8,h9,h10,h11⟩:=F5 hz ps parts (fu cs (i*sz) (a.eval x).cells.toList) (L.set i (rd y).core) g' L'' hp (fun y hy=>hr y (by simp only[List.map_cons,List.mem_cons];exact .inr hy))
    (by rw[rJ,h1,List.length_set])
    (fun x hx=>by
      rcases List.mem_or_eq_of_mem_set hx with h | h
      ·exact h1' x h
      ·rw[h,hcel];exact hlen.1)
    (fun j c hj=>by
      rw[ON (by rw[hcel];exact hlen.1) hlen.2.1 hz] at hj;rw[rI _ _ _ _ (by omega),hvl];split at hj
      ·rename_i hh
       rw[if_pos hh];rw[hcel] at hj;have:=h4 _ _ hj;exact⟨by simpa using this,Ah hlen.2.2 _ (List.mem_of_getElem? hj)⟩
      ·rename_i hh
       rw[if_neg hh]
       exact h2 j c hj) hf he1.2
   refine⟨cs',?_,h8,by rw[h9,List.length_set],h10,h11⟩;simp only[List.map_cons,Instr.fill];have hcond:¬((decide ((a.eval x).cells.size≠sz) || decide (i*sz+(a.eval x).cells.size > cs.size))=true):=by simp;omega
   rw[if_neg hcond];have:=vi (a.eval x).cells.toList 0 (i*sz) cs;simp only[Nat.add_zero] at this;rw[<-Array.foldl_toList,Array.toList_zipIdx,this];exact h7
  ·cases hf
theorem AY{t e:TypeId}{n:Nat}{ps:Array (Nat×Operand)}(ho:o.op=.buildSlice t n ps)(hu:P.underlying t=some (.slice e)){i:TypeInfo}{z:Value}(hi:P.info? e=some i)(hz:i.zero=some z)(hsm:n*i.size<=16777216)
  {cs:Array Value} (hf:Instr.fill (fun j=>some (j*i.size,i.size)) (madeCells z.cells (n*i.size)) (ps.toList.map fun(i,x)=>(i,a.eval x))=some cs) :
  (execOp a.eval o).run P w=.ok (.value (.slice (some ⟨w.heap.size,0,none⟩) n n)) (w.alloc (.cells cs e)):=by
 have hf':Instr.fill (fun j=>some (j*i.size,i.size)) (madeCells z.cells (n*i.size)) (ps.toList.map fun x=>(x.fst,a.eval x.snd))=some cs:=hf;have hsm':¬16777216<n*i.size:=by omega
 by_cases h0:n*i.size=0
 ·have hm:madeCells z.cells (n*i.size)=#[]:=by rw[h0];simp[madeCells,Array.range_zero']
  rw[hm] at hf';simp only[execOp,ho,Sem.run_bind,Instr.buildSlice,run_underlying hu,Result.andThen_ok,sizeOf,typeInfo,run_program];simp[hi,h0,hf',newRow,Array.range_zero']
 ·simp only[execOp,ho,Sem.run_bind,Instr.buildSlice,run_underlying hu,Result.andThen_ok,sizeOf,typeInfo,run_program]
  simp only[madeCells] at hf';simp[hi,hz,hsm',h0,zeroValue,typeInfo,hf',newRow]
theorem EX{z:D}{n j:Nat}(hz : 0<z.cells.length):cellAt (List.replicate n z) z.cells.length j=if j<n*z.cells.length then z.cells[j % z.cells.length]? else none:=by
 unfold cellAt;rw[List.getElem?_replicate];by_cases h:j / z.cells.length<n
 ·rw[if_pos h,if_pos ((Nat.div_lt_iff_lt_mul hz).1 h)];rfl
 ·rw[if_neg h,if_neg (fun hh=>h ((Nat.div_lt_iff_lt_mul hz).2 hh))];rfl
theorem abK{v:Value}{d:D}(h:gy v d=true):d.pc=true:=by
 unfold gy at h;split at h<;>first | rfl | cases h
theorem HI[Mode]{k:Kp}{side:Prop}{c:D}(hp:bY k rd=some (side,c))(hk:aW P ds tr o k=true)
  (hx:∀y,y∈k.xs->∀x,aJ ds tr x y=true->cd w A (af w ct vl) (a.eval x) (rd y)) (hlive:∀b,A b->b<w.heap.size) (hs:side):DV P o a w A (af w ct vl) c:=by
 cases k<;>try(simp[bY] at hp;done)
 case box n x =>
  simp only[aW] at hk;split at hk<;>try(cases hk;done)
  rename_i e x' hop;have ho:=zJ hop;simp only[Bool.and_eq_true] at hk;simp only[bY,xL,Option.bind_eq_some_iff] at hp;obtain⟨l,hl,hp⟩:=hp;simp only[Option.some.injEq,Prod.mk.injEq] at hp;obtain⟨rfl,rfl⟩:=hp;obtain⟨⟨h1,h2,h3⟩,h4⟩:=hs;obtain⟨h5,h6⟩:=oJ ((hx x (by simp[Kp.xs]) x' hk.1).1 h1) hl;exact HH h5 (by omega) (fun j c hj=>E0 (h6 j c hj) (Ah h3 _ (List.mem_of_getElem? hj))) hlive (AZ ho)
 case gh n x =>
  simp only[aW] at hk;split at hk<;>try(cases hk;done)
  rename_i e x' hop;have ho:=zJ hop;simp only[Bool.and_eq_true] at hk;simp only[bY,xN,Option.bind_eq_some_iff] at hp;obtain⟨l,hl,l',hl',hp⟩:=hp;simp only[Option.some.injEq,Prod.mk.injEq] at hp;obtain⟨rfl,rfl⟩:=hp;obtain⟨h1,h4⟩:=hs;obtain⟨h5,h6⟩:=oJ ((hx x (by simp[Kp.xs]) x' hk.1).1 h1) hl;obtain⟨h7,h8⟩:=gW hl';refine⟨_,_,fun _=>False,AZ ho,nC w _,fun _ h=>h.elim,.rd (.ptr (.inr ⟨Nat.le_refl _,by simp,fun h=>h⟩) (fun j=>(a.eval x').cells.getD j undef) (fun j y hj=>?_) (fun j y hj=>?_)),fun _ _ h=>h⟩
  ·rw[Nat.zero_add]
   exact dU (heap_alloc_new w _) (by have:=(List.getElem?_eq_some_iff.1 hj).1;omega)
  ·obtain⟨z,hz,hzy⟩:=h8 j y hj
   exact(Aj (h6 j z hz) hzy).mono (fun b hb=>.inl hb) (fun b hb=>heap_alloc_old w _ b (hlive b hb))
 case gF =>
  simp only[aW,Option.isSome_iff_exists] at hk;obtain⟨t,hop⟩:=hk;have ho:=VN hop;simp only[bY,Option.some.injEq,Prod.mk.injEq] at hp;obtain⟨rfl,rfl⟩:=hp;refine⟨.map (some w.heap.size),w.alloc (.map #[] 0),fun b=>b=w.heap.size,by simp[execOp,ho,Instr.makeMap,Result.andThen],nC w _,fun b hb=>by subst hb;simp,?_,fun hh=>by cases hh⟩;exact aj.mp rfl (heap_alloc_new w _) ⟨⟨rfl,rfl,Nat.zero_le _⟩,fun j e k hj=>by simp at hj,fun j e k hj=>by simp at hj⟩
 case fq x =>
  simp only[aW] at hk;split at hk<;>try(cases hk;done)
  rename_i t x' hop;simp only[Bool.and_eq_true] at hk;obtain⟨hk1,hk2⟩:=hk;split at hk2<;>try(cases hk2;done)
  rename_i hu;have ho:=VU hop;simp only[bY,AU,Option.bind_eq_some_iff] at hp;obtain⟨s,hl,hp⟩:=hp;simp only[Option.some.injEq,Prod.mk.injEq] at hp;obtain⟨rfl,rfl⟩:=hp;have hx1:=(hx x (by simp[Kp.xs]) x' hk1).1 hs;have hxs:(rd x).core=.str s:=by cases hcx:(rd x).core<;>rw[hcx] at hl<;>simp[D.oE] at hl;subst hl;rfl
  rw[hxs] at hx1;refine⟨.pointer (some ⟨w.heap.size,0,none⟩),w.alloc (.stringIter ⟨s.toArray⟩ 0),fun b=>b=w.heap.size,?_,nC w _,fun b hb=>by subst hb;simp,aj.bL rfl (heap_alloc_new w _) (gI hx1).2,fun hh=>by cases hh⟩;simp only[execOp,ho,(gI hx1).1,Sem.run_bind,run_range_string w t _ hu,Result.andThen_ok,Sem.run_pure];rfl
 case gB x =>
  simp only[aW] at hk;split at hk<;>try(cases hk;done)
  rename_i s0 d0 x' hop;have ho:=zL hop;simp only[Bool.and_eq_true] at hk;obtain⟨hk1,hk2⟩:=hk;split at hk2<;>try(cases hk2;done)
  rename_i e hu1 hu2;split at hk2<;>try(cases hk2;done)
  rename_i hu3;simp only[bY,yk,Option.bind_eq_some_iff] at hp;obtain⟨s,hl,hp⟩:=hp;simp only[Option.some.injEq,Prod.mk.injEq] at hp;obtain⟨rfl,rfl⟩:=hp;obtain⟨hg,hmax⟩:=hs;have hx1:=(hx x (by simp[Kp.xs]) x' hk1).1 hg;have hxs:(rd x).core=.str s:=by cases hcx:(rd x).core<;>rw[hcx] at hl<;>simp[D.oE] at hl;subst hl;rfl
  rw[hxs] at hx1;have hsz:(⟨s.toArray⟩:ByteArray).size=s.length:=by show s.toArray.size=_;simp
  have hcm:grownCap w s.length 0 e<=maxLen:=grownCap_le_maxLen w _ 0 e (by simp only[maxLen];omega);have hge:=grownCap_ge w s.length 0 e;have hcs:(Lib.bytesCells w e ⟨s.toArray⟩).size=grownCap w s.length 0 e:=by simp only[Lib.bytesCells,hsz,Array.size_append,Array.size_map,List.size_toArray,Array.size_replicate];omega
  refine⟨_,Lib.bytesWorld w e ⟨s.toArray⟩,fun b=>b=w.heap.size,by simp only[execOp,ho,(gI hx1).1,Sem.run_bind,Lib.run_convert_string_bytes w s0 d0 e _ hu1 hu2 hu3,Result.andThen_ok,Sem.run_pure];rfl,
   ⟨by rw[Lib.bytesWorld_size];omega,fun b hb=>Lib.bytesWorld_at_old w e _ b hb,rfl,rfl,.le rfl (Nat.le_succ _)⟩,fun b hb=>by subst hb;rw[Lib.bytesWorld_size];omega,?_,fun hh=>by cases hh⟩
  rw[hsz]
  have key:=aj.slice (w:=Lib.bytesWorld w e ⟨s.toArray⟩) (A:=iW A w (Lib.bytesWorld w e ⟨s.toArray⟩) (·=w.heap.size)) (z:=.int .u8 0) (L:=s.map fun b=>D.int .u8 b.toNat) (b:=w.heap.size) (off:=0) (cap:=grownCap w s.length 0 e) (sz:=1) (F:=(·=w.heap.size))
   (fun _ _=>False) (Lib.bytesWorld_at_new w e ⟨s.toArray⟩) ⟨by omega,.inr (Nat.le_refl _)⟩ (by rw[List.length_map];exact hge) hcm (by decide) rfl (fun x hx=>by obtain⟨y,_,rfl⟩:=List.mem_map.1 hx;rfl) (fun j x hj=>?_) rfl (fun _ _ h=>h.elim) (fun _ _ _ _ h=>h.elim)
  ·rw[List.length_map] at key;exact key
  unfold cellAt at hj;rw[Nat.div_one,Nat.mod_one,List.getElem?_map] at hj;cases hq:s[j]? with
  | none=>rw[hq] at hj;cases hj
  | some b =>
   rw[hq] at hj;simp only[Option.map_some,Option.bind_some,D.cells,List.getElem?_cons_zero,Option.some.injEq] at hj;subst hj;have hjl:=(List.getElem?_eq_some_iff.1 hq).1
   have hv:(Lib.bytesCells w e ⟨s.toArray⟩).getD (0+j) undef=.int .u8 b.toNat:=by
    rw[Nat.zero_add,Array.getD_eq_getD_getElem?];unfold Lib.bytesCells;rw[Array.getElem?_append_left (by simpa using hjl),Array.getElem?_map,List.getElem?_toArray,hq];rfl
   rw[hv];have:=b.toNat_lt;refine .int ?_;simp[IntKind.has,IntKind.min,IntKind.max,IntKind.signed,IntKind.bits];omega
 case cB zs =>
  simp only[aW] at hk;split at hk<;>try(cases hk;done)
  rename_i t hop;have ho:=VF hop;simp only[bY,Option.some.injEq,Prod.mk.injEq] at hp;obtain⟨rfl,rfl⟩:=hp;obtain⟨i,z,h1,h2,h3,h4,h5⟩:=uv hk;exact HH (cs:=z.cells) (e:=t) (by simpa using h4) (List.length_pos_iff.2 hs) (fun j c hc=>abL (h5 j (nb c) (by rw[List.getElem?_map,hc];rfl))) hlive (by simp[execOp,ho,Instr.alloc,zeroValue,typeInfo,h1,h2,newVar,newRow])
 case ah z bytes x y =>
  simp only[aW] at hk;split at hk<;>try(cases hk;done)
  rename_i t x' y' hop;have ho:=VO hop;simp only[Bool.and_eq_true,decide_eq_true_eq] at hk;obtain⟨⟨⟨hk1,hk2⟩,hk3⟩,hk4⟩:=hk;split at hk4<;>try(cases hk4;done)
  rename_i e he;simp only[Bool.and_eq_true,decide_eq_true_eq] at hk4;obtain⟨i,z',h1,h2,h3,h4,h5⟩:=uv hk4.1.1
  have hby:i.bytes=bytes:=by
   have:=hk4.1.2;unfold oT at this;rw[h1] at this;simpa using this
  simp only[bY,zo,Option.bind_eq_some_iff] at hp;obtain⟨l,hl,cc,hc,hp⟩:=hp;simp only[Option.some.injEq,Prod.mk.injEq] at hp;obtain⟨rfl,rfl⟩:=hp;obtain⟨⟨g1,g2⟩,hl0,hlc,hbytes⟩:=hs;have hx1:=(hx x (by simp[Kp.xs]) x' hk1).1 g1;have hy1:=(hx y (by simp[Kp.xs]) y' hk2).1 g2
  have ek1:∃k,a.eval x'=.int k l:=by
   cases hcx:(rd x).core<;>rw[hcx] at hl hx1<;>simp[D.int?] at hl;subst hl;exact⟨_,(ek hx1).1⟩
  have ek2:∃k,a.eval y'=.int k cc:=by
   cases hcx:(rd y).core<;>rw[hcx] at hc hy1<;>simp[D.int?] at hc;subst hc;exact⟨_,(ek hy1).1⟩
  obtain⟨k1,ek1⟩:=ek1;obtain⟨k2,ek2⟩:=ek2
  have hc63:cc<=9223372036854775807/\cc.toNat<=maxLen:=by
   have h10:cc<=bytes*cc:=by
    have:(1:Int)*cc<=bytes*cc:=Int.mul_le_mul_of_nonneg_right (by have:=hk4.2;omega) (by omega);omega
   simp only[maxLen];omega
  rw[List.length_map] at h3 h4;have hrun:=run_make (P:=P) w t e i z' (jQ he) h1 h2 k1 k2 l cc hl0 hlc (by rw[hby];exact hbytes) hc63.1;have hsz:z'.cells.size=z.cells.length:=h4;refine⟨.slice (some ⟨w.heap.size,0,none⟩) l.toNat cc.toNat,w.alloc (.cells (madeCells z'.cells (cc.toNat*i.size)) e),(·=w.heap.size),?_,nC w _,fun b hb=>by subst hb;simp,?_,fun h=>by cases h⟩
  ·simp only[execOp,ho,ek1,ek2,Sem.run_bind,hrun,Result.andThen_ok,Sem.run_pure]
  ·have:=aj.slice (w:=w.alloc (.cells (madeCells z'.cells (cc.toNat*i.size)) e)) (A:=iW A w (w.alloc (.cells (madeCells z'.cells (cc.toNat*i.size)) e)) (·=w.heap.size)) (z:=z) (L:=List.replicate l.toNat z) (off:=0) (cap:=cc.toNat) (sz:=z.cells.length) (F:=(·=w.heap.size)) (fun _ _=>False) (heap_alloc_new w _) (by simp[madeCells,h3]) (by simp;omega) hc63.2 hk3 rfl
     (fun x hx=>by rw[(List.mem_replicate.1 hx).2])
     (fun j x hx=>by
       rw[EX hk3] at hx;split at hx
       ·rename_i hj
        have hj2:j<cc.toNat*i.size:=by
         rw[h3];exact Nat.lt_of_lt_of_le hj (Nat.mul_le_mul_right _ (by omega))
        rw[Nat.zero_add,Gk hj2 (by omega),hsz];exact abM (h5 _ _ (by rw[List.getElem?_map,hx];rfl))
       ·cases hx) rfl (fun _ _ h=>h.elim) (fun _ _ _ _ h=>h.elim)
   rw[List.length_replicate] at this;exact this
 case ch z n parts =>
  simp only[aW] at hk;split at hk<;>try(cases hk;done)
  rename_i t n' ps hop;have ho:=Ii hop;simp only[Bool.and_eq_true,decide_eq_true_eq,beq_iff_eq] at hk;obtain⟨⟨⟨⟨rfl,hk1⟩,hk2⟩,hk3⟩,hk4⟩:=hk;split at hk4<;>try(cases hk4;done)
  rename_i e he;obtain⟨i,z',h1,h2,h3,h4,h5⟩:=uv hk4;have hu:=jQ he
  have hm2:∀j c,cellAt (List.replicate n z) z.cells.length j=some c->Pl w A (af w ct vl) ((madeCells z'.cells (n*i.size)).getD j undef) c/\c.pc=true:=by
   intro j c hj;rw[EX hk2] at hj;split at hj
   ·rename_i hjn
    rw[Gk (by rw[h3];exact hjn) (by omega),h4];exact⟨.rd (xh (h5 _ _ hj)),abK (h5 _ _ hj)⟩
   ·cases hj
  have hfill:=fun g L' (hf:nF rd z.cells.length (List.replicate n z) parts=some (g,L')) (hg:g=true) =>
   F5 (w:=w) (A:=A) (ct:=ct) (vl:=vl) (a:=a) hk2 ps.toList parts (madeCells z'.cells (n*i.size)) (List.replicate n z) g L' hk1 hx (by simp[madeCells,h3]) (fun x hx=>by rw[(List.mem_replicate.1 hx).2]) hm2 hf hg
  simp only[bY] at hp;unfold sq at hp;split at hp
  ·
   simp only[Option.some.injEq,Prod.mk.injEq] at hp;obtain⟨_,rfl⟩:=hp
   have hps:ps.toList=[]:=by
    have:=(yZ hk1).1;exact List.eq_nil_of_length_eq_zero (by simpa using this)
   have hf:Instr.fill (fun j=>some (j*i.size,i.size)) (madeCells z'.cells (0*i.size)) (ps.toList.map fun(i,x)=>(i,a.eval x))=some (madeCells z'.cells (0*i.size)):=by rw[hps];rfl
   have hrun:=AY (P:=P) (w:=w) ho hu h1 h2 (by omega) hf;refine⟨_,_,(·=w.heap.size),hrun,nC w _,fun b hb=>by subst hb;simp,?_,fun h=>by cases h⟩;exact aj.slice (L:=[]) (off:=0) (cap:=0) (sz:=z.cells.length) (fun _ _=>False) (heap_alloc_new w _) (by simp) (by simp) (by simp) hk2 rfl (by simp) (by simp[cellAt]) rfl (fun _ _ h=>h.elim) (fun _ _ _ _ h=>h.elim)
  ·cases hp
  ·rename_i n
   rw[Option.bind_eq_some_iff] at hp;obtain⟨⟨g,L⟩,hf,hp⟩:=hp;simp only[Option.some.injEq,Prod.mk.injEq] at hp;obtain⟨rfl,rfl⟩:=hp;obtain⟨cs',h6,h7,h8,h9,h10⟩:=hfill g L hf hs;have hL:L.length=n+1:=by simpa using h8
   rw[<-h3] at h6;have hrun:=AY (P:=P) (w:=w) ho hu h1 h2 (by rw[h3];exact hk3) h6
   have hb1:n+1<=16777216:=by
    have h11:(n+1)*1<=(n+1)*z.cells.length:=Nat.mul_le_mul_left _ hk2;have h12:(n+1)*z.cells.length<=16777216:=hk3;omega
   cases hfs:four L&&jg L with
   | false =>
    refine⟨_,_,(·=w.heap.size),hrun,nC w _,fun b hb=>by subst hb;simp,⟨w.heap.size,z.cells.length,cs',e,by rw[hL],heap_alloc_new w _,h7,by rw[hL];simp only[maxLen];omega,hk2,rfl,h9,fun j c hj=>?_,rfl⟩,fun h=>by cases h⟩;exact⟨(h10 j c hj).1.mono (Q:=fun _=>True) (fun b hb=>.inl hb) (fun b hb=>heap_alloc_old w _ b (hlive b hb)) (bn (fun _=>trivial) _) fun v d _ hr=>hr,(h10 j c hj).2⟩
   | true =>
    rw[Bool.and_eq_true] at hfs;refine⟨_,_,(·=w.heap.size),hrun,nC w _,fun b hb=>by subst hb;simp,?_,fun h=>by cases h⟩;rw[show n.succ=L.length from hL.symm];refine aj.slice (off:=0) (sz:=z.cells.length) (fun _ _=>False) (heap_alloc_new w _) (by rw[h7];simp) (Nat.le_refl _) (by rw[hL];simp only[maxLen];omega) hk2 rfl h9 (fun j c hj=>?_) rfl (fun _ _ h=>h.elim) fun _ _ _ _ h=>h.elim
    rw[Nat.zero_add];exact Wo (h10 j c hj).1 (OL hfs.2 hj)
end
end Go.D3
namespace Go.D3
open Go
theorem rl:∀{l:List D},db l=true->∀x∈l,x.a7=true
 | [],_,x,hx=>by cases hx
 | y::r,h,x,hx=>by
  simp only[db,Bool.and_eq_true] at h;rcases List.mem_cons.1 hx with rfl | hx
  ·exact h.1
  ·exact rl h.2 x hx
theorem Tf{L:List D}{sz j:Nat}{c:D}(h:db L=true)(hc:cellAt L sz j=some c):c.a7=true:=by
 unfold cellAt at hc;cases hq:L[j / sz]? with
 | none=>simp[hq] at hc
 | some d =>
  rw[hq,Option.bind_some] at hc;have hd:=rl h d (List.mem_of_getElem? hq);have hm:=List.mem_of_getElem? hc;cases d<;>simp only[D.cells,List.mem_singleton] at hm<;>first | (subst hm;exact hd) | exact rl hd c hm
theorem sZ{w:World}{A A':Nat->Prop}{d:D}{v:Value}{F:Nat->Prop}(h:aj w A v d F):d.a7=true->aj w A' v d F:=by
 induction h with
 | int h=>exact fun _=>.int h
 | bool=>exact fun _=>.bool
 | str h=>exact fun _=>.str h
 | nil=>exact fun _=>.nil
 | bc=>exact fun _=>.bc
 | fn=>exact fun _=>.fn
 | vw h=>exact fun hn=>by simp[D.a7] at hn
 | dead=>exact fun _=>.dead
 | mp hF hb hE=>exact fun _=>.mp hF hb hE
 | bJ=>exact fun _=>.bJ
 | bf h=>exact fun hn=>by simp[D.a7] at hn
 | aY=>exact fun _=>.aY
 | bL hF hb hs=>exact fun _=>.bL hF hb hs
 | slice Fs hb hroom hc hm hz hzz hsz hr hF hfs hdis ih=>exact fun hn=>.slice Fs hb hroom hc hm hz hzz hsz (fun j x hx=>ih j x hx (Tf hn hx)) hF hfs hdis
 | agg Fs hs hr hfs hdis ih=>exact fun hn=>.agg Fs hs (fun j x hx=>ih j x hx (rl hn x (List.mem_of_getElem? hx))) hfs hdis
 | al Fs hs hr hfs hdis ih=>exact fun hn=>.al Fs hs (fun j x hx=>ih j x hx (rl hn x (List.mem_of_getElem? hx))) hfs hdis
 | ptr Fs hb hs hr hF hfs hdis ih=>exact fun hn=>.ptr Fs hb hs (fun j x hx=>ih j x hx (rl hn x (List.mem_of_getElem? hx))) hF hfs hdis
section
variable{P:Program}{o:Oper}{w:World}{A:Nat->Prop}{ct:Nat->D}{vl:Nat->Value}{a:Act}{ds:List (Option Nat)}{tr:List Nat}{rd:X->D}{ob:Nat->D}
def live(w:World)(b:Nat):Prop:=b<w.heap.size
theorem ML{z:D}:∀{l:List D},rM z l=true->∀x∈l,x.cells.length=z.cells.length
 | [],_,x,hx=>by cases hx
 | y::r,h,x,hx=>by
  simp only[rM,Bool.and_eq_true,decide_eq_true_eq] at h;rcases List.mem_cons.1 hx with rfl | hx
  ·exact h.1
  ·exact ML h.2 x hx
theorem IU{d y:D}{n:Nat}(h:d.rA n=some y):∃l,d=.o (.ptr l)/\y=.ptr (l.drop n):=by
 unfold D.rA at h;split at h
 ·injection h with h;exact⟨_,rfl,h.symm⟩
 ·cases h
theorem Wz{d y:D}{n:Nat}(h:d.rA n=some y):∃l,y=.ptr l:=by
 obtain⟨l,_,rfl⟩:=IU h;exact⟨_,rfl⟩
theorem Gf{n:Nat}{e e':D}(h:a8 ob (n+1) e=some e')(hpe:e.pc=true):e'.isAgg=false:=by
 cases e<;>try(simp[D.pc] at hpe;done)
 case fn f caps =>
  simp only[a8,Option.bind_eq_some_iff] at h;obtain⟨l',_,h⟩:=h;simp only[Option.some.injEq] at h;subst h;rfl
 all_goals simp only[a8] at h
 all_goals try(simp only[Option.some.injEq] at h;subst h;rfl)
 all_goals try(cases h;done)
 ·rw[Option.bind_eq_some_iff] at h
  obtain⟨c,_,h⟩:=h;split at h
  ·rw[Option.bind_eq_some_iff] at h
   obtain⟨l',_,h⟩:=h;split at h<;>simp only[Option.some.injEq,reduceCtorEq] at h;subst h;rfl
  ·split at h
   ·cases h
   ·rename_i hh;simp only[Option.some.injEq] at h;subst h;simpa using hh
 ·rw[Option.bind_eq_some_iff] at h
  obtain⟨c,_,h⟩:=h;split at h
  ·rw[Option.bind_eq_some_iff] at h
   obtain⟨l',_,h⟩:=h;simp only[Option.some.injEq] at h;subst h;rfl
  ·simp only[Option.some.injEq] at h;subst h;rfl
  ·obtain⟨l,rfl⟩:=Wz h;rfl
  ·cases h
theorem PK{n:Nat}{e e':D}(h:a8 ob n e=some e')(hl:e'.cells.length=e.cells.length)(hpc:∀c∈e.cells,c.pc=true):∀(j:Nat)(y:D),e'.cells[j]?=some y->∃(c:D)(m:Nat),e.cells[j]?=some c/\a8 ob m c=some y:=by
 cases n with
 | zero=>simp[a8] at h
 | succ n =>
  by_cases ha:e.isAgg=true
  ·cases e<;>simp[D.isAgg] at ha
   rename_i l;simp only[a8,Option.bind_eq_some_iff] at h;obtain⟨l',h1,h2⟩:=h;injection h2 with h2
   subst h2;intro j y hj;obtain⟨x,h3,h4⟩:=(gW h1).2 j y hj;exact⟨x,n,h3,h4⟩
  ·have ha':e.isAgg=false:=by simpa using ha
   have hec:=D.cells_one ha';rw[hec] at hl hpc|-
   have hpe:=hpc e (by simp);have hne:=Gf h hpe;rw[D.cells_one hne];intro j y hj;cases j with
   | zero=>simp at hj;subst hj;exact⟨e,n+1,rfl,h⟩
   | succ j=>simp at hj
theorem Ix{v:Value}{d:D}{F:Nat->Prop}(hA:∀b,A b->live w b)(hF:∀b,F b->live w b)(h:aj w A v d F):Rd w (live w) v d:=h.rd hA hF
theorem vE{k:Nat}{c:D}(h:lk ob k=some c):(ob k).isObj=true/\c=ob k:=by
 unfold lk at h;split at h
 ·rename_i ho;simp only[Option.some.injEq] at h;exact⟨ho,h.symm⟩
 ·cases h
theorem tn{B:Nat->Prop}{v:Value}{d:D}{F:Nat->Prop}(hA:∀b,A b->B b)(hF:∀b,F b->B b)(h:aj w A v d F):Rd w B v d:=h.rd hA hF
theorem WS{B:Nat->Prop}{q:Option Addr}{m n c:Nat}{z:D}{l:List D}(h:Rd w B (.slice q m c) (.slice z l))(hn:n<=m):Rd w B (.slice q n c) (.slice z (l.take n)):=by
 generalize hv:Value.slice q m c=v at h;cases h with
 | nil =>
  injection hv with e1 e2 e3
  subst e1;subst e2;subst e3;have:n=0:=by omega
  subst this;exact .nil
 | empty hm =>
  injection hv with e1 e2 e3
  subst e1;subst e2;subst e3;have:n=0:=by omega
  subst this;exact .empty hm
 | slice hA hc hm hz hzz hsz vs hcells hr =>
  injection hv with e1 e2 e3
  subst e1;subst e2;subst e3;have hl:(l.take n).length=n:=by rw[List.length_take];omega
  have hcut:∀j x,cellAt (l.take n) _ j=some x->cellAt l _ j=some x:=fun j x hx=>by
   have:=xZ (L:=l) (h:=n) (l:=0) hz (by simpa using hx);simpa using this
  have:=Rd.slice (w:=w) (z:=z) (L:=l.take n) hA (by omega) hm hz hzz (fun y hy=>hsz y (List.mem_of_mem_take hy)) vs (fun j x hx=>hcells j x (hcut j x hx)) (fun j x hx=>hr j x (hcut j x hx));rw[hl] at this;exact this
theorem nK{B:Nat->Prop}(hA:∀b,A b->B b)(hob:∀j,(ct j).isObj=true->(ob j).isObj=true->ob j=ct j)(hok:∀j,(ct j).isObj=true->(ob j).isObj=true->∃F,(∀b,F b->B b)/\aI w A (af w ct vl) (vl j) F (ct j)) :
  ∀(n:Nat){v:Value}{d x:D},Pl w A (af w ct vl) v d->a8 ob n d=some x->Rd w B v x
 | 0,v,d,x,_,h=>by simp[a8] at h
 | n+1,v,d,x,hv,h=>by
  have same:∀{v:Value}{d:D},Pl w A (af w ct vl) v d->(∀k p,d≠.sub k p)->(∀k p,d≠.av k p)->(∀f c,d≠.fn f c)->(∀l,d≠.agg l)->(∀l,d≠.al l)->(h6:∀k p n,d≠.pre k p n:=by simp)->Rd w B v d :=
   fun hv h1 h2 h3 h4 h5 h6=>(bU hv h1 h2 h3 h4 h5 h6).mono hA fun _ _=>rfl
  have cell:∀{v:Value}{F:Nat->Prop}{c y:D},(∀b,F b->B b)->bV w A (af w ct vl) v F c->a8 ob n c=some y->Rd w B v y:=by
   intro v F c y hF hc hy;by_cases ho:∃z,c=.o z
   ·obtain⟨z,rfl⟩:=ho
    cases n with
    | zero=>simp[a8] at hy
    | succ m =>
     simp only[a8,Option.some.injEq] at hy;subst hy;exact tn hA hF hc
   ·have hpl:Pl w A (af w ct vl) v c:=by
     cases c<;>first | exact hc | exact hc.elim | exact absurd ⟨_,rfl⟩ ho
    exact nK hA hob hok n hpl hy
  cases d
  case pre k p m =>
   simp only[a8] at h;rw[Option.bind_eq_some_iff] at h;obtain⟨c0,hc0,h⟩:=h;obtain⟨hobj,hc1⟩:=vE hc0;cases hv with
   | rd hv=>cases hv
   | ref hv =>
    obtain⟨q,l0,cp,⟨g1,g2⟩,g3,rfl⟩:=hv;have hcto:(ct k).isObj=true:=o8 g1.1;obtain⟨F,hF,hc⟩:=hok k hcto hobj;rw[hc1,hob k hcto hobj] at h;clear hc0 hc1;have hr:af w ct vl (.slice q l0 cp) (.sub k p):=⟨g1,g2,.inl ⟨_,_,_,rfl⟩⟩;rcases mY hc hr with⟨z,l,hck,rfl,hvl⟩ | ⟨F',hown,hFF,_,hnr⟩
    ·rw[hck] at h;cases h
    ·have hd:∃z l,(ct k).bm p=.slice z l/\x=.slice z (l.take m):=by
      split at h
      ·rename_i z l hck;exact absurd hck (hnr z l)
      ·split at h
       ·rename_i z l hd
        injection h with h
        exact⟨z,l,hd,h.symm⟩
       ·cases h
     obtain⟨z,l,hd,rfl⟩:=hd;rw[hd] at hown;have hrd:=tn hA (fun b hb=>hF b (hFF b hb)) hown;exact WS hrd g3
  case sub k p =>
   simp only[a8] at h;have hr:=dM hv;rw[Option.bind_eq_some_iff] at h;obtain⟨c0,hc0,h⟩:=h;obtain⟨hobj,hc1⟩:=vE hc0;have hcto:(ct k).isObj=true:=o8 hr.1.1;obtain⟨F,hF,hc⟩:=hok k hcto hobj;rw[hc1,hob k hcto hobj] at h;clear hc0 hc1;rcases mY hc hr with⟨z,l,hck,rfl,hvl⟩ | ⟨F',hown,hFF,_,hnr⟩
   ·rw[hck] at h hc
    simp only[Option.bind_eq_some_iff] at h;obtain⟨l',hl',h⟩:=h;split at h
    ·rename_i hsz
     injection h with h
     subst h;obtain⟨b,sz,cs,e,h1,h2,h3,h4,h5,h6,h7,h8,h9⟩:=hc;obtain⟨h12,h13⟩:=gW hl';have hszs:=ML hsz;rw[hvl,h1,<-h12]
     have key:∀j y,cellAt l' sz j=some y->j<cs.size/\Rd w B (cs.getD j undef) y:=by
      intro j y hj;have hlt:=l4 h5 hj;rw[h12] at hlt;refine⟨by omega,?_⟩;unfold cellAt at hj;cases hq:l'[j / sz]? with
      | none=>simp[hq] at hj
      | some e' =>
       rw[hq,Option.bind_some] at hj;obtain⟨e0,he0,hge⟩:=h13 _ _ hq
       have hcell:∀(i:Nat)(c:D),e0.cells[i]?=some c->i<sz->cellAt l sz (j / sz*sz+i)=some c:=by
        intro i c hi his;unfold cellAt;have e1:(j / sz*sz+i) / sz=j / sz:=by rw[Nat.mul_comm,Nat.mul_add_div h5,Nat.div_eq_of_lt his];rfl
        have e2:(j / sz*sz+i) % sz=i:=by rw[Nat.mul_comm,Nat.mul_add_mod,Nat.mod_eq_of_lt his]
        rw[e1,e2,he0];exact hi
       have hl0:=h7 e0 (List.mem_of_getElem? he0)
       have hpc:∀c∈e0.cells,c.pc=true:=by
        intro c hcm;obtain⟨i,hi,hci⟩:=List.getElem_of_mem hcm;exact(h8 _ _ (hcell i c (by rw[List.getElem?_eq_getElem hi,hci]) (by omega))).2
       have hmod:=Nat.mod_lt j h5;have hdm:j / sz*sz+j % sz=j:=by rw[Nat.mul_comm];exact Nat.div_add_mod j sz
       cases n with
       | zero=>simp[a8] at hge
       | succ n =>
        by_cases ha:e0.isAgg=true
        ·cases e0<;>simp[D.isAgg] at ha
         rename_i l0;simp only[a8,Option.bind_eq_some_iff] at hge;obtain⟨l1,h14,h15⟩:=hge;injection h15 with h15
         subst h15;obtain⟨c,h16,h17⟩:=(gW h14).2 _ _ hj;have:=(h8 _ _ (hcell _ c h16 hmod)).1;rw[hdm] at this;exact nK hA hob hok n this h17
        ·have ha':e0.isAgg=false:=by simpa using ha
         obtain⟨c,m,h14,h15⟩:=PK hge (by rw[hszs e' (List.mem_of_getElem? hq),h6,hl0]) hpc _ _ hj;rw[D.cells_one ha'] at h14 hl0;simp only[List.length_cons,List.length_nil,Nat.zero_add] at hl0;have hj0:j % sz=0:=by omega
         rw[hj0] at h14 hj;simp only[List.getElem?_cons_zero,Option.some.injEq] at h14;subst h14;have hc1:=(h8 _ _ (hcell 0 e0 (by rw[D.cells_one ha'];rfl) (by omega))).1;rw[<-hj0,hdm] at hc1;have:=nK hA hob hok (n+1) hc1 hge;have hlen:=hszs e' (List.mem_of_getElem? hq);rw[h6,<-hl0] at hlen;rw[D.cells_one (Gf hge (hpc e0 (by rw[D.cells_one ha'];simp)))] at hj;simp at hj;rw[<-hj];exact this
     refine .slice (hF _ h9) (Nat.le_refl _) (by rw[h12];exact h4) h5 h6 (fun x hx=>by rw[hszs x hx,h6]) (fun j=>cs.getD j undef) (fun j y hj=>?_) (fun j y hj=>(key j y hj).2);rw[Nat.zero_add];exact dU h2 (key j y hj).1
    ·cases h
   ·have h':(if((ct k).bm p).isAgg=true then none else some ((ct k).bm p))=some x:=by
     revert h;cases hck:ct k<;>first | exact id | exact absurd hck (hnr _ _)
    split at h'
    ·cases h'
    ·injection h' with h'
     subst h';exact tn hA (fun b hb=>hF b (hFF b hb)) hown
  case av k p =>
   simp only[a8] at h;have hr:=fG hv;rw[Option.bind_eq_some_iff] at h;obtain⟨c0,hc0,h⟩:=h;obtain⟨hobj,hc1⟩:=vE hc0;have hcto:(ct k).isObj=true:=o8 hr.1;obtain⟨F,hF,hc⟩:=hok k hcto hobj;rw[hc1,hob k hcto hobj] at h;clear hc0 hc1;split at h
   ·rename_i l s off hck
    rw[hck] at hc;rw[Option.bind_eq_some_iff] at h;obtain⟨l',hl',h⟩:=h;injection h with h
    subst h;obtain⟨_,b,cs,e,Fs,h1,h2,h3,h4,h5,h6,h7⟩:=hc;obtain⟨_,ad,h8,h9⟩:=hr;rw[hck,h1] at h8;simp only[aH,dK,D.un,dY,Option.some.injEq,Nat.zero_add] at h8;subst h8;rw[h9];obtain⟨h12,h13⟩:=gW hl';refine .ptr (hF b h5) (fun j=>cs.getD (off+j) undef) (fun j y hj=>?_) (fun j y hj=>?_)
    ·rw[List.getElem?_drop] at hj
     have:=(List.getElem?_eq_some_iff.1 hj).1;exact dU h2 (by omega)
    ·rw[List.getElem?_drop] at hj
     obtain⟨c,hc1,hc2⟩:=h13 _ _ hj;exact cell (fun b hb=>hF b (h6 _ b hb).2) (h4 _ _ hc1) hc2
   ·rename_i l s off hck
    rw[hck] at hc;injection h with h
    subst h
    obtain⟨b,cs,e,Fs,h1,h2,h3,h4,h5,h6⟩:∃(b:Nat)(cs:Array Value)(e:TypeId)(Fs:Nat->Nat->Prop),vl k=.pointer (some ⟨b,0,none⟩)/\w.heap[b]?=some (.cells cs e (0,0))/\cs.size=l.length/\(∀j x,l[j]?=some x->aj w A (cs.getD j undef) x (Fs j))/\F b/\∀j c,Fs j c->F c:=by
     have hc:aj w A (vl k) (.ptr l) F:=hc;generalize vl k=u at hc;cases hc with
     | ptr Fs hb hs hr hF hfs _=>exact⟨_,_,_,Fs,rfl,hb,hs,hr,hF,fun j c h=>(hfs j c h).2⟩
    obtain⟨_,ad,h8,h9⟩:=hr;rw[hck,h1] at h8;simp only[aH,dK,D.un,dY,Option.some.injEq,Nat.zero_add] at h8;subst h8;rw[h9];refine .ptr (hF b h5) (fun j=>cs.getD (off+j) undef) (fun j y hj=>?_) (fun j y hj=>?_)
    ·rw[List.getElem?_drop] at hj
     have:=(List.getElem?_eq_some_iff.1 hj).1;exact dU h2 (by omega)
    ·rw[List.getElem?_drop] at hj
     exact tn hA (fun b hb=>hF b (h6 _ b hb)) (h4 _ _ hj)
   ·rename_i l s1 off s2 o2 hck
    rw[hck] at hc;obtain⟨l2,hl2,rfl⟩:=IU h;obtain⟨_,b,cs,e,Fs,h1,h2,h3,h4,h5,h6,h7⟩:=hc
    have hlt:off<l.length:=Classical.byContradiction fun hh=>by
     rw[List.getD_eq_getElem?_getD,List.getElem?_eq_none (by omega)] at hl2;cases hl2
    have hget:l[off]?=some (.o (.ptr l2)):=by
     rw[List.getElem?_eq_getElem hlt];rw[List.getD_eq_getElem?_getD,List.getElem?_eq_getElem hlt] at hl2;simpa using hl2
    have hown:aj w A (cs.getD off undef) (.ptr l2) (Fs off):=h4 off _ hget;obtain⟨_,ad,h8,h9⟩:=hr;rw[hck,h1] at h8
    have hkv:cz w (.pointer (some ⟨b,0,none⟩)) (.box l) s1 off=some (cs.getD off undef):=by
     show w.cell? ⟨b,0+off,none⟩=_;rw[Nat.zero_add];exact dU h2 (by omega)
    have hk:D.aX (.box l) s1 off=.o (.ptr l2):=hl2;rw[aH,hkv,Option.bind_some,hk] at h8
    ·obtain⟨b',cs',e',Fs',g1,g2,g3,g4,g5,g6⟩:∃(b':Nat)(cs':Array Value)(e':TypeId)(Fs':Nat->Nat->Prop),cs.getD off undef=.pointer (some ⟨b',0,none⟩)/\w.heap[b']?=some (.cells cs' e' (0,0))/\cs'.size=l2.length/\(∀j x,l2[j]?=some x->aj w A (cs'.getD j undef) x (Fs' j))/\Fs off b'/\∀j c,Fs' j c->Fs off c:=by
      generalize cs.getD off undef=u at hown;cases hown with
      | ptr Fs hb hs hr hF hfs _=>exact⟨_,_,_,Fs,rfl,hb,hs,hr,hF,fun j c h=>(hfs j c h).2⟩
     rw[g1] at h8;simp only[aH,dK,D.un,dY,Option.some.injEq,Nat.zero_add] at h8;subst h8;rw[h9];have hFo:∀c,Fs off c->B c:=fun c hc=>hF c (h6 _ c hc).2
     refine .ptr (hFo b' g5) (fun j=>cs'.getD (o2+j) undef) (fun j y hj=>?_) (fun j y hj=>?_)
     ·rw[List.getElem?_drop] at hj
      have:=(List.getElem?_eq_some_iff.1 hj).1;exact dU g2 (by omega)
     ·rw[List.getElem?_drop] at hj
      exact tn hA (fun b hb=>hFo b (g6 _ b hb)) (g4 _ _ hj)
    ·simp
   ·cases h
  case agg l =>
   simp only[a8,Option.bind_eq_some_iff] at h;obtain⟨l',hl',h⟩:=h;injection h with h
   subst h;obtain⟨cs,rfl,h1,h2⟩:=mJ hv;obtain⟨h3,h4⟩:=gW hl'
   exact .agg (by rw[h1,h3]) fun j y hj=>by
    obtain⟨c,hc1,hc2⟩:=h4 j y hj;exact nK hA hob hok n (h2 j c hc1) hc2
  case fn f caps =>
   simp only[a8,Option.bind_eq_some_iff] at h;obtain⟨l',hl',h⟩:=h;injection h with h
   subst h;obtain⟨cs,rfl,h1,h2⟩:=oh hv;obtain⟨h3,h4⟩:=gW hl'
   exact .fn (by rw[h1,h3]) fun j y hj=>by
    obtain⟨c,hc1,hc2⟩:=h4 j y hj;exact nK hA hob hok n (h2 j c hc1) hc2
  case aB z =>
   simp only[a8,Option.some.injEq] at h;subst h;exact(Aj hv rfl).mono hA fun _ _=>rfl
  case o y =>
   simp only[a8,Option.some.injEq] at h;subst h;have:=bU hv (by simp) (by simp) (by simp) (by simp) (by simp);cases this with
   | o h=>exact h.mono hA fun _ _=>rfl
  all_goals simp only[a8,Option.some.injEq,reduceCtorEq] at h
  all_goals
   subst h;exact same hv (by simp) (by simp) (by simp) (by simp) (by simp)
theorem Gg(hA:∀b,A b->live w b)(hob:∀j,(ct j).isObj=true->ob j=ct j)(hok:∀j,∃F,(∀b,F b->live w b)/\aI w A (af w ct vl) (vl j) F (ct j))(n:Nat){v:Value}{d x:D}(h:Pl w A (af w ct vl) v d)(hg:a8 ob n d=some x):Rd w (live w) v x :=
 nK hA (fun j h _=>hob j h) (fun j _ _=>hok j) n h hg
theorem Ta{v:Value}{d:D}(h:af w ct vl v d)(hd:d.refs dD):False:=by
 cases d<;>first | exact h.elim | exact hd.elim
theorem lV{v:Value}{d:D}(h:Pl w A (af w ct vl) v d)(hd:d.refs dD):Rd w A v d:=by
 induction h with
 | rd h=>exact h
 | ref h=>exact(Ta h hd).elim
 | agg hs _ ih=>exact .agg hs fun j x hx=>ih j x hx (bt.1 hd x (List.mem_of_getElem? hx))
 | al hs _ ih=>exact .al hs fun j x hx=>ih j x hx (bt.1 hd x (List.mem_of_getElem? hx))
 | fn hs _ ih=>exact .fn hs fun j x hx=>ih j x hx (bt.1 hd x (List.mem_of_getElem? hx))
theorem vj:∀(n:Nat){v:Value}{d x:D},Pl w A (af w ct vl) v d->d.refs dD->a8 ob n d=some x->Rd w A v x
 | 0,v,d,x,_,_,h=>by simp[a8] at h
 | n+1,v,d,x,hv,hd,h=>by
  cases d
  case sub k p=>exact hd.elim
  case av k p=>exact hd.elim
  case pre k p m=>exact hd.elim
  case agg l =>
   simp only[a8,Option.bind_eq_some_iff] at h;obtain⟨l',hl',h⟩:=h;injection h with h
   subst h;obtain⟨cs,rfl,h1,h2⟩:=mJ hv;obtain⟨h3,h4⟩:=gW hl'
   exact .agg (by rw[h1,h3]) fun j y hj=>by
    obtain⟨c,hc1,hc2⟩:=h4 j y hj;exact vj n (h2 j c hc1) (bt.1 hd c (List.mem_of_getElem? hc1)) hc2
  case fn f caps =>
   simp only[a8,Option.bind_eq_some_iff] at h;obtain⟨l',hl',h⟩:=h;injection h with h
   subst h;obtain⟨cs,rfl,h1,h2⟩:=oh hv;obtain⟨h3,h4⟩:=gW hl'
   exact .fn (by rw[h1,h3]) fun j y hj=>by
    obtain⟨c,hc1,hc2⟩:=h4 j y hj;exact vj n (h2 j c hc1) (bt.1 hd c (List.mem_of_getElem? hc1)) hc2
  case aB z =>
   simp only[a8,Option.some.injEq] at h;subst h;exact Aj hv rfl
  case o y =>
   simp only[a8,Option.some.injEq] at h;subst h;have:=bU hv (by simp) (by simp) (by simp) (by simp) (by simp);cases this with
   | o h=>exact h
  all_goals simp only[a8,Option.some.injEq,reduceCtorEq] at h
  all_goals
   subst h;exact bU hv (by simp) (by simp) (by simp) (by simp) (by simp)
theorem uK{A':Nat->Prop}:∀{xs:List Operand}{ys:List X}{dts:List D},eX ds tr xs ys=true->(∀y,y∈ys->∀x,aJ ds tr x y=true->cd w A (af w ct vl) (a.eval x) (rd y)) ->
  (∀y,y∈ys->∀{v:Value}{x:D},Pl w A (af w ct vl) v (rd y).core->a8 ob 4 (rd y).core=some x->Rd w A' v x) ->
  iv ob rd ys=some dts->dO rd ys=true->xs.length=dts.length/\∀(j:Nat)(d:D),dts[j]?=some d->Rd w A' ((xs.map a.eval).getD j undef) d
 | [],[],dts,_,_,_,hd,_=>by simp[iv] at hd;subst hd;simp
 | [],_::_,_,h,_,_,_,_=>by simp[eX] at h
 | _::_,[],_,h,_,_,_,_=>by simp[eX] at h
 | x::xs,y::ys,dts,hx,hr,hg,hd,hgt=>by
  simp only[eX,Bool.and_eq_true] at hx;simp only[iv,Option.bind_eq_some_iff] at hd;obtain⟨d0,hd0,l,hl,hd⟩:=hd;injection hd with hd
  subst hd;simp only[dO,Bool.and_eq_true] at hgt;obtain⟨h1,h2⟩:=uK hx.2 (fun y hy=>hr y (by simp[hy])) (fun y hy=>hg y (by simp[hy])) hl hgt.2;have h3:=hg y (by simp) ((hr y (by simp) x hx.1).1 hgt.1) hd0;refine⟨by simp[h1],fun j d hj=>?_⟩;cases j with
  | zero=>simp at hj;subst hj;simpa using h3
  | succ j=>simpa using h2 j d (by simpa using hj)
theorem xY{f:FuncId}{xs:List Operand}{ts:Array TypeId}(ho:o.op=.call { callee:=.value (.func f),args:=xs.toArray,argTypes:=ts })(hb:eQ P f=true) :
  (execOp a.eval o).run P w=.ok (.enter f (xs.map a.eval).toArray) w:=by
 unfold eQ at hb;cases hf:P.funcs[f]? with
 | none=>simp[hf] at hb
 | some fn =>
  simp[hf] at hb;obtain⟨h1,h2⟩:=hb;cases hbody:fn.body with
  | none=>simp[hbody] at h1
  | some c=>simp[execOp,ho,resolve,Act.eval,Deferred.ofValue,invoke,callFunc,hf,h2,hbody]
theorem nz{R:Value->D->Prop}{v:Value}{d:D}{F:Nat->Prop}(h:aj w A v d F):aI w A R v F (aQ d)/\((aQ d).isObj=false->aI w A R v (fun _=>False) (aQ d)):=by
 have rd:∀{d:D},aj w A v d F->(∀{A':Nat->Prop}{F':Nat->Prop},aj w A v d F')->Rd w A v d:=fun _ h=>(h (A':=A) (F':=fun _=>False)).rd (fun _ h=>h) fun _ h=>h.elim
 cases h with
 | int h=>exact⟨.rd (.int h),fun _=>.rd (.int h)⟩
 | bool=>exact⟨.rd .bool,fun _=>.rd .bool⟩
 | str h=>exact⟨.rd (.str h),fun _=>.rd (.str h)⟩
 | nil=>exact⟨.nil,fun h=>by cases h⟩
 | bc=>exact⟨.rd .bc,fun _=>.rd .bc⟩
 | fn=>exact⟨.rd (.fn rfl (fun j x hx=>by simp at hx)),fun _=>.rd (.fn rfl (fun j x hx=>by simp at hx))⟩
 | @vw v d F h =>
  cases d
  case slice z l=>exact⟨Pl.rd h,fun _=>Pl.rd h⟩
  case ptr l=>exact⟨Pl.rd h,fun _=>Pl.rd h⟩
  case agg l=>exact⟨Pl.rd h,fun _=>Pl.rd h⟩
  case fn f l=>exact⟨Pl.rd h,fun _=>Pl.rd h⟩
  case mp ks vs=>exact⟨Pl.rd h,fun _=>Pl.rd h⟩
  case al l=>exact⟨Pl.rd h,fun _=>Pl.rd h⟩
  all_goals exact⟨Pl.dead,fun _=>Pl.dead⟩
 | dead=>exact⟨Pl.dead,fun _=>Pl.dead⟩
 | mp hF hb hE=>exact⟨.mp hF hb hE,fun h=>by cases h⟩
 | bJ=>exact⟨.rd .bJ,fun _=>.rd .bJ⟩
 | bf h=>exact⟨Pl.rd (.bf h),fun _=>Pl.rd (.bf h)⟩
 | aY=>exact⟨.rd .aY,fun _=>.rd .aY⟩
 | bL hF hb hs=>exact⟨.bL hF hb hs,fun h=>by cases h⟩
 | slice Fs hb hroom hc hm hz hzz hsz hr hF hfs hdis=>exact⟨.slice Fs hb hroom hc hm hz hzz hsz hr hF hfs hdis,fun h=>by cases h⟩
 | agg Fs hs hr hfs hdis=>exact⟨.agg Fs hs hr hfs hdis,fun h=>by cases h⟩
 | al Fs hs hr hfs hdis=>exact⟨.al Fs hs hr hfs hdis,fun h=>by cases h⟩
 | ptr Fs hb hs hr hF hfs hdis=>exact⟨.ptr Fs hb hs hr hF hfs hdis,fun h=>by cases h⟩
theorem EP[Mode]{cx:Ctx}{fp:Nat->Nat->Prop}{G:Nat->Prop}{Q:Exit->Act->World->Prop}(h:Hp cx ct vl fp G w){f:FuncId}{xs:List X}(hk:aW P ds tr o (.call f xs)=true)
  (hx:∀y,y∈xs->∀x,aJ ds tr x y=true->cd w (aq cx fp G w) (af w ct vl) (a.eval x) (rd y)) (hob:∀j,(ct j).isObj=true->ob j=ct j)
  {dts:List D} (hd:iv ob rd xs=some dts) (hgt:dO rd xs=true) {res:D} (hR:aw P f (dts.map .v) res) (hn:res.a7=true\/kM rd xs) (g:Option Bool) (hg:g≠some false) {cr:D} (hcr:xX g res cr) {K:Act->World->Prop}
  (hK:∀(v:Value)(w':World)(F:Nat->Prop),Ext w w'->(∀b,F b->w.heap.size<=b/\b<w'.heap.size)->aI w' (iW (aq cx fp G w) w w' F) (af w ct vl) v F cr->(cr.isObj=false->∀b,¬F b)->K (a.put o.dst v) w') :
  o.wp P a w K Q:=by
 simp only[aW] at hk;split at hk<;>try(cases hk;done)
 rename_i f' as hop;obtain⟨ts,ho⟩:=zK hop;simp only[Bool.and_eq_true,beq_iff_eq] at hk;obtain⟨⟨rfl,hk1⟩,hk2⟩:=hk;have hlive:∀b,aq cx fp G w b->live w b:=fun b hb=>hb.1.1
 have hok:∀j,∃F,(∀b,F b->live w b)/\aI w (aq cx fp G w) (af w ct vl) (vl j) F (ct j):=fun j=>⟨fp j,fun b hb=>(h.lt j b hb).1,h.ok j⟩
 obtain⟨A',hAg,hA',hAr,hAs⟩:∃A':Nat->Prop,fb w A'/\(∀b,A' b->live w b)/\((as.length=dts.length/\∀(j:Nat)(d:D),dts[j]?=some d->Rd w A' ((as.map a.eval).getD j undef) d))/\(res.a7=true\/∀b,A' b->aq cx fp G w b):=by
  rcases hn with hn | hn
  ·exact⟨live w,h.gl.mono hlive (fun _ _=>rfl),fun _ h=>h,uK hk1 hx (fun y _ v x hv hg=>Gg hlive hob hok 4 hv hg) hd hgt,.inl hn⟩
  ·have hpl:∀y,y∈xs->(rd y).core.refs dD:=by
    clear hd hgt hx hk1;induction xs with
    | nil=>intro y hy;cases hy
    | cons z r ih =>
     intro y hy;rcases List.mem_cons.1 hy with rfl | hy
     ·exact hn.1
     ·exact ih hn.2 y hy
   exact⟨aq cx fp G w,h.gl,hlive,uK hk1 hx (fun y hy v x hv hg=>vj 4 hv (hpl y hy) hg) hd hgt,.inr fun _ h=>h⟩
 unfold Oper.wp;rw[xY ho hk2,Oper.upon_enter];refine(hR w A' _ (fun _ _=>False) hAg hA' (by simp[hAr.1]) (fun j x hj=>?_) (fun _ _ _ _ h=>h.elim) (fun _ _ h=>h.elim)).mono ?_
 ·rw[List.getElem?_map,Option.map_eq_some_iff] at hj
  obtain⟨d,hj,rfl⟩:=hj;refine⟨?_,fun _ h=>h⟩;have:=hAr.2 j d hj;simpa using this
 ·rintro e w' ⟨v,F,Fs',rfl,hsz,hown,hpost,hF,hFs',_,hsame,hos,htape,hout⟩
  have hFs0:∀j b,¬Fs' j b:=by
   intro j b hb;have hj:=(hFs' j b hb).2.2;rw[List.length_map] at hj;exact hpost j (.v dts[j]) (by rw[List.getElem?_map,List.getElem?_eq_getElem hj];rfl) b hb
  have hext:Ext w w':=⟨hsz,fun b hb=>hsame b hb (fun _ h=>h),hos,htape,hout⟩;have hFn:∀b,F b->w.heap.size<=b/\b<w'.heap.size:=fun b hb=>⟨(hF b hb).2.1.resolve_right fun⟨_,h⟩=>h,(hF b hb).1⟩
  have hown':aj w' (iW (aq cx fp G w) w w' F) v res F:=by
   rcases hAs with hn | hn
   ·exact sZ hown hn
   ·exact hown.mono (fun b hb=>hb.imp (hn b) fun hh=>⟨hh.1,hh.2.1,hh.2.2.1⟩) (fun _ _=>rfl) (fun _ _=>rfl) fun _ h=>h
  cases g with
  | none =>
   rcases hcr with rfl | rfl
   ·obtain⟨h1,h2⟩:=nz (R:=af w ct vl) hown'
    by_cases ho:(aQ res).isObj=true
    ·exact hK v w' F hext hFn h1 (fun hh=>by rw[ho] at hh;cases hh)
    ·have ho':(aQ res).isObj=false:=by simpa using ho
     refine hK v w' (fun _=>False) hext (fun _ h=>h.elim) ?_ (fun _ _ h=>h);exact(h2 ho').mono (Q:=fun _=>True) (fun b hb=>hb.imp id fun hh=>⟨hh.1,hh.2.1,fun h=>h⟩) (fun _ _=>rfl) (fun _ _=>rfl) (fun _ h=>h) (bn (fun _=>trivial) _) fun v d _ hr=>hr
   ·have hrd:Rd w' (iW (aq cx fp G w) w w' fun _=>False) v res :=
     hown'.rd (fun b hb=>hb.imp id fun hh=>⟨hh.1,hh.2.1,fun h=>h⟩) fun b hb=>.inr ⟨(hFn b hb).1,(hFn b hb).2,fun h=>h⟩
    have ho':(aQ (.vw res)).isObj=false:=by cases res<;>rfl
    exact hK v w' (fun _=>False) hext (fun _ h=>h.elim) ((nz (R:=af w ct vl) (aj.vw (F:=fun _=>False) hrd)).2 ho') (fun _ _ h=>h)
  | some b =>
   have hrd:Rd w' (iW (aq cx fp G w) w w' fun _=>False) v res :=
    hown'.rd (fun b hb=>hb.imp id fun hh=>⟨hh.1,hh.2.1,fun h=>h⟩) fun b hb=>.inr ⟨(hFn b hb).1,(hFn b hb).2,fun h=>h⟩
   rcases hcr with rfl | rfl
   ·exact hK v w' (fun _=>False) hext (fun _ h=>h.elim) ⟨fun _=>.rd hrd,fun hh=>by subst hh;exact absurd rfl hg⟩ (fun _ _ h=>h)
   ·exact hK v w' (fun _=>False) hext (fun _ h=>h.elim) ⟨fun _=>.rd (WN hrd),fun hh=>by subst hh;exact absurd rfl hg⟩ (fun _ _ h=>h)
end
end Go.D3
