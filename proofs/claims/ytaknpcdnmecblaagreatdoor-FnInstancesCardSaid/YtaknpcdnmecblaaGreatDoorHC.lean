/- CALLS whose arguments are only read. Generic. -/
import Derived.Test.YtaknpcdnmecblaaGreatDoorHB
import Derived.MapKept
import Derived.Laws.RangeAny
import Derived.Laws.BytesString
import Derived.Lib.ConvBytes
namespace Go.D3
open Go
theorem Mo:∀(xs l:List D)(off:Nat),(setCells l off xs).length=l.length
 | [],_,_=>rfl
 | x::r,l,off=>by simp[setCells,Mo r]
theorem Bx:∀(xs l:List D)(off j:Nat),off+xs.length<=l.length->(setCells l off xs)[j]?=if off<=j/\j<off+xs.length then xs[j-off]? else l[j]?
 | [],l,off,j,_=>by simp[setCells];intro h1 I;omega
 | x::r,l,off,j,h=>by
  simp only[List.length_cons] at h;rw[setCells,Bx r _ _ _ (by simp;omega)];simp only[List.length_cons];by_cases h1:off+1<=j/\j<off+1+r.length
  ·rw[if_pos h1,if_pos (by omega)]
   obtain⟨k,rfl⟩:∃k,j=off+1+k:=⟨j-(off+1),by omega⟩;simp[show off+1+k-off=k+1 by omega]
  ·rw[if_neg h1]
   by_cases I:j=off
   ·subst I
    rw[if_pos (by omega)];simp[show j<l.length by omega]
   ·rw[if_neg (by omega),List.getElem?_set_ne (by omega)]
def ib(cs:Array Value)(off:Nat):List Value->Array Value
 | []=>cs
 | v::r=>ib (cs.setIfInBounds off v) (off+1) r
theorem vJ:∀(l:List Value)(k off:Nat)(cs:Array Value),(l.zipIdx k).foldl (fun cs (p:Value×Nat)=>cs.setIfInBounds (off+p.2) p.1) cs=ib cs (off+k) l
 | [],_,_,_=>rfl
 | v::r,k,off,cs=>by
  simp only[List.zipIdx_cons,List.foldl_cons,ib];rw[vJ r (k+1) off];congr 1
theorem uE:∀(l:List Value)(off:Nat)(cs:Array Value),(ib cs off l).size=cs.size
 | [],_,_=>rfl
 | v::r,off,cs=>by rw[ib,uE r];simp
theorem uD:∀(l:List Value)(off:Nat)(cs:Array Value)(j:Nat),off+l.length<=cs.size->(ib cs off l).getD j undef=if off<=j/\j<off+l.length then l.getD (j-off) undef else cs.getD j undef
 | [],off,cs,j,_=>by simp[ib];intro h1 I;omega
 | v::r,off,cs,j,h=>by
  simp only[List.length_cons] at h;rw[ib,uD r _ _ _ (by simp;omega)];simp only[List.length_cons];by_cases h1:off+1<=j/\j<off+1+r.length
  ·rw[if_pos h1,if_pos (by omega)]
   obtain⟨k,rfl⟩:∃k,j=off+1+k:=⟨j-(off+1),by omega⟩;simp[show off+1+k-off=k+1 by omega]
  ·rw[if_neg h1]
   by_cases I:j=off
   ·subst I
    rw[if_pos (by omega)];simp[show j<cs.size by omega]
   ·rw[if_neg (by omega)]
    simp[Array.getElem?_setIfInBounds_ne (show off≠j by omega)]
section
variable{P:Program}{o:Oper}{w:World}{A:Nat->Prop}{ct:Nat->D}{vl:Nat->Value}{a:Act}{ds:List (Option Nat)}{tr:List Nat}{rd:X->D}
theorem ZV{R:Value->D->Prop}{cs vs:Array Value}{l xs:List D}{off:Nat}(Y:cs.size=l.length)(W:∀j c,l[j]?=some c->R (cs.getD j undef) c)
  (V:vs.size=xs.length) (S:∀j c,xs[j]?=some c->R (vs.getD j undef) c) (h:off+xs.length<=l.length) :
  (ib cs off vs.toList).size=(setCells l off xs).length/\∀j c,(setCells l off xs)[j]?=some c->R ((ib cs off vs.toList).getD j undef) c:=by
 refine⟨by rw[uE,Mo,Y],fun j c I=>?_⟩;rw[Bx _ _ _ _ h] at I;rw[uD _ _ _ _ (by simp;omega)];simp only[Array.length_toList,V];split at I
 ·rename_i h1
  rw[if_pos h1];have:=S _ _ I;simpa using this
 ·rename_i h1
  rw[if_neg h1];exact W _ _ I
theorem Ns{v:Value}{d:D}{F:Nat->Prop}(h:iK v d=true):aq w A v d F/\d.isAgg=false:=by
 unfold iK at h;split at h
 ·simp at h
  obtain⟨⟨h1,I⟩,S⟩:=h;subst h1;subst I;exact⟨.int (qb S),rfl⟩
 ·simp at h;subst h;exact⟨.bool,rfl⟩
 ·rename_i s
  have:s.data.toList=[]:=by simpa using h
  rw[yD s,this];exact⟨.str (by simp),rfl⟩
 ·exact⟨.dead,rfl⟩
 ·exact⟨.nil,rfl⟩
 ·exact⟨.bd,rfl⟩
 ·exact⟨.bS,rfl⟩
 ·exact⟨.bz,rfl⟩
 ·cases h
theorem xI{v:Value}{d:D}(h:iK v d=true):Rd w A v d :=
 ((Ns (w:=w) (A:=A) (F:=fun _=>False) h).1).rd (fun _ h=>h) (fun _ h=>h.elim)
theorem abJ{v:Value}{d:D}{F:Nat->Prop}(h:iK v (Ea d)=true):aq w A v d F:=by
 unfold Ea at h;split at h
 ·rename_i z
  have:v=.slice none 0 0:=by
   unfold iK at h;split at h<;>simp_all
  subst this;exact .vw .aH
 ·exact(Ns h).1
theorem Nv{v:Value}{d:D}(h:iK v (nE d)=true):Rd w A v d:=by
 cases d with
 | aH z =>
  simp only[nE] at h;unfold iK at h;split at h<;>first | exact .aH | cases h | (rename_i I _;cases I) | skip
  all_goals first | exact .aH | contradiction
 | _=>exact xI h
theorem abI{R:Value->D->Prop}{v:Value}{d:D}{F:Nat->Prop}(h:iK v (nE d)=true):ca w A R v F d:=by
 have I:=Nv (w:=w) (A:=A) h;cases d<;>first | exact Pl.rd I | (simp only[nE] at h;unfold iK at h;split at h<;>first | contradiction | cases h)
theorem Nu:∀{vs:List Value}{zs:List D},sH vs zs=true->vs.length=zs.length/\∀j z,zs[j]?=some z->iK (vs.getD j undef) z=true
 | [],[],_=>⟨rfl,by simp⟩
 | [],_::_,h=>by simp[sH] at h
 | _::_,[],h=>by simp[sH] at h
 | v::vs,d::zs,h=>by
  simp[sH] at h;obtain⟨h1,S⟩:=Nu h.2;refine⟨by simp[h1],fun j z I=>?_⟩;cases j with
  | zero=>simp at I;subst I;simpa using h.1
  | succ j=>simpa using S j z (by simpa using I)
theorem sI{t:TypeId}{zs:List D}(h:nG P t zs=true):∃i z,P.info? t=some i/\i.zero=some z/\i.size=zs.length/\z.cells.size=zs.length/\∀j d,zs[j]?=some d->iK (z.cells.getD j undef) d=true:=by
 unfold nG at h;cases hi:P.info? t with
 | none=>simp[hi] at h
 | some i =>
  cases I:i.zero with
  | none=>simp[hi,I] at h
  | some z =>
   simp[hi,I] at h;obtain⟨h1,S⟩:=Nu h.1;exact⟨i,z,rfl,I,h.2,by simpa using h1,fun j d V=>by simpa using S j d V⟩
theorem Qb{t f:Nat}{off:Nat}{W:TypeId}(h:lQ P t f=some (off,W)):∃V I,P.underlying t=some (.struct V)/\V[f]?=some I/\I.offset=off/\I.type=W:=by
 unfold lQ at h;cases hu:P.underlying t with
 | none=>simp[hu] at h
 | some d =>
  cases d<;>simp[hu] at h;obtain⟨I,S,h1,Y⟩:=h;exact⟨_,I,rfl,S,h1,Y⟩
theorem GR{t:TypeId}{Y:Array Field}(hu:P.underlying t=some (.struct Y)):∀{ps:List (Nat×Operand)}{parts:List (Nat×Nat×X)},pM P ds tr t ps parts=true ->
  ∀(places:Nat->Option (Nat×Nat)),(∀(i:Nat) V n,Y[i]?=some V->eG P V.type n=true->places i=some (V.offset,n)) ->
  ps.length=parts.length/\∀(j i:Nat) x off n y,ps[j]?=some (i,x)->parts[j]?=some (off,n,y)->places i=some (off,n)/\aP ds tr x y=true
 | [],[],_,_,_=>⟨rfl,by simp⟩
 | [],_::_,h,_,_=>by simp[pM] at h
 | _::_,[],h,_,_=>by simp[pM] at h
 | (i,x)::ps,(off,n,y)::parts,h,places,hp=>by
  simp only[pM,Bool.and_eq_true] at h;obtain⟨⟨h1,h2⟩,h3⟩:=h;obtain⟨h4,h5⟩:=GR hu h3 places hp;refine⟨by simp[h4],fun j=>?_⟩;cases j with
  | zero =>
   rintro Z x' off' n' y' he S;simp at he S;obtain⟨rfl,rfl⟩:=he;obtain⟨rfl,rfl,rfl⟩:=S;cases hf:lQ P t i with
   | none=>simp[hf] at h1
   | some q =>
    obtain⟨o',ft⟩:=q;simp[hf] at h1;obtain⟨ab,V,I,W,h6,h7⟩:=Qb hf;rw[hu] at I;injection I with I;injection I with I;subst I
    refine⟨?_,h2⟩;rw[<-h1.1,<-h6];exact hp i V n W (by rw[h7];exact h1.2)
  | succ j=>intro Z x' off' n' y' he S;exact h5 j Z x' off' n' y' (by simpa using he) (by simpa using S)
theorem Gh(places:Nat->Option (Nat×Nat)):∀(ps:List (Nat×Operand))(parts:List (Nat×Nat×X))(cs:Array Value)(l:List D)(g:Bool)(l':List D),ps.length=parts.length ->
  (∀(j i:Nat) x off n y,ps[j]?=some (i,x)->parts[j]?=some (off,n,y)->places i=some (off,n)/\aP ds tr x y=true) ->
  (∀y,y∈parts.map (·.2.2)->∀x,aP ds tr x y=true->cC w A (ai w ct vl) (a.eval x) (rd y)) ->
  cs.size=l.length->(∀j c,l[j]?=some c->Pl w A (ai w ct vl) (cs.getD j undef) c)->nX rd l parts=some (g,l')->g=true ->
  ∃S,Instr.fill places cs (ps.map fun(i,x)=>(i,a.eval x))=some S/\S.size=l'.length/\∀j c,l'[j]?=some c->Pl w A (ai w ct vl) (S.getD j undef) c
 | [],[],cs,l,g,l',_,_,_,h1,Y,I,_=>by
  simp[nX] at I;obtain⟨_,rfl⟩:=I;exact⟨cs,rfl,h1,Y⟩
 | [],_::_,_,_,_,_,h,_,_,_,_,_,_=>by simp at h
 | _::_,[],_,_,_,_,h,_,_,_,_,_,_=>by simp at h
 | (i,x)::ps,(off,n,y)::parts,cs,l,g,l',hl,hp,hr,h1,Y,I,hg=>by
  simp only[nX] at I;obtain⟨ad,hx⟩:=hp 0 i x off n y rfl rfl;cases hc:((rd y).core).cellsOf with
  | none=>simp[hc] at I
  | some xs =>
   simp only[hc,Option.bind_some] at I;split at I
   ·rename_i hlen
    rw[Option.bind_eq_some_iff] at I;obtain⟨⟨g',ag⟩,I,he⟩:=I;injection he with he
    injection he with V Z
    subst Z;rw[hg] at V;simp at V;have hv:=(hr y (by simp) x hx).1 V.1;obtain⟨h3,h4⟩:=nF hv hc;obtain⟨h5,h6⟩:=ZV (R:=Pl w A (ai w ct vl)) (off:=off) h1 Y h3 h4 (by omega)
    obtain⟨S,h7,h8⟩:=Gh places ps parts _ _ g' ag (by simpa using hl) (fun j i x off n y hj ab=>hp (j+1) i x off n y (by simpa using hj) (by simpa using ab))
     (fun y hy=>hr y (by simp only[List.map_cons,List.mem_cons];exact .inr hy)) h5 h6 I V.2
    refine⟨S,?_,h8⟩;simp only[List.map_cons,Instr.fill,ad];have W:¬((decide ((a.eval x).cells.size≠n) || decide (off+(a.eval x).cells.size > cs.size))=true):=by simp;omega
    rw[if_neg W];have:=vJ (a.eval x).cells.toList 0 off cs;simp only[Nat.add_zero] at this;rw[<-Array.foldl_toList,Array.toList_zipIdx,this];exact h7
   ·cases I
theorem abq{t:TypeId}{ps:Array (Nat×Operand)}(ho:o.op=.build t ps){zs:List D}{parts:List (Nat×Nat×X)}(hz:nG P t (zs.map nE)=true)(hp:pM P ds tr t ps.toList parts=true)
  (aK:∃I,P.underlying t=some (.struct I)/\∀f∈I.toList,(P.info? f.type).isSome=true)
  (hr:∀y,y∈parts.map (·.2.2)->∀x,aP ds tr x y=true->cC w A (ai w ct vl) (a.eval x) (rd y)) {g:Bool} {l:List D} (Z:nX rd zs parts=some (g,l)) (hg:g=true) :
  ∃v,Yd P o a w v/\Pl w A (ai w ct vl) v (.agg l):=by
 obtain⟨I,hu,V⟩:=aK;obtain⟨i,z,hi,ad,a1,ax,ao⟩:=sI hz
 have ag:I.toList.mapM (fun f=>(P.info? f.type).map fun i=>(f.offset,i.size))=some (I.toList.map fun f=>(f.offset,((P.info? f.type).map (·.size)).getD 0)):=by
  generalize I.toList=l at V;induction l with
  | nil=>rfl
  | cons f r ih =>
   have h1:=V f (by simp);cases W:P.info? f.type with
   | none=>simp[W] at h1
   | some q=>simp[List.mapM_cons,W,ih fun f Z=>V f (by simp[Z])]
 obtain⟨h1,h2⟩:=GR hu hp (fun i=>(I.toList.map fun f=>(f.offset,((P.info? f.type).map (·.size)).getD 0)).toArray[i]?) (fun i fl n ab Y=>by
  have:I.toList[i]?=some fl:=by simpa using ab
  simp only[List.getElem?_toArray,List.getElem?_map,this,Option.map_some];unfold eG at Y;cases W:P.info? fl.type with
  | none=>simp[W] at Y
  | some q=>simp[W] at Y;simp[Y])
 obtain⟨S,h3,h4,h5⟩:=Gh (w:=w) (A:=A) (ct:=ct) (vl:=vl) (a:=a) _ ps.toList parts z.cells zs g l h1 h2 hr (by simpa using ax) (fun j c hc=>.rd (Nv (ao j (nE c) (by rw[List.getElem?_map,hc];rfl)))) Z hg
 have hb:P.built t ((ps.map fun(i,x)=>(i,a.eval x)).toList)=some S:=by
  simp only[Program.built,hi,hu,ad,ag];rw[Array.toList_map];exact h3
 exact⟨.agg S,by simp only[Yd,execOp,ho];simp[run_build w t _ S hb],.agg h4 h5⟩
theorem F5{xs ys:Array Value}:∀(fs:List Field)(ks:List Nat)(i d:Nat)(l r:List D)(b:Bool),eqFields P i fs ks=true ->
  (∀(j:Nat) c,l[j]?=some c->i+j<xs.size/\Pl w A (ai w ct vl) (xs.getD (i+j) undef) c)->(∀(j:Nat) c,r[j]?=some c->i+j<ys.size/\Pl w A (ai w ct vl) (ys.getD (i+j) undef) c)->iQ ks l r=some b ->
  (Op.eqFields (d+1) xs ys fs).run P w=.ok b w
 | [],[],_,_,l,r,b,_,_,_,h=>by
  cases l<;>cases r<;>simp[iQ] at h;subst h;simp[Op.eqFields]
 | [],_::_,_,_,_,_,_,h,_,_,_=>by simp[eqFields] at h
 | _::_,[],_,_,_,_,_,h,_,_,_=>by simp[eqFields] at h
 | f::fs,k::ks,i,d,l,r,b,hf,h1,h2,h=>by
  simp only[eqFields,Bool.and_eq_true,decide_eq_true_eq] at hf;obtain⟨⟨⟨hn,ag⟩,I⟩,hf⟩:=hf;have a8:f.name≠ "_":=by simpa using hn
  have hc:lN P f.type=true:=by
   unfold oe at I;unfold lN;split at I<;>simp_all
  have key:∃x l' y r' b1 Z,l=x::l'/\r=y::r'/\b=(b1&&Z)/\iQ ks l' r'=some Z /\
    ((Pl w A (ai w ct vl) (xs.getD i undef) x->Pl w A (ai w ct vl) (ys.getD i undef) y->(Op.equalIn (d+1) f.type (xs.getD i undef) (ys.getD i undef)).run P w=.ok b1 w)):=by
   unfold oe at I;unfold iQ at h;split at h
   ·simp_all
   ·split at h
    ·rename_i hk
     subst hk;rw[Option.bind_eq_some_iff] at h;obtain⟨Z,S,h⟩:=h;injection h with h;subst h
     rename_i heq;injection heq with ad V
     subst V;refine⟨_,_,_,_,_,Z,rfl,rfl,rfl,S,fun W Y=>?_⟩;obtain⟨W,_⟩:=eY W;obtain⟨Y,_⟩:=eY Y;rw[W,Y];split at I<;>simp_all;exact run_equalIn_int w d f.type _ _ _ _ (by assumption)
    ·cases h
   ·rw[Option.bind_eq_some_iff] at h
    obtain⟨Z,S,h⟩:=h;injection h with h;subst h
    rename_i heq;injection heq with ad V
    subst V;refine⟨_,_,_,_,_,Z,rfl,rfl,rfl,S,fun W Y=>?_⟩;have W:=pl_bool W;have Y:=pl_bool Y;rw[W,Y];split at I<;>simp_all;exact run_equalIn_bool' w d f.type _ _ (by assumption)
   ·rw[Option.bind_eq_some_iff] at h
    obtain⟨Z,S,h⟩:=h;injection h with h;subst h
    rename_i heq;injection heq with ad V
    subst V;refine⟨_,_,_,_,_,Z,rfl,rfl,rfl,S,fun W Y=>?_⟩;obtain⟨W,_⟩:=iy W;obtain⟨Y,_⟩:=iy Y;rw[W,Y];split at I<;>simp_all;rw[run_equalIn_string w d f.type _ _ (by assumption),ByteArray.toList_eq,ByteArray.toList_eq]
   ·cases h
  obtain⟨x,l',y,r',b1,Z,rfl,rfl,rfl,ab,ao⟩:=key;obtain⟨ax,a1⟩:=h1 0 _ rfl;obtain⟨a6,a7⟩:=h2 0 _ rfl;simp only[Nat.add_zero] at ax a1 a6 a7;have bg:=Ay (P:=P) (w:=w) hc (cs:=xs) (off:=i) ax;have bF:=Ay (P:=P) (w:=w) hc (cs:=ys) (off:=i) a6;have he:=ao a1 a7;simp only[Op.eqFields,a8,ne_eq,not_false_eq_true,if_true,Sem.run_bind,ag,bg,bF,Result.andThen_ok,he,Sem.run_ite];cases b1
  ·simp
  ·simp only[Bool.not_true,Bool.false_eq_true,if_false,Bool.true_and]
   exact F5 fs ks (i+1) d l' r' Z hf
    (fun j c hj=>by have:=h1 (j+1) c (by simpa using hj);rwa [show i+(j+1)=i+1+j by omega] at this)
    (fun j c hj=>by have:=h2 (j+1) c (by simpa using hj);rwa [show i+(j+1)=i+1+j by omega] at this) ab
theorem abt{neg:Bool}{t u:TypeId}{x y:Operand}(ho:o.op=.binOp (if neg then .neq else .eql) t x y u){Z:Array Field}{ks:List Nat}(hu:P.underlying t=some (.struct Z))(hf:eqFields P 0 Z.toList ks=true)
  (hs:P.stoodInHeld t=false) (hq:P.eqGuardType P.depth t=false) {l r:List D} (hx:Pl w A (ai w ct vl) (a.eval x) (.agg l)) (hy:Pl w A (ai w ct vl) (a.eval y) (.agg r))
  {b:Bool} (hb:iQ ks l r=some b):Yd P o a w (.bool (if neg then !b else b)):=by
 obtain⟨xs,W,h1,h2⟩:=oD hx;obtain⟨ys,Y,h3,h4⟩:=oD hy;have I:P.fieldsOf t=Z:=by simp[Program.fieldsOf,hu]
 have V:=F5 (P:=P) (w:=w) (A:=A) (ct:=ct) (vl:=vl) (xs:=xs) (ys:=ys) Z.toList ks 0 9998 l r b hf
  (fun j c S=>⟨by have:=(List.getElem?_eq_some_iff.1 S).1;omega,by simpa using h2 j c S⟩) (fun j c S=>⟨by have:=(List.getElem?_eq_some_iff.1 S).1;omega,by simpa using h4 j c S⟩) hb
 have he:(Op.equalIn 10000 t (.agg xs) (.agg ys)).run P w=.ok b w:=by
  rw[run_equalIn_agg w 9999 t xs ys (by rw[I];exact hu) hs,I];exact V
 cases neg
 ·simp only[Bool.false_eq_true,if_false] at ho|-
  simp[Yd,execOp,ho,W,Y,run_eqGuard_agg (P:=P) w .eql t x y xs ys hq,run_eql_struct (P:=P) w t xs ys,he]
 ·simp only[if_true] at ho|-
  simp[Yd,execOp,ho,W,Y,run_eqGuard_agg (P:=P) w .neq t x y xs ys hq,run_neq_struct (P:=P) w t xs ys,he]
theorem Fc:∀{xs:List Operand}{ys:List X}{l:List D},fh ds tr xs ys=true->(∀y,y∈ys->∀x,aP ds tr x y=true->cC w A (ai w ct vl) (a.eval x) (rd y))->nT rd ys=some l ->
  xs.length=l.length/\∀j c,l[j]?=some c->Pl w A (ai w ct vl) ((xs.map a.eval).getD j undef) c
 | [],[],l,_,_,h=>by simp[nT] at h;subst h;simp
 | [],_::_,_,h,_,_=>by simp[fh] at h
 | _::_,[],_,h,_,_=>by simp[fh] at h
 | x::xs,y::ys,l,W,Z,h=>by
  simp only[fh,Bool.and_eq_true] at W;simp only[nT,Option.bind_eq_some_iff] at h;obtain⟨d,I,l',V,h⟩:=h;injection h with h;subst h
  obtain⟨h1,h2⟩:=Fc W.2 (fun y Y=>Z y (by simp[Y])) V;have hv:=Z y (by simp) x W.1;refine⟨by simp[h1],fun j c S=>?_⟩;cases j with
  | zero =>
   simp at S;subst S;cases Y:rd y<;>rw[Y] at I hv<;>simp[D.sO] at I
   all_goals
    subst I;exact hv.1 rfl
  | succ j=>simpa using h2 j c (by simpa using S)
theorem abB{f:FuncId}{caps:Array Operand}{first:Array Operand}(Z:o.op=.makeFunc (.func f) first caps)(I:first.isEmpty=true){ys:List X}(hx:fh ds tr caps.toList ys=true)
  (hr:∀y,y∈ys->∀x,aP ds tr x y=true->cC w A (ai w ct vl) (a.eval x) (rd y)) {l:List D} (Y:nT rd ys=some l):∃v,Yd P o a w v/\Pl w A (ai w ct vl) v (.fn f l):=by
 obtain⟨h1,S⟩:=Fc hx hr Y;have V:first=#[]:=by simpa using I
 subst V;refine⟨.func (.func f) #[] (caps.map a.eval),by simp[Yd,execOp,Z,Instr.makeFunc],.fn (by simpa using h1) fun j c W=>?_⟩;have:=S j c W;simpa using this
theorem yl{L:List D}{sz l h j:Nat}{x:D}(V : 0<sz)(I:cellAt ((L.take h).drop l) sz j=some x):cellAt L sz (l*sz+j)=some x:=by
 unfold cellAt at *;have h1:(l*sz+j) / sz=l+j / sz:=by rw[Nat.mul_comm,Nat.mul_add_div V]
 have S:(l*sz+j) % sz=j % sz:=by rw[Nat.mul_comm,Nat.mul_add_mod]
 rw[h1,S];cases hq:((L.take h).drop l)[j / sz]? with
 | none=>simp[hq] at I
 | some y =>
  rw[hq] at I;rw[List.getElem?_drop,List.getElem?_take] at hq;split at hq
  ·rw[hq];exact I
  ·cases hq
theorem sW{x:Option Operand}{y:Option X}(W:pO ds tr x y=true)(Z:∀z,y=some z->∀x,aP ds tr x z=true->cC w A (ai w ct vl) (a.eval x) (rd z)){I:Nat}{g:Bool}{m:Int}(h:lK rd I y=some (g,m))(hg:g=true) :
  (x.map a.eval=none/\m=I)\/∃k,x.map a.eval=some (.int k m):=by
 cases x<;>cases y<;>simp[pO] at W
 ·simp[lK] at h;exact .inl ⟨rfl,h.2.symm⟩
 ·rename_i z y
  simp only[lK,Option.bind_eq_some_iff] at h;obtain⟨n,S,h⟩:=h;injection h with h;injection h with h1 Y
  subst Y;have V:=(Z y rfl z W).1 (by rw[h1];exact hg);cases hc:(rd y).core<;>rw[hc] at S V<;>simp[D.int?] at S;subst S;exact .inr ⟨_,congrArg some (eY V).1⟩
theorem sX(V:Bool)(len cap:Nat)(hc:len<=cap)(lo hi:Option Value)(l h:Int)(h0 : 0<=l)(h1:l<=h)(h2:h<=len)
  (S:(lo=none/\l=0)\/∃k,lo=some (.int k l)) (I:(hi=none/\h=len)\/∃k,hi=some (.int k h)):(Instr.sliceBounds V len cap lo hi none).run P w=.ok (l.toNat,h.toNat,cap) w:=by
 have W:h<=(cap:Int):=by omega
 have Y : 0<=h:=by omega
 have Z:(h.toNat:Int)=h:=by omega
 rcases I with⟨rfl,rfl⟩ | ⟨k,rfl⟩<;>rcases S with⟨rfl,rfl⟩ | ⟨k',rfl⟩<;>simp[Instr.sliceBounds,Instr.sliceBound,asIntOf,h0,h1,W,Y,Z]
theorem data_extract(s:List UInt8)(l h:Nat):(⟨s.toArray⟩:ByteArray).extract l h=⟨((s.take h).drop l).toArray⟩:=by
 apply ByteArray.ext;rw[ByteArray.data_extract];apply Array.ext';simp[List.drop_take]
theorem abH{t:TypeId}{x:Operand}{lo hi:Option Operand}(ho:o.op=.slice t x lo hi none)(ht:P.underlying t=some .string){s:List UInt8}(hx:a.eval x=.string ⟨s.toArray⟩){l h:Int}(W : 0<=l)(h1:l<=h)(Y:h<=s.length)
  (S:(lo.map a.eval=none/\l=0)\/∃k,lo.map a.eval=some (.int k l)) (I:(hi.map a.eval=none/\h=s.length)\/∃k,hi.map a.eval=some (.int k h)) :
  Yd P o a w (.string ⟨((s.take h.toNat).drop l.toNat).toArray⟩):=by
 have Z:=sX (P:=P) (w:=w) false s.length s.length (Nat.le_refl _) (lo.map a.eval) (hi.map a.eval) l h W h1 Y S I;have V:(⟨s.toArray⟩:ByteArray).size=s.length:=rfl;simp[Yd,execOp,ho,hx,Instr.sliceAt,Instr.slice,run_underlying ht,V,Z,data_extract]
theorem Nr{t e:TypeId}{x:Operand}{lo hi:Option Operand}(ho:o.op=.slice t x lo hi none)(ht:P.underlying t=some (.slice e)){inf:TypeInfo}(S:P.info? e=some inf)(ag:inf.size=1){z:D}{L:List D}(a1:z.cells.length=1)
  (hx:Rd w A (a.eval x) (.slice z L)) {l h:Int} (h0 : 0<=l) (h1:l<=h) (W:h<=L.length)
  (Z:(lo.map a.eval=none/\l=0)\/∃k,lo.map a.eval=some (.int k l)) (Y:(hi.map a.eval=none/\h=L.length)\/∃k,hi.map a.eval=some (.int k h)) :
  ∃v,Yd P o a w v/\Rd w A v (.slice z ((L.take h.toNat).drop l.toNat)):=by
 have hlen:((L.take h.toNat).drop l.toNat).length=h.toNat-l.toNat:=by simp;omega
 have V:(Instr.sliceAt t (a.eval x) (lo.map a.eval) (hi.map a.eval) none).run P w=(Instr.slice t (a.eval x) (lo.map a.eval) (hi.map a.eval) none).run P w:=by
  simp[Instr.sliceAt,run_underlying ht]
 generalize hv:a.eval x=v at *;cases hx with
 | nil =>
  have hb:=sX (P:=P) (w:=w) true 0 0 (Nat.le_refl _) (lo.map a.eval) (hi.map a.eval) l h h0 h1 (by simpa using W) Z (by simpa using Y);have e1:l=0:=by simp at W;omega
  have e2:h=0:=by simp at W;omega
  subst e1;subst e2;refine⟨.slice none 0 0,?_,by simpa using Rd.nil⟩;simp only[Yd,execOp,ho,hv,Sem.run_bind,Option.map_none,V];simp[Instr.slice,run_underlying ht,hb,sizeOf,typeInfo,S]
 | @empty _ p cap hm =>
  have hb:=sX (P:=P) (w:=w) true 0 cap (Nat.zero_le _) (lo.map a.eval) (hi.map a.eval) l h h0 h1 (by simpa using W) Z (by simpa using Y);have e1:l=0:=by simp at W;omega
  have e2:h=0:=by simp at W;omega
  subst e1;subst e2;refine⟨.slice (some p) 0 cap,?_,by simpa using Rd.empty hm⟩;simp only[Yd,execOp,ho,hv,Sem.run_bind,Option.map_none,V];have I:p.add 0=p:=by unfold Addr.add;simp
  simp[Instr.slice,run_underlying ht,hb,sizeOf,typeInfo,S,I]
 | @slice _ _ b off cap sz hA hc hm hz hzz hsz vs hcells hr =>
  have ax:sz=1:=by omega
  subst ax;have hb:=sX (P:=P) (w:=w) true L.length cap hc (lo.map a.eval) (hi.map a.eval) l h h0 h1 W Z Y;by_cases ab:cap=l.toNat
  ·subst ab
   refine⟨.slice (some ⟨b,off,none⟩) (h.toNat-l.toNat) (l.toNat-l.toNat),?_,?_⟩
   ·simp only[Yd,execOp,ho,hv,Sem.run_bind,Option.map_none,V]
    simp[Instr.slice,run_underlying ht,hb,sizeOf,typeInfo,S]
   ·have:(L.take h.toNat).drop l.toNat=[]:=List.eq_nil_of_length_eq_zero (by omega)
    have ao:Rd w A (.slice (some ⟨b,off,none⟩) ([]:List D).length (l.toNat-l.toNat)) (.slice z []):=Rd.slice hA (by simp) (by omega) hz hzz (by simp) (fun _=>undef) (by simp[cellAt]) (by simp[cellAt]);rw[<-hlen,this];exact ao
  ·have ad:¬cap=l.toNat:=ab
   refine⟨.slice (some ⟨b,off+l.toNat*inf.size,none⟩) (h.toNat-l.toNat) (cap-l.toNat),?_,?_⟩
   ·simp only[Yd,execOp,ho,hv,Sem.run_bind,Option.map_none,V]
    have I:(⟨b,off,none⟩:Addr).add (l.toNat*inf.size)=⟨b,off+l.toNat*inf.size,none⟩:=by unfold Addr.add;split<;>simp_all
    simp[Instr.slice,run_underlying ht,hb,sizeOf,typeInfo,S,ad,I]
   ·rw[ag,<-hlen]
    refine Rd.slice hA (by omega) (by omega) hz hzz (fun y hy=>hsz y (List.mem_of_mem_take (List.mem_of_mem_drop hy))) (fun j=>vs (l.toNat*1+j)) (fun j y hy=>?_) (fun j y hy=>?_)
    ·have:=hcells _ _ (yl hz hy)
     rwa [<-Nat.add_assoc] at this
    ·exact hr _ _ (yl hz hy)
theorem abG{t e:TypeId}{x:Operand}{hi:Option Operand}(ho:o.op=.slice t x none hi none)(Y:P.underlying t=some (.slice e)){inf:TypeInfo}(I:P.info? e=some inf)
  {q:Option Addr} {m c:Nat} (hv:a.eval x=.slice q m c) (ad:m<=c) (hq:q=none->c=0) {h:Int} (h0 : 0<=h) (h1:h<=m)
  (ab:(hi.map a.eval=none/\h=m)\/∃k,hi.map a.eval=some (.int k h)):Yd P o a w (.slice q h.toNat c):=by
 have S:(Instr.sliceAt t (.slice q m c) none (hi.map a.eval) none).run P w=(Instr.slice t (.slice q m c) none (hi.map a.eval) none).run P w:=by
  simp[Instr.sliceAt,run_underlying Y]
 have Z:=sX (P:=P) (w:=w) true m c ad none (hi.map a.eval) 0 h (Int.le_refl _) h0 h1 (.inl ⟨rfl,rfl⟩) ab;cases q with
 | none =>
  have e1:=hq rfl;subst e1;have e2:m=0:=by omega
  subst e2;have e3:h=0:=by omega
  subst e3;simp only[Yd,execOp,ho,hv,Sem.run_bind,Option.map_none,S];simp[Instr.slice,run_underlying Y,Z,sizeOf,typeInfo,I]
 | some p =>
  have V:p.add 0=p:=by unfold Addr.add;simp
  by_cases W:c=0
  ·subst W
   simp only[Yd,execOp,ho,hv,Sem.run_bind,Option.map_none,S];simp[Instr.slice,run_underlying Y,Z,sizeOf,typeInfo,I]
  ·simp only[Yd,execOp,ho,hv,Sem.run_bind,Option.map_none,S]
   simp[Instr.slice,run_underlying Y,Z,sizeOf,typeInfo,I,W,V]
end
end Go.D3
namespace Go.D3
open Go
section
variable{op:Op}
theorem wJ{x:Operand}(h:wI op=some x):op=.move x\/op=.assign x:=by cases op<;>simp_all[wI]
theorem Wb{a b c:Operand}(h:As op=some (c,a,b)):op=.pick c a b:=by cases op<;>simp_all[As]
theorem tV{q:BinOp}{t:TypeId}{x y:Operand}(h:qd op=some (q,t,x,y)):∃u,op=.binOp q t x y u:=by cases op<;>simp_all[qd]
theorem Wc{t:TypeId}{x:Operand}(h:Au op=some (t,x)):op=.range t x:=by cases op<;>simp_all[Au]
theorem Wa{x:Operand}(h:Ar op=some x):op=.next x true:=by
 cases op<;>simp[Ar] at h;rename_i y b;cases b<;>simp at h;rw[h]
theorem V9{x:Operand}(h:Aq op=some x):∃t,op=.unOp .not t x:=by
 cases op<;>simp[Aq] at h;rename_i q t z;cases q<;>simp at h;exact⟨t,by rw[h]⟩
theorem Ac{s t:TypeId}{x:Operand}(h:ua op=some (s,t,x)):op=.convert s t x:=by cases op<;>simp_all[ua]
theorem qe{b:Builtin}{xs:List Operand}{I:List TypeId}(h:oz b op=some (xs,I)):op=.call { callee:=.builtin b,args:=xs.toArray,argTypes:=I.toArray }:=by
 cases op<;>simp[oz] at h;rename_i c;obtain⟨ce,as,S⟩:=c;cases ce<;>simp at h;obtain⟨rfl,rfl,rfl⟩:=h;rfl
theorem H9{f:FuncId}{xs:List Operand}(h:rW op=some (f,xs)):∃S,op=.call { callee:=.value (.func f),args:=xs.toArray,argTypes:=S }:=by
 cases op<;>simp[rW] at h;rename_i c;obtain⟨ce,as,I⟩:=c;cases ce<;>simp at h;rename_i v;cases v<;>simp at h;obtain⟨rfl,rfl⟩:=h;exact⟨I,rfl⟩
theorem V1{t:TypeId}{x y:Operand}(h:Ah op=some (t,x,y)):op=.indexAddr t x y:=by cases op<;>simp_all[Ah]
theorem Ib{t:TypeId}{x:Operand}(h:wH op=some (t,x)):op=.load t x:=by cases op<;>simp_all[wH]
theorem Ig{t:TypeId}{x y:Operand}(h:ud op=some (t,x,y)):op=.store t x y:=by cases op<;>simp_all[ud]
theorem Ia{t:TypeId}{x:Operand}{f:Nat}(h:Af op=some (t,x,f)):op=.fieldAddr t x f:=by cases op<;>simp_all[Af]
theorem V0{t:TypeId}{x:Operand}{f:Nat}(h:Ag op=some (t,x,f)):op=.field t x f:=by cases op<;>simp_all[Ag]
theorem VX{t:TypeId}{ps:Array (Nat×Operand)}(h:Aa op=some (t,ps)):op=.build t ps:=by cases op<;>simp_all[Aa]
theorem V2{t:TypeId}{x y:Operand}(h:Ai op=some (t,x,y)):op=.index t x y:=by cases op<;>simp_all[Ai]
theorem VZ{x:Operand}{i:Nat}(h:Ae op=some (x,i)):op=.extract x i:=by cases op<;>simp_all[Ae]
theorem Ic{x:Operand}(h:Ap op=some x):op=.nilCheck x:=by cases op<;>simp_all[Ap]
theorem wG{t:TypeId}{x:Operand}(h:tY op=some (t,x)):op=.box t x:=by cases op<;>simp_all[tY]
theorem VW{t:TypeId}(h:z8 op=some t):op=.alloc t:=by cases op<;>simp_all[z8]
theorem V6{t:TypeId}{x y:Operand}(h:Am op=some (t,x,y)):op=.makeSlice t x y:=by cases op<;>simp_all[Am]
theorem Ab{t:TypeId}{n:Nat}{ps:Array (Nat×Operand)}(h:tW op=some (t,n,ps)):op=.buildSlice t n ps:=by cases op<;>simp_all[tW]
theorem Ie{t:TypeId}{x:Operand}{lo hi:Option Operand}(h:wK op=some (t,x,lo,hi)):op=.slice t x lo hi none:=by
 cases op<;>simp[wK] at h;rename_i I S a b c;cases c<;>simp at h;obtain⟨rfl,rfl,rfl,rfl⟩:=h;rfl
theorem V4{t:TypeId}{x:Operand}(h:Ak op=some (t,x)):op=.makeInterface t x:=by cases op<;>simp_all[Ak]
theorem V7{f:FuncId}{a b:Array Operand}(h:An op=some (f,a,b)):op=.makeFunc (.func f) a b:=by
 cases op<;>simp[An] at h;rename_i fn x y;cases fn<;>simp at h;obtain⟨rfl,rfl,rfl⟩:=h;rfl
end
theorem BC{P:Program}{t:TypeId}{n:Nat}(h:eG P t n=true):∃i,P.info? t=some i/\i.size=n:=by
 unfold eG at h;cases hi:P.info? t with
 | none=>simp[hi] at h
 | some i=>simp[hi] at h;exact⟨i,rfl,h⟩
theorem kg{P:Program}{t e:TypeId}(h:jt P t=some e):P.underlying t=some (.slice e):=by
 unfold jt at h;split at h<;>simp_all
theorem fe{x:D}{r:Option PR}{side:Prop}{d:D}(h:g1 x r=some (side,d)):∃s,r=some (s,d)/\side=(x.gate=true/\s):=by
 cases r with
 | none=>cases h
 | some p=>obtain⟨s,I⟩:=p;simp only[g1,Option.some.injEq,Prod.mk.injEq] at h;obtain⟨h1,rfl⟩:=h;exact⟨s,rfl,h1.symm⟩
theorem pG{x y:D}{r:Option PR}{side:Prop}{d:D}(h:g2 x y r=some (side,d)):∃s,r=some (s,d)/\side=((x.gate=true/\y.gate=true)/\s):=by
 cases r with
 | none=>cases h
 | some p=>obtain⟨s,I⟩:=p;simp only[g2,Option.some.injEq,Prod.mk.injEq] at h;obtain⟨h1,rfl⟩:=h;exact⟨s,rfl,h1.symm⟩
section
variable{P:Program}{o:Oper}{w:World}{A:Nat->Prop}{ct:Nat->D}{vl:Nat->Value}{a:Act}{ds:List (Option Nat)}{tr:List Nat}{rd:X->D}{ob:Nat->D}
theorem QC{c:D}{p:Path}(h:c.ew p):c.isObj=true:=pJ h.1
theorem tF(I:∀j,(ct j).isObj=true->ob j=ct j){v:Value}{k:Nat}{p:Path}(h:ai w ct vl v (.sub k p)):lk ob k=some (ct k):=by
 have:=QC h.1;unfold lk;rw[I k this,if_pos this]
theorem zD(I:∀j,(ct j).isObj=true->ob j=ct j){v:Value}{k:Nat}{p:Path}(h:sJ w ct vl v k p):lk ob k=some (ct k):=by
 have:=pJ h.1;unfold lk;rw[I k this,if_pos this]
theorem Rl{y:D}{v:Value}{F:Nat->Prop}{n:Nat}(h:aq w A v y F)(I:y.cA=some n):∃q c,v=.slice q n c/\n<=maxLen/\(0<n->q≠none):=by
 cases y<;>simp[D.cA] at I<;>try(cases h;done)
 subst I;obtain⟨p,cap,h1,Y,Z,V⟩:=Ax h;refine⟨p,cap,h1,by omega,fun S=>?_⟩;obtain⟨_,_,W⟩:=V (List.ne_nil_of_length_pos S);rw[W];exact Option.some_ne_none _
theorem Rm{y:D}{v:Value}{n:Nat}(h:Rd w A v y)(I:y.cA=some n):∃q c,v=.slice q n c/\n<=maxLen/\(0<n->q≠none):=by
 cases y<;>simp[D.cA] at I<;>try(cases h;done)
 ·subst I
  obtain⟨p,cap,h1,Y,Z,V⟩:=I4 h;refine⟨p,cap,h1,by omega,fun S=>?_⟩;obtain⟨_,_,W,_⟩:=V (List.ne_nil_of_length_pos S);rw[W];exact Option.some_ne_none _
 ·subst I;cases h;exact⟨_,_,rfl,by simp,fun h=>absurd h (Nat.lt_irrefl 0)⟩
theorem Hh(ab:∀j,(ct j).isObj=true->ob j=ct j)(ad:∀j,∃F,aN w A (ai w ct vl) (vl j) F (ct j)){v:Value}{x:D}(W:Pl w A (ai w ct vl) v x){side:Prop}{d:D}(h:lZ ob x=some (side,d)) :
  ∃(n:Nat)(q:Option Addr)(c:Nat),d=.int .i64 n/\v=.slice q n c/\n<=maxLen/\(0<n->q≠none):=by
 unfold lZ at h;split at h
 ·rename_i k p
  have hr:=eD W;rw[tF ab hr,Option.bind_some,Option.bind_eq_some_iff] at h;obtain⟨n,I,h⟩:=h;simp only[one,Option.some.injEq,Prod.mk.injEq] at h;obtain⟨_,rfl⟩:=h;obtain⟨F,hF⟩:=ad k;rcases o8 hF hr with⟨z,l,Y,rfl,ao⟩ | ⟨F',S,_⟩ | ⟨l,Y,rfl⟩
  rotate_right
  ·rw[Y] at I;cases I
  ·rw[Y] at I hF
   obtain⟨b,sz,cs,e,h1,V,h3,h4,_⟩:=hF;simp only[D.bm,D.at,D.un,D.cA,Option.some.injEq] at I;subst I;exact⟨_,_,_,rfl,ao.trans h1,h4,fun _=>Option.some_ne_none _⟩
  ·obtain⟨q,c,h1,V⟩:=Rl S I
   exact⟨_,_,_,rfl,h1,V⟩
 ·rename_i ax
  rw[Option.bind_eq_some_iff] at h;obtain⟨n,I,h⟩:=h;simp only[one,Option.some.injEq,Prod.mk.injEq] at h;obtain⟨_,rfl⟩:=h
  have Z:∀z l,x≠.row z l:=by
   rintro z l rfl;cases W with
   | rd h=>cases h
   | ref h=>exact h.elim
  have ag:Rd w A v x:=by
   cases x<;>simp[D.cA] at I
   ·exact qi W
   ·exact absurd rfl (Z _ _)
   ·exact b8 W (by simp) (by simp) (by simp) (by simp) (by simp)
  obtain⟨q,c,h1,V⟩:=Rm ag I;exact⟨_,_,_,rfl,h1,V⟩
theorem N1{v:Value}{s:List UInt8}(h:Pl w A (ai w ct vl) v (.agg [.str s])):Rd w A v (.agg [.str s]):=by
 cases h with
 | rd h=>exact h
 | ref h=>exact h.elim
 | agg S V =>
  refine .agg S fun j y I=>?_
  have h1:=V j y I;cases j with
  | zero =>
   simp at I;subst I;exact b8 h1 (by simp) (by simp) (by simp) (by simp) (by simp) (by simp)
  | succ j=>simp at I
theorem Xh{z:D}{L:List D}{v:Value}(h:Rd w A v (.slice z L)){n:Nat}(S:n<L.length):∃b off c,v=.slice (some ⟨b,off,none⟩) L.length c/\Rd w A (.pointer (some ⟨b,off+n*z.cells.length,none⟩)) (.ptr (L.getD n z).cells)/\0<z.cells.length:=by
 have hL:L.getD n z=L[n]:=by rw[List.getD_eq_getElem?_getD,List.getElem?_eq_getElem S];rfl
 cases h with
 | empty=>simp at S
 | nil=>simp at S
 | @slice _ _ b off cap sz hA hc hm Y W hsz vs hcells hr =>
  subst W;refine⟨b,off,cap,rfl,?_,Y⟩
  have key:∀(j:Nat) x,(L.getD n z).cells[j]?=some x->cellAt L z.cells.length (n*z.cells.length+j)=some x:=by
   intro j x I;rw[hL] at I;have V:=(List.getElem?_eq_some_iff.1 I).1;rw[hsz _ (List.getElem_mem S)] at V;unfold cellAt;have Z:(n*z.cells.length+j) / z.cells.length=n:=by rw[Nat.mul_comm,Nat.mul_add_div Y,Nat.div_eq_of_lt V];rfl
   have e2:(n*z.cells.length+j) % z.cells.length=j:=by rw[Nat.mul_comm,Nat.mul_add_mod,Nat.mod_eq_of_lt V]
   rw[Z,e2,List.getElem?_eq_getElem S];exact I
  refine .ptr hA (fun j=>vs (n*z.cells.length+j)) (fun j x I=>?_) (fun j x I=>hr _ _ (key j x I));have:=hcells _ _ (key j x I)
  rwa [<-Nat.add_assoc] at this
theorem Hd(Y:∀j,(ct j).isObj=true->ob j=ct j)(Z:∀j,∃F,aN w A (ai w ct vl) (vl j) F (ct j)){v:Value}{x:D}(hv:Pl w A (ai w ct vl) v x){side:Prop}{d:D}(h:oh ob x=some (side,d)) :
  ∃b off u,v=.pointer (some ⟨b,off,none⟩)/\w.cell? ⟨b,off,none⟩=some u/\Pl w A (ai w ct vl) u d:=by
 unfold oh at h;split at h
 ·rename_i y r
  simp only[one,Option.some.injEq,Prod.mk.injEq] at h;obtain⟨_,rfl⟩:=h;obtain⟨b,off,h1,S,V⟩:=rZ hv;obtain⟨u,W,I⟩:=V 0 y rfl;exact⟨b,off,u,h1,W,.rd I⟩
 ·rename_i k p
  have hr:=gy hv;rw[zD Y hr,Option.bind_some] at h;simp only[one,Option.some.injEq,Prod.mk.injEq] at h;obtain⟨_,rfl⟩:=h;obtain⟨h1,ad,S,V⟩:=hr;obtain⟨F,hF⟩:=Z k;obtain⟨u,W,I,h6⟩:=zF hF h1 (by rintro rfl;simp[aJ] at S) S;obtain⟨b,off,sp⟩:=ad;simp only at I;cases sp with
  | some _=>simp at I
  | none=>exact⟨b,off,u,V,W,h6⟩
 ·cases h
theorem sQ(V:∀j,∃F,aN w A (ai w ct vl) (vl j) F (ct j)){v:Value}{k:Nat}{p:Path}(hr:sJ w ct vl v k p):∃b off,v=.pointer (some ⟨b,off,none⟩)/\p≠[]/\aJ w (vl k) (ct k) p=some ⟨b,off,none⟩:=by
 obtain⟨h1,Y,S,Z⟩:=hr;have I:p≠[]:=by rintro rfl;simp[aJ] at S
 obtain⟨F,hF⟩:=V k;obtain⟨u,h4,W,h6⟩:=zF hF h1 I S;obtain⟨b,off,sp⟩:=Y;simp only at W;cases sp with
 | some _=>simp at W
 | none=>exact⟨b,off,Z,I,S⟩
theorem E3{p:Path}(n:Nat)(h:p≠[]):bump p n≠[]:=by
 match p with
 | []=>exact absurd rfl h
 | [_]=>simp[bump]
 | _::_::_=>simp[bump]
theorem Ra{v:Value}{x:D}{i off n:Nat}{b o':Nat}(h:dI v x i off=some ⟨b,o',none⟩):dI v x i (off+n)=some ⟨b,o'+n,none⟩:=by
 unfold dI at *;cases hx:x.un<;>rw[hx] at h<;>simp only[dU] at h|-<;>try(cases h;done)
 all_goals
  split at h
  ·rename_i S _ _
   simp only[Option.some.injEq,Addr.mk.injEq] at h|-
   obtain⟨h1,V,I⟩:=h;exact⟨h1,by omega,I⟩
  ·cases h
theorem qR{n:Nat}:∀(p:Path){v:Value}{x:D}{b o':Nat},aJ w v x p=some ⟨b,o',none⟩->aJ w v x (bump p n)=some ⟨b,o'+n,none⟩
 | [],_,_,_,_,h=>by simp[aJ] at h
 | [(i,off)],v,x,b,o',h=>Ra h
 | (i,off)::t::p,v,x,b,o',h=>by
  simp only[aJ,Option.bind_eq_some_iff] at h;obtain⟨u,h1,I⟩:=h;have:=qR (n:=n) (t::p) I;obtain⟨S,off'⟩:=t;cases p<;>simp only[bump,aJ,h1,Option.bind_some] at this|-<;>exact this
theorem Hr(k:Nat)(c:D)(p:Path):∀(n j m:Nat),(looks k c p n j)[m]?=if m<n then some (pU k c (bump p (j+m))) else none
 | 0,j,m=>by simp[looks]
 | n+1,j,0=>by simp[looks]
 | n+1,j,m+1=>by
  simp only[looks,List.getElem?_cons_succ,Hr k c p n (j+1) m,Nat.add_lt_add_iff_right];rw[show j+1+m=j+(m+1) by omega]
theorem Hs(k:Nat)(c:D)(p:Path):∀(n j:Nat),(looks k c p n j).length=n
 | 0,_=>rfl
 | n+1,j=>by simp[looks,Hs k c p n]
theorem GI{c:D}{p:Path}:∀{n j:Nat},tq c p n j->∀m,m<n->c.aZ (bump p (j+m))
 | 0,_,_,m,hm=>by omega
 | n+1,j,h,0,_=>h.1
 | n+1,j,h,m+1,hm=>by
  have:=GI h.2 m (by omega)
  rwa [show j+1+m=j+(m+1) by omega] at this
theorem He(ad:∀j,(ct j).isObj=true->ob j=ct j)(Z:∀j,∃F,aN w A (ai w ct vl) (vl j) F (ct j)){n:Nat}{v:Value}{x:D}(hv:Pl w A (ai w ct vl) v x){side:Prop}{d:D}(h:oi n ob x=some (side,d))(hs:side) :
  ∃(b off:Nat)(cs:List Value),v=.pointer (some ⟨b,off,none⟩)/\cs.length=n/\(∀j u,cs[j]?=some u->w.cell? ⟨b,off+j,none⟩=some u)/\Pl w A (ai w ct vl) (.agg cs.toArray) d:=by
 have fin:∀(b off:Nat)(l:List D)(us:Nat->Value),l.length=n->(∀j x,l[j]?=some x->w.cell? ⟨b,off+j,none⟩=some (us j)/\Pl w A (ai w ct vl) (us j) x)->v=.pointer (some ⟨b,off,none⟩) ->
   ∃(b off:Nat)(cs:List Value),v=.pointer (some ⟨b,off,none⟩)/\cs.length=n/\(∀j u,cs[j]?=some u->w.cell? ⟨b,off+j,none⟩=some u)/\Pl w A (ai w ct vl) (.agg cs.toArray) (.agg l):=by
  intro b off l us hl hc hv;refine⟨b,off,(List.range n).map us,hv,by simp,fun j u V=>?_,.agg (by simp[hl]) fun j x I=>?_⟩
  ·rw[List.getElem?_map,Option.map_eq_some_iff] at V
   obtain⟨m,hm,rfl⟩:=V;obtain⟨h1,W⟩:=List.getElem?_eq_some_iff.1 hm;simp at h1 W;subst W;exact(hc j l[j] (List.getElem?_eq_getElem (by omega))).1
  ·have V:=(List.getElem?_eq_some_iff.1 I).1
   have:((List.range n).map us).toArray.getD j undef=us j:=by simp[show j<n by omega]
   rw[this];exact(hc j x I).2
 unfold oi at h;split at h
 ·rename_i l
  simp only[Option.some.injEq,Prod.mk.injEq] at h;obtain⟨h0,rfl⟩:=h;rw[<-h0] at hs;obtain⟨b,off,h1,W,h3⟩:=rZ hv
  have S:∀j,∃u,∀x,l[j]?=some x->w.cell? ⟨b,off+j,none⟩=some u/\Rd w A u x:=by
   intro j;cases V:l[j]? with
   | none=>exact⟨undef,by simp⟩
   | some x=>obtain⟨u,Y,h5⟩:=h3 j x V;exact⟨u,fun y hy=>by injection hy with hy;subst hy;exact⟨Y,h5⟩⟩
  refine fin b off (l.take n) (fun j=>Classical.choose (S j)) (by simp;omega) (fun j x I=>?_) h1;rw[List.getElem?_take] at I;split at I
  ·obtain⟨Y,h5⟩:=Classical.choose_spec (S j) x I
   exact⟨Y,.rd h5⟩
  ·cases I
 ·rename_i k p
  have hr:=gy hv;rw[zD ad hr,Option.bind_some] at h;simp only[Option.some.injEq,Prod.mk.injEq] at h;obtain⟨h0,rfl⟩:=h;rw[<-h0] at hs;obtain⟨b,off,h1,ab,W⟩:=sQ Z hr;obtain⟨F,hF⟩:=Z k
  have S:∀j,∃u,j<n->w.cell? ⟨b,off+j,none⟩=some u/\Pl w A (ai w ct vl) u (pU k (ct k) (bump p j)):=by
   intro j;by_cases V:j<n
   ·have h3:=GI hs j V
    rw[Nat.zero_add] at h3;obtain⟨u,Y,_,h6⟩:=zF hF h3 (E3 _ ab) (qR p W);exact⟨u,fun _=>⟨Y,h6⟩⟩
   ·exact⟨undef,fun h=>absurd h V⟩
  refine fin b off _ (fun j=>Classical.choose (S j)) (Hs _ _ _ _ _) (fun j x I=>?_) h1;rw[Hr] at I;split at I
  ·rename_i V
   injection I with I
   rw[Nat.zero_add] at I;subst I;exact Classical.choose_spec (S j) V
  ·cases I
 ·cases h
end
end Go.D3
namespace Go.D3
open Go
def kindOk(d:TypeDesc)(k:D):Prop :=
 match d,k with
 | .int _,.int _ _=>True
 | .bool,.bool _=>True
 | .string,.str _=>True
 | _,_=>False
theorem Ha{P:Program}{t:TypeId}{kk:Nat}{k:D}(I:oe P t kk=true)(hk:k.kK kk=true):∃d,P.underlying t=some d/\kindOk d k:=by
 unfold oe at I;split at I<;>try(cases I;done)
 all_goals
  rename_i hu;cases k<;>simp only[D.kK,Bool.false_eq_true] at hk<;>try(simp at hk;done)
  exact⟨_,hu,trivial⟩
theorem Zu{d:TypeDesc}{Z S:Value}{k x:D}{b:Bool}(V:kindOk d k)(hk:Sc Z k)(Y:Sc S x)(h:mT k x=some b):Instr.sameNow d Z S=some b/\(b=true->S=Z/\x=k):=by
 unfold mT at h;split at h
 ·split at h
  ·rename_i W
   subst W;injection h with h
   cases hk;cases Y;cases d<;>try exact V.elim
   subst h;refine⟨by simp[Instr.sameNow],fun I=>?_⟩;have:=eq_of_beq I;subst this;exact⟨rfl,rfl⟩
  ·cases h
 ·injection h with h
  cases hk;cases Y;cases d<;>try exact V.elim
  rename_i a b' _ _;subst h;refine⟨?_,fun I=>?_⟩
  ·simp only[Instr.sameNow,Option.some.injEq]
   rw[Bool.eq_iff_iff,MapKept.bytes_beq,beq_iff_eq];simp
  ·have:=eq_of_beq I
   subst this;exact⟨rfl,rfl⟩
 ·injection h with h
  cases hk;cases Y;cases d<;>try exact V.elim
  subst h;refine⟨rfl,fun I=>?_⟩;have:=eq_of_beq I;subst this;exact⟨rfl,rfl⟩
 ·cases h
theorem y9{d:TypeDesc}{S:Value}{k:D}(V:kindOk d k)(hk:Sc S k):∀(l:List MapEntry)(ks:List D)(n:Nat){r:Option Nat},l.length=ks.length ->
  (∀(j:Nat)(e:MapEntry)(x:D),l[j]?=some e->ks[j]?=some x->Sc e.key x)->fV k ks=some r ->
  Instr.findNow d S l n=some (r.map fun i=>(n+i,((l[i]?).map (·.val)).getD undef))/\∀i,r=some i->∃e,l[i]?=some e/\e.key=S/\ks[i]?=some k
 | [],[],n,r,_,_,h=>by
  simp only[fV,Option.some.injEq] at h;subst h;exact⟨rfl,fun i hi=>by cases hi⟩
 | [],_::_,_,_,h,_,_=>by simp at h
 | _::_,[],_,_,h,_,_=>by simp at h
 | e::l,x::ks,n,r,hl,W,h=>by
  simp only[fV,Option.bind_eq_some_iff] at h;obtain⟨b,hb,h⟩:=h;obtain⟨h1,h2⟩:=Zu V hk (W 0 e x rfl rfl) hb;cases b with
  | true =>
   simp only[if_true,Option.some.injEq] at h;subst h;obtain⟨h3,h4⟩:=h2 rfl;refine⟨by simp[Instr.findNow,h1],fun i hi=>?_⟩;injection hi with hi
   subst hi;exact⟨e,rfl,h3,by rw[h4];rfl⟩
  | false =>
   simp only[Bool.false_eq_true,if_false,Option.bind_eq_some_iff] at h;obtain⟨Y,I,h⟩:=h;injection h with h
   subst h;obtain⟨i1,i2⟩:=y9 V hk l ks (n+1) (by simpa using hl) (fun j e x hj hx=>W (j+1) e x (by simpa using hj) (by simpa using hx)) I;refine⟨?_,fun i hi=>?_⟩
   ·simp only[Instr.findNow,h1,i1]
    cases Y with
    | none=>rfl
    | some i=>simp only[Option.map_some,List.getElem?_cons_succ];rw[show n+1+i=n+(i+1) by omega]
   ·cases Y with
    | none=>cases hi
    | some j =>
     simp only[Option.map_some,Option.some.injEq] at hi;subst hi;obtain⟨Z,e1,e2,e3⟩:=i2 j rfl;exact⟨Z,by simpa using e1,e2,by simpa using e3⟩
theorem s5{P:Program}{w:World}{I:TypeId}{d:TypeDesc}{k:D}{S:Value}(hu:P.underlying I=some d)(V:kindOk d k)(hk:Sc S k)(e:Bool)(n:Nat):(Instr.checkKey e (n+1) I S).run P w=.ok () w:=by
 unfold Instr.checkKey;simp only[Sem.run_bind,run_underlying hu,Result.andThen];cases d<;>cases k<;>first | exact V.elim | (cases hk;simp)
theorem Sc.rd{w:World}{A:Nat->Prop}{v:Value}{d:D}(h:Sc v d):Rd w A v d:=by
 induction h with
 | int h=>exact .int h
 | bool=>exact .bool
 | str h=>exact .str h
 | agg I _ S=>exact .agg I S
theorem Bo{w:World}{A:Nat->Prop}{v:Value}{d:D}(h:Rd w A v d)(I:d.dv=true):Sc v d:=by
 cases h<;>first | cases I | skip
 ·exact .int ‹_›
 ·exact .bool
 ·exact .str ‹_›
theorem G4{kk:Nat}{d:D}(h:d.kK kk=true):d.dv=true:=by cases d<;>first | rfl | (simp[D.kK] at h)
section
variable{P:Program}{o:Oper}{w:World}{A:Nat->Prop}{ct:Nat->D}{vl:Nat->Value}{a:Act}{ob:Nat->D}
theorem HD(W:∀j,(ct j).isObj=true->ob j=ct j)(Y:∀j,∃F,aN w A (ai w ct vl) (vl j) F (ct j)){v:Value}{x:D}(h:Pl w A (ai w ct vl) v x){e:List D×List D}(hm:mapOf ob x=some e) :
  (v=.map none/\e=([],[]))\/∃r es clock,v=.map (some r)/\w.heap[r]?=some (.map es clock)/\pf es e.1 e.2:=by
 unfold mapOf at hm;split at hm
 ·rename_i k p
  have hr:=eD h;rw[tF W hr,Option.bind_some] at hm;obtain⟨F,hF⟩:=Y k;rcases o8 hF hr with⟨z,l,S,rfl,_⟩ | ⟨F',I,_,_,_⟩ | ⟨l,S,rfl⟩
  rotate_right
  ·rw[S] at hm;cases hm
  ·rw[S] at hm;cases hm
  ·generalize(ct k).bm p=y at hm I
   cases I<;>simp only[D.kP,reduceCtorEq,Option.some.injEq] at hm;subst hm;exact .inr ⟨_,_,_,rfl,‹_›,‹_›⟩
 ·rename_i V
  have Z:=b8 h (fun k p hh=>V k p hh) (by rintro k p rfl;cases hm) (by rintro f c rfl;cases hm) (by rintro l rfl;cases hm) (by rintro l rfl;cases hm) (by rintro k p n rfl;cases hm);cases Z<;>simp only[D.rQ,reduceCtorEq,Option.some.injEq] at hm
  ·subst hm;exact .inr ⟨_,_,_,rfl,‹_›,‹_›⟩
  ·subst hm;exact .inl ⟨rfl,rfl⟩
theorem JX{t:TypeId}{i:TypeInfo}{z:Value}(h:P.info? t=some i)(I:i.zero=some z):(zeroValue t).run P w=.ok z w:=by
 simp[zeroValue,typeInfo,h,I]
theorem Rr{t kt et:TypeId}{d:TypeDesc}{Z m W:Value}{k:D}{e:List D×List D}{r:Option Nat}{i:TypeInfo}(ok:Bool)(hm:P.underlying t=some (.map kt et))(hu:P.underlying kt=some d)(S:kindOk d k)(hk:Sc Z k)
  (hv:(m=.map none/\e=([],[]))\/∃r es clock,m=.map (some r)/\w.heap[r]?=some (.map es clock)/\pf es e.1 e.2) (Y:fV k e.1=some r) (hi:P.info? et=some i) (hz:i.zero=some W) {z:D} (I:Sc W z) :
  ∃u,(Instr.lookup t m Z ok).run P w=.ok (if ok then .tuple #[u,.bool r.isSome] else u) w/\Sc u (jW z e.2 r):=by
 rcases hv with⟨rfl,rfl⟩ | ⟨b,es,clock,rfl,hb,hE⟩
 ·simp only[fV,Option.some.injEq] at Y
  subst Y;refine⟨W,?_,I⟩;unfold Instr.lookup;simp only[Sem.run_bind,run_underlying hm,Result.andThen_ok,Sem.run_pure,s5 hu S hk,MapKept.run_findKey hu (show Instr.findNow d Z (#[]:Array MapEntry).toList 0=some none from rfl),JX hi hz];cases ok<;>rfl
 ·obtain⟨⟨l1,l2,l3⟩,s1,s2⟩:=hE
  obtain⟨f1,f2⟩:=y9 S hk es.toList e.1 0 (by simpa using l1) (fun j x y V hy=>s1 j x y (by simpa using V) hy) Y;cases r with
  | none =>
   refine⟨W,?_,I⟩;unfold Instr.lookup;simp only[Sem.run_bind,run_underlying hm,Result.andThen_ok,Sem.run_pure,MapKept.run_getObj_map hb,s5 hu S hk,MapKept.run_findKey hu f1,JX hi hz,Option.map_none];cases ok<;>rfl
  | some j =>
   obtain⟨x,x1,x2,x3⟩:=f2 j rfl;have V:j<e.2.length:=by have:=(List.getElem?_eq_some_iff.1 x1).1;simp at this;omega
   refine⟨x.val,?_,?_⟩
   ·unfold Instr.lookup
    simp only[Sem.run_bind,run_underlying hm,Result.andThen_ok,Sem.run_pure,MapKept.run_getObj_map hb,s5 hu S hk,MapKept.run_findKey hu f1,Option.map_some,x1,Option.getD_some];cases ok<;>rfl
   ·have:jW z e.2 (some j)=e.2[j]:=by simp[jW,V]
    rw[this];exact s2 j x _ (by simpa using x1) (List.getElem?_eq_getElem V)
theorem Tl{o:Oper}{a:Act}{neg:Bool}{v:Value}{d:D}(h:Pl w A (ai w ct vl) v d){side:Prop}{s:D}(I:rT neg d=some (side,s)){t:TypeId}{ms:Array (String×TypeId)}(hu:P.underlying t=some (.interface ms)){x:Operand}{u:TypeId}(V:o.op=.binOp (if neg then .neq else .eql) t x (.const .nilIface) u)(W:a.eval x=v) :
  ∃b,s=.bool b/\(execOp a.eval o).run P w=.ok (.value (.bool b)) w:=by
 have S:a.eval (.const .nilIface)=.nilIface:=rfl;unfold rT at I;split at I
 ·simp only[Option.some.injEq,Prod.mk.injEq] at I
  obtain⟨_,rfl⟩:=I;have:=b8 h (by simp) (by simp) (by simp) (by simp) (by simp) (by simp);cases this;have e:∀n:Nat,(Op.equalIn (n+1) t .nilIface .nilIface).run P w=.ok true w:=fun n=>by simp[Op.equalIn,run_underlying hu]
  refine⟨_,rfl,?_⟩;cases neg<;>simp[execOp,V,W,S,eqGuard,binOp,Op.equal,Op.maxDepth,e 9999]
 ·rename_i Y y
  simp only[Option.some.injEq,Prod.mk.injEq] at I;obtain⟨_,rfl⟩:=I;have:=b8 h (by simp) (by simp) (by simp) (by simp) (by simp) (by simp);cases this;have e:∀n:Nat,∀v,(Op.equalIn (n+1) t (.iface Y v) .nilIface).run P w=.ok false w:=fun n v=>by simp[Op.equalIn,run_underlying hu]
  refine⟨_,rfl,?_⟩;cases neg<;>simp[execOp,V,W,S,eqGuard,binOp,Op.equal,Op.maxDepth,e 9999]
 ·cases I
theorem V5{op:Op}{t:TypeId}(h:Al op=some t):op=.makeMap t none:=by
 cases op<;>simp[Al] at h;rename_i I r;cases r<;>simp at h;rw[h]
theorem V3{op:Op}{t:TypeId}{x i:Operand}{ok:Bool}(h:Aj op=some (t,x,i,ok)):op=.lookup t x i ok:=by cases op<;>simp_all[Aj]
theorem V8{op:Op}{t:TypeId}{m k v:Operand}(h:Ao op=some (t,m,k,v)):op=.mapUpdate t m k v:=by cases op<;>simp_all[Ao]
theorem we{t k e:TypeId}(h:rM P t=some (k,e)):P.underlying t=some (.map k e):=by
 unfold rM at h;split at h
 ·rename_i hu
  injection h with h;injection h with h1 I
  subst h1;subst I;exact hu
 ·cases h
theorem abK{t:TypeId}{d:D}(h:zeroV P t d=true):∃i z,P.info? t=some i/\i.zero=some z/\Sc z d:=by
 unfold zeroV at h;split at h
 ·rename_i i hi
  split at h
  ·rename_i z I
   simp only[Bool.and_eq_true] at h;exact⟨i,z,hi,I,Bo (xI (w:=default) (A:=fun _=>False) h.1) h.2⟩
  ·cases h
 ·cases h
theorem O0{w:World}{A:Nat->Prop}{vs:Nat->Value}:∀{l:List D}{s:List UInt8},bytesOf l=some s->(∀j x,l[j]?=some x->Rd w A (vs j) x) ->
  ∃S:List Int,S.length=l.length/\(∀j n,S[j]?=some n->vs j=.int .u8 n)/\s=S.map fun n=>UInt8.ofNat n.toNat:=by
 intro l;induction l generalizing vs with
 | nil=>intro s h _;simp only[bytesOf,Option.some.injEq] at h;subst h;exact⟨[],rfl,by simp,rfl⟩
 | cons x r ih =>
  intro s h Y;unfold bytesOf at h;split at h
  ·rename_i V;cases V
  ·rename_i n r' V
   injection V with h1 Z
   subst h1;subst Z;rw[Option.bind_eq_some_iff] at h;obtain⟨s',W,h⟩:=h;injection h with h
   subst h;obtain⟨S,n1,n2,n3⟩:=ih (vs:=fun j=>vs (j+1)) W (fun j y I=>Y (j+1) y (by simpa using I));refine⟨n::S,by simp[n1],fun j m I=>?_,by rw[n3];rfl⟩;cases j with
   | zero =>
    simp at I;subst I;have:=Y 0 _ rfl;generalize vs 0=u at this|-
    cases this;rfl
   | succ j=>exact n2 j m (by simpa using I)
  ·cases h
theorem foldl_push(I:List Int):∀(s:ByteArray),I.foldl (fun r n=>r.push (UInt8.ofNat n.toNat)) s=⟨s.data++(I.map fun n=>UInt8.ofNat n.toNat).toArray⟩:=by
 induction I with
 | nil=>intro s;simp
 | cons n I S =>
  intro s;rw[List.foldl_cons,S];have:(s.push (UInt8.ofNat n.toNat)).data=s.data.push (UInt8.ofNat n.toNat):=rfl;rw[this];congr 1;apply Array.ext';simp
theorem E7:∀{L:List D}{l:List UInt8},bytesOf L=some l->∀x∈L,x.cells=[x]
 | [],_,_,x,S=>by cases S
 | y::r,l,I,x,S=>by
  unfold bytesOf at I;split at I
  ·rename_i V;cases V
  ·rename_i n Z V
   injection V with h1 Y
   subst h1;subst Y;rw[Option.bind_eq_some_iff] at I;obtain⟨s',W,_⟩:=I;rcases List.mem_cons.1 S with rfl | S
   ·rfl
   ·exact E7 W x S
  ·cases I
theorem OY{sz j:Nat}{x:D}:∀{L:List D}{l:List UInt8},bytesOf L=some l->cellAt L sz j=some x->∃n,x=.int .u8 n:=by
 intro L l I Z
 have go:∀{L:List D}{l:List UInt8},bytesOf L=some l->∀d∈L,∃n,d=.int .u8 n:=by
  intro L;induction L with
  | nil=>intro _ _ d S;cases S
  | cons y r ih =>
   intro l I d S;unfold bytesOf at I;split at I
   ·rename_i V;cases V
   ·rename_i n r' V
    injection V with h1 W
    subst h1;subst W;rw[Option.bind_eq_some_iff] at I;obtain⟨s',Y,_⟩:=I;rcases List.mem_cons.1 S with rfl | S
    ·exact⟨n,rfl⟩
    ·exact ih Y d S
   ·cases I
 unfold cellAt at Z;rw[Option.bind_eq_some_iff] at Z;obtain⟨d,h1,W⟩:=Z;obtain⟨n,rfl⟩:=go I d (List.mem_of_getElem? h1);have:=List.mem_of_getElem? W;simp only[D.cells,List.mem_singleton] at this;exact⟨n,this⟩
theorem PD(ax:∀j,(ct j).isObj=true->ob j=ct j)(a1:∀j,∃F,aN w A (ai w ct vl) (vl j) F (ct j)){v:Value}{x:D}(h:Pl w A (ai w ct vl) v x){side:Prop}{res:D}(S:rh ob x=some (side,res))
  {s t e:TypeId} (hs:P.underlying s=some (.slice e)) (he:P.underlying e=some (.int .u8)) (ht:P.underlying t=some .string) :
  ∃l:List UInt8,res=.str l/\l.length<=maxLen/\(convert s t v).run P w=.ok (.string ⟨l.toArray⟩) w:=by
 have Z:∀l:List UInt8,v=.slice none 0 0->l=[]->(convert s t v).run P w=.ok (.string ⟨l.toArray⟩) w:=by
  rintro l rfl rfl;rw[run_convert_bytes_string w s t e none 0 0 hs he ht];simp[Conv.bytesToString];rfl
 have key:∀{d:D}{l:List UInt8},d.mz=some l->Rd w (fun _=>True) v d->l.length<=maxLen/\(convert s t v).run P w=.ok (.string ⟨l.toArray⟩) w:=by
  intro d l I hr;cases hr<;>simp only[D.mz,reduceCtorEq] at I
  ·simp only[bytesOf,Option.some.injEq] at I;subst I
   exact⟨Nat.zero_le _,Z _ rfl rfl⟩
  ·simp only[bytesOf,Option.some.injEq] at I;subst I
   refine⟨Nat.zero_le _,?_⟩;rw[run_convert_bytes_string w s t e _ _ _ hs he ht,run_bytesToString w _ 0 _ [] (by simpa using run_loadCells_list (P:=P) w _ [] (fun j v W=>by simp at W))];rfl
  ·rename_i z L b off cap sz hA S hm hz b1 bg vs Y a6
   have h1:∀x∈L,x.cells=[x]:=E7 I
   have V:∀j,cellAt L 1 j=L[j]?:=fun j=>by
    unfold cellAt;rw[Nat.div_one,Nat.mod_one];cases hq:L[j]? with
    | none=>rfl
    | some d=>simp[h1 d (List.mem_of_getElem? hq)]
   by_cases ad:L=[]
   ·subst ad
    simp only[bytesOf,Option.some.injEq] at I;subst I;refine⟨Nat.zero_le _,?_⟩;rw[run_convert_bytes_string w s t e _ _ _ hs he ht,List.length_nil,run_bytesToString w _ 0 _ [] (by simpa using run_loadCells_list (P:=P) w _ [] (fun j v W=>by simp at W))];rfl
   have a8:sz=1:=by
    obtain⟨x,hx⟩:=List.exists_mem_of_ne_nil L ad;have:=bg x hx;rw[h1 x hx] at this;exact this.symm
   subst a8;obtain⟨ns,n1,n2,n3⟩:=O0 I (fun j x hx=>a6 j x (by rw[V];exact hx));have b0:l.length=L.length:=by rw[n3,List.length_map,n1]
   refine⟨by omega,?_⟩;rw[run_convert_bytes_string w s t e _ _ _ hs he ht,run_bytesToString w _ L.length _ ns,foldl_push,<-n3]
   ·simp
   ·have:=run_loadCells_list (P:=P) w ⟨b,off,none⟩ (ns.map (Value.int .u8)) (fun j v W=>by
     rw[List.getElem?_map,Option.map_eq_some_iff] at W;obtain⟨n,hn,rfl⟩:=W;have bT:=(List.getElem?_eq_some_iff.1 hn).1;rw[Addr.add_lit,<-n2 j n hn]
     exact Y j L[j] (by rw[V];exact List.getElem?_eq_getElem (by omega)))
    rw[List.length_map,n1] at this;exact this
  ·injection I with I
   subst I;exact⟨Nat.zero_le _,Z _ rfl rfl⟩
 unfold rh at S;split at S
 ·rename_i k p
  have hr:=eD h;rw[tF ax hr,Option.bind_some,Option.bind_eq_some_iff] at S;obtain⟨l,I,S⟩:=S;simp only[one,Option.some.injEq,Prod.mk.injEq] at S;obtain⟨_,rfl⟩:=S;obtain⟨F,hF⟩:=a1 k;rcases o8 hF hr with⟨z,l',ab,rfl,bF⟩ | ⟨F',ag,_,_,_⟩ | ⟨l',ab,rfl⟩
  rotate_right
  ·rw[ab] at I;cases I
  ·rw[ab] at I hF
   have I:bytesOf l'=some l:=I;obtain⟨b,sz,cs,e,h1,h2,h3,h4,h5,h6,h7,h8,h9⟩:=hF;refine⟨l,rfl,key (d:=.slice z l') I ?_⟩;rw[bF,h1];refine .slice trivial (Nat.le_refl _) h4 h5 h6 h7 (fun j=>cs.getD j undef) (fun j x W=>?_) (fun j x W=>?_)
   ·rw[Nat.zero_add]
    exact fQ h2 (by have:=mB h5 W;omega)
   ·have hx:=(h8 j x W).1
    obtain⟨n,rfl⟩:=OY I W;exact(eY hx).1▸.int (eY hx).2
  ·exact⟨l,rfl,key I (ag.rd (fun _ _=>trivial) fun _ _=>trivial)⟩
 ·rename_i ao
  rw[Option.bind_eq_some_iff] at S;obtain⟨l,I,S⟩:=S;simp only[one,Option.some.injEq,Prod.mk.injEq] at S;obtain⟨_,rfl⟩:=S;have a7:=b8 h (fun k p hh=>ao k p hh) (by rintro k p rfl;cases I) (by rintro f c rfl;cases I) (by rintro l rfl;cases I) (by rintro l rfl;cases I) (by rintro k p n rfl;cases I);exact⟨l,rfl,key I (a7.mono (fun _ _=>trivial) fun _ _=>rfl)⟩
end
end Go.D3
namespace Go.D3
open Go
section
variable{P:Program}{o:Oper}{w:World}{A:Nat->Prop}{ct:Nat->D}{vl:Nat->Value}{a:Act}{ds:List (Option Nat)}{tr:List Nat}{rd:X->D}{ob:Nat->D}
theorem Is{v:Value}{y:D}{F:Nat->Prop}(h:aq w A v y F):(∀z l,y≠.row z l)/\∀z,y≠.aH z:=by
 cases h<;>exact⟨by simp,by simp⟩
theorem WH{v:Value}{z:D}{l:List D}(h:Pl w A (ai w ct vl) v (.row z l)):False:=by
 cases h with
 | rd h=>cases h
 | ref h=>exact h.elim
theorem Ix{k:Kp}{side:Prop}{res:D}(hp:bO k rd ob=some (side,res))(hk:bb P ds tr o k=true)
  (hx:∀y,y∈k.xs->∀x,aP ds tr x y=true->cC w A (ai w ct vl) (a.eval x) (rd y))
  (a1:∀j,(ct j).isObj=true->ob j=ct j) (ax:∀j,∃F,aN w A (ai w ct vl) (vl j) F (ct j)) (hs:side):∃v,Yd P o a w v/\Pl w A (ai w ct vl) v res:=by
 cases k<;>try(simp[bO] at hp;done)
 case mv y =>
  simp only[bb] at hk;split at hk<;>try(cases hk;done)
  rename_i Z V;have hp:g1 (rd y) (one (rd y).core)=some (side,res):=hp;obtain⟨s,h1,rfl⟩:=fe hp;simp only[one,Option.some.injEq,Prod.mk.injEq] at h1;obtain⟨_,rfl⟩:=h1;exact⟨_,xG (wJ V),(hx y (by simp[Kp.xs]) Z hk).1 hs.1⟩
 case pick c x y =>
  simp only[bb] at hk;split at hk<;>try(cases hk;done)
  rename_i c' a' b' V;have Y:=Wb V;simp only[Bool.and_eq_true] at hk;have hc:=hx c (by simp[Kp.xs]) c' hk.1.1;have I:=hx x (by simp[Kp.xs]) a' hk.1.2;have ao:=hx y (by simp[Kp.xs]) b' hk.2;simp only[bO] at hp;generalize eB:(rd c).core=cc at hp;generalize gg:(rd x).core=xx at hp;generalize gn:(rd y).core=yy at hp;unfold wO at hp;split at hp
  ·rename_i cb p q
   simp only[Option.some.injEq,Prod.mk.injEq] at hp;obtain⟨rfl,rfl⟩:=hp;obtain⟨h1,h2,h3⟩:=hs;have hc:=hc.1 h1;rw[eB] at hc;refine⟨_,abE (cb:=cb) (p:=p) (q:=q) Y (pl_bool hc) (fun hb=>?_) (fun hb=>?_),.rd .bool⟩
   ·have:=I.1 (h2 hb);rw[gg] at this;exact pl_bool this
   ·have:=ao.1 (h3 hb);rw[gn] at this;exact pl_bool this
  ·cases hp
 case bin op x y =>
  simp only[bb] at hk;split at hk<;>try(cases hk;done)
  rename_i cp t Z y' V;obtain⟨u,Y⟩:=tV V;simp only[Bool.and_eq_true,decide_eq_true_eq] at hk;obtain⟨⟨rfl,W⟩,S⟩:=hk;obtain⟨s,h1,rfl⟩:=pG hp;obtain⟨⟨g1,g2⟩,hs⟩:=hs;have I:=(hx x (by simp[Kp.xs]) Z W).1 g1;have ao:=(hx y (by simp[Kp.xs]) y' S).1 g2;generalize(rd x).core=xx at h1 I;generalize(rd y).core=yy at h1 ao;unfold sU at h1;split at h1
  ·split at h1
   ·rename_i cv
    subst cv;obtain⟨e1,e2⟩:=eY I;obtain⟨e3,e4⟩:=eY ao;obtain⟨v,hv,bF⟩:=QM (w:=w) (P:=P) (o:=o) (a:=a) e2 h1 hs;exact⟨v,bF Y e1 e3,.rd (hv.mono (fun _ h=>h.elim) fun _ h=>h.elim)⟩
   ·cases h1
  ·obtain⟨v,hv,bF⟩:=aaH (w:=w) (P:=P) (o:=o) (a:=a) h1 hs
   exact⟨v,bF Y (iy I).1 (iy ao).1,.rd (hv.mono (fun _ h=>h.elim) fun _ h=>h.elim)⟩
  ·cases h1
 case shr x y =>
  simp only[bb] at hk;split at hk<;>try(cases hk;done)
  rename_i cp t Z y' V;obtain⟨u,Y⟩:=tV V;simp only[Bool.and_eq_true,decide_eq_true_eq] at hk;obtain⟨⟨rfl,W⟩,S⟩:=hk;obtain⟨s,h1,rfl⟩:=pG hp;obtain⟨⟨g1,g2⟩,hs⟩:=hs;have I:=(hx x (by simp[Kp.xs]) Z W).1 g1;have ao:=(hx y (by simp[Kp.xs]) y' S).1 g2;generalize(rd x).core=xx at h1 I;generalize(rd y).core=yy at h1 ao;unfold xk at h1;split at h1
  ·injection h1 with h1
   injection h1 with h1 a6
   subst a6;rw[<-h1] at hs;obtain⟨e1,e2⟩:=eY I;obtain⟨e3,e4⟩:=eY ao;exact⟨_,abF Y e1 e3 hs.1 hs.2,.rd (.int (Z5 e2 _))⟩
  ·cases h1
 case mm mx x y =>
  simp only[bb] at hk;split at hk<;>try(cases hk;done)
  rename_i Z y' ts V;have Y:=qe V;simp only[Bool.and_eq_true] at hk;obtain⟨W,S⟩:=hk;obtain⟨s,h1,rfl⟩:=pG hp;obtain⟨⟨g1,g2⟩,hs⟩:=hs;have I:=(hx x (by simp[Kp.xs]) Z W).1 g1;have ao:=(hx y (by simp[Kp.xs]) y' S).1 g2;generalize(rd x).core=xx at h1 I;generalize(rd y).core=yy at h1 ao;unfold wj at h1;split at h1
  ·split at h1
   ·rename_i cv
    injection h1 with h1
    injection h1 with h1 a6
    subst a6;subst cv;obtain⟨e1,e2⟩:=eY I;obtain⟨e3,e4⟩:=eY ao;exact⟨_,abC Y e1 e3,.rd (.int (SC e2 e4))⟩
   ·cases h1
  ·cases h1
 case not x =>
  simp only[bb] at hk;split at hk<;>try(cases hk;done)
  rename_i Z V;obtain⟨u,Y⟩:=V9 V;obtain⟨s,h1,rfl⟩:=fe hp;have I:=(hx x (by simp[Kp.xs]) Z hk).1 hs.1;generalize(rd x).core=xx at h1 I;unfold wA at h1;split at h1
  ·simp only[one,Option.some.injEq,Prod.mk.injEq] at h1
   obtain⟨_,rfl⟩:=h1;exact⟨_,abD Y (pl_bool I),.rd .bool⟩
  ·cases h1
 case conv k x =>
  simp only[bb] at hk;split at hk<;>try(cases hk;done)
  rename_i t1 t2 Z V;have Y:=Ac V;simp only[Bool.and_eq_true] at hk;obtain⟨W,S⟩:=hk;obtain⟨s,h1,rfl⟩:=fe hp;have I:=(hx x (by simp[Kp.xs]) Z W).1 hs.1;generalize(rd x).core=xx at h1 I;split at S
  ·rename_i dm dn
   simp at S;subst S;unfold vr at h1;split at h1
   ·simp only[one,Option.some.injEq,Prod.mk.injEq] at h1
    obtain⟨_,rfl⟩:=h1;obtain⟨e1,e2⟩:=eY I;obtain⟨h3,h4⟩:=abr (P:=P) (w:=w) Y dm dn e1 e2;exact⟨_,h3,.rd (.int h4)⟩
   ·cases h1
  ·cases S
 case len x =>
  simp only[bb] at hk;split at hk<;>try(cases hk;done)
  rename_i Z t V;have Y:=qe V;simp only[Bool.and_eq_true] at hk;obtain⟨s,h1,rfl⟩:=fe hp;obtain⟨n,q,c,rfl,h2,h3,_⟩:=Hh a1 ax ((hx x (by simp[Kp.xs]) Z hk.1).1 hs.1) h1;cases he:jt P t with
  | none=>rw[he] at hk;simp at hk
  | some e=>exact⟨_,abz Y (kg he) h2,.rd (.int (n9 h3))⟩
 case rK x =>
  simp only[bb] at hk;split at hk<;>try(cases hk;done)
  rename_i Z t V;have Y:=qe V;simp only[Bool.and_eq_true] at hk;obtain⟨W,S⟩:=hk;obtain⟨s,h1,rfl⟩:=fe hp;have I:=(hx x (by simp[Kp.xs]) Z W).1 hs.1;generalize(rd x).core=xx at h1 I;split at S
  ·rename_i hu
   unfold v7 at h1;split at h1
   ·simp only[one,Option.some.injEq,Prod.mk.injEq] at h1
    obtain⟨_,rfl⟩:=h1;obtain⟨h2,h3⟩:=iy I;exact⟨_,abA Y hu h2,.rd (.int (n9 h3))⟩
   ·cases h1
  ·cases S
 case pV ok kk z m k =>
  simp only[bb] at hk;split at hk<;>try(cases hk;done)
  rename_i t m' k' hq V;have Y:=V3 V;simp only[Bool.and_eq_true,beq_iff_eq] at hk;obtain⟨⟨⟨W,S⟩,rfl⟩,ab⟩:=hk;split at ab<;>try(cases ab;done)
  rename_i kt et cd;simp only[Bool.and_eq_true] at ab;obtain⟨e0,hz⟩:=ab;obtain⟨s,h1,rfl⟩:=pG hp;have e5:=(hx m (by simp[Kp.xs]) m' W).1 hs.1.1;have eT:=(hx k (by simp[Kp.xs]) k' S).1 hs.1.2;unfold wg at h1;rw[Option.bind_eq_some_iff] at h1;obtain⟨e,he,h1⟩:=h1;rw[Option.bind_eq_some_iff] at h1;obtain⟨r,hr,h1⟩:=h1;simp only[Option.some.injEq,Prod.mk.injEq] at h1;obtain⟨cg,rfl⟩:=h1;have cq:(rd k).core.kK kk=true:=by rw[cg];exact hs.2
  obtain⟨d,hu,hd⟩:=Ha e0 cq
  have e7:Sc (a.eval k') (rd k).core:=by
   have cI:=G4 cq;refine Bo (w:=w) (A:=A) (b8 eT ?_ ?_ ?_ ?_ ?_ ?_) cI<;>intros<;>intro hh<;>rw[hh] at cI<;>cases cI
  obtain⟨i,zv,hi,eP,gF⟩:=abK hz;obtain⟨u,h2,h3⟩:=Rr ok (we cd) hu hd e7 (HD a1 ax e5 he) hr hi eP gF;refine⟨if ok then .tuple #[u,.bool r.isSome] else u,by simp only[Yd,execOp,Y,Sem.run_bind,h2,Result.andThen_ok,Sem.run_pure],?_⟩;cases ok
  ·exact .rd h3.rd
  ·refine .rd (.av rfl fun j x hj=>?_)
   match j,hj with
   | 0,hj=>simp at hj;subst hj;exact h3.rd
   | 1,hj=>simp at hj;subst hj;exact .bool
   | j+2,hj=>simp at hj
 case pS x =>
  simp only[bb] at hk;split at hk<;>try(cases hk;done)
  rename_i Z t V;have Y:=qe V;simp only[Bool.and_eq_true] at hk;obtain⟨s,h1,rfl⟩:=fe hp;unfold vZ at h1;rw[Option.bind_eq_some_iff] at h1;obtain⟨e,he,h1⟩:=h1;simp only[Option.some.injEq,Prod.mk.injEq] at h1;obtain⟨_,rfl⟩:=h1;cases cd:rM P t with
  | none=>rw[cd] at hk;simp at hk
  | some q =>
   obtain⟨kt,et⟩:=q;rcases HD a1 ax ((hx x (by simp[Kp.xs]) Z hk.1).1 hs.1) he with⟨h2,rfl⟩ | ⟨r,es,clock,h2,hb,hE⟩
   ·refine⟨.int .i64 0,?_,.rd (.int (n9 (n:=0) (Nat.zero_le _)))⟩
    simp[Yd,execOp,Y,h2,resolve,invoke,builtin,Builtin.len_,run_underlying (we cd),goInt]
   ·refine⟨.int .i64 e.1.length,?_,.rd (.int (n9 hE.1.2.2))⟩
    have:=hE.1.1;simp[Yd,execOp,Y,h2,resolve,invoke,builtin,Builtin.len_,run_underlying (we cd),MapKept.run_getObj_map hb,goInt,this]
 case pA x =>
  simp only[bb] at hk;split at hk<;>try(cases hk;done)
  rename_i s0 d0 Z V;have Y:=Ac V;simp only[Bool.and_eq_true] at hk;obtain⟨W,S⟩:=hk;split at S<;>try(cases S;done)
  rename_i e dm dn;split at S<;>try(cases S;done)
  rename_i fj;obtain⟨s,h1,rfl⟩:=fe hp;obtain⟨l,rfl,hl,h2⟩:=PD a1 ax ((hx x (by simp[Kp.xs]) Z W).1 hs.1) h1 dm fj dn;exact⟨_,by simp only[Yd,execOp,Y,Sem.run_bind,h2,Result.andThen_ok,Sem.run_pure],.rd (.str hl)⟩
 case rS neg x =>
  simp only[bb] at hk;split at hk<;>try(cases hk;done)
  rename_i cp t Z V;obtain⟨u,Y⟩:=tV V;simp only[Bool.and_eq_true,decide_eq_true_eq] at hk;obtain⟨⟨rfl,W⟩,S⟩:=hk;split at S<;>try(cases S;done)
  rename_i ms hu;obtain⟨s,h1,rfl⟩:=fe hp;have I:=(hx x (by simp[Kp.xs]) Z W).1 hs.1;obtain⟨b,hb,bF⟩:=Tl (P:=P) (w:=w) (t:=t) I h1 hu Y rfl;exact⟨.bool b,bF,by rw[hb];exact .rd .bool⟩
 case p7 neg x =>
  simp only[bb] at hk;split at hk<;>try(cases hk;done)
  rename_i cp t Z n0 c0 V;obtain⟨u,Y⟩:=tV V;simp only[Bool.and_eq_true,decide_eq_true_eq] at hk;obtain⟨⟨rfl,W⟩,S⟩:=hk;cases he:jt P t with
  | none=>rw[he] at S;cases S
  | some e =>
  obtain⟨s,h1,rfl⟩:=fe hp;have I:=(hx x (by simp[Kp.xs]) Z W).1 hs.1;have eb:a.eval (.const (.slice none n0 c0))=.slice none n0 c0:=rfl;unfold tJ at h1;split at h1
  ·rename_i z hz
   simp only[Option.some.injEq,Prod.mk.injEq] at h1;obtain⟨_,rfl⟩:=h1;rw[hz] at I;have hr:=b8 I (by simp) (by simp) (by simp) (by simp) (by simp) (by simp);generalize hv:a.eval Z=v at hr;cases hr;have e9:∀n:Nat,(Op.equalIn (n+1) t (.slice none 0 0) (.slice none n0 c0)).run P w=.ok true w:=fun n=>by simp[Op.equalIn,run_underlying (kg he)]
   exact⟨.bool (!neg),by cases neg<;>simp[Yd,execOp,Y,hv,eb,eqGuard,binOp,Op.equal,Op.maxDepth,e9 9999],.rd .bool⟩
  ·rw[Option.bind_eq_some_iff] at h1
   obtain⟨pp,h2,h3⟩:=h1;obtain⟨n,q,c,h4,h5,_,h6⟩:=Hh a1 ax I (side:=pp.1) (d:=pp.2) (by rw[h2]);rw[h4] at h3;simp only[Option.some.injEq,Prod.mk.injEq] at h3;obtain⟨h7,rfl⟩:=h3;have h0 : 0<n:=by have:=hs.2;rw[<-h7] at this;omega
   cases q with
   | none=>exact absurd rfl (h6 h0)
   | some q =>
   have e9:∀m:Nat,(Op.equalIn (m+1) t (.slice (some q) n c) (.slice none n0 c0)).run P w=.ok false w:=fun m=>by simp[Op.equalIn,run_underlying (kg he)]
   exact⟨.bool neg,by cases neg<;>simp[Yd,execOp,Y,h5,eb,eqGuard,binOp,Op.equal,Op.maxDepth,e9 9999],.rd .bool⟩
 case rN t x =>
  simp only[bb] at hk;split at hk<;>try(cases hk;done)
  rename_i t' Z V;have Y:=V4 V;simp only[Bool.and_eq_true,decide_eq_true_eq] at hk;obtain⟨⟨rfl,W⟩,S⟩:=hk;obtain⟨s,h1,rfl⟩:=fe hp;have I:=(hx x (by simp[Kp.xs]) Z W).1 hs.1;unfold zK at h1;split at h1
  ·rename_i str hz
   simp only[Option.some.injEq,Prod.mk.injEq] at h1;obtain⟨_,rfl⟩:=h1;rw[hz] at I;have hr:=N1 I;refine⟨.iface t (a.eval Z),?_,.rd (.bE hr)⟩;cases hu:P.underlying t with
   | none=>rw[hu] at S;cases S
   | some u =>
    rw[hu] at S
    have:(Instr.makeInterface t (a.eval Z)).run P w=.ok (.iface t (a.eval Z)) w:=by
     cases u<;>first | (simp[Instr.makeInterface,run_underlying hu];done) | cases S
    simp only[Yd,execOp,Y,Sem.run_bind,this,Result.andThen_ok,Sem.run_pure]
  ·cases h1
 case aB sz x i =>
  simp only[bb] at hk;split at hk<;>try(cases hk;done)
  rename_i t Z i' V;have Y:=V1 V;simp only[Bool.and_eq_true,decide_eq_true_eq] at hk;obtain⟨⟨⟨W,S⟩,ab⟩,ag⟩:=hk;split at ag
  ·rename_i e he
   obtain⟨inf,b0,b4⟩:=BC ag;obtain⟨s,h1,rfl⟩:=pG hp;obtain⟨⟨g1,g2⟩,hs⟩:=hs;have I:=(hx x (by simp[Kp.xs]) Z W).1 g1;have bT:=(hx i (by simp[Kp.xs]) i' S).1 g2;generalize(rd x).core=xx at h1 I;generalize(rd i).core=ii at h1 bT;unfold oc at h1;split at h1
   ·rename_i ki n
    obtain⟨hn,_⟩:=eY bT;split at h1
    ·rename_i k p
     have hr:=eD I;rw[tF a1 hr,Option.bind_some] at h1;obtain⟨F,hF⟩:=ax k;rcases o8 hF hr with⟨z,l,hc,_,_⟩ | ⟨F',ad,_,b3,e6⟩ | ⟨l,hc,rfl⟩
     rotate_right
     ·rw[hc] at h1;cases h1
     ·rw[hc] at h1;cases h1
     ·have a6:((ct k).bm p).cA.bind (fun m=>some ((0<=n/\n<(m:Int)/\(((ct k).bm p).jM n.toNat).length=sz),D.aG k (p++[(n.toNat,0)])))=some (s,res):=by
       revert h1;cases hc:ct k<;>first | exact id | exact absurd hc (e6 _ _)
      rw[Option.bind_eq_some_iff] at a6;obtain⟨m,hm,a6⟩:=a6;simp only[Option.some.injEq,Prod.mk.injEq] at a6;obtain⟨h2,rfl⟩:=a6;rw[<-h2] at hs;obtain⟨h3,h4,h5⟩:=hs;generalize hy:(ct k).bm p=y at ad hm h5 b3;cases y<;>simp[D.cA] at hm<;>first | exact absurd rfl ((Is ad).1 _ _) | exact absurd rfl ((Is ad).2 _) | skip
      rename_i z L;subst hm;have a7:n.toNat<L.length:=by omega
      have hL:L.getD n.toNat z=L[n.toNat]:=by rw[List.getD_eq_getElem?_getD,List.getElem?_eq_getElem a7];rfl
      have ha:=ad.un.1
      have fl:∃b off c,a.eval Z=.slice (some ⟨b,off,none⟩) L.length c/\z.cells.length=sz:=by
       have dk:=ad.oT z L (.inl rfl) L[n.toNat] (List.getElem_mem a7);obtain⟨q,cap,e1,_,_,e4⟩:=Ax ad;obtain⟨b,off,rfl⟩:=e4 (by rintro rfl;simp at a7);refine⟨b,off,cap,e1,?_⟩;rw[<-dk,<-h5];simp only[D.jM,hL]
      obtain⟨b,off,c,e1,e2⟩:=fl;have ec:(D.slice z L).has [(n.toNat,0)]:=⟨⟨a7,by omega⟩,trivial⟩;obtain⟨r1,_,r3⟩:=b3 _ ec;refine⟨_,Np Y (kg he) b0 b4 e1 hn h3 (by exact_mod_cast h4),.ref ⟨r1,_,(r3 (by simp)).trans ?_,rfl⟩⟩;rw[e1];simp only[aJ,dI,D.un,dU,e2,Nat.add_zero]
    ·rename_i gT
     rw[Option.bind_eq_some_iff] at h1;obtain⟨m,hm,h1⟩:=h1;simp only[Option.some.injEq,Prod.mk.injEq] at h1;obtain⟨h2,rfl⟩:=h1;rw[<-h2] at hs;obtain⟨h3,h4,h5⟩:=hs;cases xx<;>simp[D.cA] at hm
     ·rename_i z L
      subst hm;have a7:n.toNat<L.length:=by omega
      have hL:L.getD n.toNat z=L[n.toNat]:=by rw[List.getD_eq_getElem?_getD,List.getElem?_eq_getElem a7];rfl
      have bg:=qi I;obtain⟨_,_,_,_,_,hh⟩:=I4 bg;obtain⟨_,_,_,_,_,dk,_⟩:=hh (by rintro rfl;simp at a7);obtain⟨b,off,c,e1,e2,e3⟩:=Xh bg a7
      have e4:z.cells.length=sz:=by
       rw[<-dk _ (List.getElem_mem a7),<-h5];simp only[D.jM,hL]
      rw[e4] at e2;exact⟨_,Np Y (kg he) b0 b4 e1 hn h3 (by exact_mod_cast h4),.rd e2⟩
     ·exact(WH I).elim
     ·subst hm;omega
   ·cases h1
  ·cases ag
 case ld x =>
  simp only[bb] at hk;split at hk<;>try(cases hk;done)
  rename_i t Z V;have Y:=Ib V;simp only[Bool.and_eq_true] at hk;obtain⟨s,h1,rfl⟩:=fe hp;obtain⟨b,off,u,h2,h3,h4⟩:=Hd a1 ax ((hx x (by simp[Kp.xs]) Z hk.1).1 hs.1) h1;exact⟨u,abx Y hk.2 h2 h3,h4⟩
 case dz n x =>
  simp only[bb] at hk;split at hk<;>try(cases hk;done)
  rename_i t Z V;have Y:=Ib V;simp only[Bool.and_eq_true] at hk;obtain⟨s,h1,rfl⟩:=fe hp;obtain⟨b,off,cs,h2,h3,h4,h5⟩:=He a1 ax ((hx x (by simp[Kp.xs]) Z hk.1.1).1 hs.1) h1 hs.2;exact⟨_,aby Y hk.1.2 hk.2 h2 h3 h4,h5⟩
 case fA off x =>
  simp only[bb] at hk;split at hk<;>try(cases hk;done)
  rename_i t Z f V;have Y:=Ia V;simp only[Bool.and_eq_true] at hk;obtain⟨W,S⟩:=hk;split at S
  ·rename_i p0 ft hf
   simp only[Bool.and_eq_true,decide_eq_true_eq,Bool.not_eq_true'] at S;obtain⟨⟨rfl,h2⟩,h3⟩:=S;obtain⟨s,h1,rfl⟩:=fe hp;have I:=(hx x (by simp[Kp.xs]) Z W).1 hs.1;generalize(rd x).core=xx at h1 I;unfold nW at h1;split at h1
   ·rename_i l
    simp only[one,Option.some.injEq,Prod.mk.injEq] at h1;obtain⟨_,rfl⟩:=h1;have bg:Rd w A (a.eval Z) (.ptr l):=b8 I (by simp) (by simp) (by simp) (by simp) (by simp);generalize hv:a.eval Z=v at bg;cases bg with
    | @ptr b o' _ hA vs hcells hr =>
     refine⟨_,xF Y hf h2 h3 hv,.rd (.ptr hA (fun j=>vs (p0+j)) (fun j x hj=>?_) (fun j x hj=>?_))⟩
     ·rw[List.getElem?_drop] at hj
      have:=hcells _ _ hj
      rwa [<-Nat.add_assoc] at this
     ·rw[List.getElem?_drop] at hj
      exact hr _ _ hj
   ·rename_i k p
    have hr:=gy I;rw[zD a1 hr,Option.bind_some] at h1;simp only[Option.some.injEq,Prod.mk.injEq] at h1;obtain⟨e1,rfl⟩:=h1;obtain⟨b,o',e2,e3,e4⟩:=sQ ax hr;exact⟨_,xF Y hf h2 h3 e2,.ref ⟨by rw[e1];exact hs.2,_,qR p e4,rfl⟩⟩
   ·cases h1
  ·cases S
 case ru off x =>
  simp only[bb] at hk;split at hk<;>try(cases hk;done)
  rename_i t Z f V;have Y:=V0 V;simp only[Bool.and_eq_true] at hk;obtain⟨W,S⟩:=hk;split at S
  ·rename_i p0 ft hf
   simp only[Bool.and_eq_true,decide_eq_true_eq] at S;obtain⟨rfl,h2⟩:=S;obtain⟨s,h1,rfl⟩:=fe hp;have I:=(hx x (by simp[Kp.xs]) Z W).1 hs.1;generalize(rd x).core=xx at h1 I;unfold vH at h1;split at h1
   ·rename_i l
    simp only[Option.some.injEq,Prod.mk.injEq] at h1;obtain⟨e1,rfl⟩:=h1;have cj:=hs.2;rw[<-e1] at cj;obtain⟨cs,e2,e3,e4⟩:=oD I;refine⟨_,abv Y hf h2 e2 (by omega),e4 p0 _ ?_⟩;rw[List.getD_eq_getElem?_getD,List.getElem?_eq_getElem cj];rfl
   ·cases h1
  ·cases S
 case iP zs parts =>
  simp only[bb] at hk;split at hk<;>try(cases hk;done)
  rename_i t ps V;have Y:=VX V;simp only[Bool.and_eq_true] at hk;obtain⟨⟨W,S⟩,ab⟩:=hk;simp only[bO,Option.bind_eq_some_iff] at hp;obtain⟨⟨g,l⟩,hf,hp⟩:=hp;simp only[Option.some.injEq,Prod.mk.injEq] at hp;obtain⟨rfl,rfl⟩:=hp;refine abq Y W S ?_ hx hf hs;unfold Gf at ab;split at ab
  ·rename_i fs hu
   exact⟨fs,hu,fun f hf=>by simpa using List.all_eq_true.1 ab f hf⟩
  ·cases ab
 case rC x i =>
  simp only[bb] at hk;split at hk<;>try(cases hk;done)
  rename_i t Z i' V;have Y:=V2 V;simp only[Bool.and_eq_true] at hk;obtain⟨⟨W,S⟩,ab⟩:=hk;split at ab
  ·rename_i hu
   obtain⟨s,h1,rfl⟩:=pG hp;obtain⟨⟨g1,g2⟩,hs⟩:=hs;have I:=(hx x (by simp[Kp.xs]) Z W).1 g1;have bT:=(hx i (by simp[Kp.xs]) i' S).1 g2;generalize(rd x).core=xx at h1 I;generalize(rd i).core=ii at h1 bT;unfold vQ at h1;split at h1
   ·simp only[Option.some.injEq,Prod.mk.injEq] at h1
    obtain⟨e1,rfl⟩:=h1;rw[<-e1] at hs;obtain⟨h3,h4⟩:=abw (P:=P) (w:=w) Y hu (iy I).1 (eY bT).1 hs.1 hs.2;exact⟨_,h3,.rd (.int h4)⟩
   ·cases h1
  ·cases ab
 case ext i x =>
  simp only[bb] at hk;split at hk<;>try(cases hk;done)
  rename_i Z i' V;have Y:=VZ V;simp only[Bool.and_eq_true,beq_iff_eq] at hk;obtain⟨W,rfl⟩:=hk;obtain⟨s,h1,rfl⟩:=fe hp;have I:=(hx x (by simp[Kp.xs]) Z W).1 hs.1;generalize(rd x).core=xx at h1 I;unfold vB at h1;split at h1
  ·rename_i l
   simp only[Option.some.injEq,Prod.mk.injEq] at h1;obtain⟨e1,rfl⟩:=h1;have cj:=hs.2;rw[<-e1] at cj;obtain⟨cs,e2,e3,e4⟩:=WJ I;refine⟨_,abu Y e2 (by omega),e4 i _ ?_⟩;rw[List.getD_eq_getElem?_getD,List.getElem?_eq_getElem cj];rfl
  ·cases h1
 case oo x =>
  simp only[bb] at hk;split at hk<;>try(cases hk;done)
  rename_i Z V;have Y:=Ic V;obtain⟨s,h1,rfl⟩:=fe hp;have I:=(hx x (by simp[Kp.xs]) Z hk).1 hs.1;generalize(rd x).core=xx at h1 I;unfold oq at h1;split at h1
  all_goals try(cases h1;done)
  all_goals
   simp only[one,Option.some.injEq,Prod.mk.injEq] at h1;obtain⟨_,rfl⟩:=h1
  ·obtain⟨b,off,e1,_⟩:=rZ I
   exact⟨_,xH Y e1,by rw[<-e1];exact I⟩
  ·obtain⟨b,off,e1,_⟩:=sQ ax (gy I)
   exact⟨_,xH Y e1,by rw[<-e1];exact I⟩
  ·obtain⟨cs,e1,_⟩:=oE I
   exact⟨_,Nq Y e1,by rw[<-e1];exact I⟩
 case eqs neg ks x y =>
  simp only[bb] at hk;split at hk<;>try(cases hk;done)
  rename_i cp t Z y' V;obtain⟨u,Y⟩:=tV V;simp only[Bool.and_eq_true,decide_eq_true_eq,Bool.not_eq_true'] at hk;obtain⟨⟨⟨⟨rfl,W⟩,S⟩,ab⟩,ag⟩:=hk;split at ab
  ·rename_i fs hu
   simp only[Bool.and_eq_true,Bool.not_eq_true'] at ab;obtain⟨s,h1,rfl⟩:=pG hp;obtain⟨⟨g1,g2⟩,hs⟩:=hs;have I:=(hx x (by simp[Kp.xs]) Z W).1 g1;have ao:=(hx y (by simp[Kp.xs]) y' S).1 g2;generalize(rd x).core=xx at h1 I;generalize(rd y).core=yy at h1 ao;unfold vA at h1;split at h1
   ·rw[Option.bind_eq_some_iff] at h1
    obtain⟨b,hb,h1⟩:=h1;simp only[Option.some.injEq,Prod.mk.injEq] at h1;obtain⟨_,rfl⟩:=h1;exact⟨_,abt Y hu ab.1 ab.2 ag I ao hb,.rd .bool⟩
   ·cases h1
  ·cases ab
 case qF x lo hi =>
  simp only[bb] at hk;split at hk<;>try(cases hk;done)
  rename_i t Z ea bT V;have Y:=Ie V;simp only[Bool.and_eq_true] at hk;obtain⟨⟨⟨W,S⟩,ab⟩,ag⟩:=hk;simp only[bO,BD,Option.bind_eq_some_iff] at hp;obtain⟨s,cg,⟨g1,l⟩,cy,⟨g2,h⟩,b9,hp⟩:=hp;simp only[Option.some.injEq,Prod.mk.injEq] at hp;obtain⟨rfl,rfl⟩:=hp;obtain⟨⟨g0,cr,b5⟩,h0,h1,h2⟩:=hs;have I:=(hx x (by simp[Kp.xs]) Z W).1 g0;cases hc:(rd x).core<;>rw[hc] at cg I<;>simp[D.oY] at cg;subst cg;split at ag
  ·rename_i hu
   obtain⟨e1,e2⟩:=iy I;refine⟨_,abH Y hu e1 h0 h1 h2 (sW S (fun z hz=>hx z (by simp[Kp.xs,hz])) cy cr) (sW ab (fun z hz=>hx z (by simp[Kp.xs,hz])) b9 b5),.rd (.str (by simp;omega))⟩
  ·cases ag
 case sl x lo hi =>
  simp only[bb] at hk;split at hk<;>try(cases hk;done)
  rename_i t Z ea bT V;have Y:=Ie V;simp only[Bool.and_eq_true] at hk;obtain⟨⟨⟨W,S⟩,ab⟩,ag⟩:=hk;simp only[bO] at hp;unfold xl at hp;cases hso:o7 (rd x).core lo with
  | some kp =>
   obtain⟨k,p⟩:=kp;obtain⟨eF,rfl⟩:=aaK hso;rw[hso] at hp;simp only[Option.elim_some] at hp;simp only[Option.bind_eq_some_iff] at hp;obtain⟨c,cm,n,hn,⟨g2,h⟩,b9,hp⟩:=hp;simp only[Option.some.injEq,Prod.mk.injEq] at hp;obtain⟨rfl,rfl⟩:=hp;obtain⟨⟨g0,b5⟩,a8,h0,h2⟩:=hs;have I:=(hx x (by simp[Kp.xs]) Z W).1 g0;rw[eF] at I;have hr:=eD I;rw[tF a1 hr] at cm;injection cm with cm
   subst cm;obtain⟨F,eg⟩:=ax k;have b2:=sW (a:=a) (w:=w) (A:=A) (ct:=ct) (vl:=vl) ab (fun z hz=>hx z (by simp[Kp.xs,hz])) b9 b5;have ef:ea=none:=by cases ea with | none=>rfl | some _=>simp[pO] at S
   subst ef;split at ag
   ·rename_i e hu
    obtain⟨inf,b0,b4⟩:=BC ag;rcases o8 eg hr with⟨z,l,e1,e2,_⟩ | ⟨F',ad,_,_,_⟩ | ⟨l,e1,e2⟩
    rotate_right
    ·rw[e1,e2] at a8;simp[D.bm,D.at,D.un,D.gN] at a8
    ·rw[e1,e2] at a8;simp[D.bm,D.at,D.un,D.gN] at a8
    ·have key:∃q m c,a.eval Z=.slice q m c/\m<=c/\(q=none->c=0)/\n=m:=by
      generalize(ct k).bm p=y at ad hn;generalize a.eval Z=v at ad;cases ad<;>simp[D.cA] at hn
      ·exact⟨_,_,_,rfl,Nat.le_refl _,fun _=>rfl,hn.symm⟩
      ·rename_i hc _ _ _ _ _ _ _ _
       exact⟨_,_,_,rfl,by omega,fun h=>(by cases h),hn.symm⟩
     obtain⟨q,m,c,e1,e2,e3,rfl⟩:=key;have ev:=hr.2.1;rw[e1] at ev;exact⟨_,abG (P:=P) (a:=a) Y hu b0 e1 e2 e3 h0 h2 b2,.ref ⟨q,n,c,⟨hr.1,ev⟩,by omega,rfl⟩⟩
   ·cases ag
  | none =>
  rw[hso] at hp;simp only[Option.elim_none,Option.bind_eq_some_iff] at hp;obtain⟨n,hn,⟨g1,l⟩,cy,⟨g2,h⟩,b9,z,hz,hp⟩:=hp;simp only[Option.some.injEq,Prod.mk.injEq] at hp;obtain⟨rfl,rfl⟩:=hp;obtain⟨⟨g0,cr,b5⟩,a8,h0,h1,h2⟩:=hs;have I:=(hx x (by simp[Kp.xs]) Z W).1 g0;have b1:=sW (a:=a) (w:=w) (A:=A) (ct:=ct) (vl:=vl) S (fun z hz=>hx z (by simp[Kp.xs,hz])) cy cr;have b2:=sW (a:=a) (w:=w) (A:=A) (ct:=ct) (vl:=vl) ab (fun z hz=>hx z (by simp[Kp.xs,hz])) b9 b5;split at ag
  ·rename_i e hu
   obtain⟨inf,b0,b4⟩:=BC ag;cases hc:(rd x).core<;>rw[hc] at hn I hz a8<;>simp[D.cut] at hz<;>try(simp[D.cA] at hn;done)
   ·rename_i z0 L
    subst hz;simp only[D.cA,Option.some.injEq] at hn;subst hn;obtain⟨v,e1,e2⟩:=Nr (P:=P) (a:=a) Y hu b0 b4 a8 (qi I) h0 h1 h2 b1 b2;exact⟨v,e1,.rd e2⟩
   ·rename_i z0
    subst hz;simp only[D.cA,Option.some.injEq] at hn;subst hn;have bg:Rd w A (a.eval Z) (.aH z0):=b8 I (by simp) (by simp) (by simp) (by simp) (by simp)
    have ej:Rd w A (a.eval Z) (.slice z0 []):=by
     generalize a.eval Z=v at bg;cases bg;exact .nil
    obtain⟨v,e1,e2⟩:=Nr (P:=P) (a:=a) Y hu b0 b4 a8 ej h0 h1 h2 b1 b2;exact⟨v,e1,.rd (by simpa using e2)⟩
  ·cases ag
 case rO f caps =>
  simp only[bb] at hk;split at hk<;>try(cases hk;done)
  rename_i f' first captured V
  have Y:=V7 V;simp only[Bool.and_eq_true,beq_iff_eq] at hk;obtain⟨⟨rfl,W⟩,S⟩:=hk;simp only[bO,Option.bind_eq_some_iff] at hp;obtain⟨l,hl,hp⟩:=hp;simp only[Option.some.injEq,Prod.mk.injEq] at hp;obtain⟨_,rfl⟩:=hp;exact abB Y W S hx hl
end
end Go.D3
namespace Go.D3
open Go
theorem Pc{L:List D}{sz j:Nat}{c:D}(h:lh L=true)(S:cellAt L sz j=some c):c.dv=true:=by
 have key:∀{L:List D},lh L=true->∀x∈L,x.dv=true:=fun {L}=>by
  induction L with
  | nil=>intro _ x I;cases I
  | cons y L Z =>
   intro h x I;rw[lh,Bool.and_eq_true] at h;rcases List.mem_cons.1 I with rfl | I
   ·exact h.1
   ·exact Z h.2 x I
 unfold cellAt at S;rw[Option.bind_eq_some_iff] at S;obtain⟨d,W,V⟩:=S;have Y:=key h d (List.mem_of_getElem? W);have hm:=List.mem_of_getElem? V;cases d<;>simp[D.dv] at Y<;>simp[D.cells] at hm<;>subst hm<;>rfl
theorem WI{w w':World}{A A':Nat->Prop}{ct:Nat->D}{vl:Nat->Value}{v:Value}{c:D}{F:Nat->Prop}(h:Pl w A (ai w ct vl) v c)(I:c.dv=true):aq w' A' v c F:=by
 cases h with
 | rd h=>cases h<;>first | exact .int ‹_› | exact .bool | exact .str ‹_› | cases I
 | ref h=>cases c<;>first | exact h.elim | cases I
 | _=>cases I
structure Ext[Mode](w w':World):Prop where
 size:w.heap.size<=w'.heap.size
 same:∀b,b<w.heap.size->w'.heap[b]?=w.heap[b]?
 os:w'.os=w.os
 tape:w'.tape=w.tape
 output:c6 w w'
theorem Ext.refl[Mode](w:World):Ext w w:=⟨Nat.le_refl _,fun _ _=>rfl,rfl,rfl,.of rfl rfl⟩
theorem Ext.trans[Mode]{w w' S:World}(h:Ext w w')(I:Ext w' S):Ext w S :=
 ⟨Nat.le_trans h.size I.size,fun b V=>(I.same b (Nat.lt_of_lt_of_le V h.size)).trans (h.same b V),I.os.trans h.os,I.tape.trans h.tape,I.output.trans h.output⟩
theorem mH[Mode](w:World)(o:Go.Obj):Ext w (w.alloc o):=⟨by simp,fun b I=>heap_alloc_old w o b I,rfl,rfl,.of rfl rfl⟩
def l7(A:Nat->Prop)(w w':World)(F:Nat->Prop)(b:Nat):Prop:=A b\/(w.heap.size<=b/\b<w'.heap.size/\¬F b)
section
variable{cx:Ctx}{ct:Nat->D}{vl:Nat->Value}{fp:Nat->Nat->Prop}{G:Nat->Prop}{w:World}
theorem Hp.add[Mode](h:Hp cx ct vl fp G w){w':World}(he:Ext w w'){k:Nat}(hk:(ct k).isObj=false){v:Value}{c:D}{F:Nat->Prop}(hF:∀b,F b->w.heap.size<=b/\b<w'.heap.size)
  (hc:aN w' (l7 (ak cx fp G w) w w' F) (ai w ct vl) v F c) (V:c.isObj=false->∀b,¬F b):Hp cx (az ct k c) (az vl k v) (az fp k F) G w':=by
 have h1:=h.grow he.size he.same he.os he.tape he.output;have h2:=h1.release (G':=fun b=>G b\/F b) (fun b I=>I.imp id fun h=>hF b h)
 have S:∀v d,ai w ct vl v d->ai w' ct vl v d:=by
  intro v d Z;refine Z.bZ (bw (fun d=>?_) _);cases d<;>try trivial
  case sub k p=>exact fun hp=>⟨hp,(ig (h.ok k) hp.1 fun b I=>he.same b (h.lt k b I).1).1⟩
  case aG k p=>exact fun hp=>⟨hp,(ig (h.ok k) hp fun b I=>he.same b (h.lt k b I).1).2⟩
 refine h2.put hk (hc.mono (Q:=fun _=>True) (fun b I=>?_) (fun _ _=>rfl) (fun _ _=>rfl) (fun _ h=>h) (bw (fun _=>trivial) _) fun v d _ Z=>S v d Z) (fun b I=>.inr I) (fun b I=>.inl I) (fun b I hg=>?_) V
 ·rcases I with I | ⟨ab,W,Y⟩
  ·exact⟨⟨Nat.lt_of_lt_of_le I.1.1 he.size,I.1.2⟩,fun hg=>hg.elim I.2.1 fun hf=>by have:=(hF b hf).1;have:=I.1.1;omega,I.2.2⟩
  ·exact⟨⟨W,fun ad=>by have:=h.size;omega⟩,fun hg=>hg.elim (fun hg=>by have:=(h.cY b hg).1;omega) Y,fun j hj=>by have:=(h.lt j b hj).1;omega⟩
 ·have:=(h.cY b hg).1;have:=(hF b I).1;omega
end
def Ej[Mode](P:Program)(o:Oper)(a:Act)(w:World)(A:Nat->Prop)(R:Value->D->Prop)(c:D):Prop :=
 ∃(v:Value)(w':World)(F:Nat->Prop),(execOp a.eval o).run P w=.ok (.value v) w'/\Ext w w'/\(∀b,F b->w.heap.size<=b/\b<w'.heap.size)/\aN w' (l7 A w w' F) R v F c/\(c.isObj=false->∀b,¬F b)
section
variable{P:Program}{o:Oper}{w:World}{A:Nat->Prop}{ct:Nat->D}{vl:Nat->Value}{a:Act}{ds:List (Option Nat)}{tr:List Nat}{rd:X->D}
theorem AB:∀{l:List D},qg l=true->∀x∈l,x.pc=true
 | [],_,x,I=>by cases I
 | y::r,h,x,I=>by
  simp only[qg,Bool.and_eq_true] at h;rcases List.mem_cons.1 I with rfl | I
  ·exact h.1
  ·exact AB h.2 x I
theorem Fk{R:Value->D->Prop}{v:Value}{c:D}{F:Nat->Prop}(h:Pl w A R v c)(I:c.pc=true):ca w A R v F c:=by
 cases c<;>first | exact h | (simp[D.pc] at I)
theorem AE{v:Value}{x y:D}(h:Pl w A (ai w ct vl) v x)(I:x.fX=some y):Rd w A v y:=by
 cases x<;>simp only[D.fX,Option.some.injEq,reduceCtorEq] at I
 case fn f caps =>
  cases caps with
  | nil =>
   simp only[Option.some.injEq] at I;subst I;cases h with
   | rd h=>exact h
   | ref h=>exact h.elim
   | fn S W=>exact .fn S (fun j x V=>by simp at V)
  | cons _ _=>cases I
 case aH z =>
  subst I;have:=b8 h (by simp) (by simp) (by simp) (by simp) (by simp);cases this;exact .nil
 all_goals
  subst I;exact b8 h (by simp) (by simp) (by simp) (by simp) (by simp)
theorem iv{f:D->Option D}:∀{l l':List D},ez f l=some l'->l'.length=l.length/\∀(j:Nat)(y:D),l'[j]?=some y->∃x:D,l[j]?=some x/\f x=some y
 | [],l',h=>by simp[ez] at h;subst h;simp
 | x::r,l',h=>by
  simp only[ez,Option.bind_eq_some_iff,Option.some.injEq] at h;obtain⟨y,W,Y,V,rfl⟩:=h;obtain⟨h1,S⟩:=iv V;refine⟨by simp[h1],fun j z I=>?_⟩;cases j with
  | zero=>simp at I;subst I;exact⟨x,rfl,W⟩
  | succ j=>simpa using S j z (by simpa using I)
theorem xf{e:TypeId}{x:Operand}(I:o.op=.box e x):(execOp a.eval o).run P w=.ok (.value (.pointer (some ⟨w.heap.size,0,none⟩))) (w.alloc (.cells (a.eval x).cells e)):=by
 simp[execOp,I,Instr.box,newVar,newRow]
theorem HL[Mode]{cs:Array Value}{e:TypeId}{l:List D}(hl:cs.size=l.length)(W : 0<l.length)(Y:∀j c,l[j]?=some c->ca w A (ai w ct vl) (cs.getD j undef) (fun _=>False) c)
  (I:∀b,A b->b<w.heap.size)
  (V:(execOp a.eval o).run P w=.ok (.value (.pointer (some ⟨w.heap.size,0,none⟩))) (w.alloc (.cells cs e))):Ej P o a w A (ai w ct vl) (.box l):=by
 refine⟨_,_,(·=w.heap.size),V,mH w _,fun b S=>by subst S;simp,⟨W,w.heap.size,cs,e,fun _ _=>False,rfl,heap_alloc_new w _,hl,fun j c Z=>?_,rfl,fun _ _ h=>h.elim,fun _ _ _ _ h=>h.elim⟩,fun h=>by cases h⟩;exact(Y j c Z).mono (Q:=fun _=>True) (fun b S=>.inl S) (fun b S=>heap_alloc_old w _ b (I b S)) (fun _ h=>h.elim) (fun _ h=>h) (bw (fun _=>trivial) _) fun v d _ hr=>hr
theorem zd{z:Array Value}{n j:Nat}(I:j<n)(S : 0<z.size):(madeCells z n).getD j undef=z.getD (j % z.size) undef:=by
 have:=Nat.mod_lt j S;simp[madeCells,I,this]
theorem zr:∀{ps:List (Nat×Operand)}{parts:List (Nat×X)},jU ds tr ps parts=true->ps.length=parts.length/\∀(j i:Nat) x k y,ps[j]?=some (i,x)->parts[j]?=some (k,y)->i=k/\aP ds tr x y=true
 | [],[],_=>⟨rfl,by simp⟩
 | [],_::_,h=>by simp[jU] at h
 | _::_,[],h=>by simp[jU] at h
 | (i,x)::ps,(k,y)::parts,h=>by
  simp only[jU,Bool.and_eq_true,beq_iff_eq] at h;obtain⟨h1,Z⟩:=zr h.2;refine⟨by simp[h1],fun j=>?_⟩;cases j with
  | zero =>
   intro S W V Y he I;simp at he I;obtain⟨rfl,rfl⟩:=he;obtain⟨rfl,rfl⟩:=I;exact h.1
  | succ j=>intro S W V Y he I;exact Z j S W V Y (by simpa using he) (by simpa using I)
theorem ZR(l:List D)(i:Nat)(x:D):fa l i x=l.set i x:=by
 induction l generalizing i with
 | nil=>rfl
 | cons a l I=>cases i with
  | zero=>rfl
  | succ i=>simp[fa,I]
theorem Ph{x:D}{l:List D}(h:x.cellsOf=some l):x.cells=l:=by
 cases x<;>simp[D.cellsOf] at h<;>first | exact h | (subst h;rfl)
theorem Pe{L:List D}{sz i j:Nat}{y:D}(_:y.cells.length=sz)(hi:i<L.length)(S : 0<sz) :
  cellAt (L.set i y) sz j=if i*sz<=j/\j<i*sz+sz then y.cells[j-i*sz]? else cellAt L sz j:=by
 unfold cellAt;have I:=Nat.div_add_mod j sz;have V:=Nat.mod_lt j S;by_cases h:j / sz=i
 ·rw[Nat.mul_comm,h] at I
  rw[if_pos (by omega),h,List.getElem?_set_self hi,Option.bind_some];congr 1;omega
 ·rw[List.getElem?_set_ne (Ne.symm h),if_neg]
  rintro⟨h1,W⟩;apply h;have:j / sz<i+1:=(Nat.div_lt_iff_lt_mul S).2 (by rw[Nat.add_mul];omega);have:i<=j / sz:=(Nat.le_div_iff_mul_le S).2 h1;omega
theorem y4{sz:Nat}(hz : 0<sz):∀(ps:List (Nat×Operand))(parts:List (Nat×X))(cs:Array Value)(L:List D)(g:Bool)(L':List D),jU ds tr ps parts=true ->
  (∀y,y∈parts.map (·.2)->∀x,aP ds tr x y=true->cC w A (ai w ct vl) (a.eval x) (rd y)) ->
  cs.size=L.length*sz->(∀x∈L,x.cells.length=sz)->(∀j c,cellAt L sz j=some c->Pl w A (ai w ct vl) (cs.getD j undef) c/\c.pc=true)->mJ rd sz L parts=some (g,L')->g=true ->
  ∃S,Instr.fill (fun i=>some (i*sz,sz)) cs (ps.map fun(i,x)=>(i,a.eval x))=some S/\S.size=L'.length*sz/\L'.length=L.length/\(∀x∈L',x.cells.length=sz)/\∀j c,cellAt L' sz j=some c->Pl w A (ai w ct vl) (S.getD j undef) c/\c.pc=true
 | [],[],cs,l,g,l',_,_,h1,Y,h2,I,_=>by
  simp[mJ] at I;obtain⟨_,rfl⟩:=I;exact⟨cs,rfl,h1,rfl,Y,h2⟩
 | [],_::_,_,_,_,_,h,_,_,_,_,_,_=>by simp[jU] at h
 | _::_,[],_,_,_,_,h,_,_,_,_,_,_=>by simp[jU] at h
 | (i,x)::ps,(k,y)::parts,cs,L,g,L',hp,hr,h1,Y,h2,I,hg=>by
  simp only[jU,Bool.and_eq_true,beq_iff_eq] at hp;obtain⟨⟨rfl,hx⟩,hp⟩:=hp;simp only[mJ,Option.bind_eq_some_iff] at I;obtain⟨xs,ab,I⟩:=I;split at I
  ·rename_i hlen
   rw[Option.bind_eq_some_iff] at I;obtain⟨⟨g',ad⟩,I,he⟩:=I;simp only[Option.some.injEq,Prod.mk.injEq] at he;obtain⟨W,rfl⟩:=he;rw[hg] at W;simp at W;have hv:=(hr y (by simp) x hx).1 W.1;obtain⟨h3,h4⟩:=nF hv ab;have V:=Ph ab;rw[ZR] at I
   have hle:i*sz+sz<=cs.size:=by
    rw[h1];have:(i+1)*sz<=L.length*sz:=Nat.mul_le_mul_right _ hlen.2.1;rw[Nat.add_mul] at this;omega
   have ax:(a.eval x).cells.toList.length=sz:=by simp;omega
   obtain⟨S,h7,h8,h9,ag,ao⟩:=y4 hz ps parts (ib cs (i*sz) (a.eval x).cells.toList) (L.set i (rd y).core) g' ad hp (fun y hy=>hr y (by simp only[List.map_cons,List.mem_cons];exact .inr hy))
    (by rw[uE,h1,List.length_set])
    (fun x hx=>by
      rcases List.mem_or_eq_of_mem_set hx with h | h
      ·exact Y x h
      ·rw[h,V];exact hlen.1)
    (fun j c hj=>by
      rw[Pe (by rw[V];exact hlen.1) hlen.2.1 hz] at hj;rw[uD _ _ _ _ (by omega),ax];split at hj
      ·rename_i hh
       rw[if_pos hh];rw[V] at hj;have:=h4 _ _ hj;exact⟨by simpa using this,AB hlen.2.2 _ (List.mem_of_getElem? hj)⟩
      ·rename_i hh
       rw[if_neg hh]
       exact h2 j c hj) I W.2
   refine⟨S,?_,h8,by rw[h9,List.length_set],ag,ao⟩;simp only[List.map_cons,Instr.fill];have Z:¬((decide ((a.eval x).cells.size≠sz) || decide (i*sz+(a.eval x).cells.size > cs.size))=true):=by simp;omega
   rw[if_neg Z];have:=vJ (a.eval x).cells.toList 0 (i*sz) cs;simp only[Nat.add_zero] at this;rw[<-Array.foldl_toList,Array.toList_zipIdx,this];exact h7
  ·cases I
theorem xe{t e:TypeId}{n:Nat}{ps:Array (Nat×Operand)}(W:o.op=.buildSlice t n ps)(hu:P.underlying t=some (.slice e)){i:TypeInfo}{z:Value}(hi:P.info? e=some i)(hz:i.zero=some z)(Z:n*i.size<=16777216)
  {cs:Array Value} (Y:Instr.fill (fun j=>some (j*i.size,i.size)) (madeCells z.cells (n*i.size)) (ps.toList.map fun(i,x)=>(i,a.eval x))=some cs) :
  (execOp a.eval o).run P w=.ok (.value (.slice (some ⟨w.heap.size,0,none⟩) n n)) (w.alloc (.cells cs e)):=by
 have I:Instr.fill (fun j=>some (j*i.size,i.size)) (madeCells z.cells (n*i.size)) (ps.toList.map fun x=>(x.fst,a.eval x.snd))=some cs:=Y;have S:¬16777216<n*i.size:=by omega
 by_cases V:n*i.size=0
 ·have hm:madeCells z.cells (n*i.size)=#[]:=by rw[V];simp[madeCells,Array.range_zero']
  rw[hm] at I;simp only[execOp,W,Sem.run_bind,Instr.buildSlice,run_underlying hu,Result.andThen_ok,sizeOf,typeInfo,run_program];simp[hi,V,I,newRow,Array.range_zero']
 ·simp only[execOp,W,Sem.run_bind,Instr.buildSlice,run_underlying hu,Result.andThen_ok,sizeOf,typeInfo,run_program]
  simp only[madeCells] at I;simp[hi,hz,S,V,zeroValue,typeInfo,I,newRow]
theorem ym{z:D}{n j:Nat}(I : 0<z.cells.length):cellAt (List.replicate n z) z.cells.length j=if j<n*z.cells.length then z.cells[j % z.cells.length]? else none:=by
 unfold cellAt;rw[List.getElem?_replicate];by_cases h:j / z.cells.length<n
 ·rw[if_pos h,if_pos ((Nat.div_lt_iff_lt_mul I).1 h)];rfl
 ·rw[if_neg h,if_neg (fun S=>h ((Nat.div_lt_iff_lt_mul I).2 S))];rfl
theorem Nt{v:Value}{d:D}(h:iK v d=true):d.pc=true:=by
 unfold iK at h;split at h<;>first | rfl | cases h
theorem Xj{w:World}{A:Nat->Prop}{u:Value}(h:Rd w A u .bd):u=.pointer none:=by cases h;rfl
theorem Xk{w:World}{A:Nat->Prop}{u:Value}{z:D}(h:Rd w A u (.aH z)):u=.slice none 0 0:=by cases h;rfl
theorem HM[Mode]{k:Kp}{side:Prop}{c:D}(hp:bX k rd=some (side,c))(hk:bb P ds tr o k=true)
  (hx:∀y,y∈k.xs->∀x,aP ds tr x y=true->cC w A (ai w ct vl) (a.eval x) (rd y)) (ab:∀b,A b->b<w.heap.size) (hs:side):Ej P o a w A (ai w ct vl) c:=by
 cases k<;>try(simp[bX] at hp;done)
 case box n x =>
  simp only[bb] at hk;split at hk<;>try(cases hk;done)
  rename_i e x' I;have ho:=wG I;simp only[Bool.and_eq_true] at hk;simp only[bX,yg,Option.bind_eq_some_iff] at hp;obtain⟨l,hl,hp⟩:=hp;simp only[Option.some.injEq,Prod.mk.injEq] at hp;obtain⟨rfl,rfl⟩:=hp;obtain⟨⟨h1,h2,h3⟩,h4⟩:=hs;obtain⟨h5,h6⟩:=nF ((hx x (by simp[Kp.xs]) x' hk.1).1 h1) hl;exact HL h5 (by omega) (fun j c V=>Fk (h6 j c V) (AB h3 _ (List.mem_of_getElem? V))) ab (xf ho)
 case fP n x =>
  simp only[bb] at hk;split at hk<;>try(cases hk;done)
  rename_i e x' I;have ho:=wG I;simp only[Bool.and_eq_true] at hk;simp only[bX,yh,Option.bind_eq_some_iff] at hp;obtain⟨l,hl,l',cg,hp⟩:=hp;simp only[Option.some.injEq,Prod.mk.injEq] at hp;obtain⟨rfl,rfl⟩:=hp;obtain⟨h1,h4⟩:=hs;obtain⟨h5,h6⟩:=nF ((hx x (by simp[Kp.xs]) x' hk.1).1 h1) hl;obtain⟨h7,h8⟩:=iv cg;refine⟨_,_,fun _=>False,xf ho,mH w _,fun _ h=>h.elim,.rd (.ptr (.inr ⟨Nat.le_refl _,by simp,fun h=>h⟩) (fun j=>(a.eval x').cells.getD j undef) (fun j y V=>?_) (fun j y V=>?_)),fun _ _ h=>h⟩
  ·rw[Nat.zero_add]
   exact fQ (heap_alloc_new w _) (by have:=(List.getElem?_eq_some_iff.1 V).1;omega)
  ·obtain⟨z,hz,cI⟩:=h8 j y V
   exact(AE (h6 j z hz) cI).mono (fun b W=>.inl W) (fun b W=>heap_alloc_old w _ b (ab b W))
 case gV =>
  simp only[bb,Option.isSome_iff_exists] at hk;obtain⟨t,I⟩:=hk;have ho:=V5 I;simp only[bX,Option.some.injEq,Prod.mk.injEq] at hp;obtain⟨rfl,rfl⟩:=hp;refine⟨.map (some w.heap.size),w.alloc (.map #[] 0),fun b=>b=w.heap.size,by simp[execOp,ho,Instr.makeMap,Result.andThen],mH w _,fun b W=>by subst W;simp,?_,fun hh=>by cases hh⟩;exact aq.mp rfl (heap_alloc_new w _) ⟨⟨rfl,rfl,Nat.zero_le _⟩,fun j e k V=>by simp at V,fun j e k V=>by simp at V⟩
 case gU T e x =>
  simp only[bb] at hk;split at hk<;>try(cases hk;done)
  rename_i t x' I;have ho:=wG I;simp only[Bool.and_eq_true,decide_eq_true_eq] at hk;obtain⟨hk,rfl⟩:=hk;simp only[bX,zJ] at hp;split at hp<;>try(cases hp;done)
  rename_i z hc;simp only[Option.some.injEq,Prod.mk.injEq] at hp;obtain⟨rfl,rfl⟩:=hp;obtain⟨h5,h6⟩:=nF (l:=[.bd,.aH z]) ((hx x (by simp[Kp.xs]) x' hk).1 hs) (by rw[hc];rfl);have g0:(a.eval x').cells.getD 0 undef=.pointer none:=Xj (b8 (h6 0 _ rfl) (by simp) (by simp) (by simp) (by simp) (by simp));have g1:(a.eval x').cells.getD 1 undef=.slice none 0 0:=Xk (b8 (h6 1 _ rfl) (by simp) (by simp) (by simp) (by simp) (by simp))
  have hz:(a.eval x').cells=#[.pointer none,.slice none 0 0]:=by
   have ao:(a.eval x').cells.size=2:=h5;refine Array.ext (by simpa using ao) fun j ec b0=>?_
   match j with
   | 0=>simpa[ao] using g0
   | 1=>simpa[ao] using g1
   | j+2=>omega
  refine⟨_,_,fun b=>b=w.heap.size,xf ho,mH w _,fun b W=>by subst W;simp,?_,fun hh=>by cases hh⟩;exact aq.sb (g:=none) rfl (fun c hc=>by cases hc) ⟨_,_,.inl rfl,by rw[hz];exact heap_alloc_new w _,⟨rfl,.inl ⟨rfl,rfl⟩⟩,rfl,by simp,Nat.zero_le _⟩
 case e8 x =>
  simp only[bb] at hk;split at hk<;>try(cases hk;done)
  rename_i t x' I;simp only[Bool.and_eq_true] at hk;obtain⟨ag,S⟩:=hk;split at S<;>try(cases S;done)
  rename_i hu;have ho:=Wc I;simp only[bX,Bg,Option.bind_eq_some_iff] at hp;obtain⟨s,hl,hp⟩:=hp;simp only[Option.some.injEq,Prod.mk.injEq] at hp;obtain⟨rfl,rfl⟩:=hp;have ad:=(hx x (by simp[Kp.xs]) x' ag).1 hs;have bT:(rd x).core=.str s:=by cases hcx:(rd x).core<;>rw[hcx] at hl<;>simp[D.oY] at hl;subst hl;rfl
  rw[bT] at ad;refine⟨.pointer (some ⟨w.heap.size,0,none⟩),w.alloc (.stringIter ⟨s.toArray⟩ 0),fun b=>b=w.heap.size,?_,mH w _,fun b W=>by subst W;simp,aq.b6 rfl (heap_alloc_new w _) (iy ad).2,fun hh=>by cases hh⟩;simp only[execOp,ho,(iy ad).1,Sem.run_bind,run_range_string w t _ hu,Result.andThen_ok,Sem.run_pure];rfl
 case gM x =>
  simp only[bb] at hk;split at hk<;>try(cases hk;done)
  rename_i s0 d0 x' I;have ho:=Ac I;simp only[Bool.and_eq_true] at hk;obtain⟨ag,S⟩:=hk;split at S<;>try(cases S;done)
  rename_i e cr cv;split at S<;>try(cases S;done)
  rename_i cy;simp only[bX,yA,Option.bind_eq_some_iff] at hp;obtain⟨s,hl,hp⟩:=hp;simp only[Option.some.injEq,Prod.mk.injEq] at hp;obtain⟨rfl,rfl⟩:=hp;obtain⟨hg,dk⟩:=hs;have ad:=(hx x (by simp[Kp.xs]) x' ag).1 hg;have bT:(rd x).core=.str s:=by cases hcx:(rd x).core<;>rw[hcx] at hl<;>simp[D.oY] at hl;subst hl;rfl
  rw[bT] at ad;have ao:(⟨s.toArray⟩:ByteArray).size=s.length:=by show s.toArray.size=_;simp
  have b4:grownCap w s.length 0 e<=maxLen:=grownCap_le_maxLen w _ 0 e (by simp only[maxLen];omega);have b5:=grownCap_ge w s.length 0 e;have eb:(Lib.bytesCells w e ⟨s.toArray⟩).size=grownCap w s.length 0 e:=by simp only[Lib.bytesCells,ao,Array.size_append,Array.size_map,List.size_toArray,Array.size_replicate];omega
  refine⟨_,Lib.bytesWorld w e ⟨s.toArray⟩,fun b=>b=w.heap.size,by simp only[execOp,ho,(iy ad).1,Sem.run_bind,Lib.run_convert_string_bytes w s0 d0 e _ cr cv cy,Result.andThen_ok,Sem.run_pure];rfl,
   ⟨by rw[Lib.bytesWorld_size];omega,fun b W=>Lib.bytesWorld_at_old w e _ b W,rfl,rfl,.le rfl (Nat.le_succ _)⟩,fun b W=>by subst W;rw[Lib.bytesWorld_size];omega,?_,fun hh=>by cases hh⟩
  rw[ao]
  have key:=aq.slice (w:=Lib.bytesWorld w e ⟨s.toArray⟩) (A:=l7 A w (Lib.bytesWorld w e ⟨s.toArray⟩) (·=w.heap.size)) (z:=.int .u8 0) (L:=s.map fun b=>D.int .u8 b.toNat) (b:=w.heap.size) (off:=0) (cap:=grownCap w s.length 0 e) (sz:=1) (F:=(·=w.heap.size))
   (fun _ _=>False) (Lib.bytesWorld_at_new w e ⟨s.toArray⟩) ⟨by omega,.inr (Nat.le_refl _)⟩ (by rw[List.length_map];exact b5) b4 (by decide) rfl (fun x hx=>by obtain⟨y,_,rfl⟩:=List.mem_map.1 hx;rfl) (fun j x V=>?_) rfl (fun _ _ h=>h.elim) (fun _ _ _ _ h=>h.elim)
  ·rw[List.length_map] at key;exact key
  unfold cellAt at V;rw[Nat.div_one,Nat.mod_one,List.getElem?_map] at V;cases hq:s[j]? with
  | none=>rw[hq] at V;cases V
  | some b =>
   rw[hq] at V;simp only[Option.map_some,Option.bind_some,D.cells,List.getElem?_cons_zero,Option.some.injEq] at V;subst V;have b9:=(List.getElem?_eq_some_iff.1 hq).1
   have hv:(Lib.bytesCells w e ⟨s.toArray⟩).getD (0+j) undef=.int .u8 b.toNat:=by
    rw[Nat.zero_add,Array.getD_eq_getD_getElem?];unfold Lib.bytesCells;rw[Array.getElem?_append_left (by simpa using b9),Array.getElem?_map,List.getElem?_toArray,hq];rfl
   rw[hv];have:=b.toNat_lt;refine .int ?_;simp[IntKind.has,IntKind.min,IntKind.max,IntKind.signed,IntKind.bits];omega
 case fc zs =>
  simp only[bb] at hk;split at hk<;>try(cases hk;done)
  rename_i t I;have ho:=VW I;simp only[bX,Option.some.injEq,Prod.mk.injEq] at hp;obtain⟨rfl,rfl⟩:=hp;obtain⟨i,z,h1,h2,h3,h4,h5⟩:=sI hk;exact HL (cs:=z.cells) (e:=t) (by simpa using h4) (List.length_pos_iff.2 hs) (fun j c hc=>abI (h5 j (nE c) (by rw[List.getElem?_map,hc];rfl))) ab (by simp[execOp,ho,Instr.alloc,zeroValue,typeInfo,h1,h2,newVar,newRow])
 case ah z bytes x y =>
  simp only[bb] at hk;split at hk<;>try(cases hk;done)
  rename_i t x' y' I;have ho:=V6 I;simp only[Bool.and_eq_true,decide_eq_true_eq] at hk;obtain⟨⟨⟨ag,S⟩,ax⟩,Y⟩:=hk;split at Y<;>try(cases Y;done)
  rename_i e he;simp only[Bool.and_eq_true,decide_eq_true_eq] at Y;obtain⟨i,z',h1,h2,h3,h4,h5⟩:=sI Y.1.1
  have b3:i.bytes=bytes:=by
   have:=Y.1.2;unfold pq at this;rw[h1] at this;simpa using this
  simp only[bX,zL,Option.bind_eq_some_iff] at hp;obtain⟨l,hl,cc,hc,hp⟩:=hp;simp only[Option.some.injEq,Prod.mk.injEq] at hp;obtain⟨rfl,rfl⟩:=hp;obtain⟨⟨g1,g2⟩,cj,cm,a6⟩:=hs;have ad:=(hx x (by simp[Kp.xs]) x' ag).1 g1;have b1:=(hx y (by simp[Kp.xs]) y' S).1 g2
  have a8:∃k,a.eval x'=.int k l:=by
   cases hcx:(rd x).core<;>rw[hcx] at hl ad<;>simp[D.int?] at hl;subst hl;exact⟨_,(eY ad).1⟩
  have bg:∃k,a.eval y'=.int k cc:=by
   cases hcx:(rd y).core<;>rw[hcx] at hc b1<;>simp[D.int?] at hc;subst hc;exact⟨_,(eY b1).1⟩
  obtain⟨k1,a8⟩:=a8;obtain⟨k2,bg⟩:=bg
  have a7:cc<=9223372036854775807/\cc.toNat<=maxLen:=by
   have a1:cc<=bytes*cc:=by
    have:(1:Int)*cc<=bytes*cc:=Int.mul_le_mul_of_nonneg_right (by have:=Y.2;omega) (by omega);omega
   simp only[maxLen];omega
  rw[List.length_map] at h3 h4;have Z:=run_make (P:=P) w t e i z' (kg he) h1 h2 k1 k2 l cc cj cm (by rw[b3];exact a6) a7.1;have ao:z'.cells.size=z.cells.length:=h4;refine⟨.slice (some ⟨w.heap.size,0,none⟩) l.toNat cc.toNat,w.alloc (.cells (madeCells z'.cells (cc.toNat*i.size)) e),(·=w.heap.size),?_,mH w _,fun b W=>by subst W;simp,?_,fun h=>by cases h⟩
  ·simp only[execOp,ho,a8,bg,Sem.run_bind,Z,Result.andThen_ok,Sem.run_pure]
  ·have:=aq.slice (w:=w.alloc (.cells (madeCells z'.cells (cc.toNat*i.size)) e)) (A:=l7 A w (w.alloc (.cells (madeCells z'.cells (cc.toNat*i.size)) e)) (·=w.heap.size)) (z:=z) (L:=List.replicate l.toNat z) (off:=0) (cap:=cc.toNat) (sz:=z.cells.length) (F:=(·=w.heap.size)) (fun _ _=>False) (heap_alloc_new w _) (by simp[madeCells,h3]) (by simp;omega) a7.2 ax rfl
     (fun x hx=>by rw[(List.mem_replicate.1 hx).2])
     (fun j x hx=>by
       rw[ym ax] at hx;split at hx
       ·rename_i V
        have b0:j<cc.toNat*i.size:=by
         rw[h3];exact Nat.lt_of_lt_of_le V (Nat.mul_le_mul_right _ (by omega))
        rw[Nat.zero_add,zd b0 (by omega),ao];exact abJ (h5 _ _ (by rw[List.getElem?_map,hx];rfl))
       ·cases hx) rfl (fun _ _ h=>h.elim) (fun _ _ _ _ h=>h.elim)
   rw[List.length_replicate] at this;exact this
 case aU z n parts =>
  simp only[bb] at hk;split at hk<;>try(cases hk;done)
  rename_i t n' ps I;have ho:=Ab I;simp only[Bool.and_eq_true,decide_eq_true_eq,beq_iff_eq] at hk;obtain⟨⟨⟨⟨rfl,ag⟩,S⟩,ax⟩,Y⟩:=hk;split at Y<;>try(cases Y;done)
  rename_i e he;obtain⟨i,z',h1,h2,h3,h4,h5⟩:=sI Y;have hu:=kg he
  have cp:∀j c,cellAt (List.replicate n z) z.cells.length j=some c->Pl w A (ai w ct vl) ((madeCells z'.cells (n*i.size)).getD j undef) c/\c.pc=true:=by
   intro j c V;rw[ym S] at V;split at V
   ·rename_i cd
    rw[zd (by rw[h3];exact cd) (by omega),h4];exact⟨.rd (xI (h5 _ _ V)),Nt (h5 _ _ V)⟩
   ·cases V
  have bF:=fun g L' (hf:mJ rd z.cells.length (List.replicate n z) parts=some (g,L')) (hg:g=true) =>
   y4 (w:=w) (A:=A) (ct:=ct) (vl:=vl) (a:=a) S ps.toList parts (madeCells z'.cells (n*i.size)) (List.replicate n z) g L' ag hx (by simp[madeCells,h3]) (fun x hx=>by rw[(List.mem_replicate.1 hx).2]) cp hf hg
  simp only[bX] at hp;unfold sV at hp;split at hp
  ·
   simp only[Option.some.injEq,Prod.mk.injEq] at hp;obtain⟨_,rfl⟩:=hp
   have cq:ps.toList=[]:=by
    have:=(zr ag).1;exact List.eq_nil_of_length_eq_zero (by simpa using this)
   have hf:Instr.fill (fun j=>some (j*i.size,i.size)) (madeCells z'.cells (0*i.size)) (ps.toList.map fun(i,x)=>(i,a.eval x))=some (madeCells z'.cells (0*i.size)):=by rw[cq];rfl
   have Z:=xe (P:=P) (w:=w) ho hu h1 h2 (by omega) hf;refine⟨_,_,(·=w.heap.size),Z,mH w _,fun b W=>by subst W;simp,?_,fun h=>by cases h⟩;exact aq.slice (L:=[]) (off:=0) (cap:=0) (sz:=z.cells.length) (fun _ _=>False) (heap_alloc_new w _) (by simp) (by simp) (by simp) S rfl (by simp) (by simp[cellAt]) rfl (fun _ _ h=>h.elim) (fun _ _ _ _ h=>h.elim)
  ·cases hp
  ·rename_i n
   rw[Option.bind_eq_some_iff] at hp;obtain⟨⟨g,L⟩,hf,hp⟩:=hp;simp only[Option.some.injEq,Prod.mk.injEq] at hp;obtain⟨rfl,rfl⟩:=hp;obtain⟨b2,h6,h7,h8,h9,a1⟩:=bF g L hf hs;have hL:L.length=n+1:=by simpa using h8
   rw[<-h3] at h6;have Z:=xe (P:=P) (w:=w) ho hu h1 h2 (by rw[h3];exact ax) h6
   have ea:n+1<=16777216:=by
    have dm:(n+1)*1<=(n+1)*z.cells.length:=Nat.mul_le_mul_left _ S;have dn:(n+1)*z.cells.length<=16777216:=ax;omega
   cases hfs:four L&&lh L with
   | false =>
    refine⟨_,_,(·=w.heap.size),Z,mH w _,fun b W=>by subst W;simp,⟨w.heap.size,z.cells.length,b2,e,by rw[hL],heap_alloc_new w _,h7,by rw[hL];simp only[maxLen];omega,S,rfl,h9,fun j c V=>?_,rfl⟩,fun h=>by cases h⟩;exact⟨(a1 j c V).1.mono (Q:=fun _=>True) (fun b W=>.inl W) (fun b W=>heap_alloc_old w _ b (ab b W)) (bw (fun _=>trivial) _) fun v d _ hr=>hr,(a1 j c V).2⟩
   | true =>
    rw[Bool.and_eq_true] at hfs;refine⟨_,_,(·=w.heap.size),Z,mH w _,fun b W=>by subst W;simp,?_,fun h=>by cases h⟩;rw[show n.succ=L.length from hL.symm];refine aq.slice (off:=0) (sz:=z.cells.length) (fun _ _=>False) (heap_alloc_new w _) (by rw[h7];simp) (Nat.le_refl _) (by rw[hL];simp only[maxLen];omega) S rfl h9 (fun j c V=>?_) rfl (fun _ _ h=>h.elim) fun _ _ _ _ h=>h.elim
    rw[Nat.zero_add];exact WI (a1 j c V).1 (Pc hfs.2 V)
end
end Go.D3
namespace Go.D3
open Go
theorem rU:∀{l:List D},eR l=true->∀x∈l,x.bA=true
 | [],_,x,I=>by cases I
 | y::r,h,x,I=>by
  simp only[eR,Bool.and_eq_true] at h;rcases List.mem_cons.1 I with rfl | I
  ·exact h.1
  ·exact rU h.2 x I
theorem To{L:List D}{sz j:Nat}{c:D}(h:eR L=true)(I:cellAt L sz j=some c):c.bA=true:=by
 unfold cellAt at I;cases hq:L[j / sz]? with
 | none=>simp[hq] at I
 | some d =>
  rw[hq,Option.bind_some] at I;have S:=rU h d (List.mem_of_getElem? hq);have hm:=List.mem_of_getElem? I;cases d<;>simp only[D.cells,List.mem_singleton] at hm<;>first | (subst hm;exact S) | exact rU S c hm
theorem wE{w:World}{A A':Nat->Prop}{d:D}{v:Value}{F:Nat->Prop}(h:aq w A v d F):d.bA=true->aq w A' v d F:=by
 induction h with
 | int h=>exact fun _=>.int h
 | bool=>exact fun _=>.bool
 | str h=>exact fun _=>.str h
 | nil=>exact fun _=>.nil
 | bd=>exact fun _=>.bd
 | fn=>exact fun _=>.fn
 | vw h=>exact fun V=>by simp[D.bA] at V
 | dead=>exact fun _=>.dead
 | mp hF Y hE=>exact fun _=>.mp hF Y hE
 | bS=>exact fun _=>.bS
 | bE h=>exact fun V=>by simp[D.bA] at V
 | bz=>exact fun _=>.bz
 | b6 hF Y hs=>exact fun _=>.b6 hF Y hs
 | sb hF hg h=>exact fun _=>.sb hF hg h
 | slice Fs Y Z hc hm hz ad ab hr hF S I ih=>exact fun V=>.slice Fs Y Z hc hm hz ad ab (fun j x W=>ih j x W (To V W)) hF S I
 | agg Fs hs hr S I ih=>exact fun V=>.agg Fs hs (fun j x W=>ih j x W (rU V x (List.mem_of_getElem? W))) S I
 | av Fs hs hr S I ih=>exact fun V=>.av Fs hs (fun j x W=>ih j x W (rU V x (List.mem_of_getElem? W))) S I
 | ptr Fs Y hs hr hF S I ih=>exact fun V=>.ptr Fs Y hs (fun j x W=>ih j x W (rU V x (List.mem_of_getElem? W))) hF S I
section
variable{P:Program}{o:Oper}{w:World}{A:Nat->Prop}{ct:Nat->D}{vl:Nat->Value}{a:Act}{ds:List (Option Nat)}{tr:List Nat}{rd:X->D}{ob:Nat->D}
def live(w:World)(b:Nat):Prop:=b<w.heap.size
theorem MU{z:D}:∀{l:List D},sy z l=true->∀x∈l,x.cells.length=z.cells.length
 | [],_,x,I=>by cases I
 | y::r,h,x,I=>by
  simp only[sy,Bool.and_eq_true,decide_eq_true_eq] at h;rcases List.mem_cons.1 I with rfl | I
  ·exact h.1
  ·exact MU h.2 x I
theorem II{d y:D}{n:Nat}(h:d.sa n=some y):∃l,d=.o (.ptr l)/\y=.ptr (l.drop n):=by
 unfold D.sa at h;split at h
 ·injection h with h;exact⟨_,rfl,h.symm⟩
 ·cases h
theorem W3{d y:D}{n:Nat}(h:d.sa n=some y):∃l,y=.ptr l:=by
 obtain⟨l,_,rfl⟩:=II h;exact⟨_,rfl⟩
theorem Gu{n:Nat}{e V:D}(h:ba ob (n+1) e=some V)(S:e.pc=true):V.isAgg=false:=by
 cases e<;>try(simp[D.pc] at S;done)
 case fn f caps =>
  simp only[ba,Option.bind_eq_some_iff] at h;obtain⟨l',_,h⟩:=h;simp only[Option.some.injEq] at h;subst h;rfl
 all_goals simp only[ba] at h
 all_goals try(simp only[Option.some.injEq] at h;subst h;rfl)
 all_goals try(cases h;done)
 ·rw[Option.bind_eq_some_iff] at h
  obtain⟨c,_,h⟩:=h;split at h
  ·rw[Option.bind_eq_some_iff] at h
   obtain⟨l',_,h⟩:=h;split at h<;>simp only[Option.some.injEq,reduceCtorEq] at h;subst h;rfl
  ·split at h
   ·cases h
   ·split at h
    ·cases h
    ·rename_i I;simp only[Option.some.injEq] at h;subst h;simpa using I
  ·split at h
   ·cases h
   ·rename_i I;simp only[Option.some.injEq] at h;subst h;simpa using I
 ·rw[Option.bind_eq_some_iff] at h
  obtain⟨c,_,h⟩:=h;split at h
  ·rw[Option.bind_eq_some_iff] at h
   obtain⟨l',_,h⟩:=h;simp only[Option.some.injEq] at h;subst h;rfl
  ·simp only[Option.some.injEq] at h;subst h;rfl
  ·obtain⟨l,rfl⟩:=W3 h;rfl
  ·cases h
theorem Qk{n:Nat}{e V:D}(h:ba ob n e=some V)(hl:V.cells.length=e.cells.length)(S:∀c∈e.cells,c.pc=true):∀(j:Nat)(y:D),V.cells[j]?=some y->∃(c:D)(m:Nat),e.cells[j]?=some c/\ba ob m c=some y:=by
 cases n with
 | zero=>simp[ba] at h
 | succ n =>
  by_cases ha:e.isAgg=true
  ·cases e<;>simp[D.isAgg] at ha
   rename_i l;simp only[ba,Option.bind_eq_some_iff] at h;obtain⟨l',h1,W⟩:=h;injection W with W
   subst W;intro j y I;obtain⟨x,h3,h4⟩:=(iv h1).2 j y I;exact⟨x,n,h3,h4⟩
  ·have Y:e.isAgg=false:=by simpa using ha
   have Z:=D.cells_one Y;rw[Z] at hl S|-
   have ad:=S e (by simp);have ab:=Gu h ad;rw[D.cells_one ab];intro j y I;cases j with
   | zero=>simp at I;subst I;exact⟨e,n+1,rfl,h⟩
   | succ j=>simp at I
theorem Wp{v:Value}{d:D}{F:Nat->Prop}(hA:∀b,A b->live w b)(hF:∀b,F b->live w b)(h:aq w A v d F):Rd w (live w) v d:=h.rd hA hF
theorem zE{k:Nat}{c:D}(h:lk ob k=some c):(ob k).isObj=true/\c=ob k:=by
 unfold lk at h;split at h
 ·rename_i I;simp only[Option.some.injEq] at h;exact⟨I,h.symm⟩
 ·cases h
theorem ug{B:Nat->Prop}{v:Value}{d:D}{F:Nat->Prop}(hA:∀b,A b->B b)(hF:∀b,F b->B b)(h:aq w A v d F):Rd w B v d:=h.rd hA hF
theorem Xl{B:Nat->Prop}{q:Option Addr}{m n c:Nat}{z:D}{l:List D}(h:Rd w B (.slice q m c) (.slice z l))(hn:n<=m):Rd w B (.slice q n c) (.slice z (l.take n)):=by
 generalize hv:Value.slice q m c=v at h;cases h with
 | nil =>
  injection hv with V W Y
  subst V;subst W;subst Y;have:n=0:=by omega
  subst this;exact .nil
 | empty hm =>
  injection hv with V W Y
  subst V;subst W;subst Y;have:n=0:=by omega
  subst this;exact .empty hm
 | slice hA hc hm hz ad ab vs I hr =>
  injection hv with V W Y
  subst V;subst W;subst Y;have hl:(l.take n).length=n:=by rw[List.length_take];omega
  have S:∀j x,cellAt (l.take n) _ j=some x->cellAt l _ j=some x:=fun j x Z=>by
   have:=yl (L:=l) (h:=n) (l:=0) hz (by simpa using Z);simpa using this
  have:=Rd.slice (w:=w) (z:=z) (L:=l.take n) hA (by omega) hm hz ad (fun y hy=>ab y (List.mem_of_mem_take hy)) vs (fun j x Z=>I j x (S j x Z)) (fun j x Z=>hr j x (S j x Z));rw[hl] at this;exact this
theorem nY{B:Nat->Prop}(hA:∀b,A b->B b)(ag:∀j,(ct j).isObj=true->(ob j).isObj=true->ob j=ct j)(ao:∀j,(ct j).isObj=true->(ob j).isObj=true->∃F,(∀b,F b->B b)/\aN w A (ai w ct vl) (vl j) F (ct j)) :
  ∀(n:Nat){v:Value}{d x:D},Pl w A (ai w ct vl) v d->ba ob n d=some x->Rd w B v x
 | 0,v,d,x,_,h=>by simp[ba] at h
 | n+1,v,d,x,hv,h=>by
  have same:∀{v:Value}{d:D},Pl w A (ai w ct vl) v d->(∀k p,d≠.sub k p)->(∀k p,d≠.aG k p)->(∀f c,d≠.fn f c)->(∀l,d≠.agg l)->(∀l,d≠.av l)->(h6:∀k p n,d≠.pre k p n:=by simp)->Rd w B v d :=
   fun hv h1 h2 h3 h4 h5 h6=>(b8 hv h1 h2 h3 h4 h5 h6).mono hA fun _ _=>rfl
  have cell:∀{v:Value}{F:Nat->Prop}{c y:D},(∀b,F b->B b)->ca w A (ai w ct vl) v F c->ba ob n c=some y->Rd w B v y:=by
   intro v F c y hF hc hy;by_cases ho:∃z,c=.o z
   ·obtain⟨z,rfl⟩:=ho
    cases n with
    | zero=>simp[ba] at hy
    | succ m =>
     simp only[ba,Option.some.injEq] at hy;subst hy;exact ug hA hF hc
   ·have eg:Pl w A (ai w ct vl) v c:=by
     cases c<;>first | exact hc | exact hc.elim | exact absurd ⟨_,rfl⟩ ho
    exact nY hA ag ao n eg hy
  cases d
  case pre k p m =>
   simp only[ba] at h;rw[Option.bind_eq_some_iff] at h;obtain⟨c0,ab,h⟩:=h;obtain⟨Y,V⟩:=zE ab;cases hv with
   | rd hv=>cases hv
   | ref hv =>
    obtain⟨q,l0,cp,⟨g1,g2⟩,g3,rfl⟩:=hv;have W:(ct k).isObj=true:=pJ g1.1;obtain⟨F,hF,hc⟩:=ao k W Y;rw[V,ag k W Y] at h;clear ab V;have hr:ai w ct vl (.slice q l0 cp) (.sub k p):=⟨g1,g2,.inl ⟨_,_,_,rfl⟩⟩;rcases o8 hc hr with⟨z,l,I,rfl,dm⟩ | ⟨F',Z,b9,_,cg⟩ | ⟨l,I,rfl⟩
    rotate_right
    ·rw[I] at h;cases h
    ·rw[I] at h;cases h
    ·have hd:∃z l,(ct k).bm p=.slice z l/\x=.slice z (l.take m):=by
      split at h
      ·rename_i z l I;exact absurd I (cg z l)
      ·split at h
       ·rename_i z l hd
        injection h with h
        exact⟨z,l,hd,h.symm⟩
       ·cases h
     obtain⟨z,l,hd,rfl⟩:=hd;rw[hd] at Z;have ej:=ug hA (fun b hb=>hF b (b9 b hb)) Z;exact Xl ej g3
  case sub k p =>
   simp only[ba] at h;have hr:=eD hv;rw[Option.bind_eq_some_iff] at h;obtain⟨c0,ab,h⟩:=h;obtain⟨Y,V⟩:=zE ab;have W:(ct k).isObj=true:=pJ hr.1.1;obtain⟨F,hF,hc⟩:=ao k W Y;rw[V,ag k W Y] at h;clear ab V;rcases o8 hc hr with⟨z,l,I,rfl,dm⟩ | ⟨F',Z,b9,_,cg⟩ | ⟨l,I,rfl⟩
   rotate_right
   ·rw[I] at h;cases h
   ·rw[I] at h hc
    simp only[Option.bind_eq_some_iff] at h;obtain⟨l',a1,h⟩:=h;split at h
    ·rename_i et
     injection h with h
     subst h;obtain⟨b,sz,cs,e,h1,h2,h3,h4,h5,h6,h7,h8,h9⟩:=hc;obtain⟨b0,b5⟩:=iv a1;have bT:=MU et;rw[dm,h1,<-b0]
     have key:∀j y,cellAt l' sz j=some y->j<cs.size/\Rd w B (cs.getD j undef) y:=by
      intro j y S;have b3:=mB h5 S;rw[b0] at b3;refine⟨by omega,?_⟩;unfold cellAt at S;cases hq:l'[j / sz]? with
      | none=>simp[hq] at S
      | some e' =>
       rw[hq,Option.bind_some] at S;obtain⟨e0,cq,a7⟩:=b5 _ _ hq
       have ax:∀(i:Nat)(c:D),e0.cells[i]?=some c->i<sz->cellAt l sz (j / sz*sz+i)=some c:=by
        intro i c hi cv;unfold cellAt;have e1:(j / sz*sz+i) / sz=j / sz:=by rw[Nat.mul_comm,Nat.mul_add_div h5,Nat.div_eq_of_lt cv];rfl
        have e2:(j / sz*sz+i) % sz=i:=by rw[Nat.mul_comm,Nat.mul_add_mod,Nat.mod_eq_of_lt cv]
        rw[e1,e2,cq];exact hi
       have b2:=h7 e0 (List.mem_of_getElem? cq)
       have dk:∀c∈e0.cells,c.pc=true:=by
        intro c ec;obtain⟨i,hi,eb⟩:=List.getElem_of_mem ec;exact(h8 _ _ (ax i c (by rw[List.getElem?_eq_getElem hi,eb]) (by omega))).2
       have cI:=Nat.mod_lt j h5;have cm:j / sz*sz+j % sz=j:=by rw[Nat.mul_comm];exact Nat.div_add_mod j sz
       cases n with
       | zero=>simp[ba] at a7
       | succ n =>
        by_cases ha:e0.isAgg=true
        ·cases e0<;>simp[D.isAgg] at ha
         rename_i l0;simp only[ba,Option.bind_eq_some_iff] at a7;obtain⟨l1,a6,b1⟩:=a7;injection b1 with b1
         subst b1;obtain⟨c,dn,ea⟩:=(iv a6).2 _ _ S;have:=(h8 _ _ (ax _ c dn cI)).1;rw[cm] at this;exact nY hA ag ao n this ea
        ·have cc:e0.isAgg=false:=by simpa using ha
         obtain⟨c,m,a6,b1⟩:=Qk a7 (by rw[bT e' (List.mem_of_getElem? hq),h6,b2]) dk _ _ S;rw[D.cells_one cc] at a6 b2;simp only[List.length_cons,List.length_nil,Nat.zero_add] at b2;have cy:j % sz=0:=by omega
         rw[cy] at a6 S;simp only[List.getElem?_cons_zero,Option.some.injEq] at a6;subst a6;have V:=(h8 _ _ (ax 0 e0 (by rw[D.cells_one cc];rfl) (by omega))).1;rw[<-cy,cm] at V;have:=nY hA ag ao (n+1) V a7;have hlen:=bT e' (List.mem_of_getElem? hq);rw[h6,<-b2] at hlen;rw[D.cells_one (Gu a7 (dk e0 (by rw[D.cells_one cc];simp)))] at S;simp at S;rw[<-S];exact this
     refine .slice (hF _ h9) (Nat.le_refl _) (by rw[b0];exact h4) h5 h6 (fun x hx=>by rw[bT x hx,h6]) (fun j=>cs.getD j undef) (fun j y S=>?_) (fun j y S=>(key j y S).2);rw[Nat.zero_add];exact fQ h2 (key j y S).1
    ·cases h
   ·have h':(if((ct k).bm p).isAgg=true then none else some ((ct k).bm p))=some x:=by
     revert h;cases I:ct k<;>first | exact id | exact absurd I (cg _ _) | (cases p<;>first | exact id | (intro h;cases h))
    split at h'
    ·cases h'
    ·injection h' with h'
     subst h';exact ug hA (fun b hb=>hF b (b9 b hb)) Z
  case aG k p =>
   simp only[ba] at h;have hr:=gy hv;rw[Option.bind_eq_some_iff] at h;obtain⟨c0,ab,h⟩:=h;obtain⟨Y,V⟩:=zE ab;have W:(ct k).isObj=true:=pJ hr.1;obtain⟨F,hF,hc⟩:=ao k W Y;rw[V,ag k W Y] at h;clear ab V;split at h
   ·rename_i l s off I
    rw[I] at hc;rw[Option.bind_eq_some_iff] at h;obtain⟨l',a1,h⟩:=h;injection h with h
    subst h;obtain⟨_,b,cs,e,Fs,h1,h2,h3,h4,h5,h6,h7⟩:=hc;obtain⟨_,ad,h8,h9⟩:=hr;rw[I,h1] at h8;simp only[aJ,dI,D.un,dU,Option.some.injEq,Nat.zero_add] at h8;subst h8;rw[h9];obtain⟨b0,b5⟩:=iv a1;refine .ptr (hF b h5) (fun j=>cs.getD (off+j) undef) (fun j y S=>?_) (fun j y S=>?_)
    ·rw[List.getElem?_drop] at S
     have:=(List.getElem?_eq_some_iff.1 S).1;exact fQ h2 (by omega)
    ·rw[List.getElem?_drop] at S
     obtain⟨c,V,bg⟩:=b5 _ _ S;exact cell (fun b hb=>hF b (h6 _ b hb).2) (h4 _ _ V) bg
   ·rename_i l s off I
    rw[I] at hc;injection h with h
    subst h
    obtain⟨b,cs,e,Fs,h1,h2,h3,h4,h5,h6⟩:∃(b:Nat)(cs:Array Value)(e:TypeId)(Fs:Nat->Nat->Prop),vl k=.pointer (some ⟨b,0,none⟩)/\w.heap[b]?=some (.cells cs e (0,0))/\cs.size=l.length/\(∀j x,l[j]?=some x->aq w A (cs.getD j undef) x (Fs j))/\F b/\∀j c,Fs j c->F c:=by
     have hc:aq w A (vl k) (.ptr l) F:=hc;generalize vl k=u at hc;cases hc with
     | ptr Fs hb hs hr hF cd _=>exact⟨_,_,_,Fs,rfl,hb,hs,hr,hF,fun j c h=>(cd j c h).2⟩
    obtain⟨_,ad,h8,h9⟩:=hr;rw[I,h1] at h8;simp only[aJ,dI,D.un,dU,Option.some.injEq,Nat.zero_add] at h8;subst h8;rw[h9];refine .ptr (hF b h5) (fun j=>cs.getD (off+j) undef) (fun j y S=>?_) (fun j y S=>?_)
    ·rw[List.getElem?_drop] at S
     have:=(List.getElem?_eq_some_iff.1 S).1;exact fQ h2 (by omega)
    ·rw[List.getElem?_drop] at S
     exact ug hA (fun b hb=>hF b (h6 _ b hb)) (h4 _ _ S)
   ·rename_i l s1 off s2 o2 I
    rw[I] at hc;obtain⟨l2,bF,rfl⟩:=II h;obtain⟨_,b,cs,e,Fs,h1,h2,h3,h4,h5,h6,h7⟩:=hc
    have b3:off<l.length:=Classical.byContradiction fun hh=>by
     rw[List.getD_eq_getElem?_getD,List.getElem?_eq_none (by omega)] at bF;cases bF
    have cr:l[off]?=some (.o (.ptr l2)):=by
     rw[List.getElem?_eq_getElem b3];rw[List.getD_eq_getElem?_getD,List.getElem?_eq_getElem b3] at bF;simpa using bF
    have Z:aq w A (cs.getD off undef) (.ptr l2) (Fs off):=h4 off _ cr;obtain⟨_,ad,h8,h9⟩:=hr;rw[I,h1] at h8
    have ef:cG w (.pointer (some ⟨b,0,none⟩)) (.box l) s1 off=some (cs.getD off undef):=by
     show w.cell? ⟨b,0+off,none⟩=_;rw[Nat.zero_add];exact fQ h2 (by omega)
    have hk:D.aY (.box l) s1 off=.o (.ptr l2):=bF;rw[aJ,ef,Option.bind_some,hk] at h8
    ·obtain⟨b',a8,e',b4,g1,g2,g3,g4,g5,g6⟩:∃(b':Nat)(a8:Array Value)(e':TypeId)(b4:Nat->Nat->Prop),cs.getD off undef=.pointer (some ⟨b',0,none⟩)/\w.heap[b']?=some (.cells a8 e' (0,0))/\a8.size=l2.length/\(∀j x,l2[j]?=some x->aq w A (a8.getD j undef) x (b4 j))/\Fs off b'/\∀j c,b4 j c->Fs off c:=by
      generalize cs.getD off undef=u at Z;cases Z with
      | ptr Fs hb hs hr hF cd _=>exact⟨_,_,_,Fs,rfl,hb,hs,hr,hF,fun j c h=>(cd j c h).2⟩
     rw[g1] at h8;simp only[aJ,dI,D.un,dU,Option.some.injEq,Nat.zero_add] at h8;subst h8;rw[h9];have cj:∀c,Fs off c->B c:=fun c hc=>hF c (h6 _ c hc).2
     refine .ptr (cj b' g5) (fun j=>a8.getD (o2+j) undef) (fun j y S=>?_) (fun j y S=>?_)
     ·rw[List.getElem?_drop] at S
      have:=(List.getElem?_eq_some_iff.1 S).1;exact fQ g2 (by omega)
     ·rw[List.getElem?_drop] at S
      exact ug hA (fun b hb=>cj b (g6 _ b hb)) (g4 _ _ S)
    ·simp
   ·cases h
  case agg l =>
   simp only[ba,Option.bind_eq_some_iff] at h;obtain⟨l',a1,h⟩:=h;injection h with h
   subst h;obtain⟨cs,rfl,h1,h2⟩:=oD hv;obtain⟨h3,h4⟩:=iv a1
   exact .agg (by rw[h1,h3]) fun j y S=>by
    obtain⟨c,V,bg⟩:=h4 j y S;exact nY hA ag ao n (h2 j c V) bg
  case fn f caps =>
   simp only[ba,Option.bind_eq_some_iff] at h;obtain⟨l',a1,h⟩:=h;injection h with h
   subst h;obtain⟨cs,rfl,h1,h2⟩:=oE hv;obtain⟨h3,h4⟩:=iv a1
   exact .fn (by rw[h1,h3]) fun j y S=>by
    obtain⟨c,V,bg⟩:=h4 j y S;exact nY hA ag ao n (h2 j c V) bg
  case aH z =>
   simp only[ba,Option.some.injEq] at h;subst h;exact(AE hv rfl).mono hA fun _ _=>rfl
  case o y =>
   simp only[ba,Option.some.injEq] at h;subst h;have:=b8 hv (by simp) (by simp) (by simp) (by simp) (by simp);cases this with
   | o h=>exact h.mono hA fun _ _=>rfl
  all_goals simp only[ba,Option.some.injEq,reduceCtorEq] at h
  all_goals
   subst h;exact same hv (by simp) (by simp) (by simp) (by simp) (by simp)
theorem Gv(hA:∀b,A b->live w b)(I:∀j,(ct j).isObj=true->ob j=ct j)(S:∀j,∃F,(∀b,F b->live w b)/\aN w A (ai w ct vl) (vl j) F (ct j))(n:Nat){v:Value}{d x:D}(h:Pl w A (ai w ct vl) v d)(hg:ba ob n d=some x):Rd w (live w) v x :=
 nY hA (fun j h _=>I j h) (fun j _ _=>S j) n h hg
theorem Tm{v:Value}{d:D}(h:ai w ct vl v d)(I:d.refs dW):False:=by
 cases d<;>first | exact h.elim | exact I.elim
theorem po{v:Value}{d:D}(h:Pl w A (ai w ct vl) v d)(W:d.refs dW):Rd w A v d:=by
 induction h with
 | rd h=>exact h
 | ref h=>exact(Tm h W).elim
 | agg S _ V=>exact .agg S fun j x I=>V j x I (bG.1 W x (List.mem_of_getElem? I))
 | av S _ V=>exact .av S fun j x I=>V j x I (bG.1 W x (List.mem_of_getElem? I))
 | fn S _ V=>exact .fn S fun j x I=>V j x I (bG.1 W x (List.mem_of_getElem? I))
theorem vK:∀(n:Nat){v:Value}{d x:D},Pl w A (ai w ct vl) v d->d.refs dW->ba ob n d=some x->Rd w A v x
 | 0,v,d,x,_,_,h=>by simp[ba] at h
 | n+1,v,d,x,Y,W,h=>by
  cases d
  case sub k p=>exact W.elim
  case aG k p=>exact W.elim
  case pre k p m=>exact W.elim
  case agg l =>
   simp only[ba,Option.bind_eq_some_iff] at h;obtain⟨l',V,h⟩:=h;injection h with h
   subst h;obtain⟨cs,rfl,h1,Z⟩:=oD Y;obtain⟨h3,h4⟩:=iv V
   exact .agg (by rw[h1,h3]) fun j y hj=>by
    obtain⟨c,I,S⟩:=h4 j y hj;exact vK n (Z j c I) (bG.1 W c (List.mem_of_getElem? I)) S
  case fn f caps =>
   simp only[ba,Option.bind_eq_some_iff] at h;obtain⟨l',V,h⟩:=h;injection h with h
   subst h;obtain⟨cs,rfl,h1,Z⟩:=oE Y;obtain⟨h3,h4⟩:=iv V
   exact .fn (by rw[h1,h3]) fun j y hj=>by
    obtain⟨c,I,S⟩:=h4 j y hj;exact vK n (Z j c I) (bG.1 W c (List.mem_of_getElem? I)) S
  case aH z =>
   simp only[ba,Option.some.injEq] at h;subst h;exact AE Y rfl
  case o y =>
   simp only[ba,Option.some.injEq] at h;subst h;have:=b8 Y (by simp) (by simp) (by simp) (by simp) (by simp);cases this with
   | o h=>exact h
  all_goals simp only[ba,Option.some.injEq,reduceCtorEq] at h
  all_goals
   subst h;exact b8 Y (by simp) (by simp) (by simp) (by simp) (by simp)
theorem vf{A':Nat->Prop}:∀{xs:List Operand}{ys:List X}{I:List D},fh ds tr xs ys=true->(∀y,y∈ys->∀x,aP ds tr x y=true->cC w A (ai w ct vl) (a.eval x) (rd y)) ->
  (∀y,y∈ys->∀{v:Value}{x:D},Pl w A (ai w ct vl) v (rd y).core->ba ob 4 (rd y).core=some x->Rd w A' v x) ->
  iR ob rd ys=some I->eN rd ys=true->xs.length=I.length/\∀(j:Nat)(d:D),I[j]?=some d->Rd w A' ((xs.map a.eval).getD j undef) d
 | [],[],I,_,_,_,S,_=>by simp[iR] at S;subst S;simp
 | [],_::_,_,h,_,_,_,_=>by simp[fh] at h
 | _::_,[],_,h,_,_,_,_=>by simp[fh] at h
 | x::xs,y::ys,I,Y,hr,hg,S,hgt=>by
  simp only[fh,Bool.and_eq_true] at Y;simp only[iR,Option.bind_eq_some_iff] at S;obtain⟨d0,V,l,hl,S⟩:=S;injection S with S
  subst S;simp only[eN,Bool.and_eq_true] at hgt;obtain⟨h1,h2⟩:=vf Y.2 (fun y Z=>hr y (by simp[Z])) (fun y Z=>hg y (by simp[Z])) hl hgt.2;have h3:=hg y (by simp) ((hr y (by simp) x Y.1).1 hgt.1) V;refine⟨by simp[h1],fun j d W=>?_⟩;cases j with
  | zero=>simp at W;subst W;simpa using h3
  | succ j=>simpa using h2 j d (by simpa using W)
theorem Fa{f:FuncId}{xs:List Operand}{Y:Array TypeId}(W:o.op=.call { callee:=.value (.func f),args:=xs.toArray,argTypes:=Y })(I:fB P f=true) :
  (execOp a.eval o).run P w=.ok (.enter f (xs.map a.eval).toArray) w:=by
 unfold fB at I;cases S:P.funcs[f]? with
 | none=>simp[S] at I
 | some fn =>
  simp[S] at I;obtain⟨h1,V⟩:=I;cases hbody:fn.body with
  | none=>simp[hbody] at h1
  | some c=>simp[execOp,W,resolve,Act.eval,Deferred.ofValue,invoke,callFunc,S,V,hbody]
theorem nV{R:Value->D->Prop}{v:Value}{d:D}{F:Nat->Prop}(h:aq w A v d F):aN w A R v F (aV d)/\((aV d).isObj=false->aN w A R v (fun _=>False) (aV d)):=by
 have rd:∀{d:D},aq w A v d F->(∀{A':Nat->Prop}{F':Nat->Prop},aq w A v d F')->Rd w A v d:=fun _ h=>(h (A':=A) (F':=fun _=>False)).rd (fun _ h=>h) fun _ h=>h.elim
 cases h with
 | int h=>exact⟨.rd (.int h),fun _=>.rd (.int h)⟩
 | bool=>exact⟨.rd .bool,fun _=>.rd .bool⟩
 | str h=>exact⟨.rd (.str h),fun _=>.rd (.str h)⟩
 | nil=>exact⟨.nil,fun h=>by cases h⟩
 | bd=>exact⟨.rd .bd,fun _=>.rd .bd⟩
 | fn=>exact⟨.rd (.fn rfl (fun j x hx=>by simp at hx)),fun _=>.rd (.fn rfl (fun j x hx=>by simp at hx))⟩
 | @vw v d F h =>
  cases d
  case slice z l=>exact⟨Pl.rd h,fun _=>Pl.rd h⟩
  case ptr l=>exact⟨Pl.rd h,fun _=>Pl.rd h⟩
  case agg l=>exact⟨Pl.rd h,fun _=>Pl.rd h⟩
  case fn f l=>exact⟨Pl.rd h,fun _=>Pl.rd h⟩
  case mp ks vs=>exact⟨Pl.rd h,fun _=>Pl.rd h⟩
  case av l=>exact⟨Pl.rd h,fun _=>Pl.rd h⟩
  all_goals exact⟨Pl.dead,fun _=>Pl.dead⟩
 | dead=>exact⟨Pl.dead,fun _=>Pl.dead⟩
 | mp hF V hE=>exact⟨.mp hF V hE,fun h=>by cases h⟩
 | bS=>exact⟨.rd .bS,fun _=>.rd .bS⟩
 | bE h=>exact⟨Pl.rd (.bE h),fun _=>Pl.rd (.bE h)⟩
 | bz=>exact⟨.rd .bz,fun _=>.rd .bz⟩
 | b6 hF V Z=>exact⟨.b6 hF V Z,fun h=>by cases h⟩
 | sb hF hg h=>exact⟨.sb hF hg h,fun h=>by cases h⟩
 | slice Fs V Y hc hm hz ad ab W hF S I=>exact⟨.slice Fs V Y hc hm hz ad ab W hF S I,fun h=>by cases h⟩
 | agg Fs Z W S I=>exact⟨.agg Fs Z W S I,fun h=>by cases h⟩
 | av Fs Z W S I=>exact⟨.av Fs Z W S I,fun h=>by cases h⟩
 | ptr Fs V Z W hF S I=>exact⟨.ptr Fs V Z W hF S I,fun h=>by cases h⟩
theorem Fb[Mode]{cx:Ctx}{fp:Nat->Nat->Prop}{G:Nat->Prop}{Q:Exit->Act->World->Prop}(h:Hp cx ct vl fp G w){f:FuncId}{xs:List X}(hk:bb P ds tr o (.call f xs)=true)
  (hx:∀y,y∈xs->∀x,aP ds tr x y=true->cC w (ak cx fp G w) (ai w ct vl) (a.eval x) (rd y)) (b9:∀j,(ct j).isObj=true->ob j=ct j)
  {Z:List D} (hd:iR ob rd xs=some Z) (ao:eN rd xs=true) {res:D} (hR:aA P f (Z.map .v) res) (hn:res.bA=true\/kW rd xs) (g:Option Bool) (hg:g≠some false) {cr:D} (bT:yk g res cr) {K:Act->World->Prop}
  (hK:∀(v:Value)(w':World)(F:Nat->Prop),Ext w w'->(∀b,F b->w.heap.size<=b/\b<w'.heap.size)->aN w' (l7 (ak cx fp G w) w w' F) (ai w ct vl) v F cr->(cr.isObj=false->∀b,¬F b)->K (a.put o.dst v) w') :
  o.wp P a w K Q:=by
 simp only[bb] at hk;split at hk<;>try(cases hk;done)
 rename_i f' as cd;obtain⟨ts,ho⟩:=H9 cd;simp only[Bool.and_eq_true,beq_iff_eq] at hk;obtain⟨⟨rfl,ax⟩,b5⟩:=hk;have W:∀b,ak cx fp G w b->live w b:=fun b I=>I.1.1
 have cc:∀j,∃F,(∀b,F b->live w b)/\aN w (ak cx fp G w) (ai w ct vl) (vl j) F (ct j):=fun j=>⟨fp j,fun b I=>(h.lt j b I).1,h.ok j⟩
 obtain⟨A',b3,b2,bg,b4⟩:∃A':Nat->Prop,ik w A'/\(∀b,A' b->live w b)/\((as.length=Z.length/\∀(j:Nat)(d:D),Z[j]?=some d->Rd w A' ((as.map a.eval).getD j undef) d))/\(res.bA=true\/∀b,A' b->ak cx fp G w b):=by
  rcases hn with hn | hn
  ·exact⟨live w,h.gl.mono W (fun _ _=>rfl),fun _ h=>h,vf ax hx (fun y _ v x hv hg=>Gv W b9 cc 4 hv hg) hd ao,.inl hn⟩
  ·have cj:∀y,y∈xs->(rd y).core.refs dW:=by
    clear hd ao hx ax;induction xs with
    | nil=>intro y hy;cases hy
    | cons z r ih =>
     intro y hy;rcases List.mem_cons.1 hy with rfl | hy
     ·exact hn.1
     ·exact ih hn.2 y hy
   exact⟨ak cx fp G w,h.gl,W,vf ax hx (fun y hy v x hv hg=>vK 4 hv (cj y hy) hg) hd ao,.inr fun _ h=>h⟩
 unfold Oper.wp;rw[Fa ho b5,Oper.upon_enter];refine(hR w A' _ (fun _ _=>False) b3 b2 (by simp[bg.1]) (fun j x hj=>?_) (fun _ _ _ _ h=>h.elim) (fun _ _ h=>h.elim)).mono ?_
 ·rw[List.getElem?_map,Option.map_eq_some_iff] at hj
  obtain⟨d,hj,rfl⟩:=hj;refine⟨?_,fun _ h=>h⟩;have:=bg.2 j d hj;simpa using this
 ·rintro e w' ⟨v,F,b1,rfl,cm,ag,a6,hF,bF,_,a7,cg,a8,b0⟩
  have cp:∀j b,¬b1 j b:=by
   intro j b I;have hj:=(bF j b I).2.2;rw[List.length_map] at hj;exact a6 j (.v Z[j]) (by rw[List.getElem?_map,List.getElem?_eq_getElem hj];rfl) b I
  have V:Ext w w':=⟨cm,fun b I=>a7 b I (fun _ h=>h),cg,a8,b0⟩;have ab:∀b,F b->w.heap.size<=b/\b<w'.heap.size:=fun b I=>⟨(hF b I).2.1.resolve_right fun⟨_,h⟩=>h,(hF b I).1⟩
  have Y:aq w' (l7 (ak cx fp G w) w w' F) v res F:=by
   rcases b4 with hn | hn
   ·exact wE ag hn
   ·exact ag.mono (fun b I=>I.imp (hn b) fun S=>⟨S.1,S.2.1,S.2.2.1⟩) (fun _ _=>rfl) (fun _ _=>rfl) fun _ h=>h
  cases g with
  | none =>
   rcases bT with rfl | rfl
   ·obtain⟨h1,h2⟩:=nV (R:=ai w ct vl) Y
    by_cases ho:(aV res).isObj=true
    ·exact hK v w' F V ab h1 (fun S=>by rw[ho] at S;cases S)
    ·have a1:(aV res).isObj=false:=by simpa using ho
     refine hK v w' (fun _=>False) V (fun _ h=>h.elim) ?_ (fun _ _ h=>h);exact(h2 a1).mono (Q:=fun _=>True) (fun b I=>I.imp id fun S=>⟨S.1,S.2.1,fun h=>h⟩) (fun _ _=>rfl) (fun _ _=>rfl) (fun _ h=>h) (bw (fun _=>trivial) _) fun v d _ hr=>hr
   ·have ad:Rd w' (l7 (ak cx fp G w) w w' fun _=>False) v res :=
     Y.rd (fun b I=>I.imp id fun S=>⟨S.1,S.2.1,fun h=>h⟩) fun b I=>.inr ⟨(ab b I).1,(ab b I).2,fun h=>h⟩
    have a1:(aV (.vw res)).isObj=false:=by cases res<;>rfl
    exact hK v w' (fun _=>False) V (fun _ h=>h.elim) ((nV (R:=ai w ct vl) (aq.vw (F:=fun _=>False) ad)).2 a1) (fun _ _ h=>h)
  | some b =>
   have ad:Rd w' (l7 (ak cx fp G w) w w' fun _=>False) v res :=
    Y.rd (fun b I=>I.imp id fun S=>⟨S.1,S.2.1,fun h=>h⟩) fun b I=>.inr ⟨(ab b I).1,(ab b I).2,fun h=>h⟩
   rcases bT with rfl | rfl
   ·exact hK v w' (fun _=>False) V (fun _ h=>h.elim) ⟨fun _=>.rd ad,fun S=>by subst S;exact absurd rfl hg⟩ (fun _ _ h=>h)
   ·exact hK v w' (fun _=>False) V (fun _ h=>h.elim) ⟨fun _=>.rd (I2 ad),fun S=>by subst S;exact absurd rfl hg⟩ (fun _ _ h=>h)
end
end Go.D3
