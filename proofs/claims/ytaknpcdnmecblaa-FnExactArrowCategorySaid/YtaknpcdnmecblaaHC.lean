/- CALLS whose arguments are only read. Generic. -/
import Derived.Test.YtaknpcdnmecblaaHB
import Derived.MapKept
import Derived.Laws.RangeAny
import Derived.Laws.BytesString
import Derived.Lib.ConvBytes
namespace Go.D3
open Go
theorem EV:∀(xs l:List D)(off:Nat),(setCells l off xs).length=l.length
 | [],_,_=>rfl
 | x::r,l,off=>by simp[setCells,EV r]
theorem xq:∀(xs l:List D)(off j:Nat),off+xs.length<=l.length->(setCells l off xs)[j]?=if off<=j/\j<off+xs.length then xs[j-off]? else l[j]?
 | [],l,off,j,_=>by simp[setCells];intro h1 h2;omega
 | x::r,l,off,j,h=>by
  simp only[List.length_cons] at h;rw[setCells,xq r _ _ _ (by simp;omega)];simp only[List.length_cons];by_cases h1:off+1<=j/\j<off+1+r.length
  ·rw[if_pos h1,if_pos (by omega)]
   obtain⟨k,rfl⟩:∃k,j=off+1+k:=⟨j-(off+1),by omega⟩;simp[show off+1+k-off=k+1 by omega]
  ·rw[if_neg h1]
   by_cases h2:j=off
   ·subst h2
    rw[if_pos (by omega)];simp[show j<l.length by omega]
   ·rw[if_neg (by omega),List.getElem?_set_ne (by omega)]
def dV(cs:Array Value)(off:Nat):List Value->Array Value
 | []=>cs
 | v::r=>dV (cs.setIfInBounds off v) (off+1) r
theorem rG:∀(l:List Value)(k off:Nat)(cs:Array Value),(l.zipIdx k).foldl (fun cs (p:Value×Nat)=>cs.setIfInBounds (off+p.2) p.1) cs=dV cs (off+k) l
 | [],_,_,_=>rfl
 | v::r,k,off,cs=>by
  simp only[List.zipIdx_cons,List.foldl_cons,dV];rw[rG r (k+1) off];congr 1
theorem oD:∀(l:List Value)(off:Nat)(cs:Array Value),(dV cs off l).size=cs.size
 | [],_,_=>rfl
 | v::r,off,cs=>by rw[dV,oD r];simp
theorem oC:∀(l:List Value)(off:Nat)(cs:Array Value)(j:Nat),off+l.length<=cs.size->(dV cs off l).getD j undef=if off<=j/\j<off+l.length then l.getD (j-off) undef else cs.getD j undef
 | [],off,cs,j,_=>by simp[dV];intro h1 h2;omega
 | v::r,off,cs,j,h=>by
  simp only[List.length_cons] at h;rw[dV,oC r _ _ _ (by simp;omega)];simp only[List.length_cons];by_cases h1:off+1<=j/\j<off+1+r.length
  ·rw[if_pos h1,if_pos (by omega)]
   obtain⟨k,rfl⟩:∃k,j=off+1+k:=⟨j-(off+1),by omega⟩;simp[show off+1+k-off=k+1 by omega]
  ·rw[if_neg h1]
   by_cases h2:j=off
   ·subst h2
    rw[if_pos (by omega)];simp[show j<cs.size by omega]
   ·rw[if_neg (by omega)]
    simp[Array.getElem?_setIfInBounds_ne (show off≠j by omega)]
section
variable{P:Program}{o:Oper}{w:World}{A:Nat->Prop}{ct:Nat->D}{vl:Nat->Value}{a:Act}{ds:List (Option Nat)}{tr:List Nat}{rd:X->D}
theorem NX{R:Value->D->Prop}{cs vs:Array Value}{l xs:List D}{off:Nat}(hs:cs.size=l.length)(hr:∀j c,l[j]?=some c->R (cs.getD j undef) c)
  (hs':vs.size=xs.length) (hr':∀j c,xs[j]?=some c->R (vs.getD j undef) c) (h:off+xs.length<=l.length) :
  (dV cs off vs.toList).size=(setCells l off xs).length/\∀j c,(setCells l off xs)[j]?=some c->R ((dV cs off vs.toList).getD j undef) c:=by
 refine⟨by rw[oD,EV,hs],fun j c hc=>?_⟩;rw[xq _ _ _ _ h] at hc;rw[oC _ _ _ _ (by simp;omega)];simp only[Array.length_toList,hs'];split at hc
 ·rename_i h1
  rw[if_pos h1];have:=hr' _ _ hc;simpa using this
 ·rename_i h1
  rw[if_neg h1];exact hr _ _ hc
theorem FC{v:Value}{d:D}{F:Nat->Prop}(h:fO v d=true):af w A v d F/\d.isAgg=false:=by
 unfold fO at h;split at h
 ·simp at h
  obtain⟨⟨h1,h2⟩,h3⟩:=h;subst h1;subst h2;exact⟨.int (qc h3),rfl⟩
 ·simp at h;subst h;exact⟨.bool,rfl⟩
 ·rename_i s
  have:s.data.toList=[]:=by simpa using h
  rw[uI s,this];exact⟨.str (by simp),rfl⟩
 ·exact⟨.dead,rfl⟩
 ·exact⟨.nil,rfl⟩
 ·exact⟨.aF,rfl⟩
 ·exact⟨.bw,rfl⟩
 ·exact⟨.bl,rfl⟩
 ·cases h
theorem zd{v:Value}{d:D}(h:fO v d=true):Rd w A v d :=
 ((FC (w:=w) (A:=A) (F:=fun _=>False) h).1).rd (fun _ h=>h) (fun _ h=>h.elim)
theorem Pq{v:Value}{d:D}{F:Nat->Prop}(h:fO v (y5 d)=true):af w A v d F:=by
 unfold y5 at h;split at h
 ·rename_i z
  have:v=.slice none 0 0:=by
   unfold fO at h;split at h<;>simp_all
  subst this;exact .vw .aM
 ·exact(FC h).1
theorem FE{v:Value}{d:D}(h:fO v (kf d)=true):Rd w A v d:=by
 cases d with
 | aM z =>
  simp only[kf] at h;unfold fO at h;split at h<;>first | exact .aM | cases h | (rename_i hh _;cases hh) | skip
  all_goals first | exact .aM | contradiction
 | _=>exact zd h
theorem Pp{R:Value->D->Prop}{v:Value}{d:D}{F:Nat->Prop}(h:fO v (kf d)=true):bG w A R v F d:=by
 have hr:=FE (w:=w) (A:=A) h;cases d<;>first | exact Pl.rd hr | (simp only[kf] at h;unfold fO at h;split at h<;>first | contradiction | cases h)
theorem FD:∀{vs:List Value}{zs:List D},oR vs zs=true->vs.length=zs.length/\∀j z,zs[j]?=some z->fO (vs.getD j undef) z=true
 | [],[],_=>⟨rfl,by simp⟩
 | [],_::_,h=>by simp[oR] at h
 | _::_,[],h=>by simp[oR] at h
 | v::vs,d::zs,h=>by
  simp[oR] at h;obtain⟨h1,h2⟩:=FD h.2;refine⟨by simp[h1],fun j z hz=>?_⟩;cases j with
  | zero=>simp at hz;subst hz;simpa using h.1
  | succ j=>simpa using h2 j z (by simpa using hz)
theorem qM{t:TypeId}{zs:List D}(h:lQ P t zs=true):∃i z,P.info? t=some i/\i.zero=some z/\i.size=zs.length/\z.cells.size=zs.length/\∀j d,zs[j]?=some d->fO (z.cells.getD j undef) d=true:=by
 unfold lQ at h;cases hi:P.info? t with
 | none=>simp[hi] at h
 | some i =>
  cases hz:i.zero with
  | none=>simp[hi,hz] at h
  | some z =>
   simp[hi,hz] at h;obtain⟨h1,h2⟩:=FD h.1;exact⟨i,z,rfl,hz,h.2,by simpa using h1,fun j d hd=>by simpa using h2 j d hd⟩
theorem Hc{t f:Nat}{off:Nat}{ft:TypeId}(h:gm P t f=some (off,ft)):∃fs fl,P.underlying t=some (.struct fs)/\fs[f]?=some fl/\fl.offset=off/\fl.type=ft:=by
 unfold gm at h;cases hu:P.underlying t with
 | none=>simp[hu] at h
 | some d =>
  cases d<;>simp[hu] at h;obtain⟨fl,hfl,h1,h2⟩:=h;exact⟨_,fl,rfl,hfl,h1,h2⟩
theorem Bk{t:TypeId}{fs:Array Field}(hu:P.underlying t=some (.struct fs)):∀{ps:List (Nat×Operand)}{parts:List (Nat×Nat×X)},mn P ds tr t ps parts=true ->
  ∀(places:Nat->Option (Nat×Nat)),(∀(i:Nat) fl n,fs[i]?=some fl->cC P fl.type n=true->places i=some (fl.offset,n)) ->
  ps.length=parts.length/\∀(j i:Nat) x off n y,ps[j]?=some (i,x)->parts[j]?=some (off,n,y)->places i=some (off,n)/\aA ds tr x y=true
 | [],[],_,_,_=>⟨rfl,by simp⟩
 | [],_::_,h,_,_=>by simp[mn] at h
 | _::_,[],h,_,_=>by simp[mn] at h
 | (i,x)::ps,(off,n,y)::parts,h,places,hp=>by
  simp only[mn,Bool.and_eq_true] at h;obtain⟨⟨h1,h2⟩,h3⟩:=h;obtain⟨h4,h5⟩:=Bk hu h3 places hp;refine⟨by simp[h4],fun j=>?_⟩;cases j with
  | zero =>
   rintro i' x' off' n' y' he he';simp at he he';obtain⟨rfl,rfl⟩:=he;obtain⟨rfl,rfl,rfl⟩:=he';cases hf:gm P t i with
   | none=>simp[hf] at h1
   | some q =>
    obtain⟨o',ft⟩:=q;simp[hf] at h1;obtain⟨fs',fl,hu',hfl,h6,h7⟩:=Hc hf;rw[hu] at hu';injection hu' with hu';injection hu' with hu';subst hu'
    refine⟨?_,h2⟩;rw[<-h1.1,<-h6];exact hp i fl n hfl (by rw[h7];exact h1.2)
  | succ j=>intro i' x' off' n' y' he he';exact h5 j i' x' off' n' y' (by simpa using he) (by simpa using he')
theorem AQ(places:Nat->Option (Nat×Nat)):∀(ps:List (Nat×Operand))(parts:List (Nat×Nat×X))(cs:Array Value)(l:List D)(g:Bool)(l':List D),ps.length=parts.length ->
  (∀(j i:Nat) x off n y,ps[j]?=some (i,x)->parts[j]?=some (off,n,y)->places i=some (off,n)/\aA ds tr x y=true) ->
  (∀y,y∈parts.map (·.2.2)->∀x,aA ds tr x y=true->bL w A (aa w ct vl) (a.eval x) (rd y)) ->
  cs.size=l.length->(∀j c,l[j]?=some c->Pl w A (aa w ct vl) (cs.getD j undef) c)->kL rd l parts=some (g,l')->g=true ->
  ∃cs',Instr.fill places cs (ps.map fun(i,x)=>(i,a.eval x))=some cs'/\cs'.size=l'.length/\∀j c,l'[j]?=some c->Pl w A (aa w ct vl) (cs'.getD j undef) c
 | [],[],cs,l,g,l',_,_,_,h1,h2,hf,_=>by
  simp[kL] at hf;obtain⟨_,rfl⟩:=hf;exact⟨cs,rfl,h1,h2⟩
 | [],_::_,_,_,_,_,h,_,_,_,_,_,_=>by simp at h
 | _::_,[],_,_,_,_,h,_,_,_,_,_,_=>by simp at h
 | (i,x)::ps,(off,n,y)::parts,cs,l,g,l',hl,hp,hr,h1,h2,hf,hg=>by
  simp only[kL] at hf;obtain⟨hpl,hx⟩:=hp 0 i x off n y rfl rfl;cases hc:((rd y).core).cellsOf with
  | none=>simp[hc] at hf
  | some xs =>
   simp only[hc,Option.bind_some] at hf;split at hf
   ·rename_i hlen
    rw[Option.bind_eq_some_iff] at hf;obtain⟨⟨g',l''⟩,hf,he⟩:=hf;injection he with he
    injection he with he1 he2
    subst he2;rw[hg] at he1;simp at he1;have hv:=(hr y (by simp) x hx).1 he1.1;obtain⟨h3,h4⟩:=lN hv hc;obtain⟨h5,h6⟩:=NX (R:=Pl w A (aa w ct vl)) (off:=off) h1 h2 h3 h4 (by omega)
    obtain⟨cs',h7,h8⟩:=AQ places ps parts _ _ g' l'' (by simpa using hl) (fun j i x off n y hj hj'=>hp (j+1) i x off n y (by simpa using hj) (by simpa using hj'))
     (fun y hy=>hr y (by simp only[List.map_cons,List.mem_cons];exact .inr hy)) h5 h6 hf he1.2
    refine⟨cs',?_,h8⟩;simp only[List.map_cons,Instr.fill,hpl];have hcond:¬((decide ((a.eval x).cells.size≠n) || decide (off+(a.eval x).cells.size > cs.size))=true):=by simp;omega
    rw[if_neg hcond];have:=rG (a.eval x).cells.toList 0 off cs;simp only[Nat.add_zero] at this;rw[<-Array.foldl_toList,Array.toList_zipIdx,this];exact h7
   ·cases hf
theorem O5{t:TypeId}{ps:Array (Nat×Operand)}(ho:o.op=.build t ps){zs:List D}{parts:List (Nat×Nat×X)}(hz:lQ P t (zs.map kf)=true)(hp:mn P ds tr t ps.toList parts=true)
  (aI:∃fs,P.underlying t=some (.struct fs)/\∀f∈fs.toList,(P.info? f.type).isSome=true)
  (hr:∀y,y∈parts.map (·.2.2)->∀x,aA ds tr x y=true->bL w A (aa w ct vl) (a.eval x) (rd y)) {g:Bool} {l:List D} (hf:kL rd zs parts=some (g,l)) (hg:g=true) :
  ∃v,Yd P o a w v/\Pl w A (aa w ct vl) v (.agg l):=by
 obtain⟨fs,hu,hfs⟩:=aI;obtain⟨i,z,hi,hiz,hsz,hzs,hzc⟩:=qM hz
 have hpl:fs.toList.mapM (fun f=>(P.info? f.type).map fun i=>(f.offset,i.size))=some (fs.toList.map fun f=>(f.offset,((P.info? f.type).map (·.size)).getD 0)):=by
  generalize fs.toList=l at hfs;induction l with
  | nil=>rfl
  | cons f r ih =>
   have h1:=hfs f (by simp);cases hq:P.info? f.type with
   | none=>simp[hq] at h1
   | some q=>simp[List.mapM_cons,hq,ih fun f hf=>hfs f (by simp[hf])]
 obtain⟨h1,h2⟩:=Bk hu hp (fun i=>(fs.toList.map fun f=>(f.offset,((P.info? f.type).map (·.size)).getD 0)).toArray[i]?) (fun i fl n hfl hn=>by
  have:fs.toList[i]?=some fl:=by simpa using hfl
  simp only[List.getElem?_toArray,List.getElem?_map,this,Option.map_some];unfold cC at hn;cases hq:P.info? fl.type with
  | none=>simp[hq] at hn
  | some q=>simp[hq] at hn;simp[hn])
 obtain⟨cs',h3,h4,h5⟩:=AQ (w:=w) (A:=A) (ct:=ct) (vl:=vl) (a:=a) _ ps.toList parts z.cells zs g l h1 h2 hr (by simpa using hzs) (fun j c hc=>.rd (FE (hzc j (kf c) (by rw[List.getElem?_map,hc];rfl)))) hf hg
 have hb:P.built t ((ps.map fun(i,x)=>(i,a.eval x)).toList)=some cs':=by
  simp only[Program.built,hi,hu,hiz,hpl];rw[Array.toList_map];exact h3
 exact⟨.agg cs',by simp only[Yd,execOp,ho];simp[run_build w t _ cs' hb],.agg h4 h5⟩
theorem AF{xs ys:Array Value}:∀(fs:List Field)(ks:List Nat)(i d:Nat)(l r:List D)(b:Bool),eqFields P i fs ks=true ->
  (∀(j:Nat) c,l[j]?=some c->i+j<xs.size/\Pl w A (aa w ct vl) (xs.getD (i+j) undef) c)->(∀(j:Nat) c,r[j]?=some c->i+j<ys.size/\Pl w A (aa w ct vl) (ys.getD (i+j) undef) c)->fR ks l r=some b ->
  (Op.eqFields (d+1) xs ys fs).run P w=.ok b w
 | [],[],_,_,l,r,b,_,_,_,h=>by
  cases l<;>cases r<;>simp[fR] at h;subst h;simp[Op.eqFields]
 | [],_::_,_,_,_,_,_,h,_,_,_=>by simp[eqFields] at h
 | _::_,[],_,_,_,_,_,h,_,_,_=>by simp[eqFields] at h
 | f::fs,k::ks,i,d,l,r,b,hf,h1,h2,h=>by
  simp only[eqFields,Bool.and_eq_true,decide_eq_true_eq] at hf;obtain⟨⟨⟨hn,hoff⟩,hpe⟩,hf⟩:=hf;have hn':f.name≠ "_":=by simpa using hn
  have hc:iN P f.type=true:=by
   unfold kU at hpe;unfold iN;split at hpe<;>simp_all
  have key:∃x l' y r' b1 b2,l=x::l'/\r=y::r'/\b=(b1&&b2)/\fR ks l' r'=some b2 /\
    ((Pl w A (aa w ct vl) (xs.getD i undef) x->Pl w A (aa w ct vl) (ys.getD i undef) y->(Op.equalIn (d+1) f.type (xs.getD i undef) (ys.getD i undef)).run P w=.ok b1 w)):=by
   unfold kU at hpe;unfold fR at h;split at h
   ·simp_all
   ·split at h
    ·rename_i hk
     subst hk;rw[Option.bind_eq_some_iff] at h;obtain⟨b2,hb2,h⟩:=h;injection h with h;subst h
     rename_i heq;injection heq with hk0 hks
     subst hks;refine⟨_,_,_,_,_,b2,rfl,rfl,rfl,hb2,fun hx hy=>?_⟩;obtain⟨hx,_⟩:=dJ hx;obtain⟨hy,_⟩:=dJ hy;rw[hx,hy];split at hpe<;>simp_all;exact run_equalIn_int w d f.type _ _ _ _ (by assumption)
    ·cases h
   ·rw[Option.bind_eq_some_iff] at h
    obtain⟨b2,hb2,h⟩:=h;injection h with h;subst h
    rename_i heq;injection heq with hk0 hks
    subst hks;refine⟨_,_,_,_,_,b2,rfl,rfl,rfl,hb2,fun hx hy=>?_⟩;have hx:=pl_bool hx;have hy:=pl_bool hy;rw[hx,hy];split at hpe<;>simp_all;exact run_equalIn_bool' w d f.type _ _ (by assumption)
   ·rw[Option.bind_eq_some_iff] at h
    obtain⟨b2,hb2,h⟩:=h;injection h with h;subst h
    rename_i heq;injection heq with hk0 hks
    subst hks;refine⟨_,_,_,_,_,b2,rfl,rfl,rfl,hb2,fun hx hy=>?_⟩;obtain⟨hx,_⟩:=fI hx;obtain⟨hy,_⟩:=fI hy;rw[hx,hy];split at hpe<;>simp_all;rw[run_equalIn_string w d f.type _ _ (by assumption),ByteArray.toList_eq,ByteArray.toList_eq]
   ·cases h
  obtain⟨x,l',y,r',b1,b2,rfl,rfl,rfl,hrest,hrun⟩:=key;obtain⟨hx1,hx2⟩:=h1 0 _ rfl;obtain⟨hy1,hy2⟩:=h2 0 _ rfl;simp only[Nat.add_zero] at hx1 hx2 hy1 hy2;have hp1:=wy (P:=P) (w:=w) hc (cs:=xs) (off:=i) hx1;have hp2:=wy (P:=P) (w:=w) hc (cs:=ys) (off:=i) hy1;have he:=hrun hx2 hy2;simp only[Op.eqFields,hn',ne_eq,not_false_eq_true,if_true,Sem.run_bind,hoff,hp1,hp2,Result.andThen_ok,he,Sem.run_ite];cases b1
  ·simp
  ·simp only[Bool.not_true,Bool.false_eq_true,if_false,Bool.true_and]
   exact AF fs ks (i+1) d l' r' b2 hf
    (fun j c hj=>by have:=h1 (j+1) c (by simpa using hj);rwa [show i+(j+1)=i+1+j by omega] at this)
    (fun j c hj=>by have:=h2 (j+1) c (by simpa using hj);rwa [show i+(j+1)=i+1+j by omega] at this) hrest
theorem O7{neg:Bool}{t u:TypeId}{x y:Operand}(ho:o.op=.binOp (if neg then .neq else .eql) t x y u){fs:Array Field}{ks:List Nat}(hu:P.underlying t=some (.struct fs))(hf:eqFields P 0 fs.toList ks=true)
  (hs:P.stoodInHeld t=false) (hq:P.eqGuardType P.depth t=false) {l r:List D} (hx:Pl w A (aa w ct vl) (a.eval x) (.agg l)) (hy:Pl w A (aa w ct vl) (a.eval y) (.agg r))
  {b:Bool} (hb:fR ks l r=some b):Yd P o a w (.bool (if neg then !b else b)):=by
 obtain⟨xs,hxs,h1,h2⟩:=j0 hx;obtain⟨ys,hys,h3,h4⟩:=j0 hy;have hfo:P.fieldsOf t=fs:=by simp[Program.fieldsOf,hu]
 have hrun:=AF (P:=P) (w:=w) (A:=A) (ct:=ct) (vl:=vl) (xs:=xs) (ys:=ys) fs.toList ks 0 9998 l r b hf
  (fun j c hj=>⟨by have:=(List.getElem?_eq_some_iff.1 hj).1;omega,by simpa using h2 j c hj⟩) (fun j c hj=>⟨by have:=(List.getElem?_eq_some_iff.1 hj).1;omega,by simpa using h4 j c hj⟩) hb
 have he:(Op.equalIn 10000 t (.agg xs) (.agg ys)).run P w=.ok b w:=by
  rw[run_equalIn_agg w 9999 t xs ys (by rw[hfo];exact hu) hs,hfo];exact hrun
 cases neg
 ·simp only[Bool.false_eq_true,if_false] at ho|-
  simp[Yd,execOp,ho,hxs,hys,run_eqGuard_agg (P:=P) w .eql t x y xs ys hq,run_eql_struct (P:=P) w t xs ys,he]
 ·simp only[if_true] at ho|-
  simp[Yd,execOp,ho,hxs,hys,run_eqGuard_agg (P:=P) w .neq t x y xs ys hq,run_neq_struct (P:=P) w t xs ys,he]
theorem zY:∀{xs:List Operand}{ys:List X}{l:List D},dH ds tr xs ys=true->(∀y,y∈ys->∀x,aA ds tr x y=true->bL w A (aa w ct vl) (a.eval x) (rd y))->kD rd ys=some l ->
  xs.length=l.length/\∀j c,l[j]?=some c->Pl w A (aa w ct vl) ((xs.map a.eval).getD j undef) c
 | [],[],l,_,_,h=>by simp[kD] at h;subst h;simp
 | [],_::_,_,h,_,_=>by simp[dH] at h
 | _::_,[],_,h,_,_=>by simp[dH] at h
 | x::xs,y::ys,l,hx,hr,h=>by
  simp only[dH,Bool.and_eq_true] at hx;simp only[kD,Option.bind_eq_some_iff] at h;obtain⟨d,hd,l',hl',h⟩:=h;injection h with h;subst h
  obtain⟨h1,h2⟩:=zY hx.2 (fun y hy=>hr y (by simp[hy])) hl';have hv:=hr y (by simp) x hx.1;refine⟨by simp[h1],fun j c hj=>?_⟩;cases j with
  | zero =>
   simp at hj;subst hj;cases hy:rd y<;>rw[hy] at hd hv<;>simp[D.oX] at hd
   all_goals
    subst hd;exact hv.1 rfl
  | succ j=>simpa using h2 j c (by simpa using hj)
theorem Pg{f:FuncId}{caps:Array Operand}{first:Array Operand}(ho:o.op=.makeFunc (.func f) first caps)(hfirst:first.isEmpty=true){ys:List X}(hx:dH ds tr caps.toList ys=true)
  (hr:∀y,y∈ys->∀x,aA ds tr x y=true->bL w A (aa w ct vl) (a.eval x) (rd y)) {l:List D} (hl:kD rd ys=some l):∃v,Yd P o a w v/\Pl w A (aa w ct vl) v (.fn f l):=by
 obtain⟨h1,h2⟩:=zY hx hr hl;have hf:first=#[]:=by simpa using hfirst
 subst hf;refine⟨.func (.func f) #[] (caps.map a.eval),by simp[Yd,execOp,ho,Instr.makeFunc],.fn (by simpa using h1) fun j c hj=>?_⟩;have:=h2 j c hj;simpa using this
theorem uy{L:List D}{sz l h j:Nat}{x:D}(hz : 0<sz)(hx:cellAt ((L.take h).drop l) sz j=some x):cellAt L sz (l*sz+j)=some x:=by
 unfold cellAt at *;have h1:(l*sz+j) / sz=l+j / sz:=by rw[Nat.mul_comm,Nat.mul_add_div hz]
 have h2:(l*sz+j) % sz=j % sz:=by rw[Nat.mul_comm,Nat.mul_add_mod]
 rw[h1,h2];cases hq:((L.take h).drop l)[j / sz]? with
 | none=>simp[hq] at hx
 | some y =>
  rw[hq] at hx;rw[List.getElem?_drop,List.getElem?_take] at hq;split at hq
  ·rw[hq];exact hx
  ·cases hq
theorem pk{x:Option Operand}{y:Option X}(hx:mq ds tr x y=true)(hr:∀z,y=some z->∀x,aA ds tr x z=true->bL w A (aa w ct vl) (a.eval x) (rd z)){dflt:Nat}{g:Bool}{m:Int}(h:iL rd dflt y=some (g,m))(hg:g=true) :
  (x.map a.eval=none/\m=dflt)\/∃k,x.map a.eval=some (.int k m):=by
 cases x<;>cases y<;>simp[mq] at hx
 ·simp[iL] at h;exact .inl ⟨rfl,h.2.symm⟩
 ·rename_i z y
  simp only[iL,Option.bind_eq_some_iff] at h;obtain⟨n,hn,h⟩:=h;injection h with h;injection h with h1 h2
  subst h2;have hv:=(hr y rfl z hx).1 (by rw[h1];exact hg);cases hc:(rd y).core<;>rw[hc] at hn hv<;>simp[D.int?] at hn;subst hn;exact .inr ⟨_,congrArg some (dJ hv).1⟩
theorem po(isS:Bool)(len cap:Nat)(hc:len<=cap)(lo hi:Option Value)(l h:Int)(h0 : 0<=l)(h1:l<=h)(h2:h<=len)
  (hlo:(lo=none/\l=0)\/∃k,lo=some (.int k l)) (hhi:(hi=none/\h=len)\/∃k,hi=some (.int k h)):(Instr.sliceBounds isS len cap lo hi none).run P w=.ok (l.toNat,h.toNat,cap) w:=by
 have e1:h<=(cap:Int):=by omega
 have e2 : 0<=h:=by omega
 have e3:(h.toNat:Int)=h:=by omega
 rcases hhi with⟨rfl,rfl⟩ | ⟨k,rfl⟩<;>rcases hlo with⟨rfl,rfl⟩ | ⟨k',rfl⟩<;>simp[Instr.sliceBounds,Instr.sliceBound,asIntOf,h0,h1,e1,e2,e3]
theorem data_extract(s:List UInt8)(l h:Nat):(⟨s.toArray⟩:ByteArray).extract l h=⟨((s.take h).drop l).toArray⟩:=by
 apply ByteArray.ext;rw[ByteArray.data_extract];apply Array.ext';simp[List.drop_take]
theorem Pm{t:TypeId}{x:Operand}{lo hi:Option Operand}(ho:o.op=.slice t x lo hi none)(ht:P.underlying t=some .string){s:List UInt8}(hx:a.eval x=.string ⟨s.toArray⟩){l h:Int}(h0 : 0<=l)(h1:l<=h)(h2:h<=s.length)
  (hlo:(lo.map a.eval=none/\l=0)\/∃k,lo.map a.eval=some (.int k l)) (hhi:(hi.map a.eval=none/\h=s.length)\/∃k,hi.map a.eval=some (.int k h)) :
  Yd P o a w (.string ⟨((s.take h.toNat).drop l.toNat).toArray⟩):=by
 have hb:=po (P:=P) (w:=w) false s.length s.length (Nat.le_refl _) (lo.map a.eval) (hi.map a.eval) l h h0 h1 h2 hlo hhi;have hsz:(⟨s.toArray⟩:ByteArray).size=s.length:=rfl;simp[Yd,execOp,ho,hx,Instr.sliceAt,Instr.slice,run_underlying ht,hsz,hb,data_extract]
theorem FB{t e:TypeId}{x:Operand}{lo hi:Option Operand}(ho:o.op=.slice t x lo hi none)(ht:P.underlying t=some (.slice e)){inf:TypeInfo}(hi':P.info? e=some inf)(hiz:inf.size=1){z:D}{L:List D}(hzc:z.cells.length=1)
  (hx:Rd w A (a.eval x) (.slice z L)) {l h:Int} (h0 : 0<=l) (h1:l<=h) (h2:h<=L.length)
  (hlo:(lo.map a.eval=none/\l=0)\/∃k,lo.map a.eval=some (.int k l)) (hhi:(hi.map a.eval=none/\h=L.length)\/∃k,hi.map a.eval=some (.int k h)) :
  ∃v,Yd P o a w v/\Rd w A v (.slice z ((L.take h.toNat).drop l.toNat)):=by
 have hlen:((L.take h.toNat).drop l.toNat).length=h.toNat-l.toNat:=by simp;omega
 have hne:(Instr.sliceAt t (a.eval x) (lo.map a.eval) (hi.map a.eval) none).run P w=(Instr.slice t (a.eval x) (lo.map a.eval) (hi.map a.eval) none).run P w:=by
  simp[Instr.sliceAt,run_underlying ht]
 generalize hv:a.eval x=v at *;cases hx with
 | nil =>
  have hb:=po (P:=P) (w:=w) true 0 0 (Nat.le_refl _) (lo.map a.eval) (hi.map a.eval) l h h0 h1 (by simpa using h2) hlo (by simpa using hhi);have e1:l=0:=by simp at h2;omega
  have e2:h=0:=by simp at h2;omega
  subst e1;subst e2;refine⟨.slice none 0 0,?_,by simpa using Rd.nil⟩;simp only[Yd,execOp,ho,hv,Sem.run_bind,Option.map_none,hne];simp[Instr.slice,run_underlying ht,hb,sizeOf,typeInfo,hi']
 | @empty _ p cap hm =>
  have hb:=po (P:=P) (w:=w) true 0 cap (Nat.zero_le _) (lo.map a.eval) (hi.map a.eval) l h h0 h1 (by simpa using h2) hlo (by simpa using hhi);have e1:l=0:=by simp at h2;omega
  have e2:h=0:=by simp at h2;omega
  subst e1;subst e2;refine⟨.slice (some p) 0 cap,?_,by simpa using Rd.empty hm⟩;simp only[Yd,execOp,ho,hv,Sem.run_bind,Option.map_none,hne];have hadd:p.add 0=p:=by unfold Addr.add;simp
  simp[Instr.slice,run_underlying ht,hb,sizeOf,typeInfo,hi',hadd]
 | @slice _ _ b off cap sz hA hc hm hz hzz hsz vs hcells hr =>
  have hs1:sz=1:=by omega
  subst hs1;have hb:=po (P:=P) (w:=w) true L.length cap hc (lo.map a.eval) (hi.map a.eval) l h h0 h1 h2 hlo hhi;by_cases hml:cap=l.toNat
  ·subst hml
   refine⟨.slice (some ⟨b,off,none⟩) (h.toNat-l.toNat) (l.toNat-l.toNat),?_,?_⟩
   ·simp only[Yd,execOp,ho,hv,Sem.run_bind,Option.map_none,hne]
    simp[Instr.slice,run_underlying ht,hb,sizeOf,typeInfo,hi']
   ·have:(L.take h.toNat).drop l.toNat=[]:=List.eq_nil_of_length_eq_zero (by omega)
    have hr2:Rd w A (.slice (some ⟨b,off,none⟩) ([]:List D).length (l.toNat-l.toNat)) (.slice z []):=Rd.slice hA (by simp) (by omega) hz hzz (by simp) (fun _=>undef) (by simp[cellAt]) (by simp[cellAt]);rw[<-hlen,this];exact hr2
  ·have hml':¬cap=l.toNat:=hml
   refine⟨.slice (some ⟨b,off+l.toNat*inf.size,none⟩) (h.toNat-l.toNat) (cap-l.toNat),?_,?_⟩
   ·simp only[Yd,execOp,ho,hv,Sem.run_bind,Option.map_none,hne]
    have hadd:(⟨b,off,none⟩:Addr).add (l.toNat*inf.size)=⟨b,off+l.toNat*inf.size,none⟩:=by unfold Addr.add;split<;>simp_all
    simp[Instr.slice,run_underlying ht,hb,sizeOf,typeInfo,hi',hml',hadd]
   ·rw[hiz,<-hlen]
    refine Rd.slice hA (by omega) (by omega) hz hzz (fun y hy=>hsz y (List.mem_of_mem_take (List.mem_of_mem_drop hy))) (fun j=>vs (l.toNat*1+j)) (fun j y hy=>?_) (fun j y hy=>?_)
    ·have:=hcells _ _ (uy hz hy)
     rwa [<-Nat.add_assoc] at this
    ·exact hr _ _ (uy hz hy)
theorem Pk{t e:TypeId}{x:Operand}{hi:Option Operand}(ho:o.op=.slice t x none hi none)(ht:P.underlying t=some (.slice e)){inf:TypeInfo}(hi':P.info? e=some inf)
  {q:Option Addr} {m c:Nat} (hv:a.eval x=.slice q m c) (hmc:m<=c) (hq:q=none->c=0) {h:Int} (h0 : 0<=h) (h1:h<=m)
  (hhi:(hi.map a.eval=none/\h=m)\/∃k,hi.map a.eval=some (.int k h)):Yd P o a w (.slice q h.toNat c):=by
 have hne:(Instr.sliceAt t (.slice q m c) none (hi.map a.eval) none).run P w=(Instr.slice t (.slice q m c) none (hi.map a.eval) none).run P w:=by
  simp[Instr.sliceAt,run_underlying ht]
 have hb:=po (P:=P) (w:=w) true m c hmc none (hi.map a.eval) 0 h (Int.le_refl _) h0 h1 (.inl ⟨rfl,rfl⟩) hhi;cases q with
 | none =>
  have e1:=hq rfl;subst e1;have e2:m=0:=by omega
  subst e2;have e3:h=0:=by omega
  subst e3;simp only[Yd,execOp,ho,hv,Sem.run_bind,Option.map_none,hne];simp[Instr.slice,run_underlying ht,hb,sizeOf,typeInfo,hi']
 | some p =>
  have hadd:p.add 0=p:=by unfold Addr.add;simp
  by_cases hc0:c=0
  ·subst hc0
   simp only[Yd,execOp,ho,hv,Sem.run_bind,Option.map_none,hne];simp[Instr.slice,run_underlying ht,hb,sizeOf,typeInfo,hi']
  ·simp only[Yd,execOp,ho,hv,Sem.run_bind,Option.map_none,hne]
   simp[Instr.slice,run_underlying ht,hb,sizeOf,typeInfo,hi',hc0,hadd]
end
end Go.D3
namespace Go.D3
open Go
section
variable{op:Op}
theorem sD{x:Operand}(h:sC op=some x):op=.move x\/op=.assign x:=by cases op<;>simp_all[sC]
theorem Lo{a b c:Operand}(h:wm op=some (c,a,b)):op=.pick c a b:=by cases op<;>simp_all[wm]
theorem oi{q:BinOp}{t:TypeId}{x y:Operand}(h:lp op=some (q,t,x,y)):∃u,op=.binOp q t x y u:=by cases op<;>simp_all[lp]
theorem Lp{t:TypeId}{x:Operand}(h:wo op=some (t,x)):op=.range t x:=by cases op<;>simp_all[wo]
theorem Ln{x:Operand}(h:wj op=some x):op=.next x true:=by
 cases op<;>simp[wj] at h;rename_i y b;cases b<;>simp at h;rw[h]
theorem Lm{x:Operand}(h:wi op=some x):∃t,op=.unOp .not t x:=by
 cases op<;>simp[wi] at h;rename_i q t z;cases q<;>simp at h;exact⟨t,by rw[h]⟩
theorem vU{s t:TypeId}{x:Operand}(h:qe op=some (s,t,x)):op=.convert s t x:=by cases op<;>simp_all[qe]
theorem lq{b:Builtin}{xs:List Operand}{ts:List TypeId}(h:jX b op=some (xs,ts)):op=.call { callee:=.builtin b,args:=xs.toArray,argTypes:=ts.toArray }:=by
 cases op<;>simp[jX] at h;rename_i c;obtain⟨ce,as,tys⟩:=c;cases ce<;>simp at h;obtain⟨rfl,rfl,rfl⟩:=h;rfl
theorem vT{f:FuncId}{xs:List Operand}(h:mG op=some (f,xs)):∃ts,op=.call { callee:=.value (.func f),args:=xs.toArray,argTypes:=ts }:=by
 cases op<;>simp[mG] at h;rename_i c;obtain⟨ce,as,tys⟩:=c;cases ce<;>simp at h;rename_i v;cases v<;>simp at h;obtain⟨rfl,rfl⟩:=h;exact⟨tys,rfl⟩
theorem Le{t:TypeId}{x y:Operand}(h:vY op=some (t,x,y)):op=.indexAddr t x y:=by cases op<;>simp_all[vY]
theorem Cp{t:TypeId}{x:Operand}(h:sB op=some (t,x)):op=.load t x:=by cases op<;>simp_all[sB]
theorem Cs{t:TypeId}{x y:Operand}(h:qh op=some (t,x,y)):op=.store t x y:=by cases op<;>simp_all[qh]
theorem Cn{t:TypeId}{x:Operand}{f:Nat}(h:vX op=some (t,x,f)):op=.fieldAddr t x f:=by cases op<;>simp_all[vX]
theorem Co{t:TypeId}{x:Operand}{f:Nat}(h:sy op=some (t,x,f)):op=.field t x f:=by cases op<;>simp_all[sy]
theorem Lb{t:TypeId}{ps:Array (Nat×Operand)}(h:vR op=some (t,ps)):op=.build t ps:=by cases op<;>simp_all[vR]
theorem Lf{t:TypeId}{x y:Operand}(h:vZ op=some (t,x,y)):op=.index t x y:=by cases op<;>simp_all[vZ]
theorem Ld{x:Operand}{i:Nat}(h:vW op=some (x,i)):op=.extract x i:=by cases op<;>simp_all[vW]
theorem Cq{x:Operand}(h:wg op=some x):op=.nilCheck x:=by cases op<;>simp_all[wg]
theorem vS{t:TypeId}{x:Operand}(h:sx op=some (t,x)):op=.box t x:=by cases op<;>simp_all[sx]
theorem La{t:TypeId}(h:vQ op=some t):op=.alloc t:=by cases op<;>simp_all[vQ]
theorem Lj{t:TypeId}{x y:Operand}(h:wb op=some (t,x,y)):op=.makeSlice t x y:=by cases op<;>simp_all[wb]
theorem Cm{t:TypeId}{n:Nat}{ps:Array (Nat×Operand)}(h:sv op=some (t,n,ps)):op=.buildSlice t n ps:=by cases op<;>simp_all[sv]
theorem Cr{t:TypeId}{x:Operand}{lo hi:Option Operand}(h:sE op=some (t,x,lo,hi)):op=.slice t x lo hi none:=by
 cases op<;>simp[sE] at h;rename_i t' x' a b c;cases c<;>simp at h;obtain⟨rfl,rfl,rfl,rfl⟩:=h;rfl
theorem Lh{t:TypeId}{x:Operand}(h:v8 op=some (t,x)):op=.makeInterface t x:=by cases op<;>simp_all[v8]
theorem Lk{f:FuncId}{a b:Array Operand}(h:wc op=some (f,a,b)):op=.makeFunc (.func f) a b:=by
 cases op<;>simp[wc] at h;rename_i fn x y;cases fn<;>simp at h;obtain⟨rfl,rfl,rfl⟩:=h;rfl
end
theorem tv{P:Program}{t:TypeId}{n:Nat}(h:cC P t n=true):∃i,P.info? t=some i/\i.size=n:=by
 unfold cC at h;cases hi:P.info? t with
 | none=>simp[hi] at h
 | some i=>simp[hi] at h;exact⟨i,rfl,h⟩
theorem gP{P:Program}{t e:TypeId}(h:gb P t=some e):P.underlying t=some (.slice e):=by
 unfold gb at h;split at h<;>simp_all
theorem dG{x:D}{r:Option PR}{side:Prop}{d:D}(h:g1 x r=some (side,d)):∃s,r=some (s,d)/\side=(x.gate=true/\s):=by
 cases r with
 | none=>cases h
 | some p=>obtain⟨s,d'⟩:=p;simp only[g1,Option.some.injEq,Prod.mk.injEq] at h;obtain⟨h1,rfl⟩:=h;exact⟨s,rfl,h1.symm⟩
theorem kM{x y:D}{r:Option PR}{side:Prop}{d:D}(h:g2 x y r=some (side,d)):∃s,r=some (s,d)/\side=((x.gate=true/\y.gate=true)/\s):=by
 cases r with
 | none=>cases h
 | some p=>obtain⟨s,d'⟩:=p;simp only[g2,Option.some.injEq,Prod.mk.injEq] at h;obtain⟨h1,rfl⟩:=h;exact⟨s,rfl,h1.symm⟩
section
variable{P:Program}{o:Oper}{w:World}{A:Nat->Prop}{ct:Nat->D}{vl:Nat->Value}{a:Act}{ds:List (Option Nat)}{tr:List Nat}{rd:X->D}{ob:Nat->D}
theorem Hw{c:D}{p:Path}(h:c.c8 p):c.isObj=true:=mh h.1
theorem pR(hob:∀j,(ct j).isObj=true->ob j=ct j){v:Value}{k:Nat}{p:Path}(h:aa w ct vl v (.sub k p)):lk ob k=some (ct k):=by
 have:=Hw h.1;unfold lk;rw[hob k this,if_pos this]
theorem vt(hob:∀j,(ct j).isObj=true->ob j=ct j){v:Value}{k:Nat}{p:Path}(h:lR w ct vl v k p):lk ob k=some (ct k):=by
 have:=mh h.1;unfold lk;rw[hob k this,if_pos this]
theorem H3{y:D}{v:Value}{F:Nat->Prop}{n:Nat}(h:af w A v y F)(hn:y.bM=some n):∃q c,v=.slice q n c/\n<=maxLen/\(0<n->q≠none):=by
 cases y<;>simp[D.bM] at hn<;>try(cases h;done)
 subst hn;obtain⟨p,cap,h1,h2,h3,h4⟩:=sI h;refine⟨p,cap,h1,by omega,fun h0=>?_⟩;obtain⟨_,_,h5⟩:=h4 (List.ne_nil_of_length_pos h0);rw[h5];exact Option.some_ne_none _
theorem H4{y:D}{v:Value}{n:Nat}(h:Rd w A v y)(hn:y.bM=some n):∃q c,v=.slice q n c/\n<=maxLen/\(0<n->q≠none):=by
 cases y<;>simp[D.bM] at hn<;>try(cases h;done)
 ·subst hn
  obtain⟨p,cap,h1,h2,h3,h4⟩:=wI h;refine⟨p,cap,h1,by omega,fun h0=>?_⟩;obtain⟨_,_,h5,_⟩:=h4 (List.ne_nil_of_length_pos h0);rw[h5];exact Option.some_ne_none _
 ·subst hn;cases h;exact⟨_,_,rfl,by simp,fun h=>absurd h (Nat.lt_irrefl 0)⟩
theorem BA(hob:∀j,(ct j).isObj=true->ob j=ct j)(hok:∀j,∃F,az w A (aa w ct vl) (vl j) F (ct j)){v:Value}{x:D}(hv:Pl w A (aa w ct vl) v x){side:Prop}{d:D}(h:jc ob x=some (side,d)) :
  ∃(n:Nat)(q:Option Addr)(c:Nat),d=.int .i64 n/\v=.slice q n c/\n<=maxLen/\(0<n->q≠none):=by
 unfold jc at h;split at h
 ·rename_i k p
  have hr:=dh hv;rw[pR hob hr,Option.bind_some,Option.bind_eq_some_iff] at h;obtain⟨n,hn,h⟩:=h;simp only[one,Option.some.injEq,Prod.mk.injEq] at h;obtain⟨_,rfl⟩:=h;obtain⟨F,hF⟩:=hok k;rcases j7 hF hr with⟨z,l,hc,rfl,hvl⟩ | ⟨F',hown,_⟩
  ·rw[hc] at hn hF
   obtain⟨b,sz,cs,e,h1,h2,h3,h4,_⟩:=hF;simp only[D.a8,D.at,D.un,D.bM,Option.some.injEq] at hn;subst hn;exact⟨_,_,_,rfl,hvl.trans h1,h4,fun _=>Option.some_ne_none _⟩
  ·obtain⟨q,c,h1,h2⟩:=H3 hown hn
   exact⟨_,_,_,rfl,h1,h2⟩
 ·rename_i hns
  rw[Option.bind_eq_some_iff] at h;obtain⟨n,hn,h⟩:=h;simp only[one,Option.some.injEq,Prod.mk.injEq] at h;obtain⟨_,rfl⟩:=h
  have hne:∀z l,x≠.row z l:=by
   rintro z l rfl;cases hv with
   | rd h=>cases h
   | ref h=>exact h.elim
  have hrd:Rd w A v x:=by
   cases x<;>simp[D.bM] at hn
   ·exact mM hv
   ·exact absurd rfl (hne _ _)
   ·exact bK hv (by simp) (by simp) (by simp) (by simp) (by simp)
  obtain⟨q,c,h1,h2⟩:=H4 hrd hn;exact⟨_,_,_,rfl,h1,h2⟩
theorem FU{v:Value}{s:List UInt8}(h:Pl w A (aa w ct vl) v (.agg [.str s])):Rd w A v (.agg [.str s]):=by
 cases h with
 | rd h=>exact h
 | ref h=>exact h.elim
 | agg hsz hc =>
  refine .agg hsz fun j y hy=>?_
  have h1:=hc j y hy;cases j with
  | zero =>
   simp at hy;subst hy;exact bK h1 (by simp) (by simp) (by simp) (by simp) (by simp) (by simp)
  | succ j=>simp at hy
theorem Mf{z:D}{L:List D}{v:Value}(h:Rd w A v (.slice z L)){n:Nat}(hn:n<L.length):∃b off c,v=.slice (some ⟨b,off,none⟩) L.length c/\Rd w A (.pointer (some ⟨b,off+n*z.cells.length,none⟩)) (.ptr (L.getD n z).cells)/\0<z.cells.length:=by
 have hL:L.getD n z=L[n]:=by rw[List.getD_eq_getElem?_getD,List.getElem?_eq_getElem hn];rfl
 cases h with
 | empty=>simp at hn
 | nil=>simp at hn
 | @slice _ _ b off cap sz hA hc hm hz hzz hsz vs hcells hr =>
  subst hzz;refine⟨b,off,cap,rfl,?_,hz⟩
  have key:∀(j:Nat) x,(L.getD n z).cells[j]?=some x->cellAt L z.cells.length (n*z.cells.length+j)=some x:=by
   intro j x hx;rw[hL] at hx;have hj:=(List.getElem?_eq_some_iff.1 hx).1;rw[hsz _ (List.getElem_mem hn)] at hj;unfold cellAt;have e1:(n*z.cells.length+j) / z.cells.length=n:=by rw[Nat.mul_comm,Nat.mul_add_div hz,Nat.div_eq_of_lt hj];rfl
   have e2:(n*z.cells.length+j) % z.cells.length=j:=by rw[Nat.mul_comm,Nat.mul_add_mod,Nat.mod_eq_of_lt hj]
   rw[e1,e2,List.getElem?_eq_getElem hn];exact hx
  refine .ptr hA (fun j=>vs (n*z.cells.length+j)) (fun j x hx=>?_) (fun j x hx=>hr _ _ (key j x hx));have:=hcells _ _ (key j x hx)
  rwa [<-Nat.add_assoc] at this
theorem Bx(hob:∀j,(ct j).isObj=true->ob j=ct j)(hok:∀j,∃F,az w A (aa w ct vl) (vl j) F (ct j)){v:Value}{x:D}(hv:Pl w A (aa w ct vl) v x){side:Prop}{d:D}(h:kV ob x=some (side,d)) :
  ∃b off u,v=.pointer (some ⟨b,off,none⟩)/\w.cell? ⟨b,off,none⟩=some u/\Pl w A (aa w ct vl) u d:=by
 unfold kV at h;split at h
 ·rename_i y r
  simp only[one,Option.some.injEq,Prod.mk.injEq] at h;obtain⟨_,rfl⟩:=h;obtain⟨b,off,h1,h2,h3⟩:=ot hv;obtain⟨u,h4,h5⟩:=h3 0 y rfl;exact⟨b,off,u,h1,h4,.rd h5⟩
 ·rename_i k p
  have hr:=eP hv;rw[vt hob hr,Option.bind_some] at h;simp only[one,Option.some.injEq,Prod.mk.injEq] at h;obtain⟨_,rfl⟩:=h;obtain⟨h1,ad,h2,h3⟩:=hr;obtain⟨F,hF⟩:=hok k;obtain⟨u,h4,h5,h6⟩:=vu hF h1 (by rintro rfl;simp[ay] at h2) h2;obtain⟨b,off,sp⟩:=ad;simp only at h5;cases sp with
  | some _=>simp at h5
  | none=>exact⟨b,off,u,h3,h4,h6⟩
 ·cases h
theorem oZ(hok:∀j,∃F,az w A (aa w ct vl) (vl j) F (ct j)){v:Value}{k:Nat}{p:Path}(hr:lR w ct vl v k p):∃b off,v=.pointer (some ⟨b,off,none⟩)/\p≠[]/\ay w (vl k) (ct k) p=some ⟨b,off,none⟩:=by
 obtain⟨h1,ad,h2,h3⟩:=hr;have hne:p≠[]:=by rintro rfl;simp[ay] at h2
 obtain⟨F,hF⟩:=hok k;obtain⟨u,h4,h5,h6⟩:=vu hF h1 hne h2;obtain⟨b,off,sp⟩:=ad;simp only at h5;cases sp with
 | some _=>simp at h5
 | none=>exact⟨b,off,h3,hne,h2⟩
theorem zS{p:Path}(n:Nat)(h:p≠[]):bump p n≠[]:=by
 match p with
 | []=>exact absurd rfl h
 | [_]=>simp[bump]
 | _::_::_=>simp[bump]
theorem HU{v:Value}{x:D}{i off n:Nat}{b o':Nat}(h:cT v x i off=some ⟨b,o',none⟩):cT v x i (off+n)=some ⟨b,o'+n,none⟩:=by
 unfold cT at *;cases hx:x.un<;>rw[hx] at h<;>simp only[da] at h|-<;>try(cases h;done)
 all_goals
  split at h
  ·rename_i ad _ _
   simp only[Option.some.injEq,Addr.mk.injEq] at h|-
   obtain⟨h1,h2,h3⟩:=h;exact⟨h1,by omega,h3⟩
  ·cases h
theorem ny{n:Nat}:∀(p:Path){v:Value}{x:D}{b o':Nat},ay w v x p=some ⟨b,o',none⟩->ay w v x (bump p n)=some ⟨b,o'+n,none⟩
 | [],_,_,_,_,h=>by simp[ay] at h
 | [(i,off)],v,x,b,o',h=>HU h
 | (i,off)::t::p,v,x,b,o',h=>by
  simp only[ay,Option.bind_eq_some_iff] at h;obtain⟨u,h1,h2⟩:=h;have:=ny (n:=n) (t::p) h2;obtain⟨i',off'⟩:=t;cases p<;>simp only[bump,ay,h1,Option.bind_some] at this|-<;>exact this
theorem BE(k:Nat)(c:D)(p:Path):∀(n j m:Nat),(looks k c p n j)[m]?=if m<n then some (my k c (bump p (j+m))) else none
 | 0,j,m=>by simp[looks]
 | n+1,j,0=>by simp[looks]
 | n+1,j,m+1=>by
  simp only[looks,List.getElem?_cons_succ,BE k c p n (j+1) m,Nat.add_lt_add_iff_right];rw[show j+1+m=j+(m+1) by omega]
theorem BF(k:Nat)(c:D)(p:Path):∀(n j:Nat),(looks k c p n j).length=n
 | 0,_=>rfl
 | n+1,j=>by simp[looks,BF k c p n]
theorem Bb{c:D}{p:Path}:∀{n j:Nat},pJ c p n j->∀m,m<n->c.aR (bump p (j+m))
 | 0,_,_,m,hm=>by omega
 | n+1,j,h,0,_=>h.1
 | n+1,j,h,m+1,hm=>by
  have:=Bb h.2 m (by omega)
  rwa [show j+1+m=j+(m+1) by omega] at this
theorem By(hob:∀j,(ct j).isObj=true->ob j=ct j)(hok:∀j,∃F,az w A (aa w ct vl) (vl j) F (ct j)){n:Nat}{v:Value}{x:D}(hv:Pl w A (aa w ct vl) v x){side:Prop}{d:D}(h:kW n ob x=some (side,d))(hs:side) :
  ∃(b off:Nat)(cs:List Value),v=.pointer (some ⟨b,off,none⟩)/\cs.length=n/\(∀j u,cs[j]?=some u->w.cell? ⟨b,off+j,none⟩=some u)/\Pl w A (aa w ct vl) (.agg cs.toArray) d:=by
 have fin:∀(b off:Nat)(l:List D)(us:Nat->Value),l.length=n->(∀j x,l[j]?=some x->w.cell? ⟨b,off+j,none⟩=some (us j)/\Pl w A (aa w ct vl) (us j) x)->v=.pointer (some ⟨b,off,none⟩) ->
   ∃(b off:Nat)(cs:List Value),v=.pointer (some ⟨b,off,none⟩)/\cs.length=n/\(∀j u,cs[j]?=some u->w.cell? ⟨b,off+j,none⟩=some u)/\Pl w A (aa w ct vl) (.agg cs.toArray) (.agg l):=by
  intro b off l us hl hc hv;refine⟨b,off,(List.range n).map us,hv,by simp,fun j u hj=>?_,.agg (by simp[hl]) fun j x hx=>?_⟩
  ·rw[List.getElem?_map,Option.map_eq_some_iff] at hj
   obtain⟨m,hm,rfl⟩:=hj;obtain⟨h1,h2⟩:=List.getElem?_eq_some_iff.1 hm;simp at h1 h2;subst h2;exact(hc j l[j] (List.getElem?_eq_getElem (by omega))).1
  ·have hj:=(List.getElem?_eq_some_iff.1 hx).1
   have:((List.range n).map us).toArray.getD j undef=us j:=by simp[show j<n by omega]
   rw[this];exact(hc j x hx).2
 unfold kW at h;split at h
 ·rename_i l
  simp only[Option.some.injEq,Prod.mk.injEq] at h;obtain⟨h0,rfl⟩:=h;rw[<-h0] at hs;obtain⟨b,off,h1,h2,h3⟩:=ot hv
  have hch:∀j,∃u,∀x,l[j]?=some x->w.cell? ⟨b,off+j,none⟩=some u/\Rd w A u x:=by
   intro j;cases hj:l[j]? with
   | none=>exact⟨undef,by simp⟩
   | some x=>obtain⟨u,h4,h5⟩:=h3 j x hj;exact⟨u,fun y hy=>by injection hy with hy;subst hy;exact⟨h4,h5⟩⟩
  refine fin b off (l.take n) (fun j=>Classical.choose (hch j)) (by simp;omega) (fun j x hx=>?_) h1;rw[List.getElem?_take] at hx;split at hx
  ·obtain⟨h4,h5⟩:=Classical.choose_spec (hch j) x hx
   exact⟨h4,.rd h5⟩
  ·cases hx
 ·rename_i k p
  have hr:=eP hv;rw[vt hob hr,Option.bind_some] at h;simp only[Option.some.injEq,Prod.mk.injEq] at h;obtain⟨h0,rfl⟩:=h;rw[<-h0] at hs;obtain⟨b,off,h1,hne,h2⟩:=oZ hok hr;obtain⟨F,hF⟩:=hok k
  have hch:∀j,∃u,j<n->w.cell? ⟨b,off+j,none⟩=some u/\Pl w A (aa w ct vl) u (my k (ct k) (bump p j)):=by
   intro j;by_cases hj:j<n
   ·have h3:=Bb hs j hj
    rw[Nat.zero_add] at h3;obtain⟨u,h4,_,h6⟩:=vu hF h3 (zS _ hne) (ny p h2);exact⟨u,fun _=>⟨h4,h6⟩⟩
   ·exact⟨undef,fun h=>absurd h hj⟩
  refine fin b off _ (fun j=>Classical.choose (hch j)) (BF _ _ _ _ _) (fun j x hx=>?_) h1;rw[BE] at hx;split at hx
  ·rename_i hj
   injection hx with hx
   rw[Nat.zero_add] at hx;subst hx;exact Classical.choose_spec (hch j) hj
  ·cases hx
 ·cases h
end
end Go.D3
namespace Go.D3
open Go
def kindOk(d:TypeDesc)(k:D):Prop :=
 match d,k with
 | .int _,.int _ _=>True
 | .bool,.bool _=>True
 | .string,.str _=>True
 | _,_=>False
theorem Bu{P:Program}{t:TypeId}{kk:Nat}{k:D}(ht:kU P t kk=true)(hk:k.ig kk=true):∃d,P.underlying t=some d/\kindOk d k:=by
 unfold kU at ht;split at ht<;>try(cases ht;done)
 all_goals
  rename_i hu;cases k<;>simp only[D.ig,Bool.false_eq_true] at hk<;>try(simp at hk;done)
  exact⟨_,hu,trivial⟩
theorem ND{d:TypeDesc}{kv ev:Value}{k x:D}{b:Bool}(hd:kindOk d k)(hk:Sc kv k)(hx:Sc ev x)(h:jK k x=some b):Instr.sameNow d kv ev=some b/\(b=true->ev=kv/\x=k):=by
 unfold jK at h;split at h
 ·split at h
  ·rename_i hkk
   subst hkk;injection h with h
   cases hk;cases hx;cases d<;>try exact hd.elim
   subst h;refine⟨by simp[Instr.sameNow],fun hb=>?_⟩;have:=eq_of_beq hb;subst this;exact⟨rfl,rfl⟩
  ·cases h
 ·injection h with h
  cases hk;cases hx;cases d<;>try exact hd.elim
  rename_i a b' _ _;subst h;refine⟨?_,fun hb=>?_⟩
  ·simp only[Instr.sameNow,Option.some.injEq]
   rw[Bool.eq_iff_iff,MapKept.bytes_beq,beq_iff_eq];simp
  ·have:=eq_of_beq hb
   subst this;exact⟨rfl,rfl⟩
 ·injection h with h
  cases hk;cases hx;cases d<;>try exact hd.elim
  subst h;refine⟨rfl,fun hb=>?_⟩;have:=eq_of_beq hb;subst this;exact⟨rfl,rfl⟩
 ·cases h
theorem uU{d:TypeDesc}{kv:Value}{k:D}(hd:kindOk d k)(hk:Sc kv k):∀(l:List MapEntry)(ks:List D)(n:Nat){r:Option Nat},l.length=ks.length ->
  (∀(j:Nat)(e:MapEntry)(x:D),l[j]?=some e->ks[j]?=some x->Sc e.key x)->eu k ks=some r ->
  Instr.findNow d kv l n=some (r.map fun i=>(n+i,((l[i]?).map (·.val)).getD undef))/\∀i,r=some i->∃e,l[i]?=some e/\e.key=kv/\ks[i]?=some k
 | [],[],n,r,_,_,h=>by
  simp only[eu,Option.some.injEq] at h;subst h;exact⟨rfl,fun i hi=>by cases hi⟩
 | [],_::_,_,_,h,_,_=>by simp at h
 | _::_,[],_,_,h,_,_=>by simp at h
 | e::l,x::ks,n,r,hl,hs,h=>by
  simp only[eu,Option.bind_eq_some_iff] at h;obtain⟨b,hb,h⟩:=h;obtain⟨h1,h2⟩:=ND hd hk (hs 0 e x rfl rfl) hb;cases b with
  | true =>
   simp only[if_true,Option.some.injEq] at h;subst h;obtain⟨h3,h4⟩:=h2 rfl;refine⟨by simp[Instr.findNow,h1],fun i hi=>?_⟩;injection hi with hi
   subst hi;exact⟨e,rfl,h3,by rw[h4];rfl⟩
  | false =>
   simp only[Bool.false_eq_true,if_false,Option.bind_eq_some_iff] at h;obtain⟨r',hr',h⟩:=h;injection h with h
   subst h;obtain⟨i1,i2⟩:=uU hd hk l ks (n+1) (by simpa using hl) (fun j e x hj hx=>hs (j+1) e x (by simpa using hj) (by simpa using hx)) hr';refine⟨?_,fun i hi=>?_⟩
   ·simp only[Instr.findNow,h1,i1]
    cases r' with
    | none=>rfl
    | some i=>simp only[Option.map_some,List.getElem?_cons_succ];rw[show n+1+i=n+(i+1) by omega]
   ·cases r' with
    | none=>cases hi
    | some j =>
     simp only[Option.map_some,Option.some.injEq] at hi;subst hi;obtain⟨e',e1,e2,e3⟩:=i2 j rfl;exact⟨e',by simpa using e1,e2,by simpa using e3⟩
theorem pt{P:Program}{w:World}{kt:TypeId}{d:TypeDesc}{k:D}{kv:Value}(hu:P.underlying kt=some d)(hd:kindOk d k)(hk:Sc kv k)(e:Bool)(n:Nat):(Instr.checkKey e (n+1) kt kv).run P w=.ok () w:=by
 unfold Instr.checkKey;simp only[Sem.run_bind,run_underlying hu,Result.andThen];cases d<;>cases k<;>first | exact hd.elim | (cases hk;simp)
theorem Sc.rd{w:World}{A:Nat->Prop}{v:Value}{d:D}(h:Sc v d):Rd w A v d:=by
 induction h with
 | int h=>exact .int h
 | bool=>exact .bool
 | str h=>exact .str h
 | agg hs _ ih=>exact .agg hs ih
theorem xh{w:World}{A:Nat->Prop}{v:Value}{d:D}(h:Rd w A v d)(hd:d.bX=true):Sc v d:=by
 cases h<;>first | cases hd | skip
 ·exact .int ‹_›
 ·exact .bool
 ·exact .str ‹_›
theorem Bo{kk:Nat}{d:D}(h:d.ig kk=true):d.bX=true:=by cases d<;>first | rfl | (simp[D.ig] at h)
section
variable{P:Program}{o:Oper}{w:World}{A:Nat->Prop}{ct:Nat->D}{vl:Nat->Value}{a:Act}{ob:Nat->D}
theorem BQ(hob:∀j,(ct j).isObj=true->ob j=ct j)(hok:∀j,∃F,az w A (aa w ct vl) (vl j) F (ct j)){v:Value}{x:D}(h:Pl w A (aa w ct vl) v x){e:List D×List D}(hm:mapOf ob x=some e) :
  (v=.map none/\e=([],[]))\/∃r es clock,v=.map (some r)/\w.heap[r]?=some (.map es clock)/\lU es e.1 e.2:=by
 unfold mapOf at hm;split at hm
 ·rename_i k p
  have hr:=dh h;rw[pR hob hr,Option.bind_some] at hm;obtain⟨F,hF⟩:=hok k;rcases j7 hF hr with⟨z,l,hck,rfl,_⟩ | ⟨F',hown,_,_,_⟩
  ·rw[hck] at hm;cases hm
  ·generalize(ct k).a8 p=y at hm hown
   cases hown<;>simp only[D.il,reduceCtorEq,Option.some.injEq] at hm;subst hm;exact .inr ⟨_,_,_,rfl,‹_›,‹_›⟩
 ·rename_i hno
  have hrd:=bK h (fun k p hh=>hno k p hh) (by rintro k p rfl;cases hm) (by rintro f c rfl;cases hm) (by rintro l rfl;cases hm) (by rintro l rfl;cases hm) (by rintro k p n rfl;cases hm);cases hrd<;>simp only[D.n9,reduceCtorEq,Option.some.injEq] at hm
  ·subst hm;exact .inr ⟨_,_,_,rfl,‹_›,‹_›⟩
  ·subst hm;exact .inl ⟨rfl,rfl⟩
theorem DI{t:TypeId}{i:TypeInfo}{z:Value}(h:P.info? t=some i)(hz:i.zero=some z):(zeroValue t).run P w=.ok z w:=by
 simp[zeroValue,typeInfo,h,hz]
theorem H7{t kt et:TypeId}{d:TypeDesc}{kv m zv:Value}{k:D}{e:List D×List D}{r:Option Nat}{i:TypeInfo}(ok:Bool)(hm:P.underlying t=some (.map kt et))(hu:P.underlying kt=some d)(hd:kindOk d k)(hk:Sc kv k)
  (hv:(m=.map none/\e=([],[]))\/∃r es clock,m=.map (some r)/\w.heap[r]?=some (.map es clock)/\lU es e.1 e.2) (hf:eu k e.1=some r) (hi:P.info? et=some i) (hz:i.zero=some zv) {z:D} (hzz:Sc zv z) :
  ∃u,(Instr.lookup t m kv ok).run P w=.ok (if ok then .tuple #[u,.bool r.isSome] else u) w/\Sc u (gL z e.2 r):=by
 rcases hv with⟨rfl,rfl⟩ | ⟨b,es,clock,rfl,hb,hE⟩
 ·simp only[eu,Option.some.injEq] at hf
  subst hf;refine⟨zv,?_,hzz⟩;unfold Instr.lookup;simp only[Sem.run_bind,run_underlying hm,Result.andThen_ok,Sem.run_pure,pt hu hd hk,MapKept.run_findKey hu (show Instr.findNow d kv (#[]:Array MapEntry).toList 0=some none from rfl),DI hi hz];cases ok<;>rfl
 ·obtain⟨⟨l1,l2,l3⟩,s1,s2⟩:=hE
  obtain⟨f1,f2⟩:=uU hd hk es.toList e.1 0 (by simpa using l1) (fun j x y hj hy=>s1 j x y (by simpa using hj) hy) hf;cases r with
  | none =>
   refine⟨zv,?_,hzz⟩;unfold Instr.lookup;simp only[Sem.run_bind,run_underlying hm,Result.andThen_ok,Sem.run_pure,MapKept.run_getObj_map hb,pt hu hd hk,MapKept.run_findKey hu f1,DI hi hz,Option.map_none];cases ok<;>rfl
  | some j =>
   obtain⟨x,x1,x2,x3⟩:=f2 j rfl;have hj:j<e.2.length:=by have:=(List.getElem?_eq_some_iff.1 x1).1;simp at this;omega
   refine⟨x.val,?_,?_⟩
   ·unfold Instr.lookup
    simp only[Sem.run_bind,run_underlying hm,Result.andThen_ok,Sem.run_pure,MapKept.run_getObj_map hb,pt hu hd hk,MapKept.run_findKey hu f1,Option.map_some,x1,Option.getD_some];cases ok<;>rfl
   ·have:gL z e.2 (some j)=e.2[j]:=by simp[gL,hj]
    rw[this];exact s2 j x _ (by simpa using x1) (List.getElem?_eq_getElem hj)
theorem JU{o:Oper}{a:Act}{neg:Bool}{v:Value}{d:D}(h:Pl w A (aa w ct vl) v d){side:Prop}{s:D}(hn:oe neg d=some (side,s)){t:TypeId}{ms:Array (String×TypeId)}(hu:P.underlying t=some (.interface ms)){x:Operand}{u:TypeId}(ho:o.op=.binOp (if neg then .neq else .eql) t x (.const .nilIface) u)(hx:a.eval x=v) :
  ∃b,s=.bool b/\(execOp a.eval o).run P w=.ok (.value (.bool b)) w:=by
 have hcn:a.eval (.const .nilIface)=.nilIface:=rfl;unfold oe at hn;split at hn
 ·simp only[Option.some.injEq,Prod.mk.injEq] at hn
  obtain⟨_,rfl⟩:=hn;have:=bK h (by simp) (by simp) (by simp) (by simp) (by simp) (by simp);cases this;have e:∀n:Nat,(Op.equalIn (n+1) t .nilIface .nilIface).run P w=.ok true w:=fun n=>by simp[Op.equalIn,run_underlying hu]
  refine⟨_,rfl,?_⟩;cases neg<;>simp[execOp,ho,hx,hcn,eqGuard,binOp,Op.equal,Op.maxDepth,e 9999]
 ·rename_i t' y
  simp only[Option.some.injEq,Prod.mk.injEq] at hn;obtain⟨_,rfl⟩:=hn;have:=bK h (by simp) (by simp) (by simp) (by simp) (by simp) (by simp);cases this;have e:∀n:Nat,∀v,(Op.equalIn (n+1) t (.iface t' v) .nilIface).run P w=.ok false w:=fun n v=>by simp[Op.equalIn,run_underlying hu]
  refine⟨_,rfl,?_⟩;cases neg<;>simp[execOp,ho,hx,hcn,eqGuard,binOp,Op.equal,Op.maxDepth,e 9999]
 ·cases hn
theorem Li{op:Op}{t:TypeId}(h:wa op=some t):op=.makeMap t none:=by
 cases op<;>simp[wa] at h;rename_i t' r;cases r<;>simp at h;rw[h]
theorem Lg{op:Op}{t:TypeId}{x i:Operand}{ok:Bool}(h:v7 op=some (t,x,i,ok)):op=.lookup t x i ok:=by cases op<;>simp_all[v7]
theorem Ll{op:Op}{t:TypeId}{m k v:Operand}(h:we op=some (t,m,k,v)):op=.mapUpdate t m k v:=by cases op<;>simp_all[we]
theorem sc{t k e:TypeId}(h:nX P t=some (k,e)):P.underlying t=some (.map k e):=by
 unfold nX at h;split at h
 ·rename_i hu
  injection h with h;injection h with h1 h2
  subst h1;subst h2;exact hu
 ·cases h
theorem Pr{t:TypeId}{d:D}(h:zeroV P t d=true):∃i z,P.info? t=some i/\i.zero=some z/\Sc z d:=by
 unfold zeroV at h;split at h
 ·rename_i i hi
  split at h
  ·rename_i z hz
   simp only[Bool.and_eq_true] at h;exact⟨i,z,hi,hz,xh (zd (w:=default) (A:=fun _=>False) h.1) h.2⟩
  ·cases h
 ·cases h
theorem Gm{w:World}{A:Nat->Prop}{vs:Nat->Value}:∀{l:List D}{s:List UInt8},bytesOf l=some s->(∀j x,l[j]?=some x->Rd w A (vs j) x) ->
  ∃ns:List Int,ns.length=l.length/\(∀j n,ns[j]?=some n->vs j=.int .u8 n)/\s=ns.map fun n=>UInt8.ofNat n.toNat:=by
 intro l;induction l generalizing vs with
 | nil=>intro s h _;simp only[bytesOf,Option.some.injEq] at h;subst h;exact⟨[],rfl,by simp,rfl⟩
 | cons x r ih =>
  intro s h hr;unfold bytesOf at h;split at h
  ·rename_i h0;cases h0
  ·rename_i n r' h0
   injection h0 with h1 h2
   subst h1;subst h2;rw[Option.bind_eq_some_iff] at h;obtain⟨s',hs',h⟩:=h;injection h with h
   subst h;obtain⟨ns,n1,n2,n3⟩:=ih (vs:=fun j=>vs (j+1)) hs' (fun j y hj=>hr (j+1) y (by simpa using hj));refine⟨n::ns,by simp[n1],fun j m hj=>?_,by rw[n3];rfl⟩;cases j with
   | zero =>
    simp at hj;subst hj;have:=hr 0 _ rfl;generalize vs 0=u at this|-
    cases this;rfl
   | succ j=>exact n2 j m (by simpa using hj)
  ·cases h
theorem foldl_push(ns:List Int):∀(s:ByteArray),ns.foldl (fun r n=>r.push (UInt8.ofNat n.toNat)) s=⟨s.data++(ns.map fun n=>UInt8.ofNat n.toNat).toArray⟩:=by
 induction ns with
 | nil=>intro s;simp
 | cons n ns ih =>
  intro s;rw[List.foldl_cons,ih];have:(s.push (UInt8.ofNat n.toNat)).data=s.data.push (UInt8.ofNat n.toNat):=rfl;rw[this];congr 1;apply Array.ext';simp
theorem zV:∀{L:List D}{l:List UInt8},bytesOf L=some l->∀x∈L,x.cells=[x]
 | [],_,_,x,hx=>by cases hx
 | y::r,l,hl,x,hx=>by
  unfold bytesOf at hl;split at hl
  ·rename_i h0;cases h0
  ·rename_i n r' h0
   injection h0 with h1 h2
   subst h1;subst h2;rw[Option.bind_eq_some_iff] at hl;obtain⟨s',hs',_⟩:=hl;rcases List.mem_cons.1 hx with rfl | hx
   ·rfl
   ·exact zV hs' x hx
  ·cases hl
theorem Gk{sz j:Nat}{x:D}:∀{L:List D}{l:List UInt8},bytesOf L=some l->cellAt L sz j=some x->∃n,x=.int .u8 n:=by
 intro L l hl hx
 have go:∀{L:List D}{l:List UInt8},bytesOf L=some l->∀d∈L,∃n,d=.int .u8 n:=by
  intro L;induction L with
  | nil=>intro _ _ d hd;cases hd
  | cons y r ih =>
   intro l hl d hd;unfold bytesOf at hl;split at hl
   ·rename_i h0;cases h0
   ·rename_i n r' h0
    injection h0 with h1 h2
    subst h1;subst h2;rw[Option.bind_eq_some_iff] at hl;obtain⟨s',hs',_⟩:=hl;rcases List.mem_cons.1 hd with rfl | hd
    ·exact⟨n,rfl⟩
    ·exact ih hs' d hd
   ·cases hl
 unfold cellAt at hx;rw[Option.bind_eq_some_iff] at hx;obtain⟨d,h1,h2⟩:=hx;obtain⟨n,rfl⟩:=go hl d (List.mem_of_getElem? h1);have:=List.mem_of_getElem? h2;simp only[D.cells,List.mem_singleton] at this;exact⟨n,this⟩
theorem G8(hob:∀j,(ct j).isObj=true->ob j=ct j)(hok:∀j,∃F,az w A (aa w ct vl) (vl j) F (ct j)){v:Value}{x:D}(h:Pl w A (aa w ct vl) v x){side:Prop}{res:D}(hc:nL ob x=some (side,res))
  {s t e:TypeId} (hs:P.underlying s=some (.slice e)) (he:P.underlying e=some (.int .u8)) (ht:P.underlying t=some .string) :
  ∃l:List UInt8,res=.str l/\l.length<=maxLen/\(convert s t v).run P w=.ok (.string ⟨l.toArray⟩) w:=by
 have nilc:∀l:List UInt8,v=.slice none 0 0->l=[]->(convert s t v).run P w=.ok (.string ⟨l.toArray⟩) w:=by
  rintro l rfl rfl;rw[run_convert_bytes_string w s t e none 0 0 hs he ht];simp[Conv.bytesToString];rfl
 have key:∀{d:D}{l:List UInt8},d.jy=some l->Rd w (fun _=>True) v d->l.length<=maxLen/\(convert s t v).run P w=.ok (.string ⟨l.toArray⟩) w:=by
  intro d l hl hr;cases hr<;>simp only[D.jy,reduceCtorEq] at hl
  ·simp only[bytesOf,Option.some.injEq] at hl;subst hl
   exact⟨Nat.zero_le _,nilc _ rfl rfl⟩
  ·simp only[bytesOf,Option.some.injEq] at hl;subst hl
   refine⟨Nat.zero_le _,?_⟩;rw[run_convert_bytes_string w s t e _ _ _ hs he ht,run_bytesToString w _ 0 _ [] (by simpa using run_loadCells_list (P:=P) w _ [] (fun j v hj=>by simp at hj))];rfl
  ·rename_i z L b off cap sz hA hc hm hz hzz hsz vs hcells hr'
   have h1:∀x∈L,x.cells=[x]:=zV hl
   have hcell:∀j,cellAt L 1 j=L[j]?:=fun j=>by
    unfold cellAt;rw[Nat.div_one,Nat.mod_one];cases hq:L[j]? with
    | none=>rfl
    | some d=>simp[h1 d (List.mem_of_getElem? hq)]
   by_cases hL0:L=[]
   ·subst hL0
    simp only[bytesOf,Option.some.injEq] at hl;subst hl;refine⟨Nat.zero_le _,?_⟩;rw[run_convert_bytes_string w s t e _ _ _ hs he ht,List.length_nil,run_bytesToString w _ 0 _ [] (by simpa using run_loadCells_list (P:=P) w _ [] (fun j v hj=>by simp at hj))];rfl
   have hs1:sz=1:=by
    obtain⟨x,hx⟩:=List.exists_mem_of_ne_nil L hL0;have:=hsz x hx;rw[h1 x hx] at this;exact this.symm
   subst hs1;obtain⟨ns,n1,n2,n3⟩:=Gm hl (fun j x hx=>hr' j x (by rw[hcell];exact hx));have hll:l.length=L.length:=by rw[n3,List.length_map,n1]
   refine⟨by omega,?_⟩;rw[run_convert_bytes_string w s t e _ _ _ hs he ht,run_bytesToString w _ L.length _ ns,foldl_push,<-n3]
   ·simp
   ·have:=run_loadCells_list (P:=P) w ⟨b,off,none⟩ (ns.map (Value.int .u8)) (fun j v hj=>by
     rw[List.getElem?_map,Option.map_eq_some_iff] at hj;obtain⟨n,hn,rfl⟩:=hj;have hj':=(List.getElem?_eq_some_iff.1 hn).1;rw[Addr.add_lit,<-n2 j n hn]
     exact hcells j L[j] (by rw[hcell];exact List.getElem?_eq_getElem (by omega)))
    rw[List.length_map,n1] at this;exact this
  ·injection hl with hl
   subst hl;exact⟨Nat.zero_le _,nilc _ rfl rfl⟩
 unfold nL at hc;split at hc
 ·rename_i k p
  have hr:=dh h;rw[pR hob hr,Option.bind_some,Option.bind_eq_some_iff] at hc;obtain⟨l,hl,hc⟩:=hc;simp only[one,Option.some.injEq,Prod.mk.injEq] at hc;obtain⟨_,rfl⟩:=hc;obtain⟨F,hF⟩:=hok k;rcases j7 hF hr with⟨z,l',hck,rfl,hvk⟩ | ⟨F',hown,_,_,_⟩
  ·rw[hck] at hl hF
   have hl:bytesOf l'=some l:=hl;obtain⟨b,sz,cs,e,h1,h2,h3,h4,h5,h6,h7,h8,h9⟩:=hF;refine⟨l,rfl,key (d:=.slice z l') hl ?_⟩;rw[hvk,h1];refine .slice trivial (Nat.le_refl _) h4 h5 h6 h7 (fun j=>cs.getD j undef) (fun j x hj=>?_) (fun j x hj=>?_)
   ·rw[Nat.zero_add]
    exact cN h2 (by have:=jz h5 hj;omega)
   ·have hx:=(h8 j x hj).1
    obtain⟨n,rfl⟩:=Gk hl hj;exact(dJ hx).1▸.int (dJ hx).2
  ·exact⟨l,rfl,key hl (hown.rd (fun _ _=>trivial) fun _ _=>trivial)⟩
 ·rename_i hno
  rw[Option.bind_eq_some_iff] at hc;obtain⟨l,hl,hc⟩:=hc;simp only[one,Option.some.injEq,Prod.mk.injEq] at hc;obtain⟨_,rfl⟩:=hc;have hrd:=bK h (fun k p hh=>hno k p hh) (by rintro k p rfl;cases hl) (by rintro f c rfl;cases hl) (by rintro l rfl;cases hl) (by rintro l rfl;cases hl) (by rintro k p n rfl;cases hl);exact⟨l,rfl,key hl (hrd.mono (fun _ _=>trivial) fun _ _=>rfl)⟩
end
end Go.D3
namespace Go.D3
open Go
section
variable{P:Program}{o:Oper}{w:World}{A:Nat->Prop}{ct:Nat->D}{vl:Nat->Value}{a:Act}{ds:List (Option Nat)}{tr:List Nat}{rd:X->D}{ob:Nat->D}
theorem CC{v:Value}{y:D}{F:Nat->Prop}(h:af w A v y F):(∀z l,y≠.row z l)/\∀z,y≠.aM z:=by
 cases h<;>exact⟨by simp,by simp⟩
theorem LQ{v:Value}{z:D}{l:List D}(h:Pl w A (aa w ct vl) v (.row z l)):False:=by
 cases h with
 | rd h=>cases h
 | ref h=>exact h.elim
theorem CG{k:Kp}{side:Prop}{res:D}(hp:bn k rd ob=some (side,res))(hk:aQ P ds tr o k=true)
  (hx:∀y,y∈k.xs->∀x,aA ds tr x y=true->bL w A (aa w ct vl) (a.eval x) (rd y))
  (hob:∀j,(ct j).isObj=true->ob j=ct j) (hok:∀j,∃F,az w A (aa w ct vl) (vl j) F (ct j)) (hs:side):∃v,Yd P o a w v/\Pl w A (aa w ct vl) v res:=by
 cases k<;>try(simp[bn] at hp;done)
 case mv y =>
  simp only[aQ] at hk;split at hk<;>try(cases hk;done)
  rename_i x' hop;have hp:g1 (rd y) (one (rd y).core)=some (side,res):=hp;obtain⟨s,h1,rfl⟩:=dG hp;simp only[one,Option.some.injEq,Prod.mk.injEq] at h1;obtain⟨_,rfl⟩:=h1;exact⟨_,qL (sD hop),(hx y (by simp[Kp.xs]) x' hk).1 hs.1⟩
 case pick c x y =>
  simp only[aQ] at hk;split at hk<;>try(cases hk;done)
  rename_i c' a' b' hop;have ho:=Lo hop;simp only[Bool.and_eq_true] at hk;have hc:=hx c (by simp[Kp.xs]) c' hk.1.1;have hx':=hx x (by simp[Kp.xs]) a' hk.1.2;have hy':=hx y (by simp[Kp.xs]) b' hk.2;simp only[bn] at hp;generalize hcc:(rd c).core=cc at hp;generalize hxx:(rd x).core=xx at hp;generalize hyy:(rd y).core=yy at hp;unfold sL at hp;split at hp
  ·rename_i cb p q
   simp only[Option.some.injEq,Prod.mk.injEq] at hp;obtain⟨rfl,rfl⟩:=hp;obtain⟨h1,h2,h3⟩:=hs;have hc:=hc.1 h1;rw[hcc] at hc;refine⟨_,zb (cb:=cb) (p:=p) (q:=q) ho (pl_bool hc) (fun hb=>?_) (fun hb=>?_),.rd .bool⟩
   ·have:=hx'.1 (h2 hb);rw[hxx] at this;exact pl_bool this
   ·have:=hy'.1 (h3 hb);rw[hyy] at this;exact pl_bool this
  ·cases hp
 case bin op x y =>
  simp only[aQ] at hk;split at hk<;>try(cases hk;done)
  rename_i op' t x' y' hop;obtain⟨u,ho⟩:=oi hop;simp only[Bool.and_eq_true,decide_eq_true_eq] at hk;obtain⟨⟨rfl,hk1⟩,hk2⟩:=hk;obtain⟨s,h1,rfl⟩:=kM hp;obtain⟨⟨g1,g2⟩,hs⟩:=hs;have hx':=(hx x (by simp[Kp.xs]) x' hk1).1 g1;have hy':=(hx y (by simp[Kp.xs]) y' hk2).1 g2;generalize(rd x).core=xx at h1 hx';generalize(rd y).core=yy at h1 hy';unfold ph at h1;split at h1
  ·split at h1
   ·rename_i hkk
    subst hkk;obtain⟨e1,e2⟩:=dJ hx';obtain⟨e3,e4⟩:=dJ hy';obtain⟨v,hv,hrun⟩:=HC (w:=w) (P:=P) (o:=o) (a:=a) e2 h1 hs;exact⟨v,hrun ho e1 e3,.rd (hv.mono (fun _ h=>h.elim) fun _ h=>h.elim)⟩
   ·cases h1
  ·obtain⟨v,hv,hrun⟩:=Ot (w:=w) (P:=P) (o:=o) (a:=a) h1 hs
   exact⟨v,hrun ho (fI hx').1 (fI hy').1,.rd (hv.mono (fun _ h=>h.elim) fun _ h=>h.elim)⟩
  ·cases h1
 case shr x y =>
  simp only[aQ] at hk;split at hk<;>try(cases hk;done)
  rename_i op' t x' y' hop;obtain⟨u,ho⟩:=oi hop;simp only[Bool.and_eq_true,decide_eq_true_eq] at hk;obtain⟨⟨rfl,hk1⟩,hk2⟩:=hk;obtain⟨s,h1,rfl⟩:=kM hp;obtain⟨⟨g1,g2⟩,hs⟩:=hs;have hx':=(hx x (by simp[Kp.xs]) x' hk1).1 g1;have hy':=(hx y (by simp[Kp.xs]) y' hk2).1 g2;generalize(rd x).core=xx at h1 hx';generalize(rd y).core=yy at h1 hy';unfold tq at h1;split at h1
  ·injection h1 with h1
   injection h1 with h1 h1'
   subst h1';rw[<-h1] at hs;obtain⟨e1,e2⟩:=dJ hx';obtain⟨e3,e4⟩:=dJ hy';exact⟨_,Pj ho e1 e3 hs.1 hs.2,.rd (.int (N7 e2 _))⟩
  ·cases h1
 case mm mx x y =>
  simp only[aQ] at hk;split at hk<;>try(cases hk;done)
  rename_i x' y' ts hop;have ho:=lq hop;simp only[Bool.and_eq_true] at hk;obtain⟨hk1,hk2⟩:=hk;obtain⟨s,h1,rfl⟩:=kM hp;obtain⟨⟨g1,g2⟩,hs⟩:=hs;have hx':=(hx x (by simp[Kp.xs]) x' hk1).1 g1;have hy':=(hx y (by simp[Kp.xs]) y' hk2).1 g2;generalize(rd x).core=xx at h1 hx';generalize(rd y).core=yy at h1 hy';unfold si at h1;split at h1
  ·split at h1
   ·rename_i hkk
    injection h1 with h1
    injection h1 with h1 h1'
    subst h1';subst hkk;obtain⟨e1,e2⟩:=dJ hx';obtain⟨e3,e4⟩:=dJ hy';exact⟨_,Ph ho e1 e3,.rd (.int (Jg e2 e4))⟩
   ·cases h1
  ·cases h1
 case nD op x y =>
  simp only[aQ] at hk;split at hk<;>try(cases hk;done)
  rename_i op' t x' y' hop;obtain⟨u,ho⟩:=oi hop;simp only[Bool.and_eq_true,decide_eq_true_eq] at hk;obtain⟨⟨⟨rfl,hk1⟩,hk2⟩,hk3⟩:=hk;obtain⟨s,h1,rfl⟩:=kM hp;obtain⟨⟨g1,g2⟩,hs⟩:=hs;have hx':=(hx x (by simp[Kp.xs]) x' hk1).1 g1;have hy':=(hx y (by simp[Kp.xs]) y' hk2).1 g2;generalize(rd x).core=xx at h1 hx';generalize(rd y).core=yy at h1 hy';unfold rb at h1;split at h1
  ·obtain⟨v,hv,hrun⟩:=Gg (w:=w) (P:=P) (o:=o) (a:=a) h1
   split at hk3
   ·rename_i hu
    exact⟨v,hrun ho (pl_bool hx') (pl_bool hy') hu,.rd (hv.mono (fun _ h=>h.elim) fun _ h=>h.elim)⟩
   ·cases hk3
  ·cases h1
 case not x =>
  simp only[aQ] at hk;split at hk<;>try(cases hk;done)
  rename_i x' hop;obtain⟨u,ho⟩:=Lm hop;obtain⟨s,h1,rfl⟩:=dG hp;have hx':=(hx x (by simp[Kp.xs]) x' hk).1 hs.1;generalize(rd x).core=xx at h1 hx';unfold sr at h1;split at h1
  ·simp only[one,Option.some.injEq,Prod.mk.injEq] at h1
   obtain⟨_,rfl⟩:=h1;exact⟨_,FA ho (pl_bool hx'),.rd .bool⟩
  ·cases h1
 case conv k x =>
  simp only[aQ] at hk;split at hk<;>try(cases hk;done)
  rename_i t1 t2 x' hop;have ho:=vU hop;simp only[Bool.and_eq_true] at hk;obtain⟨hk1,hk2⟩:=hk;obtain⟨s,h1,rfl⟩:=dG hp;have hx':=(hx x (by simp[Kp.xs]) x' hk1).1 hs.1;generalize(rd x).core=xx at h1 hx';split at hk2
  ·rename_i hu1 hu2
   simp at hk2;subst hk2;unfold rk at h1;split at h1
   ·simp only[one,Option.some.injEq,Prod.mk.injEq] at h1
    obtain⟨_,rfl⟩:=h1;obtain⟨e1,e2⟩:=dJ hx';obtain⟨h3,h4⟩:=O6 (P:=P) (w:=w) ho hu1 hu2 e1 e2;exact⟨_,h3,.rd (.int h4)⟩
   ·cases h1
  ·cases hk2
 case len x =>
  simp only[aQ] at hk;split at hk<;>try(cases hk;done)
  rename_i x' t hop;have ho:=lq hop;simp only[Bool.and_eq_true] at hk;obtain⟨s,h1,rfl⟩:=dG hp;obtain⟨n,q,c,rfl,h2,h3,_⟩:=BA hob hok ((hx x (by simp[Kp.xs]) x' hk.1).1 hs.1) h1;cases he:gb P t with
  | none=>rw[he] at hk;simp at hk
  | some e=>exact⟨_,Pe ho (gP he) h2,.rd (.int (mi h3))⟩
 case nV x =>
  simp only[aQ] at hk;split at hk<;>try(cases hk;done)
  rename_i x' t hop;have ho:=lq hop;simp only[Bool.and_eq_true] at hk;obtain⟨hk1,hk2⟩:=hk;obtain⟨s,h1,rfl⟩:=dG hp;have hx':=(hx x (by simp[Kp.xs]) x' hk1).1 hs.1;generalize(rd x).core=xx at h1 hx';split at hk2
  ·rename_i hu
   unfold rW at h1;split at h1
   ·simp only[one,Option.some.injEq,Prod.mk.injEq] at h1
    obtain⟨_,rfl⟩:=h1;obtain⟨h2,h3⟩:=fI hx';exact⟨_,Pf ho hu h2,.rd (.int (mi h3))⟩
   ·cases h1
  ·cases hk2
 case mA ok kk z m k =>
  simp only[aQ] at hk;split at hk<;>try(cases hk;done)
  rename_i t m' k' ok' hop;have ho:=Lg hop;simp only[Bool.and_eq_true,beq_iff_eq] at hk;obtain⟨⟨⟨hk1,hk2⟩,rfl⟩,hk3⟩:=hk;split at hk3<;>try(cases hk3;done)
  rename_i kt et hmt;simp only[Bool.and_eq_true] at hk3;obtain⟨hkt,hz⟩:=hk3;obtain⟨s,h1,rfl⟩:=kM hp;have hm':=(hx m (by simp[Kp.xs]) m' hk1).1 hs.1.1;have hk':=(hx k (by simp[Kp.xs]) k' hk2).1 hs.1.2;unfold se at h1;rw[Option.bind_eq_some_iff] at h1;obtain⟨e,he,h1⟩:=h1;rw[Option.bind_eq_some_iff] at h1;obtain⟨r,hr,h1⟩:=h1;simp only[Option.some.injEq,Prod.mk.injEq] at h1;obtain⟨hs1,rfl⟩:=h1;have hkey:(rd k).core.ig kk=true:=by rw[hs1];exact hs.2
  obtain⟨d,hu,hd⟩:=Bu hkt hkey
  have hsc:Sc (a.eval k') (rd k).core:=by
   have hsl:=Bo hkey;refine xh (w:=w) (A:=A) (bK hk' ?_ ?_ ?_ ?_ ?_ ?_) hsl<;>intros<;>intro hh<;>rw[hh] at hsl<;>cases hsl
  obtain⟨i,zv,hi,hiz,hzz⟩:=Pr hz;obtain⟨u,h2,h3⟩:=H7 ok (sc hmt) hu hd hsc (BQ hob hok hm' he) hr hi hiz hzz;refine⟨if ok then .tuple #[u,.bool r.isSome] else u,by simp only[Yd,execOp,ho,Sem.run_bind,h2,Result.andThen_ok,Sem.run_pure],?_⟩;cases ok
  ·exact .rd h3.rd
  ·refine .rd (.au rfl fun j x hj=>?_)
   match j,hj with
   | 0,hj=>simp at hj;subst hj;exact h3.rd
   | 1,hj=>simp at hj;subst hj;exact .bool
   | j+2,hj=>simp at hj
 case mw x =>
  simp only[aQ] at hk;split at hk<;>try(cases hk;done)
  rename_i x' t hop;have ho:=lq hop;simp only[Bool.and_eq_true] at hk;obtain⟨s,h1,rfl⟩:=dG hp;unfold rV at h1;rw[Option.bind_eq_some_iff] at h1;obtain⟨e,he,h1⟩:=h1;simp only[Option.some.injEq,Prod.mk.injEq] at h1;obtain⟨_,rfl⟩:=h1;cases hmt:nX P t with
  | none=>rw[hmt] at hk;simp at hk
  | some q =>
   obtain⟨kt,et⟩:=q;rcases BQ hob hok ((hx x (by simp[Kp.xs]) x' hk.1).1 hs.1) he with⟨h2,rfl⟩ | ⟨r,es,clock,h2,hb,hE⟩
   ·refine⟨.int .i64 0,?_,.rd (.int (mi (n:=0) (Nat.zero_le _)))⟩
    simp[Yd,execOp,ho,h2,resolve,invoke,builtin,Builtin.len_,run_underlying (sc hmt),goInt]
   ·refine⟨.int .i64 e.1.length,?_,.rd (.int (mi hE.1.2.2))⟩
    have:=hE.1.1;simp[Yd,execOp,ho,h2,resolve,invoke,builtin,Builtin.len_,run_underlying (sc hmt),MapKept.run_getObj_map hb,goInt,this]
 case ma x =>
  simp only[aQ] at hk;split at hk<;>try(cases hk;done)
  rename_i s0 d0 x' hop;have ho:=vU hop;simp only[Bool.and_eq_true] at hk;obtain⟨hk1,hk2⟩:=hk;split at hk2<;>try(cases hk2;done)
  rename_i e hu1 hu2;split at hk2<;>try(cases hk2;done)
  rename_i hu3;obtain⟨s,h1,rfl⟩:=dG hp;obtain⟨l,rfl,hl,h2⟩:=G8 hob hok ((hx x (by simp[Kp.xs]) x' hk1).1 hs.1) h1 hu1 hu3 hu2;exact⟨_,by simp only[Yd,execOp,ho,Sem.run_bind,h2,Result.andThen_ok,Sem.run_pure],.rd (.str hl)⟩
 case od neg x =>
  simp only[aQ] at hk;split at hk<;>try(cases hk;done)
  rename_i op' t x' hop;obtain⟨u,ho⟩:=oi hop;simp only[Bool.and_eq_true,decide_eq_true_eq] at hk;obtain⟨⟨rfl,hk1⟩,hk2⟩:=hk;split at hk2<;>try(cases hk2;done)
  rename_i ms hu;obtain⟨s,h1,rfl⟩:=dG hp;have hx':=(hx x (by simp[Kp.xs]) x' hk1).1 hs.1;obtain⟨b,hb,hrun⟩:=JU (P:=P) (w:=w) (t:=t) hx' h1 hu ho rfl;exact⟨.bool b,hrun,by rw[hb];exact .rd .bool⟩
 case mD neg x =>
  simp only[aQ] at hk;split at hk<;>try(cases hk;done)
  rename_i op' t x' n0 c0 hop;obtain⟨u,ho⟩:=oi hop;simp only[Bool.and_eq_true,decide_eq_true_eq] at hk;obtain⟨⟨rfl,hk1⟩,hk2⟩:=hk;cases he:gb P t with
  | none=>rw[he] at hk2;cases hk2
  | some e =>
  obtain⟨s,h1,rfl⟩:=dG hp;have hx':=(hx x (by simp[Kp.xs]) x' hk1).1 hs.1;have hcn:a.eval (.const (.slice none n0 c0))=.slice none n0 c0:=rfl;unfold pV at h1;split at h1
  ·rename_i z hz
   simp only[Option.some.injEq,Prod.mk.injEq] at h1;obtain⟨_,rfl⟩:=h1;rw[hz] at hx';have hr:=bK hx' (by simp) (by simp) (by simp) (by simp) (by simp) (by simp);generalize hv:a.eval x'=v at hr;cases hr;have e9:∀n:Nat,(Op.equalIn (n+1) t (.slice none 0 0) (.slice none n0 c0)).run P w=.ok true w:=fun n=>by simp[Op.equalIn,run_underlying (gP he)]
   exact⟨.bool (!neg),by cases neg<;>simp[Yd,execOp,ho,hv,hcn,eqGuard,binOp,Op.equal,Op.maxDepth,e9 9999],.rd .bool⟩
  ·rw[Option.bind_eq_some_iff] at h1
   obtain⟨pp,h2,h3⟩:=h1;obtain⟨n,q,c,h4,h5,_,h6⟩:=BA hob hok hx' (side:=pp.1) (d:=pp.2) (by rw[h2]);rw[h4] at h3;simp only[Option.some.injEq,Prod.mk.injEq] at h3;obtain⟨h7,rfl⟩:=h3;have h0 : 0<n:=by have:=hs.2;rw[<-h7] at this;omega
   cases q with
   | none=>exact absurd rfl (h6 h0)
   | some q =>
   have e9:∀m:Nat,(Op.equalIn (m+1) t (.slice (some q) n c) (.slice none n0 c0)).run P w=.ok false w:=fun m=>by simp[Op.equalIn,run_underlying (gP he)]
   exact⟨.bool neg,by cases neg<;>simp[Yd,execOp,ho,h5,hcn,eqGuard,binOp,Op.equal,Op.maxDepth,e9 9999],.rd .bool⟩
 case nY t x =>
  simp only[aQ] at hk;split at hk<;>try(cases hk;done)
  rename_i t' x' hop;have ho:=Lh hop;simp only[Bool.and_eq_true,decide_eq_true_eq] at hk;obtain⟨⟨rfl,hk1⟩,hk2⟩:=hk;obtain⟨s,h1,rfl⟩:=dG hp;have hx':=(hx x (by simp[Kp.xs]) x' hk1).1 hs.1;unfold vz at h1;split at h1
  ·rename_i str hz
   simp only[Option.some.injEq,Prod.mk.injEq] at h1;obtain⟨_,rfl⟩:=h1;rw[hz] at hx';have hr:=FU hx';refine⟨.iface t (a.eval x'),?_,.rd (.bq hr)⟩;cases hu:P.underlying t with
   | none=>rw[hu] at hk2;cases hk2
   | some u =>
    rw[hu] at hk2
    have:(Instr.makeInterface t (a.eval x')).run P w=.ok (.iface t (a.eval x')) w:=by
     cases u<;>first | (simp[Instr.makeInterface,run_underlying hu];done) | cases hk2
    simp only[Yd,execOp,ho,Sem.run_bind,this,Result.andThen_ok,Sem.run_pure]
  ·cases h1
 case ee sz x i =>
  simp only[aQ] at hk;split at hk<;>try(cases hk;done)
  rename_i t x' i' hop;have ho:=Le hop;simp only[Bool.and_eq_true,decide_eq_true_eq] at hk;obtain⟨⟨⟨hk1,hk2⟩,hk3⟩,hk4⟩:=hk;split at hk4
  ·rename_i e he
   obtain⟨inf,hi1,hi2⟩:=tv hk4;obtain⟨s,h1,rfl⟩:=kM hp;obtain⟨⟨g1,g2⟩,hs⟩:=hs;have hx':=(hx x (by simp[Kp.xs]) x' hk1).1 g1;have hi':=(hx i (by simp[Kp.xs]) i' hk2).1 g2;generalize(rd x).core=xx at h1 hx';generalize(rd i).core=ii at h1 hi';unfold kR at h1;split at h1
   ·rename_i ki n
    obtain⟨hn,_⟩:=dJ hi';split at h1
    ·rename_i k p
     have hr:=dh hx';rw[pR hob hr,Option.bind_some] at h1;obtain⟨F,hF⟩:=hok k;rcases j7 hF hr with⟨z,l,hc,_,_⟩ | ⟨F',hown,_,hreach,hnr⟩
     ·rw[hc] at h1;cases h1
     ·have h1':((ct k).a8 p).bM.bind (fun m=>some ((0<=n/\n<(m:Int)/\(((ct k).a8 p).gG n.toNat).length=sz),D.aq k (p++[(n.toNat,0)])))=some (s,res):=by
       revert h1;cases hc:ct k<;>first | exact id | exact absurd hc (hnr _ _)
      rw[Option.bind_eq_some_iff] at h1';obtain⟨m,hm,h1'⟩:=h1';simp only[Option.some.injEq,Prod.mk.injEq] at h1';obtain⟨h2,rfl⟩:=h1';rw[<-h2] at hs;obtain⟨h3,h4,h5⟩:=hs;generalize hy:(ct k).a8 p=y at hown hm h5 hreach;cases y<;>simp[D.bM] at hm<;>first | exact absurd rfl ((CC hown).1 _ _) | exact absurd rfl ((CC hown).2 _) | skip
      rename_i z L;subst hm;have hlt:n.toNat<L.length:=by omega
      have hL:L.getD n.toNat z=L[n.toNat]:=by rw[List.getD_eq_getElem?_getD,List.getElem?_eq_getElem hlt];rfl
      have hun:=hown.un.1
      have hvc:∃b off c,a.eval x'=.slice (some ⟨b,off,none⟩) L.length c/\z.cells.length=sz:=by
       have hsz:=hown.lG z L (.inl rfl) L[n.toNat] (List.getElem_mem hlt);obtain⟨q,cap,e1,_,_,e4⟩:=sI hown;obtain⟨b,off,rfl⟩:=e4 (by rintro rfl;simp at hlt);refine⟨b,off,cap,e1,?_⟩;rw[<-hsz,<-h5];simp only[D.gG,hL]
      obtain⟨b,off,c,e1,e2⟩:=hvc;have hkid:(D.slice z L).has [(n.toNat,0)]:=⟨⟨hlt,by omega⟩,trivial⟩;obtain⟨r1,_,r3⟩:=hreach _ hkid;refine⟨_,Fx ho (gP he) hi1 hi2 e1 hn h3 (by exact_mod_cast h4),.ref ⟨r1,_,(r3 (by simp)).trans ?_,rfl⟩⟩;rw[e1];simp only[ay,cT,D.un,da,e2,Nat.add_zero]
    ·rename_i hns
     rw[Option.bind_eq_some_iff] at h1;obtain⟨m,hm,h1⟩:=h1;simp only[Option.some.injEq,Prod.mk.injEq] at h1;obtain⟨h2,rfl⟩:=h1;rw[<-h2] at hs;obtain⟨h3,h4,h5⟩:=hs;cases xx<;>simp[D.bM] at hm
     ·rename_i z L
      subst hm;have hlt:n.toNat<L.length:=by omega
      have hL:L.getD n.toNat z=L[n.toNat]:=by rw[List.getD_eq_getElem?_getD,List.getElem?_eq_getElem hlt];rfl
      have hrd:=mM hx';obtain⟨_,_,_,_,_,hh⟩:=wI hrd;obtain⟨_,_,_,_,_,hsz,_⟩:=hh (by rintro rfl;simp at hlt);obtain⟨b,off,c,e1,e2,e3⟩:=Mf hrd hlt
      have e4:z.cells.length=sz:=by
       rw[<-hsz _ (List.getElem_mem hlt),<-h5];simp only[D.gG,hL]
      rw[e4] at e2;exact⟨_,Fx ho (gP he) hi1 hi2 e1 hn h3 (by exact_mod_cast h4),.rd e2⟩
     ·exact(LQ hx').elim
     ·subst hm;omega
   ·cases h1
  ·cases hk4
 case ld x =>
  simp only[aQ] at hk;split at hk<;>try(cases hk;done)
  rename_i t x' hop;have ho:=Cp hop;simp only[Bool.and_eq_true] at hk;obtain⟨s,h1,rfl⟩:=dG hp;obtain⟨b,off,u,h2,h3,h4⟩:=Bx hob hok ((hx x (by simp[Kp.xs]) x' hk.1).1 hs.1) h1;exact⟨u,Pc ho hk.2 h2 h3,h4⟩
 case mu n x =>
  simp only[aQ] at hk;split at hk<;>try(cases hk;done)
  rename_i t x' hop;have ho:=Cp hop;simp only[Bool.and_eq_true] at hk;obtain⟨s,h1,rfl⟩:=dG hp;obtain⟨b,off,cs,h2,h3,h4,h5⟩:=By hob hok ((hx x (by simp[Kp.xs]) x' hk.1.1).1 hs.1) h1 hs.2;exact⟨_,Pd ho hk.1.2 hk.2 h2 h3 h4,h5⟩
 case fA off x =>
  simp only[aQ] at hk;split at hk<;>try(cases hk;done)
  rename_i t x' f hop;have ho:=Cn hop;simp only[Bool.and_eq_true] at hk;obtain⟨hk1,hk2⟩:=hk;split at hk2
  ·rename_i p0 ft hf
   simp only[Bool.and_eq_true,decide_eq_true_eq,Bool.not_eq_true'] at hk2;obtain⟨⟨rfl,h2⟩,h3⟩:=hk2;obtain⟨s,h1,rfl⟩:=dG hp;have hx':=(hx x (by simp[Kp.xs]) x' hk1).1 hs.1;generalize(rd x).core=xx at h1 hx';unfold kJ at h1;split at h1
   ·rename_i l
    simp only[one,Option.some.injEq,Prod.mk.injEq] at h1;obtain⟨_,rfl⟩:=h1;have hrd:Rd w A (a.eval x') (.ptr l):=bK hx' (by simp) (by simp) (by simp) (by simp) (by simp);generalize hv:a.eval x'=v at hrd;cases hrd with
    | @ptr b o' _ hA vs hcells hr =>
     refine⟨_,tI ho hf h2 h3 hv,.rd (.ptr hA (fun j=>vs (p0+j)) (fun j x hj=>?_) (fun j x hj=>?_))⟩
     ·rw[List.getElem?_drop] at hj
      have:=hcells _ _ hj
      rwa [<-Nat.add_assoc] at this
     ·rw[List.getElem?_drop] at hj
      exact hr _ _ hj
   ·rename_i k p
    have hr:=eP hx';rw[vt hob hr,Option.bind_some] at h1;simp only[Option.some.injEq,Prod.mk.injEq] at h1;obtain⟨e1,rfl⟩:=h1;obtain⟨b,o',e2,e3,e4⟩:=oZ hok hr;exact⟨_,tI ho hf h2 h3 e2,.ref ⟨by rw[e1];exact hs.2,_,ny p e4,rfl⟩⟩
   ·cases h1
  ·cases hk2
 case nO off x =>
  simp only[aQ] at hk;split at hk<;>try(cases hk;done)
  rename_i t x' f hop;have ho:=Co hop;simp only[Bool.and_eq_true] at hk;obtain⟨hk1,hk2⟩:=hk;split at hk2
  ·rename_i p0 ft hf
   simp only[Bool.and_eq_true,decide_eq_true_eq] at hk2;obtain⟨rfl,h2⟩:=hk2;obtain⟨s,h1,rfl⟩:=dG hp;have hx':=(hx x (by simp[Kp.xs]) x' hk1).1 hs.1;generalize(rd x).core=xx at h1 hx';unfold rE at h1;split at h1
   ·rename_i l
    simp only[Option.some.injEq,Prod.mk.injEq] at h1;obtain⟨e1,rfl⟩:=h1;have hs2:=hs.2;rw[<-e1] at hs2;obtain⟨cs,e2,e3,e4⟩:=j0 hx';refine⟨_,O9 ho hf h2 e2 (by omega),e4 p0 _ ?_⟩;rw[List.getD_eq_getElem?_getD,List.getElem?_eq_getElem hs2];rfl
   ·cases h1
  ·cases hk2
 case nP off n x =>
  simp only[aQ] at hk;split at hk<;>try(cases hk;done)
  rename_i t x' f hop;have ho:=Co hop;simp only[Bool.and_eq_true] at hk;obtain⟨hk1,hk2⟩:=hk;split at hk2
  ·rename_i p0 ft hf
   simp only[Bool.and_eq_true,decide_eq_true_eq] at hk2;obtain⟨⟨rfl,h2⟩,h3⟩:=hk2;obtain⟨s,h1,rfl⟩:=dG hp;have hx':=(hx x (by simp[Kp.xs]) x' hk1).1 hs.1;generalize(rd x).core=xx at h1 hx';unfold rF at h1;split at h1
   ·rename_i l
    simp only[Option.some.injEq,Prod.mk.injEq] at h1;obtain⟨e1,rfl⟩:=h1;have hs2:=hs.2;rw[<-e1] at hs2;obtain⟨cs,e2,e3,e4⟩:=j0 hx';refine⟨_,Pa ho hf h2 h3 e2,.agg (by simp;omega) fun j x hj=>?_⟩;rw[List.getElem?_take] at hj;split at hj
    ·rename_i hjn
     rw[List.getElem?_drop] at hj;have:=e4 _ _ hj
     have e5:(cs.extract p0 (p0+n)).getD j undef=cs.getD (p0+j) undef:=by
      have h6:p0+j<cs.size:=by have:=(List.getElem?_eq_some_iff.1 hj).1;omega
      have h7:j<(cs.extract p0 (p0+n)).size:=by simp;omega
      rw[Array.getD_eq_getD_getElem?,Array.getD_eq_getD_getElem?,Array.getElem?_eq_getElem h7,Array.getElem?_eq_getElem h6,Array.getElem_extract]
     rw[e5];exact this
    ·cases hj
   ·cases h1
  ·cases hk2
 case kz zs parts =>
  simp only[aQ] at hk;split at hk<;>try(cases hk;done)
  rename_i t ps hop;have ho:=Lb hop;simp only[Bool.and_eq_true] at hk;obtain⟨⟨hk1,hk2⟩,hk3⟩:=hk;simp only[bn,Option.bind_eq_some_iff] at hp;obtain⟨⟨g,l⟩,hf,hp⟩:=hp;simp only[Option.some.injEq,Prod.mk.injEq] at hp;obtain⟨rfl,rfl⟩:=hp;refine O5 ho hk1 hk2 ?_ hx hf hs;unfold AN at hk3;split at hk3
  ·rename_i fs hu
   exact⟨fs,hu,fun f hf=>by simpa using List.all_eq_true.1 hk3 f hf⟩
  ·cases hk3
 case nR x i =>
  simp only[aQ] at hk;split at hk<;>try(cases hk;done)
  rename_i t x' i' hop;have ho:=Lf hop;simp only[Bool.and_eq_true] at hk;obtain⟨⟨hk1,hk2⟩,hk3⟩:=hk;split at hk3
  ·rename_i hu
   obtain⟨s,h1,rfl⟩:=kM hp;obtain⟨⟨g1,g2⟩,hs⟩:=hs;have hx':=(hx x (by simp[Kp.xs]) x' hk1).1 g1;have hi':=(hx i (by simp[Kp.xs]) i' hk2).1 g2;generalize(rd x).core=xx at h1 hx';generalize(rd i).core=ii at h1 hi';unfold rM at h1;split at h1
   ·simp only[Option.some.injEq,Prod.mk.injEq] at h1
    obtain⟨e1,rfl⟩:=h1;rw[<-e1] at hs;obtain⟨h3,h4⟩:=Pb (P:=P) (w:=w) ho hu (fI hx').1 (dJ hi').1 hs.1 hs.2;exact⟨_,h3,.rd (.int h4)⟩
   ·cases h1
  ·cases hk3
 case ext i x =>
  simp only[aQ] at hk;split at hk<;>try(cases hk;done)
  rename_i x' i' hop;have ho:=Ld hop;simp only[Bool.and_eq_true,beq_iff_eq] at hk;obtain⟨hk1,rfl⟩:=hk;obtain⟨s,h1,rfl⟩:=dG hp;have hx':=(hx x (by simp[Kp.xs]) x' hk1).1 hs.1;generalize(rd x).core=xx at h1 hx';unfold rC at h1;split at h1
  ·rename_i l
   simp only[Option.some.injEq,Prod.mk.injEq] at h1;obtain⟨e1,rfl⟩:=h1;have hs2:=hs.2;rw[<-e1] at hs2;obtain⟨cs,e2,e3,e4⟩:=LS hx';refine⟨_,O8 ho e2 (by omega),e4 i _ ?_⟩;rw[List.getD_eq_getElem?_getD,List.getElem?_eq_getElem hs2];rfl
  ·cases h1
 case dc x =>
  simp only[aQ] at hk;split at hk<;>try(cases hk;done)
  rename_i x' hop;have ho:=Cq hop;obtain⟨s,h1,rfl⟩:=dG hp;have hx':=(hx x (by simp[Kp.xs]) x' hk).1 hs.1;generalize(rd x).core=xx at h1 hx';unfold kZ at h1;split at h1
  all_goals try(cases h1;done)
  all_goals
   simp only[one,Option.some.injEq,Prod.mk.injEq] at h1;obtain⟨_,rfl⟩:=h1
  ·obtain⟨b,off,e1,_⟩:=ot hx'
   exact⟨_,tJ ho e1,by rw[<-e1];exact hx'⟩
  ·obtain⟨b,off,e1,_⟩:=oZ hok (eP hx')
   exact⟨_,tJ ho e1,by rw[<-e1];exact hx'⟩
  ·obtain⟨cs,e1,_⟩:=lu hx'
   exact⟨_,Fz ho e1,by rw[<-e1];exact hx'⟩
 case eqs neg ks x y =>
  simp only[aQ] at hk;split at hk<;>try(cases hk;done)
  rename_i op' t x' y' hop;obtain⟨u,ho⟩:=oi hop;simp only[Bool.and_eq_true,decide_eq_true_eq,Bool.not_eq_true'] at hk;obtain⟨⟨⟨⟨rfl,hk1⟩,hk2⟩,hk3⟩,hk4⟩:=hk;split at hk3
  ·rename_i fs hu
   simp only[Bool.and_eq_true,Bool.not_eq_true'] at hk3;obtain⟨s,h1,rfl⟩:=kM hp;obtain⟨⟨g1,g2⟩,hs⟩:=hs;have hx':=(hx x (by simp[Kp.xs]) x' hk1).1 g1;have hy':=(hx y (by simp[Kp.xs]) y' hk2).1 g2;generalize(rd x).core=xx at h1 hx';generalize(rd y).core=yy at h1 hy';unfold rA at h1;split at h1
   ·rw[Option.bind_eq_some_iff] at h1
    obtain⟨b,hb,h1⟩:=h1;simp only[Option.some.injEq,Prod.mk.injEq] at h1;obtain⟨_,rfl⟩:=h1;exact⟨_,O7 ho hu hk3.1 hk3.2 hk4 hx' hy' hb,.rd .bool⟩
   ·cases h1
  ·cases hk3
 case nf x lo hi =>
  simp only[aQ] at hk;split at hk<;>try(cases hk;done)
  rename_i t x' lo' hi' hop;have ho:=Cr hop;simp only[Bool.and_eq_true] at hk;obtain⟨⟨⟨hk1,hk2⟩,hk3⟩,hk4⟩:=hk;simp only[bn,xz,Option.bind_eq_some_iff] at hp;obtain⟨s,hs1,⟨g1,l⟩,hlo,⟨g2,h⟩,hhi,hp⟩:=hp;simp only[Option.some.injEq,Prod.mk.injEq] at hp;obtain⟨rfl,rfl⟩:=hp;obtain⟨⟨g0,hg1,hg2⟩,h0,h1,h2⟩:=hs;have hx':=(hx x (by simp[Kp.xs]) x' hk1).1 g0;cases hc:(rd x).core<;>rw[hc] at hs1 hx'<;>simp[D.lJ] at hs1;subst hs1;split at hk4
  ·rename_i hu
   obtain⟨e1,e2⟩:=fI hx';refine⟨_,Pm ho hu e1 h0 h1 h2 (pk hk2 (fun z hz=>hx z (by simp[Kp.xs,hz])) hlo hg1) (pk hk3 (fun z hz=>hx z (by simp[Kp.xs,hz])) hhi hg2),.rd (.str (by simp;omega))⟩
  ·cases hk4
 case sl x lo hi =>
  simp only[aQ] at hk;split at hk<;>try(cases hk;done)
  rename_i t x' lo' hi' hop;have ho:=Cr hop;simp only[Bool.and_eq_true] at hk;obtain⟨⟨⟨hk1,hk2⟩,hk3⟩,hk4⟩:=hk;simp only[bn] at hp;unfold tw at hp;cases hso:lL (rd x).core lo with
  | some kp =>
   obtain⟨k,p⟩:=kp;obtain⟨hcx,rfl⟩:=Ou hso;rw[hso] at hp;simp only[Option.elim_some] at hp;simp only[Option.bind_eq_some_iff] at hp;obtain⟨c,hlk,n,hn,⟨g2,h⟩,hhi,hp⟩:=hp;simp only[Option.some.injEq,Prod.mk.injEq] at hp;obtain⟨rfl,rfl⟩:=hp;obtain⟨⟨g0,hg2⟩,hez,h0,h2⟩:=hs;have hx':=(hx x (by simp[Kp.xs]) x' hk1).1 g0;rw[hcx] at hx';have hr:=dh hx';rw[pR hob hr] at hlk;injection hlk with hlk
   subst hlk;obtain⟨F,hokk⟩:=hok k;have b2:=pk (a:=a) (w:=w) (A:=A) (ct:=ct) (vl:=vl) hk3 (fun z hz=>hx z (by simp[Kp.xs,hz])) hhi hg2;have hlo':lo'=none:=by cases lo' with | none=>rfl | some _=>simp[mq] at hk2
   subst hlo';split at hk4
   ·rename_i e hu
    obtain⟨inf,hi1,hi2⟩:=tv hk4;rcases j7 hokk hr with⟨z,l,e1,e2,_⟩ | ⟨F',hown,_,_,_⟩
    ·rw[e1,e2] at hez;simp[D.a8,D.at,D.un,D.fC] at hez
    ·have key:∃q m c,a.eval x'=.slice q m c/\m<=c/\(q=none->c=0)/\n=m:=by
      generalize(ct k).a8 p=y at hown hn;generalize a.eval x'=v at hown;cases hown<;>simp[D.bM] at hn
      ·exact⟨_,_,_,rfl,Nat.le_refl _,fun _=>rfl,hn.symm⟩
      ·rename_i hc _ _ _ _ _ _ _ _
       exact⟨_,_,_,rfl,by omega,fun h=>(by cases h),hn.symm⟩
     obtain⟨q,m,c,e1,e2,e3,rfl⟩:=key;have hrv:=hr.2.1;rw[e1] at hrv;exact⟨_,Pk (P:=P) (a:=a) ho hu hi1 e1 e2 e3 h0 h2 b2,.ref ⟨q,n,c,⟨hr.1,hrv⟩,by omega,rfl⟩⟩
   ·cases hk4
  | none =>
  rw[hso] at hp;simp only[Option.elim_none,Option.bind_eq_some_iff] at hp;obtain⟨n,hn,⟨g1,l⟩,hlo,⟨g2,h⟩,hhi,z,hz,hp⟩:=hp;simp only[Option.some.injEq,Prod.mk.injEq] at hp;obtain⟨rfl,rfl⟩:=hp;obtain⟨⟨g0,hg1,hg2⟩,hez,h0,h1,h2⟩:=hs;have hx':=(hx x (by simp[Kp.xs]) x' hk1).1 g0;have b1:=pk (a:=a) (w:=w) (A:=A) (ct:=ct) (vl:=vl) hk2 (fun z hz=>hx z (by simp[Kp.xs,hz])) hlo hg1;have b2:=pk (a:=a) (w:=w) (A:=A) (ct:=ct) (vl:=vl) hk3 (fun z hz=>hx z (by simp[Kp.xs,hz])) hhi hg2;split at hk4
  ·rename_i e hu
   obtain⟨inf,hi1,hi2⟩:=tv hk4;cases hc:(rd x).core<;>rw[hc] at hn hx' hz hez<;>simp[D.cut] at hz<;>try(simp[D.bM] at hn;done)
   ·rename_i z0 L
    subst hz;simp only[D.bM,Option.some.injEq] at hn;subst hn;obtain⟨v,e1,e2⟩:=FB (P:=P) (a:=a) ho hu hi1 hi2 hez (mM hx') h0 h1 h2 b1 b2;exact⟨v,e1,.rd e2⟩
   ·rename_i z0
    subst hz;simp only[D.bM,Option.some.injEq] at hn;subst hn;have hrd:Rd w A (a.eval x') (.aM z0):=bK hx' (by simp) (by simp) (by simp) (by simp) (by simp)
    have hrd':Rd w A (a.eval x') (.slice z0 []):=by
     generalize a.eval x'=v at hrd;cases hrd;exact .nil
    obtain⟨v,e1,e2⟩:=FB (P:=P) (a:=a) ho hu hi1 hi2 hez hrd' h0 h1 h2 b1 b2;exact⟨v,e1,.rd (by simpa using e2)⟩
  ·cases hk4
 case nZ f caps =>
  simp only[aQ] at hk;split at hk<;>try(cases hk;done)
  rename_i f' first captured hop
  have ho:=Lk hop;simp only[Bool.and_eq_true,beq_iff_eq] at hk;obtain⟨⟨rfl,hk1⟩,hk2⟩:=hk;simp only[bn,Option.bind_eq_some_iff] at hp;obtain⟨l,hl,hp⟩:=hp;simp only[Option.some.injEq,Prod.mk.injEq] at hp;obtain⟨_,rfl⟩:=hp;exact Pg ho hk1 hk2 hx hl
end
end Go.D3
namespace Go.D3
open Go
theorem GC{L:List D}{sz j:Nat}{c:D}(h:iB L=true)(hj:cellAt L sz j=some c):c.bX=true:=by
 have key:∀{L:List D},iB L=true->∀x∈L,x.bX=true:=fun {L}=>by
  induction L with
  | nil=>intro _ x hx;cases hx
  | cons y L ih =>
   intro h x hx;rw[iB,Bool.and_eq_true] at h;rcases List.mem_cons.1 hx with rfl | hx
   ·exact h.1
   ·exact ih h.2 x hx
 unfold cellAt at hj;rw[Option.bind_eq_some_iff] at hj;obtain⟨d,hd,hc⟩:=hj;have hs:=key h d (List.mem_of_getElem? hd);have hm:=List.mem_of_getElem? hc;cases d<;>simp[D.bX] at hs<;>simp[D.cells] at hm<;>subst hm<;>rfl
theorem LR{w w':World}{A A':Nat->Prop}{ct:Nat->D}{vl:Nat->Value}{v:Value}{c:D}{F:Nat->Prop}(h:Pl w A (aa w ct vl) v c)(hs:c.bX=true):af w' A' v c F:=by
 cases h with
 | rd h=>cases h<;>first | exact .int ‹_› | exact .bool | exact .str ‹_› | cases hs
 | ref h=>cases c<;>first | exact h.elim | cases hs
 | _=>cases hs
structure Ext[Mode](w w':World):Prop where
 size:w.heap.size<=w'.heap.size
 same:∀b,b<w.heap.size->w'.heap[b]?=w.heap[b]?
 os:w'.os=w.os
 tape:w'.tape=w.tape
 output:bQ w w'
theorem Ext.refl[Mode](w:World):Ext w w:=⟨Nat.le_refl _,fun _ _=>rfl,rfl,rfl,.of rfl rfl⟩
theorem Ext.trans[Mode]{w w' w'':World}(h:Ext w w')(h':Ext w' w''):Ext w w'' :=
 ⟨Nat.le_trans h.size h'.size,fun b hb=>(h'.same b (Nat.lt_of_lt_of_le hb h.size)).trans (h.same b hb),h'.os.trans h.os,h'.tape.trans h.tape,h'.output.trans h.output⟩
theorem kI[Mode](w:World)(o:Go.Obj):Ext w (w.alloc o):=⟨by simp,fun b hb=>heap_alloc_old w o b hb,rfl,rfl,.of rfl rfl⟩
def gu(A:Nat->Prop)(w w':World)(F:Nat->Prop)(b:Nat):Prop:=A b\/(w.heap.size<=b/\b<w'.heap.size/\¬F b)
section
variable{cx:Ctx}{ct:Nat->D}{vl:Nat->Value}{fp:Nat->Nat->Prop}{G:Nat->Prop}{w:World}
theorem Hp.add[Mode](h:Hp cx ct vl fp G w){w':World}(he:Ext w w'){k:Nat}(hk:(ct k).isObj=false){v:Value}{c:D}{F:Nat->Prop}(hF:∀b,F b->w.heap.size<=b/\b<w'.heap.size)
  (hc:az w' (gu (ae cx fp G w) w w' F) (aa w ct vl) v F c) (hemp:c.isObj=false->∀b,¬F b):Hp cx (aj ct k c) (aj vl k v) (aj fp k F) G w':=by
 have h1:=h.grow he.size he.same he.os he.tape he.output;have h2:=h1.release (G':=fun b=>G b\/F b) (fun b hb=>hb.imp id fun h=>hF b h)
 have hkeep:∀v d,aa w ct vl v d->aa w' ct vl v d:=by
  intro v d hr;refine hr.bu (aV (fun d=>?_) _);cases d<;>try trivial
  case sub k p=>exact fun hp=>⟨hp,(eF (h.ok k) hp.1 fun b hb=>he.same b (h.lt k b hb).1).1⟩
  case aq k p=>exact fun hp=>⟨hp,(eF (h.ok k) hp fun b hb=>he.same b (h.lt k b hb).1).2⟩
 refine h2.put hk (hc.mono (Q:=fun _=>True) (fun b hb=>?_) (fun _ _=>rfl) (fun _ _=>rfl) (fun _ h=>h) (aV (fun _=>trivial) _) fun v d _ hr=>hkeep v d hr) (fun b hb=>.inr hb) (fun b hb=>.inl hb) (fun b hb hg=>?_) hemp
 ·rcases hb with hb | ⟨hb1,hb2,hb3⟩
  ·exact⟨⟨Nat.lt_of_lt_of_le hb.1.1 he.size,hb.1.2⟩,fun hg=>hg.elim hb.2.1 fun hf=>by have:=(hF b hf).1;have:=hb.1.1;omega,hb.2.2⟩
  ·exact⟨⟨hb2,fun hlt=>by have:=h.size;omega⟩,fun hg=>hg.elim (fun hg=>by have:=(h.bd b hg).1;omega) hb3,fun j hj=>by have:=(h.lt j b hj).1;omega⟩
 ·have:=(h.bd b hg).1;have:=(hF b hb).1;omega
end
def zg[Mode](P:Program)(o:Oper)(a:Act)(w:World)(A:Nat->Prop)(R:Value->D->Prop)(c:D):Prop :=
 ∃(v:Value)(w':World)(F:Nat->Prop),(execOp a.eval o).run P w=.ok (.value v) w'/\Ext w w'/\(∀b,F b->w.heap.size<=b/\b<w'.heap.size)/\az w' (gu A w w' F) R v F c/\(c.isObj=false->∀b,¬F b)
section
variable{P:Program}{o:Oper}{w:World}{A:Nat->Prop}{ct:Nat->D}{vl:Nat->Value}{a:Act}{ds:List (Option Nat)}{tr:List Nat}{rd:X->D}
theorem wz:∀{l:List D},mI l=true->∀x∈l,x.pc=true
 | [],_,x,hx=>by cases hx
 | y::r,h,x,hx=>by
  simp only[mI,Bool.and_eq_true] at h;rcases List.mem_cons.1 hx with rfl | hx
  ·exact h.1
  ·exact wz h.2 x hx
theorem Ac{R:Value->D->Prop}{v:Value}{c:D}{F:Nat->Prop}(h:Pl w A R v c)(hc:c.pc=true):bG w A R v F c:=by
 cases c<;>first | exact h | (simp[D.pc] at hc)
theorem wA{v:Value}{x y:D}(h:Pl w A (aa w ct vl) v x)(hy:x.ey=some y):Rd w A v y:=by
 cases x<;>simp only[D.ey,Option.some.injEq,reduceCtorEq] at hy
 case fn f caps =>
  cases caps with
  | nil =>
   simp only[Option.some.injEq] at hy;subst hy;cases h with
   | rd h=>exact h
   | ref h=>exact h.elim
   | fn hs hr=>exact .fn hs (fun j x hx=>by simp at hx)
  | cons _ _=>cases hy
 case aM z =>
  subst hy;have:=bK h (by simp) (by simp) (by simp) (by simp) (by simp);cases this;exact .nil
 all_goals
  subst hy;exact bK h (by simp) (by simp) (by simp) (by simp) (by simp)
theorem fG{f:D->Option D}:∀{l l':List D},dt f l=some l'->l'.length=l.length/\∀(j:Nat)(y:D),l'[j]?=some y->∃x:D,l[j]?=some x/\f x=some y
 | [],l',h=>by simp[dt] at h;subst h;simp
 | x::r,l',h=>by
  simp only[dt,Option.bind_eq_some_iff,Option.some.injEq] at h;obtain⟨y,hy,l'',hl,rfl⟩:=h;obtain⟨h1,h2⟩:=fG hl;refine⟨by simp[h1],fun j z hz=>?_⟩;cases j with
  | zero=>simp at hz;subst hz;exact⟨x,rfl,hy⟩
  | succ j=>simpa using h2 j z (by simpa using hz)
theorem xb{e:TypeId}{x:Operand}(ho:o.op=.box e x):(execOp a.eval o).run P w=.ok (.value (.pointer (some ⟨w.heap.size,0,none⟩))) (w.alloc (.cells (a.eval x).cells e)):=by
 simp[execOp,ho,Instr.box,newVar,newRow]
theorem B0[Mode]{cs:Array Value}{e:TypeId}{l:List D}(hl:cs.size=l.length)(h0 : 0<l.length)(hc:∀j c,l[j]?=some c->bG w A (aa w ct vl) (cs.getD j undef) (fun _=>False) c)
  (hlive:∀b,A b->b<w.heap.size)
  (hrun:(execOp a.eval o).run P w=.ok (.value (.pointer (some ⟨w.heap.size,0,none⟩))) (w.alloc (.cells cs e))):zg P o a w A (aa w ct vl) (.box l):=by
 refine⟨_,_,(·=w.heap.size),hrun,kI w _,fun b hb=>by subst hb;simp,⟨h0,w.heap.size,cs,e,fun _ _=>False,rfl,heap_alloc_new w _,hl,fun j c hj=>?_,rfl,fun _ _ h=>h.elim,fun _ _ _ _ h=>h.elim⟩,fun h=>by cases h⟩;exact(hc j c hj).mono (Q:=fun _=>True) (fun b hb=>.inl hb) (fun b hb=>heap_alloc_old w _ b (hlive b hb)) (fun _ h=>h.elim) (fun _ h=>h) (aV (fun _=>trivial) _) fun v d _ hr=>hr
theorem A6{z:Array Value}{n j:Nat}(hj:j<n)(hz : 0<z.size):(madeCells z n).getD j undef=z.getD (j % z.size) undef:=by
 have:=Nat.mod_lt j hz;simp[madeCells,hj,this]
theorem vk:∀{ps:List (Nat×Operand)}{parts:List (Nat×X)},ic ds tr ps parts=true->ps.length=parts.length/\∀(j i:Nat) x k y,ps[j]?=some (i,x)->parts[j]?=some (k,y)->i=k/\aA ds tr x y=true
 | [],[],_=>⟨rfl,by simp⟩
 | [],_::_,h=>by simp[ic] at h
 | _::_,[],h=>by simp[ic] at h
 | (i,x)::ps,(k,y)::parts,h=>by
  simp only[ic,Bool.and_eq_true,beq_iff_eq] at h;obtain⟨h1,h2⟩:=vk h.2;refine⟨by simp[h1],fun j=>?_⟩;cases j with
  | zero =>
   intro i' x' k' y' he he';simp at he he';obtain⟨rfl,rfl⟩:=he;obtain⟨rfl,rfl⟩:=he';exact h.1
  | succ j=>intro i' x' k' y' he he';exact h2 j i' x' k' y' (by simpa using he) (by simpa using he')
theorem NS(l:List D)(i:Nat)(x:D):cL l i x=l.set i x:=by
 induction l generalizing i with
 | nil=>rfl
 | cons a l ih=>cases i with
  | zero=>rfl
  | succ i=>simp[cL,ih]
theorem GI{x:D}{l:List D}(h:x.cellsOf=some l):x.cells=l:=by
 cases x<;>simp[D.cellsOf] at h<;>first | exact h | (subst h;rfl)
theorem GF{L:List D}{sz i j:Nat}{y:D}(_:y.cells.length=sz)(hi:i<L.length)(hz : 0<sz) :
  cellAt (L.set i y) sz j=if i*sz<=j/\j<i*sz+sz then y.cells[j-i*sz]? else cellAt L sz j:=by
 unfold cellAt;have hmod:=Nat.div_add_mod j sz;have hlt:=Nat.mod_lt j hz;by_cases h:j / sz=i
 ·rw[Nat.mul_comm,h] at hmod
  rw[if_pos (by omega),h,List.getElem?_set_self hi,Option.bind_some];congr 1;omega
 ·rw[List.getElem?_set_ne (Ne.symm h),if_neg]
  rintro⟨h1,h2⟩;apply h;have:j / sz<i+1:=(Nat.div_lt_iff_lt_mul hz).2 (by rw[Nat.add_mul];omega);have:i<=j / sz:=(Nat.le_div_iff_mul_le hz).2 h1;omega
theorem AO{sz:Nat}(hz : 0<sz):∀(ps:List (Nat×Operand))(parts:List (Nat×X))(cs:Array Value)(L:List D)(g:Bool)(L':List D),ic ds tr ps parts=true ->
  (∀y,y∈parts.map (·.2)->∀x,aA ds tr x y=true->bL w A (aa w ct vl) (a.eval x) (rd y)) ->
  cs.size=L.length*sz->(∀x∈L,x.cells.length=sz)->(∀j c,cellAt L sz j=some c->Pl w A (aa w ct vl) (cs.getD j undef) c/\c.pc=true)->kK rd sz L parts=some (g,L')->g=true ->
  ∃cs',Instr.fill (fun i=>some (i*sz,sz)) cs (ps.map fun(i,x)=>(i,a.eval x))=some cs'/\cs'.size=L'.length*sz/\L'.length=L.length/\(∀x∈L',x.cells.length=sz)/\∀j c,cellAt L' sz j=some c->Pl w A (aa w ct vl) (cs'.getD j undef) c/\c.pc=true
 | [],[],cs,l,g,l',_,_,h1,h1',h2,hf,_=>by
  simp[kK] at hf;obtain⟨_,rfl⟩:=hf;exact⟨cs,rfl,h1,rfl,h1',h2⟩
 | [],_::_,_,_,_,_,h,_,_,_,_,_,_=>by simp[ic] at h
 | _::_,[],_,_,_,_,h,_,_,_,_,_,_=>by simp[ic] at h
 | (i,x)::ps,(k,y)::parts,cs,L,g,L',hp,hr,h1,h1',h2,hf,hg=>by
  simp only[ic,Bool.and_eq_true,beq_iff_eq] at hp;obtain⟨⟨rfl,hx⟩,hp⟩:=hp;simp only[kK,Option.bind_eq_some_iff] at hf;obtain⟨xs,hxs,hf⟩:=hf;split at hf
  ·rename_i hlen
   rw[Option.bind_eq_some_iff] at hf;obtain⟨⟨g',L''⟩,hf,he⟩:=hf;simp only[Option.some.injEq,Prod.mk.injEq] at he;obtain⟨he1,rfl⟩:=he;rw[hg] at he1;simp at he1;have hv:=(hr y (by simp) x hx).1 he1.1;obtain⟨h3,h4⟩:=lN hv hxs;have hcel:=GI hxs;rw[NS] at hf
   have hle:i*sz+sz<=cs.size:=by
    rw[h1];have:(i+1)*sz<=L.length*sz:=Nat.mul_le_mul_right _ hlen.2.1;rw[Nat.add_mul] at this;omega
   have hvl:(a.eval x).cells.toList.length=sz:=by simp;omega
   obtain⟨cs',h7,h8,h9,h10,h11⟩:=AO hz ps parts (dV cs (i*sz) (a.eval x).cells.toList) (L.set i (rd y).core) g' L'' hp (fun y hy=>hr y (by simp only[List.map_cons,List.mem_cons];exact .inr hy))
    (by rw[oD,h1,List.length_set])
    (fun x hx=>by
      rcases List.mem_or_eq_of_mem_set hx with h | h
      ·exact h1' x h
      ·rw[h,hcel];exact hlen.1)
    (fun j c hj=>by
      rw[GF (by rw[hcel];exact hlen.1) hlen.2.1 hz] at hj;rw[oC _ _ _ _ (by omega),hvl];split at hj
      ·rename_i hh
       rw[if_pos hh];rw[hcel] at hj;have:=h4 _ _ hj;exact⟨by simpa using this,wz hlen.2.2 _ (List.mem_of_getElem? hj)⟩
      ·rename_i hh
       rw[if_neg hh]
       exact h2 j c hj) hf he1.2
   refine⟨cs',?_,h8,by rw[h9,List.length_set],h10,h11⟩;simp only[List.map_cons,Instr.fill];have hcond:¬((decide ((a.eval x).cells.size≠sz) || decide (i*sz+(a.eval x).cells.size > cs.size))=true):=by simp;omega
   rw[if_neg hcond];have:=rG (a.eval x).cells.toList 0 (i*sz) cs;simp only[Nat.add_zero] at this;rw[<-Array.foldl_toList,Array.toList_zipIdx,this];exact h7
  ·cases hf
theorem xa{t e:TypeId}{n:Nat}{ps:Array (Nat×Operand)}(ho:o.op=.buildSlice t n ps)(hu:P.underlying t=some (.slice e)){i:TypeInfo}{z:Value}(hi:P.info? e=some i)(hz:i.zero=some z)(hsm:n*i.size<=16777216)
  {cs:Array Value} (hf:Instr.fill (fun j=>some (j*i.size,i.size)) (madeCells z.cells (n*i.size)) (ps.toList.map fun(i,x)=>(i,a.eval x))=some cs) :
  (execOp a.eval o).run P w=.ok (.value (.slice (some ⟨w.heap.size,0,none⟩) n n)) (w.alloc (.cells cs e)):=by
 have hf':Instr.fill (fun j=>some (j*i.size,i.size)) (madeCells z.cells (n*i.size)) (ps.toList.map fun x=>(x.fst,a.eval x.snd))=some cs:=hf;have hsm':¬16777216<n*i.size:=by omega
 by_cases h0:n*i.size=0
 ·have hm:madeCells z.cells (n*i.size)=#[]:=by rw[h0];simp[madeCells,Array.range_zero']
  rw[hm] at hf';simp only[execOp,ho,Sem.run_bind,Instr.buildSlice,run_underlying hu,Result.andThen_ok,sizeOf,typeInfo,run_program];simp[hi,h0,hf',newRow,Array.range_zero']
 ·simp only[execOp,ho,Sem.run_bind,Instr.buildSlice,run_underlying hu,Result.andThen_ok,sizeOf,typeInfo,run_program]
  simp only[madeCells] at hf';simp[hi,hz,hsm',h0,zeroValue,typeInfo,hf',newRow]
theorem z7{z:D}{n j:Nat}(hz : 0<z.cells.length):cellAt (List.replicate n z) z.cells.length j=if j<n*z.cells.length then z.cells[j % z.cells.length]? else none:=by
 unfold cellAt;rw[List.getElem?_replicate];by_cases h:j / z.cells.length<n
 ·rw[if_pos h,if_pos ((Nat.div_lt_iff_lt_mul hz).1 h)];rfl
 ·rw[if_neg h,if_neg (fun hh=>h ((Nat.div_lt_iff_lt_mul hz).2 hh))];rfl
theorem Po{v:Value}{d:D}(h:fO v d=true):d.pc=true:=by
 unfold fO at h;split at h<;>first | rfl | cases h
theorem B4[Mode]{k:Kp}{side:Prop}{c:D}(hp:bJ k rd=some (side,c))(hk:aQ P ds tr o k=true)
  (hx:∀y,y∈k.xs->∀x,aA ds tr x y=true->bL w A (aa w ct vl) (a.eval x) (rd y)) (hlive:∀b,A b->b<w.heap.size) (hs:side):zg P o a w A (aa w ct vl) c:=by
 cases k<;>try(simp[bJ] at hp;done)
 case box n x =>
  simp only[aQ] at hk;split at hk<;>try(cases hk;done)
  rename_i e x' hop;have ho:=vS hop;simp only[Bool.and_eq_true] at hk;simp only[bJ,um,Option.bind_eq_some_iff] at hp;obtain⟨l,hl,hp⟩:=hp;simp only[Option.some.injEq,Prod.mk.injEq] at hp;obtain⟨rfl,rfl⟩:=hp;obtain⟨⟨h1,h2,h3⟩,h4⟩:=hs;obtain⟨h5,h6⟩:=lN ((hx x (by simp[Kp.xs]) x' hk.1).1 h1) hl;exact B0 h5 (by omega) (fun j c hj=>Ac (h6 j c hj) (wz h3 _ (List.mem_of_getElem? hj))) hlive (xb ho)
 case eK n x =>
  simp only[aQ] at hk;split at hk<;>try(cases hk;done)
  rename_i e x' hop;have ho:=vS hop;simp only[Bool.and_eq_true] at hk;simp only[bJ,uq,Option.bind_eq_some_iff] at hp;obtain⟨l,hl,l',hl',hp⟩:=hp;simp only[Option.some.injEq,Prod.mk.injEq] at hp;obtain⟨rfl,rfl⟩:=hp;obtain⟨h1,h4⟩:=hs;obtain⟨h5,h6⟩:=lN ((hx x (by simp[Kp.xs]) x' hk.1).1 h1) hl;obtain⟨h7,h8⟩:=fG hl';refine⟨_,_,fun _=>False,xb ho,kI w _,fun _ h=>h.elim,.rd (.ptr (.inr ⟨Nat.le_refl _,by simp,fun h=>h⟩) (fun j=>(a.eval x').cells.getD j undef) (fun j y hj=>?_) (fun j y hj=>?_)),fun _ _ h=>h⟩
  ·rw[Nat.zero_add]
   exact cN (heap_alloc_new w _) (by have:=(List.getElem?_eq_some_iff.1 hj).1;omega)
  ·obtain⟨z,hz,hzy⟩:=h8 j y hj
   exact(wA (h6 j z hz) hzy).mono (fun b hb=>.inl hb) (fun b hb=>heap_alloc_old w _ b (hlive b hb))
 case fk =>
  simp only[aQ,Option.isSome_iff_exists] at hk;obtain⟨t,hop⟩:=hk;have ho:=Li hop;simp only[bJ,Option.some.injEq,Prod.mk.injEq] at hp;obtain⟨rfl,rfl⟩:=hp;refine⟨.map (some w.heap.size),w.alloc (.map #[] 0),fun b=>b=w.heap.size,by simp[execOp,ho,Instr.makeMap,Result.andThen],kI w _,fun b hb=>by subst hb;simp,?_,fun hh=>by cases hh⟩;exact af.mp rfl (heap_alloc_new w _) ⟨⟨rfl,rfl,Nat.zero_le _⟩,fun j e k hj=>by simp at hj,fun j e k hj=>by simp at hj⟩
 case fq x =>
  simp only[aQ] at hk;split at hk<;>try(cases hk;done)
  rename_i t x' hop;simp only[Bool.and_eq_true] at hk;obtain⟨hk1,hk2⟩:=hk;split at hk2<;>try(cases hk2;done)
  rename_i hu;have ho:=Lp hop;simp only[bJ,w8,Option.bind_eq_some_iff] at hp;obtain⟨s,hl,hp⟩:=hp;simp only[Option.some.injEq,Prod.mk.injEq] at hp;obtain⟨rfl,rfl⟩:=hp;have hx1:=(hx x (by simp[Kp.xs]) x' hk1).1 hs;have hxs:(rd x).core=.str s:=by cases hcx:(rd x).core<;>rw[hcx] at hl<;>simp[D.lJ] at hl;subst hl;rfl
  rw[hxs] at hx1;refine⟨.pointer (some ⟨w.heap.size,0,none⟩),w.alloc (.stringIter ⟨s.toArray⟩ 0),fun b=>b=w.heap.size,?_,kI w _,fun b hb=>by subst hb;simp,af.bE rfl (heap_alloc_new w _) (fI hx1).2,fun hh=>by cases hh⟩;simp only[execOp,ho,(fI hx1).1,Sem.run_bind,run_range_string w t _ hu,Result.andThen_ok,Sem.run_pure];rfl
 case fg x =>
  simp only[aQ] at hk;split at hk<;>try(cases hk;done)
  rename_i s0 d0 x' hop;have ho:=vU hop;simp only[Bool.and_eq_true] at hk;obtain⟨hk1,hk2⟩:=hk;split at hk2<;>try(cases hk2;done)
  rename_i e hu1 hu2;split at hk2<;>try(cases hk2;done)
  rename_i hu3;simp only[bJ,uF,Option.bind_eq_some_iff] at hp;obtain⟨s,hl,hp⟩:=hp;simp only[Option.some.injEq,Prod.mk.injEq] at hp;obtain⟨rfl,rfl⟩:=hp;obtain⟨hg,hmax⟩:=hs;have hx1:=(hx x (by simp[Kp.xs]) x' hk1).1 hg;have hxs:(rd x).core=.str s:=by cases hcx:(rd x).core<;>rw[hcx] at hl<;>simp[D.lJ] at hl;subst hl;rfl
  rw[hxs] at hx1;have hsz:(⟨s.toArray⟩:ByteArray).size=s.length:=by show s.toArray.size=_;simp
  have hcm:grownCap w s.length 0 e<=maxLen:=grownCap_le_maxLen w _ 0 e (by simp only[maxLen];omega);have hge:=grownCap_ge w s.length 0 e;have hcs:(Lib.bytesCells w e ⟨s.toArray⟩).size=grownCap w s.length 0 e:=by simp only[Lib.bytesCells,hsz,Array.size_append,Array.size_map,List.size_toArray,Array.size_replicate];omega
  refine⟨_,Lib.bytesWorld w e ⟨s.toArray⟩,fun b=>b=w.heap.size,by simp only[execOp,ho,(fI hx1).1,Sem.run_bind,Lib.run_convert_string_bytes w s0 d0 e _ hu1 hu2 hu3,Result.andThen_ok,Sem.run_pure];rfl,
   ⟨by rw[Lib.bytesWorld_size];omega,fun b hb=>Lib.bytesWorld_at_old w e _ b hb,rfl,rfl,.le rfl (Nat.le_succ _)⟩,fun b hb=>by subst hb;rw[Lib.bytesWorld_size];omega,?_,fun hh=>by cases hh⟩
  rw[hsz]
  have key:=af.slice (w:=Lib.bytesWorld w e ⟨s.toArray⟩) (A:=gu A w (Lib.bytesWorld w e ⟨s.toArray⟩) (·=w.heap.size)) (z:=.int .u8 0) (L:=s.map fun b=>D.int .u8 b.toNat) (b:=w.heap.size) (off:=0) (cap:=grownCap w s.length 0 e) (sz:=1) (F:=(·=w.heap.size))
   (fun _ _=>False) (Lib.bytesWorld_at_new w e ⟨s.toArray⟩) ⟨by omega,.inr (Nat.le_refl _)⟩ (by rw[List.length_map];exact hge) hcm (by decide) rfl (fun x hx=>by obtain⟨y,_,rfl⟩:=List.mem_map.1 hx;rfl) (fun j x hj=>?_) rfl (fun _ _ h=>h.elim) (fun _ _ _ _ h=>h.elim)
  ·rw[List.length_map] at key;exact key
  unfold cellAt at hj;rw[Nat.div_one,Nat.mod_one,List.getElem?_map] at hj;cases hq:s[j]? with
  | none=>rw[hq] at hj;cases hj
  | some b =>
   rw[hq] at hj;simp only[Option.map_some,Option.bind_some,D.cells,List.getElem?_cons_zero,Option.some.injEq] at hj;subst hj;have hjl:=(List.getElem?_eq_some_iff.1 hq).1
   have hv:(Lib.bytesCells w e ⟨s.toArray⟩).getD (0+j) undef=.int .u8 b.toNat:=by
    rw[Nat.zero_add,Array.getD_eq_getD_getElem?];unfold Lib.bytesCells;rw[Array.getElem?_append_left (by simpa using hjl),Array.getElem?_map,List.getElem?_toArray,hq];rfl
   rw[hv];have:=b.toNat_lt;refine .int ?_;simp[IntKind.has,IntKind.min,IntKind.max,IntKind.signed,IntKind.bits];omega
 case dO zs =>
  simp only[aQ] at hk;split at hk<;>try(cases hk;done)
  rename_i t hop;have ho:=La hop;simp only[bJ,Option.some.injEq,Prod.mk.injEq] at hp;obtain⟨rfl,rfl⟩:=hp;obtain⟨i,z,h1,h2,h3,h4,h5⟩:=qM hk;exact B0 (cs:=z.cells) (e:=t) (by simpa using h4) (List.length_pos_iff.2 hs) (fun j c hc=>Pp (h5 j (kf c) (by rw[List.getElem?_map,hc];rfl))) hlive (by simp[execOp,ho,Instr.alloc,zeroValue,typeInfo,h1,h2,newVar,newRow])
 case al z bytes x y =>
  simp only[aQ] at hk;split at hk<;>try(cases hk;done)
  rename_i t x' y' hop;have ho:=Lj hop;simp only[Bool.and_eq_true,decide_eq_true_eq] at hk;obtain⟨⟨⟨hk1,hk2⟩,hk3⟩,hk4⟩:=hk;split at hk4<;>try(cases hk4;done)
  rename_i e he;simp only[Bool.and_eq_true,decide_eq_true_eq] at hk4;obtain⟨i,z',h1,h2,h3,h4,h5⟩:=qM hk4.1.1
  have hby:i.bytes=bytes:=by
   have:=hk4.1.2;unfold l7 at this;rw[h1] at this;simpa using this
  simp only[bJ,vA,Option.bind_eq_some_iff] at hp;obtain⟨l,hl,cc,hc,hp⟩:=hp;simp only[Option.some.injEq,Prod.mk.injEq] at hp;obtain⟨rfl,rfl⟩:=hp;obtain⟨⟨g1,g2⟩,hl0,hlc,hbytes⟩:=hs;have hx1:=(hx x (by simp[Kp.xs]) x' hk1).1 g1;have hy1:=(hx y (by simp[Kp.xs]) y' hk2).1 g2
  have ek1:∃k,a.eval x'=.int k l:=by
   cases hcx:(rd x).core<;>rw[hcx] at hl hx1<;>simp[D.int?] at hl;subst hl;exact⟨_,(dJ hx1).1⟩
  have ek2:∃k,a.eval y'=.int k cc:=by
   cases hcx:(rd y).core<;>rw[hcx] at hc hy1<;>simp[D.int?] at hc;subst hc;exact⟨_,(dJ hy1).1⟩
  obtain⟨k1,ek1⟩:=ek1;obtain⟨k2,ek2⟩:=ek2
  have hc63:cc<=9223372036854775807/\cc.toNat<=maxLen:=by
   have h10:cc<=bytes*cc:=by
    have:(1:Int)*cc<=bytes*cc:=Int.mul_le_mul_of_nonneg_right (by have:=hk4.2;omega) (by omega);omega
   simp only[maxLen];omega
  rw[List.length_map] at h3 h4;have hrun:=run_make (P:=P) w t e i z' (gP he) h1 h2 k1 k2 l cc hl0 hlc (by rw[hby];exact hbytes) hc63.1;have hsz:z'.cells.size=z.cells.length:=h4;refine⟨.slice (some ⟨w.heap.size,0,none⟩) l.toNat cc.toNat,w.alloc (.cells (madeCells z'.cells (cc.toNat*i.size)) e),(·=w.heap.size),?_,kI w _,fun b hb=>by subst hb;simp,?_,fun h=>by cases h⟩
  ·simp only[execOp,ho,ek1,ek2,Sem.run_bind,hrun,Result.andThen_ok,Sem.run_pure]
  ·have:=af.slice (w:=w.alloc (.cells (madeCells z'.cells (cc.toNat*i.size)) e)) (A:=gu A w (w.alloc (.cells (madeCells z'.cells (cc.toNat*i.size)) e)) (·=w.heap.size)) (z:=z) (L:=List.replicate l.toNat z) (off:=0) (cap:=cc.toNat) (sz:=z.cells.length) (F:=(·=w.heap.size)) (fun _ _=>False) (heap_alloc_new w _) (by simp[madeCells,h3]) (by simp;omega) hc63.2 hk3 rfl
     (fun x hx=>by rw[(List.mem_replicate.1 hx).2])
     (fun j x hx=>by
       rw[z7 hk3] at hx;split at hx
       ·rename_i hj
        have hj2:j<cc.toNat*i.size:=by
         rw[h3];exact Nat.lt_of_lt_of_le hj (Nat.mul_le_mul_right _ (by omega))
        rw[Nat.zero_add,A6 hj2 (by omega),hsz];exact Pq (h5 _ _ (by rw[List.getElem?_map,hx];rfl))
       ·cases hx) rfl (fun _ _ h=>h.elim) (fun _ _ _ _ h=>h.elim)
   rw[List.length_replicate] at this;exact this
 case dP z n parts =>
  simp only[aQ] at hk;split at hk<;>try(cases hk;done)
  rename_i t n' ps hop;have ho:=Cm hop;simp only[Bool.and_eq_true,decide_eq_true_eq,beq_iff_eq] at hk;obtain⟨⟨⟨⟨rfl,hk1⟩,hk2⟩,hk3⟩,hk4⟩:=hk;split at hk4<;>try(cases hk4;done)
  rename_i e he;obtain⟨i,z',h1,h2,h3,h4,h5⟩:=qM hk4;have hu:=gP he
  have hm2:∀j c,cellAt (List.replicate n z) z.cells.length j=some c->Pl w A (aa w ct vl) ((madeCells z'.cells (n*i.size)).getD j undef) c/\c.pc=true:=by
   intro j c hj;rw[z7 hk2] at hj;split at hj
   ·rename_i hjn
    rw[A6 (by rw[h3];exact hjn) (by omega),h4];exact⟨.rd (zd (h5 _ _ hj)),Po (h5 _ _ hj)⟩
   ·cases hj
  have hfill:=fun g L' (hf:kK rd z.cells.length (List.replicate n z) parts=some (g,L')) (hg:g=true) =>
   AO (w:=w) (A:=A) (ct:=ct) (vl:=vl) (a:=a) hk2 ps.toList parts (madeCells z'.cells (n*i.size)) (List.replicate n z) g L' hk1 hx (by simp[madeCells,h3]) (fun x hx=>by rw[(List.mem_replicate.1 hx).2]) hm2 hf hg
  simp only[bJ] at hp;unfold pj at hp;split at hp
  ·
   simp only[Option.some.injEq,Prod.mk.injEq] at hp;obtain⟨_,rfl⟩:=hp
   have hps:ps.toList=[]:=by
    have:=(vk hk1).1;exact List.eq_nil_of_length_eq_zero (by simpa using this)
   have hf:Instr.fill (fun j=>some (j*i.size,i.size)) (madeCells z'.cells (0*i.size)) (ps.toList.map fun(i,x)=>(i,a.eval x))=some (madeCells z'.cells (0*i.size)):=by rw[hps];rfl
   have hrun:=xa (P:=P) (w:=w) ho hu h1 h2 (by omega) hf;refine⟨_,_,(·=w.heap.size),hrun,kI w _,fun b hb=>by subst hb;simp,?_,fun h=>by cases h⟩;exact af.slice (L:=[]) (off:=0) (cap:=0) (sz:=z.cells.length) (fun _ _=>False) (heap_alloc_new w _) (by simp) (by simp) (by simp) hk2 rfl (by simp) (by simp[cellAt]) rfl (fun _ _ h=>h.elim) (fun _ _ _ _ h=>h.elim)
  ·cases hp
  ·rename_i n
   rw[Option.bind_eq_some_iff] at hp;obtain⟨⟨g,L⟩,hf,hp⟩:=hp;simp only[Option.some.injEq,Prod.mk.injEq] at hp;obtain⟨rfl,rfl⟩:=hp;obtain⟨cs',h6,h7,h8,h9,h10⟩:=hfill g L hf hs;have hL:L.length=n+1:=by simpa using h8
   rw[<-h3] at h6;have hrun:=xa (P:=P) (w:=w) ho hu h1 h2 (by rw[h3];exact hk3) h6
   have hb1:n+1<=16777216:=by
    have h11:(n+1)*1<=(n+1)*z.cells.length:=Nat.mul_le_mul_left _ hk2;have h12:(n+1)*z.cells.length<=16777216:=hk3;omega
   cases hfs:four L&&iB L with
   | false =>
    refine⟨_,_,(·=w.heap.size),hrun,kI w _,fun b hb=>by subst hb;simp,⟨w.heap.size,z.cells.length,cs',e,by rw[hL],heap_alloc_new w _,h7,by rw[hL];simp only[maxLen];omega,hk2,rfl,h9,fun j c hj=>?_,rfl⟩,fun h=>by cases h⟩;exact⟨(h10 j c hj).1.mono (Q:=fun _=>True) (fun b hb=>.inl hb) (fun b hb=>heap_alloc_old w _ b (hlive b hb)) (aV (fun _=>trivial) _) fun v d _ hr=>hr,(h10 j c hj).2⟩
   | true =>
    rw[Bool.and_eq_true] at hfs;refine⟨_,_,(·=w.heap.size),hrun,kI w _,fun b hb=>by subst hb;simp,?_,fun h=>by cases h⟩;rw[show n.succ=L.length from hL.symm];refine af.slice (off:=0) (sz:=z.cells.length) (fun _ _=>False) (heap_alloc_new w _) (by rw[h7];simp) (Nat.le_refl _) (by rw[hL];simp only[maxLen];omega) hk2 rfl h9 (fun j c hj=>?_) rfl (fun _ _ h=>h.elim) fun _ _ _ _ h=>h.elim
    rw[Nat.zero_add];exact LR (h10 j c hj).1 (GC hfs.2 hj)
end
end Go.D3
namespace Go.D3
open Go
theorem og:∀{l:List D},dA l=true->∀x∈l,x.bp=true
 | [],_,x,hx=>by cases hx
 | y::r,h,x,hx=>by
  simp only[dA,Bool.and_eq_true] at h;rcases List.mem_cons.1 hx with rfl | hx
  ·exact h.1
  ·exact og h.2 x hx
theorem JW{L:List D}{sz j:Nat}{c:D}(h:dA L=true)(hc:cellAt L sz j=some c):c.bp=true:=by
 unfold cellAt at hc;cases hq:L[j / sz]? with
 | none=>simp[hq] at hc
 | some d =>
  rw[hq,Option.bind_some] at hc;have hd:=og h d (List.mem_of_getElem? hq);have hm:=List.mem_of_getElem? hc;cases d<;>simp only[D.cells,List.mem_singleton] at hm<;>first | (subst hm;exact hd) | exact og hd c hm
theorem pY{w:World}{A A':Nat->Prop}{d:D}{v:Value}{F:Nat->Prop}(h:af w A v d F):d.bp=true->af w A' v d F:=by
 induction h with
 | int h=>exact fun _=>.int h
 | bool=>exact fun _=>.bool
 | str h=>exact fun _=>.str h
 | nil=>exact fun _=>.nil
 | aF=>exact fun _=>.aF
 | fn=>exact fun _=>.fn
 | vw h=>exact fun hn=>by simp[D.bp] at hn
 | dead=>exact fun _=>.dead
 | mp hF hb hE=>exact fun _=>.mp hF hb hE
 | bw=>exact fun _=>.bw
 | bq h=>exact fun hn=>by simp[D.bp] at hn
 | bl=>exact fun _=>.bl
 | bE hF hb hs=>exact fun _=>.bE hF hb hs
 | slice Fs hb hroom hc hm hz hzz hsz hr hF hfs hdis ih=>exact fun hn=>.slice Fs hb hroom hc hm hz hzz hsz (fun j x hx=>ih j x hx (JW hn hx)) hF hfs hdis
 | agg Fs hs hr hfs hdis ih=>exact fun hn=>.agg Fs hs (fun j x hx=>ih j x hx (og hn x (List.mem_of_getElem? hx))) hfs hdis
 | au Fs hs hr hfs hdis ih=>exact fun hn=>.au Fs hs (fun j x hx=>ih j x hx (og hn x (List.mem_of_getElem? hx))) hfs hdis
 | ptr Fs hb hs hr hF hfs hdis ih=>exact fun hn=>.ptr Fs hb hs (fun j x hx=>ih j x hx (og hn x (List.mem_of_getElem? hx))) hF hfs hdis
section
variable{P:Program}{o:Oper}{w:World}{A:Nat->Prop}{ct:Nat->D}{vl:Nat->Value}{a:Act}{ds:List (Option Nat)}{tr:List Nat}{rd:X->D}{ob:Nat->D}
def live(w:World)(b:Nat):Prop:=b<w.heap.size
theorem E9{z:D}:∀{l:List D},oH z l=true->∀x∈l,x.cells.length=z.cells.length
 | [],_,x,hx=>by cases hx
 | y::r,h,x,hx=>by
  simp only[oH,Bool.and_eq_true,decide_eq_true_eq] at h;rcases List.mem_cons.1 hx with rfl | hx
  ·exact h.1
  ·exact E9 h.2 x hx
theorem CP{d y:D}{n:Nat}(h:d.ou n=some y):∃l,d=.o (.ptr l)/\y=.ptr (l.drop n):=by
 unfold D.ou at h;split at h
 ·injection h with h;exact⟨_,rfl,h.symm⟩
 ·cases h
theorem L5{d y:D}{n:Nat}(h:d.ou n=some y):∃l,y=.ptr l:=by
 obtain⟨l,_,rfl⟩:=CP h;exact⟨_,rfl⟩
theorem AW{n:Nat}{e e':D}(h:aW ob (n+1) e=some e')(hpe:e.pc=true):e'.isAgg=false:=by
 cases e<;>try(simp[D.pc] at hpe;done)
 case fn f caps =>
  simp only[aW,Option.bind_eq_some_iff] at h;obtain⟨l',_,h⟩:=h;simp only[Option.some.injEq] at h;subst h;rfl
 all_goals simp only[aW] at h
 all_goals try(simp only[Option.some.injEq] at h;subst h;rfl)
 all_goals try(cases h;done)
 ·rw[Option.bind_eq_some_iff] at h
  obtain⟨c,_,h⟩:=h;split at h
  ·rw[Option.bind_eq_some_iff] at h
   obtain⟨l',_,h⟩:=h;split at h<;>simp only[Option.some.injEq,reduceCtorEq] at h;subst h;rfl
  ·split at h
   ·cases h
   ·rename_i hh;simp only[Option.some.injEq] at h;subst h;simpa using hh
 ·rw[Option.bind_eq_some_iff] at h
  obtain⟨c,_,h⟩:=h;split at h
  ·rw[Option.bind_eq_some_iff] at h
   obtain⟨l',_,h⟩:=h;simp only[Option.some.injEq] at h;subst h;rfl
  ·simp only[Option.some.injEq] at h;subst h;rfl
  ·obtain⟨l,rfl⟩:=L5 h;rfl
  ·cases h
theorem Hm{n:Nat}{e e':D}(h:aW ob n e=some e')(hl:e'.cells.length=e.cells.length)(hpc:∀c∈e.cells,c.pc=true):∀(j:Nat)(y:D),e'.cells[j]?=some y->∃(c:D)(m:Nat),e.cells[j]?=some c/\aW ob m c=some y:=by
 cases n with
 | zero=>simp[aW] at h
 | succ n =>
  by_cases ha:e.isAgg=true
  ·cases e<;>simp[D.isAgg] at ha
   rename_i l;simp only[aW,Option.bind_eq_some_iff] at h;obtain⟨l',h1,h2⟩:=h;injection h2 with h2
   subst h2;intro j y hj;obtain⟨x,h3,h4⟩:=(fG h1).2 j y hj;exact⟨x,n,h3,h4⟩
  ·have ha':e.isAgg=false:=by simpa using ha
   have hec:=D.cells_one ha';rw[hec] at hl hpc|-
   have hpe:=hpc e (by simp);have hne:=AW h hpe;rw[D.cells_one hne];intro j y hj;cases j with
   | zero=>simp at hj;subst hj;exact⟨e,n+1,rfl,h⟩
   | succ j=>simp at hj
theorem Cz{v:Value}{d:D}{F:Nat->Prop}(hA:∀b,A b->live w b)(hF:∀b,F b->live w b)(h:af w A v d F):Rd w (live w) v d:=h.rd hA hF
theorem rY{k:Nat}{c:D}(h:lk ob k=some c):(ob k).isObj=true/\c=ob k:=by
 unfold lk at h;split at h
 ·rename_i ho;simp only[Option.some.injEq] at h;exact⟨ho,h.symm⟩
 ·cases h
theorem qk{B:Nat->Prop}{v:Value}{d:D}{F:Nat->Prop}(hA:∀b,A b->B b)(hF:∀b,F b->B b)(h:af w A v d F):Rd w B v d:=h.rd hA hF
theorem Mi{B:Nat->Prop}{q:Option Addr}{m n c:Nat}{z:D}{l:List D}(h:Rd w B (.slice q m c) (.slice z l))(hn:n<=m):Rd w B (.slice q n c) (.slice z (l.take n)):=by
 generalize hv:Value.slice q m c=v at h;cases h with
 | nil =>
  injection hv with e1 e2 e3
  subst e1;subst e2;subst e3;have:n=0:=by omega
  subst this;exact .nil
 | empty hm =>
  injection hv with e1 e2 e3
  subst e1;subst e2;subst e3;have:n=0:=by omega
  subst this;exact .empty hm
 | slice hA hc hm hz hzz hsz vs hcells hr =>
  injection hv with e1 e2 e3
  subst e1;subst e2;subst e3;have hl:(l.take n).length=n:=by rw[List.length_take];omega
  have hcut:∀j x,cellAt (l.take n) _ j=some x->cellAt l _ j=some x:=fun j x hx=>by
   have:=uy (L:=l) (h:=n) (l:=0) hz (by simpa using hx);simpa using this
  have:=Rd.slice (w:=w) (z:=z) (L:=l.take n) hA (by omega) hm hz hzz (fun y hy=>hsz y (List.mem_of_mem_take hy)) vs (fun j x hx=>hcells j x (hcut j x hx)) (fun j x hx=>hr j x (hcut j x hx));rw[hl] at this;exact this
theorem kN{B:Nat->Prop}(hA:∀b,A b->B b)(hob:∀j,(ct j).isObj=true->(ob j).isObj=true->ob j=ct j)(hok:∀j,(ct j).isObj=true->(ob j).isObj=true->∃F,(∀b,F b->B b)/\az w A (aa w ct vl) (vl j) F (ct j)) :
  ∀(n:Nat){v:Value}{d x:D},Pl w A (aa w ct vl) v d->aW ob n d=some x->Rd w B v x
 | 0,v,d,x,_,h=>by simp[aW] at h
 | n+1,v,d,x,hv,h=>by
  have same:∀{v:Value}{d:D},Pl w A (aa w ct vl) v d->(∀k p,d≠.sub k p)->(∀k p,d≠.aq k p)->(∀f c,d≠.fn f c)->(∀l,d≠.agg l)->(∀l,d≠.au l)->(h6:∀k p n,d≠.pre k p n:=by simp)->Rd w B v d :=
   fun hv h1 h2 h3 h4 h5 h6=>(bK hv h1 h2 h3 h4 h5 h6).mono hA fun _ _=>rfl
  have cell:∀{v:Value}{F:Nat->Prop}{c y:D},(∀b,F b->B b)->bG w A (aa w ct vl) v F c->aW ob n c=some y->Rd w B v y:=by
   intro v F c y hF hc hy;by_cases ho:∃z,c=.o z
   ·obtain⟨z,rfl⟩:=ho
    cases n with
    | zero=>simp[aW] at hy
    | succ m =>
     simp only[aW,Option.some.injEq] at hy;subst hy;exact qk hA hF hc
   ·have hpl:Pl w A (aa w ct vl) v c:=by
     cases c<;>first | exact hc | exact hc.elim | exact absurd ⟨_,rfl⟩ ho
    exact kN hA hob hok n hpl hy
  cases d
  case pre k p m =>
   simp only[aW] at h;rw[Option.bind_eq_some_iff] at h;obtain⟨c0,hc0,h⟩:=h;obtain⟨hobj,hc1⟩:=rY hc0;cases hv with
   | rd hv=>cases hv
   | ref hv =>
    obtain⟨q,l0,cp,⟨g1,g2⟩,g3,rfl⟩:=hv;have hcto:(ct k).isObj=true:=mh g1.1;obtain⟨F,hF,hc⟩:=hok k hcto hobj;rw[hc1,hob k hcto hobj] at h;clear hc0 hc1;have hr:aa w ct vl (.slice q l0 cp) (.sub k p):=⟨g1,g2,.inl ⟨_,_,_,rfl⟩⟩;rcases j7 hc hr with⟨z,l,hck,rfl,hvl⟩ | ⟨F',hown,hFF,_,hnr⟩
    ·rw[hck] at h;cases h
    ·have hd:∃z l,(ct k).a8 p=.slice z l/\x=.slice z (l.take m):=by
      split at h
      ·rename_i z l hck;exact absurd hck (hnr z l)
      ·split at h
       ·rename_i z l hd
        injection h with h
        exact⟨z,l,hd,h.symm⟩
       ·cases h
     obtain⟨z,l,hd,rfl⟩:=hd;rw[hd] at hown;have hrd:=qk hA (fun b hb=>hF b (hFF b hb)) hown;exact Mi hrd g3
  case sub k p =>
   simp only[aW] at h;have hr:=dh hv;rw[Option.bind_eq_some_iff] at h;obtain⟨c0,hc0,h⟩:=h;obtain⟨hobj,hc1⟩:=rY hc0;have hcto:(ct k).isObj=true:=mh hr.1.1;obtain⟨F,hF,hc⟩:=hok k hcto hobj;rw[hc1,hob k hcto hobj] at h;clear hc0 hc1;rcases j7 hc hr with⟨z,l,hck,rfl,hvl⟩ | ⟨F',hown,hFF,_,hnr⟩
   ·rw[hck] at h hc
    simp only[Option.bind_eq_some_iff] at h;obtain⟨l',hl',h⟩:=h;split at h
    ·rename_i hsz
     injection h with h
     subst h;obtain⟨b,sz,cs,e,h1,h2,h3,h4,h5,h6,h7,h8,h9⟩:=hc;obtain⟨h12,h13⟩:=fG hl';have hszs:=E9 hsz;rw[hvl,h1,<-h12]
     have key:∀j y,cellAt l' sz j=some y->j<cs.size/\Rd w B (cs.getD j undef) y:=by
      intro j y hj;have hlt:=jz h5 hj;rw[h12] at hlt;refine⟨by omega,?_⟩;unfold cellAt at hj;cases hq:l'[j / sz]? with
      | none=>simp[hq] at hj
      | some e' =>
       rw[hq,Option.bind_some] at hj;obtain⟨e0,he0,hge⟩:=h13 _ _ hq
       have hcell:∀(i:Nat)(c:D),e0.cells[i]?=some c->i<sz->cellAt l sz (j / sz*sz+i)=some c:=by
        intro i c hi his;unfold cellAt;have e1:(j / sz*sz+i) / sz=j / sz:=by rw[Nat.mul_comm,Nat.mul_add_div h5,Nat.div_eq_of_lt his];rfl
        have e2:(j / sz*sz+i) % sz=i:=by rw[Nat.mul_comm,Nat.mul_add_mod,Nat.mod_eq_of_lt his]
        rw[e1,e2,he0];exact hi
       have hl0:=h7 e0 (List.mem_of_getElem? he0)
       have hpc:∀c∈e0.cells,c.pc=true:=by
        intro c hcm;obtain⟨i,hi,hci⟩:=List.getElem_of_mem hcm;exact(h8 _ _ (hcell i c (by rw[List.getElem?_eq_getElem hi,hci]) (by omega))).2
       have hmod:=Nat.mod_lt j h5;have hdm:j / sz*sz+j % sz=j:=by rw[Nat.mul_comm];exact Nat.div_add_mod j sz
       cases n with
       | zero=>simp[aW] at hge
       | succ n =>
        by_cases ha:e0.isAgg=true
        ·cases e0<;>simp[D.isAgg] at ha
         rename_i l0;simp only[aW,Option.bind_eq_some_iff] at hge;obtain⟨l1,h14,h15⟩:=hge;injection h15 with h15
         subst h15;obtain⟨c,h16,h17⟩:=(fG h14).2 _ _ hj;have:=(h8 _ _ (hcell _ c h16 hmod)).1;rw[hdm] at this;exact kN hA hob hok n this h17
        ·have ha':e0.isAgg=false:=by simpa using ha
         obtain⟨c,m,h14,h15⟩:=Hm hge (by rw[hszs e' (List.mem_of_getElem? hq),h6,hl0]) hpc _ _ hj;rw[D.cells_one ha'] at h14 hl0;simp only[List.length_cons,List.length_nil,Nat.zero_add] at hl0;have hj0:j % sz=0:=by omega
         rw[hj0] at h14 hj;simp only[List.getElem?_cons_zero,Option.some.injEq] at h14;subst h14;have hc1:=(h8 _ _ (hcell 0 e0 (by rw[D.cells_one ha'];rfl) (by omega))).1;rw[<-hj0,hdm] at hc1;have:=kN hA hob hok (n+1) hc1 hge;have hlen:=hszs e' (List.mem_of_getElem? hq);rw[h6,<-hl0] at hlen;rw[D.cells_one (AW hge (hpc e0 (by rw[D.cells_one ha'];simp)))] at hj;simp at hj;rw[<-hj];exact this
     refine .slice (hF _ h9) (Nat.le_refl _) (by rw[h12];exact h4) h5 h6 (fun x hx=>by rw[hszs x hx,h6]) (fun j=>cs.getD j undef) (fun j y hj=>?_) (fun j y hj=>(key j y hj).2);rw[Nat.zero_add];exact cN h2 (key j y hj).1
    ·cases h
   ·have h':(if((ct k).a8 p).isAgg=true then none else some ((ct k).a8 p))=some x:=by
     revert h;cases hck:ct k<;>first | exact id | exact absurd hck (hnr _ _)
    split at h'
    ·cases h'
    ·injection h' with h'
     subst h';exact qk hA (fun b hb=>hF b (hFF b hb)) hown
  case aq k p =>
   simp only[aW] at h;have hr:=eP hv;rw[Option.bind_eq_some_iff] at h;obtain⟨c0,hc0,h⟩:=h;obtain⟨hobj,hc1⟩:=rY hc0;have hcto:(ct k).isObj=true:=mh hr.1;obtain⟨F,hF,hc⟩:=hok k hcto hobj;rw[hc1,hob k hcto hobj] at h;clear hc0 hc1;split at h
   ·rename_i l s off hck
    rw[hck] at hc;rw[Option.bind_eq_some_iff] at h;obtain⟨l',hl',h⟩:=h;injection h with h
    subst h;obtain⟨_,b,cs,e,Fs,h1,h2,h3,h4,h5,h6,h7⟩:=hc;obtain⟨_,ad,h8,h9⟩:=hr;rw[hck,h1] at h8;simp only[ay,cT,D.un,da,Option.some.injEq,Nat.zero_add] at h8;subst h8;rw[h9];obtain⟨h12,h13⟩:=fG hl';refine .ptr (hF b h5) (fun j=>cs.getD (off+j) undef) (fun j y hj=>?_) (fun j y hj=>?_)
    ·rw[List.getElem?_drop] at hj
     have:=(List.getElem?_eq_some_iff.1 hj).1;exact cN h2 (by omega)
    ·rw[List.getElem?_drop] at hj
     obtain⟨c,hc1,hc2⟩:=h13 _ _ hj;exact cell (fun b hb=>hF b (h6 _ b hb).2) (h4 _ _ hc1) hc2
   ·rename_i l s off hck
    rw[hck] at hc;injection h with h
    subst h
    obtain⟨b,cs,e,Fs,h1,h2,h3,h4,h5,h6⟩:∃(b:Nat)(cs:Array Value)(e:TypeId)(Fs:Nat->Nat->Prop),vl k=.pointer (some ⟨b,0,none⟩)/\w.heap[b]?=some (.cells cs e (0,0))/\cs.size=l.length/\(∀j x,l[j]?=some x->af w A (cs.getD j undef) x (Fs j))/\F b/\∀j c,Fs j c->F c:=by
     have hc:af w A (vl k) (.ptr l) F:=hc;generalize vl k=u at hc;cases hc with
     | ptr Fs hb hs hr hF hfs _=>exact⟨_,_,_,Fs,rfl,hb,hs,hr,hF,fun j c h=>(hfs j c h).2⟩
    obtain⟨_,ad,h8,h9⟩:=hr;rw[hck,h1] at h8;simp only[ay,cT,D.un,da,Option.some.injEq,Nat.zero_add] at h8;subst h8;rw[h9];refine .ptr (hF b h5) (fun j=>cs.getD (off+j) undef) (fun j y hj=>?_) (fun j y hj=>?_)
    ·rw[List.getElem?_drop] at hj
     have:=(List.getElem?_eq_some_iff.1 hj).1;exact cN h2 (by omega)
    ·rw[List.getElem?_drop] at hj
     exact qk hA (fun b hb=>hF b (h6 _ b hb)) (h4 _ _ hj)
   ·rename_i l s1 off s2 o2 hck
    rw[hck] at hc;obtain⟨l2,hl2,rfl⟩:=CP h;obtain⟨_,b,cs,e,Fs,h1,h2,h3,h4,h5,h6,h7⟩:=hc
    have hlt:off<l.length:=Classical.byContradiction fun hh=>by
     rw[List.getD_eq_getElem?_getD,List.getElem?_eq_none (by omega)] at hl2;cases hl2
    have hget:l[off]?=some (.o (.ptr l2)):=by
     rw[List.getElem?_eq_getElem hlt];rw[List.getD_eq_getElem?_getD,List.getElem?_eq_getElem hlt] at hl2;simpa using hl2
    have hown:af w A (cs.getD off undef) (.ptr l2) (Fs off):=h4 off _ hget;obtain⟨_,ad,h8,h9⟩:=hr;rw[hck,h1] at h8
    have hkv:bU w (.pointer (some ⟨b,0,none⟩)) (.box l) s1 off=some (cs.getD off undef):=by
     show w.cell? ⟨b,0+off,none⟩=_;rw[Nat.zero_add];exact cN h2 (by omega)
    have hk:D.aS (.box l) s1 off=.o (.ptr l2):=hl2;rw[ay,hkv,Option.bind_some,hk] at h8
    ·obtain⟨b',cs',e',Fs',g1,g2,g3,g4,g5,g6⟩:∃(b':Nat)(cs':Array Value)(e':TypeId)(Fs':Nat->Nat->Prop),cs.getD off undef=.pointer (some ⟨b',0,none⟩)/\w.heap[b']?=some (.cells cs' e' (0,0))/\cs'.size=l2.length/\(∀j x,l2[j]?=some x->af w A (cs'.getD j undef) x (Fs' j))/\Fs off b'/\∀j c,Fs' j c->Fs off c:=by
      generalize cs.getD off undef=u at hown;cases hown with
      | ptr Fs hb hs hr hF hfs _=>exact⟨_,_,_,Fs,rfl,hb,hs,hr,hF,fun j c h=>(hfs j c h).2⟩
     rw[g1] at h8;simp only[ay,cT,D.un,da,Option.some.injEq,Nat.zero_add] at h8;subst h8;rw[h9];have hFo:∀c,Fs off c->B c:=fun c hc=>hF c (h6 _ c hc).2
     refine .ptr (hFo b' g5) (fun j=>cs'.getD (o2+j) undef) (fun j y hj=>?_) (fun j y hj=>?_)
     ·rw[List.getElem?_drop] at hj
      have:=(List.getElem?_eq_some_iff.1 hj).1;exact cN g2 (by omega)
     ·rw[List.getElem?_drop] at hj
      exact qk hA (fun b hb=>hFo b (g6 _ b hb)) (g4 _ _ hj)
    ·simp
   ·cases h
  case agg l =>
   simp only[aW,Option.bind_eq_some_iff] at h;obtain⟨l',hl',h⟩:=h;injection h with h
   subst h;obtain⟨cs,rfl,h1,h2⟩:=j0 hv;obtain⟨h3,h4⟩:=fG hl'
   exact .agg (by rw[h1,h3]) fun j y hj=>by
    obtain⟨c,hc1,hc2⟩:=h4 j y hj;exact kN hA hob hok n (h2 j c hc1) hc2
  case fn f caps =>
   simp only[aW,Option.bind_eq_some_iff] at h;obtain⟨l',hl',h⟩:=h;injection h with h
   subst h;obtain⟨cs,rfl,h1,h2⟩:=lu hv;obtain⟨h3,h4⟩:=fG hl'
   exact .fn (by rw[h1,h3]) fun j y hj=>by
    obtain⟨c,hc1,hc2⟩:=h4 j y hj;exact kN hA hob hok n (h2 j c hc1) hc2
  case aM z =>
   simp only[aW,Option.some.injEq] at h;subst h;exact(wA hv rfl).mono hA fun _ _=>rfl
  case o y =>
   simp only[aW,Option.some.injEq] at h;subst h;have:=bK hv (by simp) (by simp) (by simp) (by simp) (by simp);cases this with
   | o h=>exact h.mono hA fun _ _=>rfl
  all_goals simp only[aW,Option.some.injEq,reduceCtorEq] at h
  all_goals
   subst h;exact same hv (by simp) (by simp) (by simp) (by simp) (by simp)
theorem AX(hA:∀b,A b->live w b)(hob:∀j,(ct j).isObj=true->ob j=ct j)(hok:∀j,∃F,(∀b,F b->live w b)/\az w A (aa w ct vl) (vl j) F (ct j))(n:Nat){v:Value}{d x:D}(h:Pl w A (aa w ct vl) v d)(hg:aW ob n d=some x):Rd w (live w) v x :=
 kN hA (fun j h _=>hob j h) (fun j _ _=>hok j) n h hg
theorem JV{v:Value}{d:D}(h:aa w ct vl v d)(hd:d.refs cz):False:=by
 cases d<;>first | exact h.elim | exact hd.elim
theorem l5{v:Value}{d:D}(h:Pl w A (aa w ct vl) v d)(hd:d.refs cz):Rd w A v d:=by
 induction h with
 | rd h=>exact h
 | ref h=>exact(JV h hd).elim
 | agg hs _ ih=>exact .agg hs fun j x hx=>ih j x hx (bf.1 hd x (List.mem_of_getElem? hx))
 | au hs _ ih=>exact .au hs fun j x hx=>ih j x hx (bf.1 hd x (List.mem_of_getElem? hx))
 | fn hs _ ih=>exact .fn hs fun j x hx=>ih j x hx (bf.1 hd x (List.mem_of_getElem? hx))
theorem rI:∀(n:Nat){v:Value}{d x:D},Pl w A (aa w ct vl) v d->d.refs cz->aW ob n d=some x->Rd w A v x
 | 0,v,d,x,_,_,h=>by simp[aW] at h
 | n+1,v,d,x,hv,hd,h=>by
  cases d
  case sub k p=>exact hd.elim
  case aq k p=>exact hd.elim
  case pre k p m=>exact hd.elim
  case agg l =>
   simp only[aW,Option.bind_eq_some_iff] at h;obtain⟨l',hl',h⟩:=h;injection h with h
   subst h;obtain⟨cs,rfl,h1,h2⟩:=j0 hv;obtain⟨h3,h4⟩:=fG hl'
   exact .agg (by rw[h1,h3]) fun j y hj=>by
    obtain⟨c,hc1,hc2⟩:=h4 j y hj;exact rI n (h2 j c hc1) (bf.1 hd c (List.mem_of_getElem? hc1)) hc2
  case fn f caps =>
   simp only[aW,Option.bind_eq_some_iff] at h;obtain⟨l',hl',h⟩:=h;injection h with h
   subst h;obtain⟨cs,rfl,h1,h2⟩:=lu hv;obtain⟨h3,h4⟩:=fG hl'
   exact .fn (by rw[h1,h3]) fun j y hj=>by
    obtain⟨c,hc1,hc2⟩:=h4 j y hj;exact rI n (h2 j c hc1) (bf.1 hd c (List.mem_of_getElem? hc1)) hc2
  case aM z =>
   simp only[aW,Option.some.injEq] at h;subst h;exact wA hv rfl
  case o y =>
   simp only[aW,Option.some.injEq] at h;subst h;have:=bK hv (by simp) (by simp) (by simp) (by simp) (by simp);cases this with
   | o h=>exact h
  all_goals simp only[aW,Option.some.injEq,reduceCtorEq] at h
  all_goals
   subst h;exact bK hv (by simp) (by simp) (by simp) (by simp) (by simp)
theorem ra{A':Nat->Prop}:∀{xs:List Operand}{ys:List X}{dts:List D},dH ds tr xs ys=true->(∀y,y∈ys->∀x,aA ds tr x y=true->bL w A (aa w ct vl) (a.eval x) (rd y)) ->
  (∀y,y∈ys->∀{v:Value}{x:D},Pl w A (aa w ct vl) v (rd y).core->aW ob 4 (rd y).core=some x->Rd w A' v x) ->
  fT ob rd ys=some dts->cW rd ys=true->xs.length=dts.length/\∀(j:Nat)(d:D),dts[j]?=some d->Rd w A' ((xs.map a.eval).getD j undef) d
 | [],[],dts,_,_,_,hd,_=>by simp[fT] at hd;subst hd;simp
 | [],_::_,_,h,_,_,_,_=>by simp[dH] at h
 | _::_,[],_,h,_,_,_,_=>by simp[dH] at h
 | x::xs,y::ys,dts,hx,hr,hg,hd,hgt=>by
  simp only[dH,Bool.and_eq_true] at hx;simp only[fT,Option.bind_eq_some_iff] at hd;obtain⟨d0,hd0,l,hl,hd⟩:=hd;injection hd with hd
  subst hd;simp only[cW,Bool.and_eq_true] at hgt;obtain⟨h1,h2⟩:=ra hx.2 (fun y hy=>hr y (by simp[hy])) (fun y hy=>hg y (by simp[hy])) hl hgt.2;have h3:=hg y (by simp) ((hr y (by simp) x hx.1).1 hgt.1) hd0;refine⟨by simp[h1],fun j d hj=>?_⟩;cases j with
  | zero=>simp at hj;subst hj;simpa using h3
  | succ j=>simpa using h2 j d (by simpa using hj)
theorem uv{f:FuncId}{xs:List Operand}{ts:Array TypeId}(ho:o.op=.call { callee:=.value (.func f),args:=xs.toArray,argTypes:=ts })(hb:fy P f=true) :
  (execOp a.eval o).run P w=.ok (.enter f (xs.map a.eval).toArray) w:=by
 unfold fy at hb;cases hf:P.funcs[f]? with
 | none=>simp[hf] at hb
 | some fn =>
  simp[hf] at hb;obtain⟨h1,h2⟩:=hb;cases hbody:fn.body with
  | none=>simp[hbody] at h1
  | some c=>simp[execOp,ho,resolve,Act.eval,Deferred.ofValue,invoke,callFunc,hf,h2,hbody]
theorem kG{R:Value->D->Prop}{v:Value}{d:D}{F:Nat->Prop}(h:af w A v d F):az w A R v F (aJ d)/\((aJ d).isObj=false->az w A R v (fun _=>False) (aJ d)):=by
 have rd:∀{d:D},af w A v d F->(∀{A':Nat->Prop}{F':Nat->Prop},af w A v d F')->Rd w A v d:=fun _ h=>(h (A':=A) (F':=fun _=>False)).rd (fun _ h=>h) fun _ h=>h.elim
 cases h with
 | int h=>exact⟨.rd (.int h),fun _=>.rd (.int h)⟩
 | bool=>exact⟨.rd .bool,fun _=>.rd .bool⟩
 | str h=>exact⟨.rd (.str h),fun _=>.rd (.str h)⟩
 | nil=>exact⟨.nil,fun h=>by cases h⟩
 | aF=>exact⟨.rd .aF,fun _=>.rd .aF⟩
 | fn=>exact⟨.rd (.fn rfl (fun j x hx=>by simp at hx)),fun _=>.rd (.fn rfl (fun j x hx=>by simp at hx))⟩
 | @vw v d F h =>
  cases d
  case slice z l=>exact⟨Pl.rd h,fun _=>Pl.rd h⟩
  case ptr l=>exact⟨Pl.rd h,fun _=>Pl.rd h⟩
  case agg l=>exact⟨Pl.rd h,fun _=>Pl.rd h⟩
  case fn f l=>exact⟨Pl.rd h,fun _=>Pl.rd h⟩
  case mp ks vs=>exact⟨Pl.rd h,fun _=>Pl.rd h⟩
  case au l=>exact⟨Pl.rd h,fun _=>Pl.rd h⟩
  all_goals exact⟨Pl.dead,fun _=>Pl.dead⟩
 | dead=>exact⟨Pl.dead,fun _=>Pl.dead⟩
 | mp hF hb hE=>exact⟨.mp hF hb hE,fun h=>by cases h⟩
 | bw=>exact⟨.rd .bw,fun _=>.rd .bw⟩
 | bq h=>exact⟨Pl.rd (.bq h),fun _=>Pl.rd (.bq h)⟩
 | bl=>exact⟨.rd .bl,fun _=>.rd .bl⟩
 | bE hF hb hs=>exact⟨.bE hF hb hs,fun h=>by cases h⟩
 | slice Fs hb hroom hc hm hz hzz hsz hr hF hfs hdis=>exact⟨.slice Fs hb hroom hc hm hz hzz hsz hr hF hfs hdis,fun h=>by cases h⟩
 | agg Fs hs hr hfs hdis=>exact⟨.agg Fs hs hr hfs hdis,fun h=>by cases h⟩
 | au Fs hs hr hfs hdis=>exact⟨.au Fs hs hr hfs hdis,fun h=>by cases h⟩
 | ptr Fs hb hs hr hF hfs hdis=>exact⟨.ptr Fs hb hs hr hF hfs hdis,fun h=>by cases h⟩
theorem zW[Mode]{cx:Ctx}{fp:Nat->Nat->Prop}{G:Nat->Prop}{Q:Exit->Act->World->Prop}(h:Hp cx ct vl fp G w){f:FuncId}{xs:List X}(hk:aQ P ds tr o (.call f xs)=true)
  (hx:∀y,y∈xs->∀x,aA ds tr x y=true->bL w (ae cx fp G w) (aa w ct vl) (a.eval x) (rd y)) (hob:∀j,(ct j).isObj=true->ob j=ct j)
  {dts:List D} (hd:fT ob rd xs=some dts) (hgt:cW rd xs=true) {res:D} (hR:aD P f (dts.map .v) res) (hn:res.bp=true\/iy rd xs) (g:Option Bool) (hg:g≠some false) {cr:D} (hcr:uu g res cr) {K:Act->World->Prop}
  (hK:∀(v:Value)(w':World)(F:Nat->Prop),Ext w w'->(∀b,F b->w.heap.size<=b/\b<w'.heap.size)->az w' (gu (ae cx fp G w) w w' F) (aa w ct vl) v F cr->(cr.isObj=false->∀b,¬F b)->K (a.put o.dst v) w') :
  o.wp P a w K Q:=by
 simp only[aQ] at hk;split at hk<;>try(cases hk;done)
 rename_i f' as hop;obtain⟨ts,ho⟩:=vT hop;simp only[Bool.and_eq_true,beq_iff_eq] at hk;obtain⟨⟨rfl,hk1⟩,hk2⟩:=hk;have hlive:∀b,ae cx fp G w b->live w b:=fun b hb=>hb.1.1
 have hok:∀j,∃F,(∀b,F b->live w b)/\az w (ae cx fp G w) (aa w ct vl) (vl j) F (ct j):=fun j=>⟨fp j,fun b hb=>(h.lt j b hb).1,h.ok j⟩
 obtain⟨A',hAg,hA',hAr,hAs⟩:∃A':Nat->Prop,ck w A'/\(∀b,A' b->live w b)/\((as.length=dts.length/\∀(j:Nat)(d:D),dts[j]?=some d->Rd w A' ((as.map a.eval).getD j undef) d))/\(res.bp=true\/∀b,A' b->ae cx fp G w b):=by
  rcases hn with hn | hn
  ·exact⟨live w,h.gl.mono hlive (fun _ _=>rfl),fun _ h=>h,ra hk1 hx (fun y _ v x hv hg=>AX hlive hob hok 4 hv hg) hd hgt,.inl hn⟩
  ·have hpl:∀y,y∈xs->(rd y).core.refs cz:=by
    clear hd hgt hx hk1;induction xs with
    | nil=>intro y hy;cases hy
    | cons z r ih =>
     intro y hy;rcases List.mem_cons.1 hy with rfl | hy
     ·exact hn.1
     ·exact ih hn.2 y hy
   exact⟨ae cx fp G w,h.gl,hlive,ra hk1 hx (fun y hy v x hv hg=>rI 4 hv (hpl y hy) hg) hd hgt,.inr fun _ h=>h⟩
 unfold Oper.wp;rw[uv ho hk2,Oper.upon_enter];refine(hR w A' _ (fun _ _=>False) hAg hA' (by simp[hAr.1]) (fun j x hj=>?_) (fun _ _ _ _ h=>h.elim) (fun _ _ h=>h.elim)).mono ?_
 ·rw[List.getElem?_map,Option.map_eq_some_iff] at hj
  obtain⟨d,hj,rfl⟩:=hj;refine⟨?_,fun _ h=>h⟩;have:=hAr.2 j d hj;simpa using this
 ·rintro e w' ⟨v,F,Fs',rfl,hsz,hown,hpost,hF,hFs',_,hsame,hos,htape,hout⟩
  have hFs0:∀j b,¬Fs' j b:=by
   intro j b hb;have hj:=(hFs' j b hb).2.2;rw[List.length_map] at hj;exact hpost j (.v dts[j]) (by rw[List.getElem?_map,List.getElem?_eq_getElem hj];rfl) b hb
  have hext:Ext w w':=⟨hsz,fun b hb=>hsame b hb (fun _ h=>h),hos,htape,hout⟩;have hFn:∀b,F b->w.heap.size<=b/\b<w'.heap.size:=fun b hb=>⟨(hF b hb).2.1.resolve_right fun⟨_,h⟩=>h,(hF b hb).1⟩
  have hown':af w' (gu (ae cx fp G w) w w' F) v res F:=by
   rcases hAs with hn | hn
   ·exact pY hown hn
   ·exact hown.mono (fun b hb=>hb.imp (hn b) fun hh=>⟨hh.1,hh.2.1,hh.2.2.1⟩) (fun _ _=>rfl) (fun _ _=>rfl) fun _ h=>h
  cases g with
  | none =>
   rcases hcr with rfl | rfl
   ·obtain⟨h1,h2⟩:=kG (R:=aa w ct vl) hown'
    by_cases ho:(aJ res).isObj=true
    ·exact hK v w' F hext hFn h1 (fun hh=>by rw[ho] at hh;cases hh)
    ·have ho':(aJ res).isObj=false:=by simpa using ho
     refine hK v w' (fun _=>False) hext (fun _ h=>h.elim) ?_ (fun _ _ h=>h);exact(h2 ho').mono (Q:=fun _=>True) (fun b hb=>hb.imp id fun hh=>⟨hh.1,hh.2.1,fun h=>h⟩) (fun _ _=>rfl) (fun _ _=>rfl) (fun _ h=>h) (aV (fun _=>trivial) _) fun v d _ hr=>hr
   ·have hrd:Rd w' (gu (ae cx fp G w) w w' fun _=>False) v res :=
     hown'.rd (fun b hb=>hb.imp id fun hh=>⟨hh.1,hh.2.1,fun h=>h⟩) fun b hb=>.inr ⟨(hFn b hb).1,(hFn b hb).2,fun h=>h⟩
    have ho':(aJ (.vw res)).isObj=false:=by cases res<;>rfl
    exact hK v w' (fun _=>False) hext (fun _ h=>h.elim) ((kG (R:=aa w ct vl) (af.vw (F:=fun _=>False) hrd)).2 ho') (fun _ _ h=>h)
  | some b =>
   have hrd:Rd w' (gu (ae cx fp G w) w w' fun _=>False) v res :=
    hown'.rd (fun b hb=>hb.imp id fun hh=>⟨hh.1,hh.2.1,fun h=>h⟩) fun b hb=>.inr ⟨(hFn b hb).1,(hFn b hb).2,fun h=>h⟩
   rcases hcr with rfl | rfl
   ·exact hK v w' (fun _=>False) hext (fun _ h=>h.elim) ⟨fun _=>.rd hrd,fun hh=>by subst hh;exact absurd rfl hg⟩ (fun _ _ h=>h)
   ·exact hK v w' (fun _=>False) hext (fun _ h=>h.elim) ⟨fun _=>.rd (Me hrd),fun hh=>by subst hh;exact absurd rfl hg⟩ (fun _ _ h=>h)
end
end Go.D3
