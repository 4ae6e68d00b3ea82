/- FUNCTIONS: from a text's condition to a contract. Generic. -/
import Derived.Test.YtaknpcdnmecblaaHE
namespace Go.D3
open Go
section
variable{P:Program}{cx:Ctx}{nt:Nat}{tr pre:List Nat}{ds:List (Option Nat)}{w:World}{Q:Exit->Act->World->Prop}
theorem pW:∀{l:List Nat},so l=true->∀(i j t:Nat),l[i]?=some t->l[j]?=some t->i=j
 | [],_,i,j,t,h,_=>by simp at h
 | d::r,h,i,j,t,hi,hj=>by
  simp only[so,Bool.and_eq_true,Bool.not_eq_true',List.contains_eq_mem,decide_eq_false_iff_not] at h;cases i with
  | zero=>cases j with
   | zero=>rfl
   | succ j=>simp at hi hj;subst hi;exact absurd (List.mem_of_getElem? hj) h.1
  | succ i=>cases j with
   | zero=>simp at hi hj;subst hj;exact absurd (List.mem_of_getElem? hi) h.1
   | succ j=>simp at hi hj;rw[pW h.2 i j t hi hj]
theorem vE:∀{l:List (Option Nat)},pX l=true->∀(i j t:Nat),l[i]?=some (some t)->l[j]?=some (some t)->i=j
 | [],_,i,j,t,h,_=>by simp at h
 | none::r,h,i,j,t,hi,hj=>by
  cases i with
  | zero=>simp at hi
  | succ i=>cases j with
   | zero=>simp at hj
   | succ j=>simp at hi hj;rw[vE (l:=r) h i j t hi hj]
 | some d::r,h,i,j,t,hi,hj=>by
  simp only[pX,Bool.and_eq_true,Bool.not_eq_true',List.contains_eq_mem,decide_eq_false_iff_not] at h;cases i with
  | zero=>cases j with
   | zero=>rfl
   | succ j=>simp at hi hj;subst hi;exact absurd (List.mem_of_getElem? hj) h.1
  | succ i=>cases j with
   | zero=>simp at hi hj;subst hj;exact absurd (List.mem_of_getElem? hi) h.1
   | succ j=>simp at hi hj;rw[vE h.2 i j t hi hj]
theorem tZ:∀{l:List (Option Nat)},o8 tr pre l=true->∀(i t:Nat),l[i]?=some (some t)->∀(j:Nat),tr[j]?=some t->pre.contains j=true
 | [],_,i,t,h,_,_=>by simp at h
 | none::r,h,i,t,hi,j,hj=>by
  cases i with
  | zero=>simp at hi
  | succ i=>simp at hi;exact tZ (l:=r) h i t hi j hj
 | some d::r,h,i,t,hi,j,hj=>by
  simp only[o8,Bool.and_eq_true,List.all_eq_true] at h;cases i with
  | zero =>
   simp at hi;subst hi;have:=h.1 (d,j) (List.mem_zipIdx_iff_getElem?.2 hj);simpa using this
  | succ i=>simp at hi;exact tZ h.2 i t hi j hj
theorem sN:∀{post:List (Nat×Nat)},sM ds tr pre post=true->(∀p∈post,∃t,tr[p.1]?=some t/\ds[p.2]?=some (some t))/\(post.map (·.1)).Nodup
 | [],_=>⟨(fun p hp=>absurd hp (by simp)),List.nodup_nil⟩
 | (j,i)::r,h=>by
  simp only[sM,Bool.and_eq_true,Bool.not_eq_true',List.contains_eq_mem,decide_eq_false_iff_not] at h;obtain⟨⟨⟨_,h1⟩,h2⟩,h3⟩:=h;obtain⟨k1,k2⟩:=sN h3;refine⟨fun p hp=>?_,by simp only[List.map_cons,List.nodup_cons];exact⟨h2,k2⟩⟩;rcases List.mem_cons.1 hp with rfl | hp
  ·split at h1<;>try(cases h1;done)
   rename_i t d e1 e2;simp only[beq_iff_eq] at h1;subst h1;exact⟨_,e1,e2⟩
  ·exact k1 p hp
theorem AY[Mode]{ops:Array Oper}{st:St}{a:Act}{i t:Nat}{want b:Bool}(h:Fm cx nt tr pre ds st a w)(hi:i<st.n)(hds:ds[i]?=some (some t))(hj:(ops[i]?).bind (·.dst)=some t)(hg:gd (st.rd (.t i)) want=some b) :
  (yielded ops a.tmps i == some want)=b:=by
 obtain⟨vl,fp,G,hp,_,htm,_⟩:=h.ex
 have he:bL w (ae cx fp G w) (aa w st.cont vl) (a.tmps.getD t undef) (st.rd (.t i)):=by
  rw[htm i t hi hds];exact jY (hp.ok _)
 have hy:yielded ops a.tmps i=match a.tmps.getD t undef with | .bool b=>some b | _=>none:=by
  unfold yielded;rw[hj,Option.bind_some];by_cases ht:t<a.tmps.size
  ·rw[getD_some ht]
   cases a.tmps.getD t undef<;>rfl
  ·have h1:a.tmps[t]?=none:=by simp;omega
   have h2:a.tmps.getD t undef=undef:=by simp[h1]
   rw[h1,h2];rfl
 unfold gd at hg;rw[Option.bind_eq_some_iff] at hg;obtain⟨c,hc,hg⟩:=hg;injection hg with hg
 rw[hy];generalize st.rd (.t i)=d at he hc hg;cases hgt:d.gate with
 | false =>
  rw[he.2 hgt];rw[hgt] at hg;simp at hg;subst hg;rfl
 | true =>
  have h1:=he.1 hgt
  have hcore:d.core=.bool c:=by
   revert hc;cases d.core<;>simp[D.bool?]
  rw[hcore] at h1;rw[pl_bool h1];rw[hgt] at hg;cases want<;>cases c<;>simp at hg<;>subst hg<;>rfl
theorem qu:∀{l:List Oper}{sl:List aO}{i t:Nat},(bx l sl)[i]?=some (some t)->(l[i]?).bind (·.dst)=some t
 | [],_,i,t,h=>by simp[bx] at h
 | _::_,[],i,t,h=>by simp[bx] at h
 | o::l,s::r,0,t,h=>by
  simp only[bx,List.getElem?_cons_zero,Option.some.injEq] at h;simp only[List.getElem?_cons_zero,Option.bind_some];unfold eD at h;split at h
  ·cases h
  ·exact h
 | o::l,s::r,i+1,t,h=>by
  simp only[bx,List.getElem?_cons_succ] at h|-
  exact qu h
theorem wv[Mode]{ops:Array Oper}(hS:gQ nt tr pre ds)(hdst:∀(i t:Nat),ds[i]?=some (some t)->(ops[i]?).bind (·.dst)=some t):∀(l:List Oper)(sl:List aO)(n:Nat){K:St->Prop}{st:St}{a:Act}{w:World},
  ops.toList.drop n=l->iQ P nt ds tr n l sl=true->(∀s∈sl,qf pre s=true)->bx l sl=ds.drop n->st.n=n->Fm cx nt tr pre ds st a w->bA P K sl st ->
  (∀a w st,K st->st.n=n+l.length->Fm cx nt tr pre ds st a w->Q .normal a w)->wpOps P ops Q (List.range' n l.length) a w
 | [],sl,n,K,st,a,w,hl,hf,hpre,hds,hn,h,hv,hQ=>by
  cases sl with
  | nil=>exact hQ a w st hv (by simpa using hn) h
  | cons _ _=>simp[iQ] at hf
 | o::l,[],n,K,st,a,w,hl,hf,hpre,hds,hn,h,hv,hQ=>by simp[iQ] at hf
 | o::l,s::sl,n,K,st,a,w,hl,hf,hpre,hds,hn,h,hv,hQ=>by
  subst hn;simp only[iQ,Bool.and_eq_true] at hf;obtain⟨⟨⟨⟨⟨hf1,hf2⟩,hf3⟩,hf4⟩,hf5⟩,hf⟩:=hf
  have hon:ops[st.n]?=some o:=by
   have:(ops.toList.drop st.n)[0]?=some o:=by rw[hl];rfl
   rw[List.getElem?_drop] at this;simpa using this
  have hl':ops.toList.drop (st.n+1)=l:=by
   rw[<-List.tail_drop,hl];rfl
  have hd:ds[st.n]?=some (eD o s):=by
   have:(ds.drop st.n)[0]?=some (eD o s):=by rw[<-hds];rfl
   rw[List.getElem?_drop] at this;simpa using this
  have hds':bx l sl=ds.drop (st.n+1):=by
   rw[<-List.tail_drop,<-hds];rfl
  have hlt:∀t,o.dst=some t->t<nt:=fun t ht=>by rw[ht] at hf1;simpa using hf1
  have hp:=hpre s (by simp);simp only[qf,Bool.and_eq_true,List.all_eq_true] at hp
  have hasg:∀j,s.k.cA=some j->o.dst=tr[j]?/\j<tr.length/\pre.contains j=false:=fun j hj=>by
   rw[hj] at hf2 hp;simp only[Bool.and_eq_true,decide_eq_true_eq] at hf2;exact⟨hf2.1.1,hf2.1.2,by simpa using hp.1⟩
  have hreads:∀i,i∈s.k.reads->i<st.n:=fun i hi=>by simpa using(List.all_eq_true.1 hf5) i hi
  have hxs:∀j,X.v j∈s.k.xs->pre.contains j=false:=fun j hj=>by simpa using hp.2 _ hj
  have ih:∀a' w',(∃st',bA P K sl st'/\Fm cx nt tr pre ds st' a' w'/\st'.n=st.n+1)->wpOps P ops Q (List.range' (st.n+1) l.length) a' w':=fun a' w' ⟨st',h1,h2,h3⟩ =>
   wv hS hdst l sl (st.n+1) hl' hf (fun s hs=>hpre s (by simp[hs])) hds' h3 h2 h1 fun a w st hK hn' hF=>hQ a w st hK (by simp only[List.length_cons];omega) hF
  simp only[List.length_cons,List.range'_succ,wpOps,hon];obtain⟨g0,k⟩:=s;cases hog:o.guard with
  | none =>
   cases g0 with
   | some _=>rw[hog] at hf3;cases hf3
   | none =>
    have hw:Region.wanted o (yielded ops a.tmps)=true:=by simp[Region.wanted,hog]
    rw[if_pos hw];exact .inl (Oper.wp_mono ih (qi hS h (g:=none) (by simp) hf4 hd hasg hlt hreads hxs hv))
  | some gg =>
   obtain⟨j,want⟩:=gg;cases g0 with
   | none=>rw[hog] at hf3;cases hf3
   | some g1 =>
    obtain⟨i,want'⟩:=g1;rw[hog] at hf3;simp only[Bool.and_eq_true,beq_iff_eq,decide_eq_true_eq] at hf3;obtain⟨⟨⟨rfl,rfl⟩,hjn⟩,hj2⟩:=hf3
    have hjd:∃t,ds[j]?=some (some t):=by
     split at hj2
     ·exact⟨_,by assumption⟩
     ·cases hj2
    obtain⟨t,hjd⟩:=hjd
    have hna:k.cA=none:=by
     cases hk:k.cA with
     | none=>rfl
     | some j'=>simp[hk] at hf2
    simp only[bA,ib] at hv;split at hv
    ·rename_i b hgd
     have hwb:Region.wanted o (yielded ops a.tmps)=b:=by
      simp only[Region.wanted,hog];exact AY h hjn hjd (hdst j t hjd) hgd
     cases b with
     | true =>
      rw[if_pos hwb];exact .inl (Oper.wp_mono ih (qi hS h (g:=some true) (by simp) hf4 hd hasg hlt hreads hxs hv))
     | false =>
      rw[if_neg (by rw[hwb];simp)];exact ih _ _ (E3 hS h hd hna hlt hv)
    ·exact hv.elim
end
end Go.D3
namespace Go.D3
open Go
def mP(ct:Nat->D):X->D
 | .t i=>bB (1000+i) (ct (1000+i))
 | .v j=>bB j (ct j)
 | .i n=>.int .i64 n
 | .k d=>d
 | .g n=>(gl n).getD .dead
theorem Mb(st:St)(x:X):mP st.cont x=st.rd x:=by cases x<;>rfl
def iG[Mode](P:Program)(k:Kp)(g:Option Bool)(rd:X->D)(ob:Nat->D)(c:D):Prop :=
 match k with
 | .call f xs=>∃ds res,fT ob rd xs=some ds/\ji g (cW rd xs=true/\aD P f (ds.map .v) res/\(res.bp=true\/iy rd xs))/\uu g res c
 | .fB f xs=>g=none/\cW rd xs=true/\lT P f ob (dL rd xs) c
 | .box n x=>g=none/\∃side,bJ (.box n x) rd=some (side,c)/\side
 | .eK n x=>g=none/\∃side,bJ (.eK n x) rd=some (side,c)/\side
 | .dO zs=>g=none/\∃side,bJ (.dO zs) rd=some (side,c)/\side
 | .al z b l u=>g=none/\∃side,bJ (.al z b l u) rd=some (side,c)/\side
 | .fk=>g=none/\∃side,bJ .fk rd=some (side,c)/\side
 | .fq x=>g=none/\∃side,bJ (.fq x) rd=some (side,c)/\side
 | .fg x=>g=none/\∃side,bJ (.fg x) rd=some (side,c)/\side
 | .dP z n ps=>g=none/\∃side,bJ (.dP z n ps) rd=some (side,c)/\side
 | k=>(∃side res,bn k rd ob=some (side,res)/\ji g side/\res.bC=true/\c=ni g res)\/(g=some false/\c=.when false (.bool false))
theorem L6{r:Option PR}{g:Option Bool}{K:St->Prop}{st:St}(h:fJ r g K st):∃c,((∃side res,r=some (side,res)/\ji g side/\res.bC=true/\c=ni g res)\/(g=some false/\c=.when false (.bool false)))/\K (st.push c):=by
 unfold fJ at h;split at h
 ·exact⟨_,.inr ⟨h.1,rfl⟩,h.2⟩
 ·exact⟨_,.inl ⟨_,_,rfl,h.1,h.2.1,rfl⟩,h.2.2⟩
theorem la{r:Option PR}{g:Option Bool}{K:St->Prop}{st:St}(h:eh r g K st):∃c,(g=none/\∃side,r=some (side,c)/\side)/\K (st.push c):=by
 unfold eh at h;split at h
 ·exact⟨_,⟨rfl,_,rfl,h.1⟩,h.2⟩
 ·exact h.elim
theorem Ct[Mode]{P:Program}{k:Kp}{g:Option Bool}{K:St->Prop}{st:St}(hk:k.eL=false)(h:aZ P k g K st):∃c,iG P k g st.rd st.cont c/\K (st.push c):=by
 cases k<;>try(simp[Kp.eL] at hk;done)
 case call f xs =>
  obtain⟨dts,res,c,h1,h2,h3,h4⟩:=h;exact⟨c,⟨dts,res,h1,h2,h3⟩,h4⟩
 case fB f xs =>
  obtain⟨h1,h2,c,h3,h4⟩:=h;exact⟨c,⟨h1,h2,h3⟩,h4⟩
 case box=>exact la h
 case eK=>exact la h
 case dO=>exact la h
 case al=>exact la h
 case fk=>exact la h
 case fq=>exact la h
 case fg=>exact la h
 case dP=>exact la h
 all_goals exact L6 h
section
variable{ob ob':Nat->D}(hm:∀k c,lk ob k=some c->lk ob' k=some c)
include hm
theorem jP{α:Type}{k:Nat}{F:D->Option α}{r:α}(h:(lk ob k).bind F=some r):(lk ob' k).bind F=some r:=by
 rw[Option.bind_eq_some_iff] at h|-
 obtain⟨c,h1,h2⟩:=h;exact⟨c,hm k c h1,h2⟩
theorem BP{x:D}{e:List D×List D}(h:mapOf ob x=some e):mapOf ob' x=some e:=by
 unfold mapOf at h|-
 split at h
 ·exact jP hm h
 ·exact h
theorem LL{k:Kp}{rd:X->D}{r:PR}(h:bn k rd ob=some r):bn k rd ob'=some r:=by
 have g1m:∀{x:D}{a b:Option PR},(∀r,a=some r->b=some r)->g1 x a=some r->g1 x b=some r:=by
  intro x a b hab ha;cases a with
  | none=>cases ha
  | some q=>rw[hab q rfl];exact ha
 have g2m:∀{x y:D}{a b:Option PR},(∀r,a=some r->b=some r)->g2 x y a=some r->g2 x y b=some r:=by
  intro x y a b hab ha;cases a with
  | none=>cases ha
  | some q=>rw[hab q rfl];exact ha
 cases k<;>try exact h
 case sl x lo hi =>
  simp only[bn] at h|-
  unfold tw at h|-
  cases hso:lL (rd x).core lo with
  | some kp=>rw[hso] at h;exact jP hm h
  | none=>rw[hso] at h;exact h
 case len x =>
  refine g1m (fun r hr=>?_) h;unfold jc at hr|-
  split at hr
  ·exact jP hm hr
  ·exact hr
 case mD neg x =>
  refine g1m (fun r hr=>?_) h;unfold pV at hr|-
  split at hr
  ·exact hr
  ·rw[Option.bind_eq_some_iff] at hr|-
   obtain⟨e,h1,h2⟩:=hr;refine⟨e,?_,h2⟩;unfold jc at h1|-
   split at h1
   ·exact jP hm h1
   ·exact h1
 case mA ok kk z m k =>
  refine g2m (fun r hr=>?_) h;unfold se at hr|-
  rw[Option.bind_eq_some_iff] at hr|-
  obtain⟨e,h1,h2⟩:=hr;exact⟨e,BP hm h1,h2⟩
 case mw x =>
  refine g1m (fun r hr=>?_) h;unfold rV at hr|-
  rw[Option.bind_eq_some_iff] at hr|-
  obtain⟨e,h1,h2⟩:=hr;exact⟨e,BP hm h1,h2⟩
 case ma x =>
  refine g1m (fun r hr=>?_) h;unfold nL at hr|-
  split at hr
  ·exact jP hm hr
  ·exact hr
 case ee sz x i =>
  refine g2m (fun r hr=>?_) h;unfold kR at hr|-
  split at hr
  ·split at hr
   ·exact jP hm hr
   ·exact hr
  ·cases hr
 case ld a =>
  refine g1m (fun r hr=>?_) h;unfold kV at hr|-
  split at hr
  ·exact hr
  ·exact jP hm hr
  ·cases hr
 case mu n a =>
  refine g1m (fun r hr=>?_) h;unfold kW at hr|-
  split at hr
  ·exact hr
  ·exact jP hm hr
  ·cases hr
 case fA off a =>
  refine g1m (fun r hr=>?_) h;unfold kJ at hr|-
  split at hr
  ·exact hr
  ·exact jP hm hr
  ·cases hr
omit hm in
theorem pT{f g:D->Option D}(h:∀x y,f x=some y->g x=some y):∀{l r:List D},dt f l=some r->dt g l=some r
 | [],r,hr=>hr
 | x::l,r,hr=>by
  simp only[dt,Option.bind_eq_some_iff] at hr|-
  obtain⟨y,h1,z,h2,h3⟩:=hr;exact⟨y,h x y h1,z,pT h h2,h3⟩
theorem AV:∀(n:Nat){d r:D},aW ob n d=some r->aW ob' n d=some r
 | 0,d,r,h=>by simp[aW] at h
 | n+1,d,r,h=>by
  have ih:∀x y,aW ob n x=some y->aW ob' n x=some y:=fun x y=>AV n
  cases d<;>try exact h
  case sub k p =>
   simp only[aW] at h|-
   rw[Option.bind_eq_some_iff] at h|-
   obtain⟨c,h1,h2⟩:=h;refine⟨c,hm k c h1,?_⟩;cases c<;>try exact h2
   rename_i z l;simp only[Option.bind_eq_some_iff] at h2|-
   obtain⟨l',h3,h4⟩:=h2;exact⟨l',pT ih h3,h4⟩
  case pre k p m =>
   simp only[aW] at h|-
   rw[Option.bind_eq_some_iff] at h|-
   obtain⟨c,h1,h2⟩:=h;exact⟨c,hm k c h1,h2⟩
  case aq k p =>
   simp only[aW] at h|-
   rw[Option.bind_eq_some_iff] at h|-
   obtain⟨c,h1,h2⟩:=h;refine⟨c,hm k c h1,?_⟩;split at h2
   ·simp only[Option.bind_eq_some_iff] at h2|-
    obtain⟨l',h3,h4⟩:=h2;exact⟨l',pT ih h3,h4⟩
   ·exact h2
   ·exact h2
   ·cases h2
  case agg l =>
   simp only[aW,Option.bind_eq_some_iff] at h|-
   obtain⟨l',h3,h4⟩:=h;exact⟨l',pT ih h3,h4⟩
  case fn f caps =>
   simp only[aW,Option.bind_eq_some_iff] at h|-
   obtain⟨l',h3,h4⟩:=h;exact⟨l',pT ih h3,h4⟩
theorem AU{rd:X->D}:∀{xs:List X}{l:List D},fT ob rd xs=some l->fT ob' rd xs=some l
 | [],l,h=>h
 | x::r,l,h=>by
  simp only[fT,Option.bind_eq_some_iff] at h|-
  obtain⟨y,h1,z,h2,h3⟩:=h;exact⟨y,AV hm 4 h1,z,AU h2,h3⟩
theorem iG.mono[Mode](hlo:∀j,j<1000->ob j=ob' j){P:Program}{k:Kp}{g:Option Bool}{rd:X->D}{c:D}(h:iG P k g rd ob c):iG P k g rd ob' c:=by
 cases k
 case fB f xs=>exact⟨h.1,h.2.1,h.2.2.mono hlo⟩
 case call f xs =>
  obtain⟨dts,res,h1,h2,h3⟩:=h;exact⟨dts,res,AU hm h1,h2,h3⟩
 case box=>exact h
 case eK=>exact h
 case dO=>exact h
 case al=>exact h
 case fk=>exact h
 case fq=>exact h
 case fg=>exact h
 case dP=>exact h
 all_goals
  rcases h with⟨side,res,h1,h2⟩ | h
  ·exact .inl ⟨side,res,LL hm h1,h2⟩
  ·exact .inr h
end
structure Fd[Mode](cx:Ctx)(nt:Nat)(tr pre:List Nat)(ds:List (Option Nat))(ct:Nat->D)(done:Nat->Prop)(a:Act)(w:World):Prop where
 ex:∃vl fp G,Hp cx ct vl fp G w/\(∀(j t:Nat),tr[j]?=some t->pre.contains j=false->a.tmps.getD t undef=vl j)/\(∀(i t:Nat),done i->ds[i]?=some (some t)->a.tmps.getD t undef=vl (1000+i))/\∀k,tr.length<=k->k<1000->vl k=cx.gv k
 dd:∀j,pre.contains j=true->ct j=.dead
 size:a.tmps.size=nt
 defers:a.defers=cx.cG
section
variable{P:Program}{cx:Ctx}{nt:Nat}{tr pre:List Nat}{ds:List (Option Nat)}{ct:Nat->D}{done:Nat->Prop}{a:Act}{w:World}{o:Oper}{Q:Exit->Act->World->Prop}{vl:Nat->Value}{fp:Nat->Nat->Prop}{G:Nat->Prop}
theorem HK[Mode](h:Hp cx ct vl fp G w)(htr:∀(j t:Nat),tr[j]?=some t->pre.contains j=false->a.tmps.getD t undef=vl j)(htm:∀(i t:Nat),done i->ds[i]?=some (some t)->a.tmps.getD t undef=vl (1000+i))
  {x:Operand} {y:X} (hx:aA ds tr x y=true) (hi:∀i,y=.t i->done i) (hv:∀j,y=.v j->pre.contains j=false):bL w (ae cx fp G w) (aa w ct vl) (a.eval x) (mP ct y):=by
 have lit:∀{v:Value}{d:D},Rd w (ae cx fp G w) v d->bL w (ae cx fp G w) (aa w ct vl) v d:=fun hd=>Pl.mN (.rd hd) mQ
 unfold aA at hx;split at hx<;>try(cases hx;done)
 ·rename_i t i
  have:=htm i t (hi i rfl) (by simpa using hx);show bL _ _ _ (a.tmps.getD t undef) (bB (1000+i) (ct (1000+i)));rw[this];exact jY (h.ok _)
 ·rename_i t j
  have:=htr j t (by simpa using hx) (hv j rfl);show bL _ _ _ (a.tmps.getD t undef) (bB j (ct j));rw[this];exact jY (h.ok _)
 ·simp only[Bool.and_eq_true,decide_eq_true_eq] at hx
  obtain⟨⟨rfl,rfl⟩,h1⟩:=hx;exact lit (.int (qc h1))
 ·simp only[Bool.and_eq_true,decide_eq_true_eq] at hx
  obtain⟨⟨rfl,rfl⟩,h1⟩:=hx;exact lit (.int (qc h1))
 ·simp only[beq_iff_eq] at hx
  subst hx;exact lit .bool
 ·simp only[Bool.and_eq_true,decide_eq_true_eq] at hx
  show bL _ _ _ (Value.string _) _;rw[AD hx.1];exact lit (.str (by have:=hx.2;simp only[maxLen];omega))
 ·exact lit .aM
 ·exact lit .aF
 ·simp only[beq_iff_eq] at hx
  subst hx;exact lit (.fn rfl (fun j x hx=>by simp at hx))
 ·rename_i g g'
  simp only[Bool.and_eq_true,beq_iff_eq] at hx;obtain⟨hgg,hx⟩:=hx;subst hgg;obtain⟨d,hd⟩:=Option.isSome_iff_exists.1 hx;have:=h.gl.gl _ _ hd;show bL _ _ _ _ ((gl g).getD .dead);rw[hd];exact lit this
 ·exact lit .bl
theorem Fd.CT[Mode](hS:gQ nt tr pre ds)(hdd:∀j,pre.contains j=true->ct j=.dead)(hsize:a.tmps.size=nt)(hdef:a.defers=cx.cG){i:Nat}{s:aO}(hd:ds[i]?=some (eD o s))(ha:s.k.cA=none)(hlt:∀t,o.dst=some t->t<nt){w':World}{v:Value}{c:D}
  (htr0:∀(j t:Nat),tr[j]?=some t->pre.contains j=false->a.tmps.getD t undef=vl j) (htm0:∀(i t:Nat),done i->ds[i]?=some (some t)->a.tmps.getD t undef=vl (1000+i)) (hgh:∀k,tr.length<=k->k<1000->vl k=cx.gv k)
  (hp:∃fp' G',Hp cx (aj ct (1000+i) c) (aj vl (1000+i) v) fp' G' w'):Fd cx nt tr pre ds (aj ct (1000+i) c) (fun j=>done j\/j=i) (a.put o.dst v) w':=by
 obtain⟨fp',G',hp⟩:=hp;have hres:eD o s=o.dst:=by simp[eD,ha]
 rw[hres] at hd;have hjlt:∀j t,tr[j]?=some t->j<1000:=fun j t hj=>by have:=(List.getElem?_eq_some_iff.1 hj).1;have:=hS.fD;omega
 refine⟨⟨_,_,_,hp,fun j t hj hpre=>?_,fun j t hj hit=>?_,fun k h1 h2=>by rw[av _ _ (by omega)];exact hgh k h1 h2⟩,fun j hj=>by rw[av _ _ (by have:=hS.wC j hj;have:=hS.fD;omega)];exact hdd j hj,?_,?_⟩
 ·rw[av _ _ (by have:=hjlt j t hj;omega)]
  cases hod:o.dst with
  | none=>exact htr0 j t hj hpre
  | some d =>
   have hne:d≠t:=by
    rintro rfl;rw[hod] at hd;have:=hS.apart _ _ hd j hj;rw[hpre] at this;cases this
   simp only[Act.put];rw[getD_set_ne _ hne];exact htr0 j t hj hpre
 ·by_cases hin:j=i
  ·subst hin
   rw[aT];rw[hd] at hit;injection hit with hit
   rw[hit];simp only[Act.put];exact kO _ (by rw[hsize];exact hlt t hit)
  ·rw[av _ _ (by omega)]
   have hj':=hj.resolve_right hin;cases hod:o.dst with
   | none=>exact htm0 j t hj' hit
   | some d =>
    have hne:d≠t:=by
     rintro rfl;rw[hod] at hd;exact hin (hS.nodup _ _ _ hit hd)
    simp only[Act.put];rw[getD_set_ne _ hne];exact htm0 j t hj' hit
 ·cases o.dst<;>simp[Act.put,hsize]
 ·cases o.dst<;>simp[Act.put,hdef]
theorem Fd.put[Mode](hS:gQ nt tr pre ds)(h:Fd cx nt tr pre ds ct done a w){i:Nat}{s:aO}(hd:ds[i]?=some (eD o s))(ha:s.k.cA=none)(hlt:∀t,o.dst=some t->t<nt){w':World}{v:Value}{c:D}
  (htr0:∀(j t:Nat),tr[j]?=some t->pre.contains j=false->a.tmps.getD t undef=vl j) (htm0:∀(i t:Nat),done i->ds[i]?=some (some t)->a.tmps.getD t undef=vl (1000+i)) (hgh:∀k,tr.length<=k->k<1000->vl k=cx.gv k)
  (hp:∃fp' G',Hp cx (aj ct (1000+i) c) (aj vl (1000+i) v) fp' G' w'):Fd cx nt tr pre ds (aj ct (1000+i) c) (fun j=>done j\/j=i) (a.put o.dst v) w' :=
 Fd.CT hS h.dd h.size h.defers hd ha hlt htr0 htm0 hgh hp
theorem CU[Mode](h:Hp cx ct vl fp G w){k:Nat}(hk:(ct k).isObj=false){v:Value}{c:D}(hc:az w (ae cx fp G w) (aa w ct vl) v (fun _=>False) c):∃fp' G',Hp cx (aj ct k c) (aj vl k v) fp' G' w :=
 ⟨_,G,h.put hk (F:=fun _=>False) hc (fun _ h=>h.elim) (fun _ h=>h) (fun _ h=>h.elim) (fun _ _ h=>h)⟩
theorem C9[Mode](hS:gQ nt tr pre ds)(h:Fd cx nt tr pre ds ct done a w){i:Nat}(hct:(ct (1000+i)).isObj=false){s:aO}{g:Option Bool}(hg:g≠some false)(hk:aQ P ds tr o s.k=true)(hd:ds[i]?=some (eD o s))(hna:s.k.cA=none)(hlt:∀t,o.dst=some t->t<nt)
  {rd:X->D} {ob:Nat->D} (hrd:∀y,y∈s.k.xs->∀x,aA ds tr x y=true->rd y=mP ct y) (hreads:∀j,j∈s.k.reads->done j) (hxs:∀j,X.v j∈s.k.xs->pre.contains j=false) (hob:∀j,(ct j).isObj=true->ob j=ct j) (hlo:∀j,j<1000->ob j=ct j) {c:D} (hop:iG P s.k g rd ob c) :
  o.wp P a w (fun a' w'=>Fd cx nt tr pre ds (aj ct (1000+i) c) (fun j=>done j\/j=i) a' w') Q:=by
 obtain⟨vl,fp,G,hp,htr,htm,hgh⟩:=h.ex;obtain⟨g0,k⟩:=s;simp only at hk hd hna hrd hreads hxs hop
 have hx:∀y,y∈k.xs->∀x,aA ds tr x y=true->bL w (ae cx fp G w) (aa w ct vl) (a.eval x) (rd y):=fun y hy x hxy=>by
  rw[hrd y hy x hxy];exact HK hp htr htm hxy (fun i hi=>hreads i (sR (by rw[<-hi];exact hy))) (fun j hj=>hxs j (by rw[<-hj];exact hy))
 have hok:∀j,∃F,az w (ae cx fp G w) (aa w ct vl) (vl j) F (ct j):=fun j=>⟨_,hp.ok j⟩
 have pure:((∃side res,bn k rd ob=some (side,res)/\ji g side/\res.bC=true/\c=ni g res)\/(g=some false/\c=.when false (.bool false)))->o.wp P a w (fun a' w'=>Fd cx nt tr pre ds (aj ct (1000+i) c) (fun j=>done j\/j=i) a' w') Q:=by
  rintro(⟨side,res,hpev,hs,hoc,rfl⟩ | ⟨hh,-⟩)
  case inr=>exact absurd hh hg
  have hside:side:=by
   cases g with
   | none=>exact hs
   | some b=>cases b with
    | false=>exact absurd rfl hg
    | true=>exact hs rfl
  obtain⟨v,hrun,hpl⟩:=CG (P:=P) (o:=o) hpev hk hx hob hok hside;exact gD hrun (h.put hS (s:=⟨g0,k⟩) hd hna hlt htr htm hgh (CU hp hct (Fq hpl hoc hg)))
 have new:(g=none/\∃side,bJ k rd=some (side,c)/\side)->o.wp P a w (fun a' w'=>Fd cx nt tr pre ds (aj ct (1000+i) c) (fun j=>done j\/j=i) a' w') Q:=by
  rintro⟨rfl,side,hnew,hs⟩;obtain⟨v,w',F,hrun,hext,hF,hc,hemp⟩:=B4 (P:=P) (o:=o) (A:=ae cx fp G w) hnew hk hx (fun b hb=>hb.1.1) hs;exact gD hrun (h.put hS (s:=⟨g0,k⟩) hd hna hlt htr htm hgh ⟨_,_,hp.add hext (k:=1000+i) hct hF hc hemp⟩)
 cases k with
 | call f xs =>
  obtain⟨dts,res,hgl,hrest,hcr⟩:=hop
  have hh:cW rd xs=true/\aD P f (dts.map .v) res/\(res.bp=true\/iy rd xs):=by
   cases g with
   | none=>exact hrest
   | some b=>cases b with
    | false=>exact absurd rfl hg
    | true=>exact hrest rfl
  refine zW (ob:=ob) hp hk hx hob hgl hh.1 hh.2.1 hh.2.2 g hg hcr fun v w' F hext hF hc hemp=>?_
  exact h.put hS (s:=⟨g0,.call f xs⟩) hd hna hlt htr htm hgh ⟨_,_,hp.add hext (k:=1000+i) hct hF hc hemp⟩
 | fB f xs =>
  obtain⟨rfl,hgt,hko⟩:=hop;refine zX (ob:=ob) hp hk hx hgt hlo hko fun v w' hext hc hemp=>?_
  exact h.put hS (s:=⟨g0,.fB f xs⟩) hd hna hlt htr htm hgh ⟨_,_,hp.add hext (k:=1000+i) hct (fun _ h=>h.elim) hc (fun _ _ h=>h)⟩
 | bY j x=>simp[Kp.cA] at hna
 | gT j x=>simp[Kp.cA] at hna
 | gW j x=>simp[Kp.cA] at hna
 | st x y=>exact pure hop
 | gf n x y=>exact pure hop
 | jn n x y=>exact pure hop
 | app n m x y=>exact pure hop
 | gj f xs=>exact pure hop
 | dyn f xs=>exact pure hop
 | box n x=>exact new hop
 | eK n x=>exact new hop
 | dO zs=>exact new hop
 | al z b l c=>exact new hop
 | fk=>exact new hop
 | fq x=>exact new hop
 | fg x=>exact new hop
 | dP z n ps=>exact new hop
 | _=>exact pure hop
theorem L9[Mode](hS:gQ nt tr pre ds)(h:Fd cx nt tr pre ds ct done a w){i:Nat}(hct:(ct (1000+i)).isObj=false){s:aO}(hd:ds[i]?=some (eD o s))(hna:s.k.cA=none)(hlt:∀t,o.dst=some t->t<nt)
  {rd:X->D} {ob:Nat->D} {c:D} (hop:iG P s.k (some false) rd ob c):Fd cx nt tr pre ds (aj ct (1000+i) c) (fun j=>done j\/j=i) (a.put o.dst undef) w:=by
 obtain⟨vl,fp,G,hp,htr,htm,hgh⟩:=h.ex
 have hc:∃d,c=.when false d:=by
  obtain⟨g0,k⟩:=s;cases k with
  | call f xs=>obtain⟨_,res,_,_,hcr⟩:=hop;exact hcr.elim (fun h=>⟨_,h⟩) fun h=>⟨_,h⟩
  | fB f xs=>cases hop.1
  | box n x=>cases hop.1
  | eK n x=>cases hop.1
  | dO zs=>cases hop.1
  | al z b l c=>cases hop.1
  | fk=>cases hop.1
  | fq x=>cases hop.1
  | fg x=>cases hop.1
  | dP z n ps=>cases hop.1
  | _ =>
   rcases hop with⟨_,res,_,_,_,rfl⟩ | ⟨_,rfl⟩
   ·exact⟨res,rfl⟩
   ·exact⟨_,rfl⟩
 obtain⟨d,rfl⟩:=hc;exact h.put hS hd hna hlt htr htm hgh (CU hp hct Ft)
end
theorem uV{P:Program}{nt:Nat}{ds:List (Option Nat)}{tr:List Nat}:∀{lo:List Oper}{ls:List aO}{n:Nat},iQ P nt ds tr n lo ls=true->∀{i:Nat}{s:aO},ls[i]?=some s->∃o,lo[i]?=some o/\(∀t,o.dst=some t->t<nt) /\
  (∀j,s.k.cA=some j->o.dst=tr[j]?/\j<tr.length/\s.g=none) /\
  (match o.guard,s.g with
    | none,none=>true
    | some (j,want),some (i',want')=>j == i'&&want == want'&&decide (i'<n+i)&&(match ds[i']? with | some (some _)=>true | _=>false)
    | _,_=>false)=true/\aQ P ds tr o s.k=true/\(∀j,j∈s.k.reads->j<n+i)
 | [],[],n,_,i,s,hs=>by simp at hs
 | [],_::_,n,h,i,s,hs=>by simp[iQ] at h
 | _::_,[],n,h,i,s,hs=>by simp at hs
 | o::lo,s::ls,n,h,i,s',hs=>by
  simp only[iQ,Bool.and_eq_true] at h;obtain⟨⟨⟨⟨⟨hf1,hf2⟩,hf3⟩,hf4⟩,hf5⟩,hf⟩:=h;cases i with
  | zero =>
   simp only[List.getElem?_cons_zero,Option.some.injEq] at hs;subst hs;refine⟨o,rfl,fun t ht=>by rw[ht] at hf1;simpa using hf1,fun j hj=>?_,hf3,hf4,fun j hj=>by simpa using(List.all_eq_true.1 hf5) j hj⟩;rw[hj] at hf2;simp only[Bool.and_eq_true,decide_eq_true_eq] at hf2;exact⟨hf2.1.1,hf2.1.2,by simpa using hf2.2⟩
  | succ i =>
   simp only[List.getElem?_cons_succ] at hs|-
   have:=uV hf hs;rw[show n+1+i=n+(i+1) by omega] at this;exact this
theorem Dp:∀{lo:List Oper}{ls:List aO}{i:Nat}{o:Oper}{s:aO},lo[i]?=some o->ls[i]?=some s->(bx lo ls)[i]?=some (eD o s)
 | o::lo,s::ls,0,o',s',h1,h2=>by simp at h1 h2;subst h1 h2;rfl
 | o::lo,s::ls,i+1,o',s',h1,h2=>by simp at h1 h2|-;simp only[bx,List.getElem?_cons_succ];exact Dp h1 h2
 | [],_,i,o,s,h1,h2=>by simp at h1
 | _::_,[],i,o,s,h1,h2=>by simp at h2
theorem Ai:∀(l:List Oper)(acc:List Nat),∃r,cF acc l=acc++r/\r.length=l.length
 | [],acc=>⟨[],by simp[cF],rfl⟩
 | o::l,acc=>by
  obtain⟨r,h1,h2⟩:=Ai l (acc++[closure acc o]);exact⟨closure acc o::r,by simp[cF,h1],by simp[h2]⟩
theorem Ah:∀(l:List Oper)(acc:List Nat)(i:Nat)(o:Oper),l[i]?=some o->∃acc',(cF acc l).getD (acc.length+i) 0=closure acc' o/\∀j,acc'.getD j 0≠0->acc'.getD j 0=(cF acc l).getD j 0
 | [],acc,i,o,h=>by simp at h
 | o::l,acc,0,o',h=>by
  simp at h;subst h;obtain⟨r,h1,_⟩:=Ai l (acc++[closure acc o]);refine⟨acc,by simp[cF,h1],fun j hj=>?_⟩
  have hlt:j<acc.length:=by
   apply Classical.byContradiction;intro hn;apply hj;simp[List.getD_eq_getElem?_getD,List.getElem?_eq_none (show acc.length<=j by omega)]
  rw[cF,h1];simp only[List.getD_eq_getElem?_getD,List.append_assoc];rw[List.getElem?_append_left hlt]
 | o::l,acc,i+1,o',h=>by
  simp at h;have:=Ah l (acc++[closure acc o]) i o' h;simp only[List.length_append,List.length_cons,List.length_nil] at this;rw[show acc.length+(0+1)+i=acc.length+(i+1) by omega] at this;exact this
theorem Ag{acc:List Nat}{x:Nat}:∀(l:List Edge)(s:Nat),(l.foldl (fun s e=>if Region.binds .any e=true then s ||| (1 <<< e.on ||| acc.getD e.on 0) else s) s).testBit x=true ->
  s.testBit x=true\/∃e∈l,Region.binds .any e=true/\(x=e.on\/(acc.getD e.on 0).testBit x=true)
 | [],s,h=>.inl h
 | e::l,s,h=>by
  simp only[List.foldl_cons] at h;rcases Ag l _ h with h1 | ⟨e',h1,h2⟩
  ·split at h1
   ·rename_i hb
    rw[Nat.testBit_or,Nat.testBit_or,Bool.or_eq_true,Bool.or_eq_true] at h1;rcases h1 with h1 | h1 | h1
    ·exact .inl h1
    ·refine .inr ⟨e,by simp,hb,.inl ?_⟩
     rw[Nat.one_shiftLeft,Nat.testBit_two_pow] at h1;exact(of_decide_eq_true h1).symm
    ·exact .inr ⟨e,by simp,hb,.inr h1⟩
   ·exact .inl h1
  ·exact .inr ⟨e',by simp[h1],h2⟩
theorem GK{l:List Oper}{i x:Nat}{o:Oper}(hi:l[i]?=some o)(hx:dy (cF [] l) i x=true):∃e∈o.after,Region.binds .any e=true/\(x=e.on\/dy (cF [] l) e.on x=true):=by
 obtain⟨acc,h1,h2⟩:=Ah l [] i o hi;simp only[List.length_nil,Nat.zero_add] at h1;unfold dy at hx;rw[h1] at hx;rcases Ag _ _ hx with h | ⟨e,he,hb,hx⟩
 ·simp at h
 ·refine⟨e,by simpa using he,hb,?_⟩
  rcases hx with hx | hx
  ·exact .inl hx
  ·right
   unfold dy;rw[<-h2 _ (by intro h;rw[h] at hx;simp at hx)];exact hx
def bW(st:St)(cs:List D):St:=cs.foldl St.push st
theorem sO:∀(cs:List D){st:St},st.wf->(bW st cs).wf/\(bW st cs).n=st.n+cs.length
 | [],st,h=>⟨h,rfl⟩
 | c::cs,st,h=>by
  obtain⟨h1,h2⟩:=sO cs (St.dW h c);exact⟨h1,by rw[show bW st (c::cs)=bW (st.push c) cs from rfl,h2];simp only[St.push,List.length_cons];omega⟩
def sw(b:Bool)(x:D):D:=match b with | true=>x | false=>.dead
def b8(base:Nat->D)(n:Nat)(cs:List D)(T:Nat->Bool)(k:Nat):D :=
 if 1000+n<=k/\k<1000+n+cs.length then sw (T (k-1000)) (cs.getD (k-1000-n) .dead) else base k
theorem lE{base:Nat->D}{n:Nat}{cs:List D}{T:Nat->Bool}{i:Nat}(h1:n<=i)(h2:i<n+cs.length):b8 base n cs T (1000+i)=sw (T i) (cs.getD (i-n) .dead):=by
 unfold b8;rw[if_pos (by omega),show 1000+i-1000=i by omega]
theorem mX{base:Nat->D}{n:Nat}{cs:List D}{T:Nat->Bool}{k:Nat}(h:¬(1000+n<=k/\k<1000+n+cs.length)):b8 base n cs T k=base k:=by
 unfold b8;rw[if_neg h]
theorem qn:∀(cs:List D){st:St},st.wf->(bW st cs).cont=b8 st.cont st.n cs fun _=>true
 | [],st,h=>by funext k;simp only[b8,bW,List.foldl_nil,List.length_nil];rw[if_neg (by omega)]
 | c::cs,st,h=>by
  rw[show bW st (c::cs)=bW (st.push c) cs from rfl,qn cs (St.dW h c)];funext k;simp only[b8,St.cm h,sw,List.length_cons];have e:(st.push c).n=st.n+1:=rfl;rw[e];by_cases h1 : 1000+(st.n+1)<=k/\k<1000+(st.n+1)+cs.length
  ·rw[if_pos h1,if_pos (by omega)]
   obtain⟨m,hm⟩:∃m,k-1000-st.n=m+1:=⟨k-1000-st.n-1,by omega⟩;rw[hm,show k-1000-(st.n+1)=m by omega];rfl
  ·rw[if_neg h1]
   by_cases h2:k=1000+st.n
   ·subst h2
    rw[aT,if_pos (by omega),show 1000+st.n-1000-st.n=0 by omega];rfl
   ·rw[av _ _ h2,if_neg (by omega)]
def tM[Mode](P:Program)(s:aO)(st:St)(c:D):Prop :=
 match s.g with
 | none=>iG P s.k none st.rd st.cont c
 | some (j,want)=>∃b,gd (st.rd (.t j)) want=some b/\iG P s.k (some b) st.rd st.cont c
theorem xl[Mode]{P:Program}{K:St->Prop}:∀(seg rest:List aO){st:St},bA P K (seg++rest) st->(∀s∈seg,s.k.eL=false) ->
  ∃cs:List D,cs.length=seg.length/\(∀(i:Nat)(s:aO),seg[i]?=some s->tM P s (bW st (cs.take i)) (cs.getD i .dead))/\bA P K rest (bW st cs)
 | [],rest,st,h,_=>⟨[],rfl,fun i s hs=>by simp at hs,h⟩
 | s::seg,rest,st,h,hq=>by
  have step:∃c,tM P s st c/\bA P K (seg++rest) (st.push c):=by
   obtain⟨g,k⟩:=s;cases g with
   | none =>
    obtain⟨c,h1,h2⟩:=Ct (hq ⟨none,k⟩ (by simp)) h;exact⟨c,h1,h2⟩
   | some gg =>
    obtain⟨j,want⟩:=gg;simp only[List.cons_append,bA,ib] at h;split at h
    ·rename_i b hb
     obtain⟨c,h1,h2⟩:=Ct (hq ⟨some (j,want),k⟩ (by simp)) h;exact⟨c,⟨b,hb,h1⟩,h2⟩
    ·exact h.elim
  obtain⟨c,h1,h2⟩:=step;obtain⟨cs,h3,h4,h5⟩:=xl seg rest h2 fun s hs=>hq s (by simp[hs])
  refine⟨c::cs,by simp[h3],fun i s' hs=>?_,h5⟩;cases i with
  | zero=>simp at hs;subst hs;exact h1
  | succ i=>simp at hs;exact h4 i s' hs
theorem xD:∀sl:List aO,∃seg rest,sl=seg++rest/\(∀s∈seg,s.k.eL=false)/\(rest=[]\/∃e r,rest=e::r/\e.k.eL=true)
 | []=>⟨[],[],rfl,by simp,.inl rfl⟩
 | s::sl=>by
  cases h:s.k.eL with
  | true=>exact⟨[],s::sl,rfl,by simp,.inr ⟨s,sl,rfl,h⟩⟩
  | false =>
   obtain⟨seg,rest,h1,h2,h3⟩:=xD sl;exact⟨s::seg,rest,by rw[h1];rfl,fun x hx=>by rcases List.mem_cons.1 hx with rfl | hx;exact h;exact h2 x hx,h3⟩
theorem Ao{p q:Nat->Bool}:∀(L:List Nat),(∀x∈L,q x=true->p x=true)->(∃x∈L,p x=true/\q x=false)->L.countP q<L.countP p
 | [],_,h=>by obtain⟨x,hx,_⟩:=h;cases hx
 | a::L,h,hx=>by
  have hle:L.countP q<=L.countP p:=List.countP_mono_left fun x hx hq=>h x (by simp[hx]) hq
  obtain⟨x,hx,h1,h2⟩:=hx;rcases List.mem_cons.1 hx with rfl | hx
  ·rw[List.countP_cons_of_pos h1,List.countP_cons_of_neg (by simp[h2])];omega
  ·have ih:=Ao L (fun x hx hq=>h x (by simp[hx]) hq) ⟨x,hx,h1,h2⟩
   by_cases hq:q a=true
   ·rw[List.countP_cons_of_pos hq,List.countP_cons_of_pos (h a (by simp) hq)];omega
   ·rw[List.countP_cons_of_neg hq]
    exact Nat.lt_of_lt_of_le ih (by rw[List.countP_cons];omega)
theorem vp(p:Nat->Prop):∀n,p n->∃m,p m/\∀k,p k->m<=k:=by
 intro n;induction n using Nat.strongRecOn with
 | _ n ih =>
  intro hn;by_cases h:∃k,k<n/\p k
  ·obtain⟨k,hk,hpk⟩:=h
   exact ih k hk hpk
  ·exact⟨n,hn,fun k hk=>by
    by_cases hkn:k<n
    ·exact absurd ⟨k,hkn,hk⟩ h
    ·omega⟩
structure Rg(P:Program)(nt:Nat)(tr pre:List Nat)(ops:Array Oper)(l:List aO)(kh:Nat):Prop where
 jm:gQ nt tr pre (bx ops.toList l)
 size:ops.size=l.length
 fit:iQ P nt (bx ops.toList l) tr 0 ops.toList l=true
 pre:∀s∈l,qf pre s=true
 uL:eo ops.toList=true
 draw:rv kh (cF [] ops.toList) l=true
section
variable{P:Program}{cx:Ctx}{nt:Nat}{tr pre:List Nat}{ops:Array Oper}{l:List aO}{kh:Nat}{Q:Exit->Act->World->Prop}
theorem Rg.op(h:Rg P nt tr pre ops l kh){i:Nat}{s:aO}(hs:l[i]?=some s):∃o,ops[i]?=some o/\(bx ops.toList l)[i]?=some (eD o s)/\(∀t,o.dst=some t->t<nt) /\
  (∀j,s.k.cA=some j->o.dst=tr[j]?/\j<tr.length/\pre.contains j=false) /\
  (match o.guard,s.g with
    | none,none=>true
    | some (j,want),some (i',want')=>j == i'&&want == want'&&decide (i'<i)&&(match(bx ops.toList l)[i']? with | some (some _)=>true | _=>false)
    | _,_=>false)=true/\aQ P (bx ops.toList l) tr o s.k=true/\(∀j,j∈s.k.reads->j<i)/\(∀j,X.v j∈s.k.xs->pre.contains j=false):=by
 obtain⟨o,h1,h2,h3,h4,h5,h6⟩:=uV h.fit hs;have hp:=h.pre s (List.mem_of_getElem? hs);simp only[qf,Bool.and_eq_true,List.all_eq_true] at hp;simp only[Nat.zero_add] at h4 h6;exact⟨o,by simpa using h1,Dp h1 hs,h2,fun j hj=>⟨(h3 j hj).1,(h3 j hj).2.1,by have:=hp.1;rw[hj] at this;simpa using this⟩,h4,h5,h6,fun j hj=>by simpa using hp.2 _ hj⟩
theorem Rg.dr(h:Rg P nt tr pre ops l kh){i:Nat}{s:aO}(hs:l[i]?=some s):(∀j,j∈s.k.reads->dy (cF [] ops.toList) i j=true)/\(∀j want,s.g=some (j,want)->dy (cF [] ops.toList) i j=true) /\
  (s.k.eL=true->s.k.jJ=false->(∀j,kh<=j->j<i->dy (cF [] ops.toList) i j=true)/\∀j,i<j->j<l.length->dy (cF [] ops.toList) j i=true) /\
  (∀sz bytes b t,s.k=.dw sz bytes b t->uf (cF [] ops.toList) l i b=true):=by
 have:=h.draw;simp only[rv,List.all_eq_true] at this;have:=this (s,i) (List.mem_zipIdx_iff_getElem?.2 hs);rw[Bool.and_eq_true,Bool.and_eq_true,List.all_eq_true] at this;obtain⟨⟨h1,h2⟩,h3⟩:=this;refine⟨h1,fun j want hg=>?_,fun he hna=>?_,fun sz bytes b t hk=>?_⟩
 ·simp only at h2;rw[hg] at h2;simpa using h2
 ·simp only at h3
  split at h3
  ·rename_i hk;rw[hk] at hna;cases hna
  ·simp only[Bool.and_eq_true,Bool.or_eq_true,Bool.not_eq_true',List.all_eq_true,decide_eq_true_eq,List.mem_range] at h3
   obtain⟨h4,h5⟩:=h3.resolve_left (by simp[he]);exact⟨fun j hkj hj=>(h4 j hj).resolve_left (by omega),fun j hj hl=>(h5 j hl).resolve_left (by omega)⟩
 ·simp only at h3;rw[hk] at h3;exact h3
theorem fM{T:Array Bool}{i j:Nat}(h:i≠j):(T.setIfInBounds i true).getD j false=T.getD j false:=_root_.Go.getD_set_ne false h
def iF(ops:Array Oper)(T:Array Bool):Prop:=T.size=ops.size/\∀j,T.getD j false=true->∀x,dy (cF [] ops.toList) j x=true->T.getD x false=true
def ek(ops:Array Oper)(T:Array Bool):Nat:=(List.range ops.size).countP fun i=>!T.getD i false
theorem iR{T:Array Bool}{i:Nat}(h:i<T.size)(b:Bool):T.getD i b=T.getD i false:=by
 simp[Array.getD,h]
theorem ox{T:Array Bool}(hT:iF ops T){i:Nat}(h:i∈Region.ready .any ops T):i<ops.size/\T.getD i false=false/\∀x,dy (cF [] ops.toList) i x=true->T.getD x false=true:=by
 rw[mem_ready] at h;obtain⟨h1,o,ho,h2⟩:=h;have hi:i<ops.size:=(Array.getElem?_eq_some_iff.1 ho).1;refine⟨hi,by rw[iR (by rw[hT.1];exact hi)] at h1;exact h1,fun x hx=>?_⟩;obtain⟨e,he,hb,hx⟩:=GK (l:=ops.toList) (by simpa using ho) hx;rcases hx with rfl | hx
 ·exact h2 e he hb
 ·exact hT.2 _ (h2 e he hb) x hx
theorem wM{T:Array Bool}(hE:eo ops.toList=true)(hT:T.size=ops.size){i:Nat}(hi:i<ops.size)(hu:T.getD i false=false):Region.ready .any ops T≠[]:=by
 obtain⟨m,hm,hmin⟩:=vp (fun i=>i<ops.size/\T.getD i false=false) i ⟨hi,hu⟩;intro hr
 have:m∈Region.ready .any ops T:=by
  rw[mem_ready];refine⟨by rw[iR (by rw[hT];exact hm.1)];exact hm.2,ops[m],by simp[hm.1],fun e he hb=>?_⟩;simp only[eo,List.all_eq_true] at hE;have h1:=hE (ops[m],m) (List.mem_zipIdx_iff_getElem?.2 (by simp[hm.1])) e (by simpa using he);simp only[hb,Bool.not_true,Bool.false_or,decide_eq_true_eq] at h1;cases h2:T.getD e.on false with
  | true=>rfl
  | false=>exact absurd (hmin e.on ⟨by omega,h2⟩) (by omega)
 rw[hr] at this;cases this
theorem pv{T:Array Bool}(hT:iF ops T){i:Nat}(hi:i<ops.size)(hc:∀x,dy (cF [] ops.toList) i x=true->T.getD x false=true):iF ops (T.setIfInBounds i true):=by
 refine⟨by simp[hT.1],fun j hj x hx=>?_⟩;by_cases hxi:i=x
 ·subst hxi;simp[Array.getD,hT.1,hi]
 ·rw[fM hxi]
  by_cases hji:i=j
  ·subst hji;exact hc x hx
  ·rw[fM hji] at hj
   exact hT.2 j hj x hx
theorem gH{T:Array Bool}{i:Nat}(hi:i<T.size):(T.setIfInBounds i true).getD i false=true:=by simp[Array.getD,hi]
theorem qE{T:Array Bool}(hT:T.size=ops.size){i:Nat}(hi:i<ops.size)(hu:T.getD i false=false):ek ops (T.setIfInBounds i true)<ek ops T:=by
 refine Ao _ (fun x hx hq=>?_) ⟨i,List.mem_range.2 hi,by simp[hu],by rw[gH (by omega)];rfl⟩;by_cases hxi:i=x
 ·subst hxi;rw[gH (by omega)] at hq;cases hq
 ·rw[fM hxi] at hq;exact hq
theorem qD{T:Array Bool}{i:Nat}(hi:i<ops.size)(hu:T.getD i false=false) : 0<ek ops T:=by
 unfold ek;rw[List.countP_pos_iff];exact⟨i,List.mem_range.2 hi,by simp[hu]⟩
theorem Hn[Mode]{ds:List (Option Nat)}{ct:Nat->D}{done:Nat->Prop}{a:Act}{w:World}{i t:Nat}{want b:Bool}(h:Fd cx nt tr pre ds ct done a w)(hi:done i)(hds:ds[i]?=some (some t))(hj:(ops[i]?).bind (·.dst)=some t)(hg:gd (mP ct (.t i)) want=some b) :
  (yielded ops a.tmps i == some want)=b:=by
 obtain⟨vl,fp,G,hp,_,htm,_⟩:=h.ex
 have he:bL w (ae cx fp G w) (aa w ct vl) (a.tmps.getD t undef) (mP ct (.t i)):=by
  rw[htm i t hi hds];exact jY (hp.ok _)
 have hy:yielded ops a.tmps i=match a.tmps.getD t undef with | .bool b=>some b | _=>none:=by
  unfold yielded;rw[hj,Option.bind_some];by_cases ht:t<a.tmps.size
  ·rw[getD_some ht]
   cases a.tmps.getD t undef<;>rfl
  ·have h1:a.tmps[t]?=none:=by simp;omega
   have h2:a.tmps.getD t undef=undef:=by simp[h1]
   rw[h1,h2];rfl
 unfold gd at hg;rw[Option.bind_eq_some_iff] at hg;obtain⟨c,hc,hg⟩:=hg;injection hg with hg
 rw[hy];generalize mP ct (.t i)=d at he hc hg;cases hgt:d.gate with
 | false =>
  rw[he.2 hgt];rw[hgt] at hg;simp at hg;subst hg;rfl
 | true =>
  have h1:=he.1 hgt
  have hcore:d.core=.bool c:=by
   revert hc;cases d.core<;>simp[D.bool?]
  rw[hcore] at h1;rw[pl_bool h1];rw[hgt] at hg;cases want<;>cases c<;>simp at hg<;>subst hg<;>rfl
theorem ET{base:Nat->D}{n:Nat}{cs:List D}{T:Array Bool}{i:Nat}(h1:n<=i)(h2:i<n+cs.length)(hi:i<T.size) :
  b8 base n cs (fun j=>(T.setIfInBounds i true).getD j false)=aj (b8 base n cs fun j=>T.getD j false) (1000+i) (cs.getD (i-n) .dead):=by
 funext k;by_cases hk:k=1000+i
 ·subst hk
  rw[aT];unfold b8;rw[if_pos (by omega),show 1000+i-1000=i by omega];dsimp only;rw[gH hi];rfl
 ·rw[av _ _ hk]
  unfold b8;by_cases hr : 1000+n<=k/\k<1000+n+cs.length
  ·rw[if_pos hr,if_pos hr]
   dsimp only;rw[fM (by omega)]
  ·rw[if_neg hr,if_neg hr]
def cJ(ap:Option (Nat×Nat))(base:Nat->D)(n:Nat)(cs:List D)(T:Nat->Bool)(k:Nat):D :=
 match ap with
 | none=>b8 base n cs T k
 | some (e,b)=>if T e=true/\k=1000+b then .dead else b8 base n cs T k
theorem mW{base:Nat->D}{n:Nat}{cs:List D}{T:Nat->Bool}{e b k:Nat}(h:T e=true/\k=1000+b):cJ (some (e,b)) base n cs T k=.dead:=if_pos h
theorem fu{base:Nat->D}{n:Nat}{cs:List D}{T:Nat->Bool}{e b k:Nat}(h:¬(T e=true/\k=1000+b)):cJ (some (e,b)) base n cs T k=b8 base n cs T k:=if_neg h
theorem mT{ap:Option (Nat×Nat)}{base:Nat->D}{n:Nat}{cs:List D}{T:Nat->Bool}{k:Nat}(h:∀e b,ap=some (e,b)->T e=true->k≠1000+b):cJ ap base n cs T k=b8 base n cs T k:=by
 cases ap with
 | none=>rfl
 | some p=>obtain⟨e,b⟩:=p;exact fu fun hh=>h e b rfl hh.1 hh.2
theorem xj{ap:Option (Nat×Nat)}{base:Nat->D}{n:Nat}{cs:List D}{T:Nat->Bool}{k:Nat}(h:(cJ ap base n cs T k).isObj=true):cJ ap base n cs T k=b8 base n cs T k:=by
 cases ap with
 | none=>rfl
 | some p =>
  obtain⟨e,b⟩:=p;by_cases hh:T e=true/\k=1000+b
  ·rw[mW hh] at h;cases h
  ·exact fu hh
theorem NJ{ap:Option (Nat×Nat)}{base:Nat->D}{n:Nat}{cs:List D}{T T':Nat->Bool}(h:∀i,n<=i->i<n+cs.length->T i=T' i)(ha:∀e b,ap=some (e,b)->n<=e/\e<n+cs.length):cJ ap base n cs T=cJ ap base n cs T':=by
 have hc:∀k,b8 base n cs T k=b8 base n cs T' k:=fun k=>by
  unfold b8;split
  ·rw[h (k-1000) (by omega) (by omega)]
  ·rfl
 funext k;cases ap with
 | none=>exact hc k
 | some p =>
  obtain⟨e,b⟩:=p;obtain⟨h1,h2⟩:=ha e b rfl;by_cases hh:T e=true/\k=1000+b
  ·rw[mW hh,mW (by rw[<-h e h1 h2];exact hh)]
  ·rw[fu hh,fu (by rw[<-h e h1 h2];exact hh),hc k]
theorem NK{ap:Option (Nat×Nat)}{base:Nat->D}{n:Nat}{cs:List D}{T:Array Bool}{i:Nat}(h1:n<=i)(h2:i<n+cs.length)(hi:i<T.size)(ha:∀e b,ap=some (e,b)->i≠e/\(T.getD e false=true->i≠b)) :
  cJ ap base n cs (fun j=>(T.setIfInBounds i true).getD j false)=aj (cJ ap base n cs fun j=>T.getD j false) (1000+i) (cs.getD (i-n) .dead):=by
 have hs:=ET (base:=base) (cs:=cs) h1 h2 hi;cases ap with
 | none=>exact hs
 | some p =>
  obtain⟨e,b⟩:=p;obtain⟨a1,a2⟩:=ha e b rfl;have hset:(T.setIfInBounds i true).getD e false=T.getD e false:=fM a1;funext k;by_cases hk:k=1000+i
  ·subst hk
   rw[aT,fu (fun hh=>by rw[hset] at hh;exact a2 hh.1 (by omega)),hs,aT]
  ·rw[av _ _ hk]
   by_cases hh:T.getD e false=true/\k=1000+b
   ·exact(mW (by rw[hset];exact hh)).trans (mW hh).symm
   ·refine(fu (by rw[hset];exact hh)).trans (Eq.trans ?_ (fu hh).symm)
    rw[hs,av _ _ hk]
theorem NI{base:Nat->D}{n:Nat}{cs:List D}{T:Array Bool}{e b:Nat}(h1:n<=e)(h2:e<n+cs.length)(hi:e<T.size)(_:T.getD e false=false)(hb:e≠b) :
  cJ (some (e,b)) base n cs (fun j=>(T.setIfInBounds e true).getD j false)=aj (aj (cJ (some (e,b)) base n cs fun j=>T.getD j false) (1000+b) .dead) (1000+e) (cs.getD (e-n) .dead):=by
 have hs:=ET (base:=base) (cs:=cs) h1 h2 hi;have hset:(T.setIfInBounds e true).getD e false=true:=gH hi;funext k;by_cases hk:k=1000+e
 ·subst hk
  rw[aT,fu (fun hh=>hb (by omega)),hs,aT]
 ·rw[av _ _ hk]
  by_cases hkb:k=1000+b
  ·subst hkb;rw[aT,mW ⟨hset,rfl⟩]
  ·rw[av _ _ hkb,fu (fun hh=>hkb hh.2),fu (fun hh=>hkb hh.2),hs,av _ _ hk]
theorem xk{st:St}{cs:List D}{m:Nat}(hm:m<=cs.length):b8 st.cont st.n (cs.take m) (fun _=>true)=b8 st.cont st.n cs fun i=>decide (i<st.n+m):=by
 have htl:(cs.take m).length=m:=by simp;omega
 funext k;unfold b8;rw[htl];by_cases h1 : 1000+st.n<=k/\k<1000+st.n+m
 ·rw[if_pos h1,if_pos (by omega)]
  dsimp only;rw[decide_eq_true (show k-1000<st.n+m by omega)];simp only[sw,List.getD_eq_getElem?_getD];rw[List.getElem?_take_of_lt (by omega)]
 ·rw[if_neg h1]
  by_cases h2 : 1000+st.n<=k/\k<1000+st.n+cs.length
  ·rw[if_pos h2]
   dsimp only;rw[decide_eq_false (show ¬k-1000<st.n+m by omega)];exact St.bZ (by simp only[St.in,not_or,not_and];omega)
  ·rw[if_neg h2]
theorem EU[Mode]{ds:List (Option Nat)}{st fin:St}{ap:Option (Nat×Nat)}{cs:List D}(hfw:fin.wf)(hfn:fin.n=st.n+cs.length)(hfc:fin.cont=cJ ap st.cont st.n cs fun i=>decide (i<st.n+cs.length))(ha:∀e b,ap=some (e,b)->st.n<=e/\e<st.n+cs.length){T:Array Bool}{a:Act}{w:World}
  (h:Fd cx nt tr pre ds (cJ ap st.cont st.n cs fun i=>T.getD i false) (fun i=>T.getD i false=true) a w) (hall:∀i,st.n<=i->i<st.n+cs.length->T.getD i false=true) (h1:∀i,i<st.n->T.getD i false=true) :
  Fm cx nt tr pre ds fin a w:=by
 obtain⟨⟨vl,fp,G,e1,e2,e3,egh⟩,e4,e5,e6⟩:=h
 have hsame:cJ ap st.cont st.n cs (fun i=>T.getD i false)=fin.cont:=by
  rw[hfc];exact NJ (fun i q1 q2=>by rw[hall i q1 q2,decide_eq_true q2]) ha
 rw[hsame] at e1 e4;refine⟨⟨vl,fp,G,e1,e2,fun i t hi hit=>e3 i t ?_ hit,egh⟩,hfw,e4,e5,e6⟩;rw[hfn] at hi;by_cases hi':i<st.n
 ·exact h1 i hi'
 ·exact hall i (by omega) hi
structure Sg[Mode](P:Program)(ops:Array Oper)(st:St)(seg:List aO)(ap:Option (Nat×Nat))(cs:List D)(bH:Nat->St):Prop where
 len:cs.length=seg.length
 q:∀m s,seg[m]?=some s->s.k.eL=false\/∃b,ap=some (st.n+m,b)
 cont:∀m,m<=seg.length->(bH m).cont=cJ ap st.cont st.n cs fun i=>decide (i<st.n+m)
 f:∀(i:Nat)(s:aO),seg[i]?=some s->s.k.eL=false->tM P s (bH i) (cs.getD i .dead)
 ap:∀e b,ap=some (e,b)->∃m sz bytes t,e=st.n+m/\seg[m]?=some ⟨none,.dw sz bytes b t⟩/\sz=1/\qN (bH m).cont bytes b t (cs.getD m .dead) /\
  ∀m' s',seg[m']?=some s'->m'≠m->b ∉ s'.k.reads/\(∀want,s'.g≠some (b,want))/\(m'<m\/dy (cF [] ops.toList) (st.n+m') e=true\/(cs.getD m' .dead).refs (bO (1000+b)))
 wf:(bH seg.length).wf
 n:(bH seg.length).n=st.n+seg.length
theorem Sg.ue[Mode]{st:St}{seg:List aO}{ap:Option (Nat×Nat)}{cs:List D}{bH:Nat->St}(h:Sg P ops st seg ap cs bH):∀e b,ap=some (e,b)->st.n<=e/\e<st.n+cs.length:=fun e b he=>by
 obtain⟨m,sz,bytes,t,h1,h2,_⟩:=h.ap e b he;have:=(List.getElem?_eq_some_iff.1 h2).1;rw[h.len];omega
theorem NL[Mode](hR:Rg P nt tr pre ops l kh){st:St}(hkn:kh<=st.n)(_:st.wf){seg rest:List aO}(hl:l.drop st.n=seg++rest)(hb:rest=[]\/∃e r,rest=e::r/\e.k.eL=true/\e.k.jJ=false)
  {ap:Option (Nat×Nat)} {cs:List D} {bH:Nat->St} (hg:Sg P ops st seg ap cs bH)
  (hK:∀(fuel:Nat)(T:Array Bool)(a:Act)(w:World),iF ops T->(∀i,i<ops.size->(T.getD i false=true↔i<st.n+seg.length))->ek ops T<=fuel->Fm cx nt tr pre (bx ops.toList l) (bH seg.length) a w->wpAny P .any ops Q fuel T a w) :
  ∀(fuel:Nat)(T:Array Bool)(a:Act)(w:World),iF ops T->(∀i,i<st.n->T.getD i false=true)->(∀i,st.n+seg.length<=i->i<ops.size->T.getD i false=false)->ek ops T<=fuel ->
   Fd cx nt tr pre (bx ops.toList l) (cJ ap st.cont st.n cs fun i=>T.getD i false) (fun i=>T.getD i false=true) a w->wpAny P .any ops Q fuel T a w:=by
 have hlen:=hg.len;have hfc:=hg.cont seg.length (Nat.le_refl _);have hfn:=hg.n;rw[<-hlen] at hfc hfn;have hsl:∀i,l[st.n+i]?=(seg++rest)[i]?:=fun i=>by rw[<-hl,List.getElem?_drop]
 have hll:l.length-st.n=seg.length+rest.length:=by have:=congrArg List.length hl;simpa using this
 intro fuel;induction fuel with
 | zero =>
  intro T a w hT h1 h2 hu h;refine hK 0 T a w hT (fun i hi=>⟨fun ht=>?_,fun hlt=>?_⟩) hu ?_
  ·apply Classical.byContradiction;intro hn;rw[h2 i (by omega) hi] at ht;cases ht
  ·cases ht:T.getD i false with
   | true=>rfl
   | false=>have:=qD hi ht;omega
  ·have hall:∀i,st.n<=i->i<st.n+cs.length->T.getD i false=true:=by
    intro i ha hb';cases ht:T.getD i false with
    | true=>rfl
    | false=>have:=qD (ops:=ops) (i:=i) (by rw[hR.size];omega) ht;omega
   have:=EU (fin:=bH cs.length) (by rw[hlen];exact hg.wf) hfn hfc hg.ue h hall h1
   rwa [hlen] at this
 | succ fuel ih =>
  intro T a w hT h1 h2 hu h;by_cases hall:∀i,st.n<=i->i<st.n+cs.length->T.getD i false=true
  ·refine hK (fuel+1) T a w hT (fun i hi=>⟨fun ht=>?_,fun hlt=>?_⟩) hu (by
    have:=EU (fin:=bH cs.length) (by rw[hlen];exact hg.wf) hfn hfc hg.ue h hall h1
    rwa [hlen] at this)
   ·apply Classical.byContradiction;intro hn;rw[h2 i (by omega) hi] at ht;cases ht
   ·by_cases hi':i<st.n
    ·exact h1 i hi'
    ·exact hall i (by omega) (by omega)
  ·simp only[Classical.not_forall] at hall
   obtain⟨i0,ha,hb0,hu0⟩:=hall;have hu0:T.getD i0 false=false:=by simpa using hu0
   have hi0:i0<ops.size:=by rw[hR.size];omega
   refine⟨fun hr=>absurd hr (wM hR.uL hT.1 hi0 hu0),fun i hi=>?_⟩;obtain⟨hio,hiu,hic⟩:=ox hT hi
   have hige:st.n<=i:=by
    apply Classical.byContradiction;intro hn;rw[h1 i (by omega)] at hiu;cases hiu
   have hilt:i<st.n+seg.length:=by
    apply Classical.byContradiction;intro hn;rcases hb with rfl | ⟨e,r,rfl,he,hea⟩
    ·simp only[List.length_nil] at hll;rw[hR.size] at hio;omega
    ·have hle:l[st.n+seg.length]?=some e:=by rw[hsl,List.getElem?_append_right (Nat.le_refl _)];simp
     obtain⟨d1,d2⟩:=(hR.dr hle).2.2.1 he hea;by_cases hie:i=st.n+seg.length
     ·subst hie
      rw[hic i0 (d1 i0 (by omega) (by omega))] at hu0;cases hu0
     ·have:=hic _ (d2 i (by omega) (by rw[<-hR.size];exact hio))
      rw[h2 _ (Nat.le_refl _) (by omega)] at this;cases this
   obtain⟨m,rfl⟩:∃m,i=st.n+m:=⟨i-st.n,by omega⟩;have hm:m<seg.length:=by omega
   have hs:seg[m]?=some seg[m]:=List.getElem?_eq_getElem hm;have hls:l[st.n+m]?=some seg[m]:=by rw[hsl,List.getElem?_append_left hm,hs]
   generalize hsm:seg[m]=s at hs hls;obtain⟨o,ho,hd,hlt,hasg,hgd,hk,hreads,hxs⟩:=hR.op hls;obtain⟨r1,r2,_⟩:=hR.dr hls;have hcm:=hg.cont m (by omega);have hout:∀k,1000+st.n<=k->st.cont k=.dead:=fun k hk=>St.bZ (by simp only[St.in,not_or,not_and];omega)
   have hval:∀j,j<st.n+m->T.getD j false=true->(∀e b,ap=some (e,b)->T.getD e false=true\/e<st.n+m->j≠b)->(bH m).cont (1000+j)=cJ ap st.cont st.n cs (fun i=>T.getD i false) (1000+j):=by
    intro j hj ht hjb;rw[hcm,mT fun e b he h1 h2=>hjb e b he (.inr (by simpa using h1)) (by omega),mT fun e b he h1 h2=>hjb e b he (.inl h1) (by omega)];unfold b8;by_cases hjn:st.n<=j
    ·rw[if_pos (by omega),if_pos (by omega),show 1000+j-1000=j by omega]
     dsimp only;rw[ht,decide_eq_true hj]
    ·rw[if_neg (by omega),if_neg (by omega)]
   have hct:(cJ ap st.cont st.n cs (fun i=>T.getD i false) (1000+(st.n+m))).isObj=false:=by
    cases ho:(cJ ap st.cont st.n cs (fun i=>T.getD i false) (1000+(st.n+m))).isObj with
    | false=>rfl
    | true =>
     have:=xj ho;rw[this,lE (by omega) (by omega),hiu] at ho;cases ho
   have hnext':∀a' w',Fd cx nt tr pre (bx ops.toList l) (cJ ap st.cont st.n cs fun i=>(T.setIfInBounds (st.n+m) true).getD i false) (fun j=>T.getD j false=true\/j=st.n+m) a' w' ->
     wpAny P .any ops Q fuel (T.setIfInBounds (st.n+m) true) a' w':=by
    intro a' w' hF;refine ih _ a' w' (pv hT hio hic) (fun j hj=>?_) (fun j hj hj'=>?_) ?_ ?_
    ·rw[fM (by omega)];exact h1 j hj
    ·rw[fM (by omega)];exact h2 j hj hj'
    ·have:=qE hT.1 hio hiu;omega
    ·obtain⟨⟨vl,fp,G,e1,e2,e3,egh⟩,e4,e5,e6⟩:=hF
     refine⟨⟨vl,fp,G,e1,e2,fun j t hj=>e3 j t ?_,egh⟩,e4,e5,e6⟩;by_cases hji:st.n+m=j
     ·exact .inr hji.symm
     ·rw[fM hji] at hj;exact .inl hj
   by_cases hse:s.k.eL=false
   case neg =>
    rcases hg.q m s hs with hh | ⟨b,hap⟩
    ·exact absurd hh hse
    obtain⟨m',sz,bytes,t,q1,q2,rfl,hF,q3⟩:=hg.ap _ _ hap;have hmm:m'=m:=by omega
    subst hmm;rw[hs] at q2;injection q2 with q2
    subst q2;subst hap;have hbl:b<st.n+m':=hreads b (by simp[Kp.reads]);have htl:t<st.n+m':=hreads t (by simp[Kp.reads]);have hbT:T.getD b false=true:=hic b (r1 b (by simp[Kp.reads]));have htT:T.getD t false=true:=hic t (r1 t (by simp[Kp.reads]))
    have hnev:∀{k:Nat},¬((fun i=>T.getD i false) (st.n+m')=true/\k=1000+b):=fun hh=>by
     have:=hh.1;simp only[hiu] at this;cases this
    have hnev2:∀{k:Nat},¬((fun i=>decide (i<st.n+m')) (st.n+m')=true/\k=1000+b):=fun hh=>by
     have:=hh.1;simp at this
    have hvac:∀j e b',some (st.n+m',b)=some (e,b')->T.getD e false=true\/e<st.n+m'->j≠b':=fun j e b' he hor=>by
     injection he with he
     injection he with he1 he2
     subst he1;rw[hiu] at hor;rcases hor with hh | hh
     ·cases hh
     ·omega
    have hF':qN (cJ (some (st.n+m',b)) st.cont st.n cs fun i=>T.getD i false) bytes b t (cs.getD m' .dead):=by
     obtain⟨y,z0,l0,mm,g1,g2,g3,g4,g5,g6,g7,g8⟩:=hF;refine⟨y,z0,l0,mm,by rw[<-hval b hbl hbT (hvac b)];exact g1,g2,g3,by rw[<-hval t htl htT (hvac t)];exact g4,g5,g6,g7,fun k=>?_⟩;rw[fu hnev];by_cases hr : 1000+st.n<=k/\k<1000+st.n+cs.length
     ·obtain⟨i,rfl⟩:∃i,k=1000+i:=⟨k-1000,by omega⟩
      rw[lE (by omega) (by omega)];cases ht:T.getD i false with
      | false=>exact trivial
      | true =>
       by_cases him:i<st.n+m'
       ·have:=g8 (1000+i)
        rw[hcm,fu hnev2,lE (by omega) (by omega),decide_eq_true him] at this;exact this
       ·have hne:i≠st.n+m':=fun hh=>by rw[hh,hiu] at ht;cases ht
        obtain⟨s',hs'⟩:∃s',seg[i-st.n]?=some s':=⟨_,List.getElem?_eq_getElem (by omega)⟩;rcases(q3 (i-st.n) s' hs' (by omega)).2.2 with hh | hh | hh
        ·omega
        ·rw[show st.n+(i-st.n)=i by omega] at hh
         have:=hT.2 i ht _ hh;rw[hiu] at this;cases this
        ·exact hh
     ·rw[mX hr]
      have:=g8 k;rw[hcm,fu hnev2,mX hr] at this;exact this
    have hog:o.guard=none:=by
     cases hog:o.guard with
     | none=>rfl
     | some gg=>rw[hog] at hgd;cases hgd
    unfold wpOp;rw[ho];simp only;have hw:Region.wanted o (yielded ops a.tmps)=true:=by simp[Region.wanted,hog]
    rw[if_pos hw];refine .inl ?_;obtain⟨vl,fp,G,hp,htr,htm,hgh⟩:=h.ex;simp only[aQ] at hk;split at hk<;>try(cases hk;done)
    rename_i s' x' t0 t' hop;have hob:=lq hop;simp only[Bool.and_eq_true,beq_iff_eq] at hk;obtain⟨⟨⟨hk1,hk2⟩,rfl⟩,hk3⟩:=hk;split at hk3<;>try(cases hk3;done)
    rename_i e he;simp only[Bool.and_eq_true] at hk3;obtain⟨hk4,hk5⟩:=hk3;split at hk5<;>try(cases hk5;done)
    rename_i i hi;simp only[Bool.and_eq_true,decide_eq_true_eq,Option.any_eq_true] at hk5;obtain⟨⟨⟨hsz,hby⟩,hisz⟩,z,hz,hzs⟩:=hk5
    have hbi:i.bytes=bytes:=by
     unfold l7 at hk4;rw[hi] at hk4;simpa using hk4
    have hty:=gP he;obtain⟨v',w',hrun,fp',G',hp'⟩:=zu (ty:=o.type) (ke:=1000+(st.n+m')) hp hF' (by rw[fu hnev,lE (by omega) (by omega),hiu];rfl) hty hi hz hzs hisz hbi hby;have hvb:(a.eval s')=vl (1000+b):=rQ hk1 fun t2=>htm b t2 hbT
    have hvs:(a.eval x')=vl (1000+t):=rQ hk2 fun t2=>htm t t2 htT
    rw[<-hvb,<-hvs] at hrun;refine gD (v:=v') (w':=w') ?_ (hnext' _ _ ?_)
    ·simp only[execOp,hob,resolve,invoke,builtin,Sem.run_bind,Sem.run_pure,Result.andThen_ok,List.map_toArray,List.map_cons,List.map_nil,hrun]
    ·rw[NI (by omega) (by omega) (by rw[hT.1];exact hio) hiu (by omega),show st.n+m'-st.n=m' by omega]
     exact Fd.CT hR.jm (fun j hj=>by
      by_cases hjb:j=1000+b
      ·subst hjb;exact aT _ _ _
      ·rw[av _ _ hjb];exact h.dd j hj) h.size h.defers hd rfl hlt htr htm hgh ⟨_,_,hp'⟩
   have hne:∀e b,ap=some (e,b)->st.n+m≠e:=fun e b he hh=>by
    obtain⟨m',sz,bytes,t,q1,q2,_⟩:=hg.ap e b he;have:m'=m:=by omega
    subst this;rw[hs] at q2;injection q2 with q2
    rw[q2] at hse;cases hse
   have hnr:∀e b,ap=some (e,b)->b ∉ s.k.reads/\∀want,s.g≠some (b,want):=fun e b he=>by
    obtain⟨m',sz,bytes,t,q1,q2,_,_,q3⟩:=hg.ap e b he;have:=q3 m s hs (fun hh=>hne e b he (by omega));exact⟨this.1,this.2.1⟩
   have hna:s.k.cA=none:=by
    revert hse;cases s.k<;>simp[Kp.eL,Kp.cA]
   have hop:=hg.f m s hs hse;have hout:∀k,1000+st.n<=k->st.cont k=.dead:=fun k hk=>St.bZ (by simp only[St.in,not_or,not_and];omega)
   have hrd:∀y,y∈s.k.xs->∀x,aA (bx ops.toList l) tr x y=true->(bH m).rd y=mP (cJ ap st.cont st.n cs fun i=>T.getD i false) y:=by
    intro y hy x hxy;rw[<-Mb];cases y with
    | t j =>
     have hj:=sR hy;show bB _ _=bB _ _;rw[hval j (hreads j hj) (hic j (r1 j hj)) fun e b he _ hjb=>(hnr e b he).1 (hjb▸hj)]
    | v j =>
     have hj:j<1000:=by
      have hjt:∃t,tr[j]?=some t:=by
       cases x
       case tmp t=>exact⟨t,by simpa[aA] using hxy⟩
       all_goals(unfold aA at hxy;split at hxy<;>first | contradiction | cases hxy)
      obtain⟨t,ht⟩:=hjt;have:=(List.getElem?_eq_some_iff.1 ht).1;have:=hR.jm.fD;omega
     show bB _ _=bB _ _;rw[hcm,mT fun e b _ _ hh=>by omega,mT fun e b _ _ hh=>by omega];unfold b8;rw[if_neg (by omega),if_neg (by omega)]
    | i n=>rfl
    | k d=>rfl
    | g n=>rfl
   have hme:∀k,((bH m).cont k).isObj=true->b8 st.cont st.n cs (fun _=>true) k=(bH m).cont k:=by
    intro k hk;rw[hcm] at hk|-
    have hsa:=xj hk;rw[hsa] at hk|-
    by_cases hr : 1000+st.n<=k/\k<1000+st.n+cs.length
    ·obtain⟨i,rfl⟩:∃i,k=1000+i:=⟨k-1000,by omega⟩
     rw[lE (by omega) (by omega)] at hk|-
     rw[lE (by omega) (by omega)];cases ht:decide (i<st.n+m) with
     | true=>rfl
     | false=>rw[ht] at hk;cases hk
    ·rw[mX hr,mX hr]
   have hmono:∀k c,lk (bH m).cont k=some c->lk (b8 st.cont st.n cs fun _=>true) k=some c:=by
    intro k c hk;unfold lk at hk|-
    split at hk
    ·rename_i ho'
     rw[hme k ho',if_pos ho'];exact hk
    ·cases hk
   have hob:∀j,(cJ ap st.cont st.n cs (fun i=>T.getD i false) j).isObj=true->b8 st.cont st.n cs (fun _=>true) j=cJ ap st.cont st.n cs (fun i=>T.getD i false) j:=by
    intro j hj;have hsa:=xj hj;rw[hsa] at hj|-
    by_cases hr : 1000+st.n<=j/\j<1000+st.n+cs.length
    ·obtain⟨i,rfl⟩:∃i,j=1000+i:=⟨j-1000,by omega⟩
     rw[lE (by omega) (by omega)] at hj|-
     rw[lE (by omega) (by omega)];cases ht:T.getD i false with
     | true=>rfl
     | false=>rw[ht] at hj;cases hj
    ·rw[mX hr,mX hr]
   have hlo1:∀j,j<1000->(bH m).cont j=b8 st.cont st.n cs (fun _=>true) j:=fun j hj=>by
    rw[hcm,mT fun e b _ _ hh=>by omega];unfold b8;rw[if_neg (by omega),if_neg (by omega)]
   have hlo2:∀j,j<1000->b8 st.cont st.n cs (fun _=>true) j=cJ ap st.cont st.n cs (fun i=>T.getD i false) j:=fun j hj=>by
    rw[mT fun e b _ _ hh=>by omega];unfold b8;rw[if_neg (by omega),if_neg (by omega)]
   have hdone:∀j,j∈s.k.reads->T.getD j false=true:=fun j hj=>hic j (r1 j hj)
   have hnext:∀a' w',Fd cx nt tr pre (bx ops.toList l) (aj (cJ ap st.cont st.n cs fun i=>T.getD i false) (1000+(st.n+m)) (cs.getD m .dead)) (fun j=>T.getD j false=true\/j=st.n+m) a' w' ->
     wpAny P .any ops Q fuel (T.setIfInBounds (st.n+m) true) a' w':=by
    intro a' w' hF;refine hnext' a' w' ?_
    rw[NK (by omega) (by omega) (by rw[hT.1];exact hio) (fun e b he=>⟨hne e b he,fun hTe hh=>by
      obtain⟨m',sz,bytes,t,q1,q2,_⟩:=hg.ap e b he;have hle:l[e]?=some ⟨none,.dw sz bytes b t⟩:=by rw[q1,hsl,List.getElem?_append_left (List.getElem?_eq_some_iff.1 q2).1,q2]
      have:=hT.2 e hTe b ((hR.dr hle).1 b (by simp[Kp.reads]))
      rw[<-hh,hiu] at this;cases this⟩),show st.n+m-st.n=m by omega]
    exact hF
   unfold wpOp;rw[ho];simp only;obtain⟨g0,k⟩:=s;cases hog:o.guard with
   | none =>
    cases g0 with
    | some _=>rw[hog] at hgd;cases hgd
    | none =>
     have hw:Region.wanted o (yielded ops a.tmps)=true:=by simp[Region.wanted,hog]
     rw[if_pos hw];exact .inl (Oper.wp_mono hnext (C9 hR.jm h hct (g:=none) (by simp) hk hd hna hlt hrd hdone hxs hob hlo2 (iG.mono hmono hlo1 hop)))
   | some gg =>
    obtain⟨j,want⟩:=gg;cases g0 with
    | none=>rw[hog] at hgd;cases hgd
    | some g1 =>
     obtain⟨i',want'⟩:=g1;rw[hog] at hgd;simp only[Bool.and_eq_true,beq_iff_eq,decide_eq_true_eq] at hgd;obtain⟨⟨⟨rfl,rfl⟩,hjn⟩,hj2⟩:=hgd
     have hjd:∃t,(bx ops.toList l)[j]?=some (some t):=by
      split at hj2
      ·exact⟨_,by assumption⟩
      ·cases hj2
     obtain⟨t,hjd⟩:=hjd;obtain⟨b,hgb,hop⟩:=hop;have hjT:T.getD j false=true:=hic j (r2 j want rfl)
     have hwb:Region.wanted o (yielded ops a.tmps)=b:=by
      simp only[Region.wanted,hog];refine Hn h hjT hjd (by have:=qu hjd;simpa using this) ?_;rw[<-hgb];show gd (bB _ _) _=gd (bB _ _) _;rw[hval j hjn hjT fun e b' he _ hjb=>(hnr e b' he).2 want (by rw[hjb])]
     cases b with
     | true =>
      rw[if_pos hwb];exact .inl (Oper.wp_mono hnext (C9 hR.jm h hct (g:=some true) (by simp) hk hd hna hlt hrd hdone hxs hob hlo2 (iG.mono hmono hlo1 hop)))
     | false =>
      rw[if_neg (by rw[hwb];simp)];exact hnext _ _ (L9 hR.jm h hct hd hna hlt hop)
theorem CW{st:St}{k:Nat}(h1 : 1000<=k)(hk:k<1000+st.n)(c d:D):(st.put k c).push d=(st.push d).put k c:=by
 have e1:st.put k c=⟨st.env,st.n,cL st.tmp (999+st.n-k) c⟩:=by unfold St.put;rw[if_neg (by omega),if_pos hk]
 have e2:(st.push d).put k c=⟨st.env,st.n+1,cL (d::st.tmp) (999+(st.n+1)-k) c⟩:=by
  unfold St.put;rw[if_neg (by omega),if_pos (by show k<1000+(st.n+1);omega)];rfl
 rw[e1,e2,show 999+(st.n+1)-k=(999+st.n-k)+1 by omega];rfl
theorem CS{k:Nat}(h1 : 1000<=k)(c:D):∀(cs:List D){st:St},st.wf->k<1000+st.n->bW (st.put k c) cs=(bW st cs).put k c
 | [],st,_,_=>rfl
 | d::cs,st,hw,hk=>by
  show bW ((st.put k c).push d) cs=(bW (st.push d) cs).put k c;rw[CW h1 hk];exact CS h1 c cs (St.dW hw d) (by show k<1000+(st.n+1);omega)
theorem L8(st:St)(a b:List D):bW st (a++b)=bW (bW st a) b:=by unfold bW;rw[List.foldl_append]
theorem JQ{k:Kp}(h:(match k with | .mv (.v _)=>true | _=>false)=true):∃j,k=Kp.mv (.v j):=by
 cases k<;>try(cases h;done)
 rename_i x;cases x<;>try(cases h;done)
 exact⟨_,rfl⟩
theorem HL{ds:List (Option Nat)}{tr:List Nat}{x:Operand}{j:Nat}(h:aA ds tr x (.v j)=true):∃t,tr[j]?=some t:=by
 cases x
 case tmp t=>exact⟨t,by simpa[aA] using h⟩
 all_goals(unfold aA at h;split at h<;>first | contradiction | cases h)
theorem NM[Mode](hR:Rg P nt tr pre ops l kh){K:St->Prop}{sl:List aO}{st:St}(hl:l.drop st.n=sl)(hwf:st.wf)(hv:bA P K sl st) :
  ∃seg rest ap cs bH,sl=seg++rest/\(rest=[]\/∃e r,rest=e::r/\e.k.eL=true/\e.k.jJ=false)/\Sg P ops st seg ap cs bH/\bA P K rest (bH seg.length):=by
 obtain⟨s1,r1,rfl,hq1,hb1⟩:=xD sl;obtain⟨cs1,hlen1,hf1,hv1⟩:=xl s1 r1 hv hq1;have hsl:∀i,l[st.n+i]?=(s1++r1)[i]?:=fun i=>by rw[<-hl,List.getElem?_drop]
 obtain⟨pw1,pn1⟩:=sO cs1 hwf
 have quiet:(r1=[]\/∃e r,r1=e::r/\e.k.eL=true/\e.k.jJ=false)->∃seg rest ap cs bH,s1++r1=seg++rest/\(rest=[]\/∃e r,rest=e::r/\e.k.eL=true/\e.k.jJ=false)/\Sg P ops st seg ap cs bH/\bA P K rest (bH seg.length):=by
  intro hb;have htk:cs1.take s1.length=cs1:=by rw[<-hlen1,List.take_length]
  refine⟨s1,r1,none,cs1,fun m=>bW st (cs1.take m),rfl,hb,⟨hlen1,fun m s hs=>.inl (hq1 s (List.mem_of_getElem? hs)),fun m hm=>?_,fun i s hs _=>hf1 i s hs,fun e b he=>(by cases he),?_,?_⟩,?_⟩
  ·rw[qn _ hwf];exact xk (by omega)
  ·rw[htk];exact pw1
  ·rw[htk,pn1,hlen1]
  ·dsimp only;rw[htk];exact hv1
 rcases hb1 with rfl | ⟨e,r,rfl,he⟩
 ·exact quiet (.inl rfl)
 by_cases hap:e.k.jJ=false
 ·exact quiet (.inr ⟨e,r,rfl,he,hap⟩)
 obtain⟨g,k⟩:=e
 obtain⟨sz,bytes,b,t,rfl⟩:∃sz bytes b t,k=.dw sz bytes b t:=by
  cases k<;>first | exact⟨_,_,_,_,rfl⟩ | exact absurd rfl hap
 have hg:g=none:=by
  cases g with
  | none=>rfl
  | some gg =>
   obtain⟨j,want⟩:=gg;simp only[bA,ib] at hv1;split at hv1
   ·cases hv1.1
   ·exact hv1.elim
 subst hg;obtain⟨_,hv1⟩:=hv1;obtain⟨rfl,c,hF,hlate,hv2⟩:=zx hv1;obtain⟨s2,r2,rfl,hq2,hb2⟩:=xD r;have hle:l[st.n+s1.length]?=some ⟨none,.dw 1 bytes b t⟩:=by rw[hsl,List.getElem?_append_right (Nat.le_refl _)];simp
 have hD:=(hR.dr hle).2.2.2 1 bytes b t rfl;simp only[uf,List.all_eq_true] at hD
 have hD':∀m' s',(s1++⟨none,.dw 1 bytes b t⟩::(s2++r2))[m']?=some s'->m'≠s1.length->s'.k.jJ=false/\b ∉ s'.k.reads/\(∀want,s'.g≠some (b,want))/\(m'<s1.length\/dy (cF [] ops.toList) (st.n+m') (st.n+s1.length)=true\/s'.vi=true):=by
  intro m' s' hs' hne;have hs'':l[st.n+m']?=some s':=by rw[hsl,hs']
  have:=hD (s',st.n+m') (List.mem_zipIdx_iff_getElem?.2 hs'');rw[Bool.or_eq_true] at this;have:=this.resolve_left (by simp only[decide_eq_true_eq];omega);simp only[Bool.and_eq_true,Bool.or_eq_true,Bool.not_eq_true',decide_eq_true_eq] at this;obtain⟨⟨⟨q1,q2⟩,q3⟩,q4⟩:=this;refine⟨q1,fun hh=>?_,fun want hh=>?_,?_⟩
  ·rw[List.contains_iff_mem.2 hh] at q2;cases q2
  ·rw[hh] at q3;simp at q3
  ·rcases q4 with(q4 | q4) | q4
   ·exact .inl (by omega)
   ·exact .inr (.inl q4)
   ·exact .inr (.inr q4)
 have hbl:b<st.n+s1.length:=by
  obtain⟨o,_,_,_,_,_,_,h6,_⟩:=hR.op hle;exact h6 b (by simp[Kp.reads])
 have hb2':r2=[]\/∃e r,r2=e::r/\e.k.eL=true/\e.k.jJ=false:=by
  rcases hb2 with h | ⟨e,r,rfl,he2⟩
  ·exact .inl h
  ·exact .inr ⟨e,r,rfl,he2,(hD' (s1.length+1+s2.length) e (by
    rw[List.getElem?_append_right (by omega),show s1.length+1+s2.length-s1.length=s2.length+1 by omega,List.getElem?_cons_succ,List.getElem?_append_right (Nat.le_refl _)];simp) (by omega)).1⟩
 obtain⟨cs2,hlen2,hf2,hv3⟩:=xl s2 r2 hv2 hq2;have hk1000 : 1000<=1000+b:=by omega
 have hpn:(bW st cs1).n=st.n+s1.length:=by rw[pn1,hlen1]
 have hput:∀m2,bW (((bW st cs1).put (1000+b) .dead).push c) (cs2.take m2)=(bW st ((cs1++c::cs2).take (s1.length+1+m2))).put (1000+b) .dead:=by
  intro m2;rw[CW hk1000 (by omega),CS hk1000 _ _ (St.dW pw1 c) (by show _<1000+((bW st cs1).n+1);omega)];congr 1
  rw[show(cs1++c::cs2).take (s1.length+1+m2)=cs1++(c::cs2.take m2) by
   rw[show s1.length+1+m2=cs1.length+(m2+1) by omega,List.take_length_add_append,List.take_succ_cons],L8]
  rfl
 have htl:(cs1++c::cs2).take (s1.length+1+s2.length)=cs1++c::cs2:=List.take_of_length_le (by simp;omega);have hsegl:(s1++⟨none,.dw 1 bytes b t⟩::s2).length=s1.length+1+s2.length:=by simp;omega
 have htl1:∀m,m<=s1.length->(cs1++c::cs2).take m=cs1.take m:=fun m hm=>List.take_append_of_le_length (by omega)
 obtain⟨pwf,pnf⟩:=sO (cs1++c::cs2) hwf
 have hfin:bW (((bW st cs1).put (1000+b) .dead).push c) cs2=(bW st (cs1++c::cs2)).put (1000+b) .dead:=by
  have:=hput s2.length
  rwa [htl,<-hlen2,List.take_length] at this
 refine⟨s1++⟨none,.dw 1 bytes b t⟩::s2,r2,some (st.n+s1.length,b),cs1++c::cs2,fun m=>if m<=s1.length then bW st ((cs1++c::cs2).take m) else(bW st ((cs1++c::cs2).take m)).put (1000+b) .dead,by simp,hb2',⟨by simp;omega,fun m s hs=>?_,fun m hm=>?_,fun i s hs hse=>?_,fun e' b' he'=>?_,?_,?_⟩,?_⟩
 ·by_cases hm:m<s1.length
  ·rw[List.getElem?_append_left hm] at hs
   exact .inl (hq1 s (List.mem_of_getElem? hs))
  ·rw[List.getElem?_append_right (by omega)] at hs
   by_cases hm2:m=s1.length
   ·subst hm2;exact .inr ⟨b,rfl⟩
   ·rw[show m-s1.length=(m-s1.length-1)+1 by omega,List.getElem?_cons_succ] at hs
    exact .inl (hq2 s (List.mem_of_getElem? hs))
 ·rw[hsegl] at hm
  have hcl:(cs1++c::cs2).length=s1.length+1+s2.length:=by simp;omega
  split
  ·rename_i hm1
   rw[qn _ hwf,xk (by omega)];funext k;exact(fu (fun hh=>by have:=hh.1;simp only[decide_eq_true_eq] at this;omega)).symm
  ·rename_i hm1
   obtain⟨pw,pn⟩:=sO ((cs1++c::cs2).take m) hwf;have hlm:((cs1++c::cs2).take m).length=m:=by simp;omega
   rw[St.c7 pw (.inr ⟨hk1000,by rw[pn,hlm];omega⟩),qn _ hwf,xk (by omega)];funext k;by_cases hk:k=1000+b
   ·subst hk;rw[aT,mW ⟨by simp only[decide_eq_true_eq];omega,rfl⟩]
   ·rw[av _ _ hk,fu fun hh=>hk hh.2]
 ·by_cases hm:i<s1.length
  ·rw[List.getElem?_append_left hm] at hs
   have:=hf1 i s hs;rw[if_pos (by omega),htl1 i (by omega)]
   rwa [List.getD_eq_getElem?_getD,List.getElem?_append_left (by omega),<-List.getD_eq_getElem?_getD]
  ·rw[List.getElem?_append_right (by omega)] at hs
   by_cases hm2:i=s1.length
   ·subst hm2
    simp at hs;subst hs;cases hse
   ·obtain⟨m2,rfl⟩:∃m2,i=s1.length+1+m2:=⟨i-s1.length-1,by omega⟩
    rw[show s1.length+1+m2-s1.length=m2+1 by omega,List.getElem?_cons_succ] at hs;have:=hf2 m2 s hs;rw[hput m2] at this;rw[if_neg (by omega),List.getD_eq_getElem?_getD,List.getElem?_append_right (by omega),show s1.length+1+m2-cs1.length=m2+1 by omega,List.getElem?_cons_succ,<-List.getD_eq_getElem?_getD];exact this
 ·injection he' with he'
  injection he' with he1 he2
  subst he1;subst he2;refine⟨s1.length,1,bytes,t,rfl,by rw[List.getElem?_append_right (Nat.le_refl _)];simp,rfl,?_,fun m' s' hs' hne=>?_⟩
  ·rw[if_pos (Nat.le_refl _),htl1 _ (Nat.le_refl _),List.take_of_length_le (by omega),List.getD_eq_getElem?_getD,List.getElem?_append_right (by omega),hlen1,Nat.sub_self]
   exact hF
  ·have hlt:=(List.getElem?_eq_some_iff.1 hs').1
   rw[hsegl] at hlt
   have hs2:(s1++⟨none,.dw 1 bytes b t⟩::(s2++r2))[m']?=some s':=by
    rw[show s1++(⟨none,.dw 1 bytes b t⟩:aO)::(s2++r2)=(s1++⟨none,.dw 1 bytes b t⟩::s2)++r2 by simp,List.getElem?_append_left (by rw[hsegl];exact hlt)];exact hs'
   obtain⟨_,q2,q3,q4⟩:=hD' m' s' hs2 hne;refine⟨q2,q3,?_⟩;rcases q4 with q4 | q4 | q4
   ·exact .inl q4
   ·exact .inr (.inl q4)
   by_cases hlm:m'<s1.length
   ·exact .inl hlm
   refine .inr (.inr ?_);obtain⟨m2,rfl⟩:∃m2,m'=s1.length+1+m2:=⟨m'-s1.length-1,by omega⟩
   have hs3:s2[m2]?=some s':=by
    rw[List.getElem?_append_right (by omega),show s1.length+1+m2-s1.length=m2+1 by omega,List.getElem?_cons_succ] at hs';exact hs'
   have hat:=hf2 m2 s' hs3;rw[List.getD_eq_getElem?_getD,List.getElem?_append_right (by omega),show s1.length+1+m2-cs1.length=m2+1 by omega,List.getElem?_cons_succ,<-List.getD_eq_getElem?_getD];have hls':l[st.n+(s1.length+1+m2)]?=some s':=by rw[hsl,hs2]
   obtain⟨o,_,_,_,_,_,hisK,_,_⟩:=hR.op hls';obtain⟨g',k'⟩:=s';simp only[aO.vi,Bool.and_eq_true] at q4;obtain⟨q5,q6⟩:=q4;cases g' with
   | some _=>cases q5
   | none =>
   have hex:=JQ q6;obtain⟨j,rfl⟩:=hex
   have hj:j<1000:=by
    simp only[aQ] at hisK;split at hisK<;>try(cases hisK;done)
    rename_i x' _;have hjt:=HL hisK;obtain⟨t,ht⟩:=hjt;have:=(List.getElem?_eq_some_iff.1 ht).1;have:=hR.jm.fD;omega
   rcases hat with⟨side,res,h1,_,_,h4⟩ | ⟨h1,_⟩
   ·rw[h4]
    have hwp:(((bW st cs1).put (1000+b) .dead).push c).wf:=St.dW (St.dM pw1 _ _) _
    have hcont:(bW (((bW st cs1).put (1000+b) .dead).push c) (cs2.take m2)).cont j=(bW st cs1).cont j:=by
     rw[qn _ hwp,mX (by omega),St.cm (St.dM pw1 _ _),av _ _ (by omega),St.c7 pw1 (.inr ⟨hk1000,by omega⟩),av _ _ (by omega)]
    have hres:res=(bB j ((bW st cs1).cont j)).core:=by
     rw[<-hcont];simp only[bn,g1,one,Option.some.injEq,Prod.mk.injEq] at h1;exact h1.2.symm
    rw[hres];exact hlate j hj
   ·cases h1
 ·rw[hsegl]
  rw[if_neg (by omega),htl];exact St.dM pwf _ _
 ·rw[hsegl]
  rw[if_neg (by omega),htl,St.ew,pnf];simp;omega
 ·rw[hsegl]
  dsimp only;rw[if_neg (by omega),htl,<-hfin];exact hv3
theorem uJ[Mode](hR:Rg P nt tr pre ops l kh){K:St->Prop}(hQ:∀a w st,K st->st.n=l.length->Fm cx nt tr pre (bx ops.toList l) st a w->Q .normal a w) :
  ∀(N:Nat)(sl:List aO)(st:St)(fuel:Nat)(T:Array Bool)(a:Act)(w:World),sl.length<N->kh<=st.n->l.drop st.n=sl->st.n<=l.length->Fm cx nt tr pre (bx ops.toList l) st a w->bA P K sl st ->
   iF ops T->(∀i,i<ops.size->(T.getD i false=true↔i<st.n))->ek ops T<=fuel->wpAny P .any ops Q fuel T a w
 | 0,sl,st,fuel,T,a,w,hN,_,_,_,_,_,_,_,_=>by omega
 | N+1,sl,st,fuel,T,a,w,hN,hkn,hl,hn,h,hv,hT,hx,hu=>by
  obtain⟨seg,rest,ap,cs,bH,rfl,hb,hg,hvr⟩:=NM hR hl h.wf hv;have hlen:=hg.len;have hll:l.length-st.n=seg.length+rest.length:=by have:=congrArg List.length hl;simpa using this
  have hsl:∀i,l[st.n+i]?=(seg++rest)[i]?:=fun i=>by rw[<-hl,List.getElem?_drop]
  have pn:=hg.n;refine NL (cx:=cx) hR hkn h.wf hl hb hg (fun fuel T a w hT hx hu h=>?_) fuel T a w hT (fun i hi=>(hx i (by rw[hR.size];omega)).2 hi) (fun i hi hi'=>?_) hu ?_
  ·rcases hb with rfl | ⟨e,r,rfl,he,hea⟩
   ·have hnone:Region.ready .any ops T=[]:=by
     rw[List.eq_nil_iff_forall_not_mem];intro i hi;obtain⟨h1,h2,_⟩:=ox hT hi;rw[(hx i h1).2 (by rw[hR.size] at h1;simp only[List.length_nil] at hll;omega)] at h2;cases h2
    have hq:=hQ a w _ hvr (by rw[pn];simp only[List.length_nil] at hll;omega) h;cases fuel with
    | zero=>exact⟨hnone,hq⟩
    | succ fuel=>exact⟨fun _=>hq,fun i hi=>by rw[hnone] at hi;cases hi⟩
   ·simp only[List.length_cons] at hll
    have hls:l[st.n+seg.length]?=some e:=by rw[hsl,List.getElem?_append_right (Nat.le_refl _)];simp
    have hpo:st.n+seg.length<ops.size:=by rw[hR.size];omega
    have hpu:T.getD (st.n+seg.length) false=false:=by
     cases ht:T.getD (st.n+seg.length) false with
     | false=>rfl
     | true=>have:=(hx _ hpo).1 ht;omega
    cases fuel with
    | zero=>have:=qD hpo hpu;omega
    | succ fuel =>
     refine⟨fun hr=>absurd hr (wM hR.uL hT.1 hpo hpu),fun i hi=>?_⟩;obtain⟨hio,hiu,hic⟩:=ox hT hi;obtain⟨d1,d2⟩:=(hR.dr hls).2.2.1 he hea
     have hie:i=st.n+seg.length:=by
      apply Classical.byContradiction;intro hne;by_cases hlt:i<st.n+seg.length
      ·rw[(hx i hio).2 hlt] at hiu;cases hiu
      ·rw[hic _ (d2 i (by omega) (by rw[<-hR.size];exact hio))] at hpu;cases hpu
     subst hie;obtain⟨o,ho,hd,hlt,hasg,hgd,hk,hreads,hxs⟩:=hR.op hls;have hpn:(bH seg.length).n=st.n+seg.length:=pn;rw[<-hpn] at hd;have hr':∀j,j∈e.k.reads->j<(bH seg.length).n:=fun j hj=>by rw[hpn];exact hreads j hj
     have hnext:∀a' w',(∃st',bA P K r st'/\Fm cx nt tr pre (bx ops.toList l) st' a' w'/\st'.n=(bH seg.length).n+1)->wpAny P .any ops Q fuel (T.setIfInBounds (st.n+seg.length) true) a' w':=by
      rintro a' w' ⟨st',k1,k2,k3⟩;rw[hpn] at k3;refine uJ hR hQ N r st' fuel _ a' w' (by simp only[List.length_append,List.length_cons] at hN;omega) (by omega) ?_ (by omega) k2 k1 (pv hT hio hic) (fun i hi=>?_) ?_
      ·rw[k3,show st.n+seg.length+1=st.n+(seg.length+1) by omega,<-List.drop_drop,hl,List.drop_append]
       simp
      ·by_cases hij:st.n+seg.length=i
       ·subst hij
        rw[gH (by rw[hT.1];exact hi)];simp;omega
       ·rw[fM hij,hx i hi]
        omega
      ·have:=qE hT.1 hio hiu;omega
     unfold wpOp;rw[ho];simp only;obtain⟨g0,k⟩:=e;cases hog:o.guard with
     | none =>
      cases g0 with
      | some _=>rw[hog] at hgd;cases hgd
      | none =>
       have hw:Region.wanted o (yielded ops a.tmps)=true:=by simp[Region.wanted,hog]
       rw[if_pos hw];exact .inl (Oper.wp_mono hnext (qi hR.jm h (g:=none) (by simp) hk hd hasg hlt hr' hxs hvr))
     | some gg =>
      obtain⟨j,want⟩:=gg;cases g0 with
      | none=>rw[hog] at hgd;cases hgd
      | some g1 =>
       obtain⟨i',want'⟩:=g1;rw[hog] at hgd;simp only[Bool.and_eq_true,beq_iff_eq,decide_eq_true_eq] at hgd;obtain⟨⟨⟨rfl,rfl⟩,hjn⟩,hj2⟩:=hgd
       have hjd:∃t,(bx ops.toList l)[j]?=some (some t):=by
        split at hj2
        ·exact⟨_,by assumption⟩
        ·cases hj2
       obtain⟨t,hjd⟩:=hjd
       have hna:k.cA=none:=by
        cases hka:k.cA with
        | none=>rfl
        | some j' =>
         obtain⟨o',_,_,h3,_⟩:=uV hR.fit hls;have:=(h3 j' hka).2.2;cases this
       simp only[bA,ib] at hvr;split at hvr
       ·rename_i b hgb
        have hwb:Region.wanted o (yielded ops a.tmps)=b:=by
         simp only[Region.wanted,hog];exact AY h (by rw[hpn];exact hjn) hjd (by have:=qu hjd;simpa using this) hgb
        cases b with
        | true =>
         rw[if_pos hwb];exact .inl (Oper.wp_mono hnext (qi hR.jm h (g:=some true) (by simp) hk hd hasg hlt hr' hxs hvr))
        | false =>
         rw[if_neg (by rw[hwb];simp)];exact hnext _ _ (E3 hR.jm h hd hna hlt hvr)
       ·exact hvr.elim
  ·cases ht:T.getD i false with
   | false=>rfl
   | true=>have:=(hx i hi').1 ht;omega
  ·obtain⟨⟨vl,fp,G,e1,e2,e3,egh⟩,e4,e5,e6,e7⟩:=h
   have hio:∀i,T.getD i false=true->i<ops.size:=fun i hi=>by
    apply Classical.byContradiction;intro hn;simp[Array.getD,show ¬i<T.size by rw[hT.1];exact hn] at hi
   have hsame:cJ ap st.cont st.n cs (fun i=>T.getD i false)=st.cont:=by
    funext k
    rw[mT fun e b he hTe=>by
     have h1:=(hx e (hio e hTe)).1 hTe;have:=(hg.ue e b he).1
     omega]
    unfold b8;by_cases hr : 1000+st.n<=k/\k<1000+st.n+cs.length
    ·rw[if_pos hr]
     have hk:T.getD (k-1000) false=false:=by
      cases ht:T.getD (k-1000) false with
      | false=>rfl
      | true=>have:=(hx (k-1000) (hio _ ht)).1 ht;omega
     dsimp only;rw[hk,St.bZ (by simp only[St.in,not_or,not_and];omega)];rfl
    ·rw[if_neg hr]
   rw[hsame];refine⟨⟨vl,fp,G,e1,e2,fun i t hi hit=>e3 i t ?_ hit,egh⟩,e5,e6,e7⟩
   have hio:i<ops.size:=by
    apply Classical.byContradiction;intro hn;simp[Array.getD,show ¬i<T.size by rw[hT.1];exact hn] at hi
   exact(hx i hio).1 hi
end
end Go.D3
namespace Go.D3
open Go
section
variable{P:Program}{o:Oper}{w:World}{A:Nat->Prop}{ct:Nat->D}{vl:Nat->Value}{a:Act}{ds:List (Option Nat)}{tr:List Nat}{rd:X->D}{ob:Nat->D}{Q:Exit->Act->World->Prop}
theorem OV{k:Kp}{side:Prop}{res:D}(hv:aO.mo ⟨none,k⟩=true)(hp:bn k rd ob=some (side,res))(hk:aQ P ds tr o k=true)
  (hx:∀y,y∈k.xs->∀x,aA ds tr x y=true->bL w A (aa w ct vl) (a.eval x) (rd y))
  (hok:∀j,∃F,az w A (aa w ct vl) (vl j) F (ct j)) (hs:side):∃v,∀w',Yd P o a w' v:=by
 cases k<;>try(simp[aO.mo] at hv;done)
 case mv y =>
  simp only[aQ] at hk;split at hk<;>try(cases hk;done)
  rename_i x' hop;exact⟨_,fun w'=>qL (sD hop)⟩
 case dc x =>
  simp only[aQ] at hk;split at hk<;>try(cases hk;done)
  rename_i x' hop;have ho:=Cq hop;have hp:g1 (rd x) (kZ (rd x).core)=some (side,res):=hp;obtain⟨s,h1,rfl⟩:=dG hp;have hx':=(hx x (by simp[Kp.xs]) x' hk).1 hs.1;generalize(rd x).core=xx at h1 hx';unfold kZ at h1;split at h1
  all_goals try(cases h1;done)
  ·obtain⟨b,off,e1,_⟩:=ot hx'
   exact⟨_,fun w'=>tJ ho e1⟩
  ·obtain⟨b,off,e1,_⟩:=oZ hok (eP hx')
   exact⟨_,fun w'=>tJ ho e1⟩
  ·obtain⟨cs,e1,_⟩:=lu hx'
   exact⟨_,fun w'=>Fz ho e1⟩
 case fA off x =>
  simp only[aQ] at hk;split at hk<;>try(cases hk;done)
  rename_i t x' f hop;have ho:=Cn hop;simp only[Bool.and_eq_true] at hk;obtain⟨hk1,hk2⟩:=hk;split at hk2
  ·rename_i p0 ft hf
   simp only[Bool.and_eq_true,decide_eq_true_eq,Bool.not_eq_true'] at hk2;obtain⟨⟨rfl,h2⟩,h3⟩:=hk2;have hp:g1 (rd x) (kJ p0 ob (rd x).core)=some (side,res):=hp;obtain⟨s,h1,rfl⟩:=dG hp;have hx':=(hx x (by simp[Kp.xs]) x' hk1).1 hs.1;generalize(rd x).core=xx at h1 hx';unfold kJ at h1;split at h1
   ·rename_i l
    have hrd:Rd w A (a.eval x') (.ptr l):=bK hx' (by simp) (by simp) (by simp) (by simp) (by simp);generalize hv:a.eval x'=v at hrd;cases hrd with
    | @ptr b o' _ hA vs hcells hr=>exact⟨_,fun w'=>tI ho hf h2 h3 hv⟩
   ·obtain⟨b,off,e1,_⟩:=oZ hok (eP hx')
    exact⟨_,fun w'=>tI ho hf h2 h3 e1⟩
   ·cases h1
  ·cases hk2
theorem Dl(ρ:Nat->Nat)(f:Operand->Value)(o:Oper):execOp f (eR ρ o)=execOp f o:=rfl
theorem Dm(ρ:Nat->Nat)(K:Act->World->Prop):(eR ρ o).wp P a w K Q=o.wp P a w K Q:=by
 unfold Oper.wp;rw[Dl];rfl
theorem Dk(ρ:Nat->Nat):(eR ρ o).asks P a w=o.asks P a w:=by
 unfold Oper.asks;rw[Dl]
end
section
variable{P:Program}{md:Region.Mode}{ops ops':Array Oper}{Q:Exit->Act->World->Prop}
theorem O0{n:Nat}{ρ:Nat->Nat}(hs:ops.size=n)(hs':ops'.size=n)(hρ:∀j,j<n->ρ j<n)(hinj:∀i j,i<n->j<n->ρ i=ρ j->i=j)(hsur:∀i,i<n->∃j,j<n/\ρ j=i)
  (hops:∀(j:Nat)(o:Oper),ops[j]?=some o->ops'[ρ j]?=some (eR ρ o)) (hg:∀(j:Nat)(o:Oper)(i:Nat)(b:Bool),ops[j]?=some o->o.guard=some (i,b)->i<n)
  (he:∀(j:Nat)(o:Oper)(e:Edge),ops[j]?=some o->e∈o.after->Region.binds md e=true->e.on<n) :
  ∀(fuel:Nat)(T T':Array Bool)(a:Act)(w:World),T.size=n->T'.size=n->(∀j,j<n->T.getD j false=T'.getD (ρ j) false)->wpAny P md ops' Q fuel T' a w->wpAny P md ops Q fuel T a w:=by
 have rdy:∀(T T':Array Bool),T.size=n->T'.size=n->(∀j,j<n->T.getD j false=T'.getD (ρ j) false)->∀j,j<n->(j∈Region.ready md ops T↔ρ j∈Region.ready md ops' T'):=by
  intro T T' h1 h2 hT j hj;have hoj:ops[j]?=some ops[j]:=Array.getElem?_eq_getElem (by omega);rw[mem_ready,mem_ready,iR (T:=T) (i:=j) (by omega) true,iR (T:=T') (i:=ρ j) (by have:=hρ j hj;omega) true,hT j hj,hoj,hops j _ hoj];refine and_congr Iff.rfl ⟨?_,?_⟩
  ·rintro⟨o,ho,h⟩
   cases ho;refine⟨_,rfl,fun e hem hb=>?_⟩;simp only[eR,Array.mem_map] at hem;obtain⟨e0,he0,rfl⟩:=hem;have hb0:Region.binds md e0=true:=hb;have:=h e0 he0 hb0
   rwa [hT _ (he j _ e0 hoj he0 hb0)] at this
  ·rintro⟨o,ho,h⟩
   cases ho;refine⟨_,rfl,fun e hem hb=>?_⟩;have:=h { e with on:=ρ e.on } (by simp only[eR,Array.mem_map];exact⟨e,hem,rfl⟩) hb
   rwa [hT _ (he j _ e hoj hem hb)]
 have rlt:∀(T:Array Bool)(o:Array Oper),o.size=n->∀i,i∈Region.ready md o T->i<n:=by
  intro T o ho i hi;obtain⟨_,x,hx,_⟩:=mem_ready.1 hi;have:=(Array.getElem?_eq_some_iff.1 hx).1;omega
 have emp:∀(T T':Array Bool),T.size=n->T'.size=n->(∀j,j<n->T.getD j false=T'.getD (ρ j) false)->(Region.ready md ops T=[]↔Region.ready md ops' T'=[]):=by
  intro T T' h1 h2 hT;constructor
  ·intro h
   rw[List.eq_nil_iff_forall_not_mem];intro i hi;obtain⟨j,hj,rfl⟩:=hsur i (rlt _ _ hs' i hi);have:=(rdy T T' h1 h2 hT j hj).2 hi;rw[h] at this;cases this
  ·intro h
   rw[List.eq_nil_iff_forall_not_mem];intro j hj;have:=(rdy T T' h1 h2 hT j (rlt _ _ hs j hj)).1 hj;rw[h] at this;cases this
 intro fuel;induction fuel with
 | zero=>exact fun T T' a w h1 h2 hT h=>⟨(emp T T' h1 h2 hT).2 h.1,h.2⟩
 | succ fuel ih =>
  intro T T' a w h1 h2 hT h;refine⟨fun hr=>h.1 ((emp T T' h1 h2 hT).1 hr),fun j hj=>?_⟩;have hjn:=rlt _ _ hs j hj;have hw:=h.2 (ρ j) ((rdy T T' h1 h2 hT j hjn).1 hj);have hoj:ops[j]?=some ops[j]:=Array.getElem?_eq_getElem (by omega)
  have hK:∀a w,wpAny P md ops' Q fuel (T'.setIfInBounds (ρ j) true) a w->wpAny P md ops Q fuel (T.setIfInBounds j true) a w:=fun a w hh=>by
   refine ih _ _ a w (by simpa using h1) (by simpa using h2) (fun i hi=>?_) hh;by_cases hij:j=i
   ·subst hij
    rw[gH (by omega),gH (by have:=hρ j hjn;omega)]
   ·rw[fM hij,fM (fun hc=>hij (hinj _ _ hjn hi hc)),hT i hi]
  generalize ops[j]=o at hoj
  have hyl:∀i,i<n->∀tm,yielded ops' tm (ρ i)=yielded ops tm i:=fun i hi tm=>by
   have hoi:ops[i]?=some ops[i]:=Array.getElem?_eq_getElem (by omega);unfold yielded;rw[hoi,hops i _ hoi];rfl
  have hwant:∀tm,Region.wanted (eR ρ o) (yielded ops' tm)=Region.wanted o (yielded ops tm):=fun tm=>by
   unfold Region.wanted;cases hgu:o.guard with
   | none=>simp[eR,hgu]
   | some g =>
    obtain⟨i,b⟩:=g;simp only[eR,hgu,Option.map_some];rw[hyl i (hg j o i b hoj hgu)]
  unfold wpOp at hw|-
  rw[hops j o hoj] at hw;rw[hoj];simp only at hw|-
  rw[hwant] at hw;by_cases hwn:Region.wanted o (yielded ops a.tmps)=true
  ·rw[if_pos hwn] at hw|-
   rw[Dm,Dk] at hw;exact hw.imp (Oper.wp_mono hK) id
  ·rw[if_neg hwn] at hw|-
   exact hK _ _ hw
end
section
variable{P:Program}{cx:Ctx}{nt:Nat}{tr pre:List Nat}{ops:Array Oper}{l:List aO}{kh:Nat}{Q:Exit->Act->World->Prop}
theorem As[Mode](hR:Rg P nt tr pre ops l kh){K:St->Prop}(hQ:∀a w st,K st->st.n=l.length->Fm cx nt tr pre (bx ops.toList l) st a w->Q .normal a w)(hQp:∀c a w,¬Q (.panic c) a w)
  (hV:∀i s,i<kh->l[i]?=some s->s.mo=true) (hsel:Region.noSelect ops=true) (hfree:∀i,i<kh->Region.free .any ops (wB ops.size i) i=true) (hkl:kh<=l.length) :
  ∀(m:Nat)(sl:List aO)(st:St)(fuel:Nat)(T:Array Bool)(a:Act)(w:World),st.n+m=kh->l.drop st.n=sl->Fm cx nt tr pre (bx ops.toList l) st a w->bA P K sl st ->
   iF ops T->(∀i,i<ops.size->(T.getD i false=true↔i<st.n))->ek ops T<=fuel->wpAny P .any ops Q fuel T a w
 | 0,sl,st,fuel,T,a,w,hm,hl,h,hv,hT,hx,hu=>uJ hR hQ (sl.length+1) sl st fuel T a w (Nat.lt_succ_self _) (by omega) hl (by omega) h hv hT hx hu
 | m+1,sl,st,fuel,T,a,w,hm,hl,h,hv,hT,hx,hu=>by
  have hn:st.n<l.length:=by omega
  have hls:l[st.n]?=some l[st.n]:=List.getElem?_eq_getElem hn;have hsl:sl=l[st.n]::l.drop (st.n+1):=by rw[<-hl];exact List.drop_eq_getElem_cons hn
  generalize l[st.n]=s at hls hsl;subst hsl;have hsv:=hV st.n s (by omega) hls;obtain⟨g,k⟩:=s
  have hg:g=none:=by
   simp only[aO.mo,Bool.and_eq_true,Option.isNone_iff_eq_none] at hsv;exact hsv.1
  subst hg;obtain⟨o,ho,hd,hlt,hasg,hgd,hk,hreads,hxs⟩:=hR.op hls
  have hna:k.cA=none:=by
   cases k<;>first | rfl | (simp[aO.mo] at hsv)
  have hpo:st.n<ops.size:=by rw[hR.size];exact hn
  have hpu:T.getD st.n false=false:=by
   cases ht:T.getD st.n false with
   | false=>rfl
   | true=>have:=(hx _ hpo).1 ht;omega
  have hogn:o.guard=none:=by
   cases hog:o.guard with
   | none=>rfl
   | some gg=>rw[hog] at hgd;cases hgd
  have hrdy:st.n∈Region.ready .any ops T:=by
   rw[mem_ready];refine⟨by rw[iR (by rw[hT.1];exact hpo)];exact hpu,o,ho,fun e hem hb=>?_⟩;have hE:=hR.uL;simp only[eo,List.all_eq_true] at hE;have h1:=hE (o,st.n) (List.mem_zipIdx_iff_getElem?.2 (by simpa using ho)) e (by simpa using hem);simp only[hb,Bool.not_true,Bool.false_or,decide_eq_true_eq] at h1;exact(hx e.on (by omega)).2 h1
  have hv':aZ P k none (bA P K (l.drop (st.n+1))) st:=hv
  have hpv:fJ (bn k st.rd st.cont) none (bA P K (l.drop (st.n+1))) st:=by
   cases k<;>first | exact hv' | (simp[aO.mo] at hsv)
  have hyd:∃v,∀w',Yd P o a w' v:=by
   obtain⟨vl,fp,G,hp,htr,htm,hgh⟩:=h.ex;unfold fJ at hpv;split at hpv
   ·cases hpv.1
   rename_i side res hpev;exact OV hsv hpev hk (fun y hy x hxy=>vn hp htr htm hxy (fun i hi=>hreads i (sR (by rw[<-hi];exact hy))) (fun j hj=>hxs j (by rw[<-hj];exact hy))) (fun j=>⟨_,hp.ok j⟩) hpv.1
  obtain⟨v,hyd⟩:=hyd;have hw1:=qi (P:=P) (Q:=Q) hR.jm h (s:=⟨none,k⟩) (g:=none) (by simp) hk hd (fun j hj=>by rw[hna] at hj;cases hj) hlt hreads hxs hv';unfold Oper.wp at hw1;rw[hyd w,Oper.upon_value] at hw1;obtain⟨st',k1,k2,k3⟩:=hw1;have hup:=qD hpo hpu;obtain⟨fuel,rfl⟩:∃f,fuel=f+1:=⟨fuel-1,by omega⟩;have hio:=hfree st.n (by omega);have hyl:Yields P ops o v a:=.inl ⟨by simp[Region.wanted,hogn],hyd⟩;refine wpAny_first ho (Region.noSelect_spec hsel) (fun c a w hh=>absurd hh (hQp c _ _)) fuel T a w (fun j oj hj hji hun hno=>?_) hrdy hyl ?_
  ·refine Region.free_spec ho hio j oj hj hji ?_ hno
   have hjl:=(Array.getElem?_eq_some_iff.1 hj).1
   have hjn:¬j<st.n:=fun hc=>by
    have:=(hx j hjl).2 hc;rw[iR (by rw[hT.1];exact hjl) true] at hun;rw[this] at hun;cases hun
   simp[wB,Array.getD,hjl,hjn]
  ·refine As hR hQ hQp hV hsel hfree hkl m _ st' fuel _ _ w (by omega) (by rw[k3]) k2 k1 (pv hT hpo (ox hT hrdy).2.2) (fun i hi=>?_) ?_
   ·by_cases hij:st.n=i
    ·subst hij
     rw[gH (by rw[hT.1];exact hi)];simp;omega
    ·rw[fM hij,hx i hi]
     omega
   ·have:=qE hT.1 hpo hpu;omega
end
theorem pC(tr:List Nat)(ops:Array Oper)(l:List aO):ep tr false ops l=ops:=by simp[ep,pU]
theorem ql{l:List Nat}{n:Nat}(h:mJ l n=true):l.length=n/\(∀j,j<n->posOf l j<n/\l.getD (posOf l j) n=j)/\∀i,i<n->l.getD i n<n/\posOf l (l.getD i n)=i:=by
 simp only[mJ,Bool.and_eq_true,decide_eq_true_eq,List.all_eq_true,List.mem_range] at h;exact⟨h.1.1,h.1.2,h.2⟩
theorem sK(l:List Nat)(ops:Array Oper):(eO l ops).size=l.length:=by simp[eO]
theorem CF{l:List Nat}{ops:Array Oper}(h:mJ l ops.size=true){j:Nat}{o:Oper}(ho:ops[j]?=some o):(eO l ops)[posOf l j]?=some (eR (posOf l) o):=by
 obtain⟨h1,h2,_⟩:=ql h;obtain⟨hj,rfl⟩:=Array.getElem?_eq_some_iff.1 ho;obtain⟨h3,h4⟩:=h2 j hj
 have h5:l[posOf l j]?=some j:=by
  rw[List.getD_eq_getElem?_getD,List.getElem?_eq_getElem (by omega),Option.getD_some] at h4;rw[List.getElem?_eq_getElem (by omega),h4]
 unfold eO;rw[List.getElem?_toArray,List.getElem?_map,h5];simp[Array.getD,hj]
theorem LK{P:Program}{l:List Nat}{ops:Array Oper}{Q:Exit->Act->World->Prop}(h:mJ l ops.size=true)(hg:jF ops.size ops.toList=true)(hE:eo ops.toList=true){a:Act}{w:World}
  (hw:wpAny P .any (eO l ops) Q ops.size (Array.replicate ops.size false) a w):wpAny P .any ops Q ops.size (Array.replicate ops.size false) a w:=by
 obtain⟨h1,h2,h3⟩:=ql h;refine O0 (n:=ops.size) (ρ:=posOf l) rfl (by rw[sK,h1]) (fun j hj=>(h2 j hj).1) (fun i j hi hj hij=>?_) (fun i hi=>⟨l.getD i ops.size,?_,(h3 i hi).2⟩) (fun j o ho=>CF h ho) (fun j o i b ho hgu=>?_) (fun j o e ho hem hb=>?_) _ _ _ a w (by simp) (by simp) (fun j hj=>?_) hw
 ·rw[<-(h2 i hi).2,<-(h2 j hj).2,hij]
 ·exact(h3 i hi).1
 ·have hj:=(Array.getElem?_eq_some_iff.1 ho).1
  simp only[jF,List.all_eq_true] at hg;have:=hg o (by rw[<-Array.mem_def];exact Array.mem_of_getElem? ho);rw[hgu] at this;simpa using this
 ·have hj:=(Array.getElem?_eq_some_iff.1 ho).1
  simp only[eo,List.all_eq_true] at hE;have h4:=hE (o,j) (List.mem_zipIdx_iff_getElem?.2 (by simpa using ho)) e (by simpa using hem);simp only[hb,Bool.not_true,Bool.false_or,decide_eq_true_eq] at h4;omega
 ·have:=(h2 j hj).1
  simp[Array.getD,hj,this]
end Go.D3
namespace Go.D3
open Go
section
variable{P:Program}{ops:Array Oper}{Q:Exit->Act->World->Prop}
def CV(ops:Array Oper):Array Bool->List Nat->Prop
 | T,[]=>Region.ready .any ops T=[]
 | T,k::L=>k∈Region.ready .any ops T/\CV ops (T.setIfInBounds k true) L
theorem H5:∀(fuel t:Nat)(T:Array Bool),Region.linearise.go .any ops (fuel+1) t T [] =
  match(Region.ready .any ops T)[t % (Region.ready .any ops T).length]? with
  | some i=>i::Region.linearise.go .any ops fuel (t / (Region.ready .any ops T).length) (T.setIfInBounds i true) []
  | none=>[]:=by
 intro fuel t T;simp only[Region.linearise.go]
 change(match(Region.ready .any ops T)[t % (Region.ready .any ops T).length]? with
   | some i=>Region.linearise.go .any ops fuel (t / (Region.ready .any ops T).length) (T.setIfInBounds i true) [i]
   | none=>[].reverse)=_
 cases(Region.ready .any ops T)[t % (Region.ready .any ops T).length]? with
 | none=>rfl
 | some i=>simp only[];rw[linearise_go_acc];rfl
theorem Mk{T:Array Bool}(hT:T.size=ops.size)(h:ek ops T=0):Region.ready .any ops T=[]:=by
 rw[List.eq_nil_iff_forall_not_mem];intro i hi;obtain⟨h1,o,ho,_⟩:=mem_ready.1 hi;have hio:=(Array.getElem?_eq_some_iff.1 ho).1;rw[iR (by omega)] at h1;have:=qD hio h1;omega
theorem py(hE:eo ops.toList=true):∀(fuel t:Nat)(T:Array Bool),T.size=ops.size->ek ops T<=fuel->CV ops T (Region.linearise.go .any ops fuel t T [])
 | 0,t,T,hT,hu=>by
  simp only[Region.linearise.go,List.reverse_nil,CV];exact Mk hT (by omega)
 | fuel+1,t,T,hT,hu=>by
  rw[H5];cases hi:(Region.ready .any ops T)[t % (Region.ready .any ops T).length]? with
  | none =>
   simp only[CV];cases hr:Region.ready .any ops T with
   | nil=>rfl
   | cons x xs =>
    rw[hr] at hi;have hlt:t % (x::xs).length<(x::xs).length:=Nat.mod_lt _ (by simp);simp at hi;simp at hlt;omega
  | some i =>
   have hm:=List.mem_of_getElem? hi;obtain⟨h1,o,ho,_⟩:=mem_ready.1 hm;have hio:=(Array.getElem?_eq_some_iff.1 ho).1;rw[iR (by omega)] at h1;exact⟨hm,py hE fuel _ _ (by simpa using hT) (by have:=qE hT hio h1;omega)⟩
theorem Ar:∀(L:List Nat)(fuel:Nat)(T:Array Bool)(a:Act)(w:World),wpAny P .any ops Q fuel T a w->CV ops T L->wpOps P ops Q L a w
 | [],fuel,T,a,w,h,hc=>by
  simp only[wpOps];cases fuel with
  | zero=>exact h.2
  | succ f=>exact h.1 hc
 | k::L,fuel,T,a,w,h,hc=>by
  cases fuel with
  | zero=>have:=hc.1;rw[h.1] at this;cases this
  | succ f =>
   rw[wpOps_cons];exact wpOp_mono (fun a w hh=>Ar L f _ a w hh hc.2) (h.2 k hc.1)
def oT(i j:Nat):Array Bool->List Nat->Prop
 | _,[]=>True
 | T,k::L=>(k=j->T.getD i false=true)/\oT i j (T.setIfInBounds k true) L
theorem uj{i j:Nat}:∀(L:List Nat)(T:Array Bool),T.getD i false=true->oT i j T L
 | [],_,_=>trivial
 | _::L,_,h=>⟨fun _=>h,uj L _ (getD_set_true h)⟩
theorem zO{i j:Nat}(hij:i≠j):∀(L:List Nat)(T:Array Bool),(∀k∈L,k<T.size)->oT i j T L\/oT j i T L
 | [],_,_=>.inl trivial
 | k::L,T,h=>by
  have hk:=h k (by simp);by_cases h1:k=i
  ·subst h1
   exact .inl ⟨fun h2=>absurd h2 hij,uj L _ (gH hk)⟩
  ·by_cases h2:k=j
   ·subst h2
    exact .inr ⟨fun h3=>absurd h3.symm hij,uj L _ (gH hk)⟩
   ·rcases zO hij L (T.setIfInBounds k true) (fun x hx=>by simpa using h x (by simp[hx])) with hh | hh
    ·exact .inl ⟨fun h3=>absurd h3 h2,hh⟩
    ·exact .inr ⟨fun h3=>absurd h3 h1,hh⟩
def oM(i j k:Nat)(o:Oper):Oper:=if j=k then { o with after:=o.after.push ⟨i,.data⟩ } else o
theorem qF{i j:Nat}{o:Oper}:oM i j j o={ o with after:=o.after.push ⟨i,.data⟩ }:=if_pos rfl
theorem qH{i j k:Nat}{o:Oper}(h:j≠k):oM i j k o=o:=if_neg h
theorem Fo{i j k:Nat}{o:Oper}:(oM i j k o).dst=o.dst/\(oM i j k o).guard=o.guard:=by unfold oM;split<;>exact⟨rfl,rfl⟩
theorem nx(i j k:Nat):(dX i j ops)[k]?=(ops[k]?).map (oM i j k):=by
 unfold dX;rw[Array.getElem?_modify];by_cases h:j=k
 ·subst h;simp only[if_true];congr 1;funext o;exact qF.symm
 ·rw[if_neg h]
  cases ops[k]? with
  | none=>rfl
  | some o=>rw[Option.map_some,qH h]
theorem qV(i j:Nat):(dX i j ops).size=ops.size:=by simp[dX]
theorem zk{i j k:Nat}{T:Array Bool}:k∈Region.ready .any (dX i j ops) T↔k∈Region.ready .any ops T/\(k=j->T.getD i false=true):=by
 rw[mem_ready,mem_ready];constructor
 ·rintro⟨h0,o,ho,h⟩
  rw[nx,Option.map_eq_some_iff] at ho;obtain⟨o0,ho0,rfl⟩:=ho;by_cases hj:j=k
  ·subst hj
   rw[qF] at h;exact⟨⟨h0,o0,ho0,fun e he hb=>h e (by simp[he]) hb⟩,fun _=>h ⟨i,.data⟩ (by simp) rfl⟩
  ·rw[qH hj] at h
   exact⟨⟨h0,o0,ho0,h⟩,fun hk=>absurd hk.symm hj⟩
 ·rintro⟨⟨h0,o,ho,h⟩,hk⟩
  refine⟨h0,_,by rw[nx,ho];rfl,?_⟩;by_cases hj:j=k
  ·subst hj
   rw[qF];intro e he hb;simp only[Array.mem_push] at he;rcases he with he | rfl
   ·exact h e he hb
   ·exact hk rfl
  ·rw[qH hj];exact h
theorem uG{i j:Nat}:∀(L:List Nat)(T:Array Bool),CV ops T L->oT i j T L->CV (dX i j ops) T L
 | [],T,h,_=>by
  simp only[CV] at h|-
  rw[List.eq_nil_iff_forall_not_mem] at h|-
  exact fun k hk=>h k (zk.1 hk).1
 | k::L,T,h,hb=>⟨zk.2 ⟨h.1,hb.1⟩,uG L _ h.2 hb.2⟩
theorem FQ{i j k:Nat}{K:Act->World->Prop}{a:Act}{w:World}:wpOp P (dX i j ops) Q k K a w=wpOp P ops Q k K a w:=by
 have hy:∀tm,yielded (dX i j ops) tm=yielded ops tm:=fun tm=>by
  funext g;unfold yielded;rw[nx];cases ops[g]? with
  | none=>rfl
  | some o=>simp only[Option.map_some,Option.bind_some,Fo.1]
 unfold wpOp;rw[nx,hy];cases ops[k]? with
 | none=>rfl
 | some o =>
  by_cases h:j=k
  ·subst h;rw[Option.map_some,qF];rfl
  ·rw[Option.map_some,qH h]
theorem qW{i j:Nat}:∀(L:List Nat)(a:Act)(w:World),wpOps P (dX i j ops) Q L a w↔wpOps P ops Q L a w
 | [],a,w=>by simp only[wpOps]
 | k::L,a,w=>by
  rw[wpOps_cons,wpOps_cons,FQ];exact⟨wpOp_mono fun a w=>(qW L a w).1,wpOp_mono fun a w=>(qW L a w).2⟩
def kj(P:Program)(ops:Array Oper)(Q:Exit->Act->World->Prop)(a:Act)(w:World):Prop:=∀L,CV ops (Array.replicate ops.size false) L->wpOps P ops Q L a w
theorem vr{a:Act}{w:World}(h:wpAny P .any ops Q ops.size (Array.replicate ops.size false) a w):kj P ops Q a w:=fun L hc=>Ar L _ _ a w h hc
theorem ru:∀(L:List Nat)(T:Array Bool),CV ops T L->∀k∈L,k<ops.size
 | [],_,_,k,hk=>by cases hk
 | x::L,T,h,k,hk=>by
  obtain⟨_,o,ho,_⟩:=mem_ready.1 h.1;rcases List.mem_cons.1 hk with rfl | hk
  ·exact(Array.getElem?_eq_some_iff.1 ho).1
  ·exact ru L _ h.2 k hk
theorem H6{i j:Nat}{a:Act}{w:World}(hij:i≠j)(h1:kj P (dX i j ops) Q a w)(h2:kj P (dX j i ops) Q a w):kj P ops Q a w:=fun L hcv=>by
 have e1:∀i j,Array.replicate (dX i j ops).size false=Array.replicate ops.size false:=fun i j=>by rw[qV]
 rcases zO hij L (Array.replicate ops.size false) (fun k hk=>by simpa using ru L _ hcv k hk) with hb | hb
 ·exact(qW L a _).1 (h1 L (by rw[e1];exact uG L _ hcv hb))
 ·exact(qW L a _).1 (h2 L (by rw[e1];exact uG L _ hcv hb))
theorem O2{id:Nat}{a:Act}{w:World}(hm:P.follows .mixedOrders=true)(hE:eo ops.toList=true)(h:kj P ops Q a { w with drawn:=w.drawn+1 }):(Code.region id ops true).wp P Q a w :=
 wp_region_draw fun t=>by
  simp only[Region.schedule,hm,Bool.true_or,if_true];exact h _ (py hE _ _ _ (by simp) (by unfold ek;exact Nat.le_trans (List.countP_le_length) (by simp)))
theorem LJ{l:List Nat}(h:mJ l ops.size=true)(hg:jF ops.size ops.toList=true)(hE:nM ops=true){a:Act}{w:World}(hw:kj P (eO l ops) Q a w):kj P ops Q a w:=by
 obtain⟨h1,h2,h3⟩:=ql h;generalize hn:ops.size=n at h1 h2 h3;have hs':(eO l ops).size=n:=by rw[sK,h1]
 have he:∀(j:Nat)(o:Oper)(e:Edge),ops[j]?=some o->e∈o.after->Region.binds .any e=true->e.on<n:=fun j o e ho hem hb=>by
  simp only[nM,List.all_eq_true] at hE;have:=hE o (by rw[<-Array.mem_def];exact Array.mem_of_getElem? ho) e (by simpa using hem);simp only[hb,Bool.not_true,Bool.false_or,decide_eq_true_eq] at this;omega
 have hops:∀(j:Nat)(o:Oper),ops[j]?=some o->(eO l ops)[posOf l j]?=some (eR (posOf l) o):=fun j o ho=>CF h ho
 have hgd:∀(j:Nat)(o:Oper)(i:Nat)(b:Bool),ops[j]?=some o->o.guard=some (i,b)->i<n:=fun j o i b ho hgu=>by
  simp only[jF,List.all_eq_true] at hg;have:=hg o (by rw[<-Array.mem_def];exact Array.mem_of_getElem? ho);rw[hgu] at this;rw[<-hn];simpa using this
 have hinj:∀i j,i<n->j<n->posOf l i=posOf l j->i=j:=fun i j hi hj hij=>by rw[<-(h2 i hi).2,<-(h2 j hj).2,hij]
 have rdy:∀(T T':Array Bool),T.size=n->T'.size=n->(∀j,j<n->T.getD j false=T'.getD (posOf l j) false)->∀j,j<n->(j∈Region.ready .any ops T↔posOf l j∈Region.ready .any (eO l ops) T'):=by
  intro T T' h1 h2' hT j hj;have hoj:ops[j]?=some ops[j]:=Array.getElem?_eq_getElem (by omega);rw[mem_ready,mem_ready,iR (T:=T) (i:=j) (by omega) true,iR (T:=T') (i:=posOf l j) (by have:=(h2 j hj).1;omega) true,hT j hj,hoj,hops j _ hoj];refine and_congr Iff.rfl ⟨?_,?_⟩
  ·rintro⟨o,ho,h⟩
   cases ho;refine⟨_,rfl,fun e hem hb=>?_⟩;simp only[eR,Array.mem_map] at hem;obtain⟨e0,he0,rfl⟩:=hem;have hb0:Region.binds .any e0=true:=hb;have:=h e0 he0 hb0
   rwa [hT _ (he j _ e0 hoj he0 hb0)] at this
  ·rintro⟨o,ho,h⟩
   cases ho;refine⟨_,rfl,fun e hem hb=>?_⟩;have:=h { e with on:=posOf l e.on } (by simp only[eR,Array.mem_map];exact⟨e,hem,rfl⟩) hb
   rwa [hT _ (he j _ e hoj hem hb)]
 have op:∀(j:Nat)(K:Act->World->Prop)(a:Act)(w:World),j<n->wpOp P (eO l ops) Q (posOf l j) K a w->wpOp P ops Q j K a w:=by
  intro j K a w hjn hw;have hoj:ops[j]?=some ops[j]:=Array.getElem?_eq_getElem (by omega);generalize ops[j]=o at hoj
  have hyl:∀i,i<n->∀tm,yielded (eO l ops) tm (posOf l i)=yielded ops tm i:=fun i hi tm=>by
   have hoi:ops[i]?=some ops[i]:=Array.getElem?_eq_getElem (by omega);unfold yielded;rw[hoi,hops i _ hoi];rfl
  have hwant:∀tm,Region.wanted (eR (posOf l) o) (yielded (eO l ops) tm)=Region.wanted o (yielded ops tm):=fun tm=>by
   unfold Region.wanted;cases hgu:o.guard with
   | none=>simp[eR,hgu]
   | some g =>
    obtain⟨i,b⟩:=g;simp only[eR,hgu,Option.map_some];rw[hyl i (hgd j o i b hoj hgu)]
  unfold wpOp at hw|-
  rw[hops j o hoj] at hw;rw[hoj];simp only at hw|-
  rw[hwant] at hw;by_cases hwn:Region.wanted o (yielded ops a.tmps)=true
  ·rw[if_pos hwn] at hw|-
   rw[Dm,Dk] at hw;exact hw
  ·rw[if_neg hwn] at hw|-
   exact hw
 have ops_:∀(L:List Nat)(a:Act)(w:World),(∀k∈L,k<n)->wpOps P (eO l ops) Q (L.map (posOf l)) a w->wpOps P ops Q L a w:=by
  intro L;induction L with
  | nil=>intro a w _ hw;exact hw
  | cons k L ih =>
   intro a w hk hw;rw[List.map_cons,wpOps_cons] at hw;rw[wpOps_cons];exact op k _ a w (hk k (by simp)) (wpOp_mono (fun a w hh=>ih a w (fun x hx=>hk x (by simp[hx])) hh) hw)
 have cv:∀(L:List Nat)(T T':Array Bool),T.size=n->T'.size=n->(∀j,j<n->T.getD j false=T'.getD (posOf l j) false)->CV ops T L->CV (eO l ops) T' (L.map (posOf l)):=by
  intro L;induction L with
  | nil =>
   intro T T' t1 t2 hT hc;simp only[CV,List.map_nil] at hc|-
   rw[List.eq_nil_iff_forall_not_mem] at hc|-
   intro i hi;obtain⟨_,x,hx,_⟩:=mem_ready.1 hi;have hin:=(Array.getElem?_eq_some_iff.1 hx).1;have hp:=h3 i (by omega);have:=(rdy T T' t1 t2 hT (l.getD i n) hp.1).2 (by rw[hp.2];exact hi);exact hc _ this
  | cons k L ih =>
   intro T T' t1 t2 hT hc;have hkn:k<n:=by have:=ru (k::L) T hc k (by simp);omega
   refine⟨(rdy T T' t1 t2 hT k hkn).1 hc.1,ih _ _ (by simpa using t1) (by simpa using t2) (fun i hi=>?_) hc.2⟩;by_cases hij:k=i
   ·subst hij
    rw[gH (by omega),gH (by have:=(h2 k hkn).1;omega)]
   ·rw[fM hij,fM (fun hc=>hij (hinj _ _ hkn hi hc)),hT i hi]
 intro L hL;rw[hn] at hL;refine ops_ L a w (fun k hk=>by have:=ru L _ hL k hk;omega) (hw _ ?_);rw[hs'];exact cv L _ _ (by simp) (by simp) (fun j hj=>by have:=(h2 j hj).1;simp[Array.getD,hj,this]) hL
theorem FO{i j:Nat}(hE:nM ops=true)(hi:i<ops.size):nM (dX i j ops)=true:=by
 simp only[nM,List.all_eq_true] at hE|-
 rw[qV];intro o ho e he;obtain⟨k,hk⟩:=List.mem_iff_getElem?.1 ho;have hk':(dX i j ops)[k]?=some o:=by simpa using hk
 rw[nx,Option.map_eq_some_iff] at hk';obtain⟨o0,ho0,rfl⟩:=hk';have h0:=hE o0 (by rw[<-Array.mem_def];exact Array.mem_of_getElem? ho0);by_cases hj:j=k
 ·subst hj
  rw[qF] at he;simp only[Array.toList_push,List.mem_append,List.mem_singleton] at he;rcases he with he | rfl
  ·exact h0 e he
  ·simp[hi]
 ·rw[qH hj] at he
  exact h0 e he
theorem FP{i j:Nat}(hg:jF ops.size ops.toList=true):jF (dX i j ops).size (dX i j ops).toList=true:=by
 simp only[jF,List.all_eq_true] at hg|-
 rw[qV];intro o ho;obtain⟨k,hk⟩:=List.mem_iff_getElem?.1 ho;have hk':(dX i j ops)[k]?=some o:=by simpa using hk
 rw[nx,Option.map_eq_some_iff] at hk';obtain⟨o0,ho0,rfl⟩:=hk';have:=hg o0 (by rw[<-Array.mem_def];exact Array.mem_of_getElem? ho0);rw[Fo.2];exact this
end
end Go.D3
namespace Go.D3
open Go
section
variable{P:Program}{Q:Exit->Act->World->Prop}{a:Act}{w:World}{cx:Ctx}{nt:Nat}{tr pre:List Nat}
theorem O1{c:Code}(J:Nat->Act->World->Prop){n0:Nat}(h0:J n0 a w)
  (round:∀n a w,J n a w->c.wp P (Exit.then (fun a' w'=>∃m,m<n/\J m a' w') Q) a w):(Code.loop c).wp P Q a w:=by
 classical
 let μ:Act->World->Nat:=fun a w=>if h:∃m,J m a w/\∀k,J k a w->m<=k then Classical.choose h else 0
 have hμ:∀a w n,J n a w->J (μ a w) a w/\μ a w<=n:=by
  intro a w n hn;have h:=vp (fun n=>J n a w) n hn;have e:μ a w=Classical.choose h:=by simp only[μ];rw[dif_pos h]
  have:=Classical.choose_spec h;rw[e];exact⟨this.1,this.2 n hn⟩
 refine wp_loop (fun a w=>∃n,J n a w) μ ⟨n0,h0⟩ fun a w ⟨n,hn⟩=>?_
 refine wp_mono (round (μ a w) a w (hμ a w n hn).1) fun e a' w' hq=>?_
 cases e with
 | normal =>
  obtain⟨m,hm,hJ⟩:=hq;exact⟨⟨m,hJ⟩,Nat.lt_of_le_of_lt (hμ a' w' m hJ).2 hm⟩
 | _=>exact hq
def Bm[Mode](cx:Ctx)(nt:Nat)(tr:List Nat)(env:List D)(a:Act)(w:World):Prop:=Fm cx nt tr [] [] ⟨env,0,[]⟩ a w
theorem Bm.forget[Mode]{env:List D}(h:Bm cx nt tr env a w)(js:List Nat):Bm cx nt tr (bF js ⟨env,0,[]⟩).env a w:=by
 obtain⟨vl,fp,G,hp,htr,htm,hgh⟩:=h.ex;obtain⟨fp',G',b1,b2,b3,b4,b5⟩:=pf js hp h.wf
 have e:(bF js ⟨env,0,[]⟩)=⟨(bF js ⟨env,0,[]⟩).env,0,[]⟩:=by
  have hn:(bF js ⟨env,0,[]⟩).n=0:=b3
  have ht:(bF js ⟨env,0,[]⟩).tmp=[]:=by
   have:=b2;simp only[St.wf,hn] at this;exact List.length_eq_zero_iff.1 this
  cases hs:bF js ⟨env,0,[]⟩ with
  | mk env n tmp=>rw[hs] at hn ht;simp only at hn ht;subst hn ht;rfl
 rw[e] at b1 b2;exact⟨⟨vl,fp',G',b1,htr,fun i t hi _=>by simp at hi,hgh⟩,b2,fun j hj=>by simp at hj,h.size,h.defers⟩
theorem xA{ops:Array Oper}{l:List aO}{post:List (Nat×Nat)}{draw:Bool}(ht:dI nt tr=true)(hf:ed P nt tr ops draw pre l post=true):gQ nt tr pre (bx (ep tr draw ops l).toList l):=by
 simp only[dI,Bool.and_eq_true,List.all_eq_true,decide_eq_true_eq] at ht;simp only[ed,Bool.and_eq_true,List.all_eq_true,decide_eq_true_eq] at hf;obtain⟨⟨⟨⟨⟨⟨⟨⟨_,_⟩,h1⟩,h2⟩,_⟩,h3⟩,_⟩,_⟩,_⟩:=hf;exact⟨vE h1,tZ h2,pW ht.1.1,fun i t hi=>ht.1.2 t (List.mem_of_getElem? hi),ht.2,fun j hj=>h3 j (by simpa using hj)⟩
theorem sX:∀{l:List Oper}{sl:List aO},l.length=sl.length->(bx l sl).length=l.length
 | [],[],_=>rfl
 | _::_,[],h=>by simp at h
 | [],_::_,h=>by simp at h
 | o::l,s::r,h=>by simp only[bx,List.length_cons];rw[sX (by simpa using h)]
theorem Mr[Mode]{ops:Array Oper}{l:List aO}{post:List (Nat×Nat)}{id:Nat}{env:List D}{K:St->Prop}(ht:dI nt tr=true)(hf:ed P nt tr ops false pre l post=true)(h:Bm cx nt tr env a w)
  (hv:bA P K l (bF pre ⟨env,0,[]⟩)) (hQ:∀a w st,K st->Fm cx nt tr pre (bx ops.toList l) st a w->(bx ops.toList l).length=st.n->Bm cx nt tr (fin post st) a w->Q .normal a w):(Code.region id ops false).wp P Q a w:=by
 have hS:=xA ht hf;rw[pC] at hS;simp only[ed,pC,Bool.and_eq_true,List.all_eq_true,decide_eq_true_eq] at hf;obtain⟨⟨⟨⟨⟨⟨⟨⟨hsz,h0⟩,_⟩,_⟩,hpo⟩,_⟩,hop⟩,_⟩,_⟩:=hf;obtain⟨vl,fp,G,hp,htr,htm,hgh⟩:=h.ex;obtain⟨fp',G',b1,b2,b3,b4,b5⟩:=pf pre hp h.wf
 have hF:Fm cx nt tr pre (bx ops.toList l) (bF pre ⟨env,0,[]⟩) a w :=
  ⟨⟨vl,fp',G',b1,fun j t hj _=>htr j t hj (by simp),fun i t hi _=>by rw[b3] at hi;simp at hi,hgh⟩,b2,fun j hj=>b5 j (by simpa using hj),h.size,h.defers⟩
 have hlen:(bx ops.toList l).length=ops.size:=by rw[sX (by simpa using hsz)];simp
 obtain⟨p1,p2⟩:=sN hpo;refine wp_region ?_
 have:=wv (P:=P) (Q:=Q) (ops:=ops) hS (fun i t hi=>by have:=qu hi;simpa using this) ops.toList l 0 (by simp) h0 (fun s hs=>hop s hs) (by simp) b3 hF hv
  (fun a w st hK hn hF=>hQ a w st hK hF (by rw[hlen,hn];simp) (sT hS hF (by rw[hlen,hn];simp) p1 p2))
 rw[Array.length_toList,<-List.range_eq_range'] at this;exact this
theorem Hp.drew[Mode]{ct:Nat->D}{vl:Nat->Value}{fp:Nat->Nat->Prop}{G:Nat->Prop}(h:Hp cx ct vl fp G w)(n:Nat)(hn:w.drawn<=n:=by exact Nat.le_succ _):Hp cx ct vl fp G { w with drawn:=n }:=by
 have h1:=h.grow (w':={ w with drawn:=n }) (Nat.le_refl _) (fun _ _=>rfl) rfl rfl (.le rfl hn);exact h1.release fun b hb=>.inl hb
theorem sS[Mode]{ops:Array Oper}{l:List aO}{post:List (Nat×Nat)}{env:List D}{K:St->Prop}(ht:dI nt tr=true)(hf:ed P nt tr ops true pre l post=true)(h:Bm cx nt tr env a w)
  (hv:bA P K l (bF pre ⟨env,0,[]⟩)) (hQ:∀a w st,K st->Fm cx nt tr pre (bx (ep tr true ops l).toList l) st a w->(bx (ep tr true ops l).toList l).length=st.n->Bm cx nt tr (fin post st) a w->Q .normal a w) :
  P.follows .mixedOrders=true/\wpAny P .any ops (fun e a w=>Q e a w/\∀c,e≠.panic c) ops.size (Array.replicate ops.size false) a { w with drawn:=w.drawn+1 }:=by
 have hS:=xA ht hf;simp only[ed,Bool.and_eq_true,List.all_eq_true,decide_eq_true_eq,Bool.not_true,Bool.false_or] at hf;obtain⟨⟨⟨⟨⟨⟨⟨⟨hsz,h0⟩,_⟩,_⟩,hpo⟩,_⟩,hop⟩,⟨hmix,hed⟩,hdr⟩,hnd⟩:=hf;obtain⟨vl,fp,G,hp,htr,htm,hgh⟩:=h.ex;obtain⟨fp',G',b1,b2,b3,b4,b5⟩:=pf pre hp h.wf;have hlen:(bx (ep tr true ops l).toList l).length=(ep tr true ops l).size:=by rw[sX (by simpa using hsz)];simp
 obtain⟨p1,p2⟩:=sN hpo
 have hF:Fm cx nt tr pre (bx (ep tr true ops l).toList l) (bF pre ⟨env,0,[]⟩) a { w with drawn:=w.drawn+1 } :=
  ⟨⟨vl,fp',G',b1.drew _,fun j t hj _=>htr j t hj (by simp),fun i t hi _=>by rw[b3] at hi;simp at hi,hgh⟩,b2,fun j hj=>b5 j (by simpa using hj),h.size,h.defers⟩
 have hR:Rg P nt tr pre (ep tr true ops l) l (kH tr true ops l):=⟨hS,hsz,h0,fun s hs=>hop s hs,by simpa[eo,List.all_eq_true] using hed,hdr⟩;have hn0:(bF pre ⟨env,0,[]⟩).n=0:=b3
 have hT0:∀i n,(Array.replicate n false).getD i false=false:=fun i n=>by
  simp[Array.getD]
 by_cases hnh:pU true ops l=true
 ·refine⟨hmix,?_⟩
  have he:ep tr true ops l=eO (u9 tr ops) ops:=by unfold ep;rw[if_pos hnh]
  rw[hnh,Bool.not_true,Bool.false_or] at hnd;simp only[Bool.and_eq_true,decide_eq_true_eq] at hnd;obtain⟨⟨⟨⟨n1,n2⟩,n3⟩,n4⟩,n5⟩:=hnd;simp only[CO,Bool.and_eq_true,List.all_eq_true,List.mem_range] at n4;obtain⟨⟨n4,n6⟩,n7⟩:=n4;refine LK n1 n2 n3 ?_;rw[<-he]
  refine As hR (fun a w st hK hn hF=>⟨hQ a w st hK hF (by rw[hlen,hn,hsz]) (sT hS hF (by rw[hlen,hn,hsz]) p1 p2),fun c hc=>by cases hc⟩) (fun c a w hh=>hh.2 c rfl) (fun i s hi hs=>?_) n6 n7 n5
   (kH tr true ops l) l _ _ _ a _ (by rw[hn0];omega) (by rw[hn0];rfl) hF hv ⟨by rw[he,sK,(ql n1).1];simp,fun j hj=>by rw[hT0] at hj;cases hj⟩ (fun i hi=>by rw[hT0,hn0];simp) ?_
  ·refine n4 s (List.mem_of_getElem? (i:=i) ?_)
   rw[List.getElem?_take,if_pos hi];exact hs
  ·unfold ek
   rw[he,sK,(ql n1).1];exact Nat.le_trans (List.countP_le_length) (by simp)
 ·refine⟨hmix,?_⟩
  have he:ep tr true ops l=ops:=by unfold ep;rw[if_neg hnh]
  have hk:kH tr true ops l=0:=by unfold kH;rw[if_neg hnh]
  rw[hk] at hR;rw[he] at hQ hlen hR hS hF hsz p1
  refine uJ hR (fun a w st hK hn hF=>⟨hQ a w st hK hF (by rw[hlen,hn,hsz]) (sT hS hF (by rw[hlen,hn,hsz]) p1 p2),fun c hc=>by cases hc⟩) (l.length+1) l _ _ _ a _ (by omega) (Nat.zero_le _) (by rw[hn0];rfl) (by rw[hn0];omega) hF hv
   ⟨by simp,fun j hj=>by rw[hT0] at hj;cases hj⟩ (fun i hi=>by rw[hT0,hn0];simp) ?_
  unfold ek;exact Nat.le_trans (List.countP_le_length) (by simp)
theorem wO[Mode]{ops:Array Oper}{l:List aO}{post:List (Nat×Nat)}{id:Nat}{env:List D}{K:St->Prop}{draw:Bool}(ht:dI nt tr=true)(hf:ed P nt tr ops draw pre l post=true)(h:Bm cx nt tr env a w)
  (hv:bA P K l (bF pre ⟨env,0,[]⟩)) (hQ:∀a w st,K st->Fm cx nt tr pre (bx (ep tr draw ops l).toList l) st a w->(bx (ep tr draw ops l).toList l).length=st.n->Bm cx nt tr (fin post st) a w->Q .normal a w):(Code.region id ops draw).wp P Q a w:=by
 cases draw with
 | false=>rw[pC] at hQ;exact Mr ht hf h hv hQ
 | true =>
 obtain⟨hmix,hw⟩:=sS ht hf h hv hQ;exact wp_mono (Q:=fun e a w=>Q e a w/\∀c,e≠.panic c) (wp_region_any hmix hw) fun e a w hh=>hh.1
theorem sU[Mode]{env:List D}{K:List D->Prop}(ht:dI nt tr=true)(h:Bm cx nt tr env a w)(hQ:∀a w env,K env->Bm cx nt tr env a w->Q .normal a w):∀(t:RT)(ops:Array Oper),me P nt tr pre t ops=true->lO P t K (bF pre ⟨env,0,[]⟩) ->
  P.follows .mixedOrders=true/\kj P ops (fun e a w=>Q e a w/\∀c,e≠.panic c) a { w with drawn:=w.drawn+1 }
 | .leaf l post,ops,hf,hv=>by
  obtain⟨h1,h2⟩:=sS ht hf h hv fun a w st hK _ _ hB=>hQ a w _ hK hB
  exact⟨h1,vr h2⟩
 | .two i j pm x y,ops,hf,hv=>by
  simp only[me,Bool.and_eq_true,decide_eq_true_eq] at hf;obtain⟨⟨⟨⟨⟨⟨⟨hij,hi⟩,hj⟩,hE⟩,hG⟩,hP⟩,h1⟩,h2⟩:=hf;obtain⟨hm,k1⟩:=sU ht h hQ x _ h1 hv.1;obtain⟨_,k2⟩:=sU ht h hQ y _ h2 hv.2;exact⟨hm,H6 hij k1 (LJ (by rw[qV];exact hP) (FP hG) (FO hE hj) k2)⟩
theorem uA[Mode]{st:St}{ds:List (Option Nat)}(h:Fm cx nt tr pre ds st a w)(hn:ds.length=st.n){x:Operand}{y:X}{p q:Code}(hx:aA ds tr x y=true){A B:Prop}(hg:(st.rd y).gate=true)(hv:gF (st.rd y).core A B)
  (hp:A->p.wp P Q a w) (hq:B->q.wp P Q a w):(Code.cond x p q).wp P Q a w:=by
 obtain⟨vl,fp,G,hh,htr,htm,hgh⟩:=h.ex
 have hok:bL w (ae cx fp G w) (aa w st.cont vl) (a.eval x) (st.rd y):=by
  refine vn hh htr htm hx (fun i hi=>?_) fun j hj=>?_
  ·subst hi
   rw[<-hn];cases x<;>simp only[aA,Bool.false_eq_true] at hx
   ·exact(List.getElem?_eq_some_iff.1 (by simpa using hx)).1
  ·subst hj
   cases hpre:pre.contains j with
   | false=>rfl
   | true =>
    exfalso;have hd:=h.dd j hpre;have:st.rd (.v j)=.dead:=by show bB j (st.cont j)=_;rw[hd];rfl
    rw[this] at hv;exact hv
 have h1:=hok.1 hg;generalize(st.rd y).core=d at hv h1;unfold gF at hv;split at hv
 ·exact wp_cond_split (pl_bool h1) (fun hb=>hp (hv.1 hb)) (fun hb=>hq (hv.2 hb))
 ·exact hv.elim
theorem Mg{env:List D}{y:X}{A B:Prop}(hv:gF ((⟨env,0,[]⟩:St).rd y) A B):((⟨env,0,[]⟩:St).rd y).gate=true/\gF ((⟨env,0,[]⟩:St).rd y).core A B:=by
 revert hv;generalize(⟨env,0,[]⟩:St).rd y=d;intro hv;unfold gF at hv;split at hv
 ·exact⟨rfl,hv⟩
 ·exact hv.elim
theorem eG[Mode](ht:dI nt tr=true):∀(c:C)(code:Code){K:List D->Prop}{E:Ex}{env:List D}{a:Act}{w:World}{Q:Exit->Act->World->Prop},bI P nt tr code c=true->bz P c K E env->Bm cx nt tr env a w ->
  (∀a w env,K env->Bm cx nt tr env a w->Q .normal a w)->(∀i a w env,E.ex i env->Bm cx nt tr env a w->Q (.exit i) a w)->(∀a w env,E.ret env->Bm cx nt tr env a w->Q .ret a w)->code.wp P Q a w
 | .skip,code,K,E,env,a,w,Q,hf,hv,h,hN,hE,hR=>by
  cases code with
  | skip=>exact wp_skip (hN a w env hv h)
  | _=>simp[bI] at hf
 | .ops pre l post,code,K,E,env,a,w,Q,hf,hv,h,hN,hE,hR=>by
  cases code with
  | region id ops d =>
   simp only[bI] at hf;exact wO ht hf h hv fun a w st hK _ _ hB=>hN a w _ hK hB
  | seq x y=>cases x<;>first | (simp[bI] at hf;done) | (cases y<;>first | (simp[bI] at hf;done) | (rename_i u v;cases u<;>simp[bI] at hf))
  | _=>simp[bI] at hf
 | .alt pre t,code,K,E,env,a,w,Q,hf,hv,h,hN,hE,hR=>by
  cases code with
  | region id ops d =>
   simp only[bI,Bool.and_eq_true] at hf;obtain⟨⟨rfl,hed⟩,hf⟩:=hf;obtain⟨hm,hl⟩:=sU ht h hN t ops hf hv;exact wp_mono (Q:=fun e a w=>Q e a w/\∀c,e≠.panic c) (O2 hm hed hl) fun e a w hh=>hh.1
  | seq x y=>cases x<;>first | (simp[bI] at hf;done) | (cases y<;>first | (simp[bI] at hf;done) | (rename_i u v;cases u<;>simp[bI] at hf))
  | _=>simp[bI] at hf
 | .om pre l post y p q,code,K,E,env,a,w,Q,hf,hv,h,hN,hE,hR=>by
  unfold bI at hf;split at hf<;>try(first | (cases hf;done) | contradiction)
  rename_i heq;cases heq;rename_i id ops d x cp cq;simp only[Bool.and_eq_true] at hf;obtain⟨⟨⟨hf,hx⟩,hp⟩,hq⟩:=hf;refine wp_seq (wO ht hf h hv fun a w st hK hF hn hB=>?_);exact uA hF hn hx hK.1 hK.2 (fun hv=>eG ht p cp hp hv hB hN hE hR) (fun hv=>eG ht q cq hq hv hB hN hE hR)
 | .sF pre l post y p q r,code,K,E,env,a,w,Q,hf,hv,h,hN,hE,hR=>by
  unfold bI at hf;split at hf<;>try(first | (cases hf;done) | contradiction)
  rename_i heq;cases heq;rename_i id ops d x cp cq cr;simp only[Bool.and_eq_true] at hf;obtain⟨⟨⟨⟨hf,hx⟩,hp⟩,hq⟩,hr⟩:=hf;refine wp_seq (wO ht hf h hv fun a w st hK hF hn hB=>?_);refine wp_seq (uA hF hn hx hK.1 hK.2 (fun hv=>eG ht p cp hp hv hB (fun a w env hK hB=>?_) hE hR) (fun hv=>eG ht q cq hq hv hB (fun a w env hK hB=>?_) hE hR))
  ·exact eG ht r cr hr hK hB hN hE hR
  ·exact eG ht r cr hr hK hB hN hE hR
 | .seq x y,code,K,E,env,a,w,Q,hf,hv,h,hN,hE,hR=>by
  unfold bI at hf;split at hf<;>try(first | (cases hf;done) | contradiction)
  rename_i heq;cases heq;rename_i cx' cy;simp only[Bool.and_eq_true] at hf;exact wp_seq (eG ht x cx' hf.1 hv h (fun a w env hK hB=>eG ht y cy hf.2 hK hB hN hE hR) hE hR)
 | .cond y p q,code,K,E,env,a,w,Q,hf,hv,h,hN,hE,hR=>by
  unfold bI at hf;split at hf<;>try(first | (cases hf;done) | contradiction)
  rename_i heq;cases heq;rename_i x cp cq;simp only[Bool.and_eq_true] at hf;obtain⟨hg,hc⟩:=Mg hv;exact uA h rfl hf.1.1 hg hc (fun hv=>eG ht p cp hf.1.2 hv h hN hE hR) (fun hv=>eG ht q cq hf.2 hv h hN hE hR)
 | .block id c,code,K,E,env,a,w,Q,hf,hv,h,hN,hE,hR=>by
  unfold bI at hf;split at hf<;>try(first | (cases hf;done) | contradiction)
  rename_i heq;cases heq;rename_i id' c';simp only[Bool.and_eq_true,beq_iff_eq] at hf;obtain⟨rfl,hf⟩:=hf;refine wp_block (eG ht c c' hf hv h (fun a w env hK hB=>hN a w env hK hB) (fun i a w env hn hB=>?_) (fun a w env hn hB=>hR a w env hn hB));simp only[Exit.inBlock];by_cases hi:i=id'
  ·simp only[hi,if_true] at hn|-
   exact hN a w env hn hB
  ·simp only[hi,if_false] at hn|-
   exact hE i a w env hn hB
 | .loop c,code,K,E,env,a,w,Q,hf,hv,h,hN,hE,hR=>by
  unfold bI at hf;split at hf<;>try(first | (cases hf;done) | contradiction)
  rename_i heq;cases heq;rename_i c';obtain⟨js,α,S,I,μ,x0,hI,he,hr⟩:=hv;refine O1 (fun n a w=>∃x,μ x=n/\I x/\Bm cx nt tr (S x) a w) (n0:=μ x0) ⟨x0,rfl,hI,he▸h.forget js⟩ fun n a w ⟨x,hx,hIx,hB⟩=>?_
  subst hx;exact eG ht c c' hf (hr x hIx) hB (fun a w env ⟨x',i1,i2,i3⟩ hB=>⟨μ x',i2,x',rfl,i1,i3▸hB.forget js⟩) (fun i a w env hn hB=>hE i a w env hn hB) (fun a w env hn hB=>hR a w env hn hB)
 | .exit id,code,K,E,env,a,w,Q,hf,hv,h,hN,hE,hR=>by
  cases code with
  | exit id' =>
   simp only[bI,beq_iff_eq] at hf;subst hf;exact wp_exit (hE id' a w env hv h)
  | _=>simp[bI] at hf
 | .ret,code,K,E,env,a,w,Q,hf,hv,h,hN,hE,hR=>by
  cases code with
  | ret=>exact wp_ret (hR a w env hv h)
  | _=>simp[bI] at hf
end
end Go.D3
namespace Go.D3
open Go
def Arg.c0(g:Nat):Arg->D
 | .v x=>x
 | .own x=>.o x
 | .io x _=>bB g x
def Arg.g0:Arg->D
 | .io x _=>x
 | _=>.dead
def Arg.pM:Arg->Bool
 | .io _ _=>true
 | _=>false
def Arg.ok:Arg->Bool
 | .v x=>x.bC
 | .own _=>true
 | .io (.box _) _=>true
 | .io (.o x) _=>(cw 0 [] x).bC
 | .io _ _=>false
def cY(tr:List Nat)(as:List Arg):List D :=
 (tr.map fun t=>match as[t]? with | some a=>a.c0 (tr.length+t) | none=>.dead)++(if as.any Arg.pM=true then as.map Arg.g0 else[])
inductive RS where
 | t (j:Nat)
 | c (j n:Nat) (agg:Bool)
def mH(st:St):RS->Option PR
 | .t j=>some ((st.rd (.v j)).gate=true,(st.rd (.v j)).core)
 | .c j n true=>g1 (st.rd (.v j)) (kW n st.cont (st.rd (.v j)).core)
 | .c j _ false=>g1 (st.rd (.v j)) (kV st.cont (st.rd (.v j)).core)
def gw(st:St):List RS->Option (Prop×List D)
 | []=>some (True,[])
 | r::rs=>(mH st r).bind fun p=>(gw st rs).bind fun q=>some (p.1/\q.1,p.2::q.2)
def gz:List D->D
 | [d]=>d
 | l=>.au l
def gI(g:Nat):List Arg->St->Prop
 | [],_=>True
 | .io _ y::r,st=>(st.cont g=y/\y.refs cz)/\gI (g+1) r st
 | _::r,st=>gI (g+1) r st
def out(rs:List RS)(res:D)(g:Nat)(as:List Arg)(env:List D):Prop :=
 b7 (gw ⟨env,0,[]⟩ rs) fun p=>p.1/\bR p.2 (fun l st=>gz l=res/\gI g as st) ⟨env,0,[]⟩
def gy(P:Program)(tr:List Nat):List ResultVar->List RS->Bool
 | [],[]=>true
 | .tmp t::l,.t j::r=>decide (tr[j]?=some t)&&gy P tr l r
 | .cell a t::l,.c j n true::r=>decide (tr[j]?=some a)&&ko P t&&cC P t n&&gy P tr l r
 | .cell a t::l,.c j _ false::r=>decide (tr[j]?=some a)&&iN P t&&gy P tr l r
 | _,_=>false
def jE(P:Program)(fn:Func)(tr:List Nat)(c:C)(na:Nat)(rs:List RS):Bool :=
 (match fn.body with | some code=>bI P fn.ntmps tr code c | none=>false)&&dI fn.ntmps tr&&decide (na<=fn.ntmps)&&gy P tr fn.results.toList rs
theorem lh:∀(l:List D)(k:Nat),nth l k=(l[k]?).getD .dead
 | [],_=>rfl
 | a::l,0=>rfl
 | a::l,k+1=>by simp only[nth,List.getElem?_cons_succ];exact lh l k
def lZ:List Arg->Bool
 | []=>true
 | a::r=>a.ok&&lZ r
theorem pd:∀{l:List Arg},lZ l=true->∀{i:Nat}{a:Arg},l[i]?=some a->a.ok=true
 | [],_,i,a,h=>by simp at h
 | b::r,h,0,a,ha=>by simp only[lZ,Bool.and_eq_true] at h;simp at ha;subst ha;exact h.1
 | b::r,h,i+1,a,ha=>by simp only[lZ,Bool.and_eq_true] at h;simp at ha;exact pd h.2 ha
theorem u5{st:St}:∀{as:List Arg}{g:Nat},gI g as st->∀{i:Nat}{x y:D},as[i]?=some (.io x y)->st.cont (g+i)=y/\y.refs cz
 | [],_,_,i,x,y,hi=>by simp at hi
 | a::r,g,h,0,x,y,hi=>by
  simp at hi;subst hi;exact h.1
 | a::r,g,h,i+1,x,y,hi=>by
  simp at hi;have h':gI (g+1) r st:=by cases a<;>first | exact h | exact h.2
  have:=u5 h' hi
  rwa [show g+1+i=g+(i+1) by omega] at this
section
variable{P:Program}{cx:Ctx}{vl:Nat->Value}{fp:Nat->Nat->Prop}{G:Nat->Prop}{w:World}
def oz(tmps:Array Value):ResultVar->Sem Value
 | .tmp t=>pure (tmps.getD t undef)
 | .cell a t=>do loadVar t (<-asAddr (tmps.getD a undef))
def lC:List Value->Value
 | [v]=>v
 | vs=>.tuple vs.toArray
theorem wT{fn:Func}{tmps:Array Value}{vs:List Value}(h:(fn.results.toList.mapM (oz tmps)).run P w=.ok vs w) :
  (results fn tmps).run P w=.ok (lC vs) w:=by
 unfold results;rw[Array.mapM_eq_mapM_toList];generalize hF:List.mapM (m:=Sem) _ fn.results.toList=m
 have hm:m=fn.results.toList.mapM (oz tmps):=by
  rw[<-hF];congr 1
 rw[hm];simp only[Sem.run_bind,Sem.run_map,h,Result.andThen_ok,Sem.run_pure]
 match vs with
 | []=>rfl
 | [v]=>rfl
 | a::b::r=>simp[lC]
theorem sH[Mode]{tr:List Nat}{tmps:Array Value}{st:St}(h:Hp cx st.cont vl fp G w)(htr:∀(j t:Nat),tr[j]?=some t->tmps.getD t undef=vl j):∀(l:List ResultVar)(rs:List RS){p:Prop×List D},gy P tr l rs=true->gw st rs=some p->p.1 ->
  ∃vs:List Value,(l.mapM (oz tmps)).run P w=.ok vs w/\vs.length=p.2.length/\∀(j:Nat)(x:D),p.2[j]?=some x->Pl w (ae cx fp G w) (aa w st.cont vl) (vs.toArray.getD j undef) x
 | [],[],p,_,ho,_=>by
  simp only[gw,Option.some.injEq] at ho;subst ho;exact⟨[],rfl,rfl,fun j x hx=>by simp at hx⟩
 | [],_::_,p,hr,_,_=>by simp[gy] at hr
 | _::_,[],p,hr,_,_=>by simp[gy] at hr
 | r0::l,r::rs,p,hr,ho,hs=>by
  simp only[gw,Option.bind_eq_some_iff] at ho;obtain⟨p1,h1,q,h2,h3⟩:=ho;injection h3 with h3
  subst h3;have hok:∀j,∃F,az w (ae cx fp G w) (aa w st.cont vl) (vl j) F (st.cont j):=fun j=>⟨_,h.ok j⟩
  have one:∃v,(oz tmps r0).run P w=.ok v w/\Pl w (ae cx fp G w) (aa w st.cont vl) v p1.2/\gy P tr l rs=true:=by
   have slot:∀{j t:Nat},tr[j]?=some t->bL w (ae cx fp G w) (aa w st.cont vl) (tmps.getD t undef) (st.rd (.v j)):=fun {j t} hj=>by
    rw[htr j t hj];exact jY (h.ok j)
   cases r0 with
   | tmp t =>
    cases r with
    | t j =>
     simp only[gy,Bool.and_eq_true,decide_eq_true_eq] at hr;simp only[mH,Option.some.injEq] at h1;subst h1;exact⟨_,rfl,(slot hr.1).1 hs.1,hr.2⟩
    | c j n a=>simp[gy] at hr
   | cell a t =>
    cases r with
    | t j=>simp[gy] at hr
    | c j n ag =>
     cases ag with
     | true =>
      simp only[gy,Bool.and_eq_true,decide_eq_true_eq] at hr;simp only[mH] at h1;obtain⟨s,h4,h5⟩:=dG (side:=p1.1) (d:=p1.2) h1;rw[h5] at hs;obtain⟨b,off,cs,e1,e2,e3,e4⟩:=By (ob:=st.cont) (fun _ _=>rfl) hok ((slot hr.1.1.1).1 hs.1.1) h4 hs.1.2;refine⟨.agg cs.toArray,?_,e4,hr.2⟩
      have hl:=run_loadCells_list (P:=P) w ⟨b,off,none⟩ cs (fun j v hj=>by
       have hadd:(⟨b,off,none⟩:Addr).add j=⟨b,off+j,none⟩:=by unfold Addr.add;split<;>simp_all
       rw[hadd];exact e3 j v hj)
      simp[oz,e1,asAddr,loadVar,vg hr.1.1.2,tu hr.1.2,<-e2,hl]
     | false =>
      simp only[gy,Bool.and_eq_true,decide_eq_true_eq] at hr;simp only[mH] at h1;obtain⟨s,h4,h5⟩:=dG (side:=p1.1) (d:=p1.2) h1;rw[h5] at hs;obtain⟨b,off,u,e1,e2,e3⟩:=Bx (ob:=st.cont) (fun _ _=>rfl) hok ((slot hr.1.1).1 hs.1.1) h4;refine⟨u,?_,e3,hr.2⟩;simp[oz,e1,asAddr,loadVar,vh hr.1.2,e2]
  obtain⟨v,k1,k2,k3⟩:=one;obtain⟨vs,k4,k5,k6⟩:=sH h htr l rs k3 h2 hs.2;refine⟨v::vs,?_,by simp[k5],fun j x hx=>?_⟩
  ·rw[List.mapM_cons]
   simp only[Sem.run_bind,k1,Result.andThen_ok,k4,Sem.run_pure]
  ·cases j with
   | zero=>simp at hx;subst hx;exact k2
   | succ j =>
    simp at hx;have:=k6 j x hx;simpa using this
end
theorem AJ{z:D}(h:(cw 0 [] z).bC=true)(g:Nat):(cw g [] z).bC=true:=by
 cases z
 case ptr l=>cases l<;>rfl
 case fn f l=>cases l<;>rfl
 case vw x=>exact h
 all_goals rfl
theorem Bf{tr:List Nat}{as:List Arg}(k:Nat):(⟨cY tr as,0,[]⟩:St).cont k=.dead\/(∃t a,tr[k]?=some t/\as[t]?=some a/\(⟨cY tr as,0,[]⟩:St).cont k=a.c0 (tr.length+t)) \/
  ∃t x y,k=tr.length+t/\as[t]?=some (.io x y)/\(⟨cY tr as,0,[]⟩:St).cont k=x:=by
 have hc:(⟨cY tr as,0,[]⟩:St).cont k=if k<1000 then((cY tr as)[k]?).getD .dead else .dead:=by
  show(if k<1000 then nth (cY tr as) k else if k<1000+0 then nth [] _ else D.dead)=_;rw[lh];by_cases hk:k<1000
  ·rw[if_pos hk,if_pos hk]
  ·rw[if_neg hk,if_neg hk,if_neg (by omega)]
 generalize(⟨cY tr as,0,[]⟩:St).cont k=X at hc|-
 by_cases hk:k<1000
 ·rw[if_pos hk] at hc
  by_cases hkt:k<tr.length
  ·unfold cY at hc
   rw[List.getElem?_append_left (by simpa using hkt),List.getElem?_map,List.getElem?_eq_getElem hkt] at hc;simp only[Option.map_some,Option.getD_some] at hc;cases ha:as[tr[k]]? with
   | none=>rw[ha] at hc;exact .inl hc
   | some a=>rw[ha] at hc;exact .inr (.inl ⟨tr[k],a,List.getElem?_eq_getElem hkt,ha,hc⟩)
  ·unfold cY at hc
   rw[List.getElem?_append_right (by simpa using hkt),List.length_map] at hc;split at hc
   ·rw[List.getElem?_map] at hc
    cases ha:as[k-tr.length]? with
    | none=>rw[ha] at hc;exact .inl hc
    | some a =>
     rw[ha] at hc;cases a with
     | io x y=>exact .inr (.inr ⟨k-tr.length,x,y,by omega,ha,hc⟩)
     | _=>exact .inl hc
   ·simp at hc;exact .inl hc
 ·rw[if_neg hk] at hc;exact .inl hc
theorem rO{tr:List Nat}{as:List Arg}(htl:tr.length+as.length<1000){t:Nat}{x y:D}(h:as[t]?=some (.io x y)):(⟨cY tr as,0,[]⟩:St).cont (tr.length+t)=x:=by
 have ht:=(List.getElem?_eq_some_iff.1 h).1;show(if tr.length+t<1000 then nth (cY tr as) (tr.length+t) else _)=_;rw[if_pos (by omega),lh];unfold cY
 have hany:as.any Arg.pM=true:=by
  rw[List.any_eq_true];exact⟨_,List.mem_of_getElem? h,rfl⟩
 rw[if_pos hany,List.getElem?_append_right (by simp),List.length_map,List.getElem?_map,show tr.length+t-tr.length=t by omega,h];rfl
theorem Bg{tr:List Nat}{as:List Arg}(htl:tr.length<1000){k t:Nat}{a:Arg}(hk:tr[k]?=some t)(h:as[t]?=some a):(⟨cY tr as,0,[]⟩:St).cont k=a.c0 (tr.length+t):=by
 have hlt:=(List.getElem?_eq_some_iff.1 hk).1;show(if k<1000 then nth (cY tr as) k else _)=_;rw[if_pos (by omega),lh];unfold cY;rw[List.getElem?_append_left (by simpa using hlt),List.getElem?_map,hk];simp only[Option.map_some,Option.getD_some,h]
theorem MN[Mode]{P:Program}{f:FuncId}{fn:Func}{c:C}{tr:List Nat}{as:List Arg}{env:List D}{res:D}{rs:List RS}(hf:P.funcs[f]?=some fn)(hok:jE P fn tr c as.length rs=true)(ha:lZ as=true)(hl:as.length<500)
  (henv:env=cY tr as) (hv:bz P c (out rs res tr.length as) ⟨fun _ _=>False,out rs res tr.length as⟩ env):aD P f as res:=by
 subst henv;simp only[jE,Bool.and_eq_true,decide_eq_true_eq] at hok;obtain⟨⟨⟨hfit,htr⟩,hna⟩,hres⟩:=hok;cases hb:fn.body with
 | none=>rw[hb] at hfit;cases hfit
 | some code =>
 rw[hb] at hfit;simp only at hfit;intro w A vs Fs hgl hA hvs hpre hFd hFs;have htr':=htr;simp only[dI,Bool.and_eq_true,List.all_eq_true,decide_eq_true_eq] at htr';obtain⟨⟨hnd,htlt⟩,hfew⟩:=htr';let tm:Array Value:=vs++Array.replicate (fn.ntmps-vs.size) undef;have htm:tm.size=fn.ntmps:=by simp only[tm,Array.size_append,Array.size_replicate];omega
 have hgetv:∀i,i<as.length->tm.getD i undef=vs.getD i undef:=by
  intro i hi;simp only[tm,Array.getD_eq_getD_getElem?];rw[Array.getElem?_append_left (by omega)]
 let cx:Ctx:=⟨w,fun b=>∃j,Fs j b,A,fun k=>vs.getD (k-tr.length) undef,fun b hb=>⟨hA b hb,fun⟨j,hj⟩=>(hFs j b hj).2.1 hb⟩,hgl,[]⟩;let vl:Nat->Value:=fun k=>match tr[k]? with | some t=>tm.getD t undef | none=>vs.getD (k-tr.length) undef
 let fp:Nat->Nat->Prop:=fun k b=>(∃t x,tr[k]?=some t/\as[t]?=some (.own x)/\Fs t b)\/∃t x y,k=tr.length+t/\as[t]?=some (.io x y)/\Fs t b
 have hfpF:∀k b,fp k b->∃j,Fs j b:=by
  rintro k b (⟨t,x,_,_,h⟩ | ⟨t,x,y,_,_,h⟩)<;>exact⟨t,h⟩
 have hgv:∀k,tr.length<=k->vl k=vs.getD (k-tr.length) undef:=fun k hk=>by
  show(match tr[k]? with | some t=>tm.getD t undef | none=>_)=_;rw[List.getElem?_eq_none hk]
 have hslot:∀k t,tr[k]?=some t->t<as.length->vl k=vs.getD t undef:=fun k t hk ht=>by
  show(match tr[k]? with | some t=>tm.getD t undef | none=>_)=_;rw[hk];exact hgetv t ht
 have hstA:∀b,A b->ae cx fp (fun _=>False) w b:=fun b hb=>⟨⟨hA b hb,fun _=>hb⟩,fun h=>h,fun k hk=>by
  obtain⟨j,hj⟩:=hfpF k b hk
  exact(hFs j b hj).2.1 hb⟩
 have hinj:=pW hnd
 have h0:Bm cx fn.ntmps tr (cY tr as) { tmps:=tm,defers:=[] } w:=by
  refine⟨⟨vl,fp,fun _=>False,?_,fun k t hk _=>by simp only[vl,hk],fun i t hi _=>by simp at hi,fun k h1 _=>hgv k h1⟩,rfl,fun j hj=>by simp at hj,htm,rfl⟩;refine⟨fun k=>?_,fun i j hij b hi hj=>?_,fun _ _ _ h=>h,fun k hk b hb=>?_,fun k b hb=>?_,fun _ h=>h.elim,Nat.le_refl _,fun _ _ _=>rfl,rfl,rfl,.refl _⟩
  ·rcases Bf (tr:=tr) (as:=as) k with hc | ⟨t,a,h1,h2,hc⟩ | ⟨t,x,y,rfl,h2,hc⟩
   ·rw[hc];exact Pl.dead
   ·rw[hc]
    have hlt:=(List.getElem?_eq_some_iff.1 h2).1;have hp:=hpre t a h2;rw[hslot k t h1 hlt];have hao:=pd ha h2;cases a with
    | v x =>
     have hr:=hp.1.mono hstA (fun _ _=>rfl);show az _ _ _ _ _ x;have:x.bC=true:=hao;cases x<;>first | exact Pl.rd hr | cases this
    | own x =>
     show af w _ _ x _;exact af.mono (F:=Fs t) hp hstA (fun _ _=>rfl) (fun _ _=>rfl) fun b hb=>.inl ⟨t,x,h1,h2,hb⟩
    | io x y =>
     have hcg:=rO (tr:=tr) (by omega) h2;have hvg:vl (tr.length+t)=vs.getD t undef:=by rw[hgv _ (by omega),show tr.length+t-tr.length=t by omega]
     have hp:az w A (fun _ _=>False) (vs.getD t undef) (Fs t) x:=hp
     have hcont:az w A (aa w (⟨cY tr as,0,[]⟩:St).cont vl) (vl (tr.length+t)) (Fs t) ((⟨cY tr as,0,[]⟩:St).cont (tr.length+t)):=by
      rw[hcg,hvg];exact hp.mono (Q:=fun _=>True) (fun _ h=>h) (fun _ _=>rfl) (fun _ _=>rfl) (fun _ h=>h) (aV (fun _=>trivial) _) fun v d _ h=>h.elim
     have hov:=jY hcont;rw[hcg,hvg] at hov
     have hkc:∀g:Nat,(bB g x).bC=true:=by
      intro g;cases x with
      | box l=>rfl
      | o z =>
       have hz:(cw 0 [] z).bC=true:=hao;exact AJ hz g
      | _=>cases hao
     have hgate:(bB (tr.length+t) x).gate=true:=by
      have:=hkc (tr.length+t);generalize bB (tr.length+t) x=z at this;cases z<;>first | rfl | cases this
     have hcore:(bB (tr.length+t) x).core=bB (tr.length+t) x:=by
      have:=hkc (tr.length+t);generalize bB (tr.length+t) x=z at this;cases z<;>first | rfl | cases this
     have hpl:=hov.1 hgate;rw[hcore] at hpl;have hpl:=hpl.mono (Q:=fun _=>True) hstA (fun _ _=>rfl) (aV (fun _=>trivial) _) fun v d _ h=>h
     show az _ _ _ _ _ (bB (tr.length+t) x);have:=hkc (tr.length+t);generalize bB (tr.length+t) x=z at this hpl;cases z<;>first | exact hpl | cases this
   ·rw[hc,hgv _ (by omega),show tr.length+t-tr.length=t by omega]
    have hp:az w A (fun _ _=>False) (vs.getD t undef) (Fs t) x:=hpre t _ h2;exact hp.mono (Q:=fun _=>True) hstA (fun _ _=>rfl) (fun _ _=>rfl) (fun b hb=>.inr ⟨t,x,y,rfl,h2,hb⟩) (aV (fun _=>trivial) _) fun v d _ h=>h.elim
  ·have key:∃t,Fs t b/\((tr[i]?=some t/\∃x,as[t]?=some (.own x))\/(i=tr.length+t/\∃x y,as[t]?=some (.io x y))):=by
    rcases hi with⟨t,x,q1,q2,q3⟩ | ⟨t,x,y,q1,q2,q3⟩
    ·exact⟨t,q3,.inl ⟨q1,x,q2⟩⟩
    ·exact⟨t,q3,.inr ⟨q1,x,y,q2⟩⟩
   have key':∃t,Fs t b/\((tr[j]?=some t/\∃x,as[t]?=some (.own x))\/(j=tr.length+t/\∃x y,as[t]?=some (.io x y))):=by
    rcases hj with⟨t,x,q1,q2,q3⟩ | ⟨t,x,y,q1,q2,q3⟩
    ·exact⟨t,q3,.inl ⟨q1,x,q2⟩⟩
    ·exact⟨t,q3,.inr ⟨q1,x,y,q2⟩⟩
   obtain⟨t,k1,k2⟩:=key;obtain⟨t',k3,k4⟩:=key';have htt:t=t':=Classical.byContradiction fun hne=>hFd t t' b hne k1 k3
   subst htt;rcases k2 with⟨q1,x,q2⟩ | ⟨q1,x,y,q2⟩<;>rcases k4 with⟨q3,x',q4⟩ | ⟨q3,x',y',q4⟩
   ·exact hij (hinj _ _ _ q1 q3)
   ·rw[q2] at q4;cases q4
   ·rw[q2] at q4;cases q4
   ·omega
  ·rcases hb with⟨t,x,q1,q2,q3⟩ | ⟨t,x,y,rfl,q2,q3⟩
   ·rw[Bg (by omega) q1 q2] at hk;cases hk
   ·rw[rO (by omega) q2] at hk
    have hao:=pd ha q2;cases x with
    | box l=>cases hk
    | o z=>cases hk
    | _=>cases hao
  ·obtain⟨j,hj⟩:=hfpF k b hb
   exact⟨(hFs j b hj).1,.inl ⟨j,hj⟩⟩
 have fin:∀a' w' env,out rs res tr.length as env->Bm cx fn.ntmps tr env a' w' ->
   a'.defers=[]/\∃v,(results fn a'.tmps).run P w'=.ok v w'/\∃(u:Value)(F:Nat->Prop)(Fs':Nat->Nat->Prop),Ending.returned v=.returned u/\w.heap.size<=w'.heap.size /\
    af w' (fun b=>A b\/(w.heap.size<=b/\b<w'.heap.size/\¬F b/\∀j,¬Fs' j b)) u res F /\
    (∀(i:Nat)(x:Arg),as[i]?=some x->x.post w' (fun b=>A b\/(w.heap.size<=b/\b<w'.heap.size/\¬F b/\∀j,¬Fs' j b)) (vs.getD i undef) (Fs' i)) /\
    (∀b,F b->b<w'.heap.size/\(w.heap.size<=b\/∃j,Fs j b)/\∀j,¬Fs' j b)/\(∀j b,Fs' j b->b<w'.heap.size/\(w.heap.size<=b\/∃j,Fs j b)/\j<as.length)/\(∀i j b,i≠j->Fs' i b->¬Fs' j b) /\
    (∀b,b<w.heap.size->(∀j,¬Fs j b)->w'.heap[b]?=w.heap[b]?)/\w'.os=w.os/\w'.tape=w.tape/\bQ w w':=by
  intro a' w' env ho hB;unfold out at ho;cases cX:gw ⟨env,0,[]⟩ rs with
  | none=>rw[cX] at ho;exact ho.elim
  | some p =>
  rw[cX] at ho;obtain⟨hs,hab⟩:=ho;obtain⟨vl',fp',G',hp,htr2,_,hgh⟩:=hB.ex;obtain⟨us,hrun,hlen,hpl⟩:=sH (P:=P) hp (fun j t hj=>htr2 j t hj (by simp)) fn.results.toList rs hres cX hs;obtain⟨l',st',fp2,G2,Ls,⟨hretd,hgp⟩,htk,hll,hown,hLd,_⟩:=gE (A:=ae cx fp' G' w') _ hab hp hB.wf (fun _ h=>h) hpl;have hrun':=wT hrun;let F:Nat->Prop:=fun b=>∃j,Ls j b
  let Fs':Nat->Nat->Prop:=fun t b=>(∃x y,as[t]?=some (.io x y))/\fp2 (tr.length+t) b
  have aI:∀b,ae cx fp2 G2 w' b->A b\/(w.heap.size<=b/\b<w'.heap.size/\¬F b/\∀j,¬Fs' j b):=by
   rintro b ⟨⟨q1,q2⟩,q3,q4⟩;by_cases hbo:b<w.heap.size
   ·exact .inl (q2 hbo)
   ·exact .inr ⟨by omega,q1,fun hF=>q3 (htk.hF b hF).1,fun j hj=>q4 _ hj.2⟩
  have hownR:af w' (ae cx fp2 G2 w') (lC us) res F:=by
   rw[<-hretd];have hul:us.length=l'.length:=by rw[hlen,hll]
   match us,l',hul,hown,hLd with
   | [],[],_,_,_=>exact af.au (fun _ _=>False) rfl (fun j x hx=>by simp at hx) (fun _ _ h=>h.elim) (fun _ _ _ _ h=>h.elim)
   | [v],[x],_,hown,_ =>
    have:=(hown 0 x rfl).1;exact this.mono (fun _ h=>h) (fun _ _=>rfl) (fun _ _=>rfl) fun b hb=>⟨0,hb⟩
   | a::b::r,x::y::l,hul,hown,hLd =>
    refine af.au (fun j b=>Ls j b) (by simpa using hul) (fun j z hz=>(hown j z hz).1) (fun j b hb=>⟨j,hb⟩) (fun i j b hij hi hj=>hLd i j b hij hi hj)
  refine⟨hB.defers,_,hrun',_,F,Fs',rfl,htk.hp.size,hownR.mono aI (fun _ _=>rfl) (fun _ _=>rfl) fun _ h=>h,fun i x hx=>?_,fun b hb=>?_,fun j b hb=>?_,fun i j b hij hi hj=>?_,fun b hb hn=>htk.hp.same b hb fun⟨j,hj⟩=>hn j hj,htk.hp.os,htk.hp.tape,htk.hp.output⟩
  ·cases x with
   | io x y =>
    obtain⟨g1,g2⟩:=u5 hgp hx;have hlt:=(List.getElem?_eq_some_iff.1 hx).1;have hc:=htk.hp.ok (tr.length+i);rw[g1,hgh _ (by omega) (by omega)] at hc;have hv:cx.gv (tr.length+i)=vs.getD i undef:=by show vs.getD (tr.length+i-tr.length) undef=_;rw[show tr.length+i-tr.length=i by omega]
    rw[hv] at hc;exact(hc.bare g2).mono (Q:=fun _=>True) aI (fun _ _=>rfl) (fun _ _=>rfl) (fun b hb=>⟨⟨x,y,hx⟩,hb⟩) (aV (fun _=>trivial) _) fun _ _ _ h=>h
   | v x=>exact fun b hb=>by obtain⟨⟨x',y',h⟩,_⟩:=hb;rw[hx] at h;cases h
   | own x=>exact fun b hb=>by obtain⟨⟨x',y',h⟩,_⟩:=hb;rw[hx] at h;cases h
  ·have q:=htk.hF b hb
   obtain⟨q1,q2⟩:=htk.hp.bd b q.1;exact⟨q1,q2.symm,fun j hj=>htk.hp.bh _ b hj.2 q.1⟩
  ·obtain⟨⟨x,y,hxy⟩,hb⟩:=hb
   obtain⟨q1,q2⟩:=htk.hp.lt _ b hb;exact⟨q1,q2.symm,(List.getElem?_eq_some_iff.1 hxy).1⟩
  ·exact htk.hp.bk _ _ (by omega) b hi.2 hj.2
 refine calls_of_wp hf hb ?_;exact eG htr c code hfit hv h0 (fun a w env h1 h2=>fin a w env h1 h2) (fun _ _ _ _ h _=>h.elim) (fun a w env h1 h2=>fin a w env h1 h2)
end Go.D3
