/- FUNCTIONS: from a text's condition to a contract. Generic. -/
import Derived.Test.YtaknpcdnmecblaaGreatDoorHE
namespace Go.D3
open Go
def qp(ct:Nat->D):X->D
 | .t i=>cB (1000+i) (ct (1000+i))
 | .v j=>cB j (ct j)
 | .i n=>.int .i64 n
 | .k d=>d
 | .g n=>(gl n).getD .dead
theorem Xf(st:St)(x:X):qp st.cont x=st.rd x:=by cases x<;>rfl
def lD[Mode](P:Program)(k:Kp)(g:Option Bool)(rd:X->D)(ob:Nat->D)(c:D):Prop :=
 match k with
 | .call f xs=>∃ds res,iR ob rd xs=some ds/\mb g (eN rd xs=true/\aA P f (ds.map .v) res/\(res.bA=true\/kW rd xs))/\yk g res c
 | .box n x=>g=none/\∃side,bX (.box n x) rd=some (side,c)/\side
 | .fP n x=>g=none/\∃side,bX (.fP n x) rd=some (side,c)/\side
 | .fc zs=>g=none/\∃side,bX (.fc zs) rd=some (side,c)/\side
 | .ah z b l u=>g=none/\∃side,bX (.ah z b l u) rd=some (side,c)/\side
 | .gV=>g=none/\∃side,bX .gV rd=some (side,c)/\side
 | .gU T e x=>g=none/\∃side,bX (.gU T e x) rd=some (side,c)/\side
 | .e8 x=>g=none/\∃side,bX (.e8 x) rd=some (side,c)/\side
 | .gM x=>g=none/\∃side,bX (.gM x) rd=some (side,c)/\side
 | .aU z n ps=>g=none/\∃side,bX (.aU z n ps) rd=some (side,c)/\side
 | k=>(∃side res,bO k rd ob=some (side,res)/\mb g side/\res.cL=true/\c=qM g res)\/(g=some false/\c=.when false (.bool false))
theorem Xa{r:Option PR}{g:Option Bool}{K:St->Prop}{st:St}(h:iz r g K st):∃c,((∃side res,r=some (side,res)/\mb g side/\res.cL=true/\c=qM g res)\/(g=some false/\c=.when false (.bool false)))/\K (st.push c):=by
 unfold iz at h;split at h
 ·exact⟨_,.inr ⟨h.1,rfl⟩,h.2⟩
 ·exact⟨_,.inl ⟨_,_,rfl,h.1,h.2.1,rfl⟩,h.2.2⟩
theorem nh{r:Option PR}{g:Option Bool}{K:St->Prop}{st:St}(h:fo r g K st):∃c,(g=none/\∃side,r=some (side,c)/\side)/\K (st.push c):=by
 unfold fo at h;split at h
 ·exact⟨_,⟨rfl,_,rfl,h.1⟩,h.2⟩
 ·exact h.elim
theorem Ii[Mode]{P:Program}{k:Kp}{g:Option Bool}{K:St->Prop}{st:St}(hk:k.gr=false)(h:br P k g K st):∃c,lD P k g st.rd st.cont c/\K (st.push c):=by
 cases k<;>try(simp[Kp.gr] at hk;done)
 case call f xs =>
  obtain⟨I,res,c,h1,S,V,W⟩:=h;exact⟨c,⟨I,res,h1,S,V⟩,W⟩
 case box=>exact nh h
 case fP=>exact nh h
 case fc=>exact nh h
 case ah=>exact nh h
 case gV=>exact nh h
 case gU=>exact nh h
 case e8=>exact nh h
 case gM=>exact nh h
 case aU=>exact nh h
 all_goals exact Xa h
section
variable{ob ob':Nat->D}(hm:∀k c,lk ob k=some c->lk ob' k=some c)
include hm
theorem mZ{α:Type}{k:Nat}{F:D->Option α}{r:α}(h:(lk ob k).bind F=some r):(lk ob' k).bind F=some r:=by
 rw[Option.bind_eq_some_iff] at h|-
 obtain⟨c,h1,I⟩:=h;exact⟨c,hm k c h1,I⟩
theorem HC{x:D}{e:List D×List D}(h:mapOf ob x=some e):mapOf ob' x=some e:=by
 unfold mapOf at h|-
 split at h
 ·exact mZ hm h
 ·exact h
theorem WB{k:Kp}{rd:X->D}{r:PR}(h:bO k rd ob=some r):bO k rd ob'=some r:=by
 have S:∀{x:D}{a b:Option PR},(∀r,a=some r->b=some r)->g1 x a=some r->g1 x b=some r:=by
  intro x a b V Z;cases a with
  | none=>cases Z
  | some q=>rw[V q rfl];exact Z
 have W:∀{x y:D}{a b:Option PR},(∀r,a=some r->b=some r)->g2 x y a=some r->g2 x y b=some r:=by
  intro x y a b V Z;cases a with
  | none=>cases Z
  | some q=>rw[V q rfl];exact Z
 cases k<;>try exact h
 case sl x lo hi =>
  simp only[bO] at h|-
  unfold xl at h|-
  cases hso:o7 (rd x).core lo with
  | some kp=>rw[hso] at h;exact mZ hm h
  | none=>rw[hso] at h;exact h
 case len x =>
  refine S (fun r I=>?_) h;unfold lZ at I|-
  split at I
  ·exact mZ hm I
  ·exact I
 case p7 neg x =>
  refine S (fun r I=>?_) h;unfold tJ at I|-
  split at I
  ·exact I
  ·rw[Option.bind_eq_some_iff] at I|-
   obtain⟨e,h1,Y⟩:=I;refine⟨e,?_,Y⟩;unfold lZ at h1|-
   split at h1
   ·exact mZ hm h1
   ·exact h1
 case pV ok kk z m k =>
  refine W (fun r I=>?_) h;unfold wg at I|-
  rw[Option.bind_eq_some_iff] at I|-
  obtain⟨e,h1,Y⟩:=I;exact⟨e,HC hm h1,Y⟩
 case pS x =>
  refine S (fun r I=>?_) h;unfold vZ at I|-
  rw[Option.bind_eq_some_iff] at I|-
  obtain⟨e,h1,Y⟩:=I;exact⟨e,HC hm h1,Y⟩
 case pA x =>
  refine S (fun r I=>?_) h;unfold rh at I|-
  split at I
  ·exact mZ hm I
  ·exact I
 case aB sz x i =>
  refine W (fun r I=>?_) h;unfold oc at I|-
  split at I
  ·split at I
   ·exact mZ hm I
   ·exact I
  ·cases I
 case ld a =>
  refine S (fun r I=>?_) h;unfold oh at I|-
  split at I
  ·exact I
  ·exact mZ hm I
  ·cases I
 case dz n a =>
  refine S (fun r I=>?_) h;unfold oi at I|-
  split at I
  ·exact I
  ·exact mZ hm I
  ·cases I
 case fA off a =>
  refine S (fun r I=>?_) h;unfold nW at I|-
  split at I
  ·exact I
  ·exact mZ hm I
  ·cases I
omit hm in
theorem tG{f g:D->Option D}(h:∀x y,f x=some y->g x=some y):∀{l r:List D},ez f l=some r->ez g l=some r
 | [],r,I=>I
 | x::l,r,I=>by
  simp only[ez,Option.bind_eq_some_iff] at I|-
  obtain⟨y,h1,z,S,V⟩:=I;exact⟨y,h x y h1,z,tG h S,V⟩
theorem Gt:∀(n:Nat){d r:D},ba ob n d=some r->ba ob' n d=some r
 | 0,d,r,h=>by simp[ba] at h
 | n+1,d,r,h=>by
  have W:∀x y,ba ob n x=some y->ba ob' n x=some y:=fun x y=>Gt n
  cases d<;>try exact h
  case sub k p =>
   simp only[ba] at h|-
   rw[Option.bind_eq_some_iff] at h|-
   obtain⟨c,h1,I⟩:=h;refine⟨c,hm k c h1,?_⟩;cases c<;>try exact I
   rename_i z l;simp only[Option.bind_eq_some_iff] at I|-
   obtain⟨l',S,V⟩:=I;exact⟨l',tG W S,V⟩
  case pre k p m =>
   simp only[ba] at h|-
   rw[Option.bind_eq_some_iff] at h|-
   obtain⟨c,h1,I⟩:=h;exact⟨c,hm k c h1,I⟩
  case aG k p =>
   simp only[ba] at h|-
   rw[Option.bind_eq_some_iff] at h|-
   obtain⟨c,h1,I⟩:=h;refine⟨c,hm k c h1,?_⟩;split at I
   ·simp only[Option.bind_eq_some_iff] at I|-
    obtain⟨l',S,V⟩:=I;exact⟨l',tG W S,V⟩
   ·exact I
   ·exact I
   ·cases I
  case agg l =>
   simp only[ba,Option.bind_eq_some_iff] at h|-
   obtain⟨l',S,V⟩:=h;exact⟨l',tG W S,V⟩
  case fn f caps =>
   simp only[ba,Option.bind_eq_some_iff] at h|-
   obtain⟨l',S,V⟩:=h;exact⟨l',tG W S,V⟩
theorem Gr{rd:X->D}:∀{xs:List X}{l:List D},iR ob rd xs=some l->iR ob' rd xs=some l
 | [],l,h=>h
 | x::r,l,h=>by
  simp only[iR,Option.bind_eq_some_iff] at h|-
  obtain⟨y,h1,z,I,S⟩:=h;exact⟨y,Gt hm 4 h1,z,Gr I,S⟩
theorem lD.mono[Mode](_W:∀j,j<1000->ob j=ob' j){P:Program}{k:Kp}{g:Option Bool}{rd:X->D}{c:D}(h:lD P k g rd ob c):lD P k g rd ob' c:=by
 cases k
 case call f xs =>
  obtain⟨I,res,h1,S,V⟩:=h;exact⟨I,res,Gr hm h1,S,V⟩
 case box=>exact h
 case fP=>exact h
 case fc=>exact h
 case ah=>exact h
 case gV=>exact h
 case gU=>exact h
 case e8=>exact h
 case gM=>exact h
 case aU=>exact h
 all_goals
  rcases h with⟨side,res,h1,S⟩ | h
  ·exact .inl ⟨side,res,WB hm h1,S⟩
  ·exact .inr h
end
structure Fd[Mode](cx:Ctx)(nt:Nat)(tr pre:List Nat)(ds:List (Option Nat))(ct:Nat->D)(done:Nat->Prop)(a:Act)(w:World):Prop where
 ex:∃vl fp G,Hp cx ct vl fp G w/\(∀(j t:Nat),tr[j]?=some t->pre.contains j=false->a.tmps.getD t undef=vl j)/\(∀(i t:Nat),done i->ds[i]?=some (some t)->a.tmps.getD t undef=vl (1000+i))/\∀k,tr.length<=k->k<1000->vl k=cx.gv k
 dd:∀j,pre.contains j=true->ct j=.dead
 size:a.tmps.size=nt
 defers:a.defers=cx.yE
section
variable{P:Program}{cx:Ctx}{nt:Nat}{tr pre:List Nat}{ds:List (Option Nat)}{ct:Nat->D}{done:Nat->Prop}{a:Act}{w:World}{o:Oper}{Q:Exit->Act->World->Prop}{vl:Nat->Value}{fp:Nat->Nat->Prop}{G:Nat->Prop}
theorem QV[Mode](h:Hp cx ct vl fp G w)(Y:∀(j t:Nat),tr[j]?=some t->pre.contains j=false->a.tmps.getD t undef=vl j)(W:∀(i t:Nat),done i->ds[i]?=some (some t)->a.tmps.getD t undef=vl (1000+i))
  {x:Operand} {y:X} (I:aP ds tr x y=true) (hi:∀i,y=.t i->done i) (Z:∀j,y=.v j->pre.contains j=false):cC w (ak cx fp G w) (ai w ct vl) (a.eval x) (qp ct y):=by
 have lit:∀{v:Value}{d:D},Rd w (ak cx fp G w) v d->cC w (ak cx fp G w) (ai w ct vl) v d:=fun S=>Pl.qk (.rd S) qq
 unfold aP at I;split at I<;>try(cases I;done)
 ·rename_i t i
  have:=W i t (hi i rfl) (by simpa using I);show cC _ _ _ (a.tmps.getD t undef) (cB (1000+i) (ct (1000+i)));rw[this];exact oA (h.ok _)
 ·rename_i t j
  have:=Y j t (by simpa using I) (Z j rfl);show cC _ _ _ (a.tmps.getD t undef) (cB j (ct j));rw[this];exact oA (h.ok _)
 ·simp only[Bool.and_eq_true,decide_eq_true_eq] at I
  obtain⟨⟨rfl,rfl⟩,h1⟩:=I;exact lit (.int (qb h1))
 ·simp only[Bool.and_eq_true,decide_eq_true_eq] at I
  obtain⟨⟨rfl,rfl⟩,h1⟩:=I;exact lit (.int (qb h1))
 ·simp only[beq_iff_eq] at I
  subst I;exact lit .bool
 ·simp only[Bool.and_eq_true,decide_eq_true_eq] at I
  show cC _ _ _ (Value.string _) _;rw[FW I.1];exact lit (.str (by have:=I.2;simp only[maxLen];omega))
 ·exact lit .aH
 ·exact lit .bd
 ·simp only[beq_iff_eq] at I
  subst I;exact lit (.fn rfl (fun j x I=>by simp at I))
 ·rename_i g g'
  simp only[Bool.and_eq_true,beq_iff_eq] at I;obtain⟨V,I⟩:=I;subst V;obtain⟨d,S⟩:=Option.isSome_iff_exists.1 I;have:=h.gl.gl _ _ S;show cC _ _ _ _ ((gl g).getD .dead);rw[S];exact lit this
 ·exact lit .bz
theorem Fd.IS[Mode](hS:km nt tr pre ds)(a6:∀j,pre.contains j=true->ct j=.dead)(V:a.tmps.size=nt)(ag:a.defers=cx.yE){i:Nat}{s:bh}(hd:ds[i]?=some (fZ o s))(ha:s.k.di=none)(a8:∀t,o.dst=some t->t<nt){w':World}{v:Value}{c:D}
  (Y:∀(j t:Nat),tr[j]?=some t->pre.contains j=false->a.tmps.getD t undef=vl j) (W:∀(i t:Nat),done i->ds[i]?=some (some t)->a.tmps.getD t undef=vl (1000+i)) (a7:∀k,tr.length<=k->k<1000->vl k=cx.gv k)
  (hp:∃ad G',Hp cx (az ct (1000+i) c) (az vl (1000+i) v) ad G' w'):Fd cx nt tr pre ds (az ct (1000+i) c) (fun j=>done j\/j=i) (a.put o.dst v) w':=by
 obtain⟨ad,G',hp⟩:=hp;have a1:fZ o s=o.dst:=by simp[fZ,ha]
 rw[a1] at hd;have ax:∀j t,tr[j]?=some t->j<1000:=fun j t I=>by have:=(List.getElem?_eq_some_iff.1 I).1;have:=hS.iq;omega
 refine⟨⟨_,_,_,hp,fun j t I S=>?_,fun j t I hit=>?_,fun k h1 h2=>by rw[aI _ _ (by omega)];exact a7 k h1 h2⟩,fun j I=>by rw[aI _ _ (by have:=hS.AL j I;have:=hS.iq;omega)];exact a6 j I,?_,?_⟩
 ·rw[aI _ _ (by have:=ax j t I;omega)]
  cases hod:o.dst with
  | none=>exact Y j t I S
  | some d =>
   have ab:d≠t:=by
    rintro rfl;rw[hod] at hd;have:=hS.apart _ _ hd j I;rw[S] at this;cases this
   simp only[Act.put];rw[getD_set_ne _ ab];exact Y j t I S
 ·by_cases Z:j=i
  ·subst Z
   rw[bc];rw[hd] at hit;injection hit with hit
   rw[hit];simp only[Act.put];exact rA _ (by rw[V];exact a8 t hit)
  ·rw[aI _ _ (by omega)]
   have ao:=I.resolve_right Z;cases hod:o.dst with
   | none=>exact W j t ao hit
   | some d =>
    have ab:d≠t:=by
     rintro rfl;rw[hod] at hd;exact Z (hS.nodup _ _ _ hit hd)
    simp only[Act.put];rw[getD_set_ne _ ab];exact W j t ao hit
 ·cases o.dst<;>simp[Act.put,V]
 ·cases o.dst<;>simp[Act.put,ag]
theorem Fd.put[Mode](Z:km nt tr pre ds)(h:Fd cx nt tr pre ds ct done a w){i:Nat}{s:bh}(hd:ds[i]?=some (fZ o s))(ha:s.k.di=none)(Y:∀t,o.dst=some t->t<nt){w':World}{v:Value}{c:D}
  (S:∀(j t:Nat),tr[j]?=some t->pre.contains j=false->a.tmps.getD t undef=vl j) (I:∀(i t:Nat),done i->ds[i]?=some (some t)->a.tmps.getD t undef=vl (1000+i)) (W:∀k,tr.length<=k->k<1000->vl k=cx.gv k)
  (hp:∃V G',Hp cx (az ct (1000+i) c) (az vl (1000+i) v) V G' w'):Fd cx nt tr pre ds (az ct (1000+i) c) (fun j=>done j\/j=i) (a.put o.dst v) w' :=
 Fd.IS Z h.dd h.size h.defers hd ha Y S I W hp
theorem IT[Mode](h:Hp cx ct vl fp G w){k:Nat}(hk:(ct k).isObj=false){v:Value}{c:D}(S:aN w (ak cx fp G w) (ai w ct vl) v (fun _=>False) c):∃I G',Hp cx (az ct k c) (az vl k v) I G' w :=
 ⟨_,G,h.put hk (F:=fun _=>False) S (fun _ h=>h.elim) (fun _ h=>h) (fun _ h=>h.elim) (fun _ _ h=>h)⟩
theorem I0[Mode](hS:km nt tr pre ds)(h:Fd cx nt tr pre ds ct done a w){i:Nat}(ao:(ct (1000+i)).isObj=false){s:bh}{g:Option Bool}(hg:g≠some false)(hk:bb P ds tr o s.k=true)(hd:ds[i]?=some (fZ o s))(S:s.k.di=none)(a1:∀t,o.dst=some t->t<nt)
  {rd:X->D} {ob:Nat->D} (bF:∀y,y∈s.k.xs->∀x,aP ds tr x y=true->rd y=qp ct y) (V:∀j,j∈s.k.reads->done j) (bT:∀j,X.v j∈s.k.xs->pre.contains j=false) (a8:∀j,(ct j).isObj=true->ob j=ct j) (_cc:∀j,j<1000->ob j=ct j) {c:D} (I:lD P s.k g rd ob c) :
  o.wp P a w (fun a' w'=>Fd cx nt tr pre ds (az ct (1000+i) c) (fun j=>done j\/j=i) a' w') Q:=by
 obtain⟨vl,fp,G,hp,ag,ad,ax⟩:=h.ex;obtain⟨g0,k⟩:=s;simp only at hk hd S bF V bT I
 have hx:∀y,y∈k.xs->∀x,aP ds tr x y=true->cC w (ak cx fp G w) (ai w ct vl) (a.eval x) (rd y):=fun y hy x b0=>by
  rw[bF y hy x b0];exact QV hp ag ad b0 (fun i hi=>V i (wV (by rw[<-hi];exact hy))) (fun j hj=>bT j (by rw[<-hj];exact hy))
 have b5:∀j,∃F,aN w (ak cx fp G w) (ai w ct vl) (vl j) F (ct j):=fun j=>⟨_,hp.ok j⟩
 have pure:((∃side res,bO k rd ob=some (side,res)/\mb g side/\res.cL=true/\c=qM g res)\/(g=some false/\c=.when false (.bool false)))->o.wp P a w (fun a' w'=>Fd cx nt tr pre ds (az ct (1000+i) c) (fun j=>done j\/j=i) a' w') Q:=by
  rintro(⟨side,res,bg,hs,b4,rfl⟩ | ⟨hh,-⟩)
  case inr=>exact absurd hh hg
  have a6:side:=by
   cases g with
   | none=>exact hs
   | some b=>cases b with
    | false=>exact absurd rfl hg
    | true=>exact hs rfl
  obtain⟨v,ab,b9⟩:=Ix (P:=P) (o:=o) bg hk hx a8 b5 a6;exact jz ab (h.put hS (s:=⟨g0,k⟩) hd S a1 ag ad ax (IT hp ao (Ni b9 b4 hg)))
 have new:(g=none/\∃side,bX k rd=some (side,c)/\side)->o.wp P a w (fun a' w'=>Fd cx nt tr pre ds (az ct (1000+i) c) (fun j=>done j\/j=i) a' w') Q:=by
  rintro⟨rfl,side,a7,hs⟩;obtain⟨v,w',F,ab,Y,hF,hc,W⟩:=HM (P:=P) (o:=o) (A:=ak cx fp G w) a7 hk hx (fun b hb=>hb.1.1) hs;exact jz ab (h.put hS (s:=⟨g0,k⟩) hd S a1 ag ad ax ⟨_,_,hp.add Y (k:=1000+i) ao hF hc W⟩)
 cases k with
 | call f xs =>
  obtain⟨b1,res,b3,Z,b2⟩:=I
  have hh:eN rd xs=true/\aA P f (b1.map .v) res/\(res.bA=true\/kW rd xs):=by
   cases g with
   | none=>exact Z
   | some b=>cases b with
    | false=>exact absurd rfl hg
    | true=>exact Z rfl
  refine Fb (ob:=ob) hp hk hx a8 b3 hh.1 hh.2.1 hh.2.2 g hg b2 fun v w' F Y hF hc W=>?_
  exact h.put hS (s:=⟨g0,.call f xs⟩) hd S a1 ag ad ax ⟨_,_,hp.add Y (k:=1000+i) ao hF hc W⟩
 | ch j x=>simp[Kp.di] at S
 | kr j x=>simp[Kp.di] at S
 | ku j x=>simp[Kp.di] at S
 | st x y=>exact pure I
 | eh n x y=>exact pure I
 | mj n x y=>exact pure I
 | app n m x y=>exact pure I
 | jh f xs=>exact pure I
 | dyn f xs=>exact pure I
 | box n x=>exact new I
 | fP n x=>exact new I
 | fc zs=>exact new I
 | ah z b l c=>exact new I
 | gV=>exact new I
 | gU T e x=>exact new I
 | e8 x=>exact new I
 | gM x=>exact new I
 | aU z n ps=>exact new I
 | _=>exact pure I
theorem Xd[Mode](hS:km nt tr pre ds)(h:Fd cx nt tr pre ds ct done a w){i:Nat}(V:(ct (1000+i)).isObj=false){s:bh}(hd:ds[i]?=some (fZ o s))(Z:s.k.di=none)(Y:∀t,o.dst=some t->t<nt)
  {rd:X->D} {ob:Nat->D} {c:D} (I:lD P s.k (some false) rd ob c):Fd cx nt tr pre ds (az ct (1000+i) c) (fun j=>done j\/j=i) (a.put o.dst undef) w:=by
 obtain⟨vl,fp,G,hp,ad,ab,W⟩:=h.ex
 have hc:∃d,c=.when false d:=by
  obtain⟨g0,k⟩:=s;cases k with
  | call f xs=>obtain⟨_,res,_,_,S⟩:=I;exact S.elim (fun h=>⟨_,h⟩) fun h=>⟨_,h⟩
  | box n x=>cases I.1
  | fP n x=>cases I.1
  | fc zs=>cases I.1
  | ah z b l c=>cases I.1
  | gV=>cases I.1
  | gU T e x=>cases I.1
  | e8 x=>cases I.1
  | gM x=>cases I.1
  | aU z n ps=>cases I.1
  | _ =>
   rcases I with⟨_,res,_,_,_,rfl⟩ | ⟨_,rfl⟩
   ·exact⟨res,rfl⟩
   ·exact⟨_,rfl⟩
 obtain⟨d,rfl⟩:=hc;exact h.put hS hd Z Y ad ab W (IT hp V Nj)
end
theorem za{P:Program}{nt:Nat}{ds:List (Option Nat)}{tr:List Nat}:∀{lo:List Oper}{ls:List bh}{n:Nat},lS P nt ds tr n lo ls=true->∀{i:Nat}{s:bh},ls[i]?=some s->∃o,lo[i]?=some o/\(∀t,o.dst=some t->t<nt) /\
  (∀j,s.k.di=some j->o.dst=tr[j]?/\j<tr.length/\s.g=none) /\
  (match o.guard,s.g with
    | none,none=>true
    | some (j,want),some (i',want')=>j == i'&&want == want'&&decide (i'<n+i)&&(match ds[i']? with | some (some _)=>true | _=>false)
    | _,_=>false)=true/\bb P ds tr o s.k=true/\(∀j,j∈s.k.reads->j<n+i)
 | [],[],n,_,i,s,S=>by simp at S
 | [],_::_,n,h,i,s,S=>by simp[lS] at h
 | _::_,[],n,h,i,s,S=>by simp at S
 | o::lo,s::ls,n,h,i,s',S=>by
  simp only[lS,Bool.and_eq_true] at h;obtain⟨⟨⟨⟨⟨V,I⟩,W⟩,Y⟩,Z⟩,hf⟩:=h;cases i with
  | zero =>
   simp only[List.getElem?_cons_zero,Option.some.injEq] at S;subst S;refine⟨o,rfl,fun t ht=>by rw[ht] at V;simpa using V,fun j hj=>?_,W,Y,fun j hj=>by simpa using(List.all_eq_true.1 Z) j hj⟩;rw[hj] at I;simp only[Bool.and_eq_true,decide_eq_true_eq] at I;exact⟨I.1.1,I.1.2,by simpa using I.2⟩
  | succ i =>
   simp only[List.getElem?_cons_succ] at S|-
   have:=za hf S;rw[show n+1+i=n+(i+1) by omega] at this;exact this
theorem Jl:∀{lo:List Oper}{ls:List bh}{i:Nat}{o:Oper}{s:bh},lo[i]?=some o->ls[i]?=some s->(bY lo ls)[i]?=some (fZ o s)
 | o::lo,s::ls,0,o',I,h1,h2=>by simp at h1 h2;subst h1 h2;rfl
 | o::lo,s::ls,i+1,o',I,h1,h2=>by simp at h1 h2|-;simp only[bY,List.getElem?_cons_succ];exact Jl h1 h2
 | [],_,i,o,s,h1,h2=>by simp at h1
 | _::_,[],i,o,s,h1,h2=>by simp at h2
theorem Ft:∀(l:List Oper)(acc:List Nat),∃r,ep acc l=acc++r/\r.length=l.length
 | [],acc=>⟨[],by simp[ep],rfl⟩
 | o::l,acc=>by
  obtain⟨r,h1,I⟩:=Ft l (acc++[closure acc o]);exact⟨closure acc o::r,by simp[ep,h1],by simp[I]⟩
theorem Fq:∀(l:List Oper)(acc:List Nat)(i:Nat)(o:Oper),l[i]?=some o->∃I,(ep acc l).getD (acc.length+i) 0=closure I o/\∀j,I.getD j 0≠0->I.getD j 0=(ep acc l).getD j 0
 | [],acc,i,o,h=>by simp at h
 | o::l,acc,0,o',h=>by
  simp at h;subst h;obtain⟨r,h1,_⟩:=Ft l (acc++[closure acc o]);refine⟨acc,by simp[ep,h1],fun j V=>?_⟩
  have S:j<acc.length:=by
   apply Classical.byContradiction;intro W;apply V;simp[List.getD_eq_getElem?_getD,List.getElem?_eq_none (show acc.length<=j by omega)]
  rw[ep,h1];simp only[List.getD_eq_getElem?_getD,List.append_assoc];rw[List.getElem?_append_left S]
 | o::l,acc,i+1,o',h=>by
  simp at h;have:=Fq l (acc++[closure acc o]) i o' h;simp only[List.length_append,List.length_cons,List.length_nil] at this;rw[show acc.length+(0+1)+i=acc.length+(i+1) by omega] at this;exact this
theorem Fp{acc:List Nat}{x:Nat}:∀(l:List Edge)(s:Nat),(l.foldl (fun s e=>if Region.binds .any e=true then s ||| (1 <<< e.on ||| acc.getD e.on 0) else s) s).testBit x=true ->
  s.testBit x=true\/∃e∈l,Region.binds .any e=true/\(x=e.on\/(acc.getD e.on 0).testBit x=true)
 | [],s,h=>.inl h
 | e::l,s,h=>by
  simp only[List.foldl_cons] at h;rcases Fp l _ h with h1 | ⟨S,h1,V⟩
  ·split at h1
   ·rename_i I
    rw[Nat.testBit_or,Nat.testBit_or,Bool.or_eq_true,Bool.or_eq_true] at h1;rcases h1 with h1 | h1 | h1
    ·exact .inl h1
    ·refine .inr ⟨e,by simp,I,.inl ?_⟩
     rw[Nat.one_shiftLeft,Nat.testBit_two_pow] at h1;exact(of_decide_eq_true h1).symm
    ·exact .inr ⟨e,by simp,I,.inr h1⟩
   ·exact .inl h1
  ·exact .inr ⟨S,by simp[h1],V⟩
theorem Pk{l:List Oper}{i x:Nat}{o:Oper}(hi:l[i]?=some o)(I:fU (ep [] l) i x=true):∃e∈o.after,Region.binds .any e=true/\(x=e.on\/fU (ep [] l) e.on x=true):=by
 obtain⟨acc,h1,S⟩:=Fq l [] i o hi;simp only[List.length_nil,Nat.zero_add] at h1;unfold fU at I;rw[h1] at I;rcases Fp _ _ I with h | ⟨e,he,V,I⟩
 ·simp at h
 ·refine⟨e,by simpa using he,V,?_⟩
  rcases I with I | I
  ·exact .inl I
  ·right
   unfold fU;rw[<-S _ (by intro h;rw[h] at I;simp at I)];exact I
def cM(st:St)(cs:List D):St:=cs.foldl St.push st
theorem wT:∀(cs:List D){st:St},st.wf->(cM st cs).wf/\(cM st cs).n=st.n+cs.length
 | [],st,h=>⟨h,rfl⟩
 | c::cs,st,h=>by
  obtain⟨h1,I⟩:=wT cs (St.fx h c);exact⟨h1,by rw[show cM st (c::cs)=cM (st.push c) cs from rfl,I];simp only[St.push,List.length_cons];omega⟩
def sw(b:Bool)(x:D):D:=match b with | true=>x | false=>.dead
def cV(base:Nat->D)(n:Nat)(cs:List D)(T:Nat->Bool)(k:Nat):D :=
 if 1000+n<=k/\k<1000+n+cs.length then sw (T (k-1000)) (cs.getD (k-1000-n) .dead) else base k
theorem oQ{base:Nat->D}{n:Nat}{cs:List D}{T:Nat->Bool}{i:Nat}(h1:n<=i)(I:i<n+cs.length):cV base n cs T (1000+i)=sw (T i) (cs.getD (i-n) .dead):=by
 unfold cV;rw[if_pos (by omega),show 1000+i-1000=i by omega]
theorem qB{base:Nat->D}{n:Nat}{cs:List D}{T:Nat->Bool}{k:Nat}(h:¬(1000+n<=k/\k<1000+n+cs.length)):cV base n cs T k=base k:=by
 unfold cV;rw[if_neg h]
theorem uv:∀(cs:List D){st:St},st.wf->(cM st cs).cont=cV st.cont st.n cs fun _=>true
 | [],st,h=>by funext k;simp only[cV,cM,List.foldl_nil,List.length_nil];rw[if_neg (by omega)]
 | c::cs,st,h=>by
  rw[show cM st (c::cs)=cM (st.push c) cs from rfl,uv cs (St.fx h c)];funext k;simp only[cV,St.c8 h,sw,List.length_cons];have e:(st.push c).n=st.n+1:=rfl;rw[e];by_cases h1 : 1000+(st.n+1)<=k/\k<1000+(st.n+1)+cs.length
  ·rw[if_pos h1,if_pos (by omega)]
   obtain⟨m,hm⟩:∃m,k-1000-st.n=m+1:=⟨k-1000-st.n-1,by omega⟩;rw[hm,show k-1000-(st.n+1)=m by omega];rfl
  ·rw[if_neg h1]
   by_cases I:k=1000+st.n
   ·subst I
    rw[bc,if_pos (by omega),show 1000+st.n-1000-st.n=0 by omega];rfl
   ·rw[aI _ _ I,if_neg (by omega)]
def xN[Mode](P:Program)(s:bh)(st:St)(c:D):Prop :=
 match s.g with
 | none=>lD P s.k none st.rd st.cont c
 | some (j,want)=>∃b,gd (st.rd (.t j)) want=some b/\lD P s.k (some b) st.rd st.cont c
theorem Br[Mode]{P:Program}{K:St->Prop}:∀(I rest:List bh){st:St},cw P K (I++rest) st->(∀s∈I,s.k.gr=false) ->
  ∃cs:List D,cs.length=I.length/\(∀(i:Nat)(s:bh),I[i]?=some s->xN P s (cM st (cs.take i)) (cs.getD i .dead))/\cw P K rest (cM st cs)
 | [],rest,st,h,_=>⟨[],rfl,fun i s S=>by simp at S,h⟩
 | s::I,rest,st,h,hq=>by
  have step:∃c,xN P s st c/\cw P K (I++rest) (st.push c):=by
   obtain⟨g,k⟩:=s;cases g with
   | none =>
    obtain⟨c,h1,V⟩:=Ii (hq ⟨none,k⟩ (by simp)) h;exact⟨c,h1,V⟩
   | some W =>
    obtain⟨j,want⟩:=W;simp only[List.cons_append,cw,kG] at h;split at h
    ·rename_i b hb
     obtain⟨c,h1,V⟩:=Ii (hq ⟨some (j,want),k⟩ (by simp)) h;exact⟨c,⟨b,hb,h1⟩,V⟩
    ·exact h.elim
  obtain⟨c,h1,V⟩:=step;obtain⟨cs,Y,Z,h5⟩:=Br I rest V fun s S=>hq s (by simp[S])
  refine⟨c::cs,by simp[Y],fun i s' S=>?_,h5⟩;cases i with
  | zero=>simp at S;subst S;exact h1
  | succ i=>simp at S;exact Z i s' S
theorem BK:∀sl:List bh,∃I rest,sl=I++rest/\(∀s∈I,s.k.gr=false)/\(rest=[]\/∃e r,rest=e::r/\e.k.gr=true)
 | []=>⟨[],[],rfl,by simp,.inl rfl⟩
 | s::sl=>by
  cases h:s.k.gr with
  | true=>exact⟨[],s::sl,rfl,by simp,.inr ⟨s,sl,rfl,h⟩⟩
  | false =>
   obtain⟨I,rest,h1,V,W⟩:=BK sl;exact⟨s::I,rest,by rw[h1];rfl,fun x S=>by rcases List.mem_cons.1 S with rfl | S;exact h;exact V x S,W⟩
theorem Fx{p q:Nat->Bool}:∀(L:List Nat),(∀x∈L,q x=true->p x=true)->(∃x∈L,p x=true/\q x=false)->L.countP q<L.countP p
 | [],_,h=>by obtain⟨x,I,_⟩:=h;cases I
 | a::L,h,I=>by
  have hle:L.countP q<=L.countP p:=List.countP_mono_left fun x I S=>h x (by simp[I]) S
  obtain⟨x,I,h1,V⟩:=I;rcases List.mem_cons.1 I with rfl | I
  ·rw[List.countP_cons_of_pos h1,List.countP_cons_of_neg (by simp[V])];omega
  ·have W:=Fx L (fun x I S=>h x (by simp[I]) S) ⟨x,I,h1,V⟩
   by_cases S:q a=true
   ·rw[List.countP_cons_of_pos S,List.countP_cons_of_pos (h a (by simp) S)];omega
   ·rw[List.countP_cons_of_neg S]
    exact Nat.lt_of_lt_of_le W (by rw[List.countP_cons];omega)
theorem Hg(p:Nat->Prop):∀n,p n->∃m,p m/\∀k,p k->m<=k:=by
 intro n;induction n using Nat.strongRecOn with
 | _ n W =>
  intro V;by_cases h:∃k,k<n/\p k
  ·obtain⟨k,hk,S⟩:=h
   exact W k hk S
  ·exact⟨n,V,fun k hk=>by
    by_cases I:k<n
    ·exact absurd ⟨k,I,hk⟩ h
    ·omega⟩
structure Rg(P:Program)(nt:Nat)(tr pre:List Nat)(ops:Array Oper)(l:List bh)(kh:Nat):Prop where
 mi:km nt tr pre (bY ops.toList l)
 size:ops.size=l.length
 fit:lS P nt (bY ops.toList l) tr 0 ops.toList l=true
 pre:∀s∈l,uc pre s=true
 yI:jL ops.toList=true
 draw:vv kh (ep [] ops.toList) l=true
section
variable{P:Program}{cx:Ctx}{nt:Nat}{tr pre:List Nat}{ops:Array Oper}{l:List bh}{kh:Nat}{Q:Exit->Act->World->Prop}
theorem Rg.op(h:Rg P nt tr pre ops l kh){i:Nat}{s:bh}(S:l[i]?=some s):∃o,ops[i]?=some o/\(bY ops.toList l)[i]?=some (fZ o s)/\(∀t,o.dst=some t->t<nt) /\
  (∀j,s.k.di=some j->o.dst=tr[j]?/\j<tr.length/\pre.contains j=false) /\
  (match o.guard,s.g with
    | none,none=>true
    | some (j,want),some (i',want')=>j == i'&&want == want'&&decide (i'<i)&&(match(bY ops.toList l)[i']? with | some (some _)=>true | _=>false)
    | _,_=>false)=true/\bb P (bY ops.toList l) tr o s.k=true/\(∀j,j∈s.k.reads->j<i)/\(∀j,X.v j∈s.k.xs->pre.contains j=false):=by
 obtain⟨o,h1,Z,V,W,h5,Y⟩:=za h.fit S;have hp:=h.pre s (List.mem_of_getElem? S);simp only[uc,Bool.and_eq_true,List.all_eq_true] at hp;simp only[Nat.zero_add] at W Y;exact⟨o,by simpa using h1,Jl h1 S,Z,fun j I=>⟨(V j I).1,(V j I).2.1,by have:=hp.1;rw[I] at this;simpa using this⟩,W,h5,Y,fun j I=>by simpa using hp.2 _ I⟩
theorem Rg.dr(h:Rg P nt tr pre ops l kh){i:Nat}{s:bh}(hs:l[i]?=some s):(∀j,j∈s.k.reads->fU (ep [] ops.toList) i j=true)/\(∀j want,s.g=some (j,want)->fU (ep [] ops.toList) i j=true) /\
  (s.k.gr=true->s.k.mQ=false->(∀j,kh<=j->j<i->fU (ep [] ops.toList) i j=true)/\∀j,i<j->j<l.length->fU (ep [] ops.toList) j i=true) /\
  (∀sz bytes b t,s.k=.eK sz bytes b t->yb (ep [] ops.toList) l i b=true):=by
 have:=h.draw;simp only[vv,List.all_eq_true] at this;have:=this (s,i) (List.mem_zipIdx_iff_getElem?.2 hs);rw[Bool.and_eq_true,Bool.and_eq_true,List.all_eq_true] at this;obtain⟨⟨h1,V⟩,I⟩:=this;refine⟨h1,fun j want hg=>?_,fun he S=>?_,fun sz bytes b t hk=>?_⟩
 ·simp only at V;rw[hg] at V;simpa using V
 ·simp only at I
  split at I
  ·rename_i hk;rw[hk] at S;cases S
  ·simp only[Bool.and_eq_true,Bool.or_eq_true,Bool.not_eq_true',List.all_eq_true,decide_eq_true_eq,List.mem_range] at I
   obtain⟨Y,Z⟩:=I.resolve_left (by simp[he]);exact⟨fun j ab W=>(Y j W).resolve_left (by omega),fun j W hl=>(Z j hl).resolve_left (by omega)⟩
 ·simp only at I;rw[hk] at I;exact I
theorem iZ{T:Array Bool}{i j:Nat}(h:i≠j):(T.setIfInBounds i true).getD j false=T.getD j false:=_root_.Go.getD_set_ne false h
def pe(ops:Array Oper)(T:Array Bool):Prop:=T.size=ops.size/\∀j,T.getD j false=true->∀x,fU (ep [] ops.toList) j x=true->T.getD x false=true
def jx(ops:Array Oper)(T:Array Bool):Nat:=(List.range ops.size).countP fun i=>!T.getD i false
theorem lV{T:Array Bool}{i:Nat}(h:i<T.size)(b:Bool):T.getD i b=T.getD i false:=by
 simp[Array.getD,h]
theorem wW{T:Array Bool}(V:pe ops T){i:Nat}(h:i∈Region.ready .any ops T):i<ops.size/\T.getD i false=false/\∀x,fU (ep [] ops.toList) i x=true->T.getD x false=true:=by
 rw[mem_ready] at h;obtain⟨h1,o,Y,S⟩:=h;have hi:i<ops.size:=(Array.getElem?_eq_some_iff.1 Y).1;refine⟨hi,by rw[lV (by rw[V.1];exact hi)] at h1;exact h1,fun x I=>?_⟩;obtain⟨e,he,W,I⟩:=Pk (l:=ops.toList) (by simpa using Y) I;rcases I with rfl | I
 ·exact S e he W
 ·exact V.2 _ (S e he W) x I
theorem I7{T:Array Bool}(S:jL ops.toList=true)(W:T.size=ops.size){i:Nat}(hi:i<ops.size)(hu:T.getD i false=false):Region.ready .any ops T≠[]:=by
 obtain⟨m,hm,I⟩:=Hg (fun i=>i<ops.size/\T.getD i false=false) i ⟨hi,hu⟩;intro Z
 have:m∈Region.ready .any ops T:=by
  rw[mem_ready];refine⟨by rw[lV (by rw[W];exact hm.1)];exact hm.2,ops[m],by simp[hm.1],fun e he Y=>?_⟩;simp only[jL,List.all_eq_true] at S;have h1:=S (ops[m],m) (List.mem_zipIdx_iff_getElem?.2 (by simp[hm.1])) e (by simpa using he);simp only[Y,Bool.not_true,Bool.false_or,decide_eq_true_eq] at h1;cases V:T.getD e.on false with
  | true=>rfl
  | false=>exact absurd (I e.on ⟨by omega,V⟩) (by omega)
 rw[Z] at this;cases this
theorem yp{T:Array Bool}(V:pe ops T){i:Nat}(hi:i<ops.size)(Z:∀x,fU (ep [] ops.toList) i x=true->T.getD x false=true):pe ops (T.setIfInBounds i true):=by
 refine⟨by simp[V.1],fun j W x Y=>?_⟩;by_cases S:i=x
 ·subst S;simp[Array.getD,V.1,hi]
 ·rw[iZ S]
  by_cases I:i=j
  ·subst I;exact Z x Y
  ·rw[iZ I] at W
   exact V.2 j W x Y
theorem jP{T:Array Bool}{i:Nat}(hi:i<T.size):(T.setIfInBounds i true).getD i false=true:=by simp[Array.getD,hi]
theorem xB{T:Array Bool}(V:T.size=ops.size){i:Nat}(hi:i<ops.size)(hu:T.getD i false=false):jx ops (T.setIfInBounds i true)<jx ops T:=by
 refine Fx _ (fun x W S=>?_) ⟨i,List.mem_range.2 hi,by simp[hu],by rw[jP (by omega)];rfl⟩;by_cases I:i=x
 ·subst I;rw[jP (by omega)] at S;cases S
 ·rw[iZ I] at S;exact S
theorem uO{T:Array Bool}{i:Nat}(hi:i<ops.size)(hu:T.getD i false=false) : 0<jx ops T:=by
 unfold jx;rw[List.countP_pos_iff];exact⟨i,List.mem_range.2 hi,by simp[hu]⟩
theorem Ql[Mode]{ds:List (Option Nat)}{ct:Nat->D}{done:Nat->Prop}{a:Act}{w:World}{i t:Nat}{want b:Bool}(h:Fd cx nt tr pre ds ct done a w)(hi:done i)(S:ds[i]?=some (some t))(Z:(ops[i]?).bind (·.dst)=some t)(hg:gd (qp ct (.t i)) want=some b) :
  (yielded ops a.tmps i == some want)=b:=by
 obtain⟨vl,fp,G,hp,_,V,_⟩:=h.ex
 have he:cC w (ak cx fp G w) (ai w ct vl) (a.tmps.getD t undef) (qp ct (.t i)):=by
  rw[V i t hi S];exact oA (hp.ok _)
 have hy:yielded ops a.tmps i=match a.tmps.getD t undef with | .bool b=>some b | _=>none:=by
  unfold yielded;rw[Z,Option.bind_some];by_cases ht:t<a.tmps.size
  ·rw[getD_some ht]
   cases a.tmps.getD t undef<;>rfl
  ·have h1:a.tmps[t]?=none:=by simp;omega
   have Y:a.tmps.getD t undef=undef:=by simp[h1]
   rw[h1,Y];rfl
 unfold gd at hg;rw[Option.bind_eq_some_iff] at hg;obtain⟨c,W,hg⟩:=hg;injection hg with hg
 rw[hy];generalize qp ct (.t i)=d at he W hg;cases hgt:d.gate with
 | false =>
  rw[he.2 hgt];rw[hgt] at hg;simp at hg;subst hg;rfl
 | true =>
  have h1:=he.1 hgt
  have I:d.core=.bool c:=by
   revert W;cases d.core<;>simp[D.bool?]
  rw[I] at h1;rw[pl_bool h1];rw[hgt] at hg;cases want<;>cases c<;>simp at hg<;>subst hg<;>rfl
theorem Mm{base:Nat->D}{n:Nat}{cs:List D}{T:Array Bool}{i:Nat}(h1:n<=i)(I:i<n+cs.length)(hi:i<T.size) :
  cV base n cs (fun j=>(T.setIfInBounds i true).getD j false)=az (cV base n cs fun j=>T.getD j false) (1000+i) (cs.getD (i-n) .dead):=by
 funext k;by_cases hk:k=1000+i
 ·subst hk
  rw[bc];unfold cV;rw[if_pos (by omega),show 1000+i-1000=i by omega];dsimp only;rw[jP hi];rfl
 ·rw[aI _ _ hk]
  unfold cV;by_cases hr : 1000+n<=k/\k<1000+n+cs.length
  ·rw[if_pos hr,if_pos hr]
   dsimp only;rw[iZ (by omega)]
  ·rw[if_neg hr,if_neg hr]
def dC(ap:Option (Nat×Nat))(base:Nat->D)(n:Nat)(cs:List D)(T:Nat->Bool)(k:Nat):D :=
 match ap with
 | none=>cV base n cs T k
 | some (e,b)=>if T e=true/\k=1000+b then .dead else cV base n cs T k
theorem qA{base:Nat->D}{n:Nat}{cs:List D}{T:Nat->Bool}{e b k:Nat}(h:T e=true/\k=1000+b):dC (some (e,b)) base n cs T k=.dead:=if_pos h
theorem hZ{base:Nat->D}{n:Nat}{cs:List D}{T:Nat->Bool}{e b k:Nat}(h:¬(T e=true/\k=1000+b)):dC (some (e,b)) base n cs T k=cV base n cs T k:=if_neg h
theorem qz{ap:Option (Nat×Nat)}{base:Nat->D}{n:Nat}{cs:List D}{T:Nat->Bool}{k:Nat}(h:∀e b,ap=some (e,b)->T e=true->k≠1000+b):dC ap base n cs T k=cV base n cs T k:=by
 cases ap with
 | none=>rfl
 | some p=>obtain⟨e,b⟩:=p;exact hZ fun I=>h e b rfl I.1 I.2
theorem Bp{ap:Option (Nat×Nat)}{base:Nat->D}{n:Nat}{cs:List D}{T:Nat->Bool}{k:Nat}(h:(dC ap base n cs T k).isObj=true):dC ap base n cs T k=cV base n cs T k:=by
 cases ap with
 | none=>rfl
 | some p =>
  obtain⟨e,b⟩:=p;by_cases hh:T e=true/\k=1000+b
  ·rw[qA hh] at h;cases h
  ·exact hZ hh
theorem Zz{ap:Option (Nat×Nat)}{base:Nat->D}{n:Nat}{cs:List D}{T I:Nat->Bool}(h:∀i,n<=i->i<n+cs.length->T i=I i)(W:∀e b,ap=some (e,b)->n<=e/\e<n+cs.length):dC ap base n cs T=dC ap base n cs I:=by
 have V:∀k,cV base n cs T k=cV base n cs I k:=fun k=>by
  unfold cV;split
  ·rw[h (k-1000) (by omega) (by omega)]
  ·rfl
 funext k;cases ap with
 | none=>exact V k
 | some p =>
  obtain⟨e,b⟩:=p;obtain⟨h1,S⟩:=W e b rfl;by_cases hh:T e=true/\k=1000+b
  ·rw[qA hh,qA (by rw[<-h e h1 S];exact hh)]
  ·rw[hZ hh,hZ (by rw[<-h e h1 S];exact hh),V k]
theorem ZA{ap:Option (Nat×Nat)}{base:Nat->D}{n:Nat}{cs:List D}{T:Array Bool}{i:Nat}(h1:n<=i)(Y:i<n+cs.length)(hi:i<T.size)(Z:∀e b,ap=some (e,b)->i≠e/\(T.getD e false=true->i≠b)) :
  dC ap base n cs (fun j=>(T.setIfInBounds i true).getD j false)=az (dC ap base n cs fun j=>T.getD j false) (1000+i) (cs.getD (i-n) .dead):=by
 have V:=Mm (base:=base) (cs:=cs) h1 Y hi;cases ap with
 | none=>exact V
 | some p =>
  obtain⟨e,b⟩:=p;obtain⟨W,a2⟩:=Z e b rfl;have I:(T.setIfInBounds i true).getD e false=T.getD e false:=iZ W;funext k;by_cases hk:k=1000+i
  ·subst hk
   rw[bc,hZ (fun S=>by rw[I] at S;exact a2 S.1 (by omega)),V,bc]
  ·rw[aI _ _ hk]
   by_cases S:T.getD e false=true/\k=1000+b
   ·exact(qA (by rw[I];exact S)).trans (qA S).symm
   ·refine(hZ (by rw[I];exact S)).trans (Eq.trans ?_ (hZ S).symm)
    rw[V,aI _ _ hk]
theorem Zy{base:Nat->D}{n:Nat}{cs:List D}{T:Array Bool}{e b:Nat}(h1:n<=e)(Y:e<n+cs.length)(hi:e<T.size)(_:T.getD e false=false)(Z:e≠b) :
  dC (some (e,b)) base n cs (fun j=>(T.setIfInBounds e true).getD j false)=az (az (dC (some (e,b)) base n cs fun j=>T.getD j false) (1000+b) .dead) (1000+e) (cs.getD (e-n) .dead):=by
 have W:=Mm (base:=base) (cs:=cs) h1 Y hi;have S:(T.setIfInBounds e true).getD e false=true:=jP hi;funext k;by_cases hk:k=1000+e
 ·subst hk
  rw[bc,hZ (fun V=>Z (by omega)),W,bc]
 ·rw[aI _ _ hk]
  by_cases I:k=1000+b
  ·subst I;rw[bc,qA ⟨S,rfl⟩]
  ·rw[aI _ _ I,hZ (fun V=>I V.2),hZ (fun V=>I V.2),W,aI _ _ hk]
theorem Bq{st:St}{cs:List D}{m:Nat}(hm:m<=cs.length):cV st.cont st.n (cs.take m) (fun _=>true)=cV st.cont st.n cs fun i=>decide (i<st.n+m):=by
 have I:(cs.take m).length=m:=by simp;omega
 funext k;unfold cV;rw[I];by_cases h1 : 1000+st.n<=k/\k<1000+st.n+m
 ·rw[if_pos h1,if_pos (by omega)]
  dsimp only;rw[decide_eq_true (show k-1000<st.n+m by omega)];simp only[sw,List.getD_eq_getElem?_getD];rw[List.getElem?_take_of_lt (by omega)]
 ·rw[if_neg h1]
  by_cases h2 : 1000+st.n<=k/\k<1000+st.n+cs.length
  ·rw[if_pos h2]
   dsimp only;rw[decide_eq_false (show ¬k-1000<st.n+m by omega)];exact St.cJ (by simp only[St.in,not_or,not_and];omega)
  ·rw[if_neg h2]
theorem Mn[Mode]{ds:List (Option Nat)}{st fin:St}{ap:Option (Nat×Nat)}{cs:List D}(Z:fin.wf)(Y:fin.n=st.n+cs.length)(W:fin.cont=dC ap st.cont st.n cs fun i=>decide (i<st.n+cs.length))(ha:∀e b,ap=some (e,b)->st.n<=e/\e<st.n+cs.length){T:Array Bool}{a:Act}{w:World}
  (h:Fd cx nt tr pre ds (dC ap st.cont st.n cs fun i=>T.getD i false) (fun i=>T.getD i false=true) a w) (I:∀i,st.n<=i->i<st.n+cs.length->T.getD i false=true) (h1:∀i,i<st.n->T.getD i false=true) :
  Fm cx nt tr pre ds fin a w:=by
 obtain⟨⟨vl,fp,G,e1,e2,e3,V⟩,e4,e5,e6⟩:=h
 have S:dC ap st.cont st.n cs (fun i=>T.getD i false)=fin.cont:=by
  rw[W];exact Zz (fun i q1 q2=>by rw[I i q1 q2,decide_eq_true q2]) ha
 rw[S] at e1 e4;refine⟨⟨vl,fp,G,e1,e2,fun i t hi hit=>e3 i t ?_ hit,V⟩,Z,e4,e5,e6⟩;rw[Y] at hi;by_cases hi':i<st.n
 ·exact h1 i hi'
 ·exact I i (by omega) hi
structure Sg[Mode](P:Program)(ops:Array Oper)(st:St)(seg:List bh)(ap:Option (Nat×Nat))(cs:List D)(cst:Nat->St):Prop where
 len:cs.length=seg.length
 q:∀m s,seg[m]?=some s->s.k.gr=false\/∃b,ap=some (st.n+m,b)
 cont:∀m,m<=seg.length->(cst m).cont=dC ap st.cont st.n cs fun i=>decide (i<st.n+m)
 f:∀(i:Nat)(s:bh),seg[i]?=some s->s.k.gr=false->xN P s (cst i) (cs.getD i .dead)
 ap:∀e b,ap=some (e,b)->∃m sz bytes t,e=st.n+m/\seg[m]?=some ⟨none,.eK sz bytes b t⟩/\sz=1/\uT (cst m).cont bytes b t (cs.getD m .dead) /\
  ∀m' s',seg[m']?=some s'->m'≠m->b ∉ s'.k.reads/\(∀want,s'.g≠some (b,want))/\(m'<m\/fU (ep [] ops.toList) (st.n+m') e=true\/(cs.getD m' .dead).refs (cH (1000+b)))
 wf:(cst seg.length).wf
 n:(cst seg.length).n=st.n+seg.length
theorem Sg.ya[Mode]{st:St}{S:List bh}{ap:Option (Nat×Nat)}{cs:List D}{I:Nat->St}(h:Sg P ops st S ap cs I):∀e b,ap=some (e,b)->st.n<=e/\e<st.n+cs.length:=fun e b he=>by
 obtain⟨m,sz,bytes,t,h1,V,_⟩:=h.ap e b he;have:=(List.getElem?_eq_some_iff.1 V).1;rw[h.len];omega
theorem ZB[Mode](hR:Rg P nt tr pre ops l kh){st:St}(js:kh<=st.n)(_:st.wf){I rest:List bh}(hl:l.drop st.n=I++rest)(hb:rest=[]\/∃e r,rest=e::r/\e.k.gr=true/\e.k.mQ=false)
  {ap:Option (Nat×Nat)} {cs:List D} {Y:Nat->St} (hg:Sg P ops st I ap cs Y)
  (hK:∀(fuel:Nat)(T:Array Bool)(a:Act)(w:World),pe ops T->(∀i,i<ops.size->(T.getD i false=true↔i<st.n+I.length))->jx ops T<=fuel->Fm cx nt tr pre (bY ops.toList l) (Y I.length) a w->wpAny P .any ops Q fuel T a w) :
  ∀(fuel:Nat)(T:Array Bool)(a:Act)(w:World),pe ops T->(∀i,i<st.n->T.getD i false=true)->(∀i,st.n+I.length<=i->i<ops.size->T.getD i false=false)->jx ops T<=fuel ->
   Fd cx nt tr pre (bY ops.toList l) (dC ap st.cont st.n cs fun i=>T.getD i false) (fun i=>T.getD i false=true) a w->wpAny P .any ops Q fuel T a w:=by
 have hlen:=hg.len;have cy:=hg.cont I.length (Nat.le_refl _);have cI:=hg.n;rw[<-hlen] at cy cI;have ec:∀i,l[st.n+i]?=(I++rest)[i]?:=fun i=>by rw[<-hl,List.getElem?_drop]
 have hM:l.length-st.n=I.length+rest.length:=by have:=congrArg List.length hl;simpa using this
 intro fuel;induction fuel with
 | zero =>
  intro T a w hT h1 h2 hu h;refine hK 0 T a w hT (fun i hi=>⟨fun Z=>?_,fun b0=>?_⟩) hu ?_
  ·apply Classical.byContradiction;intro hn;rw[h2 i (by omega) hi] at Z;cases Z
  ·cases Z:T.getD i false with
   | true=>rfl
   | false=>have:=uO hi Z;omega
  ·have ab:∀i,st.n<=i->i<st.n+cs.length->T.getD i false=true:=by
    intro i ha h8;cases Z:T.getD i false with
    | true=>rfl
    | false=>have:=uO (ops:=ops) (i:=i) (by rw[hR.size];omega) Z;omega
   have:=Mn (fin:=Y cs.length) (by rw[hlen];exact hg.wf) cI cy hg.ya h ab h1
   rwa [hlen] at this
 | succ fuel ih =>
  intro T a w hT h1 h2 hu h;by_cases ab:∀i,st.n<=i->i<st.n+cs.length->T.getD i false=true
  ·refine hK (fuel+1) T a w hT (fun i hi=>⟨fun Z=>?_,fun b0=>?_⟩) hu (by
    have:=Mn (fin:=Y cs.length) (by rw[hlen];exact hg.wf) cI cy hg.ya h ab h1
    rwa [hlen] at this)
   ·apply Classical.byContradiction;intro hn;rw[h2 i (by omega) hi] at Z;cases Z
   ·by_cases hi':i<st.n
    ·exact h1 i hi'
    ·exact ab i (by omega) (by omega)
  ·simp only[Classical.not_forall] at ab
   obtain⟨i0,ha,h9,b4⟩:=ab;have b4:T.getD i0 false=false:=by simpa using b4
   have hC:i0<ops.size:=by rw[hR.size];omega
   refine⟨fun hr=>absurd hr (I7 hR.yI hT.1 hC b4),fun i hi=>?_⟩;obtain⟨bT,W,a1⟩:=wW hT hi
   have h5:st.n<=i:=by
    apply Classical.byContradiction;intro hn;rw[h1 i (by omega)] at W;cases W
   have h6:i<st.n+I.length:=by
    apply Classical.byContradiction;intro hn;rcases hb with rfl | ⟨e,r,rfl,he,hv⟩
    ·simp only[List.length_nil] at hM;rw[hR.size] at bT;omega
    ·have hle:l[st.n+I.length]?=some e:=by rw[ec,List.getElem?_append_right (Nat.le_refl _)];simp
     obtain⟨d1,d2⟩:=(hR.dr hle).2.2.1 he hv;by_cases hD:i=st.n+I.length
     ·subst hD
      rw[a1 i0 (d1 i0 (by omega) (by omega))] at b4;cases b4
     ·have:=a1 _ (d2 i (by omega) (by rw[<-hR.size];exact bT))
      rw[h2 _ (Nat.le_refl _) (by omega)] at this;cases this
   obtain⟨m,rfl⟩:∃m,i=st.n+m:=⟨i-st.n,by omega⟩;have hm:m<I.length:=by omega
   have hs:I[m]?=some I[m]:=List.getElem?_eq_getElem hm;have dm:l[st.n+m]?=some I[m]:=by rw[ec,List.getElem?_append_left hm,hs]
   generalize j0:I[m]=s at hs dm;obtain⟨o,ho,hd,b0,h4,ad,hk,ax,fs⟩:=hR.op dm;obtain⟨r1,r2,_⟩:=hR.dr dm;have bF:=hg.cont m (by omega);have e7:∀k,1000+st.n<=k->st.cont k=.dead:=fun k hk=>St.cJ (by simp only[St.in,not_or,not_and];omega)
   have bg:∀j,j<st.n+m->T.getD j false=true->(∀e b,ap=some (e,b)->T.getD e false=true\/e<st.n+m->j≠b)->(Y m).cont (1000+j)=dC ap st.cont st.n cs (fun i=>T.getD i false) (1000+j):=by
    intro j S Z ag;rw[bF,qz fun e b he h1 h2=>ag e b he (.inr (by simpa using h1)) (by omega),qz fun e b he h1 h2=>ag e b he (.inl h1) (by omega)];unfold cV;by_cases eF:st.n<=j
    ·rw[if_pos (by omega),if_pos (by omega),show 1000+j-1000=j by omega]
     dsimp only;rw[Z,decide_eq_true S]
    ·rw[if_neg (by omega),if_neg (by omega)]
   have cv:(dC ap st.cont st.n cs (fun i=>T.getD i false) (1000+(st.n+m))).isObj=false:=by
    cases ho:(dC ap st.cont st.n cs (fun i=>T.getD i false) (1000+(st.n+m))).isObj with
    | false=>rfl
    | true =>
     have:=Bp ho;rw[this,oQ (by omega) (by omega),W] at ho;cases ho
   have a8:∀a' w',Fd cx nt tr pre (bY ops.toList l) (dC ap st.cont st.n cs fun i=>(T.setIfInBounds (st.n+m) true).getD i false) (fun j=>T.getD j false=true\/j=st.n+m) a' w' ->
     wpAny P .any ops Q fuel (T.setIfInBounds (st.n+m) true) a' w':=by
    intro a' w' hF;refine ih _ a' w' (yp hT bT a1) (fun j S=>?_) (fun j S hE=>?_) ?_ ?_
    ·rw[iZ (by omega)];exact h1 j S
    ·rw[iZ (by omega)];exact h2 j S hE
    ·have:=xB hT.1 bT W;omega
    ·obtain⟨⟨vl,fp,G,e1,e2,e3,ft⟩,e4,e5,e6⟩:=hF
     refine⟨⟨vl,fp,G,e1,e2,fun j t S=>e3 j t ?_,ft⟩,e4,e5,e6⟩;by_cases hji:st.n+m=j
     ·exact .inr hji.symm
     ·rw[iZ hji] at S;exact .inl S
   by_cases hse:s.k.gr=false
   case neg =>
    rcases hg.q m s hs with V | ⟨b,eg⟩
    ·exact absurd V hse
    obtain⟨m',sz,bytes,t,q1,q2,rfl,hF,q3⟩:=hg.ap _ _ eg;have hP:m'=m:=by omega
    subst hP;rw[hs] at q2;injection q2 with q2
    subst q2;subst eg;have hc:b<st.n+m':=ax b (by simp[Kp.reads]);have hU:t<st.n+m':=ax t (by simp[Kp.reads]);have ej:T.getD b false=true:=a1 b (r1 b (by simp[Kp.reads]));have fj:T.getD t false=true:=a1 t (r1 t (by simp[Kp.reads]))
    have cp:∀{k:Nat},¬((fun i=>T.getD i false) (st.n+m')=true/\k=1000+b):=fun V=>by
     have:=V.1;simp only[W] at this;cases this
    have b3:∀{k:Nat},¬((fun i=>decide (i<st.n+m')) (st.n+m')=true/\k=1000+b):=fun V=>by
     have:=V.1;simp at this
    have cr:∀j e b',some (st.n+m',b)=some (e,b')->T.getD e false=true\/e<st.n+m'->j≠b':=fun j e b' he e0=>by
     injection he with he
     injection he with hq iI
     subst hq;rw[W] at e0;rcases e0 with V | V
     ·cases V
     ·omega
    have gn:uT (dC (some (st.n+m',b)) st.cont st.n cs fun i=>T.getD i false) bytes b t (cs.getD m' .dead):=by
     obtain⟨y,z0,l0,mm,g1,g2,g3,g4,g5,g6,g7,g8⟩:=hF;refine⟨y,z0,l0,mm,by rw[<-bg b hc ej (cr b)];exact g1,g2,g3,by rw[<-bg t hU fj (cr t)];exact g4,g5,g6,g7,fun k=>?_⟩;rw[hZ cp];by_cases hr : 1000+st.n<=k/\k<1000+st.n+cs.length
     ·obtain⟨i,rfl⟩:∃i,k=1000+i:=⟨k-1000,by omega⟩
      rw[oQ (by omega) (by omega)];cases Z:T.getD i false with
      | false=>exact trivial
      | true =>
       by_cases him:i<st.n+m'
       ·have:=g8 (1000+i)
        rw[bF,hZ b3,oQ (by omega) (by omega),decide_eq_true him] at this;exact this
       ·have ea:i≠st.n+m':=fun V=>by rw[V,W] at Z;cases Z
        obtain⟨s',hS⟩:∃s',I[i-st.n]?=some s':=⟨_,List.getElem?_eq_getElem (by omega)⟩;rcases(q3 (i-st.n) s' hS (by omega)).2.2 with V | V | V
        ·omega
        ·rw[show st.n+(i-st.n)=i by omega] at V
         have:=hT.2 i Z _ V;rw[W] at this;cases this
        ·exact V
     ·rw[qB hr]
      have:=g8 k;rw[bF,hZ b3,qB hr] at this;exact this
    have ao:o.guard=none:=by
     cases ao:o.guard with
     | none=>rfl
     | some gg=>rw[ao] at ad;cases ad
    unfold wpOp;rw[ho];simp only;have hw:Region.wanted o (yielded ops a.tmps)=true:=by simp[Region.wanted,ao]
    rw[if_pos hw];refine .inl ?_;obtain⟨vl,fp,G,hp,hV,ef,hB⟩:=h.ex;simp only[bb] at hk;split at hk<;>try(cases hk;done)
    rename_i s' x' t0 t' a7;have cd:=qe a7;simp only[Bool.and_eq_true,beq_iff_eq] at hk;obtain⟨⟨⟨hJ,hL⟩,rfl⟩,b9⟩:=hk;split at b9<;>try(cases b9;done)
    rename_i e he;simp only[Bool.and_eq_true] at b9;obtain⟨dk,cc⟩:=b9;split at cc<;>try(cases cc;done)
    rename_i i hi;simp only[Bool.and_eq_true,decide_eq_true_eq,Option.any_eq_true] at cc;obtain⟨⟨⟨j1,hf⟩,et⟩,z,hz,h0⟩:=cc
    have gT:i.bytes=bytes:=by
     unfold pq at dk;rw[hi] at dk;simpa using dk
    have hW:=kg he;obtain⟨v',w',cq,h7,G',hQ⟩:=EF (ty:=o.type) (ke:=1000+(st.n+m')) hp gn (by rw[hZ cp,oQ (by omega) (by omega),W];rfl) hW hi hz h0 et gT hf;have hX:(a.eval s')=vl (1000+b):=vT hJ fun t2=>ef b t2 ej
    have hY:(a.eval x')=vl (1000+t):=vT hL fun t2=>ef t t2 fj
    rw[<-hX,<-hY] at cq;refine jz (v:=v') (w':=w') ?_ (a8 _ _ ?_)
    ·simp only[execOp,cd,resolve,invoke,builtin,Sem.run_bind,Sem.run_pure,Result.andThen_ok,List.map_toArray,List.map_cons,List.map_nil,cq]
    ·rw[Zy (by omega) (by omega) (by rw[hT.1];exact bT) W (by omega),show st.n+m'-st.n=m' by omega]
     exact Fd.IS hR.mi (fun j S=>by
      by_cases ag:j=1000+b
      ·subst ag;exact bc _ _ _
      ·rw[aI _ _ ag];exact h.dd j S) h.size h.defers hd rfl b0 hV ef hB ⟨_,_,hQ⟩
   have ea:∀e b,ap=some (e,b)->st.n+m≠e:=fun e b he V=>by
    obtain⟨m',sz,bytes,t,q1,q2,_⟩:=hg.ap e b he;have:m'=m:=by omega
    subst this;rw[hs] at q2;injection q2 with q2
    rw[q2] at hse;cases hse
   have eP:∀e b,ap=some (e,b)->b ∉ s.k.reads/\∀want,s.g≠some (b,want):=fun e b he=>by
    obtain⟨m',sz,bytes,t,q1,q2,_,_,q3⟩:=hg.ap e b he;have:=q3 m s hs (fun V=>ea e b he (by omega));exact⟨this.1,this.2.1⟩
   have dn:s.k.di=none:=by
    revert hse;cases s.k<;>simp[Kp.gr,Kp.di]
   have a7:=hg.f m s hs hse;have e7:∀k,1000+st.n<=k->st.cont k=.dead:=fun k hk=>St.cJ (by simp only[St.in,not_or,not_and];omega)
   have e9:∀y,y∈s.k.xs->∀x,aP (bY ops.toList l) tr x y=true->(Y m).rd y=qp (dC ap st.cont st.n cs fun i=>T.getD i false) y:=by
    intro y hy x cg;rw[<-Xf];cases y with
    | t j =>
     have S:=wV hy;show cB _ _=cB _ _;rw[bg j (ax j S) (a1 j (r1 j S)) fun e b he _ ag=>(eP e b he).1 (ag▸S)]
    | v j =>
     have S:j<1000:=by
      have hI:∃t,tr[j]?=some t:=by
       cases x
       case tmp t=>exact⟨t,by simpa[aP] using cg⟩
       all_goals(unfold aP at cg;split at cg<;>first | contradiction | cases cg)
      obtain⟨t,Z⟩:=hI;have:=(List.getElem?_eq_some_iff.1 Z).1;have:=hR.mi.iq;omega
     show cB _ _=cB _ _;rw[bF,qz fun e b _ _ V=>by omega,qz fun e b _ _ V=>by omega];unfold cV;rw[if_neg (by omega),if_neg (by omega)]
    | i n=>rfl
    | k d=>rfl
    | g n=>rfl
   have hN:∀k,((Y m).cont k).isObj=true->cV st.cont st.n cs (fun _=>true) k=(Y m).cont k:=by
    intro k hk;rw[bF] at hk|-
    have eb:=Bp hk;rw[eb] at hk|-
    by_cases hr : 1000+st.n<=k/\k<1000+st.n+cs.length
    ·obtain⟨i,rfl⟩:∃i,k=1000+i:=⟨k-1000,by omega⟩
     rw[oQ (by omega) (by omega)] at hk|-
     rw[oQ (by omega) (by omega)];cases Z:decide (i<st.n+m) with
     | true=>rfl
     | false=>rw[Z] at hk;cases hk
    ·rw[qB hr,qB hr]
   have b2:∀k c,lk (Y m).cont k=some c->lk (cV st.cont st.n cs fun _=>true) k=some c:=by
    intro k c hk;unfold lk at hk|-
    split at hk
    ·rename_i eT
     rw[hN k eT,if_pos eT];exact hk
    ·cases hk
   have cd:∀j,(dC ap st.cont st.n cs (fun i=>T.getD i false) j).isObj=true->cV st.cont st.n cs (fun _=>true) j=dC ap st.cont st.n cs (fun i=>T.getD i false) j:=by
    intro j S;have eb:=Bp S;rw[eb] at S|-
    by_cases hr : 1000+st.n<=j/\j<1000+st.n+cs.length
    ·obtain⟨i,rfl⟩:∃i,j=1000+i:=⟨j-1000,by omega⟩
     rw[oQ (by omega) (by omega)] at S|-
     rw[oQ (by omega) (by omega)];cases Z:T.getD i false with
     | true=>rfl
     | false=>rw[Z] at S;cases S
    ·rw[qB hr,qB hr]
   have cj:∀j,j<1000->(Y m).cont j=cV st.cont st.n cs (fun _=>true) j:=fun j S=>by
    rw[bF,qz fun e b _ _ V=>by omega];unfold cV;rw[if_neg (by omega),if_neg (by omega)]
   have cm:∀j,j<1000->cV st.cont st.n cs (fun _=>true) j=dC ap st.cont st.n cs (fun i=>T.getD i false) j:=fun j S=>by
    rw[qz fun e b _ _ V=>by omega];unfold cV;rw[if_neg (by omega),if_neg (by omega)]
   have b1:∀j,j∈s.k.reads->T.getD j false=true:=fun j S=>a1 j (r1 j S)
   have a6:∀a' w',Fd cx nt tr pre (bY ops.toList l) (az (dC ap st.cont st.n cs fun i=>T.getD i false) (1000+(st.n+m)) (cs.getD m .dead)) (fun j=>T.getD j false=true\/j=st.n+m) a' w' ->
     wpAny P .any ops Q fuel (T.setIfInBounds (st.n+m) true) a' w':=by
    intro a' w' hF;refine a8 a' w' ?_
    rw[ZA (by omega) (by omega) (by rw[hT.1];exact bT) (fun e b he=>⟨ea e b he,fun gF V=>by
      obtain⟨m',sz,bytes,t,q1,q2,_⟩:=hg.ap e b he;have hle:l[e]?=some ⟨none,.eK sz bytes b t⟩:=by rw[q1,ec,List.getElem?_append_left (List.getElem?_eq_some_iff.1 q2).1,q2]
      have:=hT.2 e gF b ((hR.dr hle).1 b (by simp[Kp.reads]))
      rw[<-V,W] at this;cases this⟩),show st.n+m-st.n=m by omega]
    exact hF
   unfold wpOp;rw[ho];simp only;obtain⟨g0,k⟩:=s;cases ao:o.guard with
   | none =>
    cases g0 with
    | some _=>rw[ao] at ad;cases ad
    | none =>
     have hw:Region.wanted o (yielded ops a.tmps)=true:=by simp[Region.wanted,ao]
     rw[if_pos hw];exact .inl (Oper.wp_mono a6 (I0 hR.mi h cv (g:=none) (by simp) hk hd dn b0 e9 b1 fs cd cm (lD.mono b2 cj a7)))
   | some gg =>
    obtain⟨j,want⟩:=gg;cases g0 with
    | none=>rw[ao] at ad;cases ad
    | some g1 =>
     obtain⟨i',h3⟩:=g1;rw[ao] at ad;simp only[Bool.and_eq_true,beq_iff_eq,decide_eq_true_eq] at ad;obtain⟨⟨⟨rfl,rfl⟩,eF⟩,ev⟩:=ad
     have b5:∃t,(bY ops.toList l)[j]?=some (some t):=by
      split at ev
      ·exact⟨_,by assumption⟩
      ·cases ev
     obtain⟨t,b5⟩:=b5;obtain⟨b,hx,a7⟩:=a7;have eB:T.getD j false=true:=a1 j (r2 j want rfl)
     have fl:Region.wanted o (yielded ops a.tmps)=b:=by
      simp only[Region.wanted,ao];refine Ql h eB b5 (by have:=wZ b5;simpa using this) ?_;rw[<-hx];show gd (cB _ _) _=gd (cB _ _) _;rw[bg j eF eB fun e b' he _ ag=>(eP e b' he).2 want (by rw[ag])]
     cases b with
     | true =>
      rw[if_pos fl];exact .inl (Oper.wp_mono a6 (I0 hR.mi h cv (g:=some true) (by simp) hk hd dn b0 e9 b1 fs cd cm (lD.mono b2 cj a7)))
     | false =>
      rw[if_neg (by rw[fl];simp)];exact a6 _ _ (Xd hR.mi h cv hd dn b0 a7)
theorem IU{st:St}{k:Nat}(h1 : 1000<=k)(hk:k<1000+st.n)(c d:D):(st.put k c).push d=(st.push d).put k c:=by
 have I:st.put k c=⟨st.env,st.n,fa st.tmp (999+st.n-k) c⟩:=by unfold St.put;rw[if_neg (by omega),if_pos hk]
 have S:(st.push d).put k c=⟨st.env,st.n+1,fa (d::st.tmp) (999+(st.n+1)-k) c⟩:=by
  unfold St.put;rw[if_neg (by omega),if_pos (by show k<1000+(st.n+1);omega)];rfl
 rw[I,S,show 999+(st.n+1)-k=(999+st.n-k)+1 by omega];rfl
theorem IQ{k:Nat}(h1 : 1000<=k)(c:D):∀(cs:List D){st:St},st.wf->k<1000+st.n->cM (st.put k c) cs=(cM st cs).put k c
 | [],st,_,_=>rfl
 | d::cs,st,hw,hk=>by
  show cM ((st.put k c).push d) cs=(cM (st.push d) cs).put k c;rw[IU h1 hk];exact IQ h1 c cs (St.fx hw d) (by show k<1000+(st.n+1);omega)
theorem Xc(st:St)(a b:List D):cM st (a++b)=cM (cM st a) b:=by unfold cM;rw[List.foldl_append]
theorem Th{k:Kp}(h:(match k with | .mv (.v _)=>true | _=>false)=true):∃j,k=Kp.mv (.v j):=by
 cases k<;>try(cases h;done)
 rename_i x;cases x<;>try(cases h;done)
 exact⟨_,rfl⟩
theorem QW{ds:List (Option Nat)}{tr:List Nat}{x:Operand}{j:Nat}(h:aP ds tr x (.v j)=true):∃t,tr[j]?=some t:=by
 cases x
 case tmp t=>exact⟨t,by simpa[aP] using h⟩
 all_goals(unfold aP at h;split at h<;>first | contradiction | cases h)
theorem ZD[Mode](hR:Rg P nt tr pre ops l kh){K:St->Prop}{sl:List bh}{st:St}(hl:l.drop st.n=sl)(ax:st.wf)(hv:cw P K sl st) :
  ∃ad rest ap cs a1,sl=ad++rest/\(rest=[]\/∃e r,rest=e::r/\e.k.gr=true/\e.k.mQ=false)/\Sg P ops st ad ap cs a1/\cw P K rest (a1 ad.length):=by
 obtain⟨s1,r1,rfl,b5,ec⟩:=BK sl;obtain⟨I,Y,cm,ab⟩:=Br s1 r1 hv b5;have b9:∀i,l[st.n+i]?=(s1++r1)[i]?:=fun i=>by rw[<-hl,List.getElem?_drop]
 obtain⟨a6,ea⟩:=wT I ax
 have quiet:(r1=[]\/∃e r,r1=e::r/\e.k.gr=true/\e.k.mQ=false)->∃ad rest ap cs a1,s1++r1=ad++rest/\(rest=[]\/∃e r,rest=e::r/\e.k.gr=true/\e.k.mQ=false)/\Sg P ops st ad ap cs a1/\cw P K rest (a1 ad.length):=by
  intro hb;have cc:I.take s1.length=I:=by rw[<-Y,List.take_length]
  refine⟨s1,r1,none,I,fun m=>cM st (I.take m),rfl,hb,⟨Y,fun m s Z=>.inl (b5 s (List.mem_of_getElem? Z)),fun m hm=>?_,fun i s Z _=>cm i s Z,fun e b he=>(by cases he),?_,?_⟩,?_⟩
  ·rw[uv _ ax];exact Bq (by omega)
  ·rw[cc];exact a6
  ·rw[cc,ea,Y]
  ·dsimp only;rw[cc];exact ab
 rcases ec with rfl | ⟨e,r,rfl,he⟩
 ·exact quiet (.inl rfl)
 by_cases cg:e.k.mQ=false
 ·exact quiet (.inr ⟨e,r,rfl,he,cg⟩)
 obtain⟨g,k⟩:=e
 obtain⟨sz,bytes,b,t,rfl⟩:∃sz bytes b t,k=.eK sz bytes b t:=by
  cases k<;>first | exact⟨_,_,_,_,rfl⟩ | exact absurd rfl cg
 have hg:g=none:=by
  cases g with
  | none=>rfl
  | some gg =>
   obtain⟨j,want⟩:=gg;simp only[cw,kG] at ab;split at ab
   ·cases ab.1
   ·exact ab.elim
 subst hg;obtain⟨_,ab⟩:=ab;obtain⟨rfl,c,hF,b1,eF⟩:=EH ab;obtain⟨s2,r2,rfl,cI,ef⟩:=BK r;have hle:l[st.n+s1.length]?=some ⟨none,.eK 1 bytes b t⟩:=by rw[b9,List.getElem?_append_right (Nat.le_refl _)];simp
 have hD:=(hR.dr hle).2.2.2 1 bytes b t rfl;simp only[yb,List.all_eq_true] at hD
 have cd:∀m' s',(s1++⟨none,.eK 1 bytes b t⟩::(s2++r2))[m']?=some s'->m'≠s1.length->s'.k.mQ=false/\b ∉ s'.k.reads/\(∀want,s'.g≠some (b,want))/\(m'<s1.length\/fU (ep [] ops.toList) (st.n+m') (st.n+s1.length)=true\/s'.zp=true):=by
  intro m' s' ao cy;have dm:l[st.n+m']?=some s':=by rw[b9,ao]
  have:=hD (s',st.n+m') (List.mem_zipIdx_iff_getElem?.2 dm);rw[Bool.or_eq_true] at this;have:=this.resolve_left (by simp only[decide_eq_true_eq];omega);simp only[Bool.and_eq_true,Bool.or_eq_true,Bool.not_eq_true',decide_eq_true_eq] at this;obtain⟨⟨⟨q1,q2⟩,q3⟩,q4⟩:=this;refine⟨q1,fun hh=>?_,fun want hh=>?_,?_⟩
  ·rw[List.contains_iff_mem.2 hh] at q2;cases q2
  ·rw[hh] at q3;simp at q3
  ·rcases q4 with(q4 | q4) | q4
   ·exact .inl (by omega)
   ·exact .inr (.inl q4)
   ·exact .inr (.inr q4)
 have e2:b<st.n+s1.length:=by
  obtain⟨o,_,_,_,_,_,_,h6,_⟩:=hR.op hle;exact h6 b (by simp[Kp.reads])
 have cj:r2=[]\/∃e r,r2=e::r/\e.k.gr=true/\e.k.mQ=false:=by
  rcases ef with h | ⟨e,r,rfl,b0⟩
  ·exact .inl h
  ·exact .inr ⟨e,r,rfl,b0,(cd (s1.length+1+s2.length) e (by
    rw[List.getElem?_append_right (by omega),show s1.length+1+s2.length-s1.length=s2.length+1 by omega,List.getElem?_cons_succ,List.getElem?_append_right (Nat.le_refl _)];simp) (by omega)).1⟩
 obtain⟨S,b2,cp,eP⟩:=Br s2 r2 eF cI;have W : 1000<=1000+b:=by omega
 have e4:(cM st I).n=st.n+s1.length:=by rw[ea,Y]
 have a8:∀m2,cM (((cM st I).put (1000+b) .dead).push c) (S.take m2)=(cM st ((I++c::S).take (s1.length+1+m2))).put (1000+b) .dead:=by
  intro m2;rw[IU W (by omega),IQ W _ _ (St.fx a6 c) (by show _<1000+((cM st I).n+1);omega)];congr 1
  rw[show(I++c::S).take (s1.length+1+m2)=I++(c::S.take m2) by
   rw[show s1.length+1+m2=I.length+(m2+1) by omega,List.take_length_add_append,List.take_succ_cons],Xc]
  rfl
 have a7:(I++c::S).take (s1.length+1+s2.length)=I++c::S:=List.take_of_length_le (by simp;omega);have V:(s1++⟨none,.eK 1 bytes b t⟩::s2).length=s1.length+1+s2.length:=by simp;omega
 have bg:∀m,m<=s1.length->(I++c::S).take m=I.take m:=fun m hm=>List.take_append_of_le_length (by omega)
 obtain⟨e1,e0⟩:=wT (I++c::S) ax
 have cq:cM (((cM st I).put (1000+b) .dead).push c) S=(cM st (I++c::S)).put (1000+b) .dead:=by
  have:=a8 s2.length
  rwa [a7,<-b2,List.take_length] at this
 refine⟨s1++⟨none,.eK 1 bytes b t⟩::s2,r2,some (st.n+s1.length,b),I++c::S,fun m=>if m<=s1.length then cM st ((I++c::S).take m) else(cM st ((I++c::S).take m)).put (1000+b) .dead,by simp,cj,⟨by simp;omega,fun m s Z=>?_,fun m hm=>?_,fun i s Z eB=>?_,fun e' b' bT=>?_,?_,?_⟩,?_⟩
 ·by_cases hm:m<s1.length
  ·rw[List.getElem?_append_left hm] at Z
   exact .inl (b5 s (List.mem_of_getElem? Z))
  ·rw[List.getElem?_append_right (by omega)] at Z
   by_cases b4:m=s1.length
   ·subst b4;exact .inr ⟨b,rfl⟩
   ·rw[show m-s1.length=(m-s1.length-1)+1 by omega,List.getElem?_cons_succ] at Z
    exact .inl (cI s (List.mem_of_getElem? Z))
 ·rw[V] at hm
  have e3:(I++c::S).length=s1.length+1+s2.length:=by simp;omega
  split
  ·rename_i et
   rw[uv _ ax,Bq (by omega)];funext k;exact(hZ (fun hh=>by have:=hh.1;simp only[decide_eq_true_eq] at this;omega)).symm
  ·rename_i et
   obtain⟨pw,pn⟩:=wT ((I++c::S).take m) ax;have b3:((I++c::S).take m).length=m:=by simp;omega
   rw[St.dR pw (.inr ⟨W,by rw[pn,b3];omega⟩),uv _ ax,Bq (by omega)];funext k;by_cases hk:k=1000+b
   ·subst hk;rw[bc,qA ⟨by simp only[decide_eq_true_eq];omega,rfl⟩]
   ·rw[aI _ _ hk,hZ fun hh=>hk hh.2]
 ·by_cases hm:i<s1.length
  ·rw[List.getElem?_append_left hm] at Z
   have:=cm i s Z;rw[if_pos (by omega),bg i (by omega)]
   rwa [List.getD_eq_getElem?_getD,List.getElem?_append_left (by omega),<-List.getD_eq_getElem?_getD]
  ·rw[List.getElem?_append_right (by omega)] at Z
   by_cases b4:i=s1.length
   ·subst b4
    simp at Z;subst Z;cases eB
   ·obtain⟨m2,rfl⟩:∃m2,i=s1.length+1+m2:=⟨i-s1.length-1,by omega⟩
    rw[show s1.length+1+m2-s1.length=m2+1 by omega,List.getElem?_cons_succ] at Z;have:=cp m2 s Z;rw[a8 m2] at this;rw[if_neg (by omega),List.getD_eq_getElem?_getD,List.getElem?_append_right (by omega),show s1.length+1+m2-I.length=m2+1 by omega,List.getElem?_cons_succ,<-List.getD_eq_getElem?_getD];exact this
 ·injection bT with bT
  injection bT with eg b0
  subst eg;subst b0;refine⟨s1.length,1,bytes,t,rfl,by rw[List.getElem?_append_right (Nat.le_refl _)];simp,rfl,?_,fun m' s' ao cy=>?_⟩
  ·rw[if_pos (Nat.le_refl _),bg _ (Nat.le_refl _),List.take_of_length_le (by omega),List.getD_eq_getElem?_getD,List.getElem?_append_right (by omega),Y,Nat.sub_self]
   exact hF
  ·have cv:=(List.getElem?_eq_some_iff.1 ao).1
   rw[V] at cv
   have dn:(s1++⟨none,.eK 1 bytes b t⟩::(s2++r2))[m']?=some s':=by
    rw[show s1++(⟨none,.eK 1 bytes b t⟩:bh)::(s2++r2)=(s1++⟨none,.eK 1 bytes b t⟩::s2)++r2 by simp,List.getElem?_append_left (by rw[V];exact cv)];exact ao
   obtain⟨_,q2,q3,q4⟩:=cd m' s' dn cy;refine⟨q2,q3,?_⟩;rcases q4 with q4 | q4 | q4
   ·exact .inl q4
   ·exact .inr (.inl q4)
   by_cases b3:m'<s1.length
   ·exact .inl b3
   refine .inr (.inr ?_);obtain⟨m2,rfl⟩:∃m2,m'=s1.length+1+m2:=⟨m'-s1.length-1,by omega⟩
   have ev:s2[m2]?=some s':=by
    rw[List.getElem?_append_right (by omega),show s1.length+1+m2-s1.length=m2+1 by omega,List.getElem?_cons_succ] at ao;exact ao
   have eb:=cp m2 s' ev;rw[List.getD_eq_getElem?_getD,List.getElem?_append_right (by omega),show s1.length+1+m2-I.length=m2+1 by omega,List.getElem?_cons_succ,<-List.getD_eq_getElem?_getD];have cr:l[st.n+(s1.length+1+m2)]?=some s':=by rw[b9,dn]
   obtain⟨o,_,_,_,_,_,ag,_,_⟩:=hR.op cr;obtain⟨g',k'⟩:=s';simp only[bh.zp,Bool.and_eq_true] at q4;obtain⟨q5,q6⟩:=q4;cases g' with
   | some _=>cases q5
   | none =>
   have hex:=Th q6;obtain⟨j,rfl⟩:=hex
   have hj:j<1000:=by
    simp only[bb] at ag;split at ag<;>try(cases ag;done)
    rename_i x' _;have ej:=QW ag;obtain⟨t,ht⟩:=ej;have:=(List.getElem?_eq_some_iff.1 ht).1;have:=hR.mi.iq;omega
   rcases eb with⟨side,res,h1,_,_,h4⟩ | ⟨h1,_⟩
   ·rw[h4]
    have eT:(((cM st I).put (1000+b) .dead).push c).wf:=St.fx (St.fb a6 _ _) _
    have bF:(cM (((cM st I).put (1000+b) .dead).push c) (S.take m2)).cont j=(cM st I).cont j:=by
     rw[uv _ eT,qB (by omega),St.c8 (St.fb a6 _ _),aI _ _ (by omega),St.dR a6 (.inr ⟨W,by omega⟩),aI _ _ (by omega)]
    have dk:res=(cB j ((cM st I).cont j)).core:=by
     rw[<-bF];simp only[bO,g1,one,Option.some.injEq,Prod.mk.injEq] at h1;exact h1.2.symm
    rw[dk];exact b1 j hj
   ·cases h1
 ·rw[V]
  rw[if_neg (by omega),a7];exact St.fb e1 _ _
 ·rw[V]
  rw[if_neg (by omega),a7,St.fW,e0];simp;omega
 ·rw[V]
  dsimp only;rw[if_neg (by omega),a7,<-cq];exact eP
theorem yF[Mode](Z:Rg P nt tr pre ops l kh){K:St->Prop}(hQ:∀a w st,K st->st.n=l.length->Fm cx nt tr pre (bY ops.toList l) st a w->Q .normal a w) :
  ∀(N:Nat)(sl:List bh)(st:St)(fuel:Nat)(T:Array Bool)(a:Act)(w:World),sl.length<N->kh<=st.n->l.drop st.n=sl->st.n<=l.length->Fm cx nt tr pre (bY ops.toList l) st a w->cw P K sl st ->
   pe ops T->(∀i,i<ops.size->(T.getD i false=true↔i<st.n))->jx ops T<=fuel->wpAny P .any ops Q fuel T a w
 | 0,sl,st,fuel,T,a,w,hN,_,_,_,_,_,_,_,_=>by omega
 | N+1,sl,st,fuel,T,a,w,hN,cr,hl,hn,h,hv,hT,hx,hu=>by
  obtain⟨I,rest,ap,cs,a7,rfl,hb,hg,Y⟩:=ZD Z hl h.wf hv;have hlen:=hg.len;have bg:l.length-st.n=I.length+rest.length:=by have:=congrArg List.length hl;simpa using this
  have cy:∀i,l[st.n+i]?=(I++rest)[i]?:=fun i=>by rw[<-hl,List.getElem?_drop]
  have pn:=hg.n;refine ZB (cx:=cx) Z cr h.wf hl hb hg (fun fuel T a w hT hx hu h=>?_) fuel T a w hT (fun i hi=>(hx i (by rw[Z.size];omega)).2 hi) (fun i hi cm=>?_) hu ?_
  ·rcases hb with rfl | ⟨e,r,rfl,he,cg⟩
   ·have ad:Region.ready .any ops T=[]:=by
     rw[List.eq_nil_iff_forall_not_mem];intro i hi;obtain⟨h1,h2,_⟩:=wW hT hi;rw[(hx i h1).2 (by rw[Z.size] at h1;simp only[List.length_nil] at bg;omega)] at h2;cases h2
    have hq:=hQ a w _ Y (by rw[pn];simp only[List.length_nil] at bg;omega) h;cases fuel with
    | zero=>exact⟨ad,hq⟩
    | succ fuel=>exact⟨fun _=>hq,fun i hi=>by rw[ad] at hi;cases hi⟩
   ·simp only[List.length_cons] at bg
    have bF:l[st.n+I.length]?=some e:=by rw[cy,List.getElem?_append_right (Nat.le_refl _)];simp
    have bT:st.n+I.length<ops.size:=by rw[Z.size];omega
    have ax:T.getD (st.n+I.length) false=false:=by
     cases ht:T.getD (st.n+I.length) false with
     | false=>rfl
     | true=>have:=(hx _ bT).1 ht;omega
    cases fuel with
    | zero=>have:=uO bT ax;omega
    | succ fuel =>
     refine⟨fun hr=>absurd hr (I7 Z.yI hT.1 bT ax),fun i hi=>?_⟩;obtain⟨S,a8,b2⟩:=wW hT hi;obtain⟨d1,d2⟩:=(Z.dr bF).2.2.1 he cg
     have cp:i=st.n+I.length:=by
      apply Classical.byContradiction;intro dk;by_cases ab:i<st.n+I.length
      ·rw[(hx i S).2 ab] at a8;cases a8
      ·rw[b2 _ (d2 i (by omega) (by rw[<-Z.size];exact S))] at ax;cases ax
     subst cp;obtain⟨o,ho,hd,ab,a6,V,hk,a1,cc⟩:=Z.op bF;have ao:(a7 I.length).n=st.n+I.length:=pn;rw[<-ao] at hd;have b5:∀j,j∈e.k.reads->j<(a7 I.length).n:=fun j hj=>by rw[ao];exact a1 j hj
     have W:∀a' w',(∃st',cw P K r st'/\Fm cx nt tr pre (bY ops.toList l) st' a' w'/\st'.n=(a7 I.length).n+1)->wpAny P .any ops Q fuel (T.setIfInBounds (st.n+I.length) true) a' w':=by
      rintro a' w' ⟨st',k1,k2,k3⟩;rw[ao] at k3;refine yF Z hQ N r st' fuel _ a' w' (by simp only[List.length_append,List.length_cons] at hN;omega) (by omega) ?_ (by omega) k2 k1 (yp hT S b2) (fun i hi=>?_) ?_
      ·rw[k3,show st.n+I.length+1=st.n+(I.length+1) by omega,<-List.drop_drop,hl,List.drop_append]
       simp
      ·by_cases b3:st.n+I.length=i
       ·subst b3
        rw[jP (by rw[hT.1];exact hi)];simp;omega
       ·rw[iZ b3,hx i hi]
        omega
      ·have:=xB hT.1 S a8;omega
     unfold wpOp;rw[ho];simp only;obtain⟨g0,k⟩:=e;cases hog:o.guard with
     | none =>
      cases g0 with
      | some _=>rw[hog] at V;cases V
      | none =>
       have hw:Region.wanted o (yielded ops a.tmps)=true:=by simp[Region.wanted,hog]
       rw[if_pos hw];exact .inl (Oper.wp_mono W (ue Z.mi h (g:=none) (by simp) hk hd a6 ab b5 cc Y))
     | some gg =>
      obtain⟨j,want⟩:=gg;cases g0 with
      | none=>rw[hog] at V;cases V
      | some g1 =>
       obtain⟨i',cI⟩:=g1;rw[hog] at V;simp only[Bool.and_eq_true,beq_iff_eq,decide_eq_true_eq] at V;obtain⟨⟨⟨rfl,rfl⟩,cq⟩,b4⟩:=V
       have ag:∃t,(bY ops.toList l)[j]?=some (some t):=by
        split at b4
        ·exact⟨_,by assumption⟩
        ·cases b4
       obtain⟨t,ag⟩:=ag
       have cv:k.di=none:=by
        cases hka:k.di with
        | none=>rfl
        | some j' =>
         obtain⟨o',_,_,h3,_⟩:=za Z.fit bF;have:=(h3 j' hka).2.2;cases this
       simp only[cw,kG] at Y;split at Y
       ·rename_i b cj
        have b9:Region.wanted o (yielded ops a.tmps)=b:=by
         simp only[Region.wanted,hog];exact Gw h (by rw[ao];exact cq) ag (by have:=wZ ag;simpa using this) cj
        cases b with
        | true =>
         rw[if_pos b9];exact .inl (Oper.wp_mono W (ue Z.mi h (g:=some true) (by simp) hk hd a6 ab b5 cc Y))
        | false =>
         rw[if_neg (by rw[b9];simp)];exact W _ _ (MC Z.mi h hd cv ab Y)
       ·exact Y.elim
  ·cases ht:T.getD i false with
   | false=>rfl
   | true=>have:=(hx i cm).1 ht;omega
  ·obtain⟨⟨vl,fp,G,e1,e2,e3,cd⟩,e4,e5,e6,e7⟩:=h
   have S:∀i,T.getD i false=true->i<ops.size:=fun i hi=>by
    apply Classical.byContradiction;intro hn;simp[Array.getD,show ¬i<T.size by rw[hT.1];exact hn] at hi
   have b0:dC ap st.cont st.n cs (fun i=>T.getD i false)=st.cont:=by
    funext k
    rw[qz fun e b he b1=>by
     have h1:=(hx e (S e b1)).1 b1;have:=(hg.ya e b he).1
     omega]
    unfold cV;by_cases hr : 1000+st.n<=k/\k<1000+st.n+cs.length
    ·rw[if_pos hr]
     have hk:T.getD (k-1000) false=false:=by
      cases ht:T.getD (k-1000) false with
      | false=>rfl
      | true=>have:=(hx (k-1000) (S _ ht)).1 ht;omega
     dsimp only;rw[hk,St.cJ (by simp only[St.in,not_or,not_and];omega)];rfl
    ·rw[if_neg hr]
   rw[b0];refine⟨⟨vl,fp,G,e1,e2,fun i t hi hit=>e3 i t ?_ hit,cd⟩,e5,e6,e7⟩
   have S:i<ops.size:=by
    apply Classical.byContradiction;intro hn;simp[Array.getD,show ¬i<T.size by rw[hT.1];exact hn] at hi
   exact(hx i S).1 hi
end
end Go.D3
namespace Go.D3
open Go
section
variable{P:Program}{o:Oper}{w:World}{A:Nat->Prop}{ct:Nat->D}{vl:Nat->Value}{a:Act}{ds:List (Option Nat)}{tr:List Nat}{rd:X->D}{ob:Nat->D}{Q:Exit->Act->World->Prop}
theorem abg{k:Kp}{side:Prop}{res:D}(hv:bh.pN ⟨none,k⟩=true)(hp:bO k rd ob=some (side,res))(hk:bb P ds tr o k=true)
  (hx:∀y,y∈k.xs->∀x,aP ds tr x y=true->cC w A (ai w ct vl) (a.eval x) (rd y))
  (ab:∀j,∃F,aN w A (ai w ct vl) (vl j) F (ct j)) (hs:side):∃v,∀w',Yd P o a w' v:=by
 cases k<;>try(simp[bh.pN] at hv;done)
 case mv y =>
  simp only[bb] at hk;split at hk<;>try(cases hk;done)
  rename_i Z S;exact⟨_,fun w'=>xG (wJ S)⟩
 case oo x =>
  simp only[bb] at hk;split at hk<;>try(cases hk;done)
  rename_i Z S;have Y:=Ic S;have hp:g1 (rd x) (oq (rd x).core)=some (side,res):=hp;obtain⟨s,h1,rfl⟩:=fe hp;have I:=(hx x (by simp[Kp.xs]) Z hk).1 hs.1;generalize(rd x).core=xx at h1 I;unfold oq at h1;split at h1
  all_goals try(cases h1;done)
  ·obtain⟨b,off,W,_⟩:=rZ I
   exact⟨_,fun w'=>xH Y W⟩
  ·obtain⟨b,off,W,_⟩:=sQ ab (gy I)
   exact⟨_,fun w'=>xH Y W⟩
  ·obtain⟨cs,W,_⟩:=oE I
   exact⟨_,fun w'=>Nq Y W⟩
 case fA off x =>
  simp only[bb] at hk;split at hk<;>try(cases hk;done)
  rename_i t Z f S;have Y:=Ia S;simp only[Bool.and_eq_true] at hk;obtain⟨ag,V⟩:=hk;split at V
  ·rename_i p0 ft hf
   simp only[Bool.and_eq_true,decide_eq_true_eq,Bool.not_eq_true'] at V;obtain⟨⟨rfl,h2⟩,h3⟩:=V;have hp:g1 (rd x) (nW p0 ob (rd x).core)=some (side,res):=hp;obtain⟨s,h1,rfl⟩:=fe hp;have I:=(hx x (by simp[Kp.xs]) Z ag).1 hs.1;generalize(rd x).core=xx at h1 I;unfold nW at h1;split at h1
   ·rename_i l
    have ad:Rd w A (a.eval Z) (.ptr l):=b8 I (by simp) (by simp) (by simp) (by simp) (by simp);generalize hv:a.eval Z=v at ad;cases ad with
    | @ptr b o' _ hA vs hcells hr=>exact⟨_,fun w'=>xF Y hf h2 h3 hv⟩
   ·obtain⟨b,off,W,_⟩:=sQ ab (gy I)
    exact⟨_,fun w'=>xF Y hf h2 h3 W⟩
   ·cases h1
  ·cases V
theorem Ji(ρ:Nat->Nat)(f:Operand->Value)(o:Oper):execOp f (gC ρ o)=execOp f o:=rfl
theorem Jj(ρ:Nat->Nat)(K:Act->World->Prop):(gC ρ o).wp P a w K Q=o.wp P a w K Q:=by
 unfold Oper.wp;rw[Ji];rfl
theorem Jh(ρ:Nat->Nat):(gC ρ o).asks P a w=o.asks P a w:=by
 unfold Oper.asks;rw[Ji]
end
section
variable{P:Program}{md:Region.Mode}{ops ops':Array Oper}{Q:Exit->Act->World->Prop}
theorem abl{n:Nat}{ρ:Nat->Nat}(hs:ops.size=n)(bT:ops'.size=n)(hρ:∀j,j<n->ρ j<n)(a8:∀i j,i<n->j<n->ρ i=ρ j->i=j)(bF:∀i,i<n->∃j,j<n/\ρ j=i)
  (Y:∀(j:Nat)(o:Oper),ops[j]?=some o->ops'[ρ j]?=some (gC ρ o)) (hg:∀(j:Nat)(o:Oper)(i:Nat)(b:Bool),ops[j]?=some o->o.guard=some (i,b)->i<n)
  (he:∀(j:Nat)(o:Oper)(e:Edge),ops[j]?=some o->e∈o.after->Region.binds md e=true->e.on<n) :
  ∀(fuel:Nat)(T I:Array Bool)(a:Act)(w:World),T.size=n->I.size=n->(∀j,j<n->T.getD j false=I.getD (ρ j) false)->wpAny P md ops' Q fuel I a w->wpAny P md ops Q fuel T a w:=by
 have ax:∀(T I:Array Bool),T.size=n->I.size=n->(∀j,j<n->T.getD j false=I.getD (ρ j) false)->∀j,j<n->(j∈Region.ready md ops T↔ρ j∈Region.ready md ops' I):=by
  intro T I h1 h2 V j Z;have S:ops[j]?=some ops[j]:=Array.getElem?_eq_getElem (by omega);rw[mem_ready,mem_ready,lV (T:=T) (i:=j) (by omega) true,lV (T:=I) (i:=ρ j) (by have:=hρ j Z;omega) true,V j Z,S,Y j _ S];refine and_congr Iff.rfl ⟨?_,?_⟩
  ·rintro⟨o,ho,h⟩
   cases ho;refine⟨_,rfl,fun e W hb=>?_⟩;simp only[gC,Array.mem_map] at W;obtain⟨e0,a7,rfl⟩:=W;have a6:Region.binds md e0=true:=hb;have:=h e0 a7 a6
   rwa [V _ (he j _ e0 S a7 a6)] at this
  ·rintro⟨o,ho,h⟩
   cases ho;refine⟨_,rfl,fun e W hb=>?_⟩;have:=h { e with on:=ρ e.on } (by simp only[gC,Array.mem_map];exact⟨e,W,rfl⟩) hb
   rwa [V _ (he j _ e S W hb)]
 have a1:∀(T:Array Bool)(o:Array Oper),o.size=n->∀i,i∈Region.ready md o T->i<n:=by
  intro T o ho i hi;obtain⟨_,x,hx,_⟩:=mem_ready.1 hi;have:=(Array.getElem?_eq_some_iff.1 hx).1;omega
 have emp:∀(T I:Array Bool),T.size=n->I.size=n->(∀j,j<n->T.getD j false=I.getD (ρ j) false)->(Region.ready md ops T=[]↔Region.ready md ops' I=[]):=by
  intro T I h1 h2 V;constructor
  ·intro h
   rw[List.eq_nil_iff_forall_not_mem];intro i hi;obtain⟨j,Z,rfl⟩:=bF i (a1 _ _ bT i hi);have:=(ax T I h1 h2 V j Z).2 hi;rw[h] at this;cases this
  ·intro h
   rw[List.eq_nil_iff_forall_not_mem];intro j Z;have:=(ax T I h1 h2 V j (a1 _ _ hs j Z)).1 Z;rw[h] at this;cases this
 intro fuel;induction fuel with
 | zero=>exact fun T I a w h1 h2 V h=>⟨(emp T I h1 h2 V).2 h.1,h.2⟩
 | succ fuel ih =>
  intro T I a w h1 h2 V h;refine⟨fun hr=>h.1 ((emp T I h1 h2 V).1 hr),fun j Z=>?_⟩;have ag:=a1 _ _ hs j Z;have hw:=h.2 (ρ j) ((ax T I h1 h2 V j ag).1 Z);have S:ops[j]?=some ops[j]:=Array.getElem?_eq_getElem (by omega)
  have hK:∀a w,wpAny P md ops' Q fuel (I.setIfInBounds (ρ j) true) a w->wpAny P md ops Q fuel (T.setIfInBounds j true) a w:=fun a w hh=>by
   refine ih _ _ a w (by simpa using h1) (by simpa using h2) (fun i hi=>?_) hh;by_cases ad:j=i
   ·subst ad
    rw[jP (by omega),jP (by have:=hρ j ag;omega)]
   ·rw[iZ ad,iZ (fun hc=>ad (a8 _ _ ag hi hc)),V i hi]
  generalize ops[j]=o at S
  have b0:∀i,i<n->∀tm,yielded ops' tm (ρ i)=yielded ops tm i:=fun i hi tm=>by
   have bg:ops[i]?=some ops[i]:=Array.getElem?_eq_getElem (by omega);unfold yielded;rw[bg,Y i _ bg];rfl
  have ao:∀tm,Region.wanted (gC ρ o) (yielded ops' tm)=Region.wanted o (yielded ops tm):=fun tm=>by
   unfold Region.wanted;cases ab:o.guard with
   | none=>simp[gC,ab]
   | some g =>
    obtain⟨i,b⟩:=g;simp only[gC,ab,Option.map_some];rw[b0 i (hg j o i b S ab)]
  unfold wpOp at hw|-
  rw[Y j o S] at hw;rw[S];simp only at hw|-
  rw[ao] at hw;by_cases hwn:Region.wanted o (yielded ops a.tmps)=true
  ·rw[if_pos hwn] at hw|-
   rw[Jj,Jh] at hw;exact hw.imp (Oper.wp_mono hK) id
  ·rw[if_neg hwn] at hw|-
   exact hK _ _ hw
end
section
variable{P:Program}{cx:Ctx}{nt:Nat}{tr pre:List Nat}{ops:Array Oper}{l:List bh}{kh:Nat}{Q:Exit->Act->World->Prop}
theorem FI[Mode](hR:Rg P nt tr pre ops l kh){K:St->Prop}(hQ:∀a w st,K st->st.n=l.length->Fm cx nt tr pre (bY ops.toList l) st a w->Q .normal a w)(a7:∀c a w,¬Q (.panic c) a w)
  (hV:∀i s,i<kh->l[i]?=some s->s.pN=true) (ad:Region.noSelect ops=true) (S:∀i,i<kh->Region.free .any ops (AK ops.size i) i=true) (cc:kh<=l.length) :
  ∀(m:Nat)(sl:List bh)(st:St)(fuel:Nat)(T:Array Bool)(a:Act)(w:World),st.n+m=kh->l.drop st.n=sl->Fm cx nt tr pre (bY ops.toList l) st a w->cw P K sl st ->
   pe ops T->(∀i,i<ops.size->(T.getD i false=true↔i<st.n))->jx ops T<=fuel->wpAny P .any ops Q fuel T a w
 | 0,sl,st,fuel,T,a,w,hm,hl,h,hv,hT,hx,hu=>yF hR hQ (sl.length+1) sl st fuel T a w (Nat.lt_succ_self _) (by omega) hl (by omega) h hv hT hx hu
 | m+1,sl,st,fuel,T,a,w,hm,hl,h,hv,hT,hx,hu=>by
  have hn:st.n<l.length:=by omega
  have ao:l[st.n]?=some l[st.n]:=List.getElem?_eq_getElem hn;have b0:sl=l[st.n]::l.drop (st.n+1):=by rw[<-hl];exact List.drop_eq_getElem_cons hn
  generalize l[st.n]=s at ao b0;subst b0;have W:=hV st.n s (by omega) ao;obtain⟨g,k⟩:=s
  have hg:g=none:=by
   simp only[bh.pN,Bool.and_eq_true,Option.isNone_iff_eq_none] at W;exact W.1
  subst hg;obtain⟨o,ho,hd,cd,cv,a8,hk,I,b2⟩:=hR.op ao
  have cg:k.di=none:=by
   cases k<;>first | rfl | (simp[bh.pN] at W)
  have V:st.n<ops.size:=by rw[hR.size];exact hn
  have ax:T.getD st.n false=false:=by
   cases ht:T.getD st.n false with
   | false=>rfl
   | true=>have:=(hx _ V).1 ht;omega
  have bF:o.guard=none:=by
   cases hog:o.guard with
   | none=>rfl
   | some gg=>rw[hog] at a8;cases a8
  have ab:st.n∈Region.ready .any ops T:=by
   rw[mem_ready];refine⟨by rw[lV (by rw[hT.1];exact V)];exact ax,o,ho,fun e b3 hb=>?_⟩;have hE:=hR.yI;simp only[jL,List.all_eq_true] at hE;have h1:=hE (o,st.n) (List.mem_zipIdx_iff_getElem?.2 (by simpa using ho)) e (by simpa using b3);simp only[hb,Bool.not_true,Bool.false_or,decide_eq_true_eq] at h1;exact(hx e.on (by omega)).2 h1
  have b1:br P k none (cw P K (l.drop (st.n+1))) st:=hv
  have Y:iz (bO k st.rd st.cont) none (cw P K (l.drop (st.n+1))) st:=by
   cases k<;>first | exact b1 | (simp[bh.pN] at W)
  have Z:∃v,∀w',Yd P o a w' v:=by
   obtain⟨vl,fp,G,hp,cp,cm,cy⟩:=h.ex;unfold iz at Y;split at Y
   ·cases Y.1
   rename_i side res bT;exact abg W bT hk (fun y hy x cq=>zt hp cp cm cq (fun i hi=>I i (wV (by rw[<-hi];exact hy))) (fun j hj=>b2 j (by rw[<-hj];exact hy))) (fun j=>⟨_,hp.ok j⟩) Y.1
  obtain⟨v,Z⟩:=Z;have a6:=ue (P:=P) (Q:=Q) hR.mi h (s:=⟨none,k⟩) (g:=none) (by simp) hk hd (fun j hj=>by rw[cg] at hj;cases hj) cd I b2 b1;unfold Oper.wp at a6;rw[Z w,Oper.upon_value] at a6;obtain⟨st',k1,k2,k3⟩:=a6;have cI:=uO V ax;obtain⟨fuel,rfl⟩:∃f,fuel=f+1:=⟨fuel-1,by omega⟩;have b4:=S st.n (by omega);have cr:Yields P ops o v a:=.inl ⟨by simp[Region.wanted,bF],Z⟩;refine wpAny_first ho (Region.noSelect_spec ad) (fun c a w hh=>absurd hh (a7 c _ _)) fuel T a w (fun j oj hj b5 a1 cj=>?_) ab cr ?_
  ·refine Region.free_spec ho b4 j oj hj b5 ?_ cj
   have ag:=(Array.getElem?_eq_some_iff.1 hj).1
   have b9:¬j<st.n:=fun hc=>by
    have:=(hx j ag).2 hc;rw[lV (by rw[hT.1];exact ag) true] at a1;rw[this] at a1;cases a1
   simp[AK,Array.getD,ag,b9]
  ·refine FI hR hQ a7 hV ad S cc m _ st' fuel _ _ w (by omega) (by rw[k3]) k2 k1 (yp hT V (wW hT ab).2.2) (fun i hi=>?_) ?_
   ·by_cases bg:st.n=i
    ·subst bg
     rw[jP (by rw[hT.1];exact hi)];simp;omega
    ·rw[iZ bg,hx i hi]
     omega
   ·have:=xB hT.1 V ax;omega
end
theorem yO(tr:List Nat)(ops:Array Oper)(l:List bh):fR tr false ops l=ops:=by simp[fR,tI]
theorem uj{l:List Nat}{n:Nat}(h:qh l n=true):l.length=n/\(∀j,j<n->posOf l j<n/\l.getD (posOf l j) n=j)/\∀i,i<n->l.getD i n<n/\posOf l (l.getD i n)=i:=by
 simp only[qh,Bool.and_eq_true,decide_eq_true_eq,List.all_eq_true,List.mem_range] at h;exact⟨h.1.1,h.1.2,h.2⟩
theorem wN(l:List Nat)(ops:Array Oper):(gx l ops).size=l.length:=by simp[gx]
theorem Iw{l:List Nat}{ops:Array Oper}(h:qh l ops.size=true){j:Nat}{o:Oper}(Y:ops[j]?=some o):(gx l ops)[posOf l j]?=some (gC (posOf l) o):=by
 obtain⟨h1,V,_⟩:=uj h;obtain⟨S,rfl⟩:=Array.getElem?_eq_some_iff.1 Y;obtain⟨Z,I⟩:=V j S
 have W:l[posOf l j]?=some j:=by
  rw[List.getD_eq_getElem?_getD,List.getElem?_eq_getElem (by omega),Option.getD_some] at I;rw[List.getElem?_eq_getElem (by omega),I]
 unfold gx;rw[List.getElem?_toArray,List.getElem?_map,W];simp[Array.getD,S]
theorem WA{P:Program}{l:List Nat}{ops:Array Oper}{Q:Exit->Act->World->Prop}(h:qh l ops.size=true)(hg:mO ops.size ops.toList=true)(hE:jL ops.toList=true){a:Act}{w:World}
  (hw:wpAny P .any (gx l ops) Q ops.size (Array.replicate ops.size false) a w):wpAny P .any ops Q ops.size (Array.replicate ops.size false) a w:=by
 obtain⟨h1,V,h3⟩:=uj h;refine abl (n:=ops.size) (ρ:=posOf l) rfl (by rw[wN,h1]) (fun j I=>(V j I).1) (fun i j hi I Z=>?_) (fun i hi=>⟨l.getD i ops.size,?_,(h3 i hi).2⟩) (fun j o S=>Iw h S) (fun j o i b S Y=>?_) (fun j o e S W hb=>?_) _ _ _ a w (by simp) (by simp) (fun j I=>?_) hw
 ·rw[<-(V i hi).2,<-(V j I).2,Z]
 ·exact(h3 i hi).1
 ·have I:=(Array.getElem?_eq_some_iff.1 S).1
  simp only[mO,List.all_eq_true] at hg;have:=hg o (by rw[<-Array.mem_def];exact Array.mem_of_getElem? S);rw[Y] at this;simpa using this
 ·have I:=(Array.getElem?_eq_some_iff.1 S).1
  simp only[jL,List.all_eq_true] at hE;have h4:=hE (o,j) (List.mem_zipIdx_iff_getElem?.2 (by simpa using S)) e (by simpa using W);simp only[hb,Bool.not_true,Bool.false_or,decide_eq_true_eq] at h4;omega
 ·have:=(V j I).1
  simp[Array.getD,I,this]
end Go.D3
namespace Go.D3
open Go
section
variable{P:Program}{ops:Array Oper}{Q:Exit->Act->World->Prop}
def CV(ops:Array Oper):Array Bool->List Nat->Prop
 | T,[]=>Region.ready .any ops T=[]
 | T,k::L=>k∈Region.ready .any ops T/\CV ops (T.setIfInBounds k true) L
theorem Ro:∀(fuel t:Nat)(T:Array Bool),Region.linearise.go .any ops (fuel+1) t T [] =
  match(Region.ready .any ops T)[t % (Region.ready .any ops T).length]? with
  | some i=>i::Region.linearise.go .any ops fuel (t / (Region.ready .any ops T).length) (T.setIfInBounds i true) []
  | none=>[]:=by
 intro fuel t T;simp only[Region.linearise.go]
 change(match(Region.ready .any ops T)[t % (Region.ready .any ops T).length]? with
   | some i=>Region.linearise.go .any ops fuel (t / (Region.ready .any ops T).length) (T.setIfInBounds i true) [i]
   | none=>[].reverse)=_
 cases(Region.ready .any ops T)[t % (Region.ready .any ops T).length]? with
 | none=>rfl
 | some i=>simp only[];rw[linearise_go_acc];rfl
theorem Xm{T:Array Bool}(V:T.size=ops.size)(h:jx ops T=0):Region.ready .any ops T=[]:=by
 rw[List.eq_nil_iff_forall_not_mem];intro i hi;obtain⟨h1,o,S,_⟩:=mem_ready.1 hi;have I:=(Array.getElem?_eq_some_iff.1 S).1;rw[lV (by omega)] at h1;have:=uO I h1;omega
theorem FB(W:jL ops.toList=true):∀(fuel t:Nat)(T:Array Bool),T.size=ops.size->jx ops T<=fuel->CV ops T (Region.linearise.go .any ops fuel t T [])
 | 0,t,T,I,hu=>by
  simp only[Region.linearise.go,List.reverse_nil,CV];exact Xm I (by omega)
 | fuel+1,t,T,I,hu=>by
  rw[Ro];cases hi:(Region.ready .any ops T)[t % (Region.ready .any ops T).length]? with
  | none =>
   simp only[CV];cases hr:Region.ready .any ops T with
   | nil=>rfl
   | cons x xs =>
    rw[hr] at hi;have V:t % (x::xs).length<(x::xs).length:=Nat.mod_lt _ (by simp);simp at hi;simp at V;omega
  | some i =>
   have hm:=List.mem_of_getElem? hi;obtain⟨h1,o,Y,_⟩:=mem_ready.1 hm;have S:=(Array.getElem?_eq_some_iff.1 Y).1;rw[lV (by omega)] at h1;exact⟨hm,FB W fuel _ _ (by simpa using I) (by have:=xB I S h1;omega)⟩
theorem FC:∀(L:List Nat)(fuel:Nat)(T:Array Bool)(a:Act)(w:World),wpAny P .any ops Q fuel T a w->CV ops T L->wpOps P ops Q L a w
 | [],fuel,T,a,w,h,hc=>by
  simp only[wpOps];cases fuel with
  | zero=>exact h.2
  | succ f=>exact h.1 hc
 | k::L,fuel,T,a,w,h,hc=>by
  cases fuel with
  | zero=>have:=hc.1;rw[h.1] at this;cases this
  | succ f =>
   rw[wpOps_cons];exact wpOp_mono (fun a w I=>FC L f _ a w I hc.2) (h.2 k hc.1)
def sK(i j:Nat):Array Bool->List Nat->Prop
 | _,[]=>True
 | T,k::L=>(k=j->T.getD i false=true)/\sK i j (T.setIfInBounds k true) L
theorem yf{i j:Nat}:∀(L:List Nat)(T:Array Bool),T.getD i false=true->sK i j T L
 | [],_,_=>trivial
 | _::L,_,h=>⟨fun _=>h,yf L _ (getD_set_true h)⟩
theorem EY{i j:Nat}(I:i≠j):∀(L:List Nat)(T:Array Bool),(∀k∈L,k<T.size)->sK i j T L\/sK j i T L
 | [],_,_=>.inl trivial
 | k::L,T,h=>by
  have hk:=h k (by simp);by_cases h1:k=i
  ·subst h1
   exact .inl ⟨fun V=>absurd V I,yf L _ (jP hk)⟩
  ·by_cases V:k=j
   ·subst V
    exact .inr ⟨fun S=>absurd S.symm I,yf L _ (jP hk)⟩
   ·rcases EY I L (T.setIfInBounds k true) (fun x Y=>by simpa using h x (by simp[Y])) with W | W
    ·exact .inl ⟨fun S=>absurd S V,W⟩
    ·exact .inr ⟨fun S=>absurd S h1,W⟩
def sB(i j k:Nat)(o:Oper):Oper:=if j=k then { o with after:=o.after.push ⟨i,.data⟩ } else o
theorem uP{i j:Nat}{o:Oper}:sB i j j o={ o with after:=o.after.push ⟨i,.data⟩ }:=if_pos rfl
theorem uQ{i j k:Nat}{o:Oper}(h:j≠k):sB i j k o=o:=if_neg h
theorem Nc{i j k:Nat}{o:Oper}:(sB i j k o).dst=o.dst/\(sB i j k o).guard=o.guard:=by unfold sB;split<;>exact⟨rfl,rfl⟩
theorem qQ(i j k:Nat):(fy i j ops)[k]?=(ops[k]?).map (sB i j k):=by
 unfold fy;rw[Array.getElem?_modify];by_cases h:j=k
 ·subst h;simp only[if_true];congr 1;funext o;exact uP.symm
 ·rw[if_neg h]
  cases ops[k]? with
  | none=>rfl
  | some o=>rw[Option.map_some,uQ h]
theorem u7(i j:Nat):(fy i j ops).size=ops.size:=by simp[fy]
theorem Eu{i j k:Nat}{T:Array Bool}:k∈Region.ready .any (fy i j ops) T↔k∈Region.ready .any ops T/\(k=j->T.getD i false=true):=by
 rw[mem_ready,mem_ready];constructor
 ·rintro⟨V,o,W,h⟩
  rw[qQ,Option.map_eq_some_iff] at W;obtain⟨Z,S,rfl⟩:=W;by_cases I:j=k
  ·subst I
   rw[uP] at h;exact⟨⟨V,Z,S,fun e he Y=>h e (by simp[he]) Y⟩,fun _=>h ⟨i,.data⟩ (by simp) rfl⟩
  ·rw[uQ I] at h
   exact⟨⟨V,Z,S,h⟩,fun hk=>absurd hk.symm I⟩
 ·rintro⟨⟨V,o,W,h⟩,hk⟩
  refine⟨V,_,by rw[qQ,W];rfl,?_⟩;by_cases I:j=k
  ·subst I
   rw[uP];intro e he Y;simp only[Array.mem_push] at he;rcases he with he | rfl
   ·exact h e he Y
   ·exact hk rfl
  ·rw[uQ I];exact h
theorem yB{i j:Nat}:∀(L:List Nat)(T:Array Bool),CV ops T L->sK i j T L->CV (fy i j ops) T L
 | [],T,h,_=>by
  simp only[CV] at h|-
  rw[List.eq_nil_iff_forall_not_mem] at h|-
  exact fun k hk=>h k (Eu.1 hk).1
 | k::L,T,h,hb=>⟨Eu.2 ⟨h.1,hb.1⟩,yB L _ h.2 hb.2⟩
theorem NY{i j k:Nat}{K:Act->World->Prop}{a:Act}{w:World}:wpOp P (fy i j ops) Q k K a w=wpOp P ops Q k K a w:=by
 have I:∀tm,yielded (fy i j ops) tm=yielded ops tm:=fun tm=>by
  funext g;unfold yielded;rw[qQ];cases ops[g]? with
  | none=>rfl
  | some o=>simp only[Option.map_some,Option.bind_some,Nc.1]
 unfold wpOp;rw[qQ,I];cases ops[k]? with
 | none=>rfl
 | some o =>
  by_cases h:j=k
  ·subst h;rw[Option.map_some,uP];rfl
  ·rw[Option.map_some,uQ h]
theorem u9{i j:Nat}:∀(L:List Nat)(a:Act)(w:World),wpOps P (fy i j ops) Q L a w↔wpOps P ops Q L a w
 | [],a,w=>by simp only[wpOps]
 | k::L,a,w=>by
  rw[wpOps_cons,wpOps_cons,NY];exact⟨wpOp_mono fun a w=>(u9 L a w).1,wpOp_mono fun a w=>(u9 L a w).2⟩
def nJ(P:Program)(ops:Array Oper)(Q:Exit->Act->World->Prop)(a:Act)(w:World):Prop:=∀L,CV ops (Array.replicate ops.size false) L->wpOps P ops Q L a w
theorem Rp{a:Act}{w:World}(h:wpAny P .any ops Q ops.size (Array.replicate ops.size false) a w):nJ P ops Q a w:=fun L I=>FC L _ _ a w h I
theorem vt:∀(L:List Nat)(T:Array Bool),CV ops T L->∀k∈L,k<ops.size
 | [],_,_,k,hk=>by cases hk
 | x::L,T,h,k,hk=>by
  obtain⟨_,o,I,_⟩:=mem_ready.1 h.1;rcases List.mem_cons.1 hk with rfl | hk
  ·exact(Array.getElem?_eq_some_iff.1 I).1
  ·exact vt L _ h.2 k hk
theorem Rq{i j:Nat}{a:Act}{w:World}(V:i≠j)(h1:nJ P (fy i j ops) Q a w)(Y:nJ P (fy j i ops) Q a w):nJ P ops Q a w:=fun L I=>by
 have W:∀i j,Array.replicate (fy i j ops).size false=Array.replicate ops.size false:=fun i j=>by rw[u7]
 rcases EY V L (Array.replicate ops.size false) (fun k hk=>by simpa using vt L _ I k hk) with S | S
 ·exact(u9 L a _).1 (h1 L (by rw[W];exact yB L _ I S))
 ·exact(u9 L a _).1 (Y L (by rw[W];exact yB L _ I S))
theorem abn{id:Nat}{a:Act}{w:World}(hm:P.follows .mixedOrders=true)(I:jL ops.toList=true)(h:nJ P ops Q a { w with drawn:=w.drawn+1 }):(Code.region id ops true).wp P Q a w :=
 wp_region_draw fun t=>by
  simp only[Region.schedule,hm,Bool.true_or,if_true];exact h _ (FB I _ _ _ (by simp) (by unfold jx;exact Nat.le_trans (List.countP_le_length) (by simp)))
theorem Wz{l:List Nat}(h:qh l ops.size=true)(hg:mO ops.size ops.toList=true)(hE:rj ops=true){a:Act}{w:World}(hw:nJ P (gx l ops) Q a w):nJ P ops Q a w:=by
 obtain⟨h1,h2,h3⟩:=uj h;generalize hn:ops.size=n at h1 h2 h3;have bg:(gx l ops).size=n:=by rw[wN,h1]
 have he:∀(j:Nat)(o:Oper)(e:Edge),ops[j]?=some o->e∈o.after->Region.binds .any e=true->e.on<n:=fun j o e ho S hb=>by
  simp only[rj,List.all_eq_true] at hE;have:=hE o (by rw[<-Array.mem_def];exact Array.mem_of_getElem? ho) e (by simpa using S);simp only[hb,Bool.not_true,Bool.false_or,decide_eq_true_eq] at this;omega
 have Z:∀(j:Nat)(o:Oper),ops[j]?=some o->(gx l ops)[posOf l j]?=some (gC (posOf l) o):=fun j o ho=>Iw h ho
 have a8:∀(j:Nat)(o:Oper)(i:Nat)(b:Bool),ops[j]?=some o->o.guard=some (i,b)->i<n:=fun j o i b ho W=>by
  simp only[mO,List.all_eq_true] at hg;have:=hg o (by rw[<-Array.mem_def];exact Array.mem_of_getElem? ho);rw[W] at this;rw[<-hn];simpa using this
 have ax:∀i j,i<n->j<n->posOf l i=posOf l j->i=j:=fun i j hi hj Y=>by rw[<-(h2 i hi).2,<-(h2 j hj).2,Y]
 have a7:∀(T V:Array Bool),T.size=n->V.size=n->(∀j,j<n->T.getD j false=V.getD (posOf l j) false)->∀j,j<n->(j∈Region.ready .any ops T↔posOf l j∈Region.ready .any (gx l ops) V):=by
  intro T V h1 bT hT j hj;have I:ops[j]?=some ops[j]:=Array.getElem?_eq_getElem (by omega);rw[mem_ready,mem_ready,lV (T:=T) (i:=j) (by omega) true,lV (T:=V) (i:=posOf l j) (by have:=(h2 j hj).1;omega) true,hT j hj,I,Z j _ I];refine and_congr Iff.rfl ⟨?_,?_⟩
  ·rintro⟨o,ho,h⟩
   cases ho;refine⟨_,rfl,fun e S hb=>?_⟩;simp only[gC,Array.mem_map] at S;obtain⟨e0,ao,rfl⟩:=S;have ag:Region.binds .any e0=true:=hb;have:=h e0 ao ag
   rwa [hT _ (he j _ e0 I ao ag)] at this
  ·rintro⟨o,ho,h⟩
   cases ho;refine⟨_,rfl,fun e S hb=>?_⟩;have:=h { e with on:=posOf l e.on } (by simp only[gC,Array.mem_map];exact⟨e,S,rfl⟩) hb
   rwa [hT _ (he j _ e I S hb)]
 have op:∀(j:Nat)(K:Act->World->Prop)(a:Act)(w:World),j<n->wpOp P (gx l ops) Q (posOf l j) K a w->wpOp P ops Q j K a w:=by
  intro j K a w b1 hw;have I:ops[j]?=some ops[j]:=Array.getElem?_eq_getElem (by omega);generalize ops[j]=o at I
  have bF:∀i,i<n->∀tm,yielded (gx l ops) tm (posOf l i)=yielded ops tm i:=fun i hi tm=>by
   have a1:ops[i]?=some ops[i]:=Array.getElem?_eq_getElem (by omega);unfold yielded;rw[a1,Z i _ a1];rfl
  have ad:∀tm,Region.wanted (gC (posOf l) o) (yielded (gx l ops) tm)=Region.wanted o (yielded ops tm):=fun tm=>by
   unfold Region.wanted;cases W:o.guard with
   | none=>simp[gC,W]
   | some g =>
    obtain⟨i,b⟩:=g;simp only[gC,W,Option.map_some];rw[bF i (a8 j o i b I W)]
  unfold wpOp at hw|-
  rw[Z j o I] at hw;rw[I];simp only at hw|-
  rw[ad] at hw;by_cases hwn:Region.wanted o (yielded ops a.tmps)=true
  ·rw[if_pos hwn] at hw|-
   rw[Jj,Jh] at hw;exact hw
  ·rw[if_neg hwn] at hw|-
   exact hw
 have a6:∀(L:List Nat)(a:Act)(w:World),(∀k∈L,k<n)->wpOps P (gx l ops) Q (L.map (posOf l)) a w->wpOps P ops Q L a w:=by
  intro L;induction L with
  | nil=>intro a w _ hw;exact hw
  | cons k L ih =>
   intro a w hk hw;rw[List.map_cons,wpOps_cons] at hw;rw[wpOps_cons];exact op k _ a w (hk k (by simp)) (wpOp_mono (fun a w hh=>ih a w (fun x hx=>hk x (by simp[hx])) hh) hw)
 have cv:∀(L:List Nat)(T V:Array Bool),T.size=n->V.size=n->(∀j,j<n->T.getD j false=V.getD (posOf l j) false)->CV ops T L->CV (gx l ops) V (L.map (posOf l)):=by
  intro L;induction L with
  | nil =>
   intro T V t1 t2 hT hc;simp only[CV,List.map_nil] at hc|-
   rw[List.eq_nil_iff_forall_not_mem] at hc|-
   intro i hi;obtain⟨_,x,hx,_⟩:=mem_ready.1 hi;have b0:=(Array.getElem?_eq_some_iff.1 hx).1;have hp:=h3 i (by omega);have:=(a7 T V t1 t2 hT (l.getD i n) hp.1).2 (by rw[hp.2];exact hi);exact hc _ this
  | cons k L ih =>
   intro T V t1 t2 hT hc;have ab:k<n:=by have:=vt (k::L) T hc k (by simp);omega
   refine⟨(a7 T V t1 t2 hT k ab).1 hc.1,ih _ _ (by simpa using t1) (by simpa using t2) (fun i hi=>?_) hc.2⟩;by_cases Y:k=i
   ·subst Y
    rw[jP (by omega),jP (by have:=(h2 k ab).1;omega)]
   ·rw[iZ Y,iZ (fun hc=>Y (ax _ _ ab hi hc)),hT i hi]
 intro L hL;rw[hn] at hL;refine a6 L a w (fun k hk=>by have:=vt L _ hL k hk;omega) (hw _ ?_);rw[bg];exact cv L _ _ (by simp) (by simp) (fun j hj=>by have:=(h2 j hj).1;simp[Array.getD,hj,this]) hL
theorem NW{i j:Nat}(W:rj ops=true)(hi:i<ops.size):rj (fy i j ops)=true:=by
 simp only[rj,List.all_eq_true] at W|-
 rw[u7];intro o Z e he;obtain⟨k,hk⟩:=List.mem_iff_getElem?.1 Z;have I:(fy i j ops)[k]?=some o:=by simpa using hk
 rw[qQ,Option.map_eq_some_iff] at I;obtain⟨o0,S,rfl⟩:=I;have V:=W o0 (by rw[<-Array.mem_def];exact Array.mem_of_getElem? S);by_cases Y:j=k
 ·subst Y
  rw[uP] at he;simp only[Array.toList_push,List.mem_append,List.mem_singleton] at he;rcases he with he | rfl
  ·exact V e he
  ·simp[hi]
 ·rw[uQ Y] at he
  exact V e he
theorem NX{i j:Nat}(hg:mO ops.size ops.toList=true):mO (fy i j ops).size (fy i j ops).toList=true:=by
 simp only[mO,List.all_eq_true] at hg|-
 rw[u7];intro o V;obtain⟨k,hk⟩:=List.mem_iff_getElem?.1 V;have I:(fy i j ops)[k]?=some o:=by simpa using hk
 rw[qQ,Option.map_eq_some_iff] at I;obtain⟨W,S,rfl⟩:=I;have:=hg W (by rw[<-Array.mem_def];exact Array.mem_of_getElem? S);rw[Nc.2];exact this
end
end Go.D3
namespace Go.D3
open Go
section
variable{P:Program}{Q:Exit->Act->World->Prop}{a:Act}{w:World}{cx:Ctx}{nt:Nat}{tr pre:List Nat}
theorem abm{c:Code}(J:Nat->Act->World->Prop){n0:Nat}(Z:J n0 a w)
  (round:∀n a w,J n a w->c.wp P (Exit.then (fun S w'=>∃m,m<n/\J m S w') Q) a w):(Code.loop c).wp P Q a w:=by
 classical
 let μ:Act->World->Nat:=fun a w=>if h:∃m,J m a w/\∀k,J k a w->m<=k then Classical.choose h else 0
 have Y:∀a w n,J n a w->J (μ a w) a w/\μ a w<=n:=by
  intro a w n I;have h:=Hg (fun n=>J n a w) n I;have e:μ a w=Classical.choose h:=by simp only[μ];rw[dif_pos h]
  have:=Classical.choose_spec h;rw[e];exact⟨this.1,this.2 n I⟩
 refine wp_loop (fun a w=>∃n,J n a w) μ ⟨n0,Z⟩ fun a w ⟨n,I⟩=>?_
 refine wp_mono (round (μ a w) a w (Y a w n I).1) fun e S w' W=>?_
 cases e with
 | normal =>
  obtain⟨m,hm,V⟩:=W;exact⟨⟨m,V⟩,Nat.lt_of_le_of_lt (Y S w' m V).2 hm⟩
 | _=>exact W
def Bm[Mode](cx:Ctx)(nt:Nat)(tr:List Nat)(env:List D)(a:Act)(w:World):Prop:=Fm cx nt tr [] [] ⟨env,0,[]⟩ a w
theorem Bm.forget[Mode]{env:List D}(h:Bm cx nt tr env a w)(I:List Nat):Bm cx nt tr (c7 I ⟨env,0,[]⟩).env a w:=by
 obtain⟨vl,fp,G,hp,ab,ad,Y⟩:=h.ex;obtain⟨W,G',b1,V,b3,b4,b5⟩:=vg I hp h.wf
 have e:(c7 I ⟨env,0,[]⟩)=⟨(c7 I ⟨env,0,[]⟩).env,0,[]⟩:=by
  have S:(c7 I ⟨env,0,[]⟩).n=0:=b3
  have Z:(c7 I ⟨env,0,[]⟩).tmp=[]:=by
   have:=V;simp only[St.wf,S] at this;exact List.length_eq_zero_iff.1 this
  cases hs:c7 I ⟨env,0,[]⟩ with
  | mk env n tmp=>rw[hs] at S Z;simp only at S Z;subst S Z;rfl
 rw[e] at b1 V;exact⟨⟨vl,W,G',b1,ab,fun i t hi _=>by simp at hi,Y⟩,V,fun j hj=>by simp at hj,h.size,h.defers⟩
theorem MD{ops:Array Oper}{l:List bh}{post:List (Nat×Nat)}{draw:Bool}(I:ma nt tr=true)(S:kC P nt tr ops draw pre l post=true):km nt tr pre (bY (fR tr draw ops l).toList l):=by
 simp only[ma,Bool.and_eq_true,List.all_eq_true,decide_eq_true_eq] at I;simp only[kC,Bool.and_eq_true,List.all_eq_true,decide_eq_true_eq] at S;obtain⟨⟨⟨⟨⟨⟨⟨⟨_,_⟩,h1⟩,V⟩,_⟩,W⟩,_⟩,_⟩,_⟩:=S;exact⟨zT h1,xY V,wy I.1.1,fun i t hi=>I.1.2 t (List.mem_of_getElem? hi),I.2,fun j Y=>W j (by simpa using Y)⟩
theorem AY:∀{l:List Oper}{sl:List bh},l.length=sl.length->(bY l sl).length=l.length
 | [],[],_=>rfl
 | _::_,[],h=>by simp at h
 | [],_::_,h=>by simp at h
 | o::l,s::r,h=>by simp only[bY,List.length_cons];rw[AY (by simpa using h)]
theorem Xq[Mode]{ops:Array Oper}{l:List bh}{post:List (Nat×Nat)}{id:Nat}{env:List D}{K:St->Prop}(ht:ma nt tr=true)(V:kC P nt tr ops false pre l post=true)(h:Bm cx nt tr env a w)
  (hv:cw P K l (c7 pre ⟨env,0,[]⟩)) (hQ:∀a w st,K st->Fm cx nt tr pre (bY ops.toList l) st a w->(bY ops.toList l).length=st.n->Bm cx nt tr (fin post st) a w->Q .normal a w):(Code.region id ops false).wp P Q a w:=by
 have S:=MD ht V;rw[yO] at S;simp only[kC,yO,Bool.and_eq_true,List.all_eq_true,decide_eq_true_eq] at V;obtain⟨⟨⟨⟨⟨⟨⟨⟨ad,h0⟩,_⟩,_⟩,ab⟩,_⟩,Z⟩,_⟩,_⟩:=V;obtain⟨vl,fp,G,hp,ag,ao,W⟩:=h.ex;obtain⟨I,G',b1,b2,b3,b4,b5⟩:=vg pre hp h.wf
 have hF:Fm cx nt tr pre (bY ops.toList l) (c7 pre ⟨env,0,[]⟩) a w :=
  ⟨⟨vl,I,G',b1,fun j t Y _=>ag j t Y (by simp),fun i t hi _=>by rw[b3] at hi;simp at hi,W⟩,b2,fun j Y=>b5 j (by simpa using Y),h.size,h.defers⟩
 have hlen:(bY ops.toList l).length=ops.size:=by rw[AY (by simpa using ad)];simp
 obtain⟨p1,p2⟩:=AF ab;refine wp_region ?_
 have:=Ij (P:=P) (Q:=Q) (ops:=ops) S (fun i t hi=>by have:=wZ hi;simpa using this) ops.toList l 0 (by simp) h0 (fun s hs=>Z s hs) (by simp) b3 hF hv
  (fun a w st hK hn hF=>hQ a w st hK hF (by rw[hlen,hn];simp) (AT S hF (by rw[hlen,hn];simp) p1 p2))
 rw[Array.length_toList,<-List.range_eq_range'] at this;exact this
theorem Hp.drew[Mode]{ct:Nat->D}{vl:Nat->Value}{fp:Nat->Nat->Prop}{G:Nat->Prop}(h:Hp cx ct vl fp G w)(n:Nat)(S:w.drawn<=n:=by exact Nat.le_succ _):Hp cx ct vl fp G { w with drawn:=n }:=by
 have h1:=h.grow (w':={ w with drawn:=n }) (Nat.le_refl _) (fun _ _=>rfl) rfl rfl (.le rfl S);exact h1.release fun b I=>.inl I
theorem Jb[Mode]{ops:Array Oper}{l:List bh}{post:List (Nat×Nat)}{env:List D}{K:St->Prop}(ht:ma nt tr=true)(hf:kC P nt tr ops true pre l post=true)(h:Bm cx nt tr env a w)
  (hv:cw P K l (c7 pre ⟨env,0,[]⟩)) (hQ:∀a w st,K st->Fm cx nt tr pre (bY (fR tr true ops l).toList l) st a w->(bY (fR tr true ops l).toList l).length=st.n->Bm cx nt tr (fin post st) a w->Q .normal a w) :
  P.follows .mixedOrders=true/\wpAny P .any ops (fun e a w=>Q e a w/\∀c,e≠.panic c) ops.size (Array.replicate ops.size false) a { w with drawn:=w.drawn+1 }:=by
 have hS:=MD ht hf;simp only[kC,Bool.and_eq_true,List.all_eq_true,decide_eq_true_eq,Bool.not_true,Bool.false_or] at hf;obtain⟨⟨⟨⟨⟨⟨⟨⟨I,h0⟩,_⟩,_⟩,a1⟩,_⟩,ax⟩,⟨Y,ag⟩,ad⟩,Z⟩:=hf;obtain⟨vl,fp,G,hp,a6,a7,ao⟩:=h.ex;obtain⟨ab,G',b1,b2,b3,b4,b5⟩:=vg pre hp h.wf;have hlen:(bY (fR tr true ops l).toList l).length=(fR tr true ops l).size:=by rw[AY (by simpa using I)];simp
 obtain⟨p1,p2⟩:=AF a1
 have hF:Fm cx nt tr pre (bY (fR tr true ops l).toList l) (c7 pre ⟨env,0,[]⟩) a { w with drawn:=w.drawn+1 } :=
  ⟨⟨vl,ab,G',b1.drew _,fun j t W _=>a6 j t W (by simp),fun i t hi _=>by rw[b3] at hi;simp at hi,ao⟩,b2,fun j W=>b5 j (by simpa using W),h.size,h.defers⟩
 have hR:Rg P nt tr pre (fR tr true ops l) l (kH tr true ops l):=⟨hS,I,h0,fun s hs=>ax s hs,by simpa[jL,List.all_eq_true] using ag,ad⟩;have S:(c7 pre ⟨env,0,[]⟩).n=0:=b3
 have V:∀i n,(Array.replicate n false).getD i false=false:=fun i n=>by
  simp[Array.getD]
 by_cases hnh:tI true ops l=true
 ·refine⟨Y,?_⟩
  have he:fR tr true ops l=gx (zh tr ops) ops:=by unfold fR;rw[if_pos hnh]
  rw[hnh,Bool.not_true,Bool.false_or] at Z;simp only[Bool.and_eq_true,decide_eq_true_eq] at Z;obtain⟨⟨⟨⟨n1,n2⟩,n3⟩,n4⟩,n5⟩:=Z;simp only[IE,Bool.and_eq_true,List.all_eq_true,List.mem_range] at n4;obtain⟨⟨n4,n6⟩,n7⟩:=n4;refine WA n1 n2 n3 ?_;rw[<-he]
  refine FI hR (fun a w st hK hn hF=>⟨hQ a w st hK hF (by rw[hlen,hn,I]) (AT hS hF (by rw[hlen,hn,I]) p1 p2),fun c hc=>by cases hc⟩) (fun c a w hh=>hh.2 c rfl) (fun i s hi hs=>?_) n6 n7 n5
   (kH tr true ops l) l _ _ _ a _ (by rw[S];omega) (by rw[S];rfl) hF hv ⟨by rw[he,wN,(uj n1).1];simp,fun j W=>by rw[V] at W;cases W⟩ (fun i hi=>by rw[V,S];simp) ?_
  ·refine n4 s (List.mem_of_getElem? (i:=i) ?_)
   rw[List.getElem?_take,if_pos hi];exact hs
  ·unfold jx
   rw[he,wN,(uj n1).1];exact Nat.le_trans (List.countP_le_length) (by simp)
 ·refine⟨Y,?_⟩
  have he:fR tr true ops l=ops:=by unfold fR;rw[if_neg hnh]
  have hk:kH tr true ops l=0:=by unfold kH;rw[if_neg hnh]
  rw[hk] at hR;rw[he] at hQ hlen hR hS hF I p1
  refine yF hR (fun a w st hK hn hF=>⟨hQ a w st hK hF (by rw[hlen,hn,I]) (AT hS hF (by rw[hlen,hn,I]) p1 p2),fun c hc=>by cases hc⟩) (l.length+1) l _ _ _ a _ (by omega) (Nat.zero_le _) (by rw[S];rfl) (by rw[S];omega) hF hv
   ⟨by simp,fun j W=>by rw[V] at W;cases W⟩ (fun i hi=>by rw[V,S];simp) ?_
  unfold jx;exact Nat.le_trans (List.countP_le_length) (by simp)
theorem AV[Mode]{ops:Array Oper}{l:List bh}{post:List (Nat×Nat)}{id:Nat}{env:List D}{K:St->Prop}{draw:Bool}(W:ma nt tr=true)(V:kC P nt tr ops draw pre l post=true)(h:Bm cx nt tr env a w)
  (Y:cw P K l (c7 pre ⟨env,0,[]⟩)) (S:∀a w st,K st->Fm cx nt tr pre (bY (fR tr draw ops l).toList l) st a w->(bY (fR tr draw ops l).toList l).length=st.n->Bm cx nt tr (fin post st) a w->Q .normal a w):(Code.region id ops draw).wp P Q a w:=by
 cases draw with
 | false=>rw[yO] at S;exact Xq W V h Y S
 | true =>
 obtain⟨I,hw⟩:=Jb W V h Y S;exact wp_mono (Q:=fun e a w=>Q e a w/\∀c,e≠.panic c) (wp_region_any I hw) fun e a w Z=>Z.1
theorem AU[Mode]{env:List D}{K:List D->Prop}(Y:ma nt tr=true)(h:Bm cx nt tr env a w)(V:∀a w env,K env->Bm cx nt tr env a w->Q .normal a w):∀(t:RT)(ops:Array Oper),tp P nt tr pre t ops=true->sE P t K (c7 pre ⟨env,0,[]⟩) ->
  P.follows .mixedOrders=true/\nJ P ops (fun e a w=>Q e a w/\∀c,e≠.panic c) a { w with drawn:=w.drawn+1 }
 | .leaf l post,ops,I,hv=>by
  obtain⟨h1,S⟩:=Jb Y I h hv fun a w st hK _ _ Z=>V a w _ hK Z
  exact⟨h1,Rp S⟩
 | .two i j pm x y,ops,I,hv=>by
  simp only[tp,Bool.and_eq_true,decide_eq_true_eq] at I;obtain⟨⟨⟨⟨⟨⟨⟨W,hi⟩,hj⟩,hE⟩,hG⟩,hP⟩,h1⟩,S⟩:=I;obtain⟨hm,k1⟩:=AU Y h V x _ h1 hv.1;obtain⟨_,k2⟩:=AU Y h V y _ S hv.2;exact⟨hm,Rq W k1 (Wz (by rw[u7];exact hP) (NX hG) (NW hE hj) k2)⟩
theorem yu[Mode]{st:St}{ds:List (Option Nat)}(h:Fm cx nt tr pre ds st a w)(hn:ds.length=st.n){x:Operand}{y:X}{p q:Code}(Z:aP ds tr x y=true){A B:Prop}(hg:(st.rd y).gate=true)(I:jJ (st.rd y).core A B)
  (hp:A->p.wp P Q a w) (hq:B->q.wp P Q a w):(Code.cond x p q).wp P Q a w:=by
 obtain⟨vl,fp,G,hh,Y,W,ab⟩:=h.ex
 have V:cC w (ak cx fp G w) (ai w st.cont vl) (a.eval x) (st.rd y):=by
  refine zt hh Y W Z (fun i hi=>?_) fun j hj=>?_
  ·subst hi
   rw[<-hn];cases x<;>simp only[aP,Bool.false_eq_true] at Z
   ·exact(List.getElem?_eq_some_iff.1 (by simpa using Z)).1
  ·subst hj
   cases hpre:pre.contains j with
   | false=>rfl
   | true =>
    exfalso;have hd:=h.dd j hpre;have:st.rd (.v j)=.dead:=by show cB j (st.cont j)=_;rw[hd];rfl
    rw[this] at I;exact I
 have h1:=V.1 hg;generalize(st.rd y).core=d at I h1;unfold jJ at I;split at I
 ·exact wp_cond_split (pl_bool h1) (fun S=>hp (I.1 S)) (fun S=>hq (I.2 S))
 ·exact I.elim
theorem Xi{env:List D}{y:X}{A B:Prop}(I:jJ ((⟨env,0,[]⟩:St).rd y) A B):((⟨env,0,[]⟩:St).rd y).gate=true/\jJ ((⟨env,0,[]⟩:St).rd y).core A B:=by
 revert I;generalize(⟨env,0,[]⟩:St).rd y=d;intro I;unfold jJ at I;split at I
 ·exact⟨rfl,I⟩
 ·exact I.elim
theorem ja[Mode](ht:ma nt tr=true):∀(c:C)(code:Code){K:List D->Prop}{E:Ex}{env:List D}{a:Act}{w:World}{Q:Exit->Act->World->Prop},cO P nt tr code c=true->bU P c K E env->Bm cx nt tr env a w ->
  (∀a w env,K env->Bm cx nt tr env a w->Q .normal a w)->(∀i a w env,E.ex i env->Bm cx nt tr env a w->Q (.exit i) a w)->(∀a w env,E.ret env->Bm cx nt tr env a w->Q .ret a w)->code.wp P Q a w
 | .skip,code,K,E,env,a,w,Q,V,W,h,hN,Z,hR=>by
  cases code with
  | skip=>exact wp_skip (hN a w env W h)
  | _=>simp[cO] at V
 | .ops pre l post,code,K,E,env,a,w,Q,V,W,h,hN,Z,hR=>by
  cases code with
  | region id ops d =>
   simp only[cO] at V;exact AV ht V h W fun a w st hK _ _ Y=>hN a w _ hK Y
  | seq x y=>cases x<;>first | (simp[cO] at V;done) | (cases y<;>first | (simp[cO] at V;done) | (rename_i u v;cases u<;>simp[cO] at V))
  | _=>simp[cO] at V
 | .alt pre t,code,K,E,env,a,w,Q,V,W,h,hN,Z,hR=>by
  cases code with
  | region id ops d =>
   simp only[cO,Bool.and_eq_true] at V;obtain⟨⟨rfl,ao⟩,V⟩:=V;obtain⟨hm,hl⟩:=AU ht h hN t ops V W;exact wp_mono (Q:=fun e a w=>Q e a w/\∀c,e≠.panic c) (abn hm ao hl) fun e a w hh=>hh.1
  | seq x y=>cases x<;>first | (simp[cO] at V;done) | (cases y<;>first | (simp[cO] at V;done) | (rename_i u v;cases u<;>simp[cO] at V))
  | _=>simp[cO] at V
 | .dJ pre l post y p q,code,K,E,env,a,w,Q,V,W,h,hN,Z,hR=>by
  unfold cO at V;split at V<;>try(first | (cases V;done) | contradiction)
  rename_i heq;cases heq;rename_i id ops d x cp cq;simp only[Bool.and_eq_true] at V;obtain⟨⟨⟨V,hx⟩,hp⟩,hq⟩:=V;refine wp_seq (AV ht V h W fun a w st hK hF hn Y=>?_);exact yu hF hn hx hK.1 hK.2 (fun W=>ja ht p cp hp W Y hN Z hR) (fun W=>ja ht q cq hq W Y hN Z hR)
 | .wL pre l post y p q r,code,K,E,env,a,w,Q,V,W,h,hN,Z,hR=>by
  unfold cO at V;split at V<;>try(first | (cases V;done) | contradiction)
  rename_i heq;cases heq;rename_i id ops d x cp cq cr;simp only[Bool.and_eq_true] at V;obtain⟨⟨⟨⟨V,hx⟩,hp⟩,hq⟩,hr⟩:=V;refine wp_seq (AV ht V h W fun a w st hK hF hn Y=>?_);refine wp_seq (yu hF hn hx hK.1 hK.2 (fun W=>ja ht p cp hp W Y (fun a w env hK Y=>?_) Z hR) (fun W=>ja ht q cq hq W Y (fun a w env hK Y=>?_) Z hR))
  ·exact ja ht r cr hr hK Y hN Z hR
  ·exact ja ht r cr hr hK Y hN Z hR
 | .seq x y,code,K,E,env,a,w,Q,V,W,h,hN,Z,hR=>by
  unfold cO at V;split at V<;>try(first | (cases V;done) | contradiction)
  rename_i heq;cases heq;rename_i ad cy;simp only[Bool.and_eq_true] at V;exact wp_seq (ja ht x ad V.1 W h (fun a w env hK Y=>ja ht y cy V.2 hK Y hN Z hR) Z hR)
 | .cond y p q,code,K,E,env,a,w,Q,V,W,h,hN,Z,hR=>by
  unfold cO at V;split at V<;>try(first | (cases V;done) | contradiction)
  rename_i heq;cases heq;rename_i x cp cq;simp only[Bool.and_eq_true] at V;obtain⟨hg,hc⟩:=Xi W;exact yu h rfl V.1.1 hg hc (fun W=>ja ht p cp V.1.2 W h hN Z hR) (fun W=>ja ht q cq V.2 W h hN Z hR)
 | .block id c,code,K,E,env,a,w,Q,V,W,h,hN,Z,hR=>by
  unfold cO at V;split at V<;>try(first | (cases V;done) | contradiction)
  rename_i heq;cases heq;rename_i ab c';simp only[Bool.and_eq_true,beq_iff_eq] at V;obtain⟨rfl,V⟩:=V;refine wp_block (ja ht c c' V W h (fun a w env hK Y=>hN a w env hK Y) (fun i a w env hn Y=>?_) (fun a w env hn Y=>hR a w env hn Y));simp only[Exit.inBlock];by_cases hi:i=ab
  ·simp only[hi,if_true] at hn|-
   exact hN a w env hn Y
  ·simp only[hi,if_false] at hn|-
   exact Z i a w env hn Y
 | .loop c,code,K,E,env,a,w,Q,V,W,h,hN,Z,hR=>by
  unfold cO at V;split at V<;>try(first | (cases V;done) | contradiction)
  rename_i heq;cases heq;rename_i c';obtain⟨js,α,S,I,μ,x0,hI,he,hr⟩:=W;refine abm (fun n a w=>∃x,μ x=n/\I x/\Bm cx nt tr (S x) a w) (n0:=μ x0) ⟨x0,rfl,hI,he▸h.forget js⟩ fun n a w ⟨x,hx,ag,Y⟩=>?_
  subst hx;exact ja ht c c' V (hr x ag) Y (fun a w env ⟨x',i1,i2,i3⟩ Y=>⟨μ x',i2,x',rfl,i1,i3▸Y.forget js⟩) (fun i a w env hn Y=>Z i a w env hn Y) (fun a w env hn Y=>hR a w env hn Y)
 | .exit id,code,K,E,env,a,w,Q,V,W,h,hN,Z,hR=>by
  cases code with
  | exit ab =>
   simp only[cO,beq_iff_eq] at V;subst V;exact wp_exit (Z ab a w env W h)
  | _=>simp[cO] at V
 | .ret,code,K,E,env,a,w,Q,V,W,h,hN,Z,hR=>by
  cases code with
  | ret=>exact wp_ret (hR a w env W h)
  | _=>simp[cO] at V
end
end Go.D3
namespace Go.D3
open Go
def Arg.c0(g:Nat):Arg->D
 | .v x=>x
 | .own x=>.o x
 | .io x _=>cB g x
def Arg.g0:Arg->D
 | .io x _=>x
 | _=>.dead
def Arg.tu:Arg->Bool
 | .io _ _=>true
 | _=>false
def Arg.ok:Arg->Bool
 | .v x=>x.cL
 | .own _=>true
 | .io (.box _) _=>true
 | .io (.o x) _=>(dc 0 [] x).cL
 | .io _ _=>false
def eV(tr:List Nat)(as:List Arg):List D :=
 (tr.map fun t=>match as[t]? with | some a=>a.c0 (tr.length+t) | none=>.dead)++(if as.any Arg.tu=true then as.map Arg.g0 else[])
inductive RS where
 | t (j:Nat)
 | c (j n:Nat) (agg:Bool)
def qf(st:St):RS->Option PR
 | .t j=>some ((st.rd (.v j)).gate=true,(st.rd (.v j)).core)
 | .c j n true=>g1 (st.rd (.v j)) (oi n st.cont (st.rd (.v j)).core)
 | .c j _ false=>g1 (st.rd (.v j)) (oh st.cont (st.rd (.v j)).core)
def jZ(st:St):List RS->Option (Prop×List D)
 | []=>some (True,[])
 | r::rs=>(qf st r).bind fun p=>(jZ st rs).bind fun q=>some (p.1/\q.1,p.2::q.2)
def jr:List D->D
 | [d]=>d
 | l=>.av l
def jQ(g:Nat):List Arg->St->Prop
 | [],_=>True
 | .io _ y::r,st=>(st.cont g=y/\y.refs dW)/\jQ (g+1) r st
 | _::r,st=>jQ (g+1) r st
def out(rs:List RS)(res:D)(g:Nat)(as:List Arg)(env:List D):Prop :=
 cR (jZ ⟨env,0,[]⟩ rs) fun p=>p.1/\cE p.2 (fun l st=>jr l=res/\jQ g as st) ⟨env,0,[]⟩
def jq(P:Program)(tr:List Nat):List ResultVar->List RS->Bool
 | [],[]=>true
 | .tmp t::l,.t j::r=>decide (tr[j]?=some t)&&jq P tr l r
 | .cell a t::l,.c j n true::r=>decide (tr[j]?=some a)&&sR P t&&eG P t n&&jq P tr l r
 | .cell a t::l,.c j _ false::r=>decide (tr[j]?=some a)&&lN P t&&jq P tr l r
 | _,_=>false
def mL(P:Program)(fn:Func)(tr:List Nat)(c:C)(I:Nat)(rs:List RS):Bool :=
 (match fn.body with | some code=>cO P fn.ntmps tr code c | none=>false)&&ma fn.ntmps tr&&decide (I<=fn.ntmps)&&jq P tr fn.results.toList rs
theorem tM:∀(l:List D)(k:Nat),nth l k=(l[k]?).getD .dead
 | [],_=>rfl
 | a::l,0=>rfl
 | a::l,k+1=>by simp only[nth,List.getElem?_cons_succ];exact tM l k
def qT:List Arg->Bool
 | []=>true
 | a::r=>a.ok&&qT r
theorem yd:∀{l:List Arg},qT l=true->∀{i:Nat}{a:Arg},l[i]?=some a->a.ok=true
 | [],_,i,a,h=>by simp at h
 | b::r,h,0,a,I=>by simp only[qT,Bool.and_eq_true] at h;simp at I;subst I;exact h.1
 | b::r,h,i+1,a,I=>by simp only[qT,Bool.and_eq_true] at h;simp at I;exact yd h.2 I
theorem GA{st:St}:∀{as:List Arg}{g:Nat},jQ g as st->∀{i:Nat}{x y:D},as[i]?=some (.io x y)->st.cont (g+i)=y/\y.refs dW
 | [],_,_,i,x,y,hi=>by simp at hi
 | a::r,g,h,0,x,y,hi=>by
  simp at hi;subst hi;exact h.1
 | a::r,g,h,i+1,x,y,hi=>by
  simp at hi;have I:jQ (g+1) r st:=by cases a<;>first | exact h | exact h.2
  have:=GA I hi
  rwa [show g+1+i=g+(i+1) by omega] at this
section
variable{P:Program}{cx:Ctx}{vl:Nat->Value}{fp:Nat->Nat->Prop}{G:Nat->Prop}{w:World}
def sn(tmps:Array Value):ResultVar->Sem Value
 | .tmp t=>pure (tmps.getD t undef)
 | .cell a t=>do loadVar t (<-asAddr (tmps.getD a undef))
def qt:List Value->Value
 | [v]=>v
 | vs=>.tuple vs.toArray
theorem Jn{fn:Func}{tmps:Array Value}{vs:List Value}(h:(fn.results.toList.mapM (sn tmps)).run P w=.ok vs w) :
  (results fn tmps).run P w=.ok (qt vs) w:=by
 unfold results;rw[Array.mapM_eq_mapM_toList];generalize hF:List.mapM (m:=Sem) _ fn.results.toList=m
 have hm:m=fn.results.toList.mapM (sn tmps):=by
  rw[<-hF];congr 1
 rw[hm];simp only[Sem.run_bind,Sem.run_map,h,Result.andThen_ok,Sem.run_pure]
 match vs with
 | []=>rfl
 | [v]=>rfl
 | a::b::r=>simp[qt]
theorem Av[Mode]{tr:List Nat}{tmps:Array Value}{st:St}(h:Hp cx st.cont vl fp G w)(Z:∀(j t:Nat),tr[j]?=some t->tmps.getD t undef=vl j):∀(l:List ResultVar)(rs:List RS){p:Prop×List D},jq P tr l rs=true->jZ st rs=some p->p.1 ->
  ∃vs:List Value,(l.mapM (sn tmps)).run P w=.ok vs w/\vs.length=p.2.length/\∀(j:Nat)(x:D),p.2[j]?=some x->Pl w (ak cx fp G w) (ai w st.cont vl) (vs.toArray.getD j undef) x
 | [],[],p,_,W,_=>by
  simp only[jZ,Option.some.injEq] at W;subst W;exact⟨[],rfl,rfl,fun j x S=>by simp at S⟩
 | [],_::_,p,I,_,_=>by simp[jq] at I
 | _::_,[],p,I,_,_=>by simp[jq] at I
 | r0::l,r::rs,p,I,W,hs=>by
  simp only[jZ,Option.bind_eq_some_iff] at W;obtain⟨p1,h1,q,h2,h3⟩:=W;injection h3 with h3
  subst h3;have Y:∀j,∃F,aN w (ak cx fp G w) (ai w st.cont vl) (vl j) F (st.cont j):=fun j=>⟨_,h.ok j⟩
  have one:∃v,(sn tmps r0).run P w=.ok v w/\Pl w (ak cx fp G w) (ai w st.cont vl) v p1.2/\jq P tr l rs=true:=by
   have slot:∀{j t:Nat},tr[j]?=some t->cC w (ak cx fp G w) (ai w st.cont vl) (tmps.getD t undef) (st.rd (.v j)):=fun {j t} hj=>by
    rw[Z j t hj];exact oA (h.ok j)
   cases r0 with
   | tmp t =>
    cases r with
    | t j =>
     simp only[jq,Bool.and_eq_true,decide_eq_true_eq] at I;simp only[qf,Option.some.injEq] at h1;subst h1;exact⟨_,rfl,(slot I.1).1 hs.1,I.2⟩
    | c j n a=>simp[jq] at I
   | cell a t =>
    cases r with
    | t j=>simp[jq] at I
    | c j n ag =>
     cases ag with
     | true =>
      simp only[jq,Bool.and_eq_true,decide_eq_true_eq] at I;simp only[qf] at h1;obtain⟨s,h4,h5⟩:=fe (side:=p1.1) (d:=p1.2) h1;rw[h5] at hs;obtain⟨b,off,cs,e1,e2,e3,e4⟩:=He (ob:=st.cont) (fun _ _=>rfl) Y ((slot I.1.1.1).1 hs.1.1) h4 hs.1.2;refine⟨.agg cs.toArray,?_,e4,I.2⟩
      have hl:=run_loadCells_list (P:=P) w ⟨b,off,none⟩ cs (fun j v hj=>by
       have V:(⟨b,off,none⟩:Addr).add j=⟨b,off+j,none⟩:=by unfold Addr.add;split<;>simp_all
       rw[V];exact e3 j v hj)
      simp[sn,e1,asAddr,loadVar,GP I.1.1.2,BB I.1.2,<-e2,hl]
     | false =>
      simp only[jq,Bool.and_eq_true,decide_eq_true_eq] at I;simp only[qf] at h1;obtain⟨s,h4,h5⟩:=fe (side:=p1.1) (d:=p1.2) h1;rw[h5] at hs;obtain⟨b,off,u,e1,e2,e3⟩:=Hd (ob:=st.cont) (fun _ _=>rfl) Y ((slot I.1.1).1 hs.1.1) h4;refine⟨u,?_,e3,I.2⟩;simp[sn,e1,asAddr,loadVar,zo I.1.2,e2]
  obtain⟨v,k1,k2,k3⟩:=one;obtain⟨vs,k4,k5,k6⟩:=Av h Z l rs k3 h2 hs.2;refine⟨v::vs,?_,by simp[k5],fun j x S=>?_⟩
  ·rw[List.mapM_cons]
   simp only[Sem.run_bind,k1,Result.andThen_ok,k4,Sem.run_pure]
  ·cases j with
   | zero=>simp at S;subst S;exact k2
   | succ j =>
    simp at S;have:=k6 j x S;simpa using this
end
theorem PY{z:D}(h:(dc 0 [] z).cL=true)(g:Nat):(dc g [] z).cL=true:=by
 cases z
 case ptr l=>cases l<;>rfl
 case fn f l=>cases l<;>rfl
 case vw x=>exact h
 all_goals rfl
theorem QK{tr:List Nat}{as:List Arg}(k:Nat):(⟨eV tr as,0,[]⟩:St).cont k=.dead\/(∃t a,tr[k]?=some t/\as[t]?=some a/\(⟨eV tr as,0,[]⟩:St).cont k=a.c0 (tr.length+t)) \/
  ∃t x y,k=tr.length+t/\as[t]?=some (.io x y)/\(⟨eV tr as,0,[]⟩:St).cont k=x:=by
 have I:(⟨eV tr as,0,[]⟩:St).cont k=if k<1000 then((eV tr as)[k]?).getD .dead else .dead:=by
  show(if k<1000 then nth (eV tr as) k else if k<1000+0 then nth [] _ else D.dead)=_;rw[tM];by_cases hk:k<1000
  ·rw[if_pos hk,if_pos hk]
  ·rw[if_neg hk,if_neg hk,if_neg (by omega)]
 generalize(⟨eV tr as,0,[]⟩:St).cont k=X at I|-
 by_cases hk:k<1000
 ·rw[if_pos hk] at I
  by_cases hkt:k<tr.length
  ·unfold eV at I
   rw[List.getElem?_append_left (by simpa using hkt),List.getElem?_map,List.getElem?_eq_getElem hkt] at I;simp only[Option.map_some,Option.getD_some] at I;cases S:as[tr[k]]? with
   | none=>rw[S] at I;exact .inl I
   | some a=>rw[S] at I;exact .inr (.inl ⟨tr[k],a,List.getElem?_eq_getElem hkt,S,I⟩)
  ·unfold eV at I
   rw[List.getElem?_append_right (by simpa using hkt),List.length_map] at I;split at I
   ·rw[List.getElem?_map] at I
    cases S:as[k-tr.length]? with
    | none=>rw[S] at I;exact .inl I
    | some a =>
     rw[S] at I;cases a with
     | io x y=>exact .inr (.inr ⟨k-tr.length,x,y,by omega,S,I⟩)
     | _=>exact .inl I
   ·simp at I;exact .inl I
 ·rw[if_neg hk] at I;exact .inl I
theorem GM{tr:List Nat}{as:List Arg}(S:tr.length+as.length<1000){t:Nat}{x y:D}(h:as[t]?=some (.io x y)):(⟨eV tr as,0,[]⟩:St).cont (tr.length+t)=x:=by
 have V:=(List.getElem?_eq_some_iff.1 h).1;show(if tr.length+t<1000 then nth (eV tr as) (tr.length+t) else _)=_;rw[if_pos (by omega),tM];unfold eV
 have I:as.any Arg.tu=true:=by
  rw[List.any_eq_true];exact⟨_,List.mem_of_getElem? h,rfl⟩
 rw[if_pos I,List.getElem?_append_right (by simp),List.length_map,List.getElem?_map,show tr.length+t-tr.length=t by omega,h];rfl
theorem QL{tr:List Nat}{as:List Arg}(S:tr.length<1000){k t:Nat}{a:Arg}(hk:tr[k]?=some t)(h:as[t]?=some a):(⟨eV tr as,0,[]⟩:St).cont k=a.c0 (tr.length+t):=by
 have I:=(List.getElem?_eq_some_iff.1 hk).1;show(if k<1000 then nth (eV tr as) k else _)=_;rw[if_pos (by omega),tM];unfold eV;rw[List.getElem?_append_left (by simpa using I),List.getElem?_map,hk];simp only[Option.map_some,Option.getD_some,h]
theorem XY[Mode]{P:Program}{f:FuncId}{fn:Func}{c:C}{tr:List Nat}{as:List Arg}{env:List D}{res:D}{rs:List RS}(hf:P.funcs[f]?=some fn)(cr:mL P fn tr c as.length rs=true)(ha:qT as=true)(hl:as.length<500)
  (cm:env=eV tr as) (hv:bU P c (out rs res tr.length as) ⟨fun _ _=>False,out rs res tr.length as⟩ env):aA P f as res:=by
 subst cm;simp only[mL,Bool.and_eq_true,decide_eq_true_eq] at cr;obtain⟨⟨⟨ab,dk⟩,e3⟩,cy⟩:=cr;cases I:fn.body with
 | none=>rw[I] at ab;cases ab
 | some code =>
 rw[I] at ab;simp only at ab;intro w A vs Fs ej hA e4 a7 ec bF;have a8:=dk;simp only[ma,Bool.and_eq_true,List.all_eq_true,decide_eq_true_eq] at a8;obtain⟨⟨eB,e2⟩,e1⟩:=a8;let tm:Array Value:=vs++Array.replicate (fn.ntmps-vs.size) undef;have eP:tm.size=fn.ntmps:=by simp only[tm,Array.size_append,Array.size_replicate];omega
 have b2:∀i,i<as.length->tm.getD i undef=vs.getD i undef:=by
  intro i hi;simp only[tm,Array.getD_eq_getD_getElem?];rw[Array.getElem?_append_left (by omega)]
 let cx:Ctx:=⟨w,fun b=>∃j,Fs j b,A,fun k=>vs.getD (k-tr.length) undef,fun b I=>⟨hA b I,fun⟨j,V⟩=>(bF j b V).2.1 I⟩,ej,[]⟩;let vl:Nat->Value:=fun k=>match tr[k]? with | some t=>tm.getD t undef | none=>vs.getD (k-tr.length) undef
 let fp:Nat->Nat->Prop:=fun k b=>(∃t x,tr[k]?=some t/\as[t]?=some (.own x)/\Fs t b)\/∃t x y,k=tr.length+t/\as[t]?=some (.io x y)/\Fs t b
 have a6:∀k b,fp k b->∃j,Fs j b:=by
  rintro k b (⟨t,x,_,_,h⟩ | ⟨t,x,y,_,_,h⟩)<;>exact⟨t,h⟩
 have b3:∀k,tr.length<=k->vl k=vs.getD (k-tr.length) undef:=fun k hk=>by
  show(match tr[k]? with | some t=>tm.getD t undef | none=>_)=_;rw[List.getElem?_eq_none hk]
 have cd:∀k t,tr[k]?=some t->t<as.length->vl k=vs.getD t undef:=fun k t hk ht=>by
  show(match tr[k]? with | some t=>tm.getD t undef | none=>_)=_;rw[hk];exact b2 t ht
 have ao:∀b,A b->ak cx fp (fun _=>False) w b:=fun b I=>⟨⟨hA b I,fun _=>I⟩,fun h=>h,fun k hk=>by
  obtain⟨j,V⟩:=a6 k b hk
  exact(bF j b V).2.1 I⟩
 have cp:=wy eB
 have h0:Bm cx fn.ntmps tr (eV tr as) { tmps:=tm,defers:=[] } w:=by
  refine⟨⟨vl,fp,fun _=>False,?_,fun k t hk _=>by simp only[vl,hk],fun i t hi _=>by simp at hi,fun k h1 _=>b3 k h1⟩,rfl,fun j V=>by simp at V,eP,rfl⟩;refine⟨fun k=>?_,fun i j a1 b hi V=>?_,fun _ _ _ h=>h,fun k hk b I=>?_,fun k b I=>?_,fun _ h=>h.elim,Nat.le_refl _,fun _ _ _=>rfl,rfl,rfl,.refl _⟩
  ·rcases QK (tr:=tr) (as:=as) k with hc | ⟨t,a,h1,h2,hc⟩ | ⟨t,x,y,rfl,h2,hc⟩
   ·rw[hc];exact Pl.dead
   ·rw[hc]
    have cq:=(List.getElem?_eq_some_iff.1 h2).1;have hp:=a7 t a h2;rw[cd k t h1 cq];have ax:=yd ha h2;cases a with
    | v x =>
     have hr:=hp.1.mono ao (fun _ _=>rfl);show aN _ _ _ _ _ x;have:x.cL=true:=ax;cases x<;>first | exact Pl.rd hr | cases this
    | own x =>
     show aq w _ _ x _;exact aq.mono (F:=Fs t) hp ao (fun _ _=>rfl) (fun _ _=>rfl) fun b I=>.inl ⟨t,x,h1,h2,I⟩
    | io x y =>
     have cj:=GM (tr:=tr) (by omega) h2;have dn:vl (tr.length+t)=vs.getD t undef:=by rw[b3 _ (by omega),show tr.length+t-tr.length=t by omega]
     have hp:aN w A (fun _ _=>False) (vs.getD t undef) (Fs t) x:=hp
     have b0:aN w A (ai w (⟨eV tr as,0,[]⟩:St).cont vl) (vl (tr.length+t)) (Fs t) ((⟨eV tr as,0,[]⟩:St).cont (tr.length+t)):=by
      rw[cj,dn];exact hp.mono (Q:=fun _=>True) (fun _ h=>h) (fun _ _=>rfl) (fun _ _=>rfl) (fun _ h=>h) (bw (fun _=>trivial) _) fun v d _ h=>h.elim
     have cv:=oA b0;rw[cj,dn] at cv
     have b4:∀g:Nat,(cB g x).cL=true:=by
      intro g;cases x with
      | box l=>rfl
      | o z =>
       have hz:(dc 0 [] z).cL=true:=ax;exact PY hz g
      | _=>cases ax
     have hgate:(cB (tr.length+t) x).gate=true:=by
      have:=b4 (tr.length+t);generalize cB (tr.length+t) x=z at this;cases z<;>first | rfl | cases this
     have b1:(cB (tr.length+t) x).core=cB (tr.length+t) x:=by
      have:=b4 (tr.length+t);generalize cB (tr.length+t) x=z at this;cases z<;>first | rfl | cases this
     have ag:=cv.1 hgate;rw[b1] at ag;have ag:=ag.mono (Q:=fun _=>True) ao (fun _ _=>rfl) (bw (fun _=>trivial) _) fun v d _ h=>h
     show aN _ _ _ _ _ (cB (tr.length+t) x);have:=b4 (tr.length+t);generalize cB (tr.length+t) x=z at this ag;cases z<;>first | exact ag | cases this
   ·rw[hc,b3 _ (by omega),show tr.length+t-tr.length=t by omega]
    have hp:aN w A (fun _ _=>False) (vs.getD t undef) (Fs t) x:=a7 t _ h2;exact hp.mono (Q:=fun _=>True) ao (fun _ _=>rfl) (fun _ _=>rfl) (fun b I=>.inr ⟨t,x,y,rfl,h2,I⟩) (bw (fun _=>trivial) _) fun v d _ h=>h.elim
  ·have key:∃t,Fs t b/\((tr[i]?=some t/\∃x,as[t]?=some (.own x))\/(i=tr.length+t/\∃x y,as[t]?=some (.io x y))):=by
    rcases hi with⟨t,x,Z,W,q3⟩ | ⟨t,x,y,Z,W,q3⟩
    ·exact⟨t,q3,.inl ⟨Z,x,W⟩⟩
    ·exact⟨t,q3,.inr ⟨Z,x,y,W⟩⟩
   have ea:∃t,Fs t b/\((tr[j]?=some t/\∃x,as[t]?=some (.own x))\/(j=tr.length+t/\∃x y,as[t]?=some (.io x y))):=by
    rcases V with⟨t,x,Z,W,q3⟩ | ⟨t,x,y,Z,W,q3⟩
    ·exact⟨t,q3,.inl ⟨Z,x,W⟩⟩
    ·exact⟨t,q3,.inr ⟨Z,x,y,W⟩⟩
   obtain⟨t,k1,k2⟩:=key;obtain⟨t',k3,k4⟩:=ea;have eT:t=t':=Classical.byContradiction fun eF=>ec t t' b eF k1 k3
   subst eT;rcases k2 with⟨Z,x,W⟩ | ⟨Z,x,y,W⟩<;>rcases k4 with⟨q3,x',q4⟩ | ⟨q3,x',y',q4⟩
   ·exact a1 (cp _ _ _ Z q3)
   ·rw[W] at q4;cases q4
   ·rw[W] at q4;cases q4
   ·omega
  ·rcases I with⟨t,x,Z,W,q3⟩ | ⟨t,x,y,rfl,W,q3⟩
   ·rw[QL (by omega) Z W] at hk;cases hk
   ·rw[GM (by omega) W] at hk
    have ax:=yd ha W;cases x with
    | box l=>cases hk
    | o z=>cases hk
    | _=>cases ax
  ·obtain⟨j,V⟩:=a6 k b I
   exact⟨(bF j b V).1,.inl ⟨j,V⟩⟩
 have fin:∀a' w' env,out rs res tr.length as env->Bm cx fn.ntmps tr env a' w' ->
   a'.defers=[]/\∃v,(results fn a'.tmps).run P w'=.ok v w'/\∃(u:Value)(F:Nat->Prop)(Y:Nat->Nat->Prop),Ending.returned v=.returned u/\w.heap.size<=w'.heap.size /\
    aq w' (fun b=>A b\/(w.heap.size<=b/\b<w'.heap.size/\¬F b/\∀j,¬Y j b)) u res F /\
    (∀(i:Nat)(x:Arg),as[i]?=some x->x.post w' (fun b=>A b\/(w.heap.size<=b/\b<w'.heap.size/\¬F b/\∀j,¬Y j b)) (vs.getD i undef) (Y i)) /\
    (∀b,F b->b<w'.heap.size/\(w.heap.size<=b\/∃j,Fs j b)/\∀j,¬Y j b)/\(∀j b,Y j b->b<w'.heap.size/\(w.heap.size<=b\/∃j,Fs j b)/\j<as.length)/\(∀i j b,i≠j->Y i b->¬Y j b) /\
    (∀b,b<w.heap.size->(∀j,¬Fs j b)->w'.heap[b]?=w.heap[b]?)/\w'.os=w.os/\w'.tape=w.tape/\c6 w w':=by
  intro a' w' env ho hB;unfold out at ho;cases dp:jZ ⟨env,0,[]⟩ rs with
  | none=>rw[dp] at ho;exact ho.elim
  | some p =>
  rw[dp] at ho;obtain⟨hs,ef⟩:=ho;obtain⟨e5,eb,G',hp,dm,_,eg⟩:=hB.ex;obtain⟨us,cI,hlen,ag⟩:=Av (P:=P) hp (fun j t V=>dm j t V (by simp)) fn.results.toList rs cy dp hs;obtain⟨l',st',bg,G2,Ls,⟨b9,et⟩,S,ev,ad,bT,_⟩:=ko (A:=ak cx eb G' w') _ ef hp hB.wf (fun _ h=>h) ag;have cc:=Jn cI;let F:Nat->Prop:=fun b=>∃j,Ls j b
  let Y:Nat->Nat->Prop:=fun t b=>(∃x y,as[t]?=some (.io x y))/\bg (tr.length+t) b
  have aK:∀b,ak cx bg G2 w' b->A b\/(w.heap.size<=b/\b<w'.heap.size/\¬F b/\∀j,¬Y j b):=by
   rintro b ⟨⟨Z,W⟩,q3,q4⟩;by_cases hbo:b<w.heap.size
   ·exact .inl (W hbo)
   ·exact .inr ⟨by omega,Z,fun hF=>q3 (S.hF b hF).1,fun j V=>q4 _ V.2⟩
  have b5:aq w' (ak cx bg G2 w') (qt us) res F:=by
   rw[<-b9];have cg:us.length=l'.length:=by rw[hlen,ev]
   match us,l',cg,ad,bT with
   | [],[],_,_,_=>exact aq.av (fun _ _=>False) rfl (fun j x hx=>by simp at hx) (fun _ _ h=>h.elim) (fun _ _ _ _ h=>h.elim)
   | [v],[x],_,ad,_ =>
    have:=(ad 0 x rfl).1;exact this.mono (fun _ h=>h) (fun _ _=>rfl) (fun _ _=>rfl) fun b I=>⟨0,I⟩
   | a::b::r,x::y::l,cg,ad,bT =>
    refine aq.av (fun j b=>Ls j b) (by simpa using cg) (fun j z hz=>(ad j z hz).1) (fun j b I=>⟨j,I⟩) (fun i j b a1 hi V=>bT i j b a1 hi V)
  refine⟨hB.defers,_,cc,_,F,Y,rfl,S.hp.size,b5.mono aK (fun _ _=>rfl) (fun _ _=>rfl) fun _ h=>h,fun i x hx=>?_,fun b I=>?_,fun j b I=>?_,fun i j b a1 hi V=>?_,fun b I hn=>S.hp.same b I fun⟨j,V⟩=>hn j V,S.hp.os,S.hp.tape,S.hp.output⟩
  ·cases x with
   | io x y =>
    obtain⟨g1,g2⟩:=GA et hx;have cq:=(List.getElem?_eq_some_iff.1 hx).1;have hc:=S.hp.ok (tr.length+i);rw[g1,eg _ (by omega) (by omega)] at hc;have hv:cx.gv (tr.length+i)=vs.getD i undef:=by show vs.getD (tr.length+i-tr.length) undef=_;rw[show tr.length+i-tr.length=i by omega]
    rw[hv] at hc;exact(hc.bare g2).mono (Q:=fun _=>True) aK (fun _ _=>rfl) (fun _ _=>rfl) (fun b I=>⟨⟨x,y,hx⟩,I⟩) (bw (fun _=>trivial) _) fun _ _ _ h=>h
   | v x=>exact fun b I=>by obtain⟨⟨x',y',h⟩,_⟩:=I;rw[hx] at h;cases h
   | own x=>exact fun b I=>by obtain⟨⟨x',y',h⟩,_⟩:=I;rw[hx] at h;cases h
  ·have q:=S.hF b I
   obtain⟨Z,W⟩:=S.hp.cY b q.1;exact⟨Z,W.symm,fun j V=>S.hp.cK _ b V.2 q.1⟩
  ·obtain⟨⟨x,y,e0⟩,I⟩:=I
   obtain⟨Z,W⟩:=S.hp.lt _ b I;exact⟨Z,W.symm,(List.getElem?_eq_some_iff.1 e0).1⟩
  ·exact S.hp.cz _ _ (by omega) b hi.2 V.2
 refine calls_of_wp hf I ?_;exact ja dk c code ab hv h0 (fun a w env h1 h2=>fin a w env h1 h2) (fun _ _ _ _ h _=>h.elim) (fun a w env h1 h2=>fin a w env h1 h2)
end Go.D3
