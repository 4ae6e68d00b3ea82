/- REGIONS IN THE ORDER OF THE TEXT. Generic. -/
import Derived.Test.YtaknpcdnmecblaaGreatDoorHD
import Derived.Laws.CopyRow
import Derived.Laws.IdiomCopy
import Derived.Orders
namespace Go.D3
open Go
theorem uR{α:Type}(f:Nat->α)(k:Nat):az f k (f k)=f:=by
 funext j;simp only[az];split<;>simp_all
theorem fu(σ:Nat->Nat):∀l,eS σ l=l.map (D.aD σ)
 | []=>rfl
 | x::r=>by rw[eS,fu σ r,List.map_cons]
theorem AX(σ:Nat->Nat)(l:List D):(eS σ l).length=l.length:=by rw[fu,List.length_map]
theorem AW(σ:Nat->Nat)(l:List D)(n:Nat):(eS σ l).getD n .dead=(l.getD n .dead).aD σ:=by
 rw[fu,List.getD_eq_getElem?_getD,List.getD_eq_getElem?_getD,List.getElem?_map];cases l[n]?<;>rfl
theorem HY(σ:Nat->Nat):∀(l:List D)(i:Nat),nth (eS σ l) i=(nth l i).aD σ
 | [],_=>rfl
 | _::_,0=>rfl
 | _::l,i+1=>HY σ l i
theorem Xw{σ:Nat->Nat}{c y:D}:c.aD σ=.o y↔c=.o y:=by
 cases c<;>simp only[D.aD,reduceCtorEq]
theorem Jf{σ:Nat->Nat}{c:D}:c.aD σ=.dead↔c=.dead:=by
 cases c<;>simp only[D.aD,reduceCtorEq]
theorem rE(σ:Nat->Nat)(c:D):(c.aD σ).isObj=c.isObj:=by cases c<;>rfl
theorem wX(σ:Nat->Nat){c:D}{p:Path}(I:bD c p=true):((c.aD σ).at p).iT=(c.at p).iT:=by
 cases c<;>try(cases I;done)
 case box l =>
  match p,I with
  | [(i,off)],_ =>
   have S:(D.box l).at [(i,off)]=l.getD off .dead:=rfl;have V:((D.box l).aD σ).at [(i,off)]=(l.getD off .dead).aD σ:=AW σ l off;rw[S,V];cases l.getD off .dead<;>rfl
theorem wY(σ:Nat->Nat)(c:D)(p:Path):bD (c.aD σ) p=bD c p:=by
 cases c<;>try rfl
 case box l=>match p with
  | []=>rfl
  | [_]=>rfl
  | _::_::_=>rfl
theorem sk{w:World}(σ:Nat->Nat)(c:D)(v:Value)(p:Path):((c.aD σ).aZ p↔c.aZ p)/\(c.aZ p->aR w v (c.aD σ) p=aR w v c p/\aJ w v (c.aD σ) p=aJ w v c p):=by
 cases c<;>try exact⟨Iff.rfl,fun h=>h.elim⟩
 case o x=>exact⟨Iff.rfl,fun _=>⟨rfl,rfl⟩⟩
 case row z l =>
  refine⟨Iff.rfl,fun h=>?_⟩;simp only[D.aZ] at h;subst h;exact⟨rfl,rfl⟩
 case box l =>
  cases p with
  | nil=>exact⟨Iff.rfl,fun _=>⟨rfl,rfl⟩⟩
  | cons s p =>
   obtain⟨i,off⟩:=s;have hk:D.aY (.box (eS σ l)) 0 off=(l.getD off .dead).aD σ:=AW σ l off;have S:cG w v (.box (eS σ l)) 0 off=cG w v (.box l) 0 off:=rfl;cases p with
   | nil =>
    refine⟨?_,?_⟩
    ·simp only[D.aD,D.aZ,fu,List.length_map]
    ·rintro⟨rfl,Y,hp⟩
     exact⟨by simp only[D.aD,aR,S],rfl⟩
   | cons t p =>
    have I:D.aY (.box l) 0 off=l.getD off .dead:=rfl;refine⟨?_,?_⟩
    ·simp only[D.aD,D.aZ,AW,AX]
     cases l.getD off .dead<;>simp only[D.aD]
    ·rintro⟨rfl,Y,hp⟩
     simp only at hp;split at hp
     ·rename_i y W
      have V:(l.getD off .dead).aD σ=.o y:=Xw.2 W;rw[V] at hk;rw[W] at I;refine⟨?_,?_⟩
      ·simp only[D.aD];rw[aR,aR,S,hk,I]
      ·simp only[D.aD];rw[aJ,aJ,S,hk,I]<;>simp
     ·exact hp.elim
theorem Xu{σ:Nat->Nat}(c:D)(h:c.refs fun _=>False):c.aD σ=c:=by
 have list:∀l:List D,(∀x∈l,x.refs (fun _=>False)->x.aD σ=x)->cu (fun _=>False) l->eS σ l=l:=by
  intro l I V;rw[fu]
  conv=>rhs;rw[<-List.map_id l]
  exact List.map_congr_left fun x S=>I x S (bG.1 V x S)
 induction c using D.ind with
 | sub k p=>exact h.elim
 | aG k p=>exact h.elim
 | pre k p n=>exact h.elim
 | agg l I | av l I | box l I | fn _ l I=>simp only[D.aD];rw[list l I h]
 | row z l _ I=>simp only[D.aD];rw[list l I h]
 | when g x I=>simp only[D.aD];rw[I h]
 | _=>rfl
theorem Xz(σ ρ:Nat->Nat)(c:D):(c.aD σ).aD ρ=c.aD (fun i=>ρ (σ i)):=by
 have list:∀l:List D,(∀x∈l,(x.aD σ).aD ρ=x.aD fun i=>ρ (σ i))->eS ρ (eS σ l)=eS (fun i=>ρ (σ i)) l:=by
  intro l I;rw[fu,fu,fu,List.map_map];exact List.map_congr_left I
 induction c using D.ind with
 | agg l I | av l I | box l I | fn _ l I=>simp only[D.aD];rw[list l I]
 | row z l _ I=>simp only[D.aD];rw[list l I]
 | when g x I=>simp only[D.aD];rw[I]
 | _=>rfl
theorem Xv(c:D):c.aD (fun i=>i)=c:=by
 have list:∀l:List D,(∀x∈l,x.aD (fun i=>i)=x)->eS (fun i=>i) l=l:=by
  intro l I;rw[fu]
  conv=>rhs;rw[<-List.map_id l]
  exact List.map_congr_left I
 induction c using D.ind with
 | agg l I | av l I | box l I | fn _ l I=>simp only[D.aD];rw[list l I]
 | row z l _ I=>simp only[D.aD];rw[list l I]
 | when g x I=>simp only[D.aD];rw[I]
 | _=>rfl
theorem Xy{Q V:D->Prop}{σ:Nat->Nat}{c:D}(h:c.refs Q)(W:∀k p,(Q (.sub k p)->V (.sub (σ k) p))/\(Q (.aG k p)->V (.aG (σ k) p))):(c.aD σ).refs V:=by
 induction c using D.ind with
 | agg l I | av l I | box l I | fn _ l I =>
  simp only[D.aD,D.refs,fu,bG,List.mem_map] at h|-
  rintro _ ⟨y,S,rfl⟩;exact I y S (h y S)
 | row z l _ I =>
  simp only[D.aD,D.refs,fu,bG,List.mem_map] at h|-
  rintro _ ⟨y,S,rfl⟩;exact I y S (h y S)
 | when g x I=>exact I h
 | sub k p=>exact(W k p).1 h
 | aG k p=>exact(W k p).2 h
 | pre k p n=>exact(W k p).1 h
 | _=>trivial
section
variable{w:World}{A:Nat->Prop}{R R':Value->D->Prop}{v:Value}{F:Nat->Prop}{σ:Nat->Nat}
theorem Pl.aD{Q:D->Prop}{c:D}(h:Pl w A R v c):c.refs Q->(∀v d,d.refs Q->R v d->R' v (d.aD σ))->Pl w A R' v (c.aD σ):=by
 induction h with
 | rd h=>exact fun _ _=>by rw[Xu _ (h.zV _)];exact .rd h
 | ref h=>exact fun W V=>.ref (V _ _ W h)
 | agg Y _ Z =>
  refine fun W V=>.agg (by simpa[fu] using Y) fun j x I=>?_
  rw[fu,List.getElem?_map,Option.map_eq_some_iff] at I;obtain⟨y,S,rfl⟩:=I;exact Z j y S (bG.1 W y (List.mem_of_getElem? S)) V
 | av Y _ Z =>
  refine fun W V=>.av (by simpa[fu] using Y) fun j x I=>?_
  rw[fu,List.getElem?_map,Option.map_eq_some_iff] at I;obtain⟨y,S,rfl⟩:=I;exact Z j y S (bG.1 W y (List.mem_of_getElem? S)) V
 | fn Y _ Z =>
  refine fun W V=>.fn (by simpa[fu] using Y) fun j x I=>?_
  rw[fu,List.getElem?_map,Option.map_eq_some_iff] at I;obtain⟨y,S,rfl⟩:=I;exact Z j y S (bG.1 W y (List.mem_of_getElem? S)) V
theorem ca.aD{Q:D->Prop}{c:D}(h:ca w A R v F c)(S:c.refs Q)(I:∀v d,d.refs Q->R v d->R' v (d.aD σ)):ca w A R' v F (c.aD σ):=by
 cases c<;>first | exact Pl.aD h S I | exact h.elim | exact h
theorem Je(σ:Nat->Nat)(x:D):(x.aD σ).cells=x.cells.map (D.aD σ):=by
 cases x<;>first | rfl | simp only[D.aD,D.cells,fu]
theorem Xx{c:D}(h:c.pc=true):(c.aD σ).pc=true:=by
 cases c<;>first | exact h | rfl | (simp[D.pc] at h)
theorem Pb(σ:Nat->Nat)(l:List D)(sz j:Nat):cellAt (l.map (D.aD σ)) sz j=(cellAt l sz j).map (D.aD σ):=by
 unfold cellAt;rw[List.getElem?_map];cases l[j / sz]? with
 | none=>rfl
 | some d=>simp only[Option.map_some,Option.bind_some,Je,List.getElem?_map]
theorem aN.aD{Q:D->Prop}{c:D}(h:aN w A R v F c)(Z:c.refs Q)(Y:∀v d,d.refs Q->R v d->R' v (d.aD σ)):aN w A R' v F (c.aD σ):=by
 cases c
 case o x=>exact h
 case box l =>
  obtain⟨h0,b,cs,e,Fs,h1,h2,h3,W,h5,h6,h7⟩:=h;simp only[D.aD,fu];refine⟨by simpa using h0,b,cs,e,Fs,h1,h2,by simpa using h3,fun j c V=>?_,h5,h6,h7⟩;rw[List.getElem?_map,Option.map_eq_some_iff] at V;obtain⟨y,I,rfl⟩:=V;exact(W j y I).aD (bG.1 Z y (List.mem_of_getElem? I)) Y
 case row z l =>
  obtain⟨b,sz,cs,e,h1,h2,h3,ab,S,ad,ag,W,h5⟩:=h;simp only[D.aD,fu];refine⟨b,sz,cs,e,by simpa using h1,h2,by simpa using h3,by simpa using ab,S,ad,fun x hx=>?_,fun j c V=>?_,h5⟩
  ·obtain⟨y,I,rfl⟩:=List.mem_map.1 hx
   rw[Je,List.length_map];exact ag y I
  ·rw[Pb,Option.map_eq_some_iff] at V
   obtain⟨y,I,rfl⟩:=V;have ao:cu Q l:=Z;exact⟨(W j y I).1.aD (I9 (fun x hx=>bG.1 ao x hx) I) Y,Xx (W j y I).2⟩
 case when g x=>exact⟨fun hg=>(h.1 hg).aD Z Y,h.2⟩
 all_goals exact Pl.aD h Z Y
theorem ai.aD{ct Y:Nat->D}{vl ab:Nat->Value}{d:D}(h:ai w ct vl v d)(I:∀k,ct k≠.dead->Y (σ k)=(ct k).aD σ)(W:∀k,ct k≠.dead->ab (σ k)=vl k):ai w Y ab v (d.aD σ):=by
 have nd:∀{k:Nat}{p:Path},(ct k).aZ p->ct k≠.dead:=fun h hh=>by rw[hh] at h;exact h
 cases d<;>try exact h.elim
 case sub k p =>
  obtain⟨⟨h1,V⟩,Z,h3⟩:=h;have hk:=sk (w:=w) σ (ct k) (vl k) p;refine⟨⟨?_,fun S=>?_⟩,?_,h3⟩
  ·rw[I k (nd h1)];exact hk.1.2 h1
  ·rw[I k (nd h1)] at S|-
   rw[wY] at S;rw[wX σ S];exact V S
  ·rw[I k (nd h1),W k (nd h1),(hk.2 h1).1];exact Z
 case pre k p n =>
  obtain⟨q,m,c,⟨⟨h1,V⟩,Z⟩,h3,h4⟩:=h;have hk:=sk (w:=w) σ (ct k) (vl k) p;refine⟨q,m,c,⟨⟨?_,fun S=>?_⟩,?_⟩,h3,h4⟩
  ·rw[I k (nd h1)];exact hk.1.2 h1
  ·rw[I k (nd h1)] at S|-
   rw[wY] at S;rw[wX σ S];exact V S
  ·rw[I k (nd h1),W k (nd h1),(hk.2 h1).1];exact Z
 case aG k p =>
  obtain⟨h1,a,Z,h3⟩:=h;have hk:=sk (w:=w) σ (ct k) (vl k) p;refine⟨?_,a,?_,h3⟩
  ·rw[I k (nd h1)];exact hk.1.2 h1
  ·rw[I k (nd h1),W k (nd h1),(hk.2 h1).2];exact Z
theorem ai.qL{ct Z:Nat->D}{vl ab:Nat->Value}{d:D}(h:ai w Z ab v (d.aD σ))(W:∀k,Z (σ k)=(ct k).aD σ)(Y:∀k,ct k≠.dead->ab (σ k)=vl k):ai w ct vl v d:=by
 cases d<;>try exact h.elim
 case sub k p =>
  obtain⟨⟨h1,S⟩,V,h3⟩:=h;have hk:=sk (w:=w) σ (ct k) (vl k) p;rw[W k] at h1 S V;have I:=hk.1.1 h1;have nd:ct k≠.dead:=fun hh=>by rw[hh] at I;exact I
  refine⟨⟨I,fun hl=>?_⟩,?_,h3⟩
  ·rw[<-wX σ hl];exact S (by rw[wY];exact hl)
  ·rw[<-(hk.2 I).1,<-Y k nd];exact V
 case pre k p n =>
  obtain⟨q,m,c,⟨⟨h1,S⟩,V⟩,h3,h4⟩:=h;have hk:=sk (w:=w) σ (ct k) (vl k) p;rw[W k] at h1 S V;have I:=hk.1.1 h1;have nd:ct k≠.dead:=fun hh=>by rw[hh] at I;exact I
  refine⟨q,m,c,⟨⟨I,fun hl=>?_⟩,?_⟩,h3,h4⟩
  ·rw[<-wX σ hl];exact S (by rw[wY];exact hl)
  ·rw[<-(hk.2 I).1,<-Y k nd];exact V
 case aG k p =>
  obtain⟨h1,a,V,h3⟩:=h;have hk:=sk (w:=w) σ (ct k) (vl k) p;rw[W k] at h1 V;have I:=hk.1.1 h1;have nd:ct k≠.dead:=fun hh=>by rw[hh] at I;exact I
  refine⟨I,a,?_,h3⟩;rw[<-(hk.2 I).2,<-Y k nd];exact V
def wM(σ:Nat->Nat):D->Prop
 | .sub k _=>∃i,k=σ i
 | .aG k _=>∃i,k=σ i
 | _=>True
theorem Jg(c:D):(c.aD σ).refs (wM σ) :=
 Xy (Q:=fun _=>True) (bw (fun _=>trivial) c) fun _ _=>⟨fun _=>⟨_,rfl⟩,fun _=>⟨_,rfl⟩⟩
theorem F8(I:∀i j,σ i=σ j->i=j):∃ρ:Nat->Nat,∀i,ρ (σ i)=i:=by
 classical
 refine⟨fun k=>if h:∃i,σ i=k then Classical.choose h else 0,fun i=>?_⟩;have h:∃j,σ j=σ i:=⟨i,rfl⟩;simp only[dif_pos h];exact I _ _ (Classical.choose_spec h)
theorem Nb(_:∀i j,σ i=σ j->i=j){ρ:Nat->Nat}(Z:∀i,ρ (σ i)=i){ct I:Nat->D}{vl S:Nat->Value}(V:∀k,I (σ k)=(ct k).aD σ)(Y:∀k,ct k≠.dead->S (σ k)=vl k) :
  ∀v d,d.refs (wM σ)->ai w I S v d->ai w ct vl v (d.aD ρ):=by
 intro v d W hr
 have e:(d.aD ρ).aD σ=d:=by
  cases d<;>try exact hr.elim
  case sub k p=>obtain⟨i,rfl⟩:=W;simp only[D.aD,Z]
  case aG k p=>obtain⟨i,rfl⟩:=W;simp only[D.aD,Z]
  case pre k p n=>obtain⟨i,rfl⟩:=W;simp only[D.aD,Z]
 exact ai.qL (σ:=σ) (by rw[e];exact hr) V Y
theorem Jd{ρ:Nat->Nat}(I:∀i,ρ (σ i)=i)(c:D):(c.aD σ).aD ρ=c:=by
 rw[Xz,show(fun i=>ρ (σ i))=fun i=>i from funext I,Xv]
theorem aN.qL(Z:∀i j,σ i=σ j->i=j){ct I:Nat->D}{vl S:Nat->Value}{c:D}(h:aN w A (ai w I S) v F (c.aD σ))(V:∀k,I (σ k)=(ct k).aD σ)(W:∀k,ct k≠.dead->S (σ k)=vl k) :
  aN w A (ai w ct vl) v F c:=by
 obtain⟨ρ,Y⟩:=F8 Z;have:=h.aD (Q:=wM σ) (σ:=ρ) (R':=ai w ct vl) (Jg c) (Nb Z Y V W)
 rwa [Jd Y] at this
theorem Pl.qL(Z:∀i j,σ i=σ j->i=j){ct I:Nat->D}{vl S:Nat->Value}{c:D}(h:Pl w A (ai w I S) v (c.aD σ))(V:∀k,I (σ k)=(ct k).aD σ)(W:∀k,ct k≠.dead->S (σ k)=vl k) :
  Pl w A (ai w ct vl) v c:=by
 obtain⟨ρ,Y⟩:=F8 Z;have:=h.aD (Q:=wM σ) (σ:=ρ) (R':=ai w ct vl) (Jg c) (Nb Z Y V W)
 rwa [Jd Y] at this
theorem nD:∀{l:List D},ml l=true->∀x∈l,x.tight=true
 | [],_,x,I=>by cases I
 | y::r,h,x,I=>by
  simp only[ml,Bool.and_eq_true] at h;rcases List.mem_cons.1 I with rfl | I
  ·exact h.1
  ·exact nD h.2 x I
theorem aaZ{A':Nat->Prop}{d:D}(h:Rd w A v d):d.tight=true->Rd w A' v d:=by
 induction h with
 | int h=>exact fun _=>.int h
 | bool=>exact fun _=>.bool
 | str h=>exact fun _=>.str h
 | bd=>exact fun _=>.bd
 | aH=>exact fun _=>.aH
 | dead=>exact fun _=>.dead
 | agg V _ W=>exact fun S=>.agg V fun j x I=>W j x I (nD S x (List.mem_of_getElem? I))
 | av V _ W=>exact fun S=>.av V fun j x I=>W j x I (nD S x (List.mem_of_getElem? I))
 | fn V _ W=>exact fun S=>.fn V fun j x I=>W j x I (nD S x (List.mem_of_getElem? I))
 | _=>exact fun S=>by simp[D.tight] at S
theorem BV{A':Nat->Prop}{d:D}(h:Pl w A R v d):d.tight=true->Pl w A' R v d:=by
 induction h with
 | rd h=>exact fun S=>.rd (aaZ h S)
 | ref h=>exact fun _=>.ref h
 | agg V _ W=>exact fun S=>.agg V fun j x I=>W j x I (nD S x (List.mem_of_getElem? I))
 | av V _ W=>exact fun S=>.av V fun j x I=>W j x I (nD S x (List.mem_of_getElem? I))
 | fn V _ W=>exact fun S=>.fn V fun j x I=>W j x I (nD S x (List.mem_of_getElem? I))
theorem aaV{A':Nat->Prop}{d:D}(h:ca w A R v F d)(I:d.pb=true):ca w A' R v F d:=by
 cases d
 case o x=>exact wE h I
 all_goals first | exact h.elim | exact BV h I
theorem M4:∀{l:List D},sA l=true->∀x∈l,x.pb=true
 | [],_,x,I=>by cases I
 | y::r,h,x,I=>by
  simp only[sA,Bool.and_eq_true] at h;rcases List.mem_cons.1 I with rfl | I
  ·exact h.1
  ·exact M4 h.2 x I
theorem aaX{d:D}(h:d.tight=true)(S:∀x∈d.cells,x.tight=true->True):∀x∈d.cells,x.tight=true:=by
 intro x I;cases d<;>simp only[D.cells,List.mem_singleton] at I<;>first | (subst I;exact h) | exact nD h x I
theorem aaW{l:List D}{sz j:Nat}{c:D}(h:ml l=true)(I:cellAt l sz j=some c):c.tight=true:=by
 unfold cellAt at I;cases hL:l[j / sz]? with
 | none=>simp[hL] at I
 | some d =>
  rw[hL,Option.bind_some] at I;exact aaX (nD h d (List.mem_of_getElem? hL)) (fun _ _ _=>trivial) c (List.mem_of_getElem? I)
theorem aaY{A':Nat->Prop}{d:D}(h:aN w A R v F d)(V:d.iF=true):aN w A' R v F d:=by
 cases d
 case o x=>exact wE h V
 case box l =>
  obtain⟨h0,b,cs,e,Fs,h1,Y,Z,W,h5,h6,h7⟩:=h;exact⟨h0,b,cs,e,Fs,h1,Y,Z,fun j c I=>aaV (W j c I) (M4 V c (List.mem_of_getElem? I)),h5,h6,h7⟩
 case row z l =>
  obtain⟨b,sz,cs,e,h1,Y,Z,ab,S,ad,ag,W,h5⟩:=h;exact⟨b,sz,cs,e,h1,Y,Z,ab,S,ad,ag,fun j c I=>⟨BV (W j c I).1 (aaW V I),(W j c I).2⟩,h5⟩
 case when g x=>cases V
 all_goals exact BV h V
theorem M5:∀{l:List D},lv l=true->∀k,(nth l k).iF=true
 | [],_,k=>rfl
 | y::r,h,k=>by
  simp only[lv,Bool.and_eq_true] at h;cases k with
  | zero=>exact h.1
  | succ k=>exact M5 h.2 k
end
theorem VS{σ:Nat->Nat}{c:D}(h:c.cL=true):(c.aD σ).cL=true:=by
 cases c<;>first | exact h | rfl | cases h
theorem qc{w:World}{A:Nat->Prop}{R:Value->D->Prop}{v:Value}{F:Nat->Prop}{c:D}(h:c.cL=true):aN w A R v F c↔Pl w A R v c:=by
 cases c<;>first | exact Iff.rfl | cases h
theorem VR{c:D}(h:c.cL=true):c.isObj=false:=by cases c<;>first | rfl | cases h
end Go.D3
namespace Go.D3
open Go
section
variable{P:Program}{cx:Ctx}{vl:Nat->Value}{fp:Nat->Nat->Prop}{G:Nat->Prop}{w:World}
theorem Hp.aaQ[Mode]{ct Z:Nat->D}{W:Nat->Nat->Prop}{F:Nat->Prop}{w':World}(h:Hp cx ct vl fp G w)(S:Nat->Prop)(Q:D->Prop)
  (b2:∀k,S k->aN w' (ak cx W F w') (ai w' Z vl) (vl k) (W k) (Z k)) (ad:∀k,¬S k->Z k=ct k) (Y:∀k,¬S k->W k=fp k)
  (ab:∀k,S k->∀b,W k b->b<w'.heap.size/\(w.heap.size<=b\/∃j,S j/\fp j b)) (hF:∀b,F b->b<w'.heap.size/\(w.heap.size<=b\/∃j,S j/\fp j b))
  (b1:∀k,S k->∀b,W k b->¬F b) (bg:∀i j b,S i->S j->i≠j->W i b->¬W j b) (bF:∀k,S k->(Z k).isObj=false->∀b,¬W k b)
  (hrefs:∀k,¬S k->(ct k).refs Q) (ax:∀d,Q d->cX w w' ct Z vl vl d)
  (b4:w.heap.size<=w'.heap.size) (hw:∀b,b<w.heap.size->(∀j,S j->¬fp j b)->w'.heap[b]?=w.heap[b]?) (b3:w'.os=w.os) (a6:w'.tape=w.tape) (a1:c6 w w') :
  Hp cx Z vl W F w':=by
 have ag:∀b,(w.heap.size<=b\/∃j,S j/\fp j b)->(cx.F0 b\/cx.w0.heap.size<=b):=fun b I=>I.elim (fun hh=>.inr (by have:=h.size;omega)) fun⟨j,_,hh⟩=>(h.lt j b hh).2
 have a7:∀{b:Nat}{j:Nat},(w.heap.size<=b\/∃i,S i/\fp i b)->¬S j->¬fp j b:=fun {b j} I hj hf=>I.elim (fun hh=>by have:=(h.lt j b hf).1;omega) fun⟨i,hi,ao⟩=>h.cz i j (by rintro rfl;exact hj hi) b ao hf
 have b0:∀{b:Nat},(w.heap.size<=b\/∃i,S i/\fp i b)->¬ak cx fp G w b:=fun {b} I V=>I.elim (fun hh=>by have:=V.1.1;omega) fun⟨i,_,ao⟩=>V.2.2 i ao
 have aK:∀b,ak cx fp G w b->ak cx W F w' b:=by
  intro b I;refine⟨⟨by have:=I.1.1;omega,I.1.2⟩,fun hf=>b0 (hF b hf).2 I,fun k hk=>?_⟩;by_cases V:S k
  ·exact b0 (ab k V b hk).2 I
  ·rw[Y k V] at hk;exact I.2.2 k hk
 refine⟨fun k=>?_,fun i j bT b hi hj=>?_,fun k b hk hf=>?_,fun k hk b I=>?_,fun k b hk=>?_,fun b I=>⟨(hF b I).1,ag b (hF b I).2⟩,Nat.le_trans h.size b4,fun b I a8=>?_,b3.trans h.os,a6.trans h.tape,a1.trans h.output⟩
 ·by_cases V:S k
  ·exact b2 k V
  ·rw[ad k V,Y k V]
   refine(h.ok k).mono (Q:=Q) aK (fun b I=>hw b I.1.1 fun j _=>I.2.2 j) (fun b I=>hw b (h.lt k b I).1 fun j hj hf=>h.cz k j (by rintro rfl;exact V hj) b I hf) (fun _ h=>h) (hrefs k V) fun v d hq hr=>hr.bZ (de ax hq)
 ·by_cases hsi:S i<;>by_cases hsj:S j
  ·exact bg i j b hsi hsj bT hi hj
  ·rw[Y j hsj] at hj;exact a7 (ab i hsi b hi).2 hsj hj
  ·rw[Y i hsi] at hi;exact a7 (ab j hsj b hj).2 hsi hi
  ·rw[Y i hsi] at hi;rw[Y j hsj] at hj;exact h.cz i j bT b hi hj
 ·by_cases V:S k
  ·exact b1 k V b hk hf
  ·rw[Y k V] at hk;exact a7 (hF b hf).2 V hk
 ·by_cases V:S k
  ·exact bF k V hk b I
  ·rw[Y k V] at I;rw[ad k V] at hk;exact h.emp k hk b I
 ·by_cases V:S k
  ·exact⟨(ab k V b hk).1,ag b (ab k V b hk).2⟩
  ·rw[Y k V] at hk;exact⟨by have:=(h.lt k b hk).1;omega,(h.lt k b hk).2⟩
 ·rw[hw b (by have:=h.size;omega) fun j _ hf=>(h.lt j b hf).2.elim a8 fun hh=>by omega]
  exact h.same b I a8
theorem uF{n:Nat}{I:List Nat}{i:Nat}(h:i<I.length):sg n I i=I[i]:=by simp[sg,h]
theorem uG{n:Nat}{I:List Nat}{i:Nat}(h:I.length<=i):sg n I i=1000+n+i:=by simp[sg,h]
theorem Z4{n:Nat}{S:List Nat}(W:S.Nodup)(V:S.all (fun j=>decide (j<1000+n))=true)(i j:Nat)(h:sg n S i=sg n S j):i=j:=by
 simp only[List.all_eq_true,decide_eq_true_eq] at V;by_cases hi:i<S.length<;>by_cases hj:j<S.length
 ·rw[uF hi,uF hj] at h
  have hp:=List.pairwise_iff_getElem.1 W;rcases Nat.lt_trichotomy i j with I | I | I
  ·exact absurd h (hp i j hi hj I)
  ·exact I
  ·exact absurd h.symm (hp j i hj hi I)
 ·rw[uF hi,uG (by omega)] at h
  have:=V S[i] (List.getElem_mem hi);omega
 ·rw[uG (by omega),uF hj] at h
  have:=V S[j] (List.getElem_mem hj);omega
 ·rw[uG (by omega),uG (by omega)] at h;omega
theorem Hi{st:St}{σ:Nat->Nat}:∀{I:List Nat}{gs:List D},kN st σ I gs->I.length=gs.length/\∀(i:Nat)(h:i<I.length),st.cont I[i]=(nth gs i).aD σ
 | [],[],_=>⟨rfl,fun i h=>by simp at h⟩
 | [],_::_,h=>h.elim
 | _::_,[],h=>h.elim
 | j::I,g::gs,⟨h1,S⟩=>by
  obtain⟨V,W⟩:=Hi S;refine⟨by simp[V],fun i hi=>?_⟩;cases i with
  | zero=>exact h1
  | succ i=>exact W i (by simpa using hi)
theorem HN:∀{gs I:List D},kQ gs I->gs.length=I.length/\∀i,nth gs i=.dead->nth I i=.dead
 | [],[],_=>⟨rfl,fun _ _=>rfl⟩
 | [],_::_,h=>h.elim
 | _::_,[],h=>h.elim
 | g::gs,h::I,⟨h1,S⟩=>by
  obtain⟨V,W⟩:=HN S;refine⟨by simp[V],fun i hi=>?_⟩;cases i with
  | zero=>exact h1 hi
  | succ i=>exact W i hi
theorem IW(σ:Nat->Nat):∀(S:List Nat)(I:List D)(st:St),(gB σ st S I).n=st.n
 | [],_,_=>rfl
 | _::_,[],_=>rfl
 | j::S,h::I,st=>by rw[gB,IW σ S I,St.fW]
theorem IX(σ:Nat->Nat):∀(S:List Nat)(I:List D){st:St},st.wf->(gB σ st S I).wf
 | [],_,_,h=>h
 | _::_,[],_,h=>h
 | _::S,_::I,_,h=>IX σ S I (St.fb h _ _)
theorem St.QI{st:St}{k j:Nat}{c:D}:(st.put k c).in j↔st.in j:=by
 unfold St.put;split
 ·simp only[St.in,By]
 ·split<;>simp only[St.in]
theorem IV(σ:Nat->Nat):∀(S:List Nat)(V:List D){st:St},st.wf->S.Nodup->S.length=V.length->(∀(i:Nat)(h:i<S.length),¬st.in S[i]->nth V i=.dead) ->
  (∀k,k ∉ S->(gB σ st S V).cont k=st.cont k)/\∀(i:Nat)(h:i<S.length),(gB σ st S V).cont S[i]=(nth V i).aD σ
 | [],_,st,_,_,_,_=>⟨fun _ _=>rfl,fun i h=>by simp at h⟩
 | _::_,[],st,_,_,h,_=>by simp at h
 | j::S,h::V,st,hw,hn,hl,hd=>by
  have W:=List.nodup_cons.1 hn;obtain⟨h1,Y⟩:=IV σ S V (st:=st.put j (h.aD σ)) (St.fb hw _ _) W.2 (by simpa using hl) (fun i hi I=>hd (i+1) (by simpa using hi) (by rw[St.QI] at I;simpa using I))
  have Z:(st.put j (h.aD σ)).cont j=h.aD σ:=by
   by_cases I:st.in j
   ·rw[St.dR hw I,bc]
   ·have:h=.dead:=hd 0 (by simp) (by simpa using I)
    rw[St.re I,St.cJ I,this];rfl
  have ho:∀k,k≠j->(st.put j (h.aD σ)).cont k=st.cont k:=fun k hk=>by
   by_cases I:st.in j
   ·rw[St.dR hw I,aI _ _ hk]
   ·rw[St.re I]
  refine⟨fun k hk=>?_,fun i hi=>?_⟩
  ·simp only[List.mem_cons,not_or] at hk
   show(gB σ (st.put j (h.aD σ)) S V).cont k=_;rw[h1 k hk.2,ho k hk.1]
  ·cases i with
   | zero =>
    show(gB σ (st.put j (h.aD σ)) S V).cont j=_;rw[h1 j W.1,Z];rfl
   | succ i=>exact Y i (by simpa using hi)
theorem IY:∀{I:List Nat}{gs S:List D}{d:D},qG I gs S d=false->I.length=gs.length->I.length=S.length->∀(i:Nat)(h:i<I.length),qm I[i] (nth gs i) (nth S i) d=false
 | [],_,_,_,_,_,_,i,h=>by simp at h
 | j::I,g::gs,h::S,d,V,h1,W,i,hi=>by
  simp only[qG,Bool.or_eq_false_iff] at V;cases i with
  | zero=>exact V.1
  | succ i=>exact IY V.2 (by simpa using h1) (by simpa using W) i (by simpa using hi)
 | _::_,[],_,_,_,h,_,_,_=>by simp at h
 | _::_,_::_,[],_,_,_,h,_,_=>by simp at h
theorem EI{st:St}{σ:Nat->Nat}{I:List Nat}{S:Bool}:∀{ds as:List D},kq st σ I S ds as->ds.length=as.length /\
  ∀(i:Nat)(a:D),as[i]?=some a->∃d,ds[i]?=some d/\(d=a.aD σ\/(S=true/\ba (fun k=>if I.contains k=true then .dead else st.cont k) 4 d=some a))
 | [],[],_=>⟨rfl,fun i a h=>by simp at h⟩
 | [],_::_,h=>h.elim
 | _::_,[],h=>h.elim
 | d::ds,a::as,⟨h1,V⟩=>by
  obtain⟨W,Y⟩:=EI V;refine⟨by simp[W],fun i a hi=>?_⟩;cases i with
  | zero=>simp at hi;subst hi;exact⟨d,rfl,h1⟩
  | succ i=>exact Y i a (by simpa using hi)
theorem Qj[Mode]{st:St}(h:Hp cx st.cont vl fp G w)(hJ:st.wf){vs:Array Value}{ds:List D}(hI:vs.size=ds.length)(ef:∀(j:Nat)(d:D),ds[j]?=some d->Pl w (ak cx fp G w) (ai w st.cont vl) (vs.getD j undef) d)
  {f:FuncId} {K:D->St->Prop} (hv:Gn P f ds st K) :
  fB P f=true/\Calls P f vs w fun e w'=>∃(v:Value)(c:D)(st':St),e=.returned v/\K c st'/\(∃Y F,Hp cx st'.cont vl Y F w'/\aN w' (ak cx Y F w') (ai w' st'.cont vl) v F c/\(c.isObj=false->∀b,¬F b))/\st'.wf/\st'.n=st.n/\∀i,i<1000->st.cont i=.dead->st'.cont i=.dead:=by
 obtain⟨V,tg,as,gs,Q,⟨cq,hR⟩,⟨et,eb⟩,b0,b5,a1⟩:=hv;refine⟨cq,?_⟩;generalize hσ:sg st.n V=σ at b0 b5 a1;have bT:∀i j,σ i=σ j->i=j:=by rw[<-hσ];exact Z4 et eb
 obtain⟨ha,b4⟩:=Hi b0;obtain⟨fj,ea⟩:=EI b5;have σin:∀(i:Nat)(hi:i<V.length),σ i=V[i]:=fun i hi=>by rw[<-hσ,uF hi]
 have σout:∀i,V.length<=i->σ i=1000+st.n+i:=fun i hi=>by rw[<-hσ,uG hi]
 have σdead:∀i,V.length<=i->st.cont (σ i)=.dead:=fun i hi=>by
  rw[σout i hi];exact St.cJ (by simp only[St.in,not_or,not_and];omega)
 have b3:∀i,st.cont (σ i)=(nth gs i).aD σ:=fun i=>by
  by_cases hi:i<V.length
  ·rw[σin i hi];exact b4 i hi
  ·rw[σdead i (by omega),kR gs i (by omega)];rfl
 have ad:∀i,V.length<=i->∀b,¬fp (σ i) b:=fun i hi=>h.emp _ (by rw[σdead i hi];rfl)
 obtain⟨B,dm,e6,e7,e9,cm⟩:∃B:Nat->Prop,(∀b,ak cx fp G w b->B b)/\(∀b,B b->b<w.heap.size)/\(∀k b,fp (σ k) b->¬B b) /\
   (∀(j:Nat)(a:D),as[j]?=some a->Pl w B (ai w (nth gs) fun i=>vl (σ i)) (vs.getD j undef) a)/\(tg=true\/∀b,B b->ak cx fp G w b):=by
  have cj:∀{j:Nat}{a d:D},ds[j]?=some d->d=a.aD σ->Pl w (ak cx fp G w) (ai w (nth gs) fun i=>vl (σ i)) (vs.getD j undef) a:=fun {j a d} hd he=>by
   have:=ef j d hd;rw[he] at this;exact this.qL bT b3 fun _ _=>rfl
  cases tg with
  | false =>
   refine⟨ak cx fp G w,fun _ h=>h,fun b I=>I.1.1,fun k b hk I=>I.2.2 _ hk,fun j a Z=>?_,.inr fun _ h=>h⟩;obtain⟨d,hd,he | ⟨he,_⟩⟩:=ea j a Z
   ·exact cj hd he
   ·cases he
  | true =>
   have cy:∀b,ak cx fp G w b->b<w.heap.size/\∀i,¬fp (σ i) b:=fun b I=>⟨I.1.1,fun i=>I.2.2 _⟩
   refine⟨fun b=>b<w.heap.size/\∀i,¬fp (σ i) b,cy,fun b I=>I.1,fun k b hk I=>I.2 k hk,fun j a Z=>?_,.inl rfl⟩;obtain⟨d,hd,he | ⟨_,he⟩⟩:=ea j a Z
   ·exact(cj hd he).mono (Q:=fun _=>True) cy (fun _ _=>rfl) (bw (fun _=>trivial) _) fun _ _ _ h=>h
   ·have eB:∀k,((fun k=>if V.contains k=true then D.dead else st.cont k) k).isObj=true->k ∉ V/\(fun k=>if V.contains k=true then D.dead else st.cont k) k=st.cont k:=by
     intro k hk;by_cases hc:V.contains k=true
     ·simp only[hc,if_true] at hk;cases hk
     ·exact⟨fun hm=>hc (List.contains_iff_mem.2 hm),if_neg hc⟩
    refine .rd (nY (ct:=st.cont) (vl:=vl) (A:=ak cx fp G w) cy (fun k _ hk=>(eB k hk).2) (fun k _ hk=>⟨fp k,fun b I=>⟨(h.lt k b I).1,fun i hi=>?_⟩,h.ok k⟩) 4 (ef j d hd) he);have hc:=(eB k hk).1;by_cases hil:i<V.length
    ·refine h.cz k (σ i) ?_ b I hi
     rintro rfl;exact hc (by rw[σin i hil];exact List.getElem_mem hil)
    ·exact ad i (by omega) b hi
 refine(hR w B vs (fun i=>vl (σ i)) (fun i=>fp (σ i)) (h.gl.mono dm fun _ _=>rfl) e6 (by rw[hI,fj]) e9 (fun k=>?_) (fun k hk=>h.emp _ (by rw[b3 k,rE];exact hk)) (fun i j b a7 hi Z=>h.cz _ _ (fun he=>a7 (bT _ _ he)) b hi Z)
  (fun k b hk=>⟨(h.lt _ b hk).1,e7 k b hk⟩)).mono ?_
 ·have:=(h.ok (σ k))
  rw[b3 k] at this;exact(this.qL bT b3 fun _ _=>rfl).mono (Q:=fun _=>True) dm (fun _ _=>rfl) (fun _ _=>rfl) (fun _ h=>h) (bw (fun _=>trivial) _) fun _ _ _ h=>h
 rintro e w' ⟨rc,W,v,F,dk,a8,hQ,rfl,hD,hC,eT,gn,b9,gF,hF,cp,dn,ao,hz,cI,eF⟩;obtain⟨ev,a6,hK⟩:=a1 rc W hQ;obtain⟨hM,cr⟩:=HN ev;refine⟨v,_,_,rfl,hK,?_⟩;generalize hq:qG V gs W=q at hK;have h1:=h.kill q;rw[<-St.cW] at h1;have e3:=St.gG hJ q
 obtain⟨b2,ag⟩:=IV σ V W e3 et (by omega) (fun i hi gT=>by
  have:¬st.in V[i]:=by simpa[St.in,St.kill,mX] using gT
  refine cr i ?_;have h0:=b4 i hi;rw[St.cJ this] at h0
  exact Jf.1 h0.symm)
 generalize cg:gB σ (st.kill q) V W=st2 at b2 ag hK;have e0:st2.wf:=by rw[<-cg];exact IX σ V W e3
 have hy:st2.n=st.n:=by rw[<-cg,IW];rfl
 have ec:∀k,nth W k≠.dead->st2.cont (σ k)=(nth W k).aD σ:=fun k hk=>by
  have ej:k<V.length:=Classical.byContradiction fun hh=>hk (kR W k (by omega))
  rw[σin k ej];exact ag k ej
 have eg:∀k,nth W k≠.dead->dk k=vl (σ k):=fun k hk=>gF k fun hh=>hk (cr k hh)
 have hL:∀i,V.length<=i->∀b,¬a8 i b:=fun i hi=>b9 i (by rw[kR W i (by omega)];rfl)
 let S:Nat->Prop:=fun k=>k∈V
 let Y:Nat->Nat->Prop:=fun k b=>(∃i,i<V.length/\σ i=k/\a8 i b)\/(k ∉ V/\fp k b)
 have bg:∀i,i<V.length->σ i∈V:=fun i hi=>by rw[σin i hi];exact List.getElem_mem hi
 have ab:∀k,S k->∀b,Y k b->∃i,i<V.length/\σ i=k/\a8 i b:=fun k hk b I=>I.elim id fun hh=>absurd hk hh.1
 have gg:∀k,¬S k->Y k=fp k:=fun k hk=>by
  funext b;refine propext ⟨fun I=>I.elim (fun⟨i,hi,he,_⟩=>absurd (he▸bg i hi) hk) fun hh=>hh.2,fun I=>.inr ⟨hk,I⟩⟩
 have b1:∀b,(w.heap.size<=b\/∃j,fp (σ j) b)->(w.heap.size<=b\/∃j,S j/\fp j b):=fun b I=>I.imp id fun⟨j,Z⟩=>by
  by_cases hjl:j<V.length
  ·exact⟨σ j,bg j hjl,Z⟩
  ·exact absurd Z (ad j (by omega) b)
 have cv:∀b,(ak cx fp G w b\/(w.heap.size<=b/\b<w'.heap.size/\¬F b/\∀j,¬a8 j b))->ak cx Y F w' b:=by
  rintro b (I | ⟨q1,q2,q3,q4⟩)
  ·refine⟨⟨by have:=I.1.1;omega,I.1.2⟩,fun hf=>?_,fun k hk=>?_⟩
   ·exact(hF b hf).2.1.elim (fun hh=>by have:=I.1.1;omega) fun⟨j,Z⟩=>I.2.2 _ Z
   ·rcases hk with⟨i,_,_,hi⟩ | ⟨_,hk⟩
    ·exact(cp i b hi).2.elim (fun hh=>by have:=I.1.1;omega) fun⟨j,Z⟩=>I.2.2 _ Z
    ·exact I.2.2 k hk
  ·refine⟨⟨q2,fun hh=>by have:=h.size;omega⟩,q3,fun k hk=>?_⟩
   rcases hk with⟨i,_,_,hi⟩ | ⟨_,hk⟩
   ·exact q4 i hi
   ·have:=(h.lt k b hk).1;omega
 have hA:∀{c:D}{v:Value}{F0:Nat->Prop}{R:Value->D->Prop},(tg=true->c.iF=true)->aN w' (fun b=>B b\/(w.heap.size<=b/\b<w'.heap.size/\¬F b/\∀j,¬a8 j b)) R v F0 c->aN w' (ak cx Y F w') R v F0 c:=by
  intro c v F0 R ht hc;rcases cm with hE | cm
  ·exact aaY hc (ht hE)
  ·exact hc.mono (Q:=fun _=>True) (fun b I=>cv b (I.imp (cm b) id)) (fun _ _=>rfl) (fun _ _=>rfl) (fun _ h=>h) (bw (fun _=>trivial) _) fun _ _ _ h=>h
 have cd:∀{c:D}{v:Value}{F0:Nat->Prop},aN w' (ak cx Y F w') (ai w' (nth W) dk) v F0 c->aN w' (ak cx Y F w') (ai w' st2.cont vl) v F0 (c.aD σ):=fun hc =>
  hc.aD (Q:=fun _=>True) (bw (fun _=>trivial) _) fun v d _ hr=>hr.aD ec fun k hk=>(eg k hk).symm
 have h2:Hp cx st2.cont vl Y F w':=by
  refine h1.aaQ S (fun d=>q d=false) (fun k hk=>?_) (fun k hk=>b2 k hk) gg (fun k hk b I=>?_) (fun b I=>⟨(hF b I).1,b1 b (hF b I).2.1⟩) (fun k hk b I hf=>?_) (fun i j b hi Z a7 fs ft=>?_) (fun k hk cc b I=>?_)
   (fun k _=>by rw[St.cW];exact jk q _) (fun d hd=>?_) hD (fun b I hn=>ao b I fun j Z=>?_) hz cI eF
  ·obtain⟨i,hi,rfl⟩:=List.getElem_of_mem (show k∈V from hk)
   rw[ag i hi];by_cases hdd:nth W i=.dead
   ·rw[hdd];exact Pl.dead
   ·have:=cd (hA (fun ht=>M5 (a6 ht).2 i) (gn i))
    rw[eg i hdd,σin i hi] at this;exact this.mono (Q:=fun _=>True) (fun _ h=>h) (fun _ _=>rfl) (fun _ _=>rfl) (fun b I=>.inl ⟨i,hi,σin i hi,I⟩) (bw (fun _=>trivial) _) fun _ _ _ h=>h
  ·obtain⟨i,_,_,hi⟩:=ab k hk b I
   exact⟨(cp i b hi).1,b1 b (cp i b hi).2⟩
  ·obtain⟨i,_,_,hi⟩:=ab k hk b I
   exact(hF b hf).2.2 i hi
  ·obtain⟨i',_,e1,e4⟩:=ab i hi b fs
   obtain⟨j',_,e2,e5⟩:=ab j Z b ft;exact dn i' j' b (by rintro rfl;exact a7 (e1.symm.trans e2)) e4 e5
  ·obtain⟨i,hi,rfl,fl⟩:=ab k hk b I
   rw[σin i hi,ag i hi,rE] at cc;exact b9 i cc b fl
  ·rw[<-hq] at hd
   have hx:V.length=W.length:=by omega
   have eP:=fun i hi=>IY hd ha hx i hi
   have bF:∀(i:Nat)(hi:i<V.length),(st.kill q).cont V[i]=((nth gs i).aD σ).kill q:=fun i hi=>by rw[St.cW];show(st.cont V[i]).kill q=_;rw[b4 i hi]
   cases d<;>try trivial
   case sub k p =>
    intro hs;by_cases hk:k∈V
    ·obtain⟨i,hi,rfl⟩:=List.getElem_of_mem hk
     have:=eP i hi;simp only[qm,beq_self_eq_true,Bool.true_and,Bool.not_eq_false',Bool.and_eq_true,List.isEmpty_iff] at this;obtain⟨rfl,ax⟩:=this;have e1:=bF i hi;have e2:=ag i hi;generalize nth gs i=x at ax e1;generalize nth W i=y at ax e2;cases x<;>cases y<;>simp only[xi,Bool.false_eq_true] at ax;rw[e2];refine⟨⟨?_,fun hl=>by cases hl⟩,?_⟩
     ·exact True.intro
     ·rfl
    ·rw[b2 k hk]
     exact⟨hs,(ig (h1.ok k) hs.1 fun b I=>ao b (h.lt k b I).1 fun j Z=>by
      by_cases hjl:j<V.length
      ·exact h.cz k (σ j) (by rintro rfl;exact hk (bg j hjl)) b I Z
      ·exact ad j (by omega) b Z).1⟩
   case aG k p =>
    intro hs;by_cases hk:k∈V
    ·obtain⟨i,hi,rfl⟩:=List.getElem_of_mem hk
     have:=eP i hi;simp only[qm,beq_self_eq_true,Bool.true_and,Bool.not_eq_false',Bool.and_eq_true,beq_iff_eq] at this;obtain⟨hB,ax⟩:=this;have e1:=bF i hi;have e2:=ag i hi;generalize nth gs i=x at ax e1;generalize nth W i=y at ax e2;cases x<;>cases y<;>simp only[uH,Bool.false_eq_true,beq_iff_eq] at ax;rename_i l l'
     match p,hB with
     | [(a,off)],_ =>
      rw[e1] at hs;obtain⟨rfl,ho,-⟩:=hs;rw[e1,e2];refine⟨⟨rfl,?_,trivial⟩,rfl⟩;simp only[mX,AX] at ho|-
      omega
    ·rw[b2 k hk]
     exact⟨hs,(ig (h1.ok k) hs fun b I=>ao b (h.lt k b I).1 fun j Z=>by
      by_cases hjl:j<V.length
      ·exact h.cz k (σ j) (by rintro rfl;exact hk (bg j hjl)) b I Z
      ·exact ad j (by omega) b Z).2⟩
  ·by_cases hjl:j<V.length
   ·exact hn (σ j) (bg j hjl) Z
   ·exact ad j (by omega) b Z
 refine⟨⟨Y,F,h2,cd (hA (fun ht=>(a6 ht).1) hC),fun ho=>eT (by rw[rE] at ho;exact ho)⟩,e0,hy,fun i hi hd=>?_⟩;by_cases a7:i∈V
 ·obtain⟨k,hk,rfl⟩:=List.getElem_of_mem a7
  rw[ag k hk,cr k (Jf.1 (by rw[<-b4 k hk];exact hd))];rfl
 ·rw[b2 i a7];exact St.jj q hd
theorem Jm[Mode]{st2:St}{vl:Nat->Value}{V:Nat->Nat->Prop}{F:Nat->Prop}{w':World}{v:Value}{c:D}{n:Nat}(h2:Hp cx st2.cont vl V F w')(I:st2.wf)(S:st2.n=n)(hc:aN w' (ak cx V F w') (ai w' st2.cont vl) v F c)(Y:c.isObj=false->∀b,¬F b) :
  (∃W G',Hp cx (st2.push c).cont (az vl (1000+n) v) W G' w')/\(st2.push c).wf/\(st2.push c).n=n+1/\∀i,i<1000->st2.cont i=.dead->(st2.push c).cont i=.dead:=by
 have Z:st2.cont (1000+n)=.dead:=St.cJ (by rw[<-S];simp only[St.in,not_or,not_and];omega);refine⟨?_,St.fx I _,by show st2.n+1=_;rw[S],fun i hi hd=>?_⟩
 ·rw[St.c8 I,S]
  exact⟨_,fun _=>False,h2.put (k:=1000+n) (v:=v) (c:=c) (F:=F) (by rw[Z];rfl) hc (fun _ h=>h) (fun _ h=>h.elim) (fun _ _ h=>h) Y⟩
 ·rw[St.c8 I,S,aI _ _ (by omega)];exact hd
theorem E1[Mode]{cx:Ctx}{vl:Nat->Value}{fp:Nat->Nat->Prop}{G:Nat->Prop}{w:World}{st:St}(hp:Hp cx st.cont vl fp G w)(bg:st.wf){d:D}{v:Value}(a7:Pl w (ak cx fp G w) (ai w st.cont vl) v d)
  {K:D->St->Prop} (S:lM d K st):∃(c:D)(st2:St)(Y:Nat->Nat->Prop)(G2 F:Nat->Prop),K c st2/\Hp cx st2.cont vl Y G2 w/\aN w (ak cx Y G2 w) (ai w st2.cont vl) v F c /\
   (c.isObj=false->∀b,¬F b)/\(∀b,F b->G2 b)/\(∀k,st.cont k=.dead->st2.cont k=.dead)/\st2.wf/\st2.n=st.n:=by
 unfold lM at S;split at S
 ·rename_i j
  obtain⟨I,ab,hK⟩:=S;obtain⟨hc,ad,he,hv⟩:=gy a7;have V:=hp.kill (aX j);rw[<-St.cW] at V
  have ax:∀i,((st.kill (aX j)).cont i).refs (cH j):=fun i=>by
   rw[St.cW];exact de (fun d hd=>by cases d<;>simp_all[aX,cH]) (jk (aX j) _)
  have ao:=V.drop j ax (vl j);rw[uR] at ao;have a1:=St.gG bg (aX j);have a6:(st.kill (aX j)).in j:=Classical.byContradiction fun hh=>by rw[St.cJ hh] at I;cases I
  have ec:((st.kill (aX j)).put j .dead).cont=az (st.kill (aX j)).cont j .dead:=St.dR a1 a6 _
  have a8:v=vl j:=by
   rw[hv];have ag:=hp.ok j;generalize st.cont j=cj at hc he ab ag;cases cj<;>try exact hc.elim
   ·cases ab
   ·rename_i l
    obtain⟨_,b,cs,e,bF,h1,h2,h3,h4,h5,h6,h7⟩:=ag;rw[h1] at he|-
    simp only[aJ,dI,D.un,dU,Option.some.injEq] at he;rw[<-he]
   ·simp[D.aZ] at hc
  refine⟨_,_,_,_,fp j,hK,ec▸ao,?_,fun hh=>(by rw[I] at hh;cases hh),fun b W=>.inr W,fun k hk=>?_,St.fb a1 _ _,by rw[St.fW];rfl⟩
  ·rw[a8,ec]
   refine(V.ok j).mono (Q:=cH j) (fun b W=>⟨W.1,fun hg=>hg.elim W.2.1 (W.2.2 j),fun i hi=>?_⟩) (fun _ _=>rfl) (fun _ _=>rfl) (fun _ h=>h) (ax j) fun v d hq hr=>hr.bZ (de (fun q hq=>?_) hq)
   ·by_cases Z:i=j
    ·subst Z;rw[bc] at hi;exact hi
    ·rw[aI _ _ Z] at hi;exact W.2.2 i hi
   ·cases q<;>try trivial
    all_goals
     rename_i i p;intro hp;have n1:i≠j:=hq;simp only[aI _ _ n1];exact⟨hp,trivial⟩
  ·rw[ec]
   simp only[az];split
   ·rfl
   ·exact St.jj _ hk
 ·exact S.elim
end
section
variable{P:Program}{o:Oper}{cx:Ctx}{vl:Nat->Value}{fp:Nat->Nat->Prop}{G:Nat->Prop}{w:World}{a:Act}{ds:List (Option Nat)}{tr:List Nat}{Q:Exit->Act->World->Prop}
theorem VY{op:Op}{x:Operand}{xs:List Operand}(h:Ad op=some (x,xs)):∃S,op=.call { callee:=.value x,args:=xs.toArray,argTypes:=S }:=by
 cases op<;>simp[Ad] at h;rename_i c;obtain⟨ce,as,I⟩:=c;cases ce<;>simp at h;obtain⟨rfl,rfl⟩:=h;exact⟨I,rfl⟩
theorem I6{A:Nat->Prop}{R:Value->D->Prop}{rd:X->D}:∀{xs:List Operand}{ys:List X},fh ds tr xs ys=true->(∀y,y∈ys->∀x,aP ds tr x y=true->cC w A R (a.eval x) (rd y))->eN rd ys=true ->
  xs.length=(fY rd ys).length/\∀(j:Nat)(d:D),(fY rd ys)[j]?=some d->Pl w A R ((xs.map a.eval).getD j undef) d
 | [],[],_,_,_=>by simp[fY]
 | [],_::_,h,_,_=>by simp[fh] at h
 | _::_,[],h,_,_=>by simp[fh] at h
 | x::xs,y::ys,S,V,hg=>by
  simp only[fh,Bool.and_eq_true] at S;simp only[eN,Bool.and_eq_true] at hg;obtain⟨h1,W⟩:=I6 S.2 (fun y Y=>V y (by simp[Y])) hg.2;refine⟨by simp[fY,h1],fun j d I=>?_⟩;cases j with
  | zero =>
   simp[fY] at I;subst I;exact(V y (by simp) x S.1).1 hg.1
  | succ j=>simpa using W j d (by simpa[fY] using I)
theorem FM{f:FuncId}{x:Operand}{xs:List Operand}{Z:Array TypeId}{cs:Array Value}(W:o.op=.call { callee:=.value x,args:=xs.toArray,argTypes:=Z })(Y:a.eval x=.func (.func f) #[] cs)(I:fB P f=true) :
  (execOp a.eval o).run P w=.ok (.enter f ((xs.map a.eval).toArray++cs)) w:=by
 unfold fB at I;cases S:P.funcs[f]? with
 | none=>simp[S] at I
 | some fn =>
  simp[S] at I;obtain⟨h1,V⟩:=I;cases hbody:fn.body with
  | none=>simp[hbody] at h1
  | some c=>simp[execOp,W,resolve,Y,Deferred.ofValue,invoke,callFunc,S,V,hbody]
theorem Ws[Mode]{ct:Nat->D}(h:Hp cx ct vl fp G w){f:FuncId}{vs:Array Value}{dl l:List D}(bT:vs.size=dl.length)(ao:∀(j:Nat)(d:D),dl[j]?=some d->Pl w (ak cx fp G w) (ai w ct vl) (vs.getD j undef) d)
  (hl:ez (ba ct 4) dl=some l) {res:D} (hR:aA P f ((ei l).map .v) res) (hn:res.bA=true) :
  Calls P f vs w fun e w'=>∃(v:Value)(F:Nat->Prop),e=.returned v/\Ext w w'/\(∀b,F b->w.heap.size<=b/\b<w'.heap.size)/\aN w' (l7 (ak cx fp G w) w w' F) (ai w ct vl) v F (aV res)/\((aV res).isObj=false->∀b,¬F b):=by
 have I:∀b,ak cx fp G w b->live w b:=fun b S=>S.1.1
 have a7:∀j,∃F,(∀b,F b->live w b)/\aN w (ak cx fp G w) (ai w ct vl) (vl j) F (ct j):=fun j=>⟨fp j,fun b S=>(h.lt j b S).1,h.ok j⟩
 obtain⟨ax,a1⟩:=iv hl;refine(hR w (live w) vs (fun _ _=>False) (h.gl.mono I fun _ _=>rfl) (fun _ h=>h) (by rw[List.length_map,oZ,ax];exact bT) (fun j x hj=>?_) (fun _ _ _ _ h=>h.elim) (fun _ _ h=>h.elim)).mono ?_
 ·rw[List.getElem?_map,Option.map_eq_some_iff] at hj
  obtain⟨d,hj,rfl⟩:=hj;obtain⟨y,hy,rfl⟩:=qK hj;obtain⟨c,hc,hg⟩:=a1 j y hy;exact⟨(Gv I (fun _ _=>rfl) a7 4 (ao j c hc) hg).strip,fun _ h=>h⟩
 ·rintro e w' ⟨v,F,b1,rfl,bF,ad,bg,hF,b0,_,Y,a8,Z,ab⟩
  have V:Ext w w':=⟨bF,fun b S=>Y b S (fun _ h=>h),a8,Z,ab⟩;have ag:∀b,F b->w.heap.size<=b/\b<w'.heap.size:=fun b S=>⟨(hF b S).2.1.resolve_right fun⟨_,h⟩=>h,(hF b S).1⟩
  have W:aq w' (l7 (ak cx fp G w) w w' F) v res F:=wE ad hn;obtain⟨h1,h2⟩:=nV (R:=ai w ct vl) W;by_cases ho:(aV res).isObj=true
  ·exact⟨v,F,rfl,V,ag,h1,fun hh=>by rw[ho] at hh;cases hh⟩
  ·have a6:(aV res).isObj=false:=by simpa using ho
   refine⟨v,fun _=>False,rfl,V,fun _ h=>h.elim,?_,fun _ _ h=>h⟩;exact(h2 a6).mono (Q:=fun _=>True) (fun b S=>S.imp id fun hh=>⟨hh.1,hh.2.1,fun h=>h⟩) (fun _ _=>rfl) (fun _ _=>rfl) (fun _ h=>h) (bw (fun _=>trivial) _) fun v d _ hr=>hr
theorem PI[Mode]{st:St}(h:Hp cx st.cont vl fp G w)(hw:st.wf){Y:X}{r:List X}(hk:bb P ds tr o (.dyn Y r)=true)
  (hx:∀y,y∈Y::r->∀x,aP ds tr x y=true->cC w (ak cx fp G w) (ai w st.cont vl) (a.eval x) (st.rd y)) {g:Option Bool} (hg:g≠some false) {K:St->Prop}
  (S:@jK _ P (st.rd Y).core (fY st.rd r) (eN st.rd (Y::r)) g ⟨K⟩ st) {K':Act->World->Prop}
  (ad:∀(v:Value)(w':World)(st':St),K st'->(∃bF G',Hp cx st'.cont (az vl (1000+st.n) v) bF G' w')->st'.wf->st'.n=st.n+1->(∀i,i<1000->st.cont i=.dead->st'.cont i=.dead)->K' (a.put o.dst v) w'):o.wp P a w K' Q:=by
 simp only[bb] at hk;split at hk<;>try(cases hk;done)
 rename_i x' as b5;obtain⟨ts,ho⟩:=VY b5;simp only[Bool.and_eq_true] at hk;have a6:=hx Y (by simp) x' hk.1;generalize b9:st.rd Y=d0 at S a6
 obtain⟨gd,S⟩:∃gd,@lP _ P d0.core (fY st.rd r) (eN st.rd (Y::r)) gd ⟨K⟩ st:=by
  cases g with
  | none=>exact⟨false,S⟩
  | some b=>cases b with
   | false=>exact absurd rfl hg
   | true=>exact⟨true,S⟩
 unfold lP at S;split at S
 ·rename_i f caps Z
  have b4:eN st.rd (Y::r)=true:=S.1;have ab:(d0.gate&&eN st.rd r)=true:=by simpa only[eN,b9] using b4
  simp only[Bool.and_eq_true] at ab;have a7:=a6.1 ab.1;rw[Z] at a7;obtain⟨cs,ao,b3,b2⟩:=oE a7;obtain⟨h1,h2⟩:=I6 (rd:=st.rd) hk.2 (fun y hy=>hx y (by simp[hy])) ab.2;have a8:((as.map a.eval).toArray++cs).size=(fY st.rd r++caps).length:=by simp[h1,b3]
  have V:∀(j:Nat)(d:D),(fY st.rd r++caps)[j]?=some d->Pl w (ak cx fp G w) (ai w st.cont vl) (((as.map a.eval).toArray++cs).getD j undef) d:=fun j d hj=>by
   by_cases hjl:j<(fY st.rd r).length
   ·rw[List.getElem?_append_left hjl] at hj
    have:=h2 j d hj;rw[Array.getD_eq_getD_getElem?,Array.getElem?_append_left (by simp;omega)];simpa using this
   ·rw[List.getElem?_append_right (by omega)] at hj
    have:=b2 _ d hj;rw[Array.getD_eq_getD_getElem?,Array.getElem?_append_right (by simp;omega)];have e:j-(as.map a.eval).toArray.size=j-(fY st.rd r).length:=by simp[h1]
    rw[e,<-Array.getD_eq_getD_getElem?];exact this
  rcases S.2 with cc | ⟨rfl,l,res,hl,hb,hR,hn,b0⟩
  rotate_left
  ·unfold Oper.wp
   rw[FM ho ao hb,Oper.upon_enter];refine(Ws h a8 V hl hR hn).mono ?_;rintro e w' ⟨v,F,rfl,a1,hF,hc,ax⟩;have b1:st.cont (1000+st.n)=.dead:=St.cJ (by simp only[St.in,not_or,not_and];omega);have h1:=h.add a1 (k:=1000+st.n) (by rw[b1];rfl) hF hc ax;rw[<-St.c8 hw] at h1;exact ad v w' _ b0 ⟨_,_,h1⟩ (St.fx hw _) rfl fun i hi hd=>by rw[St.c8 hw,aI _ _ (by omega)];exact hd
  obtain⟨hb,I⟩:=Qj (vs:=(as.map a.eval).toArray++cs) (ds:=fY st.rd r++caps) h hw a8 V cc;unfold Oper.wp;rw[FM ho ao hb,Oper.upon_enter];refine I.mono ?_;rintro e w' ⟨v,c,st',rfl,⟨q0,q1⟩,⟨bT,F,q2,bg,W⟩,q3,q4,q5⟩
  have ag:aN w' (ak cx bT F w') (ai w' st'.cont vl) v F (if gd=true then .when true c else c)/\((if gd=true then D.when true c else c).isObj=false->∀b,¬F b):=by
   cases gd with
   | false=>exact⟨bg,W⟩
   | true =>
    have hF:=W (VR (q0 rfl));exact⟨⟨fun _=>(qc (q0 rfl)).1 bg,fun h=>by cases h⟩,fun _=>hF⟩
  obtain⟨r1,r2,r3,r4⟩:=Jm q2 q3 q4 ag.1 ag.2;exact ad v w' _ q1 r1 r2 r3 fun i hi hd=>r4 i hi (q5 i hi hd)
 ·exact S.elim
end
end Go.D3
namespace Go.D3
open Go
section
variable{P:Program}{cx:Ctx}{vl:Nat->Value}{fp:Nat->Nat->Prop}{G:Nat->Prop}{w:World}
end
end Go.D3
namespace Go.D3
open Go
section
variable{P:Program}{cx:Ctx}{vl:Nat->Value}{fp:Nat->Nat->Prop}{G:Nat->Prop}{w:World}
theorem HH{t kt et:TypeId}{d:TypeDesc}{V xv:Value}{k x:D}{ks vs:List D}{r clock:Nat}{es:Array MapEntry}{f:Option Nat}(hm:P.underlying t=some (.map kt et))(hu:P.underlying kt=some d)(hd:kindOk d k)(hk:Sc V k)(hx:Sc xv x)
  (hb:w.heap[r]?=some (.map es clock)) (hE:pf es ks vs) (hf:fV k ks=some f) (hlen:ks.length<maxLen) :
  ∃a1 W,(Instr.mapUpdate t (.map (some r)) V xv).run P w=.ok () { w with heap:=w.heap.setIfInBounds r (.map a1 W) }/\pf a1 (cQ k x ks vs f).1 (cQ k x ks vs f).2:=by
 obtain⟨⟨l1,l2,l3⟩,s1,s2⟩:=hE;obtain⟨f1,f2⟩:=y9 hd hk es.toList ks 0 (by simpa using l1) (fun j x y I S=>s1 j x y (by simpa using I) S) hf;cases f with
 | none =>
  refine⟨es.push { key:=V,val:=xv,born:=clock },clock+1,?_,⟨by simp[cQ,l1],by simp[cQ,l2],by simp[cQ];omega⟩,fun j e y I S=>?_,fun j e y I S=>?_⟩
  ·unfold Instr.mapUpdate
   simp only[Sem.run_bind,run_underlying hm,Result.andThen_ok,MapKept.run_getObj_map hb,s5 hu hd hk,MapKept.run_findKey hu f1,Option.map_none,MapKept.run_setObj_map _ hb]
  ·simp only[cQ] at S
   rw[Array.getElem?_push] at I;split at I
   ·rename_i ao
    injection I with I
    subst I;subst ao;rw[l1,List.getElem?_append_right (Nat.le_refl _)] at S;simp at S;subst S;exact hk
   ·have a6:=(Array.getElem?_eq_some_iff.1 I).1
    rw[List.getElem?_append_left (by omega)] at S;exact s1 j e y I S
  ·simp only[cQ] at S
   rw[Array.getElem?_push] at I;split at I
   ·rename_i ao
    injection I with I
    subst I;subst ao;rw[List.getElem?_append_right (by omega)] at S;simp[l1,l2] at S;subst S;exact hx
   ·have a6:=(Array.getElem?_eq_some_iff.1 I).1
    rw[List.getElem?_append_left (by omega)] at S;exact s2 j e y I S
 | some i =>
  obtain⟨e0,e1,e2,e3⟩:=f2 i rfl;have ab:es[i]?=some e0:=by simpa using e1
  have ax:(Instr.keyThatStays (((es[i]?).map (·.key)).getD V) V).run P w=.ok V w:=by
   rw[ab];simp only[Option.map_some,Option.getD_some,e2]
   have:Instr.sameBits 10000 V V=true:=by
    cases d<;>cases k<;>try exact hd.elim
    all_goals cases hk
    all_goals simp[Instr.sameBits,MapKept.bytes_beq]
   simp[Instr.keyThatStays,this]
  have Y:∀j e,(es.modify i fun e=>{ e with key:=V,val:=xv })[j]?=some e->∃Z,es[j]?=some Z/\e.key=Z.key/\(e.val=if j=i then xv else Z.val):=by
   intro j e I;rw[Array.getElem?_modify] at I;split at I
   ·rename_i ad
    subst ad;rw[ab] at I;simp only[Option.map_some,Option.some.injEq] at I;subst I;exact⟨e0,ab,e2.symm,by simp⟩
   ·rename_i ad
    exact⟨e,I,rfl,by rw[if_neg (Ne.symm ad)]⟩
  refine⟨es.modify i fun e=>{ e with key:=V,val:=xv },clock,?_,⟨by simp[cQ,l1],by simp[cQ,l2],by simpa[cQ] using l3⟩,fun j e y I S=>?_,fun j e y I S=>?_⟩
  ·unfold Instr.mapUpdate
   simp only[Sem.run_bind,run_underlying hm,Result.andThen_ok,MapKept.run_getObj_map hb,s5 hu hd hk,MapKept.run_findKey hu f1,Option.map_some,Nat.zero_add,ax,MapKept.run_setObj_map _ hb]
  ·obtain⟨Z,h1,h2,_⟩:=Y j e I
   rw[h2];exact s1 j Z y h1 (by simpa[cQ] using S)
  ·obtain⟨Z,h1,_,h2⟩:=Y j e I
   simp only[cQ] at S;rw[h2];by_cases ag:j=i
   ·subst ag
    have a6:=(Array.getElem?_eq_some_iff.1 h1).1;rw[List.getElem?_set_self (by omega)] at S;injection S with S;subst S
    rw[if_pos rfl];exact hx
   ·rw[List.getElem?_set_ne (Ne.symm ag)] at S
    rw[if_neg ag];exact s2 j Z y h1 S
theorem Iq{A:Nat->Prop}{v:Value}{ks vs:List D}{F:Nat->Prop}(h:aq w A v (.mp ks vs) F):∃r es clock,v=.map (some r)/\F r/\w.heap[r]?=some (.map es clock)/\pf es ks vs:=by
 cases h;exact⟨_,_,_,rfl,‹_›,‹_›,‹_›⟩
theorem QE{α:Type}{l:List α}(h:l.length=1):∃x,l=[x]:=by
 match l,h with
 | [x],_=>exact⟨x,rfl⟩
theorem Wo{A:Nat->Prop}{v:Value}{s:List UInt8}{p:Nat}{F:Nat->Prop}(h:aq w A v (.b6 s p) F):∃r,v=.pointer (some ⟨r,0,none⟩)/\F r/\w.heap[r]?=some (.stringIter ⟨s.toArray⟩ p)/\s.length<=maxLen:=by
 cases h;exact⟨_,rfl,‹_›,‹_›,‹_›⟩
theorem Tv[Mode]{j:Nat}{K:St->Prop}{st:St}(V:@qa j ⟨K⟩ st)(h:Hp cx st.cont vl fp G w)(hw:st.wf){ty:TypeId} :
  ∃w' v,(Instr.next (vl j) true ty).run P w=.ok v w'/\∃st',K st'/\(∃a1 G',Hp cx st'.cont (az vl (1000+st.n) v) a1 G' w')/\st'.wf/\st'.n=st.n+1/\∀i,i<1000->st.cont i=.dead->st'.cont i=.dead:=by
 unfold qa at V;cases ho:(st.cont j).tw with
 | none=>rw[ho] at V;exact V.elim
 | some e =>
 rw[ho] at V;simp only[cR] at V;obtain⟨s,p⟩:=e
 have hc:st.cont j=.o (.b6 s p):=by
  generalize st.cont j=c at ho;cases c<;>simp only[D.tw,reduceCtorEq] at ho;rename_i y;cases y<;>simp only[reduceCtorEq,Option.some.injEq,Prod.mk.injEq] at ho;obtain⟨rfl,rfl⟩:=ho;rfl
 have S:=h.ok j;rw[hc] at S;have S:aq w (ak cx fp G w) (vl j) (.b6 s p) (fp j):=S;obtain⟨r,hv,hF,hb,hs⟩:=Wo S
 have Y:st.in j:=by
  by_cases Y:st.in j
  ·exact Y
  ·rw[St.cJ Y] at hc;cases hc
 by_cases hp:p<s.length
 ·have V:=V.1 hp
  simp only at V;obtain⟨a7,a8⟩:=MapKept.heap_set (o':=.stringIter ⟨s.toArray⟩ (p+(kf s p).2)) hb
  have Z:(Instr.next (vl j) true ty).run P w=.ok (.tuple #[.bool true,.int .i64 p,.int .i32 (kf s p).1]) { w with heap:=w.heap.setIfInBounds r (.stringIter ⟨s.toArray⟩ (p+(kf s p).2)) }:=by
   rw[hv];have ag:p<(ByteArray.mk s.toArray).size:=by rw[show(ByteArray.mk s.toArray).size=s.toArray.size from rfl,List.size_toArray];exact hp
   simp only[Instr.next,getObj,setObj,Sem.run_bind,Sem.run,hb,Result.andThen,ag,if_true];simp[goInt,kf]
  have h1:=(h.change (k:=j) (c':=.o (.b6 s (p+(kf s p).2))) (F':=fp j) (G':=G) (w':={ w with heap:=w.heap.setIfInBounds r (.stringIter ⟨s.toArray⟩ (p+(kf s p).2)) }) (fun _=>True) rfl
    (by rw[hv];exact aq.b6 hF a7 hs) (fun i _=>bw (fun _=>trivial) _) (bw (fun _=>trivial) _) (fun b hb=>.inl hb) (fun b hb=>.inr hb) (h.cK j)
    (by simp) (fun b a6=>a8 b (fun e=>a6 (by rw[e];exact hF))) rfl rfl (.of rfl rfl)
    (fun p _ hp=>by
      rw[hc] at hp|-
      cases p with
      | nil=>exact⟨⟨trivial,fun hl=>by cases hl⟩,rfl⟩
      | cons s p=>exact hp.1.1.elim)
    (fun p _ hp=>by
      rw[hc] at hp|-
      cases p with
      | nil=>exact⟨trivial,rfl⟩
      | cons s p=>exact hp.1.elim)).1
  rw[<-St.dR hw Y] at h1;have ao:=St.fb hw j (.o (.b6 s (p+(kf s p).2)));have ab:(st.put j (.o (.b6 s (p+(kf s p).2)))).cont (1000+st.n)=.dead:=St.cJ (by simp only[St.in,St.fW,not_or,not_and];omega);have ad:(st.put j (.o (.b6 s (p+(kf s p).2)))).n=st.n:=St.fW _ _ _;refine⟨_,_,Z,_,V,⟨az (az fp j (fp j)) (1000+st.n) fun _=>False,G,?_⟩,St.fx ao _,by rw[<-ad];rfl,fun i hi W=>?_⟩
  ·rw[St.c8 ao,ad]
   refine h1.put (by rw[ab];rfl) (F:=fun _=>False) (show Pl _ _ _ _ _ from ?_) (fun _ h=>h.elim) (fun _ h=>h) (fun _ h=>h.elim) (fun _ _ h=>h);refine .rd (.av rfl fun j x I=>?_)
   match j,I with
   | 0,I=>simp at I;subst I;exact .bool
   | 1,I=>simp at I;subst I;exact .int (n9 (n:=p) (by omega))
   | 2,I=>simp at I;subst I;exact .int ⟨by simp[IntKind.min,IntKind.signed,IntKind.bits],by have:=decode_le ⟨s.toArray⟩ p;simp only[IntKind.max,IntKind.signed,IntKind.bits,kf];omega⟩
   | j+3,I=>simp at I
  ·rw[St.c8 ao,ad,aI _ _ (by omega),St.dR hw Y]
   by_cases ax:i=j
   ·subst ax;rw[hc] at W;cases W
   ·rw[aI _ _ ax];exact W
 ·have V:=V.2 (Nat.le_of_not_lt hp)
  have Z:(Instr.next (vl j) true ty).run P w=.ok (.tuple #[.bool false]) w:=by
   rw[hv];have ag:¬p<(ByteArray.mk s.toArray).size:=by rw[show(ByteArray.mk s.toArray).size=s.toArray.size from rfl,List.size_toArray];exact hp
   simp[Instr.next,getObj,Sem.run,hb,Result.andThen,ag]
  have W:st.cont (1000+st.n)=.dead:=St.cJ (by simp only[St.in,not_or,not_and];omega);refine⟨_,_,Z,_,V,⟨az fp (1000+st.n) fun _=>False,G,?_⟩,St.fx hw _,rfl,fun i hi hd=>by rw[St.c8 hw,aI _ _ (by omega)];exact hd⟩;rw[St.c8 hw];refine h.put (by rw[W];rfl) (F:=fun _=>False) (show Pl _ _ _ _ _ from ?_) (fun _ h=>h.elim) (fun _ h=>h) (fun _ h=>h.elim) (fun _ _ h=>h);refine .rd (.av rfl fun j x I=>?_)
  match j,I with
  | 0,I=>simp at I;subst I;exact .bool
  | j+1,I=>simp at I
theorem Tg[Mode]{kk:Nat}{dm k x:D}{K:St->Prop}{st:St}(S:@pX kk dm k x ⟨K⟩ st)(h:Hp cx st.cont vl fp G w)(hw:st.wf){vm kv xv:Value}(hm:Pl w (ak cx fp G w) (ai w st.cont vl) vm dm)(hk:Pl w (ak cx fp G w) (ai w st.cont vl) kv k)
  (hx:Pl w (ak cx fp G w) (ai w st.cont vl) xv x) {t kt et:TypeId} (ht:P.underlying t=some (.map kt et)) (cc:oe P kt kk=true) (v:Value) :
  ∃w',(Instr.mapUpdate t vm kv xv).run P w=.ok () w'/\∃st',K st'/\(∃b4 G',Hp cx st'.cont (az vl (1000+st.n) v) b4 G' w')/\st'.wf/\st'.n=st.n+1/\∀i,i<1000->st.cont i=.dead->st'.cont i=.dead:=by
 obtain⟨b1,cg,S⟩:=S
 have b3:∀{u:Value}{d:D},Pl w (ak cx fp G w) (ai w st.cont vl) u d->d.dv=true->Sc u d:=fun hu hd=>by
  refine Bo (b8 hu ?_ ?_ ?_ ?_ ?_ ?_) hd<;>intros<;>intro hh<;>rw[hh] at hd<;>cases hd
 have b0:=b3 hk (G4 b1);have b2:=b3 hx cg;obtain⟨d,hu,hd⟩:=Ha cc b1;split at S
 case h_3=>exact S.elim
 case h_1 j =>
  cases ho:(st.cont j).o?.bind D.kP with
  | none=>rw[ho] at S;exact S.elim
  | some e =>
  rw[ho] at S;simp only[cR] at S;cases hf:fV k e.1 with
  | none=>rw[hf] at S;exact S.elim
  | some f =>
  rw[hf] at S;obtain⟨hlen,S⟩:=S;obtain⟨ks,vs⟩:=e
  have hc:st.cont j=.o (.mp ks vs):=by
   generalize st.cont j=c at ho;cases c<;>simp only[D.o?,Option.bind_none,reduceCtorEq,Option.bind_some] at ho;rename_i y;cases y<;>simp only[D.kP,reduceCtorEq,Option.some.injEq,Prod.mk.injEq] at ho;obtain⟨rfl,rfl⟩:=ho;rfl
  obtain⟨_,hv,_⟩:=eD hm;simp only[aR,Option.some.injEq] at hv;have V:=h.ok j;rw[hc,hv] at V;have V:aq w (ak cx fp G w) vm (.mp ks vs) (fp j):=V;obtain⟨r,es,clock,rfl,hF,W,hE⟩:=Iq V;obtain⟨Z,I,ad,ao⟩:=HH ht hu hd b0 b2 W hE hf hlen;obtain⟨a6,a7⟩:=MapKept.heap_set (o':=.map Z I) W
  have ab:st.in j:=by
   by_cases ab:st.in j
   ·exact ab
   ·rw[St.cJ ab] at hc;cases hc
  have h1:=(h.change (k:=j) (c':=.o (.mp (cQ k x ks vs f).1 (cQ k x ks vs f).2)) (F':=fp j) (G':=G) (w':={ w with heap:=w.heap.setIfInBounds r (.map Z I) }) (fun _=>True) rfl
    (by rw[hv];exact aq.mp hF a6 ao) (fun i _=>bw (fun _=>trivial) _) (bw (fun _=>trivial) _) (fun b W=>.inl W) (fun b W=>.inr W) (h.cK j)
    (by simp) (fun b b9=>a7 b (fun e=>b9 (by rw[e];exact hF))) rfl rfl (.of rfl rfl)
    (fun p _ hp=>by
      rw[hc] at hp|-
      cases p with
      | nil=>exact⟨⟨trivial,fun hl=>by cases hl⟩,rfl⟩
      | cons s p=>exact hp.1.1.elim)
    (fun p _ hp=>by
      rw[hc] at hp|-
      cases p with
      | nil=>exact⟨trivial,rfl⟩
      | cons s p=>exact hp.1.elim)).1
  rw[<-St.dR hw ab] at h1;have bT:=St.fb hw j (.o (.mp (cQ k x ks vs f).1 (cQ k x ks vs f).2));have a1:(st.put j (.o (.mp (cQ k x ks vs f).1 (cQ k x ks vs f).2))).cont (1000+st.n)=.dead:=St.cJ (by simp only[St.in,St.fW,not_or,not_and];omega);have bg:(st.put j (.o (.mp (cQ k x ks vs f).1 (cQ k x ks vs f).2))).n=st.n:=St.fW _ _ _;refine⟨_,ad,_,S,⟨az (az fp j (fp j)) (1000+st.n) fun _=>False,G,?_⟩,St.fx bT _,by rw[<-bg];rfl,fun i hi ax=>?_⟩
  ·rw[St.c8 bT,bg]
   exact h1.put (by rw[a1];rfl) (F:=fun _=>False) Pl.dead (fun _ h=>h.elim) (fun _ h=>h) (fun _ h=>h.elim) (fun _ _ h=>h)
  ·rw[St.c8 bT,bg,aI _ _ (by omega),St.dR hw ab]
   by_cases ag:i=j
   ·subst ag;rw[hc] at ax;cases ax
   ·rw[aI _ _ ag];exact ax
 case h_2 j s p =>
  have cd:=eD hm;have bF:=fun i k s p hi=>xU S (i:=i) (k:=k) (s:=s) (p:=p) hi
  obtain⟨l',st1,b5,G1,Fs,S,h2,h3,h4,h5,h6⟩:=ko (A:=ak cx fp G w) (vs:=#[vm]) _ S h hw (fun _ h=>h) (fun j y Y=>by
   cases j with
   | zero=>simp at Y;subst Y;exact hm
   | succ j=>simp at Y)
  obtain⟨y,rfl⟩:=QE (show l'.length=1 from h3);simp only[List.head?_cons,Option.bind_some] at S;cases ho:y.kP with
  | none=>rw[ho] at S;exact S.elim
  | some e =>
  rw[ho] at S;simp only[cR] at S;cases hf:fV k e.1 with
  | none=>rw[hf] at S;exact S.elim
  | some f =>
  rw[hf] at S;obtain⟨hlen,S⟩:=S;obtain⟨ks,vs⟩:=e;have hy:y=.mp ks vs:=by cases y<;>simp only[D.kP,reduceCtorEq,Option.some.injEq,Prod.mk.injEq] at ho;obtain⟨rfl,rfl⟩:=ho;rfl
  subst hy;have V:aq w (ak cx b5 G1 w) vm (.mp ks vs) (Fs 0):=(h4 0 _ rfl).1;obtain⟨r,es,clock,rfl,hF,W,hE⟩:=Iq V;obtain⟨Z,I,ad,ao⟩:=HH ht hu hd b0 b2 W hE hf hlen;obtain⟨a6,a7⟩:=MapKept.heap_set (o':=.map Z I) W;have a8:∀b,Fs 0 b->b<w.heap.size:=fun b W=>(h2.hp.cY b (h2.hF b ⟨0,W⟩).1).1
  obtain⟨st',k1,k2,k3,k4,k5⟩:=Az (vs:=fun _=>.map (some r)) (Fs2:=fun j b=>j=0/\b=r) (F1:=fun _=>False) (F2:=fun b=>b=r) (res:=.dead) (v:=v) (w':={ w with heap:=w.heap.setIfInBounds r (.map Z I) }) h2 S
   (fun j k' s' p' Y=>by
     cases j with
     | zero =>
      have hs:=bF 0 k' s' p' Y;simp at Y;obtain⟨rfl,rfl,rfl⟩:=Y;exact cd.bZ (h6 _ hs)
     | succ j=>simp at Y)
   (by simp) .dead (fun j z Y=>by
     cases j with
     | zero=>simp at Y;subst Y;exact aq.mp ⟨rfl,rfl⟩ a6 ao
     | succ j=>simp at Y)
   (fun j b W=>W.2) (fun i j b ag hi Y=>ag (hi.1.trans Y.1.symm)) (fun b W=>W.elim) (fun b W=>⟨by subst W;simpa using a8 _ hF,.inr ⟨0,by subst W;exact hF⟩⟩) (fun b _ hn=>a7 b (by rintro rfl;exact hn ⟨0,hF⟩)) rfl rfl (.of rfl rfl)
  exact⟨_,ad,st',k1,k2,k3,k4,k5⟩
end
end Go.D3
namespace Go.D3
open Go
section
variable{P:Program}{o:Oper}{cx:Ctx}{vl:Nat->Value}{fp:Nat->Nat->Prop}{G:Nat->Prop}{w:World}{a:Act}
theorem BU[Mode]:∀(l done:List D){K:List D->St->Prop}{st:St}{fp:Nat->Nat->Prop}{G:Nat->Prop}{vs:Nat->Value}{Fs:Nat->Nat->Prop},ga done l K st->Hp cx st.cont vl fp G w->st.wf ->
  (∀(j:Nat)(c:D),done[j]?=some c->ca w (ak cx fp G w) (ai w st.cont vl) (vs j) (Fs j) c)->(∀j b,Fs j b->G b/\j<done.length)->(∀i j b,i≠j->Fs i b->¬Fs j b) ->
  (∀(j:Nat)(c:D),l[j]?=some c->Pl w (ak cx fp G w) (ai w st.cont vl) (vs (done.length+j)) c) ->
  ∃(l':List D)(st':St)(V:Nat->Nat->Prop)(G':Nat->Prop)(S:Nat->Nat->Prop),K l' st'/\Hp cx st'.cont vl V G' w/\st'.wf/\st'.n=st.n/\(∀i,st.cont i=.dead->st'.cont i=.dead)/\l'.length=done.length+l.length /\
   (∀(j:Nat)(c:D),l'[j]?=some c->ca w (ak cx V G' w) (ai w st'.cont vl) (vs j) (S j) c)/\(∀j b,S j b->G' b)/\(∀i j b,i≠j->S i b->¬S j b)
 | [],done,K,st,fp,G,vs,Fs,hK,h,hw,hc,hF,hd,_=>⟨done,st,fp,G,Fs,hK,h,hw,rfl,fun _ h=>h,by simp,hc,fun j b W=>(hF j b W).1,hd⟩
 | x::r,done,K,st,fp,G,vs,Fs,hK,h,hw,hc,hF,hd,hl=>by
  have hx:=hl 0 x rfl;rw[Nat.add_zero] at hx;have a7:∀b,¬Fs done.length b:=fun b W=>by have:=(hF _ b W).2;omega
  by_cases Z:∃k p,x=.sub k p
  ·obtain⟨k,p,rfl⟩:=Z
   simp only[ga] at hK;obtain⟨ad,hK⟩:=hK;obtain⟨y,st1,a6,G1,F1,h1,Y,h3,h4⟩:=xu hK h hw (eD hx);have ao:(vs done.length).oneCell'=true:=by obtain⟨_,_,⟨q,n,c,e⟩ | ⟨r,e⟩ | ⟨r,e⟩⟩:=eD hx<;>rw[e]<;>rfl
   obtain⟨ab,-⟩:=Fw (R:=ai w st1.cont vl) h3 ao;have hk:∀c,c∈done++r->c.refs fun q=>cX w w st.cont st1.cont vl vl q:=fun c ax=>de (fun q hq=>h4 q (.inl hq)) (bG.1 ad c ax)
   obtain⟨l',st',V,G',S,k1,k2,k3,k4,k5,k6,k7,k8,k9⟩:=BU r (done++[aV y]) (vs:=vs) (Fs:=fun j b=>if j=done.length then F1 b else Fs j b) h1 Y.hp Y.wf (fun j c I=>by
     by_cases hjl:j<done.length
     ·rw[List.getElem?_append_left hjl] at I
      have:=(hc j c I).mono (Q:=fun q=>cX w w st.cont st1.cont vl vl q) (F':=Fs j) Y.aK (fun _ _=>rfl) (fun _ _=>rfl) (fun _ h=>h) (hk c (by simp[List.mem_of_getElem? I])) fun v d hq hr=>hr.bZ hq
      exact this.mono (Q:=fun _=>True) (fun _ h=>h) (fun _ _=>rfl) (fun _ _=>rfl) (fun b W=>by rw[if_neg (by omega)];exact W) (bw (fun _=>trivial) _) fun _ _ _ h=>h
     ·rw[List.getElem?_append_right (by omega)] at I
      have:j=done.length:=by
       have:=(List.getElem?_eq_some_iff.1 I).1;simp at this;omega
      subst this;simp at I;subst I
      exact ab.mono (Q:=fun _=>True) (fun _ h=>h) (fun _ _=>rfl) (fun _ _=>rfl) (fun b W=>by rw[if_pos rfl];exact W) (bw (fun _=>trivial) _) fun _ _ _ h=>h)
    (fun j b W=>by
      split at W
      ·rename_i I;exact⟨(Y.hF b W).1,by simp[I]⟩
      ·have:=hF j b W;exact⟨Y.hG b this.1,by simp;omega⟩)
    (fun i j b a1 hi I=>by
      split at hi<;>split at I
      ·omega
      ·exact(Y.hF b hi).2 (hF j b I).1
      ·exact(Y.hF b I).2 (hF i b hi).1
      ·exact hd i j b a1 hi I)
    (fun j c I=>by
      have:=hl (j+1) c (by simpa using I);rw[show done.length+(j+1)=(done++[aV y]).length+j by simp;omega] at this
      exact this.bZ Y.aK (fun _ _=>rfl) (hk c (by simp[List.mem_of_getElem? I])))
   exact⟨l',st',V,G',S,k1,k2,k3,k4.trans Y.n,fun i hi=>k5 i (Y.dd i hi),by simp at k6|-;omega,k7,k8,k9⟩
  ·have ag:x.pc=true/\ga (done++[x]) r K st:=by
    cases x<;>first | exact hK | exact absurd ⟨_,_,rfl⟩ Z
   obtain⟨l',st',V,G',S,k1,k2,k3,k4,k5,k6,k7,k8,k9⟩:=BU r (done++[x]) (vs:=vs) (Fs:=Fs) ag.2 h hw (fun j c I=>by
     by_cases hjl:j<done.length
     ·rw[List.getElem?_append_left hjl] at I;exact hc j c I
     ·rw[List.getElem?_append_right (by omega)] at I
      have:j=done.length:=by
       have:=(List.getElem?_eq_some_iff.1 I).1;simp at this;omega
      subst this;simp at I;subst I
      exact Fk hx ag.1)
    (fun j b W=>by have:=hF j b W;exact⟨this.1,by simp;omega⟩) hd
    (fun j c I=>by
      have:=hl (j+1) c (by simpa using I)
      rwa [show done.length+(j+1)=(done++[x]).length+j by simp;omega] at this)
   exact⟨l',st',V,G',S,k1,k2,k3,k4,k5,by simp at k6|-;omega,k7,k8,k9⟩
theorem OV[Mode]{n:Nat}{x:D}{K:St->Prop}{st:St}(V:qY n x K st)(h:Hp cx st.cont vl fp G w)(hw:st.wf){S:Value}(hx:Pl w (ak cx fp G w) (ai w st.cont vl) S x)(e:TypeId) :
  ∃st',K st'/\(∃ad G',Hp cx st'.cont (az vl (1000+st.n) (.pointer (some ⟨w.heap.size,0,none⟩))) ad G' (w.alloc (.cells S.cells e)))/\st'.wf/\st'.n=st.n+1/\∀i,i<1000->st.cont i=.dead->st'.cont i=.dead:=by
 unfold qY at V;cases hl:x.cellsOf with
 | none=>rw[hl] at V;exact V.elim
 | some l =>
 rw[hl] at V;obtain⟨⟨a1,a6⟩,V⟩:=V;obtain⟨ax,W⟩:=nF hx hl
 obtain⟨l',st1,ag,G1,Fs,k1,Z,k3,k4,k5,k6,k7,k8,k9⟩:=BU l [] (vs:=fun j=>S.cells.getD j undef) (Fs:=fun _ _=>False) V h hw (fun j c Y=>by simp at Y) (fun _ _ h=>h.elim) (fun _ _ _ _ h=>h.elim) (fun j c Y=>by
  simp only[List.length_nil,Nat.zero_add];exact W j c Y)
 have g1:=Z.grow (w':=w.alloc (.cells S.cells e)) (by simp) (fun b I=>heap_alloc_old w _ b I) rfl rfl (.of rfl rfl);have hd:st1.cont (1000+st.n)=.dead:=St.cJ (by rw[<-k4];simp only[St.in,not_or,not_and];omega)
 have I:xJ (w.alloc (.cells S.cells e)) (ak cx ag (fun b=>G1 b\/(w.heap.size<=b/\b<(w.alloc (.cells S.cells e)).heap.size)) (w.alloc (.cells S.cells e))) (ai (w.alloc (.cells S.cells e)) st1.cont vl) (.pointer (some ⟨w.heap.size,0,none⟩)) (fun b=>b=w.heap.size\/∃j,Fs j b) l':=by
  have ab:∀j b,Fs j b->b<w.heap.size:=fun j b I=>(Z.cY b (k8 j b I)).1
  refine⟨by simp at k6;omega,w.heap.size,S.cells,e,Fs,rfl,heap_alloc_new w _,by simp at k6;omega,fun j c Y=>?_,.inl rfl,fun j b I=>⟨fun hh=>by have:=ab j b I;omega,.inr ⟨j,I⟩⟩,k9⟩;refine(k7 j c Y).mono (Q:=fun _=>True) (fun b I=>⟨⟨by have:=I.1.1;simp;omega,I.1.2⟩,fun hg=>hg.elim I.2.1 fun hh=>by have:=I.1.1;omega,I.2.2⟩) (fun b I=>heap_alloc_old w _ b I.1.1) (fun b I=>heap_alloc_old w _ b (ab j b I)) (fun _ h=>h) (bw (fun _=>trivial) _) fun v d _ hr=>hr.bZ (bw (fun q=>?_) _)
  cases q<;>try trivial
  case sub k p=>exact fun hp=>⟨hp,(ig (Z.ok k) hp.1 fun b I=>heap_alloc_old w _ b (Z.lt k b I).1).1⟩
  case aG k p=>exact fun hp=>⟨hp,(ig (Z.ok k) hp fun b I=>heap_alloc_old w _ b (Z.lt k b I).1).2⟩
 refine⟨_,k1,?_,St.fx k3 _,by show st1.n+1=_;rw[k4],fun i hi ao=>?_⟩
 ·rw[St.c8 k3,k4]
  exact⟨_,fun _=>False,g1.put (k:=1000+st.n) (c:=.box l') (F:=fun b=>b=w.heap.size\/∃j,Fs j b) (by rw[hd];rfl) I (fun b I=>I.elim (fun hh=>.inr ⟨by omega,by simp;omega⟩) fun⟨j,Y⟩=>.inl (k8 j b Y)) (fun _ h=>h.elim) (fun _ _ h=>h) (fun hh=>by cases hh)⟩
 ·rw[St.c8 k3,k4,aI _ _ (by omega)];exact k5 i ao
theorem Qc{sz:Nat}{cs:Array Value}{v:Value}(Y:v.cells.size=sz)(V:cs.size=sz):∃I,Instr.fill (fun j=>some (j*sz,sz)) cs [(0,v)]=some I/\I.size=sz/\∀j,j<sz->I.getD j undef=v.cells.getD j undef:=by
 refine⟨ib cs 0 v.cells.toList,?_,by rw[uE];exact V,fun j W=>?_⟩
 ·simp only[Instr.fill]
  have S:¬((decide (v.cells.size≠sz) || decide (0*sz+v.cells.size > cs.size))=true):=by simp;omega
  rw[if_neg S];have:=vJ v.cells.toList 0 0 cs;simp only[Nat.add_zero] at this;rw[<-Array.foldl_toList,Array.toList_zipIdx,Nat.zero_mul,this]
 ·rw[uD _ _ _ _ (by simp;omega),if_pos ⟨Nat.zero_le _,by simp;omega⟩]
  simp
theorem OT[Mode]{z x:D}{K:St->Prop}{st:St}(W:qW z x K st)(h:Hp cx st.cont vl fp G w)(hw:st.wf){vx:Value}(hx:Pl w (ak cx fp G w) (ai w st.cont vl) vx x)(hz : 0<z.cells.length)(e:TypeId) :
  vx.cells.size=z.cells.length/\∀cs:Array Value,cs.size=z.cells.length->(∀j,j<z.cells.length->cs.getD j undef=vx.cells.getD j undef) ->
  ∃st',K st'/\(∃ad G',Hp cx st'.cont (az vl (1000+st.n) (.slice (some ⟨w.heap.size,0,none⟩) 1 1)) ad G' (w.alloc (.cells cs e)))/\st'.wf/\st'.n=st.n+1/\∀i,i<1000->st.cont i=.dead->st'.cont i=.dead:=by
 unfold qW at W;cases hl:x.cellsOf with
 | none=>rw[hl] at W;exact W.elim
 | some l =>
 rw[hl] at W;obtain⟨bg,W⟩:=W;obtain⟨a8,Y⟩:=nF hx hl;refine⟨by omega,fun cs hs Z=>?_⟩;obtain⟨l',st1,ag,G1,Fs,k1,S,k3,k4,k5,_⟩:=ko (A:=ak cx fp G w) (vs:=vx.cells) l W h hw (fun _ h=>h) Y;have g1:=S.hp.grow (w':=w.alloc (.cells cs e)) (by simp) (fun b I=>heap_alloc_old w _ b I) rfl rfl (.of rfl rfl);have hd:st1.cont (1000+st.n)=.dead:=St.cJ (by rw[<-S.n];simp only[St.in,not_or,not_and];omega);have ab:∀j b,Fs j b->b<w.heap.size:=fun j b I=>(S.hp.cY b (S.hF b ⟨j,I⟩).1).1
 have a7:l'.length=z.cells.length:=by omega
 have ao:∀j c,cellAt [D.agg l'] z.cells.length j=some c->l'[j]?=some c/\j<z.cells.length:=fun j c V=>by
  have h1:=mB hz V;simp only[List.length_cons,List.length_nil,Nat.zero_add,Nat.one_mul] at h1;unfold cellAt at V;rw[Nat.div_eq_of_lt h1,Nat.mod_eq_of_lt h1] at V;exact⟨V,h1⟩
 have I:aN (w.alloc (.cells cs e)) (ak cx ag (fun b=>G1 b\/(w.heap.size<=b/\b<(w.alloc (.cells cs e)).heap.size)) (w.alloc (.cells cs e))) (ai (w.alloc (.cells cs e)) st1.cont vl) (.slice (some ⟨w.heap.size,0,none⟩) 1 1) (fun b=>b=w.heap.size\/∃j,Fs j b) (.o (.slice z [.agg l'])):=by
  refine aq.slice (L:=[.agg l']) (off:=0) (cap:=1) (sz:=z.cells.length) Fs (heap_alloc_new w _) (by simp;omega) (by simp) (by simp[maxLen]) hz rfl (fun x hx=>?_) (fun j c V=>?_) (.inl rfl) (fun j b I=>⟨fun hh=>by have:=ab j b I;omega,.inr ⟨j,I⟩⟩) k5
  ·rw[List.mem_singleton] at hx
   subst hx;exact a7
  ·obtain⟨a1,a6⟩:=ao j c V
   rw[Nat.zero_add,Z j a6];exact(k4 j c a1).1.mono (fun b I=>⟨⟨by have:=I.1.1;simp;omega,I.1.2⟩,fun hg=>hg.elim I.2.1 fun hh=>by have:=I.1.1;omega,I.2.2⟩) (fun b I=>heap_alloc_old w _ b I.1.1) (fun b I=>heap_alloc_old w _ b (ab j b I)) (fun _ h=>h)
 refine⟨_,k1,?_,St.fx S.wf _,by show st1.n+1=_;rw[S.n],fun i hi ax=>?_⟩
 ·rw[St.c8 S.wf,S.n]
  exact⟨_,fun _=>False,g1.put (k:=1000+st.n) (c:=.o (.slice z [.agg l'])) (F:=fun b=>b=w.heap.size\/∃j,Fs j b) (by rw[hd];rfl) I (fun b I=>I.elim (fun hh=>.inr ⟨by omega,by simp;omega⟩) fun⟨j,V⟩=>.inl (S.hF b ⟨j,V⟩).1) (fun _ h=>h.elim) (fun _ _ h=>h) (fun hh=>by cases hh)⟩
 ·rw[St.c8 S.wf,S.n,aI _ _ (by omega)];exact S.dd i ax
theorem zP:∀{l:List D},pZ l=true->∀x∈l,x.isAgg=false
 | [],_,x,h=>by cases h
 | y::r,I,x,h=>by
  simp only[pZ,Bool.and_eq_true,Bool.not_eq_true'] at I;rcases List.mem_cons.1 h with rfl | h
  ·exact I.1
  ·exact zP I.2 x h
theorem OU[Mode]{z:D}{l:List D}{K:St->Prop}{st:St}(hK:cE l (fun l' st=>K (st.push (.o (.slice z l')))) st)(h:Hp cx st.cont vl fp G w)(hw:st.wf)(hz:z.cells.length=1)(ax:pZ l=true)(a6:l.length<=16777216){cs:Array Value}(a1:cs.size=l.length)
  (Y:∀j c,l[j]?=some c->Pl w (ak cx fp G w) (ai w st.cont vl) (cs.getD j undef) c) (e:TypeId) :
  ∃st',K st'/\(∃ab G',Hp cx st'.cont (az vl (1000+st.n) (.slice (some ⟨w.heap.size,0,none⟩) l.length l.length)) ab G' (w.alloc (.cells cs e)))/\st'.wf/\st'.n=st.n+1/\∀i,i<1000->st.cont i=.dead->st'.cont i=.dead:=by
 obtain⟨l',st1,ad,G1,Fs,k1,V,k3,k4,k5,_⟩:=ko (A:=ak cx fp G w) (vs:=cs) l hK h hw (fun _ h=>h) Y;have g1:=V.hp.grow (w':=w.alloc (.cells cs e)) (by simp) (fun b I=>heap_alloc_old w _ b I) rfl rfl (.of rfl rfl);have hd:st1.cont (1000+st.n)=.dead:=St.cJ (by rw[<-V.n];simp only[St.in,not_or,not_and];omega);have Z:∀j b,Fs j b->b<w.heap.size:=fun j b I=>(V.hp.cY b (V.hF b ⟨j,I⟩).1).1
 have W:∀x∈l',x.cells=[x]:=fun x hx=>by
  obtain⟨j,S⟩:=List.mem_iff_getElem?.1 hx;obtain⟨_,_,d,r3,r4,r5⟩:=k4 j x S;exact D.cells_one (r4.trans (zP ax d (List.mem_of_getElem? r3)))
 have ag:∀j c,cellAt l' 1 j=some c->l'[j]?=some c:=fun j c S=>by
  unfold cellAt at S;rw[Nat.div_one,Nat.mod_one] at S;cases hq:l'[j]? with
  | none=>rw[hq] at S;cases S
  | some x =>
   rw[hq] at S;have:=W x (List.mem_of_getElem? hq);simp only[Option.bind_some,this] at S;exact S
 have I:aN (w.alloc (.cells cs e)) (ak cx ad (fun b=>G1 b\/(w.heap.size<=b/\b<(w.alloc (.cells cs e)).heap.size)) (w.alloc (.cells cs e))) (ai (w.alloc (.cells cs e)) st1.cont vl) (.slice (some ⟨w.heap.size,0,none⟩) l.length l.length) (fun b=>b=w.heap.size\/∃j,Fs j b) (.o (.slice z l')):=by
  rw[<-k3];refine aq.slice (L:=l') (off:=0) (cap:=l'.length) (sz:=1) Fs (heap_alloc_new w _) (by simp;omega) (Nat.le_refl _) (by simp only[maxLen];omega) (by decide) hz (fun x hx=>?_) (fun j c S=>?_) (.inl rfl) (fun j b I=>⟨fun hh=>by have:=Z j b I;omega,.inr ⟨j,I⟩⟩) k5
  ·rw[W x hx];rfl
  ·rw[Nat.zero_add]
   exact(k4 j c (ag j c S)).1.mono (fun b I=>⟨⟨by have:=I.1.1;simp;omega,I.1.2⟩,fun hg=>hg.elim I.2.1 fun hh=>by have:=I.1.1;omega,I.2.2⟩) (fun b I=>heap_alloc_old w _ b I.1.1) (fun b I=>heap_alloc_old w _ b (Z j b I)) (fun _ h=>h)
 refine⟨_,k1,?_,St.fx V.wf _,by show st1.n+1=_;rw[V.n],fun i hi ao=>?_⟩
 ·rw[St.c8 V.wf,V.n]
  exact⟨_,fun _=>False,g1.put (k:=1000+st.n) (c:=.o (.slice z l')) (F:=fun b=>b=w.heap.size\/∃j,Fs j b) (by rw[hd];rfl) I (fun b I=>I.elim (fun hh=>.inr ⟨by omega,by simp;omega⟩) fun⟨j,S⟩=>.inl (V.hF b ⟨j,S⟩).1) (fun _ h=>h.elim) (fun _ _ h=>h) (fun hh=>by cases hh)⟩
 ·rw[St.c8 V.wf,V.n,aI _ _ (by omega)];exact V.dd i ao
end
end Go.D3
namespace Go.D3
open Go
theorem Hj{ob ob':Nat->D}(h:∀j,j<1000->ob j=ob' j){σ:Nat->Nat}:∀{I:List Nat}{gs:List D},v8 ob σ I gs->v8 ob' σ I gs
 | [],[],h=>h
 | [],_::_,h=>h.elim
 | _::_,[],h=>h.elim
 | j::I,g::gs,⟨⟨h1,S⟩,V⟩=>⟨⟨h1,by rw[<-h j h1];exact S⟩,Hj h V⟩
theorem xL.mono[Mode]{P:Program}{f:FuncId}{ob ob':Nat->D}(h:∀j,j<1000->ob j=ob' j){ds:List D}{c:D}:xL P f ob ds c->xL P f ob' ds c :=
 fun⟨W,as,gs,rc,h1,I,S,V⟩=>⟨W,as,gs,rc,h1,I,Hj h S,V⟩
section
variable{P:Program}{cx:Ctx}{ct:Nat->D}{vl:Nat->Value}{fp:Nat->Nat->Prop}{G:Nat->Prop}{w:World}
end
end Go.D3
namespace Go.D3
open Go
structure Fm[Mode](cx:Ctx)(nt:Nat)(tr pre:List Nat)(ds:List (Option Nat))(st:St)(a:Act)(w:World):Prop where
 ex:∃vl fp G,Hp cx st.cont vl fp G w/\(∀(j t:Nat),tr[j]?=some t->pre.contains j=false->a.tmps.getD t undef=vl j)/\(∀(i t:Nat),i<st.n->ds[i]?=some (some t)->a.tmps.getD t undef=vl (1000+i))/\∀k,tr.length<=k->k<1000->vl k=cx.gv k
 wf:st.wf
 dd:∀j,pre.contains j=true->st.cont j=.dead
 size:a.tmps.size=nt
 defers:a.defers=cx.yE
structure km(nt:Nat)(tr pre:List Nat)(ds:List (Option Nat)):Prop where
 nodup:∀(i i' t:Nat),ds[i]?=some (some t)->ds[i']?=some (some t)->i=i'
 apart:∀(i t:Nat),ds[i]?=some (some t)->∀(j:Nat),tr[j]?=some t->pre.contains j=true
 aa4:∀(i i' t:Nat),tr[i]?=some t->tr[i']?=some t->i=i'
 aa5:∀(i t:Nat),tr[i]?=some t->t<nt
 iq:tr.length<500
 AL:∀j,pre.contains j=true->j<tr.length
section
variable{P:Program}{cx:Ctx}{nt:Nat}{tr pre:List Nat}{ds:List (Option Nat)}{st:St}{a:Act}{w:World}{o:Oper}{Q:Exit->Act->World->Prop}{vl:Nat->Value}{fp:Nat->Nat->Prop}{G:Nat->Prop}
theorem FW{s:ByteArray}{l:List UInt8}(h:dy s.data.toList l=true):Value.string s=.string ⟨l.toArray⟩:=by
 have:=FX h;rw[<-this,<-yD]
theorem zt[Mode](h:Hp cx st.cont vl fp G w)(Y:∀(j t:Nat),tr[j]?=some t->pre.contains j=false->a.tmps.getD t undef=vl j)(W:∀(i t:Nat),i<st.n->ds[i]?=some (some t)->a.tmps.getD t undef=vl (1000+i))
  {x:Operand} {y:X} (I:aP ds tr x y=true) (hi:∀i,y=.t i->i<st.n) (Z:∀j,y=.v j->pre.contains j=false):cC w (ak cx fp G w) (ai w st.cont vl) (a.eval x) (st.rd y):=by
 have lit:∀{v:Value}{d:D},Rd w (ak cx fp G w) v d->cC w (ak cx fp G w) (ai w st.cont vl) v d:=fun S=>Pl.qk (.rd S) qq
 unfold aP at I;split at I<;>try(cases I;done)
 ·rename_i t i
  have:=W i t (hi i rfl) (by simpa using I);show cC _ _ _ (a.tmps.getD t undef) (cB (1000+i) (st.cont (1000+i)));rw[this];exact oA (h.ok _)
 ·rename_i t j
  have:=Y j t (by simpa using I) (Z j rfl);show cC _ _ _ (a.tmps.getD t undef) (cB j (st.cont j));rw[this];exact oA (h.ok _)
 ·simp only[Bool.and_eq_true,decide_eq_true_eq] at I
  obtain⟨⟨rfl,rfl⟩,h1⟩:=I;exact lit (.int (qb h1))
 ·simp only[Bool.and_eq_true,decide_eq_true_eq] at I
  obtain⟨⟨rfl,rfl⟩,h1⟩:=I;exact lit (.int (qb h1))
 ·simp only[beq_iff_eq] at I
  subst I;exact lit .bool
 ·simp only[Bool.and_eq_true,decide_eq_true_eq] at I
  show cC _ _ _ (Value.string _) _;rw[FW I.1];exact lit (.str (by have:=I.2;simp only[maxLen];omega))
 ·exact lit .aH
 ·exact lit .bd
 ·simp only[beq_iff_eq] at I
  subst I;exact lit (.fn rfl (fun j x I=>by simp at I))
 ·rename_i g g'
  simp only[Bool.and_eq_true,beq_iff_eq] at I;obtain⟨V,I⟩:=I;subst V;obtain⟨d,S⟩:=Option.isSome_iff_exists.1 I;have:=h.gl.gl _ _ S;show cC _ _ _ _ ((gl g).getD .dead);rw[S];exact lit this
 ·exact lit .bz
theorem Fm.put[Mode](hS:km nt tr pre ds)(h:Fm cx nt tr pre ds st a w){s:bh}(Z:ds[st.n]?=some (fZ o s))(ha:s.k.di=none)(a7:∀t,o.dst=some t->t<nt){st':St}{w':World}{v:Value}
  (W:∀(j t:Nat),tr[j]?=some t->pre.contains j=false->a.tmps.getD t undef=vl j) (V:∀(i t:Nat),i<st.n->ds[i]?=some (some t)->a.tmps.getD t undef=vl (1000+i)) (a6:∀k,tr.length<=k->k<1000->vl k=cx.gv k)
  (hp:∃ab G',Hp cx st'.cont (az vl (1000+st.n) v) ab G' w') (a8:st'.wf) (hn:st'.n=st.n+1) (a1:∀j,j<1000->st.cont j=.dead->st'.cont j=.dead):Fm cx nt tr pre ds st' (a.put o.dst v) w':=by
 obtain⟨ab,G',hp⟩:=hp;have ax:fZ o s=o.dst:=by simp[fZ,ha]
 rw[ax] at Z;have ao:∀j t,tr[j]?=some t->j<1000:=fun j t S=>by have:=(List.getElem?_eq_some_iff.1 S).1;have:=hS.iq;omega
 refine⟨⟨_,_,_,hp,fun j t S I=>?_,fun i t hi hit=>?_,fun k h1 h2=>by rw[aI _ _ (by omega)];exact a6 k h1 h2⟩,a8,fun j S=>a1 j (by have:=hS.AL j S;have:=hS.iq;omega) (h.dd j S),?_,?_⟩
 ·rw[aI _ _ (by have:=ao j t S;omega)]
  cases hod:o.dst with
  | none=>exact W j t S I
  | some d =>
   have Y:d≠t:=by
    rintro rfl;rw[hod] at Z;have:=hS.apart _ _ Z j S;rw[I] at this;cases this
   simp only[Act.put];rw[getD_set_ne _ Y];exact W j t S I
 ·by_cases ag:i=st.n
  ·subst ag
   rw[bc];rw[Z] at hit;injection hit with hit
   rw[hit];simp only[Act.put];exact rA _ (by rw[h.size];exact a7 t hit)
  ·rw[aI _ _ (by omega)]
   have ad:i<st.n:=by omega
   cases hod:o.dst with
   | none=>exact V i t ad hit
   | some d =>
    have Y:d≠t:=by
     rintro rfl;rw[hod] at Z;exact ag (hS.nodup _ _ _ hit Z)
    simp only[Act.put];rw[getD_set_ne _ Y];exact V i t ad hit
 ·cases o.dst<;>simp[Act.put,h.size]
 ·cases o.dst<;>simp[Act.put,h.defers]
theorem IN[Mode](h:Hp cx st.cont vl fp G w)(hw:st.wf){v:Value}{c:D}(V:aN w (ak cx fp G w) (ai w st.cont vl) v (fun _=>False) c) :
  (∃I G',Hp cx (st.push c).cont (az vl (1000+st.n) v) I G' w)/\(st.push c).wf/\(st.push c).n=st.n+1/\∀j,j<1000->st.cont j=.dead->(st.push c).cont j=.dead:=by
 have S:st.cont (1000+st.n)=.dead:=St.cJ (by simp only[St.in,not_or,not_and];omega);refine⟨⟨az fp (1000+st.n) fun _=>False,G,?_⟩,St.fx hw _,rfl,fun i hi S=>by rw[St.c8 hw,aI _ _ (by omega)];exact S⟩;rw[St.c8 hw];exact h.put (by rw[S];rfl) (F:=fun _=>False) V (fun _ h=>h.elim) (fun _ h=>h) (fun _ h=>h.elim) (fun _ _ h=>h)
theorem Ni{A:Nat->Prop}{R:Value->D->Prop}{v:Value}{d:D}(h:Pl w A R v d)(I:d.cL=true){g:Option Bool}(hg:g≠some false):aN w A R v (fun _=>False) (qM g d):=by
 cases g with
 | none=>cases d<;>first | exact h | cases I
 | some b=>cases b with
  | false=>exact absurd rfl hg
  | true=>exact show aN w A R v (fun _=>False) (.when true d) from⟨fun _=>h,fun h=>absurd h (by simp)⟩
theorem Nj{A:Nat->Prop}{R:Value->D->Prop}{d:D}:aN w A R undef (fun _=>False) (.when false d) :=
 show(false=true->Pl w A R undef d)/\(false=false->undef=undef) from⟨fun h=>absurd h (by simp),fun _=>rfl⟩
theorem jz{K:Act->World->Prop}{v:Value}{w':World}(I:(execOp a.eval o).run P w=.ok (.value v) w')(h:K (a.put o.dst v) w'):o.wp P a w K Q:=by
 unfold Oper.wp;rw[I,Oper.upon_value];exact h
theorem Ef{K:Act->World->Prop}{w':World}(I:(execOp a.eval o).run P w=.ok .skip w')(h:K (a.put o.dst undef) w'):o.wp P a w K Q:=by
 unfold Oper.wp;rw[I,Oper.upon_skip];exact h
theorem JW{t:TypeId}{x y:Operand}(W:o.op=.store t x y){n:Nat}(V:eG P t n=true){b off:Nat}(Z:a.eval x=.pointer (some ⟨b,off,none⟩))(Y:(a.eval y).cells.size=n)
  (S:∀i,i<n->(w.cell? ⟨b,off+i,none⟩).isSome=true/\w.frozen? ⟨b,off+i,none⟩=false) (h1:∀v∈(a.eval y).cells.toList,v.oneCell'=true) :
  (execOp a.eval o).run P w=.ok .skip (w.setCells b off (a.eval y).cells.toList):=by
 have aK:=run_storeCells_cells (P:=P) b off (a.eval y).cells.toList 0 w
  (fun j I=>by simp at I;exact(S j (by omega)).1)
  (fun j I=>by simp at I;exact(S j (by omega)).2) h1
 simp only[Nat.add_zero] at aK;simp only[execOp,W,Instr.storeAt,Instr.sureAddr,storeVar,Z,Sem.run_bind,Sem.run_pure,Result.andThen_ok,BB V,Y];simp[aK]
theorem wV{k:Kp}{i:Nat}(h:X.t i∈k.xs):i∈k.reads:=by
 have one:∀{x:X},X.t i=x->i∈gY x:=by rintro x rfl;simp[gY]
 have opt:∀{x:Option X},X.t i∈x.toList->i∈AR x:=by
  intro x I;cases x with
  | none=>simp at I
  | some x=>simp at I;exact one I
 cases k<;>simp only[Kp.xs,List.mem_cons,List.mem_append,List.not_mem_nil,or_false,List.mem_map,List.mem_flatMap,Kp.reads] at h|-
 case qF x lo hi=>exact h.elim (fun h=>.inl (h.elim (fun h=>.inl (one h)) fun h=>.inr (opt h))) fun h=>.inr (opt h)
 case sl x lo hi=>exact h.elim (fun h=>.inl (h.elim (fun h=>.inl (one h)) fun h=>.inr (opt h))) fun h=>.inr (opt h)
 all_goals first
  | exact one h
  | exact h.elim (fun h=>.inl (one h)) fun h=>.inr (one h)
  | exact h.elim (fun h=>.inl (.inl (one h))) fun h=>h.elim (fun h=>.inl (.inr (one h))) fun h=>.inr (one h)
  | exact⟨_,h,one rfl⟩
  | (obtain⟨p,hp,he⟩:=h;exact⟨p,hp,one he.symm⟩)
  | (rcases h with h | h<;>simp at h<;>simp[h])
  | exact h.elim (fun h=>.inl (one h)) fun h=>.inr ⟨_,h,one rfl⟩
theorem vT{x:Operand}{i:Nat}(h:aP ds tr x (.t i)=true){v:Value}(I:∀t,ds[i]?=some (some t)->a.tmps.getD t undef=v):a.eval x=v:=by
 unfold aP at h;split at h<;>first | contradiction | skip
 all_goals(injections<;>subst_vars<;>first | exact I _ (by simpa using h) | cases h)
theorem QX{ds:List (Option Nat)}{tr:List Nat}{x:Operand}{j:Nat}(h:aP ds tr x (.v j)=true):∃t,tr[j]?=some t/\x=.tmp t:=by
 cases x
 case tmp t=>exact⟨t,by simpa[aP] using h,rfl⟩
 all_goals(unfold aP at h;split at h<;>first | contradiction | cases h)
theorem ue[Mode](hS:km nt tr pre ds)(h:Fm cx nt tr pre ds st a w){s:bh}{g:Option Bool}(hg:g≠some false)(hk:bb P ds tr o s.k=true)(hd:ds[st.n]?=some (fZ o s))
  (b3:∀j,s.k.di=some j->o.dst=tr[j]?/\j<tr.length/\pre.contains j=false) (ax:∀t,o.dst=some t->t<nt) (a1:∀i,i∈s.k.reads->i<st.n) (eP:∀j,X.v j∈s.k.xs->pre.contains j=false)
  {K:St->Prop} (I:br P s.k g K st):o.wp P a w (fun a' w'=>∃st',K st'/\Fm cx nt tr pre ds st' a' w'/\st'.n=st.n+1) Q:=by
 obtain⟨vl,fp,G,hp,ad,Y,ag⟩:=h.ex;obtain⟨g0,k⟩:=s;simp only at hk hd b3 a1 eP I
 have hx:∀y,y∈k.xs->∀x,aP ds tr x y=true->cC w (ak cx fp G w) (ai w st.cont vl) (a.eval x) (st.rd y):=fun y hy x hQ =>
  zt hp ad Y hQ (fun i hi=>a1 i (wV (by rw[<-hi];exact hy))) (fun j hj=>eP j (by rw[<-hj];exact hy))
 have hC:∀j,∃F,aN w (ak cx fp G w) (ai w st.cont vl) (vl j) F (st.cont j):=fun j=>⟨_,hp.ok j⟩
 have eb:st.cont (1000+st.n)=.dead:=St.cJ (by simp only[St.in,not_or,not_and];omega)
 have pure:k.di=none->iz (bO k st.rd st.cont) g K st->o.wp P a w (fun a' w'=>∃st',K st'/\Fm cx nt tr pre ds st' a' w'/\st'.n=st.n+1) Q:=by
  intro b2 I;unfold iz at I;split at I
  ·exact absurd I.1 hg
  rename_i side res e9;obtain⟨hs,hB,hK⟩:=I
  have ej:side:=by
   cases g with
   | none=>exact hs
   | some b=>cases b with
    | false=>exact absurd rfl hg
    | true=>exact hs rfl
  obtain⟨v,ab,bF⟩:=Ix (P:=P) (o:=o) (ob:=st.cont) e9 hk hx (fun _ _=>rfl) hC ej;obtain⟨h1,h2,h3,h4⟩:=IN hp h.wf (Ni bF hB hg);exact jz ab ⟨_,hK,h.put hS (s:=⟨g0,k⟩) hd b2 ax ad Y ag h1 h2 h3 h4,h3⟩
 have new:k.di=none->fo (bX k st.rd) g K st->o.wp P a w (fun a' w'=>∃st',K st'/\Fm cx nt tr pre ds st' a' w'/\st'.n=st.n+1) Q:=by
  intro b2 I;unfold fo at I;cases g with
  | some b=>exact I.elim
  | none =>
  cases hnew:bX k st.rd with
  | none=>rw[hnew] at I;exact I.elim
  | some r =>
   obtain⟨side,c⟩:=r;rw[hnew] at I;obtain⟨hs,hK⟩:=I;obtain⟨v,w',F,ab,cd,hF,hc,cc⟩:=HM (P:=P) (o:=o) (A:=ak cx fp G w) hnew hk hx (fun b hb=>hb.1.1) hs;have h1:=hp.add cd (k:=1000+st.n) (by rw[eb];rfl) hF hc cc;rw[<-St.c8 h.wf] at h1;exact jz ab ⟨_,hK,h.put hS (s:=⟨g0,k⟩) hd b2 ax ad Y ag ⟨_,_,h1⟩ (St.fx h.wf _) rfl (fun i hi hd=>by rw[St.c8 h.wf,aI _ _ (by omega)];exact hd),rfl⟩
 have ch:∀(j:Nat)(x:X),(k=.ch j x\/k=.kr j x\/k=.ku j x)->(st.rd x).gate=true->(∀v,Pl w (ak cx fp G w) (ai w st.cont vl) v (st.rd x).core->∃st' b4 G',K st'/\Hp cx st'.cont (az (az vl j v) (1000+st.n) undef) b4 G' w/\st'.wf/\st'.n=st.n+1/\∀i,i≠j->i<1000->st.cont i=.dead->st'.cont i=.dead) ->
   o.wp P a w (fun a' w'=>∃st',K st'/\Fm cx nt tr pre ds st' a' w'/\st'.n=st.n+1) Q:=by
  intro j x a6 S ev;have fl:k.di=some j:=by rcases a6 with rfl | rfl | rfl<;>rfl
  obtain⟨cy,cI,ef⟩:=b3 j fl;have e7:x∈k.xs:=by rcases a6 with rfl | rfl | rfl<;>simp[Kp.xs]
  have cj:∃Z,wI o.op=some Z/\aP ds tr Z x=true:=by
   rcases a6 with rfl | rfl | rfl
   all_goals
    simp only[bb] at hk;split at hk<;>try(cases hk;done)
    exact⟨_,by assumption,hk⟩
  obtain⟨Z,V,hP⟩:=cj;obtain⟨st',b4,G',hK,h1,h2,h3,h4⟩:=ev (a.eval Z) ((hx x e7 Z hP).1 S);refine jz (xG (wJ V)) ⟨st',hK,⟨⟨_,_,_,h1,fun j' t b0 fj=>?_,fun i t hi hit=>?_,fun k k1 k2=>by rw[aI _ _ (by omega),aI _ _ (by have:=hS.iq;omega)];exact ag k k1 k2⟩,h2,fun i hi=>h4 i (by rintro rfl;rw[hi] at ef;cases ef) (by have:=hS.AL i hi;have:=hS.iq;omega) (h.dd i hi),?_,?_⟩,h3⟩
  ·have hU:j'<1000:=by have:=(List.getElem?_eq_some_iff.1 b0).1;have:=hS.iq;omega
   rw[aI _ _ (by omega)];have b1:tr[j]?=some tr[j]:=List.getElem?_eq_getElem cI;rw[cy,b1];simp only[Act.put];by_cases ec:j'=j
   ·subst ec
    rw[b1] at b0;injection b0 with b0
    rw[bc,<-b0];exact rA _ (by rw[h.size];exact hS.aa5 _ _ b1)
   ·rw[aI _ _ ec,getD_set_ne _ (by rintro rfl;exact ec (hS.aa4 _ _ _ b0 b1))]
    exact ad j' t b0 fj
  ·have b1:tr[j]?=some tr[j]:=List.getElem?_eq_getElem cI
   have hV:i≠st.n:=by
    rintro rfl;rw[hd] at hit;simp[fZ,fl] at hit
   rw[aI _ _ (by omega),aI _ _ (by have:=hS.iq;omega),cy,b1];simp only[Act.put]
   rw[getD_set_ne _ (by
    rintro rfl;have:=hS.apart _ _ hit j b1
    rw[ef] at this;cases this)]
   exact Y i t (by omega) hit
  ·cases o.dst<;>simp[Act.put,h.size]
  ·cases o.dst<;>simp[Act.put,h.defers]
 have store:∀(n:Nat)(x y:X),(k=.st x y/\n=1\/k=.eh n x y)->((st.rd x).gate&&(st.rd y).gate)=true->lq n (st.rd x).core (st.rd y).core K st->o.wp P a w (fun a' w'=>∃st',K st'/\Fm cx nt tr pre ds st' a' w'/\st'.n=st.n+1) Q:=by
  intro n x y a6 S I;have b2:k.di=none:=by rcases a6 with⟨rfl,_⟩ | rfl<;>rfl
  have cm:x∈k.xs/\y∈k.xs:=by rcases a6 with⟨rfl,_⟩ | rfl<;>simp[Kp.xs]
  have cj:∃t Z y',o.op=.store t Z y'/\aP ds tr Z x=true/\aP ds tr y' y=true/\eG P t n=true:=by
   rcases a6 with⟨rfl,rfl⟩ | rfl
   all_goals
    simp only[bb] at hk;split at hk<;>try(cases hk;done)
    rename_i t Z y' V;simp only[Bool.and_eq_true] at hk;exact⟨t,Z,y',Ig V,hk.1.1,hk.1.2,hk.2⟩
  obtain⟨t,Z,y',ho,eF,eT,bT⟩:=cj;simp only[Bool.and_eq_true] at S;obtain⟨b,off,e1,e2,e3,e4,st',b4,G',h0,h1,h2,h3,h4⟩:=MQ I hp h.wf ((hx x cm.1 Z eF).1 S.1) ((hx y cm.2 y' eT).1 S.2) undef;exact Ef (JW ho bT e1 e2 e3 e4) ⟨_,h0,h.put hS (s:=⟨g0,k⟩) hd b2 ax ad Y ag ⟨_,_,h1⟩ h2 h3 h4,h3⟩
 have cv:∀(n:Nat)(x y:X),k=.mj n x y->((st.rd x).gate&&(st.rd y).gate)=true->oX n (st.rd x).core (st.rd y).core K st->o.wp P a w (fun a' w'=>∃st',K st'/\Fm cx nt tr pre ds st' a' w'/\st'.n=st.n+1) Q:=by
  intro n x y a6 S I;have b2:k.di=none:=by subst a6;rfl
  have cm:x∈k.xs/\y∈k.xs:=by subst a6;simp[Kp.xs]
  have cj:∃t Z y',o.op=.store t Z y'/\aP ds tr Z x=true/\aP ds tr y' y=true/\eG P t n=true:=by
   subst a6
   all_goals
    simp only[bb] at hk;split at hk<;>try(cases hk;done)
    rename_i t Z y' V;simp only[Bool.and_eq_true] at hk;exact⟨t,Z,y',Ig V,hk.1.1,hk.1.2,hk.2⟩
  obtain⟨t,Z,y',ho,eF,eT,bT⟩:=cj;simp only[Bool.and_eq_true] at S;obtain⟨b,off,e1,e2,e3,e4,st',b4,G',h0,h1,h2,h3,h4⟩:=aaG I hp h.wf ((hx x cm.1 Z eF).1 S.1) ((hx y cm.2 y' eT).1 S.2) undef;exact Ef (JW ho bT e1 e2 e3 e4) ⟨_,h0,h.put hS (s:=⟨g0,k⟩) hd b2 ax ad Y ag ⟨_,_,h1⟩ h2 h3 h4,h3⟩
 cases k with
 | ch j x =>
  obtain⟨_,S,I⟩:=I;exact ch j x (.inl rfl) S fun v bF=>ES I hp h.wf (by have:=(b3 j rfl).2.1;have:=hS.iq;omega) bF undef
 | kr j x =>
  obtain⟨_,S,I⟩:=I;exact ch j x (.inr (.inl rfl)) S fun v bF=>OO I hp h.wf bF undef
 | ku j x =>
  obtain⟨_,S,I⟩:=I;exact ch j x (.inr (.inr rfl)) S fun v bF=>OP I hp h.wf (by have:=(b3 j rfl).2.1;have:=hS.iq;omega) bF undef
 | st x y=>exact store 1 x y (.inl ⟨rfl,rfl⟩) I.2.1 I.2.2
 | eh n x y=>exact store n x y (.inr rfl) I.2.1 I.2.2
 | mj n x y=>exact cv n x y rfl I.2.1 I.2.2
 | jh f xs =>
  cases xs with
  | nil=>exact I.elim
  | cons x0 r =>
   refine QQ hp h.wf hk hx I fun v w' st' hK b5 eB hn b9=>?_
   exact⟨st',hK,h.put hS (s:=⟨g0,.jh f (x0::r)⟩) hd rfl ax ad Y ag b5 eB hn b9,hn⟩
 | bo x =>
  obtain⟨_,S,I⟩:=I;simp only[bb] at hk;split at hk<;>try(cases hk;done)
  rename_i Z V;have bF:=(hx x (by simp[Kp.xs]) Z hk).1 S;obtain⟨c,st2,gg,G2,F,r1,r2,r3,r4,r5,r6,r7,r8⟩:=E1 hp h.wf bF I;have hR:Hp cx st2.cont vl gg F w:=r2.release r5;obtain⟨s1,s2,s3,s4⟩:=Jm hR r7 r8 (r3.mono (Q:=fun _=>True) (fun b hb=>⟨hb.1,fun hf=>hb.2.1 (r5 b hf),hb.2.2⟩) (fun _ _=>rfl) (fun _ _=>rfl) (fun _ h=>h) (bw (fun _=>trivial) _) fun _ _ _ h=>h) r4;exact jz (xG (wJ V)) ⟨_,r1,h.put hS (s:=⟨g0,.bo x⟩) hd rfl ax ad Y ag s1 s2 s3 (fun i hi b9=>s4 i hi (r6 i b9)),s3⟩
 | my n x =>
  obtain⟨_,S,I⟩:=I;simp only[bb] at hk;split at hk<;>try(cases hk;done)
  rename_i e Z V;simp only[Bool.and_eq_true] at hk;obtain⟨st',h0,h1,h2,h3,h4⟩:=OV I hp h.wf ((hx x (by simp[Kp.xs]) Z hk.1).1 S) e;exact jz (xf (wG V)) ⟨_,h0,h.put hS (s:=⟨g0,.my n x⟩) hd rfl ax ad Y ag h1 h2 h3 h4,h3⟩
 | mu z x =>
  obtain⟨_,S,I⟩:=I;simp only[bb] at hk;split at hk<;>try(cases hk;done)
  rename_i t n' ps V;simp only[Bool.and_eq_true,decide_eq_true_eq] at hk;obtain⟨⟨⟨⟨rfl,a8⟩,a7⟩,ao⟩,W⟩:=hk;split at W<;>try(cases W;done)
  rename_i e he;obtain⟨i,z',h1,h2,h3,h4,h5⟩:=sI W;have hu:=kg he
  obtain⟨Z,hD,hN⟩:∃Z,ps.toList=[(0,Z)]/\aP ds tr Z x=true:=by
   have hg:=zr a8;generalize ps.toList=pl at hg
   match pl,hg with
   | [(i,Z)],hg =>
    obtain⟨h6,h7⟩:=hg.2 0 i Z 0 x rfl rfl;exact⟨Z,by rw[h6],h7⟩
   | [],hg=>cases hg.1
   | _::_::_,hg=>have:=hg.1;simp at this
  obtain⟨bT,hb⟩:=OT I hp h.wf ((hx x (by simp[Kp.xs]) Z hN).1 S) a7 e;obtain⟨dm,f1,f2,f3⟩:=Qc (sz:=i.size) (cs:=madeCells z'.cells (1*i.size)) (v:=a.eval Z) (by rw[bT,h3]) (by simp[madeCells]);obtain⟨st',k0,k1,k2,k3,k4⟩:=hb dm (by rw[f2,h3]) (fun j hj=>f3 j (by rw[h3];exact hj));exact jz (xe (Ab V) hu h1 h2 (by omega) (by rw[hD];exact f1)) ⟨_,k0,h.put hS (s:=⟨g0,.mu z x⟩) hd rfl ax ad Y ag k1 k2 k3 k4,k3⟩
 | mw z n parts =>
  obtain⟨_,I⟩:=I;simp only[bb] at hk;split at hk<;>try(cases hk;done)
  rename_i t n' ps V;simp only[Bool.and_eq_true,decide_eq_true_eq,beq_iff_eq] at hk;obtain⟨⟨⟨⟨rfl,a8⟩,a7⟩,ao⟩,W⟩:=hk;split at W<;>try(cases W;done)
  rename_i e he;obtain⟨i,z',h1,h2,h3,h4,h5⟩:=sI W;have hu:=kg he;unfold qX at I;split at I
  ·exact I.elim
  rename_i g l hf;obtain⟨hg,cq,dk,hK⟩:=I
  have hq:∀j c,cellAt (List.replicate n z) z.cells.length j=some c->Pl w (ak cx fp G w) (ai w st.cont vl) ((madeCells z'.cells (n*i.size)).getD j undef) c/\c.pc=true:=by
   intro j c hj;rw[ym a7] at hj;split at hj
   ·rename_i hl
    rw[zd (by rw[h3];exact hl) (by omega),h4];exact⟨.rd (xI (h5 _ _ hj)),Nt (h5 _ _ hj)⟩
   ·cases hj
  obtain⟨dm,h6,h7,h8,h9,gn⟩:=y4 (w:=w) (A:=ak cx fp G w) (ct:=st.cont) (vl:=vl) (a:=a) a7 ps.toList parts (madeCells z'.cells (n*i.size)) (List.replicate n z) g l a8 hx (by simp[madeCells,h3]) (fun x hx=>by rw[(List.mem_replicate.1 hx).2]) hq hf hg;have hL:l.length=n:=by simpa using h8
  obtain⟨st',k0,k1,k2,k3,k4⟩:=OU hK hp h.wf cq dk (by rw[cq] at ao;omega) (cs:=dm) (by rw[h7,cq,Nat.mul_one]) (fun j c hj=>(gn j c (by
   rw[cq];unfold cellAt;rw[Nat.div_one,Nat.mod_one,hj,Option.bind_some,D.cells_one (zP dk c (List.mem_of_getElem? hj))]
   rfl)).1) e
  rw[<-h3] at h6;rw[hL] at k1;exact jz (xe (Ab V) hu h1 h2 (by rw[h3];exact ao) h6) ⟨_,k0,h.put hS (s:=⟨g0,.mw z n parts⟩) hd rfl ax ad Y ag k1 k2 k3 k4,k3⟩
 | ng kk m k x =>
  obtain⟨_,S,I⟩:=I;simp only[bb] at hk;split at hk<;>try(cases hk;done)
  rename_i t m' k' Z V;have ho:=V8 V;simp only[Bool.and_eq_true] at hk S;obtain⟨⟨⟨a8,a7⟩,ao⟩,W⟩:=hk;split at W<;>try(cases W;done)
  rename_i kt et hr;obtain⟨w',ab,st',h0,h1,h2,h3,h4⟩:=Tg I hp h.wf ((hx m (by simp[Kp.xs]) m' a8).1 S.1.1) ((hx k (by simp[Kp.xs]) k' a7).1 S.1.2) ((hx x (by simp[Kp.xs]) Z ao).1 S.2) (we hr) W undef;refine Ef (w':=w') ?_ ⟨_,h0,h.put hS (s:=⟨g0,.ng kk m k x⟩) hd rfl ax ad Y ag h1 h2 h3 h4,h3⟩;simp only[execOp,ho,Sem.run_bind,Sem.run_pure,Result.andThen_ok,ab]
 | ni j =>
  obtain⟨_,I⟩:=I;simp only[bb] at hk;split at hk<;>try(cases hk;done)
  rename_i Z V;have ho:=Wa V;obtain⟨t,hE,rfl⟩:=QX hk;have hM:a.eval (.tmp t)=vl j:=ad j t hE (eP j (by simp[Kp.xs]));obtain⟨w',v,ab,st',h0,h1,h2,h3,h4⟩:=Tv (P:=P) (ty:=o.type) I hp h.wf;refine jz (v:=v) (w':=w') ?_ ⟨_,h0,h.put hS (s:=⟨g0,.ni j⟩) hd rfl ax ad Y ag h1 h2 h3 h4,h3⟩;simp only[execOp,ho,hM,Sem.run_bind,Sem.run_pure,Result.andThen_ok,ab]
 | dyn x xs =>
  refine PI hp h.wf hk hx hg I fun v w' st' hK b5 eB hn b9=>?_
  exact⟨st',hK,h.put hS (s:=⟨g0,.dyn x xs⟩) hd rfl ax ad Y ag b5 eB hn b9,hn⟩
 | call f xs =>
  obtain⟨ft,res,cr,ha,cp,gT,hK⟩:=I
  have hh:eN st.rd xs=true/\aA P f (ft.map .v) res/\(res.bA=true\/kW st.rd xs):=by
   cases g with
   | none=>exact cp
   | some b=>cases b with
    | false=>exact absurd rfl hg
    | true=>exact cp rfl
  refine Fb (ob:=st.cont) hp hk hx (fun _ _=>rfl) ha hh.1 hh.2.1 hh.2.2 g hg gT fun v w' F cd hF hc cc=>?_
  have h1:=hp.add cd (k:=1000+st.n) (by rw[eb];rfl) hF hc cc;rw[<-St.c8 h.wf] at h1;exact⟨_,hK,h.put hS (s:=⟨g0,.call f xs⟩) hd rfl ax ad Y ag ⟨_,_,h1⟩ (St.fx h.wf _) rfl (fun i hi hd=>by rw[St.c8 h.wf,aI _ _ (by omega)];exact hd),rfl⟩
 | app sz bytes s x =>
  obtain⟨_,S,I⟩:=I;simp only[bb] at hk;split at hk<;>try(cases hk;done)
  rename_i s' Z t t' V;have ho:=qe V;simp only[Bool.and_eq_true,beq_iff_eq] at hk;obtain⟨⟨⟨a8,a7⟩,rfl⟩,ao⟩:=hk;split at ao<;>try(cases ao;done)
  rename_i e he;simp only[Bool.and_eq_true] at ao;obtain⟨W,bg⟩:=ao;split at bg<;>try(cases bg;done)
  rename_i i hi;simp only[Bool.and_eq_true,decide_eq_true_eq,Option.any_eq_true] at bg;obtain⟨⟨⟨bT,ea⟩,cg⟩,z,hz,e0⟩:=bg
  have dn:i.bytes=bytes:=by
   unfold pq at W;rw[hi] at W;simpa using W
  have ht:=kg he;simp only[Bool.and_eq_true] at S;obtain⟨v',w',ab,st',b4,G',h0,h1,h2,h3,h4⟩:=Oi (ty:=o.type) I hp h.wf ((hx s (by simp[Kp.xs]) s' a8).1 S.1) ((hx x (by simp[Kp.xs]) Z a7).1 S.2) ht hi hz e0 cg bT dn ea;refine jz (v:=v') (w':=w') ?_ ⟨_,h0,h.put hS (s:=⟨g0,.app sz bytes s x⟩) hd rfl ax ad Y ag ⟨_,_,h1⟩ h2 h3 h4,h3⟩;simp only[execOp,ho,resolve,invoke,builtin,Sem.run_bind,Sem.run_pure,Result.andThen_ok,List.map_toArray,List.map_cons,List.map_nil,ab]
 | eK sz bytes b s =>
  obtain⟨_,I⟩:=I;simp only[bb] at hk;split at hk<;>try(cases hk;done)
  rename_i s' Z t t' V;have ho:=qe V;simp only[Bool.and_eq_true,beq_iff_eq] at hk;obtain⟨⟨⟨a8,a7⟩,rfl⟩,ao⟩:=hk;split at ao<;>try(cases ao;done)
  rename_i e he;simp only[Bool.and_eq_true] at ao;obtain⟨W,bg⟩:=ao;split at bg<;>try(cases bg;done)
  rename_i i hi;simp only[Bool.and_eq_true,decide_eq_true_eq,Option.any_eq_true] at bg;obtain⟨⟨⟨bT,ea⟩,cg⟩,z,hz,e0⟩:=bg
  have dn:i.bytes=bytes:=by
   unfold pq at W;rw[hi] at W;simpa using W
  have ht:=kg he;obtain⟨rfl,c,hf,_,hK⟩:=EH I
  have e6:st.in (1000+b):=Classical.byContradiction fun hn=>by
   obtain⟨y,_,_,_,h1,_⟩:=hf;rw[St.cJ hn] at h1;cases h1
  have hT:b<st.n:=by rcases e6 with h1 | h1<;>omega
  have gF:=St.dR h.wf e6 (c:=.dead);have fs:(st.put (1000+b) .dead).wf:=St.fb h.wf _ _;have eg:(st.put (1000+b) .dead).n=st.n:=by unfold St.put;split<;>first | rfl | (split<;>rfl)
  obtain⟨v',w',ab,b4,G',b5⟩:=EF (ty:=o.type) (ke:=1000+st.n) hp hf eb ht hi hz e0 cg dn ea;have e5:((st.put (1000+b) .dead).push c).cont=az (az st.cont (1000+b) .dead) (1000+st.n) c:=by rw[St.c8 fs,eg,gF]
  rw[<-e5] at b5;have hI:(a.eval s')=vl (1000+b):=vT a8 fun t=>Y b t (a1 b (by simp[Kp.reads]))
  have hJ:(a.eval Z)=vl (1000+s):=vT a7 fun t=>Y s t (a1 s (by simp[Kp.reads]))
  refine jz (v:=v') (w':=w') ?_ ⟨_,hK,h.put hS (s:=⟨g0,.eK 1 bytes b s⟩) hd rfl ax ad Y ag ⟨_,_,b5⟩ (St.fx fs _) (by show(st.put _ _).n+1=_;rw[eg]) (fun i hi hd=>by rw[e5,aI _ _ (by omega),aI _ _ (by omega)];exact hd),by show(st.put _ _).n+1=_;rw[eg]⟩;rw[<-hI,<-hJ] at ab;simp only[execOp,ho,resolve,invoke,builtin,Sem.run_bind,Sem.run_pure,Result.andThen_ok,List.map_toArray,List.map_cons,List.map_nil,ab]
 | box n x=>exact new rfl I
 | fP n x=>exact new rfl I
 | fc zs=>exact new rfl I
 | ah z b l c=>exact new rfl I
 | gV=>exact new rfl I
 | gU T e x=>exact new rfl I
 | e8 x=>exact new rfl I
 | gM x=>exact new rfl I
 | aU z n ps=>exact new rfl I
 | _=>exact pure rfl I
theorem MC[Mode](hS:km nt tr pre ds)(h:Fm cx nt tr pre ds st a w){s:bh}(hd:ds[st.n]?=some (fZ o s))(Y:s.k.di=none)(W:∀t,o.dst=some t->t<nt)
  {K:St->Prop} (I:br P s.k (some false) K st):∃st',K st'/\Fm cx nt tr pre ds st' (a.put o.dst undef) w/\st'.n=st.n+1:=by
 obtain⟨vl,fp,G,hp,ad,ab,V⟩:=h.ex;obtain⟨g0,k⟩:=s
 have done:∀d,K (st.push (.when false d))->∃st',K st'/\Fm cx nt tr pre ds st' (a.put o.dst undef) w/\st'.n=st.n+1:=by
  intro d S;obtain⟨h1,h2,h3,h4⟩:=IN (v:=undef) hp h.wf (Nj (d:=d));exact⟨_,S,h.put hS hd Y W ad ab V h1 h2 h3 h4,h3⟩
 have pure:iz (bO k st.rd st.cont) (some false) K st->∃st',K st'/\Fm cx nt tr pre ds st' (a.put o.dst undef) w/\st'.n=st.n+1:=by
  intro I;unfold iz at I;split at I
  ·exact done _ I.2
  ·exact done _ I.2.2
 have new:fo (bX k st.rd) (some false) K st->∃st',K st'/\Fm cx nt tr pre ds st' (a.put o.dst undef) w/\st'.n=st.n+1:=by
  intro I;exact I.elim
 cases k with
 | ch j x=>cases I.1
 | kr j x=>cases I.1
 | ku j x=>cases I.1
 | st x y=>cases I.1
 | eh n x y=>cases I.1
 | mj n x y=>cases I.1
 | app sz bytes s x=>cases I.1
 | jh f xs =>
  cases xs with
  | nil=>exact I.elim
  | cons x0 r=>cases I.1
 | dyn x xs =>
  have I:@jK _ P (st.rd x).core (fY st.rd xs) (eN st.rd (x::xs)) (some false) ⟨K⟩ st:=I;exact done _ I
 | bo x=>cases I.1
 | ng kk m k v=>cases I.1
 | gV=>exact new I
 | gU T e x=>exact new I
 | e8 x=>exact new I
 | gM x=>exact new I
 | ni j=>cases I.1
 | eK sz bytes b s=>cases I.1
 | my n x=>cases I.1
 | mu z x=>cases I.1
 | mw z n ps=>cases I.1
 | call f xs =>
  obtain⟨ag,res,_,ao,Z,rfl | rfl,S⟩:=I<;>exact done _ S
 | box n x=>exact new I
 | fP n x=>exact new I
 | fc zs=>exact new I
 | ah z b l c=>exact new I
 | aU z n ps=>exact new I
 | _=>exact pure I
end
end Go.D3
namespace Go.D3
open Go
section
variable{P:Program}{cx:Ctx}{vl:Nat->Value}{fp:Nat->Nat->Prop}{G:Nat->Prop}{w:World}
theorem vg[Mode]:∀(pre:List Nat){st:St}{fp:Nat->Nat->Prop}{G:Nat->Prop},Hp cx st.cont vl fp G w->st.wf ->
  ∃S G',Hp cx (c7 pre st).cont vl S G' w/\(c7 pre st).wf/\(c7 pre st).n=st.n/\(∀i,st.cont i=.dead->(c7 pre st).cont i=.dead)/\∀j,j∈pre->(c7 pre st).cont j=.dead
 | [],st,fp,G,h,hw=>⟨fp,G,h,hw,rfl,fun _ h=>h,fun j hj=>by cases hj⟩
 | j::r,st,fp,G,h,hw=>by
  obtain⟨ab,G1,h1,h2,h3,h4⟩:=uw (j:=j) (v:=vl j) (c:=.dead) (F:=fun _=>False) h hw (fun _ h=>h.elim) (show Pl _ _ _ _ _ from Pl.dead) trivial (fun _ _ h=>h);rw[uR] at h1
  have W:((st.kill (aX j)).put j .dead).cont j=.dead:=by
   by_cases hin:(st.kill (aX j)).in j
   ·rw[St.dR (St.gG hw _) hin,bc]
   ·rw[St.re hin,St.cJ hin]
  obtain⟨V,Z,k1,k2,k3,Y,k5⟩:=vg r h1 h2;refine⟨V,Z,k1,k2,k3.trans h3,fun i hi=>Y i ?_,fun i hi=>?_⟩
  ·by_cases I:i=j
   ·subst I;exact W
   ·exact h4 i I hi
  ·rcases List.mem_cons.1 hi with rfl | hi
   ·exact Y _ W
   ·exact k5 i hi
theorem Hp.clear[Mode]{ct:Nat->D}(h:Hp cx ct vl fp G w)(S:Nat->Prop)[DecidablePred S](ag:∀j,¬S j->(ct j).refs fun d=>∀k,S k->cH k d) :
  ∃Z G',Hp cx (fun k=>if S k then .dead else ct k) vl Z G' w:=by
 refine⟨fun k b=>¬S k/\fp k b,fun b=>G b\/∃k,S k/\fp k b,?_⟩
 have aK:∀b,ak cx fp G w b->ak cx (fun k b=>¬S k/\fp k b) (fun b=>G b\/∃k,S k/\fp k b) w b:=by
  rintro b ⟨h1,h2,h3⟩;exact⟨h1,fun hg=>hg.elim h2 fun⟨k,_,hk⟩=>h3 k hk,fun j I=>h3 j I.2⟩
 have W:∀d,(∀k,S k->cH k d)->cX w w ct (fun k=>if S k then .dead else ct k) vl vl d:=by
  intro d hd;cases d<;>try trivial
  all_goals
   rename_i j p;intro hp;have I:¬S j:=fun V=>hd j V rfl
   simp only[if_neg I];exact⟨hp,trivial⟩
 refine⟨fun j=>?_,fun i j ab b hi I=>h.cz i j ab b hi.2 I.2,fun j b I hg=>?_,fun j I b Y=>?_,fun j b I=>h.lt j b I.2,fun b Y=>Y.elim (h.cY b) fun⟨k,_,hk⟩=>h.lt k b hk,h.size,h.same,h.os,h.tape,h.output⟩
 ·by_cases V:S j
  ·simp only[if_pos V];exact Pl.dead
  ·simp only[if_neg V]
   exact(h.ok j).mono aK (fun _ _=>rfl) (fun _ _=>rfl) (fun b Y=>⟨V,Y⟩) (ag j V) fun v d hq hr=>hr.bZ (de W hq)
 ·exact hg.elim (h.cK j b I.2) fun⟨k,hk,ad⟩=>h.cz j k (by rintro rfl;exact I.1 hk) b I.2 ad
 ·by_cases V:S j
  ·exact Y.1 V
  ·rw[if_neg V] at I;exact h.emp j I b Y.2
theorem Rf{Q:D->Prop}(q:D->Bool){c:D}(h:c.refs Q):(c.kill q).refs Q:=by
 induction c using D.ind with
 | agg l I | av l I | box l I | fn _ l I =>
  simp only[D.kill,D.refs,dL,bG,List.mem_map] at h|-
  rintro _ ⟨y,S,rfl⟩;exact I y S (h y S)
 | row z l _ I =>
  simp only[D.kill,D.refs,dL,bG,List.mem_map] at h|-
  rintro _ ⟨y,S,rfl⟩;exact I y S (h y S)
 | when g x I=>exact I h
 | sub a b=>simp only[D.kill];split<;>first | trivial | exact h
 | aG a b=>simp only[D.kill];split<;>first | trivial | exact h
 | pre a b n=>simp only[D.kill];split<;>first | trivial | exact h
 | _=>trivial
theorem SF[Mode]{st:St}(h:Hp cx st.cont vl fp G w)(hw:st.wf){j k:Nat}(W:j≠k) :
  let st1:=(st.kill (aX j)).kill (aX k);let st2:=(st1.put j (st1.cont k)).put k .dead
  ∃V G',Hp cx st2.cont (az vl j (vl k)) V G' w/\st2.wf/\st2.n=st.n/\∀i,i≠j->st.cont i=.dead->st2.cont i=.dead:=by
 intro st1 st2
 have h1:Hp cx st1.cont vl fp G w:=by
  have:=(h.kill (aX j));rw[<-St.cW] at this;have:=this.kill (aX k);rw[<-St.cW] at this;exact this
 have Z:st1.wf:=St.gG (St.gG hw _) _
 have ax:∀i,(st1.cont i).refs (cH k):=fun i=>by
  show(((st.kill (aX j)).kill (aX k)).cont i).refs _;rw[St.cW];exact de (fun d hd=>by cases d<;>simp_all[aX,cH]) (jk (aX k) _)
 have ao:∀i,(st1.cont i).refs (cH j):=fun i=>by
  show(((st.kill (aX j)).kill (aX k)).cont i).refs _;rw[St.cW];exact Rf _ (by rw[St.cW];exact de (fun d hd=>by cases d<;>simp_all[aX,cH]) (jk (aX j) _))
 have h2:=(h1.drop j ao (vl j));rw[uR] at h2
 have h3:=h2.drop k (fun i=>by
  by_cases S:i=j
  ·subst S;rw[bc];trivial
  ·rw[aI _ _ S];exact ax i) (vl k)
 rw[uR] at h3
 have aK:∀b,ak cx fp G w b->ak cx (az (az fp j fun _=>False) k fun _=>False) (fun b=>(G b\/fp j b)\/az fp j (fun _=>False) k b) w b:=by
  rintro b ⟨q1,q2,q3⟩;refine⟨q1,fun hg=>?_,fun i hi=>?_⟩
  ·rcases hg with(hg | hg) | hg
   ·exact q2 hg
   ·exact q3 j hg
   ·rw[aI _ _ (Ne.symm W)] at hg;exact q3 k hg
  ·by_cases I:i=k
   ·subst I;rw[bc] at hi;exact hi
   ·rw[aI _ _ I] at hi
    by_cases S:i=j
    ·subst S;rw[bc] at hi;exact hi
    ·rw[aI _ _ S] at hi;exact q3 i hi
 have key:∀c,(c=st1.cont k\/c=.dead)->∃V G',Hp cx (az (az (az st1.cont j .dead) k .dead) j c) (az vl j (vl k)) V G' w:=by
  intro c hc
  have ad:∃F,(∀b,F b->fp k b)/\aN w (ak cx fp G w) (ai w st1.cont vl) (vl k) F c/\(c.isObj=false->∀b,¬F b)/\c.refs (fun d=>cH j d/\cH k d):=by
   rcases hc with rfl | rfl
   ·exact⟨fp k,fun _ h=>h,h1.ok k,h1.emp k,Xo (ao k) (ax k)⟩
   ·exact⟨fun _=>False,fun _ h=>h.elim,show Pl _ _ _ _ _ from Pl.dead,fun _ _ h=>h,trivial⟩
  obtain⟨F,f1,f2,f3,f4⟩:=ad
  refine⟨_,fun _=>False,h3.put (k:=j) (v:=vl k) (c:=c) (F:=F) (by rw[aI _ _ W,bc];rfl)
   (f2.mono aK (fun _ _=>rfl) (fun _ _=>rfl) (fun _ h=>h) f4 fun v d hq hr=>hr.bZ (de (fun q hq=>by
     cases q<;>try trivial
     all_goals
      rename_i i p;intro hp;have n1:i≠j:=hq.1;have n2:i≠k:=hq.2;simp only[aI _ _ n1,aI _ _ n2]
      exact⟨hp,trivial⟩) hq))
   (fun b hb=>.inr (by rw[aI _ _ (Ne.symm W)];exact f1 b hb)) (fun _ h=>h.elim) (fun _ _ h=>h) f3⟩
 have Y:∃c,(c=st1.cont k\/c=.dead)/\st2.cont=az (az (az st1.cont j .dead) k .dead) j c:=by
  have a1:(st1.put j (st1.cont k)).wf:=St.fb Z _ _
  have ag:∀{s:St},s.wf->(s.put k .dead).cont=az s.cont k .dead:=by
   intro s hs;by_cases hin:s.in k
   ·exact St.dR hs hin _
   ·rw[St.re hin];funext i;simp only[az];split
    ·subst_vars;exact St.cJ hin
    ·rfl
  by_cases hin:st1.in j
  ·refine⟨_,.inl rfl,?_⟩
   show((st1.put j (st1.cont k)).put k .dead).cont=_;rw[ag a1,St.dR Z hin];funext i;simp only[az];by_cases I:i=k
   ·subst I;rw[if_pos rfl,if_neg (Ne.symm W),if_pos rfl]
   ·by_cases S:i=j
    ·subst S;simp[I]
    ·simp[I,S]
  ·refine⟨_,.inr rfl,?_⟩
   show((st1.put j (st1.cont k)).put k .dead).cont=_;rw[ag a1,St.re hin];funext i;simp only[az];by_cases I:i=k
   ·subst I;rw[if_pos rfl,if_neg (Ne.symm W),if_pos rfl]
   ·by_cases S:i=j
    ·subst S;simp[I,St.cJ hin]
    ·simp[I,S]
 obtain⟨c,hc,ab⟩:=Y;obtain⟨V,G',hh⟩:=key c hc;rw[<-ab] at hh;refine⟨V,G',hh,St.fb (St.fb Z _ _) _ _,?_,fun i hi hd=>?_⟩
 case refine_2 =>
  rw[ab,aI _ _ hi];by_cases I:i=k
  ·subst I;exact bc _ _ _
  ·rw[aI _ _ I,aI _ _ hi];exact St.jj _ (St.jj _ hd)
 show((st1.put j (st1.cont k)).put k .dead).n=st.n;rw[St.fW,St.fW];rfl
theorem Io[Mode]{st st1:St}{i:Nat}{x:D}{I:Nat->Nat->Prop}{V F:Nat->Prop}(S:Tk cx w vl st fp G st1 I V F)(h3:aq w (ak cx I V w) (vl (1000+i)) x F) :
  ∃W G',Hp cx ((st1.kill (aX (1000+i))).put (1000+i) (aV x)).cont vl W G' w/\((st1.kill (aX (1000+i))).put (1000+i) (aV x)).wf/\((st1.kill (aX (1000+i))).put (1000+i) (aV x)).n=st.n /\
   ∀k,k<1000->st.cont k=.dead->((st1.kill (aX (1000+i))).put (1000+i) (aV x)).cont k=.dead:=by
 obtain⟨c1,c2⟩:=nV (R:=ai w (st1.kill (aX (1000+i))).cont vl) h3;have Z:(aV x).refs (cH (1000+i)):=yv h3 _
 have key:∃F',(∀b,F' b->V b)/\aN w (ak cx I V w) (ai w (st1.kill (aX (1000+i))).cont vl) (vl (1000+i)) F' (aV x)/\((aV x).isObj=false->∀b,¬F' b):=by
  by_cases ho:(aV x).isObj=true
  ·exact⟨F,fun b hb=>(S.hF b hb).1,c1,fun hh=>by rw[ho] at hh;cases hh⟩
  ·exact⟨fun _=>False,fun _ h=>h.elim,c2 (by simpa using ho),fun _ _ h=>h⟩
 obtain⟨F',k1,k2,k3⟩:=key;obtain⟨Y,G2,k4,k5,k6,ab⟩:=uw S.hp S.wf k1 k2 Z k3;rw[uR] at k4;exact⟨Y,G2,k4,k5,k6.trans S.n,fun j hj hd=>ab j (by omega) (S.dd j hd)⟩
theorem Wm[Mode]{st:St}{i:Nat}(h:Hp cx st.cont vl fp G w)(hw:st.wf):∃I G',Hp cx (kU i (st.cont (1000+i)) st).cont vl I G' w/\(kU i (st.cont (1000+i)) st).wf/\(kU i (st.cont (1000+i)) st).n=st.n /\
  ∀k,k<1000->st.cont k=.dead->(kU i (st.cont (1000+i)) st).cont k=.dead:=by
 have same:∃I G',Hp cx st.cont vl I G' w/\st.wf/\st.n=st.n/\∀k,k<1000->st.cont k=.dead->st.cont k=.dead:=⟨fp,G,h,hw,rfl,fun _ _ h=>h⟩;cases hc:st.cont (1000+i)<;>try exact same
 rename_i k p
 have Y:Pl w (ak cx fp G w) (ai w st.cont vl) (vl (1000+i)) (.sub k p):=by
  have:=h.ok (1000+i);rw[hc] at this;exact this
 cases p with
 | nil =>
  unfold kU;dsimp only;by_cases hk : 1000<=k
  ·rw[if_pos hk]
   cases hx:(st.cont k).jw with
   | none=>exact same
   | some x =>
    obtain⟨y,st1,S,Z,F,⟨rfl,rfl⟩,V,W,h4,-,-⟩:=uZ (.sub k []) (K:=fun d st'=>d=x/\st'=(st.kill (aX k)).put k .dead) (by show cR (st.cont k).jw _;rw[hx];exact⟨rfl,rfl⟩) h hw (fun _ h=>h) Y;exact Io V W
  ·rw[if_neg hk];exact same
 | cons s p =>
  unfold kU;dsimp only;by_cases hk : 1000<=k
  ·rw[if_pos hk]
   obtain⟨y,st1,S,Z,F,⟨rfl,rfl⟩,V,W,h4,-,-⟩:=uZ (.sub k (s::p)) (K:=fun d st'=>d=(st.cont k).bm (s::p)/\st'=(st.kill (bP k (s::p))).put k (((st.kill (bP k (s::p))).cont k).hole (s::p))) ⟨rfl,rfl⟩ h hw (fun _ h=>h) Y;exact Io V W
  ·rw[if_neg hk];exact same
theorem Im[Mode]:∀(post:List (Nat×Nat)){st:St}{fp:Nat->Nat->Prop}{G:Nat->Prop},Hp cx st.cont vl fp G w->st.wf->∃I G',Hp cx (jo post st).cont vl I G' w/\(jo post st).wf/\(jo post st).n=st.n/\∀k,k<1000->st.cont k=.dead->(jo post st).cont k=.dead
 | [],st,fp,G,h,hw=>⟨fp,G,h,hw,rfl,fun _ _ h=>h⟩
 | (j,i)::r,st,fp,G,h,hw=>by
  obtain⟨W,G1,h1,Y,Z,h4⟩:=Wm (i:=i) h hw;obtain⟨S,V,k1,k2,k3,k4⟩:=Im r h1 Y;exact⟨S,V,k1,k2,k3.trans Z,fun k hk hd=>k4 k hk (h4 k hk hd)⟩
theorem FV[Mode]:∀(post:List (Nat×Nat)){st:St}{vl:Nat->Value}{fp:Nat->Nat->Prop}{G:Nat->Prop},Hp cx st.cont vl fp G w->st.wf->(∀p∈post,p.1<1000)->(post.map (·.1)).Nodup ->
  ∃I S G',Hp cx (kA post st).cont I S G' w/\(∀k,k ∉ post.map (·.1)->I k=vl k)/\(∀p∈post,I p.1=vl (1000+p.2))/\∀k,k ∉ post.map (·.1)->st.cont k=.dead->(kA post st).cont k=.dead
 | [],st,vl,fp,G,h,hw,_,_=>⟨vl,fp,G,h,fun _ _=>rfl,(fun p hp=>absurd hp (by simp)),fun _ _ h=>h⟩
 | (j,i)::r,st,vl,fp,G,h,hw,V,hnd=>by
  have hj:j<1000:=V (j,i) (by simp);obtain⟨Y,G1,h1,Z,h3,h4⟩:=SF h hw (j:=j) (k:=1000+i) (by omega);simp only[List.map_cons,List.nodup_cons] at hnd;obtain⟨I,S,G',k1,W,k3,k4⟩:=FV r h1 Z (fun p hp=>V p (by simp[hp])) hnd.2;refine⟨I,S,G',k1,fun k hk=>?_,fun p hp=>?_,fun k hk hd=>?_⟩
  ·simp only[List.map_cons,List.mem_cons,not_or] at hk
   rw[W k hk.2,aI _ _ hk.1]
  ·rcases List.mem_cons.1 hp with rfl | hp
   ·rw[W _ hnd.1,bc]
   ·rw[k3 p hp,aI _ _ (by omega)]
  ·simp only[List.map_cons,List.mem_cons,not_or] at hk
   exact k4 k hk.2 (h4 k hk.1 hd)
theorem Hp.Zm[Mode]{ct:Nat->D}{I:Nat->Value}(h:Hp cx ct vl fp G w)(he:∀k,ct k≠.dead->I k=vl k):Hp cx ct I fp G w:=by
 refine⟨fun j=>?_,h.cz,h.cK,h.emp,h.lt,h.cY,h.size,h.same,h.os,h.tape,h.output⟩;by_cases hd:ct j=.dead
 ·rw[hd];exact Pl.dead
 ·rw[he j hd]
  refine(h.ok j).mono (Q:=fun _=>True) (fun _ h=>h) (fun _ _=>rfl) (fun _ _=>rfl) (fun _ h=>h) (bw (fun _=>trivial) _) fun v d _ V=>V.bZ (bw (fun q=>?_) _)
  cases q<;>try trivial
  case sub k p=>exact fun hp=>⟨hp,by rw[he k (by rintro S;rw[S] at hp;exact hp.1.elim)]⟩
  case aG k p=>exact fun hp=>⟨hp,by rw[he k (by rintro S;rw[S] at hp;exact hp.elim)]⟩
theorem Qd[Mode]{st:St}(h:Hp cx st.cont vl fp G w):∃I G',Hp cx (⟨(st.kill fK).env,0,[]⟩:St).cont vl I G' w:=by
 have h1:=h.kill fK;rw[<-St.cW] at h1
 obtain⟨I,G',S⟩:=h1.clear (fun k=>1000<=k) (fun j _=>by
  rw[St.cW]
  exact de (fun d V=>by
   intro k hk;cases d<;>try trivial
   all_goals
    simp only[fK,decide_eq_false_iff_not] at V
    simp only[cH];omega) (jk fK _))
 refine⟨I,G',?_⟩
 have e:(fun k=>if 1000<=k then D.dead else(st.kill fK).cont k)=(⟨(st.kill fK).env,0,[]⟩:St).cont:=by
  funext k;by_cases hk:k<1000
  ·rw[if_neg (by omega)]
   show(if k<1000 then nth (st.kill fK).env k else _)=(if k<1000 then nth (st.kill fK).env k else _);rw[if_pos hk,if_pos hk]
  ·rw[if_pos (by omega)]
   show _=(if k<1000 then nth (st.kill fK).env k else if k<1000+0 then nth [] _ else D.dead);rw[if_neg hk,if_neg (by omega)]
 rw[<-e];exact S
theorem AT[Mode]{nt:Nat}{tr pre:List Nat}{ds ax:List (Option Nat)}{post:List (Nat×Nat)}{st:St}{a:Act}(hS:km nt tr pre ds)(h:Fm cx nt tr pre ds st a w)(hn:ds.length=st.n)
  (I:∀p∈post,∃t,tr[p.1]?=some t/\ds[p.2]?=some (some t)) (a8:(post.map (·.1)).Nodup):Fm cx nt tr [] ax ⟨fin post st,0,[]⟩ a w:=by
 obtain⟨vl,fp,G,hp,bF,bg,a6⟩:=h.ex
 have ag:∀p∈post,p.1<tr.length:=fun p hp=>by
  obtain⟨t,V,_⟩:=I p hp;exact(List.getElem?_eq_some_iff.1 V).1
 have a7:∀p∈post,p.1<1000:=fun p hp=>by
  obtain⟨t,V,_⟩:=I p hp;have:=(List.getElem?_eq_some_iff.1 V).1;have:=hS.iq;omega
 obtain⟨b0,G0,o1,o2,o3,o4⟩:=Im post hp h.wf;obtain⟨S,bT,G',h1,h2,h3,h4⟩:=FV post o1 o2 a7 a8;obtain⟨ad,G2,h5⟩:=Qd h1;let ao:Nat->Value:=fun k=>match tr[k]? with | some t=>a.tmps.getD t undef | none=>S k
 have h6:Hp cx (⟨fin post st,0,[]⟩:St).cont ao ad G2 w:=by
  refine h5.Zm fun k hk=>?_
  show(match tr[k]? with | some t=>a.tmps.getD t undef | none=>S k)=S k;cases V:tr[k]? with
  | none=>rfl
  | some t =>
   show a.tmps.getD t undef=S k;have Z:k<1000:=by have:=(List.getElem?_eq_some_iff.1 V).1;have:=hS.iq;omega
   by_cases hkp:k∈post.map (·.1)
   ·obtain⟨p,W,rfl⟩:=List.mem_map.1 hkp
    obtain⟨t',e1,e2⟩:=I p W;rw[e1] at V;injection V with V
    subst V;rw[h3 p W];exact bg p.2 t' (by have:=(List.getElem?_eq_some_iff.1 e2).1;omega) e2
   ·rw[h2 k hkp]
    by_cases hpre:pre.contains k=true
    ·exfalso
     apply hk;have Y:=h4 k hkp (o4 k Z (h.dd k hpre));have a1:=St.jj fK Y;show(if k<1000 then nth ((kA post (jo post st)).kill fK).env k else _)=D.dead;rw[if_pos Z];have:(if k<1000 then nth ((kA post (jo post st)).kill fK).env k else if k<1000+((kA post (jo post st)).kill fK).n then nth ((kA post (jo post st)).kill fK).tmp (999+((kA post (jo post st)).kill fK).n-k) else D.dead)=D.dead:=a1;rw[if_pos Z] at this;exact this
    ·exact bF k t V (by simpa using hpre)
 refine⟨⟨ao,ad,G2,h6,fun j t hj _=>?_,fun i t hi _=>by simp at hi,fun k k1 k2=>?_⟩,rfl,fun j hj=>by simp at hj,h.size,h.defers⟩
 ·show a.tmps.getD t undef=(match tr[j]? with | some t=>a.tmps.getD t undef | none=>S j)
  rw[hj]
 ·show(match tr[k]? with | some t=>a.tmps.getD t undef | none=>S k)=_
  have ab:tr[k]?=none:=List.getElem?_eq_none (by have:=hS.iq;omega);rw[ab];show S k=_;rw[h2 k (fun hk=>by obtain⟨p,W,rfl⟩:=List.mem_map.1 hk;have:=ag p W;omega)];exact a6 k k1 k2
end
end Go.D3
namespace Go.D3
open Go
section
variable{P:Program}{cx:Ctx}{nt:Nat}{tr pre:List Nat}{ds:List (Option Nat)}{w:World}{Q:Exit->Act->World->Prop}
theorem wy:∀{l:List Nat},wx l=true->∀(i j t:Nat),l[i]?=some t->l[j]?=some t->i=j
 | [],_,i,j,t,h,_=>by simp at h
 | d::r,h,i,j,t,hi,I=>by
  simp only[wx,Bool.and_eq_true,Bool.not_eq_true',List.contains_eq_mem,decide_eq_false_iff_not] at h;cases i with
  | zero=>cases j with
   | zero=>rfl
   | succ j=>simp at hi I;subst hi;exact absurd (List.mem_of_getElem? I) h.1
  | succ i=>cases j with
   | zero=>simp at hi I;subst I;exact absurd (List.mem_of_getElem? hi) h.1
   | succ j=>simp at hi I;rw[wy h.2 i j t hi I]
theorem zT:∀{l:List (Option Nat)},tL l=true->∀(i j t:Nat),l[i]?=some (some t)->l[j]?=some (some t)->i=j
 | [],_,i,j,t,h,_=>by simp at h
 | none::r,h,i,j,t,hi,I=>by
  cases i with
  | zero=>simp at hi
  | succ i=>cases j with
   | zero=>simp at I
   | succ j=>simp at hi I;rw[zT (l:=r) h i j t hi I]
 | some d::r,h,i,j,t,hi,I=>by
  simp only[tL,Bool.and_eq_true,Bool.not_eq_true',List.contains_eq_mem,decide_eq_false_iff_not] at h;cases i with
  | zero=>cases j with
   | zero=>rfl
   | succ j=>simp at hi I;subst hi;exact absurd (List.mem_of_getElem? I) h.1
  | succ i=>cases j with
   | zero=>simp at hi I;subst I;exact absurd (List.mem_of_getElem? hi) h.1
   | succ j=>simp at hi I;rw[zT h.2 i j t hi I]
theorem xY:∀{l:List (Option Nat)},sT tr pre l=true->∀(i t:Nat),l[i]?=some (some t)->∀(j:Nat),tr[j]?=some t->pre.contains j=true
 | [],_,i,t,h,_,_=>by simp at h
 | none::r,h,i,t,hi,j,hj=>by
  cases i with
  | zero=>simp at hi
  | succ i=>simp at hi;exact xY (l:=r) h i t hi j hj
 | some d::r,h,i,t,hi,j,hj=>by
  simp only[sT,Bool.and_eq_true,List.all_eq_true] at h;cases i with
  | zero =>
   simp at hi;subst hi;have:=h.1 (d,j) (List.mem_zipIdx_iff_getElem?.2 hj);simpa using this
  | succ i=>simp at hi;exact xY h.2 i t hi j hj
theorem AF:∀{post:List (Nat×Nat)},wP ds tr pre post=true->(∀p∈post,∃t,tr[p.1]?=some t/\ds[p.2]?=some (some t))/\(post.map (·.1)).Nodup
 | [],_=>⟨(fun p hp=>absurd hp (by simp)),List.nodup_nil⟩
 | (j,i)::r,h=>by
  simp only[wP,Bool.and_eq_true,Bool.not_eq_true',List.contains_eq_mem,decide_eq_false_iff_not] at h;obtain⟨⟨⟨_,h1⟩,V⟩,W⟩:=h;obtain⟨Y,Z⟩:=AF W;refine⟨fun p hp=>?_,by simp only[List.map_cons,List.nodup_cons];exact⟨V,Z⟩⟩;rcases List.mem_cons.1 hp with rfl | hp
  ·split at h1<;>try(cases h1;done)
   rename_i t d I S;simp only[beq_iff_eq] at h1;subst h1;exact⟨_,I,S⟩
  ·exact Y p hp
theorem Gw[Mode]{ops:Array Oper}{st:St}{a:Act}{i t:Nat}{want b:Bool}(h:Fm cx nt tr pre ds st a w)(hi:i<st.n)(S:ds[i]?=some (some t))(Z:(ops[i]?).bind (·.dst)=some t)(hg:gd (st.rd (.t i)) want=some b) :
  (yielded ops a.tmps i == some want)=b:=by
 obtain⟨vl,fp,G,hp,_,V,_⟩:=h.ex
 have he:cC w (ak cx fp G w) (ai w st.cont vl) (a.tmps.getD t undef) (st.rd (.t i)):=by
  rw[V i t hi S];exact oA (hp.ok _)
 have hy:yielded ops a.tmps i=match a.tmps.getD t undef with | .bool b=>some b | _=>none:=by
  unfold yielded;rw[Z,Option.bind_some];by_cases ht:t<a.tmps.size
  ·rw[getD_some ht]
   cases a.tmps.getD t undef<;>rfl
  ·have h1:a.tmps[t]?=none:=by simp;omega
   have Y:a.tmps.getD t undef=undef:=by simp[h1]
   rw[h1,Y];rfl
 unfold gd at hg;rw[Option.bind_eq_some_iff] at hg;obtain⟨c,W,hg⟩:=hg;injection hg with hg
 rw[hy];generalize st.rd (.t i)=d at he W hg;cases hgt:d.gate with
 | false =>
  rw[he.2 hgt];rw[hgt] at hg;simp at hg;subst hg;rfl
 | true =>
  have h1:=he.1 hgt
  have I:d.core=.bool c:=by
   revert W;cases d.core<;>simp[D.bool?]
  rw[I] at h1;rw[pl_bool h1];rw[hgt] at hg;cases want<;>cases c<;>simp at hg<;>subst hg<;>rfl
theorem wZ:∀{l:List Oper}{sl:List bh}{i t:Nat},(bY l sl)[i]?=some (some t)->(l[i]?).bind (·.dst)=some t
 | [],_,i,t,h=>by simp[bY] at h
 | _::_,[],i,t,h=>by simp[bY] at h
 | o::l,s::r,0,t,h=>by
  simp only[bY,List.getElem?_cons_zero,Option.some.injEq] at h;simp only[List.getElem?_cons_zero,Option.bind_some];unfold fZ at h;split at h
  ·cases h
  ·exact h
 | o::l,s::r,i+1,t,h=>by
  simp only[bY,List.getElem?_cons_succ] at h|-
  exact wZ h
theorem Ij[Mode]{ops:Array Oper}(hS:km nt tr pre ds)(ad:∀(i t:Nat),ds[i]?=some (some t)->(ops[i]?).bind (·.dst)=some t):∀(l:List Oper)(sl:List bh)(n:Nat){K:St->Prop}{st:St}{a:Act}{w:World},
  ops.toList.drop n=l->lS P nt ds tr n l sl=true->(∀s∈sl,uc pre s=true)->bY l sl=ds.drop n->st.n=n->Fm cx nt tr pre ds st a w->cw P K sl st ->
  (∀a w st,K st->st.n=n+l.length->Fm cx nt tr pre ds st a w->Q .normal a w)->wpOps P ops Q (List.range' n l.length) a w
 | [],sl,n,K,st,a,w,hl,hf,S,Y,hn,h,hv,hQ=>by
  cases sl with
  | nil=>exact hQ a w st hv (by simpa using hn) h
  | cons _ _=>simp[lS] at hf
 | o::l,[],n,K,st,a,w,hl,hf,S,Y,hn,h,hv,hQ=>by simp[lS] at hf
 | o::l,s::sl,n,K,st,a,w,hl,hf,S,Y,hn,h,hv,hQ=>by
  subst hn;simp only[lS,Bool.and_eq_true] at hf;obtain⟨⟨⟨⟨⟨ax,W⟩,I⟩,a1⟩,bg⟩,hf⟩:=hf
  have b2:ops[st.n]?=some o:=by
   have:(ops.toList.drop st.n)[0]?=some o:=by rw[hl];rfl
   rw[List.getElem?_drop] at this;simpa using this
  have b0:ops.toList.drop (st.n+1)=l:=by
   rw[<-List.tail_drop,hl];rfl
  have hd:ds[st.n]?=some (fZ o s):=by
   have:(ds.drop st.n)[0]?=some (fZ o s):=by rw[<-Y];rfl
   rw[List.getElem?_drop] at this;simpa using this
  have ao:bY l sl=ds.drop (st.n+1):=by
   rw[<-List.tail_drop,<-Y];rfl
  have ag:∀t,o.dst=some t->t<nt:=fun t ht=>by rw[ht] at ax;simpa using ax
  have hp:=S s (by simp);simp only[uc,Bool.and_eq_true,List.all_eq_true] at hp
  have ab:∀j,s.k.di=some j->o.dst=tr[j]?/\j<tr.length/\pre.contains j=false:=fun j hj=>by
   rw[hj] at W hp;simp only[Bool.and_eq_true,decide_eq_true_eq] at W;exact⟨W.1.1,W.1.2,by simpa using hp.1⟩
  have V:∀i,i∈s.k.reads->i<st.n:=fun i hi=>by simpa using(List.all_eq_true.1 bg) i hi
  have a8:∀j,X.v j∈s.k.xs->pre.contains j=false:=fun j hj=>by simpa using hp.2 _ hj
  have ih:∀a' w',(∃st',cw P K sl st'/\Fm cx nt tr pre ds st' a' w'/\st'.n=st.n+1)->wpOps P ops Q (List.range' (st.n+1) l.length) a' w':=fun a' w' ⟨st',h1,h2,h3⟩ =>
   Ij hS ad l sl (st.n+1) b0 hf (fun s hs=>S s (by simp[hs])) ao h3 h2 h1 fun a w st hK b4 hF=>hQ a w st hK (by simp only[List.length_cons];omega) hF
  simp only[List.length_cons,List.range'_succ,wpOps,b2];obtain⟨g0,k⟩:=s;cases hog:o.guard with
  | none =>
   cases g0 with
   | some _=>rw[hog] at I;cases I
   | none =>
    have hw:Region.wanted o (yielded ops a.tmps)=true:=by simp[Region.wanted,hog]
    rw[if_pos hw];exact .inl (Oper.wp_mono ih (ue hS h (g:=none) (by simp) a1 hd ab ag V a8 hv))
  | some gg =>
   obtain⟨j,want⟩:=gg;cases g0 with
   | none=>rw[hog] at I;cases I
   | some g1 =>
    obtain⟨i,b3⟩:=g1;rw[hog] at I;simp only[Bool.and_eq_true,beq_iff_eq,decide_eq_true_eq] at I;obtain⟨⟨⟨rfl,rfl⟩,bT⟩,a6⟩:=I
    have Z:∃t,ds[j]?=some (some t):=by
     split at a6
     ·exact⟨_,by assumption⟩
     ·cases a6
    obtain⟨t,Z⟩:=Z
    have b1:k.di=none:=by
     cases hk:k.di with
     | none=>rfl
     | some j'=>simp[hk] at W
    simp only[cw,kG] at hv;split at hv
    ·rename_i b bF
     have a7:Region.wanted o (yielded ops a.tmps)=b:=by
      simp only[Region.wanted,hog];exact Gw h bT Z (ad j t Z) bF
     cases b with
     | true =>
      rw[if_pos a7];exact .inl (Oper.wp_mono ih (ue hS h (g:=some true) (by simp) a1 hd ab ag V a8 hv))
     | false =>
      rw[if_neg (by rw[a7];simp)];exact ih _ _ (MC hS h hd b1 ag hv)
    ·exact hv.elim
end
end Go.D3
