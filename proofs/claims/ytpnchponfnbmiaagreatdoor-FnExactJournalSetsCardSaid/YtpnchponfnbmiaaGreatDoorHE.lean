/- REGIONS IN THE ORDER OF THE TEXT. Generic. -/
import Derived.Test.YtpnchponfnbmiaaGreatDoorHD
import Derived.Laws.CopyRow
import Derived.Laws.IdiomCopy
import Derived.Orders
namespace Go.D3
open Go
theorem um{α:Type}(f:Nat->α)(k:Nat):aA f k (f k)=f:=by
 funext j;simp only[aA];split<;>simp_all
theorem fo(σ:Nat->Nat):∀l,dE σ l=l.map (D.ay σ)
 | []=>rfl
 | x::r=>by rw[dE,fo σ r,List.map_cons]
theorem AF(σ:Nat->Nat)(l:List D):(dE σ l).length=l.length:=by rw[fo,List.length_map]
theorem AE(σ:Nat->Nat)(l:List D)(n:Nat):(dE σ l).getD n .dead=(l.getD n .dead).ay σ:=by
 rw[fo,List.getD_eq_getElem?_getD,List.getD_eq_getElem?_getD,List.getElem?_map];cases l[n]?<;>rfl
theorem HY(σ:Nat->Nat):∀(l:List D)(i:Nat),nth (dE σ l) i=(nth l i).ay σ
 | [],_=>rfl
 | _::_,0=>rfl
 | _::l,i+1=>HY σ l i
theorem W6{σ:Nat->Nat}{c y:D}:c.ay σ=.o y↔c=.o y:=by
 cases c<;>simp only[D.ay,reduceCtorEq]
theorem Jk{σ:Nat->Nat}{c:D}:c.ay σ=.dead↔c=.dead:=by
 cases c<;>simp only[D.ay,reduceCtorEq]
theorem pf(σ:Nat->Nat)(c:D):(c.ay σ).isObj=c.isObj:=by cases c<;>rfl
theorem wD(σ:Nat->Nat){c:D}{p:Path}(hl:bp c p=true):((c.ay σ).at p).iw=(c.at p).iw:=by
 cases c<;>try(cases hl;done)
 case box l =>
  match p,hl with
  | [(i,off)],_ =>
   have e1:(D.box l).at [(i,off)]=l.getD off .dead:=rfl;have e2:((D.box l).ay σ).at [(i,off)]=(l.getD off .dead).ay σ:=AE σ l off;rw[e1,e2];cases l.getD off .dead<;>rfl
theorem wE(σ:Nat->Nat)(c:D)(p:Path):bp (c.ay σ) p=bp c p:=by
 cases c<;>try rfl
 case box l=>match p with
  | []=>rfl
  | [_]=>rfl
  | _::_::_=>rfl
theorem rE{w:World}(σ:Nat->Nat)(c:D)(v:Value)(p:Path):((c.ay σ).aZ p↔c.aZ p)/\(c.aZ p->aP w v (c.ay σ) p=aP w v c p/\aH w v (c.ay σ) p=aH w v c p):=by
 cases c<;>try exact⟨Iff.rfl,fun h=>h.elim⟩
 case o x=>exact⟨Iff.rfl,fun _=>⟨rfl,rfl⟩⟩
 case row z l =>
  refine⟨Iff.rfl,fun h=>?_⟩;simp only[D.aZ] at h;subst h;exact⟨rfl,rfl⟩
 case box l =>
  cases p with
  | nil=>exact⟨Iff.rfl,fun _=>⟨rfl,rfl⟩⟩
  | cons s p =>
   obtain⟨i,off⟩:=s;have hk:D.aX (.box (dE σ l)) 0 off=(l.getD off .dead).ay σ:=AE σ l off;have hkv:cz w v (.box (dE σ l)) 0 off=cz w v (.box l) 0 off:=rfl;cases p with
   | nil =>
    refine⟨?_,?_⟩
    ·simp only[D.ay,D.aZ,fo,List.length_map]
    ·rintro⟨rfl,ho,hp⟩
     exact⟨by simp only[D.ay,aP,hkv],rfl⟩
   | cons t p =>
    have hk':D.aX (.box l) 0 off=l.getD off .dead:=rfl;refine⟨?_,?_⟩
    ·simp only[D.ay,D.aZ,AE,AF]
     cases l.getD off .dead<;>simp only[D.ay]
    ·rintro⟨rfl,ho,hp⟩
     simp only at hp;split at hp
     ·rename_i y hy
      have hy':(l.getD off .dead).ay σ=.o y:=W6.2 hy;rw[hy'] at hk;rw[hy] at hk';refine⟨?_,?_⟩
      ·simp only[D.ay];rw[aP,aP,hkv,hk,hk']
      ·simp only[D.ay];rw[aH,aH,hkv,hk,hk']<;>simp
     ·exact hp.elim
theorem W4{σ:Nat->Nat}(c:D)(h:c.refs fun _=>False):c.ay σ=c:=by
 have list:∀l:List D,(∀x∈l,x.refs (fun _=>False)->x.ay σ=x)->bH (fun _=>False) l->dE σ l=l:=by
  intro l ih hl;rw[fo]
  conv=>rhs;rw[<-List.map_id l]
  exact List.map_congr_left fun x hx=>ih x hx (bt.1 hl x hx)
 induction c using D.ind with
 | sub k p=>exact h.elim
 | av k p=>exact h.elim
 | pre k p n=>exact h.elim
 | agg l ih | al l ih | box l ih | fn _ l ih=>simp only[D.ay];rw[list l ih h]
 | row z l _ ih=>simp only[D.ay];rw[list l ih h]
 | when g x ih=>simp only[D.ay];rw[ih h]
 | _=>rfl
theorem W9(σ ρ:Nat->Nat)(c:D):(c.ay σ).ay ρ=c.ay (fun i=>ρ (σ i)):=by
 have list:∀l:List D,(∀x∈l,(x.ay σ).ay ρ=x.ay fun i=>ρ (σ i))->dE ρ (dE σ l)=dE (fun i=>ρ (σ i)) l:=by
  intro l ih;rw[fo,fo,fo,List.map_map];exact List.map_congr_left ih
 induction c using D.ind with
 | agg l ih | al l ih | box l ih | fn _ l ih=>simp only[D.ay];rw[list l ih]
 | row z l _ ih=>simp only[D.ay];rw[list l ih]
 | when g x ih=>simp only[D.ay];rw[ih]
 | _=>rfl
theorem W5(c:D):c.ay (fun i=>i)=c:=by
 have list:∀l:List D,(∀x∈l,x.ay (fun i=>i)=x)->dE (fun i=>i) l=l:=by
  intro l ih;rw[fo]
  conv=>rhs;rw[<-List.map_id l]
  exact List.map_congr_left ih
 induction c using D.ind with
 | agg l ih | al l ih | box l ih | fn _ l ih=>simp only[D.ay];rw[list l ih]
 | row z l _ ih=>simp only[D.ay];rw[list l ih]
 | when g x ih=>simp only[D.ay];rw[ih]
 | _=>rfl
theorem W8{Q Q':D->Prop}{σ:Nat->Nat}{c:D}(h:c.refs Q)(hQ:∀k p,(Q (.sub k p)->Q' (.sub (σ k) p))/\(Q (.av k p)->Q' (.av (σ k) p))):(c.ay σ).refs Q':=by
 induction c using D.ind with
 | agg l ih | al l ih | box l ih | fn _ l ih =>
  simp only[D.ay,D.refs,fo,bt,List.mem_map] at h|-
  rintro _ ⟨y,hy,rfl⟩;exact ih y hy (h y hy)
 | row z l _ ih =>
  simp only[D.ay,D.refs,fo,bt,List.mem_map] at h|-
  rintro _ ⟨y,hy,rfl⟩;exact ih y hy (h y hy)
 | when g x ih=>exact ih h
 | sub k p=>exact(hQ k p).1 h
 | av k p=>exact(hQ k p).2 h
 | pre k p n=>exact(hQ k p).1 h
 | _=>trivial
section
variable{w:World}{A:Nat->Prop}{R R':Value->D->Prop}{v:Value}{F:Nat->Prop}{σ:Nat->Nat}
theorem Pl.ay{Q:D->Prop}{c:D}(h:Pl w A R v c):c.refs Q->(∀v d,d.refs Q->R v d->R' v (d.ay σ))->Pl w A R' v (c.ay σ):=by
 induction h with
 | rd h=>exact fun _ _=>by rw[W4 _ (h.zx _)];exact .rd h
 | ref h=>exact fun hq hR=>.ref (hR _ _ hq h)
 | agg hs _ ih =>
  refine fun hq hR=>.agg (by simpa[fo] using hs) fun j x hx=>?_
  rw[fo,List.getElem?_map,Option.map_eq_some_iff] at hx;obtain⟨y,hy,rfl⟩:=hx;exact ih j y hy (bt.1 hq y (List.mem_of_getElem? hy)) hR
 | al hs _ ih =>
  refine fun hq hR=>.al (by simpa[fo] using hs) fun j x hx=>?_
  rw[fo,List.getElem?_map,Option.map_eq_some_iff] at hx;obtain⟨y,hy,rfl⟩:=hx;exact ih j y hy (bt.1 hq y (List.mem_of_getElem? hy)) hR
 | fn hs _ ih =>
  refine fun hq hR=>.fn (by simpa[fo] using hs) fun j x hx=>?_
  rw[fo,List.getElem?_map,Option.map_eq_some_iff] at hx;obtain⟨y,hy,rfl⟩:=hx;exact ih j y hy (bt.1 hq y (List.mem_of_getElem? hy)) hR
theorem bV.ay{Q:D->Prop}{c:D}(h:bV w A R v F c)(hq:c.refs Q)(hR:∀v d,d.refs Q->R v d->R' v (d.ay σ)):bV w A R' v F (c.ay σ):=by
 cases c<;>first | exact Pl.ay h hq hR | exact h.elim | exact h
theorem Jj(σ:Nat->Nat)(x:D):(x.ay σ).cells=x.cells.map (D.ay σ):=by
 cases x<;>first | rfl | simp only[D.ay,D.cells,fo]
theorem W7{c:D}(h:c.pc=true):(c.ay σ).pc=true:=by
 cases c<;>first | exact h | rfl | (simp[D.pc] at h)
theorem OK(σ:Nat->Nat)(l:List D)(sz j:Nat):cellAt (l.map (D.ay σ)) sz j=(cellAt l sz j).map (D.ay σ):=by
 unfold cellAt;rw[List.getElem?_map];cases l[j / sz]? with
 | none=>rfl
 | some d=>simp only[Option.map_some,Option.bind_some,Jj,List.getElem?_map]
theorem aI.ay{Q:D->Prop}{c:D}(h:aI w A R v F c)(hq:c.refs Q)(hR:∀v d,d.refs Q->R v d->R' v (d.ay σ)):aI w A R' v F (c.ay σ):=by
 cases c
 case o x=>exact h
 case box l =>
  obtain⟨h0,b,cs,e,Fs,h1,h2,h3,h4,h5,h6,h7⟩:=h;simp only[D.ay,fo];refine⟨by simpa using h0,b,cs,e,Fs,h1,h2,by simpa using h3,fun j c hj=>?_,h5,h6,h7⟩;rw[List.getElem?_map,Option.map_eq_some_iff] at hj;obtain⟨y,hy,rfl⟩:=hj;exact(h4 j y hy).ay (bt.1 hq y (List.mem_of_getElem? hy)) hR
 case row z l =>
  obtain⟨b,sz,cs,e,h1,h2,h3,h3',h3'',h3a,h3b,h4,h5⟩:=h;simp only[D.ay,fo];refine⟨b,sz,cs,e,by simpa using h1,h2,by simpa using h3,by simpa using h3',h3'',h3a,fun x hx=>?_,fun j c hj=>?_,h5⟩
  ·obtain⟨y,hy,rfl⟩:=List.mem_map.1 hx
   rw[Jj,List.length_map];exact h3b y hy
  ·rw[OK,Option.map_eq_some_iff] at hj
   obtain⟨y,hy,rfl⟩:=hj;have hq':bH Q l:=hq;exact⟨(h4 j y hy).1.ay (Je (fun x hx=>bt.1 hq' x hx) hy) hR,W7 (h4 j y hy).2⟩
 case when g x=>exact⟨fun hg=>(h.1 hg).ay hq hR,h.2⟩
 all_goals exact Pl.ay h hq hR
theorem af.ay{ct ct':Nat->D}{vl vl':Nat->Value}{d:D}(h:af w ct vl v d)(hct:∀k,ct k≠.dead->ct' (σ k)=(ct k).ay σ)(hvl:∀k,ct k≠.dead->vl' (σ k)=vl k):af w ct' vl' v (d.ay σ):=by
 have nd:∀{k:Nat}{p:Path},(ct k).aZ p->ct k≠.dead:=fun h hh=>by rw[hh] at h;exact h
 cases d<;>try exact h.elim
 case sub k p =>
  obtain⟨⟨h1,h1'⟩,h2,h3⟩:=h;have hk:=rE (w:=w) σ (ct k) (vl k) p;refine⟨⟨?_,fun hl=>?_⟩,?_,h3⟩
  ·rw[hct k (nd h1)];exact hk.1.2 h1
  ·rw[hct k (nd h1)] at hl|-
   rw[wE] at hl;rw[wD σ hl];exact h1' hl
  ·rw[hct k (nd h1),hvl k (nd h1),(hk.2 h1).1];exact h2
 case pre k p n =>
  obtain⟨q,m,c,⟨⟨h1,h1'⟩,h2⟩,h3,h4⟩:=h;have hk:=rE (w:=w) σ (ct k) (vl k) p;refine⟨q,m,c,⟨⟨?_,fun hl=>?_⟩,?_⟩,h3,h4⟩
  ·rw[hct k (nd h1)];exact hk.1.2 h1
  ·rw[hct k (nd h1)] at hl|-
   rw[wE] at hl;rw[wD σ hl];exact h1' hl
  ·rw[hct k (nd h1),hvl k (nd h1),(hk.2 h1).1];exact h2
 case av k p =>
  obtain⟨h1,a,h2,h3⟩:=h;have hk:=rE (w:=w) σ (ct k) (vl k) p;refine⟨?_,a,?_,h3⟩
  ·rw[hct k (nd h1)];exact hk.1.2 h1
  ·rw[hct k (nd h1),hvl k (nd h1),(hk.2 h1).2];exact h2
theorem af.nf{ct ct':Nat->D}{vl vl':Nat->Value}{d:D}(h:af w ct' vl' v (d.ay σ))(hct:∀k,ct' (σ k)=(ct k).ay σ)(hvl:∀k,ct k≠.dead->vl' (σ k)=vl k):af w ct vl v d:=by
 cases d<;>try exact h.elim
 case sub k p =>
  obtain⟨⟨h1,h1'⟩,h2,h3⟩:=h;have hk:=rE (w:=w) σ (ct k) (vl k) p;rw[hct k] at h1 h1' h2;have h0:=hk.1.1 h1;have nd:ct k≠.dead:=fun hh=>by rw[hh] at h0;exact h0
  refine⟨⟨h0,fun hl=>?_⟩,?_,h3⟩
  ·rw[<-wD σ hl];exact h1' (by rw[wE];exact hl)
  ·rw[<-(hk.2 h0).1,<-hvl k nd];exact h2
 case pre k p n =>
  obtain⟨q,m,c,⟨⟨h1,h1'⟩,h2⟩,h3,h4⟩:=h;have hk:=rE (w:=w) σ (ct k) (vl k) p;rw[hct k] at h1 h1' h2;have h0:=hk.1.1 h1;have nd:ct k≠.dead:=fun hh=>by rw[hh] at h0;exact h0
  refine⟨q,m,c,⟨⟨h0,fun hl=>?_⟩,?_⟩,h3,h4⟩
  ·rw[<-wD σ hl];exact h1' (by rw[wE];exact hl)
  ·rw[<-(hk.2 h0).1,<-hvl k nd];exact h2
 case av k p =>
  obtain⟨h1,a,h2,h3⟩:=h;have hk:=rE (w:=w) σ (ct k) (vl k) p;rw[hct k] at h1 h2;have h0:=hk.1.1 h1;have nd:ct k≠.dead:=fun hh=>by rw[hh] at h0;exact h0
  refine⟨h0,a,?_,h3⟩;rw[<-(hk.2 h0).2,<-hvl k nd];exact h2
def wi(σ:Nat->Nat):D->Prop
 | .sub k _=>∃i,k=σ i
 | .av k _=>∃i,k=σ i
 | _=>True
theorem Jl(c:D):(c.ay σ).refs (wi σ) :=
 W8 (Q:=fun _=>True) (bn (fun _=>trivial) c) fun _ _=>⟨fun _=>⟨_,rfl⟩,fun _=>⟨_,rfl⟩⟩
theorem FX(hσ:∀i j,σ i=σ j->i=j):∃ρ:Nat->Nat,∀i,ρ (σ i)=i:=by
 classical
 refine⟨fun k=>if h:∃i,σ i=k then Classical.choose h else 0,fun i=>?_⟩;have h:∃j,σ j=σ i:=⟨i,rfl⟩;simp only[dif_pos h];exact hσ _ _ (Classical.choose_spec h)
theorem MU(_:∀i j,σ i=σ j->i=j){ρ:Nat->Nat}(hρ:∀i,ρ (σ i)=i){ct ct':Nat->D}{vl vl':Nat->Value}(hct:∀k,ct' (σ k)=(ct k).ay σ)(hvl:∀k,ct k≠.dead->vl' (σ k)=vl k) :
  ∀v d,d.refs (wi σ)->af w ct' vl' v d->af w ct vl v (d.ay ρ):=by
 intro v d hq hr
 have e:(d.ay ρ).ay σ=d:=by
  cases d<;>try exact hr.elim
  case sub k p=>obtain⟨i,rfl⟩:=hq;simp only[D.ay,hρ]
  case av k p=>obtain⟨i,rfl⟩:=hq;simp only[D.ay,hρ]
  case pre k p n=>obtain⟨i,rfl⟩:=hq;simp only[D.ay,hρ]
 exact af.nf (σ:=σ) (by rw[e];exact hr) hct hvl
theorem Ji{ρ:Nat->Nat}(hρ:∀i,ρ (σ i)=i)(c:D):(c.ay σ).ay ρ=c:=by
 rw[W9,show(fun i=>ρ (σ i))=fun i=>i from funext hρ,W5]
theorem aI.nf(hσ:∀i j,σ i=σ j->i=j){ct ct':Nat->D}{vl vl':Nat->Value}{c:D}(h:aI w A (af w ct' vl') v F (c.ay σ))(hct:∀k,ct' (σ k)=(ct k).ay σ)(hvl:∀k,ct k≠.dead->vl' (σ k)=vl k) :
  aI w A (af w ct vl) v F c:=by
 obtain⟨ρ,hρ⟩:=FX hσ;have:=h.ay (Q:=wi σ) (σ:=ρ) (R':=af w ct vl) (Jl c) (MU hσ hρ hct hvl)
 rwa [Ji hρ] at this
theorem Pl.nf(hσ:∀i j,σ i=σ j->i=j){ct ct':Nat->D}{vl vl':Nat->Value}{c:D}(h:Pl w A (af w ct' vl') v (c.ay σ))(hct:∀k,ct' (σ k)=(ct k).ay σ)(hvl:∀k,ct k≠.dead->vl' (σ k)=vl k) :
  Pl w A (af w ct vl) v c:=by
 obtain⟨ρ,hρ⟩:=FX hσ;have:=h.ay (Q:=wi σ) (σ:=ρ) (R':=af w ct vl) (Jl c) (MU hσ hρ hct hvl)
 rwa [Ji hρ] at this
theorem mZ:∀{l:List D},lN l=true->∀x∈l,x.tight=true
 | [],_,x,hx=>by cases hx
 | y::r,h,x,hx=>by
  simp only[lN,Bool.and_eq_true] at h;rcases List.mem_cons.1 hx with rfl | hx
  ·exact h.1
  ·exact mZ h.2 x hx
theorem aaM{A':Nat->Prop}{d:D}(h:Rd w A v d):d.tight=true->Rd w A' v d:=by
 induction h with
 | int h=>exact fun _=>.int h
 | bool=>exact fun _=>.bool
 | str h=>exact fun _=>.str h
 | bc=>exact fun _=>.bc
 | aB=>exact fun _=>.aB
 | dead=>exact fun _=>.dead
 | agg hs _ ih=>exact fun ht=>.agg hs fun j x hx=>ih j x hx (mZ ht x (List.mem_of_getElem? hx))
 | al hs _ ih=>exact fun ht=>.al hs fun j x hx=>ih j x hx (mZ ht x (List.mem_of_getElem? hx))
 | fn hs _ ih=>exact fun ht=>.fn hs fun j x hx=>ih j x hx (mZ ht x (List.mem_of_getElem? hx))
 | _=>exact fun ht=>by simp[D.tight] at ht
theorem BE{A':Nat->Prop}{d:D}(h:Pl w A R v d):d.tight=true->Pl w A' R v d:=by
 induction h with
 | rd h=>exact fun ht=>.rd (aaM h ht)
 | ref h=>exact fun _=>.ref h
 | agg hs _ ih=>exact fun ht=>.agg hs fun j x hx=>ih j x hx (mZ ht x (List.mem_of_getElem? hx))
 | al hs _ ih=>exact fun ht=>.al hs fun j x hx=>ih j x hx (mZ ht x (List.mem_of_getElem? hx))
 | fn hs _ ih=>exact fun ht=>.fn hs fun j x hx=>ih j x hx (mZ ht x (List.mem_of_getElem? hx))
theorem aaI{A':Nat->Prop}{d:D}(h:bV w A R v F d)(ht:d.rN=true):bV w A' R v F d:=by
 cases d
 case o x=>exact sZ h ht
 all_goals first | exact h.elim | exact BE h ht
theorem MQ:∀{l:List D},rO l=true->∀x∈l,x.rN=true
 | [],_,x,hx=>by cases hx
 | y::r,h,x,hx=>by
  simp only[rO,Bool.and_eq_true] at h;rcases List.mem_cons.1 hx with rfl | hx
  ·exact h.1
  ·exact MQ h.2 x hx
theorem aaK{d:D}(h:d.tight=true)(hd:∀x∈d.cells,x.tight=true->True):∀x∈d.cells,x.tight=true:=by
 intro x hx;cases d<;>simp only[D.cells,List.mem_singleton] at hx<;>first | (subst hx;exact h) | exact mZ h x hx
theorem aaJ{l:List D}{sz j:Nat}{c:D}(h:lN l=true)(hc:cellAt l sz j=some c):c.tight=true:=by
 unfold cellAt at hc;cases hL:l[j / sz]? with
 | none=>simp[hL] at hc
 | some d =>
  rw[hL,Option.bind_some] at hc;exact aaK (mZ h d (List.mem_of_getElem? hL)) (fun _ _ _=>trivial) c (List.mem_of_getElem? hc)
theorem aaL{A':Nat->Prop}{d:D}(h:aI w A R v F d)(ht:d.ie=true):aI w A' R v F d:=by
 cases d
 case o x=>exact sZ h ht
 case box l =>
  obtain⟨h0,b,cs,e,Fs,h1,h2,h3,h4,h5,h6,h7⟩:=h;exact⟨h0,b,cs,e,Fs,h1,h2,h3,fun j c hj=>aaI (h4 j c hj) (MQ ht c (List.mem_of_getElem? hj)),h5,h6,h7⟩
 case row z l =>
  obtain⟨b,sz,cs,e,h1,h2,h3,h3',h3'',h3a,h3b,h4,h5⟩:=h;exact⟨b,sz,cs,e,h1,h2,h3,h3',h3'',h3a,h3b,fun j c hj=>⟨BE (h4 j c hj).1 (aaJ ht hj),(h4 j c hj).2⟩,h5⟩
 case when g x=>cases ht
 all_goals exact BE h ht
theorem MR:∀{l:List D},jS l=true->∀k,(nth l k).ie=true
 | [],_,k=>rfl
 | y::r,h,k=>by
  simp only[jS,Bool.and_eq_true] at h;cases k with
  | zero=>exact h.1
  | succ k=>exact MR h.2 k
end
theorem zG{σ:Nat->Nat}{c:D}(h:c.cn=true):(c.ay σ).cn=true:=by
 cases c<;>first | exact h | rfl | cases h
theorem n9{w:World}{A:Nat->Prop}{R:Value->D->Prop}{v:Value}{F:Nat->Prop}{c:D}(h:c.cn=true):aI w A R v F c↔Pl w A R v c:=by
 cases c<;>first | exact Iff.rfl | cases h
theorem Ig{c:D}(h:c.cn=true):c.isObj=false:=by cases c<;>first | rfl | cases h
end Go.D3
namespace Go.D3
open Go
section
variable{P:Program}{cx:Ctx}{vl:Nat->Value}{fp:Nat->Nat->Prop}{G:Nat->Prop}{w:World}
theorem Hp.aaA[Mode]{ct ct':Nat->D}{fp':Nat->Nat->Prop}{F:Nat->Prop}{w':World}(h:Hp cx ct vl fp G w)(S:Nat->Prop)(Q:D->Prop)
  (hin:∀k,S k->aI w' (aq cx fp' F w') (af w' ct' vl) (vl k) (fp' k) (ct' k)) (hout:∀k,¬S k->ct' k=ct k) (hfo:∀k,¬S k->fp' k=fp k)
  (hfi:∀k,S k->∀b,fp' k b->b<w'.heap.size/\(w.heap.size<=b\/∃j,S j/\fp j b)) (hF:∀b,F b->b<w'.heap.size/\(w.heap.size<=b\/∃j,S j/\fp j b))
  (hFd:∀k,S k->∀b,fp' k b->¬F b) (hdis:∀i j b,S i->S j->i≠j->fp' i b->¬fp' j b) (hemp:∀k,S k->(ct' k).isObj=false->∀b,¬fp' k b)
  (hrefs:∀k,¬S k->(ct k).refs Q) (hkeep:∀d,Q d->cX w w' ct ct' vl vl d)
  (hsz:w.heap.size<=w'.heap.size) (hw:∀b,b<w.heap.size->(∀j,S j->¬fp j b)->w'.heap[b]?=w.heap[b]?) (hos:w'.os=w.os) (htape:w'.tape=w.tape) (houtp:cJ w w') :
  Hp cx ct' vl fp' F w':=by
 have own0:∀b,(w.heap.size<=b\/∃j,S j/\fp j b)->(cx.F0 b\/cx.w0.heap.size<=b):=fun b hb=>hb.elim (fun hh=>.inr (by have:=h.size;omega)) fun⟨j,_,hh⟩=>(h.lt j b hh).2
 have nin:∀{b:Nat}{j:Nat},(w.heap.size<=b\/∃i,S i/\fp i b)->¬S j->¬fp j b:=fun {b j} hb hj hf=>hb.elim (fun hh=>by have:=(h.lt j b hf).1;omega) fun⟨i,hi,hif⟩=>h.b7 i j (by rintro rfl;exact hj hi) b hif hf
 have nst:∀{b:Nat},(w.heap.size<=b\/∃i,S i/\fp i b)->¬aq cx fp G w b:=fun {b} hb hs=>hb.elim (fun hh=>by have:=hs.1.1;omega) fun⟨i,_,hif⟩=>hs.2.2 i hif
 have aM:∀b,aq cx fp G w b->aq cx fp' F w' b:=by
  intro b hb;refine⟨⟨by have:=hb.1.1;omega,hb.1.2⟩,fun hf=>nst (hF b hf).2 hb,fun k hk=>?_⟩;by_cases hs:S k
  ·exact nst (hfi k hs b hk).2 hb
  ·rw[hfo k hs] at hk;exact hb.2.2 k hk
 refine⟨fun k=>?_,fun i j hij b hi hj=>?_,fun k b hk hf=>?_,fun k hk b hb=>?_,fun k b hk=>?_,fun b hb=>⟨(hF b hb).1,own0 b (hF b hb).2⟩,Nat.le_trans h.size hsz,fun b hb hb0=>?_,hos.trans h.os,htape.trans h.tape,houtp.trans h.output⟩
 ·by_cases hs:S k
  ·exact hin k hs
  ·rw[hout k hs,hfo k hs]
   refine(h.ok k).mono (Q:=Q) aM (fun b hb=>hw b hb.1.1 fun j _=>hb.2.2 j) (fun b hb=>hw b (h.lt k b hb).1 fun j hj hf=>h.b7 k j (by rintro rfl;exact hs hj) b hb hf) (fun _ h=>h) (hrefs k hs) fun v d hq hr=>hr.bW (dc hkeep hq)
 ·by_cases hsi:S i<;>by_cases hsj:S j
  ·exact hdis i j b hsi hsj hij hi hj
  ·rw[hfo j hsj] at hj;exact nin (hfi i hsi b hi).2 hsj hj
  ·rw[hfo i hsi] at hi;exact nin (hfi j hsj b hj).2 hsi hi
  ·rw[hfo i hsi] at hi;rw[hfo j hsj] at hj;exact h.b7 i j hij b hi hj
 ·by_cases hs:S k
  ·exact hFd k hs b hk hf
  ·rw[hfo k hs] at hk;exact nin (hF b hf).2 hs hk
 ·by_cases hs:S k
  ·exact hemp k hs hk b hb
  ·rw[hfo k hs] at hb;rw[hout k hs] at hk;exact h.emp k hk b hb
 ·by_cases hs:S k
  ·exact⟨(hfi k hs b hk).1,own0 b (hfi k hs b hk).2⟩
  ·rw[hfo k hs] at hk;exact⟨by have:=(h.lt k b hk).1;omega,(h.lt k b hk).2⟩
 ·rw[hw b (by have:=h.size;omega) fun j _ hf=>(h.lt j b hf).2.elim hb0 fun hh=>by omega]
  exact h.same b hb hb0
theorem tV{n:Nat}{js:List Nat}{i:Nat}(h:i<js.length):sg n js i=js[i]:=by simp[sg,h]
theorem tW{n:Nat}{js:List Nat}{i:Nat}(h:js.length<=i):sg n js i=1000+n+i:=by simp[sg,h]
theorem ZZ{n:Nat}{js:List Nat}(hn:js.Nodup)(hb:js.all (fun j=>decide (j<1000+n))=true)(i j:Nat)(h:sg n js i=sg n js j):i=j:=by
 simp only[List.all_eq_true,decide_eq_true_eq] at hb;by_cases hi:i<js.length<;>by_cases hj:j<js.length
 ·rw[tV hi,tV hj] at h
  have hp:=List.pairwise_iff_getElem.1 hn;rcases Nat.lt_trichotomy i j with hij | hij | hij
  ·exact absurd h (hp i j hi hj hij)
  ·exact hij
  ·exact absurd h.symm (hp j i hj hi hij)
 ·rw[tV hi,tW (by omega)] at h
  have:=hb js[i] (List.getElem_mem hi);omega
 ·rw[tW (by omega),tV hj] at h
  have:=hb js[j] (List.getElem_mem hj);omega
 ·rw[tW (by omega),tW (by omega)] at h;omega
theorem G9{st:St}{σ:Nat->Nat}:∀{js:List Nat}{gs:List D},jG st σ js gs->js.length=gs.length/\∀(i:Nat)(h:i<js.length),st.cont js[i]=(nth gs i).ay σ
 | [],[],_=>⟨rfl,fun i h=>by simp at h⟩
 | [],_::_,h=>h.elim
 | _::_,[],h=>h.elim
 | j::js,g::gs,⟨h1,h2⟩=>by
  obtain⟨h3,h4⟩:=G9 h2;refine⟨by simp[h3],fun i hi=>?_⟩;cases i with
  | zero=>exact h1
  | succ i=>exact h4 i (by simpa using hi)
theorem HL:∀{gs hs:List D},jL gs hs->gs.length=hs.length/\∀i,nth gs i=.dead->nth hs i=.dead
 | [],[],_=>⟨rfl,fun _ _=>rfl⟩
 | [],_::_,h=>h.elim
 | _::_,[],h=>h.elim
 | g::gs,h::hs,⟨h1,h2⟩=>by
  obtain⟨h3,h4⟩:=HL h2;refine⟨by simp[h3],fun i hi=>?_⟩;cases i with
  | zero=>exact h1 hi
  | succ i=>exact h4 i hi
theorem I4(σ:Nat->Nat):∀(js:List Nat)(hs:List D)(st:St),(fT σ st js hs).n=st.n
 | [],_,_=>rfl
 | _::_,[],_=>rfl
 | j::js,h::hs,st=>by rw[fT,I4 σ js hs,St.fR]
theorem I5(σ:Nat->Nat):∀(js:List Nat)(hs:List D){st:St},st.wf->(fT σ st js hs).wf
 | [],_,_,h=>h
 | _::_,[],_,h=>h
 | _::js,_::hs,_,h=>I5 σ js hs (St.fa h _ _)
theorem St.P9{st:St}{k j:Nat}{c:D}:(st.put k c).in j↔st.in j:=by
 unfold St.put;split
 ·simp only[St.in,Bf]
 ·split<;>simp only[St.in]
theorem I3(σ:Nat->Nat):∀(js:List Nat)(hs:List D){st:St},st.wf->js.Nodup->js.length=hs.length->(∀(i:Nat)(h:i<js.length),¬st.in js[i]->nth hs i=.dead) ->
  (∀k,k ∉ js->(fT σ st js hs).cont k=st.cont k)/\∀(i:Nat)(h:i<js.length),(fT σ st js hs).cont js[i]=(nth hs i).ay σ
 | [],_,st,_,_,_,_=>⟨fun _ _=>rfl,fun i h=>by simp at h⟩
 | _::_,[],st,_,_,h,_=>by simp at h
 | j::js,h::hs,st,hw,hn,hl,hd=>by
  have hn':=List.nodup_cons.1 hn;obtain⟨h1,h2⟩:=I3 σ js hs (st:=st.put j (h.ay σ)) (St.fa hw _ _) hn'.2 (by simpa using hl) (fun i hi hin=>hd (i+1) (by simpa using hi) (by rw[St.P9] at hin;simpa using hin))
  have hj:(st.put j (h.ay σ)).cont j=h.ay σ:=by
   by_cases hin:st.in j
   ·rw[St.dV hw hin,ba]
   ·have:h=.dead:=hd 0 (by simp) (by simpa using hin)
    rw[St.qE hin,St.cK hin,this];rfl
  have ho:∀k,k≠j->(st.put j (h.ay σ)).cont k=st.cont k:=fun k hk=>by
   by_cases hin:st.in j
   ·rw[St.dV hw hin,aG _ _ hk]
   ·rw[St.qE hin]
  refine⟨fun k hk=>?_,fun i hi=>?_⟩
  ·simp only[List.mem_cons,not_or] at hk
   show(fT σ (st.put j (h.ay σ)) js hs).cont k=_;rw[h1 k hk.2,ho k hk.1]
  ·cases i with
   | zero =>
    show(fT σ (st.put j (h.ay σ)) js hs).cont j=_;rw[h1 j hn'.1,hj];rfl
   | succ i=>exact h2 i (by simpa using hi)
theorem I6:∀{js:List Nat}{gs hs:List D}{d:D},qG js gs hs d=false->js.length=gs.length->js.length=hs.length->∀(i:Nat)(h:i<js.length),pP js[i] (nth gs i) (nth hs i) d=false
 | [],_,_,_,_,_,_,i,h=>by simp at h
 | j::js,g::gs,h::hs,d,hq,h1,h2,i,hi=>by
  simp only[qG,Bool.or_eq_false_iff] at hq;cases i with
  | zero=>exact hq.1
  | succ i=>exact I6 hq.2 (by simpa using h1) (by simpa using h2) i (by simpa using hi)
 | _::_,[],_,_,_,h,_,_,_=>by simp at h
 | _::_,_::_,[],_,_,_,h,_,_=>by simp at h
theorem Ep{st:St}{σ:Nat->Nat}{js:List Nat}{tg:Bool}:∀{ds as:List D},jv st σ js tg ds as->ds.length=as.length /\
  ∀(i:Nat)(a:D),as[i]?=some a->∃d,ds[i]?=some d/\(d=a.ay σ\/(tg=true/\a8 (fun k=>if js.contains k=true then .dead else st.cont k) 4 d=some a))
 | [],[],_=>⟨rfl,fun i a h=>by simp at h⟩
 | [],_::_,h=>h.elim
 | _::_,[],h=>h.elim
 | d::ds,a::as,⟨h1,h2⟩=>by
  obtain⟨h3,h4⟩:=Ep h2;refine⟨by simp[h3],fun i a hi=>?_⟩;cases i with
  | zero=>simp at hi;subst hi;exact⟨d,rfl,h1⟩
  | succ i=>exact h4 i a (by simpa using hi)
theorem PJ[Mode]{st:St}(h:Hp cx st.cont vl fp G w)(hwf:st.wf){vs:Array Value}{ds:List D}(hvs:vs.size=ds.length)(hds:∀(j:Nat)(d:D),ds[j]?=some d->Pl w (aq cx fp G w) (af w st.cont vl) (vs.getD j undef) d)
  {f:FuncId} {K:D->St->Prop} (hv:Gc P f ds st K) :
  eQ P f=true/\Calls P f vs w fun e w'=>∃(v:Value)(c:D)(st':St),e=.returned v/\K c st'/\(∃fp' F,Hp cx st'.cont vl fp' F w'/\aI w' (aq cx fp' F w') (af w' st'.cont vl) v F c/\(c.isObj=false->∀b,¬F b))/\st'.wf/\st'.n=st.n/\∀i,i<1000->st.cont i=.dead->st'.cont i=.dead:=by
 obtain⟨js,tg,as,gs,Q,⟨hbody,hR⟩,⟨hnd,hall⟩,hlend,harg,hpostQ⟩:=hv;refine⟨hbody,?_⟩;generalize hσ:sg st.n js=σ at hlend harg hpostQ;have hinj:∀i j,σ i=σ j->i=j:=by rw[<-hσ];exact ZZ hnd hall
 obtain⟨hl1,hl2⟩:=G9 hlend;obtain⟨ha1,ha2⟩:=Ep harg;have σin:∀(i:Nat)(hi:i<js.length),σ i=js[i]:=fun i hi=>by rw[<-hσ,tV hi]
 have σout:∀i,js.length<=i->σ i=1000+st.n+i:=fun i hi=>by rw[<-hσ,tW hi]
 have σdead:∀i,js.length<=i->st.cont (σ i)=.dead:=fun i hi=>by
  rw[σout i hi];exact St.cK (by simp only[St.in,not_or,not_and];omega)
 have hct:∀i,st.cont (σ i)=(nth gs i).ay σ:=fun i=>by
  by_cases hi:i<js.length
  ·rw[σin i hi];exact hl2 i hi
  ·rw[σdead i (by omega),gH gs i (by omega)];rfl
 have hfpo:∀i,js.length<=i->∀b,¬fp (σ i) b:=fun i hi=>h.emp _ (by rw[σdead i hi];rfl)
 obtain⟨B,hB1,hB2,hB3,hB4,hB5⟩:∃B:Nat->Prop,(∀b,aq cx fp G w b->B b)/\(∀b,B b->b<w.heap.size)/\(∀k b,fp (σ k) b->¬B b) /\
   (∀(j:Nat)(a:D),as[j]?=some a->Pl w B (af w (nth gs) fun i=>vl (σ i)) (vs.getD j undef) a)/\(tg=true\/∀b,B b->aq cx fp G w b):=by
  have lent:∀{j:Nat}{a d:D},ds[j]?=some d->d=a.ay σ->Pl w (aq cx fp G w) (af w (nth gs) fun i=>vl (σ i)) (vs.getD j undef) a:=fun {j a d} hd he=>by
   have:=hds j d hd;rw[he] at this;exact this.nf hinj hct fun _ _=>rfl
  cases tg with
  | false =>
   refine⟨aq cx fp G w,fun _ h=>h,fun b hb=>hb.1.1,fun k b hk hb=>hb.2.2 _ hk,fun j a hj=>?_,.inr fun _ h=>h⟩;obtain⟨d,hd,he | ⟨he,_⟩⟩:=ha2 j a hj
   ·exact lent hd he
   ·cases he
  | true =>
   have hsB:∀b,aq cx fp G w b->b<w.heap.size/\∀i,¬fp (σ i) b:=fun b hb=>⟨hb.1.1,fun i=>hb.2.2 _⟩
   refine⟨fun b=>b<w.heap.size/\∀i,¬fp (σ i) b,hsB,fun b hb=>hb.1,fun k b hk hb=>hb.2 k hk,fun j a hj=>?_,.inl rfl⟩;obtain⟨d,hd,he | ⟨_,he⟩⟩:=ha2 j a hj
   ·exact(lent hd he).mono (Q:=fun _=>True) hsB (fun _ _=>rfl) (bn (fun _=>trivial) _) fun _ _ _ h=>h
   ·have hob:∀k,((fun k=>if js.contains k=true then D.dead else st.cont k) k).isObj=true->k ∉ js/\(fun k=>if js.contains k=true then D.dead else st.cont k) k=st.cont k:=by
     intro k hk;by_cases hc:js.contains k=true
     ·simp only[hc,if_true] at hk;cases hk
     ·exact⟨fun hm=>hc (List.contains_iff_mem.2 hm),if_neg hc⟩
    refine .rd (nK (ct:=st.cont) (vl:=vl) (A:=aq cx fp G w) hsB (fun k _ hk=>(hob k hk).2) (fun k _ hk=>⟨fp k,fun b hb=>⟨(h.lt k b hb).1,fun i hi=>?_⟩,h.ok k⟩) 4 (hds j d hd) he);have hc:=(hob k hk).1;by_cases hil:i<js.length
    ·refine h.b7 k (σ i) ?_ b hb hi
     rintro rfl;exact hc (by rw[σin i hil];exact List.getElem_mem hil)
    ·exact hfpo i (by omega) b hi
 refine(hR w B vs (fun i=>vl (σ i)) (fun i=>fp (σ i)) (h.gl.mono hB1 fun _ _=>rfl) hB2 (by rw[hvs,ha1]) hB4 (fun k=>?_) (fun k hk=>h.emp _ (by rw[hct k,pf];exact hk)) (fun i j b hij hi hj=>h.b7 _ _ (fun he=>hij (hinj _ _ he)) b hi hj)
  (fun k b hk=>⟨(h.lt _ b hk).1,hB3 k b hk⟩)).mono ?_
 ·have:=(h.ok (σ k))
  rw[hct k] at this;exact(this.nf hinj hct fun _ _=>rfl).mono (Q:=fun _=>True) hB1 (fun _ _=>rfl) (fun _ _=>rfl) (fun _ h=>h) (bn (fun _=>trivial) _) fun _ _ _ h=>h
 rintro e w' ⟨rc,gs',v,F,gv',Fs',hQ,rfl,hsz,hrc,hrce,hgs,hgse,hgv,hF,hFs,hFsd,hsame,hos,htape,hout⟩;obtain⟨hnew,htight,hK⟩:=hpostQ rc gs' hQ;obtain⟨hl3,hl4⟩:=HL hnew;refine⟨v,_,_,rfl,hK,?_⟩;generalize hq:qG js gs gs'=q at hK;have h1:=h.kill q;rw[<-St.cV] at h1;have hwk:=St.gx hwf q
 obtain⟨hp1,hp2⟩:=I3 σ js gs' hwk hnd (by omega) (fun i hi hin=>by
  have:¬st.in js[i]:=by simpa[St.in,St.kill,ml] using hin
  refine hl4 i ?_;have h0:=hl2 i hi;rw[St.cK this] at h0
  exact Jk.1 h0.symm)
 generalize hst2:fT σ (st.kill q) js gs'=st2 at hp1 hp2 hK;have hwf2:st2.wf:=by rw[<-hst2];exact I5 σ js gs' hwk
 have hn2:st2.n=st.n:=by rw[<-hst2,I4];rfl
 have hct2:∀k,nth gs' k≠.dead->st2.cont (σ k)=(nth gs' k).ay σ:=fun k hk=>by
  have hkl:k<js.length:=Classical.byContradiction fun hh=>hk (gH gs' k (by omega))
  rw[σin k hkl];exact hp2 k hkl
 have hgl:∀k,nth gs' k≠.dead->gv' k=vl (σ k):=fun k hk=>hgv k fun hh=>hk (hl4 k hh)
 have hFs0:∀i,js.length<=i->∀b,¬Fs' i b:=fun i hi=>hgse i (by rw[gH gs' i (by omega)];rfl)
 let S:Nat->Prop:=fun k=>k∈js
 let fp':Nat->Nat->Prop:=fun k b=>(∃i,i<js.length/\σ i=k/\Fs' i b)\/(k ∉ js/\fp k b)
 have hSi:∀i,i<js.length->σ i∈js:=fun i hi=>by rw[σin i hi];exact List.getElem_mem hi
 have hfpS:∀k,S k->∀b,fp' k b->∃i,i<js.length/\σ i=k/\Fs' i b:=fun k hk b hb=>hb.elim id fun hh=>absurd hk hh.1
 have hfo:∀k,¬S k->fp' k=fp k:=fun k hk=>by
  funext b;refine propext ⟨fun hb=>hb.elim (fun⟨i,hi,he,_⟩=>absurd (he▸hSi i hi) hk) fun hh=>hh.2,fun hb=>.inr ⟨hk,hb⟩⟩
 have hlent:∀b,(w.heap.size<=b\/∃j,fp (σ j) b)->(w.heap.size<=b\/∃j,S j/\fp j b):=fun b hb=>hb.imp id fun⟨j,hj⟩=>by
  by_cases hjl:j<js.length
  ·exact⟨σ j,hSi j hjl,hj⟩
  ·exact absurd hj (hfpo j (by omega) b)
 have hpost:∀b,(aq cx fp G w b\/(w.heap.size<=b/\b<w'.heap.size/\¬F b/\∀j,¬Fs' j b))->aq cx fp' F w' b:=by
  rintro b (hb | ⟨q1,q2,q3,q4⟩)
  ·refine⟨⟨by have:=hb.1.1;omega,hb.1.2⟩,fun hf=>?_,fun k hk=>?_⟩
   ·exact(hF b hf).2.1.elim (fun hh=>by have:=hb.1.1;omega) fun⟨j,hj⟩=>hb.2.2 _ hj
   ·rcases hk with⟨i,_,_,hi⟩ | ⟨_,hk⟩
    ·exact(hFs i b hi).2.elim (fun hh=>by have:=hb.1.1;omega) fun⟨j,hj⟩=>hb.2.2 _ hj
    ·exact hb.2.2 k hk
  ·refine⟨⟨q2,fun hh=>by have:=h.size;omega⟩,q3,fun k hk=>?_⟩
   rcases hk with⟨i,_,_,hi⟩ | ⟨_,hk⟩
   ·exact q4 i hi
   ·have:=(h.lt k b hk).1;omega
 have hA:∀{c:D}{v:Value}{F0:Nat->Prop}{R:Value->D->Prop},(tg=true->c.ie=true)->aI w' (fun b=>B b\/(w.heap.size<=b/\b<w'.heap.size/\¬F b/\∀j,¬Fs' j b)) R v F0 c->aI w' (aq cx fp' F w') R v F0 c:=by
  intro c v F0 R ht hc;rcases hB5 with htg | hB5
  ·exact aaL hc (ht htg)
  ·exact hc.mono (Q:=fun _=>True) (fun b hb=>hpost b (hb.imp (hB5 b) id)) (fun _ _=>rfl) (fun _ _=>rfl) (fun _ h=>h) (bn (fun _=>trivial) _) fun _ _ _ h=>h
 have hren:∀{c:D}{v:Value}{F0:Nat->Prop},aI w' (aq cx fp' F w') (af w' (nth gs') gv') v F0 c->aI w' (aq cx fp' F w') (af w' st2.cont vl) v F0 (c.ay σ):=fun hc =>
  hc.ay (Q:=fun _=>True) (bn (fun _=>trivial) _) fun v d _ hr=>hr.ay hct2 fun k hk=>(hgl k hk).symm
 have h2:Hp cx st2.cont vl fp' F w':=by
  refine h1.aaA S (fun d=>q d=false) (fun k hk=>?_) (fun k hk=>hp1 k hk) hfo (fun k hk b hb=>?_) (fun b hb=>⟨(hF b hb).1,hlent b (hF b hb).2.1⟩) (fun k hk b hb hf=>?_) (fun i j b hi hj hij hbi hbj=>?_) (fun k hk hobj b hb=>?_)
   (fun k _=>by rw[St.cV];exact iV q _) (fun d hd=>?_) hsz (fun b hb hn=>hsame b hb fun j hj=>?_) hos htape hout
  ·obtain⟨i,hi,rfl⟩:=List.getElem_of_mem (show k∈js from hk)
   rw[hp2 i hi];by_cases hdd:nth gs' i=.dead
   ·rw[hdd];exact Pl.dead
   ·have:=hren (hA (fun ht=>MR (htight ht).2 i) (hgs i))
    rw[hgl i hdd,σin i hi] at this;exact this.mono (Q:=fun _=>True) (fun _ h=>h) (fun _ _=>rfl) (fun _ _=>rfl) (fun b hb=>.inl ⟨i,hi,σin i hi,hb⟩) (bn (fun _=>trivial) _) fun _ _ _ h=>h
  ·obtain⟨i,_,_,hi⟩:=hfpS k hk b hb
   exact⟨(hFs i b hi).1,hlent b (hFs i b hi).2⟩
  ·obtain⟨i,_,_,hi⟩:=hfpS k hk b hb
   exact(hF b hf).2.2 i hi
  ·obtain⟨i',_,e1,h1'⟩:=hfpS i hi b hbi
   obtain⟨j',_,e2,h2'⟩:=hfpS j hj b hbj;exact hFsd i' j' b (by rintro rfl;exact hij (e1.symm.trans e2)) h1' h2'
  ·obtain⟨i,hi,rfl,hb'⟩:=hfpS k hk b hb
   rw[σin i hi,hp2 i hi,pf] at hobj;exact hgse i hobj b hb'
  ·rw[<-hq] at hd
   have hlt:js.length=gs'.length:=by omega
   have hqi:=fun i hi=>I6 hd hl1 hlt i hi
   have hback:∀(i:Nat)(hi:i<js.length),(st.kill q).cont js[i]=((nth gs i).ay σ).kill q:=fun i hi=>by rw[St.cV];show(st.cont js[i]).kill q=_;rw[hl2 i hi]
   cases d<;>try trivial
   case sub k p =>
    intro hs;by_cases hk:k∈js
    ·obtain⟨i,hi,rfl⟩:=List.getElem_of_mem hk
     have:=hqi i hi;simp only[pP,beq_self_eq_true,Bool.true_and,Bool.not_eq_false',Bool.and_eq_true,List.isEmpty_iff] at this;obtain⟨rfl,hsh⟩:=this;have e1:=hback i hi;have e2:=hp2 i hi;generalize nth gs i=x at hsh e1;generalize nth gs' i=y at hsh e2;cases x<;>cases y<;>simp only[wN,Bool.false_eq_true] at hsh;rw[e2];refine⟨⟨?_,fun hl=>by cases hl⟩,?_⟩
     ·exact True.intro
     ·rfl
    ·rw[hp1 k hk]
     exact⟨hs,(gN (h1.ok k) hs.1 fun b hb=>hsame b (h.lt k b hb).1 fun j hj=>by
      by_cases hjl:j<js.length
      ·exact h.b7 k (σ j) (by rintro rfl;exact hk (hSi j hjl)) b hb hj
      ·exact hfpo j (by omega) b hj).1⟩
   case av k p =>
    intro hs;by_cases hk:k∈js
    ·obtain⟨i,hi,rfl⟩:=List.getElem_of_mem hk
     have:=hqi i hi;simp only[pP,beq_self_eq_true,Bool.true_and,Bool.not_eq_false',Bool.and_eq_true,beq_iff_eq] at this;obtain⟨hpl,hsh⟩:=this;have e1:=hback i hi;have e2:=hp2 i hi;generalize nth gs i=x at hsh e1;generalize nth gs' i=y at hsh e2;cases x<;>cases y<;>simp only[wM,Bool.false_eq_true,beq_iff_eq] at hsh;rename_i l l'
     match p,hpl with
     | [(a,off)],_ =>
      rw[e1] at hs;obtain⟨rfl,ho,-⟩:=hs;rw[e1,e2];refine⟨⟨rfl,?_,trivial⟩,rfl⟩;simp only[ml,AF] at ho|-
      omega
    ·rw[hp1 k hk]
     exact⟨hs,(gN (h1.ok k) hs fun b hb=>hsame b (h.lt k b hb).1 fun j hj=>by
      by_cases hjl:j<js.length
      ·exact h.b7 k (σ j) (by rintro rfl;exact hk (hSi j hjl)) b hb hj
      ·exact hfpo j (by omega) b hj).2⟩
  ·by_cases hjl:j<js.length
   ·exact hn (σ j) (hSi j hjl) hj
   ·exact hfpo j (by omega) b hj
 refine⟨⟨fp',F,h2,hren (hA (fun ht=>(htight ht).1) hrc),fun ho=>hrce (by rw[pf] at ho;exact ho)⟩,hwf2,hn2,fun i hi hd=>?_⟩;by_cases hij:i∈js
 ·obtain⟨k,hk,rfl⟩:=List.getElem_of_mem hij
  rw[hp2 k hk,hl4 k (Jk.1 (by rw[<-hl2 k hk];exact hd))];rfl
 ·rw[hp1 i hij];exact St.iU q hd
theorem Jr[Mode]{st2:St}{vl:Nat->Value}{fp2:Nat->Nat->Prop}{F:Nat->Prop}{w':World}{v:Value}{c:D}{n:Nat}(h2:Hp cx st2.cont vl fp2 F w')(hwf2:st2.wf)(hn2:st2.n=n)(hc:aI w' (aq cx fp2 F w') (af w' st2.cont vl) v F c)(hce:c.isObj=false->∀b,¬F b) :
  (∃fp' G',Hp cx (st2.push c).cont (aA vl (1000+n) v) fp' G' w')/\(st2.push c).wf/\(st2.push c).n=n+1/\∀i,i<1000->st2.cont i=.dead->(st2.push c).cont i=.dead:=by
 have hd2:st2.cont (1000+n)=.dead:=St.cK (by rw[<-hn2];simp only[St.in,not_or,not_and];omega);refine⟨?_,St.fv hwf2 _,by show st2.n+1=_;rw[hn2],fun i hi hd=>?_⟩
 ·rw[St.c8 hwf2,hn2]
  exact⟨_,fun _=>False,h2.put (k:=1000+n) (v:=v) (c:=c) (F:=F) (by rw[hd2];rfl) hc (fun _ h=>h) (fun _ h=>h.elim) (fun _ _ h=>h) hce⟩
 ·rw[St.c8 hwf2,hn2,aG _ _ (by omega)];exact hd
theorem EG[Mode]{cx:Ctx}{vl:Nat->Value}{fp:Nat->Nat->Prop}{G:Nat->Prop}{w:World}{st:St}(hp:Hp cx st.cont vl fp G w)(hwf:st.wf){d:D}{v:Value}(hpl:Pl w (aq cx fp G w) (af w st.cont vl) v d)
  {K:D->St->Prop} (hab:kY d K st):∃(c:D)(st2:St)(fp2:Nat->Nat->Prop)(G2 F:Nat->Prop),K c st2/\Hp cx st2.cont vl fp2 G2 w/\aI w (aq cx fp2 G2 w) (af w st2.cont vl) v F c /\
   (c.isObj=false->∀b,¬F b)/\(∀b,F b->G2 b)/\(∀k,st.cont k=.dead->st2.cont k=.dead)/\st2.wf/\st2.n=st.n:=by
 unfold kY at hab;split at hab
 ·rename_i j
  obtain⟨hobj,hno,hK⟩:=hab;obtain⟨hc,ad,he,hv⟩:=fG hpl;have hp1:=hp.kill (aV j);rw[<-St.cV] at hp1
  have hrk:∀i,((st.kill (aV j)).cont i).refs (cA j):=fun i=>by
   rw[St.cV];exact dc (fun d hd=>by cases d<;>simp_all[aV,cA]) (iV (aV j) _)
  have hp2:=hp1.drop j hrk (vl j);rw[um] at hp2;have hwk:=St.gx hwf (aV j);have hin:(st.kill (aV j)).in j:=Classical.byContradiction fun hh=>by rw[St.cK hh] at hobj;cases hobj
  have ec:((st.kill (aV j)).put j .dead).cont=aA (st.kill (aV j)).cont j .dead:=St.dV hwk hin _
  have hvj:v=vl j:=by
   rw[hv];have hok:=hp.ok j;generalize st.cont j=cj at hc he hno hok;cases cj<;>try exact hc.elim
   ·cases hno
   ·rename_i l
    obtain⟨_,b,cs,e,Fs0,h1,h2,h3,h4,h5,h6,h7⟩:=hok;rw[h1] at he|-
    simp only[aH,dK,D.un,dY,Option.some.injEq] at he;rw[<-he]
   ·simp[D.aZ] at hc
  refine⟨_,_,_,_,fp j,hK,ec▸hp2,?_,fun hh=>(by rw[hobj] at hh;cases hh),fun b hb=>.inr hb,fun k hk=>?_,St.fa hwk _ _,by rw[St.fR];rfl⟩
  ·rw[hvj,ec]
   refine(hp1.ok j).mono (Q:=cA j) (fun b hb=>⟨hb.1,fun hg=>hg.elim hb.2.1 (hb.2.2 j),fun i hi=>?_⟩) (fun _ _=>rfl) (fun _ _=>rfl) (fun _ h=>h) (hrk j) fun v d hq hr=>hr.bW (dc (fun q hq=>?_) hq)
   ·by_cases hij:i=j
    ·subst hij;rw[ba] at hi;exact hi
    ·rw[aG _ _ hij] at hi;exact hb.2.2 i hi
   ·cases q<;>try trivial
    all_goals
     rename_i i p;intro hp;have n1:i≠j:=hq;simp only[aG _ _ n1];exact⟨hp,trivial⟩
  ·rw[ec]
   simp only[aA];split
   ·rfl
   ·exact St.iU _ hk
 ·exact hab.elim
end
section
variable{P:Program}{o:Oper}{cx:Ctx}{vl:Nat->Value}{fp:Nat->Nat->Prop}{G:Nat->Prop}{w:World}{a:Act}{ds:List (Option Nat)}{tr:List Nat}{Q:Exit->Act->World->Prop}
theorem VH{op:Op}{x:Operand}{xs:List Operand}(h:zN op=some (x,xs)):∃ts,op=.call { callee:=.value x,args:=xs.toArray,argTypes:=ts }:=by
 cases op<;>simp[zN] at h;rename_i c;obtain⟨ce,as,tys⟩:=c;cases ce<;>simp at h;obtain⟨rfl,rfl⟩:=h;exact⟨tys,rfl⟩
theorem Ax{A:Nat->Prop}{R:Value->D->Prop}{rd:X->D}:∀{xs:List Operand}{ys:List X},eX ds tr xs ys=true->(∀y,y∈ys->∀x,aJ ds tr x y=true->cd w A R (a.eval x) (rd y))->dO rd ys=true ->
  xs.length=(eY rd ys).length/\∀(j:Nat)(d:D),(eY rd ys)[j]?=some d->Pl w A R ((xs.map a.eval).getD j undef) d
 | [],[],_,_,_=>by simp[eY]
 | [],_::_,h,_,_=>by simp[eX] at h
 | _::_,[],h,_,_=>by simp[eX] at h
 | x::xs,y::ys,hx,hr,hg=>by
  simp only[eX,Bool.and_eq_true] at hx;simp only[dO,Bool.and_eq_true] at hg;obtain⟨h1,h2⟩:=Ax hx.2 (fun y hy=>hr y (by simp[hy])) hg.2;refine⟨by simp[eY,h1],fun j d hj=>?_⟩;cases j with
  | zero =>
   simp[eY] at hj;subst hj;exact(hr y (by simp) x hx.1).1 hg.1
  | succ j=>simpa using h2 j d (by simpa[eY] using hj)
theorem FB{f:FuncId}{x:Operand}{xs:List Operand}{ts:Array TypeId}{cs:Array Value}(ho:o.op=.call { callee:=.value x,args:=xs.toArray,argTypes:=ts })(hx:a.eval x=.func (.func f) #[] cs)(hb:eQ P f=true) :
  (execOp a.eval o).run P w=.ok (.enter f ((xs.map a.eval).toArray++cs)) w:=by
 unfold eQ at hb;cases hf:P.funcs[f]? with
 | none=>simp[hf] at hb
 | some fn =>
  simp[hf] at hb;obtain⟨h1,h2⟩:=hb;cases hbody:fn.body with
  | none=>simp[hbody] at h1
  | some c=>simp[execOp,ho,resolve,hx,Deferred.ofValue,invoke,callFunc,hf,h2,hbody]
theorem V7[Mode]{ct:Nat->D}(h:Hp cx ct vl fp G w){f:FuncId}{vs:Array Value}{dl l:List D}(hvs:vs.size=dl.length)(hds:∀(j:Nat)(d:D),dl[j]?=some d->Pl w (aq cx fp G w) (af w ct vl) (vs.getD j undef) d)
  (hl:eC (a8 ct 4) dl=some l) {res:D} (hR:aw P f ((stripL l).map .v) res) (hn:res.a7=true) :
  Calls P f vs w fun e w'=>∃(v:Value)(F:Nat->Prop),e=.returned v/\Ext w w'/\(∀b,F b->w.heap.size<=b/\b<w'.heap.size)/\aI w' (iW (aq cx fp G w) w w' F) (af w ct vl) v F (aQ res)/\((aQ res).isObj=false->∀b,¬F b):=by
 have hlive:∀b,aq cx fp G w b->live w b:=fun b hb=>hb.1.1
 have hok:∀j,∃F,(∀b,F b->live w b)/\aI w (aq cx fp G w) (af w ct vl) (vl j) F (ct j):=fun j=>⟨fp j,fun b hb=>(h.lt j b hb).1,h.ok j⟩
 obtain⟨hm1,hm2⟩:=gW hl;refine(hR w (live w) vs (fun _ _=>False) (h.gl.mono hlive fun _ _=>rfl) (fun _ h=>h) (by rw[List.length_map,oF,hm1];exact hvs) (fun j x hj=>?_) (fun _ _ _ _ h=>h.elim) (fun _ _ h=>h.elim)).mono ?_
 ·rw[List.getElem?_map,Option.map_eq_some_iff] at hj
  obtain⟨d,hj,rfl⟩:=hj;obtain⟨y,hy,rfl⟩:=qf hj;obtain⟨c,hc,hg⟩:=hm2 j y hy;exact⟨(Gg hlive (fun _ _=>rfl) hok 4 (hds j c hc) hg).strip,fun _ h=>h⟩
 ·rintro e w' ⟨v,F,Fs',rfl,hsz,hown,hpost,hF,hFs',_,hsame,hos,htape,hout⟩
  have hext:Ext w w':=⟨hsz,fun b hb=>hsame b hb (fun _ h=>h),hos,htape,hout⟩;have hFn:∀b,F b->w.heap.size<=b/\b<w'.heap.size:=fun b hb=>⟨(hF b hb).2.1.resolve_right fun⟨_,h⟩=>h,(hF b hb).1⟩
  have hown':aj w' (iW (aq cx fp G w) w w' F) v res F:=sZ hown hn;obtain⟨h1,h2⟩:=nz (R:=af w ct vl) hown';by_cases ho:(aQ res).isObj=true
  ·exact⟨v,F,rfl,hext,hFn,h1,fun hh=>by rw[ho] at hh;cases hh⟩
  ·have ho':(aQ res).isObj=false:=by simpa using ho
   refine⟨v,fun _=>False,rfl,hext,fun _ h=>h.elim,?_,fun _ _ h=>h⟩;exact(h2 ho').mono (Q:=fun _=>True) (fun b hb=>hb.imp id fun hh=>⟨hh.1,hh.2.1,fun h=>h⟩) (fun _ _=>rfl) (fun _ _=>rfl) (fun _ h=>h) (bn (fun _=>trivial) _) fun v d _ hr=>hr
theorem Pp[Mode]{st:St}(h:Hp cx st.cont vl fp G w)(hw:st.wf){x0:X}{r:List X}(hk:aW P ds tr o (.dyn x0 r)=true)
  (hx:∀y,y∈x0::r->∀x,aJ ds tr x y=true->cd w (aq cx fp G w) (af w st.cont vl) (a.eval x) (st.rd y)) {g:Option Bool} (hg:g≠some false) {K:St->Prop}
  (hv:@jy _ P (st.rd x0).core (eY st.rd r) (dO st.rd (x0::r)) g ⟨K⟩ st) {K':Act->World->Prop}
  (hK':∀(v:Value)(w':World)(st':St),K st'->(∃fp' G',Hp cx st'.cont (aA vl (1000+st.n) v) fp' G' w')->st'.wf->st'.n=st.n+1->(∀i,i<1000->st.cont i=.dead->st'.cont i=.dead)->K' (a.put o.dst v) w'):o.wp P a w K' Q:=by
 simp only[aW] at hk;split at hk<;>try(cases hk;done)
 rename_i x' as hop;obtain⟨ts,ho⟩:=VH hop;simp only[Bool.and_eq_true] at hk;have hp0:=hx x0 (by simp) x' hk.1;generalize hrd:st.rd x0=d0 at hv hp0
 obtain⟨gd,hv⟩:∃gd,@kZ _ P d0.core (eY st.rd r) (dO st.rd (x0::r)) gd ⟨K⟩ st:=by
  cases g with
  | none=>exact⟨false,hv⟩
  | some b=>cases b with
   | false=>exact absurd rfl hg
   | true=>exact⟨true,hv⟩
 unfold kZ at hv;split at hv
 ·rename_i f caps hcore
  have hgt:dO st.rd (x0::r)=true:=hv.1;have hg2:(d0.gate&&dO st.rd r)=true:=by simpa only[dO,hrd] using hgt
  simp only[Bool.and_eq_true] at hg2;have hpf:=hp0.1 hg2.1;rw[hcore] at hpf;obtain⟨cs,hcv,hcs,hcp⟩:=oh hpf;obtain⟨h1,h2⟩:=Ax (rd:=st.rd) hk.2 (fun y hy=>hx y (by simp[hy])) hg2.2;have hsz:((as.map a.eval).toArray++cs).size=(eY st.rd r++caps).length:=by simp[h1,hcs]
  have hpls:∀(j:Nat)(d:D),(eY st.rd r++caps)[j]?=some d->Pl w (aq cx fp G w) (af w st.cont vl) (((as.map a.eval).toArray++cs).getD j undef) d:=fun j d hj=>by
   by_cases hjl:j<(eY st.rd r).length
   ·rw[List.getElem?_append_left hjl] at hj
    have:=h2 j d hj;rw[Array.getD_eq_getD_getElem?,Array.getElem?_append_left (by simp;omega)];simpa using this
   ·rw[List.getElem?_append_right (by omega)] at hj
    have:=hcp _ d hj;rw[Array.getD_eq_getD_getElem?,Array.getElem?_append_right (by simp;omega)];have e:j-(as.map a.eval).toArray.size=j-(eY st.rd r).length:=by simp[h1]
    rw[e,<-Array.getD_eq_getD_getElem?];exact this
  rcases hv.2 with hv2 | ⟨rfl,l,res,hl,hb,hR,hn,hK2⟩
  rotate_left
  ·unfold Oper.wp
   rw[FB ho hcv hb,Oper.upon_enter];refine(V7 h hsz hpls hl hR hn).mono ?_;rintro e w' ⟨v,F,rfl,hext,hF,hc,hemp⟩;have hcd:st.cont (1000+st.n)=.dead:=St.cK (by simp only[St.in,not_or,not_and];omega);have h1:=h.add hext (k:=1000+st.n) (by rw[hcd];rfl) hF hc hemp;rw[<-St.c8 hw] at h1;exact hK' v w' _ hK2 ⟨_,_,h1⟩ (St.fv hw _) rfl fun i hi hd=>by rw[St.c8 hw,aG _ _ (by omega)];exact hd
  obtain⟨hb,hcalls⟩:=PJ (vs:=(as.map a.eval).toArray++cs) (ds:=eY st.rd r++caps) h hw hsz hpls hv2;unfold Oper.wp;rw[FB ho hcv hb,Oper.upon_enter];refine hcalls.mono ?_;rintro e w' ⟨v,c,st',rfl,⟨q0,q1⟩,⟨fp2,F,q2,q2',q2''⟩,q3,q4,q5⟩
  have hcc:aI w' (aq cx fp2 F w') (af w' st'.cont vl) v F (if gd=true then .when true c else c)/\((if gd=true then D.when true c else c).isObj=false->∀b,¬F b):=by
   cases gd with
   | false=>exact⟨q2',q2''⟩
   | true =>
    have hF:=q2'' (Ig (q0 rfl));exact⟨⟨fun _=>(n9 (q0 rfl)).1 q2',fun h=>by cases h⟩,fun _=>hF⟩
  obtain⟨r1,r2,r3,r4⟩:=Jr q2 q3 q4 hcc.1 hcc.2;exact hK' v w' _ q1 r1 r2 r3 fun i hi hd=>r4 i hi (q5 i hi hd)
 ·exact hv.elim
end
end Go.D3
namespace Go.D3
open Go
section
variable{P:Program}{cx:Ctx}{vl:Nat->Value}{fp:Nat->Nat->Prop}{G:Nat->Prop}{w:World}
end
end Go.D3
namespace Go.D3
open Go
section
variable{P:Program}{cx:Ctx}{vl:Nat->Value}{fp:Nat->Nat->Prop}{G:Nat->Prop}{w:World}
theorem HD{t kt et:TypeId}{d:TypeDesc}{kv xv:Value}{k x:D}{ks vs:List D}{r clock:Nat}{es:Array MapEntry}{f:Option Nat}(hm:P.underlying t=some (.map kt et))(hu:P.underlying kt=some d)(hd:kindOk d k)(hk:Sc kv k)(hx:Sc xv x)
  (hb:w.heap[r]?=some (.map es clock)) (hE:oO es ks vs) (hf:fQ k ks=some f) (hlen:ks.length<maxLen) :
  ∃es' clock',(Instr.mapUpdate t (.map (some r)) kv xv).run P w=.ok () { w with heap:=w.heap.setIfInBounds r (.map es' clock') }/\oO es' (cM k x ks vs f).1 (cM k x ks vs f).2:=by
 obtain⟨⟨l1,l2,l3⟩,s1,s2⟩:=hE;obtain⟨f1,f2⟩:=yG hd hk es.toList ks 0 (by simpa using l1) (fun j x y hj hy=>s1 j x y (by simpa using hj) hy) hf;cases f with
 | none =>
  refine⟨es.push { key:=kv,val:=xv,born:=clock },clock+1,?_,⟨by simp[cM,l1],by simp[cM,l2],by simp[cM];omega⟩,fun j e y hj hy=>?_,fun j e y hj hy=>?_⟩
  ·unfold Instr.mapUpdate
   simp only[Sem.run_bind,run_underlying hm,Result.andThen_ok,MapKept.run_getObj_map hb,sx hu hd hk,MapKept.run_findKey hu f1,Option.map_none,MapKept.run_setObj_map _ hb]
  ·simp only[cM] at hy
   rw[Array.getElem?_push] at hj;split at hj
   ·rename_i hjs
    injection hj with hj
    subst hj;subst hjs;rw[l1,List.getElem?_append_right (Nat.le_refl _)] at hy;simp at hy;subst hy;exact hk
   ·have hlt:=(Array.getElem?_eq_some_iff.1 hj).1
    rw[List.getElem?_append_left (by omega)] at hy;exact s1 j e y hj hy
  ·simp only[cM] at hy
   rw[Array.getElem?_push] at hj;split at hj
   ·rename_i hjs
    injection hj with hj
    subst hj;subst hjs;rw[List.getElem?_append_right (by omega)] at hy;simp[l1,l2] at hy;subst hy;exact hx
   ·have hlt:=(Array.getElem?_eq_some_iff.1 hj).1
    rw[List.getElem?_append_left (by omega)] at hy;exact s2 j e y hj hy
 | some i =>
  obtain⟨e0,e1,e2,e3⟩:=f2 i rfl;have e1':es[i]?=some e0:=by simpa using e1
  have hsame:(Instr.keyThatStays (((es[i]?).map (·.key)).getD kv) kv).run P w=.ok kv w:=by
   rw[e1'];simp only[Option.map_some,Option.getD_some,e2]
   have:Instr.sameBits 10000 kv kv=true:=by
    cases d<;>cases k<;>try exact hd.elim
    all_goals cases hk
    all_goals simp[Instr.sameBits,MapKept.bytes_beq]
   simp[Instr.keyThatStays,this]
  have hget:∀j e,(es.modify i fun e=>{ e with key:=kv,val:=xv })[j]?=some e->∃e',es[j]?=some e'/\e.key=e'.key/\(e.val=if j=i then xv else e'.val):=by
   intro j e hj;rw[Array.getElem?_modify] at hj;split at hj
   ·rename_i hij
    subst hij;rw[e1'] at hj;simp only[Option.map_some,Option.some.injEq] at hj;subst hj;exact⟨e0,e1',e2.symm,by simp⟩
   ·rename_i hij
    exact⟨e,hj,rfl,by rw[if_neg (Ne.symm hij)]⟩
  refine⟨es.modify i fun e=>{ e with key:=kv,val:=xv },clock,?_,⟨by simp[cM,l1],by simp[cM,l2],by simpa[cM] using l3⟩,fun j e y hj hy=>?_,fun j e y hj hy=>?_⟩
  ·unfold Instr.mapUpdate
   simp only[Sem.run_bind,run_underlying hm,Result.andThen_ok,MapKept.run_getObj_map hb,sx hu hd hk,MapKept.run_findKey hu f1,Option.map_some,Nat.zero_add,hsame,MapKept.run_setObj_map _ hb]
  ·obtain⟨e',h1,h2,_⟩:=hget j e hj
   rw[h2];exact s1 j e' y h1 (by simpa[cM] using hy)
  ·obtain⟨e',h1,_,h2⟩:=hget j e hj
   simp only[cM] at hy;rw[h2];by_cases hji:j=i
   ·subst hji
    have hlt:=(Array.getElem?_eq_some_iff.1 h1).1;rw[List.getElem?_set_self (by omega)] at hy;injection hy with hy;subst hy
    rw[if_pos rfl];exact hx
   ·rw[List.getElem?_set_ne (Ne.symm hji)] at hy
    rw[if_neg hji];exact s2 j e' y h1 hy
theorem Iz{A:Nat->Prop}{v:Value}{ks vs:List D}{F:Nat->Prop}(h:aj w A v (.mp ks vs) F):∃r es clock,v=.map (some r)/\F r/\w.heap[r]?=some (.map es clock)/\oO es ks vs:=by
 cases h;exact⟨_,_,_,rfl,‹_›,‹_›,‹_›⟩
theorem PZ{α:Type}{l:List α}(h:l.length=1):∃x,l=[x]:=by
 match l,h with
 | [x],_=>exact⟨x,rfl⟩
theorem V4{A:Nat->Prop}{v:Value}{s:List UInt8}{p:Nat}{F:Nat->Prop}(h:aj w A v (.bL s p) F):∃r,v=.pointer (some ⟨r,0,none⟩)/\F r/\w.heap[r]?=some (.stringIter ⟨s.toArray⟩ p)/\s.length<=maxLen:=by
 cases h;exact⟨_,rfl,‹_›,‹_›,‹_›⟩
theorem Tp[Mode]{j:Nat}{K:St->Prop}{st:St}(hK:@pH j ⟨K⟩ st)(h:Hp cx st.cont vl fp G w)(hw:st.wf){ty:TypeId} :
  ∃w' v,(Instr.next (vl j) true ty).run P w=.ok v w'/\∃st',K st'/\(∃fp' G',Hp cx st'.cont (aA vl (1000+st.n) v) fp' G' w')/\st'.wf/\st'.n=st.n+1/\∀i,i<1000->st.cont i=.dead->st'.cont i=.dead:=by
 unfold pH at hK;cases ho:(st.cont j).sP with
 | none=>rw[ho] at hK;exact hK.elim
 | some e =>
 rw[ho] at hK;simp only[cN] at hK;obtain⟨s,p⟩:=e
 have hc:st.cont j=.o (.bL s p):=by
  generalize st.cont j=c at ho;cases c<;>simp only[D.sP,reduceCtorEq] at ho;rename_i y;cases y<;>simp only[reduceCtorEq,Option.some.injEq,Prod.mk.injEq] at ho;obtain⟨rfl,rfl⟩:=ho;rfl
 have hown:=h.ok j;rw[hc] at hown;have hown:aj w (aq cx fp G w) (vl j) (.bL s p) (fp j):=hown;obtain⟨r,hv,hF,hb,hs⟩:=V4 hown
 have hin:st.in j:=by
  by_cases hin:st.in j
  ·exact hin
  ·rw[St.cK hin] at hc;cases hc
 by_cases hp:p<s.length
 ·have hK:=hK.1 hp
  simp only at hK;obtain⟨hh1,hh2⟩:=MapKept.heap_set (o':=.stringIter ⟨s.toArray⟩ (p+(cH s p).2)) hb
  have hrun:(Instr.next (vl j) true ty).run P w=.ok (.tuple #[.bool true,.int .i64 p,.int .i32 (cH s p).1]) { w with heap:=w.heap.setIfInBounds r (.stringIter ⟨s.toArray⟩ (p+(cH s p).2)) }:=by
   rw[hv];have hp':p<(ByteArray.mk s.toArray).size:=by rw[show(ByteArray.mk s.toArray).size=s.toArray.size from rfl,List.size_toArray];exact hp
   simp only[Instr.next,getObj,setObj,Sem.run_bind,Sem.run,hb,Result.andThen,hp',if_true];simp[goInt,cH]
  have h1:=(h.change (k:=j) (c':=.o (.bL s (p+(cH s p).2))) (F':=fp j) (G':=G) (w':={ w with heap:=w.heap.setIfInBounds r (.stringIter ⟨s.toArray⟩ (p+(cH s p).2)) }) (fun _=>True) rfl
    (by rw[hv];exact aj.bL hF hh1 hs) (fun i _=>bn (fun _=>trivial) _) (bn (fun _=>trivial) _) (fun b hb=>.inl hb) (fun b hb=>.inr hb) (h.cC j)
    (by simp) (fun b hbn=>hh2 b (fun e=>hbn (by rw[e];exact hF))) rfl rfl (.of rfl rfl)
    (fun p _ hp=>by
      rw[hc] at hp|-
      cases p with
      | nil=>exact⟨⟨trivial,fun hl=>by cases hl⟩,rfl⟩
      | cons s p=>exact hp.1.1.elim)
    (fun p _ hp=>by
      rw[hc] at hp|-
      cases p with
      | nil=>exact⟨trivial,rfl⟩
      | cons s p=>exact hp.1.elim)).1
  rw[<-St.dV hw hin] at h1;have hwf:=St.fa hw j (.o (.bL s (p+(cH s p).2)));have hdead:(st.put j (.o (.bL s (p+(cH s p).2)))).cont (1000+st.n)=.dead:=St.cK (by simp only[St.in,St.fR,not_or,not_and];omega);have hnn:(st.put j (.o (.bL s (p+(cH s p).2)))).n=st.n:=St.fR _ _ _;refine⟨_,_,hrun,_,hK,⟨aA (aA fp j (fp j)) (1000+st.n) fun _=>False,G,?_⟩,St.fv hwf _,by rw[<-hnn];rfl,fun i hi hdd=>?_⟩
  ·rw[St.c8 hwf,hnn]
   refine h1.put (by rw[hdead];rfl) (F:=fun _=>False) (show Pl _ _ _ _ _ from ?_) (fun _ h=>h.elim) (fun _ h=>h) (fun _ h=>h.elim) (fun _ _ h=>h);refine .rd (.al rfl fun j x hj=>?_)
   match j,hj with
   | 0,hj=>simp at hj;subst hj;exact .bool
   | 1,hj=>simp at hj;subst hj;exact .int (mb (n:=p) (by omega))
   | 2,hj=>simp at hj;subst hj;exact .int ⟨by simp[IntKind.min,IntKind.signed,IntKind.bits],by have:=decode_le ⟨s.toArray⟩ p;simp only[IntKind.max,IntKind.signed,IntKind.bits,cH];omega⟩
   | j+3,hj=>simp at hj
  ·rw[St.c8 hwf,hnn,aG _ _ (by omega),St.dV hw hin]
   by_cases hij:i=j
   ·subst hij;rw[hc] at hdd;cases hdd
   ·rw[aG _ _ hij];exact hdd
 ·have hK:=hK.2 (Nat.le_of_not_lt hp)
  have hrun:(Instr.next (vl j) true ty).run P w=.ok (.tuple #[.bool false]) w:=by
   rw[hv];have hp':¬p<(ByteArray.mk s.toArray).size:=by rw[show(ByteArray.mk s.toArray).size=s.toArray.size from rfl,List.size_toArray];exact hp
   simp[Instr.next,getObj,Sem.run,hb,Result.andThen,hp']
  have hdd:st.cont (1000+st.n)=.dead:=St.cK (by simp only[St.in,not_or,not_and];omega);refine⟨_,_,hrun,_,hK,⟨aA fp (1000+st.n) fun _=>False,G,?_⟩,St.fv hw _,rfl,fun i hi hd=>by rw[St.c8 hw,aG _ _ (by omega)];exact hd⟩;rw[St.c8 hw];refine h.put (by rw[hdd];rfl) (F:=fun _=>False) (show Pl _ _ _ _ _ from ?_) (fun _ h=>h.elim) (fun _ h=>h) (fun _ h=>h.elim) (fun _ _ h=>h);refine .rd (.al rfl fun j x hj=>?_)
  match j,hj with
  | 0,hj=>simp at hj;subst hj;exact .bool
  | j+1,hj=>simp at hj
theorem S1[Mode]{kk:Nat}{dm k x:D}{K:St->Prop}{st:St}(hK:@pA kk dm k x ⟨K⟩ st)(h:Hp cx st.cont vl fp G w)(hw:st.wf){vm kv xv:Value}(hm:Pl w (aq cx fp G w) (af w st.cont vl) vm dm)(hk:Pl w (aq cx fp G w) (af w st.cont vl) kv k)
  (hx:Pl w (aq cx fp G w) (af w st.cont vl) xv x) {t kt et:TypeId} (ht:P.underlying t=some (.map kt et)) (hkt:lA P kt kk=true) (v:Value) :
  ∃w',(Instr.mapUpdate t vm kv xv).run P w=.ok () w'/\∃st',K st'/\(∃fp' G',Hp cx st'.cont (aA vl (1000+st.n) v) fp' G' w')/\st'.wf/\st'.n=st.n+1/\∀i,i<1000->st.cont i=.dead->st'.cont i=.dead:=by
 obtain⟨hks,hxs,hK⟩:=hK
 have scl:∀{u:Value}{d:D},Pl w (aq cx fp G w) (af w st.cont vl) u d->d.b8=true->Sc u d:=fun hu hd=>by
  refine A5 (bU hu ?_ ?_ ?_ ?_ ?_ ?_) hd<;>intros<;>intro hh<;>rw[hh] at hd<;>cases hd
 have hk':=scl hk (GP hks);have hx':=scl hx hxs;obtain⟨d,hu,hd⟩:=GW hkt hks;split at hK
 case h_3=>exact hK.elim
 case h_1 j =>
  cases ho:(st.cont j).o?.bind D.kE with
  | none=>rw[ho] at hK;exact hK.elim
  | some e =>
  rw[ho] at hK;simp only[cN] at hK;cases hf:fQ k e.1 with
  | none=>rw[hf] at hK;exact hK.elim
  | some f =>
  rw[hf] at hK;obtain⟨hlen,hK⟩:=hK;obtain⟨ks,vs⟩:=e
  have hc:st.cont j=.o (.mp ks vs):=by
   generalize st.cont j=c at ho;cases c<;>simp only[D.o?,Option.bind_none,reduceCtorEq,Option.bind_some] at ho;rename_i y;cases y<;>simp only[D.kE,reduceCtorEq,Option.some.injEq,Prod.mk.injEq] at ho;obtain⟨rfl,rfl⟩:=ho;rfl
  obtain⟨_,hv,_⟩:=dM hm;simp only[aP,Option.some.injEq] at hv;have hown:=h.ok j;rw[hc,hv] at hown;have hown:aj w (aq cx fp G w) vm (.mp ks vs) (fp j):=hown;obtain⟨r,es,clock,rfl,hF,hb,hE⟩:=Iz hown;obtain⟨es',clock',hrun,hE'⟩:=HD ht hu hd hk' hx' hb hE hf hlen;obtain⟨hh1,hh2⟩:=MapKept.heap_set (o':=.map es' clock') hb
  have hin:st.in j:=by
   by_cases hin:st.in j
   ·exact hin
   ·rw[St.cK hin] at hc;cases hc
  have h1:=(h.change (k:=j) (c':=.o (.mp (cM k x ks vs f).1 (cM k x ks vs f).2)) (F':=fp j) (G':=G) (w':={ w with heap:=w.heap.setIfInBounds r (.map es' clock') }) (fun _=>True) rfl
    (by rw[hv];exact aj.mp hF hh1 hE') (fun i _=>bn (fun _=>trivial) _) (bn (fun _=>trivial) _) (fun b hb=>.inl hb) (fun b hb=>.inr hb) (h.cC j)
    (by simp) (fun b hbn=>hh2 b (fun e=>hbn (by rw[e];exact hF))) rfl rfl (.of rfl rfl)
    (fun p _ hp=>by
      rw[hc] at hp|-
      cases p with
      | nil=>exact⟨⟨trivial,fun hl=>by cases hl⟩,rfl⟩
      | cons s p=>exact hp.1.1.elim)
    (fun p _ hp=>by
      rw[hc] at hp|-
      cases p with
      | nil=>exact⟨trivial,rfl⟩
      | cons s p=>exact hp.1.elim)).1
  rw[<-St.dV hw hin] at h1;have hwf:=St.fa hw j (.o (.mp (cM k x ks vs f).1 (cM k x ks vs f).2));have hdead:(st.put j (.o (.mp (cM k x ks vs f).1 (cM k x ks vs f).2))).cont (1000+st.n)=.dead:=St.cK (by simp only[St.in,St.fR,not_or,not_and];omega);have hnn:(st.put j (.o (.mp (cM k x ks vs f).1 (cM k x ks vs f).2))).n=st.n:=St.fR _ _ _;refine⟨_,hrun,_,hK,⟨aA (aA fp j (fp j)) (1000+st.n) fun _=>False,G,?_⟩,St.fv hwf _,by rw[<-hnn];rfl,fun i hi hdd=>?_⟩
  ·rw[St.c8 hwf,hnn]
   exact h1.put (by rw[hdead];rfl) (F:=fun _=>False) Pl.dead (fun _ h=>h.elim) (fun _ h=>h) (fun _ h=>h.elim) (fun _ _ h=>h)
  ·rw[St.c8 hwf,hnn,aG _ _ (by omega),St.dV hw hin]
   by_cases hij:i=j
   ·subst hij;rw[hc] at hdd;cases hdd
   ·rw[aG _ _ hij];exact hdd
 case h_2 j s p =>
  have hr0:=dM hm;have hself:=fun i k s p hi=>uA hK (i:=i) (k:=k) (s:=s) (p:=p) hi
  obtain⟨l',st1,fp1,G1,Fs,hK,h2,h3,h4,h5,h6⟩:=jV (A:=aq cx fp G w) (vs:=#[vm]) _ hK h hw (fun _ h=>h) (fun j y hj=>by
   cases j with
   | zero=>simp at hj;subst hj;exact hm
   | succ j=>simp at hj)
  obtain⟨y,rfl⟩:=PZ (show l'.length=1 from h3);simp only[List.head?_cons,Option.bind_some] at hK;cases ho:y.kE with
  | none=>rw[ho] at hK;exact hK.elim
  | some e =>
  rw[ho] at hK;simp only[cN] at hK;cases hf:fQ k e.1 with
  | none=>rw[hf] at hK;exact hK.elim
  | some f =>
  rw[hf] at hK;obtain⟨hlen,hK⟩:=hK;obtain⟨ks,vs⟩:=e;have hy:y=.mp ks vs:=by cases y<;>simp only[D.kE,reduceCtorEq,Option.some.injEq,Prod.mk.injEq] at ho;obtain⟨rfl,rfl⟩:=ho;rfl
  subst hy;have hown:aj w (aq cx fp1 G1 w) vm (.mp ks vs) (Fs 0):=(h4 0 _ rfl).1;obtain⟨r,es,clock,rfl,hF,hb,hE⟩:=Iz hown;obtain⟨es',clock',hrun,hE'⟩:=HD ht hu hd hk' hx' hb hE hf hlen;obtain⟨hh1,hh2⟩:=MapKept.heap_set (o':=.map es' clock') hb;have hlive:∀b,Fs 0 b->b<w.heap.size:=fun b hb=>(h2.hp.cY b (h2.hF b ⟨0,hb⟩).1).1
  obtain⟨st',k1,k2,k3,k4,k5⟩:=wm (vs:=fun _=>.map (some r)) (Fs2:=fun j b=>j=0/\b=r) (F1:=fun _=>False) (F2:=fun b=>b=r) (res:=.dead) (v:=v) (w':={ w with heap:=w.heap.setIfInBounds r (.map es' clock') }) h2 hK
   (fun j k' s' p' hj=>by
     cases j with
     | zero =>
      have hs:=hself 0 k' s' p' hj;simp at hj;obtain⟨rfl,rfl,rfl⟩:=hj;exact hr0.bW (h6 _ hs)
     | succ j=>simp at hj)
   (by simp) .dead (fun j z hj=>by
     cases j with
     | zero=>simp at hj;subst hj;exact aj.mp ⟨rfl,rfl⟩ hh1 hE'
     | succ j=>simp at hj)
   (fun j b hb=>hb.2) (fun i j b hij hi hj=>hij (hi.1.trans hj.1.symm)) (fun b hb=>hb.elim) (fun b hb=>⟨by subst hb;simpa using hlive _ hF,.inr ⟨0,by subst hb;exact hF⟩⟩) (fun b _ hn=>hh2 b (by rintro rfl;exact hn ⟨0,hF⟩)) rfl rfl (.of rfl rfl)
  exact⟨_,hrun,st',k1,k2,k3,k4,k5⟩
end
end Go.D3
namespace Go.D3
open Go
section
variable{P:Program}{o:Oper}{cx:Ctx}{vl:Nat->Value}{fp:Nat->Nat->Prop}{G:Nat->Prop}{w:World}{a:Act}
theorem BC[Mode]:∀(l done:List D){K:List D->St->Prop}{st:St}{fp:Nat->Nat->Prop}{G:Nat->Prop}{vs:Nat->Value}{Fs:Nat->Nat->Prop},fY done l K st->Hp cx st.cont vl fp G w->st.wf ->
  (∀(j:Nat)(c:D),done[j]?=some c->bV w (aq cx fp G w) (af w st.cont vl) (vs j) (Fs j) c)->(∀j b,Fs j b->G b/\j<done.length)->(∀i j b,i≠j->Fs i b->¬Fs j b) ->
  (∀(j:Nat)(c:D),l[j]?=some c->Pl w (aq cx fp G w) (af w st.cont vl) (vs (done.length+j)) c) ->
  ∃(l':List D)(st':St)(fp':Nat->Nat->Prop)(G':Nat->Prop)(Fs':Nat->Nat->Prop),K l' st'/\Hp cx st'.cont vl fp' G' w/\st'.wf/\st'.n=st.n/\(∀i,st.cont i=.dead->st'.cont i=.dead)/\l'.length=done.length+l.length /\
   (∀(j:Nat)(c:D),l'[j]?=some c->bV w (aq cx fp' G' w) (af w st'.cont vl) (vs j) (Fs' j) c)/\(∀j b,Fs' j b->G' b)/\(∀i j b,i≠j->Fs' i b->¬Fs' j b)
 | [],done,K,st,fp,G,vs,Fs,hK,h,hw,hc,hF,hd,_=>⟨done,st,fp,G,Fs,hK,h,hw,rfl,fun _ h=>h,by simp,hc,fun j b hb=>(hF j b hb).1,hd⟩
 | x::r,done,K,st,fp,G,vs,Fs,hK,h,hw,hc,hF,hd,hl=>by
  have hx:=hl 0 x rfl;rw[Nat.add_zero] at hx;have hF0:∀b,¬Fs done.length b:=fun b hb=>by have:=(hF _ b hb).2;omega
  by_cases hsub:∃k p,x=.sub k p
  ·obtain⟨k,p,rfl⟩:=hsub
   simp only[fY] at hK;obtain⟨hsafe,hK⟩:=hK;obtain⟨y,st1,fp1,G1,F1,h1,h2,h3,h4⟩:=wY hK h hw (dM hx);have hone:(vs done.length).oneCell'=true:=by obtain⟨_,_,⟨q,n,c,e⟩ | ⟨r,e⟩⟩:=dM hx<;>rw[e]<;>rfl
   obtain⟨hcell,-⟩:=Fc (R:=af w st1.cont vl) h3 hone;have hk:∀c,c∈done++r->c.refs fun q=>cX w w st.cont st1.cont vl vl q:=fun c hcm=>dc (fun q hq=>h4 q (.inl hq)) (bt.1 hsafe c hcm)
   obtain⟨l',st',fp',G',Fs',k1,k2,k3,k4,k5,k6,k7,k8,k9⟩:=BC r (done++[aQ y]) (vs:=vs) (Fs:=fun j b=>if j=done.length then F1 b else Fs j b) h1 h2.hp h2.wf (fun j c hj=>by
     by_cases hjl:j<done.length
     ·rw[List.getElem?_append_left hjl] at hj
      have:=(hc j c hj).mono (Q:=fun q=>cX w w st.cont st1.cont vl vl q) (F':=Fs j) h2.aM (fun _ _=>rfl) (fun _ _=>rfl) (fun _ h=>h) (hk c (by simp[List.mem_of_getElem? hj])) fun v d hq hr=>hr.bW hq
      exact this.mono (Q:=fun _=>True) (fun _ h=>h) (fun _ _=>rfl) (fun _ _=>rfl) (fun b hb=>by rw[if_neg (by omega)];exact hb) (bn (fun _=>trivial) _) fun _ _ _ h=>h
     ·rw[List.getElem?_append_right (by omega)] at hj
      have:j=done.length:=by
       have:=(List.getElem?_eq_some_iff.1 hj).1;simp at this;omega
      subst this;simp at hj;subst hj
      exact hcell.mono (Q:=fun _=>True) (fun _ h=>h) (fun _ _=>rfl) (fun _ _=>rfl) (fun b hb=>by rw[if_pos rfl];exact hb) (bn (fun _=>trivial) _) fun _ _ _ h=>h)
    (fun j b hb=>by
      split at hb
      ·rename_i hj;exact⟨(h2.hF b hb).1,by simp[hj]⟩
      ·have:=hF j b hb;exact⟨h2.hG b this.1,by simp;omega⟩)
    (fun i j b hij hi hj=>by
      split at hi<;>split at hj
      ·omega
      ·exact(h2.hF b hi).2 (hF j b hj).1
      ·exact(h2.hF b hj).2 (hF i b hi).1
      ·exact hd i j b hij hi hj)
    (fun j c hj=>by
      have:=hl (j+1) c (by simpa using hj);rw[show done.length+(j+1)=(done++[aQ y]).length+j by simp;omega] at this
      exact this.bW h2.aM (fun _ _=>rfl) (hk c (by simp[List.mem_of_getElem? hj])))
   exact⟨l',st',fp',G',Fs',k1,k2,k3,k4.trans h2.n,fun i hi=>k5 i (h2.dd i hi),by simp at k6|-;omega,k7,k8,k9⟩
  ·have hK':x.pc=true/\fY (done++[x]) r K st:=by
    cases x<;>first | exact hK | exact absurd ⟨_,_,rfl⟩ hsub
   obtain⟨l',st',fp',G',Fs',k1,k2,k3,k4,k5,k6,k7,k8,k9⟩:=BC r (done++[x]) (vs:=vs) (Fs:=Fs) hK'.2 h hw (fun j c hj=>by
     by_cases hjl:j<done.length
     ·rw[List.getElem?_append_left hjl] at hj;exact hc j c hj
     ·rw[List.getElem?_append_right (by omega)] at hj
      have:j=done.length:=by
       have:=(List.getElem?_eq_some_iff.1 hj).1;simp at this;omega
      subst this;simp at hj;subst hj
      exact E0 hx hK'.1)
    (fun j b hb=>by have:=hF j b hb;exact⟨this.1,by simp;omega⟩) hd
    (fun j c hj=>by
      have:=hl (j+1) c (by simpa using hj)
      rwa [show done.length+(j+1)=(done++[x]).length+j by simp;omega] at this)
   exact⟨l',st',fp',G',Fs',k1,k2,k3,k4,k5,by simp at k6|-;omega,k7,k8,k9⟩
theorem Oo[Mode]{n:Nat}{x:D}{K:St->Prop}{st:St}(hK:qy n x K st)(h:Hp cx st.cont vl fp G w)(hw:st.wf){vx:Value}(hx:Pl w (aq cx fp G w) (af w st.cont vl) vx x)(e:TypeId) :
  ∃st',K st'/\(∃fp' G',Hp cx st'.cont (aA vl (1000+st.n) (.pointer (some ⟨w.heap.size,0,none⟩))) fp' G' (w.alloc (.cells vx.cells e)))/\st'.wf/\st'.n=st.n+1/\∀i,i<1000->st.cont i=.dead->st'.cont i=.dead:=by
 unfold qy at hK;cases hl:x.cellsOf with
 | none=>rw[hl] at hK;exact hK.elim
 | some l =>
 rw[hl] at hK;obtain⟨⟨hln,hn0⟩,hK⟩:=hK;obtain⟨hcs,hcell⟩:=oJ hx hl
 obtain⟨l',st1,fp1,G1,Fs,k1,k2,k3,k4,k5,k6,k7,k8,k9⟩:=BC l [] (vs:=fun j=>vx.cells.getD j undef) (Fs:=fun _ _=>False) hK h hw (fun j c hj=>by simp at hj) (fun _ _ h=>h.elim) (fun _ _ _ _ h=>h.elim) (fun j c hj=>by
  simp only[List.length_nil,Nat.zero_add];exact hcell j c hj)
 have g1:=k2.grow (w':=w.alloc (.cells vx.cells e)) (by simp) (fun b hb=>heap_alloc_old w _ b hb) rfl rfl (.of rfl rfl);have hd:st1.cont (1000+st.n)=.dead:=St.cK (by rw[<-k4];simp only[St.in,not_or,not_and];omega)
 have hb:qh (w.alloc (.cells vx.cells e)) (aq cx fp1 (fun b=>G1 b\/(w.heap.size<=b/\b<(w.alloc (.cells vx.cells e)).heap.size)) (w.alloc (.cells vx.cells e))) (af (w.alloc (.cells vx.cells e)) st1.cont vl) (.pointer (some ⟨w.heap.size,0,none⟩)) (fun b=>b=w.heap.size\/∃j,Fs j b) l':=by
  have hlt:∀j b,Fs j b->b<w.heap.size:=fun j b hb=>(k2.cY b (k8 j b hb)).1
  refine⟨by simp at k6;omega,w.heap.size,vx.cells,e,Fs,rfl,heap_alloc_new w _,by simp at k6;omega,fun j c hj=>?_,.inl rfl,fun j b hb=>⟨fun hh=>by have:=hlt j b hb;omega,.inr ⟨j,hb⟩⟩,k9⟩;refine(k7 j c hj).mono (Q:=fun _=>True) (fun b hb=>⟨⟨by have:=hb.1.1;simp;omega,hb.1.2⟩,fun hg=>hg.elim hb.2.1 fun hh=>by have:=hb.1.1;omega,hb.2.2⟩) (fun b hb=>heap_alloc_old w _ b hb.1.1) (fun b hb=>heap_alloc_old w _ b (hlt j b hb)) (fun _ h=>h) (bn (fun _=>trivial) _) fun v d _ hr=>hr.bW (bn (fun q=>?_) _)
  cases q<;>try trivial
  case sub k p=>exact fun hp=>⟨hp,(gN (k2.ok k) hp.1 fun b hb=>heap_alloc_old w _ b (k2.lt k b hb).1).1⟩
  case av k p=>exact fun hp=>⟨hp,(gN (k2.ok k) hp fun b hb=>heap_alloc_old w _ b (k2.lt k b hb).1).2⟩
 refine⟨_,k1,?_,St.fv k3 _,by show st1.n+1=_;rw[k4],fun i hi hdd=>?_⟩
 ·rw[St.c8 k3,k4]
  exact⟨_,fun _=>False,g1.put (k:=1000+st.n) (c:=.box l') (F:=fun b=>b=w.heap.size\/∃j,Fs j b) (by rw[hd];rfl) hb (fun b hb=>hb.elim (fun hh=>.inr ⟨by omega,by simp;omega⟩) fun⟨j,hj⟩=>.inl (k8 j b hj)) (fun _ h=>h.elim) (fun _ _ h=>h) (fun hh=>by cases hh)⟩
 ·rw[St.c8 k3,k4,aG _ _ (by omega)];exact k5 i hdd
theorem PC{sz:Nat}{cs:Array Value}{v:Value}(hv:v.cells.size=sz)(hc:cs.size=sz):∃cs',Instr.fill (fun j=>some (j*sz,sz)) cs [(0,v)]=some cs'/\cs'.size=sz/\∀j,j<sz->cs'.getD j undef=v.cells.getD j undef:=by
 refine⟨fu cs 0 v.cells.toList,?_,by rw[rJ];exact hc,fun j hj=>?_⟩
 ·simp only[Instr.fill]
  have hcond:¬((decide (v.cells.size≠sz) || decide (0*sz+v.cells.size > cs.size))=true):=by simp;omega
  rw[if_neg hcond];have:=vi v.cells.toList 0 0 cs;simp only[Nat.add_zero] at this;rw[<-Array.foldl_toList,Array.toList_zipIdx,Nat.zero_mul,this]
 ·rw[rI _ _ _ _ (by simp;omega),if_pos ⟨Nat.zero_le _,by simp;omega⟩]
  simp
theorem Oj[Mode]{z x:D}{K:St->Prop}{st:St}(hK:qw z x K st)(h:Hp cx st.cont vl fp G w)(hw:st.wf){vx:Value}(hx:Pl w (aq cx fp G w) (af w st.cont vl) vx x)(hz : 0<z.cells.length)(e:TypeId) :
  vx.cells.size=z.cells.length/\∀cs:Array Value,cs.size=z.cells.length->(∀j,j<z.cells.length->cs.getD j undef=vx.cells.getD j undef) ->
  ∃st',K st'/\(∃fp' G',Hp cx st'.cont (aA vl (1000+st.n) (.slice (some ⟨w.heap.size,0,none⟩) 1 1)) fp' G' (w.alloc (.cells cs e)))/\st'.wf/\st'.n=st.n+1/\∀i,i<1000->st.cont i=.dead->st'.cont i=.dead:=by
 unfold qw at hK;cases hl:x.cellsOf with
 | none=>rw[hl] at hK;exact hK.elim
 | some l =>
 rw[hl] at hK;obtain⟨hln,hK⟩:=hK;obtain⟨hcs,hcell⟩:=oJ hx hl;refine⟨by omega,fun cs hs hget=>?_⟩;obtain⟨l',st1,fp1,G1,Fs,k1,k2,k3,k4,k5,_⟩:=jV (A:=aq cx fp G w) (vs:=vx.cells) l hK h hw (fun _ h=>h) hcell;have g1:=k2.hp.grow (w':=w.alloc (.cells cs e)) (by simp) (fun b hb=>heap_alloc_old w _ b hb) rfl rfl (.of rfl rfl);have hd:st1.cont (1000+st.n)=.dead:=St.cK (by rw[<-k2.n];simp only[St.in,not_or,not_and];omega);have hlt:∀j b,Fs j b->b<w.heap.size:=fun j b hb=>(k2.hp.cY b (k2.hF b ⟨j,hb⟩).1).1
 have hl':l'.length=z.cells.length:=by omega
 have hat:∀j c,cellAt [D.agg l'] z.cells.length j=some c->l'[j]?=some c/\j<z.cells.length:=fun j c hj=>by
  have h1:=l4 hz hj;simp only[List.length_cons,List.length_nil,Nat.zero_add,Nat.one_mul] at h1;unfold cellAt at hj;rw[Nat.div_eq_of_lt h1,Nat.mod_eq_of_lt h1] at hj;exact⟨hj,h1⟩
 have hb:aI (w.alloc (.cells cs e)) (aq cx fp1 (fun b=>G1 b\/(w.heap.size<=b/\b<(w.alloc (.cells cs e)).heap.size)) (w.alloc (.cells cs e))) (af (w.alloc (.cells cs e)) st1.cont vl) (.slice (some ⟨w.heap.size,0,none⟩) 1 1) (fun b=>b=w.heap.size\/∃j,Fs j b) (.o (.slice z [.agg l'])):=by
  refine aj.slice (L:=[.agg l']) (off:=0) (cap:=1) (sz:=z.cells.length) Fs (heap_alloc_new w _) (by simp;omega) (by simp) (by simp[maxLen]) hz rfl (fun x hx=>?_) (fun j c hj=>?_) (.inl rfl) (fun j b hb=>⟨fun hh=>by have:=hlt j b hb;omega,.inr ⟨j,hb⟩⟩) k5
  ·rw[List.mem_singleton] at hx
   subst hx;exact hl'
  ·obtain⟨hj1,hj2⟩:=hat j c hj
   rw[Nat.zero_add,hget j hj2];exact(k4 j c hj1).1.mono (fun b hb=>⟨⟨by have:=hb.1.1;simp;omega,hb.1.2⟩,fun hg=>hg.elim hb.2.1 fun hh=>by have:=hb.1.1;omega,hb.2.2⟩) (fun b hb=>heap_alloc_old w _ b hb.1.1) (fun b hb=>heap_alloc_old w _ b (hlt j b hb)) (fun _ h=>h)
 refine⟨_,k1,?_,St.fv k2.wf _,by show st1.n+1=_;rw[k2.n],fun i hi hdd=>?_⟩
 ·rw[St.c8 k2.wf,k2.n]
  exact⟨_,fun _=>False,g1.put (k:=1000+st.n) (c:=.o (.slice z [.agg l'])) (F:=fun b=>b=w.heap.size\/∃j,Fs j b) (by rw[hd];rfl) hb (fun b hb=>hb.elim (fun hh=>.inr ⟨by omega,by simp;omega⟩) fun⟨j,hj⟩=>.inl (k2.hF b ⟨j,hj⟩).1) (fun _ h=>h.elim) (fun _ _ h=>h) (fun hh=>by cases hh)⟩
 ·rw[St.c8 k2.wf,k2.n,aG _ _ (by omega)];exact k2.dd i hdd
end
end Go.D3
namespace Go.D3
open Go
theorem zh{ob ob':Nat->D}(h:∀j,j<1000->ob j=ob' j){σ:Nat->Nat}:∀{js:List Nat}{gs:List D},qZ ob σ js gs->qZ ob' σ js gs
 | [],[],h=>h
 | [],_::_,h=>h.elim
 | _::_,[],h=>h.elim
 | j::js,g::gs,⟨⟨h1,h2⟩,h3⟩=>⟨⟨h1,by rw[<-h j h1];exact h2⟩,zh h h3⟩
theorem oN.mono[Mode]{P:Program}{f:FuncId}{ob ob':Nat->D}(h:∀j,j<1000->ob j=ob' j){ds:List D}{c:D}:oN P f ob ds c->oN P f ob' ds c :=
 fun⟨js,as,gs,rc,h1,h2,h3,h4⟩=>⟨js,as,gs,rc,h1,h2,zh h h3,h4⟩
section
variable{P:Program}{cx:Ctx}{ct:Nat->D}{vl:Nat->Value}{fp:Nat->Nat->Prop}{G:Nat->Prop}{w:World}
end
end Go.D3
namespace Go.D3
open Go
structure Fm[Mode](cx:Ctx)(nt:Nat)(tr pre:List Nat)(ds:List (Option Nat))(st:St)(a:Act)(w:World):Prop where
 ex:∃vl fp G,Hp cx st.cont vl fp G w/\(∀(j t:Nat),tr[j]?=some t->pre.contains j=false->a.tmps.getD t undef=vl j)/\(∀(i t:Nat),i<st.n->ds[i]?=some (some t)->a.tmps.getD t undef=vl (1000+i))/\∀k,tr.length<=k->k<1000->vl k=cx.gv k
 wf:st.wf
 dd:∀j,pre.contains j=true->st.cont j=.dead
 size:a.tmps.size=nt
 defers:a.defers=cx.sA
structure jU(nt:Nat)(tr pre:List Nat)(ds:List (Option Nat)):Prop where
 nodup:∀(i i' t:Nat),ds[i]?=some (some t)->ds[i']?=some (some t)->i=i'
 apart:∀(i t:Nat),ds[i]?=some (some t)->∀(j:Nat),tr[j]?=some t->pre.contains j=true
 aaS:∀(i i' t:Nat),tr[i]?=some t->tr[i']?=some t->i=i'
 aaT:∀(i t:Nat),tr[i]?=some t->t<nt
 gS:tr.length<500
 Ao:∀j,pre.contains j=true->j<tr.length
section
variable{P:Program}{cx:Ctx}{nt:Nat}{tr pre:List Nat}{ds:List (Option Nat)}{st:St}{a:Act}{w:World}{o:Oper}{Q:Exit->Act->World->Prop}{vl:Nat->Value}{fp:Nat->Nat->Prop}{G:Nat->Prop}
theorem FK{s:ByteArray}{l:List UInt8}(h:cW s.data.toList l=true):Value.string s=.string ⟨l.toArray⟩:=by
 have:=FL h;rw[<-this,<-yn]
theorem y4[Mode](h:Hp cx st.cont vl fp G w)(htr:∀(j t:Nat),tr[j]?=some t->pre.contains j=false->a.tmps.getD t undef=vl j)(htm:∀(i t:Nat),i<st.n->ds[i]?=some (some t)->a.tmps.getD t undef=vl (1000+i))
  {x:Operand} {y:X} (hx:aJ ds tr x y=true) (hi:∀i,y=.t i->i<st.n) (hv:∀j,y=.v j->pre.contains j=false):cd w (aq cx fp G w) (af w st.cont vl) (a.eval x) (st.rd y):=by
 have lit:∀{v:Value}{d:D},Rd w (aq cx fp G w) v d->cd w (aq cx fp G w) (af w st.cont vl) v d:=fun hd=>Pl.pO (.rd hd) pU
 unfold aJ at hx;split at hx<;>try(cases hx;done)
 ·rename_i t i
  have:=htm i t (hi i rfl) (by simpa using hx);show cd _ _ _ (a.tmps.getD t undef) (cu (1000+i) (st.cont (1000+i)));rw[this];exact od (h.ok _)
 ·rename_i t j
  have:=htr j t (by simpa using hx) (hv j rfl);show cd _ _ _ (a.tmps.getD t undef) (cu j (st.cont j));rw[this];exact od (h.ok _)
 ·simp only[Bool.and_eq_true,decide_eq_true_eq] at hx
  obtain⟨⟨rfl,rfl⟩,h1⟩:=hx;exact lit (.int (jM h1))
 ·simp only[Bool.and_eq_true,decide_eq_true_eq] at hx
  obtain⟨⟨rfl,rfl⟩,h1⟩:=hx;exact lit (.int (jM h1))
 ·simp only[beq_iff_eq] at hx
  subst hx;exact lit .bool
 ·simp only[Bool.and_eq_true,decide_eq_true_eq] at hx
  show cd _ _ _ (Value.string _) _;rw[FK hx.1];exact lit (.str (by have:=hx.2;simp only[maxLen];omega))
 ·exact lit .aB
 ·exact lit .bc
 ·simp only[beq_iff_eq] at hx
  subst hx;exact lit (.fn rfl (fun j x hx=>by simp at hx))
 ·rename_i g g'
  simp only[Bool.and_eq_true,beq_iff_eq] at hx;obtain⟨hgg,hx⟩:=hx;subst hgg;obtain⟨d,hd⟩:=Option.isSome_iff_exists.1 hx;have:=h.gl.gl _ _ hd;show cd _ _ _ _ ((gl g).getD .dead);rw[hd];exact lit this
 ·exact lit .aY
theorem Fm.put[Mode](hS:jU nt tr pre ds)(h:Fm cx nt tr pre ds st a w){s:bd}(hd:ds[st.n]?=some (fU o s))(ha:s.k.dq=none)(hlt:∀t,o.dst=some t->t<nt){st':St}{w':World}{v:Value}
  (htr0:∀(j t:Nat),tr[j]?=some t->pre.contains j=false->a.tmps.getD t undef=vl j) (htm0:∀(i t:Nat),i<st.n->ds[i]?=some (some t)->a.tmps.getD t undef=vl (1000+i)) (hgh:∀k,tr.length<=k->k<1000->vl k=cx.gv k)
  (hp:∃fp' G',Hp cx st'.cont (aA vl (1000+st.n) v) fp' G' w') (hwf:st'.wf) (hn:st'.n=st.n+1) (hdd:∀j,j<1000->st.cont j=.dead->st'.cont j=.dead):Fm cx nt tr pre ds st' (a.put o.dst v) w':=by
 obtain⟨fp',G',hp⟩:=hp;have hres:fU o s=o.dst:=by simp[fU,ha]
 rw[hres] at hd;have hjlt:∀j t,tr[j]?=some t->j<1000:=fun j t hj=>by have:=(List.getElem?_eq_some_iff.1 hj).1;have:=hS.gS;omega
 refine⟨⟨_,_,_,hp,fun j t hj hpre=>?_,fun i t hi hit=>?_,fun k h1 h2=>by rw[aG _ _ (by omega)];exact hgh k h1 h2⟩,hwf,fun j hj=>hdd j (by have:=hS.Ao j hj;have:=hS.gS;omega) (h.dd j hj),?_,?_⟩
 ·rw[aG _ _ (by have:=hjlt j t hj;omega)]
  cases hod:o.dst with
  | none=>exact htr0 j t hj hpre
  | some d =>
   have hne:d≠t:=by
    rintro rfl;rw[hod] at hd;have:=hS.apart _ _ hd j hj;rw[hpre] at this;cases this
   simp only[Act.put];rw[getD_set_ne _ hne];exact htr0 j t hj hpre
 ·by_cases hin:i=st.n
  ·subst hin
   rw[ba];rw[hd] at hit;injection hit with hit
   rw[hit];simp only[Act.put];exact o6 _ (by rw[h.size];exact hlt t hit)
  ·rw[aG _ _ (by omega)]
   have hi':i<st.n:=by omega
   cases hod:o.dst with
   | none=>exact htm0 i t hi' hit
   | some d =>
    have hne:d≠t:=by
     rintro rfl;rw[hod] at hd;exact hin (hS.nodup _ _ _ hit hd)
    simp only[Act.put];rw[getD_set_ne _ hne];exact htm0 i t hi' hit
 ·cases o.dst<;>simp[Act.put,h.size]
 ·cases o.dst<;>simp[Act.put,h.defers]
theorem IX[Mode](h:Hp cx st.cont vl fp G w)(hw:st.wf){v:Value}{c:D}(hc:aI w (aq cx fp G w) (af w st.cont vl) v (fun _=>False) c) :
  (∃fp' G',Hp cx (st.push c).cont (aA vl (1000+st.n) v) fp' G' w)/\(st.push c).wf/\(st.push c).n=st.n+1/\∀j,j<1000->st.cont j=.dead->(st.push c).cont j=.dead:=by
 have hd:st.cont (1000+st.n)=.dead:=St.cK (by simp only[St.in,not_or,not_and];omega);refine⟨⟨aA fp (1000+st.n) fun _=>False,G,?_⟩,St.fv hw _,rfl,fun i hi hd=>by rw[St.c8 hw,aG _ _ (by omega)];exact hd⟩;rw[St.c8 hw];exact h.put (by rw[hd];rfl) (F:=fun _=>False) hc (fun _ h=>h.elim) (fun _ h=>h) (fun _ h=>h.elim) (fun _ _ h=>h)
theorem MY{A:Nat->Prop}{R:Value->D->Prop}{v:Value}{d:D}(h:Pl w A R v d)(hd:d.cn=true){g:Option Bool}(hg:g≠some false):aI w A R v (fun _=>False) (qg g d):=by
 cases g with
 | none=>cases d<;>first | exact h | cases hd
 | some b=>cases b with
  | false=>exact absurd rfl hg
  | true=>exact show aI w A R v (fun _=>False) (.when true d) from⟨fun _=>h,fun h=>absurd h (by simp)⟩
theorem MZ{A:Nat->Prop}{R:Value->D->Prop}{d:D}:aI w A R undef (fun _=>False) (.when false d) :=
 show(false=true->Pl w A R undef d)/\(false=false->undef=undef) from⟨fun h=>absurd h (by simp),fun _=>rfl⟩
theorem jo{K:Act->World->Prop}{v:Value}{w':World}(hrun:(execOp a.eval o).run P w=.ok (.value v) w')(h:K (a.put o.dst v) w'):o.wp P a w K Q:=by
 unfold Oper.wp;rw[hrun,Oper.upon_value];exact h
theorem DS{K:Act->World->Prop}{w':World}(hrun:(execOp a.eval o).run P w=.ok .skip w')(h:K (a.put o.dst undef) w'):o.wp P a w K Q:=by
 unfold Oper.wp;rw[hrun,Oper.upon_skip];exact h
theorem J0{t:TypeId}{x y:Operand}(ho:o.op=.store t x y){n:Nat}(hn:dy P t n=true){b off:Nat}(hx:a.eval x=.pointer (some ⟨b,off,none⟩))(hv:(a.eval y).cells.size=n)
  (hc:∀i,i<n->(w.cell? ⟨b,off+i,none⟩).isSome=true/\w.frozen? ⟨b,off+i,none⟩=false) (h1:∀v∈(a.eval y).cells.toList,v.oneCell'=true) :
  (execOp a.eval o).run P w=.ok .skip (w.setCells b off (a.eval y).cells.toList):=by
 have aM:=run_storeCells_cells (P:=P) b off (a.eval y).cells.toList 0 w
  (fun j hj=>by simp at hj;exact(hc j (by omega)).1)
  (fun j hj=>by simp at hj;exact(hc j (by omega)).2) h1
 simp only[Nat.add_zero] at aM;simp only[execOp,ho,Instr.storeAt,Instr.sureAddr,storeVar,hx,Sem.run_bind,Sem.run_pure,Result.andThen_ok,wR hn,hv];simp[aM]
theorem wA{k:Kp}{i:Nat}(h:X.t i∈k.xs):i∈k.reads:=by
 have one:∀{x:X},X.t i=x->i∈hZ x:=by rintro x rfl;simp[hZ]
 have opt:∀{x:Option X},X.t i∈x.toList->i∈Ay x:=by
  intro x hx;cases x with
  | none=>simp at hx
  | some x=>simp at hx;exact one hx
 cases k<;>simp only[Kp.xs,List.mem_cons,List.mem_append,List.not_mem_nil,or_false,List.mem_map,List.mem_flatMap,Kp.reads] at h|-
 case qb x lo hi=>exact h.elim (fun h=>.inl (h.elim (fun h=>.inl (one h)) fun h=>.inr (opt h))) fun h=>.inr (opt h)
 case sl x lo hi=>exact h.elim (fun h=>.inl (h.elim (fun h=>.inl (one h)) fun h=>.inr (opt h))) fun h=>.inr (opt h)
 all_goals first
  | exact one h
  | exact h.elim (fun h=>.inl (one h)) fun h=>.inr (one h)
  | exact h.elim (fun h=>.inl (.inl (one h))) fun h=>h.elim (fun h=>.inl (.inr (one h))) fun h=>.inr (one h)
  | exact⟨_,h,one rfl⟩
  | (obtain⟨p,hp,he⟩:=h;exact⟨p,hp,one he.symm⟩)
  | (rcases h with h | h<;>simp at h<;>simp[h])
  | exact h.elim (fun h=>.inl (one h)) fun h=>.inr ⟨_,h,one rfl⟩
theorem vu{x:Operand}{i:Nat}(h:aJ ds tr x (.t i)=true){v:Value}(hv:∀t,ds[i]?=some (some t)->a.tmps.getD t undef=v):a.eval x=v:=by
 unfold aJ at h;split at h<;>first | contradiction | skip
 all_goals(injections<;>subst_vars<;>first | exact hv _ (by simpa using h) | cases h)
theorem Qm{ds:List (Option Nat)}{tr:List Nat}{x:Operand}{j:Nat}(h:aJ ds tr x (.v j)=true):∃t,tr[j]?=some t/\x=.tmp t:=by
 cases x
 case tmp t=>exact⟨t,by simpa[aJ] using h,rfl⟩
 all_goals(unfold aJ at h;split at h<;>first | contradiction | cases h)
theorem tf[Mode](hS:jU nt tr pre ds)(h:Fm cx nt tr pre ds st a w){s:bd}{g:Option Bool}(hg:g≠some false)(hk:aW P ds tr o s.k=true)(hd:ds[st.n]?=some (fU o s))
  (hasg:∀j,s.k.dq=some j->o.dst=tr[j]?/\j<tr.length/\pre.contains j=false) (hlt:∀t,o.dst=some t->t<nt) (hreads:∀i,i∈s.k.reads->i<st.n) (hxs:∀j,X.v j∈s.k.xs->pre.contains j=false)
  {K:St->Prop} (hv:bh P s.k g K st):o.wp P a w (fun a' w'=>∃st',K st'/\Fm cx nt tr pre ds st' a' w'/\st'.n=st.n+1) Q:=by
 obtain⟨vl,fp,G,hp,htr,htm,hgh⟩:=h.ex;obtain⟨g0,k⟩:=s;simp only at hk hd hasg hreads hxs hv
 have hx:∀y,y∈k.xs->∀x,aJ ds tr x y=true->cd w (aq cx fp G w) (af w st.cont vl) (a.eval x) (st.rd y):=fun y hy x hxy =>
  y4 hp htr htm hxy (fun i hi=>hreads i (wA (by rw[<-hi];exact hy))) (fun j hj=>hxs j (by rw[<-hj];exact hy))
 have hok:∀j,∃F,aI w (aq cx fp G w) (af w st.cont vl) (vl j) F (st.cont j):=fun j=>⟨_,hp.ok j⟩
 have hcd:st.cont (1000+st.n)=.dead:=St.cK (by simp only[St.in,not_or,not_and];omega)
 have pure:k.dq=none->gZ (bC k st.rd st.cont) g K st->o.wp P a w (fun a' w'=>∃st',K st'/\Fm cx nt tr pre ds st' a' w'/\st'.n=st.n+1) Q:=by
  intro hna hv;unfold gZ at hv;split at hv
  ·exact absurd hv.1 hg
  rename_i side res hpev;obtain⟨hs,hoc,hK⟩:=hv
  have hside:side:=by
   cases g with
   | none=>exact hs
   | some b=>cases b with
    | false=>exact absurd rfl hg
    | true=>exact hs rfl
  obtain⟨v,hrun,hpl⟩:=IH (P:=P) (o:=o) (ob:=st.cont) hpev hk hx (fun _ _=>rfl) hok hside;obtain⟨h1,h2,h3,h4⟩:=IX hp h.wf (MY hpl hoc hg);exact jo hrun ⟨_,hK,h.put hS (s:=⟨g0,k⟩) hd hna hlt htr htm hgh h1 h2 h3 h4,h3⟩
 have new:k.dq=none->fE (bY k st.rd) g K st->o.wp P a w (fun a' w'=>∃st',K st'/\Fm cx nt tr pre ds st' a' w'/\st'.n=st.n+1) Q:=by
  intro hna hv;unfold fE at hv;cases g with
  | some b=>exact hv.elim
  | none =>
  cases hnew:bY k st.rd with
  | none=>rw[hnew] at hv;exact hv.elim
  | some r =>
   obtain⟨side,c⟩:=r;rw[hnew] at hv;obtain⟨hs,hK⟩:=hv;obtain⟨v,w',F,hrun,hext,hF,hc,hemp⟩:=HI (P:=P) (o:=o) (A:=aq cx fp G w) hnew hk hx (fun b hb=>hb.1.1) hs;have h1:=hp.add hext (k:=1000+st.n) (by rw[hcd];rfl) hF hc hemp;rw[<-St.c8 h.wf] at h1;exact jo hrun ⟨_,hK,h.put hS (s:=⟨g0,k⟩) hd hna hlt htr htm hgh ⟨_,_,h1⟩ (St.fv h.wf _) rfl (fun i hi hd=>by rw[St.c8 h.wf,aG _ _ (by omega)];exact hd),rfl⟩
 have bX:∀(j:Nat)(x:X),(k=.bX j x\/k=.jX j x\/k=.jY j x)->(st.rd x).gate=true->(∀v,Pl w (aq cx fp G w) (af w st.cont vl) v (st.rd x).core->∃st' fp' G',K st'/\Hp cx st'.cont (aA (aA vl j v) (1000+st.n) undef) fp' G' w/\st'.wf/\st'.n=st.n+1/\∀i,i≠j->i<1000->st.cont i=.dead->st'.cont i=.dead) ->
   o.wp P a w (fun a' w'=>∃st',K st'/\Fm cx nt tr pre ds st' a' w'/\st'.n=st.n+1) Q:=by
  intro j x hkk hgt hstep;have hto:k.dq=some j:=by rcases hkk with rfl | rfl | rfl<;>rfl
  obtain⟨hdst,hjlt,hjp⟩:=hasg j hto;have hmem:x∈k.xs:=by rcases hkk with rfl | rfl | rfl<;>simp[Kp.xs]
  have hk':∃x',wa o.op=some x'/\aJ ds tr x' x=true:=by
   rcases hkk with rfl | rfl | rfl
   all_goals
    simp only[aW] at hk;split at hk<;>try(cases hk;done)
    exact⟨_,by assumption,hk⟩
  obtain⟨x',hop,hxx⟩:=hk';obtain⟨st',fp',G',hK,h1,h2,h3,h4⟩:=hstep (a.eval x') ((hx x hmem x' hxx).1 hgt);refine jo (xf (wb hop)) ⟨st',hK,⟨⟨_,_,_,h1,fun j' t hj' hpre=>?_,fun i t hi hit=>?_,fun k k1 k2=>by rw[aG _ _ (by omega),aG _ _ (by have:=hS.gS;omega)];exact hgh k k1 k2⟩,h2,fun i hi=>h4 i (by rintro rfl;rw[hi] at hjp;cases hjp) (by have:=hS.Ao i hi;have:=hS.gS;omega) (h.dd i hi),?_,?_⟩,h3⟩
  ·have hj1:j'<1000:=by have:=(List.getElem?_eq_some_iff.1 hj').1;have:=hS.gS;omega
   rw[aG _ _ (by omega)];have hjt:tr[j]?=some tr[j]:=List.getElem?_eq_getElem hjlt;rw[hdst,hjt];simp only[Act.put];by_cases hjj:j'=j
   ·subst hjj
    rw[hjt] at hj';injection hj' with hj'
    rw[ba,<-hj'];exact o6 _ (by rw[h.size];exact hS.aaT _ _ hjt)
   ·rw[aG _ _ hjj,getD_set_ne _ (by rintro rfl;exact hjj (hS.aaS _ _ _ hj' hjt))]
    exact htr j' t hj' hpre
  ·have hjt:tr[j]?=some tr[j]:=List.getElem?_eq_getElem hjlt
   have hne:i≠st.n:=by
    rintro rfl;rw[hd] at hit;simp[fU,hto] at hit
   rw[aG _ _ (by omega),aG _ _ (by have:=hS.gS;omega),hdst,hjt];simp only[Act.put]
   rw[getD_set_ne _ (by
    rintro rfl;have:=hS.apart _ _ hit j hjt
    rw[hjp] at this;cases this)]
   exact htm i t (by omega) hit
  ·cases o.dst<;>simp[Act.put,h.size]
  ·cases o.dst<;>simp[Act.put,h.defers]
 have store:∀(n:Nat)(x y:X),(k=.st x y/\n=1\/k=.bG n x y)->((st.rd x).gate&&(st.rd y).gate)=true->kQ n (st.rd x).core (st.rd y).core K st->o.wp P a w (fun a' w'=>∃st',K st'/\Fm cx nt tr pre ds st' a' w'/\st'.n=st.n+1) Q:=by
  intro n x y hkk hgt hv;have hna:k.dq=none:=by rcases hkk with⟨rfl,_⟩ | rfl<;>rfl
  have hmx:x∈k.xs/\y∈k.xs:=by rcases hkk with⟨rfl,_⟩ | rfl<;>simp[Kp.xs]
  have hk':∃t x' y',o.op=.store t x' y'/\aJ ds tr x' x=true/\aJ ds tr y' y=true/\dy P t n=true:=by
   rcases hkk with⟨rfl,rfl⟩ | rfl
   all_goals
    simp only[aW] at hk;split at hk<;>try(cases hk;done)
    rename_i t x' y' hop;simp only[Bool.and_eq_true] at hk;exact⟨t,x',y',Ip hop,hk.1.1,hk.1.2,hk.2⟩
  obtain⟨t,x',y',ho,hx1,hy1,hsz⟩:=hk';simp only[Bool.and_eq_true] at hgt;obtain⟨b,off,e1,e2,e3,e4,st',fp',G',h0,h1,h2,h3,h4⟩:=MH hv hp h.wf ((hx x hmx.1 x' hx1).1 hgt.1) ((hx y hmx.2 y' hy1).1 hgt.2) undef;exact DS (J0 ho hsz e1 e2 e3 e4) ⟨_,h0,h.put hS (s:=⟨g0,k⟩) hd hna hlt htr htm hgh ⟨_,_,h1⟩ h2 h3 h4,h3⟩
 have storeR:∀(n:Nat)(x y:X),k=.jk n x y->((st.rd x).gate&&(st.rd y).gate)=true->oD n (st.rd x).core (st.rd y).core K st->o.wp P a w (fun a' w'=>∃st',K st'/\Fm cx nt tr pre ds st' a' w'/\st'.n=st.n+1) Q:=by
  intro n x y hkk hgt hv;have hna:k.dq=none:=by subst hkk;rfl
  have hmx:x∈k.xs/\y∈k.xs:=by subst hkk;simp[Kp.xs]
  have hk':∃t x' y',o.op=.store t x' y'/\aJ ds tr x' x=true/\aJ ds tr y' y=true/\dy P t n=true:=by
   subst hkk
   all_goals
    simp only[aW] at hk;split at hk<;>try(cases hk;done)
    rename_i t x' y' hop;simp only[Bool.and_eq_true] at hk;exact⟨t,x',y',Ip hop,hk.1.1,hk.1.2,hk.2⟩
  obtain⟨t,x',y',ho,hx1,hy1,hsz⟩:=hk';simp only[Bool.and_eq_true] at hgt;obtain⟨b,off,e1,e2,e3,e4,st',fp',G',h0,h1,h2,h3,h4⟩:=aau hv hp h.wf ((hx x hmx.1 x' hx1).1 hgt.1) ((hx y hmx.2 y' hy1).1 hgt.2) undef;exact DS (J0 ho hsz e1 e2 e3 e4) ⟨_,h0,h.put hS (s:=⟨g0,k⟩) hd hna hlt htr htm hgh ⟨_,_,h1⟩ h2 h3 h4,h3⟩
 cases k with
 | bX j x =>
  obtain⟨_,hgt,hv⟩:=hv;exact bX j x (.inl rfl) hgt fun v hpl=>Ey hv hp h.wf (by have:=(hasg j rfl).2.1;have:=hS.gS;omega) hpl undef
 | jX j x =>
  obtain⟨_,hgt,hv⟩:=hv;exact bX j x (.inr (.inl rfl)) hgt fun v hpl=>Oc hv hp h.wf hpl undef
 | jY j x =>
  obtain⟨_,hgt,hv⟩:=hv;exact bX j x (.inr (.inr rfl)) hgt fun v hpl=>Od hv hp h.wf (by have:=(hasg j rfl).2.1;have:=hS.gS;omega) hpl undef
 | st x y=>exact store 1 x y (.inl ⟨rfl,rfl⟩) hv.2.1 hv.2.2
 | bG n x y=>exact store n x y (.inr rfl) hv.2.1 hv.2.2
 | jk n x y=>exact storeR n x y rfl hv.2.1 hv.2.2
 | iN f xs =>
  cases xs with
  | nil=>exact hv.elim
  | cons x0 r =>
   refine Qg hp h.wf hk hx hv fun v w' st' hK hp' hwf hn hdd=>?_
   exact⟨st',hK,h.put hS (s:=⟨g0,.iN f (x0::r)⟩) hd rfl hlt htr htm hgh hp' hwf hn hdd,hn⟩
 | lX n x =>
  obtain⟨_,hgt,hv⟩:=hv;simp only[aW] at hk;split at hk<;>try(cases hk;done)
  rename_i e x' hop;simp only[Bool.and_eq_true] at hk;obtain⟨st',h0,h1,h2,h3,h4⟩:=Oo hv hp h.wf ((hx x (by simp[Kp.xs]) x' hk.1).1 hgt) e;exact jo (AZ (zJ hop)) ⟨_,h0,h.put hS (s:=⟨g0,.lX n x⟩) hd rfl hlt htr htm hgh h1 h2 h3 h4,h3⟩
 | jZ z x =>
  obtain⟨_,hgt,hv⟩:=hv;simp only[aW] at hk;split at hk<;>try(cases hk;done)
  rename_i t n' ps hop;simp only[Bool.and_eq_true,decide_eq_true_eq] at hk;obtain⟨⟨⟨⟨rfl,hk1⟩,hk2⟩,hk3⟩,hk4⟩:=hk;split at hk4<;>try(cases hk4;done)
  rename_i e he;obtain⟨i,z',h1,h2,h3,h4,h5⟩:=uv hk4;have hu:=jQ he
  obtain⟨x',hps,hx'⟩:∃x',ps.toList=[(0,x')]/\aJ ds tr x' x=true:=by
   have hg:=yZ hk1;generalize ps.toList=pl at hg
   match pl,hg with
   | [(i,x')],hg =>
    obtain⟨h6,h7⟩:=hg.2 0 i x' 0 x rfl rfl;exact⟨x',by rw[h6],h7⟩
   | [],hg=>cases hg.1
   | _::_::_,hg=>have:=hg.1;simp at this
  obtain⟨hsz,hb⟩:=Oj hv hp h.wf ((hx x (by simp[Kp.xs]) x' hx').1 hgt) hk2 e;obtain⟨cs',f1,f2,f3⟩:=PC (sz:=i.size) (cs:=madeCells z'.cells (1*i.size)) (v:=a.eval x') (by rw[hsz,h3]) (by simp[madeCells]);obtain⟨st',k0,k1,k2,k3,k4⟩:=hb cs' (by rw[f2,h3]) (fun j hj=>f3 j (by rw[h3];exact hj));exact jo (AY (Ii hop) hu h1 h2 (by omega) (by rw[hps];exact f1)) ⟨_,k0,h.put hS (s:=⟨g0,.jZ z x⟩) hd rfl hlt htr htm hgh k1 k2 k3 k4,k3⟩
 | mu kk m k x =>
  obtain⟨_,hgt,hv⟩:=hv;simp only[aW] at hk;split at hk<;>try(cases hk;done)
  rename_i t m' k' x' hop;have ho:=VQ hop;simp only[Bool.and_eq_true] at hk hgt;obtain⟨⟨⟨hk1,hk2⟩,hk3⟩,hk4⟩:=hk;split at hk4<;>try(cases hk4;done)
  rename_i kt et hmt;obtain⟨w',hrun,st',h0,h1,h2,h3,h4⟩:=S1 hv hp h.wf ((hx m (by simp[Kp.xs]) m' hk1).1 hgt.1.1) ((hx k (by simp[Kp.xs]) k' hk2).1 hgt.1.2) ((hx x (by simp[Kp.xs]) x' hk3).1 hgt.2) (vH hmt) hk4 undef;refine DS (w':=w') ?_ ⟨_,h0,h.put hS (s:=⟨g0,.mu kk m k x⟩) hd rfl hlt htr htm hgh h1 h2 h3 h4,h3⟩;simp only[execOp,ho,Sem.run_bind,Sem.run_pure,Result.andThen_ok,hrun]
 | mB j =>
  obtain⟨_,hv⟩:=hv;simp only[aW] at hk;split at hk<;>try(cases hk;done)
  rename_i x' hop;have ho:=VS hop;obtain⟨t,htj,rfl⟩:=Qm hk;have hvt:a.eval (.tmp t)=vl j:=htr j t htj (hxs j (by simp[Kp.xs]));obtain⟨w',v,hrun,st',h0,h1,h2,h3,h4⟩:=Tp (P:=P) (ty:=o.type) hv hp h.wf;refine jo (v:=v) (w':=w') ?_ ⟨_,h0,h.put hS (s:=⟨g0,.mB j⟩) hd rfl hlt htr htm hgh h1 h2 h3 h4,h3⟩;simp only[execOp,ho,hvt,Sem.run_bind,Sem.run_pure,Result.andThen_ok,hrun]
 | dyn x xs =>
  refine Pp hp h.wf hk hx hg hv fun v w' st' hK hp' hwf hn hdd=>?_
  exact⟨st',hK,h.put hS (s:=⟨g0,.dyn x xs⟩) hd rfl hlt htr htm hgh hp' hwf hn hdd,hn⟩
 | call f xs =>
  obtain⟨dts,res,cr,hgl,hrest,hcr,hK⟩:=hv
  have hh:dO st.rd xs=true/\aw P f (dts.map .v) res/\(res.a7=true\/kM st.rd xs):=by
   cases g with
   | none=>exact hrest
   | some b=>cases b with
    | false=>exact absurd rfl hg
    | true=>exact hrest rfl
  refine EP (ob:=st.cont) hp hk hx (fun _ _=>rfl) hgl hh.1 hh.2.1 hh.2.2 g hg hcr fun v w' F hext hF hc hemp=>?_
  have h1:=hp.add hext (k:=1000+st.n) (by rw[hcd];rfl) hF hc hemp;rw[<-St.c8 h.wf] at h1;exact⟨_,hK,h.put hS (s:=⟨g0,.call f xs⟩) hd rfl hlt htr htm hgh ⟨_,_,h1⟩ (St.fv h.wf _) rfl (fun i hi hd=>by rw[St.c8 h.wf,aG _ _ (by omega)];exact hd),rfl⟩
 | app sz bytes s x =>
  obtain⟨_,hgt,hv⟩:=hv;simp only[aW] at hk;split at hk<;>try(cases hk;done)
  rename_i s' x' t t' hop;have ho:=oc hop;simp only[Bool.and_eq_true,beq_iff_eq] at hk;obtain⟨⟨⟨hk1,hk2⟩,rfl⟩,hk3⟩:=hk;split at hk3<;>try(cases hk3;done)
  rename_i e he;simp only[Bool.and_eq_true] at hk3;obtain⟨hk4,hk5⟩:=hk3;split at hk5<;>try(cases hk5;done)
  rename_i i hi;simp only[Bool.and_eq_true,decide_eq_true_eq,Option.any_eq_true] at hk5;obtain⟨⟨⟨hsz,hby⟩,hisz⟩,z,hz,hzs⟩:=hk5
  have hbi:i.bytes=bytes:=by
   unfold oT at hk4;rw[hi] at hk4;simpa using hk4
  have ht:=jQ he;simp only[Bool.and_eq_true] at hgt;obtain⟨v',w',hrun,st',fp',G',h0,h1,h2,h3,h4⟩:=NI (ty:=o.type) hv hp h.wf ((hx s (by simp[Kp.xs]) s' hk1).1 hgt.1) ((hx x (by simp[Kp.xs]) x' hk2).1 hgt.2) ht hi hz hzs hisz hsz hbi hby;refine jo (v:=v') (w':=w') ?_ ⟨_,h0,h.put hS (s:=⟨g0,.app sz bytes s x⟩) hd rfl hlt htr htm hgh ⟨_,_,h1⟩ h2 h3 h4,h3⟩;simp only[execOp,ho,resolve,invoke,builtin,Sem.run_bind,Sem.run_pure,Result.andThen_ok,List.map_toArray,List.map_cons,List.map_nil,hrun]
 | eJ sz bytes b s =>
  obtain⟨_,hv⟩:=hv;simp only[aW] at hk;split at hk<;>try(cases hk;done)
  rename_i s' x' t t' hop;have ho:=oc hop;simp only[Bool.and_eq_true,beq_iff_eq] at hk;obtain⟨⟨⟨hk1,hk2⟩,rfl⟩,hk3⟩:=hk;split at hk3<;>try(cases hk3;done)
  rename_i e he;simp only[Bool.and_eq_true] at hk3;obtain⟨hk4,hk5⟩:=hk3;split at hk5<;>try(cases hk5;done)
  rename_i i hi;simp only[Bool.and_eq_true,decide_eq_true_eq,Option.any_eq_true] at hk5;obtain⟨⟨⟨hsz,hby⟩,hisz⟩,z,hz,hzs⟩:=hk5
  have hbi:i.bytes=bytes:=by
   unfold oT at hk4;rw[hi] at hk4;simpa using hk4
  have ht:=jQ he;obtain⟨rfl,c,hf,_,hK⟩:=Eo hv
  have hin:st.in (1000+b):=Classical.byContradiction fun hn=>by
   obtain⟨y,_,_,_,h1,_⟩:=hf;rw[St.cK hn] at h1;cases h1
  have hbn:b<st.n:=by rcases hin with h1 | h1<;>omega
  have hcp:=St.dV h.wf hin (c:=.dead);have hwp:(st.put (1000+b) .dead).wf:=St.fa h.wf _ _;have hnp:(st.put (1000+b) .dead).n=st.n:=by unfold St.put;split<;>first | rfl | (split<;>rfl)
  obtain⟨v',w',hrun,fp',G',hp'⟩:=Em (ty:=o.type) (ke:=1000+st.n) hp hf hcd ht hi hz hzs hisz hbi hby;have hc2:((st.put (1000+b) .dead).push c).cont=aA (aA st.cont (1000+b) .dead) (1000+st.n) c:=by rw[St.c8 hwp,hnp,hcp]
  rw[<-hc2] at hp';have hvb:(a.eval s')=vl (1000+b):=vu hk1 fun t=>htm b t (hreads b (by simp[Kp.reads]))
  have hvs:(a.eval x')=vl (1000+s):=vu hk2 fun t=>htm s t (hreads s (by simp[Kp.reads]))
  refine jo (v:=v') (w':=w') ?_ ⟨_,hK,h.put hS (s:=⟨g0,.eJ 1 bytes b s⟩) hd rfl hlt htr htm hgh ⟨_,_,hp'⟩ (St.fv hwp _) (by show(st.put _ _).n+1=_;rw[hnp]) (fun i hi hd=>by rw[hc2,aG _ _ (by omega),aG _ _ (by omega)];exact hd),by show(st.put _ _).n+1=_;rw[hnp]⟩;rw[<-hvb,<-hvs] at hrun;simp only[execOp,ho,resolve,invoke,builtin,Sem.run_bind,Sem.run_pure,Result.andThen_ok,List.map_toArray,List.map_cons,List.map_nil,hrun]
 | box n x=>exact new rfl hv
 | gh n x=>exact new rfl hv
 | cB zs=>exact new rfl hv
 | ah z b l c=>exact new rfl hv
 | gF=>exact new rfl hv
 | fq x=>exact new rfl hv
 | gB x=>exact new rfl hv
 | ch z n ps=>exact new rfl hv
 | _=>exact pure rfl hv
theorem Ms[Mode](hS:jU nt tr pre ds)(h:Fm cx nt tr pre ds st a w){s:bd}(hd:ds[st.n]?=some (fU o s))(hna:s.k.dq=none)(hlt:∀t,o.dst=some t->t<nt)
  {K:St->Prop} (hv:bh P s.k (some false) K st):∃st',K st'/\Fm cx nt tr pre ds st' (a.put o.dst undef) w/\st'.n=st.n+1:=by
 obtain⟨vl,fp,G,hp,htr,htm,hgh⟩:=h.ex;obtain⟨g0,k⟩:=s
 have done:∀d,K (st.push (.when false d))->∃st',K st'/\Fm cx nt tr pre ds st' (a.put o.dst undef) w/\st'.n=st.n+1:=by
  intro d hK;obtain⟨h1,h2,h3,h4⟩:=IX (v:=undef) hp h.wf (MZ (d:=d));exact⟨_,hK,h.put hS hd hna hlt htr htm hgh h1 h2 h3 h4,h3⟩
 have pure:gZ (bC k st.rd st.cont) (some false) K st->∃st',K st'/\Fm cx nt tr pre ds st' (a.put o.dst undef) w/\st'.n=st.n+1:=by
  intro hv;unfold gZ at hv;split at hv
  ·exact done _ hv.2
  ·exact done _ hv.2.2
 have new:fE (bY k st.rd) (some false) K st->∃st',K st'/\Fm cx nt tr pre ds st' (a.put o.dst undef) w/\st'.n=st.n+1:=by
  intro hv;exact hv.elim
 cases k with
 | bX j x=>cases hv.1
 | jX j x=>cases hv.1
 | jY j x=>cases hv.1
 | st x y=>cases hv.1
 | bG n x y=>cases hv.1
 | jk n x y=>cases hv.1
 | app sz bytes s x=>cases hv.1
 | iN f xs =>
  cases xs with
  | nil=>exact hv.elim
  | cons x0 r=>cases hv.1
 | dyn x xs =>
  have hv:@jy _ P (st.rd x).core (eY st.rd xs) (dO st.rd (x::xs)) (some false) ⟨K⟩ st:=hv;exact done _ hv
 | mu kk m k v=>cases hv.1
 | gF=>exact new hv
 | fq x=>exact new hv
 | gB x=>exact new hv
 | mB j=>cases hv.1
 | eJ sz bytes b s=>cases hv.1
 | lX n x=>cases hv.1
 | jZ z x=>cases hv.1
 | call f xs =>
  obtain⟨dts,res,_,hgl,hrest,rfl | rfl,hK⟩:=hv<;>exact done _ hK
 | box n x=>exact new hv
 | gh n x=>exact new hv
 | cB zs=>exact new hv
 | ah z b l c=>exact new hv
 | ch z n ps=>exact new hv
 | _=>exact pure hv
end
end Go.D3
namespace Go.D3
open Go
section
variable{P:Program}{cx:Ctx}{vl:Nat->Value}{fp:Nat->Nat->Prop}{G:Nat->Prop}{w:World}
theorem uL[Mode]:∀(pre:List Nat){st:St}{fp:Nat->Nat->Prop}{G:Nat->Prop},Hp cx st.cont vl fp G w->st.wf ->
  ∃fp' G',Hp cx (c7 pre st).cont vl fp' G' w/\(c7 pre st).wf/\(c7 pre st).n=st.n/\(∀i,st.cont i=.dead->(c7 pre st).cont i=.dead)/\∀j,j∈pre->(c7 pre st).cont j=.dead
 | [],st,fp,G,h,hw=>⟨fp,G,h,hw,rfl,fun _ h=>h,fun j hj=>by cases hj⟩
 | j::r,st,fp,G,h,hw=>by
  obtain⟨fp1,G1,h1,h2,h3,h4⟩:=tA (j:=j) (v:=vl j) (c:=.dead) (F:=fun _=>False) h hw (fun _ h=>h.elim) (show Pl _ _ _ _ _ from Pl.dead) trivial (fun _ _ h=>h);rw[um] at h1
  have hd:((st.kill (aV j)).put j .dead).cont j=.dead:=by
   by_cases hin:(st.kill (aV j)).in j
   ·rw[St.dV (St.gx hw _) hin,ba]
   ·rw[St.qE hin,St.cK hin]
  obtain⟨fp2,G2,k1,k2,k3,k4,k5⟩:=uL r h1 h2;refine⟨fp2,G2,k1,k2,k3.trans h3,fun i hi=>k4 i ?_,fun i hi=>?_⟩
  ·by_cases hij:i=j
   ·subst hij;exact hd
   ·exact h4 i hij hi
  ·rcases List.mem_cons.1 hi with rfl | hi
   ·exact k4 _ hd
   ·exact k5 i hi
theorem Hp.clear[Mode]{ct:Nat->D}(h:Hp cx ct vl fp G w)(S:Nat->Prop)[DecidablePred S](hno:∀j,¬S j->(ct j).refs fun d=>∀k,S k->cA k d) :
  ∃fp' G',Hp cx (fun k=>if S k then .dead else ct k) vl fp' G' w:=by
 refine⟨fun k b=>¬S k/\fp k b,fun b=>G b\/∃k,S k/\fp k b,?_⟩
 have aM:∀b,aq cx fp G w b->aq cx (fun k b=>¬S k/\fp k b) (fun b=>G b\/∃k,S k/\fp k b) w b:=by
  rintro b ⟨h1,h2,h3⟩;exact⟨h1,fun hg=>hg.elim h2 fun⟨k,_,hk⟩=>h3 k hk,fun j hj=>h3 j hj.2⟩
 have hkeep:∀d,(∀k,S k->cA k d)->cX w w ct (fun k=>if S k then .dead else ct k) vl vl d:=by
  intro d hd;cases d<;>try trivial
  all_goals
   rename_i j p;intro hp;have hj:¬S j:=fun hs=>hd j hs rfl
   simp only[if_neg hj];exact⟨hp,trivial⟩
 refine⟨fun j=>?_,fun i j hij b hi hj=>h.b7 i j hij b hi.2 hj.2,fun j b hj hg=>?_,fun j hj b hb=>?_,fun j b hj=>h.lt j b hj.2,fun b hb=>hb.elim (h.cY b) fun⟨k,_,hk⟩=>h.lt k b hk,h.size,h.same,h.os,h.tape,h.output⟩
 ·by_cases hs:S j
  ·simp only[if_pos hs];exact Pl.dead
  ·simp only[if_neg hs]
   exact(h.ok j).mono aM (fun _ _=>rfl) (fun _ _=>rfl) (fun b hb=>⟨hs,hb⟩) (hno j hs) fun v d hq hr=>hr.bW (dc hkeep hq)
 ·exact hg.elim (h.cC j b hj.2) fun⟨k,hk,hkb⟩=>h.b7 j k (by rintro rfl;exact hj.1 hk) b hj.2 hkb
 ·by_cases hs:S j
  ·exact hb.1 hs
  ·rw[if_neg hs] at hj;exact h.emp j hj b hb.2
theorem QK{Q:D->Prop}(q:D->Bool){c:D}(h:c.refs Q):(c.kill q).refs Q:=by
 induction c using D.ind with
 | agg l ih | al l ih | box l ih | fn _ l ih =>
  simp only[D.kill,D.refs,dP,bt,List.mem_map] at h|-
  rintro _ ⟨y,hy,rfl⟩;exact ih y hy (h y hy)
 | row z l _ ih =>
  simp only[D.kill,D.refs,dP,bt,List.mem_map] at h|-
  rintro _ ⟨y,hy,rfl⟩;exact ih y hy (h y hy)
 | when g x ih=>exact ih h
 | sub a b=>simp only[D.kill];split<;>first | trivial | exact h
 | av a b=>simp only[D.kill];split<;>first | trivial | exact h
 | pre a b n=>simp only[D.kill];split<;>first | trivial | exact h
 | _=>trivial
theorem Ss[Mode]{st:St}(h:Hp cx st.cont vl fp G w)(hw:st.wf){j k:Nat}(hjk:j≠k) :
  let st1:=(st.kill (aV j)).kill (aV k);let st2:=(st1.put j (st1.cont k)).put k .dead
  ∃fp' G',Hp cx st2.cont (aA vl j (vl k)) fp' G' w/\st2.wf/\st2.n=st.n/\∀i,i≠j->st.cont i=.dead->st2.cont i=.dead:=by
 intro st1 st2
 have h1:Hp cx st1.cont vl fp G w:=by
  have:=(h.kill (aV j));rw[<-St.cV] at this;have:=this.kill (aV k);rw[<-St.cV] at this;exact this
 have hw1:st1.wf:=St.gx (St.gx hw _) _
 have hrk:∀i,(st1.cont i).refs (cA k):=fun i=>by
  show(((st.kill (aV j)).kill (aV k)).cont i).refs _;rw[St.cV];exact dc (fun d hd=>by cases d<;>simp_all[aV,cA]) (iV (aV k) _)
 have hrj:∀i,(st1.cont i).refs (cA j):=fun i=>by
  show(((st.kill (aV j)).kill (aV k)).cont i).refs _;rw[St.cV];exact QK _ (by rw[St.cV];exact dc (fun d hd=>by cases d<;>simp_all[aV,cA]) (iV (aV j) _))
 have h2:=(h1.drop j hrj (vl j));rw[um] at h2
 have h3:=h2.drop k (fun i=>by
  by_cases hij:i=j
  ·subst hij;rw[ba];trivial
  ·rw[aG _ _ hij];exact hrk i) (vl k)
 rw[um] at h3
 have aM:∀b,aq cx fp G w b->aq cx (aA (aA fp j fun _=>False) k fun _=>False) (fun b=>(G b\/fp j b)\/aA fp j (fun _=>False) k b) w b:=by
  rintro b ⟨q1,q2,q3⟩;refine⟨q1,fun hg=>?_,fun i hi=>?_⟩
  ·rcases hg with(hg | hg) | hg
   ·exact q2 hg
   ·exact q3 j hg
   ·rw[aG _ _ (Ne.symm hjk)] at hg;exact q3 k hg
  ·by_cases hik:i=k
   ·subst hik;rw[ba] at hi;exact hi
   ·rw[aG _ _ hik] at hi
    by_cases hij:i=j
    ·subst hij;rw[ba] at hi;exact hi
    ·rw[aG _ _ hij] at hi;exact q3 i hi
 have key:∀c,(c=st1.cont k\/c=.dead)->∃fp' G',Hp cx (aA (aA (aA st1.cont j .dead) k .dead) j c) (aA vl j (vl k)) fp' G' w:=by
  intro c hc
  have hcok:∃F,(∀b,F b->fp k b)/\aI w (aq cx fp G w) (af w st1.cont vl) (vl k) F c/\(c.isObj=false->∀b,¬F b)/\c.refs (fun d=>cA j d/\cA k d):=by
   rcases hc with rfl | rfl
   ·exact⟨fp k,fun _ h=>h,h1.ok k,h1.emp k,WX (hrj k) (hrk k)⟩
   ·exact⟨fun _=>False,fun _ h=>h.elim,show Pl _ _ _ _ _ from Pl.dead,fun _ _ h=>h,trivial⟩
  obtain⟨F,f1,f2,f3,f4⟩:=hcok
  refine⟨_,fun _=>False,h3.put (k:=j) (v:=vl k) (c:=c) (F:=F) (by rw[aG _ _ hjk,ba];rfl)
   (f2.mono aM (fun _ _=>rfl) (fun _ _=>rfl) (fun _ h=>h) f4 fun v d hq hr=>hr.bW (dc (fun q hq=>by
     cases q<;>try trivial
     all_goals
      rename_i i p;intro hp;have n1:i≠j:=hq.1;have n2:i≠k:=hq.2;simp only[aG _ _ n1,aG _ _ n2]
      exact⟨hp,trivial⟩) hq))
   (fun b hb=>.inr (by rw[aG _ _ (Ne.symm hjk)];exact f1 b hb)) (fun _ h=>h.elim) (fun _ _ h=>h) f3⟩
 have hcont:∃c,(c=st1.cont k\/c=.dead)/\st2.cont=aA (aA (aA st1.cont j .dead) k .dead) j c:=by
  have hwp:(st1.put j (st1.cont k)).wf:=St.fa hw1 _ _
  have hk2:∀{s:St},s.wf->(s.put k .dead).cont=aA s.cont k .dead:=by
   intro s hs;by_cases hin:s.in k
   ·exact St.dV hs hin _
   ·rw[St.qE hin];funext i;simp only[aA];split
    ·subst_vars;exact St.cK hin
    ·rfl
  by_cases hin:st1.in j
  ·refine⟨_,.inl rfl,?_⟩
   show((st1.put j (st1.cont k)).put k .dead).cont=_;rw[hk2 hwp,St.dV hw1 hin];funext i;simp only[aA];by_cases hik:i=k
   ·subst hik;rw[if_pos rfl,if_neg (Ne.symm hjk),if_pos rfl]
   ·by_cases hij:i=j
    ·subst hij;simp[hik]
    ·simp[hik,hij]
  ·refine⟨_,.inr rfl,?_⟩
   show((st1.put j (st1.cont k)).put k .dead).cont=_;rw[hk2 hwp,St.qE hin];funext i;simp only[aA];by_cases hik:i=k
   ·subst hik;rw[if_pos rfl,if_neg (Ne.symm hjk),if_pos rfl]
   ·by_cases hij:i=j
    ·subst hij;simp[hik,St.cK hin]
    ·simp[hik,hij]
 obtain⟨c,hc,hcc⟩:=hcont;obtain⟨fp',G',hh⟩:=key c hc;rw[<-hcc] at hh;refine⟨fp',G',hh,St.fa (St.fa hw1 _ _) _ _,?_,fun i hi hd=>?_⟩
 case refine_2 =>
  rw[hcc,aG _ _ hi];by_cases hik:i=k
  ·subst hik;exact ba _ _ _
  ·rw[aG _ _ hik,aG _ _ hi];exact St.iU _ (St.iU _ hd)
 show((st1.put j (st1.cont k)).put k .dead).n=st.n;rw[St.fR,St.fR];rfl
theorem Iv[Mode]{st st1:St}{i:Nat}{x:D}{fp1:Nat->Nat->Prop}{G1 F:Nat->Prop}(h2:Tk cx w vl st fp G st1 fp1 G1 F)(h3:aj w (aq cx fp1 G1 w) (vl (1000+i)) x F) :
  ∃fp' G',Hp cx ((st1.kill (aV (1000+i))).put (1000+i) (aQ x)).cont vl fp' G' w/\((st1.kill (aV (1000+i))).put (1000+i) (aQ x)).wf/\((st1.kill (aV (1000+i))).put (1000+i) (aQ x)).n=st.n /\
   ∀k,k<1000->st.cont k=.dead->((st1.kill (aV (1000+i))).put (1000+i) (aQ x)).cont k=.dead:=by
 obtain⟨c1,c2⟩:=nz (R:=af w (st1.kill (aV (1000+i))).cont vl) h3;have hcr:(aQ x).refs (cA (1000+i)):=yf h3 _
 have key:∃F',(∀b,F' b->G1 b)/\aI w (aq cx fp1 G1 w) (af w (st1.kill (aV (1000+i))).cont vl) (vl (1000+i)) F' (aQ x)/\((aQ x).isObj=false->∀b,¬F' b):=by
  by_cases ho:(aQ x).isObj=true
  ·exact⟨F,fun b hb=>(h2.hF b hb).1,c1,fun hh=>by rw[ho] at hh;cases hh⟩
  ·exact⟨fun _=>False,fun _ h=>h.elim,c2 (by simpa using ho),fun _ _ h=>h⟩
 obtain⟨F',k1,k2,k3⟩:=key;obtain⟨fp2,G2,k4,k5,k6,k6'⟩:=tA h2.hp h2.wf k1 k2 hcr k3;rw[um] at k4;exact⟨fp2,G2,k4,k5,k6.trans h2.n,fun j hj hd=>k6' j (by omega) (h2.dd j hd)⟩
theorem V1[Mode]{st:St}{i:Nat}(h:Hp cx st.cont vl fp G w)(hw:st.wf):∃fp' G',Hp cx (kK i (st.cont (1000+i)) st).cont vl fp' G' w/\(kK i (st.cont (1000+i)) st).wf/\(kK i (st.cont (1000+i)) st).n=st.n /\
  ∀k,k<1000->st.cont k=.dead->(kK i (st.cont (1000+i)) st).cont k=.dead:=by
 have same:∃fp' G',Hp cx st.cont vl fp' G' w/\st.wf/\st.n=st.n/\∀k,k<1000->st.cont k=.dead->st.cont k=.dead:=⟨fp,G,h,hw,rfl,fun _ _ h=>h⟩;cases hc:st.cont (1000+i)<;>try exact same
 rename_i k p
 have hv:Pl w (aq cx fp G w) (af w st.cont vl) (vl (1000+i)) (.sub k p):=by
  have:=h.ok (1000+i);rw[hc] at this;exact this
 cases p with
 | nil =>
  unfold kK;dsimp only;by_cases hk : 1000<=k
  ·rw[if_pos hk]
   cases hx:(st.cont k).jl with
   | none=>exact same
   | some x =>
    obtain⟨y,st1,fp1,G1,F,⟨rfl,rfl⟩,h2,h3,h4,-,-⟩:=uB (.sub k []) (K:=fun d st'=>d=x/\st'=(st.kill (aV k)).put k .dead) (by show cN (st.cont k).jl _;rw[hx];exact⟨rfl,rfl⟩) h hw (fun _ h=>h) hv;exact Iv h2 h3
  ·rw[if_neg hk];exact same
 | cons s p =>
  unfold kK;dsimp only;by_cases hk : 1000<=k
  ·rw[if_pos hk]
   obtain⟨y,st1,fp1,G1,F,⟨rfl,rfl⟩,h2,h3,h4,-,-⟩:=uB (.sub k (s::p)) (K:=fun d st'=>d=(st.cont k).bm (s::p)/\st'=(st.kill (bF k (s::p))).put k (((st.kill (bF k (s::p))).cont k).hole (s::p))) ⟨rfl,rfl⟩ h hw (fun _ h=>h) hv;exact Iv h2 h3
  ·rw[if_neg hk];exact same
theorem Iu[Mode]:∀(post:List (Nat×Nat)){st:St}{fp:Nat->Nat->Prop}{G:Nat->Prop},Hp cx st.cont vl fp G w->st.wf->∃fp' G',Hp cx (jb post st).cont vl fp' G' w/\(jb post st).wf/\(jb post st).n=st.n/\∀k,k<1000->st.cont k=.dead->(jb post st).cont k=.dead
 | [],st,fp,G,h,hw=>⟨fp,G,h,hw,rfl,fun _ _ h=>h⟩
 | (j,i)::r,st,fp,G,h,hw=>by
  obtain⟨fp1,G1,h1,h2,h3,h4⟩:=V1 (i:=i) h hw;obtain⟨fp2,G2,k1,k2,k3,k4⟩:=Iu r h1 h2;exact⟨fp2,G2,k1,k2,k3.trans h3,fun k hk hd=>k4 k hk (h4 k hk hd)⟩
theorem FJ[Mode]:∀(post:List (Nat×Nat)){st:St}{vl:Nat->Value}{fp:Nat->Nat->Prop}{G:Nat->Prop},Hp cx st.cont vl fp G w->st.wf->(∀p∈post,p.1<1000)->(post.map (·.1)).Nodup ->
  ∃vl' fp' G',Hp cx (kc post st).cont vl' fp' G' w/\(∀k,k ∉ post.map (·.1)->vl' k=vl k)/\(∀p∈post,vl' p.1=vl (1000+p.2))/\∀k,k ∉ post.map (·.1)->st.cont k=.dead->(kc post st).cont k=.dead
 | [],st,vl,fp,G,h,hw,_,_=>⟨vl,fp,G,h,fun _ _=>rfl,(fun p hp=>absurd hp (by simp)),fun _ _ h=>h⟩
 | (j,i)::r,st,vl,fp,G,h,hw,hlt,hnd=>by
  have hj:j<1000:=hlt (j,i) (by simp);obtain⟨fp1,G1,h1,h2,h3,h4⟩:=Ss h hw (j:=j) (k:=1000+i) (by omega);simp only[List.map_cons,List.nodup_cons] at hnd;obtain⟨vl',fp',G',k1,k2,k3,k4⟩:=FJ r h1 h2 (fun p hp=>hlt p (by simp[hp])) hnd.2;refine⟨vl',fp',G',k1,fun k hk=>?_,fun p hp=>?_,fun k hk hd=>?_⟩
  ·simp only[List.map_cons,List.mem_cons,not_or] at hk
   rw[k2 k hk.2,aG _ _ hk.1]
  ·rcases List.mem_cons.1 hp with rfl | hp
   ·rw[k2 _ hnd.1,ba]
   ·rw[k3 p hp,aG _ _ (by omega)]
  ·simp only[List.map_cons,List.mem_cons,not_or] at hk
   exact k4 k hk.2 (h4 k hk.1 hd)
theorem Hp.Zd[Mode]{ct:Nat->D}{vl':Nat->Value}(h:Hp cx ct vl fp G w)(he:∀k,ct k≠.dead->vl' k=vl k):Hp cx ct vl' fp G w:=by
 refine⟨fun j=>?_,h.b7,h.cC,h.emp,h.lt,h.cY,h.size,h.same,h.os,h.tape,h.output⟩;by_cases hd:ct j=.dead
 ·rw[hd];exact Pl.dead
 ·rw[he j hd]
  refine(h.ok j).mono (Q:=fun _=>True) (fun _ h=>h) (fun _ _=>rfl) (fun _ _=>rfl) (fun _ h=>h) (bn (fun _=>trivial) _) fun v d _ hr=>hr.bW (bn (fun q=>?_) _)
  cases q<;>try trivial
  case sub k p=>exact fun hp=>⟨hp,by rw[he k (by rintro hh;rw[hh] at hp;exact hp.1.elim)]⟩
  case av k p=>exact fun hp=>⟨hp,by rw[he k (by rintro hh;rw[hh] at hp;exact hp.elim)]⟩
theorem PD[Mode]{st:St}(h:Hp cx st.cont vl fp G w):∃fp' G',Hp cx (⟨(st.kill fH).env,0,[]⟩:St).cont vl fp' G' w:=by
 have h1:=h.kill fH;rw[<-St.cV] at h1
 obtain⟨fp',G',h2⟩:=h1.clear (fun k=>1000<=k) (fun j _=>by
  rw[St.cV]
  exact dc (fun d hd=>by
   intro k hk;cases d<;>try trivial
   all_goals
    simp only[fH,decide_eq_false_iff_not] at hd
    simp only[cA];omega) (iV fH _))
 refine⟨fp',G',?_⟩
 have e:(fun k=>if 1000<=k then D.dead else(st.kill fH).cont k)=(⟨(st.kill fH).env,0,[]⟩:St).cont:=by
  funext k;by_cases hk:k<1000
  ·rw[if_neg (by omega)]
   show(if k<1000 then nth (st.kill fH).env k else _)=(if k<1000 then nth (st.kill fH).env k else _);rw[if_pos hk,if_pos hk]
  ·rw[if_pos (by omega)]
   show _=(if k<1000 then nth (st.kill fH).env k else if k<1000+0 then nth [] _ else D.dead);rw[if_neg hk,if_neg (by omega)]
 rw[<-e];exact h2
theorem AA[Mode]{nt:Nat}{tr pre:List Nat}{ds ds':List (Option Nat)}{post:List (Nat×Nat)}{st:St}{a:Act}(hS:jU nt tr pre ds)(h:Fm cx nt tr pre ds st a w)(hn:ds.length=st.n)
  (hpost:∀p∈post,∃t,tr[p.1]?=some t/\ds[p.2]?=some (some t)) (hnd:(post.map (·.1)).Nodup):Fm cx nt tr [] ds' ⟨fin post st,0,[]⟩ a w:=by
 obtain⟨vl,fp,G,hp,htr,htm,hgh⟩:=h.ex
 have hlt5:∀p∈post,p.1<tr.length:=fun p hp=>by
  obtain⟨t,ht,_⟩:=hpost p hp;exact(List.getElem?_eq_some_iff.1 ht).1
 have hlt:∀p∈post,p.1<1000:=fun p hp=>by
  obtain⟨t,ht,_⟩:=hpost p hp;have:=(List.getElem?_eq_some_iff.1 ht).1;have:=hS.gS;omega
 obtain⟨fp0,G0,o1,o2,o3,o4⟩:=Iu post hp h.wf;obtain⟨vl',fp',G',h1,h2,h3,h4⟩:=FJ post o1 o2 hlt hnd;obtain⟨fp2,G2,h5⟩:=PD h1;let vl2:Nat->Value:=fun k=>match tr[k]? with | some t=>a.tmps.getD t undef | none=>vl' k
 have h6:Hp cx (⟨fin post st,0,[]⟩:St).cont vl2 fp2 G2 w:=by
  refine h5.Zd fun k hk=>?_
  show(match tr[k]? with | some t=>a.tmps.getD t undef | none=>vl' k)=vl' k;cases ht:tr[k]? with
  | none=>rfl
  | some t =>
   show a.tmps.getD t undef=vl' k;have hk1:k<1000:=by have:=(List.getElem?_eq_some_iff.1 ht).1;have:=hS.gS;omega
   by_cases hkp:k∈post.map (·.1)
   ·obtain⟨p,hp1,rfl⟩:=List.mem_map.1 hkp
    obtain⟨t',e1,e2⟩:=hpost p hp1;rw[e1] at ht;injection ht with ht
    subst ht;rw[h3 p hp1];exact htm p.2 t' (by have:=(List.getElem?_eq_some_iff.1 e2).1;omega) e2
   ·rw[h2 k hkp]
    by_cases hpre:pre.contains k=true
    ·exfalso
     apply hk;have hdead:=h4 k hkp (o4 k hk1 (h.dd k hpre));have hdk:=St.iU fH hdead;show(if k<1000 then nth ((kc post (jb post st)).kill fH).env k else _)=D.dead;rw[if_pos hk1];have:(if k<1000 then nth ((kc post (jb post st)).kill fH).env k else if k<1000+((kc post (jb post st)).kill fH).n then nth ((kc post (jb post st)).kill fH).tmp (999+((kc post (jb post st)).kill fH).n-k) else D.dead)=D.dead:=hdk;rw[if_pos hk1] at this;exact this
    ·exact htr k t ht (by simpa using hpre)
 refine⟨⟨vl2,fp2,G2,h6,fun j t hj _=>?_,fun i t hi _=>by simp at hi,fun k k1 k2=>?_⟩,rfl,fun j hj=>by simp at hj,h.size,h.defers⟩
 ·show a.tmps.getD t undef=(match tr[j]? with | some t=>a.tmps.getD t undef | none=>vl' j)
  rw[hj]
 ·show(match tr[k]? with | some t=>a.tmps.getD t undef | none=>vl' k)=_
  have hnone:tr[k]?=none:=List.getElem?_eq_none (by have:=hS.gS;omega);rw[hnone];show vl' k=_;rw[h2 k (fun hk=>by obtain⟨p,hp1,rfl⟩:=List.mem_map.1 hk;have:=hlt5 p hp1;omega)];exact hgh k k1 k2
end
end Go.D3
namespace Go.D3
open Go
section
variable{P:Program}{cx:Ctx}{nt:Nat}{tr pre:List Nat}{ds:List (Option Nat)}{w:World}{Q:Exit->Act->World->Prop}
theorem vR:∀{l:List Nat},vQ l=true->∀(i j t:Nat),l[i]?=some t->l[j]?=some t->i=j
 | [],_,i,j,t,h,_=>by simp at h
 | d::r,h,i,j,t,hi,hj=>by
  simp only[vQ,Bool.and_eq_true,Bool.not_eq_true',List.contains_eq_mem,decide_eq_false_iff_not] at h;cases i with
  | zero=>cases j with
   | zero=>rfl
   | succ j=>simp at hi hj;subst hi;exact absurd (List.mem_of_getElem? hj) h.1
  | succ i=>cases j with
   | zero=>simp at hi hj;subst hj;exact absurd (List.mem_of_getElem? hi) h.1
   | succ j=>simp at hi hj;rw[vR h.2 i j t hi hj]
theorem zu:∀{l:List (Option Nat)},sY l=true->∀(i j t:Nat),l[i]?=some (some t)->l[j]?=some (some t)->i=j
 | [],_,i,j,t,h,_=>by simp at h
 | none::r,h,i,j,t,hi,hj=>by
  cases i with
  | zero=>simp at hi
  | succ i=>cases j with
   | zero=>simp at hj
   | succ j=>simp at hi hj;rw[zu (l:=r) h i j t hi hj]
 | some d::r,h,i,j,t,hi,hj=>by
  simp only[sY,Bool.and_eq_true,Bool.not_eq_true',List.contains_eq_mem,decide_eq_false_iff_not] at h;cases i with
  | zero=>cases j with
   | zero=>rfl
   | succ j=>simp at hi hj;subst hi;exact absurd (List.mem_of_getElem? hj) h.1
  | succ i=>cases j with
   | zero=>simp at hi hj;subst hj;exact absurd (List.mem_of_getElem? hi) h.1
   | succ j=>simp at hi hj;rw[zu h.2 i j t hi hj]
theorem xz:∀{l:List (Option Nat)},sk tr pre l=true->∀(i t:Nat),l[i]?=some (some t)->∀(j:Nat),tr[j]?=some t->pre.contains j=true
 | [],_,i,t,h,_,_=>by simp at h
 | none::r,h,i,t,hi,j,hj=>by
  cases i with
  | zero=>simp at hi
  | succ i=>simp at hi;exact xz (l:=r) h i t hi j hj
 | some d::r,h,i,t,hi,j,hj=>by
  simp only[sk,Bool.and_eq_true,List.all_eq_true] at h;cases i with
  | zero =>
   simp at hi;subst hi;have:=h.1 (d,j) (List.mem_zipIdx_iff_getElem?.2 hj);simpa using this
  | succ i=>simp at hi;exact xz h.2 i t hi j hj
theorem Ak:∀{post:List (Nat×Nat)},wu ds tr pre post=true->(∀p∈post,∃t,tr[p.1]?=some t/\ds[p.2]?=some (some t))/\(post.map (·.1)).Nodup
 | [],_=>⟨(fun p hp=>absurd hp (by simp)),List.nodup_nil⟩
 | (j,i)::r,h=>by
  simp only[wu,Bool.and_eq_true,Bool.not_eq_true',List.contains_eq_mem,decide_eq_false_iff_not] at h;obtain⟨⟨⟨_,h1⟩,h2⟩,h3⟩:=h;obtain⟨k1,k2⟩:=Ak h3;refine⟨fun p hp=>?_,by simp only[List.map_cons,List.nodup_cons];exact⟨h2,k2⟩⟩;rcases List.mem_cons.1 hp with rfl | hp
  ·split at h1<;>try(cases h1;done)
   rename_i t d e1 e2;simp only[beq_iff_eq] at h1;subst h1;exact⟨_,e1,e2⟩
  ·exact k1 p hp
theorem Gh[Mode]{ops:Array Oper}{st:St}{a:Act}{i t:Nat}{want b:Bool}(h:Fm cx nt tr pre ds st a w)(hi:i<st.n)(hds:ds[i]?=some (some t))(hj:(ops[i]?).bind (·.dst)=some t)(hg:gd (st.rd (.t i)) want=some b) :
  (yielded ops a.tmps i == some want)=b:=by
 obtain⟨vl,fp,G,hp,_,htm,_⟩:=h.ex
 have he:cd w (aq cx fp G w) (af w st.cont vl) (a.tmps.getD t undef) (st.rd (.t i)):=by
  rw[htm i t hi hds];exact od (hp.ok _)
 have hy:yielded ops a.tmps i=match a.tmps.getD t undef with | .bool b=>some b | _=>none:=by
  unfold yielded;rw[hj,Option.bind_some];by_cases ht:t<a.tmps.size
  ·rw[getD_some ht]
   cases a.tmps.getD t undef<;>rfl
  ·have h1:a.tmps[t]?=none:=by simp;omega
   have h2:a.tmps.getD t undef=undef:=by simp[h1]
   rw[h1,h2];rfl
 unfold gd at hg;rw[Option.bind_eq_some_iff] at hg;obtain⟨c,hc,hg⟩:=hg;injection hg with hg
 rw[hy];generalize st.rd (.t i)=d at he hc hg;cases hgt:d.gate with
 | false =>
  rw[he.2 hgt];rw[hgt] at hg;simp at hg;subst hg;rfl
 | true =>
  have h1:=he.1 hgt
  have hcore:d.core=.bool c:=by
   revert hc;cases d.core<;>simp[D.bool?]
  rw[hcore] at h1;rw[pl_bool h1];rw[hgt] at hg;cases want<;>cases c<;>simp at hg<;>subst hg<;>rfl
theorem wF:∀{l:List Oper}{sl:List bd}{i t:Nat},(bO l sl)[i]?=some (some t)->(l[i]?).bind (·.dst)=some t
 | [],_,i,t,h=>by simp[bO] at h
 | _::_,[],i,t,h=>by simp[bO] at h
 | o::l,s::r,0,t,h=>by
  simp only[bO,List.getElem?_cons_zero,Option.some.injEq] at h;simp only[List.getElem?_cons_zero,Option.bind_some];unfold fU at h;split at h
  ·cases h
  ·exact h
 | o::l,s::r,i+1,t,h=>by
  simp only[bO,List.getElem?_cons_succ] at h|-
  exact wF h
theorem Ir[Mode]{ops:Array Oper}(hS:jU nt tr pre ds)(hdst:∀(i t:Nat),ds[i]?=some (some t)->(ops[i]?).bind (·.dst)=some t):∀(l:List Oper)(sl:List bd)(n:Nat){K:St->Prop}{st:St}{a:Act}{w:World},
  ops.toList.drop n=l->lj P nt ds tr n l sl=true->(∀s∈sl,tc pre s=true)->bO l sl=ds.drop n->st.n=n->Fm cx nt tr pre ds st a w->ca P K sl st ->
  (∀a w st,K st->st.n=n+l.length->Fm cx nt tr pre ds st a w->Q .normal a w)->wpOps P ops Q (List.range' n l.length) a w
 | [],sl,n,K,st,a,w,hl,hf,hpre,hds,hn,h,hv,hQ=>by
  cases sl with
  | nil=>exact hQ a w st hv (by simpa using hn) h
  | cons _ _=>simp[lj] at hf
 | o::l,[],n,K,st,a,w,hl,hf,hpre,hds,hn,h,hv,hQ=>by simp[lj] at hf
 | o::l,s::sl,n,K,st,a,w,hl,hf,hpre,hds,hn,h,hv,hQ=>by
  subst hn;simp only[lj,Bool.and_eq_true] at hf;obtain⟨⟨⟨⟨⟨hf1,hf2⟩,hf3⟩,hf4⟩,hf5⟩,hf⟩:=hf
  have hon:ops[st.n]?=some o:=by
   have:(ops.toList.drop st.n)[0]?=some o:=by rw[hl];rfl
   rw[List.getElem?_drop] at this;simpa using this
  have hl':ops.toList.drop (st.n+1)=l:=by
   rw[<-List.tail_drop,hl];rfl
  have hd:ds[st.n]?=some (fU o s):=by
   have:(ds.drop st.n)[0]?=some (fU o s):=by rw[<-hds];rfl
   rw[List.getElem?_drop] at this;simpa using this
  have hds':bO l sl=ds.drop (st.n+1):=by
   rw[<-List.tail_drop,<-hds];rfl
  have hlt:∀t,o.dst=some t->t<nt:=fun t ht=>by rw[ht] at hf1;simpa using hf1
  have hp:=hpre s (by simp);simp only[tc,Bool.and_eq_true,List.all_eq_true] at hp
  have hasg:∀j,s.k.dq=some j->o.dst=tr[j]?/\j<tr.length/\pre.contains j=false:=fun j hj=>by
   rw[hj] at hf2 hp;simp only[Bool.and_eq_true,decide_eq_true_eq] at hf2;exact⟨hf2.1.1,hf2.1.2,by simpa using hp.1⟩
  have hreads:∀i,i∈s.k.reads->i<st.n:=fun i hi=>by simpa using(List.all_eq_true.1 hf5) i hi
  have hxs:∀j,X.v j∈s.k.xs->pre.contains j=false:=fun j hj=>by simpa using hp.2 _ hj
  have ih:∀a' w',(∃st',ca P K sl st'/\Fm cx nt tr pre ds st' a' w'/\st'.n=st.n+1)->wpOps P ops Q (List.range' (st.n+1) l.length) a' w':=fun a' w' ⟨st',h1,h2,h3⟩ =>
   Ir hS hdst l sl (st.n+1) hl' hf (fun s hs=>hpre s (by simp[hs])) hds' h3 h2 h1 fun a w st hK hn' hF=>hQ a w st hK (by simp only[List.length_cons];omega) hF
  simp only[List.length_cons,List.range'_succ,wpOps,hon];obtain⟨g0,k⟩:=s;cases hog:o.guard with
  | none =>
   cases g0 with
   | some _=>rw[hog] at hf3;cases hf3
   | none =>
    have hw:Region.wanted o (yielded ops a.tmps)=true:=by simp[Region.wanted,hog]
    rw[if_pos hw];exact .inl (Oper.wp_mono ih (tf hS h (g:=none) (by simp) hf4 hd hasg hlt hreads hxs hv))
  | some gg =>
   obtain⟨j,want⟩:=gg;cases g0 with
   | none=>rw[hog] at hf3;cases hf3
   | some g1 =>
    obtain⟨i,want'⟩:=g1;rw[hog] at hf3;simp only[Bool.and_eq_true,beq_iff_eq,decide_eq_true_eq] at hf3;obtain⟨⟨⟨rfl,rfl⟩,hjn⟩,hj2⟩:=hf3
    have hjd:∃t,ds[j]?=some (some t):=by
     split at hj2
     ·exact⟨_,by assumption⟩
     ·cases hj2
    obtain⟨t,hjd⟩:=hjd
    have hna:k.dq=none:=by
     cases hk:k.dq with
     | none=>rfl
     | some j'=>simp[hk] at hf2
    simp only[ca,kn] at hv;split at hv
    ·rename_i b hgd
     have hwb:Region.wanted o (yielded ops a.tmps)=b:=by
      simp only[Region.wanted,hog];exact Gh h hjn hjd (hdst j t hjd) hgd
     cases b with
     | true =>
      rw[if_pos hwb];exact .inl (Oper.wp_mono ih (tf hS h (g:=some true) (by simp) hf4 hd hasg hlt hreads hxs hv))
     | false =>
      rw[if_neg (by rw[hwb];simp)];exact ih _ _ (Ms hS h hd hna hlt hv)
    ·exact hv.elim
end
end Go.D3
