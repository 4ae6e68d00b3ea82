/- REGIONS: what is forgotten at the beginning, what is kept at the end. Generic. -/
import Derived.Test.YtaknpcdnmecblaaHD
import Derived.Laws.CopyRow
import Derived.Laws.IdiomCopy
import Derived.Orders
namespace Go.D3
open Go
theorem qI{α:Type}(f:Nat->α)(k:Nat):aj f k (f k)=f:=by
 funext j;simp only[aj];split<;>simp_all
theorem dU(σ:Nat->Nat):∀l,cH σ l=l.map (D.ai σ)
 | []=>rfl
 | x::r=>by rw[cH,dU σ r,List.map_cons]
theorem wQ(σ:Nat->Nat)(l:List D):(cH σ l).length=l.length:=by rw[dU,List.length_map]
theorem wP(σ:Nat->Nat)(l:List D)(n:Nat):(cH σ l).getD n .dead=(l.getD n .dead).ai σ:=by
 rw[dU,List.getD_eq_getElem?_getD,List.getD_eq_getElem?_getD,List.getElem?_map];cases l[n]?<;>rfl
theorem Ce(σ:Nat->Nat):∀(l:List D)(i:Nat),nth (cH σ l) i=(nth l i).ai σ
 | [],_=>rfl
 | _::_,0=>rfl
 | _::l,i+1=>Ce σ l i
theorem Mu{σ:Nat->Nat}{c y:D}:c.ai σ=.o y↔c=.o y:=by
 cases c<;>simp only[D.ai,reduceCtorEq]
theorem Di{σ:Nat->Nat}{c:D}:c.ai σ=.dead↔c=.dead:=by
 cases c<;>simp only[D.ai,reduceCtorEq]
theorem ml(σ:Nat->Nat)(c:D):(c.ai σ).isObj=c.isObj:=by cases c<;>rfl
theorem sV(σ:Nat->Nat){c:D}{p:Path}(hl:bc c p=true):((c.ai σ).at p).fU=(c.at p).fU:=by
 cases c<;>try(cases hl;done)
 case box l =>
  match p,hl with
  | [(i,off)],_ =>
   have e1:(D.box l).at [(i,off)]=l.getD off .dead:=rfl;have e2:((D.box l).ai σ).at [(i,off)]=(l.getD off .dead).ai σ:=wP σ l off;rw[e1,e2];cases l.getD off .dead<;>rfl
theorem sW(σ:Nat->Nat)(c:D)(p:Path):bc (c.ai σ) p=bc c p:=by
 cases c<;>try rfl
 case box l=>match p with
  | []=>rfl
  | [_]=>rfl
  | _::_::_=>rfl
theorem oy{w:World}(σ:Nat->Nat)(c:D)(v:Value)(p:Path):((c.ai σ).aR p↔c.aR p)/\(c.aR p->aE w v (c.ai σ) p=aE w v c p/\ay w v (c.ai σ) p=ay w v c p):=by
 cases c<;>try exact⟨Iff.rfl,fun h=>h.elim⟩
 case o x=>exact⟨Iff.rfl,fun _=>⟨rfl,rfl⟩⟩
 case row z l =>
  refine⟨Iff.rfl,fun h=>?_⟩;simp only[D.aR] at h;subst h;exact⟨rfl,rfl⟩
 case box l =>
  cases p with
  | nil=>exact⟨Iff.rfl,fun _=>⟨rfl,rfl⟩⟩
  | cons s p =>
   obtain⟨i,off⟩:=s;have hk:D.aS (.box (cH σ l)) 0 off=(l.getD off .dead).ai σ:=wP σ l off;have hkv:bU w v (.box (cH σ l)) 0 off=bU w v (.box l) 0 off:=rfl;cases p with
   | nil =>
    refine⟨?_,?_⟩
    ·simp only[D.ai,D.aR,dU,List.length_map]
    ·rintro⟨rfl,ho,hp⟩
     exact⟨by simp only[D.ai,aE,hkv],rfl⟩
   | cons t p =>
    have hk':D.aS (.box l) 0 off=l.getD off .dead:=rfl;refine⟨?_,?_⟩
    ·simp only[D.ai,D.aR,wP,wQ]
     cases l.getD off .dead<;>simp only[D.ai]
    ·rintro⟨rfl,ho,hp⟩
     simp only at hp;split at hp
     ·rename_i y hy
      have hy':(l.getD off .dead).ai σ=.o y:=Mu.2 hy;rw[hy'] at hk;rw[hy] at hk';refine⟨?_,?_⟩
      ·simp only[D.ai];rw[aE,aE,hkv,hk,hk']
      ·simp only[D.ai];rw[ay,ay,hkv,hk,hk']<;>simp
     ·exact hp.elim
theorem Ms{σ:Nat->Nat}(c:D)(h:c.refs fun _=>False):c.ai σ=c:=by
 have list:∀l:List D,(∀x∈l,x.refs (fun _=>False)->x.ai σ=x)->bD (fun _=>False) l->cH σ l=l:=by
  intro l ih hl;rw[dU]
  conv=>rhs;rw[<-List.map_id l]
  exact List.map_congr_left fun x hx=>ih x hx (bf.1 hl x hx)
 induction c using D.ind with
 | sub k p=>exact h.elim
 | aq k p=>exact h.elim
 | pre k p n=>exact h.elim
 | agg l ih | au l ih | box l ih | fn _ l ih=>simp only[D.ai];rw[list l ih h]
 | row z l _ ih=>simp only[D.ai];rw[list l ih h]
 | when g x ih=>simp only[D.ai];rw[ih h]
 | _=>rfl
theorem My(σ ρ:Nat->Nat)(c:D):(c.ai σ).ai ρ=c.ai (fun i=>ρ (σ i)):=by
 have list:∀l:List D,(∀x∈l,(x.ai σ).ai ρ=x.ai fun i=>ρ (σ i))->cH ρ (cH σ l)=cH (fun i=>ρ (σ i)) l:=by
  intro l ih;rw[dU,dU,dU,List.map_map];exact List.map_congr_left ih
 induction c using D.ind with
 | agg l ih | au l ih | box l ih | fn _ l ih=>simp only[D.ai];rw[list l ih]
 | row z l _ ih=>simp only[D.ai];rw[list l ih]
 | when g x ih=>simp only[D.ai];rw[ih]
 | _=>rfl
theorem Mt(c:D):c.ai (fun i=>i)=c:=by
 have list:∀l:List D,(∀x∈l,x.ai (fun i=>i)=x)->cH (fun i=>i) l=l:=by
  intro l ih;rw[dU]
  conv=>rhs;rw[<-List.map_id l]
  exact List.map_congr_left ih
 induction c using D.ind with
 | agg l ih | au l ih | box l ih | fn _ l ih=>simp only[D.ai];rw[list l ih]
 | row z l _ ih=>simp only[D.ai];rw[list l ih]
 | when g x ih=>simp only[D.ai];rw[ih]
 | _=>rfl
theorem Mw{Q Q':D->Prop}{σ:Nat->Nat}{c:D}(h:c.refs Q)(hQ:∀k p,(Q (.sub k p)->Q' (.sub (σ k) p))/\(Q (.aq k p)->Q' (.aq (σ k) p))):(c.ai σ).refs Q':=by
 induction c using D.ind with
 | agg l ih | au l ih | box l ih | fn _ l ih =>
  simp only[D.ai,D.refs,dU,bf,List.mem_map] at h|-
  rintro _ ⟨y,hy,rfl⟩;exact ih y hy (h y hy)
 | row z l _ ih =>
  simp only[D.ai,D.refs,dU,bf,List.mem_map] at h|-
  rintro _ ⟨y,hy,rfl⟩;exact ih y hy (h y hy)
 | when g x ih=>exact ih h
 | sub k p=>exact(hQ k p).1 h
 | aq k p=>exact(hQ k p).2 h
 | pre k p n=>exact(hQ k p).1 h
 | _=>trivial
section
variable{w:World}{A:Nat->Prop}{R R':Value->D->Prop}{v:Value}{F:Nat->Prop}{σ:Nat->Nat}
theorem Pl.ai{Q:D->Prop}{c:D}(h:Pl w A R v c):c.refs Q->(∀v d,d.refs Q->R v d->R' v (d.ai σ))->Pl w A R' v (c.ai σ):=by
 induction h with
 | rd h=>exact fun _ _=>by rw[Ms _ (h.vG _)];exact .rd h
 | ref h=>exact fun hq hR=>.ref (hR _ _ hq h)
 | agg hs _ ih =>
  refine fun hq hR=>.agg (by simpa[dU] using hs) fun j x hx=>?_
  rw[dU,List.getElem?_map,Option.map_eq_some_iff] at hx;obtain⟨y,hy,rfl⟩:=hx;exact ih j y hy (bf.1 hq y (List.mem_of_getElem? hy)) hR
 | au hs _ ih =>
  refine fun hq hR=>.au (by simpa[dU] using hs) fun j x hx=>?_
  rw[dU,List.getElem?_map,Option.map_eq_some_iff] at hx;obtain⟨y,hy,rfl⟩:=hx;exact ih j y hy (bf.1 hq y (List.mem_of_getElem? hy)) hR
 | fn hs _ ih =>
  refine fun hq hR=>.fn (by simpa[dU] using hs) fun j x hx=>?_
  rw[dU,List.getElem?_map,Option.map_eq_some_iff] at hx;obtain⟨y,hy,rfl⟩:=hx;exact ih j y hy (bf.1 hq y (List.mem_of_getElem? hy)) hR
theorem bG.ai{Q:D->Prop}{c:D}(h:bG w A R v F c)(hq:c.refs Q)(hR:∀v d,d.refs Q->R v d->R' v (d.ai σ)):bG w A R' v F (c.ai σ):=by
 cases c<;>first | exact Pl.ai h hq hR | exact h.elim | exact h
theorem Dh(σ:Nat->Nat)(x:D):(x.ai σ).cells=x.cells.map (D.ai σ):=by
 cases x<;>first | rfl | simp only[D.ai,D.cells,dU]
theorem Mv{c:D}(h:c.pc=true):(c.ai σ).pc=true:=by
 cases c<;>first | exact h | rfl | (simp[D.pc] at h)
theorem GB(σ:Nat->Nat)(l:List D)(sz j:Nat):cellAt (l.map (D.ai σ)) sz j=(cellAt l sz j).map (D.ai σ):=by
 unfold cellAt;rw[List.getElem?_map];cases l[j / sz]? with
 | none=>rfl
 | some d=>simp only[Option.map_some,Option.bind_some,Dh,List.getElem?_map]
theorem az.ai{Q:D->Prop}{c:D}(h:az w A R v F c)(hq:c.refs Q)(hR:∀v d,d.refs Q->R v d->R' v (d.ai σ)):az w A R' v F (c.ai σ):=by
 cases c
 case o x=>exact h
 case box l =>
  obtain⟨h0,b,cs,e,Fs,h1,h2,h3,h4,h5,h6,h7⟩:=h;simp only[D.ai,dU];refine⟨by simpa using h0,b,cs,e,Fs,h1,h2,by simpa using h3,fun j c hj=>?_,h5,h6,h7⟩;rw[List.getElem?_map,Option.map_eq_some_iff] at hj;obtain⟨y,hy,rfl⟩:=hj;exact(h4 j y hy).ai (bf.1 hq y (List.mem_of_getElem? hy)) hR
 case row z l =>
  obtain⟨b,sz,cs,e,h1,h2,h3,h3',h3'',h3a,h3b,h4,h5⟩:=h;simp only[D.ai,dU];refine⟨b,sz,cs,e,by simpa using h1,h2,by simpa using h3,by simpa using h3',h3'',h3a,fun x hx=>?_,fun j c hj=>?_,h5⟩
  ·obtain⟨y,hy,rfl⟩:=List.mem_map.1 hx
   rw[Dh,List.length_map];exact h3b y hy
  ·rw[GB,Option.map_eq_some_iff] at hj
   obtain⟨y,hy,rfl⟩:=hj;have hq':bD Q l:=hq;exact⟨(h4 j y hy).1.ai (Db (fun x hx=>bf.1 hq' x hx) hy) hR,Mv (h4 j y hy).2⟩
 case when g x=>exact⟨fun hg=>(h.1 hg).ai hq hR,h.2⟩
 all_goals exact Pl.ai h hq hR
theorem aa.ai{ct ct':Nat->D}{vl vl':Nat->Value}{d:D}(h:aa w ct vl v d)(hct:∀k,ct k≠.dead->ct' (σ k)=(ct k).ai σ)(hvl:∀k,ct k≠.dead->vl' (σ k)=vl k):aa w ct' vl' v (d.ai σ):=by
 have nd:∀{k:Nat}{p:Path},(ct k).aR p->ct k≠.dead:=fun h hh=>by rw[hh] at h;exact h
 cases d<;>try exact h.elim
 case sub k p =>
  obtain⟨⟨h1,h1'⟩,h2,h3⟩:=h;have hk:=oy (w:=w) σ (ct k) (vl k) p;refine⟨⟨?_,fun hl=>?_⟩,?_,h3⟩
  ·rw[hct k (nd h1)];exact hk.1.2 h1
  ·rw[hct k (nd h1)] at hl|-
   rw[sW] at hl;rw[sV σ hl];exact h1' hl
  ·rw[hct k (nd h1),hvl k (nd h1),(hk.2 h1).1];exact h2
 case pre k p n =>
  obtain⟨q,m,c,⟨⟨h1,h1'⟩,h2⟩,h3,h4⟩:=h;have hk:=oy (w:=w) σ (ct k) (vl k) p;refine⟨q,m,c,⟨⟨?_,fun hl=>?_⟩,?_⟩,h3,h4⟩
  ·rw[hct k (nd h1)];exact hk.1.2 h1
  ·rw[hct k (nd h1)] at hl|-
   rw[sW] at hl;rw[sV σ hl];exact h1' hl
  ·rw[hct k (nd h1),hvl k (nd h1),(hk.2 h1).1];exact h2
 case aq k p =>
  obtain⟨h1,a,h2,h3⟩:=h;have hk:=oy (w:=w) σ (ct k) (vl k) p;refine⟨?_,a,?_,h3⟩
  ·rw[hct k (nd h1)];exact hk.1.2 h1
  ·rw[hct k (nd h1),hvl k (nd h1),(hk.2 h1).2];exact h2
theorem aa.kg{ct ct':Nat->D}{vl vl':Nat->Value}{d:D}(h:aa w ct' vl' v (d.ai σ))(hct:∀k,ct' (σ k)=(ct k).ai σ)(hvl:∀k,ct k≠.dead->vl' (σ k)=vl k):aa w ct vl v d:=by
 cases d<;>try exact h.elim
 case sub k p =>
  obtain⟨⟨h1,h1'⟩,h2,h3⟩:=h;have hk:=oy (w:=w) σ (ct k) (vl k) p;rw[hct k] at h1 h1' h2;have h0:=hk.1.1 h1;have nd:ct k≠.dead:=fun hh=>by rw[hh] at h0;exact h0
  refine⟨⟨h0,fun hl=>?_⟩,?_,h3⟩
  ·rw[<-sV σ hl];exact h1' (by rw[sW];exact hl)
  ·rw[<-(hk.2 h0).1,<-hvl k nd];exact h2
 case pre k p n =>
  obtain⟨q,m,c,⟨⟨h1,h1'⟩,h2⟩,h3,h4⟩:=h;have hk:=oy (w:=w) σ (ct k) (vl k) p;rw[hct k] at h1 h1' h2;have h0:=hk.1.1 h1;have nd:ct k≠.dead:=fun hh=>by rw[hh] at h0;exact h0
  refine⟨q,m,c,⟨⟨h0,fun hl=>?_⟩,?_⟩,h3,h4⟩
  ·rw[<-sV σ hl];exact h1' (by rw[sW];exact hl)
  ·rw[<-(hk.2 h0).1,<-hvl k nd];exact h2
 case aq k p =>
  obtain⟨h1,a,h2,h3⟩:=h;have hk:=oy (w:=w) σ (ct k) (vl k) p;rw[hct k] at h1 h2;have h0:=hk.1.1 h1;have nd:ct k≠.dead:=fun hh=>by rw[hh] at h0;exact h0
  refine⟨h0,a,?_,h3⟩;rw[<-(hk.2 h0).2,<-hvl k nd];exact h2
def sG(σ:Nat->Nat):D->Prop
 | .sub k _=>∃i,k=σ i
 | .aq k _=>∃i,k=σ i
 | _=>True
theorem Dj(c:D):(c.ai σ).refs (sG σ) :=
 Mw (Q:=fun _=>True) (aV (fun _=>trivial) c) fun _ _=>⟨fun _=>⟨_,rfl⟩,fun _=>⟨_,rfl⟩⟩
theorem AI(hσ:∀i j,σ i=σ j->i=j):∃ρ:Nat->Nat,∀i,ρ (σ i)=i:=by
 classical
 refine⟨fun k=>if h:∃i,σ i=k then Classical.choose h else 0,fun i=>?_⟩;have h:∃j,σ j=σ i:=⟨i,rfl⟩;simp only[dif_pos h];exact hσ _ _ (Classical.choose_spec h)
theorem Fl(_:∀i j,σ i=σ j->i=j){ρ:Nat->Nat}(hρ:∀i,ρ (σ i)=i){ct ct':Nat->D}{vl vl':Nat->Value}(hct:∀k,ct' (σ k)=(ct k).ai σ)(hvl:∀k,ct k≠.dead->vl' (σ k)=vl k) :
  ∀v d,d.refs (sG σ)->aa w ct' vl' v d->aa w ct vl v (d.ai ρ):=by
 intro v d hq hr
 have e:(d.ai ρ).ai σ=d:=by
  cases d<;>try exact hr.elim
  case sub k p=>obtain⟨i,rfl⟩:=hq;simp only[D.ai,hρ]
  case aq k p=>obtain⟨i,rfl⟩:=hq;simp only[D.ai,hρ]
  case pre k p n=>obtain⟨i,rfl⟩:=hq;simp only[D.ai,hρ]
 exact aa.kg (σ:=σ) (by rw[e];exact hr) hct hvl
theorem Dg{ρ:Nat->Nat}(hρ:∀i,ρ (σ i)=i)(c:D):(c.ai σ).ai ρ=c:=by
 rw[My,show(fun i=>ρ (σ i))=fun i=>i from funext hρ,Mt]
theorem az.kg(hσ:∀i j,σ i=σ j->i=j){ct ct':Nat->D}{vl vl':Nat->Value}{c:D}(h:az w A (aa w ct' vl') v F (c.ai σ))(hct:∀k,ct' (σ k)=(ct k).ai σ)(hvl:∀k,ct k≠.dead->vl' (σ k)=vl k) :
  az w A (aa w ct vl) v F c:=by
 obtain⟨ρ,hρ⟩:=AI hσ;have:=h.ai (Q:=sG σ) (σ:=ρ) (R':=aa w ct vl) (Dj c) (Fl hσ hρ hct hvl)
 rwa [Dg hρ] at this
theorem Pl.kg(hσ:∀i j,σ i=σ j->i=j){ct ct':Nat->D}{vl vl':Nat->Value}{c:D}(h:Pl w A (aa w ct' vl') v (c.ai σ))(hct:∀k,ct' (σ k)=(ct k).ai σ)(hvl:∀k,ct k≠.dead->vl' (σ k)=vl k) :
  Pl w A (aa w ct vl) v c:=by
 obtain⟨ρ,hρ⟩:=AI hσ;have:=h.ai (Q:=sG σ) (σ:=ρ) (R':=aa w ct vl) (Dj c) (Fl hσ hρ hct hvl)
 rwa [Dg hρ] at this
theorem j8:∀{l:List D},jo l=true->∀x∈l,x.tight=true
 | [],_,x,hx=>by cases hx
 | y::r,h,x,hx=>by
  simp only[jo,Bool.and_eq_true] at h;rcases List.mem_cons.1 hx with rfl | hx
  ·exact h.1
  ·exact j8 h.2 x hx
theorem OC{A':Nat->Prop}{d:D}(h:Rd w A v d):d.tight=true->Rd w A' v d:=by
 induction h with
 | int h=>exact fun _=>.int h
 | bool=>exact fun _=>.bool
 | str h=>exact fun _=>.str h
 | aF=>exact fun _=>.aF
 | aM=>exact fun _=>.aM
 | dead=>exact fun _=>.dead
 | agg hs _ ih=>exact fun ht=>.agg hs fun j x hx=>ih j x hx (j8 ht x (List.mem_of_getElem? hx))
 | au hs _ ih=>exact fun ht=>.au hs fun j x hx=>ih j x hx (j8 ht x (List.mem_of_getElem? hx))
 | fn hs _ ih=>exact fun ht=>.fn hs fun j x hx=>ih j x hx (j8 ht x (List.mem_of_getElem? hx))
 | _=>exact fun ht=>by simp[D.tight] at ht
theorem xN{A':Nat->Prop}{d:D}(h:Pl w A R v d):d.tight=true->Pl w A' R v d:=by
 induction h with
 | rd h=>exact fun ht=>.rd (OC h ht)
 | ref h=>exact fun _=>.ref h
 | agg hs _ ih=>exact fun ht=>.agg hs fun j x hx=>ih j x hx (j8 ht x (List.mem_of_getElem? hx))
 | au hs _ ih=>exact fun ht=>.au hs fun j x hx=>ih j x hx (j8 ht x (List.mem_of_getElem? hx))
 | fn hs _ ih=>exact fun ht=>.fn hs fun j x hx=>ih j x hx (j8 ht x (List.mem_of_getElem? hx))
theorem Oz{A':Nat->Prop}{d:D}(h:bG w A R v F d)(ht:d.oJ=true):bG w A' R v F d:=by
 cases d
 case o x=>exact pY h ht
 all_goals first | exact h.elim | exact xN h ht
theorem Ff:∀{l:List D},oK l=true->∀x∈l,x.oJ=true
 | [],_,x,hx=>by cases hx
 | y::r,h,x,hx=>by
  simp only[oK,Bool.and_eq_true] at h;rcases List.mem_cons.1 hx with rfl | hx
  ·exact h.1
  ·exact Ff h.2 x hx
theorem OB{d:D}(h:d.tight=true)(hd:∀x∈d.cells,x.tight=true->True):∀x∈d.cells,x.tight=true:=by
 intro x hx;cases d<;>simp only[D.cells,List.mem_singleton] at hx<;>first | (subst hx;exact h) | exact j8 h x hx
theorem OA{l:List D}{sz j:Nat}{c:D}(h:jo l=true)(hc:cellAt l sz j=some c):c.tight=true:=by
 unfold cellAt at hc;cases hL:l[j / sz]? with
 | none=>simp[hL] at hc
 | some d =>
  rw[hL,Option.bind_some] at hc;exact OB (j8 h d (List.mem_of_getElem? hL)) (fun _ _ _=>trivial) c (List.mem_of_getElem? hc)
theorem Fh{A':Nat->Prop}{d:D}(h:az w A R v F d)(ht:d.jq=true):az w A' R v F d:=by
 cases d
 case o x=>exact pY h ht
 case box l =>
  obtain⟨h0,b,cs,e,Fs,h1,h2,h3,h4,h5,h6,h7⟩:=h;exact⟨h0,b,cs,e,Fs,h1,h2,h3,fun j c hj=>Oz (h4 j c hj) (Ff ht c (List.mem_of_getElem? hj)),h5,h6,h7⟩
 case row z l =>
  obtain⟨b,sz,cs,e,h1,h2,h3,h3',h3'',h3a,h3b,h4,h5⟩:=h;exact⟨b,sz,cs,e,h1,h2,h3,h3',h3'',h3a,h3b,fun j c hj=>⟨xN (h4 j c hj).1 (OA ht hj),(h4 j c hj).2⟩,h5⟩
 case when g x=>cases ht
 all_goals exact xN h ht
theorem Fg:∀{l:List D},lM l=true->∀k,(nth l k).jq=true
 | [],_,k=>rfl
 | y::r,h,k=>by
  simp only[lM,Bool.and_eq_true] at h;cases k with
  | zero=>exact h.1
  | succ k=>exact Fg h.2 k
end
theorem vP{σ:Nat->Nat}{c:D}(h:c.bC=true):(c.ai σ).bC=true:=by
 cases c<;>first | exact h | rfl | cases h
theorem jh{w:World}{A:Nat->Prop}{R:Value->D->Prop}{v:Value}{F:Nat->Prop}{c:D}(h:c.bC=true):az w A R v F c↔Pl w A R v c:=by
 cases c<;>first | exact Iff.rfl | cases h
theorem Ck{c:D}(h:c.bC=true):c.isObj=false:=by cases c<;>first | rfl | cases h
end Go.D3
namespace Go.D3
open Go
section
variable{P:Program}{cx:Ctx}{vl:Nat->Value}{fp:Nat->Nat->Prop}{G:Nat->Prop}{w:World}
theorem Hp.Ov[Mode]{ct ct':Nat->D}{fp':Nat->Nat->Prop}{F:Nat->Prop}{w':World}(h:Hp cx ct vl fp G w)(S:Nat->Prop)(Q:D->Prop)
  (hin:∀k,S k->az w' (ae cx fp' F w') (aa w' ct' vl) (vl k) (fp' k) (ct' k)) (hout:∀k,¬S k->ct' k=ct k) (hfo:∀k,¬S k->fp' k=fp k)
  (hfi:∀k,S k->∀b,fp' k b->b<w'.heap.size/\(w.heap.size<=b\/∃j,S j/\fp j b)) (hF:∀b,F b->b<w'.heap.size/\(w.heap.size<=b\/∃j,S j/\fp j b))
  (hFd:∀k,S k->∀b,fp' k b->¬F b) (hdis:∀i j b,S i->S j->i≠j->fp' i b->¬fp' j b) (hemp:∀k,S k->(ct' k).isObj=false->∀b,¬fp' k b)
  (hrefs:∀k,¬S k->(ct k).refs Q) (hkeep:∀d,Q d->cd w w' ct ct' vl vl d)
  (hsz:w.heap.size<=w'.heap.size) (hw:∀b,b<w.heap.size->(∀j,S j->¬fp j b)->w'.heap[b]?=w.heap[b]?) (hos:w'.os=w.os) (htape:w'.tape=w.tape) (houtp:bQ w w') :
  Hp cx ct' vl fp' F w':=by
 have own0:∀b,(w.heap.size<=b\/∃j,S j/\fp j b)->(cx.F0 b\/cx.w0.heap.size<=b):=fun b hb=>hb.elim (fun hh=>.inr (by have:=h.size;omega)) fun⟨j,_,hh⟩=>(h.lt j b hh).2
 have nin:∀{b:Nat}{j:Nat},(w.heap.size<=b\/∃i,S i/\fp i b)->¬S j->¬fp j b:=fun {b j} hb hj hf=>hb.elim (fun hh=>by have:=(h.lt j b hf).1;omega) fun⟨i,hi,hif⟩=>h.bk i j (by rintro rfl;exact hj hi) b hif hf
 have nst:∀{b:Nat},(w.heap.size<=b\/∃i,S i/\fp i b)->¬ae cx fp G w b:=fun {b} hb hs=>hb.elim (fun hh=>by have:=hs.1.1;omega) fun⟨i,_,hif⟩=>hs.2.2 i hif
 have aI:∀b,ae cx fp G w b->ae cx fp' F w' b:=by
  intro b hb;refine⟨⟨by have:=hb.1.1;omega,hb.1.2⟩,fun hf=>nst (hF b hf).2 hb,fun k hk=>?_⟩;by_cases hs:S k
  ·exact nst (hfi k hs b hk).2 hb
  ·rw[hfo k hs] at hk;exact hb.2.2 k hk
 refine⟨fun k=>?_,fun i j hij b hi hj=>?_,fun k b hk hf=>?_,fun k hk b hb=>?_,fun k b hk=>?_,fun b hb=>⟨(hF b hb).1,own0 b (hF b hb).2⟩,Nat.le_trans h.size hsz,fun b hb hb0=>?_,hos.trans h.os,htape.trans h.tape,houtp.trans h.output⟩
 ·by_cases hs:S k
  ·exact hin k hs
  ·rw[hout k hs,hfo k hs]
   refine(h.ok k).mono (Q:=Q) aI (fun b hb=>hw b hb.1.1 fun j _=>hb.2.2 j) (fun b hb=>hw b (h.lt k b hb).1 fun j hj hf=>h.bk k j (by rintro rfl;exact hs hj) b hb hf) (fun _ h=>h) (hrefs k hs) fun v d hq hr=>hr.bu (cn hkeep hq)
 ·by_cases hsi:S i<;>by_cases hsj:S j
  ·exact hdis i j b hsi hsj hij hi hj
  ·rw[hfo j hsj] at hj;exact nin (hfi i hsi b hi).2 hsj hj
  ·rw[hfo i hsi] at hi;exact nin (hfi j hsj b hj).2 hsi hi
  ·rw[hfo i hsi] at hi;rw[hfo j hsj] at hj;exact h.bk i j hij b hi hj
 ·by_cases hs:S k
  ·exact hFd k hs b hk hf
  ·rw[hfo k hs] at hk;exact nin (hF b hf).2 hs hk
 ·by_cases hs:S k
  ·exact hemp k hs hk b hb
  ·rw[hfo k hs] at hb;rw[hout k hs] at hk;exact h.emp k hk b hb
 ·by_cases hs:S k
  ·exact⟨(hfi k hs b hk).1,own0 b (hfi k hs b hk).2⟩
  ·rw[hfo k hs] at hk;exact⟨by have:=(h.lt k b hk).1;omega,(h.lt k b hk).2⟩
 ·rw[hw b (by have:=h.size;omega) fun j _ hf=>(h.lt j b hf).2.elim hb0 fun hh=>by omega]
  exact h.same b hb hb0
theorem qz{n:Nat}{js:List Nat}{i:Nat}(h:i<js.length):sg n js i=js[i]:=by simp[sg,h]
theorem qA{n:Nat}{js:List Nat}{i:Nat}(h:js.length<=i):sg n js i=1000+n+i:=by simp[sg,h]
theorem N6{n:Nat}{js:List Nat}(hn:js.Nodup)(hb:js.all (fun j=>decide (j<1000+n))=true)(i j:Nat)(h:sg n js i=sg n js j):i=j:=by
 simp only[List.all_eq_true,decide_eq_true_eq] at hb;by_cases hi:i<js.length<;>by_cases hj:j<js.length
 ·rw[qz hi,qz hj] at h
  have hp:=List.pairwise_iff_getElem.1 hn;rcases Nat.lt_trichotomy i j with hij | hij | hij
  ·exact absurd h (hp i j hi hj hij)
  ·exact hij
  ·exact absurd h.symm (hp j i hj hi hij)
 ·rw[qz hi,qA (by omega)] at h
  have:=hb js[i] (List.getElem_mem hi);omega
 ·rw[qA (by omega),qz hj] at h
  have:=hb js[j] (List.getElem_mem hj);omega
 ·rw[qA (by omega),qA (by omega)] at h;omega
theorem BB{st:St}{σ:Nat->Nat}:∀{js:List Nat}{gs:List D},kX st σ js gs->js.length=gs.length/\∀(i:Nat)(h:i<js.length),st.cont js[i]=(nth gs i).ai σ
 | [],[],_=>⟨rfl,fun i h=>by simp at h⟩
 | [],_::_,h=>h.elim
 | _::_,[],h=>h.elim
 | j::js,g::gs,⟨h1,h2⟩=>by
  obtain⟨h3,h4⟩:=BB h2;refine⟨by simp[h3],fun i hi=>?_⟩;cases i with
  | zero=>exact h1
  | succ i=>exact h4 i (by simpa using hi)
theorem B7:∀{gs hs:List D},lf gs hs->gs.length=hs.length/\∀i,nth gs i=.dead->nth hs i=.dead
 | [],[],_=>⟨rfl,fun _ _=>rfl⟩
 | [],_::_,h=>h.elim
 | _::_,[],h=>h.elim
 | g::gs,h::hs,⟨h1,h2⟩=>by
  obtain⟨h3,h4⟩:=B7 h2;refine⟨by simp[h3],fun i hi=>?_⟩;cases i with
  | zero=>exact h1 hi
  | succ i=>exact h4 i hi
theorem CY(σ:Nat->Nat):∀(js:List Nat)(hs:List D)(st:St),(fZ σ st js hs).n=st.n
 | [],_,_=>rfl
 | _::_,[],_=>rfl
 | j::js,h::hs,st=>by rw[fZ,CY σ js hs,St.ew]
theorem CZ(σ:Nat->Nat):∀(js:List Nat)(hs:List D){st:St},st.wf->(fZ σ st js hs).wf
 | [],_,_,h=>h
 | _::_,[],_,h=>h
 | _::js,_::hs,_,h=>CZ σ js hs (St.dM h _ _)
theorem St.HB{st:St}{k j:Nat}{c:D}:(st.put k c).in j↔st.in j:=by
 unfold St.put;split
 ·simp only[St.in,xu]
 ·split<;>simp only[St.in]
theorem CX(σ:Nat->Nat):∀(js:List Nat)(hs:List D){st:St},st.wf->js.Nodup->js.length=hs.length->(∀(i:Nat)(h:i<js.length),¬st.in js[i]->nth hs i=.dead) ->
  (∀k,k ∉ js->(fZ σ st js hs).cont k=st.cont k)/\∀(i:Nat)(h:i<js.length),(fZ σ st js hs).cont js[i]=(nth hs i).ai σ
 | [],_,st,_,_,_,_=>⟨fun _ _=>rfl,fun i h=>by simp at h⟩
 | _::_,[],st,_,_,h,_=>by simp at h
 | j::js,h::hs,st,hw,hn,hl,hd=>by
  have hn':=List.nodup_cons.1 hn;obtain⟨h1,h2⟩:=CX σ js hs (st:=st.put j (h.ai σ)) (St.dM hw _ _) hn'.2 (by simpa using hl) (fun i hi hin=>hd (i+1) (by simpa using hi) (by rw[St.HB] at hin;simpa using hin))
  have hj:(st.put j (h.ai σ)).cont j=h.ai σ:=by
   by_cases hin:st.in j
   ·rw[St.c7 hw hin,aT]
   ·have:h=.dead:=hd 0 (by simp) (by simpa using hin)
    rw[St.nI hin,St.bZ hin,this];rfl
  have ho:∀k,k≠j->(st.put j (h.ai σ)).cont k=st.cont k:=fun k hk=>by
   by_cases hin:st.in j
   ·rw[St.c7 hw hin,av _ _ hk]
   ·rw[St.nI hin]
  refine⟨fun k hk=>?_,fun i hi=>?_⟩
  ·simp only[List.mem_cons,not_or] at hk
   show(fZ σ (st.put j (h.ai σ)) js hs).cont k=_;rw[h1 k hk.2,ho k hk.1]
  ·cases i with
   | zero =>
    show(fZ σ (st.put j (h.ai σ)) js hs).cont j=_;rw[h1 j hn'.1,hj];rfl
   | succ i=>exact h2 i (by simpa using hi)
theorem C7:∀{js:List Nat}{gs hs:List D}{d:D},qG js gs hs d=false->js.length=gs.length->js.length=hs.length->∀(i:Nat)(h:i<js.length),mO js[i] (nth gs i) (nth hs i) d=false
 | [],_,_,_,_,_,_,i,h=>by simp at h
 | j::js,g::gs,h::hs,d,hq,h1,h2,i,hi=>by
  simp only[qG,Bool.or_eq_false_iff] at hq;cases i with
  | zero=>exact hq.1
  | succ i=>exact C7 hq.2 (by simpa using h1) (by simpa using h2) i (by simpa using hi)
 | _::_,[],_,_,_,h,_,_,_=>by simp at h
 | _::_,_::_,[],_,_,_,h,_,_=>by simp at h
theorem zC{st:St}{σ:Nat->Nat}{js:List Nat}{tg:Bool}:∀{ds as:List D},kr st σ js tg ds as->ds.length=as.length /\
  ∀(i:Nat)(a:D),as[i]?=some a->∃d,ds[i]?=some d/\(d=a.ai σ\/(tg=true/\aW (fun k=>if js.contains k=true then .dead else st.cont k) 4 d=some a))
 | [],[],_=>⟨rfl,fun i a h=>by simp at h⟩
 | [],_::_,h=>h.elim
 | _::_,[],h=>h.elim
 | d::ds,a::as,⟨h1,h2⟩=>by
  obtain⟨h3,h4⟩:=zC h2;refine⟨by simp[h3],fun i a hi=>?_⟩;cases i with
  | zero=>simp at hi;subst hi;exact⟨d,rfl,h1⟩
  | succ i=>exact h4 i a (by simpa using hi)
theorem Hl[Mode]{st:St}(h:Hp cx st.cont vl fp G w)(hwf:st.wf){vs:Array Value}{ds:List D}(hvs:vs.size=ds.length)(hds:∀(j:Nat)(d:D),ds[j]?=some d->Pl w (ae cx fp G w) (aa w st.cont vl) (vs.getD j undef) d)
  {f:FuncId} {K:D->St->Prop} (hv:AT P f ds st K) :
  fy P f=true/\Calls P f vs w fun e w'=>∃(v:Value)(c:D)(st':St),e=.returned v/\K c st'/\(∃fp' F,Hp cx st'.cont vl fp' F w'/\az w' (ae cx fp' F w') (aa w' st'.cont vl) v F c/\(c.isObj=false->∀b,¬F b))/\st'.wf/\st'.n=st.n/\∀i,i<1000->st.cont i=.dead->st'.cont i=.dead:=by
 obtain⟨js,tg,as,gs,Q,⟨hbody,hR⟩,⟨hnd,hall⟩,hlend,harg,hpostQ⟩:=hv;refine⟨hbody,?_⟩;generalize hσ:sg st.n js=σ at hlend harg hpostQ;have hinj:∀i j,σ i=σ j->i=j:=by rw[<-hσ];exact N6 hnd hall
 obtain⟨hl1,hl2⟩:=BB hlend;obtain⟨ha1,ha2⟩:=zC harg;have σin:∀(i:Nat)(hi:i<js.length),σ i=js[i]:=fun i hi=>by rw[<-hσ,qz hi]
 have σout:∀i,js.length<=i->σ i=1000+st.n+i:=fun i hi=>by rw[<-hσ,qA hi]
 have σdead:∀i,js.length<=i->st.cont (σ i)=.dead:=fun i hi=>by
  rw[σout i hi];exact St.bZ (by simp only[St.in,not_or,not_and];omega)
 have hct:∀i,st.cont (σ i)=(nth gs i).ai σ:=fun i=>by
  by_cases hi:i<js.length
  ·rw[σin i hi];exact hl2 i hi
  ·rw[σdead i (by omega),fX gs i (by omega)];rfl
 have hfpo:∀i,js.length<=i->∀b,¬fp (σ i) b:=fun i hi=>h.emp _ (by rw[σdead i hi];rfl)
 obtain⟨B,hB1,hB2,hB3,hB4,hB5⟩:∃B:Nat->Prop,(∀b,ae cx fp G w b->B b)/\(∀b,B b->b<w.heap.size)/\(∀k b,fp (σ k) b->¬B b) /\
   (∀(j:Nat)(a:D),as[j]?=some a->Pl w B (aa w (nth gs) fun i=>vl (σ i)) (vs.getD j undef) a)/\(tg=true\/∀b,B b->ae cx fp G w b):=by
  have lent:∀{j:Nat}{a d:D},ds[j]?=some d->d=a.ai σ->Pl w (ae cx fp G w) (aa w (nth gs) fun i=>vl (σ i)) (vs.getD j undef) a:=fun {j a d} hd he=>by
   have:=hds j d hd;rw[he] at this;exact this.kg hinj hct fun _ _=>rfl
  cases tg with
  | false =>
   refine⟨ae cx fp G w,fun _ h=>h,fun b hb=>hb.1.1,fun k b hk hb=>hb.2.2 _ hk,fun j a hj=>?_,.inr fun _ h=>h⟩;obtain⟨d,hd,he | ⟨he,_⟩⟩:=ha2 j a hj
   ·exact lent hd he
   ·cases he
  | true =>
   have hsB:∀b,ae cx fp G w b->b<w.heap.size/\∀i,¬fp (σ i) b:=fun b hb=>⟨hb.1.1,fun i=>hb.2.2 _⟩
   refine⟨fun b=>b<w.heap.size/\∀i,¬fp (σ i) b,hsB,fun b hb=>hb.1,fun k b hk hb=>hb.2 k hk,fun j a hj=>?_,.inl rfl⟩;obtain⟨d,hd,he | ⟨_,he⟩⟩:=ha2 j a hj
   ·exact(lent hd he).mono (Q:=fun _=>True) hsB (fun _ _=>rfl) (aV (fun _=>trivial) _) fun _ _ _ h=>h
   ·have hob:∀k,((fun k=>if js.contains k=true then D.dead else st.cont k) k).isObj=true->k ∉ js/\(fun k=>if js.contains k=true then D.dead else st.cont k) k=st.cont k:=by
     intro k hk;by_cases hc:js.contains k=true
     ·simp only[hc,if_true] at hk;cases hk
     ·exact⟨fun hm=>hc (List.contains_iff_mem.2 hm),if_neg hc⟩
    refine .rd (kN (ct:=st.cont) (vl:=vl) (A:=ae cx fp G w) hsB (fun k _ hk=>(hob k hk).2) (fun k _ hk=>⟨fp k,fun b hb=>⟨(h.lt k b hb).1,fun i hi=>?_⟩,h.ok k⟩) 4 (hds j d hd) he);have hc:=(hob k hk).1;by_cases hil:i<js.length
    ·refine h.bk k (σ i) ?_ b hb hi
     rintro rfl;exact hc (by rw[σin i hil];exact List.getElem_mem hil)
    ·exact hfpo i (by omega) b hi
 refine(hR w B vs (fun i=>vl (σ i)) (fun i=>fp (σ i)) (h.gl.mono hB1 fun _ _=>rfl) hB2 (by rw[hvs,ha1]) hB4 (fun k=>?_) (fun k hk=>h.emp _ (by rw[hct k,ml];exact hk)) (fun i j b hij hi hj=>h.bk _ _ (fun he=>hij (hinj _ _ he)) b hi hj)
  (fun k b hk=>⟨(h.lt _ b hk).1,hB3 k b hk⟩)).mono ?_
 ·have:=(h.ok (σ k))
  rw[hct k] at this;exact(this.kg hinj hct fun _ _=>rfl).mono (Q:=fun _=>True) hB1 (fun _ _=>rfl) (fun _ _=>rfl) (fun _ h=>h) (aV (fun _=>trivial) _) fun _ _ _ h=>h
 rintro e w' ⟨rc,gs',v,F,gv',Fs',hQ,rfl,hsz,hrc,hrce,hgs,hgse,hgv,hF,hFs,hFsd,hsame,hos,htape,hout⟩;obtain⟨hnew,htight,hK⟩:=hpostQ rc gs' hQ;obtain⟨hl3,hl4⟩:=B7 hnew;refine⟨v,_,_,rfl,hK,?_⟩;generalize hq:qG js gs gs'=q at hK;have h1:=h.kill q;rw[<-St.b9] at h1;have hwk:=St.eW hwf q
 obtain⟨hp1,hp2⟩:=CX σ js gs' hwk hnd (by omega) (fun i hi hin=>by
  have:¬st.in js[i]:=by simpa[St.in,St.kill,jN] using hin
  refine hl4 i ?_;have h0:=hl2 i hi;rw[St.bZ this] at h0
  exact Di.1 h0.symm)
 generalize hst2:fZ σ (st.kill q) js gs'=st2 at hp1 hp2 hK;have hwf2:st2.wf:=by rw[<-hst2];exact CZ σ js gs' hwk
 have hn2:st2.n=st.n:=by rw[<-hst2,CY];rfl
 have hct2:∀k,nth gs' k≠.dead->st2.cont (σ k)=(nth gs' k).ai σ:=fun k hk=>by
  have hkl:k<js.length:=Classical.byContradiction fun hh=>hk (fX gs' k (by omega))
  rw[σin k hkl];exact hp2 k hkl
 have hgl:∀k,nth gs' k≠.dead->gv' k=vl (σ k):=fun k hk=>hgv k fun hh=>hk (hl4 k hh)
 have hFs0:∀i,js.length<=i->∀b,¬Fs' i b:=fun i hi=>hgse i (by rw[fX gs' i (by omega)];rfl)
 let S:Nat->Prop:=fun k=>k∈js
 let fp':Nat->Nat->Prop:=fun k b=>(∃i,i<js.length/\σ i=k/\Fs' i b)\/(k ∉ js/\fp k b)
 have hSi:∀i,i<js.length->σ i∈js:=fun i hi=>by rw[σin i hi];exact List.getElem_mem hi
 have hfpS:∀k,S k->∀b,fp' k b->∃i,i<js.length/\σ i=k/\Fs' i b:=fun k hk b hb=>hb.elim id fun hh=>absurd hk hh.1
 have hfo:∀k,¬S k->fp' k=fp k:=fun k hk=>by
  funext b;refine propext ⟨fun hb=>hb.elim (fun⟨i,hi,he,_⟩=>absurd (he▸hSi i hi) hk) fun hh=>hh.2,fun hb=>.inr ⟨hk,hb⟩⟩
 have hlent:∀b,(w.heap.size<=b\/∃j,fp (σ j) b)->(w.heap.size<=b\/∃j,S j/\fp j b):=fun b hb=>hb.imp id fun⟨j,hj⟩=>by
  by_cases hjl:j<js.length
  ·exact⟨σ j,hSi j hjl,hj⟩
  ·exact absurd hj (hfpo j (by omega) b)
 have hpost:∀b,(ae cx fp G w b\/(w.heap.size<=b/\b<w'.heap.size/\¬F b/\∀j,¬Fs' j b))->ae cx fp' F w' b:=by
  rintro b (hb | ⟨q1,q2,q3,q4⟩)
  ·refine⟨⟨by have:=hb.1.1;omega,hb.1.2⟩,fun hf=>?_,fun k hk=>?_⟩
   ·exact(hF b hf).2.1.elim (fun hh=>by have:=hb.1.1;omega) fun⟨j,hj⟩=>hb.2.2 _ hj
   ·rcases hk with⟨i,_,_,hi⟩ | ⟨_,hk⟩
    ·exact(hFs i b hi).2.elim (fun hh=>by have:=hb.1.1;omega) fun⟨j,hj⟩=>hb.2.2 _ hj
    ·exact hb.2.2 k hk
  ·refine⟨⟨q2,fun hh=>by have:=h.size;omega⟩,q3,fun k hk=>?_⟩
   rcases hk with⟨i,_,_,hi⟩ | ⟨_,hk⟩
   ·exact q4 i hi
   ·have:=(h.lt k b hk).1;omega
 have hA:∀{c:D}{v:Value}{F0:Nat->Prop}{R:Value->D->Prop},(tg=true->c.jq=true)->az w' (fun b=>B b\/(w.heap.size<=b/\b<w'.heap.size/\¬F b/\∀j,¬Fs' j b)) R v F0 c->az w' (ae cx fp' F w') R v F0 c:=by
  intro c v F0 R ht hc;rcases hB5 with htg | hB5
  ·exact Fh hc (ht htg)
  ·exact hc.mono (Q:=fun _=>True) (fun b hb=>hpost b (hb.imp (hB5 b) id)) (fun _ _=>rfl) (fun _ _=>rfl) (fun _ h=>h) (aV (fun _=>trivial) _) fun _ _ _ h=>h
 have hren:∀{c:D}{v:Value}{F0:Nat->Prop},az w' (ae cx fp' F w') (aa w' (nth gs') gv') v F0 c->az w' (ae cx fp' F w') (aa w' st2.cont vl) v F0 (c.ai σ):=fun hc =>
  hc.ai (Q:=fun _=>True) (aV (fun _=>trivial) _) fun v d _ hr=>hr.ai hct2 fun k hk=>(hgl k hk).symm
 have h2:Hp cx st2.cont vl fp' F w':=by
  refine h1.Ov S (fun d=>q d=false) (fun k hk=>?_) (fun k hk=>hp1 k hk) hfo (fun k hk b hb=>?_) (fun b hb=>⟨(hF b hb).1,hlent b (hF b hb).2.1⟩) (fun k hk b hb hf=>?_) (fun i j b hi hj hij hbi hbj=>?_) (fun k hk hobj b hb=>?_)
   (fun k _=>by rw[St.b9];exact gr q _) (fun d hd=>?_) hsz (fun b hb hn=>hsame b hb fun j hj=>?_) hos htape hout
  ·obtain⟨i,hi,rfl⟩:=List.getElem_of_mem (show k∈js from hk)
   rw[hp2 i hi];by_cases hdd:nth gs' i=.dead
   ·rw[hdd];exact Pl.dead
   ·have:=hren (hA (fun ht=>Fg (htight ht).2 i) (hgs i))
    rw[hgl i hdd,σin i hi] at this;exact this.mono (Q:=fun _=>True) (fun _ h=>h) (fun _ _=>rfl) (fun _ _=>rfl) (fun b hb=>.inl ⟨i,hi,σin i hi,hb⟩) (aV (fun _=>trivial) _) fun _ _ _ h=>h
  ·obtain⟨i,_,_,hi⟩:=hfpS k hk b hb
   exact⟨(hFs i b hi).1,hlent b (hFs i b hi).2⟩
  ·obtain⟨i,_,_,hi⟩:=hfpS k hk b hb
   exact(hF b hf).2.2 i hi
  ·obtain⟨i',_,e1,h1'⟩:=hfpS i hi b hbi
   obtain⟨j',_,e2,h2'⟩:=hfpS j hj b hbj;exact hFsd i' j' b (by rintro rfl;exact hij (e1.symm.trans e2)) h1' h2'
  ·obtain⟨i,hi,rfl,hb'⟩:=hfpS k hk b hb
   rw[σin i hi,hp2 i hi,ml] at hobj;exact hgse i hobj b hb'
  ·rw[<-hq] at hd
   have hlt:js.length=gs'.length:=by omega
   have hqi:=fun i hi=>C7 hd hl1 hlt i hi
   have hback:∀(i:Nat)(hi:i<js.length),(st.kill q).cont js[i]=((nth gs i).ai σ).kill q:=fun i hi=>by rw[St.b9];show(st.cont js[i]).kill q=_;rw[hl2 i hi]
   cases d<;>try trivial
   case sub k p =>
    intro hs;by_cases hk:k∈js
    ·obtain⟨i,hi,rfl⟩:=List.getElem_of_mem hk
     have:=hqi i hi;simp only[mO,beq_self_eq_true,Bool.true_and,Bool.not_eq_false',Bool.and_eq_true,List.isEmpty_iff] at this;obtain⟨rfl,hsh⟩:=this;have e1:=hback i hi;have e2:=hp2 i hi;generalize nth gs i=x at hsh e1;generalize nth gs' i=y at hsh e2;cases x<;>cases y<;>simp only[tl,Bool.false_eq_true] at hsh;rw[e2];refine⟨⟨?_,fun hl=>by cases hl⟩,?_⟩
     ·exact True.intro
     ·rfl
    ·rw[hp1 k hk]
     exact⟨hs,(eF (h1.ok k) hs.1 fun b hb=>hsame b (h.lt k b hb).1 fun j hj=>by
      by_cases hjl:j<js.length
      ·exact h.bk k (σ j) (by rintro rfl;exact hk (hSi j hjl)) b hb hj
      ·exact hfpo j (by omega) b hj).1⟩
   case aq k p =>
    intro hs;by_cases hk:k∈js
    ·obtain⟨i,hi,rfl⟩:=List.getElem_of_mem hk
     have:=hqi i hi;simp only[mO,beq_self_eq_true,Bool.true_and,Bool.not_eq_false',Bool.and_eq_true,beq_iff_eq] at this;obtain⟨hpl,hsh⟩:=this;have e1:=hback i hi;have e2:=hp2 i hi;generalize nth gs i=x at hsh e1;generalize nth gs' i=y at hsh e2;cases x<;>cases y<;>simp only[tj,Bool.false_eq_true,beq_iff_eq] at hsh;rename_i l l'
     match p,hpl with
     | [(a,off)],_ =>
      rw[e1] at hs;obtain⟨rfl,ho,-⟩:=hs;rw[e1,e2];refine⟨⟨rfl,?_,trivial⟩,rfl⟩;simp only[jN,wQ] at ho|-
      omega
    ·rw[hp1 k hk]
     exact⟨hs,(eF (h1.ok k) hs fun b hb=>hsame b (h.lt k b hb).1 fun j hj=>by
      by_cases hjl:j<js.length
      ·exact h.bk k (σ j) (by rintro rfl;exact hk (hSi j hjl)) b hb hj
      ·exact hfpo j (by omega) b hj).2⟩
  ·by_cases hjl:j<js.length
   ·exact hn (σ j) (hSi j hjl) hj
   ·exact hfpo j (by omega) b hj
 refine⟨⟨fp',F,h2,hren (hA (fun ht=>(htight ht).1) hrc),fun ho=>hrce (by rw[ml] at ho;exact ho)⟩,hwf2,hn2,fun i hi hd=>?_⟩;by_cases hij:i∈js
 ·obtain⟨k,hk,rfl⟩:=List.getElem_of_mem hij
  rw[hp2 k hk,hl4 k (Di.1 (by rw[<-hl2 k hk];exact hd))];rfl
 ·rw[hp1 i hij];exact St.gn q hd
theorem Dq[Mode]{st2:St}{vl:Nat->Value}{fp2:Nat->Nat->Prop}{F:Nat->Prop}{w':World}{v:Value}{c:D}{n:Nat}(h2:Hp cx st2.cont vl fp2 F w')(hwf2:st2.wf)(hn2:st2.n=n)(hc:az w' (ae cx fp2 F w') (aa w' st2.cont vl) v F c)(hce:c.isObj=false->∀b,¬F b) :
  (∃fp' G',Hp cx (st2.push c).cont (aj vl (1000+n) v) fp' G' w')/\(st2.push c).wf/\(st2.push c).n=n+1/\∀i,i<1000->st2.cont i=.dead->(st2.push c).cont i=.dead:=by
 have hd2:st2.cont (1000+n)=.dead:=St.bZ (by rw[<-hn2];simp only[St.in,not_or,not_and];omega);refine⟨?_,St.dW hwf2 _,by show st2.n+1=_;rw[hn2],fun i hi hd=>?_⟩
 ·rw[St.cm hwf2,hn2]
  exact⟨_,fun _=>False,h2.put (k:=1000+n) (v:=v) (c:=c) (F:=F) (by rw[hd2];rfl) hc (fun _ h=>h) (fun _ h=>h.elim) (fun _ _ h=>h) hce⟩
 ·rw[St.cm hwf2,hn2,av _ _ (by omega)];exact hd
theorem zQ[Mode]{cx:Ctx}{vl:Nat->Value}{fp:Nat->Nat->Prop}{G:Nat->Prop}{w:World}{st:St}(hp:Hp cx st.cont vl fp G w)(hwf:st.wf){d:D}{v:Value}(hpl:Pl w (ae cx fp G w) (aa w st.cont vl) v d)
  {K:D->St->Prop} (hab:iM d K st):∃(c:D)(st2:St)(fp2:Nat->Nat->Prop)(G2 F:Nat->Prop),K c st2/\Hp cx st2.cont vl fp2 G2 w/\az w (ae cx fp2 G2 w) (aa w st2.cont vl) v F c /\
   (c.isObj=false->∀b,¬F b)/\(∀b,F b->G2 b)/\(∀k,st.cont k=.dead->st2.cont k=.dead)/\st2.wf/\st2.n=st.n:=by
 unfold iM at hab;split at hab
 ·rename_i j
  obtain⟨hobj,hno,hK⟩:=hab;obtain⟨hc,ad,he,hv⟩:=eP hpl;have hp1:=hp.kill (aP j);rw[<-St.b9] at hp1
  have hrk:∀i,((st.kill (aP j)).cont i).refs (bO j):=fun i=>by
   rw[St.b9];exact cn (fun d hd=>by cases d<;>simp_all[aP,bO]) (gr (aP j) _)
  have hp2:=hp1.drop j hrk (vl j);rw[qI] at hp2;have hwk:=St.eW hwf (aP j);have hin:(st.kill (aP j)).in j:=Classical.byContradiction fun hh=>by rw[St.bZ hh] at hobj;cases hobj
  have ec:((st.kill (aP j)).put j .dead).cont=aj (st.kill (aP j)).cont j .dead:=St.c7 hwk hin _
  have hvj:v=vl j:=by
   rw[hv];have hok:=hp.ok j;generalize st.cont j=cj at hc he hno hok;cases cj<;>try exact hc.elim
   ·cases hno
   ·rename_i l
    obtain⟨_,b,cs,e,Fs0,h1,h2,h3,h4,h5,h6,h7⟩:=hok;rw[h1] at he|-
    simp only[ay,cT,D.un,da,Option.some.injEq] at he;rw[<-he]
   ·simp[D.aR] at hc
  refine⟨_,_,_,_,fp j,hK,ec▸hp2,?_,fun hh=>(by rw[hobj] at hh;cases hh),fun b hb=>.inr hb,fun k hk=>?_,St.dM hwk _ _,by rw[St.ew];rfl⟩
  ·rw[hvj,ec]
   refine(hp1.ok j).mono (Q:=bO j) (fun b hb=>⟨hb.1,fun hg=>hg.elim hb.2.1 (hb.2.2 j),fun i hi=>?_⟩) (fun _ _=>rfl) (fun _ _=>rfl) (fun _ h=>h) (hrk j) fun v d hq hr=>hr.bu (cn (fun q hq=>?_) hq)
   ·by_cases hij:i=j
    ·subst hij;rw[aT] at hi;exact hi
    ·rw[av _ _ hij] at hi;exact hb.2.2 i hi
   ·cases q<;>try trivial
    all_goals
     rename_i i p;intro hp;have n1:i≠j:=hq;simp only[av _ _ n1];exact⟨hp,trivial⟩
  ·rw[ec]
   simp only[aj];split
   ·rfl
   ·exact St.gn _ hk
 ·exact hab.elim
end
section
variable{P:Program}{o:Oper}{cx:Ctx}{vl:Nat->Value}{fp:Nat->Nat->Prop}{G:Nat->Prop}{w:World}{a:Act}{ds:List (Option Nat)}{tr:List Nat}{Q:Exit->Act->World->Prop}
theorem Lc{op:Op}{x:Operand}{xs:List Operand}(h:vV op=some (x,xs)):∃ts,op=.call { callee:=.value x,args:=xs.toArray,argTypes:=ts }:=by
 cases op<;>simp[vV] at h;rename_i c;obtain⟨ce,as,tys⟩:=c;cases ce<;>simp at h;obtain⟨rfl,rfl⟩:=h;exact⟨tys,rfl⟩
theorem wK{A:Nat->Prop}{R:Value->D->Prop}{rd:X->D}:∀{xs:List Operand}{ys:List X},dH ds tr xs ys=true->(∀y,y∈ys->∀x,aA ds tr x y=true->bL w A R (a.eval x) (rd y))->cW rd ys=true ->
  xs.length=(dL rd ys).length/\∀(j:Nat)(d:D),(dL rd ys)[j]?=some d->Pl w A R ((xs.map a.eval).getD j undef) d
 | [],[],_,_,_=>by simp[dL]
 | [],_::_,h,_,_=>by simp[dH] at h
 | _::_,[],h,_,_=>by simp[dH] at h
 | x::xs,y::ys,hx,hr,hg=>by
  simp only[dH,Bool.and_eq_true] at hx;simp only[cW,Bool.and_eq_true] at hg;obtain⟨h1,h2⟩:=wK hx.2 (fun y hy=>hr y (by simp[hy])) hg.2;refine⟨by simp[dL,h1],fun j d hj=>?_⟩;cases j with
  | zero =>
   simp[dL] at hj;subst hj;exact(hr y (by simp) x hx.1).1 hg.1
  | succ j=>simpa using h2 j d (by simpa[dL] using hj)
theorem Ay{f:FuncId}{x:Operand}{xs:List Operand}{ts:Array TypeId}{cs:Array Value}(ho:o.op=.call { callee:=.value x,args:=xs.toArray,argTypes:=ts })(hx:a.eval x=.func (.func f) #[] cs)(hb:fy P f=true) :
  (execOp a.eval o).run P w=.ok (.enter f ((xs.map a.eval).toArray++cs)) w:=by
 unfold fy at hb;cases hf:P.funcs[f]? with
 | none=>simp[hf] at hb
 | some fn =>
  simp[hf] at hb;obtain⟨h1,h2⟩:=hb;cases hbody:fn.body with
  | none=>simp[hbody] at h1
  | some c=>simp[execOp,ho,resolve,hx,Deferred.ofValue,invoke,callFunc,hf,h2,hbody]
theorem LC[Mode]{ct:Nat->D}(h:Hp cx ct vl fp G w){f:FuncId}{vs:Array Value}{dl l:List D}(hvs:vs.size=dl.length)(hds:∀(j:Nat)(d:D),dl[j]?=some d->Pl w (ae cx fp G w) (aa w ct vl) (vs.getD j undef) d)
  (hl:dt (aW ct 4) dl=some l) {res:D} (hR:aD P f ((stripL l).map .v) res) (hn:res.bp=true) :
  Calls P f vs w fun e w'=>∃(v:Value)(F:Nat->Prop),e=.returned v/\Ext w w'/\(∀b,F b->w.heap.size<=b/\b<w'.heap.size)/\az w' (gu (ae cx fp G w) w w' F) (aa w ct vl) v F (aJ res)/\((aJ res).isObj=false->∀b,¬F b):=by
 have hlive:∀b,ae cx fp G w b->live w b:=fun b hb=>hb.1.1
 have hok:∀j,∃F,(∀b,F b->live w b)/\az w (ae cx fp G w) (aa w ct vl) (vl j) F (ct j):=fun j=>⟨fp j,fun b hb=>(h.lt j b hb).1,h.ok j⟩
 obtain⟨hm1,hm2⟩:=fG hl;refine(hR w (live w) vs (fun _ _=>False) (h.gl.mono hlive fun _ _=>rfl) (fun _ h=>h) (by rw[List.length_map,qB,hm1];exact hvs) (fun j x hj=>?_) (fun _ _ _ _ h=>h.elim) (fun _ _ h=>h.elim)).mono ?_
 ·rw[List.getElem?_map,Option.map_eq_some_iff] at hj
  obtain⟨d,hj,rfl⟩:=hj;obtain⟨y,hy,rfl⟩:=oF hj;obtain⟨c,hc,hg⟩:=hm2 j y hy;exact⟨(AX hlive (fun _ _=>rfl) hok 4 (hds j c hc) hg).strip,fun _ h=>h⟩
 ·rintro e w' ⟨v,F,Fs',rfl,hsz,hown,hpost,hF,hFs',_,hsame,hos,htape,hout⟩
  have hext:Ext w w':=⟨hsz,fun b hb=>hsame b hb (fun _ h=>h),hos,htape,hout⟩;have hFn:∀b,F b->w.heap.size<=b/\b<w'.heap.size:=fun b hb=>⟨(hF b hb).2.1.resolve_right fun⟨_,h⟩=>h,(hF b hb).1⟩
  have hown':af w' (gu (ae cx fp G w) w w' F) v res F:=pY hown hn;obtain⟨h1,h2⟩:=kG (R:=aa w ct vl) hown';by_cases ho:(aJ res).isObj=true
  ·exact⟨v,F,rfl,hext,hFn,h1,fun hh=>by rw[ho] at hh;cases hh⟩
  ·have ho':(aJ res).isObj=false:=by simpa using ho
   refine⟨v,fun _=>False,rfl,hext,fun _ h=>h.elim,?_,fun _ _ h=>h⟩;exact(h2 ho').mono (Q:=fun _=>True) (fun b hb=>hb.imp id fun hh=>⟨hh.1,hh.2.1,fun h=>h⟩) (fun _ _=>rfl) (fun _ _=>rfl) (fun _ h=>h) (aV (fun _=>trivial) _) fun v d _ hr=>hr
theorem Ha[Mode]{st:St}(h:Hp cx st.cont vl fp G w)(hw:st.wf){x0:X}{r:List X}(hk:aQ P ds tr o (.dyn x0 r)=true)
  (hx:∀y,y∈x0::r->∀x,aA ds tr x y=true->bL w (ae cx fp G w) (aa w st.cont vl) (a.eval x) (st.rd y)) {g:Option Bool} (hg:g≠some false) {K:St->Prop}
  (hv:@gX _ P (st.rd x0).core (dL st.rd r) (cW st.rd (x0::r)) g ⟨K⟩ st) {K':Act->World->Prop}
  (hK':∀(v:Value)(w':World)(st':St),K st'->(∃fp' G',Hp cx st'.cont (aj vl (1000+st.n) v) fp' G' w')->st'.wf->st'.n=st.n+1->(∀i,i<1000->st.cont i=.dead->st'.cont i=.dead)->K' (a.put o.dst v) w'):o.wp P a w K' Q:=by
 simp only[aQ] at hk;split at hk<;>try(cases hk;done)
 rename_i x' as hop;obtain⟨ts,ho⟩:=Lc hop;simp only[Bool.and_eq_true] at hk;have hp0:=hx x0 (by simp) x' hk.1;generalize hrd:st.rd x0=d0 at hv hp0
 obtain⟨gd,hv⟩:∃gd,@jB _ P d0.core (dL st.rd r) (cW st.rd (x0::r)) gd ⟨K⟩ st:=by
  cases g with
  | none=>exact⟨false,hv⟩
  | some b=>cases b with
   | false=>exact absurd rfl hg
   | true=>exact⟨true,hv⟩
 unfold jB at hv;split at hv
 ·rename_i f caps hcore
  have hgt:cW st.rd (x0::r)=true:=hv.1;have hg2:(d0.gate&&cW st.rd r)=true:=by simpa only[cW,hrd] using hgt
  simp only[Bool.and_eq_true] at hg2;have hpf:=hp0.1 hg2.1;rw[hcore] at hpf;obtain⟨cs,hcv,hcs,hcp⟩:=lu hpf;obtain⟨h1,h2⟩:=wK (rd:=st.rd) hk.2 (fun y hy=>hx y (by simp[hy])) hg2.2;have hsz:((as.map a.eval).toArray++cs).size=(dL st.rd r++caps).length:=by simp[h1,hcs]
  have hpls:∀(j:Nat)(d:D),(dL st.rd r++caps)[j]?=some d->Pl w (ae cx fp G w) (aa w st.cont vl) (((as.map a.eval).toArray++cs).getD j undef) d:=fun j d hj=>by
   by_cases hjl:j<(dL st.rd r).length
   ·rw[List.getElem?_append_left hjl] at hj
    have:=h2 j d hj;rw[Array.getD_eq_getD_getElem?,Array.getElem?_append_left (by simp;omega)];simpa using this
   ·rw[List.getElem?_append_right (by omega)] at hj
    have:=hcp _ d hj;rw[Array.getD_eq_getD_getElem?,Array.getElem?_append_right (by simp;omega)];have e:j-(as.map a.eval).toArray.size=j-(dL st.rd r).length:=by simp[h1]
    rw[e,<-Array.getD_eq_getD_getElem?];exact this
  rcases hv.2 with hv2 | ⟨rfl,l,res,hl,hb,hR,hn,hK2⟩
  rotate_left
  ·unfold Oper.wp
   rw[Ay ho hcv hb,Oper.upon_enter];refine(LC h hsz hpls hl hR hn).mono ?_;rintro e w' ⟨v,F,rfl,hext,hF,hc,hemp⟩;have hcd:st.cont (1000+st.n)=.dead:=St.bZ (by simp only[St.in,not_or,not_and];omega);have h1:=h.add hext (k:=1000+st.n) (by rw[hcd];rfl) hF hc hemp;rw[<-St.cm hw] at h1;exact hK' v w' _ hK2 ⟨_,_,h1⟩ (St.dW hw _) rfl fun i hi hd=>by rw[St.cm hw,av _ _ (by omega)];exact hd
  obtain⟨hb,hcalls⟩:=Hl (vs:=(as.map a.eval).toArray++cs) (ds:=dL st.rd r++caps) h hw hsz hpls hv2;unfold Oper.wp;rw[Ay ho hcv hb,Oper.upon_enter];refine hcalls.mono ?_;rintro e w' ⟨v,c,st',rfl,⟨q0,q1⟩,⟨fp2,F,q2,q2',q2''⟩,q3,q4,q5⟩
  have hcc:az w' (ae cx fp2 F w') (aa w' st'.cont vl) v F (if gd=true then .when true c else c)/\((if gd=true then D.when true c else c).isObj=false->∀b,¬F b):=by
   cases gd with
   | false=>exact⟨q2',q2''⟩
   | true =>
    have hF:=q2'' (Ck (q0 rfl));exact⟨⟨fun _=>(jh (q0 rfl)).1 q2',fun h=>by cases h⟩,fun _=>hF⟩
  obtain⟨r1,r2,r3,r4⟩:=Dq q2 q3 q4 hcc.1 hcc.2;exact hK' v w' _ q1 r1 r2 r3 fun i hi hd=>r4 i hi (q5 i hi hd)
 ·exact hv.elim
end
end Go.D3
namespace Go.D3
open Go
section
variable{P:Program}{cx:Ctx}{vl:Nat->Value}{fp:Nat->Nat->Prop}{G:Nat->Prop}{w:World}
theorem NT(w:World)(g k:Nat)(cs:Array Value)(h:k≠g):(w.setRow g cs).heap[k]?=w.heap[k]?:=by
 simp[World.setRow,Array.getElem?_modify,Ne.symm h]
theorem setRow_size(w:World)(g:Nat)(cs:Array Value):(w.setRow g cs).heap.size=w.heap.size:=by simp[World.setRow]
theorem xi{x:D}(h:x.bX=true):x.cells=[x]:=by cases x<;>first | rfl | cases h
theorem ES{A A':Nat->Prop}{v:Value}{x:D}{F:Nat->Prop}{w':World}(h:af w A v x F)(hx:x.bX=true):af w' A' v x (fun _=>False):=by
 cases h<;>first | cases hx | skip
 ·exact .int ‹_›
 ·exact .bool
 ·exact .str ‹_›
theorem ri{L:List D}(h:∀e∈L,e.bX=true)(j:Nat):cellAt L 1 j=L[j]?:=by
 unfold cellAt;rw[Nat.div_one,Nat.mod_one];cases hq:L[j]? with
 | none=>rfl
 | some d=>simp[xi (h d (List.mem_of_getElem? hq))]
theorem Ly{A A':Nat->Prop}{z:D}{L M:List D}{b off cap:Nat}{n:Nat}{F:Nat->Prop}(h:af w A (.slice (some ⟨b,off,none⟩) n cap) (.slice z L) F)(hL:∀e∈L,e.bX=true)(hM:∀e∈M,e.bX=true)(hz1:z.cells.length=1)
  {news:List Value} (hn:news.length=min M.length L.length) (hnew:∀j x,j<news.length->M[j]?=some x->af w A' (news.getD j undef) x (fun _=>False)) :
  n=L.length/\F b/\∃cs e fz,w.heap[b]?=some (.cells cs e fz)/\(fz.2<=fz.1\/cs.size<=fz.1)/\off+news.length<=cs.size /\
   af (w.setRow b (dV cs off news)) A' (.slice (some ⟨b,off,none⟩) n cap) (.slice z (M.take L.length++L.drop M.length)) (fun c=>c=b):=by
 cases h with
 | @slice _ _ _ _ _ sz cs e fz _ Fs hb hroom hc hm hz hzz hsz hr hF hfs hdis =>
  have hs1:sz=1:=by omega
  subst hs1;rw[Nat.mul_one] at hroom;refine⟨rfl,hF,cs,e,fz,hb,hroom.2,by omega,?_⟩;have hlen:(M.take L.length++L.drop M.length).length=L.length:=by simp;omega
  have hscal:∀x∈M.take L.length++L.drop M.length,x.bX=true:=fun x hx=>by
   rcases List.mem_append.1 hx with hx | hx
   ·exact hM x (List.mem_of_mem_take hx)
   ·exact hL x (List.mem_of_mem_drop hx)
  have key:=af.slice (w:=w.setRow b (dV cs off news)) (A:=A') (z:=z) (L:=M.take L.length++L.drop M.length) (b:=b) (off:=off) (cap:=cap) (sz:=1) (cs:=dV cs off news) (e:=e) (F:=fun c=>c=b)
   (fun _ _=>False) (setRow_heap w b cs _ e fz hb) (by rw[oD];omega) (by omega) hm (by omega) hzz (fun x hx=>by rw[xi (hscal x hx)];rfl) (fun j x hx=>?_) rfl (fun _ _ h=>h.elim) (fun _ _ _ _ h=>h.elim)
  ·rw[hlen] at key;exact key
  rw[ri hscal] at hx;have hjl:=(List.getElem?_eq_some_iff.1 hx).1;rw[hlen] at hjl
  have hget:(dV cs off news).getD (off+j) undef=if j<news.length then news.getD j undef else cs.getD (off+j) undef:=by
   rw[oC _ _ _ _ (by omega)];by_cases hj:j<news.length
   ·rw[if_pos hj,if_pos (by omega),show off+j-off=j by omega]
   ·rw[if_neg hj,if_neg (by omega)]
  rw[hget];by_cases hj:j<news.length
  ·rw[if_pos hj]
   rw[List.getElem?_append_left (by simp;omega),List.getElem?_take_of_lt (by omega)] at hx;exact ES (hnew j x hj hx) (hM x (List.mem_of_getElem? hx))
  ·rw[if_neg hj]
   rw[List.getElem?_append_right (by simp;omega),List.getElem?_drop] at hx;have e1:M.length+(j-(M.take L.length).length)=j:=by simp;omega
   rw[e1] at hx;exact ES (hr j x (by rw[ri hL];exact hx)) (hL x (List.mem_of_getElem? hx))
theorem GS[Mode]{d s:D}{K:St->Prop}{st:St}(hK:@px d s ⟨K⟩ st)(h:Hp cx st.cont vl fp G w)(hw:st.wf){vd vs:Value}(hd:Pl w (ae cx fp G w) (aa w st.cont vl) vd d)(hs:Pl w (ae cx fp G w) (aa w st.cont vl) vs s)
  {t t' ty e:TypeId} (ht:P.underlying t=some (.slice e)) (hsz:cC P e 1=true) :
  ∃v w',(Builtin.copy_ #[t,t'] ty #[vd,vs]).run P w=.ok v w'/\∃st',K st'/\(∃fp' G',Hp cx st'.cont (aj vl (1000+st.n) v) fp' G' w')/\st'.wf/\st'.n=st.n+1/\∀i,i<1000->st.cont i=.dead->st'.cont i=.dead:=by
 have hinfo:(P.info? e).map (·.size)=some 1:=by
  obtain⟨i,h1,h2⟩:=tv hsz;rw[h1];simp[h2]
 unfold px at hK;split at hK
 case h_2=>exact hK.elim
 rename_i k q p;obtain⟨M,hM,hMs,hv⟩:=hK
 have hview:∃z,Rd w (live w) vs (.slice z M):=by
  have els:∀{d:D},Rd w (live w) vs d->d.gk=some M->∃z,Rd w (live w) vs (.slice z M):=by
   intro d hd he;cases d<;>simp only[D.gk,reduceCtorEq,Option.some.injEq] at he
   ·subst he;exact⟨_,hd⟩
   ·subst he;cases hd;exact⟨.dead,.nil⟩
  unfold lH at hM;split at hM
  ·rename_i k p
   have hr:=dh hs;rw[Option.bind_eq_some_iff] at hM;obtain⟨c,hc,he⟩:=hM;obtain⟨_,rfl⟩:=rY hc;rcases j7 (h.ok k) hr with⟨z,l,hck,rfl,hvl⟩ | ⟨F',hown,hFF,_,_⟩
   ·rw[hck] at he;cases he
   ·exact els (Cz (fun b hb=>hb.1.1) (fun b hb=>(h.lt k b (hFF b hb)).1) hown) he
  ·rename_i hno
   exact els ((bK hs (by intro k p hh;exact hno k p hh) (by rintro k p rfl;cases hM) (by rintro f c rfl;cases hM) (by rintro l rfl;cases hM) (by rintro l rfl;cases hM) (by rintro k p n rfl;cases hM)).mono (fun b hb=>hb.1.1) fun _ _=>rfl) hM
 obtain⟨zM,hrM⟩:=hview;have hr0:=dh hd;have hself:=fun i k s p hi=>qR hv (i:=i) (k:=k) (s:=s) (p:=p) hi
 obtain⟨l',st1,fp1,G1,Fs,⟨z,L,rfl,⟨hz1,hLs⟩,hK⟩,h2,h3,h4,h5,h6⟩:=gE (A:=ae cx fp G w) (vs:=#[vd]) _ hv h hw (fun _ h=>h) (fun j y hj=>by
  cases j with
  | zero=>simp at hj;subst hj;exact hd
  | succ j=>simp at hj)
 have ho:af w (ae cx fp1 G1 w) vd (.slice z L) (Fs 0):=(h4 0 _ rfl).1;have hlive:∀b,Fs 0 b->b<w.heap.size:=fun b hb=>(h2.hp.bd b (h2.hF b ⟨0,hb⟩).1).1
 have hrun:∃w' F2,(Builtin.copy_ #[t,t'] ty #[vd,vs]).run P w=.ok (.int .i64 (min M.length L.length:Nat)) w'/\w'.heap.size=w.heap.size/\(∀b,F2 b->Fs 0 b)/\(∀A,af w' A vd (.slice z (M.take L.length++L.drop M.length)) F2) /\
   (∀b,¬Fs 0 b->w'.heap[b]?=w.heap[b]?)/\w'.os=w.os/\w'.tape=w.tape/\bQ w w':=by
  obtain⟨pS,cS,e2,hcS,hmS,hSb⟩:=wI hrM;obtain⟨pD,cD,e1,hcD,hmD,hDb⟩:=sI ho;by_cases h0:min M.length L.length=0
  ·have hr:=run_copy_none (P:=P) w t t' ty e pD pS L.length cD M.length cS ht hinfo h0
   have hLL:M.take L.length++L.drop M.length=L:=by
    rcases Nat.eq_zero_or_pos M.length with hm | hm
    ·have:M=[]:=List.length_eq_zero_iff.1 hm
     subst this;simp
    ·have:L=[]:=List.length_eq_zero_iff.1 (by omega)
     subst this;simp
   have hnv:dA L=true:=by
    clear hself hv hK h2 h3 h4 h5 h6 ho hlive hLL hr e1 hcD hDb h0;induction L with
    | nil=>rfl
    | cons a l ih =>
     have h1:=hLs a (by simp);simp only[dA,ih (fun e he=>hLs e (by simp[he])),Bool.and_true];cases a<;>first | rfl | cases h1
   refine⟨w,Fs 0,?_,rfl,fun _ h=>h,fun A=>?_,fun _ _=>rfl,rfl,rfl,.of rfl rfl⟩
   ·rw[e1,e2,hr,h0];rfl
   ·rw[hLL]
    exact pY ho hnv
  obtain⟨b,off,rfl⟩:=hDb (fun hh=>by rw[hh] at h0;simp at h0);obtain⟨bS,offS,rfl,-⟩:=hSb (fun hh=>by rw[hh] at h0;simp at h0)
  obtain⟨news,⟨hn1,hn2⟩,hn3⟩:∃news:List Value,(news.length=M.length/\∀j v,news[j]?=some v->w.cell? ((⟨bS,offS,none⟩:Addr).add j)=some v)/\∀j x,M[j]?=some x->∀A,af w A (news.getD j undef) x (fun _=>False):=by
   rw[e2] at hrM;generalize hml:M.length=n0 at hrM;cases hrM with
   | empty=>simp at h0
   | @slice _ _ _ _ _ sz hA hc hm hz hzz hsz vs' hcells hr =>
    have hs1:sz=1:=by
     have hM0 : 0<M.length:=by omega
     have:=hsz M[0] (List.getElem_mem hM0);rw[xi (hMs _ (List.getElem_mem hM0))] at this;exact this.symm
    subst hs1;refine⟨(List.range M.length).map vs',⟨by simp,fun j v hj=>?_⟩,fun j x hx A=>?_⟩
    ·rw[List.getElem?_map,Option.map_eq_some_iff] at hj
     obtain⟨i,hi,rfl⟩:=hj;obtain⟨hi1,hi2⟩:=List.getElem?_eq_some_iff.1 hi;simp at hi1 hi2;subst hi2;rw[Addr.add_lit];exact hcells j M[j] (by rw[ri hMs,List.getElem?_eq_getElem hi1])
    ·have hj:=(List.getElem?_eq_some_iff.1 hx).1
     have e3:((List.range M.length).map vs').getD j undef=vs' j:=by simp[hj]
     rw[e3];have hrd:=hr j x (by rw[ri hMs];exact hx);have hxs:=hMs x (List.mem_of_getElem? hx);generalize vs' j=u at hrd|-
     cases hrd<;>first | cases hxs | skip
     ·exact .int ‹_›
     ·exact .bool
     ·exact .str ‹_›
  have hone:∀v∈news.take (min M.length L.length),v.oneCell'=true:=fun v hv=>by
   obtain⟨j,hj,rfl⟩:=List.getElem_of_mem (List.mem_of_mem_take hv);have:=hn3 j M[j] (List.getElem?_eq_getElem (by omega)) (fun _=>True);rw[List.getD_eq_getElem?_getD,List.getElem?_eq_getElem hj] at this;have hxs:=hMs M[j] (List.getElem_mem (by omega));generalize M[j]=x at this hxs;simp only[Option.getD_some] at this;generalize news[j]=u at this|-
   cases this<;>first | rfl | cases hxs
  rw[e1] at ho
  obtain⟨-,hFb,cs,et,fz,hb,hfz,hfit,hown⟩:=Ly (A':=fun _=>False) (M:=M) ho hLs hMs hz1 (news:=news.take (min M.length L.length)) (by simp;omega) (fun j x hj hx=>by
   have:=hn3 j x hx (fun _=>False);simp only[List.length_take] at hj
   have e3:(news.take (min M.length L.length)).getD j undef=news.getD j undef:=by
    rw[List.getD_eq_getElem?_getD,List.getElem?_take_of_lt (by omega),<-List.getD_eq_getElem?_getD]
   rw[e3];exact this)
  have hnl:(news.take (min M.length L.length)).length=min M.length L.length:=by rw[List.length_take,hn1];exact Nat.min_eq_left (Nat.min_le_left _ _)
  have hr:=run_copy_cells (P:=P) w t t' ty e b off L.length cD ⟨bS,offS,none⟩ M.length cS (news.take (min M.length L.length)) ht hinfo (by rw[List.length_take,hn1];exact Nat.min_eq_left (Nat.min_le_left _ _)) (fun j v hj=>hn2 j v (by
   rw[List.getElem?_take] at hj;split at hj
   ·exact hj
   ·cases hj)) (fun j hj=>by rw[cN hb (by omega)];rfl) (fun j hj=>by simp[World.frozen?,hb];omega) hone
  rw[xr b et fz _ off cs w hb] at hr;refine⟨_,fun c=>c=b,by rw[e1,e2,hr];exact congrArg (fun n:Nat=>Result.ok (goInt (n:Int)) _) hnl,setRow_size _ _ _,fun c hc=>by rw[hc];exact hFb,fun A=>?_,fun c hc=>NT _ _ _ _ (by rintro rfl;exact hc hFb),rfl,rfl,.of rfl rfl⟩;rw[e1];exact hown.mono (fun _ h=>h.elim) (fun _ _=>rfl) (fun _ _=>rfl) fun _ h=>h
 obtain⟨w',F2,hr,hsz',hF2,hown,hsame,hos,htape,hout⟩:=hrun
 obtain⟨st',k1,k2,k3,k4,k5⟩:=sJ (vs:=fun _=>vd) (Fs2:=fun j b=>j=0/\F2 b) (F1:=fun _=>False) (F2:=F2) (res:=.int .i64 (min M.length L.length:Nat)) (v:=.int .i64 (min M.length L.length:Nat)) (w':=w') h2 hK
  (fun j k' s' p' hj=>by
    cases j with
    | zero =>
     have hs:=hself 0 k' s' p' hj;simp at hj;obtain⟨rfl,rfl,rfl⟩:=hj;exact hr0.bu (h6 _ hs)
    | succ j=>simp at hj)
  (by omega) (.int (mi (by
    obtain⟨_,_,_,hcD,hmD,_⟩:=sI ho
    omega))) (fun j z hj=>by
    cases j with
    | zero=>simp at hj;subst hj;exact af.mono (hown _) (fun _ h=>h) (fun _ _=>rfl) (fun _ _=>rfl) fun b hb=>⟨rfl,hb⟩
    | succ j=>simp at hj)
  (fun j b hb=>hb.2) (fun i j b hij hi hj=>hij (hi.1.trans hj.1.symm)) (fun b hb=>hb.elim) (fun b hb=>⟨by rw[hsz'];exact hlive b (hF2 b hb),.inr ⟨0,hF2 b hb⟩⟩) (fun b _ hn=>hsame b fun hh=>hn ⟨0,hh⟩) hos htape hout
 exact⟨_,w',hr,st',k1,k2,k3,k4,k5⟩
end
end Go.D3
namespace Go.D3
open Go
section
variable{P:Program}{cx:Ctx}{vl:Nat->Value}{fp:Nat->Nat->Prop}{G:Nat->Prop}{w:World}
theorem BW{t kt et:TypeId}{d:TypeDesc}{kv xv:Value}{k x:D}{ks vs:List D}{r clock:Nat}{es:Array MapEntry}{f:Option Nat}(hm:P.underlying t=some (.map kt et))(hu:P.underlying kt=some d)(hd:kindOk d k)(hk:Sc kv k)(hx:Sc xv x)
  (hb:w.heap[r]?=some (.map es clock)) (hE:lU es ks vs) (hf:eu k ks=some f) (hlen:ks.length<maxLen) :
  ∃es' clock',(Instr.mapUpdate t (.map (some r)) kv xv).run P w=.ok () { w with heap:=w.heap.setIfInBounds r (.map es' clock') }/\lU es' (b6 k x ks vs f).1 (b6 k x ks vs f).2:=by
 obtain⟨⟨l1,l2,l3⟩,s1,s2⟩:=hE;obtain⟨f1,f2⟩:=uU hd hk es.toList ks 0 (by simpa using l1) (fun j x y hj hy=>s1 j x y (by simpa using hj) hy) hf;cases f with
 | none =>
  refine⟨es.push { key:=kv,val:=xv,born:=clock },clock+1,?_,⟨by simp[b6,l1],by simp[b6,l2],by simp[b6];omega⟩,fun j e y hj hy=>?_,fun j e y hj hy=>?_⟩
  ·unfold Instr.mapUpdate
   simp only[Sem.run_bind,run_underlying hm,Result.andThen_ok,MapKept.run_getObj_map hb,pt hu hd hk,MapKept.run_findKey hu f1,Option.map_none,MapKept.run_setObj_map _ hb]
  ·simp only[b6] at hy
   rw[Array.getElem?_push] at hj;split at hj
   ·rename_i hjs
    injection hj with hj
    subst hj;subst hjs;rw[l1,List.getElem?_append_right (Nat.le_refl _)] at hy;simp at hy;subst hy;exact hk
   ·have hlt:=(Array.getElem?_eq_some_iff.1 hj).1
    rw[List.getElem?_append_left (by omega)] at hy;exact s1 j e y hj hy
  ·simp only[b6] at hy
   rw[Array.getElem?_push] at hj;split at hj
   ·rename_i hjs
    injection hj with hj
    subst hj;subst hjs;rw[List.getElem?_append_right (by omega)] at hy;simp[l1,l2] at hy;subst hy;exact hx
   ·have hlt:=(Array.getElem?_eq_some_iff.1 hj).1
    rw[List.getElem?_append_left (by omega)] at hy;exact s2 j e y hj hy
 | some i =>
  obtain⟨e0,e1,e2,e3⟩:=f2 i rfl;have e1':es[i]?=some e0:=by simpa using e1
  have hsame:(Instr.keyThatStays (((es[i]?).map (·.key)).getD kv) kv).run P w=.ok kv w:=by
   rw[e1'];simp only[Option.map_some,Option.getD_some,e2]
   have:Instr.sameBits 10000 kv kv=true:=by
    cases d<;>cases k<;>try exact hd.elim
    all_goals cases hk
    all_goals simp[Instr.sameBits,MapKept.bytes_beq]
   simp[Instr.keyThatStays,this]
  have hget:∀j e,(es.modify i fun e=>{ e with key:=kv,val:=xv })[j]?=some e->∃e',es[j]?=some e'/\e.key=e'.key/\(e.val=if j=i then xv else e'.val):=by
   intro j e hj;rw[Array.getElem?_modify] at hj;split at hj
   ·rename_i hij
    subst hij;rw[e1'] at hj;simp only[Option.map_some,Option.some.injEq] at hj;subst hj;exact⟨e0,e1',e2.symm,by simp⟩
   ·rename_i hij
    exact⟨e,hj,rfl,by rw[if_neg (Ne.symm hij)]⟩
  refine⟨es.modify i fun e=>{ e with key:=kv,val:=xv },clock,?_,⟨by simp[b6,l1],by simp[b6,l2],by simpa[b6] using l3⟩,fun j e y hj hy=>?_,fun j e y hj hy=>?_⟩
  ·unfold Instr.mapUpdate
   simp only[Sem.run_bind,run_underlying hm,Result.andThen_ok,MapKept.run_getObj_map hb,pt hu hd hk,MapKept.run_findKey hu f1,Option.map_some,Nat.zero_add,hsame,MapKept.run_setObj_map _ hb]
  ·obtain⟨e',h1,h2,_⟩:=hget j e hj
   rw[h2];exact s1 j e' y h1 (by simpa[b6] using hy)
  ·obtain⟨e',h1,_,h2⟩:=hget j e hj
   simp only[b6] at hy;rw[h2];by_cases hji:j=i
   ·subst hji
    have hlt:=(Array.getElem?_eq_some_iff.1 h1).1;rw[List.getElem?_set_self (by omega)] at hy;injection hy with hy;subst hy
    rw[if_pos rfl];exact hx
   ·rw[List.getElem?_set_ne (Ne.symm hji)] at hy
    rw[if_neg hji];exact s2 j e' y h1 hy
theorem CA{A:Nat->Prop}{v:Value}{ks vs:List D}{F:Nat->Prop}(h:af w A v (.mp ks vs) F):∃r es clock,v=.map (some r)/\F r/\w.heap[r]?=some (.map es clock)/\lU es ks vs:=by
 cases h;exact⟨_,_,_,rfl,‹_›,‹_›,‹_›⟩
theorem Hy{α:Type}{l:List α}(h:l.length=1):∃x,l=[x]:=by
 match l,h with
 | [x],_=>exact⟨x,rfl⟩
theorem Lz{A:Nat->Prop}{v:Value}{s:List UInt8}{p:Nat}{F:Nat->Prop}(h:af w A v (.bE s p) F):∃r,v=.pointer (some ⟨r,0,none⟩)/\F r/\w.heap[r]?=some (.stringIter ⟨s.toArray⟩ p)/\s.length<=maxLen:=by
 cases h;exact⟨_,rfl,‹_›,‹_›,‹_›⟩
theorem JZ[Mode]{j:Nat}{K:St->Prop}{st:St}(hK:@mE j ⟨K⟩ st)(h:Hp cx st.cont vl fp G w)(hw:st.wf){ty:TypeId} :
  ∃w' v,(Instr.next (vl j) true ty).run P w=.ok v w'/\∃st',K st'/\(∃fp' G',Hp cx st'.cont (aj vl (1000+st.n) v) fp' G' w')/\st'.wf/\st'.n=st.n+1/\∀i,i<1000->st.cont i=.dead->st'.cont i=.dead:=by
 unfold mE at hK;cases ho:(st.cont j).pO with
 | none=>rw[ho] at hK;exact hK.elim
 | some e =>
 rw[ho] at hK;simp only[b7] at hK;obtain⟨s,p⟩:=e
 have hc:st.cont j=.o (.bE s p):=by
  generalize st.cont j=c at ho;cases c<;>simp only[D.pO,reduceCtorEq] at ho;rename_i y;cases y<;>simp only[reduceCtorEq,Option.some.injEq,Prod.mk.injEq] at ho;obtain⟨rfl,rfl⟩:=ho;rfl
 have hown:=h.ok j;rw[hc] at hown;have hown:af w (ae cx fp G w) (vl j) (.bE s p) (fp j):=hown;obtain⟨r,hv,hF,hb,hs⟩:=Lz hown
 have hin:st.in j:=by
  by_cases hin:st.in j
  ·exact hin
  ·rw[St.bZ hin] at hc;cases hc
 by_cases hp:p<s.length
 ·have hK:=hK.1 hp
  simp only at hK;obtain⟨hh1,hh2⟩:=MapKept.heap_set (o':=.stringIter ⟨s.toArray⟩ (p+(gO s p).2)) hb
  have hrun:(Instr.next (vl j) true ty).run P w=.ok (.tuple #[.bool true,.int .i64 p,.int .i32 (gO s p).1]) { w with heap:=w.heap.setIfInBounds r (.stringIter ⟨s.toArray⟩ (p+(gO s p).2)) }:=by
   rw[hv];have hp':p<(ByteArray.mk s.toArray).size:=by rw[show(ByteArray.mk s.toArray).size=s.toArray.size from rfl,List.size_toArray];exact hp
   simp only[Instr.next,getObj,setObj,Sem.run_bind,Sem.run,hb,Result.andThen,hp',if_true];simp[goInt,gO]
  have h1:=(h.change (k:=j) (c':=.o (.bE s (p+(gO s p).2))) (F':=fp j) (G':=G) (w':={ w with heap:=w.heap.setIfInBounds r (.stringIter ⟨s.toArray⟩ (p+(gO s p).2)) }) (fun _=>True) rfl
    (by rw[hv];exact af.bE hF hh1 hs) (fun i _=>aV (fun _=>trivial) _) (aV (fun _=>trivial) _) (fun b hb=>.inl hb) (fun b hb=>.inr hb) (h.bh j)
    (by simp) (fun b hbn=>hh2 b (fun e=>hbn (by rw[e];exact hF))) rfl rfl (.of rfl rfl)
    (fun p _ hp=>by
      rw[hc] at hp|-
      cases p with
      | nil=>exact⟨⟨trivial,fun hl=>by cases hl⟩,rfl⟩
      | cons s p=>exact hp.1.1.elim)
    (fun p _ hp=>by
      rw[hc] at hp|-
      cases p with
      | nil=>exact⟨trivial,rfl⟩
      | cons s p=>exact hp.1.elim)).1
  rw[<-St.c7 hw hin] at h1;have hwf:=St.dM hw j (.o (.bE s (p+(gO s p).2)));have hdead:(st.put j (.o (.bE s (p+(gO s p).2)))).cont (1000+st.n)=.dead:=St.bZ (by simp only[St.in,St.ew,not_or,not_and];omega);have hnn:(st.put j (.o (.bE s (p+(gO s p).2)))).n=st.n:=St.ew _ _ _;refine⟨_,_,hrun,_,hK,⟨aj (aj fp j (fp j)) (1000+st.n) fun _=>False,G,?_⟩,St.dW hwf _,by rw[<-hnn];rfl,fun i hi hdd=>?_⟩
  ·rw[St.cm hwf,hnn]
   refine h1.put (by rw[hdead];rfl) (F:=fun _=>False) (show Pl _ _ _ _ _ from ?_) (fun _ h=>h.elim) (fun _ h=>h) (fun _ h=>h.elim) (fun _ _ h=>h);refine .rd (.au rfl fun j x hj=>?_)
   match j,hj with
   | 0,hj=>simp at hj;subst hj;exact .bool
   | 1,hj=>simp at hj;subst hj;exact .int (mi (n:=p) (by omega))
   | 2,hj=>simp at hj;subst hj;exact .int ⟨by simp[IntKind.min,IntKind.signed,IntKind.bits],by have:=decode_le ⟨s.toArray⟩ p;simp only[IntKind.max,IntKind.signed,IntKind.bits,gO];omega⟩
   | j+3,hj=>simp at hj
  ·rw[St.cm hwf,hnn,av _ _ (by omega),St.c7 hw hin]
   by_cases hij:i=j
   ·subst hij;rw[hc] at hdd;cases hdd
   ·rw[av _ _ hij];exact hdd
 ·have hK:=hK.2 (Nat.le_of_not_lt hp)
  have hrun:(Instr.next (vl j) true ty).run P w=.ok (.tuple #[.bool false]) w:=by
   rw[hv];have hp':¬p<(ByteArray.mk s.toArray).size:=by rw[show(ByteArray.mk s.toArray).size=s.toArray.size from rfl,List.size_toArray];exact hp
   simp[Instr.next,getObj,Sem.run,hb,Result.andThen,hp']
  have hdd:st.cont (1000+st.n)=.dead:=St.bZ (by simp only[St.in,not_or,not_and];omega);refine⟨_,_,hrun,_,hK,⟨aj fp (1000+st.n) fun _=>False,G,?_⟩,St.dW hw _,rfl,fun i hi hd=>by rw[St.cm hw,av _ _ (by omega)];exact hd⟩;rw[St.cm hw];refine h.put (by rw[hdd];rfl) (F:=fun _=>False) (show Pl _ _ _ _ _ from ?_) (fun _ h=>h.elim) (fun _ h=>h) (fun _ h=>h.elim) (fun _ _ h=>h);refine .rd (.au rfl fun j x hj=>?_)
  match j,hj with
  | 0,hj=>simp at hj;subst hj;exact .bool
  | j+1,hj=>simp at hj
theorem JP[Mode]{kk:Nat}{dm k x:D}{K:St->Prop}{st:St}(hK:@mB kk dm k x ⟨K⟩ st)(h:Hp cx st.cont vl fp G w)(hw:st.wf){vm kv xv:Value}(hm:Pl w (ae cx fp G w) (aa w st.cont vl) vm dm)(hk:Pl w (ae cx fp G w) (aa w st.cont vl) kv k)
  (hx:Pl w (ae cx fp G w) (aa w st.cont vl) xv x) {t kt et:TypeId} (ht:P.underlying t=some (.map kt et)) (hkt:kU P kt kk=true) (v:Value) :
  ∃w',(Instr.mapUpdate t vm kv xv).run P w=.ok () w'/\∃st',K st'/\(∃fp' G',Hp cx st'.cont (aj vl (1000+st.n) v) fp' G' w')/\st'.wf/\st'.n=st.n+1/\∀i,i<1000->st.cont i=.dead->st'.cont i=.dead:=by
 obtain⟨hks,hxs,hK⟩:=hK
 have scl:∀{u:Value}{d:D},Pl w (ae cx fp G w) (aa w st.cont vl) u d->d.bX=true->Sc u d:=fun hu hd=>by
  refine xh (bK hu ?_ ?_ ?_ ?_ ?_ ?_) hd<;>intros<;>intro hh<;>rw[hh] at hd<;>cases hd
 have hk':=scl hk (Bo hks);have hx':=scl hx hxs;obtain⟨d,hu,hd⟩:=Bu hkt hks;split at hK
 case h_3=>exact hK.elim
 case h_1 j =>
  cases ho:(st.cont j).o?.bind D.il with
  | none=>rw[ho] at hK;exact hK.elim
  | some e =>
  rw[ho] at hK;simp only[b7] at hK;cases hf:eu k e.1 with
  | none=>rw[hf] at hK;exact hK.elim
  | some f =>
  rw[hf] at hK;obtain⟨hlen,hK⟩:=hK;obtain⟨ks,vs⟩:=e
  have hc:st.cont j=.o (.mp ks vs):=by
   generalize st.cont j=c at ho;cases c<;>simp only[D.o?,Option.bind_none,reduceCtorEq,Option.bind_some] at ho;rename_i y;cases y<;>simp only[D.il,reduceCtorEq,Option.some.injEq,Prod.mk.injEq] at ho;obtain⟨rfl,rfl⟩:=ho;rfl
  obtain⟨_,hv,_⟩:=dh hm;simp only[aE,Option.some.injEq] at hv;have hown:=h.ok j;rw[hc,hv] at hown;have hown:af w (ae cx fp G w) vm (.mp ks vs) (fp j):=hown;obtain⟨r,es,clock,rfl,hF,hb,hE⟩:=CA hown;obtain⟨es',clock',hrun,hE'⟩:=BW ht hu hd hk' hx' hb hE hf hlen;obtain⟨hh1,hh2⟩:=MapKept.heap_set (o':=.map es' clock') hb
  have hin:st.in j:=by
   by_cases hin:st.in j
   ·exact hin
   ·rw[St.bZ hin] at hc;cases hc
  have h1:=(h.change (k:=j) (c':=.o (.mp (b6 k x ks vs f).1 (b6 k x ks vs f).2)) (F':=fp j) (G':=G) (w':={ w with heap:=w.heap.setIfInBounds r (.map es' clock') }) (fun _=>True) rfl
    (by rw[hv];exact af.mp hF hh1 hE') (fun i _=>aV (fun _=>trivial) _) (aV (fun _=>trivial) _) (fun b hb=>.inl hb) (fun b hb=>.inr hb) (h.bh j)
    (by simp) (fun b hbn=>hh2 b (fun e=>hbn (by rw[e];exact hF))) rfl rfl (.of rfl rfl)
    (fun p _ hp=>by
      rw[hc] at hp|-
      cases p with
      | nil=>exact⟨⟨trivial,fun hl=>by cases hl⟩,rfl⟩
      | cons s p=>exact hp.1.1.elim)
    (fun p _ hp=>by
      rw[hc] at hp|-
      cases p with
      | nil=>exact⟨trivial,rfl⟩
      | cons s p=>exact hp.1.elim)).1
  rw[<-St.c7 hw hin] at h1;have hwf:=St.dM hw j (.o (.mp (b6 k x ks vs f).1 (b6 k x ks vs f).2));have hdead:(st.put j (.o (.mp (b6 k x ks vs f).1 (b6 k x ks vs f).2))).cont (1000+st.n)=.dead:=St.bZ (by simp only[St.in,St.ew,not_or,not_and];omega);have hnn:(st.put j (.o (.mp (b6 k x ks vs f).1 (b6 k x ks vs f).2))).n=st.n:=St.ew _ _ _;refine⟨_,hrun,_,hK,⟨aj (aj fp j (fp j)) (1000+st.n) fun _=>False,G,?_⟩,St.dW hwf _,by rw[<-hnn];rfl,fun i hi hdd=>?_⟩
  ·rw[St.cm hwf,hnn]
   exact h1.put (by rw[hdead];rfl) (F:=fun _=>False) Pl.dead (fun _ h=>h.elim) (fun _ h=>h) (fun _ h=>h.elim) (fun _ _ h=>h)
  ·rw[St.cm hwf,hnn,av _ _ (by omega),St.c7 hw hin]
   by_cases hij:i=j
   ·subst hij;rw[hc] at hdd;cases hdd
   ·rw[av _ _ hij];exact hdd
 case h_2 j s p =>
  have hr0:=dh hm;have hself:=fun i k s p hi=>qR hK (i:=i) (k:=k) (s:=s) (p:=p) hi
  obtain⟨l',st1,fp1,G1,Fs,hK,h2,h3,h4,h5,h6⟩:=gE (A:=ae cx fp G w) (vs:=#[vm]) _ hK h hw (fun _ h=>h) (fun j y hj=>by
   cases j with
   | zero=>simp at hj;subst hj;exact hm
   | succ j=>simp at hj)
  obtain⟨y,rfl⟩:=Hy (show l'.length=1 from h3);simp only[List.head?_cons,Option.bind_some] at hK;cases ho:y.il with
  | none=>rw[ho] at hK;exact hK.elim
  | some e =>
  rw[ho] at hK;simp only[b7] at hK;cases hf:eu k e.1 with
  | none=>rw[hf] at hK;exact hK.elim
  | some f =>
  rw[hf] at hK;obtain⟨hlen,hK⟩:=hK;obtain⟨ks,vs⟩:=e;have hy:y=.mp ks vs:=by cases y<;>simp only[D.il,reduceCtorEq,Option.some.injEq,Prod.mk.injEq] at ho;obtain⟨rfl,rfl⟩:=ho;rfl
  subst hy;have hown:af w (ae cx fp1 G1 w) vm (.mp ks vs) (Fs 0):=(h4 0 _ rfl).1;obtain⟨r,es,clock,rfl,hF,hb,hE⟩:=CA hown;obtain⟨es',clock',hrun,hE'⟩:=BW ht hu hd hk' hx' hb hE hf hlen;obtain⟨hh1,hh2⟩:=MapKept.heap_set (o':=.map es' clock') hb;have hlive:∀b,Fs 0 b->b<w.heap.size:=fun b hb=>(h2.hp.bd b (h2.hF b ⟨0,hb⟩).1).1
  obtain⟨st',k1,k2,k3,k4,k5⟩:=sJ (vs:=fun _=>.map (some r)) (Fs2:=fun j b=>j=0/\b=r) (F1:=fun _=>False) (F2:=fun b=>b=r) (res:=.dead) (v:=v) (w':={ w with heap:=w.heap.setIfInBounds r (.map es' clock') }) h2 hK
   (fun j k' s' p' hj=>by
     cases j with
     | zero =>
      have hs:=hself 0 k' s' p' hj;simp at hj;obtain⟨rfl,rfl,rfl⟩:=hj;exact hr0.bu (h6 _ hs)
     | succ j=>simp at hj)
   (by simp) .dead (fun j z hj=>by
     cases j with
     | zero=>simp at hj;subst hj;exact af.mp ⟨rfl,rfl⟩ hh1 hE'
     | succ j=>simp at hj)
   (fun j b hb=>hb.2) (fun i j b hij hi hj=>hij (hi.1.trans hj.1.symm)) (fun b hb=>hb.elim) (fun b hb=>⟨by subst hb;simpa using hlive _ hF,.inr ⟨0,by subst hb;exact hF⟩⟩) (fun b _ hn=>hh2 b (by rintro rfl;exact hn ⟨0,hF⟩)) rfl rfl (.of rfl rfl)
  exact⟨_,hrun,st',k1,k2,k3,k4,k5⟩
end
end Go.D3
namespace Go.D3
open Go
section
variable{P:Program}{o:Oper}{cx:Ctx}{vl:Nat->Value}{fp:Nat->Nat->Prop}{G:Nat->Prop}{w:World}{a:Act}
theorem xM[Mode]:∀(l done:List D){K:List D->St->Prop}{st:St}{fp:Nat->Nat->Prop}{G:Nat->Prop}{vs:Nat->Value}{Fs:Nat->Nat->Prop},eE done l K st->Hp cx st.cont vl fp G w->st.wf ->
  (∀(j:Nat)(c:D),done[j]?=some c->bG w (ae cx fp G w) (aa w st.cont vl) (vs j) (Fs j) c)->(∀j b,Fs j b->G b/\j<done.length)->(∀i j b,i≠j->Fs i b->¬Fs j b) ->
  (∀(j:Nat)(c:D),l[j]?=some c->Pl w (ae cx fp G w) (aa w st.cont vl) (vs (done.length+j)) c) ->
  ∃(l':List D)(st':St)(fp':Nat->Nat->Prop)(G':Nat->Prop)(Fs':Nat->Nat->Prop),K l' st'/\Hp cx st'.cont vl fp' G' w/\st'.wf/\st'.n=st.n/\(∀i,st.cont i=.dead->st'.cont i=.dead)/\l'.length=done.length+l.length /\
   (∀(j:Nat)(c:D),l'[j]?=some c->bG w (ae cx fp' G' w) (aa w st'.cont vl) (vs j) (Fs' j) c)/\(∀j b,Fs' j b->G' b)/\(∀i j b,i≠j->Fs' i b->¬Fs' j b)
 | [],done,K,st,fp,G,vs,Fs,hK,h,hw,hc,hF,hd,_=>⟨done,st,fp,G,Fs,hK,h,hw,rfl,fun _ h=>h,by simp,hc,fun j b hb=>(hF j b hb).1,hd⟩
 | x::r,done,K,st,fp,G,vs,Fs,hK,h,hw,hc,hF,hd,hl=>by
  have hx:=hl 0 x rfl;rw[Nat.add_zero] at hx;have hF0:∀b,¬Fs done.length b:=fun b hb=>by have:=(hF _ b hb).2;omega
  by_cases hsub:∃k p,x=.sub k p
  ·obtain⟨k,p,rfl⟩:=hsub
   simp only[eE] at hK;obtain⟨hsafe,hK⟩:=hK;obtain⟨y,st1,fp1,G1,F1,h1,h2,h3,h4⟩:=tB hK h hw (dh hx);have hone:(vs done.length).oneCell'=true:=by obtain⟨_,_,⟨q,n,c,e⟩ | ⟨r,e⟩⟩:=dh hx<;>rw[e]<;>rfl
   obtain⟨hcell,-⟩:=Ak (R:=aa w st1.cont vl) h3 hone;have hk:∀c,c∈done++r->c.refs fun q=>cd w w st.cont st1.cont vl vl q:=fun c hcm=>cn (fun q hq=>h4 q (.inl hq)) (bf.1 hsafe c hcm)
   obtain⟨l',st',fp',G',Fs',k1,k2,k3,k4,k5,k6,k7,k8,k9⟩:=xM r (done++[aJ y]) (vs:=vs) (Fs:=fun j b=>if j=done.length then F1 b else Fs j b) h1 h2.hp h2.wf (fun j c hj=>by
     by_cases hjl:j<done.length
     ·rw[List.getElem?_append_left hjl] at hj
      have:=(hc j c hj).mono (Q:=fun q=>cd w w st.cont st1.cont vl vl q) (F':=Fs j) h2.aI (fun _ _=>rfl) (fun _ _=>rfl) (fun _ h=>h) (hk c (by simp[List.mem_of_getElem? hj])) fun v d hq hr=>hr.bu hq
      exact this.mono (Q:=fun _=>True) (fun _ h=>h) (fun _ _=>rfl) (fun _ _=>rfl) (fun b hb=>by rw[if_neg (by omega)];exact hb) (aV (fun _=>trivial) _) fun _ _ _ h=>h
     ·rw[List.getElem?_append_right (by omega)] at hj
      have:j=done.length:=by
       have:=(List.getElem?_eq_some_iff.1 hj).1;simp at this;omega
      subst this;simp at hj;subst hj
      exact hcell.mono (Q:=fun _=>True) (fun _ h=>h) (fun _ _=>rfl) (fun _ _=>rfl) (fun b hb=>by rw[if_pos rfl];exact hb) (aV (fun _=>trivial) _) fun _ _ _ h=>h)
    (fun j b hb=>by
      split at hb
      ·rename_i hj;exact⟨(h2.hF b hb).1,by simp[hj]⟩
      ·have:=hF j b hb;exact⟨h2.hG b this.1,by simp;omega⟩)
    (fun i j b hij hi hj=>by
      split at hi<;>split at hj
      ·omega
      ·exact(h2.hF b hi).2 (hF j b hj).1
      ·exact(h2.hF b hj).2 (hF i b hi).1
      ·exact hd i j b hij hi hj)
    (fun j c hj=>by
      have:=hl (j+1) c (by simpa using hj);rw[show done.length+(j+1)=(done++[aJ y]).length+j by simp;omega] at this
      exact this.bu h2.aI (fun _ _=>rfl) (hk c (by simp[List.mem_of_getElem? hj])))
   exact⟨l',st',fp',G',Fs',k1,k2,k3,k4.trans h2.n,fun i hi=>k5 i (h2.dd i hi),by simp at k6|-;omega,k7,k8,k9⟩
  ·have hK':x.pc=true/\eE (done++[x]) r K st:=by
    cases x<;>first | exact hK | exact absurd ⟨_,_,rfl⟩ hsub
   obtain⟨l',st',fp',G',Fs',k1,k2,k3,k4,k5,k6,k7,k8,k9⟩:=xM r (done++[x]) (vs:=vs) (Fs:=Fs) hK'.2 h hw (fun j c hj=>by
     by_cases hjl:j<done.length
     ·rw[List.getElem?_append_left hjl] at hj;exact hc j c hj
     ·rw[List.getElem?_append_right (by omega)] at hj
      have:j=done.length:=by
       have:=(List.getElem?_eq_some_iff.1 hj).1;simp at this;omega
      subst this;simp at hj;subst hj
      exact Ac hx hK'.1)
    (fun j b hb=>by have:=hF j b hb;exact⟨this.1,by simp;omega⟩) hd
    (fun j c hj=>by
      have:=hl (j+1) c (by simpa using hj)
      rwa [show done.length+(j+1)=(done++[x]).length+j by simp;omega] at this)
   exact⟨l',st',fp',G',Fs',k1,k2,k3,k4,k5,by simp at k6|-;omega,k7,k8,k9⟩
theorem Gh[Mode]{n:Nat}{x:D}{K:St->Prop}{st:St}(hK:nG n x K st)(h:Hp cx st.cont vl fp G w)(hw:st.wf){vx:Value}(hx:Pl w (ae cx fp G w) (aa w st.cont vl) vx x)(e:TypeId) :
  ∃st',K st'/\(∃fp' G',Hp cx st'.cont (aj vl (1000+st.n) (.pointer (some ⟨w.heap.size,0,none⟩))) fp' G' (w.alloc (.cells vx.cells e)))/\st'.wf/\st'.n=st.n+1/\∀i,i<1000->st.cont i=.dead->st'.cont i=.dead:=by
 unfold nG at hK;cases hl:x.cellsOf with
 | none=>rw[hl] at hK;exact hK.elim
 | some l =>
 rw[hl] at hK;obtain⟨⟨hln,hn0⟩,hK⟩:=hK;obtain⟨hcs,hcell⟩:=lN hx hl
 obtain⟨l',st1,fp1,G1,Fs,k1,k2,k3,k4,k5,k6,k7,k8,k9⟩:=xM l [] (vs:=fun j=>vx.cells.getD j undef) (Fs:=fun _ _=>False) hK h hw (fun j c hj=>by simp at hj) (fun _ _ h=>h.elim) (fun _ _ _ _ h=>h.elim) (fun j c hj=>by
  simp only[List.length_nil,Nat.zero_add];exact hcell j c hj)
 have g1:=k2.grow (w':=w.alloc (.cells vx.cells e)) (by simp) (fun b hb=>heap_alloc_old w _ b hb) rfl rfl (.of rfl rfl);have hd:st1.cont (1000+st.n)=.dead:=St.bZ (by rw[<-k4];simp only[St.in,not_or,not_and];omega)
 have hb:tL (w.alloc (.cells vx.cells e)) (ae cx fp1 (fun b=>G1 b\/(w.heap.size<=b/\b<(w.alloc (.cells vx.cells e)).heap.size)) (w.alloc (.cells vx.cells e))) (aa (w.alloc (.cells vx.cells e)) st1.cont vl) (.pointer (some ⟨w.heap.size,0,none⟩)) (fun b=>b=w.heap.size\/∃j,Fs j b) l':=by
  have hlt:∀j b,Fs j b->b<w.heap.size:=fun j b hb=>(k2.bd b (k8 j b hb)).1
  refine⟨by simp at k6;omega,w.heap.size,vx.cells,e,Fs,rfl,heap_alloc_new w _,by simp at k6;omega,fun j c hj=>?_,.inl rfl,fun j b hb=>⟨fun hh=>by have:=hlt j b hb;omega,.inr ⟨j,hb⟩⟩,k9⟩;refine(k7 j c hj).mono (Q:=fun _=>True) (fun b hb=>⟨⟨by have:=hb.1.1;simp;omega,hb.1.2⟩,fun hg=>hg.elim hb.2.1 fun hh=>by have:=hb.1.1;omega,hb.2.2⟩) (fun b hb=>heap_alloc_old w _ b hb.1.1) (fun b hb=>heap_alloc_old w _ b (hlt j b hb)) (fun _ h=>h) (aV (fun _=>trivial) _) fun v d _ hr=>hr.bu (aV (fun q=>?_) _)
  cases q<;>try trivial
  case sub k p=>exact fun hp=>⟨hp,(eF (k2.ok k) hp.1 fun b hb=>heap_alloc_old w _ b (k2.lt k b hb).1).1⟩
  case aq k p=>exact fun hp=>⟨hp,(eF (k2.ok k) hp fun b hb=>heap_alloc_old w _ b (k2.lt k b hb).1).2⟩
 refine⟨_,k1,?_,St.dW k3 _,by show st1.n+1=_;rw[k4],fun i hi hdd=>?_⟩
 ·rw[St.cm k3,k4]
  exact⟨_,fun _=>False,g1.put (k:=1000+st.n) (c:=.box l') (F:=fun b=>b=w.heap.size\/∃j,Fs j b) (by rw[hd];rfl) hb (fun b hb=>hb.elim (fun hh=>.inr ⟨by omega,by simp;omega⟩) fun⟨j,hj⟩=>.inl (k8 j b hj)) (fun _ h=>h.elim) (fun _ _ h=>h) (fun hh=>by cases hh)⟩
 ·rw[St.cm k3,k4,av _ _ (by omega)];exact k5 i hdd
theorem Hd{sz:Nat}{cs:Array Value}{v:Value}(hv:v.cells.size=sz)(hc:cs.size=sz):∃cs',Instr.fill (fun j=>some (j*sz,sz)) cs [(0,v)]=some cs'/\cs'.size=sz/\∀j,j<sz->cs'.getD j undef=v.cells.getD j undef:=by
 refine⟨dV cs 0 v.cells.toList,?_,by rw[oD];exact hc,fun j hj=>?_⟩
 ·simp only[Instr.fill]
  have hcond:¬((decide (v.cells.size≠sz) || decide (0*sz+v.cells.size > cs.size))=true):=by simp;omega
  rw[if_neg hcond];have:=rG v.cells.toList 0 0 cs;simp only[Nat.add_zero] at this;rw[<-Array.foldl_toList,Array.toList_zipIdx,Nat.zero_mul,this]
 ·rw[oC _ _ _ _ (by simp;omega),if_pos ⟨Nat.zero_le _,by simp;omega⟩]
  simp
theorem Ge[Mode]{z x:D}{K:St->Prop}{st:St}(hK:nE z x K st)(h:Hp cx st.cont vl fp G w)(hw:st.wf){vx:Value}(hx:Pl w (ae cx fp G w) (aa w st.cont vl) vx x)(hz : 0<z.cells.length)(e:TypeId) :
  vx.cells.size=z.cells.length/\∀cs:Array Value,cs.size=z.cells.length->(∀j,j<z.cells.length->cs.getD j undef=vx.cells.getD j undef) ->
  ∃st',K st'/\(∃fp' G',Hp cx st'.cont (aj vl (1000+st.n) (.slice (some ⟨w.heap.size,0,none⟩) 1 1)) fp' G' (w.alloc (.cells cs e)))/\st'.wf/\st'.n=st.n+1/\∀i,i<1000->st.cont i=.dead->st'.cont i=.dead:=by
 unfold nE at hK;cases hl:x.cellsOf with
 | none=>rw[hl] at hK;exact hK.elim
 | some l =>
 rw[hl] at hK;obtain⟨hln,hK⟩:=hK;obtain⟨hcs,hcell⟩:=lN hx hl;refine⟨by omega,fun cs hs hget=>?_⟩;obtain⟨l',st1,fp1,G1,Fs,k1,k2,k3,k4,k5,_⟩:=gE (A:=ae cx fp G w) (vs:=vx.cells) l hK h hw (fun _ h=>h) hcell;have g1:=k2.hp.grow (w':=w.alloc (.cells cs e)) (by simp) (fun b hb=>heap_alloc_old w _ b hb) rfl rfl (.of rfl rfl);have hd:st1.cont (1000+st.n)=.dead:=St.bZ (by rw[<-k2.n];simp only[St.in,not_or,not_and];omega);have hlt:∀j b,Fs j b->b<w.heap.size:=fun j b hb=>(k2.hp.bd b (k2.hF b ⟨j,hb⟩).1).1
 have hl':l'.length=z.cells.length:=by omega
 have hat:∀j c,cellAt [D.agg l'] z.cells.length j=some c->l'[j]?=some c/\j<z.cells.length:=fun j c hj=>by
  have h1:=jz hz hj;simp only[List.length_cons,List.length_nil,Nat.zero_add,Nat.one_mul] at h1;unfold cellAt at hj;rw[Nat.div_eq_of_lt h1,Nat.mod_eq_of_lt h1] at hj;exact⟨hj,h1⟩
 have hb:az (w.alloc (.cells cs e)) (ae cx fp1 (fun b=>G1 b\/(w.heap.size<=b/\b<(w.alloc (.cells cs e)).heap.size)) (w.alloc (.cells cs e))) (aa (w.alloc (.cells cs e)) st1.cont vl) (.slice (some ⟨w.heap.size,0,none⟩) 1 1) (fun b=>b=w.heap.size\/∃j,Fs j b) (.o (.slice z [.agg l'])):=by
  refine af.slice (L:=[.agg l']) (off:=0) (cap:=1) (sz:=z.cells.length) Fs (heap_alloc_new w _) (by simp;omega) (by simp) (by simp[maxLen]) hz rfl (fun x hx=>?_) (fun j c hj=>?_) (.inl rfl) (fun j b hb=>⟨fun hh=>by have:=hlt j b hb;omega,.inr ⟨j,hb⟩⟩) k5
  ·rw[List.mem_singleton] at hx
   subst hx;exact hl'
  ·obtain⟨hj1,hj2⟩:=hat j c hj
   rw[Nat.zero_add,hget j hj2];exact(k4 j c hj1).1.mono (fun b hb=>⟨⟨by have:=hb.1.1;simp;omega,hb.1.2⟩,fun hg=>hg.elim hb.2.1 fun hh=>by have:=hb.1.1;omega,hb.2.2⟩) (fun b hb=>heap_alloc_old w _ b hb.1.1) (fun b hb=>heap_alloc_old w _ b (hlt j b hb)) (fun _ h=>h)
 refine⟨_,k1,?_,St.dW k2.wf _,by show st1.n+1=_;rw[k2.n],fun i hi hdd=>?_⟩
 ·rw[St.cm k2.wf,k2.n]
  exact⟨_,fun _=>False,g1.put (k:=1000+st.n) (c:=.o (.slice z [.agg l'])) (F:=fun b=>b=w.heap.size\/∃j,Fs j b) (by rw[hd];rfl) hb (fun b hb=>hb.elim (fun hh=>.inr ⟨by omega,by simp;omega⟩) fun⟨j,hj⟩=>.inl (k2.hF b ⟨j,hj⟩).1) (fun _ h=>h.elim) (fun _ _ h=>h) (fun hh=>by cases hh)⟩
 ·rw[St.cm k2.wf,k2.n,av _ _ (by omega)];exact k2.dd i hdd
end
end Go.D3
namespace Go.D3
open Go
theorem wR{σ σ':Nat->Nat}{n:Nat}(hσ:∀i,i<n->σ i=σ' i)(c:D):c.refs (iX n)->c.ai σ=c.ai σ':=by
 have go:∀l:List D,(∀x∈l,x.refs (iX n)->x.ai σ=x.ai σ')->bD (iX n) l->cH σ l=cH σ' l:=by
  intro l;induction l with
  | nil=>intro _ _;rfl
  | cons x r ih =>
   intro hx hq;rw[cH,cH,hx x (by simp) hq.1,ih (fun y hy=>hx y (by simp[hy])) hq.2]
 induction c using D.ind with
 | sub k p=>intro h;simp only[D.ai];rw[hσ k h]
 | aq k p=>intro h;simp only[D.ai];rw[hσ k h]
 | pre k p m=>intro h;simp only[D.ai];rw[hσ k h]
 | fn f l ih=>intro h;simp only[D.ai];rw[go l ih h]
 | agg l ih=>intro h;simp only[D.ai];rw[go l ih h]
 | au l ih=>intro h;simp only[D.ai];rw[go l ih h]
 | box l ih=>intro h;simp only[D.ai];rw[go l ih h]
 | row z l _ ih=>intro h;simp only[D.ai];rw[go l ih h]
 | when g x ih=>intro h;simp only[D.ai];rw[ih h]
 | _=>intro _;rfl
def kS(js:List Nat):D->Prop
 | .sub k _=>k∈js
 | .aq k _=>k∈js
 | _=>True
theorem wS{σ:Nat->Nat}{js:List Nat}{n:Nat}(hσ:∀i,i<n->σ i∈js)(c:D):c.refs (iX n)->(c.ai σ).refs (kS js):=by
 have go:∀l:List D,(∀x∈l,x.refs (iX n)->(x.ai σ).refs (kS js))->bD (iX n) l->bD (kS js) (cH σ l):=by
  intro l;induction l with
  | nil=>intro _ _;trivial
  | cons x r ih=>intro hx hq;exact⟨hx x (by simp) hq.1,ih (fun y hy=>hx y (by simp[hy])) hq.2⟩
 induction c using D.ind with
 | sub k p=>exact fun h=>hσ k h
 | aq k p=>exact fun h=>hσ k h
 | pre k p m=>exact fun h=>hσ k h
 | fn f l ih=>exact go l ih
 | agg l ih=>exact go l ih
 | au l ih=>exact go l ih
 | box l ih=>exact go l ih
 | row z l _ ih=>exact go l ih
 | when g x ih=>exact ih
 | _=>intro _;trivial
theorem BC{ob:Nat->D}{σ:Nat->Nat}:∀{js:List Nat}{gs:List D},pQ ob σ js gs->js.length=gs.length/\∀(i:Nat)(h:i<js.length),js[i]<1000/\ob js[i]=(nth gs i).ai σ
 | [],[],_=>⟨rfl,fun i h=>by simp at h⟩
 | [],_::_,h=>h.elim
 | _::_,[],h=>h.elim
 | j::js,g::gs,⟨h1,h2⟩=>by
  obtain⟨h3,h4⟩:=BC h2;refine⟨by simp[h3],fun i hi=>?_⟩;cases i with
  | zero=>exact h1
  | succ i=>exact h4 i (by simpa using hi)
theorem zD{σ:Nat->Nat}:∀{ds as:List D},uh σ ds as->ds.length=as.length/\∀(j:Nat)(a:D),as[j]?=some a->ds[j]?=some (a.ai σ)
 | [],[],_=>⟨rfl,fun j a h=>by simp at h⟩
 | [],_::_,h=>h.elim
 | _::_,[],h=>h.elim
 | d::ds,a::as,⟨h1,h2⟩=>by
  obtain⟨h3,h4⟩:=zD h2;refine⟨by simp[h3],fun j b hj=>?_⟩;cases j with
  | zero=>simp at hj|-;rw[<-hj];exact h1
  | succ j=>simpa using h4 j b (by simpa using hj)
theorem vq{ob ob':Nat->D}(h:∀j,j<1000->ob j=ob' j){σ:Nat->Nat}:∀{js:List Nat}{gs:List D},pQ ob σ js gs->pQ ob' σ js gs
 | [],[],h=>h
 | [],_::_,h=>h.elim
 | _::_,[],h=>h.elim
 | j::js,g::gs,⟨⟨h1,h2⟩,h3⟩=>⟨⟨h1,by rw[<-h j h1];exact h2⟩,vq h h3⟩
theorem lT.mono[Mode]{P:Program}{f:FuncId}{ob ob':Nat->D}(h:∀j,j<1000->ob j=ob' j){ds:List D}{c:D}:lT P f ob ds c->lT P f ob' ds c :=
 fun⟨js,as,gs,rc,h1,h2,h3,h4⟩=>⟨js,as,gs,rc,h1,h2,vq h h3,h4⟩
section
variable{P:Program}{cx:Ctx}{ct:Nat->D}{vl:Nat->Value}{fp:Nat->Nat->Prop}{G:Nat->Prop}{w:World}
theorem Gv[Mode](h:Hp cx ct vl fp G w){vs:Array Value}{ds:List D}(hvs:vs.size=ds.length)(hds:∀(j:Nat)(d:D),ds[j]?=some d->Pl w (ae cx fp G w) (aa w ct vl) (vs.getD j undef) d)
  {f:FuncId} {ob:Nat->D} {c:D} (hob:∀j,j<1000->ob j=ct j) (hv:lT P f ob ds c) :
  Calls P f vs w fun e w'=>∃v,e=.returned v/\Ext w w'/\az w' (gu (ae cx fp G w) w w' fun _=>False) (aa w ct vl) v (fun _=>False) c/\c.isObj=false:=by
 obtain⟨js,as,gs,rc,⟨hbody,hR⟩,hnd,hlend,harg,⟨hra,hrg,hrr⟩,hok,rfl⟩:=hv;obtain⟨hl1,hl2⟩:=BC (vq hob hlend);obtain⟨ha1,ha2⟩:=zD harg;let σ:Nat->Nat:=fun i=>(js[i]?).getD (1000+i)
 have σin:∀(i:Nat)(hi:i<js.length),σ i=js[i]:=fun i hi=>by simp[σ,hi]
 have σout:∀i,js.length<=i->σ i=1000+i:=fun i hi=>by simp[σ,hi]
 have hσ:∀i,i<js.length->sj js i=σ i:=fun i hi=>by rw[σin i hi];simp[sj,hi]
 have hmem:∀i,i<js.length->σ i∈js:=fun i hi=>by rw[σin i hi];exact List.getElem_mem hi
 have hinj:∀i j,σ i=σ j->i=j:=by
  intro i j hij;by_cases hi:i<js.length<;>by_cases hj:j<js.length
  ·rw[σin i hi,σin j hj] at hij
   have hp:=List.pairwise_iff_getElem.1 hnd;rcases Nat.lt_trichotomy i j with hlt | hlt | hlt
   ·exact absurd hij (hp i j hi hj hlt)
   ·exact hlt
   ·exact absurd hij.symm (hp j i hj hi hlt)
  ·rw[σin i hi,σout j (by omega)] at hij
   have:=(hl2 i hi).1;omega
  ·rw[σout i (by omega),σin j hj] at hij
   have:=(hl2 j hj).1;omega
  ·rw[σout i (by omega),σout j (by omega)] at hij;omega
 classical
 let ct':Nat->D:=fun k=>if k∈js then ct k else .dead
 have hnl:∀i,(nth gs i).refs (iX js.length):=fun i=>by
  by_cases hi:i<gs.length
  ·exact vJ i hrg
  ·rw[fX gs i (by omega)];trivial
 have hct:∀i,ct' (σ i)=(nth gs i).ai σ:=fun i=>by
  by_cases hi:i<js.length
  ·show(if σ i∈js then ct (σ i) else _)=_
   rw[if_pos (hmem i hi),σin i hi,(hl2 i hi).2,wR hσ _ (hnl i)]
  ·have hno:σ i ∉ js:=fun hm=>by
    obtain⟨k,hk,he⟩:=List.getElem_of_mem hm;have:=(hl2 k hk).1;rw[σout i (by omega)] at he;omega
   show(if σ i∈js then ct (σ i) else _)=_;rw[if_neg hno,fX gs i (by omega)];rfl
 have h1:∀v d,d.refs (kS js)->aa w ct vl v d->aa w ct' vl v d:=by
  intro v d hd hr;cases d<;>first | exact hr.elim | (simp only[aa,lR,ct'] at hr|-;rw[if_pos (show _∈js from hd)];exact hr)
 have h2:∀v d,d.refs (kS js)->aa w ct' vl v d->aa w ct vl v d:=by
  intro v d hd hr;cases d<;>first | exact hr.elim | (simp only[aa,lR,ct'] at hr|-;rw[if_pos (show _∈js from hd)] at hr;exact hr)
 refine(hR w (ae cx fp G w) vs (fun i=>vl (σ i)) (fun i b=>i<js.length/\fp (σ i) b) h.gl (fun b hb=>hb.1.1) (by rw[hvs,ha1]) (fun j a hj=>?_) (fun k=>?_) (fun k hk b hb=>?_) (fun i j b hij hi hj=>h.bk _ _ (fun he=>hij (hinj _ _ he)) b hi.2 hj.2)
  (fun k b hk=>⟨(h.lt _ b hk.2).1,fun hb=>hb.2.2 _ hk.2⟩)).mono ?_
 ·have hra':=bf.1 hra a (List.mem_of_getElem? hj)
  have:=hds j _ (ha2 j a hj);rw[wR hσ _ hra'] at this;have h3:=this.mono (Q:=kS js) (R':=aa w ct' vl) (fun _ h=>h) (fun _ _=>rfl) (wS hmem _ hra') h1;exact h3.kg hinj hct fun _ _=>rfl
 ·by_cases hk:k<js.length
  ·have:=h.ok (σ k)
   have he:ct (σ k)=(nth gs k).ai σ:=by rw[<-hct k];show _=(if σ k∈js then ct (σ k) else _);rw[if_pos (hmem k hk)]
   rw[he] at this;have h3:=this.mono (Q:=kS js) (R':=aa w ct' vl) (fun _ h=>h) (fun _ _=>rfl) (fun _ _=>rfl) (fun b hb=>(⟨hk,hb⟩:k<js.length/\fp (σ k) b)) (wS hmem _ (hnl k)) h1;exact h3.kg hinj hct fun _ _=>rfl
  ·rw[fX gs k (by omega)];exact Pl.dead
 ·refine h.emp (σ k) ?_ b hb.2
  have he:ct (σ k)=(nth gs k).ai σ:=by rw[<-hct k];show _=(if σ k∈js then ct (σ k) else _);rw[if_pos (hmem k hb.1)]
  rw[he,ml];exact hk
 rintro e w' ⟨v,rfl,hsz,hsame,hpl,hos,htape,hout⟩;rw[wR hσ _ hrr];refine⟨v,rfl,⟨hsz,hsame,hos,htape,hout⟩,?_,Ck (vP hok)⟩
 have h3:Pl w' (fun b=>ae cx fp G w b\/(w.heap.size<=b/\b<w'.heap.size)) (aa w ct' vl) v (rc.ai σ) :=
  hpl.ai (Q:=fun _=>True) (σ:=σ) (R':=aa w ct' vl) (aV (fun _=>trivial) _) fun v d _ hr=>hr.ai (fun i _=>hct i) fun i _=>rfl
 have h4:=h3.mono (Q:=kS js) (w':=w') (A':=gu (ae cx fp G w) w w' fun _=>False) (R':=aa w ct vl) (fun b hb=>hb.imp id fun hh=>⟨hh.1,hh.2,fun h=>h⟩) (fun _ _=>rfl) (wS hmem _ hrr) h2;exact(jh (vP hok)).2 h4
theorem zX[Mode]{o:Oper}{a:Act}{ds:List (Option Nat)}{tr:List Nat}{rd:X->D}{Q:Exit->Act->World->Prop}(h:Hp cx ct vl fp G w){f:FuncId}{xs:List X}(hk:aQ P ds tr o (.fB f xs)=true)
  (hx:∀y,y∈xs->∀x,aA ds tr x y=true->bL w (ae cx fp G w) (aa w ct vl) (a.eval x) (rd y)) (hgt:cW rd xs=true) {ob:Nat->D} {c:D} (hob:∀j,j<1000->ob j=ct j) (hv:lT P f ob (dL rd xs) c) {K:Act->World->Prop}
  (hK:∀(v:Value)(w':World),Ext w w'->az w' (gu (ae cx fp G w) w w' fun _=>False) (aa w ct vl) v (fun _=>False) c->c.isObj=false->K (a.put o.dst v) w'):o.wp P a w K Q:=by
 simp only[aQ] at hk;split at hk<;>try(cases hk;done)
 rename_i f' as hop;obtain⟨ts,ho⟩:=vT hop;simp only[Bool.and_eq_true,beq_iff_eq] at hk;obtain⟨⟨rfl,hk1⟩,hk2⟩:=hk;obtain⟨h1,h2⟩:=wK (rd:=rd) hk1 hx hgt;unfold Oper.wp;rw[uv ho hk2,Oper.upon_enter];refine(Gv (vs:=(as.map a.eval).toArray) h (by simp[h1]) (fun j d hj=>by simpa using h2 j d hj) hob hv).mono ?_;rintro e w' ⟨v,rfl,q1,q2,q3⟩;exact hK v w' q1 q2 q3
end
end Go.D3
namespace Go.D3
open Go
structure Fm[Mode](cx:Ctx)(nt:Nat)(tr pre:List Nat)(ds:List (Option Nat))(st:St)(a:Act)(w:World):Prop where
 ex:∃vl fp G,Hp cx st.cont vl fp G w/\(∀(j t:Nat),tr[j]?=some t->pre.contains j=false->a.tmps.getD t undef=vl j)/\(∀(i t:Nat),i<st.n->ds[i]?=some (some t)->a.tmps.getD t undef=vl (1000+i))/\∀k,tr.length<=k->k<1000->vl k=cx.gv k
 wf:st.wf
 dd:∀j,pre.contains j=true->st.cont j=.dead
 size:a.tmps.size=nt
 defers:a.defers=cx.cG
structure gQ(nt:Nat)(tr pre:List Nat)(ds:List (Option Nat)):Prop where
 nodup:∀(i i' t:Nat),ds[i]?=some (some t)->ds[i']?=some (some t)->i=i'
 apart:∀(i t:Nat),ds[i]?=some (some t)->∀(j:Nat),tr[j]?=some t->pre.contains j=true
 OM:∀(i i' t:Nat),tr[i]?=some t->tr[i']?=some t->i=i'
 ON:∀(i t:Nat),tr[i]?=some t->t<nt
 fD:tr.length<500
 wC:∀j,pre.contains j=true->j<tr.length
section
variable{P:Program}{cx:Ctx}{nt:Nat}{tr pre:List Nat}{ds:List (Option Nat)}{st:St}{a:Act}{w:World}{o:Oper}{Q:Exit->Act->World->Prop}{vl:Nat->Value}{fp:Nat->Nat->Prop}{G:Nat->Prop}
theorem AD{s:ByteArray}{l:List UInt8}(h:mc s.data.toList l=true):Value.string s=.string ⟨l.toArray⟩:=by
 have:=AE h;rw[<-this,<-uI]
theorem vn[Mode](h:Hp cx st.cont vl fp G w)(htr:∀(j t:Nat),tr[j]?=some t->pre.contains j=false->a.tmps.getD t undef=vl j)(htm:∀(i t:Nat),i<st.n->ds[i]?=some (some t)->a.tmps.getD t undef=vl (1000+i))
  {x:Operand} {y:X} (hx:aA ds tr x y=true) (hi:∀i,y=.t i->i<st.n) (hv:∀j,y=.v j->pre.contains j=false):bL w (ae cx fp G w) (aa w st.cont vl) (a.eval x) (st.rd y):=by
 have lit:∀{v:Value}{d:D},Rd w (ae cx fp G w) v d->bL w (ae cx fp G w) (aa w st.cont vl) v d:=fun hd=>Pl.mN (.rd hd) mQ
 unfold aA at hx;split at hx<;>try(cases hx;done)
 ·rename_i t i
  have:=htm i t (hi i rfl) (by simpa using hx);show bL _ _ _ (a.tmps.getD t undef) (bB (1000+i) (st.cont (1000+i)));rw[this];exact jY (h.ok _)
 ·rename_i t j
  have:=htr j t (by simpa using hx) (hv j rfl);show bL _ _ _ (a.tmps.getD t undef) (bB j (st.cont j));rw[this];exact jY (h.ok _)
 ·simp only[Bool.and_eq_true,decide_eq_true_eq] at hx
  obtain⟨⟨rfl,rfl⟩,h1⟩:=hx;exact lit (.int (qc h1))
 ·simp only[Bool.and_eq_true,decide_eq_true_eq] at hx
  obtain⟨⟨rfl,rfl⟩,h1⟩:=hx;exact lit (.int (qc h1))
 ·simp only[beq_iff_eq] at hx
  subst hx;exact lit .bool
 ·simp only[Bool.and_eq_true,decide_eq_true_eq] at hx
  show bL _ _ _ (Value.string _) _;rw[AD hx.1];exact lit (.str (by have:=hx.2;simp only[maxLen];omega))
 ·exact lit .aM
 ·exact lit .aF
 ·simp only[beq_iff_eq] at hx
  subst hx;exact lit (.fn rfl (fun j x hx=>by simp at hx))
 ·rename_i g g'
  simp only[Bool.and_eq_true,beq_iff_eq] at hx;obtain⟨hgg,hx⟩:=hx;subst hgg;obtain⟨d,hd⟩:=Option.isSome_iff_exists.1 hx;have:=h.gl.gl _ _ hd;show bL _ _ _ _ ((gl g).getD .dead);rw[hd];exact lit this
 ·exact lit .bl
theorem Fm.put[Mode](hS:gQ nt tr pre ds)(h:Fm cx nt tr pre ds st a w){s:aO}(hd:ds[st.n]?=some (eD o s))(ha:s.k.cA=none)(hlt:∀t,o.dst=some t->t<nt){st':St}{w':World}{v:Value}
  (htr0:∀(j t:Nat),tr[j]?=some t->pre.contains j=false->a.tmps.getD t undef=vl j) (htm0:∀(i t:Nat),i<st.n->ds[i]?=some (some t)->a.tmps.getD t undef=vl (1000+i)) (hgh:∀k,tr.length<=k->k<1000->vl k=cx.gv k)
  (hp:∃fp' G',Hp cx st'.cont (aj vl (1000+st.n) v) fp' G' w') (hwf:st'.wf) (hn:st'.n=st.n+1) (hdd:∀j,j<1000->st.cont j=.dead->st'.cont j=.dead):Fm cx nt tr pre ds st' (a.put o.dst v) w':=by
 obtain⟨fp',G',hp⟩:=hp;have hres:eD o s=o.dst:=by simp[eD,ha]
 rw[hres] at hd;have hjlt:∀j t,tr[j]?=some t->j<1000:=fun j t hj=>by have:=(List.getElem?_eq_some_iff.1 hj).1;have:=hS.fD;omega
 refine⟨⟨_,_,_,hp,fun j t hj hpre=>?_,fun i t hi hit=>?_,fun k h1 h2=>by rw[av _ _ (by omega)];exact hgh k h1 h2⟩,hwf,fun j hj=>hdd j (by have:=hS.wC j hj;have:=hS.fD;omega) (h.dd j hj),?_,?_⟩
 ·rw[av _ _ (by have:=hjlt j t hj;omega)]
  cases hod:o.dst with
  | none=>exact htr0 j t hj hpre
  | some d =>
   have hne:d≠t:=by
    rintro rfl;rw[hod] at hd;have:=hS.apart _ _ hd j hj;rw[hpre] at this;cases this
   simp only[Act.put];rw[getD_set_ne _ hne];exact htr0 j t hj hpre
 ·by_cases hin:i=st.n
  ·subst hin
   rw[aT];rw[hd] at hit;injection hit with hit
   rw[hit];simp only[Act.put];exact kO _ (by rw[h.size];exact hlt t hit)
  ·rw[av _ _ (by omega)]
   have hi':i<st.n:=by omega
   cases hod:o.dst with
   | none=>exact htm0 i t hi' hit
   | some d =>
    have hne:d≠t:=by
     rintro rfl;rw[hod] at hd;exact hin (hS.nodup _ _ _ hit hd)
    simp only[Act.put];rw[getD_set_ne _ hne];exact htm0 i t hi' hit
 ·cases o.dst<;>simp[Act.put,h.size]
 ·cases o.dst<;>simp[Act.put,h.defers]
theorem CQ[Mode](h:Hp cx st.cont vl fp G w)(hw:st.wf){v:Value}{c:D}(hc:az w (ae cx fp G w) (aa w st.cont vl) v (fun _=>False) c) :
  (∃fp' G',Hp cx (st.push c).cont (aj vl (1000+st.n) v) fp' G' w)/\(st.push c).wf/\(st.push c).n=st.n+1/\∀j,j<1000->st.cont j=.dead->(st.push c).cont j=.dead:=by
 have hd:st.cont (1000+st.n)=.dead:=St.bZ (by simp only[St.in,not_or,not_and];omega);refine⟨⟨aj fp (1000+st.n) fun _=>False,G,?_⟩,St.dW hw _,rfl,fun i hi hd=>by rw[St.cm hw,av _ _ (by omega)];exact hd⟩;rw[St.cm hw];exact h.put (by rw[hd];rfl) (F:=fun _=>False) hc (fun _ h=>h.elim) (fun _ h=>h) (fun _ h=>h.elim) (fun _ _ h=>h)
theorem Fq{A:Nat->Prop}{R:Value->D->Prop}{v:Value}{d:D}(h:Pl w A R v d)(hd:d.bC=true){g:Option Bool}(hg:g≠some false):az w A R v (fun _=>False) (ni g d):=by
 cases g with
 | none=>cases d<;>first | exact h | cases hd
 | some b=>cases b with
  | false=>exact absurd rfl hg
  | true=>exact show az w A R v (fun _=>False) (.when true d) from⟨fun _=>h,fun h=>absurd h (by simp)⟩
theorem Ft{A:Nat->Prop}{R:Value->D->Prop}{d:D}:az w A R undef (fun _=>False) (.when false d) :=
 show(false=true->Pl w A R undef d)/\(false=false->undef=undef) from⟨fun h=>absurd h (by simp),fun _=>rfl⟩
theorem gD{K:Act->World->Prop}{v:Value}{w':World}(hrun:(execOp a.eval o).run P w=.ok (.value v) w')(h:K (a.put o.dst v) w'):o.wp P a w K Q:=by
 unfold Oper.wp;rw[hrun,Oper.upon_value];exact h
theorem za{K:Act->World->Prop}{w':World}(hrun:(execOp a.eval o).run P w=.ok .skip w')(h:K (a.put o.dst undef) w'):o.wp P a w K Q:=by
 unfold Oper.wp;rw[hrun,Oper.upon_skip];exact h
theorem DH{t:TypeId}{x y:Operand}(ho:o.op=.store t x y){n:Nat}(hn:cC P t n=true){b off:Nat}(hx:a.eval x=.pointer (some ⟨b,off,none⟩))(hv:(a.eval y).cells.size=n)
  (hc:∀i,i<n->(w.cell? ⟨b,off+i,none⟩).isSome=true/\w.frozen? ⟨b,off+i,none⟩=false) (h1:∀v∈(a.eval y).cells.toList,v.oneCell'=true) :
  (execOp a.eval o).run P w=.ok .skip (w.setCells b off (a.eval y).cells.toList):=by
 have aI:=run_storeCells_cells (P:=P) b off (a.eval y).cells.toList 0 w
  (fun j hj=>by simp at hj;exact(hc j (by omega)).1)
  (fun j hj=>by simp at hj;exact(hc j (by omega)).2) h1
 simp only[Nat.add_zero] at aI;simp only[execOp,ho,Instr.storeAt,Instr.sureAddr,storeVar,hx,Sem.run_bind,Sem.run_pure,Result.andThen_ok,tu hn,hv];simp[aI]
theorem sR{k:Kp}{i:Nat}(h:X.t i∈k.xs):i∈k.reads:=by
 have one:∀{x:X},X.t i=x->i∈fK x:=by rintro x rfl;simp[fK]
 have opt:∀{x:Option X},X.t i∈x.toList->i∈wL x:=by
  intro x hx;cases x with
  | none=>simp at hx
  | some x=>simp at hx;exact one hx
 cases k<;>simp only[Kp.xs,List.mem_cons,List.mem_append,List.not_mem_nil,or_false,List.mem_map,List.mem_flatMap,Kp.reads] at h|-
 case nf x lo hi=>exact h.elim (fun h=>.inl (h.elim (fun h=>.inl (one h)) fun h=>.inr (opt h))) fun h=>.inr (opt h)
 case sl x lo hi=>exact h.elim (fun h=>.inl (h.elim (fun h=>.inl (one h)) fun h=>.inr (opt h))) fun h=>.inr (opt h)
 all_goals first
  | exact one h
  | exact h.elim (fun h=>.inl (one h)) fun h=>.inr (one h)
  | exact h.elim (fun h=>.inl (.inl (one h))) fun h=>h.elim (fun h=>.inl (.inr (one h))) fun h=>.inr (one h)
  | exact⟨_,h,one rfl⟩
  | (obtain⟨p,hp,he⟩:=h;exact⟨p,hp,one he.symm⟩)
  | (rcases h with h | h<;>simp at h<;>simp[h])
  | exact h.elim (fun h=>.inl (one h)) fun h=>.inr ⟨_,h,one rfl⟩
theorem rQ{x:Operand}{i:Nat}(h:aA ds tr x (.t i)=true){v:Value}(hv:∀t,ds[i]?=some (some t)->a.tmps.getD t undef=v):a.eval x=v:=by
 unfold aA at h;split at h<;>first | contradiction | skip
 all_goals(injections<;>subst_vars<;>first | exact hv _ (by simpa using h) | cases h)
theorem HM{ds:List (Option Nat)}{tr:List Nat}{x:Operand}{j:Nat}(h:aA ds tr x (.v j)=true):∃t,tr[j]?=some t/\x=.tmp t:=by
 cases x
 case tmp t=>exact⟨t,by simpa[aA] using h,rfl⟩
 all_goals(unfold aA at h;split at h<;>first | contradiction | cases h)
theorem qi[Mode](hS:gQ nt tr pre ds)(h:Fm cx nt tr pre ds st a w){s:aO}{g:Option Bool}(hg:g≠some false)(hk:aQ P ds tr o s.k=true)(hd:ds[st.n]?=some (eD o s))
  (hasg:∀j,s.k.cA=some j->o.dst=tr[j]?/\j<tr.length/\pre.contains j=false) (hlt:∀t,o.dst=some t->t<nt) (hreads:∀i,i∈s.k.reads->i<st.n) (hxs:∀j,X.v j∈s.k.xs->pre.contains j=false)
  {K:St->Prop} (hv:aZ P s.k g K st):o.wp P a w (fun a' w'=>∃st',K st'/\Fm cx nt tr pre ds st' a' w'/\st'.n=st.n+1) Q:=by
 obtain⟨vl,fp,G,hp,htr,htm,hgh⟩:=h.ex;obtain⟨g0,k⟩:=s;simp only at hk hd hasg hreads hxs hv
 have hx:∀y,y∈k.xs->∀x,aA ds tr x y=true->bL w (ae cx fp G w) (aa w st.cont vl) (a.eval x) (st.rd y):=fun y hy x hxy =>
  vn hp htr htm hxy (fun i hi=>hreads i (sR (by rw[<-hi];exact hy))) (fun j hj=>hxs j (by rw[<-hj];exact hy))
 have hok:∀j,∃F,az w (ae cx fp G w) (aa w st.cont vl) (vl j) F (st.cont j):=fun j=>⟨_,hp.ok j⟩
 have hcd:st.cont (1000+st.n)=.dead:=St.bZ (by simp only[St.in,not_or,not_and];omega)
 have pure:k.cA=none->fJ (bn k st.rd st.cont) g K st->o.wp P a w (fun a' w'=>∃st',K st'/\Fm cx nt tr pre ds st' a' w'/\st'.n=st.n+1) Q:=by
  intro hna hv;unfold fJ at hv;split at hv
  ·exact absurd hv.1 hg
  rename_i side res hpev;obtain⟨hs,hoc,hK⟩:=hv
  have hside:side:=by
   cases g with
   | none=>exact hs
   | some b=>cases b with
    | false=>exact absurd rfl hg
    | true=>exact hs rfl
  obtain⟨v,hrun,hpl⟩:=CG (P:=P) (o:=o) (ob:=st.cont) hpev hk hx (fun _ _=>rfl) hok hside;obtain⟨h1,h2,h3,h4⟩:=CQ hp h.wf (Fq hpl hoc hg);exact gD hrun ⟨_,hK,h.put hS (s:=⟨g0,k⟩) hd hna hlt htr htm hgh h1 h2 h3 h4,h3⟩
 have new:k.cA=none->eh (bJ k st.rd) g K st->o.wp P a w (fun a' w'=>∃st',K st'/\Fm cx nt tr pre ds st' a' w'/\st'.n=st.n+1) Q:=by
  intro hna hv;unfold eh at hv;cases g with
  | some b=>exact hv.elim
  | none =>
  cases hnew:bJ k st.rd with
  | none=>rw[hnew] at hv;exact hv.elim
  | some r =>
   obtain⟨side,c⟩:=r;rw[hnew] at hv;obtain⟨hs,hK⟩:=hv;obtain⟨v,w',F,hrun,hext,hF,hc,hemp⟩:=B4 (P:=P) (o:=o) (A:=ae cx fp G w) hnew hk hx (fun b hb=>hb.1.1) hs;have h1:=hp.add hext (k:=1000+st.n) (by rw[hcd];rfl) hF hc hemp;rw[<-St.cm h.wf] at h1;exact gD hrun ⟨_,hK,h.put hS (s:=⟨g0,k⟩) hd hna hlt htr htm hgh ⟨_,_,h1⟩ (St.dW h.wf _) rfl (fun i hi hd=>by rw[St.cm h.wf,av _ _ (by omega)];exact hd),rfl⟩
 have bY:∀(j:Nat)(x:X),(k=.bY j x\/k=.gT j x\/k=.gW j x)->(st.rd x).gate=true->(∀v,Pl w (ae cx fp G w) (aa w st.cont vl) v (st.rd x).core->∃st' fp' G',K st'/\Hp cx st'.cont (aj (aj vl j v) (1000+st.n) undef) fp' G' w/\st'.wf/\st'.n=st.n+1/\∀i,i≠j->i<1000->st.cont i=.dead->st'.cont i=.dead) ->
   o.wp P a w (fun a' w'=>∃st',K st'/\Fm cx nt tr pre ds st' a' w'/\st'.n=st.n+1) Q:=by
  intro j x hkk hgt hstep;have hto:k.cA=some j:=by rcases hkk with rfl | rfl | rfl<;>rfl
  obtain⟨hdst,hjlt,hjp⟩:=hasg j hto;have hmem:x∈k.xs:=by rcases hkk with rfl | rfl | rfl<;>simp[Kp.xs]
  have hk':∃x',sC o.op=some x'/\aA ds tr x' x=true:=by
   rcases hkk with rfl | rfl | rfl
   all_goals
    simp only[aQ] at hk;split at hk<;>try(cases hk;done)
    exact⟨_,by assumption,hk⟩
  obtain⟨x',hop,hxx⟩:=hk';obtain⟨st',fp',G',hK,h1,h2,h3,h4⟩:=hstep (a.eval x') ((hx x hmem x' hxx).1 hgt);refine gD (qL (sD hop)) ⟨st',hK,⟨⟨_,_,_,h1,fun j' t hj' hpre=>?_,fun i t hi hit=>?_,fun k k1 k2=>by rw[av _ _ (by omega),av _ _ (by have:=hS.fD;omega)];exact hgh k k1 k2⟩,h2,fun i hi=>h4 i (by rintro rfl;rw[hi] at hjp;cases hjp) (by have:=hS.wC i hi;have:=hS.fD;omega) (h.dd i hi),?_,?_⟩,h3⟩
  ·have hj1:j'<1000:=by have:=(List.getElem?_eq_some_iff.1 hj').1;have:=hS.fD;omega
   rw[av _ _ (by omega)];have hjt:tr[j]?=some tr[j]:=List.getElem?_eq_getElem hjlt;rw[hdst,hjt];simp only[Act.put];by_cases hjj:j'=j
   ·subst hjj
    rw[hjt] at hj';injection hj' with hj'
    rw[aT,<-hj'];exact kO _ (by rw[h.size];exact hS.ON _ _ hjt)
   ·rw[av _ _ hjj,getD_set_ne _ (by rintro rfl;exact hjj (hS.OM _ _ _ hj' hjt))]
    exact htr j' t hj' hpre
  ·have hjt:tr[j]?=some tr[j]:=List.getElem?_eq_getElem hjlt
   have hne:i≠st.n:=by
    rintro rfl;rw[hd] at hit;simp[eD,hto] at hit
   rw[av _ _ (by omega),av _ _ (by have:=hS.fD;omega),hdst,hjt];simp only[Act.put]
   rw[getD_set_ne _ (by
    rintro rfl;have:=hS.apart _ _ hit j hjt
    rw[hjp] at this;cases this)]
   exact htm i t (by omega) hit
  ·cases o.dst<;>simp[Act.put,h.size]
  ·cases o.dst<;>simp[Act.put,h.defers]
 have store:∀(n:Nat)(x y:X),(k=.st x y/\n=1\/k=.gf n x y)->((st.rd x).gate&&(st.rd y).gate)=true->iD n (st.rd x).core (st.rd y).core K st->o.wp P a w (fun a' w'=>∃st',K st'/\Fm cx nt tr pre ds st' a' w'/\st'.n=st.n+1) Q:=by
  intro n x y hkk hgt hv;have hna:k.cA=none:=by rcases hkk with⟨rfl,_⟩ | rfl<;>rfl
  have hmx:x∈k.xs/\y∈k.xs:=by rcases hkk with⟨rfl,_⟩ | rfl<;>simp[Kp.xs]
  have hk':∃t x' y',o.op=.store t x' y'/\aA ds tr x' x=true/\aA ds tr y' y=true/\cC P t n=true:=by
   rcases hkk with⟨rfl,rfl⟩ | rfl
   all_goals
    simp only[aQ] at hk;split at hk<;>try(cases hk;done)
    rename_i t x' y' hop;simp only[Bool.and_eq_true] at hk;exact⟨t,x',y',Cs hop,hk.1.1,hk.1.2,hk.2⟩
  obtain⟨t,x',y',ho,hx1,hy1,hsz⟩:=hk';simp only[Bool.and_eq_true] at hgt;obtain⟨b,off,e1,e2,e3,e4,st',fp',G',h0,h1,h2,h3,h4⟩:=E4 hv hp h.wf ((hx x hmx.1 x' hx1).1 hgt.1) ((hx y hmx.2 y' hy1).1 hgt.2) undef;exact za (DH ho hsz e1 e2 e3 e4) ⟨_,h0,h.put hS (s:=⟨g0,k⟩) hd hna hlt htr htm hgh ⟨_,_,h1⟩ h2 h3 h4,h3⟩
 have storeR:∀(n:Nat)(x y:X),k=.jn n x y->((st.rd x).gate&&(st.rd y).gate)=true->lI n (st.rd x).core (st.rd y).core K st->o.wp P a w (fun a' w'=>∃st',K st'/\Fm cx nt tr pre ds st' a' w'/\st'.n=st.n+1) Q:=by
  intro n x y hkk hgt hv;have hna:k.cA=none:=by subst hkk;rfl
  have hmx:x∈k.xs/\y∈k.xs:=by subst hkk;simp[Kp.xs]
  have hk':∃t x' y',o.op=.store t x' y'/\aA ds tr x' x=true/\aA ds tr y' y=true/\cC P t n=true:=by
   subst hkk
   all_goals
    simp only[aQ] at hk;split at hk<;>try(cases hk;done)
    rename_i t x' y' hop;simp only[Bool.and_eq_true] at hk;exact⟨t,x',y',Cs hop,hk.1.1,hk.1.2,hk.2⟩
  obtain⟨t,x',y',ho,hx1,hy1,hsz⟩:=hk';simp only[Bool.and_eq_true] at hgt;obtain⟨b,off,e1,e2,e3,e4,st',fp',G',h0,h1,h2,h3,h4⟩:=Oo hv hp h.wf ((hx x hmx.1 x' hx1).1 hgt.1) ((hx y hmx.2 y' hy1).1 hgt.2) undef;exact za (DH ho hsz e1 e2 e3 e4) ⟨_,h0,h.put hS (s:=⟨g0,k⟩) hd hna hlt htr htm hgh ⟨_,_,h1⟩ h2 h3 h4,h3⟩
 cases k with
 | bY j x =>
  obtain⟨_,hgt,hv⟩:=hv;exact bY j x (.inl rfl) hgt fun v hpl=>zJ hv hp h.wf (by have:=(hasg j rfl).2.1;have:=hS.fD;omega) hpl undef
 | gT j x =>
  obtain⟨_,hgt,hv⟩:=hv;exact bY j x (.inr (.inl rfl)) hgt fun v hpl=>Ga hv hp h.wf hpl undef
 | gW j x =>
  obtain⟨_,hgt,hv⟩:=hv;exact bY j x (.inr (.inr rfl)) hgt fun v hpl=>Gb hv hp h.wf (by have:=(hasg j rfl).2.1;have:=hS.fD;omega) hpl undef
 | st x y=>exact store 1 x y (.inl ⟨rfl,rfl⟩) hv.2.1 hv.2.2
 | gf n x y=>exact store n x y (.inr rfl) hv.2.1 hv.2.2
 | jn n x y=>exact storeR n x y rfl hv.2.1 hv.2.2
 | gj f xs =>
  cases xs with
  | nil=>exact hv.elim
  | cons x0 r =>
   refine HG hp h.wf hk hx hv fun v w' st' hK hp' hwf hn hdd=>?_
   exact⟨st',hK,h.put hS (s:=⟨g0,.gj f (x0::r)⟩) hd rfl hlt htr htm hgh hp' hwf hn hdd,hn⟩
 | bo x =>
  obtain⟨_,hgt,hv⟩:=hv;simp only[aQ] at hk;split at hk<;>try(cases hk;done)
  rename_i x' hop;have hpl:=(hx x (by simp[Kp.xs]) x' hk).1 hgt;obtain⟨c,st2,fp2,G2,F,r1,r2,r3,r4,r5,r6,r7,r8⟩:=zQ hp h.wf hpl hv;have r2':Hp cx st2.cont vl fp2 F w:=r2.release r5;obtain⟨s1,s2,s3,s4⟩:=Dq r2' r7 r8 (r3.mono (Q:=fun _=>True) (fun b hb=>⟨hb.1,fun hf=>hb.2.1 (r5 b hf),hb.2.2⟩) (fun _ _=>rfl) (fun _ _=>rfl) (fun _ h=>h) (aV (fun _=>trivial) _) fun _ _ _ h=>h) r4;exact gD (qL (sD hop)) ⟨_,r1,h.put hS (s:=⟨g0,.bo x⟩) hd rfl hlt htr htm hgh s1 s2 s3 (fun i hi hdd=>s4 i hi (r6 i hdd)),s3⟩
 | jx n x =>
  obtain⟨_,hgt,hv⟩:=hv;simp only[aQ] at hk;split at hk<;>try(cases hk;done)
  rename_i e x' hop;simp only[Bool.and_eq_true] at hk;obtain⟨st',h0,h1,h2,h3,h4⟩:=Gh hv hp h.wf ((hx x (by simp[Kp.xs]) x' hk.1).1 hgt) e;exact gD (xb (vS hop)) ⟨_,h0,h.put hS (s:=⟨g0,.jx n x⟩) hd rfl hlt htr htm hgh h1 h2 h3 h4,h3⟩
 | jw z x =>
  obtain⟨_,hgt,hv⟩:=hv;simp only[aQ] at hk;split at hk<;>try(cases hk;done)
  rename_i t n' ps hop;simp only[Bool.and_eq_true,decide_eq_true_eq] at hk;obtain⟨⟨⟨⟨rfl,hk1⟩,hk2⟩,hk3⟩,hk4⟩:=hk;split at hk4<;>try(cases hk4;done)
  rename_i e he;obtain⟨i,z',h1,h2,h3,h4,h5⟩:=qM hk4;have hu:=gP he
  obtain⟨x',hps,hx'⟩:∃x',ps.toList=[(0,x')]/\aA ds tr x' x=true:=by
   have hg:=vk hk1;generalize ps.toList=pl at hg
   match pl,hg with
   | [(i,x')],hg =>
    obtain⟨h6,h7⟩:=hg.2 0 i x' 0 x rfl rfl;exact⟨x',by rw[h6],h7⟩
   | [],hg=>cases hg.1
   | _::_::_,hg=>have:=hg.1;simp at this
  obtain⟨hsz,hb⟩:=Ge hv hp h.wf ((hx x (by simp[Kp.xs]) x' hx').1 hgt) hk2 e;obtain⟨cs',f1,f2,f3⟩:=Hd (sz:=i.size) (cs:=madeCells z'.cells (1*i.size)) (v:=a.eval x') (by rw[hsz,h3]) (by simp[madeCells]);obtain⟨st',k0,k1,k2,k3,k4⟩:=hb cs' (by rw[f2,h3]) (fun j hj=>f3 j (by rw[h3];exact hj));exact gD (xa (Cm hop) hu h1 h2 (by omega) (by rw[hps];exact f1)) ⟨_,k0,h.put hS (s:=⟨g0,.jw z x⟩) hd rfl hlt htr htm hgh k1 k2 k3 k4,k3⟩
 | jR kk m k x =>
  obtain⟨_,hgt,hv⟩:=hv;simp only[aQ] at hk;split at hk<;>try(cases hk;done)
  rename_i t m' k' x' hop;have ho:=Ll hop;simp only[Bool.and_eq_true] at hk hgt;obtain⟨⟨⟨hk1,hk2⟩,hk3⟩,hk4⟩:=hk;split at hk4<;>try(cases hk4;done)
  rename_i kt et hmt;obtain⟨w',hrun,st',h0,h1,h2,h3,h4⟩:=JP hv hp h.wf ((hx m (by simp[Kp.xs]) m' hk1).1 hgt.1.1) ((hx k (by simp[Kp.xs]) k' hk2).1 hgt.1.2) ((hx x (by simp[Kp.xs]) x' hk3).1 hgt.2) (sc hmt) hk4 undef;refine za (w':=w') ?_ ⟨_,h0,h.put hS (s:=⟨g0,.jR kk m k x⟩) hd rfl hlt htr htm hgh h1 h2 h3 h4,h3⟩;simp only[execOp,ho,Sem.run_bind,Sem.run_pure,Result.andThen_ok,hrun]
 | jT j =>
  obtain⟨_,hv⟩:=hv;simp only[aQ] at hk;split at hk<;>try(cases hk;done)
  rename_i x' hop;have ho:=Ln hop;obtain⟨t,htj,rfl⟩:=HM hk;have hvt:a.eval (.tmp t)=vl j:=htr j t htj (hxs j (by simp[Kp.xs]));obtain⟨w',v,hrun,st',h0,h1,h2,h3,h4⟩:=JZ (P:=P) (ty:=o.type) hv hp h.wf;refine gD (v:=v) (w':=w') ?_ ⟨_,h0,h.put hS (s:=⟨g0,.jT j⟩) hd rfl hlt htr htm hgh h1 h2 h3 h4,h3⟩;simp only[execOp,ho,hvt,Sem.run_bind,Sem.run_pure,Result.andThen_ok,hrun]
 | cQ x y =>
  obtain⟨_,hgt,hv⟩:=hv;simp only[aQ] at hk;split at hk<;>try(cases hk;done)
  rename_i x' y' t t' hop;have ho:=lq hop;simp only[Bool.and_eq_true] at hk hgt;obtain⟨⟨hk1,hk2⟩,hk3⟩:=hk;split at hk3<;>try(cases hk3;done)
  rename_i e e' he he';obtain⟨v,w',hrun,st',h0,h1,h2,h3,h4⟩:=GS (t':=t') (ty:=o.type) hv hp h.wf ((hx x (by simp[Kp.xs]) x' hk1).1 hgt.1) ((hx y (by simp[Kp.xs]) y' hk2).1 hgt.2) (gP he) hk3;refine gD (v:=v) (w':=w') ?_ ⟨_,h0,h.put hS (s:=⟨g0,.cQ x y⟩) hd rfl hlt htr htm hgh h1 h2 h3 h4,h3⟩;simp only[execOp,ho,resolve,invoke,builtin,Sem.run_bind,Sem.run_pure,Result.andThen_ok,List.map_toArray,List.map_cons,List.map_nil,hrun]
 | dyn x xs =>
  refine Ha hp h.wf hk hx hg hv fun v w' st' hK hp' hwf hn hdd=>?_
  exact⟨st',hK,h.put hS (s:=⟨g0,.dyn x xs⟩) hd rfl hlt htr htm hgh hp' hwf hn hdd,hn⟩
 | call f xs =>
  obtain⟨dts,res,cr,hgl,hrest,hcr,hK⟩:=hv
  have hh:cW st.rd xs=true/\aD P f (dts.map .v) res/\(res.bp=true\/iy st.rd xs):=by
   cases g with
   | none=>exact hrest
   | some b=>cases b with
    | false=>exact absurd rfl hg
    | true=>exact hrest rfl
  refine zW (ob:=st.cont) hp hk hx (fun _ _=>rfl) hgl hh.1 hh.2.1 hh.2.2 g hg hcr fun v w' F hext hF hc hemp=>?_
  have h1:=hp.add hext (k:=1000+st.n) (by rw[hcd];rfl) hF hc hemp;rw[<-St.cm h.wf] at h1;exact⟨_,hK,h.put hS (s:=⟨g0,.call f xs⟩) hd rfl hlt htr htm hgh ⟨_,_,h1⟩ (St.dW h.wf _) rfl (fun i hi hd=>by rw[St.cm h.wf,av _ _ (by omega)];exact hd),rfl⟩
 | fB f xs =>
  obtain⟨rfl,hgt,c,hko,hK⟩:=hv;refine zX (ob:=st.cont) hp hk hx hgt (fun _ _=>rfl) hko fun v w' hext hc hemp=>?_
  have h1:=hp.add hext (k:=1000+st.n) (by rw[hcd];rfl) (fun _ h=>h.elim) hc (fun _ _ h=>h);rw[<-St.cm h.wf] at h1;exact⟨_,hK,h.put hS (s:=⟨g0,.fB f xs⟩) hd rfl hlt htr htm hgh ⟨_,_,h1⟩ (St.dW h.wf _) rfl (fun i hi hd=>by rw[St.cm h.wf,av _ _ (by omega)];exact hd),rfl⟩
 | app sz bytes s x =>
  obtain⟨_,hgt,hv⟩:=hv;simp only[aQ] at hk;split at hk<;>try(cases hk;done)
  rename_i s' x' t t' hop;have ho:=lq hop;simp only[Bool.and_eq_true,beq_iff_eq] at hk;obtain⟨⟨⟨hk1,hk2⟩,rfl⟩,hk3⟩:=hk;split at hk3<;>try(cases hk3;done)
  rename_i e he;simp only[Bool.and_eq_true] at hk3;obtain⟨hk4,hk5⟩:=hk3;split at hk5<;>try(cases hk5;done)
  rename_i i hi;simp only[Bool.and_eq_true,decide_eq_true_eq,Option.any_eq_true] at hk5;obtain⟨⟨⟨hsz,hby⟩,hisz⟩,z,hz,hzs⟩:=hk5
  have hbi:i.bytes=bytes:=by
   unfold l7 at hk4;rw[hi] at hk4;simpa using hk4
  have ht:=gP he;simp only[Bool.and_eq_true] at hgt;obtain⟨v',w',hrun,st',fp',G',h0,h1,h2,h3,h4⟩:=F3 (ty:=o.type) hv hp h.wf ((hx s (by simp[Kp.xs]) s' hk1).1 hgt.1) ((hx x (by simp[Kp.xs]) x' hk2).1 hgt.2) ht hi hz hzs hisz hsz hbi hby;refine gD (v:=v') (w':=w') ?_ ⟨_,h0,h.put hS (s:=⟨g0,.app sz bytes s x⟩) hd rfl hlt htr htm hgh ⟨_,_,h1⟩ h2 h3 h4,h3⟩;simp only[execOp,ho,resolve,invoke,builtin,Sem.run_bind,Sem.run_pure,Result.andThen_ok,List.map_toArray,List.map_cons,List.map_nil,hrun]
 | dw sz bytes b s =>
  obtain⟨_,hv⟩:=hv;simp only[aQ] at hk;split at hk<;>try(cases hk;done)
  rename_i s' x' t t' hop;have ho:=lq hop;simp only[Bool.and_eq_true,beq_iff_eq] at hk;obtain⟨⟨⟨hk1,hk2⟩,rfl⟩,hk3⟩:=hk;split at hk3<;>try(cases hk3;done)
  rename_i e he;simp only[Bool.and_eq_true] at hk3;obtain⟨hk4,hk5⟩:=hk3;split at hk5<;>try(cases hk5;done)
  rename_i i hi;simp only[Bool.and_eq_true,decide_eq_true_eq,Option.any_eq_true] at hk5;obtain⟨⟨⟨hsz,hby⟩,hisz⟩,z,hz,hzs⟩:=hk5
  have hbi:i.bytes=bytes:=by
   unfold l7 at hk4;rw[hi] at hk4;simpa using hk4
  have ht:=gP he;obtain⟨rfl,c,hf,_,hK⟩:=zx hv
  have hin:st.in (1000+b):=Classical.byContradiction fun hn=>by
   obtain⟨y,_,_,_,h1,_⟩:=hf;rw[St.bZ hn] at h1;cases h1
  have hbn:b<st.n:=by rcases hin with h1 | h1<;>omega
  have hcp:=St.c7 h.wf hin (c:=.dead);have hwp:(st.put (1000+b) .dead).wf:=St.dM h.wf _ _;have hnp:(st.put (1000+b) .dead).n=st.n:=by unfold St.put;split<;>first | rfl | (split<;>rfl)
  obtain⟨v',w',hrun,fp',G',hp'⟩:=zu (ty:=o.type) (ke:=1000+st.n) hp hf hcd ht hi hz hzs hisz hbi hby;have hc2:((st.put (1000+b) .dead).push c).cont=aj (aj st.cont (1000+b) .dead) (1000+st.n) c:=by rw[St.cm hwp,hnp,hcp]
  rw[<-hc2] at hp';have hvb:(a.eval s')=vl (1000+b):=rQ hk1 fun t=>htm b t (hreads b (by simp[Kp.reads]))
  have hvs:(a.eval x')=vl (1000+s):=rQ hk2 fun t=>htm s t (hreads s (by simp[Kp.reads]))
  refine gD (v:=v') (w':=w') ?_ ⟨_,hK,h.put hS (s:=⟨g0,.dw 1 bytes b s⟩) hd rfl hlt htr htm hgh ⟨_,_,hp'⟩ (St.dW hwp _) (by show(st.put _ _).n+1=_;rw[hnp]) (fun i hi hd=>by rw[hc2,av _ _ (by omega),av _ _ (by omega)];exact hd),by show(st.put _ _).n+1=_;rw[hnp]⟩;rw[<-hvb,<-hvs] at hrun;simp only[execOp,ho,resolve,invoke,builtin,Sem.run_bind,Sem.run_pure,Result.andThen_ok,List.map_toArray,List.map_cons,List.map_nil,hrun]
 | box n x=>exact new rfl hv
 | eK n x=>exact new rfl hv
 | dO zs=>exact new rfl hv
 | al z b l c=>exact new rfl hv
 | fk=>exact new rfl hv
 | fq x=>exact new rfl hv
 | fg x=>exact new rfl hv
 | dP z n ps=>exact new rfl hv
 | _=>exact pure rfl hv
theorem E3[Mode](hS:gQ nt tr pre ds)(h:Fm cx nt tr pre ds st a w){s:aO}(hd:ds[st.n]?=some (eD o s))(hna:s.k.cA=none)(hlt:∀t,o.dst=some t->t<nt)
  {K:St->Prop} (hv:aZ P s.k (some false) K st):∃st',K st'/\Fm cx nt tr pre ds st' (a.put o.dst undef) w/\st'.n=st.n+1:=by
 obtain⟨vl,fp,G,hp,htr,htm,hgh⟩:=h.ex;obtain⟨g0,k⟩:=s
 have done:∀d,K (st.push (.when false d))->∃st',K st'/\Fm cx nt tr pre ds st' (a.put o.dst undef) w/\st'.n=st.n+1:=by
  intro d hK;obtain⟨h1,h2,h3,h4⟩:=CQ (v:=undef) hp h.wf (Ft (d:=d));exact⟨_,hK,h.put hS hd hna hlt htr htm hgh h1 h2 h3 h4,h3⟩
 have pure:fJ (bn k st.rd st.cont) (some false) K st->∃st',K st'/\Fm cx nt tr pre ds st' (a.put o.dst undef) w/\st'.n=st.n+1:=by
  intro hv;unfold fJ at hv;split at hv
  ·exact done _ hv.2
  ·exact done _ hv.2.2
 have new:eh (bJ k st.rd) (some false) K st->∃st',K st'/\Fm cx nt tr pre ds st' (a.put o.dst undef) w/\st'.n=st.n+1:=by
  intro hv;exact hv.elim
 cases k with
 | bY j x=>cases hv.1
 | gT j x=>cases hv.1
 | gW j x=>cases hv.1
 | st x y=>cases hv.1
 | gf n x y=>cases hv.1
 | jn n x y=>cases hv.1
 | app sz bytes s x=>cases hv.1
 | gj f xs =>
  cases xs with
  | nil=>exact hv.elim
  | cons x0 r=>cases hv.1
 | dyn x xs =>
  have hv:@gX _ P (st.rd x).core (dL st.rd xs) (cW st.rd (x::xs)) (some false) ⟨K⟩ st:=hv;exact done _ hv
 | bo x=>cases hv.1
 | cQ x y=>cases hv.1
 | jR kk m k v=>cases hv.1
 | fk=>exact new hv
 | fq x=>exact new hv
 | fg x=>exact new hv
 | jT j=>cases hv.1
 | dw sz bytes b s=>cases hv.1
 | jx n x=>cases hv.1
 | jw z x=>cases hv.1
 | fB f xs=>cases hv.1
 | call f xs =>
  obtain⟨dts,res,_,hgl,hrest,rfl | rfl,hK⟩:=hv<;>exact done _ hK
 | box n x=>exact new hv
 | eK n x=>exact new hv
 | dO zs=>exact new hv
 | al z b l c=>exact new hv
 | dP z n ps=>exact new hv
 | _=>exact pure hv
end
end Go.D3
namespace Go.D3
open Go
section
variable{P:Program}{cx:Ctx}{vl:Nat->Value}{fp:Nat->Nat->Prop}{G:Nat->Prop}{w:World}
theorem pf[Mode]:∀(pre:List Nat){st:St}{fp:Nat->Nat->Prop}{G:Nat->Prop},Hp cx st.cont vl fp G w->st.wf ->
  ∃fp' G',Hp cx (bF pre st).cont vl fp' G' w/\(bF pre st).wf/\(bF pre st).n=st.n/\(∀i,st.cont i=.dead->(bF pre st).cont i=.dead)/\∀j,j∈pre->(bF pre st).cont j=.dead
 | [],st,fp,G,h,hw=>⟨fp,G,h,hw,rfl,fun _ h=>h,fun j hj=>by cases hj⟩
 | j::r,st,fp,G,h,hw=>by
  obtain⟨fp1,G1,h1,h2,h3,h4⟩:=qp (j:=j) (v:=vl j) (c:=.dead) (F:=fun _=>False) h hw (fun _ h=>h.elim) (show Pl _ _ _ _ _ from Pl.dead) trivial (fun _ _ h=>h);rw[qI] at h1
  have hd:((st.kill (aP j)).put j .dead).cont j=.dead:=by
   by_cases hin:(st.kill (aP j)).in j
   ·rw[St.c7 (St.eW hw _) hin,aT]
   ·rw[St.nI hin,St.bZ hin]
  obtain⟨fp2,G2,k1,k2,k3,k4,k5⟩:=pf r h1 h2;refine⟨fp2,G2,k1,k2,k3.trans h3,fun i hi=>k4 i ?_,fun i hi=>?_⟩
  ·by_cases hij:i=j
   ·subst hij;exact hd
   ·exact h4 i hij hi
  ·rcases List.mem_cons.1 hi with rfl | hi
   ·exact k4 _ hd
   ·exact k5 i hi
theorem Hp.clear[Mode]{ct:Nat->D}(h:Hp cx ct vl fp G w)(S:Nat->Prop)[DecidablePred S](hno:∀j,¬S j->(ct j).refs fun d=>∀k,S k->bO k d) :
  ∃fp' G',Hp cx (fun k=>if S k then .dead else ct k) vl fp' G' w:=by
 refine⟨fun k b=>¬S k/\fp k b,fun b=>G b\/∃k,S k/\fp k b,?_⟩
 have aI:∀b,ae cx fp G w b->ae cx (fun k b=>¬S k/\fp k b) (fun b=>G b\/∃k,S k/\fp k b) w b:=by
  rintro b ⟨h1,h2,h3⟩;exact⟨h1,fun hg=>hg.elim h2 fun⟨k,_,hk⟩=>h3 k hk,fun j hj=>h3 j hj.2⟩
 have hkeep:∀d,(∀k,S k->bO k d)->cd w w ct (fun k=>if S k then .dead else ct k) vl vl d:=by
  intro d hd;cases d<;>try trivial
  all_goals
   rename_i j p;intro hp;have hj:¬S j:=fun hs=>hd j hs rfl
   simp only[if_neg hj];exact⟨hp,trivial⟩
 refine⟨fun j=>?_,fun i j hij b hi hj=>h.bk i j hij b hi.2 hj.2,fun j b hj hg=>?_,fun j hj b hb=>?_,fun j b hj=>h.lt j b hj.2,fun b hb=>hb.elim (h.bd b) fun⟨k,_,hk⟩=>h.lt k b hk,h.size,h.same,h.os,h.tape,h.output⟩
 ·by_cases hs:S j
  ·simp only[if_pos hs];exact Pl.dead
  ·simp only[if_neg hs]
   exact(h.ok j).mono aI (fun _ _=>rfl) (fun _ _=>rfl) (fun b hb=>⟨hs,hb⟩) (hno j hs) fun v d hq hr=>hr.bu (cn hkeep hq)
 ·exact hg.elim (h.bh j b hj.2) fun⟨k,hk,hkb⟩=>h.bk j k (by rintro rfl;exact hj.1 hk) b hj.2 hkb
 ·by_cases hs:S j
  ·exact hb.1 hs
  ·rw[if_neg hs] at hj;exact h.emp j hj b hb.2
theorem HY{Q:D->Prop}(q:D->Bool){c:D}(h:c.refs Q):(c.kill q).refs Q:=by
 induction c using D.ind with
 | agg l ih | au l ih | box l ih | fn _ l ih =>
  simp only[D.kill,D.refs,c6,bf,List.mem_map] at h|-
  rintro _ ⟨y,hy,rfl⟩;exact ih y hy (h y hy)
 | row z l _ ih =>
  simp only[D.kill,D.refs,c6,bf,List.mem_map] at h|-
  rintro _ ⟨y,hy,rfl⟩;exact ih y hy (h y hy)
 | when g x ih=>exact ih h
 | sub a b=>simp only[D.kill];split<;>first | trivial | exact h
 | aq a b=>simp only[D.kill];split<;>first | trivial | exact h
 | pre a b n=>simp only[D.kill];split<;>first | trivial | exact h
 | _=>trivial
theorem Ji[Mode]{st:St}(h:Hp cx st.cont vl fp G w)(hw:st.wf){j k:Nat}(hjk:j≠k) :
  let st1:=(st.kill (aP j)).kill (aP k);let st2:=(st1.put j (st1.cont k)).put k .dead
  ∃fp' G',Hp cx st2.cont (aj vl j (vl k)) fp' G' w/\st2.wf/\st2.n=st.n/\∀i,i≠j->st.cont i=.dead->st2.cont i=.dead:=by
 intro st1 st2
 have h1:Hp cx st1.cont vl fp G w:=by
  have:=(h.kill (aP j));rw[<-St.b9] at this;have:=this.kill (aP k);rw[<-St.b9] at this;exact this
 have hw1:st1.wf:=St.eW (St.eW hw _) _
 have hrk:∀i,(st1.cont i).refs (bO k):=fun i=>by
  show(((st.kill (aP j)).kill (aP k)).cont i).refs _;rw[St.b9];exact cn (fun d hd=>by cases d<;>simp_all[aP,bO]) (gr (aP k) _)
 have hrj:∀i,(st1.cont i).refs (bO j):=fun i=>by
  show(((st.kill (aP j)).kill (aP k)).cont i).refs _;rw[St.b9];exact HY _ (by rw[St.b9];exact cn (fun d hd=>by cases d<;>simp_all[aP,bO]) (gr (aP j) _))
 have h2:=(h1.drop j hrj (vl j));rw[qI] at h2
 have h3:=h2.drop k (fun i=>by
  by_cases hij:i=j
  ·subst hij;rw[aT];trivial
  ·rw[av _ _ hij];exact hrk i) (vl k)
 rw[qI] at h3
 have aI:∀b,ae cx fp G w b->ae cx (aj (aj fp j fun _=>False) k fun _=>False) (fun b=>(G b\/fp j b)\/aj fp j (fun _=>False) k b) w b:=by
  rintro b ⟨q1,q2,q3⟩;refine⟨q1,fun hg=>?_,fun i hi=>?_⟩
  ·rcases hg with(hg | hg) | hg
   ·exact q2 hg
   ·exact q3 j hg
   ·rw[av _ _ (Ne.symm hjk)] at hg;exact q3 k hg
  ·by_cases hik:i=k
   ·subst hik;rw[aT] at hi;exact hi
   ·rw[av _ _ hik] at hi
    by_cases hij:i=j
    ·subst hij;rw[aT] at hi;exact hi
    ·rw[av _ _ hij] at hi;exact q3 i hi
 have key:∀c,(c=st1.cont k\/c=.dead)->∃fp' G',Hp cx (aj (aj (aj st1.cont j .dead) k .dead) j c) (aj vl j (vl k)) fp' G' w:=by
  intro c hc
  have hcok:∃F,(∀b,F b->fp k b)/\az w (ae cx fp G w) (aa w st1.cont vl) (vl k) F c/\(c.isObj=false->∀b,¬F b)/\c.refs (fun d=>bO j d/\bO k d):=by
   rcases hc with rfl | rfl
   ·exact⟨fp k,fun _ h=>h,h1.ok k,h1.emp k,Mm (hrj k) (hrk k)⟩
   ·exact⟨fun _=>False,fun _ h=>h.elim,show Pl _ _ _ _ _ from Pl.dead,fun _ _ h=>h,trivial⟩
  obtain⟨F,f1,f2,f3,f4⟩:=hcok
  refine⟨_,fun _=>False,h3.put (k:=j) (v:=vl k) (c:=c) (F:=F) (by rw[av _ _ hjk,aT];rfl)
   (f2.mono aI (fun _ _=>rfl) (fun _ _=>rfl) (fun _ h=>h) f4 fun v d hq hr=>hr.bu (cn (fun q hq=>by
     cases q<;>try trivial
     all_goals
      rename_i i p;intro hp;have n1:i≠j:=hq.1;have n2:i≠k:=hq.2;simp only[av _ _ n1,av _ _ n2]
      exact⟨hp,trivial⟩) hq))
   (fun b hb=>.inr (by rw[av _ _ (Ne.symm hjk)];exact f1 b hb)) (fun _ h=>h.elim) (fun _ _ h=>h) f3⟩
 have hcont:∃c,(c=st1.cont k\/c=.dead)/\st2.cont=aj (aj (aj st1.cont j .dead) k .dead) j c:=by
  have hwp:(st1.put j (st1.cont k)).wf:=St.dM hw1 _ _
  have hk2:∀{s:St},s.wf->(s.put k .dead).cont=aj s.cont k .dead:=by
   intro s hs;by_cases hin:s.in k
   ·exact St.c7 hs hin _
   ·rw[St.nI hin];funext i;simp only[aj];split
    ·subst_vars;exact St.bZ hin
    ·rfl
  by_cases hin:st1.in j
  ·refine⟨_,.inl rfl,?_⟩
   show((st1.put j (st1.cont k)).put k .dead).cont=_;rw[hk2 hwp,St.c7 hw1 hin];funext i;simp only[aj];by_cases hik:i=k
   ·subst hik;rw[if_pos rfl,if_neg (Ne.symm hjk),if_pos rfl]
   ·by_cases hij:i=j
    ·subst hij;simp[hik]
    ·simp[hik,hij]
  ·refine⟨_,.inr rfl,?_⟩
   show((st1.put j (st1.cont k)).put k .dead).cont=_;rw[hk2 hwp,St.nI hin];funext i;simp only[aj];by_cases hik:i=k
   ·subst hik;rw[if_pos rfl,if_neg (Ne.symm hjk),if_pos rfl]
   ·by_cases hij:i=j
    ·subst hij;simp[hik,St.bZ hin]
    ·simp[hik,hij]
 obtain⟨c,hc,hcc⟩:=hcont;obtain⟨fp',G',hh⟩:=key c hc;rw[<-hcc] at hh;refine⟨fp',G',hh,St.dM (St.dM hw1 _ _) _ _,?_,fun i hi hd=>?_⟩
 case refine_2 =>
  rw[hcc,av _ _ hi];by_cases hik:i=k
  ·subst hik;exact aT _ _ _
  ·rw[av _ _ hik,av _ _ hi];exact St.gn _ (St.gn _ hd)
 show((st1.put j (st1.cont k)).put k .dead).n=st.n;rw[St.ew,St.ew];rfl
theorem Cx[Mode]{st st1:St}{i:Nat}{x:D}{fp1:Nat->Nat->Prop}{G1 F:Nat->Prop}(h2:Tk cx w vl st fp G st1 fp1 G1 F)(h3:af w (ae cx fp1 G1 w) (vl (1000+i)) x F) :
  ∃fp' G',Hp cx ((st1.kill (aP (1000+i))).put (1000+i) (aJ x)).cont vl fp' G' w/\((st1.kill (aP (1000+i))).put (1000+i) (aJ x)).wf/\((st1.kill (aP (1000+i))).put (1000+i) (aJ x)).n=st.n /\
   ∀k,k<1000->st.cont k=.dead->((st1.kill (aP (1000+i))).put (1000+i) (aJ x)).cont k=.dead:=by
 obtain⟨c1,c2⟩:=kG (R:=aa w (st1.kill (aP (1000+i))).cont vl) h3;have hcr:(aJ x).refs (bO (1000+i)):=uB h3 _
 have key:∃F',(∀b,F' b->G1 b)/\az w (ae cx fp1 G1 w) (aa w (st1.kill (aP (1000+i))).cont vl) (vl (1000+i)) F' (aJ x)/\((aJ x).isObj=false->∀b,¬F' b):=by
  by_cases ho:(aJ x).isObj=true
  ·exact⟨F,fun b hb=>(h2.hF b hb).1,c1,fun hh=>by rw[ho] at hh;cases hh⟩
  ·exact⟨fun _=>False,fun _ h=>h.elim,c2 (by simpa using ho),fun _ _ h=>h⟩
 obtain⟨F',k1,k2,k3⟩:=key;obtain⟨fp2,G2,k4,k5,k6,k6'⟩:=qp h2.hp h2.wf k1 k2 hcr k3;rw[qI] at k4;exact⟨fp2,G2,k4,k5,k6.trans h2.n,fun j hj hd=>k6' j (by omega) (h2.dd j hd)⟩
theorem Lw[Mode]{st:St}{i:Nat}(h:Hp cx st.cont vl fp G w)(hw:st.wf):∃fp' G',Hp cx (ix i (st.cont (1000+i)) st).cont vl fp' G' w/\(ix i (st.cont (1000+i)) st).wf/\(ix i (st.cont (1000+i)) st).n=st.n /\
  ∀k,k<1000->st.cont k=.dead->(ix i (st.cont (1000+i)) st).cont k=.dead:=by
 have same:∃fp' G',Hp cx st.cont vl fp' G' w/\st.wf/\st.n=st.n/\∀k,k<1000->st.cont k=.dead->st.cont k=.dead:=⟨fp,G,h,hw,rfl,fun _ _ h=>h⟩;cases hc:st.cont (1000+i)<;>try exact same
 rename_i k p
 have hv:Pl w (ae cx fp G w) (aa w st.cont vl) (vl (1000+i)) (.sub k p):=by
  have:=h.ok (1000+i);rw[hc] at this;exact this
 cases p with
 | nil =>
  unfold ix;dsimp only;by_cases hk : 1000<=k
  ·rw[if_pos hk]
   cases hx:(st.cont k).gB with
   | none=>exact same
   | some x =>
    obtain⟨y,st1,fp1,G1,F,⟨rfl,rfl⟩,h2,h3,h4,-,-⟩:=qS (.sub k []) (K:=fun d st'=>d=x/\st'=(st.kill (aP k)).put k .dead) (by show b7 (st.cont k).gB _;rw[hx];exact⟨rfl,rfl⟩) h hw (fun _ h=>h) hv;exact Cx h2 h3
  ·rw[if_neg hk];exact same
 | cons s p =>
  unfold ix;dsimp only;by_cases hk : 1000<=k
  ·rw[if_pos hk]
   obtain⟨y,st1,fp1,G1,F,⟨rfl,rfl⟩,h2,h3,h4,-,-⟩:=qS (.sub k (s::p)) (K:=fun d st'=>d=(st.cont k).a8 (s::p)/\st'=(st.kill (bt k (s::p))).put k (((st.kill (bt k (s::p))).cont k).hole (s::p))) ⟨rfl,rfl⟩ h hw (fun _ h=>h) hv;exact Cx h2 h3
  ·rw[if_neg hk];exact same
theorem Cw[Mode]:∀(post:List (Nat×Nat)){st:St}{fp:Nat->Nat->Prop}{G:Nat->Prop},Hp cx st.cont vl fp G w->st.wf->∃fp' G',Hp cx (gx post st).cont vl fp' G' w/\(gx post st).wf/\(gx post st).n=st.n/\∀k,k<1000->st.cont k=.dead->(gx post st).cont k=.dead
 | [],st,fp,G,h,hw=>⟨fp,G,h,hw,rfl,fun _ _ h=>h⟩
 | (j,i)::r,st,fp,G,h,hw=>by
  obtain⟨fp1,G1,h1,h2,h3,h4⟩:=Lw (i:=i) h hw;obtain⟨fp2,G2,k1,k2,k3,k4⟩:=Cw r h1 h2;exact⟨fp2,G2,k1,k2,k3.trans h3,fun k hk hd=>k4 k hk (h4 k hk hd)⟩
theorem AB[Mode]:∀(post:List (Nat×Nat)){st:St}{vl:Nat->Value}{fp:Nat->Nat->Prop}{G:Nat->Prop},Hp cx st.cont vl fp G w->st.wf->(∀p∈post,p.1<1000)->(post.map (·.1)).Nodup ->
  ∃vl' fp' G',Hp cx (gZ post st).cont vl' fp' G' w/\(∀k,k ∉ post.map (·.1)->vl' k=vl k)/\(∀p∈post,vl' p.1=vl (1000+p.2))/\∀k,k ∉ post.map (·.1)->st.cont k=.dead->(gZ post st).cont k=.dead
 | [],st,vl,fp,G,h,hw,_,_=>⟨vl,fp,G,h,fun _ _=>rfl,(fun p hp=>absurd hp (by simp)),fun _ _ h=>h⟩
 | (j,i)::r,st,vl,fp,G,h,hw,hlt,hnd=>by
  have hj:j<1000:=hlt (j,i) (by simp);obtain⟨fp1,G1,h1,h2,h3,h4⟩:=Ji h hw (j:=j) (k:=1000+i) (by omega);simp only[List.map_cons,List.nodup_cons] at hnd;obtain⟨vl',fp',G',k1,k2,k3,k4⟩:=AB r h1 h2 (fun p hp=>hlt p (by simp[hp])) hnd.2;refine⟨vl',fp',G',k1,fun k hk=>?_,fun p hp=>?_,fun k hk hd=>?_⟩
  ·simp only[List.map_cons,List.mem_cons,not_or] at hk
   rw[k2 k hk.2,av _ _ hk.1]
  ·rcases List.mem_cons.1 hp with rfl | hp
   ·rw[k2 _ hnd.1,aT]
   ·rw[k3 p hp,av _ _ (by omega)]
  ·simp only[List.map_cons,List.mem_cons,not_or] at hk
   exact k4 k hk.2 (h4 k hk.1 hd)
theorem Hp.Ny[Mode]{ct:Nat->D}{vl':Nat->Value}(h:Hp cx ct vl fp G w)(he:∀k,ct k≠.dead->vl' k=vl k):Hp cx ct vl' fp G w:=by
 refine⟨fun j=>?_,h.bk,h.bh,h.emp,h.lt,h.bd,h.size,h.same,h.os,h.tape,h.output⟩;by_cases hd:ct j=.dead
 ·rw[hd];exact Pl.dead
 ·rw[he j hd]
  refine(h.ok j).mono (Q:=fun _=>True) (fun _ h=>h) (fun _ _=>rfl) (fun _ _=>rfl) (fun _ h=>h) (aV (fun _=>trivial) _) fun v d _ hr=>hr.bu (aV (fun q=>?_) _)
  cases q<;>try trivial
  case sub k p=>exact fun hp=>⟨hp,by rw[he k (by rintro hh;rw[hh] at hp;exact hp.1.elim)]⟩
  case aq k p=>exact fun hp=>⟨hp,by rw[he k (by rintro hh;rw[hh] at hp;exact hp.elim)]⟩
theorem He[Mode]{st:St}(h:Hp cx st.cont vl fp G w):∃fp' G',Hp cx (⟨(st.kill ej).env,0,[]⟩:St).cont vl fp' G' w:=by
 have h1:=h.kill ej;rw[<-St.b9] at h1
 obtain⟨fp',G',h2⟩:=h1.clear (fun k=>1000<=k) (fun j _=>by
  rw[St.b9]
  exact cn (fun d hd=>by
   intro k hk;cases d<;>try trivial
   all_goals
    simp only[ej,decide_eq_false_iff_not] at hd
    simp only[bO];omega) (gr ej _))
 refine⟨fp',G',?_⟩
 have e:(fun k=>if 1000<=k then D.dead else(st.kill ej).cont k)=(⟨(st.kill ej).env,0,[]⟩:St).cont:=by
  funext k;by_cases hk:k<1000
  ·rw[if_neg (by omega)]
   show(if k<1000 then nth (st.kill ej).env k else _)=(if k<1000 then nth (st.kill ej).env k else _);rw[if_pos hk,if_pos hk]
  ·rw[if_pos (by omega)]
   show _=(if k<1000 then nth (st.kill ej).env k else if k<1000+0 then nth [] _ else D.dead);rw[if_neg hk,if_neg (by omega)]
 rw[<-e];exact h2
theorem sT[Mode]{nt:Nat}{tr pre:List Nat}{ds ds':List (Option Nat)}{post:List (Nat×Nat)}{st:St}{a:Act}(hS:gQ nt tr pre ds)(h:Fm cx nt tr pre ds st a w)(hn:ds.length=st.n)
  (hpost:∀p∈post,∃t,tr[p.1]?=some t/\ds[p.2]?=some (some t)) (hnd:(post.map (·.1)).Nodup):Fm cx nt tr [] ds' ⟨fin post st,0,[]⟩ a w:=by
 obtain⟨vl,fp,G,hp,htr,htm,hgh⟩:=h.ex
 have hlt5:∀p∈post,p.1<tr.length:=fun p hp=>by
  obtain⟨t,ht,_⟩:=hpost p hp;exact(List.getElem?_eq_some_iff.1 ht).1
 have hlt:∀p∈post,p.1<1000:=fun p hp=>by
  obtain⟨t,ht,_⟩:=hpost p hp;have:=(List.getElem?_eq_some_iff.1 ht).1;have:=hS.fD;omega
 obtain⟨fp0,G0,o1,o2,o3,o4⟩:=Cw post hp h.wf;obtain⟨vl',fp',G',h1,h2,h3,h4⟩:=AB post o1 o2 hlt hnd;obtain⟨fp2,G2,h5⟩:=He h1;let vl2:Nat->Value:=fun k=>match tr[k]? with | some t=>a.tmps.getD t undef | none=>vl' k
 have h6:Hp cx (⟨fin post st,0,[]⟩:St).cont vl2 fp2 G2 w:=by
  refine h5.Ny fun k hk=>?_
  show(match tr[k]? with | some t=>a.tmps.getD t undef | none=>vl' k)=vl' k;cases ht:tr[k]? with
  | none=>rfl
  | some t =>
   show a.tmps.getD t undef=vl' k;have hk1:k<1000:=by have:=(List.getElem?_eq_some_iff.1 ht).1;have:=hS.fD;omega
   by_cases hkp:k∈post.map (·.1)
   ·obtain⟨p,hp1,rfl⟩:=List.mem_map.1 hkp
    obtain⟨t',e1,e2⟩:=hpost p hp1;rw[e1] at ht;injection ht with ht
    subst ht;rw[h3 p hp1];exact htm p.2 t' (by have:=(List.getElem?_eq_some_iff.1 e2).1;omega) e2
   ·rw[h2 k hkp]
    by_cases hpre:pre.contains k=true
    ·exfalso
     apply hk;have hdead:=h4 k hkp (o4 k hk1 (h.dd k hpre));have hdk:=St.gn ej hdead;show(if k<1000 then nth ((gZ post (gx post st)).kill ej).env k else _)=D.dead;rw[if_pos hk1];have:(if k<1000 then nth ((gZ post (gx post st)).kill ej).env k else if k<1000+((gZ post (gx post st)).kill ej).n then nth ((gZ post (gx post st)).kill ej).tmp (999+((gZ post (gx post st)).kill ej).n-k) else D.dead)=D.dead:=hdk;rw[if_pos hk1] at this;exact this
    ·exact htr k t ht (by simpa using hpre)
 refine⟨⟨vl2,fp2,G2,h6,fun j t hj _=>?_,fun i t hi _=>by simp at hi,fun k k1 k2=>?_⟩,rfl,fun j hj=>by simp at hj,h.size,h.defers⟩
 ·show a.tmps.getD t undef=(match tr[j]? with | some t=>a.tmps.getD t undef | none=>vl' j)
  rw[hj]
 ·show(match tr[k]? with | some t=>a.tmps.getD t undef | none=>vl' k)=_
  have hnone:tr[k]?=none:=List.getElem?_eq_none (by have:=hS.fD;omega);rw[hnone];show vl' k=_;rw[h2 k (fun hk=>by obtain⟨p,hp1,rfl⟩:=List.mem_map.1 hk;have:=hlt5 p hp1;omega)];exact hgh k k1 k2
end
end Go.D3
