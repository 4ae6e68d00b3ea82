/- CALLS WHOSE FIRST ARGUMENT GOES IN AND OUT. Generic. -/
import Derived.Test.YtaknpcdnmecblaaHC
import Derived.Laws.IdiomCopy
import Derived.Deep.Upon
import Derived.Deep.AppendSrc
namespace Go.D3
open Go
theorem ln:∀(l:List D)(i j:Nat)(x:D),nth (cL l i x) j=if j=i/\i<l.length then x else nth l j
 | [],i,j,x=>by simp[cL]
 | a::l,0,0,x=>by simp[cL,nth]
 | a::l,0,j+1,x=>by simp[cL,nth]
 | a::l,i+1,0,x=>by simp[cL,nth]
 | a::l,i+1,j+1,x=>by simp[cL,nth,ln l i j x]
theorem vI(q:D->Bool):∀(l:List D)(i:Nat),nth (dq q l) i=(nth l i).kill q
 | [],_=>rfl
 | _::_,0=>rfl
 | _::l,i+1=>vI q l i
theorem xu:∀(l:List D)(i:Nat)(x:D),(cL l i x).length=l.length
 | [],_,_=>rfl
 | _::_,0,_=>rfl
 | _::l,i+1,x=>by simp[cL,xu l i x]
theorem jN(q:D->Bool)(l:List D):(dq q l).length=l.length:=by simp[c6]
def St.wf(st:St):Prop:=st.tmp.length=st.n
def St.in(st:St)(k:Nat):Prop:=(k<1000/\k<st.env.length)\/(1000<=k/\k<1000+st.n)
theorem St.b9(st:St)(q:D->Bool):(st.kill q).cont=fun k=>(st.cont k).kill q:=by
 funext k;show(if k<1000 then nth (dq q st.env) k else if k<1000+st.n then nth (dq q st.tmp) (999+st.n-k) else D.dead)=(if k<1000 then nth st.env k else if k<1000+st.n then nth st.tmp (999+st.n-k) else D.dead).kill q;by_cases h:k<1000
 ·rw[if_pos h,if_pos h];exact vI q _ _
 ·rw[if_neg h,if_neg h]
  by_cases h':k<1000+st.n
  ·rw[if_pos h',if_pos h'];exact vI q _ _
  ·rw[if_neg h',if_neg h'];rfl
theorem St.gn{st:St}{i:Nat}(q:D->Bool)(h:st.cont i=.dead):(st.kill q).cont i=.dead:=by
 rw[St.b9];show(st.cont i).kill q=.dead;rw[h];rfl
theorem fX:∀(l:List D)(i:Nat),l.length<=i->nth l i=.dead
 | [],_,_=>rfl
 | a::l,0,h=>by simp at h
 | a::l,i+1,h=>fX l i (by simpa using h)
theorem St.bZ{st:St}{k:Nat}(hk:¬st.in k):st.cont k=.dead:=by
 simp only[St.in,not_or,not_and] at hk;simp only[St.cont];split
 ·rename_i h;exact fX _ _ (by have:=hk.1 h;omega)
 ·split
  ·rename_i h h';exact absurd h' (hk.2 (by omega))
  ·rfl
theorem St.c7{st:St}(hw:st.wf){k:Nat}(hk:st.in k)(c:D):(st.put k c).cont=aj st.cont k c:=by
 have hw':st.tmp.length=st.n:=hw;funext j;simp only[aj];rcases hk with⟨h1,h2⟩ | ⟨h1,h2⟩
 ·simp only[St.put,if_pos h1,St.cont]
  by_cases hj:j<1000
  ·simp only[if_pos hj,ln]
   by_cases hjk:j=k
   ·simp[hjk,h2]
   ·simp[hjk]
  ·simp only[if_neg hj]
   rw[if_neg (show ¬j=k by omega)]
 ·simp only[St.put,if_neg (show ¬k<1000 by omega),if_pos h2,St.cont]
  by_cases hj:j<1000
  ·simp only[if_pos hj]
   rw[if_neg (show ¬j=k by omega)]
  ·simp only[if_neg hj]
   by_cases hjn:j<1000+st.n
   ·simp only[if_pos hjn,ln]
    by_cases hjk:j=k
    ·subst hjk
     rw[if_pos ⟨rfl,by omega⟩,if_pos rfl]
    ·rw[if_neg (by omega),if_neg hjk]
   ·simp only[if_neg hjn]
    rw[if_neg (show ¬j=k by omega)]
theorem St.nI{st:St}{k:Nat}(hk:¬st.in k)(c:D):(st.put k c).cont=st.cont:=by
 simp only[St.in,not_or,not_and] at hk;funext j;simp only[St.put];split
 ·rename_i h
  simp only[St.cont];split
  ·rw[ln,if_neg]
   intro hh;exact absurd hh.2 (hk.1 h)
  ·rfl
 ·split
  ·rename_i h h';exact absurd h' (hk.2 (by omega))
  ·rfl
theorem St.cm{st:St}(hw:st.wf)(c:D):(st.push c).cont=aj st.cont (1000+st.n) c:=by
 have hw':st.tmp.length=st.n:=hw;funext j;show(if j<1000 then nth st.env j else if j<1000+(st.n+1) then nth (c::st.tmp) (999+(st.n+1)-j) else D.dead)=if j=1000+st.n then c else if j<1000 then nth st.env j else if j<1000+st.n then nth st.tmp (999+st.n-j) else D.dead
 by_cases hj:j<1000
 ·rw[if_pos hj,if_pos hj,if_neg (show ¬j=1000+st.n by omega)]
 ·rw[if_neg hj,if_neg hj]
  by_cases hjn:j=1000+st.n
  ·subst hjn
   rw[if_pos rfl,if_pos (by omega),show 999+(st.n+1)-(1000+st.n)=0 by omega];rfl
  ·rw[if_neg hjn]
   by_cases hlt:j<1000+st.n
   ·rw[if_pos hlt,if_pos (by omega),show 999+(st.n+1)-j=(999+st.n-j)+1 by omega];rfl
   ·rw[if_neg hlt,if_neg (by omega)]
theorem St.eW{st:St}(h:st.wf)(q:D->Bool):(st.kill q).wf:=by simpa[St.wf,St.kill,jN] using h
theorem St.dM{st:St}(h:st.wf)(k:Nat)(c:D):(st.put k c).wf:=by
 unfold St.put;split
 ·exact h
 ·split
  ·simpa[St.wf,xu] using h
  ·exact h
theorem St.dW{st:St}(h:st.wf)(c:D):(st.push c).wf:=by simpa[St.wf,St.push] using h
theorem St.ew(st:St)(k:Nat)(c:D):(st.put k c).n=st.n:=by by_cases h:k<1000<;>by_cases h':k<1000+st.n<;>simp[St.put,h,h']
section
variable{cx:Ctx}{vl:Nat->Value}{fp:Nat->Nat->Prop}{G:Nat->Prop}{w:World}{A:Nat->Prop}
theorem Bt(q:D->Bool){c:D}{p:Path}(hp:c.c8 p)(hne:p≠[]):(c.kill q).a8 p=c.a8 p/\(c.kill q).c8 p:=by
 obtain⟨h1,h2⟩:=hp;refine⟨?_,(ij (w:=default) q c undef p h1).1,fun hl=>(nU q h1 hl).2 (h2 (nU q h1 hl).1)⟩;cases c<;>try exact h1.elim
 case o x=>rfl
 case row z l=>exact absurd h1 hne
 case box l =>
  cases p with
  | nil=>exact absurd rfl hne
  | cons s p =>
   obtain⟨i,off⟩:=s
   have key:∀y,l.getD off .dead=.o y->(D.kill q (.box l)).a8 ((i,off)::p)=(D.box l).a8 ((i,off)::p):=by
    intro y hy
    have e1:D.aS (.box (dq q l)) i off=.o y:=by
     show(dq q l).getD off .dead=_;rw[rT,hy];rfl
    have e2:D.aS (.box l) i off=.o y:=hy;simp only[D.a8,D.kill,D.at,e1,e2]
   cases p with
   | nil =>
    obtain⟨y,hy⟩:=vj (h2 rfl);exact key y hy
   | cons t p =>
    obtain⟨_,_,hp⟩:=h1;simp only at hp;split at hp
    ·rename_i y hy;exact key y hy
    ·exact hp.elim
def rR(k:Nat)(p:Path)(q:D):Prop:=kq k p q\/(p≠[]/\bt k p q=false)
structure Tk[Mode](cx:Ctx)(w:World)(vl:Nat->Value)(st:St)(fp:Nat->Nat->Prop)(G:Nat->Prop)(st':St)(fp':Nat->Nat->Prop)(G':Nat->Prop)(F:Nat->Prop):Prop where
 hp:Hp cx st'.cont vl fp' G' w
 hF:∀b,F b->G' b/\¬G b
 hG:∀b,G b->G' b
 aI:∀b,ae cx fp G w b->ae cx fp' G' w b
 n:st'.n=st.n
 wf:st'.wf
 dd:∀j,st.cont j=.dead->st'.cont j=.dead
theorem cd.trans{w1 w2 w3:World}{c1 c2 c3:Nat->D}{v1 v2 v3:Nat->Value}{q:D}(h:cd w1 w2 c1 c2 v1 v2 q)(h':cd w2 w3 c2 c3 v2 v3 q):cd w1 w3 c1 c3 v1 v3 q:=by
 cases q<;>first | trivial | (intro hp;obtain⟨a,b⟩:=h hp;obtain⟨c,d⟩:=h' a;exact⟨c,d.trans b⟩)
theorem kT(ct:Nat->D)(q:D->Bool)(r:D):cd w w ct (fun k=>(ct k).kill q) vl vl r:=by
 cases r<;>try trivial
 case sub k p=>exact fun hp=>⟨⟨(ij (w:=w) q (ct k) (vl k) p hp.1).1,fun hl=>(nU q hp.1 hl).2 (hp.2 (nU q hp.1 hl).1)⟩,(ij q (ct k) (vl k) p hp.1).2.1⟩
 case aq k p=>exact fun hp=>⟨(ij (w:=w) q (ct k) (vl k) p hp).1,(ij q (ct k) (vl k) p hp).2.2⟩
theorem GA{L:List D}{sz j:Nat}{x:D}(h:cellAt L sz j=some x):∃e∈L,x∈e.cells:=by
 unfold cellAt at h;cases hL:L[j / sz]? with
 | none=>rw[hL] at h;cases h
 | some d=>rw[hL,Option.bind_some] at h;exact⟨d,List.mem_of_getElem? hL,List.mem_of_getElem? h⟩
theorem CH{ct:Nat->D}{A:Nat->Prop}{v:Value}{c x:D}(h:Pl w A (aa w ct vl) v c)(hx:c.dT=some x):af w A v x fun _=>False:=by
 cases c<;>simp only[D.dT,reduceCtorEq,Option.some.injEq] at hx<;>subst hx
 case int=>obtain⟨rfl,h1⟩:=dJ h;exact .int h1
 case bool=>have:=pl_bool h;subst this;exact .bool
 case str=>obtain⟨rfl,h1⟩:=fI h;exact .str h1
 case slice=>exact .vw (mM h)
 case ptr=>exact .vw (bK h (by simp) (by simp) (by simp) (by simp) (by simp))
 case aF=>have:=bK h (by simp) (by simp) (by simp) (by simp) (by simp);cases this;exact .aF
 case aM=>have:=bK h (by simp) (by simp) (by simp) (by simp) (by simp);cases this;exact .nil
theorem LO{e y:D}(h:e.dT=some y):e.cells=[e]/\y.cells=[y]:=by
 cases e<;>simp only[D.dT,reduceCtorEq,Option.some.injEq] at h<;>subst h<;>exact⟨rfl,rfl⟩
theorem CJ{e y:D}(h:e.oq=some y):y.cells.length=e.cells.length/\∀(i:Nat)(d:D),y.cells[i]?=some d->∃c,e.cells[i]?=some c/\c.dT=some d:=by
 have hc:e.dT=some y->y.cells.length=e.cells.length/\∀(i:Nat)(d:D),y.cells[i]?=some d->∃c,e.cells[i]?=some c/\c.dT=some d:=fun hh=>by
  obtain⟨h1,h2⟩:=LO hh;rw[h1,h2];refine⟨rfl,fun i d hd=>?_⟩;cases i with
  | zero=>simp only[List.getElem?_cons_zero,Option.some.injEq] at hd;subst hd;exact⟨e,rfl,hh⟩
  | succ i=>simp at hd
 cases e
 case agg l =>
  simp only[D.oq,Option.bind_eq_some_iff,Option.some.injEq] at h;obtain⟨l',h1,rfl⟩:=h;exact fG h1
 all_goals exact hc h
theorem OL{ct:Nat->D}{A:Nat->Prop}{v:Value}{F:Nat->Prop}{c x:D}(h:bG w A (aa w ct vl) v F c)(hx:c.bV=some x):af w A v x F:=by
 have hp:c.dT=some x->af w A v x F:=fun hh=>(CH (show Pl w A (aa w ct vl) v c by cases c<;>first | exact h | cases hh) hh).mono (fun _ h=>h) (fun _ _=>rfl) (fun _ _=>rfl) fun _ h=>h.elim
 cases c
 case o y=>simp only[D.bV,Option.some.injEq] at hx;subst hx;exact h
 all_goals exact hp hx
theorem OD{ct:Nat->D}{A:Nat->Prop}{v:Value}{F:Nat->Prop}{c x:D}(h:az w A (aa w ct vl) v F c)(hx:c.gB=some x):af w A v x F:=by
 cases c<;>simp only[D.gB,reduceCtorEq,Option.some.injEq] at hx
 case o y=>subst hx;exact h
 case box l =>
  rw[Option.bind_eq_some_iff] at hx;obtain⟨l',hm,hx⟩:=hx;injection hx with hx;subst hx
  obtain⟨hl,hg⟩:=fG hm;obtain⟨_,b,cs,e,Fs,rfl,h2,h3,h4,h5,h6,h7⟩:=h;refine .ptr Fs h2 (by omega) (fun j y hj=>?_) h5 h6 h7;obtain⟨c,hc,ht⟩:=hg j y hj;exact OL (h4 j c hc) ht
 case row z l =>
  rw[Option.bind_eq_some_iff] at hx;obtain⟨l',hm,hx⟩:=hx;injection hx with hx;subst hx
  obtain⟨hl,hg⟩:=fG hm;obtain⟨b,sz,cs,e,rfl,h2,h3,h4,h5,h6,h7,h8,h9⟩:=h;rw[<-hl] at h3 h4|-
  refine .slice (fun _ _=>False) h2 (by omega) (Nat.le_refl _) h4 h5 h6 (fun y hy=>?_) (fun j d hj=>?_) h9 (fun _ _ hh=>hh.elim) (fun _ _ _ _ hh=>hh.elim)
  ·obtain⟨i,hi⟩:=List.getElem?_of_mem hy
   obtain⟨e',he,ht⟩:=hg i y hi;rw[(CJ ht).1];exact h7 e' (List.mem_of_getElem? he)
  ·unfold cellAt at hj
   cases hq:l'[j / sz]? with
   | none=>rw[hq] at hj;cases hj
   | some y =>
    rw[hq,Option.bind_some] at hj;obtain⟨e',he,ht⟩:=hg _ _ hq;obtain⟨c,hc,hp⟩:=(CJ ht).2 _ _ hj;have hcell:cellAt l sz j=some c:=by unfold cellAt;rw[he,Option.bind_some];exact hc
    rw[Nat.zero_add];exact CH (h8 j c hcell).1 hp
theorem Fc[Mode]{k:Nat}{p:Path}{K:D->St->Prop}{st:St}(hK:du k p K st)(h:Hp cx st.cont vl fp G w)(hw:st.wf){v:Value}(hs:(st.cont k).c8 p)(hv:aE w (vl k) (st.cont k) p=some v) :
  ∃x st' fp' G' F,K x st'/\Tk cx w vl st fp G st' fp' G' F/\af w (ae cx fp' G' w) v x F/\∀q,rR k p q->cd w w st.cont st'.cont vl vl q:=by
 have hin:st.in k:=by
  by_cases hin:st.in k
  ·exact hin
  ·rw[St.bZ hin] at hs;exact hs.1.elim
 cases p with
 | nil =>
  simp only[du] at hK;have hkok:=h.ok k;cases hc:(st.cont k).gB with
  | none=>rw[hc] at hK;exact hK.elim
  | some x =>
   rw[hc] at hK;replace hkok:=OD hkok hc;simp only[b7] at hK;simp only[aE,Option.some.injEq] at hv;subst hv;have h1:=h.kill (aP k);have h2:=h1.drop k (fun j=>cn (fun d hd=>by cases d<;>simp_all[aP,bO]) (gr (aP k) (st.cont j))) (vl k);have ev:aj vl k (vl k)=vl:=by funext j;simp only[aj];split<;>simp_all
   rw[ev] at h2
   have ec:((st.kill (aP k)).put k .dead).cont=aj (fun j=>(st.cont j).kill (aP k)) k .dead:=by
    rw[St.c7 (St.eW hw _) (by simpa[St.in,St.kill,jN] using hin),St.b9]
   rw[<-ec] at h2
   have aI:∀b,ae cx fp G w b->ae cx (aj fp k fun _=>False) (fun b=>G b\/fp k b) w b:=by
    rintro b ⟨h1,h2,h3⟩;refine⟨h1,fun hg=>hg.elim h2 (h3 k),fun j hj=>?_⟩;by_cases hjk:j=k
    ·subst hjk;rw[aT] at hj;exact hj
    ·rw[av _ _ hjk] at hj;exact h3 j hj
   refine⟨x,_,_,_,fp k,hK,⟨h2,fun b hb=>⟨.inr hb,h.bh k b hb⟩,fun b hb=>.inl hb,aI,?_,St.dM (St.eW hw _) _ _,fun j hj=>by
    rw[ec];by_cases hjk:j=k
    ·subst hjk;exact aT _ _ _
    ·rw[av _ _ hjk,hj];rfl⟩,af.mono hkok aI (fun _ _=>rfl) (fun _ _=>rfl) (fun _ h=>h),fun q hq=>?_⟩
   ·rw[St.ew];rfl
   ·rcases hq with hq | ⟨hq,_⟩
    ·refine(kT st.cont (aP k) q).trans ?_
     rw[ec];cases q<;>try trivial
     all_goals
      rename_i j r;intro hp;have hj:j≠k:=hq.resolve_right (by simp[apart]);simp only[av _ _ hj];exact⟨hp,trivial⟩
    ·exact absurd rfl hq
 | cons s p =>
  simp only[du] at hK;have hne:s::p≠[]:=by simp
  generalize hP:s::p=P at hK hne hs hv;obtain⟨kd,ks⟩:=Bt (bt k P) hs hne;have h1:=h.kill (bt k P);have hkv:=(ij (w:=w) (bt k P) (st.cont k) (vl k) P hs.1).2.1;obtain⟨u,F1,F2,g1,g2,g3,g4,g5,g6⟩:=h1.take ks hne (fun j=>gr (bt k P) (st.cont j));have hu:u=v:=by rw[hkv,hv] at g1;injection g1 with g1;exact g1.symm
  subst hu;rw[kd] at g2
  have ec:((st.kill (bt k P)).put k (((st.kill (bt k P)).cont k).hole P)).cont=aj (fun j=>(st.cont j).kill (bt k P)) k (((st.cont k).kill (bt k P)).setAt P (cX ((st.cont k).kill (bt k P)) P)):=by
   rw[St.c7 (St.eW hw _) (by simpa[St.in,St.kill,jN] using hin),St.b9];rfl
  rw[<-ec] at g4 g6
  have aI:∀b,ae cx fp G w b->ae cx (aj fp k F2) (fun b=>G b\/F1 b) w b:=by
   rintro b ⟨h1,h2,h3⟩;refine⟨h1,fun hg=>hg.elim h2 fun hh=>h3 k (g3 b hh),fun j hj=>?_⟩;by_cases hjk:j=k
   ·subst hjk;rw[aT] at hj;exact h3 _ (g5 b hj)
   ·rw[av _ _ hjk] at hj;exact h3 j hj
  refine⟨_,_,_,_,F1,hK,⟨g4,fun b hb=>⟨.inr hb,h.bh k b (g3 b hb)⟩,fun b hb=>.inl hb,aI,?_,St.dM (St.eW hw _) _ _,fun j hj=>by
   rw[ec];have hjk:j≠k:=by rintro rfl;rw[hj] at hs;exact hs.1.elim
   rw[av _ _ hjk,hj];rfl⟩,af.mono g2 aI (fun _ _=>rfl) (fun _ _=>rfl) (fun _ h=>h),fun q hq=>?_⟩
  ·rw[St.ew];rfl
  ·refine(kT st.cont (bt k P) q).trans ?_
   rcases hq with hq | ⟨_,hq⟩
   ·rw[ec]
    have hko:=h1.ok k;cases q<;>try trivial
    case sub j r =>
     rintro⟨hp1,hp2⟩;by_cases hj:j=k
     ·subst hj
      simp only[aT];obtain⟨a1,a2,a3,a4⟩:=qX hko ks.1 hp1 (hq.resolve_left (by simp)) (p8 ks.1 hne);exact⟨⟨a1,fun hl=>by rw[a3];rw[a2] at hl;exact hp2 hl⟩,(a4 w).1⟩
     ·simp only[av _ _ hj]
      exact⟨⟨hp1,hp2⟩,trivial⟩
    case aq j r =>
     intro hp1;by_cases hj:j=k
     ·subst hj
      simp only[aT];obtain⟨a1,a2,a3,a4⟩:=qX hko ks.1 hp1 (hq.resolve_left (by simp)) (p8 ks.1 hne);exact⟨a1,(a4 w).2⟩
     ·simp only[av _ _ hj]
      exact⟨hp1,trivial⟩
   ·exact g6 q hq
theorem tB[Mode]{k:Nat}{p:Path}{K:D->St->Prop}{st:St}(hK:du k p K st)(h:Hp cx st.cont vl fp G w)(hw:st.wf){v:Value}(hr:aa w st.cont vl v (.sub k p)) :
  ∃x st' fp' G' F,K x st'/\Tk cx w vl st fp G st' fp' G' F/\af w (ae cx fp' G' w) v x F/\∀q,rR k p q->cd w w st.cont st'.cont vl vl q :=
 Fc hK h hw hr.1 hr.2.1
theorem Hx{c:D}{p:Path}(h:c.aR (p++[(0,0)])):c.c8 p:=by
 cases c<;>try(exact h.elim)
 case o x=>exact⟨((kP x p _).1 h).1,fun hl=>by cases hl⟩
 case row z l=>cases p<;>cases h
 case box l =>
  match p,h with
  | [],_=>exact⟨trivial,fun hl=>by cases hl⟩
  | [(i,off)],h =>
   obtain⟨h1,h2,h3⟩:=h;refine⟨⟨h1,h2,trivial⟩,fun _=>?_⟩;show(l.getD off .dead).fU=true;revert h3;show(match l.getD off .dead with | .o y=>y.has [(0,0)] | _=>False)->_;cases l.getD off .dead<;>first | exact fun h=>h.elim | exact fun _=>rfl
  | (i,off)::s::r,h =>
   obtain⟨h1,h2,h3⟩:=h;refine⟨⟨h1,h2,?_⟩,fun hl=>by cases hl⟩;revert h3;show(match l.getD off .dead with | .o y=>y.has (s::(r++[(0,0)])) | _=>False)->(match l.getD off .dead with | .o y=>y.has (s::r) | _=>False);cases l.getD off .dead<;>first | exact fun h=>h.elim | skip
   rename_i y;exact fun h=>((kP y (s::r) [(0,0)]).1 h).1
theorem Fb[Mode]{k:Nat}{q:Path}{K:D->St->Prop}{st:St}(hz:jO q=true)(hK:du k (gC q) (fun d st=>d.pN=true/\K d st) st)(h:Hp cx st.cont vl fp G w)(hw:st.wf){v:Value}(hr:lR w st.cont vl v k q) :
  ∃x st' fp' G' F,K x st'/\Tk cx w vl st fp G st' fp' G' F/\af w (ae cx fp' G' w) v x F/\∀q',rR k (gC q) q'->cd w w st.cont st'.cont vl vl q':=by
 rw[Bw hz] at hr;obtain⟨hc,a,ha,rfl⟩:=hr;rw[oY w (gC q) [(0,0)] _ _ (by simp),Option.bind_eq_some_iff] at ha;obtain⟨u,hu,ha⟩:=ha;obtain⟨x,st',fp',G',F,⟨h1,h2⟩,h3,h4,h5⟩:=Fc hK h hw (Hx hc) hu;refine⟨x,st',fp',G',F,h2,h3,?_,h5⟩
 have key:u=.pointer (some a):=by
  have hub:∃b,u=.pointer (some ⟨b,0,none⟩):=by cases h4<;>first | exact⟨_,rfl⟩ | cases h1
  obtain⟨b,rfl⟩:=hub;have ha:da (.pointer (some ⟨b,0,none⟩)) ((st.cont k).at (gC q)).un 0 0=some a:=ha;generalize((st.cont k).at (gC q)).un=y at ha;cases y<;>simp only[da] at ha<;>first | (cases ha;rfl) | cases ha
 rw[<-key];exact h4
theorem Dc{ι:Type}{Q:ι->D->Prop}{r:D}(h:∀i,r.refs (Q i)):r.refs fun d=>∀i,Q i d:=by
 induction r using D.ind with
 | agg l ih | au l ih | box l ih | fn _ l ih=>exact bf.2 fun x hx=>ih x hx fun i=>bf.1 (h i) x hx
 | row z l _ ih=>exact bf.2 fun x hx=>ih x hx fun i=>bf.1 (h i) x hx
 | when g x ih=>exact ih h
 | sub k p=>exact h
 | aq k p=>exact h
 | pre k p n=>exact h
 | _=>trivial
theorem wN{T:D->D->Prop}{r:D}(x:D)(h:x.refs fun s=>r.refs (T s)):r.refs fun q=>x.refs fun s=>T s q:=by
 have list:∀l:List D,(∀y∈l,y.refs (fun s=>r.refs (T s))->r.refs fun q=>y.refs fun s=>T s q)->bD (fun s=>r.refs (T s)) l->r.refs fun q=>bD (fun s=>T s q) l:=by
  intro l ih h;have:=Dc (ι:={y // y∈l}) (Q:=fun i q=>i.1.refs fun s=>T s q) (r:=r) fun i=>ih i.1 i.2 (bf.1 h i.1 i.2)
  exact cn (fun d hd=>bf.2 fun y hy=>hd ⟨y,hy⟩) this
 induction x using D.ind with
 | agg l ih | au l ih | box l ih | fn _ l ih=>exact list l ih h
 | row z l _ ih=>exact list l ih h
 | when g x ih=>exact ih h
 | sub k p=>exact h
 | aq k p=>exact h
 | pre k p n=>exact h
 | _=>exact aV (fun _=>trivial) r
def iY(s q:D):Prop :=
 match s with
 | .sub k p=>rR k p q
 | _=>True
theorem xd{r:List D}{s:D}(h:lD r s):(D.agg r).refs (iY s):=by
 cases s<;>first | exact aV (fun _=>trivial) _ | skip
 exact cn (fun d hd=>.inl hd) (show(D.agg r).refs _ from h)
theorem Mm{Q Q':D->Prop}{r:D}(h:r.refs Q)(h':r.refs Q'):r.refs fun d=>Q d/\Q' d:=by
 have:=Dc (ι:=Bool) (Q:=fun i d=>match i with | true=>Q d | false=>Q' d) (r:=r) (fun i=>by cases i<;>assumption);exact cn (fun d hd=>⟨hd true,hd false⟩) this
theorem Pl.bu{ct ct':Nat->D}{vl vl':Nat->Value}{A':Nat->Prop}{w':World}{v:Value}{d:D}(h:Pl w A (aa w ct vl) v d)(hA:∀b,A b->A' b)(hw:∀b,A b->w'.heap[b]?=w.heap[b]?)(hk:d.refs (cd w w' ct ct' vl vl')):Pl w' A' (aa w' ct' vl') v d :=
 h.mono (Q:=cd w w' ct ct' vl vl') hA hw hk fun _ _ hq hr=>hr.bu hq
theorem Tk.refl[Mode]{st:St}(h:Hp cx st.cont vl fp G w)(hw:st.wf):Tk cx w vl st fp G st fp G fun _=>False :=
 ⟨h,fun _ h=>h.elim,fun _ h=>h,fun _ h=>h,rfl,hw,fun _ h=>h⟩
theorem Tk.trans[Mode]{st1 st2 st3:St}{fp1 fp2 fp3:Nat->Nat->Prop}{G1 G2 G3 F F':Nat->Prop}(h:Tk cx w vl st1 fp1 G1 st2 fp2 G2 F)(h':Tk cx w vl st2 fp2 G2 st3 fp3 G3 F'):Tk cx w vl st1 fp1 G1 st3 fp3 G3 fun b=>F b\/F' b :=
 ⟨h'.hp,fun b hb=>hb.elim (fun hb=>⟨h'.hG b (h.hF b hb).1,(h.hF b hb).2⟩) fun hb=>⟨(h'.hF b hb).1,fun hg=>(h'.hF b hb).2 (h.hG b hg)⟩,fun b hb=>h'.hG b (h.hG b hb),fun b hb=>h'.aI b (h.aI b hb),h'.n.trans h.n,h'.wf,fun j hj=>h'.dd j (h.dd j hj)⟩
mutual
theorem qS[Mode]:∀(d:D){K:D->St->Prop}{st:St}{fp:Nat->Nat->Prop}{G:Nat->Prop}{v:Value},aw d K st->Hp cx st.cont vl fp G w->st.wf->(∀b,A b->ae cx fp G w b)->Pl w A (aa w st.cont vl) v d ->
  ∃x st' fp' G' F,K x st'/\Tk cx w vl st fp G st' fp' G' F/\af w (ae cx fp' G' w) v x F/\(x.isAgg=false->v.oneCell'=true)/\(x.isAgg=d.isAgg/\x.cells.length=d.cells.length)/\∀q,d.refs (fun s=>iY s q)->cd w w st.cont st'.cont vl vl q
 | d,K,st,fp,G,v,hK,h,hw,hA,hv=>by
  have hkeep:∀q,cd w w st.cont st.cont vl vl q:=fun q=>by cases q<;>first | trivial | exact fun hp=>⟨hp,rfl⟩
  have leaf:∀x,K x st->af w (ae cx fp G w) v x (fun _=>False)->(x.isAgg=false->v.oneCell'=true)->(x.isAgg=d.isAgg/\x.cells.length=d.cells.length)->∃x st' fp' G' F,K x st'/\Tk cx w vl st fp G st' fp' G' F/\af w (ae cx fp' G' w) v x F/\(x.isAgg=false->v.oneCell'=true)/\(x.isAgg=d.isAgg/\x.cells.length=d.cells.length)/\∀q,d.refs (fun s=>iY s q)->cd w w st.cont st'.cont vl vl q :=
   fun x hx ho h1 h2=>⟨x,st,fp,G,_,hx,.refl h hw,ho,h1,h2,fun q _=>hkeep q⟩
  match d,hK,hv,leaf with
  | .int k n,hK,hv,leaf =>
   obtain⟨rfl,h1⟩:=dJ hv;exact leaf _ (by simpa only[aw] using hK) (.int h1) (fun _=>rfl) ⟨rfl,rfl⟩
  | .bool b,hK,hv,leaf =>
   have:=pl_bool hv;subst this;exact leaf _ (by simpa only[aw] using hK) .bool (fun _=>rfl) ⟨rfl,rfl⟩
  | .str s,hK,hv,leaf =>
   obtain⟨rfl,h1⟩:=fI hv;exact leaf _ (by simpa only[aw] using hK) (.str h1) (fun _=>rfl) ⟨rfl,rfl⟩
  | .aF,hK,hv,leaf =>
   have:=bK hv (by simp) (by simp) (by simp) (by simp) (by simp);cases this;exact leaf _ (by simpa only[aw] using hK) .aF (fun _=>rfl) ⟨rfl,rfl⟩
  | .fn f [],hK,hv,leaf =>
   obtain⟨cs,rfl,hs,_⟩:=lu hv;have:cs=#[]:=by simpa using hs
   subst this;exact leaf _ (by simpa only[aw] using hK) .fn (fun _=>rfl) ⟨rfl,rfl⟩
  | .sub k p,hK,hv,leaf =>
   simp only[aw] at hK;obtain⟨x,st',fp',G',F,h1,h2,h3,h4⟩:=tB hK h hw (dh hv);obtain⟨_,_,⟨_,_,_,rfl⟩ | ⟨_,rfl⟩⟩:=dh hv
   ·have hag:x.isAgg=false:=by cases h3<;>rfl
    exact⟨x,st',fp',G',F,h1,h2,h3,fun _=>rfl,⟨hag,by rw[D.cells_one hag];rfl⟩,fun q hq=>h4 q hq⟩
   ·have hag:x.isAgg=false:=by cases h3<;>rfl
    exact⟨x,st',fp',G',F,h1,h2,h3,fun _=>rfl,⟨hag,by rw[D.cells_one hag];rfl⟩,fun q hq=>h4 q hq⟩
  | .slice z l,hK,hv,leaf =>
   have:=mM hv;exact leaf _ (by simpa only[aw] using hK) (.vw (this.mono hA fun _ _=>rfl)) (fun _=>by cases this<;>rfl) ⟨rfl,rfl⟩
  | .ptr l,hK,hv,leaf =>
   have:=bK hv (by simp) (by simp) (by simp) (by simp) (by simp);exact leaf _ (by simpa only[aw] using hK) (.vw (this.mono hA fun _ _=>rfl)) (fun _=>by cases this<;>rfl) ⟨rfl,rfl⟩
  | .aM z,hK,hv,leaf =>
   have:=bK hv (by simp) (by simp) (by simp) (by simp) (by simp);cases this;exact leaf _ (by simpa only[aw] using hK) .nil (fun _=>rfl) ⟨rfl,rfl⟩
  | .bw,hK,hv,leaf =>
   have:=bK hv (by simp) (by simp) (by simp) (by simp) (by simp);cases this;exact leaf _ (by simpa only[aw] using hK) .bw (fun _=>rfl) ⟨rfl,rfl⟩
  | .bl,hK,hv,leaf =>
   have:=bK hv (by simp) (by simp) (by simp) (by simp) (by simp);cases this;exact leaf _ (by simpa only[aw] using hK) .bl (fun _=>rfl) ⟨rfl,rfl⟩
  | .bq t x,hK,hv,leaf =>
   have:=bK hv (by simp) (by simp) (by simp) (by simp) (by simp);cases this with
   | bq h=>exact leaf _ (by simpa only[aw] using hK) (.bq (h.mono hA fun _ _=>rfl)) (fun _=>rfl) ⟨rfl,rfl⟩
  | .mp _ _,hK,_,_=>simp only[aw] at hK
  | .bE _ _,hK,_,_=>simp only[aw] at hK
  | .fv _,hK,_,_=>simp only[aw] at hK
  | .agg l,hK,hv,leaf =>
   simp only[aw] at hK;obtain⟨cs,rfl,hs,hc⟩:=j0 hv;obtain⟨l',st',fp',G',Fs,h1,h2,h3,h4,h5,h6⟩:=gE l hK h hw hA hc;exact⟨_,st',fp',G',_,h1,h2,.agg Fs (by rw[hs,h3]) (fun j x hx=>(h4 j x hx).1) (fun j c hc=>⟨j,hc⟩) h5,(fun h=>by simp[D.isAgg] at h),⟨rfl,h3⟩,h6⟩
  | .fn f (c::r),hK,hv,leaf =>
   simp only[aw] at hK;have:=l5 hv hK.1;exact leaf _ hK.2 (.vw (this.mono hA fun _ _=>rfl)) (fun _=>by cases this;rfl) ⟨rfl,rfl⟩
  | .au _,hK,_,_=>simp only[aw] at hK
  | .vw _,hK,_,_=>simp only[aw] at hK
  | .o _,hK,_,_=>simp only[aw] at hK
  | .box _,hK,_,_=>simp only[aw] at hK
  | .row _ _,hK,_,_=>simp only[aw] at hK
  | .aq _ _,hK,_,_=>simp only[aw] at hK
  | .pre _ _ _,hK,_,_=>simp only[aw] at hK
  | .when _ _,hK,_,_=>simp only[aw] at hK
  | .dead,hK,_,_=>simp only[aw] at hK
theorem gE[Mode]:∀(l:List D){K:List D->St->Prop}{st:St}{fp:Nat->Nat->Prop}{G:Nat->Prop}{vs:Array Value},bR l K st->Hp cx st.cont vl fp G w->st.wf->(∀b,A b->ae cx fp G w b) ->
  (∀(j:Nat)(x:D),l[j]?=some x->Pl w A (aa w st.cont vl) (vs.getD j undef) x) ->
  ∃(l':List D)(st':St)(fp':Nat->Nat->Prop)(G':Nat->Prop)(Fs:Nat->Nat->Prop),K l' st'/\Tk cx w vl st fp G st' fp' G' (fun b=>∃j,Fs j b)/\l'.length=l.length/\(∀(j:Nat)(x:D),l'[j]?=some x->af w (ae cx fp' G' w) (vs.getD j undef) x (Fs j)/\(x.isAgg=false->(vs.getD j undef).oneCell'=true)/\∃d,l[j]?=some d/\x.isAgg=d.isAgg/\x.cells.length=d.cells.length)/\(∀i j b,i≠j->Fs i b->¬Fs j b) /\
   ∀q,bD (fun s=>iY s q) l->cd w w st.cont st'.cont vl vl q
 | [],K,st,fp,G,vs,hK,h,hw,hA,hv=>by
  simp only[bR] at hK;have hkeep:∀q,cd w w st.cont st.cont vl vl q:=fun q=>by cases q<;>first | trivial | exact fun hp=>⟨hp,rfl⟩
  exact⟨[],st,fp,G,fun _ _=>False,hK,⟨h,fun _ ⟨_,h⟩=>h.elim,fun _ h=>h,fun _ h=>h,rfl,hw,fun _ h=>h⟩,rfl,fun j x hx=>by simp at hx,fun _ _ _ _ h=>h.elim,fun q _=>hkeep q⟩
 | y::r,K,st,fp,G,vs,hK,h,hw,hA,hv=>by
  simp only[bR] at hK;obtain⟨hsafe,hK⟩:=hK;obtain⟨x,st1,fp1,G1,F1,h1,h2,h3,h3',h3'',h4⟩:=qS y hK h hw hA (hv 0 y rfl);have hkr:=wN y (cn (fun s hs=>xd hs) hsafe)
  have hrest:∀(j:Nat)(x:D),r[j]?=some x->Pl w A (aa w st1.cont vl) ((vs.extract 1 vs.size).getD j undef) x:=by
   intro j x hx;have h5:=hv (j+1) x (by simpa using hx)
   have e:(vs.extract 1 vs.size).getD j undef=vs.getD (j+1) undef:=by
    simp only[Array.getD_eq_getD_getElem?,Array.getElem?_extract];by_cases hj:j<min vs.size vs.size-1
    ·rw[if_pos hj,Nat.add_comm]
    ·rw[if_neg hj,Array.getElem?_eq_none (by omega)]
   rw[e];exact h5.bu (fun _ h=>h) (fun _ _=>rfl) (cn (fun q hq=>h4 q hq) (bf.1 hkr x (List.mem_of_getElem? hx)))
  obtain⟨l',st',fp',G',Fs,k1,k2,k3,k4,k5,k6⟩:=gE r h1 h2.hp h2.wf (fun b hb=>h2.aI b (hA b hb)) hrest;have htk:=h2.trans k2;refine⟨x::l',st',fp',G',fun j=>match j with | 0=>F1 | j+1=>Fs j,k1,⟨htk.hp,fun b ⟨j,hj⟩=>htk.hF b ?_,htk.hG,htk.aI,htk.n,htk.wf,htk.dd⟩,by simp[k3],fun j x' hx'=>?_,fun i j b hij hi hj=>?_,fun q hq=>?_⟩
  ·cases j with
   | zero=>exact .inl hj
   | succ j=>exact .inr ⟨j,hj⟩
  ·cases j with
   | zero=>simp at hx';subst hx';exact⟨h3.mono k2.aI (fun _ _=>rfl) (fun _ _=>rfl) fun _ h=>h,h3',y,rfl,h3''⟩
   | succ j =>
    have:=k4 j x' (by simpa using hx')
    have e:(vs.extract 1 vs.size).getD j undef=vs.getD (j+1) undef:=by
     simp only[Array.getD_eq_getD_getElem?,Array.getElem?_extract];by_cases hj:j<min vs.size vs.size-1
     ·rw[if_pos hj,Nat.add_comm]
     ·rw[if_neg hj,Array.getElem?_eq_none (by omega)]
    rw[e] at this;exact this
  ·cases i with
   | zero=>cases j with
    | zero=>exact hij rfl
    | succ j=>exact(k2.hF b ⟨j,hj⟩).2 (h2.hF b hi).1
   | succ i=>cases j with
    | zero=>exact(k2.hF b ⟨i,hi⟩).2 (h2.hF b hj).1
    | succ j=>exact k5 i j b (by omega) hi hj
  ·exact(h4 q hq.1).trans (k6 q hq.2)
end
end
end Go.D3
namespace Go.D3
open Go
section
variable{cx:Ctx}{vl:Nat->Value}{fp:Nat->Nat->Prop}{G:Nat->Prop}{w:World}{A:Nat->Prop}
theorem vM{y:D}(hy:y.isAgg=false):∀(p:Path)(x:D),de x p y
 | [],_=>trivial
 | [(i,off)],x=>by
  simp only[de];generalize x.un=z;cases z<;>first | trivial | exact .inr hy
 | (i,off)::s::p,x=>vM hy (s::p) (x.aS i off)
theorem J1{c y:D}{p:Path}(hp:c.aR p)(hne:p≠[])(hy:y.isAgg=false):ei c p y:=by
 cases c<;>try exact hp.elim
 case o x=>exact vM hy p x
 case row=>exact absurd hp hne
 case box l =>
  cases p with
  | nil=>exact absurd rfl hne
  | cons s p =>
   cases p with
   | nil=>exact trivial
   | cons t p=>exact vM hy (t::p) _
theorem ua:∀{p:Path}{i j:Nat},p≠[]->i≠j->apart (bump p i) (bump p j)=true
 | [],_,_,h,_=>absurd rfl h
 | [(a,b)],i,j,_,h=>by simp[bump,apart,h]
 | s::t::p,i,j,_,h=>by
  simp only[bump,apart,if_true];exact ua (p:=t::p) (by simp) h
theorem zR:∀(p:Path)(j:Nat),(bump p j).length=p.length
 | [],_=>rfl
 | [_],_=>rfl
 | _::t::p,j=>by simp only[bump,List.length_cons,zR (t::p) j]
theorem tQ{w':World}:∀(p:Path){v:Value}{x:D}{F:Nat->Prop}{a:Addr},af w A v x F->x.has p->ay w v x p=some a->(∀c,c≠a.block->w'.heap[c]?=w.heap[c]?)->ay w' v x p=some a
 | [],v,x,F,a,_,_,h,_=>by simp[ay] at h
 | [(i,off)],v,x,F,a,_,_,h,_=>h
 | (i,off)::s::p,v,x,F,a,h,hp,ha,hw=>by
  obtain⟨e1,e2,e3,e4⟩:=iZ h i off;obtain⟨u,F1,F2,g1,g2,g3,g4,g5,g6,g7⟩:=h.split (e2.1 hp.1);rw[<-e1] at g2
  have ha':ay w u (x.aS i off) (s::p)=some a:=by
   simp only[ay,e4,g1,Option.bind_some] at ha;exact ha
  obtain⟨_,G1,G2,_,_,k3,k4,_,_,k7⟩:=af.splitAt (s::p) g2 hp.2;have hab:=k4 _ (k7 a ha').1
  have hkv:bU w' v x i off=some u:=by
   obtain⟨hu,_⟩:=h.un;unfold bU;rw[hu];cases x<;>try exact(e2.1 hp.1).elim
   all_goals first
    | exact g1
    | (simp only[jM] at g1|-
       generalize hka:da v _ i off=ka at g1|-
       cases ka with
       | none=>simp at g1
       | some ka =>
        obtain⟨j1,j2,j3,_⟩:=g7 ka hka;simp only[Option.bind_some] at g1|-
        rw[<-g1];obtain⟨ab,ao,as⟩:=ka;simp only at j2;cases as with
        | some _=>simp at j2
        | none=>exact cell_of_heap (hw _ (by rintro rfl;exact g5 _ hab j1)))
  simp only[ay,hkv,Option.bind_some];exact tQ (s::p) g2 hp.2 ha' hw
theorem FT{R:Value->D->Prop}{v:Value}{c:D}{F:Nat->Prop}{p:Path}{a:Addr}{w':World}(h:az w A R v F c)(hp:c.aR p)(ha:ay w v c p=some a)(hw:∀d,d≠a.block->w'.heap[d]?=w.heap[d]?):ay w' v c p=some a:=by
 cases c<;>try exact hp.elim
 case o x =>
  rw[(fN h w p).2] at ha;rw[(fN h w' p).2];exact tQ p h hp ha hw
 case row z l=>simp only[D.aR] at hp;subst hp;simp[ay] at ha
 case box l =>
  cases p with
  | nil=>simp[ay] at ha
  | cons s p =>
   obtain⟨i,off⟩:=s;obtain⟨_,b,cs,e,Fs,h1,h2,h3,h4,h5,h6,h7⟩:=h;obtain⟨rfl,ho,hp⟩:=hp;subst h1;cases p with
   | nil=>exact ha
   | cons t p =>
    simp only at hp;split at hp
    ·rename_i y hy
     have hget:l[off]?=some (.o y):=by
      rw[List.getElem?_eq_getElem ho];rw[List.getD_eq_getElem?_getD,List.getElem?_eq_getElem ho] at hy;simpa using hy
     have hown:=h4 off _ hget;simp only[bG] at hown
     have hcell:∀w'',w''.heap[b]?=w.heap[b]?->bU w'' (.pointer (some ⟨b,0,none⟩)) (.box l) 0 off=some (cs.getD off undef):=by
      intro w'' hb;show w''.cell? ⟨b,0+off,none⟩=_;rw[Nat.zero_add];exact cN (hb.trans h2) (by omega)
     have hk:D.aS (.box l) 0 off=.o y:=hy
     have ha':ay w (cs.getD off undef) y (t::p)=some a:=by
      rw[ay,hcell w rfl,Option.bind_some,hk,(fN hown w (t::p)).2] at ha
      ·exact ha
      ·simp
     obtain⟨_,G1,G2,_,_,k3,k4,_,_,k7⟩:=af.splitAt (t::p) hown hp;have hab:=k4 _ (k7 a ha').1;rw[ay,hcell w' (hw b (by rintro rfl;exact(h6 _ _ hab).1 rfl)),Option.bind_some,hk,(fN hown w' (t::p)).2]
     ·exact tQ (t::p) hown hp ha' hw
     ·simp
    ·exact hp.elim
theorem Ak{R:Value->D->Prop}{v:Value}{x:D}{F:Nat->Prop}(h:af w A v x F)(h1:v.oneCell'=true):bG w A R v F (aJ x)/\∀Q,(aJ x).refs Q:=by
 cases h with
 | int h=>exact⟨.rd (.int h),fun _=>trivial⟩
 | bool=>exact⟨.rd .bool,fun _=>trivial⟩
 | str h=>exact⟨.rd (.str h),fun _=>trivial⟩
 | nil=>exact⟨.nil,fun _=>trivial⟩
 | aF=>exact⟨.rd .aF,fun _=>trivial⟩
 | fn=>exact⟨.rd (.fn rfl (fun j x hx=>by simp at hx)),fun _=>trivial⟩
 | @vw v d F h =>
  cases d
  case slice z l=>exact⟨Pl.rd h,fun _=>trivial⟩
  case ptr l=>exact⟨Pl.rd h,fun _=>trivial⟩
  case agg l=>cases h;cases h1
  case au l=>cases h;cases h1
  case fn f l=>exact⟨Pl.rd h,fun Q=>h.vG Q⟩
  case mp ks vs=>exact⟨Pl.rd h,fun _=>trivial⟩
  all_goals exact⟨Pl.dead,fun _=>trivial⟩
 | dead=>exact⟨Pl.dead,fun _=>trivial⟩
 | mp hF hb hE=>exact⟨.mp hF hb hE,fun _=>trivial⟩
 | bw=>exact⟨.rd .bw,fun _=>trivial⟩
 | bq h=>exact⟨Pl.rd (.bq h),fun _=>trivial⟩
 | bl=>exact⟨.rd .bl,fun _=>trivial⟩
 | bE hF hb hs=>exact⟨.bE hF hb hs,fun _=>trivial⟩
 | slice Fs hb hroom hc hm hz hzz hsz hr hF hfs hdis=>exact⟨.slice Fs hb hroom hc hm hz hzz hsz hr hF hfs hdis,fun _=>trivial⟩
 | agg=>cases h1
 | au=>cases h1
 | ptr Fs hb hs hr hF hfs hdis=>exact⟨.ptr Fs hb hs hr hF hfs hdis,fun _=>trivial⟩
theorem xE[Mode]{k:Nat}{p:Path}(hne:p≠[]){b:Nat}:∀(ys:List D)(vs:List Value)(j o:Nat){ct:Nat->D}{fp:Nat->Nat->Prop}{G:Nat->Prop}{w:World}(Fs:Nat->Nat->Prop),
  Hp cx ct vl fp G w->(∀j,(ct j).refs fun d=>bb k p d=false)->jV (ct k) p j ys->vs.length=ys.length->(∀(i:Nat)(y:D),ys[i]?=some y->af w (ae cx fp G w) (vs.getD i undef) y (Fs i)/\(y.isAgg=false->(vs.getD i undef).oneCell'=true)) ->
  (∀i c,Fs i c->G c)->(∀i i' c,i≠i'->Fs i c->¬Fs i' c)->(∀i,i<ys.length->ay w (vl k) (ct k) (bump p (j+i))=some ⟨b,o+i,none⟩) ->
  ∃fp' G',Hp cx (aj ct k (dB (ct k) p j ys)) vl fp' G' (w.setCells b o vs)/\(∀i,i<ys.length->(w.cell? ⟨b,o+i,none⟩).isSome=true/\w.frozen? ⟨b,o+i,none⟩=false)/\(∀v∈vs,v.oneCell'=true)
 | [],vs,j,o,ct,fp,G,w,Fs,h,_,_,hl,_,_,_,_=>by
  have:vs=[]:=List.length_eq_zero_iff.1 hl;subst this;have e:aj ct k (ct k)=ct:=by funext i;simp only[aj];split<;>simp_all
  simp only[dB,e];exact⟨fp,G,h,fun i hi=>by simp at hi,fun v hv=>by cases hv⟩
 | y::r,[],j,o,ct,fp,G,w,Fs,_,_,_,hl,_,_,_,_=>by simp at hl
 | y::r,v::vs,j,o,ct,fp,G,w,Fs,h,hrefs,hok,hl,hown,hFG,hdis,hadr=>by
  obtain⟨hc,hag,hok⟩:=hok;have hbne:=zS j hne;have ha:=hadr 0 (by simp);rw[Nat.add_zero,Nat.add_zero] at ha;obtain⟨ho,h1⟩:=hown 0 y rfl;have ho:af w (ae cx fp G w) v y (Fs 0):=ho;have h1:v.oneCell'=true:=h1 hag;obtain⟨hcell,hcr⟩:=Ak (R:=aa w ct vl) ho h1;generalize hy':(if bc (ct k) (bump p j)=true then aJ y else y)=y'
  have hpart:eH w (ae cx fp G w) (aa w ct vl) v (Fs 0) (bc (ct k) (bump p j)) y':=by
   unfold eH;split
   ·rename_i hlv;rw[hlv] at hy';simp at hy';rw[<-hy'];exact hcell
   ·rename_i hlv;rw[hlv] at hy';simp at hy';rw[<-hy'];exact ho
  have hag':bc (ct k) (bump p j)=false->y'.isAgg=false:=by
   intro hlv;rw[hlv] at hy';simp at hy';rw[<-hy'];exact hag
  have hokc:ei (ct k) (bump p j) y':=by
   by_cases hlv:bc (ct k) (bump p j)=true
   ·revert hc hlv
    cases ct k<;>intro hc hlv<;>try(cases hlv;done)
    rename_i l;generalize bump p j=q at hc hlv hbne;cases q with
    | nil=>exact absurd rfl hbne
    | cons s q=>cases q with
     | nil=>trivial
     | cons t q=>cases hlv
   ·exact J1 hc hbne (hag' (by simpa using hlv))
  have hq:bb k (bump p j)=bb k p:=C8 (zR p j) k;obtain⟨⟨u,hu⟩,hfz,_,aI,_⟩:=h.store hc hbne ha (G':=fun c=>G c/\¬Fs 0 c) hpart hokc (by rw[hq];exact hrefs) (fun hlv=>by rw[hlv] at hy';simp at hy';rw[<-hy'];exact hcr _) (hFG 0) (fun _ h=>h.1) (fun _ h1 h2=>h2.2 h1);have hko:=h.ok k
  have hstab:∀c,ae cx fp G w c->ae cx (aj fp k fun c=>fp k c\/Fs 0 c) (fun c=>G c/\¬Fs 0 c) (w.setCell ⟨b,o,none⟩ v) c:=by
   rintro c ⟨k1,k2,k3⟩;refine⟨by simpa using k1,fun hg=>k2 hg.1,fun i hi=>?_⟩;by_cases hik:i=k
   ·subst hik;rw[aT] at hi;exact hi.elim (k3 _) fun hh=>k2 (hFG 0 c hh)
   ·rw[av _ _ hik] at hi;exact k3 i hi
  have hbk:fp k b:=by
   obtain⟨_,F1,F2,_,_,_,g4,_,_,g7⟩:=hko.splitAt hc hbne;exact g4 _ (g7 _ ha).1
  have hout:∀c,c≠b->(w.setCell ⟨b,o,none⟩ v).heap[c]?=w.heap[c]?:=fun c hc=>xp v hc
  have hck:aj ct k ((ct k).setAt (bump p j) y') k=(ct k).setAt (bump p j) y':=aT _ _ _
  have hokr:∀(r:List D)(j':Nat),j<j'->jV (ct k) p j' r->jV ((ct k).setAt (bump p j) y') p j' r:=by
   intro r;induction r with
   | nil=>intro _ _ _;trivial
   | cons y0 r ih =>
    intro j' hj ⟨k1,k2,k3⟩;exact⟨(qX hko hc k1 (ua hne (by omega)) hokc).1,k2,ih (j'+1) (by omega) k3⟩
  have hhas:∀(r:List D)(j' i:Nat),jV (ct k) p j' r->i<r.length->(ct k).aR (bump p (j'+i)):=by
   intro r;induction r with
   | nil=>intro _ _ _ hi;simp at hi
   | cons y0 r ih =>
    intro j' i ⟨k1,k2,k3⟩ hi;cases i with
    | zero=>exact k1
    | succ i =>
     have:=ih (j'+1) i k3 (by simpa using hi);rw[show j'+(i+1)=j'+1+i by omega];exact this
  obtain⟨fp',G',r1,r2,r3⟩:=xE hne r vs (j+1) (o+1) (fun i=>Fs (i+1)) aI
   (fun i=>by
     by_cases hik:i=k
     ·subst hik;rw[hck];exact qt hko hc hbne (hrefs i) fun hlv=>by rw[hlv] at hy';simp at hy';rw[<-hy'];exact hcr _
     ·rw[av _ _ hik];exact hrefs i)
   (by rw[hck];exact hokr r (j+1) (by omega) hok) (by simpa using hl)
   (fun i y0 hy0=>by
     obtain⟨q1,q2⟩:=hown (i+1) y0 (by simpa using hy0);have q1:af w (ae cx fp G w) (vs.getD i undef) y0 (Fs (i+1)):=by simpa using q1
     have q2:y0.isAgg=false->(vs.getD i undef).oneCell'=true:=by simpa using q2
     refine⟨q1.mono hstab (fun c hc=>hout c (by rintro rfl;exact hc.2.2 k hbk)) (fun c hc=>hout c ?_) (fun _ h=>h),q2⟩;rintro rfl
     exact h.bh k _ hbk (hFG _ _ hc))
   (fun i c hi=>⟨hFG _ c hi,hdis (i+1) 0 c (by omega) hi⟩) (fun i i' c hii=>hdis (i+1) (i'+1) c (by omega))
   (fun i hi=>by
     rw[hck];have q0:=hhas r (j+1) i hok hi;have q1:=hadr (i+1) (by simpa using hi);rw[show j+(i+1)=j+1+i by omega,show o+(i+1)=o+1+i by omega] at q1;rw[((qX hko hc q0 (ua hne (by omega)) hokc).2.2.2 _).2]
     exact FT hko q0 q1 fun c hc=>hout c hc)
  rw[hck] at r1
  have e:aj (aj ct k ((ct k).setAt (bump p j) y')) k (dB ((ct k).setAt (bump p j) y') p (j+1) r)=aj ct k (dB (ct k) p j (y::r)):=by
   funext i;simp only[aj,dB,hy'];split<;>rfl
  rw[e] at r1;refine⟨fp',G',r1,fun i hi=>?_,fun v' hv'=>?_⟩
  ·cases i with
   | zero=>rw[Nat.add_zero];exact⟨by rw[hu];rfl,hfz⟩
   | succ i =>
    obtain⟨s1,s2⟩:=r2 i (by simpa using hi);rw[show o+1+i=o+(i+1) by omega] at s1 s2;have e1:=World.cell?_setCells_out b [v] o w ⟨b,o+(i+1),none⟩ (fun _ _=>by right;simp);have e2:=World.frozen?_setCells b [v] o w ⟨b,o+(i+1),none⟩;simp only[World.setCells] at e1 e2;rw[e1] at s1;rw[e2] at s2;exact⟨s1,s2⟩
  ·rcases List.mem_cons.1 hv' with rfl | hv'
   ·exact h1
   ·exact r3 v' hv'
theorem ow[Mode]{st:St}(h:Hp cx st.cont vl fp G w)(hw:st.wf)(u:Value):∃fp',Hp cx (st.push .dead).cont (aj vl (1000+st.n) u) fp' G w/\(st.push .dead).wf/\(st.push .dead).n=st.n+1/\∀i,i<1000->st.cont i=.dead->(st.push .dead).cont i=.dead:=by
 have hd:st.cont (1000+st.n)=.dead:=St.bZ (by simp only[St.in,not_or,not_and];omega);refine⟨aj fp (1000+st.n) fun _=>False,?_,St.dW hw _,rfl,fun i hi hd=>by rw[St.cm hw,av _ _ (by omega)];exact hd⟩;rw[St.cm hw];exact h.put (by rw[hd];rfl) (F:=fun _=>False) (c:=.dead) (show Pl _ _ _ _ _ from Pl.dead) (fun _ h=>h.elim) (fun _ h=>h) (fun _ h=>h.elim) (fun _ _ h=>h)
theorem qp[Mode]{st:St}(h:Hp cx st.cont vl fp G w)(hw:st.wf){j:Nat}{v:Value}{c:D}{F:Nat->Prop}(hF:∀b,F b->G b)
  (hc:az w (ae cx fp G w) (aa w ((st.kill (aP j)).cont) vl) v F c) (hrefs:c.refs (bO j)) (hemp:c.isObj=false->∀b,¬F b) :
  ∃fp' G',Hp cx ((st.kill (aP j)).put j c).cont (aj vl j v) fp' G' w/\((st.kill (aP j)).put j c).wf/\((st.kill (aP j)).put j c).n=st.n/\∀i,i≠j->st.cont i=.dead->((st.kill (aP j)).put j c).cont i=.dead:=by
 have h1:=h.kill (aP j);rw[<-St.b9] at h1;have hw1:=St.eW hw (aP j);have h2:=h1.drop j (fun i=>by rw[St.b9];exact cn (fun d hd=>by cases d<;>simp_all[aP,bO]) (gr (aP j) (st.cont i))) v
 have aI:∀b,ae cx fp G w b->ae cx (aj fp j fun _=>False) (fun b=>G b\/fp j b) w b:=by
  rintro b ⟨h1,h2,h3⟩;refine⟨h1,fun hg=>hg.elim h2 (h3 j),fun i hi=>?_⟩;by_cases hij:i=j
  ·subst hij;rw[aT] at hi;exact hi
  ·rw[av _ _ hij] at hi;exact h3 i hi
 have ev:∀(x y:Value),aj (aj vl j x) j y=aj vl j y:=fun x y=>by funext i;simp only[aj];split<;>rfl
 by_cases hin:(st.kill (aP j)).in j
 ·have hput:=h2.put (k:=j) (v:=v) (c:=c) (F:=F) (G':=fun _=>False) (by rw[aT];rfl)
   (hc.mono (Q:=bO j) aI (fun _ _=>rfl) (fun _ _=>rfl) (fun _ h=>h) hrefs fun v' d hq hr=>hr.bu (cn (fun q hq=>by
     cases q<;>try trivial
     all_goals
      intro hp;simp only[av _ _ (show _≠j from hq)]
      exact⟨hp,trivial⟩) hq))
   (fun b hb=>.inl (hF b hb)) (fun _ h=>h.elim) (fun _ _ h=>h) hemp
  rw[ev] at hput
  have ec:aj (aj ((st.kill (aP j)).cont) j .dead) j c=((st.kill (aP j)).put j c).cont:=by
   rw[St.c7 hw1 hin];funext i;simp only[aj];split<;>rfl
  rw[ec] at hput;exact⟨_,_,hput,St.dM hw1 _ _,by rw[St.ew];rfl,fun i hi hd=>by rw[<-ec,av _ _ hi,av _ _ hi];exact St.gn _ hd⟩
 ·have ec:aj ((st.kill (aP j)).cont) j .dead=((st.kill (aP j)).put j c).cont:=by
   rw[St.nI hin];funext i;simp only[aj];split
   ·subst_vars;exact(St.bZ hin).symm
   ·rfl
  rw[ec] at h2;exact⟨_,_,h2,St.dM hw1 _ _,by rw[St.ew];rfl,fun i hi hd=>by rw[<-ec,av _ _ hi];exact St.gn _ hd⟩
theorem uB{v:Value}{d:D}{F:Nat->Prop}(h:af w A v d F)(Q:D->Prop):(aJ d).refs Q:=by
 cases h with
 | fn=>exact trivial
 | @vw v d F h =>
  have:=h.vG Q;cases d<;>first | trivial | exact this
 | _=>trivial
theorem zJ[Mode]{j:Nat}{x:D}{K:St->Prop}{st:St}(hK:ku j x K st)(h:Hp cx st.cont vl fp G w)(hw:st.wf)(_:j<1000){v:Value}(hv:Pl w (ae cx fp G w) (aa w st.cont vl) v x)(u:Value) :
  ∃st' fp' G',K st'/\Hp cx st'.cont (aj (aj vl j v) (1000+st.n) u) fp' G' w/\st'.wf/\st'.n=st.n+1/\∀i,i≠j->i<1000->st.cont i=.dead->st'.cont i=.dead:=by
 unfold ku at hK;obtain⟨y,st1,fp1,G1,F,h1,h2,h3,h4,-,-⟩:=qS x hK h hw (fun _ h=>h) hv;obtain⟨c1,c2⟩:=kG (R:=aa w ((st1.kill (aP j)).cont) vl) h3;have hcr:(aJ y).refs (bO j):=uB h3 _
 have key:∃F',(∀b,F' b->G1 b)/\az w (ae cx fp1 G1 w) (aa w ((st1.kill (aP j)).cont) vl) v F' (aJ y)/\((aJ y).isObj=false->∀b,¬F' b):=by
  by_cases ho:(aJ y).isObj=true
  ·exact⟨F,fun b hb=>(h2.hF b hb).1,c1,fun hh=>by rw[ho] at hh;cases hh⟩
  ·exact⟨fun _=>False,fun _ h=>h.elim,c2 (by simpa using ho),fun _ _ h=>h⟩
 obtain⟨F',k1,k2,k3⟩:=key;obtain⟨fp2,G2,k4,k5,k6,k6'⟩:=qp h2.hp h2.wf k1 k2 hcr k3;obtain⟨fp3,k7,k8,k9,k9'⟩:=ow k4 k5 u;rw[k6,h2.n] at k7 k9;exact⟨_,_,_,h1,k7,k8,k9,fun i hij hi hd=>k9' i hi (k6' i hij (h2.dd i hd))⟩
theorem Gb[Mode]{j:Nat}{x:D}{K:St->Prop}{st:St}(hK:jv j x K st)(h:Hp cx st.cont vl fp G w)(hw:st.wf)(hj:j<1000){v:Value}(hv:Pl w (ae cx fp G w) (aa w st.cont vl) v x)(u:Value) :
  ∃st' fp' G',K st'/\Hp cx st'.cont (aj (aj vl j v) (1000+st.n) u) fp' G' w/\st'.wf/\st'.n=st.n+1/\∀i,i≠j->i<1000->st.cont i=.dead->st'.cont i=.dead:=by
 unfold jv at hK;split at hK
 case h_2=>exact zJ hK h hw hj hv u
 case h_1 k q =>
 obtain⟨y,st1,fp1,G1,F,h1,h2,h3,-⟩:=Fb hK.1 hK.2 h hw (eP hv);obtain⟨c1,c2⟩:=kG (R:=aa w ((st1.kill (aP j)).cont) vl) h3;have hcr:(aJ y).refs (bO j):=uB h3 _
 have key:∃F',(∀b,F' b->G1 b)/\az w (ae cx fp1 G1 w) (aa w ((st1.kill (aP j)).cont) vl) v F' (aJ y)/\((aJ y).isObj=false->∀b,¬F' b):=by
  by_cases ho:(aJ y).isObj=true
  ·exact⟨F,fun b hb=>(h2.hF b hb).1,c1,fun hh=>by rw[ho] at hh;cases hh⟩
  ·exact⟨fun _=>False,fun _ h=>h.elim,c2 (by simpa using ho),fun _ _ h=>h⟩
 obtain⟨F',k1,k2,k3⟩:=key;obtain⟨fp2,G2,k4,k5,k6,k6'⟩:=qp h2.hp h2.wf k1 k2 hcr k3;obtain⟨fp3,k7,k8,k9,k9'⟩:=ow k4 k5 u;rw[k6,h2.n] at k7 k9;exact⟨_,_,_,h1,k7,k8,k9,fun i hij hi hd=>k9' i hi (k6' i hij (h2.dd i hd))⟩
theorem Ga[Mode]{j:Nat}{x:D}{K:St->Prop}{st:St}(hK:nC j x K st)(h:Hp cx st.cont vl fp G w)(hw:st.wf){v:Value}(hv:Pl w (ae cx fp G w) (aa w st.cont vl) v x)(u:Value) :
  ∃st' fp' G',K st'/\Hp cx st'.cont (aj (aj vl j v) (1000+st.n) u) fp' G' w/\st'.wf/\st'.n=st.n+1/\∀i,i≠j->i<1000->st.cont i=.dead->st'.cont i=.dead:=by
 obtain⟨h1,h2,h3⟩:=hK
 have hc:az w (ae cx fp G w) (aa w ((st.kill (aP j)).cont) vl) v (fun _=>False) x/\x.isObj=false:=by
  have hp:Pl w (ae cx fp G w) (aa w ((st.kill (aP j)).cont) vl) v x:=hv.bu (fun _ h=>h) (fun _ _=>rfl) (by rw[St.b9];exact aV (fun q=>kT st.cont _ q) _);cases x<;>first | exact⟨hp,rfl⟩ | cases h2
 obtain⟨fp2,G2,k4,k5,k6,k6'⟩:=qp h hw (fun _ h=>h.elim) hc.1 h1 (fun _ _ h=>h);obtain⟨fp3,k7,k8,k9,k9'⟩:=ow k4 k5 u;rw[k6] at k7 k9;exact⟨_,_,_,h3,k7,k8,k9,fun i hij hi hd=>k9' i hi (k6' i hij hd)⟩
theorem On[Mode]{k:Nat}{p:Path}{x:D}{K:St->Prop}{st:St}(hK:ng k p x K st)(h:Hp cx st.cont vl fp G w)(hw:st.wf){va vx:Value}(ha:Pl w (ae cx fp G w) (aa w st.cont vl) va (.aq k p))(hx:Pl w (ae cx fp G w) (aa w st.cont vl) vx x)(u:Value) :
  ∃b o,va=.pointer (some ⟨b,o,none⟩)/\vx.cells.size=1/\(∀i,i<1->(w.cell? ⟨b,o+i,none⟩).isSome=true/\w.frozen? ⟨b,o+i,none⟩=false)/\(∀v∈vx.cells.toList,v.oneCell'=true) /\
   ∃st' fp' G',K st'/\Hp cx st'.cont (aj vl (1000+st.n) u) fp' G' (w.setCells b o vx.cells.toList)/\st'.wf/\st'.n=st.n+1/\∀i,i<1000->st.cont i=.dead->st'.cont i=.dead:=by
 unfold ng at hK;split at hK
 case h_2=>exact hK.elim
 rename_i j q;obtain⟨hz,hjk,hK⟩:=hK;obtain⟨y,st1,fp1,G1,F,⟨h1,h1'⟩,h2,h4,h6⟩:=Fb hz hK h hw (eP hx);have hr0:aa w st.cont vl va (.aq k p):=eP ha;have hr1:aa w st1.cont vl va (.aq k p):=hr0.bu (h6 _ (.inl (.inl (Ne.symm hjk))));have hr2:aa w (st1.kill (bb k p)).cont vl va (.aq k p):=by rw[St.b9];exact hr1.bu (kT _ _ _)
 have hh:=h2.hp.kill (bb k p);rw[<-St.b9] at hh;have hw1:=St.eW h2.wf (bb k p);obtain⟨hhas,ad,had,rfl⟩:=hr2;have hne:p≠[]:=by rintro rfl;simp[ay] at had
 have hspot:ad.spot=none:=by
  obtain⟨_,_,_,_,_,_,_,_,_,g7⟩:=(hh.ok k).splitAt hhas hne;exact(g7 _ had).2.1
 obtain⟨b,o,sp⟩:=ad;simp only at hspot;subst hspot;obtain⟨_,ax,_,hax⟩:=eP hx;have hcs:vx.cells=#[vx]:=by subst hax;rfl
 have hcl:vx.cells.toList=[vx]:=by rw[hcs]
 have hone:vx.oneCell'=true:=by subst hax;rfl
 rw[hcl]
 obtain⟨fp2,G2,r1,r2,r3⟩:=xE hne (b:=b) [y] [vx] 0 o (fun i c=>i=0/\F c) hh (fun i=>by
   rw[St.b9]
   exact(gr (bb k p) (st1.cont i))) h1 rfl
  (fun i z hy=>by
    cases i with
    | zero =>
     simp only[List.getElem?_cons_zero,Option.some.injEq] at hy;subst hy;exact⟨h4.mono (fun _ h=>h) (fun _ _=>rfl) (fun _ _=>rfl) fun _ h=>⟨rfl,h⟩,fun _=>hone⟩
    | succ i=>simp at hy)
  (fun i c hc=>(h2.hF c hc.2).1) (fun i i' c hii h1 h2=>hii (by rw[h1.1,h2.1])) (fun i hi=>by rw[Nat.zero_add];exact ny p had)
 have hin:(st1.kill (bb k p)).in k:=by
  by_cases hin:(st1.kill (bb k p)).in k
  ·exact hin
  ·rw[St.bZ hin] at hhas;exact hhas.elim
 rw[<-St.c7 hw1 hin] at r1;obtain⟨fp3,k7,k8,k9,k9'⟩:=ow r1 (St.dM hw1 _ _) u;have hn:((st1.kill (bb k p)).put k (dB ((st1.kill (bb k p)).cont k) p 0 [y])).n=st.n:=by rw[St.ew];exact h2.n
 rw[hn] at k7 k9;refine⟨b,o,rfl,by rw[hcs];rfl,fun i hi=>r2 i hi,r3,_,_,_,h1',k7,k8,k9,fun i hi hd=>k9' i hi ?_⟩;have hik:i≠k:=by rintro rfl;rw[St.gn _ (h2.dd _ hd)] at hhas;exact hhas.elim
 rw[St.c7 hw1 hin,av _ _ hik];exact St.gn _ (h2.dd i hd)
theorem E4[Mode]{n:Nat}{a x:D}{K:St->Prop}{st:St}(hK:iD n a x K st)(h:Hp cx st.cont vl fp G w)(hw:st.wf){va vx:Value}(ha:Pl w (ae cx fp G w) (aa w st.cont vl) va a)(hx:Pl w (ae cx fp G w) (aa w st.cont vl) vx x)(u:Value) :
  ∃b o,va=.pointer (some ⟨b,o,none⟩)/\vx.cells.size=n/\(∀i,i<n->(w.cell? ⟨b,o+i,none⟩).isSome=true/\w.frozen? ⟨b,o+i,none⟩=false)/\(∀v∈vx.cells.toList,v.oneCell'=true) /\
   ∃st' fp' G',K st'/\Hp cx st'.cont (aj vl (1000+st.n) u) fp' G' (w.setCells b o vx.cells.toList)/\st'.wf/\st'.n=st.n+1/\∀i,i<1000->st.cont i=.dead->st'.cont i=.dead:=by
 unfold iD at hK;split at hK
 case h_2=>exact hK.elim
 rename_i k p;unfold j6 at hK;split at hK
 ·obtain⟨rfl,hK⟩:=hK
  exact On hK h hw ha hx u
 cases hl:x.cellsOf with
 | none=>rw[hl] at hK;exact hK.elim
 | some l =>
 rw[hl] at hK;obtain⟨hln,hsafe,hK⟩:=hK;obtain⟨hcs,hcell⟩:=lN hx hl;obtain⟨l',st1,fp1,G1,Fs,⟨h1,h1'⟩,h2,h3,h4,h5,h6⟩:=gE l hK h hw (fun _ h=>h) hcell;have hr0:aa w st.cont vl va (.aq k p):=eP ha;have hkeep:∀q,bD (fun s=>iY s q) l->cd w w st.cont st1.cont vl vl q:=h6
 have hsafe':bD (fun s=>iY s (.aq k p)) l:=bf.2 fun s hs=>cn (fun d hd=>by
  cases d<;>try trivial
  rename_i j q;by_cases hjk:k=j
  ·subst hjk
   rcases hd with hd | ⟨hd1,hd2⟩
   ·exact absurd rfl hd
   ·exact .inr ⟨hd1,by simp only[bt,hd2,Bool.and_false]⟩
  ·exact .inl (.inl hjk)) (bf.1 hsafe s hs)
 have hr1:aa w st1.cont vl va (.aq k p):=hr0.bu (hkeep _ hsafe');have hr2:aa w (st1.kill (bb k p)).cont vl va (.aq k p):=by rw[St.b9];exact hr1.bu (kT _ _ _)
 have hh:=h2.hp.kill (bb k p);rw[<-St.b9] at hh;have hw1:=St.eW h2.wf (bb k p);obtain⟨hhas,ad,had,rfl⟩:=hr2;have hne:p≠[]:=by rintro rfl;simp[ay] at had
 have hspot:ad.spot=none:=by
  obtain⟨_,_,_,_,_,_,_,_,_,g7⟩:=(hh.ok k).splitAt hhas hne;exact(g7 _ had).2.1
 obtain⟨b,o,sp⟩:=ad;simp only at hspot;subst hspot;have hlen:vx.cells.toList.length=l'.length:=by rw[h3];simpa using hcs
 obtain⟨fp2,G2,r1,r2,r3⟩:=xE hne (b:=b) l' vx.cells.toList 0 o Fs hh (fun i=>by
   rw[St.b9]
   exact(gr (bb k p) (st1.cont i))) h1 hlen
  (fun i y hy=>by
    obtain⟨q1,q2,-⟩:=h4 i y hy;have e:vx.cells.toList.getD i undef=vx.cells.getD i undef:=by simp
    rw[e]
    exact⟨q1,q2⟩)
  (fun i c hc=>(h2.hF c ⟨i,hc⟩).1) h5 (fun i hi=>by rw[Nat.zero_add];exact ny p had)
 have hin:(st1.kill (bb k p)).in k:=by
  by_cases hin:(st1.kill (bb k p)).in k
  ·exact hin
  ·rw[St.bZ hin] at hhas;exact hhas.elim
 rw[<-St.c7 hw1 hin] at r1;obtain⟨fp3,k7,k8,k9,k9'⟩:=ow r1 (St.dM hw1 _ _) u;have hn:((st1.kill (bb k p)).put k (dB ((st1.kill (bb k p)).cont k) p 0 l')).n=st.n:=by rw[St.ew];exact h2.n
 rw[hn] at k7 k9;refine⟨b,o,rfl,by rw[hcs,hln],fun i hi=>r2 i (by omega),r3,_,_,_,h1',k7,k8,k9,fun i hi hd=>k9' i hi ?_⟩;have hik:i≠k:=by rintro rfl;rw[St.gn _ (h2.dd _ hd)] at hhas;exact hhas.elim
 rw[St.c7 hw1 hin,av _ _ hik];exact St.gn _ (h2.dd i hd)
end
def jl(l:List D)(j:Nat):List D->List D
 | []=>l
 | y::r=>jl (l.set j y) (j+1) r
section
variable{cx:Ctx}{vl:Nat->Value}
theorem E5[Mode]{k b:Nat}:∀(ys:List D)(vs:List Value)(j o:Nat){ct:Nat->D}{l:List D}{fp:Nat->Nat->Prop}{G:Nat->Prop}{w:World},Hp cx ct vl fp G w->ct k=.box l->j+ys.length<=l.length ->
  (∀i,(ct i).refs fun d=>bb k [(0,0)] d=false)->vs.length=ys.length ->
  (∀(i:Nat)(y:D),ys[i]?=some y->bG w (ae cx fp G w) (aa w ct vl) (vs.getD i undef) (fun _=>False) y/\(vs.getD i undef).oneCell'=true/\y.refs fun d=>bb k [(0,0)] d=false) ->
  (∀i,i<ys.length->ay w (vl k) (ct k) [(0,j+i)]=some ⟨b,o+i,none⟩) ->
  ∃fp' G',Hp cx (aj ct k (.box (jl l j ys))) vl fp' G' (w.setCells b o vs)/\(∀i,i<ys.length->(w.cell? ⟨b,o+i,none⟩).isSome=true/\w.frozen? ⟨b,o+i,none⟩=false)/\(∀v∈vs,v.oneCell'=true)
 | [],vs,j,o,ct,l,fp,G,w,h,hbx,_,_,hl,_,_=>by
  have:vs=[]:=List.length_eq_zero_iff.1 hl;subst this;have e:aj ct k (.box (jl l j []))=ct:=by funext i;simp only[aj,jl];split<;>simp_all
  rw[e];exact⟨fp,G,h,fun i hi=>by simp at hi,fun v hv=>by cases hv⟩
 | y::r,[],j,o,ct,l,fp,G,w,_,_,_,_,hl,_,_=>by simp at hl
 | y::r,v::vs,j,o,ct,l,fp,G,w,h,hbx,hjl,hrefs,hl,hown,hadr=>by
  simp only[List.length_cons] at hjl;have ha:=hadr 0 (by simp);rw[Nat.add_zero,Nat.add_zero] at ha;obtain⟨hcell,h1,hyr⟩:=hown 0 y rfl;have hcell:bG w (ae cx fp G w) (aa w ct vl) v (fun _=>False) y:=hcell;have h1:v.oneCell'=true:=h1;have hlv:bc (ct k) [(0,j)]=true:=by rw[hbx];rfl
  have hc:(ct k).aR [(0,j)]:=by
   rw[hbx];exact⟨rfl,by omega,trivial⟩
  have hq:bb k [(0,j)]=bb k [(0,0)]:=C8 (by rfl) k
  have hpart:eH w (ae cx fp G w) (aa w ct vl) v (fun _=>False) (bc (ct k) [(0,j)]) y:=by
   unfold eH;rw[hlv];exact hcell
  have hokc:ei (ct k) [(0,j)] y:=by
   rw[hbx];trivial
  obtain⟨⟨u,hu⟩,hfz,_,aI,hkp⟩:=h.store hc (by simp) ha (G':=G) hpart hokc (by rw[hq];exact hrefs) (fun _=>by rw[hq];exact hyr) (fun _ h=>h.elim) (fun _ h=>h) (fun _ h1 _=>h1)
  have hset:(ct k).setAt [(0,j)] y=.box (l.set j y):=by
   rw[hbx];rfl
  rw[hset] at aI hkp;rw[hq] at hkp
  have hbk:fp k b:=by
   obtain⟨_,F1,F2,_,_,_,g4,_,_,g7⟩:=(h.ok k).splitAt hc (by simp);exact g4 _ (g7 _ ha).1
  have hout:∀c,c≠b->(w.setCell ⟨b,o,none⟩ v).heap[c]?=w.heap[c]?:=fun c hc=>xp v hc
  have hstab:∀c,ae cx fp G w c->ae cx (aj fp k fun c=>fp k c\/False) G (w.setCell ⟨b,o,none⟩ v) c:=by
   rintro c ⟨k1,k2,k3⟩;refine⟨by simpa using k1,k2,fun i hi=>?_⟩;by_cases hik:i=k
   ·subst hik;rw[aT] at hi;exact hi.elim (k3 _) id
   ·rw[av _ _ hik] at hi;exact k3 i hi
  obtain⟨fp',G',r1,r2,r3⟩:=E5 r vs (j+1) (o+1) aI (aT _ _ _) (by rw[List.length_set];omega)
   (fun i=>by
     by_cases hik:i=k
     ·subst hik
      rw[aT,<-hset];have:=qt (h.ok i) hc (by simp) (hrefs i) fun _=>hyr
      exact this
     ·rw[av _ _ hik];exact hrefs i) (by simpa using hl)
   (fun i y0 hy0=>by
     obtain⟨q1,q2,q3⟩:=hown (i+1) y0 (by simpa using hy0);have q1:bG w (ae cx fp G w) (aa w ct vl) (vs.getD i undef) (fun _=>False) y0:=by simpa using q1
     have q2:(vs.getD i undef).oneCell'=true:=by simpa using q2
     exact⟨q1.mono (Q:=fun d=>bb k [(0,0)] d=false) hstab (fun c hc=>hout c (by rintro rfl;exact hc.2.2 k hbk)) (fun _ h=>h.elim) (fun _ h=>h) q3 fun v' d hd hr=>hr.bu (cn hkp hd),q2,q3⟩)
   (fun i hi=>by
     have q1:=hadr (i+1) (by simpa using hi);rw[show j+(i+1)=j+1+i by omega,show o+(i+1)=o+1+i by omega] at q1;rw[aT];rw[hbx] at q1
     exact q1)
  have e:aj (aj ct k (.box (l.set j y))) k (.box (jl (l.set j y) (j+1) r))=aj ct k (.box (jl l j (y::r))):=by
   funext i;simp only[aj,jl];split<;>rfl
  rw[e] at r1;refine⟨fp',G',r1,fun i hi=>?_,fun v' hv'=>?_⟩
  ·cases i with
   | zero=>rw[Nat.add_zero];exact⟨by rw[hu];rfl,hfz⟩
   | succ i =>
    obtain⟨s1,s2⟩:=r2 i (by simpa using hi);rw[show o+1+i=o+(i+1) by omega] at s1 s2;have e1:=World.cell?_setCells_out b [v] o w ⟨b,o+(i+1),none⟩ (fun _ _=>by right;simp);have e2:=World.frozen?_setCells b [v] o w ⟨b,o+(i+1),none⟩;simp only[World.setCells] at e1 e2;rw[e1] at s1;rw[e2] at s2;exact⟨s1,s2⟩
  ·rcases List.mem_cons.1 hv' with rfl | hv'
   ·exact h1
   ·exact r3 v' hv'
theorem DG:∀{l:List D}{i:Nat}{y:D},mS l=true->l[i]?=some y->y.fL=true
 | [],i,y,_,h=>by simp at h
 | x::r,0,y,hl,h=>by
  simp only[mS,Bool.and_eq_true] at hl;simp only[List.getElem?_cons_zero,Option.some.injEq] at h;rw[<-h];exact hl.1
 | x::r,i+1,y,hl,h=>by
  simp only[mS,Bool.and_eq_true] at hl;exact DG hl.2 (by simpa using h)
theorem Da{Q:D->Prop}:∀{l:List D}{i:Nat}{y:D},bD Q l->l[i]?=some y->y.refs Q
 | [],i,y,_,h=>by simp at h
 | x::r,0,y,hl,h=>by
  simp only[List.getElem?_cons_zero,Option.some.injEq] at h;rw[<-h];exact hl.1
 | x::r,i+1,y,hl,h=>Da (l:=r) (i:=i) hl.2 (by simpa using h)
theorem NB{ct:Nat->D}{A:Nat->Prop}{w:World}{v:Value}{y:D}(h:Pl w A (aa w ct vl) v y)(hy:y.fL=true):bG w A (aa w ct vl) v (fun _=>False) y/\(y.isObj=false->True):=by
 cases y<;>first | (cases hy;done) | exact⟨h,fun _=>trivial⟩
theorem NC[Mode]{cx:Ctx}{ct:Nat->D}{fp:Nat->Nat->Prop}{G:Nat->Prop}{A:Nat->Prop}{w:World}{v:Value}{y:D}(_:Hp cx ct vl fp G w)(h:Pl w A (aa w ct vl) v y)(hy:y.fL=true):v.oneCell'=true:=by
 cases y<;>try(cases hy;done)
 case int=>obtain⟨rfl,_⟩:=dJ h;rfl
 case bool=>have:=pl_bool h;subst this;rfl
 case str=>obtain⟨rfl,_⟩:=fI h;rfl
 case slice=>have:=mM h;cases this<;>rfl
 case ptr=>obtain⟨_,_,rfl,_⟩:=ot h;rfl
 case sub=>obtain⟨_,_,⟨_,_,_,rfl⟩ | ⟨_,rfl⟩⟩:=dh h<;>rfl
 case aq=>obtain⟨_,a,_,rfl⟩:=eP h;rfl
 case aF=>have:=bK h (by simp) (by simp) (by simp) (by simp) (by simp);cases this;rfl
 case aM=>have:=bK h (by simp) (by simp) (by simp) (by simp) (by simp);cases this;rfl
theorem E0:∀{ys l:List D}{j i:Nat},(jl l j ys)[i]?=if j<=i/\i<j+ys.length/\i<l.length then ys[i-j]? else l[i]?
 | [],l,j,i=>by rw[if_neg (by simp;omega)];rfl
 | y::r,l,j,i=>by
  rw[jl,E0,List.length_set];by_cases hi:j+1<=i/\i<j+1+r.length/\i<l.length
  ·rw[if_pos hi,if_pos (by simp only[List.length_cons];omega),show i-j=i-(j+1)+1 by omega,List.getElem?_cons_succ]
  ·rw[if_neg hi,List.getElem?_set]
   by_cases hij:j=i
   ·subst hij
    by_cases hl:j<l.length
    ·rw[if_pos rfl,if_pos hl,if_pos (by simp only[List.length_cons];omega),Nat.sub_self];rfl
    ·rw[if_pos rfl,if_neg hl,if_neg (by omega),List.getElem?_eq_none (by omega)]
   ·rw[if_neg hij,if_neg (by simp only[List.length_cons];omega)]
theorem NU{l ys:List D}(h:ys.length=l.length):jl l 0 ys=ys:=by
 refine List.ext_getElem? fun i=>?_
 rw[E0];split
 ·rw[Nat.sub_zero]
 ·rw[List.getElem?_eq_none (by omega),List.getElem?_eq_none (by omega)]
theorem Oo[Mode]{fp:Nat->Nat->Prop}{G:Nat->Prop}{w:World}{n:Nat}{a x:D}{K:St->Prop}{st:St}(hK:lI n a x K st)(h:Hp cx st.cont vl fp G w)(hw:st.wf){va vx:Value}(ha:Pl w (ae cx fp G w) (aa w st.cont vl) va a)(hx:Pl w (ae cx fp G w) (aa w st.cont vl) vx x)(u:Value) :
  ∃b o,va=.pointer (some ⟨b,o,none⟩)/\vx.cells.size=n/\(∀i,i<n->(w.cell? ⟨b,o+i,none⟩).isSome=true/\w.frozen? ⟨b,o+i,none⟩=false)/\(∀v∈vx.cells.toList,v.oneCell'=true) /\
   ∃st' fp' G',K st'/\Hp cx st'.cont (aj vl (1000+st.n) u) fp' G' (w.setCells b o vx.cells.toList)/\st'.wf/\st'.n=st.n+1/\∀i,i<1000->st.cont i=.dead->st'.cont i=.dead:=by
 unfold lI at hK;split at hK
 case h_2=>exact hK.elim
 rename_i k p;cases hz:mr p with
 | false =>
  rw[hz] at hK;exact E4 (a:=.aq k p) hK h hw ha hx u
 | true =>
 obtain rfl:=HN hz;rw[hz] at hK;unfold oE at hK;cases hb:(st.cont k).pq with
 | none=>rw[hb] at hK;exact hK.elim
 | some l0 =>
 rw[hb] at hK;obtain⟨hl0,hK⟩:=hK
 have hbx0:st.cont k=.box l0:=by
  cases hc:st.cont k<;>rw[hc] at hb<;>simp only[D.pq,reduceCtorEq,Option.some.injEq] at hb;rw[hb]
 cases hl:x.cellsOf with
 | none=>rw[hl] at hK;exact hK.elim
 | some l =>
 rw[hl] at hK;obtain⟨hln,hrs,hrf,hK⟩:=hK;obtain⟨hcs,hcell⟩:=lN hx hl;have hr0:aa w st.cont vl va (.aq k [(0,0)]):=eP ha;have hr2:aa w (st.kill (bb k [(0,0)])).cont vl va (.aq k [(0,0)]):=by rw[St.b9];exact hr0.bu (kT _ _ _)
 have hh:=h.kill (bb k [(0,0)]);rw[<-St.b9] at hh;have hw1:=St.eW hw (bb k [(0,0)]);obtain⟨hhas,ad,had,rfl⟩:=hr2
 have hspot:ad.spot=none:=by
  obtain⟨_,_,_,_,_,_,_,_,_,g7⟩:=(hh.ok k).splitAt hhas (by simp);exact(g7 _ had).2.1
 obtain⟨b,o,sp⟩:=ad;simp only at hspot;subst hspot;have hlen:vx.cells.toList.length=l.length:=by simpa using hcs
 have hbx:(st.kill (bb k [(0,0)])).cont k=.box (dq (bb k [(0,0)]) l0):=by rw[St.b9];show D.kill _ (st.cont k)=_;rw[hbx0];rfl
 obtain⟨fp2,G2,r1,r2,r3⟩:=E5 l vx.cells.toList 0 o hh hbx (by rw[jN];omega) (fun i=>by
   rw[St.b9]
   exact(gr (bb k [(0,0)]) (st.cont i))) hlen
  (fun i y hy=>by
    have e:vx.cells.toList.getD i undef=vx.cells.getD i undef:=by simp
    rw[e];have hpl:=hcell i y hy;have hyr:=DG hrs hy;refine⟨?_,NC h hpl hyr,Da hrf hy⟩
    exact(NB hpl hyr).1.mono (Q:=fun _=>True) (fun _ h=>h) (fun _ _=>rfl) (fun _ _=>rfl) (fun _ h=>h) (aV (fun _=>trivial) _) fun v' d _ hr=>hr.bu (aV (fun q=>by rw[St.b9];exact kT _ _ _) _))
  (fun i hi=>by
    have:=ny (n:=i) [(0,0)] had
    exact this)
 rw[NU (by rw[jN];omega)] at r1
 have hin:(st.kill (bb k [(0,0)])).in k:=by
  by_cases hin:(st.kill (bb k [(0,0)])).in k
  ·exact hin
  ·rw[St.bZ hin] at hhas;exact hhas.elim
 rw[<-St.c7 hw1 hin] at r1;obtain⟨fp3,k7,k8,k9,k9'⟩:=ow r1 (St.dM hw1 _ _) u;have hn:((st.kill (bb k [(0,0)])).put k (.box l)).n=st.n:=by rw[St.ew];rfl
 rw[hn] at k7 k9;refine⟨b,o,rfl,by rw[hcs,hln],fun i hi=>r2 i (by omega),r3,_,_,_,hK,k7,k8,k9,fun i hi hd=>k9' i hi ?_⟩;have hik:i≠k:=by rintro rfl;rw[St.gn _ hd] at hhas;exact hhas.elim
 rw[St.c7 hw1 hin,av _ _ hik];exact St.gn _ hd
end
end Go.D3
namespace Go.D3
open Go
theorem Gy{L M:List D}{sz j:Nat}(hz : 0<sz):cellAt (L++M) sz j=if j<L.length*sz then cellAt L sz j else cellAt M sz (j-L.length*sz):=by
 unfold cellAt;by_cases h:j<L.length*sz
 ·rw[if_pos h,List.getElem?_append_left ((Nat.div_lt_iff_lt_mul hz).2 h)]
 ·have hge:L.length*sz<=j:=by omega
  have hq:L.length<=j / sz:=(Nat.le_div_iff_mul_le hz).2 hge;rw[if_neg h,List.getElem?_append_right hq];obtain⟨m,rfl⟩:∃m,j=L.length*sz+m:=⟨j-L.length*sz,by omega⟩;have e1:(L.length*sz+m) / sz=L.length+m / sz:=by rw[Nat.mul_comm,Nat.mul_add_div hz]
  have e2:(L.length*sz+m) % sz=m % sz:=by rw[Nat.mul_comm,Nat.mul_add_mod]
  rw[e1,e2];simp
theorem xr(b:Nat)(e:TypeId)(fz:Nat×Nat):∀(vs:List Value)(o:Nat)(cs:Array Value)(w:World),w.heap[b]?=some (.cells cs e fz)->w.setCells b o vs=w.setRow b (dV cs o vs)
 | [],o,cs,w,h=>by rw[World.setCells,dV,setRow_self w b cs e fz h]
 | v::r,o,cs,w,h=>by
  rw[World.setCells,setCell_eq_setRow w b o cs e fz v h,xr b e fz r (o+1) (cs.setIfInBounds o v) _ (setRow_heap w b cs _ e _ h),setRow_setRow,dV]
theorem Cy{w w':World}{A:Nat->Prop}{z:D}{L M:List D}{sz b' off' cap':Nat}{cs':Array Value}{e:TypeId}{fz:Nat×Nat}{ov nv:Nat->Value}(Fs G:Nat->Nat->Prop){F':Nat->Prop}
  (hold:∀j x,cellAt L sz j=some x->af w A (ov j) x (Fs j)) (hdis:∀i j c,i≠j->Fs i c->¬Fs j c)
  (hnew:∀j x,cellAt M sz j=some x->af w A (nv j) x (G j)) (hGdis:∀i j c,i≠j->G i c->¬G j c) (hFG:∀i j c,Fs i c->¬G j c)
  (hb:w'.heap[b']?=some (.cells cs' e fz)) (hroom:off'+cap'*sz<=cs'.size/\(fz.2<=fz.1\/cs'.size<=fz.1)) (hc:L.length+M.length<=cap') (hm:cap'<=maxLen) (hz : 0<sz) (hzz:z.cells.length=sz)
  (hL:∀x∈L,x.cells.length=sz) (hM:∀x∈M,x.cells.length=sz)
  (hv:∀j,j<(L.length+M.length)*sz->cs'.getD (off'+j) undef=if j<L.length*sz then ov j else nv (j-L.length*sz))
  (hA:∀c,A c->w'.heap[c]?=w.heap[c]?) (hkeep:∀c,((∃j,Fs j c)\/∃j,G j c)->w'.heap[c]?=w.heap[c]?/\c≠b'/\F' c) (hF':F' b') :
  af w' A (.slice (some ⟨b',off',none⟩) (L.length+M.length) cap') (.slice z (L++M)) F':=by
 have hLM:∀x∈L++M,x.cells.length=sz:=fun x hx=>(List.mem_append.1 hx).elim (hL x) (hM x)
 have key:af w' A (.slice (some ⟨b',off',none⟩) (L++M).length cap') (.slice z (L++M)) F':=by
  refine .slice (sz:=sz) (fun j c=>if j<L.length*sz then Fs j c else G (j-L.length*sz) c) hb hroom (by simpa using hc) hm hz hzz hLM (fun j x hx=>?_) hF' (fun j c hj=>?_) (fun i j c hij hi hj=>?_)
  ·have hj:=jz hz hx
   rw[List.length_append] at hj;rw[Gy hz] at hx;rw[hv j hj];by_cases h1:j<L.length*sz
   ·simp only[h1,if_true] at hx|-
    exact(hold j x hx).mono (fun _ h=>h) hA (fun c hc=>(hkeep c (.inl ⟨j,hc⟩)).1) fun _ h=>h
   ·simp only[h1,if_false] at hx|-
    exact(hnew _ x hx).mono (fun _ h=>h) hA (fun c hc=>(hkeep c (.inr ⟨_,hc⟩)).1) fun _ h=>h
  ·split at hj
   ·exact(hkeep c (.inl ⟨j,hj⟩)).2
   ·exact(hkeep c (.inr ⟨_,hj⟩)).2
  ·split at hi<;>split at hj
   ·exact hdis i j c hij hi hj
   ·exact hFG i _ c hi hj
   ·exact hFG j _ c hj hi
   ·exact hGdis _ _ c (by omega) hi hj
 rw[List.length_append] at key;exact key
section
variable{P:Program}{w:World}
theorem zt[Mode]{t ty e:TypeId}{i:TypeInfo}{zv:Value}(ht:P.underlying t=some (.slice e))(hi:P.info? e=some i)(hz:i.zero=some zv)(hzs:zv.cells.size=i.size)(hsz : 0<i.size)(hby : 0<i.bytes)
  {A:Nat->Prop} {v:Value} {z:D} {L M:List D} {F:Nat->Prop} (hown:af w A v (.slice z L) F) (hzz:z.cells.length=i.size) (hM:∀x∈M,x.cells.length=i.size)
  {x:Value} {news:List Value} (hs:Src P i.size t x M.length news w) (G:Nat->Nat->Prop) (hA:∀c,A c->c<w.heap.size/\¬F c) (hFlt:∀c,F c->c<w.heap.size) (hGlt:∀j c,G j c->c<w.heap.size)
  (hnew:∀j d,cellAt M i.size j=some d->af w A (news.getD j undef) d (G j)) (hGdis:∀i j c,i≠j->G i c->¬G j c) (hFG:∀j c,F c->¬G j c)
  (hbytes:(L.length+M.length)*i.bytes<=140737488355328) :
  ∃v' w' F',(Builtin.append_ #[t,t] ty #[v,x]).run P w=.ok v' w'/\af w' A v' (.slice z (L++M)) F'/\w.heap.size<=w'.heap.size/\(∀b,b<w.heap.size->¬F b->w'.heap[b]?=w.heap[b]?) /\
   w'.os=w.os/\w'.tape=w.tape/\bQ w w'/\∀b,F' b->b<w'.heap.size/\(F b\/(∃j,G j b)\/w.heap.size<=b):=by
 have hmax:L.length+M.length<=140737488355328:=by
  have:(L.length+M.length)*1<=(L.length+M.length)*i.bytes:=Nat.mul_le_mul_left _ hby;omega
 have hfit:∀{old:Nat},old<L.length+M.length->Builtin.nextslicecap (L.length+M.length) old*i.bytes<=281474976710656:=fun h=>growslice_fits h hbytes
 have grow:∀(base:Option Addr)(old:Nat)(olds:List Value)(ov:Nat->Value)(Fs:Nat->Nat->Prop),v=.slice base L.length old->old<L.length+M.length ->
   (Builtin.firstCells i.size L.length (.slice base L.length old)).run P w.drew=.ok olds.toArray w.drew->olds.length=L.length*i.size->(∀j,j<olds.length->olds.getD j undef=ov j) ->
   (∀x∈L,x.cells.length=i.size)->(∀j x,cellAt L i.size j=some x->af w A (ov j) x (Fs j))->(∀i j c,i≠j->Fs i c->¬Fs j c)->(∀j c,Fs j c->F c) ->
   ∃v' w' F',(Builtin.append_ #[t,t] ty #[v,x]).run P w=.ok v' w'/\af w' A v' (.slice z (L++M)) F'/\w.heap.size<=w'.heap.size/\(∀b,b<w.heap.size->¬F b->w'.heap[b]?=w.heap[b]?) /\
    w'.os=w.os/\w'.tape=w.tape/\bQ w w'/\∀b,F' b->b<w'.heap.size/\(F b\/(∃j,G j b)\/w.heap.size<=b):=by
  rintro base old olds ov Fs rfl hlt hold hlen hov hLsz hown' hdis hFs;have hrun:=run_append_grow_src (P:=P) w t t ty e i zv ht hi hz base L.length old olds hold x M.length news hs hlt (by omega) (hfit hlt);have hge:=grownCap_ge w (L.length+M.length) old e;have hcm:grownCap w (L.length+M.length) old e<=maxLen:=grownCap_le_maxLen w _ old e (by simp only[maxLen];omega);have hnl:=hs.newsLen
  have hF':=Cy (w:=w) (A:=A) (z:=z) (L:=L) (M:=M) (sz:=i.size) (w':=w.drew.alloc (.cells ((olds++news).toArray++Builtin.zeroCells zv.cells (grownCap w (L.length+M.length) old e-(L.length+M.length))) e)) (b':=w.heap.size) (off':=0)
   (cap':=grownCap w (L.length+M.length) old e) (e:=e) (ov:=ov) (nv:=fun j=>news.getD j undef) Fs G (F':=fun c=>c=w.heap.size\/(∃j,Fs j c)\/∃j,G j c) hown' hdis hnew hGdis (fun i j c h=>hFG j c (hFs i c h)) (heap_alloc_new w.drew _)
   (by
     simp only[Array.size_append,List.size_toArray,List.length_append,size_zeroCells,hzs,hlen,hnl,<-Nat.add_mul,Nat.zero_add]
     refine⟨Nat.mul_le_mul_right _ (by omega),.inl (Nat.le_refl _)⟩)
   hge hcm hsz hzz hLsz hM (fun j hj=>by
    rw[Nat.add_mul] at hj;rw[Nat.zero_add];have h1:j<(olds++news).length:=by rw[List.length_append];omega
    have e1:((olds++news).toArray++Builtin.zeroCells zv.cells (grownCap w (L.length+M.length) old e-(L.length+M.length))).getD j undef=(olds++news).getD j undef:=by
     rw[Array.getD_eq_getD_getElem?,List.getD_eq_getElem?_getD,Array.getElem?_append_left (by simpa using h1),List.getElem?_toArray]
    rw[e1];by_cases h2:j<L.length*i.size
    ·rw[if_pos h2,<-hov j (by omega),List.getD_eq_getElem?_getD,List.getD_eq_getElem?_getD,List.getElem?_append_left (by omega)]
    ·rw[if_neg h2,List.getD_eq_getElem?_getD,List.getD_eq_getElem?_getD,List.getElem?_append_right (by omega),hlen])
   (fun c hc=>heap_alloc_old w.drew _ c (hA c hc).1)
   (fun c hc=>by
     have:c<w.heap.size:=by
      rcases hc with⟨j,hj⟩ | ⟨j,hj⟩
      ·exact hFlt c (hFs j c hj)
      ·exact hGlt j c hj
     exact⟨heap_alloc_old w.drew _ c this,by omega,.inr hc⟩) (.inl rfl)
  refine⟨_,_,_,hrun,hF',by simp,fun b hb _=>heap_alloc_old w.drew _ b hb,rfl,rfl,.le rfl (Nat.le_succ _),fun b hb=>?_⟩;rcases hb with rfl | ⟨j,hj⟩ | ⟨j,hj⟩
  ·exact⟨by simp,.inr (.inr (Nat.le_refl _))⟩
  ·have:=hFlt b (hFs j b hj)
   exact⟨by simp;omega,.inl (hFs j b hj)⟩
  ·have:=hGlt j b hj
   exact⟨by simp;omega,.inr (.inl ⟨j,hj⟩)⟩
 have nothing:∀(base:Option Addr)(n cap:Nat),v=.slice base n cap->n<=cap->M=[] ->
   (Builtin.append_ #[t,t] ty #[v,x]).run P w=.ok v w:=by
  rintro base n cap rfl hle rfl;have hn:news=[]:=List.eq_nil_of_length_eq_zero (by simpa using hs.newsLen);subst hn;exact run_append_nothing w t t ty e i ht hi base n cap hle x hs
 cases hown with
 | nil =>
  by_cases hM0:M=[]
  ·have hr:=nothing none 0 0 rfl (Nat.le_refl _) hM0
   exact⟨_,_,fun _=>False,hr,by rw[hM0];exact .nil,Nat.le_refl _,fun _ _ _=>rfl,rfl,rfl,.of rfl rfl,fun _ h=>h.elim⟩
  ·refine grow none 0 [] (fun _=>undef) (fun _ _=>False) rfl (by cases M<;>simp_all) (run_firstCells_none w.drew i.size 0 0 0) (by simp) (by simp) (by simp) (fun j x hx=>by simp[cellAt] at hx) (fun _ _ _ _ h=>h.elim) (fun _ _ h=>h.elim)
 | @slice _ _ b off cap sz0 cs e0 fz _ Fs hheap hroom hcap hmaxc hz0 hzz0 hszs hr hFb hfs hdis =>
  have:sz0=i.size:=by rw[<-hzz0,hzz]
  subst this;have hblt:b<w.heap.size:=hFlt b hFb;have hnl:=hs.newsLen;have hLcap:L.length*i.size<=cap*i.size:=Nat.mul_le_mul_right _ hcap;by_cases hfits:L.length+M.length<=cap
  ·have hLM:(L.length+M.length)*i.size<=cap*i.size:=Nat.mul_le_mul_right _ hfits
   rw[Nat.add_mul] at hLM
   have hrun:=run_append_room_src (P:=P) w t t ty e i ht hi b off L.length cap x M.length news hs hfits
    (fun j hj=>by
      have:off+L.length*i.size+j<cs.size:=by omega
      simp[World.cell?,hheap,this]) (fun j hj=>by simp[World.frozen?,hheap];omega)
   rw[xr b e0 fz news _ cs w hheap] at hrun;have hset:off+L.length*i.size+news.length<=cs.size:=by omega
   have hF':=Cy (w:=w) (A:=A) (z:=z) (L:=L) (M:=M) (sz:=i.size) (w':=w.setRow b (dV cs (off+L.length*i.size) news)) (b':=b) (off':=off) (cap':=cap) (e:=e0) (ov:=fun j=>cs.getD (off+j) undef) (nv:=fun j=>news.getD j undef) Fs G
    (F':=fun c=>c=b\/(∃j,Fs j c)\/∃j,G j c)
    hr hdis hnew hGdis (fun i j c h=>hFG j c (hfs i c h).2) (setRow_heap w b cs _ e0 _ hheap) (by rw[oD];exact hroom) hfits hmaxc hsz hzz hszs hM
    (fun j hj=>by
      rw[Nat.add_mul] at hj;rw[oC _ _ _ _ hset];by_cases h2:j<L.length*i.size
      ·rw[if_pos h2,if_neg (by omega)]
      ·rw[if_neg h2,if_pos (by omega)]
       congr 1
       omega)
    (fun c hc=>setRow_other w b c _ (by rintro rfl;exact(hA _ hc).2 hFb))
    (fun c hc=>by
      have:c≠b:=by
       rcases hc with⟨j,hj⟩ | ⟨j,hj⟩
       ·exact(hfs j c hj).1
       ·rintro rfl;exact hFG j c hFb hj
      exact⟨setRow_other w b c _ this,this,.inr hc⟩) (.inl rfl)
   refine⟨_,_,_,hrun,hF',by simp,fun c _ hc=>setRow_other w b c _ (by rintro rfl;exact hc hFb),rfl,rfl,.of rfl rfl,fun c hc=>?_⟩;rcases hc with rfl | ⟨j,hj⟩ | ⟨j,hj⟩
   ·exact⟨by simpa using hblt,.inl hFb⟩
   ·exact⟨by simpa using hFlt c (hfs j c hj).2,.inl (hfs j c hj).2⟩
   ·exact⟨by simpa using hGlt j c hj,.inr (.inl ⟨j,hj⟩)⟩
  ·have hlen:((List.range (L.length*i.size)).map fun j=>cs.getD (off+j) undef).length=L.length*i.size:=by simp
   refine grow (some ⟨b,off,none⟩) cap ((List.range (L.length*i.size)).map fun j=>cs.getD (off+j) undef) (fun j=>cs.getD (off+j) undef) Fs rfl (by omega) ?_ hlen (fun j hj=>by simp at hj;simp[hj]) hszs hr hdis (fun j c h=>(hfs j c h).2);refine run_firstCells_some w.drew i.size L.length ⟨b,off,none⟩ L.length cap _ hlen fun j u hj=>?_
   rw[List.getElem?_map,Option.map_eq_some_iff] at hj;obtain⟨k,hk,rfl⟩:=hj;obtain⟨hk1,hk2⟩:=List.getElem?_eq_some_iff.1 hk;simp at hk1 hk2;subst hk2;have h3:off+j<cs.size:=by omega
   have hd:w.drew.heap[b]?=some (.cells cs e0 fz):=hheap;simp[Addr.add_lit,World.cell?,hd,h3]
end
end Go.D3
namespace Go.D3
open Go
section
variable{P:Program}{cx:Ctx}{vl:Nat->Value}{fp:Nat->Nat->Prop}{G:Nat->Prop}{w:World}{A:Nat->Prop}
theorem Hp.vB[Mode]{ct:Nat->D}(h:Hp cx ct vl fp G w){w':World}(hsz:w.heap.size<=w'.heap.size)(hw:∀b,b<w.heap.size->¬G b->w'.heap[b]?=w.heap[b]?)
  (hos:w'.os=w.os) (htape:w'.tape=w.tape) (hout:bQ w w'):Hp cx ct vl fp (fun b=>G b\/(w.heap.size<=b/\b<w'.heap.size)) w' where
 ok k:=by
  refine(h.ok k).mono (Q:=fun _=>True) (fun b hb=>⟨⟨by have:=hb.1.1;omega,hb.1.2⟩,fun hg=>hg.elim hb.2.1 (fun hh=>by have:=hb.1.1;omega),hb.2.2⟩) (fun b hb=>hw b hb.1.1 hb.2.1) (fun b hb=>hw b (h.lt k b hb).1 (h.bh k b hb)) (fun _ h=>h) (aV (fun _=>trivial) _) fun v d _ hr=>?_
  refine hr.bu (aV (fun d=>?_) _);cases d<;>try trivial
  case sub k p=>exact fun hp=>⟨hp,(eF (h.ok k) hp.1 fun b hb=>hw b (h.lt k b hb).1 (h.bh k b hb)).1⟩
  case aq k p=>exact fun hp=>⟨hp,(eF (h.ok k) hp fun b hb=>hw b (h.lt k b hb).1 (h.bh k b hb)).2⟩
 bk:=h.bk
 bh k b hb hg:=hg.elim (h.bh k b hb) fun hh=>by have:=(h.lt k b hb).1;omega
 emp:=h.emp
 lt k b hb:=⟨by have:=(h.lt k b hb).1;omega,(h.lt k b hb).2⟩
 bd b hb:=hb.elim (fun hg=>⟨by have:=(h.bd b hg).1;omega,(h.bd b hg).2⟩) fun hh=>⟨hh.2,.inr (by have:=h.size;omega)⟩
 size:=Nat.le_trans h.size hsz
 same b hb hF:=by
  rw[hw b (by have:=h.size;omega) fun hg=>((h.bd b hg).2).elim hF fun hh=>by omega];exact h.same b hb hF
 os:=hos.trans h.os
 tape:=htape.trans h.tape
 output:=hout.trans h.output
theorem L7[Mode]{st:St}(h:Hp cx st.cont vl fp G w)(hwf:st.wf){w':World}(hsz:w.heap.size<=w'.heap.size)(hw:∀b,b<w.heap.size->¬G b->w'.heap[b]?=w.heap[b]?)
  (hos:w'.os=w.os) (htape:w'.tape=w.tape) (hout:bQ w w') {v:Value} {x:D} {F:Nat->Prop} (hF:∀b,F b->b<w'.heap.size/\(G b\/w.heap.size<=b)) (ho:af w' (ae cx fp G w) v x F) :
  ∃fp' G',Hp cx (st.push (.o x)).cont (aj vl (1000+st.n) v) fp' G' w'/\(st.push (.o x)).wf/\(st.push (.o x)).n=st.n+1/\∀i,i<1000->st.cont i=.dead->(st.push (.o x)).cont i=.dead:=by
 have hd:st.cont (1000+st.n)=.dead:=St.bZ (by simp only[St.in,not_or,not_and];omega);have h1:=h.vB hsz hw hos htape hout;rw[St.cm hwf];refine⟨_,fun _=>False,h1.put (by rw[hd];rfl) (F:=F) (c:=.o x) (show af w' _ v x F from ho.mono (fun b hb=>?_) (fun _ _=>rfl) (fun _ _=>rfl) fun _ h=>h) (fun b hb=>?_) (fun _ h=>h.elim) (fun _ _ h=>h) (fun h=>by cases h),St.dW hwf _,rfl,fun i hi hd=>by rw[av _ _ (by omega)];exact hd⟩
 ·exact⟨⟨by have:=hb.1.1;omega,hb.1.2⟩,fun hg=>hg.elim hb.2.1 fun hh=>by have:=hb.1.1;omega,hb.2.2⟩
 ·obtain⟨q1,q2⟩:=hF b hb
  exact q2.imp id fun hh=>⟨hh,q1⟩
theorem Gd[Mode]{s:D}{K:D->St->Prop}{st:St}{v:Value}(hK:fP s K st)(h:Hp cx st.cont vl fp G w)(hw:st.wf)(hv:Pl w A (aa w st.cont vl) v s) :
  ∃y st' fp' G' F,K y st'/\Tk cx w vl st fp G st' fp' G' F/\af w (ae cx fp' G' w) v y F:=by
 unfold fP at hK;split at hK
 ·obtain⟨x,st',fp',G',F,h1,h2,h3,-⟩:=tB hK h hw (dh hv)
  exact⟨x,st',fp',G',F,h1,h2,h3⟩
 ·have:=bK hv (by simp) (by simp) (by simp) (by simp) (by simp)
  cases this;exact⟨_,st,fp,G,_,hK,.refl h hw,.nil⟩
 ·exact hK.elim
theorem zL{y:D}{v:Value}{F:Nat->Prop}(h:af w A v y F){m:Nat}(hl:y.bM=some m):∃z L,y=.slice z L/\m=L.length:=by
 cases h<;>simp only[D.bM,reduceCtorEq,Option.some.injEq] at hl
 ·exact⟨_,_,rfl,by simpa using hl.symm⟩
 ·exact⟨_,_,rfl,hl.symm⟩
theorem Lx{v:Value}{x:D}{F:Nat->Prop}(h:af w A v x F)(h1:x.isAgg=false->v.oneCell'=true) :
  ∃Gs:Nat->Nat->Prop,(∀(off:Nat)(d:D),x.cells[off]?=some d->af w A (v.cells.getD off undef) d (Gs off))/\(∀off c,Gs off c->F c)/\(∀i j c,i≠j->Gs i c->¬Gs j c):=by
 by_cases ha:x.isAgg=true
 ·cases h with
  | agg Fs hs hr hfs hdis=>exact⟨Fs,fun off d hd=>hr off d hd,hfs,hdis⟩
  | _=>cases ha
 ·have ha':x.isAgg=false:=by simpa using ha
  have hone:=h1 ha';have hvc:v.cells=#[v]:=by cases v<;>first | rfl | cases hone
  refine⟨fun j c=>j=0/\F c,fun off d hd=>?_,fun off c hc=>hc.2,fun i j c hij hi hj=>hij (hi.1.trans hj.1.symm)⟩;rw[D.cells_one ha'] at hd;cases off with
  | zero =>
   simp at hd;subst hd;rw[hvc];exact h.mono (fun _ h=>h) (fun _ _=>rfl) (fun _ _=>rfl) fun c hc=>⟨rfl,hc⟩
  | succ off=>simp at hd
theorem Om{t e:TypeId}(ht:P.underlying t=some (.slice e)){v:Value}{z:D}{M:List D}(h:Rd w A v (.slice z M))(hc:∀x∈M,x.bX=true)(A':Nat->Prop) :
  ∃news,Src P 1 t v M.length news w/\∀j d,cellAt M 1 j=some d->af w A' (news.getD j undef) d (fun _=>False):=by
 have hcells:∀{x:D},x.bX=true->x.cells=[x]:=fun {x} hx=>by cases x<;>first | rfl | cases hx
 have hown:∀{v:Value}{x:D},Rd w A v x->x.bX=true->af w A' v x (fun _=>False)/\v.oneCell'=true:=by
  intro v x h hx;cases h<;>first | cases hx | skip
  ·exact⟨.int ‹_›,rfl⟩
  ·exact⟨.bool,rfl⟩
  ·exact⟨.str ‹_›,rfl⟩
 cases h with
 | nil=>exact⟨[],Src.ofNil w ht 0,fun j d hd=>by simp[cellAt] at hd⟩
 | @empty _ p cap hm=>exact⟨[],Src.ofSlice w ht p 0 cap [] (by simp) (fun j u hj=>by simp at hj) (fun u hu=>by simp at hu),fun j d hd=>by simp[cellAt] at hd⟩
 | @slice _ _ b off cap sz hA hcap hm hz hzz hsz vs hcells' hr =>
  have hcell:∀j (hj:j<M.length),cellAt M sz j=some M[j]/\M[j].bX=true:=fun j hj=>by
   have h2:=hc M[j] (List.getElem_mem hj);have h1:=hcells h2
   have hs1:sz=1:=by
    have:=hsz M[j] (List.getElem_mem hj);rw[h1] at this;exact this.symm
   subst hs1;refine⟨?_,h2⟩;unfold cellAt;rw[Nat.div_one,Nat.mod_one,List.getElem?_eq_getElem hj];simp[h1]
  refine⟨(List.range M.length).map vs,Src.ofSlice w ht ⟨b,off,none⟩ M.length cap _ (by simp) (fun j u hj=>?_) (fun u hu=>?_),fun j d hd=>?_⟩
  ·rw[List.getElem?_map,Option.map_eq_some_iff] at hj
   obtain⟨k,hk,rfl⟩:=hj;obtain⟨hk1,hk2⟩:=List.getElem?_eq_some_iff.1 hk;simp at hk1 hk2;subst hk2;rw[Addr.add_lit];exact hcells' j _ (hcell j hk1).1
  ·obtain⟨j,hj,rfl⟩:=List.mem_map.1 hu
   simp at hj;exact(hown (hr j _ (hcell j hj).1) (hcell j hj).2).2
  ·have hj:=jz (by omega) hd
   rw[Nat.mul_one] at hj
   have e1:cellAt M 1 j=some M[j]:=by
    unfold cellAt;rw[Nat.div_one,Nat.mod_one,List.getElem?_eq_getElem hj];simp[hcells (hc M[j] (List.getElem_mem hj))]
   rw[e1] at hd;injection hd with hd
   subst hd;have e2:((List.range M.length).map vs).getD j undef=vs j:=by simp[hj]
   rw[e2];exact(hown (hr j _ (hcell j hj).1) (hcell j hj).2).1
theorem Ci{sz:Nat}:∀{l:List D},qd sz l->∀e∈l,e.cells.length=sz
 | [],_,e,he=>by cases he
 | x::r,h,e,he=>by
  rcases List.mem_cons.1 he with rfl | he
  ·exact h.1
  ·exact Ci h.2 e he
mutual
theorem tN:∀(d:D){K:D->St->Prop}{st:St},aw d K st->∃x st',K x st'
 | .int _ _,K,st,h=>by simp only[aw] at h;exact⟨_,_,h⟩
 | .bool _,K,st,h=>by simp only[aw] at h;exact⟨_,_,h⟩
 | .str _,K,st,h=>by simp only[aw] at h;exact⟨_,_,h⟩
 | .aF,K,st,h=>by simp only[aw] at h;exact⟨_,_,h⟩
 | .fn _ [],K,st,h=>by simp only[aw] at h;exact⟨_,_,h⟩
 | .slice _ _,K,st,h=>by simp only[aw] at h;exact⟨_,_,h⟩
 | .ptr _,K,st,h=>by simp only[aw] at h;exact⟨_,_,h⟩
 | .aM _,K,st,h=>by simp only[aw] at h;exact⟨_,_,h⟩
 | .bw,K,st,h=>by simp only[aw] at h;exact⟨_,_,h⟩
 | .bl,K,st,h=>by simp only[aw] at h;exact⟨_,_,h⟩
 | .bq _ _,K,st,h=>by simp only[aw] at h;exact⟨_,_,h⟩
 | .mp _ _,K,st,h=>by simp only[aw] at h
 | .bE _ _,K,st,h=>by simp only[aw] at h
 | .fv _,K,st,h=>by simp only[aw] at h
 | .sub k [],K,st,h=>by
  simp only[aw,du] at h;cases ho:(st.cont k).gB with
  | none=>rw[ho] at h;exact h.elim
  | some x=>rw[ho] at h;exact⟨_,_,h⟩
 | .sub k (s::p),K,st,h=>by simp only[aw,du] at h;exact⟨_,_,h⟩
 | .agg l,K,st,h=>by
  simp only[aw] at h;obtain⟨l',st',h'⟩:=zi l h;exact⟨_,_,h'⟩
 | .fn _ (_::_),K,st,h=>by simp only[aw] at h;exact⟨_,_,h.2⟩
 | .au _,K,st,h=>by simp only[aw] at h
 | .vw _,K,st,h=>by simp only[aw] at h
 | .o _,K,st,h=>by simp only[aw] at h
 | .box _,K,st,h=>by simp only[aw] at h
 | .row _ _,K,st,h=>by simp only[aw] at h
 | .aq _ _,K,st,h=>by simp only[aw] at h
 | .pre _ _ _,K,st,h=>by simp only[aw] at h
 | .when _ _,K,st,h=>by simp only[aw] at h
 | .dead,K,st,h=>by simp only[aw] at h
theorem zi:∀(l:List D){K:List D->St->Prop}{st:St},bR l K st->∃x st',K x st'
 | [],K,st,h=>by simp only[bR] at h;exact⟨_,_,h⟩
 | x::r,K,st,h=>by
  simp only[bR] at h;obtain⟨x',st',h'⟩:=tN x h.2;obtain⟨l',st'',h''⟩:=zi r h';exact⟨_,_,h''⟩
end
theorem tP:∀(l:List D){K:List D->St->Prop}{st:St},bR l K st->∀e∈l,∃K' st',aw e K' st'
 | [],K,st,_,e,he=>by cases he
 | x::r,K,st,h,e,he=>by
  simp only[bR] at h;rcases List.mem_cons.1 he with rfl | he
  ·exact⟨_,_,h.2⟩
  ·obtain⟨x',st',h'⟩:=tN x h.2
   exact tP r h' e he
theorem GG{l:List D}{sz j:Nat}{c:D}(h:∀e∈l,∃K' st',aw e K' st')(hc:cellAt l sz j=some c):∃K' st',aw c K' st':=by
 unfold cellAt at hc;cases hq:l[j / sz]? with
 | none=>simp[hq] at hc
 | some e =>
  rw[hq,Option.bind_some] at hc;obtain⟨K',st',hK⟩:=h e (List.mem_of_getElem? hq);have hm:=List.mem_of_getElem? hc;cases e<;>simp only[D.cells,List.mem_singleton] at hm<;>first | (subst hm;exact⟨_,_,hK⟩) | skip
  rename_i l0;simp only[aw] at hK;exact tP l0 hK c hm
theorem K9{ct:Nat->D}{v:Value}{c:D}(h:Pl w A (aa w ct vl) v c)(hp:c.pc=true)(hl:∃K' st',aw c K' st'):v.oneCell'=true:=by
 obtain⟨K',st',hK⟩:=hl;cases c<;>try(cases hp;done)
 case int=>obtain⟨rfl,_⟩:=dJ h;rfl
 case bool=>have:=pl_bool h;subst this;rfl
 case str=>obtain⟨rfl,_⟩:=fI h;rfl
 case slice=>have:=mM h;cases this<;>rfl
 case ptr=>obtain⟨_,_,rfl,_⟩:=ot h;rfl
 case fn=>obtain⟨_,rfl,_⟩:=lu h;rfl
 case sub=>obtain⟨_,_,⟨_,_,_,rfl⟩ | ⟨_,rfl⟩⟩:=dh h<;>rfl
 case aq=>simp only[aw] at hK
 case dead=>simp only[aw] at hK
 case aF=>have:=bK h (by simp) (by simp) (by simp) (by simp) (by simp);cases this;rfl
 case aM=>have:=bK h (by simp) (by simp) (by simp) (by simp) (by simp);cases this;rfl
 case mp=>simp only[aw] at hK
 case bE=>simp only[aw] at hK
 case fv=>simp only[aw] at hK
 case bw=>have:=bK h (by simp) (by simp) (by simp) (by simp) (by simp);cases this;rfl
 case bl=>have:=bK h (by simp) (by simp) (by simp) (by simp) (by simp);cases this;rfl
 case bq=>have:=bK h (by simp) (by simp) (by simp) (by simp) (by simp);cases this;rfl
theorem ud[Mode]{t ty e:TypeId}{i:TypeInfo}{zv:Value}(ht:P.underlying t=some (.slice e))(hi:P.info? e=some i)(hz:i.zero=some zv)(hzs:zv.cells.size=i.size)(hsz : 0<i.size)(hby : 0<i.bytes)
  {st:St} {s:D} {vs x:Value} {M:List D} {K:St->Prop} (hK:fP s (fun y st=>y.fC=i.size/\b7 y.bM fun m=>(m+M.length)*i.bytes<=140737488355328/\K (st.push (.o (y.dY M)))) st)
  (h:Hp cx st.cont vl fp G w) (hw:st.wf) (hv:Pl w A (aa w st.cont vl) vs s) (hM:∀x∈M,x.cells.length=i.size) {news:List Value} (hs:Src P i.size t x M.length news w) (Gs:Nat->Nat->Prop)
  (hnew:∀j d,cellAt M i.size j=some d->af w (ae cx fp G w) (news.getD j undef) d (Gs j)) (hGdis:∀i j c,i≠j->Gs i c->¬Gs j c) (hGG:∀j c,Gs j c->G c) :
  ∃v' w',(Builtin.append_ #[t,t] ty #[vs,x]).run P w=.ok v' w'/\∃st' fp' G',K st'/\Hp cx st'.cont (aj vl (1000+st.n) v') fp' G' w'/\st'.wf/\st'.n=st.n+1/\∀i,i<1000->st.cont i=.dead->st'.cont i=.dead:=by
 obtain⟨y,st1,fp1,G1,F,⟨h1,h2⟩,h3,h4⟩:=Gd hK h hw hv;cases hl:y.bM with
 | none=>rw[hl] at h2;exact h2.elim
 | some m =>
 rw[hl] at h2;obtain⟨hb,hKK⟩:=h2;obtain⟨z,L,rfl,rfl⟩:=zL h4 hl
 obtain⟨v',w',F',r1,r2,r3,r4,r5,r6,r7,r8⟩:=zt (ty:=ty) ht hi hz hzs hsz hby h4 h1 hM hs Gs (fun c hc=>⟨hc.1.1,fun hf=>hc.2.1 (h3.hF c hf).1⟩) (fun c hc=>(h3.hp.bd c (h3.hF c hc).1).1) (fun j c hc=>(h.bd c (hGG j c hc)).1)
  (fun j d hd=>(hnew j d hd).mono h3.aI (fun _ _=>rfl) (fun _ _=>rfl) fun _ h=>h) hGdis (fun j c hf hg=>(h3.hF c hf).2 (hGG j c hg)) hb
 obtain⟨fp2,G2,k1,k2,k3,k4⟩:=L7 h3.hp h3.wf r3 (fun b hb hg=>r4 b hb fun hf=>hg (h3.hF b hf).1) r5 r6 r7 (fun b hb=>⟨(r8 b hb).1,(r8 b hb).2.elim (fun hf=>.inl (h3.hF b hf).1) fun hh=>hh.elim (fun⟨j,hj⟩=>.inl (h3.hG b (hGG j b hj))) .inr⟩) r2;rw[h3.n] at k1 k3;exact⟨v',w',r1,_,_,_,hKK,k1,k2,k3,fun i hi hd=>k4 i hi (h3.dd i hd)⟩
theorem Cl:∀{l:List D},mF l=true->∀x∈l,x.fH=true
 | [],_,x,hx=>by cases hx
 | y::r,h,x,hx=>by
  simp only[mF,Bool.and_eq_true] at h;rcases List.mem_cons.1 hx with rfl | hx
  ·exact h.1
  ·exact Cl h.2 x hx
theorem F3[Mode]{sz bytes:Nat}{s x:D}{K:St->Prop}{st:St}(hK:lY sz bytes s x K st)(h:Hp cx st.cont vl fp G w)(hw:st.wf){vs vx:Value}(hs:Pl w (ae cx fp G w) (aa w st.cont vl) vs s)(hx:Pl w (ae cx fp G w) (aa w st.cont vl) vx x)
  {t ty e:TypeId} {i:TypeInfo} {zv:Value} (ht:P.underlying t=some (.slice e)) (hi:P.info? e=some i) (hz:i.zero=some zv) (hzs:zv.cells.size=i.size) (hisz:i.size=sz) (hsz : 0<sz) (hiby:i.bytes=bytes) (hby : 0<bytes) :
  ∃v' w',(Builtin.append_ #[t,t] ty #[vs,vx]).run P w=.ok v' w'/\∃st' fp' G',K st'/\Hp cx st'.cont (aj vl (1000+st.n) v') fp' G' w'/\st'.wf/\st'.n=st.n+1/\∀i,i<1000->st.cont i=.dead->st'.cont i=.dead:=by
 subst hisz hiby;unfold lY at hK;cases hmv:mC st x with
 | some kp =>
  rw[hmv] at hK;obtain⟨hsafe,hK⟩:=hK;obtain⟨k,p⟩:=kp
  have hxk:x=.sub k p:=by
   unfold mC at hmv;split at hmv
   ·split at hmv<;>simp only[reduceCtorEq,Option.some.injEq,Prod.mk.injEq] at hmv
    rw[hmv.1,hmv.2]
   ·split at hmv<;>simp only[reduceCtorEq,Option.some.injEq,Prod.mk.injEq] at hmv
    rw[hmv.1,hmv.2]
   ·cases hmv
  subst hxk;obtain⟨y,st1,fp1,G1,F,⟨he,hK1⟩,htk,hown,hkeep⟩:=tB hK h hw (dh hx);cases hels:y.gk with
  | none=>rw[hels] at hK1;exact hK1.elim
  | some M =>
  rw[hels] at hK1;obtain⟨hsl,hK2⟩:=hK1
  have hsv:Pl w (ae cx fp G w) (aa w st1.cont vl) vs s:=hs.bu (fun _ h=>h) (fun _ _=>rfl) (by
   have h1:=wN (T:=iY) (r:=s) (D.sub k p) (show(D.sub k p).refs _ from by
    have:=xd (show lD [s] (.sub k p) from hsafe);simp only[D.refs,bD] at this
    exact this.1)
   exact cn (fun q hq=>hkeep q hq) h1)
  have hmvE:∀e∈M,e.cells.length=i.size/\mF e.cells=true:=fun e he=>by have:=hsl e he;simp only[D.vC,Bool.and_eq_true,decide_eq_true_eq] at this;exact this
  have hone:∀{v:Value}{e:D}{B:Nat->Prop}{F:Nat->Prop},af w B v e F->e.fH=true->v.oneCell'=true:=fun ho he=>by cases ho<;>first | rfl | cases he
  have hM1:∀e∈M,e.cells.length=i.size:=fun e he=>(hmvE e he).1
  obtain⟨news,Fs,n1,n2,n3,n4⟩:∃(news:List Value)(Fs:Nat->Nat->Prop),Src P i.size t vx M.length news w/\(∀j d,cellAt M i.size j=some d->af w (ae cx fp1 G1 w) (news.getD j undef) d (Fs j))/\(∀i j c,i≠j->Fs i c->¬Fs j c)/\∀j c,Fs j c->F c:=by
   cases hown<;>simp only[D.gk,reduceCtorEq,Option.some.injEq] at hels
   ·subst hels
    exact⟨[],fun _ _=>False,Src.ofNil w ht 0,fun j d hd=>by simp[cellAt] at hd,fun _ _ _ _ h=>h.elim,fun _ _ h=>h.elim⟩
   ·rename_i z L b off cap sz0 cs e0 fz Fs hheap hroom hcap hmaxc hz0 hzz0 hszs hr hdis hFb hfs
    subst hels;have hsz0:sz0=i.size:=by rw[<-hzz0];exact he
    subst hsz0;have hLcap:L.length*i.size<=cap*i.size:=Nat.mul_le_mul_right _ hcap;refine⟨(List.range (L.length*i.size)).map fun j=>cs.getD (off+j) undef,Fs,Src.ofSlice w ht ⟨b,off,none⟩ L.length cap _ (by simp) (fun j u hj=>?_) (fun u hu=>?_),fun j d hd=>?_,hdis,fun j c hc=>(hfs j c hc).2⟩
    ·rw[List.getElem?_map,Option.map_eq_some_iff] at hj
     obtain⟨q,hq,rfl⟩:=hj;obtain⟨hq1,hq2⟩:=List.getElem?_eq_some_iff.1 hq;simp at hq1 hq2;subst hq2;have h3:off+j<cs.size:=by omega
     simp[Addr.add_lit,World.cell?,hheap,h3]
    ·obtain⟨j,hj,rfl⟩:=List.mem_map.1 hu
     simp at hj;obtain⟨d,hd⟩:=z8 hz0 hszs hj;obtain⟨e,he,hde⟩:=GA hd;exact hone (hr j d hd) (Cl (hmvE e he).2 d hde)
    ·have hj:=jz hz0 hd
     have e2:((List.range (L.length*i.size)).map fun j=>cs.getD (off+j) undef).getD j undef=cs.getD (off+j) undef:=by simp[hj]
     rw[e2];exact hr j d hd
  refine ud (ty:=ty) ht hi hz hzs hsz hby hK2 htk.hp htk.wf hsv hM1 n1 Fs n2 n3 (fun j c hc=>(htk.hF c (n4 j c hc)).1) |>.imp fun v' hh=>hh.imp fun w' hh=>⟨hh.1,by
   obtain⟨st',fp',G',a1,a2,a3,a4,a5⟩:=hh.2;rw[htk.n] at a2 a4
   exact⟨st',fp',G',a1,a2,a3,a4,fun i hi hd=>a5 i hi (htk.dd i hd)⟩⟩
 | none =>
 rw[hmv] at hK;cases ha:qY st x with
 | none=>rw[ha] at hK;exact hK.elim
 | some src =>
 rw[ha] at hK;unfold qY at ha;cases hrow:isRow st x with
 | some l =>
  rw[hrow] at ha;simp only[Option.some.injEq] at ha;subst ha;obtain⟨hl,hsafe,hK⟩:=hK;unfold isRow at hrow;split at hrow<;>try(cases hrow;done)
  rename_i k
  have hcr:∃z0,st.cont k=.row z0 l:=by
   cases hc:st.cont k<;>rw[hc] at hrow<;>simp only[D.row?,reduceCtorEq,Option.some.injEq] at hrow;exact⟨_,by rw[hrow]⟩
  obtain⟨z0,hc⟩:=hcr;obtain⟨-,hvx,-⟩:=dh hx;simp only[aE,Option.some.injEq] at hvx;have hok:=h.ok k;rw[hc] at hok;obtain⟨b,szr,cs,e0,q1,q2,q3,q4,q5,q6,q7,q8,q9⟩:=hok;have hlsz:=Ci hl
  have hcs:cs.size=l.length*i.size:=by
   cases l with
   | nil=>simpa using q3
   | cons a r =>
    have e1:=q7 a (by simp);have e2:=hlsz a (by simp);rw[q3];congr 1;omega
  have hcell:∀j c,cellAt l i.size j=some c->Pl w (ae cx fp G w) (aa w st.cont vl) (cs.getD j undef) c/\c.pc=true:=by
   intro j c hj;cases l with
   | nil=>simp[cellAt] at hj
   | cons a r =>
    have e1:=q7 a (by simp);have e2:=hlsz a (by simp);have:szr=i.size:=by omega
    subst this;exact q8 j c hj
  let ev:Nat->Value:=fun q=>if(l.getD q .dead).isAgg=true then .agg (cs.extract (q*i.size) (q*i.size+i.size)) else cs.getD (q*i.size) undef
  have hev:∀(q off:Nat),q<l.length->off<i.size->(ev q).oneCell'=true\/(l.getD q .dead).isAgg=true->(ev q).cells.getD off undef=cs.getD (q*i.size+off) undef:=by
   intro q off hq ho hone
   have hb1:q*i.size+off<cs.size:=by
    have:(q+1)*i.size<=l.length*i.size:=Nat.mul_le_mul_right _ hq;rw[Nat.add_mul] at this;omega
   by_cases hagg:(l.getD q .dead).isAgg=true
   ·simp only[ev,hagg,if_true,Value.cells]
    simp only[Array.getD_eq_getD_getElem?,Array.getElem?_extract];rw[if_pos (by omega)]
   ·have hone:=hone.resolve_right hagg
    have hag':(l.getD q .dead).isAgg=false:=by simpa using hagg
    have hlen:=hlsz (l.getD q .dead) (by rw[List.getD_eq_getElem?_getD,List.getElem?_eq_getElem hq];exact List.getElem_mem hq);rw[D.cells_one hag'] at hlen;simp only[List.length_cons,List.length_nil] at hlen;have ho0:off=0:=by omega
    subst ho0;have hvc:(ev q).cells=#[ev q]:=by revert hone;generalize ev q=u;intro hone;cases u<;>first | rfl | cases hone
    have e2:ev q=cs.getD (q*i.size) undef:=by simp only[ev,hag',Bool.false_eq_true,if_false]
    rw[hvc,e2];rfl
  have hget:∀(q:Nat)(x:D),l[q]?=some x->q<l.length/\l.getD q .dead=x:=fun q x hq=>⟨(List.getElem?_eq_some_iff.1 hq).1,by rw[List.getD_eq_getElem?_getD,hq];rfl⟩
  have hat:∀(q off:Nat)(x:D),l[q]?=some x->off<i.size->cellAt l i.size (q*i.size+off)=x.cells[off]?:=by
   intro q off x hq ho;unfold cellAt;have e1:(q*i.size+off) / i.size=q:=by rw[Nat.mul_comm,Nat.mul_add_div hsz,Nat.div_eq_of_lt ho];rfl
   have e2:(q*i.size+off) % i.size=off:=by rw[Nat.mul_comm,Nat.mul_add_mod,Nat.mod_eq_of_lt ho]
   rw[e1,e2,hq];rfl
  have hlive:=tP l hK
  have hels:∀(q:Nat)(x:D),l[q]?=some x->Pl w (ae cx fp G w) (aa w st.cont vl) ((((List.range l.length).map ev).toArray).getD q undef) x:=by
   intro q x hq;obtain⟨hq1,hq2⟩:=hget q x hq;have e1:(((List.range l.length).map ev).toArray).getD q undef=ev q:=by simp[hq1]
   rw[e1];have hxl:=hlsz x (List.mem_of_getElem? hq);have hb1:(q+1)*i.size<=l.length*i.size:=Nat.mul_le_mul_right _ hq1;rw[Nat.add_mul] at hb1;by_cases hagg:x.isAgg=true
   ·have e2:ev q=.agg (cs.extract (q*i.size) (q*i.size+i.size)):=by simp only[ev,hq2,hagg,if_true]
    rw[e2];cases x<;>simp only[D.isAgg,Bool.false_eq_true] at hagg;rename_i l0;have hl0:l0.length=i.size:=hxl;refine .agg (by simp;omega) fun off c hoc=>?_
    have ho:=(List.getElem?_eq_some_iff.1 hoc).1;have:=(hcell (q*i.size+off) c (by rw[hat q off _ hq (by omega)];exact hoc)).1;simp only[Array.getD_eq_getD_getElem?,Array.getElem?_extract] at this|-
    rw[if_pos (by omega)];exact this
   ·have hag':x.isAgg=false:=by simpa using hagg
    have e2:ev q=cs.getD (q*i.size) undef:=by simp only[ev,hq2,hag',Bool.false_eq_true,if_false]
    rw[e2];have:=(hcell (q*i.size+0) x (by rw[hat q 0 _ hq hsz,D.cells_one hag'];rfl)).1;exact this
  obtain⟨M,st1,fp1,G1,Fs,k1,k2,k3,k4,k5,k6⟩:=gE l hK h hw (fun _ h=>h) hels
  have hs1:Pl w (ae cx fp G w) (aa w st1.cont vl) vs s:=hs.bu (fun _ h=>h) (fun _ _=>rfl) (by
   have h1:s.refs fun q=>bD (fun t=>iY t q) l:=by
    have:=wN (T:=iY) (r:=s) (.agg l) (cn (fun d hd=>by
     have:=xd hd;simp only[D.refs,bD] at this
     exact this.1) (show(D.agg l).refs _ from hsafe))
    exact this
   exact cn (fun q hq=>k6 q hq) h1)
  have hMget:∀(q:Nat)(y:D),M[q]?=some y->q<l.length/\y.cells.length=i.size/\(y.isAgg=false->(ev q).oneCell'=true)/\af w (ae cx fp1 G1 w) (ev q) y (Fs q)/\(y.isAgg=true->(l.getD q .dead).isAgg=true):=by
   intro q y hq;obtain⟨r1,r2,d,r3,r4,r5⟩:=k4 q y hq;obtain⟨hq1,hq2⟩:=hget q d r3;have e1:(((List.range l.length).map ev).toArray).getD q undef=ev q:=by simp[hq1]
   rw[e1] at r1 r2;exact⟨hq1,by rw[r5];exact hlsz d (List.mem_of_getElem? r3),r2,r1,fun hy=>by rw[hq2,<-r4];exact hy⟩
  have hskol:∀q,∃Gs:Nat->Nat->Prop,∀y,M[q]?=some y->(∀(off:Nat)(d:D),y.cells[off]?=some d->af w (ae cx fp1 G1 w) ((ev q).cells.getD off undef) d (Gs off))/\(∀off c,Gs off c->Fs q c)/\(∀i j c,i≠j->Gs i c->¬Gs j c):=by
   intro q;cases hq:M[q]? with
   | none=>exact⟨fun _ _=>False,fun y hy=>by cases hy⟩
   | some y =>
    obtain⟨_,_,r3,r4,_⟩:=hMget q y hq;obtain⟨Gs,g1,g2,g3⟩:=Lx r4 r3;exact⟨Gs,fun y' hy'=>by injection hy' with hy';subst hy';exact⟨g1,g2,g3⟩⟩
  obtain⟨Gq,hGq⟩:=Classical.skolem.1 hskol
  have hsrc:Src P i.size t vx M.length cs.toList w:=by
   rw[<-hvx,q1,k3];refine Src.ofSlice w ht ⟨b,0,none⟩ l.length l.length cs.toList (by rw[Array.length_toList,hcs]) (fun j u hj=>?_) (fun u hu=>?_)
   ·rw[Addr.add_lit]
    simp only[Array.getElem?_toList] at hj;simp[World.cell?,q2,hj]
   ·obtain⟨j,hj,rfl⟩:=List.getElem_of_mem hu
    have hj':j<cs.size:=by simpa using hj
    obtain⟨c,hc'⟩:=z8 hsz hlsz (show j<l.length*i.size by omega);obtain⟨p1,p2⟩:=hcell j c hc';have e1:cs.toList[j]=cs.getD j undef:=by simp[hj']
    rw[e1];exact K9 p1 p2 (GG hlive hc')
  refine ud (ty:=ty) ht hi hz hzs hsz hby k1 k2.hp k2.wf hs1 (fun x hx=>?_) hsrc (fun j c=>j / i.size<M.length/\Gq (j / i.size) (j % i.size) c) (fun j d hj=>?_) (fun j j' c hne hj hj'=>?_) (fun j c hj=>?_) |>.imp fun v' hh=>hh.imp fun w' hh=>⟨hh.1,by
   obtain⟨st',fp',G',a1,a2,a3,a4,a5⟩:=hh.2;rw[k2.n] at a2 a4
   exact⟨st',fp',G',a1,a2,a3,a4,fun i hi hd=>a5 i hi (k2.dd i hd)⟩⟩
  ·obtain⟨q,hq,rfl⟩:=List.getElem_of_mem hx
   exact(hMget q _ (List.getElem?_eq_getElem hq)).2.1
  ·unfold cellAt at hj
   cases hq:M[j / i.size]? with
   | none=>simp[hq] at hj
   | some y =>
    rw[hq,Option.bind_some] at hj;obtain⟨r1,r2,r3,r4,r5⟩:=hMget _ _ hq;obtain⟨g1,g2,g3⟩:=hGq _ y hq;have hmod:=Nat.mod_lt j hsz;have hdm:j / i.size*i.size+j % i.size=j:=by rw[Nat.mul_comm];exact Nat.div_add_mod j _
    have:=g1 _ _ hj
    rw[hev _ _ r1 hmod (by
     by_cases hy:y.isAgg=true
     ·exact .inr (r5 hy)
     ·exact .inl (r3 (by simpa using hy))),hdm] at this
    have e1:cs.toList.getD j undef=cs.getD j undef:=by simp
    rw[e1];exact this.mono (fun _ h=>h) (fun _ _=>rfl) (fun _ _=>rfl) fun c hc=>⟨(List.getElem?_eq_some_iff.1 hq).1,hc⟩
  ·obtain⟨a1,a2⟩:=hj
   obtain⟨b1,b2⟩:=hj';obtain⟨_,g2,g3⟩:=hGq _ _ (List.getElem?_eq_getElem a1);obtain⟨_,g2',g3'⟩:=hGq _ _ (List.getElem?_eq_getElem b1);by_cases hq:j / i.size=j' / i.size
   ·rw[<-hq] at b2
    refine g3 _ _ c (fun hm=>hne ?_) a2 b2;have e1:=Nat.div_add_mod j i.size;have e2:=Nat.div_add_mod j' i.size;rw[<-e1,<-e2,hq,hm]
   ·exact k5 _ _ c hq (g2 _ c a2) (g2' _ c b2)
  ·obtain⟨a1,a2⟩:=hj
   obtain⟨_,g2,_⟩:=hGq _ _ (List.getElem?_eq_getElem a1);exact(k2.hF c ⟨_,g2 _ c a2⟩).1
 | none =>
  rw[hrow] at ha;simp only at ha;cases hsr:lH st x with
  | none=>rw[hsr] at ha;cases ha
  | some M =>
  rw[hsr,Option.bind_some] at ha;injection ha with ha
  subst ha;obtain⟨hsc,hs1,-,hK⟩:=hK
  have hview:∃z,Rd w (live w) vx (.slice z M):=by
   have els:∀{d:D},Rd w (live w) vx d->d.gk=some M->∃z,Rd w (live w) vx (.slice z M):=by
    intro d hd he;cases d<;>simp only[D.gk,reduceCtorEq,Option.some.injEq] at he
    ·subst he;exact⟨_,hd⟩
    ·subst he;cases hd;exact⟨.dead,.nil⟩
   unfold lH at hsr;split at hsr
   ·rename_i k p
    have hr:=dh hx;rw[Option.bind_eq_some_iff] at hsr;obtain⟨c,hc,he⟩:=hsr;unfold lk at hc;split at hc<;>simp only[reduceCtorEq,Option.some.injEq] at hc;subst hc;rcases j7 (h.ok k) hr with⟨z,l,hck,rfl,hvl⟩ | ⟨F',hown,hFF,_,_⟩
    ·rw[hck] at he;cases he
    ·exact els (Cz (fun b hb=>hb.1.1) (fun b hb=>(h.lt k b (hFF b hb)).1) hown) he
   ·have:∀(hne:∀l,x≠.agg l)(hne':∀l,x≠.au l)(ha:∀k p,x≠.aq k p)(hf:∀f c,x≠.fn f c)(hpr:∀k p n,x≠.pre k p n),∃z,Rd w (live w) vx (.slice z M):=fun h1 h2 h3 h4 h5 =>
     els ((bK hx (by intro k p hh;rename_i hno;exact hno k p hh) h3 h4 h1 h2 h5).mono (fun b hb=>hb.1.1) fun _ _=>rfl) hsr
    exact this (by rintro l rfl;cases hsr) (by rintro l rfl;cases hsr) (by rintro k p rfl;cases hsr) (by rintro f c rfl;cases hsr) (by rintro k p n rfl;cases hsr)
  obtain⟨z,hrd⟩:=hview;obtain⟨news,n1,n2⟩:=Om (P:=P) ht hrd hsc (ae cx fp G w);refine ud (ty:=ty) ht hi hz hzs hsz hby hK h hw hs (fun x hx=>?_) (by rw[hs1];exact n1) (fun _ _=>False) (by rw[hs1];exact n2) (fun _ _ _ _ h=>h.elim) (fun _ _ h=>h.elim);have:=hsc x hx;rw[hs1];cases x<;>first | rfl | cases this
end
end Go.D3
namespace Go.D3
open Go
section
variable{P:Program}{cx:Ctx}{vl:Nat->Value}{fp:Nat->Nat->Prop}{G:Nat->Prop}{w:World}{A:Nat->Prop}
theorem zw{ct:Nat->D}{v:Value}{c:D}(h:Pl w A (aa w ct vl) v c)(hs:c.bX=true)(A':Nat->Prop):af w A' v c (fun _=>False)/\v.oneCell'=true:=by
 cases c<;>try(cases hs;done)
 case int=>obtain⟨rfl,h1⟩:=dJ h;exact⟨.int h1,rfl⟩
 case bool=>have:=pl_bool h;subst this;exact⟨.bool,rfl⟩
 case str=>obtain⟨rfl,h1⟩:=fI h;exact⟨.str h1,rfl⟩
theorem FZ[Mode]{ct:Nat->D}(h:Hp cx ct vl fp G w){kb ke ks:Nat}{z z0:D}{L l:List D}(hb:ct kb=.o (.slice z L))(hks:ct ks=.row z0 l)(hl:∀e∈l,e.bX=true)(hke:ct ke=.dead)(hnr:∀k,(ct k).refs (bO kb))
  {t ty e:TypeId} {i:TypeInfo} {zv:Value} (ht:P.underlying t=some (.slice e)) (hi:P.info? e=some i) (hz:i.zero=some zv) (hzs:zv.cells.size=i.size) (hsz:i.size=1) (hby : 0<i.bytes) (hbd:(L.length+l.length)*i.bytes<=140737488355328)
  (hesz:(D.slice z L).fC=i.size) :
  ∃v' w',(Builtin.append_ #[t,t] ty #[vl kb,vl ks]).run P w=.ok v' w'/\∃fp' G',Hp cx (aj (aj ct kb .dead) ke (.o ((D.slice z L).dY l))) (aj vl ke v') fp' G' w':=by
 have hcells:∀{x:D},x.bX=true->x.cells=[x]:=fun {x} hx=>by cases x<;>first | rfl | cases hx
 have hkk:kb≠ke:=fun hh=>by rw[hh,hke] at hb;cases hb
 have hown:af w (ae cx fp G w) (vl kb) (.slice z L) (fp kb):=by have:=h.ok kb;rw[hb] at this;exact this
 have h2:=h.drop kb hnr (vl kb);have ev:aj vl kb (vl kb)=vl:=by funext j;simp only[aj];split<;>simp_all
 rw[ev] at h2
 have aI:∀b,ae cx fp G w b->ae cx (aj fp kb fun _=>False) (fun b=>G b\/fp kb b) w b:=by
  rintro b ⟨h1,h2,h3⟩;refine⟨h1,fun hg=>hg.elim h2 (h3 kb),fun j hj=>?_⟩;by_cases hjk:j=kb
  ·subst hjk;rw[aT] at hj;exact hj
  ·rw[av _ _ hjk] at hj;exact h3 j hj
 have hok:=h.ok ks;rw[hks] at hok;obtain⟨b,szr,cs,e0,q1,q2,q3,q4,q5,q6,q7,q8,q9⟩:=hok
 have hszr:l≠[]->szr=1:=fun hne=>by
  cases l with
  | nil=>exact absurd rfl hne
  | cons a r =>
   have e1:=q7 a (by simp);rw[hcells (hl a (by simp))] at e1;simpa using e1.symm
 have hcs:cs.size=l.length:=by
  cases hll:l with
  | nil=>rw[hll] at q3;simpa using q3
  | cons a r=>rw[q3,hszr (by rw[hll];simp),hll];simp
 have hcl:∀j (hj:j<l.length),cellAt l 1 j=some l[j]:=fun j hj=>by
  unfold cellAt;rw[Nat.div_one,Nat.mod_one,List.getElem?_eq_getElem hj];simp[hcells (hl l[j] (List.getElem_mem hj))]
 have hcell:∀j (hj:j<l.length),Pl w (ae cx fp G w) (aa w ct vl) (cs.getD j undef) l[j]:=fun j hj=>by
  have hs1:=hszr (by intro hh;rw[hh] at hj;simp at hj);subst hs1;exact(q8 j _ (hcl j hj)).1
 have hsrc:Src P i.size t (vl ks) l.length cs.toList w:=by
  rw[hsz,q1];refine Src.ofSlice w ht ⟨b,0,none⟩ l.length l.length cs.toList (by rw[Array.length_toList,hcs,Nat.mul_one]) (fun j u hj=>?_) (fun u hu=>?_)
  ·rw[Addr.add_lit]
   simp only[Array.getElem?_toList] at hj;simp[World.cell?,q2,hj]
  ·obtain⟨j,hj,rfl⟩:=List.getElem_of_mem hu
   have hj':j<cs.size:=by simpa using hj
   have e1:cs.toList[j]=cs.getD j undef:=by simp[hj']
   rw[e1];exact(zw (hcell j (by omega)) (hl _ (List.getElem_mem _)) (fun _=>True)).2
 obtain⟨v',w',F',r1,r2,r3,r4,r5,r6,r7,r8⟩:=zt (ty:=ty) ht hi hz hzs (by omega) hby (hown.mono aI (fun _ _=>rfl) (fun _ _=>rfl) fun _ h=>h) hesz (fun x hx=>by rw[hsz,hcells (hl x hx)];rfl) hsrc (fun _ _=>False)
  (fun c hc=>⟨hc.1.1,fun hf=>hc.2.1 (.inr hf)⟩) (fun c hc=>(h.lt kb c hc).1) (fun _ _ hc=>hc.elim) (fun j d hd=>by
    rw[hsz] at hd;have hj:j<l.length:=by have:=jz (by omega) hd;omega
    rw[hcl j hj] at hd;injection hd with hd
    subst hd;have e1:cs.toList.getD j undef=cs.getD j undef:=by simp
    rw[e1]
    exact(zw (hcell j hj) (hl _ (List.getElem_mem _)) _).1) (fun _ _ _ _ hc=>hc.elim) (fun _ _ _ hc=>hc) hbd
 have h3:=h2.vB r3 (fun b hb hg=>r4 b hb fun hf=>hg (.inr hf)) r5 r6 r7;refine⟨v',w',r1,_,fun _=>False,h3.put (k:=ke) (by rw[av _ _ (fun hh=>hkk hh.symm),hke];rfl) (F:=F') (c:=.o ((D.slice z L).dY l)) (show af w' _ v' _ F' from r2.mono (fun b hb=>?_) (fun _ _=>rfl) (fun _ _=>rfl) fun _ h=>h) (fun b hb=>?_) (fun _ h=>h.elim) (fun _ _ h=>h) (fun h=>by cases h)⟩
 ·exact⟨⟨by have:=hb.1.1;omega,hb.1.2⟩,fun hg=>hg.elim hb.2.1 fun hh=>by have:=hb.1.1;omega,hb.2.2⟩
 ·rcases(r8 b hb).2 with hf | hf | hf
  ·exact .inl (.inr hf)
  ·obtain⟨_,hf⟩:=hf;exact hf.elim
  ·exact .inr ⟨hf,(r8 b hb).1⟩
def qN(ct:Nat->D)(bytes b s:Nat)(c:D):Prop :=
 ∃y z0 l m,ct (1000+b)=.o y/\y.bM=some m/\y.fC=1/\ct (1000+s)=.row z0 l/\(∀e∈l,e.bX=true)/\(m+l.length)*bytes<=140737488355328/\c=.o (y.dY l)/\∀k,(ct k).refs (bO (1000+b))
theorem EP:∀{l:List D},iB l=true->∀e∈l,e.bX=true
 | [],_,e,he=>by cases he
 | x::r,h,e,he=>by
  simp only[iB,Bool.and_eq_true] at h;rcases List.mem_cons.1 he with rfl | he
  ·exact h.1
  ·exact EP h.2 e he
theorem vJ{Q:D->Prop}:∀{l:List D}(k:Nat),bD Q l->(nth l k).refs Q
 | [],_,_=>trivial
 | _::_,0,h=>h.1
 | _::_,k+1,h=>vJ k h.2
theorem uO{kb:Nat}:∀{l:List D}{i:Nat}(k:Nat),pA kb i l->(nth l k).refs (bO kb)/\(bB (i+k) (nth l k)).core.refs (bO kb)
 | [],i,k,_=>⟨trivial,trivial⟩
 | x::r,i,0,h=>⟨h.1,h.2.1⟩
 | x::r,i,k+1,h=>by
  have:=uO k h.2.2;rw[show i+1+k=i+(k+1) by omega] at this;exact this
theorem zx{sz bytes b s:Nat}{K:St->Prop}{st:St}(h:ug sz bytes b s K st):sz=1/\∃c,qN st.cont bytes b s c/\(∀j,j<1000->(bB j (st.cont j)).core.refs (bO (1000+b)))/\K ((st.put (1000+b) .dead).push c):=by
 obtain⟨h0,h⟩:=h;refine⟨h0,?_⟩;cases hr:(st.cont (1000+s)).row? with
 | none=>rw[hr] at h;exact h.elim
 | some l =>
 rw[hr] at h;obtain⟨h1,h⟩:=h;cases ho:(st.cont (1000+b)).o? with
 | none=>rw[ho] at h;exact h.elim
 | some y =>
 rw[ho] at h;obtain⟨h2,h⟩:=h;cases hl:y.bM with
 | none=>rw[hl] at h;exact h.elim
 | some m =>
 rw[hl] at h;obtain⟨h3,h4,h5,h6⟩:=h
 obtain⟨z0,hrow⟩:∃z0,st.cont (1000+s)=.row z0 l:=by
  cases hc:st.cont (1000+s)<;>rw[hc] at hr<;>simp only[D.row?,reduceCtorEq,Option.some.injEq] at hr;exact⟨_,by rw[hr]⟩
 have hy:st.cont (1000+b)=.o y:=by
  cases hc:st.cont (1000+b)<;>rw[hc] at ho<;>simp only[D.o?,reduceCtorEq,Option.some.injEq] at ho;rw[ho]
 refine⟨_,⟨y,z0,l,m,hy,hl,h2,hrow,EP h1,h3,rfl,fun k=>?_⟩,fun j hj=>?_,h6⟩
 ·unfold St.cont
  split
  ·exact(uO k h4).1
  ·split
   ·exact vJ _ h5
   ·trivial
 ·unfold St.cont
  rw[if_pos hj];have:=(uO j h4).2
  rwa [Nat.zero_add] at this
theorem zu[Mode]{ct:Nat->D}(h:Hp cx ct vl fp G w){bytes b s ke:Nat}{c:D}(hf:qN ct bytes b s c)(hke:ct ke=.dead)
  {t ty e:TypeId} {i:TypeInfo} {zv:Value} (ht:P.underlying t=some (.slice e)) (hi:P.info? e=some i) (hz:i.zero=some zv) (hzs:zv.cells.size=i.size) (hsz:i.size=1) (hiby:i.bytes=bytes) (hby : 0<bytes) :
  ∃v' w',(Builtin.append_ #[t,t] ty #[vl (1000+b),vl (1000+s)]).run P w=.ok v' w'/\∃fp' G',Hp cx (aj (aj ct (1000+b) .dead) ke c) (aj vl ke v') fp' G' w':=by
 subst hiby;obtain⟨y,z0,l,m,h1,h2,h3,h4,h5,h6,rfl,h7⟩:=hf;have hown:af w (ae cx fp G w) (vl (1000+b)) y (fp (1000+b)):=by have:=h.ok (1000+b);rw[h1] at this;exact this
 obtain⟨z,L,rfl,rfl⟩:=zL hown h2;exact FZ h h1 h4 h5 hke h7 ht hi hz hzs hsz hby h6 (by rw[h3,hsz])
end
end Go.D3
namespace Go.D3
open Go
section
variable{w:World}{A:Nat->Prop}{R R':Value->D->Prop}{v:Value}{F:Nat->Prop}
theorem Pl.tidy{d:D}(h:Pl w A R v d)(hR:∀v d,R v d->Rd w A v d):Pl w A R' v d:=by
 induction h with
 | rd h=>exact .rd h
 | ref h=>exact .rd (hR _ _ h)
 | agg hs _ ih=>exact .agg hs ih
 | au hs _ ih=>exact .au hs ih
 | fn hs _ ih=>exact .fn hs ih
theorem bG.tidy{d:D}(h:bG w A R v F d)(hR:∀v d,R v d->Rd w A v d):bG w A R' v F d:=by
 cases d<;>first | exact Pl.tidy h hR | exact h
theorem az.tidy{d:D}(h:az w A R v F d)(hR:∀v d,R v d->Rd w A v d):az w A R' v F d:=by
 cases d
 case o x=>exact h
 case box l =>
  obtain⟨h0,b,cs,e,Fs,h1,h2,h3,h4,h5,h6,h7⟩:=h;exact⟨h0,b,cs,e,Fs,h1,h2,h3,fun j c hj=>(h4 j c hj).tidy hR,h5,h6,h7⟩
 case row z l =>
  obtain⟨b,sz,cs,e,h1,h2,h3,h3',h3'',h3a,h3b,h4,h5⟩:=h;exact⟨b,sz,cs,e,h1,h2,h3,h3',h3'',h3a,h3b,fun j c hj=>⟨(h4 j c hj).1.tidy hR,(h4 j c hj).2⟩,h5⟩
 case when g x=>exact⟨fun hg=>(h.1 hg).tidy hR,h.2⟩
 all_goals exact Pl.tidy h hR
theorem az.bare{ct:Nat->D}{vl:Nat->Value}{d:D}(h:az w A (aa w ct vl) v F d)(hd:d.refs cz):az w A R' v F d:=by
 refine az.tidy (h.mono (Q:=cz) (A':=A) (w':=w) (R':=fun _ _=>False) (fun _ h=>h) (fun _ _=>rfl) (fun _ _=>rfl) (fun _ h=>h) hd fun v d hq hr=>?_) ?_
 ·rcases aa.form v d hr with⟨k,p,rfl⟩ | ⟨k,p,rfl⟩ | ⟨k,p,n,rfl⟩
  ·exact hq.elim
  ·exact hq.elim
  ·exact hq.elim
 ·exact fun _ _ h=>h.elim
end
section
variable{P:Program}{o:Oper}{cx:Ctx}{vl:Nat->Value}{fp:Nat->Nat->Prop}{G:Nat->Prop}{w:World}{a:Act}{ds:List (Option Nat)}{tr:List Nat}{Q:Exit->Act->World->Prop}
def jf(A:Nat->Prop)(w w':World)(F1 F2:Nat->Prop)(b:Nat):Prop:=A b\/(w.heap.size<=b/\b<w'.heap.size/\¬F1 b/\¬F2 b)
theorem vf[Mode]{f:FuncId}{xs:List X}(hk:aQ P ds tr o (.gj f xs)=true){as:List Operand}(hop:∃f',mG o.op=some (f',as)){v0:Value}{rest:List Value}(has:as.map a.eval=v0::rest){F A:Nat->Prop}{X0 Y0 res:D}{dl:List D}
  (hR:aD P f (.io X0 Y0::dl.map .v) res) (hgA:ck w A) (hA:∀b,A b->b<w.heap.size) (h0:az w A (fun _ _=>False) v0 F X0) (hrl:rest.length=dl.length) (hrest:∀(j:Nat)(d:D),dl[j]?=some d->Rd w A (rest.getD j undef) d)
  (hF:∀b,F b->b<w.heap.size/\¬A b) {K:Act->World->Prop}
  (hK:∀(v:Value)(w':World)(F1 F2:Nat->Prop),w.heap.size<=w'.heap.size->af w' (jf A w w' F1 F2) v res F1->az w' (jf A w w' F1 F2) (fun _ _=>False) v0 F2 Y0 ->
    (∀b,F1 b->b<w'.heap.size/\(w.heap.size<=b\/F b)/\¬F2 b)->(∀b,F2 b->b<w'.heap.size/\(w.heap.size<=b\/F b))->(∀b,b<w.heap.size->¬F b->w'.heap[b]?=w.heap[b]?) ->
    w'.os=w.os->w'.tape=w.tape->bQ w w'->K (a.put o.dst v) w'):o.wp P a w K Q:=by
 simp only[aQ] at hk;split at hk<;>try(cases hk;done)
 rename_i f' as' hop';obtain⟨f'',hop⟩:=hop;rw[hop] at hop';simp only[Option.some.injEq,Prod.mk.injEq] at hop';obtain⟨rfl,rfl⟩:=hop';obtain⟨ts,ho⟩:=vT hop;simp only[Bool.and_eq_true,beq_iff_eq] at hk;obtain⟨⟨rfl,hk1⟩,hk2⟩:=hk;unfold Oper.wp;rw[uv ho hk2,Oper.upon_enter,has];refine(hR w A _ (fun j b=>j=0/\F b) hgA hA (by simp[hrl]) (fun j x hj=>?_) (fun i j b hij hi hj=>hij (hi.1.trans hj.1.symm)) (fun j b hb=>⟨(hF b hb.2).1,(hF b hb.2).2,by rw[hb.1];simp⟩)).mono ?_
 ·cases j with
  | zero =>
   simp only[List.getElem?_cons_zero,Option.some.injEq] at hj;subst hj;exact h0.mono (Q:=fun _=>True) (fun _ h=>h) (fun _ _=>rfl) (fun _ _=>rfl) (fun b hb=>⟨rfl,hb⟩) (aV (fun _=>trivial) _) fun _ _ _ h=>h
  | succ j =>
   simp only[List.getElem?_cons_succ,List.getElem?_map,Option.map_eq_some_iff] at hj;obtain⟨d,hj,rfl⟩:=hj;refine⟨?_,fun b hb=>by cases hb.1⟩;have:=hrest j d hj;simpa using this
 ·rintro e w' ⟨v,F1,Fs',rfl,hsz,hown,hpost,hF1,hFs',_,hsame,hos,htape,hout⟩
  have h2:=hpost 0 _ rfl;have hsub:∀b,(A b\/(w.heap.size<=b/\b<w'.heap.size/\¬F1 b/\∀j,¬Fs' j b))->jf A w w' F1 (Fs' 0) b:=fun b hb=>hb.imp id fun hh=>⟨hh.1,hh.2.1,hh.2.2.1,hh.2.2.2 0⟩
  have e0:(v0::rest).toArray.getD 0 undef=v0:=rfl;rw[e0] at h2
  refine hK v w' F1 (Fs' 0) hsz (hown.mono hsub (fun _ _=>rfl) (fun _ _=>rfl) fun _ h=>h) ((show az _ _ _ _ _ _ from h2).mono (Q:=fun _=>True) hsub (fun _ _=>rfl) (fun _ _=>rfl) (fun _ h=>h) (aV (fun _=>trivial) _) fun _ _ _ h=>h)
   (fun b hb=>⟨(hF1 b hb).1,(hF1 b hb).2.1.imp id fun⟨_,h⟩=>h.2,(hF1 b hb).2.2 0⟩) (fun b hb=>⟨(hFs' 0 b hb).1,(hFs' 0 b hb).2.1.imp id fun⟨_,h⟩=>h.2⟩) (fun b hb hn=>hsame b hb fun j h=>hn h.2) hos htape hout
theorem Hp.swap[Mode]{ct:Nat->D}(h:Hp cx ct vl fp G w){k:Nat}{c':D}{F' G':Nat->Prop}{w':World}(Q:D->Prop)(hobj:c'.isObj=true)
  (hc:az w' (jf (ae cx fp G w) w w' G' F') (fun _ _=>False) (vl k) F' c') (hrefs:∀j,j≠k->(ct j).refs Q)
  (hF:∀b,F' b->b<w'.heap.size/\(w.heap.size<=b\/fp k b)) (hG:∀b,G' b->b<w'.heap.size/\(w.heap.size<=b\/fp k b)) (hFG:∀b,G' b->¬F' b)
  (hsz:w.heap.size<=w'.heap.size) (hw:∀b,b<w.heap.size->¬fp k b->w'.heap[b]?=w.heap[b]?) (hos:w'.os=w.os) (htape:w'.tape=w.tape) (hout:bQ w w')
  (hsub:∀p,Q (.sub k p)->(ct k).c8 p->c'.c8 p/\aE w' (vl k) c' p=aE w (vl k) (ct k) p)
  (hadr:∀p,Q (.aq k p)->(ct k).aR p->c'.aR p/\ay w' (vl k) c' p=ay w (vl k) (ct k) p) :
  Hp cx (aj ct k c') vl (aj fp k F') G' w'/\∀b,jf (ae cx fp G w) w w' G' F' b->ae cx (aj fp k F') G' w' b:=by
 have aI:∀b,jf (ae cx fp G w) w w' G' F' b->ae cx (aj fp k F') G' w' b:=by
  rintro b (⟨h1,h2,h3⟩ | ⟨h1,h2,h3,h4⟩)
  ·refine⟨⟨by have:=h1.1;omega,h1.2⟩,fun hg=>(hG b hg).2.elim (fun hh=>by have:=h1.1;omega) (h3 k),fun j hj=>?_⟩
   by_cases hjk:j=k
   ·subst hjk;rw[aT] at hj;exact(hF b hj).2.elim (fun hh=>by have:=h1.1;omega) (h3 _)
   ·rw[av _ _ hjk] at hj;exact h3 j hj
  ·refine⟨⟨h2,fun hh=>by have:=h.size;omega⟩,h3,fun j hj=>?_⟩
   by_cases hjk:j=k
   ·subst hjk;rw[aT] at hj;exact h4 hj
   ·rw[av _ _ hjk] at hj;have:=(h.lt j b hj).1;omega
 have hkeep:∀d,Q d->cd w w' ct (aj ct k c') vl vl d:=by
  intro d hd;cases d<;>try trivial
  case sub j p =>
   intro(hp:(ct j).c8 p);by_cases hjk:j=k
   ·subst hjk
    simp only[aT];exact hsub p hd hp
   ·simp only[av _ _ hjk]
    exact⟨hp,(eF (h.ok j) hp.1 fun b hb=>hw b (h.lt j b hb).1 (h.bk j k hjk b hb)).1⟩
  case aq j p =>
   intro hp;by_cases hjk:j=k
   ·subst hjk
    simp only[aT];exact hadr p hd hp
   ·simp only[av _ _ hjk]
    exact⟨hp,(eF (h.ok j) hp fun b hb=>hw b (h.lt j b hb).1 (h.bk j k hjk b hb)).2⟩
 have own0:∀b,(w.heap.size<=b\/fp k b)->(cx.F0 b\/cx.w0.heap.size<=b):=fun b hb=>hb.elim (fun hh=>.inr (by have:=h.size;omega)) fun hh=>(h.lt k b hh).2
 refine⟨⟨fun j=>?_,fun i j hij b hi hj=>?_,fun j b hj hg=>?_,fun j hj b hb=>?_,fun j b hj=>?_,fun b hb=>⟨(hG b hb).1,own0 b (hG b hb).2⟩,Nat.le_trans h.size hsz,fun b hb hb0=>?_,hos.trans h.os,htape.trans h.tape,hout.trans h.output⟩,aI⟩
 ·by_cases hjk:j=k
  ·subst hjk
   simp only[aT];exact hc.mono (Q:=fun _=>True) aI (fun _ _=>rfl) (fun _ _=>rfl) (fun _ h=>h) (aV (fun _=>trivial) _) fun v d _ hr=>hr.elim
  ·simp only[av _ _ hjk]
   exact(h.ok j).mono (Q:=Q) (fun b hb=>aI b (.inl hb)) (fun b hb=>hw b hb.1.1 (hb.2.2 k)) (fun b hb=>hw b (h.lt j b hb).1 (h.bk j k hjk b hb)) (fun _ h=>h) (hrefs j hjk) fun v d hq hr=>hr.bu (cn hkeep hq)
 ·by_cases h1:i=k<;>by_cases h2:j=k
  ·omega
  ·subst h1;rw[aT] at hi;rw[av _ _ h2] at hj;exact(hF b hi).2.elim (fun hh=>by have:=(h.lt j b hj).1;omega) (h.bk j i (Ne.symm hij) b hj)
  ·subst h2;rw[aT] at hj;rw[av _ _ h1] at hi;exact(hF b hj).2.elim (fun hh=>by have:=(h.lt i b hi).1;omega) (h.bk i j hij b hi)
  ·rw[av _ _ h1] at hi;rw[av _ _ h2] at hj;exact h.bk i j hij b hi hj
 ·by_cases hjk:j=k
  ·subst hjk;rw[aT] at hj;exact hFG b hg hj
  ·rw[av _ _ hjk] at hj;exact(hG b hg).2.elim (fun hh=>by have:=(h.lt j b hj).1;omega) (h.bk j k hjk b hj)
 ·by_cases hjk:j=k
  ·subst hjk;rw[aT] at hj;rw[hobj] at hj;cases hj
  ·rw[av _ _ hjk] at hj hb;exact h.emp j hj b hb
 ·by_cases hjk:j=k
  ·subst hjk;rw[aT] at hj;exact⟨(hF b hj).1,own0 b (hF b hj).2⟩
  ·rw[av _ _ hjk] at hj;exact⟨by have:=(h.lt j b hj).1;omega,(h.lt j b hj).2⟩
 ·have hlt:b<w.heap.size:=by have:=h.size;omega
  rw[hw b hlt fun hk=>((h.lt k b hk).2).elim hb0 fun hh=>by omega];exact h.same b hb hb0
theorem CR[Mode]{st:St}(h:Hp cx st.cont vl fp G w)(hw:st.wf){v:Value}{res:D}{F:Nat->Prop}(ho:af w (ae cx fp G w) v res F)(hF:∀b,F b->G b) :
  (∃fp' G',Hp cx (st.push (aJ res)).cont (aj vl (1000+st.n) v) fp' G' w)/\(st.push (aJ res)).wf/\(st.push (aJ res)).n=st.n+1/\∀i,i<1000->st.cont i=.dead->(st.push (aJ res)).cont i=.dead:=by
 have hd:st.cont (1000+st.n)=.dead:=St.bZ (by simp only[St.in,not_or,not_and];omega);refine⟨?_,St.dW hw _,rfl,fun i hi hd=>by rw[St.cm hw,av _ _ (by omega)];exact hd⟩;rw[St.cm hw];obtain⟨h1,h2⟩:=kG (R:=aa w st.cont vl) ho;by_cases hob:(aJ res).isObj=true
 ·exact⟨_,fun _=>False,h.put (by rw[hd];rfl) h1 hF (fun _ h=>h.elim) (fun _ _ h=>h) (fun hh=>by rw[hob] at hh;cases hh)⟩
 ·exact⟨_,fun _=>False,h.put (by rw[hd];rfl) (h2 (by simpa using hob)) (fun _ h=>h.elim) (fun _ h=>h.elim) (fun _ h=>h.elim) (fun _ _ h=>h)⟩
theorem uT[Mode]:∀(l ys:List D){K:St->Prop}{st:St}{fp:Nat->Nat->Prop}{A:Nat->Prop}{vs:Nat->Value}{F1:Nat->Prop}{Fs:Nat->Nat->Prop},er l ys K st->Hp cx st.cont vl fp (fun b=>F1 b\/∃j,Fs j b) w->st.wf ->
  (∀(j k:Nat)(s:Nat×Nat)(p:Path),l[j]?=some (.sub k (s::p))->aa w st.cont vl (vs j) (.sub k (s::p)))->(∀(j:Nat)(y:D),ys[j]?=some y->af w A (vs j) y (Fs j))->(∀b,A b->ae cx fp (fun b=>F1 b\/∃j,Fs j b) w b) ->
  (∀i j b,i≠j->Fs i b->¬Fs j b)->(∀j b,Fs j b->¬F1 b) ->
  ∃st' fp',K st'/\Hp cx st'.cont vl fp' F1 w/\(∀b,A b->ae cx fp' F1 w b)/\st'.wf/\st'.n=st.n/\∀i,st.cont i=.dead->st'.cont i=.dead
 | [],[],K,st,fp,A,vs,F1,Fs,hK,h,hw,_,_,hA,_,_=>⟨st,fp,hK,h.release fun b hb=>.inl hb,fun b hb=>⟨(hA b hb).1,fun hg=>(hA b hb).2.1 (.inl hg),(hA b hb).2.2⟩,hw,rfl,fun _ h=>h⟩
 | [],_::_,_,_,_,_,_,_,_,hK,_,_,_,_,_,_,_=>hK.elim
 | _::_,[],_,_,_,_,_,_,_,hK,_,_,_,_,_,_,_=>hK.elim
 | x::r,y::ys,K,st,fp,A,vs,F1,Fs,hK,h,hw,hl,hy,hA,hdis,hF1=>by
  simp only[er] at hK
  have skip:er r ys K st->∃st' fp',K st'/\Hp cx st'.cont vl fp' F1 w/\(∀b,A b->ae cx fp' F1 w b)/\st'.wf/\st'.n=st.n/\∀i,st.cont i=.dead->st'.cont i=.dead:=by
   intro hK;have hsub:∀b,(F1 b\/∃j,Fs (j+1) b)->F1 b\/∃j,Fs j b:=fun b hb=>hb.imp id fun⟨j,hj⟩=>⟨_,hj⟩
   exact uT r ys (vs:=fun j=>vs (j+1)) (Fs:=fun j=>Fs (j+1)) hK (h.release hsub) hw (fun j k s p hj=>hl (j+1) k s p (by simpa using hj)) (fun j y hj=>hy (j+1) y (by simpa using hj))
    (fun b hb=>⟨(hA b hb).1,fun hg=>(hA b hb).2.1 (hsub b hg),(hA b hb).2.2⟩) (fun i j b hij=>hdis _ _ b (by omega)) (fun j b=>hF1 _ b)
  unfold nN at hK;split at hK
  ·rename_i k s p
   obtain⟨hag,hrr,hK⟩:=hK;have hne:s::p≠[]:=by simp
   obtain⟨hs,hv,-⟩:=hl 0 k s p rfl;generalize hP:s::p=p0 at hK hs hv hne hrr
   have hin:st.in k:=by
    by_cases hin:st.in k
    ·exact hin
    ·rw[St.bZ hin] at hs;exact hs.1.elim
   have h1:=h.kill (bt k p0);obtain⟨kd,ks⟩:=Bt (bt k p0) hs hne;have hkv:=(ij (w:=w) (bt k p0) (st.cont k) (vl k) p0 hs.1).2.1;have hsub:∀b,(F1 b\/∃j,Fs (j+1) b)->F1 b\/∃j,Fs j b:=fun b hb=>hb.imp id fun⟨j,hj⟩=>⟨_,hj⟩
   obtain⟨h2,h3⟩:=h1.fill (G':=fun b=>F1 b\/∃j,Fs (j+1) b) ks hne (hkv.trans hv) ((hy 0 y rfl).mono hA (fun _ _=>rfl) (fun _ _=>rfl) fun _ h=>h) hag (fun b hb=>.inr ⟨0,hb⟩) hsub
    (fun b hb hg=>hg.elim (hF1 0 b hb) fun⟨j,hj⟩=>hdis 0 (j+1) b (by omega) hb hj) (fun j=>gr (bt k p0) (st.cont j))
   have ec:((st.kill (bt k p0)).put k (((st.kill (bt k p0)).cont k).uS p0 y)).cont=aj (fun j=>(st.cont j).kill (bt k p0)) k (((st.cont k).kill (bt k p0)).setAt p0 (if bc ((st.cont k).kill (bt k p0)) p0=true then .o y else y)):=by
    rw[St.c7 (St.eW hw _) (by simpa[St.in,St.kill,jN] using hin),St.b9];rfl
   rw[<-ec] at h2 h3
   obtain⟨st',fp',r1,r2,r3,r4,r5,r6⟩:=uT r ys (vs:=fun j=>vs (j+1)) (Fs:=fun j=>Fs (j+1)) hK h2 (St.dM (St.eW hw _) _ _)
    (fun j k' s' p' hj=>by
      have hr:=hl (j+1) k' s' p' (by simpa using hj);refine hr.bu (show cd _ _ _ _ _ _ _ from(kT st.cont (bt k p0) _).trans (h3 _ ?_));have:=bf.1 hrr _ (List.mem_of_getElem? hj)
      exact this)
    (fun j y hj=>hy (j+1) y (by simpa using hj))
    (fun b hb=>by
      refine⟨(hA b hb).1,fun hg=>(hA b hb).2.1 (hsub b hg),fun j hj=>?_⟩;by_cases hjk:j=k
      ·subst hjk;rw[aT] at hj;exact hj.elim ((hA b hb).2.2 _) fun hh=>(hA b hb).2.1 (.inr ⟨0,hh⟩)
      ·rw[av _ _ hjk] at hj;exact(hA b hb).2.2 j hj)
    (fun i j b hij=>hdis _ _ b (by omega)) (fun j b=>hF1 _ b)
   refine⟨st',fp',r1,r2,r3,r4,by rw[r5,St.ew];rfl,fun i hi=>r6 i ?_⟩;rw[ec];have hik:i≠k:=by rintro rfl;rw[hi] at hs;exact hs.1.elim
   rw[av _ _ hik,hi];rfl
  ·exact skip hK
theorem zp:∀(p q:Path),apart p q=apart q p
 | [],[]=>rfl
 | [],_::_=>rfl
 | _::_,[]=>rfl
 | s::p,t::q=>by
  simp only[apart];by_cases h:s=t
  ·rw[if_pos h,if_pos h.symm];exact zp p q
  ·rw[if_neg h,if_neg (Ne.symm h)]
theorem tO:∀(l:List D){K:List D->St->Prop}{st:St},bR l K st->∀(i j:Nat)(x y:D),i<j->l[i]?=some x->l[j]?=some y->x.refs fun s=>match s with | .sub k p=>y.refs (kq k p) | _=>True
 | [],K,st,_,i,j,x,y,_,hi,_=>by simp at hi
 | z::r,K,st,h,i,j,x,y,hij,hi,hj=>by
  simp only[bR] at h;cases j with
  | zero=>omega
  | succ j =>
   cases i with
   | zero =>
    simp at hi;subst hi;refine cn (fun s hs=>?_) h.1;cases s<;>first | trivial | exact bf.1 hs y (List.mem_of_getElem? (by simpa using hj))
   | succ i =>
    obtain⟨x',st',h'⟩:=tN z h.2;exact tO r h' i j x y (by omega) (by simpa using hi) (by simpa using hj)
theorem qR{l:List D}{K:List D->St->Prop}{st:St}(h:bR l K st){i k:Nat}{s:Nat×Nat}{p:Path}(hi:l[i]?=some (.sub k (s::p))):bD (fun t=>iY t (.sub k (s::p))) l:=by
 refine bf.2 fun y hy=>?_
 obtain⟨j,hj,rfl⟩:=List.getElem_of_mem hy;have hj':l[j]?=some l[j]:=List.getElem?_eq_getElem hj;rcases Nat.lt_trichotomy i j with hij | hij | hij
 ·have h1:=tO l h i j _ _ hij hi hj'
  have h1:(l[j]).refs (kq k (s::p)):=h1;refine cn (fun t ht=>?_) h1;cases t<;>try trivial
  rename_i k' p';refine .inl ?_;rcases ht with ht | ht
  ·exact .inl (Ne.symm ht)
  ·exact .inr (by rw[zp];exact ht)
 ·subst hij
  rw[hi] at hj';injection hj' with hj'
  rw[<-hj'];refine .inr ⟨by simp,?_⟩
  have gt:∀p:Path,fE p p=false:=by
   intro p;induction p with
   | nil=>rfl
   | cons _ p ih=>exact ih
  simp only[bt,gt,Bool.and_false]
 ·have h1:=tO l h j i _ _ hij hj' hi
  refine cn (fun t ht=>?_) h1;cases t<;>try trivial
  exact .inl ht
theorem CK{rd:X->D}:∀{xs:List X},iy rd xs->∀y∈xs,(rd y).core.refs cz
 | [],_,y,hy=>by cases hy
 | x::r,h,y,hy=>by
  rcases List.mem_cons.1 hy with rfl | hy
  ·exact h.1
  ·exact CK h.2 y hy
theorem rU{q:D->Bool}(c:D)(h:c.refs cz):c.kill q=c:=by
 have list:∀l:List D,(∀x∈l,x.refs cz->x.kill q=x)->bD cz l->dq q l=l:=by
  intro l ih hl;rw[c6]
  conv=>rhs;rw[<-List.map_id l]
  exact List.map_congr_left fun x hx=>ih x hx (bf.1 hl x hx)
 induction c using D.ind with
 | sub k p=>exact h.elim
 | aq k p=>exact h.elim
 | pre k p n=>exact h.elim
 | agg l ih | au l ih | box l ih | fn _ l ih=>simp only[D.kill];rw[list l ih h]
 | row z l _ ih=>simp only[D.kill];rw[list l ih h]
 | when g x ih=>simp only[D.kill];rw[ih h]
 | _=>rfl
theorem sJ[Mode]{st st1:St}{fp1:Nat->Nat->Prop}{G1 F:Nat->Prop}(h2:Tk cx w vl st fp G st1 fp1 G1 F){l ys:List D}{vs:Nat->Value}{K:St->Prop}{res:D}{v:Value}{w':World}{F1 F2:Nat->Prop}{Fs2:Nat->Nat->Prop}
  (hK:er l ys (fun st=>K (st.push (aJ res))) st1)
  (href:∀(j k:Nat)(s:Nat×Nat)(p:Path),l[j]?=some (.sub k (s::p))->aa w st1.cont vl (vs j) (.sub k (s::p)))
  (hsz:w.heap.size<=w'.heap.size) (hown:af w' (jf (ae cx fp1 G1 w) w w' F1 F2) v res F1) (hy:∀(j:Nat)(y:D),ys[j]?=some y->af w' (jf (ae cx fp1 G1 w) w w' F1 F2) (vs j) y (Fs2 j))
  (hFs:∀j b,Fs2 j b->F2 b) (hdis:∀i j b,i≠j->Fs2 i b->¬Fs2 j b) (hF1:∀b,F1 b->b<w'.heap.size/\(w.heap.size<=b\/F b)/\¬F2 b) (hF2:∀b,F2 b->b<w'.heap.size/\(w.heap.size<=b\/F b))
  (hsame:∀b,b<w.heap.size->¬F b->w'.heap[b]?=w.heap[b]?) (hos:w'.os=w.os) (htape:w'.tape=w.tape) (hout:bQ w w') :
  ∃st',K st'/\(∃fp' G',Hp cx st'.cont (aj vl (1000+st.n) v) fp' G' w')/\st'.wf/\st'.n=st.n+1/\∀i,i<1000->st.cont i=.dead->st'.cont i=.dead:=by
 have h3:=h2.hp.vB hsz (fun b hb hg=>hsame b hb fun hf=>hg (h2.hF b hf).1) hos htape hout;have hin:∀b,(F1 b\/∃j,Fs2 j b)->b<w'.heap.size/\(w.heap.size<=b\/F b):=fun b hb=>hb.elim (fun hh=>⟨(hF1 b hh).1,(hF1 b hh).2.1⟩) fun⟨j,hj⟩=>hF2 b (hFs j b hj)
 have h4:=h3.release (G':=fun b=>F1 b\/∃j,Fs2 j b) fun b hb=>(hin b hb).2.elim (fun hh=>.inr ⟨hh,(hin b hb).1⟩) fun hh=>.inl (h2.hF b hh).1
 obtain⟨st',fp',r1,r2,r3,r4,r5,r6⟩:=uT l ys (vs:=vs) (A:=jf (ae cx fp1 G1 w) w w' F1 F2) (F1:=F1) (Fs:=Fs2) hK h4 h2.wf
  (fun j k s p hj=>(href j k s p hj).bu (show cd _ _ _ _ _ _ _ from fun hp=>⟨hp,(eF (h2.hp.ok k) hp.1 fun b hb=>hsame b (h2.hp.lt k b hb).1 fun hf=>h2.hp.bh k b hb (h2.hF b hf).1).1⟩))
  hy (fun b hb=>by
   rcases hb with⟨q1,q2,q3⟩ | ⟨q1,q2,q3,q4⟩
   ·exact⟨⟨by have:=q1.1;omega,q1.2⟩,fun hg=>(hin b hg).2.elim (fun hh=>by have:=q1.1;omega) fun hh=>q2 (h2.hF b hh).1,q3⟩
   ·exact⟨⟨q2,fun hh=>by have:=h2.hp.size;omega⟩,fun hg=>hg.elim q3 fun⟨j,hj⟩=>q4 (hFs j b hj),fun j hj=>by have:=(h2.hp.lt j b hj).1;omega⟩)
  hdis (fun j b hj hf=>(hF1 b hf).2.2 (hFs j b hj))
 obtain⟨k1,k2,k3,k4⟩:=CR r2 r4 (hown.mono r3 (fun _ _=>rfl) (fun _ _=>rfl) fun _ h=>h) (fun _ h=>h);rw[r5,h2.n] at k1 k3;exact⟨_,r1,k1,k2,k3,fun i hi hd=>k4 i hi (r6 i (h2.dd i hd))⟩
theorem HG[Mode]{st:St}(h:Hp cx st.cont vl fp G w)(hw:st.wf){f:FuncId}{x0:X}{r:List X}(hk:aQ P ds tr o (.gj f (x0::r))=true)
  (hx:∀y,y∈x0::r->∀x,aA ds tr x y=true->bL w (ae cx fp G w) (aa w st.cont vl) (a.eval x) (st.rd y)) {g:Option Bool} {K:St->Prop}
  (hv:@mj _ P f (st.rd x0).core (fT st.cont st.rd r) (cW st.rd (x0::r)) (iy st.rd r) g ⟨K⟩ st) {K':Act->World->Prop}
  (hK':∀(v:Value)(w':World)(st':St),K st'->(∃fp' G',Hp cx st'.cont (aj vl (1000+st.n) v) fp' G' w')->st'.wf->st'.n=st.n+1->(∀i,i<1000->st.cont i=.dead->st'.cont i=.dead)->K' (a.put o.dst v) w'):o.wp P a w K' Q:=by
 obtain⟨-,hgt,hpl,dl,hdl,hv⟩:=hv;have hk0:=hk;simp only[aQ] at hk;split at hk<;>try(cases hk;done)
 rename_i f' as hop;simp only[Bool.and_eq_true,beq_iff_eq] at hk;obtain⟨⟨rfl,hk1⟩,hk2⟩:=hk;cases as with
 | nil=>simp[dH] at hk1
 | cons x ar =>
 simp only[dH,Bool.and_eq_true] at hk1;simp only[cW,Bool.and_eq_true] at hgt;have hp0:=(hx x0 (by simp) x hk1.1).1 hgt.1;obtain⟨hal,har⟩:=ra (a:=a) (A':=ae cx fp G w) hk1.2 (fun y hy=>hx y (by simp[hy])) (fun y hy v x hv hg=>rI 4 hv (CK hpl y hy) hg) hdl hgt.2;have hop':∃f',mG o.op=some (f',x::ar):=⟨_,hop⟩;have has:(x::ar).map a.eval=a.eval x::ar.map a.eval:=rfl;have hrl:(ar.map a.eval).length=dl.length:=by rw[List.length_map];exact hal
 have hrest:∀(j:Nat)(d:D),dl[j]?=some d->Rd w (ae cx fp G w) ((ar.map a.eval).getD j undef) d:=har
 have whole:∀(k:Nat)(c c' res:D)(q:D->Bool),st.cont k=c->vl k=a.eval x->c.isObj=true->c'.isObj=true->c.refs cz->aD P f (.io c c'::dl.map .v) res ->
   (∀p,q (.sub k p)=false->c.c8 p->c'.c8 p/\∀w',aE w' (vl k) c' p=aE w (vl k) c p)->(∀p,q (.aq k p)=false->c.aR p->c'.aR p/\∀w',ay w' (vl k) c' p=ay w (vl k) c p) ->
   K (((st.kill q).put k c').push (aJ res))->o.wp P a w K' Q:=by
  intro k c c' res q hc hvk hobj hobj' hcr hR hsub hadr hK;have hok:=h.ok k;rw[hc,hvk] at hok;refine vf hk0 hop' has (F:=fp k) (A:=ae cx fp G w) hR h.gl (fun b hb=>hb.1.1) (hok.bare hcr) hrl hrest (fun b hb=>⟨(h.lt k b hb).1,fun hs=>hs.2.2 k hb⟩) ?_;intro v w' F1 F2 hsz hown hcont hF1 hF2 hsame hos htape hout;have h1:=h.kill q
  have hin:st.in k:=by
   by_cases hin:st.in k
   ·exact hin
   ·rw[St.bZ hin] at hc;subst hc;cases hobj
  rw[<-hvk] at hcont
  obtain⟨h2,h3⟩:=h1.swap (c':=c') (k:=k) (F':=F2) (G':=F1) (fun d=>q d=false) hobj' hcont (fun j _=>gr q (st.cont j)) hF2 (fun b hb=>⟨(hF1 b hb).1,(hF1 b hb).2.1⟩) (fun b hb=>(hF1 b hb).2.2) hsz (fun b hb hn=>hsame b hb hn) hos htape hout
   (fun p hq hs=>by
     have hs:c.c8 p:=by have hh:((st.cont k).kill q).c8 p:=hs;rwa [hc,rU c hcr] at hh
     obtain⟨e1,e2⟩:=hsub p hq hs;refine⟨e1,?_⟩;rw[e2];show _=aE w (vl k) ((st.cont k).kill q) p
     rw[hc,rU c hcr])
   (fun p hq hs=>by
     have hs:c.aR p:=by have hh:((st.cont k).kill q).aR p:=hs;rwa [hc,rU c hcr] at hh
     obtain⟨e1,e2⟩:=hadr p hq hs;refine⟨e1,?_⟩;rw[e2];show _=ay w (vl k) ((st.cont k).kill q) p
     rw[hc,rU c hcr])
  have ec:((st.kill q).put k c').cont=aj (fun j=>(st.cont j).kill q) k c':=by
   rw[St.c7 (St.eW hw _) (by simpa[St.in,St.kill,jN] using hin),St.b9]
  rw[<-ec] at h2;obtain⟨k1,k2,k3,k4⟩:=CR h2 (St.dM (St.eW hw _) _ _) (hown.mono h3 (fun _ _=>rfl) (fun _ _=>rfl) fun _ h=>h) (fun _ h=>h);have hn:((st.kill q).put k c').n=st.n:=by rw[St.ew];rfl
  rw[hn] at k1 k3;refine hK' v w' _ hK k1 k2 k3 fun i hi hd=>k4 i hi ?_
  rw[ec];have hik:i≠k:=by rintro rfl;rw[hd] at hc;subst hc;cases hobj
  rw[av _ _ hik,hd];rfl
 split at hv
 ·
  rename_i k heq;rw[heq] at hp0;obtain⟨l,l',res,hc,hl,hl',hlen,hR,hK⟩:=hv;obtain⟨_,ad,had,hav⟩:=eP hp0;have hok:=h.ok k;rw[hc] at hok had;obtain⟨_,b,cs,e,Fs,hvk,_⟩:=hok;rw[hvk] at had;simp only[ay,cT,D.un,da,Option.some.injEq,Nat.add_zero] at had;refine whole k _ _ res _ hc (by rw[hvk,hav,<-had]) rfl rfl hl hR (fun p hq hs=>?_) (fun p hq hs=>?_) hK
  ·have:=sQ hq
   have:p=[]:=List.eq_nil_of_length_eq_zero (by simpa using this);subst this;exact⟨⟨trivial,fun hh=>by cases hh⟩,fun w'=>rfl⟩
  ·have hle:=wG hq
   cases p with
   | nil=>exact⟨trivial,fun w'=>rfl⟩
   | cons t p =>
    have:p=[]:=List.eq_nil_of_length_eq_zero (by simpa using hle);subst this;obtain⟨i,off⟩:=t;obtain⟨q1,q2,_⟩:=hs;exact⟨⟨q1,by omega,trivial⟩,fun w'=>rfl⟩
 ·
  rename_i k heq;rw[heq] at hp0;obtain⟨y0,y,res,hc,hR,hK⟩:=hv;obtain⟨_,hva,_⟩:=dh hp0;simp only[aE,Option.some.injEq] at hva;refine whole k _ _ res _ hc hva rfl rfl trivial hR (fun p hq hs=>?_) (fun p hq hs=>?_) hK
  ·have:=wF hq
   have:p=[]:=List.eq_nil_of_length_eq_zero (by simpa using this);subst this;exact⟨⟨trivial,fun hh=>by cases hh⟩,fun w'=>rfl⟩
  ·have:=wE hq
   have:p=[]:=List.eq_nil_of_length_eq_zero (by simpa using this);subst this;exact⟨trivial,fun w'=>rfl⟩
 ·
  rename_i k s p heq;rw[heq] at hp0;have hr0:=dh hp0;have hself:=fun i k s p hi=>qR hv (i:=i) (k:=k) (s:=s) (p:=p) hi
  obtain⟨l',st1,fp1,G1,Fs,⟨y0,y,res,rfl,hR,hK⟩,h2,h3,h4,h5,h6⟩:=gE (A:=ae cx fp G w) (vs:=#[a.eval x]) _ hv h hw (fun _ h=>h) (fun j y hj=>by
   cases j with
   | zero=>simp at hj;subst hj;exact hp0
   | succ j=>simp at hj)
  have ho:=(h4 0 y0 rfl).1;refine vf hk0 hop' has (F:=Fs 0) (A:=ae cx fp1 G1 w) hR h2.hp.gl (fun b hb=>hb.1.1) ho hrl (fun j d hj=>(hrest j d hj).mono h2.aI fun _ _=>rfl) (fun b hb=>⟨(h2.hp.bd b (h2.hF b ⟨0,hb⟩).1).1,fun hs=>hs.2.1 (h2.hF b ⟨0,hb⟩).1⟩) ?_;intro v w' F1 F2 hsz hown hcont hF1 hF2 hsame hos htape hout
  obtain⟨st',k1,k2,k3,k4,k5⟩:=sJ (vs:=fun _=>a.eval x) (Fs2:=fun j b=>j=0/\F2 b) h2 hK
   (fun j k' s' p' hj=>by
     cases j with
     | zero =>
      have hs:=hself 0 k' s' p' hj;simp at hj;obtain⟨rfl,rfl,rfl⟩:=hj;exact hr0.bu (h6 _ hs)
     | succ j=>simp at hj)
   hsz hown (fun j z hj=>by
    cases j with
    | zero=>simp at hj;subst hj;exact af.mono (show af w' _ (a.eval x) y F2 from hcont) (fun _ h=>h) (fun _ _=>rfl) (fun _ _=>rfl) fun b hb=>⟨rfl,hb⟩
    | succ j=>simp at hj)
   (fun j b hb=>hb.2) (fun i j b hij hi hj=>hij (hi.1.trans hj.1.symm)) (fun b hb=>⟨(hF1 b hb).1,(hF1 b hb).2.1.imp id fun hh=>⟨0,hh⟩,(hF1 b hb).2.2⟩) (fun b hb=>⟨(hF2 b hb).1,(hF2 b hb).2.imp id fun hh=>⟨0,hh⟩⟩) (fun b hb hn=>hsame b hb fun hh=>hn ⟨0,hh⟩) hos htape hout
  exact hK' v w' st' k1 k2 k3 k4 k5
 ·
  rename_i l heq;rw[heq] at hp0;obtain⟨cs,hva,hcs,hcl⟩:=j0 hp0;have hself:=fun i k s p hi=>qR hv (i:=i) (k:=k) (s:=s) (p:=p) hi
  obtain⟨xs,st1,fp1,G1,Fs,⟨ys,res,hR,hK⟩,h2,h3,h4,h5,h6⟩:=gE (A:=ae cx fp G w) (vs:=cs) _ hv h hw (fun _ h=>h) hcl
  have ho:af w (ae cx fp1 G1 w) (a.eval x) (.agg xs) (fun b=>∃j,Fs j b):=by
   rw[hva];exact .agg Fs (by rw[hcs,h3]) (fun j y hj=>(h4 j y hj).1) (fun j b hb=>⟨j,hb⟩) h5
  refine vf hk0 hop' has (F:=fun b=>∃j,Fs j b) (A:=ae cx fp1 G1 w) hR h2.hp.gl (fun b hb=>hb.1.1) ho hrl (fun j d hj=>(hrest j d hj).mono h2.aI fun _ _=>rfl) (fun b hb=>⟨(h2.hp.bd b (h2.hF b hb).1).1,fun hs=>hs.2.1 (h2.hF b hb).1⟩) ?_;intro v w' F1 F2 hsz hown hcont hF1 hF2 hsame hos htape hout;have hcont:af w' (jf (ae cx fp1 G1 w) w w' F1 F2) (a.eval x) (.agg ys) F2:=hcont;rw[hva] at hcont;cases hcont with
  | agg Fs2 hs2 hr2 hfs2 hd2 =>
  obtain⟨st',k1,k2,k3,k4,k5⟩:=sJ (vs:=fun j=>cs.getD j undef) (Fs2:=Fs2) h2 hK
   (fun j k' s' p' hj=>(dh (hcl j _ hj)).bu (h6 _ (hself j k' s' p' hj)))
   hsz hown (fun j z hj=>hr2 j z hj) hfs2 hd2 hF1 hF2 hsame hos htape hout
  exact hK' v w' st' k1 k2 k3 k4 k5
 ·exact hv.elim
end
end Go.D3
