/- CALLS WHOSE FIRST ARGUMENT GOES IN AND OUT. Generic. -/
import Derived.Test.YtaknpcdnmecblaaGreatDoorHC
import Derived.Laws.IdiomCopy
import Derived.Deep.Upon
import Derived.Deep.AppendSrc
namespace Go.D3
open Go
theorem wF:∀(l:List D)(i j:Nat)(x:D),nth (fa l i x) j=if j=i/\i<l.length then x else nth l j
 | [],i,j,x=>by simp[fa]
 | a::l,0,0,x=>by simp[fa,nth]
 | a::l,0,j+1,x=>by simp[fa,nth]
 | a::l,i+1,0,x=>by simp[fa,nth]
 | a::l,i+1,j+1,x=>by simp[fa,nth,wF l i j x]
theorem zX(q:D->Bool):∀(l:List D)(i:Nat),nth (ey q l) i=(nth l i).kill q
 | [],_=>rfl
 | _::_,0=>rfl
 | _::l,i+1=>zX q l i
theorem By:∀(l:List D)(i:Nat)(x:D),(fa l i x).length=l.length
 | [],_,_=>rfl
 | _::_,0,_=>rfl
 | _::l,i+1,x=>by simp[fa,By l i x]
theorem mX(q:D->Bool)(l:List D):(ey q l).length=l.length:=by simp[dL]
def St.wf(st:St):Prop:=st.tmp.length=st.n
def St.in(st:St)(k:Nat):Prop:=(k<1000/\k<st.env.length)\/(1000<=k/\k<1000+st.n)
theorem St.cW(st:St)(q:D->Bool):(st.kill q).cont=fun k=>(st.cont k).kill q:=by
 funext k;show(if k<1000 then nth (ey q st.env) k else if k<1000+st.n then nth (ey q st.tmp) (999+st.n-k) else D.dead)=(if k<1000 then nth st.env k else if k<1000+st.n then nth st.tmp (999+st.n-k) else D.dead).kill q;by_cases h:k<1000
 ·rw[if_pos h,if_pos h];exact zX q _ _
 ·rw[if_neg h,if_neg h]
  by_cases h':k<1000+st.n
  ·rw[if_pos h',if_pos h'];exact zX q _ _
  ·rw[if_neg h',if_neg h'];rfl
theorem St.jj{st:St}{i:Nat}(q:D->Bool)(h:st.cont i=.dead):(st.kill q).cont i=.dead:=by
 rw[St.cW];show(st.cont i).kill q=.dead;rw[h];rfl
theorem kR:∀(l:List D)(i:Nat),l.length<=i->nth l i=.dead
 | [],_,_=>rfl
 | a::l,0,h=>by simp at h
 | a::l,i+1,h=>kR l i (by simpa using h)
theorem St.cJ{st:St}{k:Nat}(hk:¬st.in k):st.cont k=.dead:=by
 simp only[St.in,not_or,not_and] at hk;simp only[St.cont];split
 ·rename_i h;exact kR _ _ (by have:=hk.1 h;omega)
 ·split
  ·rename_i h I;exact absurd I (hk.2 (by omega))
  ·rfl
theorem St.dR{st:St}(hw:st.wf){k:Nat}(hk:st.in k)(c:D):(st.put k c).cont=az st.cont k c:=by
 have V:st.tmp.length=st.n:=hw;funext j;simp only[az];rcases hk with⟨h1,S⟩ | ⟨h1,S⟩
 ·simp only[St.put,if_pos h1,St.cont]
  by_cases hj:j<1000
  ·simp only[if_pos hj,wF]
   by_cases I:j=k
   ·simp[I,S]
   ·simp[I]
  ·simp only[if_neg hj]
   rw[if_neg (show ¬j=k by omega)]
 ·simp only[St.put,if_neg (show ¬k<1000 by omega),if_pos S,St.cont]
  by_cases hj:j<1000
  ·simp only[if_pos hj]
   rw[if_neg (show ¬j=k by omega)]
  ·simp only[if_neg hj]
   by_cases hjn:j<1000+st.n
   ·simp only[if_pos hjn,wF]
    by_cases I:j=k
    ·subst I
     rw[if_pos ⟨rfl,by omega⟩,if_pos rfl]
    ·rw[if_neg (by omega),if_neg I]
   ·simp only[if_neg hjn]
    rw[if_neg (show ¬j=k by omega)]
theorem St.re{st:St}{k:Nat}(hk:¬st.in k)(c:D):(st.put k c).cont=st.cont:=by
 simp only[St.in,not_or,not_and] at hk;funext j;simp only[St.put];split
 ·rename_i h
  simp only[St.cont];split
  ·rw[wF,if_neg]
   intro S;exact absurd S.2 (hk.1 h)
  ·rfl
 ·split
  ·rename_i h I;exact absurd I (hk.2 (by omega))
  ·rfl
theorem St.c8{st:St}(hw:st.wf)(c:D):(st.push c).cont=az st.cont (1000+st.n) c:=by
 have S:st.tmp.length=st.n:=hw;funext j;show(if j<1000 then nth st.env j else if j<1000+(st.n+1) then nth (c::st.tmp) (999+(st.n+1)-j) else D.dead)=if j=1000+st.n then c else if j<1000 then nth st.env j else if j<1000+st.n then nth st.tmp (999+st.n-j) else D.dead
 by_cases hj:j<1000
 ·rw[if_pos hj,if_pos hj,if_neg (show ¬j=1000+st.n by omega)]
 ·rw[if_neg hj,if_neg hj]
  by_cases I:j=1000+st.n
  ·subst I
   rw[if_pos rfl,if_pos (by omega),show 999+(st.n+1)-(1000+st.n)=0 by omega];rfl
  ·rw[if_neg I]
   by_cases hlt:j<1000+st.n
   ·rw[if_pos hlt,if_pos (by omega),show 999+(st.n+1)-j=(999+st.n-j)+1 by omega];rfl
   ·rw[if_neg hlt,if_neg (by omega)]
theorem St.gG{st:St}(h:st.wf)(q:D->Bool):(st.kill q).wf:=by simpa[St.wf,St.kill,mX] using h
theorem St.fb{st:St}(h:st.wf)(k:Nat)(c:D):(st.put k c).wf:=by
 unfold St.put;split
 ·exact h
 ·split
  ·simpa[St.wf,By] using h
  ·exact h
theorem St.fx{st:St}(h:st.wf)(c:D):(st.push c).wf:=by simpa[St.wf,St.push] using h
theorem St.fW(st:St)(k:Nat)(c:D):(st.put k c).n=st.n:=by by_cases h:k<1000<;>by_cases h':k<1000+st.n<;>simp[St.put,h,h']
section
variable{cx:Ctx}{vl:Nat->Value}{fp:Nat->Nat->Prop}{G:Nat->Prop}{w:World}{A:Nat->Prop}
theorem G9(q:D->Bool){c:D}{p:Path}(hp:c.ew p)(S:p≠[]):(c.kill q).bm p=c.bm p/\(c.kill q).ew p:=by
 obtain⟨h1,V⟩:=hp;refine⟨?_,(kL (w:=default) q c undef p h1).1,fun W=>(rH q h1 W).2 (V (rH q h1 W).1)⟩;cases c<;>try exact h1.elim
 case o x=>rfl
 case row z l=>exact absurd h1 S
 case box l =>
  cases p with
  | nil=>exact absurd rfl S
  | cons s p =>
   obtain⟨i,off⟩:=s
   have key:∀y,l.getD off .dead=.o y->(D.kill q (.box l)).bm ((i,off)::p)=(D.box l).bm ((i,off)::p):=by
    intro y I
    have Y:D.aY (.box (ey q l)) i off=.o y:=by
     show(ey q l).getD off .dead=_;rw[vW,I];rfl
    have Z:D.aY (.box l) i off=.o y:=I;simp only[D.bm,D.kill,D.at,Y,Z]
   cases p with
   | nil =>
    obtain⟨y,I⟩:=zq (V rfl);exact key y I
   | cons t p =>
    obtain⟨_,_,hp⟩:=h1;simp only at hp;split at hp
    ·rename_i y I;exact key y I
    ·exact hp.elim
def vV(k:Nat)(p:Path)(q:D):Prop:=nM k p q\/(p≠[]/\bP k p q=false)
structure Tk[Mode](cx:Ctx)(w:World)(vl:Nat->Value)(st:St)(fp:Nat->Nat->Prop)(G:Nat->Prop)(st':St)(fp':Nat->Nat->Prop)(G':Nat->Prop)(F:Nat->Prop):Prop where
 hp:Hp cx st'.cont vl fp' G' w
 hF:∀b,F b->G' b/\¬G b
 hG:∀b,G b->G' b
 aK:∀b,ak cx fp G w b->ak cx fp' G' w b
 n:st'.n=st.n
 wf:st'.wf
 dd:∀j,st.cont j=.dead->st'.cont j=.dead
theorem cX.trans{I S V:World}{c1 c2 c3:Nat->D}{v1 v2 v3:Nat->Value}{q:D}(h:cX I S c1 c2 v1 v2 q)(W:cX S V c2 c3 v2 v3 q):cX I V c1 c3 v1 v3 q:=by
 cases q<;>first | trivial | (intro hp;obtain⟨a,b⟩:=h hp;obtain⟨c,d⟩:=W a;exact⟨c,d.trans b⟩)
theorem od(ct:Nat->D)(q:D->Bool)(r:D):cX w w ct (fun k=>(ct k).kill q) vl vl r:=by
 cases r<;>try trivial
 case sub k p=>exact fun hp=>⟨⟨(kL (w:=w) q (ct k) (vl k) p hp.1).1,fun I=>(rH q hp.1 I).2 (hp.2 (rH q hp.1 I).1)⟩,(kL q (ct k) (vl k) p hp.1).2.1⟩
 case aG k p=>exact fun hp=>⟨(kL (w:=w) q (ct k) (vl k) p hp).1,(kL q (ct k) (vl k) p hp).2.2⟩
theorem Pa{L:List D}{sz j:Nat}{x:D}(h:cellAt L sz j=some x):∃e∈L,x∈e.cells:=by
 unfold cellAt at h;cases hL:L[j / sz]? with
 | none=>rw[hL] at h;cases h
 | some d=>rw[hL,Option.bind_some] at h;exact⟨d,List.mem_of_getElem? hL,List.mem_of_getElem? h⟩
theorem Iz{ct:Nat->D}{A:Nat->Prop}{v:Value}{c x:D}(h:Pl w A (ai w ct vl) v c)(I:c.fq=some x):aq w A v x fun _=>False:=by
 cases c<;>simp only[D.fq,reduceCtorEq,Option.some.injEq] at I<;>subst I
 case int=>obtain⟨rfl,h1⟩:=eY h;exact .int h1
 case bool=>have:=pl_bool h;subst this;exact .bool
 case str=>obtain⟨rfl,h1⟩:=iy h;exact .str h1
 case slice=>exact .vw (qi h)
 case ptr=>exact .vw (b8 h (by simp) (by simp) (by simp) (by simp) (by simp))
 case bd=>have:=b8 h (by simp) (by simp) (by simp) (by simp) (by simp);cases this;exact .bd
 case aH=>have:=b8 h (by simp) (by simp) (by simp) (by simp) (by simp);cases this;exact .nil
theorem WG{e y:D}(h:e.fq=some y):e.cells=[e]/\y.cells=[y]:=by
 cases e<;>simp only[D.fq,reduceCtorEq,Option.some.injEq] at h<;>subst h<;>exact⟨rfl,rfl⟩
theorem IA{e y:D}(h:e.rY=some y):y.cells.length=e.cells.length/\∀(i:Nat)(d:D),y.cells[i]?=some d->∃c,e.cells[i]?=some c/\c.fq=some d:=by
 have W:e.fq=some y->y.cells.length=e.cells.length/\∀(i:Nat)(d:D),y.cells[i]?=some d->∃c,e.cells[i]?=some c/\c.fq=some d:=fun S=>by
  obtain⟨h1,V⟩:=WG S;rw[h1,V];refine⟨rfl,fun i d I=>?_⟩;cases i with
  | zero=>simp only[List.getElem?_cons_zero,Option.some.injEq] at I;subst I;exact⟨e,rfl,S⟩
  | succ i=>simp at I
 cases e
 case agg l =>
  simp only[D.rY,Option.bind_eq_some_iff,Option.some.injEq] at h;obtain⟨l',h1,rfl⟩:=h;exact iv h1
 all_goals exact W h
theorem aa3{ct:Nat->D}{A:Nat->Prop}{v:Value}{F:Nat->Prop}{c x:D}(h:ca w A (ai w ct vl) v F c)(I:c.uN=some x):aq w A v x F:=by
 have hp:c.fq=some x->aq w A v x F:=fun S=>(Iz (show Pl w A (ai w ct vl) v c by cases c<;>first | exact h | cases S) S).mono (fun _ h=>h) (fun _ _=>rfl) (fun _ _=>rfl) fun _ h=>h.elim
 cases c
 case o y=>simp only[D.uN,Option.some.injEq] at I;subst I;exact h
 all_goals exact hp I
theorem aa0{ct:Nat->D}{A:Nat->Prop}{v:Value}{F:Nat->Prop}{c x:D}(h:aN w A (ai w ct vl) v F c)(I:c.jw=some x):aq w A v x F:=by
 cases c<;>simp only[D.jw,reduceCtorEq,Option.some.injEq] at I
 case o y=>subst I;exact h
 case box l =>
  rw[Option.bind_eq_some_iff] at I;obtain⟨l',hm,I⟩:=I;injection I with I;subst I
  obtain⟨hl,hg⟩:=iv hm;obtain⟨_,b,cs,e,Fs,rfl,Z,h3,Y,h5,h6,h7⟩:=h;refine .ptr Fs Z (by omega) (fun j y V=>?_) h5 h6 h7;obtain⟨c,hc,W⟩:=hg j y V;exact aa3 (Y j c hc) W
 case row z l =>
  rw[Option.bind_eq_some_iff] at I;obtain⟨l',hm,I⟩:=I;injection I with I;subst I
  obtain⟨hl,hg⟩:=iv hm;obtain⟨b,sz,cs,e,rfl,Z,h3,Y,h5,h6,h7,h8,h9⟩:=h;rw[<-hl] at h3 Y|-
  refine .slice (fun _ _=>False) Z (by omega) (Nat.le_refl _) Y h5 h6 (fun y hy=>?_) (fun j d V=>?_) h9 (fun _ _ hh=>hh.elim) (fun _ _ _ _ hh=>hh.elim)
  ·obtain⟨i,hi⟩:=List.getElem?_of_mem hy
   obtain⟨e',he,W⟩:=hg i y hi;rw[(IA W).1];exact h7 e' (List.mem_of_getElem? he)
  ·unfold cellAt at V
   cases hq:l'[j / sz]? with
   | none=>rw[hq] at V;cases V
   | some y =>
    rw[hq,Option.bind_some] at V;obtain⟨e',he,W⟩:=hg _ _ hq;obtain⟨c,hc,hp⟩:=(IA W).2 _ _ V;have S:cellAt l sz j=some c:=by unfold cellAt;rw[he,Option.bind_some];exact hc
    rw[Nat.zero_add];exact Iz (h8 j c S).1 hp
theorem MZ[Mode]{k:Nat}{p:Path}{K:D->St->Prop}{st:St}(hK:eI k p K st)(h:Hp cx st.cont vl fp G w)(hw:st.wf){v:Value}(hs:(st.cont k).ew p)(hv:aR w (vl k) (st.cont k) p=some v) :
  ∃x st' ad G' F,K x st'/\Tk cx w vl st fp G st' ad G' F/\aq w (ak cx ad G' w) v x F/\∀q,vV k p q->cX w w st.cont st'.cont vl vl q:=by
 have W:st.in k:=by
  by_cases W:st.in k
  ·exact W
  ·rw[St.cJ W] at hs;exact hs.1.elim
 cases p with
 | nil =>
  simp only[eI] at hK;have Y:=h.ok k;cases hc:(st.cont k).jw with
  | none=>rw[hc] at hK;exact hK.elim
  | some x =>
   rw[hc] at hK;replace Y:=aa0 Y hc;simp only[cR] at hK;simp only[aR,Option.some.injEq] at hv;subst hv;have h1:=h.kill (aX k);have h2:=h1.drop k (fun j=>de (fun d hd=>by cases d<;>simp_all[aX,cH]) (jk (aX k) (st.cont j))) (vl k);have ev:az vl k (vl k)=vl:=by funext j;simp only[az];split<;>simp_all
   rw[ev] at h2
   have ec:((st.kill (aX k)).put k .dead).cont=az (fun j=>(st.cont j).kill (aX k)) k .dead:=by
    rw[St.dR (St.gG hw _) (by simpa[St.in,St.kill,mX] using W),St.cW]
   rw[<-ec] at h2
   have aK:∀b,ak cx fp G w b->ak cx (az fp k fun _=>False) (fun b=>G b\/fp k b) w b:=by
    rintro b ⟨h1,h2,h3⟩;refine⟨h1,fun hg=>hg.elim h2 (h3 k),fun j I=>?_⟩;by_cases S:j=k
    ·subst S;rw[bc] at I;exact I
    ·rw[aI _ _ S] at I;exact h3 j I
   refine⟨x,_,_,_,fp k,hK,⟨h2,fun b hb=>⟨.inr hb,h.cK k b hb⟩,fun b hb=>.inl hb,aK,?_,St.fb (St.gG hw _) _ _,fun j I=>by
    rw[ec];by_cases S:j=k
    ·subst S;exact bc _ _ _
    ·rw[aI _ _ S,I];rfl⟩,aq.mono Y aK (fun _ _=>rfl) (fun _ _=>rfl) (fun _ h=>h),fun q V=>?_⟩
   ·rw[St.fW];rfl
   ·rcases V with V | ⟨V,_⟩
    ·refine(od st.cont (aX k) q).trans ?_
     rw[ec];cases q<;>try trivial
     all_goals
      rename_i j r;intro hp;have I:j≠k:=V.resolve_right (by simp[apart]);simp only[aI _ _ I];exact⟨hp,trivial⟩
    ·exact absurd rfl V
 | cons s p =>
  simp only[eI] at hK;have Z:s::p≠[]:=by simp
  generalize hP:s::p=P at hK Z hs hv;obtain⟨kd,ks⟩:=G9 (bP k P) hs Z;have h1:=h.kill (bP k P);have ax:=(kL (w:=w) (bP k P) (st.cont k) (vl k) P hs.1).2.1;obtain⟨u,F1,F2,g1,g2,g3,g4,g5,g6⟩:=h1.take ks Z (fun j=>jk (bP k P) (st.cont j));have hu:u=v:=by rw[ax,hv] at g1;injection g1 with g1;exact g1.symm
  subst hu;rw[kd] at g2
  have ec:((st.kill (bP k P)).put k (((st.kill (bP k P)).cont k).hole P)).cont=az (fun j=>(st.cont j).kill (bP k P)) k (((st.cont k).kill (bP k P)).setAt P (dp ((st.cont k).kill (bP k P)) P)):=by
   rw[St.dR (St.gG hw _) (by simpa[St.in,St.kill,mX] using W),St.cW];rfl
  rw[<-ec] at g4 g6
  have aK:∀b,ak cx fp G w b->ak cx (az fp k F2) (fun b=>G b\/F1 b) w b:=by
   rintro b ⟨h1,h2,h3⟩;refine⟨h1,fun hg=>hg.elim h2 fun hh=>h3 k (g3 b hh),fun j I=>?_⟩;by_cases S:j=k
   ·subst S;rw[bc] at I;exact h3 _ (g5 b I)
   ·rw[aI _ _ S] at I;exact h3 j I
  refine⟨_,_,_,_,F1,hK,⟨g4,fun b hb=>⟨.inr hb,h.cK k b (g3 b hb)⟩,fun b hb=>.inl hb,aK,?_,St.fb (St.gG hw _) _ _,fun j I=>by
   rw[ec];have S:j≠k:=by rintro rfl;rw[I] at hs;exact hs.1.elim
   rw[aI _ _ S,I];rfl⟩,aq.mono g2 aK (fun _ _=>rfl) (fun _ _=>rfl) (fun _ h=>h),fun q V=>?_⟩
  ·rw[St.fW];rfl
  ·refine(od st.cont (bP k P) q).trans ?_
   rcases V with V | ⟨_,V⟩
   ·rw[ec]
    have ag:=h1.ok k;cases q<;>try trivial
    case sub j r =>
     rintro⟨ab,ao⟩;by_cases I:j=k
     ·subst I
      simp only[bc];obtain⟨a1,a2,a3,a4⟩:=vd ag ks.1 ab (V.resolve_left (by simp)) (tP ks.1 Z);exact⟨⟨a1,fun hl=>by rw[a3];rw[a2] at hl;exact ao hl⟩,(a4 w).1⟩
     ·simp only[aI _ _ I]
      exact⟨⟨ab,ao⟩,trivial⟩
    case aG j r =>
     intro ab;by_cases I:j=k
     ·subst I
      simp only[bc];obtain⟨a1,a2,a3,a4⟩:=vd ag ks.1 ab (V.resolve_left (by simp)) (tP ks.1 Z);exact⟨a1,(a4 w).2⟩
     ·simp only[aI _ _ I]
      exact⟨ab,trivial⟩
   ·exact g6 q V
theorem xu[Mode]{k:Nat}{p:Path}{K:D->St->Prop}{st:St}(V:eI k p K st)(h:Hp cx st.cont vl fp G w)(hw:st.wf){v:Value}(S:ai w st.cont vl v (.sub k p)) :
  ∃x st' I G' F,K x st'/\Tk cx w vl st fp G st' I G' F/\aq w (ak cx I G' w) v x F/\∀q,vV k p q->cX w w st.cont st'.cont vl vl q :=
 MZ V h hw S.1 S.2.1
theorem QD{c:D}{p:Path}(h:c.aZ (p++[(0,0)])):c.ew p:=by
 cases c<;>try(exact h.elim)
 case o x=>exact⟨((nZ x p _).1 h).1,fun I=>by cases I⟩
 case row z l=>cases p<;>cases h
 case box l =>
  match p,h with
  | [],_=>exact⟨trivial,fun I=>by cases I⟩
  | [(i,off)],h =>
   obtain⟨h1,S,V⟩:=h;refine⟨⟨h1,S,trivial⟩,fun _=>?_⟩;show(l.getD off .dead).iT=true;revert V;show(match l.getD off .dead with | .o y=>y.has [(0,0)] | _=>False)->_;cases l.getD off .dead<;>first | exact fun h=>h.elim | exact fun _=>rfl
  | (i,off)::s::r,h =>
   obtain⟨h1,S,V⟩:=h;refine⟨⟨h1,S,?_⟩,fun I=>by cases I⟩;revert V;show(match l.getD off .dead with | .o y=>y.has (s::(r++[(0,0)])) | _=>False)->(match l.getD off .dead with | .o y=>y.has (s::r) | _=>False);cases l.getD off .dead<;>first | exact fun h=>h.elim | skip
   rename_i y;exact fun h=>((nZ y (s::r) [(0,0)]).1 h).1
theorem MX[Mode]{k:Nat}{q:Path}{K:D->St->Prop}{st:St}(hz:mY q=true)(hK:eI k (jy q) (fun d st=>d.tv=true/\K d st) st)(h:Hp cx st.cont vl fp G w)(hw:st.wf){v:Value}(Y:sJ w st.cont vl v k q) :
  ∃x st' I G' F,K x st'/\Tk cx w vl st fp G st' I G' F/\aq w (ak cx I G' w) v x F/\∀Z,vV k (jy q) Z->cX w w st.cont st'.cont vl vl Z:=by
 rw[Hc hz] at Y;obtain⟨hc,a,S,rfl⟩:=Y;rw[sP w (jy q) [(0,0)] _ _ (by simp),Option.bind_eq_some_iff] at S;obtain⟨u,hu,S⟩:=S;obtain⟨x,st',I,G',F,⟨h1,h2⟩,h3,W,h5⟩:=MZ hK h hw (QD hc) hu;refine⟨x,st',I,G',F,h2,h3,?_,h5⟩
 have key:u=.pointer (some a):=by
  have V:∃b,u=.pointer (some ⟨b,0,none⟩):=by cases W<;>first | exact⟨_,rfl⟩ | cases h1
  obtain⟨b,rfl⟩:=V;have S:dU (.pointer (some ⟨b,0,none⟩)) ((st.cont k).at (jy q)).un 0 0=some a:=S;generalize((st.cont k).at (jy q)).un=y at S;cases y<;>simp only[dU] at S<;>first | (cases S;rfl) | cases S
 rw[<-key];exact W
theorem Ja{ι:Type}{Q:ι->D->Prop}{r:D}(h:∀i,r.refs (Q i)):r.refs fun d=>∀i,Q i d:=by
 induction r using D.ind with
 | agg l I | av l I | box l I | fn _ l I=>exact bG.2 fun x S=>I x S fun i=>bG.1 (h i) x S
 | row z l _ I=>exact bG.2 fun x S=>I x S fun i=>bG.1 (h i) x S
 | when g x I=>exact I h
 | sub k p=>exact h
 | aG k p=>exact h
 | pre k p n=>exact h
 | _=>trivial
theorem AS{T:D->D->Prop}{r:D}(x:D)(h:x.refs fun s=>r.refs (T s)):r.refs fun q=>x.refs fun s=>T s q:=by
 have list:∀l:List D,(∀y∈l,y.refs (fun s=>r.refs (T s))->r.refs fun q=>y.refs fun s=>T s q)->cu (fun s=>r.refs (T s)) l->r.refs fun q=>cu (fun s=>T s q) l:=by
  intro l I h;have:=Ja (ι:={y // y∈l}) (Q:=fun i q=>i.1.refs fun s=>T s q) (r:=r) fun i=>I i.1 i.2 (bG.1 h i.1 i.2)
  exact de (fun d S=>bG.2 fun y V=>S ⟨y,V⟩) this
 induction x using D.ind with
 | agg l I | av l I | box l I | fn _ l I=>exact list l I h
 | row z l _ I=>exact list l I h
 | when g x I=>exact I h
 | sub k p=>exact h
 | aG k p=>exact h
 | pre k p n=>exact h
 | _=>exact bw (fun _=>trivial) r
def lX(s q:D):Prop :=
 match s with
 | .sub k p=>vV k p q
 | _=>True
theorem Bl{r:List D}{s:D}(h:oO r s):(D.agg r).refs (lX s):=by
 cases s<;>first | exact bw (fun _=>trivial) _ | skip
 exact de (fun d I=>.inl I) (show(D.agg r).refs _ from h)
theorem Xo{Q I:D->Prop}{r:D}(h:r.refs Q)(V:r.refs I):r.refs fun d=>Q d/\I d:=by
 have:=Ja (ι:=Bool) (Q:=fun i d=>match i with | true=>Q d | false=>I d) (r:=r) (fun i=>by cases i<;>assumption);exact de (fun d S=>⟨S true,S false⟩) this
theorem Pl.bZ{ct I:Nat->D}{vl S:Nat->Value}{A':Nat->Prop}{w':World}{v:Value}{d:D}(h:Pl w A (ai w ct vl) v d)(hA:∀b,A b->A' b)(hw:∀b,A b->w'.heap[b]?=w.heap[b]?)(hk:d.refs (cX w w' ct I vl S)):Pl w' A' (ai w' I S) v d :=
 h.mono (Q:=cX w w' ct I vl S) hA hw hk fun _ _ V W=>W.bZ V
theorem Tk.refl[Mode]{st:St}(h:Hp cx st.cont vl fp G w)(hw:st.wf):Tk cx w vl st fp G st fp G fun _=>False :=
 ⟨h,fun _ h=>h.elim,fun _ h=>h,fun _ h=>h,rfl,hw,fun _ h=>h⟩
theorem Tk.trans[Mode]{st1 st2 Z:St}{V W Y:Nat->Nat->Prop}{G1 G2 G3 F F':Nat->Prop}(h:Tk cx w vl st1 V G1 st2 W G2 F)(S:Tk cx w vl st2 W G2 Z Y G3 F'):Tk cx w vl st1 V G1 Z Y G3 fun b=>F b\/F' b :=
 ⟨S.hp,fun b I=>I.elim (fun I=>⟨S.hG b (h.hF b I).1,(h.hF b I).2⟩) fun I=>⟨(S.hF b I).1,fun hg=>(S.hF b I).2 (h.hG b hg)⟩,fun b I=>S.hG b (h.hG b I),fun b I=>S.aK b (h.aK b I),S.n.trans h.n,S.wf,fun j hj=>S.dd j (h.dd j hj)⟩
mutual
theorem uZ[Mode]:∀(d:D){K:D->St->Prop}{st:St}{fp:Nat->Nat->Prop}{G:Nat->Prop}{v:Value},aF d K st->Hp cx st.cont vl fp G w->st.wf->(∀b,A b->ak cx fp G w b)->Pl w A (ai w st.cont vl) v d ->
  ∃x st' fp' G' F,K x st'/\Tk cx w vl st fp G st' fp' G' F/\aq w (ak cx fp' G' w) v x F/\(x.isAgg=false->v.oneCell'=true)/\(x.isAgg=d.isAgg/\x.cells.length=d.cells.length)/\∀q,d.refs (fun s=>lX s q)->cX w w st.cont st'.cont vl vl q
 | d,K,st,fp,G,v,hK,h,hw,hA,hv=>by
  have hkeep:∀q,cX w w st.cont st.cont vl vl q:=fun q=>by cases q<;>first | trivial | exact fun hp=>⟨hp,rfl⟩
  have leaf:∀x,K x st->aq w (ak cx fp G w) v x (fun _=>False)->(x.isAgg=false->v.oneCell'=true)->(x.isAgg=d.isAgg/\x.cells.length=d.cells.length)->∃x st' fp' G' F,K x st'/\Tk cx w vl st fp G st' fp' G' F/\aq w (ak cx fp' G' w) v x F/\(x.isAgg=false->v.oneCell'=true)/\(x.isAgg=d.isAgg/\x.cells.length=d.cells.length)/\∀q,d.refs (fun s=>lX s q)->cX w w st.cont st'.cont vl vl q :=
   fun x hx ho h1 h2=>⟨x,st,fp,G,_,hx,.refl h hw,ho,h1,h2,fun q _=>hkeep q⟩
  match d,hK,hv,leaf with
  | .int k n,hK,hv,leaf =>
   obtain⟨rfl,h1⟩:=eY hv;exact leaf _ (by simpa only[aF] using hK) (.int h1) (fun _=>rfl) ⟨rfl,rfl⟩
  | .bool b,hK,hv,leaf =>
   have:=pl_bool hv;subst this;exact leaf _ (by simpa only[aF] using hK) .bool (fun _=>rfl) ⟨rfl,rfl⟩
  | .str s,hK,hv,leaf =>
   obtain⟨rfl,h1⟩:=iy hv;exact leaf _ (by simpa only[aF] using hK) (.str h1) (fun _=>rfl) ⟨rfl,rfl⟩
  | .bd,hK,hv,leaf =>
   have:=b8 hv (by simp) (by simp) (by simp) (by simp) (by simp);cases this;exact leaf _ (by simpa only[aF] using hK) .bd (fun _=>rfl) ⟨rfl,rfl⟩
  | .fn f [],hK,hv,leaf =>
   obtain⟨cs,rfl,hs,_⟩:=oE hv;have:cs=#[]:=by simpa using hs
   subst this;exact leaf _ (by simpa only[aF] using hK) .fn (fun _=>rfl) ⟨rfl,rfl⟩
  | .sub k p,hK,hv,leaf =>
   simp only[aF] at hK;obtain⟨x,st',fp',G',F,h1,h2,h3,h4⟩:=xu hK h hw (eD hv);obtain⟨_,_,⟨_,_,_,rfl⟩ | ⟨_,rfl⟩ | ⟨_,rfl⟩⟩:=eD hv
   rotate_right
   ·have hag:x.isAgg=false:=by cases h3<;>rfl
    exact⟨x,st',fp',G',F,h1,h2,h3,fun _=>rfl,⟨hag,by rw[D.cells_one hag];rfl⟩,fun q hq=>h4 q hq⟩
   ·have hag:x.isAgg=false:=by cases h3<;>rfl
    exact⟨x,st',fp',G',F,h1,h2,h3,fun _=>rfl,⟨hag,by rw[D.cells_one hag];rfl⟩,fun q hq=>h4 q hq⟩
   ·have hag:x.isAgg=false:=by cases h3<;>rfl
    exact⟨x,st',fp',G',F,h1,h2,h3,fun _=>rfl,⟨hag,by rw[D.cells_one hag];rfl⟩,fun q hq=>h4 q hq⟩
  | .slice z l,hK,hv,leaf =>
   have:=qi hv;exact leaf _ (by simpa only[aF] using hK) (.vw (this.mono hA fun _ _=>rfl)) (fun _=>by cases this<;>rfl) ⟨rfl,rfl⟩
  | .ptr l,hK,hv,leaf =>
   have:=b8 hv (by simp) (by simp) (by simp) (by simp) (by simp);exact leaf _ (by simpa only[aF] using hK) (.vw (this.mono hA fun _ _=>rfl)) (fun _=>by cases this<;>rfl) ⟨rfl,rfl⟩
  | .aH z,hK,hv,leaf =>
   have:=b8 hv (by simp) (by simp) (by simp) (by simp) (by simp);cases this;exact leaf _ (by simpa only[aF] using hK) .nil (fun _=>rfl) ⟨rfl,rfl⟩
  | .bS,hK,hv,leaf =>
   have:=b8 hv (by simp) (by simp) (by simp) (by simp) (by simp);cases this;exact leaf _ (by simpa only[aF] using hK) .bS (fun _=>rfl) ⟨rfl,rfl⟩
  | .bz,hK,hv,leaf =>
   have:=b8 hv (by simp) (by simp) (by simp) (by simp) (by simp);cases this;exact leaf _ (by simpa only[aF] using hK) .bz (fun _=>rfl) ⟨rfl,rfl⟩
  | .bE t x,hK,hv,leaf =>
   have:=b8 hv (by simp) (by simp) (by simp) (by simp) (by simp);cases this with
   | bE h=>exact leaf _ (by simpa only[aF] using hK) (.bE (h.mono hA fun _ _=>rfl)) (fun _=>rfl) ⟨rfl,rfl⟩
  | .mp _ _,hK,_,_=>simp only[aF] at hK
  | .b6 _ _,hK,_,_=>simp only[aF] at hK
  | .ia _,hK,_,_=>simp only[aF] at hK
  | .sb _ _ _,hK,_,_=>simp only[aF] at hK
  | .agg l,hK,hv,leaf =>
   simp only[aF] at hK;obtain⟨cs,rfl,hs,hc⟩:=oD hv;obtain⟨l',st',fp',G',Fs,h1,h2,h3,h4,h5,h6⟩:=ko l hK h hw hA hc;exact⟨_,st',fp',G',_,h1,h2,.agg Fs (by rw[hs,h3]) (fun j x hx=>(h4 j x hx).1) (fun j c hc=>⟨j,hc⟩) h5,(fun h=>by simp[D.isAgg] at h),⟨rfl,h3⟩,h6⟩
  | .fn f (c::r),hK,hv,leaf =>
   simp only[aF] at hK;have:=po hv hK.1;exact leaf _ hK.2 (.vw (this.mono hA fun _ _=>rfl)) (fun _=>by cases this;rfl) ⟨rfl,rfl⟩
  | .av _,hK,_,_=>simp only[aF] at hK
  | .vw _,hK,_,_=>simp only[aF] at hK
  | .o _,hK,_,_=>simp only[aF] at hK
  | .box _,hK,_,_=>simp only[aF] at hK
  | .row _ _,hK,_,_=>simp only[aF] at hK
  | .aG _ _,hK,_,_=>simp only[aF] at hK
  | .pre _ _ _,hK,_,_=>simp only[aF] at hK
  | .when _ _,hK,_,_=>simp only[aF] at hK
  | .dead,hK,_,_=>simp only[aF] at hK
theorem ko[Mode]:∀(l:List D){K:List D->St->Prop}{st:St}{fp:Nat->Nat->Prop}{G:Nat->Prop}{vs:Array Value},cE l K st->Hp cx st.cont vl fp G w->st.wf->(∀b,A b->ak cx fp G w b) ->
  (∀(j:Nat)(x:D),l[j]?=some x->Pl w A (ai w st.cont vl) (vs.getD j undef) x) ->
  ∃(l':List D)(st':St)(fp':Nat->Nat->Prop)(G':Nat->Prop)(Fs:Nat->Nat->Prop),K l' st'/\Tk cx w vl st fp G st' fp' G' (fun b=>∃j,Fs j b)/\l'.length=l.length/\(∀(j:Nat)(x:D),l'[j]?=some x->aq w (ak cx fp' G' w) (vs.getD j undef) x (Fs j)/\(x.isAgg=false->(vs.getD j undef).oneCell'=true)/\∃d,l[j]?=some d/\x.isAgg=d.isAgg/\x.cells.length=d.cells.length)/\(∀i j b,i≠j->Fs i b->¬Fs j b) /\
   ∀q,cu (fun s=>lX s q) l->cX w w st.cont st'.cont vl vl q
 | [],K,st,fp,G,vs,hK,h,hw,hA,hv=>by
  simp only[cE] at hK;have hkeep:∀q,cX w w st.cont st.cont vl vl q:=fun q=>by cases q<;>first | trivial | exact fun hp=>⟨hp,rfl⟩
  exact⟨[],st,fp,G,fun _ _=>False,hK,⟨h,fun _ ⟨_,h⟩=>h.elim,fun _ h=>h,fun _ h=>h,rfl,hw,fun _ h=>h⟩,rfl,fun j x hx=>by simp at hx,fun _ _ _ _ h=>h.elim,fun q _=>hkeep q⟩
 | y::r,K,st,fp,G,vs,hK,h,hw,hA,hv=>by
  simp only[cE] at hK;obtain⟨hsafe,hK⟩:=hK;obtain⟨x,st1,fp1,G1,F1,h1,h2,h3,h3',h3'',h4⟩:=uZ y hK h hw hA (hv 0 y rfl);have hkr:=AS y (de (fun s hs=>Bl hs) hsafe)
  have hrest:∀(j:Nat)(x:D),r[j]?=some x->Pl w A (ai w st1.cont vl) ((vs.extract 1 vs.size).getD j undef) x:=by
   intro j x hx;have h5:=hv (j+1) x (by simpa using hx)
   have e:(vs.extract 1 vs.size).getD j undef=vs.getD (j+1) undef:=by
    simp only[Array.getD_eq_getD_getElem?,Array.getElem?_extract];by_cases hj:j<min vs.size vs.size-1
    ·rw[if_pos hj,Nat.add_comm]
    ·rw[if_neg hj,Array.getElem?_eq_none (by omega)]
   rw[e];exact h5.bZ (fun _ h=>h) (fun _ _=>rfl) (de (fun q hq=>h4 q hq) (bG.1 hkr x (List.mem_of_getElem? hx)))
  obtain⟨l',st',fp',G',Fs,k1,k2,k3,k4,k5,k6⟩:=ko r h1 h2.hp h2.wf (fun b hb=>h2.aK b (hA b hb)) hrest;have htk:=h2.trans k2;refine⟨x::l',st',fp',G',fun j=>match j with | 0=>F1 | j+1=>Fs j,k1,⟨htk.hp,fun b ⟨j,hj⟩=>htk.hF b ?_,htk.hG,htk.aK,htk.n,htk.wf,htk.dd⟩,by simp[k3],fun j x' hx'=>?_,fun i j b hij hi hj=>?_,fun q hq=>?_⟩
  ·cases j with
   | zero=>exact .inl hj
   | succ j=>exact .inr ⟨j,hj⟩
  ·cases j with
   | zero=>simp at hx';subst hx';exact⟨h3.mono k2.aK (fun _ _=>rfl) (fun _ _=>rfl) fun _ h=>h,h3',y,rfl,h3''⟩
   | succ j =>
    have:=k4 j x' (by simpa using hx')
    have e:(vs.extract 1 vs.size).getD j undef=vs.getD (j+1) undef:=by
     simp only[Array.getD_eq_getD_getElem?,Array.getElem?_extract];by_cases hj:j<min vs.size vs.size-1
     ·rw[if_pos hj,Nat.add_comm]
     ·rw[if_neg hj,Array.getElem?_eq_none (by omega)]
    rw[e] at this;exact this
  ·cases i with
   | zero=>cases j with
    | zero=>exact hij rfl
    | succ j=>exact(k2.hF b ⟨j,hj⟩).2 (h2.hF b hi).1
   | succ i=>cases j with
    | zero=>exact(k2.hF b ⟨i,hi⟩).2 (h2.hF b hj).1
    | succ j=>exact k5 i j b (by omega) hi hj
  ·exact(h4 q hq.1).trans (k6 q hq.2)
end
end
end Go.D3
namespace Go.D3
open Go
section
variable{cx:Ctx}{vl:Nat->Value}{fp:Nat->Nat->Prop}{G:Nat->Prop}{w:World}{A:Nat->Prop}
theorem zZ{y:D}(I:y.isAgg=false):∀(p:Path)(x:D),dY x p y
 | [],_=>trivial
 | [(i,off)],x=>by
  simp only[dY];generalize x.un=z;cases z<;>first | trivial | exact .inr I
 | (i,off)::s::p,x=>zZ I (s::p) (x.aY i off)
theorem TB{c y:D}{p:Path}(hp:c.aZ p)(I:p≠[])(S:y.isAgg=false):fJ c p y:=by
 cases c<;>try exact hp.elim
 case o x=>exact zZ S p x
 case row=>exact absurd hp I
 case box l =>
  cases p with
  | nil=>exact absurd rfl I
  | cons s p =>
   cases p with
   | nil=>exact trivial
   | cons t p=>exact zZ S (t::p) _
theorem xZ:∀{p:Path}{i j:Nat},p≠[]->i≠j->apart (bump p i) (bump p j)=true
 | [],_,_,h,_=>absurd rfl h
 | [(a,b)],i,j,_,h=>by simp[bump,apart,h]
 | s::t::p,i,j,_,h=>by
  simp only[bump,apart,if_true];exact xZ (p:=t::p) (by simp) h
theorem E2:∀(p:Path)(j:Nat),(bump p j).length=p.length
 | [],_=>rfl
 | [_],_=>rfl
 | _::t::p,j=>by simp only[bump,List.length_cons,E2 (t::p) j]
theorem xV{w':World}:∀(p:Path){v:Value}{x:D}{F:Nat->Prop}{a:Addr},aq w A v x F->x.has p->aJ w v x p=some a->(∀c,c≠a.block->w'.heap[c]?=w.heap[c]?)->aJ w' v x p=some a
 | [],v,x,F,a,_,_,h,_=>by simp[aJ] at h
 | [(i,off)],v,x,F,a,_,_,h,_=>h
 | (i,off)::s::p,v,x,F,a,h,hp,ha,hw=>by
  obtain⟨e1,Z,e3,e4⟩:=lY h i off;obtain⟨u,F1,F2,g1,g2,g3,g4,g5,g6,g7⟩:=h.split (Z.1 hp.1);rw[<-e1] at g2
  have I:aJ w u (x.aY i off) (s::p)=some a:=by
   simp only[aJ,e4,g1,Option.bind_some] at ha;exact ha
  obtain⟨_,G1,G2,_,_,k3,k4,_,_,k7⟩:=aq.splitAt (s::p) g2 hp.2;have V:=k4 _ (k7 a I).1
  have Y:cG w' v x i off=some u:=by
   obtain⟨hu,_⟩:=h.un;unfold cG;rw[hu];cases x<;>try exact(Z.1 hp.1).elim
   all_goals first
    | exact g1
    | (simp only[mW] at g1|-
       generalize W:dU v _ i off=S at g1|-
       cases S with
       | none=>simp at g1
       | some S =>
        obtain⟨j1,j2,j3,_⟩:=g7 S W;simp only[Option.bind_some] at g1|-
        rw[<-g1];obtain⟨ab,ao,as⟩:=S;simp only at j2;cases as with
        | some _=>simp at j2
        | none=>exact cell_of_heap (hw _ (by rintro rfl;exact g5 _ V j1)))
  simp only[aJ,Y,Option.bind_some];exact xV (s::p) g2 hp.2 I hw
theorem N0{R:Value->D->Prop}{v:Value}{c:D}{F:Nat->Prop}{p:Path}{a:Addr}{w':World}(h:aN w A R v F c)(hp:c.aZ p)(W:aJ w v c p=some a)(hw:∀d,d≠a.block->w'.heap[d]?=w.heap[d]?):aJ w' v c p=some a:=by
 cases c<;>try exact hp.elim
 case o x =>
  rw[(iG h w p).2] at W;rw[(iG h w' p).2];exact xV p h hp W hw
 case row z l=>simp only[D.aZ] at hp;subst hp;simp[aJ] at W
 case box l =>
  cases p with
  | nil=>simp[aJ] at W
  | cons s p =>
   obtain⟨i,off⟩:=s;obtain⟨_,b,cs,e,Fs,h1,h2,h3,h4,h5,h6,h7⟩:=h;obtain⟨rfl,ho,hp⟩:=hp;subst h1;cases p with
   | nil=>exact W
   | cons t p =>
    simp only at hp;split at hp
    ·rename_i y hy
     have Z:l[off]?=some (.o y):=by
      rw[List.getElem?_eq_getElem ho];rw[List.getD_eq_getElem?_getD,List.getElem?_eq_getElem ho] at hy;simpa using hy
     have I:=h4 off _ Z;simp only[ca] at I
     have S:∀V,V.heap[b]?=w.heap[b]?->cG V (.pointer (some ⟨b,0,none⟩)) (.box l) 0 off=some (cs.getD off undef):=by
      intro V hb;show V.cell? ⟨b,0+off,none⟩=_;rw[Nat.zero_add];exact fQ (hb.trans h2) (by omega)
     have hk:D.aY (.box l) 0 off=.o y:=hy
     have Y:aJ w (cs.getD off undef) y (t::p)=some a:=by
      rw[aJ,S w rfl,Option.bind_some,hk,(iG I w (t::p)).2] at W
      ·exact W
      ·simp
     obtain⟨_,G1,G2,_,_,k3,k4,_,_,k7⟩:=aq.splitAt (t::p) I hp;have ab:=k4 _ (k7 a Y).1;rw[aJ,S w' (hw b (by rintro rfl;exact(h6 _ _ ab).1 rfl)),Option.bind_some,hk,(iG I w' (t::p)).2]
     ·exact xV (t::p) I hp Y hw
     ·simp
    ·exact hp.elim
theorem Fw{R:Value->D->Prop}{v:Value}{x:D}{F:Nat->Prop}(h:aq w A v x F)(h1:v.oneCell'=true):ca w A R v F (aV x)/\∀Q,(aV x).refs Q:=by
 cases h with
 | int h=>exact⟨.rd (.int h),fun _=>trivial⟩
 | bool=>exact⟨.rd .bool,fun _=>trivial⟩
 | str h=>exact⟨.rd (.str h),fun _=>trivial⟩
 | nil=>exact⟨.nil,fun _=>trivial⟩
 | bd=>exact⟨.rd .bd,fun _=>trivial⟩
 | fn=>exact⟨.rd (.fn rfl (fun j x hx=>by simp at hx)),fun _=>trivial⟩
 | @vw v d F h =>
  cases d
  case slice z l=>exact⟨Pl.rd h,fun _=>trivial⟩
  case ptr l=>exact⟨Pl.rd h,fun _=>trivial⟩
  case agg l=>cases h;cases h1
  case av l=>cases h;cases h1
  case fn f l=>exact⟨Pl.rd h,fun Q=>h.zV Q⟩
  case mp ks vs=>exact⟨Pl.rd h,fun _=>trivial⟩
  all_goals exact⟨Pl.dead,fun _=>trivial⟩
 | dead=>exact⟨Pl.dead,fun _=>trivial⟩
 | mp hF S hE=>exact⟨.mp hF S hE,fun _=>trivial⟩
 | bS=>exact⟨.rd .bS,fun _=>trivial⟩
 | bE h=>exact⟨Pl.rd (.bE h),fun _=>trivial⟩
 | bz=>exact⟨.rd .bz,fun _=>trivial⟩
 | b6 hF S Z=>exact⟨.b6 hF S Z,fun _=>trivial⟩
 | sb hF hg h=>exact⟨.sb hF hg h,fun _=>trivial⟩
 | slice Fs S W hc hm hz ad ab Y hF V I=>exact⟨.slice Fs S W hc hm hz ad ab Y hF V I,fun _=>trivial⟩
 | agg=>cases h1
 | av=>cases h1
 | ptr Fs S Z Y hF V I=>exact⟨.ptr Fs S Z Y hF V I,fun _=>trivial⟩
theorem BL[Mode]{k:Nat}{p:Path}(a1:p≠[]){b:Nat}:∀(ys:List D)(vs:List Value)(j o:Nat){ct:Nat->D}{fp:Nat->Nat->Prop}{G:Nat->Prop}{w:World}(Fs:Nat->Nat->Prop),
  Hp cx ct vl fp G w->(∀j,(ct j).refs fun d=>bB k p d=false)->nk (ct k) p j ys->vs.length=ys.length->(∀(i:Nat)(y:D),ys[i]?=some y->aq w (ak cx fp G w) (vs.getD i undef) y (Fs i)/\(y.isAgg=false->(vs.getD i undef).oneCell'=true)) ->
  (∀i c,Fs i c->G c)->(∀i i' c,i≠i'->Fs i c->¬Fs i' c)->(∀i,i<ys.length->aJ w (vl k) (ct k) (bump p (j+i))=some ⟨b,o+i,none⟩) ->
  ∃bg G',Hp cx (az ct k (df (ct k) p j ys)) vl bg G' (w.setCells b o vs)/\(∀i,i<ys.length->(w.cell? ⟨b,o+i,none⟩).isSome=true/\w.frozen? ⟨b,o+i,none⟩=false)/\(∀v∈vs,v.oneCell'=true)
 | [],vs,j,o,ct,fp,G,w,Fs,h,_,_,hl,_,_,_,_=>by
  have:vs=[]:=List.length_eq_zero_iff.1 hl;subst this;have e:az ct k (ct k)=ct:=by funext i;simp only[az];split<;>simp_all
  simp only[df,e];exact⟨fp,G,h,fun i hi=>by simp at hi,fun v hv=>by cases hv⟩
 | y::r,[],j,o,ct,fp,G,w,Fs,_,_,_,hl,_,_,_,_=>by simp at hl
 | y::r,v::vs,j,o,ct,fp,G,w,Fs,h,hrefs,a6,hl,a8,ao,a7,hadr=>by
  obtain⟨W,b2,a6⟩:=a6;have V:=E3 j a1;have ha:=hadr 0 (by simp);rw[Nat.add_zero,Nat.add_zero] at ha;obtain⟨ho,h1⟩:=a8 0 y rfl;have ho:aq w (ak cx fp G w) v y (Fs 0):=ho;have h1:v.oneCell'=true:=h1 b2;obtain⟨bF,b5⟩:=Fw (R:=ai w ct vl) ho h1;generalize S:(if bD (ct k) (bump p j)=true then aV y else y)=y'
  have bT:gh w (ak cx fp G w) (ai w ct vl) v (Fs 0) (bD (ct k) (bump p j)) y':=by
   unfold gh;split
   ·rename_i I;rw[I] at S;simp at S;rw[<-S];exact bF
   ·rename_i I;rw[I] at S;simp at S;rw[<-S];exact ho
  have b3:bD (ct k) (bump p j)=false->y'.isAgg=false:=by
   intro I;rw[I] at S;simp at S;rw[<-S];exact b2
  have ad:fJ (ct k) (bump p j) y':=by
   by_cases I:bD (ct k) (bump p j)=true
   ·revert W I
    cases ct k<;>intro W I<;>try(cases I;done)
    rename_i l;generalize bump p j=q at W I V;cases q with
    | nil=>exact absurd rfl V
    | cons s q=>cases q with
     | nil=>trivial
     | cons t q=>cases I
   ·exact TB W V (b3 (by simpa using I))
  have hq:bB k (bump p j)=bB k p:=IZ (E2 p j) k;obtain⟨⟨u,hu⟩,cd,_,aK,_⟩:=h.store W V ha (G':=fun c=>G c/\¬Fs 0 c) bT ad (by rw[hq];exact hrefs) (fun I=>by rw[I] at S;simp at S;rw[<-S];exact b5 _) (ao 0) (fun _ h=>h.1) (fun _ h1 h2=>h2.2 h1);have ab:=h.ok k
  have b0:∀c,ak cx fp G w c->ak cx (az fp k fun c=>fp k c\/Fs 0 c) (fun c=>G c/\¬Fs 0 c) (w.setCell ⟨b,o,none⟩ v) c:=by
   rintro c ⟨k1,k2,k3⟩;refine⟨by simpa using k1,fun hg=>k2 hg.1,fun i hi=>?_⟩;by_cases Z:i=k
   ·subst Z;rw[bc] at hi;exact hi.elim (k3 _) fun hh=>k2 (ao 0 c hh)
   ·rw[aI _ _ Z] at hi;exact k3 i hi
  have b4:fp k b:=by
   obtain⟨_,F1,F2,_,_,_,g4,_,_,g7⟩:=ab.splitAt W V;exact g4 _ (g7 _ ha).1
  have ag:∀c,c≠b->(w.setCell ⟨b,o,none⟩ v).heap[c]?=w.heap[c]?:=fun c W=>Bw v W
  have ax:az ct k ((ct k).setAt (bump p j) y') k=(ct k).setAt (bump p j) y':=bc _ _ _
  have cc:∀(r:List D)(Y:Nat),j<Y->nk (ct k) p Y r->nk ((ct k).setAt (bump p j) y') p Y r:=by
   intro r;induction r with
   | nil=>intro _ _ _;trivial
   | cons y0 r ih =>
    intro Y hj ⟨k1,k2,k3⟩;exact⟨(vd ab W k1 (xZ a1 (by omega)) ad).1,k2,ih (Y+1) (by omega) k3⟩
  have b9:∀(r:List D)(Y i:Nat),nk (ct k) p Y r->i<r.length->(ct k).aZ (bump p (Y+i)):=by
   intro r;induction r with
   | nil=>intro _ _ _ hi;simp at hi
   | cons y0 r ih =>
    intro Y i ⟨k1,k2,k3⟩ hi;cases i with
    | zero=>exact k1
    | succ i =>
     have:=ih (Y+1) i k3 (by simpa using hi);rw[show Y+(i+1)=Y+1+i by omega];exact this
  obtain⟨bg,G',r1,r2,r3⟩:=BL a1 r vs (j+1) (o+1) (fun i=>Fs (i+1)) aK
   (fun i=>by
     by_cases Z:i=k
     ·subst Z;rw[ax];exact ux ab W V (hrefs i) fun I=>by rw[I] at S;simp at S;rw[<-S];exact b5 _
     ·rw[aI _ _ Z];exact hrefs i)
   (by rw[ax];exact cc r (j+1) (by omega) a6) (by simpa using hl)
   (fun i y0 cg=>by
     obtain⟨q1,q2⟩:=a8 (i+1) y0 (by simpa using cg);have q1:aq w (ak cx fp G w) (vs.getD i undef) y0 (Fs (i+1)):=by simpa using q1
     have q2:y0.isAgg=false->(vs.getD i undef).oneCell'=true:=by simpa using q2
     refine⟨q1.mono b0 (fun c W=>ag c (by rintro rfl;exact W.2.2 k b4)) (fun c W=>ag c ?_) (fun _ h=>h),q2⟩;rintro rfl
     exact h.cK k _ b4 (ao _ _ W))
   (fun i c hi=>⟨ao _ c hi,a7 (i+1) 0 c (by omega) hi⟩) (fun i i' c cj=>a7 (i+1) (i'+1) c (by omega))
   (fun i hi=>by
     rw[ax];have q0:=b9 r (j+1) i a6 hi;have q1:=hadr (i+1) (by simpa using hi);rw[show j+(i+1)=j+1+i by omega,show o+(i+1)=o+1+i by omega] at q1;rw[((vd ab W q0 (xZ a1 (by omega)) ad).2.2.2 _).2]
     exact N0 ab q0 q1 fun c W=>ag c W)
  rw[ax] at r1
  have e:az (az ct k ((ct k).setAt (bump p j) y')) k (df ((ct k).setAt (bump p j) y') p (j+1) r)=az ct k (df (ct k) p j (y::r)):=by
   funext i;simp only[az,df,S];split<;>rfl
  rw[e] at r1;refine⟨bg,G',r1,fun i hi=>?_,fun v' b1=>?_⟩
  ·cases i with
   | zero=>rw[Nat.add_zero];exact⟨by rw[hu];rfl,cd⟩
   | succ i =>
    obtain⟨s1,s2⟩:=r2 i (by simpa using hi);rw[show o+1+i=o+(i+1) by omega] at s1 s2;have e1:=World.cell?_setCells_out b [v] o w ⟨b,o+(i+1),none⟩ (fun _ _=>by right;simp);have e2:=World.frozen?_setCells b [v] o w ⟨b,o+(i+1),none⟩;simp only[World.setCells] at e1 e2;rw[e1] at s1;rw[e2] at s2;exact⟨s1,s2⟩
  ·rcases List.mem_cons.1 b1 with rfl | b1
   ·exact h1
   ·exact r3 v' b1
theorem sf[Mode]{st:St}(h:Hp cx st.cont vl fp G w)(hw:st.wf)(u:Value):∃I,Hp cx (st.push .dead).cont (az vl (1000+st.n) u) I G w/\(st.push .dead).wf/\(st.push .dead).n=st.n+1/\∀i,i<1000->st.cont i=.dead->(st.push .dead).cont i=.dead:=by
 have S:st.cont (1000+st.n)=.dead:=St.cJ (by simp only[St.in,not_or,not_and];omega);refine⟨az fp (1000+st.n) fun _=>False,?_,St.fx hw _,rfl,fun i hi S=>by rw[St.c8 hw,aI _ _ (by omega)];exact S⟩;rw[St.c8 hw];exact h.put (by rw[S];rfl) (F:=fun _=>False) (c:=.dead) (show Pl _ _ _ _ _ from Pl.dead) (fun _ h=>h.elim) (fun _ h=>h) (fun _ h=>h.elim) (fun _ _ h=>h)
theorem uw[Mode]{st:St}(h:Hp cx st.cont vl fp G w)(hw:st.wf){j:Nat}{v:Value}{c:D}{F:Nat->Prop}(hF:∀b,F b->G b)
  (hc:aN w (ak cx fp G w) (ai w ((st.kill (aX j)).cont) vl) v F c) (hrefs:c.refs (cH j)) (Y:c.isObj=false->∀b,¬F b) :
  ∃ab G',Hp cx ((st.kill (aX j)).put j c).cont (az vl j v) ab G' w/\((st.kill (aX j)).put j c).wf/\((st.kill (aX j)).put j c).n=st.n/\∀i,i≠j->st.cont i=.dead->((st.kill (aX j)).put j c).cont i=.dead:=by
 have h1:=h.kill (aX j);rw[<-St.cW] at h1;have S:=St.gG hw (aX j);have W:=h1.drop j (fun i=>by rw[St.cW];exact de (fun d hd=>by cases d<;>simp_all[aX,cH]) (jk (aX j) (st.cont i))) v
 have aK:∀b,ak cx fp G w b->ak cx (az fp j fun _=>False) (fun b=>G b\/fp j b) w b:=by
  rintro b ⟨h1,W,h3⟩;refine⟨h1,fun hg=>hg.elim W (h3 j),fun i hi=>?_⟩;by_cases Z:i=j
  ·subst Z;rw[bc] at hi;exact hi
  ·rw[aI _ _ Z] at hi;exact h3 i hi
 have ev:∀(x y:Value),az (az vl j x) j y=az vl j y:=fun x y=>by funext i;simp only[az];split<;>rfl
 by_cases hin:(st.kill (aX j)).in j
 ·have I:=W.put (k:=j) (v:=v) (c:=c) (F:=F) (G':=fun _=>False) (by rw[bc];rfl)
   (hc.mono (Q:=cH j) aK (fun _ _=>rfl) (fun _ _=>rfl) (fun _ h=>h) hrefs fun v' d hq hr=>hr.bZ (de (fun q hq=>by
     cases q<;>try trivial
     all_goals
      intro hp;simp only[aI _ _ (show _≠j from hq)]
      exact⟨hp,trivial⟩) hq))
   (fun b hb=>.inl (hF b hb)) (fun _ h=>h.elim) (fun _ _ h=>h) Y
  rw[ev] at I
  have V:az (az ((st.kill (aX j)).cont) j .dead) j c=((st.kill (aX j)).put j c).cont:=by
   rw[St.dR S hin];funext i;simp only[az];split<;>rfl
  rw[V] at I;exact⟨_,_,I,St.fb S _ _,by rw[St.fW];rfl,fun i hi hd=>by rw[<-V,aI _ _ hi,aI _ _ hi];exact St.jj _ hd⟩
 ·have V:az ((st.kill (aX j)).cont) j .dead=((st.kill (aX j)).put j c).cont:=by
   rw[St.re hin];funext i;simp only[az];split
   ·subst_vars;exact(St.cJ hin).symm
   ·rfl
  rw[V] at W;exact⟨_,_,W,St.fb S _ _,by rw[St.fW];rfl,fun i hi hd=>by rw[<-V,aI _ _ hi];exact St.jj _ hd⟩
theorem yv{v:Value}{d:D}{F:Nat->Prop}(h:aq w A v d F)(Q:D->Prop):(aV d).refs Q:=by
 cases h with
 | fn=>exact trivial
 | @vw v d F h =>
  have:=h.zV Q;cases d<;>first | trivial | exact this
 | _=>trivial
theorem ES[Mode]{j:Nat}{x:D}{K:St->Prop}{st:St}(hK:nN j x K st)(h:Hp cx st.cont vl fp G w)(hw:st.wf)(_:j<1000){v:Value}(hv:Pl w (ak cx fp G w) (ai w st.cont vl) v x)(u:Value) :
  ∃st' S G',K st'/\Hp cx st'.cont (az (az vl j v) (1000+st.n) u) S G' w/\st'.wf/\st'.n=st.n+1/\∀i,i≠j->i<1000->st.cont i=.dead->st'.cont i=.dead:=by
 unfold nN at hK;obtain⟨y,st1,V,G1,F,h1,I,h3,h4,-,-⟩:=uZ x hK h hw (fun _ h=>h) hv;obtain⟨c1,c2⟩:=nV (R:=ai w ((st1.kill (aX j)).cont) vl) h3;have W:(aV y).refs (cH j):=yv h3 _
 have key:∃F',(∀b,F' b->G1 b)/\aN w (ak cx V G1 w) (ai w ((st1.kill (aX j)).cont) vl) v F' (aV y)/\((aV y).isObj=false->∀b,¬F' b):=by
  by_cases ho:(aV y).isObj=true
  ·exact⟨F,fun b hb=>(I.hF b hb).1,c1,fun hh=>by rw[ho] at hh;cases hh⟩
  ·exact⟨fun _=>False,fun _ h=>h.elim,c2 (by simpa using ho),fun _ _ h=>h⟩
 obtain⟨F',k1,k2,k3⟩:=key;obtain⟨ad,G2,k4,k5,k6,Z⟩:=uw I.hp I.wf k1 k2 W k3;obtain⟨ag,k7,k8,k9,ab⟩:=sf k4 k5 u;rw[k6,I.n] at k7 k9;exact⟨_,_,_,h1,k7,k8,k9,fun i Y hi hd=>ab i hi (Z i Y (I.dd i hd))⟩
theorem OP[Mode]{j:Nat}{x:D}{K:St->Prop}{st:St}(S:mo j x K st)(h:Hp cx st.cont vl fp G w)(hw:st.wf)(hj:j<1000){v:Value}(hv:Pl w (ak cx fp G w) (ai w st.cont vl) v x)(u:Value) :
  ∃st' V G',K st'/\Hp cx st'.cont (az (az vl j v) (1000+st.n) u) V G' w/\st'.wf/\st'.n=st.n+1/\∀i,i≠j->i<1000->st.cont i=.dead->st'.cont i=.dead:=by
 unfold mo at S;split at S
 case h_2=>exact ES S h hw hj hv u
 case h_1 k q =>
 obtain⟨y,st1,W,G1,F,h1,I,h3,-⟩:=MX S.1 S.2 h hw (gy hv);obtain⟨c1,c2⟩:=nV (R:=ai w ((st1.kill (aX j)).cont) vl) h3;have Y:(aV y).refs (cH j):=yv h3 _
 have key:∃F',(∀b,F' b->G1 b)/\aN w (ak cx W G1 w) (ai w ((st1.kill (aX j)).cont) vl) v F' (aV y)/\((aV y).isObj=false->∀b,¬F' b):=by
  by_cases ho:(aV y).isObj=true
  ·exact⟨F,fun b hb=>(I.hF b hb).1,c1,fun hh=>by rw[ho] at hh;cases hh⟩
  ·exact⟨fun _=>False,fun _ h=>h.elim,c2 (by simpa using ho),fun _ _ h=>h⟩
 obtain⟨F',k1,k2,k3⟩:=key;obtain⟨ag,G2,k4,k5,k6,ab⟩:=uw I.hp I.wf k1 k2 Y k3;obtain⟨ao,k7,k8,k9,ad⟩:=sf k4 k5 u;rw[k6,I.n] at k7 k9;exact⟨_,_,_,h1,k7,k8,k9,fun i Z hi hd=>ad i hi (ab i Z (I.dd i hd))⟩
theorem OO[Mode]{j:Nat}{x:D}{K:St->Prop}{st:St}(hK:qU j x K st)(h:Hp cx st.cont vl fp G w)(hw:st.wf){v:Value}(hv:Pl w (ak cx fp G w) (ai w st.cont vl) v x)(u:Value) :
  ∃st' I G',K st'/\Hp cx st'.cont (az (az vl j v) (1000+st.n) u) I G' w/\st'.wf/\st'.n=st.n+1/\∀i,i≠j->i<1000->st.cont i=.dead->st'.cont i=.dead:=by
 obtain⟨h1,h2,h3⟩:=hK
 have hc:aN w (ak cx fp G w) (ai w ((st.kill (aX j)).cont) vl) v (fun _=>False) x/\x.isObj=false:=by
  have hp:Pl w (ak cx fp G w) (ai w ((st.kill (aX j)).cont) vl) v x:=hv.bZ (fun _ h=>h) (fun _ _=>rfl) (by rw[St.cW];exact bw (fun q=>od st.cont _ q) _);cases x<;>first | exact⟨hp,rfl⟩ | cases h2
 obtain⟨ab,G2,k4,k5,k6,V⟩:=uw h hw (fun _ h=>h.elim) hc.1 h1 (fun _ _ h=>h);obtain⟨ad,Y,k8,Z,W⟩:=sf k4 k5 u;rw[k6] at Y Z;exact⟨_,_,_,h3,Y,k8,Z,fun i S hi hd=>W i hi (V i S hd)⟩
theorem aaF[Mode]{k:Nat}{p:Path}{x:D}{K:St->Prop}{st:St}(hK:qJ k p x K st)(h:Hp cx st.cont vl fp G w)(hw:st.wf){va W:Value}(ha:Pl w (ak cx fp G w) (ai w st.cont vl) va (.aG k p))(hx:Pl w (ak cx fp G w) (ai w st.cont vl) W x)(u:Value) :
  ∃b o,va=.pointer (some ⟨b,o,none⟩)/\W.cells.size=1/\(∀i,i<1->(w.cell? ⟨b,o+i,none⟩).isSome=true/\w.frozen? ⟨b,o+i,none⟩=false)/\(∀v∈W.cells.toList,v.oneCell'=true) /\
   ∃st' a7 G',K st'/\Hp cx st'.cont (az vl (1000+st.n) u) a7 G' (w.setCells b o W.cells.toList)/\st'.wf/\st'.n=st.n+1/\∀i,i<1000->st.cont i=.dead->st'.cont i=.dead:=by
 unfold qJ at hK;split at hK
 case h_2=>exact hK.elim
 rename_i j q;obtain⟨hz,b0,hK⟩:=hK;obtain⟨y,st1,b5,G1,F,⟨h1,a8⟩,Y,h4,h6⟩:=MX hz hK h hw (gy hx);have b1:ai w st.cont vl va (.aG k p):=gy ha;have b2:ai w st1.cont vl va (.aG k p):=b1.bZ (h6 _ (.inl (.inl (Ne.symm b0))));have b3:ai w (st1.kill (bB k p)).cont vl va (.aG k p):=by rw[St.cW];exact b2.bZ (od _ _ _)
 have hh:=Y.hp.kill (bB k p);rw[<-St.cW] at hh;have ab:=St.gG Y.wf (bB k p);obtain⟨I,ad,Z,rfl⟩:=b3;have a1:p≠[]:=by rintro rfl;simp[aJ] at Z
 have V:ad.spot=none:=by
  obtain⟨_,_,_,_,_,_,_,_,_,g7⟩:=(hh.ok k).splitAt I a1;exact(g7 _ Z).2.1
 obtain⟨b,o,sp⟩:=ad;simp only at V;subst V;obtain⟨_,ax,_,ag⟩:=gy hx;have ao:W.cells=#[W]:=by subst ag;rfl
 have bg:W.cells.toList=[W]:=by rw[ao]
 have a6:W.oneCell'=true:=by subst ag;rfl
 rw[bg]
 obtain⟨b9,G2,r1,r2,r3⟩:=BL a1 (b:=b) [y] [W] 0 o (fun i c=>i=0/\F c) hh (fun i=>by
   rw[St.cW]
   exact(jk (bB k p) (st1.cont i))) h1 rfl
  (fun i z hy=>by
    cases i with
    | zero =>
     simp only[List.getElem?_cons_zero,Option.some.injEq] at hy;subst hy;exact⟨h4.mono (fun _ h=>h) (fun _ _=>rfl) (fun _ _=>rfl) fun _ h=>⟨rfl,h⟩,fun _=>a6⟩
    | succ i=>simp at hy)
  (fun i c hc=>(Y.hF c hc.2).1) (fun i i' c bF h1 Y=>bF (by rw[h1.1,Y.1])) (fun i hi=>by rw[Nat.zero_add];exact qR p Z)
 have S:(st1.kill (bB k p)).in k:=by
  by_cases S:(st1.kill (bB k p)).in k
  ·exact S
  ·rw[St.cJ S] at I;exact I.elim
 rw[<-St.dR ab S] at r1;obtain⟨cc,k7,k8,k9,b4⟩:=sf r1 (St.fb ab _ _) u;have hn:((st1.kill (bB k p)).put k (df ((st1.kill (bB k p)).cont k) p 0 [y])).n=st.n:=by rw[St.fW];exact Y.n
 rw[hn] at k7 k9;refine⟨b,o,rfl,by rw[ao];rfl,fun i hi=>r2 i hi,r3,_,_,_,a8,k7,k8,k9,fun i hi hd=>b4 i hi ?_⟩;have bT:i≠k:=by rintro rfl;rw[St.jj _ (Y.dd _ hd)] at I;exact I.elim
 rw[St.dR ab S,aI _ _ bT];exact St.jj _ (Y.dd i hd)
theorem MQ[Mode]{n:Nat}{a x:D}{K:St->Prop}{st:St}(S:lq n a x K st)(h:Hp cx st.cont vl fp G w)(hw:st.wf){va Z:Value}(ha:Pl w (ak cx fp G w) (ai w st.cont vl) va a)(hx:Pl w (ak cx fp G w) (ai w st.cont vl) Z x)(u:Value) :
  ∃b o,va=.pointer (some ⟨b,o,none⟩)/\Z.cells.size=n/\(∀i,i<n->(w.cell? ⟨b,o+i,none⟩).isSome=true/\w.frozen? ⟨b,o+i,none⟩=false)/\(∀v∈Z.cells.toList,v.oneCell'=true) /\
   ∃st' bg G',K st'/\Hp cx st'.cont (az vl (1000+st.n) u) bg G' (w.setCells b o Z.cells.toList)/\st'.wf/\st'.n=st.n+1/\∀i,i<1000->st.cont i=.dead->st'.cont i=.dead:=by
 unfold lq at S;split at S
 case h_2=>exact S.elim
 rename_i k p;unfold nB at S;split at S
 ·obtain⟨rfl,S⟩:=S
  exact aaF S h hw ha hx u
 cases hl:x.cellsOf with
 | none=>rw[hl] at S;exact S.elim
 | some l =>
 rw[hl] at S;obtain⟨b2,ax,S⟩:=S;obtain⟨a6,ag⟩:=nF hx hl;obtain⟨l',st1,cc,G1,Fs,⟨h1,bF⟩,h2,h3,h4,h5,h6⟩:=ko l S h hw (fun _ h=>h) ag;have b3:ai w st.cont vl va (.aG k p):=gy ha;have ao:∀q,cu (fun s=>lX s q) l->cX w w st.cont st1.cont vl vl q:=h6
 have Y:cu (fun s=>lX s (.aG k p)) l:=bG.2 fun s hs=>de (fun d hd=>by
  cases d<;>try trivial
  rename_i j q;by_cases a7:k=j
  ·subst a7
   rcases hd with hd | ⟨bT,b0⟩
   ·exact absurd rfl hd
   ·exact .inr ⟨bT,by simp only[bP,b0,Bool.and_false]⟩
  ·exact .inl (.inl a7)) (bG.1 ax s hs)
 have b4:ai w st1.cont vl va (.aG k p):=b3.bZ (ao _ Y);have b5:ai w (st1.kill (bB k p)).cont vl va (.aG k p):=by rw[St.cW];exact b4.bZ (od _ _ _)
 have hh:=h2.hp.kill (bB k p);rw[<-St.cW] at hh;have a1:=St.gG h2.wf (bB k p);obtain⟨I,ad,ab,rfl⟩:=b5;have a8:p≠[]:=by rintro rfl;simp[aJ] at ab
 have W:ad.spot=none:=by
  obtain⟨_,_,_,_,_,_,_,_,_,g7⟩:=(hh.ok k).splitAt I a8;exact(g7 _ ab).2.1
 obtain⟨b,o,sp⟩:=ad;simp only at W;subst W;have hlen:Z.cells.toList.length=l'.length:=by rw[h3];simpa using a6
 obtain⟨cd,G2,r1,r2,r3⟩:=BL a8 (b:=b) l' Z.cells.toList 0 o Fs hh (fun i=>by
   rw[St.cW]
   exact(jk (bB k p) (st1.cont i))) h1 hlen
  (fun i y hy=>by
    obtain⟨q1,q2,-⟩:=h4 i y hy;have e:Z.cells.toList.getD i undef=Z.cells.getD i undef:=by simp
    rw[e]
    exact⟨q1,q2⟩)
  (fun i c hc=>(h2.hF c ⟨i,hc⟩).1) h5 (fun i hi=>by rw[Nat.zero_add];exact qR p ab)
 have V:(st1.kill (bB k p)).in k:=by
  by_cases V:(st1.kill (bB k p)).in k
  ·exact V
  ·rw[St.cJ V] at I;exact I.elim
 rw[<-St.dR a1 V] at r1;obtain⟨cg,k7,k8,k9,b9⟩:=sf r1 (St.fb a1 _ _) u;have hn:((st1.kill (bB k p)).put k (df ((st1.kill (bB k p)).cont k) p 0 l')).n=st.n:=by rw[St.fW];exact h2.n
 rw[hn] at k7 k9;refine⟨b,o,rfl,by rw[a6,b2],fun i hi=>r2 i (by omega),r3,_,_,_,bF,k7,k8,k9,fun i hi hd=>b9 i hi ?_⟩;have b1:i≠k:=by rintro rfl;rw[St.jj _ (h2.dd _ hd)] at I;exact I.elim
 rw[St.dR a1 V,aI _ _ b1];exact St.jj _ (h2.dd i hd)
end
def mg(l:List D)(j:Nat):List D->List D
 | []=>l
 | y::r=>mg (l.set j y) (j+1) r
section
variable{cx:Ctx}{vl:Nat->Value}
theorem MR[Mode]{k b:Nat}:∀(ys:List D)(vs:List Value)(j o:Nat){ct:Nat->D}{l:List D}{fp:Nat->Nat->Prop}{G:Nat->Prop}{w:World},Hp cx ct vl fp G w->ct k=.box l->j+ys.length<=l.length ->
  (∀i,(ct i).refs fun d=>bB k [(0,0)] d=false)->vs.length=ys.length ->
  (∀(i:Nat)(y:D),ys[i]?=some y->ca w (ak cx fp G w) (ai w ct vl) (vs.getD i undef) (fun _=>False) y/\(vs.getD i undef).oneCell'=true/\y.refs fun d=>bB k [(0,0)] d=false) ->
  (∀i,i<ys.length->aJ w (vl k) (ct k) [(0,j+i)]=some ⟨b,o+i,none⟩) ->
  ∃Z G',Hp cx (az ct k (.box (mg l j ys))) vl Z G' (w.setCells b o vs)/\(∀i,i<ys.length->(w.cell? ⟨b,o+i,none⟩).isSome=true/\w.frozen? ⟨b,o+i,none⟩=false)/\(∀v∈vs,v.oneCell'=true)
 | [],vs,j,o,ct,l,fp,G,w,h,S,_,_,hl,_,_=>by
  have:vs=[]:=List.length_eq_zero_iff.1 hl;subst this;have e:az ct k (.box (mg l j []))=ct:=by funext i;simp only[az,mg];split<;>simp_all
  rw[e];exact⟨fp,G,h,fun i hi=>by simp at hi,fun v hv=>by cases hv⟩
 | y::r,[],j,o,ct,l,fp,G,w,_,_,_,_,hl,_,_=>by simp at hl
 | y::r,v::vs,j,o,ct,l,fp,G,w,h,S,bg,hrefs,hl,W,hadr=>by
  simp only[List.length_cons] at bg;have ha:=hadr 0 (by simp);rw[Nat.add_zero,Nat.add_zero] at ha;obtain⟨I,h1,a6⟩:=W 0 y rfl;have I:ca w (ak cx fp G w) (ai w ct vl) v (fun _=>False) y:=I;have h1:v.oneCell'=true:=h1;have bF:bD (ct k) [(0,j)]=true:=by rw[S];rfl
  have hc:(ct k).aZ [(0,j)]:=by
   rw[S];exact⟨rfl,by omega,trivial⟩
  have hq:bB k [(0,j)]=bB k [(0,0)]:=IZ (by rfl) k
  have ad:gh w (ak cx fp G w) (ai w ct vl) v (fun _=>False) (bD (ct k) [(0,j)]) y:=by
   unfold gh;rw[bF];exact I
  have ax:fJ (ct k) [(0,j)] y:=by
   rw[S];trivial
  obtain⟨⟨u,hu⟩,a8,_,aK,ab⟩:=h.store hc (by simp) ha (G':=G) ad ax (by rw[hq];exact hrefs) (fun _=>by rw[hq];exact a6) (fun _ h=>h.elim) (fun _ h=>h) (fun _ h1 _=>h1)
  have Y:(ct k).setAt [(0,j)] y=.box (l.set j y):=by
   rw[S];rfl
  rw[Y] at aK ab;rw[hq] at ab
  have a7:fp k b:=by
   obtain⟨_,F1,F2,_,_,_,g4,_,_,g7⟩:=(h.ok k).splitAt hc (by simp);exact g4 _ (g7 _ ha).1
  have a1:∀c,c≠b->(w.setCell ⟨b,o,none⟩ v).heap[c]?=w.heap[c]?:=fun c hc=>Bw v hc
  have ag:∀c,ak cx fp G w c->ak cx (az fp k fun c=>fp k c\/False) G (w.setCell ⟨b,o,none⟩ v) c:=by
   rintro c ⟨k1,k2,k3⟩;refine⟨by simpa using k1,k2,fun i hi=>?_⟩;by_cases V:i=k
   ·subst V;rw[bc] at hi;exact hi.elim (k3 _) id
   ·rw[aI _ _ V] at hi;exact k3 i hi
  obtain⟨Z,G',r1,r2,r3⟩:=MR r vs (j+1) (o+1) aK (bc _ _ _) (by rw[List.length_set];omega)
   (fun i=>by
     by_cases V:i=k
     ·subst V
      rw[bc,<-Y];have:=ux (h.ok i) hc (by simp) (hrefs i) fun _=>a6
      exact this
     ·rw[aI _ _ V];exact hrefs i) (by simpa using hl)
   (fun i y0 bT=>by
     obtain⟨q1,q2,q3⟩:=W (i+1) y0 (by simpa using bT);have q1:ca w (ak cx fp G w) (ai w ct vl) (vs.getD i undef) (fun _=>False) y0:=by simpa using q1
     have q2:(vs.getD i undef).oneCell'=true:=by simpa using q2
     exact⟨q1.mono (Q:=fun d=>bB k [(0,0)] d=false) ag (fun c hc=>a1 c (by rintro rfl;exact hc.2.2 k a7)) (fun _ h=>h.elim) (fun _ h=>h) q3 fun v' d hd hr=>hr.bZ (de ab hd),q2,q3⟩)
   (fun i hi=>by
     have q1:=hadr (i+1) (by simpa using hi);rw[show j+(i+1)=j+1+i by omega,show o+(i+1)=o+1+i by omega] at q1;rw[bc];rw[S] at q1
     exact q1)
  have e:az (az ct k (.box (l.set j y))) k (.box (mg (l.set j y) (j+1) r))=az ct k (.box (mg l j (y::r))):=by
   funext i;simp only[az,mg];split<;>rfl
  rw[e] at r1;refine⟨Z,G',r1,fun i hi=>?_,fun v' ao=>?_⟩
  ·cases i with
   | zero=>rw[Nat.add_zero];exact⟨by rw[hu];rfl,a8⟩
   | succ i =>
    obtain⟨s1,s2⟩:=r2 i (by simpa using hi);rw[show o+1+i=o+(i+1) by omega] at s1 s2;have e1:=World.cell?_setCells_out b [v] o w ⟨b,o+(i+1),none⟩ (fun _ _=>by right;simp);have e2:=World.frozen?_setCells b [v] o w ⟨b,o+(i+1),none⟩;simp only[World.setCells] at e1 e2;rw[e1] at s1;rw[e2] at s2;exact⟨s1,s2⟩
  ·rcases List.mem_cons.1 ao with rfl | ao
   ·exact h1
   ·exact r3 v' ao
theorem JV:∀{l:List D}{i:Nat}{y:D},qy l=true->l[i]?=some y->y.iC=true
 | [],i,y,_,h=>by simp at h
 | x::r,0,y,I,h=>by
  simp only[qy,Bool.and_eq_true] at I;simp only[List.getElem?_cons_zero,Option.some.injEq] at h;rw[<-h];exact I.1
 | x::r,i+1,y,I,h=>by
  simp only[qy,Bool.and_eq_true] at I;exact JV I.2 (by simpa using h)
theorem I8{Q:D->Prop}:∀{l:List D}{i:Nat}{y:D},cu Q l->l[i]?=some y->y.refs Q
 | [],i,y,_,h=>by simp at h
 | x::r,0,y,I,h=>by
  simp only[List.getElem?_cons_zero,Option.some.injEq] at h;rw[<-h];exact I.1
 | x::r,i+1,y,I,h=>I8 (l:=r) (i:=i) I.2 (by simpa using h)
theorem Zs{ct:Nat->D}{A:Nat->Prop}{w:World}{v:Value}{y:D}(h:Pl w A (ai w ct vl) v y)(I:y.iC=true):ca w A (ai w ct vl) v (fun _=>False) y/\(y.isObj=false->True):=by
 cases y<;>first | (cases I;done) | exact⟨h,fun _=>trivial⟩
theorem Zt[Mode]{cx:Ctx}{ct:Nat->D}{fp:Nat->Nat->Prop}{G:Nat->Prop}{A:Nat->Prop}{w:World}{v:Value}{y:D}(_:Hp cx ct vl fp G w)(h:Pl w A (ai w ct vl) v y)(I:y.iC=true):v.oneCell'=true:=by
 cases y<;>try(cases I;done)
 case int=>obtain⟨rfl,_⟩:=eY h;rfl
 case bool=>have:=pl_bool h;subst this;rfl
 case str=>obtain⟨rfl,_⟩:=iy h;rfl
 case slice=>have:=qi h;cases this<;>rfl
 case ptr=>obtain⟨_,_,rfl,_⟩:=rZ h;rfl
 case sub=>obtain⟨_,_,⟨_,_,_,rfl⟩ | ⟨_,rfl⟩ | ⟨_,rfl⟩⟩:=eD h<;>rfl
 case aG=>obtain⟨_,a,_,rfl⟩:=gy h;rfl
 case bd=>have:=b8 h (by simp) (by simp) (by simp) (by simp) (by simp);cases this;rfl
 case aH=>have:=b8 h (by simp) (by simp) (by simp) (by simp) (by simp);cases this;rfl
theorem My:∀{ys l:List D}{j i:Nat},(mg l j ys)[i]?=if j<=i/\i<j+ys.length/\i<l.length then ys[i-j]? else l[i]?
 | [],l,j,i=>by rw[if_neg (by simp;omega)];rfl
 | y::r,l,j,i=>by
  rw[mg,My,List.length_set];by_cases hi:j+1<=i/\i<j+1+r.length/\i<l.length
  ·rw[if_pos hi,if_pos (by simp only[List.length_cons];omega),show i-j=i-(j+1)+1 by omega,List.getElem?_cons_succ]
  ·rw[if_neg hi,List.getElem?_set]
   by_cases I:j=i
   ·subst I
    by_cases hl:j<l.length
    ·rw[if_pos rfl,if_pos hl,if_pos (by simp only[List.length_cons];omega),Nat.sub_self];rfl
    ·rw[if_pos rfl,if_neg hl,if_neg (by omega),List.getElem?_eq_none (by omega)]
   ·rw[if_neg I,if_neg (by simp only[List.length_cons];omega)]
theorem ZS{l ys:List D}(h:ys.length=l.length):mg l 0 ys=ys:=by
 refine List.ext_getElem? fun i=>?_
 rw[My];split
 ·rw[Nat.sub_zero]
 ·rw[List.getElem?_eq_none (by omega),List.getElem?_eq_none (by omega)]
theorem aaG[Mode]{fp:Nat->Nat->Prop}{G:Nat->Prop}{w:World}{n:Nat}{a x:D}{K:St->Prop}{st:St}(I:oX n a x K st)(h:Hp cx st.cont vl fp G w)(hw:st.wf){va Y:Value}(ha:Pl w (ak cx fp G w) (ai w st.cont vl) va a)(hx:Pl w (ak cx fp G w) (ai w st.cont vl) Y x)(u:Value) :
  ∃b o,va=.pointer (some ⟨b,o,none⟩)/\Y.cells.size=n/\(∀i,i<n->(w.cell? ⟨b,o+i,none⟩).isSome=true/\w.frozen? ⟨b,o+i,none⟩=false)/\(∀v∈Y.cells.toList,v.oneCell'=true) /\
   ∃st' a7 G',K st'/\Hp cx st'.cont (az vl (1000+st.n) u) a7 G' (w.setCells b o Y.cells.toList)/\st'.wf/\st'.n=st.n+1/\∀i,i<1000->st.cont i=.dead->st'.cont i=.dead:=by
 unfold oX at I;split at I
 case h_2=>exact I.elim
 rename_i k p;cases hz:pP p with
 | false =>
  rw[hz] at I;exact MQ (a:=.aG k p) I h hw ha hx u
 | true =>
 obtain rfl:=QY hz;rw[hz] at I;unfold sx at I;cases hb:(st.cont k).sY with
 | none=>rw[hb] at I;exact I.elim
 | some l0 =>
 rw[hb] at I;obtain⟨b9,I⟩:=I
 have ao:st.cont k=.box l0:=by
  cases hc:st.cont k<;>rw[hc] at hb<;>simp only[D.sY,reduceCtorEq,Option.some.injEq] at hb;rw[hb]
 cases hl:x.cellsOf with
 | none=>rw[hl] at I;exact I.elim
 | some l =>
 rw[hl] at I;obtain⟨bF,b2,b1,I⟩:=I;obtain⟨ax,Z⟩:=nF hx hl;have bT:ai w st.cont vl va (.aG k [(0,0)]):=gy ha;have b0:ai w (st.kill (bB k [(0,0)])).cont vl va (.aG k [(0,0)]):=by rw[St.cW];exact bT.bZ (od _ _ _)
 have hh:=h.kill (bB k [(0,0)]);rw[<-St.cW] at hh;have ab:=St.gG hw (bB k [(0,0)]);obtain⟨S,ad,ag,rfl⟩:=b0
 have W:ad.spot=none:=by
  obtain⟨_,_,_,_,_,_,_,_,_,g7⟩:=(hh.ok k).splitAt S (by simp);exact(g7 _ ag).2.1
 obtain⟨b,o,sp⟩:=ad;simp only at W;subst W;have hlen:Y.cells.toList.length=l.length:=by simpa using ax
 have a8:(st.kill (bB k [(0,0)])).cont k=.box (ey (bB k [(0,0)]) l0):=by rw[St.cW];show D.kill _ (st.cont k)=_;rw[ao];rfl
 obtain⟨b4,G2,r1,r2,r3⟩:=MR l Y.cells.toList 0 o hh a8 (by rw[mX];omega) (fun i=>by
   rw[St.cW]
   exact(jk (bB k [(0,0)]) (st.cont i))) hlen
  (fun i y hy=>by
    have e:Y.cells.toList.getD i undef=Y.cells.getD i undef:=by simp
    rw[e];have a1:=Z i y hy;have a6:=JV b2 hy;refine⟨?_,Zt h a1 a6,I8 b1 hy⟩
    exact(Zs a1 a6).1.mono (Q:=fun _=>True) (fun _ h=>h) (fun _ _=>rfl) (fun _ _=>rfl) (fun _ h=>h) (bw (fun _=>trivial) _) fun v' d _ hr=>hr.bZ (bw (fun q=>by rw[St.cW];exact od _ _ _) _))
  (fun i hi=>by
    have:=qR (n:=i) [(0,0)] ag
    exact this)
 rw[ZS (by rw[mX];omega)] at r1
 have V:(st.kill (bB k [(0,0)])).in k:=by
  by_cases V:(st.kill (bB k [(0,0)])).in k
  ·exact V
  ·rw[St.cJ V] at S;exact S.elim
 rw[<-St.dR ab V] at r1;obtain⟨b5,k7,k8,k9,b3⟩:=sf r1 (St.fb ab _ _) u;have hn:((st.kill (bB k [(0,0)])).put k (.box l)).n=st.n:=by rw[St.fW];rfl
 rw[hn] at k7 k9;refine⟨b,o,rfl,by rw[ax,bF],fun i hi=>r2 i (by omega),r3,_,_,_,I,k7,k8,k9,fun i hi hd=>b3 i hi ?_⟩;have bg:i≠k:=by rintro rfl;rw[St.jj _ hd] at S;exact S.elim
 rw[St.dR ab V,aI _ _ bg];exact St.jj _ hd
end
end Go.D3
namespace Go.D3
open Go
theorem O8{L M:List D}{sz j:Nat}(S : 0<sz):cellAt (L++M) sz j=if j<L.length*sz then cellAt L sz j else cellAt M sz (j-L.length*sz):=by
 unfold cellAt;by_cases h:j<L.length*sz
 ·rw[if_pos h,List.getElem?_append_left ((Nat.div_lt_iff_lt_mul S).2 h)]
 ·have I:L.length*sz<=j:=by omega
  have Y:L.length<=j / sz:=(Nat.le_div_iff_mul_le S).2 I;rw[if_neg h,List.getElem?_append_right Y];obtain⟨m,rfl⟩:∃m,j=L.length*sz+m:=⟨j-L.length*sz,by omega⟩;have V:(L.length*sz+m) / sz=L.length+m / sz:=by rw[Nat.mul_comm,Nat.mul_add_div S]
  have W:(L.length*sz+m) % sz=m % sz:=by rw[Nat.mul_comm,Nat.mul_add_mod]
  rw[V,W];simp
theorem Mp(b:Nat)(e:TypeId)(fz:Nat×Nat):∀(vs:List Value)(o:Nat)(cs:Array Value)(w:World),w.heap[b]?=some (.cells cs e fz)->w.setCells b o vs=w.setRow b (ib cs o vs)
 | [],o,cs,w,h=>by rw[World.setCells,ib,setRow_self w b cs e fz h]
 | v::r,o,cs,w,h=>by
  rw[World.setCells,setCell_eq_setRow w b o cs e fz v h,Mp b e fz r (o+1) (cs.setIfInBounds o v) _ (setRow_heap w b cs _ e _ h),setRow_setRow,ib]
theorem Ip{w w':World}{A:Nat->Prop}{z:D}{L M:List D}{sz b' off' cap':Nat}{V:Array Value}{e:TypeId}{fz:Nat×Nat}{ov nv:Nat->Value}(Fs G:Nat->Nat->Prop){F':Nat->Prop}
  (hold:∀j x,cellAt L sz j=some x->aq w A (ov j) x (Fs j)) (ad:∀i j c,i≠j->Fs i c->¬Fs j c)
  (ag:∀j x,cellAt M sz j=some x->aq w A (nv j) x (G j)) (Y:∀i j c,i≠j->G i c->¬G j c) (ab:∀i j c,Fs i c->¬G j c)
  (hb:w'.heap[b']?=some (.cells V e fz)) (Z:off'+cap'*sz<=V.size/\(fz.2<=fz.1\/V.size<=fz.1)) (hc:L.length+M.length<=cap') (hm:cap'<=maxLen) (hz : 0<sz) (a6:z.cells.length=sz)
  (hL:∀x∈L,x.cells.length=sz) (hM:∀x∈M,x.cells.length=sz)
  (hv:∀j,j<(L.length+M.length)*sz->V.getD (off'+j) undef=if j<L.length*sz then ov j else nv (j-L.length*sz))
  (hA:∀c,A c->w'.heap[c]?=w.heap[c]?) (I:∀c,((∃j,Fs j c)\/∃j,G j c)->w'.heap[c]?=w.heap[c]?/\c≠b'/\F' c) (ao:F' b') :
  aq w' A (.slice (some ⟨b',off',none⟩) (L.length+M.length) cap') (.slice z (L++M)) F':=by
 have ax:∀x∈L++M,x.cells.length=sz:=fun x W=>(List.mem_append.1 W).elim (hL x) (hM x)
 have key:aq w' A (.slice (some ⟨b',off',none⟩) (L++M).length cap') (.slice z (L++M)) F':=by
  refine .slice (sz:=sz) (fun j c=>if j<L.length*sz then Fs j c else G (j-L.length*sz) c) hb Z (by simpa using hc) hm hz a6 ax (fun j x W=>?_) ao (fun j c S=>?_) (fun i j c a1 hi S=>?_)
  ·have S:=mB hz W
   rw[List.length_append] at S;rw[O8 hz] at W;rw[hv j S];by_cases h1:j<L.length*sz
   ·simp only[h1,if_true] at W|-
    exact(hold j x W).mono (fun _ h=>h) hA (fun c hc=>(I c (.inl ⟨j,hc⟩)).1) fun _ h=>h
   ·simp only[h1,if_false] at W|-
    exact(ag _ x W).mono (fun _ h=>h) hA (fun c hc=>(I c (.inr ⟨_,hc⟩)).1) fun _ h=>h
  ·split at S
   ·exact(I c (.inl ⟨j,S⟩)).2
   ·exact(I c (.inr ⟨_,S⟩)).2
  ·split at hi<;>split at S
   ·exact ad i j c a1 hi S
   ·exact ab i _ c hi S
   ·exact ab j _ c S hi
   ·exact Y _ _ c (by omega) hi S
 rw[List.length_append] at key;exact key
section
variable{P:Program}{w:World}
theorem EE[Mode]{t ty e:TypeId}{i:TypeInfo}{zv:Value}(ht:P.underlying t=some (.slice e))(hi:P.info? e=some i)(hz:i.zero=some zv)(cq:zv.cells.size=i.size)(b5 : 0<i.size)(cd : 0<i.bytes)
  {A:Nat->Prop} {v:Value} {z:D} {L M:List D} {F:Nat->Prop} (b3:aq w A v (.slice z L) F) (a8:z.cells.length=i.size) (hM:∀x∈M,x.cells.length=i.size)
  {x:Value} {news:List Value} (hs:Src P i.size t x M.length news w) (G:Nat->Nat->Prop) (hA:∀c,A c->c<w.heap.size/\¬F c) (V:∀c,F c->c<w.heap.size) (ad:∀j c,G j c->c<w.heap.size)
  (ax:∀j d,cellAt M i.size j=some d->aq w A (news.getD j undef) d (G j)) (ab:∀i j c,i≠j->G i c->¬G j c) (a6:∀j c,F c->¬G j c)
  (ao:(L.length+M.length)*i.bytes<=140737488355328) :
  ∃v' w' F',(Builtin.append_ #[t,t] ty #[v,x]).run P w=.ok v' w'/\aq w' A v' (.slice z (L++M)) F'/\w.heap.size<=w'.heap.size/\(∀b,b<w.heap.size->¬F b->w'.heap[b]?=w.heap[b]?) /\
   w'.os=w.os/\w'.tape=w.tape/\c6 w w'/\∀b,F' b->b<w'.heap.size/\(F b\/(∃j,G j b)\/w.heap.size<=b):=by
 have cr:L.length+M.length<=140737488355328:=by
  have:(L.length+M.length)*1<=(L.length+M.length)*i.bytes:=Nat.mul_le_mul_left _ cd;omega
 have bT:∀{old:Nat},old<L.length+M.length->Builtin.nextslicecap (L.length+M.length) old*i.bytes<=281474976710656:=fun h=>growslice_fits h ao
 have grow:∀(base:Option Addr)(old:Nat)(olds:List Value)(ov:Nat->Value)(Fs:Nat->Nat->Prop),v=.slice base L.length old->old<L.length+M.length ->
   (Builtin.firstCells i.size L.length (.slice base L.length old)).run P w.drew=.ok olds.toArray w.drew->olds.length=L.length*i.size->(∀j,j<olds.length->olds.getD j undef=ov j) ->
   (∀x∈L,x.cells.length=i.size)->(∀j x,cellAt L i.size j=some x->aq w A (ov j) x (Fs j))->(∀i j c,i≠j->Fs i c->¬Fs j c)->(∀j c,Fs j c->F c) ->
   ∃v' w' F',(Builtin.append_ #[t,t] ty #[v,x]).run P w=.ok v' w'/\aq w' A v' (.slice z (L++M)) F'/\w.heap.size<=w'.heap.size/\(∀b,b<w.heap.size->¬F b->w'.heap[b]?=w.heap[b]?) /\
    w'.os=w.os/\w'.tape=w.tape/\c6 w w'/\∀b,F' b->b<w'.heap.size/\(F b\/(∃j,G j b)\/w.heap.size<=b):=by
  rintro base old olds ov Fs rfl b1 hold hlen cp bg a7 W ag;have Y:=run_append_grow_src (P:=P) w t t ty e i zv ht hi hz base L.length old olds hold x M.length news hs b1 (by omega) (bT b1);have cj:=grownCap_ge w (L.length+M.length) old e;have cg:grownCap w (L.length+M.length) old e<=maxLen:=grownCap_le_maxLen w _ old e (by simp only[maxLen];omega);have b2:=hs.newsLen
  have a1:=Ip (w:=w) (A:=A) (z:=z) (L:=L) (M:=M) (sz:=i.size) (w':=w.drew.alloc (.cells ((olds++news).toArray++Builtin.zeroCells zv.cells (grownCap w (L.length+M.length) old e-(L.length+M.length))) e)) (b':=w.heap.size) (off':=0)
   (cap':=grownCap w (L.length+M.length) old e) (e:=e) (ov:=ov) (nv:=fun j=>news.getD j undef) Fs G (F':=fun c=>c=w.heap.size\/(∃j,Fs j c)\/∃j,G j c) a7 W ax ab (fun i j c h=>a6 j c (ag i c h)) (heap_alloc_new w.drew _)
   (by
     simp only[Array.size_append,List.size_toArray,List.length_append,size_zeroCells,cq,hlen,b2,<-Nat.add_mul,Nat.zero_add]
     refine⟨Nat.mul_le_mul_right _ (by omega),.inl (Nat.le_refl _)⟩)
   cj cg b5 a8 bg hM (fun j I=>by
    rw[Nat.add_mul] at I;rw[Nat.zero_add];have h1:j<(olds++news).length:=by rw[List.length_append];omega
    have e1:((olds++news).toArray++Builtin.zeroCells zv.cells (grownCap w (L.length+M.length) old e-(L.length+M.length))).getD j undef=(olds++news).getD j undef:=by
     rw[Array.getD_eq_getD_getElem?,List.getD_eq_getElem?_getD,Array.getElem?_append_left (by simpa using h1),List.getElem?_toArray]
    rw[e1];by_cases h2:j<L.length*i.size
    ·rw[if_pos h2,<-cp j (by omega),List.getD_eq_getElem?_getD,List.getD_eq_getElem?_getD,List.getElem?_append_left (by omega)]
    ·rw[if_neg h2,List.getD_eq_getElem?_getD,List.getD_eq_getElem?_getD,List.getElem?_append_right (by omega),hlen])
   (fun c Z=>heap_alloc_old w.drew _ c (hA c Z).1)
   (fun c Z=>by
     have:c<w.heap.size:=by
      rcases Z with⟨j,I⟩ | ⟨j,I⟩
      ·exact V c (ag j c I)
      ·exact ad j c I
     exact⟨heap_alloc_old w.drew _ c this,by omega,.inr Z⟩) (.inl rfl)
  refine⟨_,_,_,Y,a1,by simp,fun b hb _=>heap_alloc_old w.drew _ b hb,rfl,rfl,.le rfl (Nat.le_succ _),fun b hb=>?_⟩;rcases hb with rfl | ⟨j,I⟩ | ⟨j,I⟩
  ·exact⟨by simp,.inr (.inr (Nat.le_refl _))⟩
  ·have:=V b (ag j b I)
   exact⟨by simp;omega,.inl (ag j b I)⟩
  ·have:=ad j b I
   exact⟨by simp;omega,.inr (.inl ⟨j,I⟩)⟩
 have nothing:∀(base:Option Addr)(n cap:Nat),v=.slice base n cap->n<=cap->M=[] ->
   (Builtin.append_ #[t,t] ty #[v,x]).run P w=.ok v w:=by
  rintro base n cap rfl hle rfl;have hn:news=[]:=List.eq_nil_of_length_eq_zero (by simpa using hs.newsLen);subst hn;exact run_append_nothing w t t ty e i ht hi base n cap hle x hs
 cases b3 with
 | nil =>
  by_cases hM0:M=[]
  ·have hr:=nothing none 0 0 rfl (Nat.le_refl _) hM0
   exact⟨_,_,fun _=>False,hr,by rw[hM0];exact .nil,Nat.le_refl _,fun _ _ _=>rfl,rfl,rfl,.of rfl rfl,fun _ h=>h.elim⟩
  ·refine grow none 0 [] (fun _=>undef) (fun _ _=>False) rfl (by cases M<;>simp_all) (run_firstCells_none w.drew i.size 0 0 0) (by simp) (by simp) (by simp) (fun j x hx=>by simp[cellAt] at hx) (fun _ _ _ _ h=>h.elim) (fun _ _ h=>h.elim)
 | @slice _ _ b off cap sz0 cs e0 fz _ Fs S hroom hcap hmaxc hz0 hzz0 hszs hr hFb hfs W =>
  have:sz0=i.size:=by rw[<-hzz0,a8]
  subst this;have bF:b<w.heap.size:=V b hFb;have b2:=hs.newsLen;have cc:L.length*i.size<=cap*i.size:=Nat.mul_le_mul_right _ hcap;by_cases hfits:L.length+M.length<=cap
  ·have b9:(L.length+M.length)*i.size<=cap*i.size:=Nat.mul_le_mul_right _ hfits
   rw[Nat.add_mul] at b9
   have Y:=run_append_room_src (P:=P) w t t ty e i ht hi b off L.length cap x M.length news hs hfits
    (fun j I=>by
      have:off+L.length*i.size+j<cs.size:=by omega
      simp[World.cell?,S,this]) (fun j I=>by simp[World.frozen?,S];omega)
   rw[Mp b e0 fz news _ cs w S] at Y;have b4:off+L.length*i.size+news.length<=cs.size:=by omega
   have a1:=Ip (w:=w) (A:=A) (z:=z) (L:=L) (M:=M) (sz:=i.size) (w':=w.setRow b (ib cs (off+L.length*i.size) news)) (b':=b) (off':=off) (cap':=cap) (e:=e0) (ov:=fun j=>cs.getD (off+j) undef) (nv:=fun j=>news.getD j undef) Fs G
    (F':=fun c=>c=b\/(∃j,Fs j c)\/∃j,G j c)
    hr W ax ab (fun i j c h=>a6 j c (hfs i c h).2) (setRow_heap w b cs _ e0 _ S) (by rw[uE];exact hroom) hfits hmaxc b5 a8 hszs hM
    (fun j I=>by
      rw[Nat.add_mul] at I;rw[uD _ _ _ _ b4];by_cases h2:j<L.length*i.size
      ·rw[if_pos h2,if_neg (by omega)]
      ·rw[if_neg h2,if_pos (by omega)]
       congr 1
       omega)
    (fun c Z=>setRow_other w b c _ (by rintro rfl;exact(hA _ Z).2 hFb))
    (fun c Z=>by
      have:c≠b:=by
       rcases Z with⟨j,I⟩ | ⟨j,I⟩
       ·exact(hfs j c I).1
       ·rintro rfl;exact a6 j c hFb I
      exact⟨setRow_other w b c _ this,this,.inr Z⟩) (.inl rfl)
   refine⟨_,_,_,Y,a1,by simp,fun c _ Z=>setRow_other w b c _ (by rintro rfl;exact Z hFb),rfl,rfl,.of rfl rfl,fun c Z=>?_⟩;rcases Z with rfl | ⟨j,I⟩ | ⟨j,I⟩
   ·exact⟨by simpa using bF,.inl hFb⟩
   ·exact⟨by simpa using V c (hfs j c I).2,.inl (hfs j c I).2⟩
   ·exact⟨by simpa using ad j c I,.inr (.inl ⟨j,I⟩)⟩
  ·have hlen:((List.range (L.length*i.size)).map fun j=>cs.getD (off+j) undef).length=L.length*i.size:=by simp
   refine grow (some ⟨b,off,none⟩) cap ((List.range (L.length*i.size)).map fun j=>cs.getD (off+j) undef) (fun j=>cs.getD (off+j) undef) Fs rfl (by omega) ?_ hlen (fun j I=>by simp at I;simp[I]) hszs hr W (fun j c h=>(hfs j c h).2);refine run_firstCells_some w.drew i.size L.length ⟨b,off,none⟩ L.length cap _ hlen fun j u I=>?_
   rw[List.getElem?_map,Option.map_eq_some_iff] at I;obtain⟨k,hk,rfl⟩:=I;obtain⟨cm,b0⟩:=List.getElem?_eq_some_iff.1 hk;simp at cm b0;subst b0;have h3:off+j<cs.size:=by omega
   have hd:w.drew.heap[b]?=some (.cells cs e0 fz):=S;simp[Addr.add_lit,World.cell?,hd,h3]
end
end Go.D3
namespace Go.D3
open Go
section
variable{P:Program}{cx:Ctx}{vl:Nat->Value}{fp:Nat->Nat->Prop}{G:Nat->Prop}{w:World}{A:Nat->Prop}
theorem Hp.zM[Mode]{ct:Nat->D}(h:Hp cx ct vl fp G w){w':World}(Z:w.heap.size<=w'.heap.size)(hw:∀b,b<w.heap.size->¬G b->w'.heap[b]?=w.heap[b]?)
  (Y:w'.os=w.os) (S:w'.tape=w.tape) (V:c6 w w'):Hp cx ct vl fp (fun b=>G b\/(w.heap.size<=b/\b<w'.heap.size)) w' where
 ok k:=by
  refine(h.ok k).mono (Q:=fun _=>True) (fun b I=>⟨⟨by have:=I.1.1;omega,I.1.2⟩,fun hg=>hg.elim I.2.1 (fun W=>by have:=I.1.1;omega),I.2.2⟩) (fun b I=>hw b I.1.1 I.2.1) (fun b I=>hw b (h.lt k b I).1 (h.cK k b I)) (fun _ h=>h) (bw (fun _=>trivial) _) fun v d _ hr=>?_
  refine hr.bZ (bw (fun d=>?_) _);cases d<;>try trivial
  case sub k p=>exact fun hp=>⟨hp,(ig (h.ok k) hp.1 fun b I=>hw b (h.lt k b I).1 (h.cK k b I)).1⟩
  case aG k p=>exact fun hp=>⟨hp,(ig (h.ok k) hp fun b I=>hw b (h.lt k b I).1 (h.cK k b I)).2⟩
 cz:=h.cz
 cK k b I hg:=hg.elim (h.cK k b I) fun W=>by have:=(h.lt k b I).1;omega
 emp:=h.emp
 lt k b I:=⟨by have:=(h.lt k b I).1;omega,(h.lt k b I).2⟩
 cY b I:=I.elim (fun hg=>⟨by have:=(h.cY b hg).1;omega,(h.cY b hg).2⟩) fun W=>⟨W.2,.inr (by have:=h.size;omega)⟩
 size:=Nat.le_trans h.size Z
 same b I hF:=by
  rw[hw b (by have:=h.size;omega) fun hg=>((h.cY b hg).2).elim hF fun W=>by omega];exact h.same b I hF
 os:=Y.trans h.os
 tape:=S.trans h.tape
 output:=V.trans h.output
theorem Xb[Mode]{st:St}(h:Hp cx st.cont vl fp G w)(W:st.wf){w':World}(ad:w.heap.size<=w'.heap.size)(hw:∀b,b<w.heap.size->¬G b->w'.heap[b]?=w.heap[b]?)
  (ab:w'.os=w.os) (S:w'.tape=w.tape) (V:c6 w w') {v:Value} {x:D} {F:Nat->Prop} (hF:∀b,F b->b<w'.heap.size/\(G b\/w.heap.size<=b)) (ho:aq w' (ak cx fp G w) v x F) :
  ∃Y G',Hp cx (st.push (.o x)).cont (az vl (1000+st.n) v) Y G' w'/\(st.push (.o x)).wf/\(st.push (.o x)).n=st.n+1/\∀i,i<1000->st.cont i=.dead->(st.push (.o x)).cont i=.dead:=by
 have Z:st.cont (1000+st.n)=.dead:=St.cJ (by simp only[St.in,not_or,not_and];omega);have h1:=h.zM ad hw ab S V;rw[St.c8 W];refine⟨_,fun _=>False,h1.put (by rw[Z];rfl) (F:=F) (c:=.o x) (show aq w' _ v x F from ho.mono (fun b I=>?_) (fun _ _=>rfl) (fun _ _=>rfl) fun _ h=>h) (fun b I=>?_) (fun _ h=>h.elim) (fun _ _ h=>h) (fun h=>by cases h),St.fx W _,rfl,fun i hi Z=>by rw[aI _ _ (by omega)];exact Z⟩
 ·exact⟨⟨by have:=I.1.1;omega,I.1.2⟩,fun hg=>hg.elim I.2.1 fun hh=>by have:=I.1.1;omega,I.2.2⟩
 ·obtain⟨q1,q2⟩:=hF b I
  exact q2.imp id fun hh=>⟨hh,q1⟩
theorem OR[Mode]{s:D}{K:D->St->Prop}{st:St}{v:Value}(S:iO s K st)(h:Hp cx st.cont vl fp G w)(hw:st.wf)(V:Pl w A (ai w st.cont vl) v s) :
  ∃y st' I G' F,K y st'/\Tk cx w vl st fp G st' I G' F/\aq w (ak cx I G' w) v y F:=by
 unfold iO at S;split at S
 ·obtain⟨x,st',I,G',F,h1,W,Y,-⟩:=xu S h hw (eD V)
  exact⟨x,st',I,G',F,h1,W,Y⟩
 ·have:=b8 V (by simp) (by simp) (by simp) (by simp) (by simp)
  cases this;exact⟨_,st,fp,G,_,S,.refl h hw,.nil⟩
 ·exact S.elim
theorem EX{y:D}{v:Value}{F:Nat->Prop}(h:aq w A v y F){m:Nat}(I:y.cA=some m):∃z L,y=.slice z L/\m=L.length:=by
 cases h<;>simp only[D.cA,reduceCtorEq,Option.some.injEq] at I
 ·exact⟨_,_,rfl,by simpa using I.symm⟩
 ·exact⟨_,_,rfl,I.symm⟩
theorem Wn{v:Value}{x:D}{F:Nat->Prop}(h:aq w A v x F)(h1:x.isAgg=false->v.oneCell'=true) :
  ∃Y:Nat->Nat->Prop,(∀(off:Nat)(d:D),x.cells[off]?=some d->aq w A (v.cells.getD off undef) d (Y off))/\(∀off c,Y off c->F c)/\(∀i j c,i≠j->Y i c->¬Y j c):=by
 by_cases ha:x.isAgg=true
 ·cases h with
  | agg Fs hs hr ab V=>exact⟨Fs,fun off d I=>hr off d I,ab,V⟩
  | _=>cases ha
 ·have S:x.isAgg=false:=by simpa using ha
  have W:=h1 S;have ag:v.cells=#[v]:=by cases v<;>first | rfl | cases W
  refine⟨fun j c=>j=0/\F c,fun off d I=>?_,fun off c Z=>Z.2,fun i j c ad hi hj=>ad (hi.1.trans hj.1.symm)⟩;rw[D.cells_one S] at I;cases off with
  | zero =>
   simp at I;subst I;rw[ag];exact h.mono (fun _ h=>h) (fun _ _=>rfl) (fun _ _=>rfl) fun c Z=>⟨rfl,Z⟩
  | succ off=>simp at I
theorem aaE{t e:TypeId}(ht:P.underlying t=some (.slice e)){v:Value}{z:D}{M:List D}(h:Rd w A v (.slice z M))(hc:∀x∈M,x.dv=true)(A':Nat->Prop) :
  ∃news,Src P 1 t v M.length news w/\∀j d,cellAt M 1 j=some d->aq w A' (news.getD j undef) d (fun _=>False):=by
 have V:∀{x:D},x.dv=true->x.cells=[x]:=fun {x} hx=>by cases x<;>first | rfl | cases hx
 have Y:∀{v:Value}{x:D},Rd w A v x->x.dv=true->aq w A' v x (fun _=>False)/\v.oneCell'=true:=by
  intro v x h hx;cases h<;>first | cases hx | skip
  ·exact⟨.int ‹_›,rfl⟩
  ·exact⟨.bool,rfl⟩
  ·exact⟨.str ‹_›,rfl⟩
 cases h with
 | nil=>exact⟨[],Src.ofNil w ht 0,fun j d W=>by simp[cellAt] at W⟩
 | @empty _ p cap hm=>exact⟨[],Src.ofSlice w ht p 0 cap [] (by simp) (fun j u S=>by simp at S) (fun u hu=>by simp at hu),fun j d W=>by simp[cellAt] at W⟩
 | @slice _ _ b off cap sz hA hcap hm hz hzz hsz vs hcells' hr =>
  have I:∀j (S:j<M.length),cellAt M sz j=some M[j]/\M[j].dv=true:=fun j S=>by
   have h2:=hc M[j] (List.getElem_mem S);have h1:=V h2
   have ad:sz=1:=by
    have:=hsz M[j] (List.getElem_mem S);rw[h1] at this;exact this.symm
   subst ad;refine⟨?_,h2⟩;unfold cellAt;rw[Nat.div_one,Nat.mod_one,List.getElem?_eq_getElem S];simp[h1]
  refine⟨(List.range M.length).map vs,Src.ofSlice w ht ⟨b,off,none⟩ M.length cap _ (by simp) (fun j u S=>?_) (fun u hu=>?_),fun j d W=>?_⟩
  ·rw[List.getElem?_map,Option.map_eq_some_iff] at S
   obtain⟨k,hk,rfl⟩:=S;obtain⟨Z,ab⟩:=List.getElem?_eq_some_iff.1 hk;simp at Z ab;subst ab;rw[Addr.add_lit];exact hcells' j _ (I j Z).1
  ·obtain⟨j,S,rfl⟩:=List.mem_map.1 hu
   simp at S;exact(Y (hr j _ (I j S).1) (I j S).2).2
  ·have S:=mB (by omega) W
   rw[Nat.mul_one] at S
   have e1:cellAt M 1 j=some M[j]:=by
    unfold cellAt;rw[Nat.div_one,Nat.mod_one,List.getElem?_eq_getElem S];simp[V (hc M[j] (List.getElem_mem S))]
   rw[e1] at W;injection W with W
   subst W;have e2:((List.range M.length).map vs).getD j undef=vs j:=by simp[S]
   rw[e2];exact(Y (hr j _ (I j S).1) (I j S).2).1
theorem H5{sz:Nat}:∀{l:List D},tU sz l->∀e∈l,e.cells.length=sz
 | [],_,e,he=>by cases he
 | x::r,h,e,he=>by
  rcases List.mem_cons.1 he with rfl | he
  ·exact h.1
  ·exact H5 h.2 e he
mutual
theorem xR:∀(d:D){K:D->St->Prop}{st:St},aF d K st->∃x st',K x st'
 | .int _ _,K,st,h=>by simp only[aF] at h;exact⟨_,_,h⟩
 | .bool _,K,st,h=>by simp only[aF] at h;exact⟨_,_,h⟩
 | .str _,K,st,h=>by simp only[aF] at h;exact⟨_,_,h⟩
 | .bd,K,st,h=>by simp only[aF] at h;exact⟨_,_,h⟩
 | .fn _ [],K,st,h=>by simp only[aF] at h;exact⟨_,_,h⟩
 | .slice _ _,K,st,h=>by simp only[aF] at h;exact⟨_,_,h⟩
 | .ptr _,K,st,h=>by simp only[aF] at h;exact⟨_,_,h⟩
 | .aH _,K,st,h=>by simp only[aF] at h;exact⟨_,_,h⟩
 | .bS,K,st,h=>by simp only[aF] at h;exact⟨_,_,h⟩
 | .bz,K,st,h=>by simp only[aF] at h;exact⟨_,_,h⟩
 | .bE _ _,K,st,h=>by simp only[aF] at h;exact⟨_,_,h⟩
 | .mp _ _,K,st,h=>by simp only[aF] at h
 | .b6 _ _,K,st,h=>by simp only[aF] at h
 | .ia _,K,st,h=>by simp only[aF] at h
 | .sb _ _ _,K,st,h=>by simp only[aF] at h
 | .sub k [],K,st,h=>by
  simp only[aF,eI] at h;cases ho:(st.cont k).jw with
  | none=>rw[ho] at h;exact h.elim
  | some x=>rw[ho] at h;exact⟨_,_,h⟩
 | .sub k (s::p),K,st,h=>by simp only[aF,eI] at h;exact⟨_,_,h⟩
 | .agg l,K,st,h=>by
  simp only[aF] at h;obtain⟨l',st',h'⟩:=Er l h;exact⟨_,_,h'⟩
 | .fn _ (_::_),K,st,h=>by simp only[aF] at h;exact⟨_,_,h.2⟩
 | .av _,K,st,h=>by simp only[aF] at h
 | .vw _,K,st,h=>by simp only[aF] at h
 | .o _,K,st,h=>by simp only[aF] at h
 | .box _,K,st,h=>by simp only[aF] at h
 | .row _ _,K,st,h=>by simp only[aF] at h
 | .aG _ _,K,st,h=>by simp only[aF] at h
 | .pre _ _ _,K,st,h=>by simp only[aF] at h
 | .when _ _,K,st,h=>by simp only[aF] at h
 | .dead,K,st,h=>by simp only[aF] at h
theorem Er:∀(l:List D){K:List D->St->Prop}{st:St},cE l K st->∃x st',K x st'
 | [],K,st,h=>by simp only[cE] at h;exact⟨_,_,h⟩
 | x::r,K,st,h=>by
  simp only[cE] at h;obtain⟨x',st',h'⟩:=xR x h.2;obtain⟨l',st'',h''⟩:=Er r h';exact⟨_,_,h''⟩
end
theorem xT:∀(l:List D){K:List D->St->Prop}{st:St},cE l K st->∀e∈l,∃I st',aF e I st'
 | [],K,st,_,e,he=>by cases he
 | x::r,K,st,h,e,he=>by
  simp only[cE] at h;rcases List.mem_cons.1 he with rfl | he
  ·exact⟨_,_,h.2⟩
  ·obtain⟨V,st',S⟩:=xR x h.2
   exact xT r S e he
theorem Pf{l:List D}{sz j:Nat}{c:D}(h:∀e∈l,∃I st',aF e I st')(S:cellAt l sz j=some c):∃I st',aF c I st':=by
 unfold cellAt at S;cases hq:l[j / sz]? with
 | none=>simp[hq] at S
 | some e =>
  rw[hq,Option.bind_some] at S;obtain⟨I,st',V⟩:=h e (List.mem_of_getElem? hq);have hm:=List.mem_of_getElem? S;cases e<;>simp only[D.cells,List.mem_singleton] at hm<;>first | (subst hm;exact⟨_,_,V⟩) | skip
  rename_i W;simp only[aF] at V;exact xT W V c hm
theorem VU{ct:Nat->D}{v:Value}{c:D}(h:Pl w A (ai w ct vl) v c)(hp:c.pc=true)(V:∃S st',aF c S st'):v.oneCell'=true:=by
 obtain⟨S,st',I⟩:=V;cases c<;>try(cases hp;done)
 case int=>obtain⟨rfl,_⟩:=eY h;rfl
 case bool=>have:=pl_bool h;subst this;rfl
 case str=>obtain⟨rfl,_⟩:=iy h;rfl
 case slice=>have:=qi h;cases this<;>rfl
 case ptr=>obtain⟨_,_,rfl,_⟩:=rZ h;rfl
 case fn=>obtain⟨_,rfl,_⟩:=oE h;rfl
 case sub=>obtain⟨_,_,⟨_,_,_,rfl⟩ | ⟨_,rfl⟩ | ⟨_,rfl⟩⟩:=eD h<;>rfl
 case aG=>simp only[aF] at I
 case dead=>simp only[aF] at I
 case bd=>have:=b8 h (by simp) (by simp) (by simp) (by simp) (by simp);cases this;rfl
 case aH=>have:=b8 h (by simp) (by simp) (by simp) (by simp) (by simp);cases this;rfl
 case mp=>simp only[aF] at I
 case b6=>simp only[aF] at I
 case ia=>simp only[aF] at I
 case sb=>simp only[aF] at I
 case bS=>have:=b8 h (by simp) (by simp) (by simp) (by simp) (by simp);cases this;rfl
 case bz=>have:=b8 h (by simp) (by simp) (by simp) (by simp) (by simp);cases this;rfl
 case bE=>have:=b8 h (by simp) (by simp) (by simp) (by simp) (by simp);cases this;rfl
theorem x9[Mode]{t ty e:TypeId}{i:TypeInfo}{zv:Value}(ht:P.underlying t=some (.slice e))(hi:P.info? e=some i)(hz:i.zero=some zv)(a1:zv.cells.size=i.size)(ax : 0<i.size)(ao : 0<i.bytes)
  {st:St} {s:D} {vs x:Value} {M:List D} {K:St->Prop} (hK:iO s (fun y st=>y.gN=i.size/\cR y.cA fun m=>(m+M.length)*i.bytes<=140737488355328/\K (st.push (.o (y.dh M)))) st)
  (h:Hp cx st.cont vl fp G w) (hw:st.wf) (hv:Pl w A (ai w st.cont vl) vs s) (hM:∀x∈M,x.cells.length=i.size) {news:List Value} (hs:Src P i.size t x M.length news w) (Gs:Nat->Nat->Prop)
  (ab:∀j d,cellAt M i.size j=some d->aq w (ak cx fp G w) (news.getD j undef) d (Gs j)) (V:∀i j c,i≠j->Gs i c->¬Gs j c) (S:∀j c,Gs j c->G c) :
  ∃v' w',(Builtin.append_ #[t,t] ty #[vs,x]).run P w=.ok v' w'/\∃st' ad G',K st'/\Hp cx st'.cont (az vl (1000+st.n) v') ad G' w'/\st'.wf/\st'.n=st.n+1/\∀i,i<1000->st.cont i=.dead->st'.cont i=.dead:=by
 obtain⟨y,st1,a6,G1,F,⟨h1,h2⟩,I,h4⟩:=OR hK h hw hv;cases hl:y.cA with
 | none=>rw[hl] at h2;exact h2.elim
 | some m =>
 rw[hl] at h2;obtain⟨Y,ag⟩:=h2;obtain⟨z,L,rfl,rfl⟩:=EX h4 hl
 obtain⟨v',w',F',r1,r2,r3,r4,r5,r6,r7,r8⟩:=EE (ty:=ty) ht hi hz a1 ax ao h4 h1 hM hs Gs (fun c Z=>⟨Z.1.1,fun W=>Z.2.1 (I.hF c W).1⟩) (fun c Z=>(I.hp.cY c (I.hF c Z).1).1) (fun j c Z=>(h.cY c (S j c Z)).1)
  (fun j d hd=>(ab j d hd).mono I.aK (fun _ _=>rfl) (fun _ _=>rfl) fun _ h=>h) V (fun j c W hg=>(I.hF c W).2 (S j c hg)) Y
 obtain⟨a7,G2,k1,k2,k3,k4⟩:=Xb I.hp I.wf r3 (fun b Y hg=>r4 b Y fun W=>hg (I.hF b W).1) r5 r6 r7 (fun b Y=>⟨(r8 b Y).1,(r8 b Y).2.elim (fun W=>.inl (I.hF b W).1) fun hh=>hh.elim (fun⟨j,hj⟩=>.inl (I.hG b (S j b hj))) .inr⟩) r2;rw[I.n] at k1 k3;exact⟨v',w',r1,_,_,_,ag,k1,k2,k3,fun i hi hd=>k4 i hi (I.dd i hd)⟩
theorem H8:∀{l:List D},oy l=true->∀x∈l,x.ix=true
 | [],_,x,I=>by cases I
 | y::r,h,x,I=>by
  simp only[oy,Bool.and_eq_true] at h;rcases List.mem_cons.1 I with rfl | I
  ·exact h.1
  ·exact H8 h.2 x I
theorem Oi[Mode]{sz bytes:Nat}{s x:D}{K:St->Prop}{st:St}(hK:pk sz bytes s x K st)(h:Hp cx st.cont vl fp G w)(hw:st.wf){vs vx:Value}(hs:Pl w (ak cx fp G w) (ai w st.cont vl) vs s)(hx:Pl w (ak cx fp G w) (ai w st.cont vl) vx x)
  {t ty e:TypeId} {i:TypeInfo} {zv:Value} (ht:P.underlying t=some (.slice e)) (hi:P.info? e=some i) (hz:i.zero=some zv) (cI:zv.cells.size=i.size) (eg:i.size=sz) (a8 : 0<sz) (ef:i.bytes=bytes) (cd : 0<bytes) :
  ∃v' w',(Builtin.append_ #[t,t] ty #[vs,vx]).run P w=.ok v' w'/\∃st' bg G',K st'/\Hp cx st'.cont (az vl (1000+st.n) v') bg G' w'/\st'.wf/\st'.n=st.n+1/\∀i,i<1000->st.cont i=.dead->st'.cont i=.dead:=by
 subst eg ef;unfold pk at hK;cases hmv:pY st x with
 | some kp =>
  rw[hmv] at hK;obtain⟨a7,hK⟩:=hK;obtain⟨k,p⟩:=kp
  have hN:x=.sub k p:=by
   unfold pY at hmv;split at hmv
   ·split at hmv<;>simp only[reduceCtorEq,Option.some.injEq,Prod.mk.injEq] at hmv
    rw[hmv.1,hmv.2]
   ·split at hmv<;>simp only[reduceCtorEq,Option.some.injEq,Prod.mk.injEq] at hmv
    rw[hmv.1,hmv.2]
   ·cases hmv
  subst hN;obtain⟨y,st1,b3,G1,F,⟨he,b5⟩,b0,bF,cp⟩:=xu hK h hw (eD hx);cases Y:y.kz with
  | none=>rw[Y] at b5;exact b5.elim
  | some M =>
  rw[Y] at b5;obtain⟨hJ,fl⟩:=b5
  have hL:Pl w (ak cx fp G w) (ai w st1.cont vl) vs s:=hs.bZ (fun _ h=>h) (fun _ _=>rfl) (by
   have h1:=AS (T:=lX) (r:=s) (D.sub k p) (show(D.sub k p).refs _ from by
    have:=Bl (show oO [s] (.sub k p) from a7);simp only[D.refs,cu] at this
    exact this.1)
   exact de (fun q I=>cp q I) h1)
  have cc:∀e∈M,e.cells.length=i.size/\oy e.cells=true:=fun e he=>by have:=hJ e he;simp only[D.wo,Bool.and_eq_true,decide_eq_true_eq] at this;exact this
  have Z:∀{v:Value}{e:D}{B:Nat->Prop}{F:Nat->Prop},aq w B v e F->e.ix=true->v.oneCell'=true:=fun ho he=>by cases ho<;>first | rfl | cases he
  have ft:∀e∈M,e.cells.length=i.size:=fun e he=>(cc e he).1
  obtain⟨news,Fs,n1,n2,n3,n4⟩:∃(news:List Value)(Fs:Nat->Nat->Prop),Src P i.size t vx M.length news w/\(∀j d,cellAt M i.size j=some d->aq w (ak cx b3 G1 w) (news.getD j undef) d (Fs j))/\(∀i j c,i≠j->Fs i c->¬Fs j c)/\∀j c,Fs j c->F c:=by
   cases bF<;>simp only[D.kz,reduceCtorEq,Option.some.injEq] at Y
   ·subst Y
    exact⟨[],fun _ _=>False,Src.ofNil w ht 0,fun j d hd=>by simp[cellAt] at hd,fun _ _ _ _ h=>h.elim,fun _ _ h=>h.elim⟩
   ·rename_i z L b off cap hQ cs e0 fz Fs cj hI eb hB e6 e7 e4 hr ec hT hv
    subst Y;have e3:hQ=i.size:=by rw[<-e7];exact he
    subst e3;have fs:L.length*i.size<=cap*i.size:=Nat.mul_le_mul_right _ eb;refine⟨(List.range (L.length*i.size)).map fun j=>cs.getD (off+j) undef,Fs,Src.ofSlice w ht ⟨b,off,none⟩ L.length cap _ (by simp) (fun j u V=>?_) (fun u hu=>?_),fun j d hd=>?_,ec,fun j c hc=>(hv j c hc).2⟩
    ·rw[List.getElem?_map,Option.map_eq_some_iff] at V
     obtain⟨q,I,rfl⟩:=V;obtain⟨ax,a6⟩:=List.getElem?_eq_some_iff.1 I;simp at ax a6;subst a6;have h3:off+j<cs.size:=by omega
     simp[Addr.add_lit,World.cell?,cj,h3]
    ·obtain⟨j,V,rfl⟩:=List.mem_map.1 hu
     simp at V;obtain⟨d,hd⟩:=Fh e6 e4 V;obtain⟨e,he,gF⟩:=Pa hd;exact Z (hr j d hd) (H8 (cc e he).2 d gF)
    ·have V:=mB e6 hd
     have e2:((List.range (L.length*i.size)).map fun j=>cs.getD (off+j) undef).getD j undef=cs.getD (off+j) undef:=by simp[V]
     rw[e2];exact hr j d hd
  refine x9 (ty:=ty) ht hi hz cI a8 cd fl b0.hp b0.wf hL ft n1 Fs n2 n3 (fun j c hc=>(b0.hF c (n4 j c hc)).1) |>.imp fun v' hh=>hh.imp fun w' hh=>⟨hh.1,by
   obtain⟨st',bg,G',a1,a2,a3,a4,a5⟩:=hh.2;rw[b0.n] at a2 a4
   exact⟨st',bg,G',a1,a2,a3,a4,fun i hi hd=>a5 i hi (b0.dd i hd)⟩⟩
 | none =>
 rw[hmv] at hK;cases ha:ve st x with
 | none=>rw[ha] at hK;exact hK.elim
 | some src =>
 rw[ha] at hK;unfold ve at ha;cases hrow:isRow st x with
 | some l =>
  rw[hrow] at ha;simp only[Option.some.injEq] at ha;subst ha;obtain⟨hl,a7,hK⟩:=hK;unfold isRow at hrow;split at hrow<;>try(cases hrow;done)
  rename_i k
  have gg:∃z0,st.cont k=.row z0 l:=by
   cases hc:st.cont k<;>rw[hc] at hrow<;>simp only[D.row?,reduceCtorEq,Option.some.injEq] at hrow;exact⟨_,by rw[hrow]⟩
  obtain⟨z0,hc⟩:=gg;obtain⟨-,e5,-⟩:=eD hx;simp only[aR,Option.some.injEq] at e5;have eF:=h.ok k;rw[hc] at eF;obtain⟨b,pa,cs,e0,q1,q2,q3,q4,q5,q6,q7,q8,q9⟩:=eF;have ab:=H5 hl
  have gn:cs.size=l.length*i.size:=by
   cases l with
   | nil=>simpa using q3
   | cons a r =>
    have e1:=q7 a (by simp);have e2:=ab a (by simp);rw[q3];congr 1;omega
  have ao:∀j c,cellAt l i.size j=some c->Pl w (ak cx fp G w) (ai w st.cont vl) (cs.getD j undef) c/\c.pc=true:=by
   intro j c V;cases l with
   | nil=>simp[cellAt] at V
   | cons a r =>
    have e1:=q7 a (by simp);have e2:=ab a (by simp);have:pa=i.size:=by omega
    subst this;exact q8 j c V
  let ev:Nat->Value:=fun q=>if(l.getD q .dead).isAgg=true then .agg (cs.extract (q*i.size) (q*i.size+i.size)) else cs.getD (q*i.size) undef
  have hn:∀(q off:Nat),q<l.length->off<i.size->(ev q).oneCell'=true\/(l.getD q .dead).isAgg=true->(ev q).cells.getD off undef=cs.getD (q*i.size+off) undef:=by
   intro q off I ho Z
   have dn:q*i.size+off<cs.size:=by
    have:(q+1)*i.size<=l.length*i.size:=Nat.mul_le_mul_right _ I;rw[Nat.add_mul] at this;omega
   by_cases W:(l.getD q .dead).isAgg=true
   ·simp only[ev,W,if_true,Value.cells]
    simp only[Array.getD_eq_getD_getElem?,Array.getElem?_extract];rw[if_pos (by omega)]
   ·have Z:=Z.resolve_right W
    have ad:(l.getD q .dead).isAgg=false:=by simpa using W
    have hlen:=ab (l.getD q .dead) (by rw[List.getD_eq_getElem?_getD,List.getElem?_eq_getElem I];exact List.getElem_mem I);rw[D.cells_one ad] at hlen;simp only[List.length_cons,List.length_nil] at hlen;have hD:off=0:=by omega
    subst hD;have hM:(ev q).cells=#[ev q]:=by revert Z;generalize ev q=u;intro Z;cases u<;>first | rfl | cases Z
    have e2:ev q=cs.getD (q*i.size) undef:=by simp only[ev,ad,Bool.false_eq_true,if_false]
    rw[hM,e2];rfl
  have b9:∀(q:Nat)(x:D),l[q]?=some x->q<l.length/\l.getD q .dead=x:=fun q x I=>⟨(List.getElem?_eq_some_iff.1 I).1,by rw[List.getD_eq_getElem?_getD,I];rfl⟩
  have dm:∀(q off:Nat)(x:D),l[q]?=some x->off<i.size->cellAt l i.size (q*i.size+off)=x.cells[off]?:=by
   intro q off x I ho;unfold cellAt;have e1:(q*i.size+off) / i.size=q:=by rw[Nat.mul_comm,Nat.mul_add_div a8,Nat.div_eq_of_lt ho];rfl
   have e2:(q*i.size+off) % i.size=off:=by rw[Nat.mul_comm,Nat.mul_add_mod,Nat.mod_eq_of_lt ho]
   rw[e1,e2,I];rfl
  have cq:=xT l hK
  have Y:∀(q:Nat)(x:D),l[q]?=some x->Pl w (ak cx fp G w) (ai w st.cont vl) ((((List.range l.length).map ev).toArray).getD q undef) x:=by
   intro q x I;obtain⟨ax,a6⟩:=b9 q x I;have e1:(((List.range l.length).map ev).toArray).getD q undef=ev q:=by simp[ax]
   rw[e1];have hP:=ab x (List.mem_of_getElem? I);have dn:(q+1)*i.size<=l.length*i.size:=Nat.mul_le_mul_right _ ax;rw[Nat.add_mul] at dn;by_cases W:x.isAgg=true
   ·have e2:ev q=.agg (cs.extract (q*i.size) (q*i.size+i.size)):=by simp only[ev,a6,W,if_true]
    rw[e2];cases x<;>simp only[D.isAgg,Bool.false_eq_true] at W;rename_i l0;have hU:l0.length=i.size:=hP;refine .agg (by simp;omega) fun off c eB=>?_
    have ho:=(List.getElem?_eq_some_iff.1 eB).1;have:=(ao (q*i.size+off) c (by rw[dm q off _ I (by omega)];exact eB)).1;simp only[Array.getD_eq_getD_getElem?,Array.getElem?_extract] at this|-
    rw[if_pos (by omega)];exact this
   ·have ad:x.isAgg=false:=by simpa using W
    have e2:ev q=cs.getD (q*i.size) undef:=by simp only[ev,a6,ad,Bool.false_eq_true,if_false]
    rw[e2];have:=(ao (q*i.size+0) x (by rw[dm q 0 _ I a8,D.cells_one ad];rfl)).1;exact this
  obtain⟨M,st1,b3,G1,Fs,k1,k2,k3,k4,k5,k6⟩:=ko l hK h hw (fun _ h=>h) Y
  have bT:Pl w (ak cx fp G w) (ai w st1.cont vl) vs s:=hs.bZ (fun _ h=>h) (fun _ _=>rfl) (by
   have h1:s.refs fun q=>cu (fun t=>lX t q) l:=by
    have:=AS (T:=lX) (r:=s) (.agg l) (de (fun d hd=>by
     have:=Bl hd;simp only[D.refs,cu] at this
     exact this.1) (show(D.agg l).refs _ from a7))
    exact this
   exact de (fun q I=>k6 q I) h1)
  have ag:∀(q:Nat)(y:D),M[q]?=some y->q<l.length/\y.cells.length=i.size/\(y.isAgg=false->(ev q).oneCell'=true)/\aq w (ak cx b3 G1 w) (ev q) y (Fs q)/\(y.isAgg=true->(l.getD q .dead).isAgg=true):=by
   intro q y I;obtain⟨r1,r2,d,r3,r4,r5⟩:=k4 q y I;obtain⟨ax,a6⟩:=b9 q d r3;have e1:(((List.range l.length).map ev).toArray).getD q undef=ev q:=by simp[ax]
   rw[e1] at r1 r2;exact⟨ax,by rw[r5];exact ab d (List.mem_of_getElem? r3),r2,r1,fun hy=>by rw[a6,<-r4];exact hy⟩
  have cr:∀q,∃Gs:Nat->Nat->Prop,∀y,M[q]?=some y->(∀(off:Nat)(d:D),y.cells[off]?=some d->aq w (ak cx b3 G1 w) ((ev q).cells.getD off undef) d (Gs off))/\(∀off c,Gs off c->Fs q c)/\(∀i j c,i≠j->Gs i c->¬Gs j c):=by
   intro q;cases I:M[q]? with
   | none=>exact⟨fun _ _=>False,fun y hy=>by cases hy⟩
   | some y =>
    obtain⟨_,_,r3,r4,_⟩:=ag q y I;obtain⟨Gs,g1,g2,g3⟩:=Wn r4 r3;exact⟨Gs,fun y' cy=>by injection cy with cy;subst cy;exact⟨g1,g2,g3⟩⟩
  obtain⟨Gq,b4⟩:=Classical.skolem.1 cr
  have eT:Src P i.size t vx M.length cs.toList w:=by
   rw[<-e5,q1,k3];refine Src.ofSlice w ht ⟨b,0,none⟩ l.length l.length cs.toList (by rw[Array.length_toList,gn]) (fun j u V=>?_) (fun u hu=>?_)
   ·rw[Addr.add_lit]
    simp only[Array.getElem?_toList] at V;simp[World.cell?,q2,V]
   ·obtain⟨j,V,rfl⟩:=List.getElem_of_mem hu
    have cm:j<cs.size:=by simpa using V
    obtain⟨c,ea⟩:=Fh a8 ab (show j<l.length*i.size by omega);obtain⟨p1,p2⟩:=ao j c ea;have e1:cs.toList[j]=cs.getD j undef:=by simp[cm]
    rw[e1];exact VU p1 p2 (Pf cq ea)
  refine x9 (ty:=ty) ht hi hz cI a8 cd k1 k2.hp k2.wf bT (fun x hx=>?_) eT (fun j c=>j / i.size<M.length/\Gq (j / i.size) (j % i.size) c) (fun j d V=>?_) (fun j j' c et V cm=>?_) (fun j c V=>?_) |>.imp fun v' hh=>hh.imp fun w' hh=>⟨hh.1,by
   obtain⟨st',bg,G',a1,a2,a3,a4,a5⟩:=hh.2;rw[k2.n] at a2 a4
   exact⟨st',bg,G',a1,a2,a3,a4,fun i hi hd=>a5 i hi (k2.dd i hd)⟩⟩
  ·obtain⟨q,I,rfl⟩:=List.getElem_of_mem hx
   exact(ag q _ (List.getElem?_eq_getElem I)).2.1
  ·unfold cellAt at V
   cases I:M[j / i.size]? with
   | none=>simp[I] at V
   | some y =>
    rw[I,Option.bind_some] at V;obtain⟨r1,r2,r3,r4,r5⟩:=ag _ _ I;obtain⟨g1,g2,g3⟩:=b4 _ y I;have ej:=Nat.mod_lt j a8;have gT:j / i.size*i.size+j % i.size=j:=by rw[Nat.mul_comm];exact Nat.div_add_mod j _
    have:=g1 _ _ V
    rw[hn _ _ r1 ej (by
     by_cases hy:y.isAgg=true
     ·exact .inr (r5 hy)
     ·exact .inl (r3 (by simpa using hy))),gT] at this
    have e1:cs.toList.getD j undef=cs.getD j undef:=by simp
    rw[e1];exact this.mono (fun _ h=>h) (fun _ _=>rfl) (fun _ _=>rfl) fun c hc=>⟨(List.getElem?_eq_some_iff.1 I).1,hc⟩
  ·obtain⟨a1,a2⟩:=V
   obtain⟨b1,b2⟩:=cm;obtain⟨_,g2,g3⟩:=b4 _ _ (List.getElem?_eq_getElem a1);obtain⟨_,e9,hS⟩:=b4 _ _ (List.getElem?_eq_getElem b1);by_cases I:j / i.size=j' / i.size
   ·rw[<-I] at b2
    refine g3 _ _ c (fun hm=>et ?_) a2 b2;have e1:=Nat.div_add_mod j i.size;have e2:=Nat.div_add_mod j' i.size;rw[<-e1,<-e2,I,hm]
   ·exact k5 _ _ c I (g2 _ c a2) (e9 _ c b2)
  ·obtain⟨a1,a2⟩:=V
   obtain⟨_,g2,_⟩:=b4 _ _ (List.getElem?_eq_getElem a1);exact(k2.hF c ⟨_,g2 _ c a2⟩).1
 | none =>
  rw[hrow] at ha;simp only at ha;cases S:qH st x with
  | none=>rw[S] at ha;cases ha
  | some M =>
  rw[S,Option.bind_some] at ha;injection ha with ha
  subst ha;obtain⟨eP,bT,-,hK⟩:=hK
  have cv:∃z,Rd w (live w) vx (.slice z M):=by
   have dk:∀{d:D},Rd w (live w) vx d->d.kz=some M->∃z,Rd w (live w) vx (.slice z M):=by
    intro d hd he;cases d<;>simp only[D.kz,reduceCtorEq,Option.some.injEq] at he
    ·subst he;exact⟨_,hd⟩
    ·subst he;cases hd;exact⟨.dead,.nil⟩
   unfold qH at S;split at S
   ·rename_i k p
    have hr:=eD hx;rw[Option.bind_eq_some_iff] at S;obtain⟨c,hc,he⟩:=S;unfold lk at hc;split at hc<;>simp only[reduceCtorEq,Option.some.injEq] at hc;subst hc;rcases o8 (h.ok k) hr with⟨z,l,cg,rfl,hW⟩ | ⟨F',bF,fj,_,_⟩ | ⟨l,cg,rfl⟩
    rotate_right
    ·rw[cg] at he;cases he
    ·rw[cg] at he;cases he
    ·exact dk (Wp (fun b hb=>hb.1.1) (fun b hb=>(h.lt k b (fj b hb)).1) bF) he
   ·have:∀(et:∀l,x≠.agg l)(hR:∀l,x≠.av l)(ha:∀k p,x≠.aG k p)(hf:∀f c,x≠.fn f c)(hV:∀k p n,x≠.pre k p n),∃z,Rd w (live w) vx (.slice z M):=fun h1 h2 h3 h4 h5 =>
     dk ((b8 hx (by intro k p hh;rename_i hC;exact hC k p hh) h3 h4 h1 h2 h5).mono (fun b hb=>hb.1.1) fun _ _=>rfl) S
    exact this (by rintro l rfl;cases S) (by rintro l rfl;cases S) (by rintro k p rfl;cases S) (by rintro f c rfl;cases S) (by rintro k p n rfl;cases S)
  obtain⟨z,hE⟩:=cv;obtain⟨news,n1,n2⟩:=aaE (P:=P) ht hE eP (ak cx fp G w);refine x9 (ty:=ty) ht hi hz cI a8 cd hK h hw hs (fun x hx=>?_) (by rw[bT];exact n1) (fun _ _=>False) (by rw[bT];exact n2) (fun _ _ _ _ h=>h.elim) (fun _ _ h=>h.elim);have:=eP x hx;rw[bT];cases x<;>first | rfl | cases this
end
end Go.D3
namespace Go.D3
open Go
section
variable{P:Program}{cx:Ctx}{vl:Nat->Value}{fp:Nat->Nat->Prop}{G:Nat->Prop}{w:World}{A:Nat->Prop}
theorem EG{ct:Nat->D}{v:Value}{c:D}(h:Pl w A (ai w ct vl) v c)(I:c.dv=true)(A':Nat->Prop):aq w A' v c (fun _=>False)/\v.oneCell'=true:=by
 cases c<;>try(cases I;done)
 case int=>obtain⟨rfl,h1⟩:=eY h;exact⟨.int h1,rfl⟩
 case bool=>have:=pl_bool h;subst this;exact⟨.bool,rfl⟩
 case str=>obtain⟨rfl,h1⟩:=iy h;exact⟨.str h1,rfl⟩
theorem Oh[Mode]{ct:Nat->D}(h:Hp cx ct vl fp G w){V ke ks:Nat}{z z0:D}{L l:List D}(W:ct V=.o (.slice z L))(b3:ct ks=.row z0 l)(hl:∀e∈l,e.dv=true)(a1:ct ke=.dead)(b5:∀k,(ct k).refs (cH V))
  {t ty e:TypeId} {i:TypeInfo} {zv:Value} (ht:P.underlying t=some (.slice e)) (hi:P.info? e=some i) (hz:i.zero=some zv) (cc:zv.cells.size=i.size) (ad:i.size=1) (bT : 0<i.bytes) (bF:(L.length+l.length)*i.bytes<=140737488355328)
  (ao:(D.slice z L).gN=i.size) :
  ∃v' w',(Builtin.append_ #[t,t] ty #[vl V,vl ks]).run P w=.ok v' w'/\∃bg G',Hp cx (az (az ct V .dead) ke (.o ((D.slice z L).dh l))) (az vl ke v') bg G' w':=by
 have S:∀{x:D},x.dv=true->x.cells=[x]:=fun {x} hx=>by cases x<;>first | rfl | cases hx
 have b2:V≠ke:=fun hh=>by rw[hh,a1] at W;cases W
 have a7:aq w (ak cx fp G w) (vl V) (.slice z L) (fp V):=by have:=h.ok V;rw[W] at this;exact this
 have h2:=h.drop V b5 (vl V);have ev:az vl V (vl V)=vl:=by funext j;simp only[az];split<;>simp_all
 rw[ev] at h2
 have aK:∀b,ak cx fp G w b->ak cx (az fp V fun _=>False) (fun b=>G b\/fp V b) w b:=by
  rintro b ⟨h1,h2,h3⟩;refine⟨h1,fun hg=>hg.elim h2 (h3 V),fun j I=>?_⟩;by_cases ax:j=V
  ·subst ax;rw[bc] at I;exact I
  ·rw[aI _ _ ax] at I;exact h3 j I
 have a6:=h.ok ks;rw[b3] at a6;obtain⟨b,pa,cs,e0,q1,q2,q3,q4,q5,q6,q7,q8,q9⟩:=a6
 have ab:l≠[]->pa=1:=fun b4=>by
  cases l with
  | nil=>exact absurd rfl b4
  | cons a r =>
   have e1:=q7 a (by simp);rw[S (hl a (by simp))] at e1;simpa using e1.symm
 have b0:cs.size=l.length:=by
  cases hll:l with
  | nil=>rw[hll] at q3;simpa using q3
  | cons a r=>rw[q3,ab (by rw[hll];simp),hll];simp
 have ag:∀j (I:j<l.length),cellAt l 1 j=some l[j]:=fun j I=>by
  unfold cellAt;rw[Nat.div_one,Nat.mod_one,List.getElem?_eq_getElem I];simp[S (hl l[j] (List.getElem_mem I))]
 have Y:∀j (I:j<l.length),Pl w (ak cx fp G w) (ai w ct vl) (cs.getD j undef) l[j]:=fun j I=>by
  have b9:=ab (by intro hh;rw[hh] at I;simp at I);subst b9;exact(q8 j _ (ag j I)).1
 have a8:Src P i.size t (vl ks) l.length cs.toList w:=by
  rw[ad,q1];refine Src.ofSlice w ht ⟨b,0,none⟩ l.length l.length cs.toList (by rw[Array.length_toList,b0,Nat.mul_one]) (fun j u I=>?_) (fun u hu=>?_)
  ·rw[Addr.add_lit]
   simp only[Array.getElem?_toList] at I;simp[World.cell?,q2,I]
  ·obtain⟨j,I,rfl⟩:=List.getElem_of_mem hu
   have b1:j<cs.size:=by simpa using I
   have e1:cs.toList[j]=cs.getD j undef:=by simp[b1]
   rw[e1];exact(EG (Y j (by omega)) (hl _ (List.getElem_mem _)) (fun _=>True)).2
 obtain⟨v',w',F',r1,r2,r3,r4,r5,r6,r7,r8⟩:=EE (ty:=ty) ht hi hz cc (by omega) bT (a7.mono aK (fun _ _=>rfl) (fun _ _=>rfl) fun _ h=>h) ao (fun x hx=>by rw[ad,S (hl x hx)];rfl) a8 (fun _ _=>False)
  (fun c hc=>⟨hc.1.1,fun Z=>hc.2.1 (.inr Z)⟩) (fun c hc=>(h.lt V c hc).1) (fun _ _ hc=>hc.elim) (fun j d hd=>by
    rw[ad] at hd;have I:j<l.length:=by have:=mB (by omega) hd;omega
    rw[ag j I] at hd;injection hd with hd
    subst hd;have e1:cs.toList.getD j undef=cs.getD j undef:=by simp
    rw[e1]
    exact(EG (Y j I) (hl _ (List.getElem_mem _)) _).1) (fun _ _ _ _ hc=>hc.elim) (fun _ _ _ hc=>hc) bF
 have h3:=h2.zM r3 (fun b W hg=>r4 b W fun Z=>hg (.inr Z)) r5 r6 r7;refine⟨v',w',r1,_,fun _=>False,h3.put (k:=ke) (by rw[aI _ _ (fun hh=>b2 hh.symm),a1];rfl) (F:=F') (c:=.o ((D.slice z L).dh l)) (show aq w' _ v' _ F' from r2.mono (fun b W=>?_) (fun _ _=>rfl) (fun _ _=>rfl) fun _ h=>h) (fun b W=>?_) (fun _ h=>h.elim) (fun _ _ h=>h) (fun h=>by cases h)⟩
 ·exact⟨⟨by have:=W.1.1;omega,W.1.2⟩,fun hg=>hg.elim W.2.1 fun hh=>by have:=W.1.1;omega,W.2.2⟩
 ·rcases(r8 b W).2 with Z | Z | Z
  ·exact .inl (.inr Z)
  ·obtain⟨_,Z⟩:=Z;exact Z.elim
  ·exact .inr ⟨Z,(r8 b W).1⟩
def uT(ct:Nat->D)(bytes b s:Nat)(c:D):Prop :=
 ∃y z0 l m,ct (1000+b)=.o y/\y.cA=some m/\y.gN=1/\ct (1000+s)=.row z0 l/\(∀e∈l,e.dv=true)/\(m+l.length)*bytes<=140737488355328/\c=.o (y.dh l)/\∀k,(ct k).refs (cH (1000+b))
theorem Mi:∀{l:List D},lh l=true->∀e∈l,e.dv=true
 | [],_,e,he=>by cases he
 | x::r,h,e,he=>by
  simp only[lh,Bool.and_eq_true] at h;rcases List.mem_cons.1 he with rfl | he
  ·exact h.1
  ·exact Mi h.2 e he
theorem HX{Q:D->Prop}:∀{l:List D}(k:Nat),cu Q l->(nth l k).refs Q
 | [],_,_=>trivial
 | _::_,0,h=>h.1
 | _::_,k+1,h=>HX k h.2
theorem yN{I:Nat}:∀{l:List D}{i:Nat}(k:Nat),td I i l->(nth l k).refs (cH I)/\(cB (i+k) (nth l k)).core.refs (cH I)
 | [],i,k,_=>⟨trivial,trivial⟩
 | x::r,i,0,h=>⟨h.1,h.2.1⟩
 | x::r,i,k+1,h=>by
  have:=yN k h.2.2;rw[show i+1+k=i+(k+1) by omega] at this;exact this
theorem EH{sz bytes b s:Nat}{K:St->Prop}{st:St}(h:yc sz bytes b s K st):sz=1/\∃c,uT st.cont bytes b s c/\(∀j,j<1000->(cB j (st.cont j)).core.refs (cH (1000+b)))/\K ((st.put (1000+b) .dead).push c):=by
 obtain⟨W,h⟩:=h;refine⟨W,?_⟩;cases hr:(st.cont (1000+s)).row? with
 | none=>rw[hr] at h;exact h.elim
 | some l =>
 rw[hr] at h;obtain⟨h1,h⟩:=h;cases ho:(st.cont (1000+b)).o? with
 | none=>rw[ho] at h;exact h.elim
 | some y =>
 rw[ho] at h;obtain⟨Y,h⟩:=h;cases S:y.cA with
 | none=>rw[S] at h;exact h.elim
 | some m =>
 rw[S] at h;obtain⟨Z,V,h5,h6⟩:=h
 obtain⟨z0,I⟩:∃z0,st.cont (1000+s)=.row z0 l:=by
  cases hc:st.cont (1000+s)<;>rw[hc] at hr<;>simp only[D.row?,reduceCtorEq,Option.some.injEq] at hr;exact⟨_,by rw[hr]⟩
 have hy:st.cont (1000+b)=.o y:=by
  cases hc:st.cont (1000+b)<;>rw[hc] at ho<;>simp only[D.o?,reduceCtorEq,Option.some.injEq] at ho;rw[ho]
 refine⟨_,⟨y,z0,l,m,hy,S,Y,I,Mi h1,Z,rfl,fun k=>?_⟩,fun j hj=>?_,h6⟩
 ·unfold St.cont
  split
  ·exact(yN k V).1
  ·split
   ·exact HX _ h5
   ·trivial
 ·unfold St.cont
  rw[if_pos hj];have:=(yN j V).2
  rwa [Nat.zero_add] at this
theorem EF[Mode]{ct:Nat->D}(h:Hp cx ct vl fp G w){bytes b s ke:Nat}{c:D}(hf:uT ct bytes b s c)(Z:ct ke=.dead)
  {t ty e:TypeId} {i:TypeInfo} {zv:Value} (ht:P.underlying t=some (.slice e)) (hi:P.info? e=some i) (hz:i.zero=some zv) (ab:zv.cells.size=i.size) (V:i.size=1) (I:i.bytes=bytes) (Y : 0<bytes) :
  ∃v' w',(Builtin.append_ #[t,t] ty #[vl (1000+b),vl (1000+s)]).run P w=.ok v' w'/\∃W G',Hp cx (az (az ct (1000+b) .dead) ke c) (az vl ke v') W G' w':=by
 subst I;obtain⟨y,z0,l,m,h1,h2,h3,h4,h5,h6,rfl,h7⟩:=hf;have S:aq w (ak cx fp G w) (vl (1000+b)) y (fp (1000+b)):=by have:=h.ok (1000+b);rw[h1] at this;exact this
 obtain⟨z,L,rfl,rfl⟩:=EX S h2;exact Oh h h1 h4 h5 Z h7 ht hi hz ab V Y h6 (by rw[h3,V])
end
end Go.D3
namespace Go.D3
open Go
section
variable{w:World}{A:Nat->Prop}{R R':Value->D->Prop}{v:Value}{F:Nat->Prop}
theorem Pl.tidy{d:D}(h:Pl w A R v d)(V:∀v d,R v d->Rd w A v d):Pl w A R' v d:=by
 induction h with
 | rd h=>exact .rd h
 | ref h=>exact .rd (V _ _ h)
 | agg I _ S=>exact .agg I S
 | av I _ S=>exact .av I S
 | fn I _ S=>exact .fn I S
theorem ca.tidy{d:D}(h:ca w A R v F d)(I:∀v d,R v d->Rd w A v d):ca w A R' v F d:=by
 cases d<;>first | exact Pl.tidy h I | exact h
theorem aN.tidy{d:D}(h:aN w A R v F d)(V:∀v d,R v d->Rd w A v d):aN w A R' v F d:=by
 cases d
 case o x=>exact h
 case box l =>
  obtain⟨h0,b,cs,e,Fs,h1,Y,Z,S,h5,h6,h7⟩:=h;exact⟨h0,b,cs,e,Fs,h1,Y,Z,fun j c W=>(S j c W).tidy V,h5,h6,h7⟩
 case row z l =>
  obtain⟨b,sz,cs,e,h1,Y,Z,ab,I,ad,ag,S,h5⟩:=h;exact⟨b,sz,cs,e,h1,Y,Z,ab,I,ad,ag,fun j c W=>⟨(S j c W).1.tidy V,(S j c W).2⟩,h5⟩
 case when g x=>exact⟨fun hg=>(h.1 hg).tidy V,h.2⟩
 all_goals exact Pl.tidy h V
theorem aN.bare{ct:Nat->D}{vl:Nat->Value}{d:D}(h:aN w A (ai w ct vl) v F d)(S:d.refs dW):aN w A R' v F d:=by
 refine aN.tidy (h.mono (Q:=dW) (A':=A) (w':=w) (R':=fun _ _=>False) (fun _ h=>h) (fun _ _=>rfl) (fun _ _=>rfl) (fun _ h=>h) S fun v d I V=>?_) ?_
 ·rcases ai.form v d V with⟨k,p,rfl⟩ | ⟨k,p,rfl⟩ | ⟨k,p,n,rfl⟩
  ·exact I.elim
  ·exact I.elim
  ·exact I.elim
 ·exact fun _ _ h=>h.elim
end
section
variable{P:Program}{o:Oper}{cx:Ctx}{vl:Nat->Value}{fp:Nat->Nat->Prop}{G:Nat->Prop}{w:World}{a:Act}{ds:List (Option Nat)}{tr:List Nat}{Q:Exit->Act->World->Prop}
def l9(A:Nat->Prop)(w w':World)(F1 F2:Nat->Prop)(b:Nat):Prop:=A b\/(w.heap.size<=b/\b<w'.heap.size/\¬F1 b/\¬F2 b)
theorem zm[Mode]{f:FuncId}{xs:List X}(hk:bb P ds tr o (.jh f xs)=true){as:List Operand}(V:∃f',rW o.op=some (f',as)){v0:Value}{rest:List Value}(has:as.map a.eval=v0::rest){F A:Nat->Prop}{X0 Y0 res:D}{dl:List D}
  (hR:aA P f (.io X0 Y0::dl.map .v) res) (a8:ik w A) (hA:∀b,A b->b<w.heap.size) (h0:aN w A (fun _ _=>False) v0 F X0) (b0:rest.length=dl.length) (ao:∀(j:Nat)(d:D),dl[j]?=some d->Rd w A (rest.getD j undef) d)
  (hF:∀b,F b->b<w.heap.size/\¬A b) {K:Act->World->Prop}
  (hK:∀(v:Value)(w':World)(F1 F2:Nat->Prop),w.heap.size<=w'.heap.size->aq w' (l9 A w w' F1 F2) v res F1->aN w' (l9 A w w' F1 F2) (fun _ _=>False) v0 F2 Y0 ->
    (∀b,F1 b->b<w'.heap.size/\(w.heap.size<=b\/F b)/\¬F2 b)->(∀b,F2 b->b<w'.heap.size/\(w.heap.size<=b\/F b))->(∀b,b<w.heap.size->¬F b->w'.heap[b]?=w.heap[b]?) ->
    w'.os=w.os->w'.tape=w.tape->c6 w w'->K (a.put o.dst v) w'):o.wp P a w K Q:=by
 simp only[bb] at hk;split at hk<;>try(cases hk;done)
 rename_i f' b2 S;obtain⟨b3,V⟩:=V;rw[V] at S;simp only[Option.some.injEq,Prod.mk.injEq] at S;obtain⟨rfl,rfl⟩:=S;obtain⟨ts,ho⟩:=H9 V;simp only[Bool.and_eq_true,beq_iff_eq] at hk;obtain⟨⟨rfl,b4⟩,bF⟩:=hk;unfold Oper.wp;rw[Fa ho bF,Oper.upon_enter,has];refine(hR w A _ (fun j b=>j=0/\F b) a8 hA (by simp[b0]) (fun j x Y=>?_) (fun i j b bg hi Y=>bg (hi.1.trans Y.1.symm)) (fun j b I=>⟨(hF b I.2).1,(hF b I.2).2,by rw[I.1];simp⟩)).mono ?_
 ·cases j with
  | zero =>
   simp only[List.getElem?_cons_zero,Option.some.injEq] at Y;subst Y;exact h0.mono (Q:=fun _=>True) (fun _ h=>h) (fun _ _=>rfl) (fun _ _=>rfl) (fun b I=>⟨rfl,I⟩) (bw (fun _=>trivial) _) fun _ _ _ h=>h
  | succ j =>
   simp only[List.getElem?_cons_succ,List.getElem?_map,Option.map_eq_some_iff] at Y;obtain⟨d,Y,rfl⟩:=Y;refine⟨?_,fun b I=>by cases I.1⟩;have:=ao j d Y;simpa using this
 ·rintro e w' ⟨v,F1,ab,rfl,b1,a7,ag,ad,W,_,ax,bT,a1,a6⟩
  have h2:=ag 0 _ rfl;have Z:∀b,(A b\/(w.heap.size<=b/\b<w'.heap.size/\¬F1 b/\∀j,¬ab j b))->l9 A w w' F1 (ab 0) b:=fun b I=>I.imp id fun hh=>⟨hh.1,hh.2.1,hh.2.2.1,hh.2.2.2 0⟩
  have e0:(v0::rest).toArray.getD 0 undef=v0:=rfl;rw[e0] at h2
  refine hK v w' F1 (ab 0) b1 (a7.mono Z (fun _ _=>rfl) (fun _ _=>rfl) fun _ h=>h) ((show aN _ _ _ _ _ _ from h2).mono (Q:=fun _=>True) Z (fun _ _=>rfl) (fun _ _=>rfl) (fun _ h=>h) (bw (fun _=>trivial) _) fun _ _ _ h=>h)
   (fun b I=>⟨(ad b I).1,(ad b I).2.1.imp id fun⟨_,h⟩=>h.2,(ad b I).2.2 0⟩) (fun b I=>⟨(W 0 b I).1,(W 0 b I).2.1.imp id fun⟨_,h⟩=>h.2⟩) (fun b I hn=>ax b I fun j h=>hn h.2) bT a1 a6
theorem Hp.swap[Mode]{ct:Nat->D}(h:Hp cx ct vl fp G w){k:Nat}{c':D}{F' G':Nat->Prop}{w':World}(Q:D->Prop)(ax:c'.isObj=true)
  (hc:aN w' (l9 (ak cx fp G w) w w' G' F') (fun _ _=>False) (vl k) F' c') (hrefs:∀j,j≠k->(ct j).refs Q)
  (hF:∀b,F' b->b<w'.heap.size/\(w.heap.size<=b\/fp k b)) (hG:∀b,G' b->b<w'.heap.size/\(w.heap.size<=b\/fp k b)) (a7:∀b,G' b->¬F' b)
  (bF:w.heap.size<=w'.heap.size) (hw:∀b,b<w.heap.size->¬fp k b->w'.heap[b]?=w.heap[b]?) (bg:w'.os=w.os) (ad:w'.tape=w.tape) (a1:c6 w w')
  (a6:∀p,Q (.sub k p)->(ct k).ew p->c'.ew p/\aR w' (vl k) c' p=aR w (vl k) (ct k) p)
  (ag:∀p,Q (.aG k p)->(ct k).aZ p->c'.aZ p/\aJ w' (vl k) c' p=aJ w (vl k) (ct k) p) :
  Hp cx (az ct k c') vl (az fp k F') G' w'/\∀b,l9 (ak cx fp G w) w w' G' F' b->ak cx (az fp k F') G' w' b:=by
 have aK:∀b,l9 (ak cx fp G w) w w' G' F' b->ak cx (az fp k F') G' w' b:=by
  rintro b (⟨h1,h2,h3⟩ | ⟨h1,h2,h3,h4⟩)
  ·refine⟨⟨by have:=h1.1;omega,h1.2⟩,fun hg=>(hG b hg).2.elim (fun W=>by have:=h1.1;omega) (h3 k),fun j S=>?_⟩
   by_cases I:j=k
   ·subst I;rw[bc] at S;exact(hF b S).2.elim (fun W=>by have:=h1.1;omega) (h3 _)
   ·rw[aI _ _ I] at S;exact h3 j S
  ·refine⟨⟨h2,fun W=>by have:=h.size;omega⟩,h3,fun j S=>?_⟩
   by_cases I:j=k
   ·subst I;rw[bc] at S;exact h4 S
   ·rw[aI _ _ I] at S;have:=(h.lt j b S).1;omega
 have ab:∀d,Q d->cX w w' ct (az ct k c') vl vl d:=by
  intro d hd;cases d<;>try trivial
  case sub j p =>
   intro(hp:(ct j).ew p);by_cases I:j=k
   ·subst I
    simp only[bc];exact a6 p hd hp
   ·simp only[aI _ _ I]
    exact⟨hp,(ig (h.ok j) hp.1 fun b V=>hw b (h.lt j b V).1 (h.cz j k I b V)).1⟩
  case aG j p =>
   intro hp;by_cases I:j=k
   ·subst I
    simp only[bc];exact ag p hd hp
   ·simp only[aI _ _ I]
    exact⟨hp,(ig (h.ok j) hp fun b V=>hw b (h.lt j b V).1 (h.cz j k I b V)).2⟩
 have Y:∀b,(w.heap.size<=b\/fp k b)->(cx.F0 b\/cx.w0.heap.size<=b):=fun b V=>V.elim (fun W=>.inr (by have:=h.size;omega)) fun W=>(h.lt k b W).2
 refine⟨⟨fun j=>?_,fun i j Z b hi S=>?_,fun j b S hg=>?_,fun j S b V=>?_,fun j b S=>?_,fun b V=>⟨(hG b V).1,Y b (hG b V).2⟩,Nat.le_trans h.size bF,fun b V ao=>?_,bg.trans h.os,ad.trans h.tape,a1.trans h.output⟩,aK⟩
 ·by_cases I:j=k
  ·subst I
   simp only[bc];exact hc.mono (Q:=fun _=>True) aK (fun _ _=>rfl) (fun _ _=>rfl) (fun _ h=>h) (bw (fun _=>trivial) _) fun v d _ hr=>hr.elim
  ·simp only[aI _ _ I]
   exact(h.ok j).mono (Q:=Q) (fun b V=>aK b (.inl V)) (fun b V=>hw b V.1.1 (V.2.2 k)) (fun b V=>hw b (h.lt j b V).1 (h.cz j k I b V)) (fun _ h=>h) (hrefs j I) fun v d hq hr=>hr.bZ (de ab hq)
 ·by_cases h1:i=k<;>by_cases h2:j=k
  ·omega
  ·subst h1;rw[bc] at hi;rw[aI _ _ h2] at S;exact(hF b hi).2.elim (fun W=>by have:=(h.lt j b S).1;omega) (h.cz j i (Ne.symm Z) b S)
  ·subst h2;rw[bc] at S;rw[aI _ _ h1] at hi;exact(hF b S).2.elim (fun W=>by have:=(h.lt i b hi).1;omega) (h.cz i j Z b hi)
  ·rw[aI _ _ h1] at hi;rw[aI _ _ h2] at S;exact h.cz i j Z b hi S
 ·by_cases I:j=k
  ·subst I;rw[bc] at S;exact a7 b hg S
  ·rw[aI _ _ I] at S;exact(hG b hg).2.elim (fun W=>by have:=(h.lt j b S).1;omega) (h.cz j k I b S)
 ·by_cases I:j=k
  ·subst I;rw[bc] at S;rw[ax] at S;cases S
  ·rw[aI _ _ I] at S V;exact h.emp j S b V
 ·by_cases I:j=k
  ·subst I;rw[bc] at S;exact⟨(hF b S).1,Y b (hF b S).2⟩
  ·rw[aI _ _ I] at S;exact⟨by have:=(h.lt j b S).1;omega,(h.lt j b S).2⟩
 ·have a8:b<w.heap.size:=by have:=h.size;omega
  rw[hw b a8 fun hk=>((h.lt k b hk).2).elim ao fun W=>by omega];exact h.same b V ao
theorem IP[Mode]{st:St}(h:Hp cx st.cont vl fp G w)(hw:st.wf){v:Value}{res:D}{F:Nat->Prop}(Y:aq w (ak cx fp G w) v res F)(hF:∀b,F b->G b) :
  (∃S G',Hp cx (st.push (aV res)).cont (az vl (1000+st.n) v) S G' w)/\(st.push (aV res)).wf/\(st.push (aV res)).n=st.n+1/\∀i,i<1000->st.cont i=.dead->(st.push (aV res)).cont i=.dead:=by
 have I:st.cont (1000+st.n)=.dead:=St.cJ (by simp only[St.in,not_or,not_and];omega);refine⟨?_,St.fx hw _,rfl,fun i hi I=>by rw[St.c8 hw,aI _ _ (by omega)];exact I⟩;rw[St.c8 hw];obtain⟨h1,W⟩:=nV (R:=ai w st.cont vl) Y;by_cases hob:(aV res).isObj=true
 ·exact⟨_,fun _=>False,h.put (by rw[I];rfl) h1 hF (fun _ h=>h.elim) (fun _ _ h=>h) (fun V=>by rw[hob] at V;cases V)⟩
 ·exact⟨_,fun _=>False,h.put (by rw[I];rfl) (W (by simpa using hob)) (fun _ h=>h.elim) (fun _ h=>h.elim) (fun _ h=>h.elim) (fun _ _ h=>h)⟩
theorem y7[Mode]:∀(l ys:List D){K:St->Prop}{st:St}{fp:Nat->Nat->Prop}{A:Nat->Prop}{vs:Nat->Value}{F1:Nat->Prop}{Fs:Nat->Nat->Prop},gm l ys K st->Hp cx st.cont vl fp (fun b=>F1 b\/∃j,Fs j b) w->st.wf ->
  (∀(j k:Nat)(s:Nat×Nat)(p:Path),l[j]?=some (.sub k (s::p))->ai w st.cont vl (vs j) (.sub k (s::p)))->(∀(j:Nat)(y:D),ys[j]?=some y->aq w A (vs j) y (Fs j))->(∀b,A b->ak cx fp (fun b=>F1 b\/∃j,Fs j b) w b) ->
  (∀i j b,i≠j->Fs i b->¬Fs j b)->(∀j b,Fs j b->¬F1 b) ->
  ∃st' Y,K st'/\Hp cx st'.cont vl Y F1 w/\(∀b,A b->ak cx Y F1 w b)/\st'.wf/\st'.n=st.n/\∀i,st.cont i=.dead->st'.cont i=.dead
 | [],[],K,st,fp,A,vs,F1,Fs,W,h,hw,_,_,hA,_,_=>⟨st,fp,W,h.release fun b I=>.inl I,fun b I=>⟨(hA b I).1,fun hg=>(hA b I).2.1 (.inl hg),(hA b I).2.2⟩,hw,rfl,fun _ h=>h⟩
 | [],_::_,_,_,_,_,_,_,_,W,_,_,_,_,_,_,_=>W.elim
 | _::_,[],_,_,_,_,_,_,_,W,_,_,_,_,_,_,_=>W.elim
 | x::r,y::ys,K,st,fp,A,vs,F1,Fs,W,h,hw,hl,hy,hA,ab,hF1=>by
  simp only[gm] at W
  have skip:gm r ys K st->∃st' Y,K st'/\Hp cx st'.cont vl Y F1 w/\(∀b,A b->ak cx Y F1 w b)/\st'.wf/\st'.n=st.n/\∀i,st.cont i=.dead->st'.cont i=.dead:=by
   intro W;have V:∀b,(F1 b\/∃j,Fs (j+1) b)->F1 b\/∃j,Fs j b:=fun b I=>I.imp id fun⟨j,S⟩=>⟨_,S⟩
   exact y7 r ys (vs:=fun j=>vs (j+1)) (Fs:=fun j=>Fs (j+1)) W (h.release V) hw (fun j k s p S=>hl (j+1) k s p (by simpa using S)) (fun j y S=>hy (j+1) y (by simpa using S))
    (fun b I=>⟨(hA b I).1,fun hg=>(hA b I).2.1 (V b hg),(hA b I).2.2⟩) (fun i j b a6=>ab _ _ b (by omega)) (fun j b=>hF1 _ b)
  unfold rr at W;split at W
  ·rename_i k s p
   obtain⟨a1,ax,W⟩:=W;have ag:s::p≠[]:=by simp
   obtain⟨hs,hv,-⟩:=hl 0 k s p rfl;generalize hP:s::p=Z at W hs hv ag ax
   have ad:st.in k:=by
    by_cases ad:st.in k
    ·exact ad
    ·rw[St.cJ ad] at hs;exact hs.1.elim
   have h1:=h.kill (bP k Z);obtain⟨kd,ks⟩:=G9 (bP k Z) hs ag;have a8:=(kL (w:=w) (bP k Z) (st.cont k) (vl k) Z hs.1).2.1;have V:∀b,(F1 b\/∃j,Fs (j+1) b)->F1 b\/∃j,Fs j b:=fun b I=>I.imp id fun⟨j,S⟩=>⟨_,S⟩
   obtain⟨h2,h3⟩:=h1.fill (G':=fun b=>F1 b\/∃j,Fs (j+1) b) ks ag (a8.trans hv) ((hy 0 y rfl).mono hA (fun _ _=>rfl) (fun _ _=>rfl) fun _ h=>h) a1 (fun b I=>.inr ⟨0,I⟩) V
    (fun b I hg=>hg.elim (hF1 0 b I) fun⟨j,S⟩=>ab 0 (j+1) b (by omega) I S) (fun j=>jk (bP k Z) (st.cont j))
   have ec:((st.kill (bP k Z)).put k (((st.kill (bP k Z)).cont k).yZ Z y)).cont=az (fun j=>(st.cont j).kill (bP k Z)) k (((st.cont k).kill (bP k Z)).setAt Z (if bD ((st.cont k).kill (bP k Z)) Z=true then .o y else y)):=by
    rw[St.dR (St.gG hw _) (by simpa[St.in,St.kill,mX] using ad),St.cW];rfl
   rw[<-ec] at h2 h3
   obtain⟨st',Y,r1,r2,r3,r4,r5,r6⟩:=y7 r ys (vs:=fun j=>vs (j+1)) (Fs:=fun j=>Fs (j+1)) W h2 (St.fb (St.gG hw _) _ _)
    (fun j k' s' p' S=>by
      have hr:=hl (j+1) k' s' p' (by simpa using S);refine hr.bZ (show cX _ _ _ _ _ _ _ from(od st.cont (bP k Z) _).trans (h3 _ ?_));have:=bG.1 ax _ (List.mem_of_getElem? S)
      exact this)
    (fun j y S=>hy (j+1) y (by simpa using S))
    (fun b I=>by
      refine⟨(hA b I).1,fun hg=>(hA b I).2.1 (V b hg),fun j S=>?_⟩;by_cases ao:j=k
      ·subst ao;rw[bc] at S;exact S.elim ((hA b I).2.2 _) fun hh=>(hA b I).2.1 (.inr ⟨0,hh⟩)
      ·rw[aI _ _ ao] at S;exact(hA b I).2.2 j S)
    (fun i j b a6=>ab _ _ b (by omega)) (fun j b=>hF1 _ b)
   refine⟨st',Y,r1,r2,r3,r4,by rw[r5,St.fW];rfl,fun i hi=>r6 i ?_⟩;rw[ec];have a7:i≠k:=by rintro rfl;rw[hi] at hs;exact hs.1.elim
   rw[aI _ _ a7,hi];rfl
  ·exact skip W
theorem ED:∀(p q:Path),apart p q=apart q p
 | [],[]=>rfl
 | [],_::_=>rfl
 | _::_,[]=>rfl
 | s::p,t::q=>by
  simp only[apart];by_cases h:s=t
  ·rw[if_pos h,if_pos h.symm];exact ED p q
  ·rw[if_neg h,if_neg (Ne.symm h)]
theorem xS:∀(l:List D){K:List D->St->Prop}{st:St},cE l K st->∀(i j:Nat)(x y:D),i<j->l[i]?=some x->l[j]?=some y->x.refs fun s=>match s with | .sub k p=>y.refs (nM k p) | _=>True
 | [],K,st,_,i,j,x,y,_,hi,_=>by simp at hi
 | z::r,K,st,h,i,j,x,y,S,hi,hj=>by
  simp only[cE] at h;cases j with
  | zero=>omega
  | succ j =>
   cases i with
   | zero =>
    simp at hi;subst hi;refine de (fun s V=>?_) h.1;cases s<;>first | trivial | exact bG.1 V y (List.mem_of_getElem? (by simpa using hj))
   | succ i =>
    obtain⟨W,st',I⟩:=xR z h.2;exact xS r I i j x y (by omega) (by simpa using hi) (by simpa using hj)
theorem xU{l:List D}{K:List D->St->Prop}{st:St}(h:cE l K st){i k:Nat}{s:Nat×Nat}{p:Path}(hi:l[i]?=some (.sub k (s::p))):cu (fun t=>lX t (.sub k (s::p))) l:=by
 refine bG.2 fun y Y=>?_
 obtain⟨j,W,rfl⟩:=List.getElem_of_mem Y;have I:l[j]?=some l[j]:=List.getElem?_eq_getElem W;rcases Nat.lt_trichotomy i j with S | S | S
 ·have h1:=xS l h i j _ _ S hi I
  have h1:(l[j]).refs (nM k (s::p)):=h1;refine de (fun t V=>?_) h1;cases t<;>try trivial
  rename_i k' p';refine .inl ?_;rcases V with V | V
  ·exact .inl (Ne.symm V)
  ·exact .inr (by rw[ED];exact V)
 ·subst S
  rw[hi] at I;injection I with I
  rw[<-I];refine .inr ⟨by simp,?_⟩
  have gt:∀p:Path,ir p p=false:=by
   intro p;induction p with
   | nil=>rfl
   | cons _ p Z=>exact Z
  simp only[bP,gt,Bool.and_false]
 ·have h1:=xS l h j i _ _ S I hi
  refine de (fun t V=>?_) h1;cases t<;>try trivial
  exact .inl V
theorem IB{rd:X->D}:∀{xs:List X},kW rd xs->∀y∈xs,(rd y).core.refs dW
 | [],_,y,I=>by cases I
 | x::r,h,y,I=>by
  rcases List.mem_cons.1 I with rfl | I
  ·exact h.1
  ·exact IB h.2 y I
theorem vX{q:D->Bool}(c:D)(h:c.refs dW):c.kill q=c:=by
 have list:∀l:List D,(∀x∈l,x.refs dW->x.kill q=x)->cu dW l->ey q l=l:=by
  intro l I V;rw[dL]
  conv=>rhs;rw[<-List.map_id l]
  exact List.map_congr_left fun x S=>I x S (bG.1 V x S)
 induction c using D.ind with
 | sub k p=>exact h.elim
 | aG k p=>exact h.elim
 | pre k p n=>exact h.elim
 | agg l I | av l I | box l I | fn _ l I=>simp only[D.kill];rw[list l I h]
 | row z l _ I=>simp only[D.kill];rw[list l I h]
 | when g x I=>simp only[D.kill];rw[I h]
 | _=>rfl
theorem Az[Mode]{st st1:St}{Y:Nat->Nat->Prop}{G1 F:Nat->Prop}(I:Tk cx w vl st fp G st1 Y G1 F){l ys:List D}{vs:Nat->Value}{K:St->Prop}{res:D}{v:Value}{w':World}{F1 F2:Nat->Prop}{Fs2:Nat->Nat->Prop}
  (hK:gm l ys (fun st=>K (st.push (aV res))) st1)
  (a8:∀(j k:Nat)(s:Nat×Nat)(p:Path),l[j]?=some (.sub k (s::p))->ai w st1.cont vl (vs j) (.sub k (s::p)))
  (bT:w.heap.size<=w'.heap.size) (a7:aq w' (l9 (ak cx Y G1 w) w w' F1 F2) v res F1) (hy:∀(j:Nat)(y:D),ys[j]?=some y->aq w' (l9 (ak cx Y G1 w) w w' F1 F2) (vs j) y (Fs2 j))
  (ad:∀j b,Fs2 j b->F2 b) (a1:∀i j b,i≠j->Fs2 i b->¬Fs2 j b) (ab:∀b,F1 b->b<w'.heap.size/\(w.heap.size<=b\/F b)/\¬F2 b) (bg:∀b,F2 b->b<w'.heap.size/\(w.heap.size<=b\/F b))
  (V:∀b,b<w.heap.size->¬F b->w'.heap[b]?=w.heap[b]?) (bF:w'.os=w.os) (ao:w'.tape=w.tape) (a6:c6 w w') :
  ∃st',K st'/\(∃ax G',Hp cx st'.cont (az vl (1000+st.n) v) ax G' w')/\st'.wf/\st'.n=st.n+1/\∀i,i<1000->st.cont i=.dead->st'.cont i=.dead:=by
 have h3:=I.hp.zM bT (fun b S hg=>V b S fun hf=>hg (I.hF b hf).1) bF ao a6;have ag:∀b,(F1 b\/∃j,Fs2 j b)->b<w'.heap.size/\(w.heap.size<=b\/F b):=fun b S=>S.elim (fun W=>⟨(ab b W).1,(ab b W).2.1⟩) fun⟨j,Z⟩=>bg b (ad j b Z)
 have h4:=h3.release (G':=fun b=>F1 b\/∃j,Fs2 j b) fun b S=>(ag b S).2.elim (fun W=>.inr ⟨W,(ag b S).1⟩) fun W=>.inl (I.hF b W).1
 obtain⟨st',ax,r1,r2,r3,r4,r5,r6⟩:=y7 l ys (vs:=vs) (A:=l9 (ak cx Y G1 w) w w' F1 F2) (F1:=F1) (Fs:=Fs2) hK h4 I.wf
  (fun j k s p Z=>(a8 j k s p Z).bZ (show cX _ _ _ _ _ _ _ from fun hp=>⟨hp,(ig (I.hp.ok k) hp.1 fun b S=>V b (I.hp.lt k b S).1 fun hf=>I.hp.cK k b S (I.hF b hf).1).1⟩))
  hy (fun b S=>by
   rcases S with⟨q1,q2,q3⟩ | ⟨q1,q2,q3,q4⟩
   ·exact⟨⟨by have:=q1.1;omega,q1.2⟩,fun hg=>(ag b hg).2.elim (fun W=>by have:=q1.1;omega) fun W=>q2 (I.hF b W).1,q3⟩
   ·exact⟨⟨q2,fun W=>by have:=I.hp.size;omega⟩,fun hg=>hg.elim q3 fun⟨j,Z⟩=>q4 (ad j b Z),fun j Z=>by have:=(I.hp.lt j b Z).1;omega⟩)
  a1 (fun j b Z hf=>(ab b hf).2.2 (ad j b Z))
 obtain⟨k1,k2,k3,k4⟩:=IP r2 r4 (a7.mono r3 (fun _ _=>rfl) (fun _ _=>rfl) fun _ h=>h) (fun _ h=>h);rw[r5,I.n] at k1 k3;exact⟨_,r1,k1,k2,k3,fun i hi hd=>k4 i hi (r6 i (I.dd i hd))⟩
theorem QQ[Mode]{st:St}(h:Hp cx st.cont vl fp G w)(hw:st.wf){f:FuncId}{x0:X}{r:List X}(hk:bb P ds tr o (.jh f (x0::r))=true)
  (hx:∀y,y∈x0::r->∀x,aP ds tr x y=true->cC w (ak cx fp G w) (ai w st.cont vl) (a.eval x) (st.rd y)) {g:Option Bool} {K:St->Prop}
  (hv:@pL _ P f (st.rd x0).core (iR st.cont st.rd r) (eN st.rd (x0::r)) (kW st.rd r) g ⟨K⟩ st) {K':Act->World->Prop}
  (cd:∀(v:Value)(w':World)(st':St),K st'->(∃cI G',Hp cx st'.cont (az vl (1000+st.n) v) cI G' w')->st'.wf->st'.n=st.n+1->(∀i,i<1000->st.cont i=.dead->st'.cont i=.dead)->K' (a.put o.dst v) w'):o.wp P a w K' Q:=by
 obtain⟨-,cg,ev,dl,ef,hv⟩:=hv;have cj:=hk;simp only[bb] at hk;split at hk<;>try(cases hk;done)
 rename_i f' as et;simp only[Bool.and_eq_true,beq_iff_eq] at hk;obtain⟨⟨rfl,b9⟩,eP⟩:=hk;cases as with
 | nil=>simp[fh] at b9
 | cons x ar =>
 simp only[fh,Bool.and_eq_true] at b9;simp only[eN,Bool.and_eq_true] at cg;have ag:=(hx x0 (by simp) x b9.1).1 cg.1;obtain⟨dk,dm⟩:=vf (a:=a) (A':=ak cx fp G w) b9.2 (fun y hy=>hx y (by simp[hy])) (fun y hy v x hv hg=>vK 4 hv (IB ev y hy) hg) ef cg.2;have bT:∃f',rW o.op=some (f',x::ar):=⟨_,et⟩;have has:(x::ar).map a.eval=a.eval x::ar.map a.eval:=rfl;have cp:(ar.map a.eval).length=dl.length:=by rw[List.length_map];exact dk
 have a1:∀(j:Nat)(d:D),dl[j]?=some d->Rd w (ak cx fp G w) ((ar.map a.eval).getD j undef) d:=dm
 have whole:∀(k:Nat)(c c' res:D)(q:D->Bool),st.cont k=c->vl k=a.eval x->c.isObj=true->c'.isObj=true->c.refs dW->aA P f (.io c c'::dl.map .v) res ->
   (∀p,q (.sub k p)=false->c.ew p->c'.ew p/\∀w',aR w' (vl k) c' p=aR w (vl k) c p)->(∀p,q (.aG k p)=false->c.aZ p->c'.aZ p/\∀w',aJ w' (vl k) c' p=aJ w (vl k) c p) ->
   K (((st.kill q).put k c').push (aV res))->o.wp P a w K' Q:=by
  intro k c c' res q hc b3 cc cm bg hR cy cq hK;have bF:=h.ok k;rw[hc,b3] at bF;refine zm cj bT has (F:=fp k) (A:=ak cx fp G w) hR h.gl (fun b S=>S.1.1) (bF.bare bg) cp a1 (fun b S=>⟨(h.lt k b S).1,fun Z=>Z.2.2 k S⟩) ?_;intro v w' F1 F2 b1 ax I ab a7 W b0 Y ao;have h1:=h.kill q
  have b5:st.in k:=by
   by_cases b5:st.in k
   ·exact b5
   ·rw[St.cJ b5] at hc;subst hc;cases cc
  rw[<-b3] at I
  obtain⟨h2,h3⟩:=h1.swap (c':=c') (k:=k) (F':=F2) (G':=F1) (fun d=>q d=false) cm I (fun j _=>jk q (st.cont j)) a7 (fun b S=>⟨(ab b S).1,(ab b S).2.1⟩) (fun b S=>(ab b S).2.2) b1 (fun b S hn=>W b S hn) b0 Y ao
   (fun p hq Z=>by
     have Z:c.ew p:=by have hh:((st.cont k).kill q).ew p:=Z;rwa [hc,vX c bg] at hh
     obtain⟨e1,e2⟩:=cy p hq Z;refine⟨e1,?_⟩;rw[e2];show _=aR w (vl k) ((st.cont k).kill q) p
     rw[hc,vX c bg])
   (fun p hq Z=>by
     have Z:c.aZ p:=by have hh:((st.cont k).kill q).aZ p:=Z;rwa [hc,vX c bg] at hh
     obtain⟨e1,e2⟩:=cq p hq Z;refine⟨e1,?_⟩;rw[e2];show _=aJ w (vl k) ((st.cont k).kill q) p
     rw[hc,vX c bg])
  have ec:((st.kill q).put k c').cont=az (fun j=>(st.cont j).kill q) k c':=by
   rw[St.dR (St.gG hw _) (by simpa[St.in,St.kill,mX] using b5),St.cW]
  rw[<-ec] at h2;obtain⟨k1,k2,k3,k4⟩:=IP h2 (St.fb (St.gG hw _) _ _) (ax.mono h3 (fun _ _=>rfl) (fun _ _=>rfl) fun _ h=>h) (fun _ h=>h);have hn:((st.kill q).put k c').n=st.n:=by rw[St.fW];rfl
  rw[hn] at k1 k3;refine cd v w' _ hK k1 k2 k3 fun i hi hd=>k4 i hi ?_
  rw[ec];have ej:i≠k:=by rintro rfl;rw[hd] at hc;subst hc;cases cc
  rw[aI _ _ ej,hd];rfl
 split at hv
 ·
  rename_i k heq;rw[heq] at ag;obtain⟨l,l',res,hc,hl,eT,hlen,hR,hK⟩:=hv;obtain⟨_,ad,b4,dn⟩:=gy ag;have bF:=h.ok k;rw[hc] at bF b4;obtain⟨_,b,cs,e,Fs,b3,_⟩:=bF;rw[b3] at b4;simp only[aJ,dI,D.un,dU,Option.some.injEq,Nat.add_zero] at b4;refine whole k _ _ res _ hc (by rw[b3,dn,<-b4]) rfl rfl hl hR (fun p hq Z=>?_) (fun p hq Z=>?_) hK
  ·have:=wU hq
   have:p=[]:=List.eq_nil_of_length_eq_zero (by simpa using this);subst this;exact⟨⟨trivial,fun hh=>by cases hh⟩,fun w'=>rfl⟩
  ·have hle:=AQ hq
   cases p with
   | nil=>exact⟨trivial,fun w'=>rfl⟩
   | cons t p =>
    have:p=[]:=List.eq_nil_of_length_eq_zero (by simpa using hle);subst this;obtain⟨i,off⟩:=t;obtain⟨q1,q2,_⟩:=Z;exact⟨⟨q1,by omega,trivial⟩,fun w'=>rfl⟩
 ·
  rename_i k heq;rw[heq] at ag;obtain⟨y0,y,res,hc,hR,hK⟩:=hv;obtain⟨_,b2,_⟩:=eD ag;simp only[aR,Option.some.injEq] at b2;refine whole k _ _ res _ hc b2 rfl rfl trivial hR (fun p hq Z=>?_) (fun p hq Z=>?_) hK
  ·have:=AP hq
   have:p=[]:=List.eq_nil_of_length_eq_zero (by simpa using this);subst this;exact⟨⟨trivial,fun hh=>by cases hh⟩,fun w'=>rfl⟩
  ·have:=AO hq
   have:p=[]:=List.eq_nil_of_length_eq_zero (by simpa using this);subst this;exact⟨trivial,fun w'=>rfl⟩
 ·
  rename_i k s p heq;rw[heq] at ag;have eB:=eD ag;have a6:=fun i k s p hi=>xU hv (i:=i) (k:=k) (s:=s) (p:=p) hi
  obtain⟨l',st1,a8,G1,Fs,⟨y0,y,res,rfl,hR,hK⟩,h2,h3,h4,h5,h6⟩:=ko (A:=ak cx fp G w) (vs:=#[a.eval x]) _ hv h hw (fun _ h=>h) (fun j y V=>by
   cases j with
   | zero=>simp at V;subst V;exact ag
   | succ j=>simp at V)
  have ho:=(h4 0 y0 rfl).1;refine zm cj bT has (F:=Fs 0) (A:=ak cx a8 G1 w) hR h2.hp.gl (fun b S=>S.1.1) ho cp (fun j d V=>(a1 j d V).mono h2.aK fun _ _=>rfl) (fun b S=>⟨(h2.hp.cY b (h2.hF b ⟨0,S⟩).1).1,fun Z=>Z.2.1 (h2.hF b ⟨0,S⟩).1⟩) ?_;intro v w' F1 F2 b1 ax I ab a7 W b0 Y ao
  obtain⟨st',k1,k2,k3,k4,k5⟩:=Az (vs:=fun _=>a.eval x) (Fs2:=fun j b=>j=0/\F2 b) h2 hK
   (fun j k' s' p' V=>by
     cases j with
     | zero =>
      have Z:=a6 0 k' s' p' V;simp at V;obtain⟨rfl,rfl,rfl⟩:=V;exact eB.bZ (h6 _ Z)
     | succ j=>simp at V)
   b1 ax (fun j z V=>by
    cases j with
    | zero=>simp at V;subst V;exact aq.mono (show aq w' _ (a.eval x) y F2 from I) (fun _ h=>h) (fun _ _=>rfl) (fun _ _=>rfl) fun b S=>⟨rfl,S⟩
    | succ j=>simp at V)
   (fun j b S=>S.2) (fun i j b eg hi V=>eg (hi.1.trans V.1.symm)) (fun b S=>⟨(ab b S).1,(ab b S).2.1.imp id fun hh=>⟨0,hh⟩,(ab b S).2.2⟩) (fun b S=>⟨(a7 b S).1,(a7 b S).2.imp id fun hh=>⟨0,hh⟩⟩) (fun b S hn=>W b S fun hh=>hn ⟨0,hh⟩) b0 Y ao
  exact cd v w' st' k1 k2 k3 k4 k5
 ·
  rename_i l heq;rw[heq] at ag;obtain⟨cs,b2,ea,cr⟩:=oD ag;have a6:=fun i k s p hi=>xU hv (i:=i) (k:=k) (s:=s) (p:=p) hi
  obtain⟨xs,st1,a8,G1,Fs,⟨ys,res,hR,hK⟩,h2,h3,h4,h5,h6⟩:=ko (A:=ak cx fp G w) (vs:=cs) _ hv h hw (fun _ h=>h) cr
  have ho:aq w (ak cx a8 G1 w) (a.eval x) (.agg xs) (fun b=>∃j,Fs j b):=by
   rw[b2];exact .agg Fs (by rw[ea,h3]) (fun j y V=>(h4 j y V).1) (fun j b S=>⟨j,S⟩) h5
  refine zm cj bT has (F:=fun b=>∃j,Fs j b) (A:=ak cx a8 G1 w) hR h2.hp.gl (fun b S=>S.1.1) ho cp (fun j d V=>(a1 j d V).mono h2.aK fun _ _=>rfl) (fun b S=>⟨(h2.hp.cY b (h2.hF b S).1).1,fun Z=>Z.2.1 (h2.hF b S).1⟩) ?_;intro v w' F1 F2 b1 ax I ab a7 W b0 Y ao;have I:aq w' (l9 (ak cx a8 G1 w) w w' F1 F2) (a.eval x) (.agg ys) F2:=I;rw[b2] at I;cases I with
  | agg Fs2 e0 eF cv eb =>
  obtain⟨st',k1,k2,k3,k4,k5⟩:=Az (vs:=fun j=>cs.getD j undef) (Fs2:=Fs2) h2 hK
   (fun j k' s' p' V=>(eD (cr j _ V)).bZ (h6 _ (a6 j k' s' p' V)))
   b1 ax (fun j z V=>eF j z V) cv eb ab a7 W b0 Y ao
  exact cd v w' st' k1 k2 k3 k4 k5
 ·exact hv.elim
end
end Go.D3
