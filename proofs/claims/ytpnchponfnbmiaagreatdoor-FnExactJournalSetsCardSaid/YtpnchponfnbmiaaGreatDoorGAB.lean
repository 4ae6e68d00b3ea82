/- CONTRACTS: the classes of short paths, the program's side. -/
import Derived.Test.YtpnchponfnbmiaaGreatDoorGAA
import Derived.Test.YtpnchponfnbmiaaGreatDoorHG
namespace Go.D3
open Go
structure UF(j:List Int):Prop where
 le:∀i,i<j.length->0<=j.getD i 0/\j.getD i 0<=i
inductive iK(j:List Int):Nat->Nat->Prop
 | root {x:Nat}:j.getD x 0=x->iK j x x
 | step {x y r:Nat}:j.getD x 0=y->y<x->iK j y r->iK j x r
theorem iK.fn{j:List Int}{x r t:Nat}(h:iK j x r)(g:iK j x t):r=t:=by
 induction h with
 | root e=>cases g with
  | root=>rfl
  | step e2 hl=>omega
 | step e hl _ ih=>cases g with
  | root e2=>omega
  | step e2 hl2 g=>exact ih (by rw[show _=_ from Int.ofNat.inj (e.symm.trans e2)];exact g)
theorem iK.is{j:List Int}{x r:Nat}(h:iK j x r):j.getD r 0=r/\r<=x:=by
 induction h with
 | root e=>exact⟨e,Nat.le_refl _⟩
 | step _ hl _ ih=>exact⟨ih.1,by omega⟩
theorem UF.get{j:List Int}(h:UF j){x:Nat}(hx:x<j.length):∃y:Nat,j.getD x 0=y/\y<=x:=by
 have:=h.le x hx;exact⟨(j.getD x 0).toNat,by omega,by omega⟩
theorem UF.ex{j:List Int}(h:UF j):∀(n x:Nat),x<=n->x<j.length->∃r,iK j x r
 | 0,x,hn,hx=>by
  obtain⟨y,h1,h2⟩:=h.get hx;exact⟨x,.root (by rw[h1];omega)⟩
 | n+1,x,hn,hx=>by
  obtain⟨y,h1,h2⟩:=h.get hx;by_cases hy:y=x
  ·exact⟨x,.root (by rw[h1,hy])⟩
  ·obtain⟨r,hr⟩:=UF.ex h n y (by omega) (by omega)
   exact⟨r,.step h1 (by omega) hr⟩
open Classical in
noncomputable def rep(j:List Int)(x:Nat):Nat:=if h:∃r,iK j x r then Classical.choose h else x
theorem UF.rp{j:List Int}(h:UF j){x:Nat}(hx:x<j.length):iK j x (rep j x):=by
 have hr:=h.ex x x (Nat.le_refl _) hx;unfold rep;rw[dif_pos hr];exact Classical.choose_spec hr
theorem Jp{j:List Int}{x r:Nat}(h:iK j x r):rep j x=r:=by
 have hr:∃r,iK j x r:=⟨r,h⟩;unfold rep;rw[dif_pos hr];exact(Classical.choose_spec hr).fn h
theorem UF.oq{j:List Int}(h:UF j){x:Nat}(hx:x<j.length):rep j x<=x/\j.getD (rep j x) 0=rep j x:=⟨(h.rp hx).is.2,(h.rp hx).is.1⟩
theorem UF.root{j:List Int}(_:UF j){x:Nat}(_:x<j.length)(e:j.getD x 0=x):rep j x=x:=Jp (.root e)
theorem UF.step{j:List Int}(h:UF j){x y:Nat}(hx:x<j.length)(e:j.getD x 0=y):rep j x=rep j y:=by
 obtain⟨z,h1,h2⟩:=h.get hx;obtain rfl:y=z:=by omega
 by_cases hy:y=x
 ·rw[hy]
 ·exact Jp (.step e (by omega) (h.rp (by omega)))
theorem kP{l:List Int}{i k:Nat}{v:Int}(hi:i<l.length):(l.set i v).getD k 0=if k=i then v else l.getD k 0:=by
 by_cases h:k=i
 ·subst h;rw[if_pos rfl,List.getD_eq_getElem?_getD,List.getElem?_set_self hi];rfl
 ·rw[if_neg h,List.getD_eq_getElem?_getD,List.getElem?_set_ne (Ne.symm h),List.getD_eq_getElem?_getD]
theorem UF.Gt{j:List Int}(h:UF j){x y z:Nat}(hx:x<j.length)(e1:j.getD x 0=y)(hy:y<x)(e2:j.getD y 0=z):UF (j.set x (z:Int))/\∀u,u<j.length->rep (j.set x (z:Int)) u=rep j u:=by
 have hz:=h.le y (by omega)
 have hU:UF (j.set x (z:Int)):=⟨fun i hi=>by
  rw[List.length_set] at hi;rw[kP hx];have:=h.le i hi;split
  ·omega
  ·exact this⟩
 refine⟨hU,?_⟩
 have key:∀n u,u<=n->u<j.length->rep (j.set x (z:Int)) u=rep j u:=by
  intro n;induction n with
  | zero =>
   intro u hu hl;have:=hU.oq (x:=u) (by rw[List.length_set];exact hl);have:=h.oq hl;omega
  | succ n ih =>
   intro u hu hl;have hl':u<(j.set x (z:Int)).length:=by rw[List.length_set];exact hl
   by_cases hux:u=x
   ·subst hux
    have a:=hU.step hl' (show(j.set u (z:Int)).getD u 0=(z:Int) by rw[kP hl,if_pos rfl]);have b:=h.step hl e1;have c:=h.step (show y<j.length by omega) e2;rw[a,ih z (by omega) (by omega),b,c]
   ·obtain⟨w,w1,w2⟩:=h.get hl
    by_cases hwu:w=u
    ·rw[hU.root hl' (by rw[kP hx,if_neg hux,w1,hwu]),h.root hl (by rw[w1,hwu])]
    ·rw[hU.step hl' (show(j.set x (z:Int)).getD u 0=(w:Int) by rw[kP hx,if_neg hux,w1]),h.step hl w1,ih w (by omega) (by omega)]
 exact fun u hu=>key u u (Nat.le_refl _) hu
theorem UF.link{j:List Int}(h:UF j){a b:Nat}(ha:a<j.length)(hb:b<=a)(ea:j.getD a 0=a)(eb:j.getD b 0=b):UF (j.set a (b:Int))/\∀u,u<j.length->rep (j.set a (b:Int)) u=if rep j u=a then b else rep j u:=by
 have hU:UF (j.set a (b:Int)):=⟨fun i hi=>by
  rw[List.length_set] at hi;rw[kP ha];have:=h.le i hi;split
  ·omega
  ·exact this⟩
 refine⟨hU,?_⟩
 have hrb:rep (j.set a (b:Int)) b=b:=hU.root (by rw[List.length_set];omega) (by
  rw[kP ha];split
  ·rfl
  ·exact eb)
 have key:∀n u,u<=n->u<j.length->rep (j.set a (b:Int)) u=if rep j u=a then b else rep j u:=by
  intro n;induction n with
  | zero =>
   intro u hu hl;have:=hU.oq (x:=u) (by rw[List.length_set];exact hl);have:=h.oq hl;split<;>omega
  | succ n ih =>
   intro u hu hl;have hl':u<(j.set a (b:Int)).length:=by rw[List.length_set];exact hl
   by_cases hua:u=a
   ·subst hua
    rw[hU.step hl' (show(j.set u (b:Int)).getD u 0=(b:Int) by rw[kP hl,if_pos rfl]),hrb,h.root hl ea,if_pos rfl]
   ·obtain⟨w,w1,w2⟩:=h.get hl
    by_cases hwu:w=u
    ·rw[hU.root hl' (by rw[kP ha,if_neg hua,w1,hwu]),h.root hl (by rw[w1,hwu]),if_neg hua]
    ·rw[hU.step hl' (show(j.set a (b:Int)).getD u 0=(w:Int) by rw[kP ha,if_neg hua,w1]),h.step hl w1,ih w (by omega) (by omega)]
 exact fun u hu=>key u u (Nat.le_refl _) hu
theorem UF.join{j:List Int}(h:UF j){x y:Nat}(hx:x<j.length)(hy:y<j.length):UF (j.set (max (rep j x) (rep j y)) ((min (rep j x) (rep j y):Nat):Int)) /\
  ∀u,u<j.length->rep (j.set (max (rep j x) (rep j y)) ((min (rep j x) (rep j y):Nat):Int)) u=if rep j u=max (rep j x) (rep j y) then min (rep j x) (rep j y) else rep j u:=by
 have h1:=h.oq hx;have h2:=h.oq hy;refine h.link (by omega) (by omega) ?_ ?_
 ·rcases Nat.le_total (rep j x) (rep j y) with hh | hh
  ·rw[Nat.max_eq_right hh];exact h2.2
  ·rw[Nat.max_eq_left hh];exact h1.2
 ·rcases Nat.le_total (rep j x) (rep j y) with hh | hh
  ·rw[Nat.min_eq_left hh];exact h1.2
  ·rw[Nat.min_eq_right hh];exact h2.2
theorem UF.H2{n:Nat}:UF (bB n)/\∀u,u<n->rep (bB n) u=u:=by
 have hg:∀{i},i<n->(bB n).getD i 0=i:=fun hi=>by
  unfold bB;rw[List.getD_eq_getElem?_getD,List.getElem?_map,List.getElem?_range hi];rfl
 have hU:UF (bB n):=⟨fun i hi=>by rw[eE] at hi;rw[hg hi];omega⟩;exact⟨hU,fun u hu=>hU.root (by rw[eE];exact hu) (hg hu)⟩
def eO:Nat->List Int->Nat->Nat×List Int
 | 0,J,x=>(x,J)
 | f+1,J,x=>if J.getD x 0=(x:Int) then(x,J) else eO f (J.set x (J.getD (J.getD x 0).toNat 0)) (J.getD (J.getD x 0).toNat 0).toNat
theorem p4:∀(f:Nat){J:List Int}{x:Nat},UF J->x<J.length->x<f->(eO f J x).1=rep J x/\UF (eO f J x).2/\(eO f J x).2.length=J.length/\∀u,u<J.length->rep (eO f J x).2 u=rep J u
 | 0,_,_,_,_,h=>absurd h (Nat.not_lt_zero _)
 | f+1,J,x,hU,hx,hf=>by
  unfold eO;by_cases e:J.getD x 0=(x:Int)
  ·rw[if_pos e]
   exact⟨(hU.root hx e).symm,hU,rfl,fun _ _=>rfl⟩
  ·rw[if_neg e]
   obtain⟨y,e1,hy⟩:=hU.get hx;have hyx:y<x:=by omega
   obtain⟨z,e2,hz⟩:=hU.get (show y<J.length by omega);rw[e1,Int.toNat_natCast,e2,Int.toNat_natCast];obtain⟨h1,h2⟩:=hU.Gt hx e1 hyx e2;have hl:(J.set x (z:Int)).length=J.length:=List.length_set;obtain⟨i1,i2,i3,i4⟩:=p4 f h1 (show z<(J.set x (z:Int)).length by omega) (by omega);refine⟨?_,i2,i3.trans hl,fun u hu=>(i4 u (by omega)).trans (h2 u hu)⟩;rw[i1,h2 z (by omega),hU.step hx e1,hU.step (by omega) e2]
theorem Zf{f:Nat}{J:List Int}{x:Nat}(e:¬J.getD x 0=(x:Int)):eO (f+1) J x=eO f (J.set x (J.getD (J.getD x 0).toNat 0)) (J.getD (J.getD x 0).toNat 0).toNat:=by
 rw[eO,if_neg e]
structure dA(s:aa)(list:List U)(j:List Int)(w i a:Nat):Prop where
 uf:UF j
 len:j.length=list.length
 v:∀x,x<list.length->s.eqv (list.getD x U.zero) (list.getD (rep j x) U.zero)
 c:∀(x i' a':Nat)(q:U),x<list.length->(x<w\/x=w/\(i'<i\/i'=i/\a'<a))->s.gk (list.getD x U.zero) i' a' q->∃y:Nat,y<list.length/\list.getD y U.zero=q/\rep j x=rep j y
theorem dA.zero{s:aa}{list:List U}(hA:dT s list):dA s list (bB list.length) 0 0 0 :=
 ⟨UF.H2.1,eE,fun x hx=>by rw[UF.H2.2 x hx];exact .refl (hA.at' hx),fun x i' a' q _ h=>by omega⟩
theorem dA.same{s:aa}{list:List U}{j k:List Int}{w i a:Nat}(h:dA s list j w i a)(hU:UF k)(hl:k.length=j.length)(hr:∀u,u<j.length->rep k u=rep j u):dA s list k w i a:=by
 have hlen:=h.len;refine⟨hU,by omega,fun x hx=>by rw[hr x (by omega)];exact h.v x hx,fun x i' a' q hx hc hl=>?_⟩;obtain⟨y,y1,y2,y3⟩:=h.c x i' a' q hx hc hl;exact⟨y,y1,y2,by rw[hr x (by omega),hr y (by omega)];exact y3⟩
theorem dA.skip{s:aa}{list:List U}{P:List Int}{w i a:Nat}(h:dA s list P w i a)(hn:∀q,¬s.gk (list.getD w U.zero) i a q):dA s list P w i (a+1) :=
 ⟨h.uf,h.len,h.v,fun x i' a' q hx hc hl=>by
  by_cases he:x=w/\i'=i/\a'=a
  ·obtain⟨rfl,rfl,rfl⟩:=he;exact absurd hl (hn q)
  ·exact h.c x i' a' q hx (by omega) hl⟩
theorem dA.zr{s:aa}{list:List U}{P:List Int}{w i a:Nat}(h:dA s list P w i a)(hn:(list.getD w U.zero).ed.length<a):dA s list P w (i+1) 0 :=
 ⟨h.uf,h.len,h.v,fun x i' a' q hx hc hl=>by
  by_cases he:x=w/\i'=i/\a<=a'
  ·obtain⟨rfl,rfl,ha⟩:=he
   have:=hl.2.1;omega
  ·exact h.c x i' a' q hx (by omega) hl⟩
theorem dA.zt{s:aa}{list:List U}{P:List Int}{w i a:Nat}(h:dA s list P w i a)(hn:s.lf.length<=i):dA s list P (w+1) 0 0 :=
 ⟨h.uf,h.len,h.v,fun x i' a' q hx hc hl=>by
  by_cases he:x=w/\i<=i'
  ·have:=hl.1;omega
  ·exact h.c x i' a' q hx (by omega) hl⟩
theorem dA.add{s:aa}{list:List U}{j k:List Int}{w i a y:Nat}(h:dA s list j w i a)(hw:w<list.length)(hy:y<list.length)(hsp:s.sp (list.getD w U.zero))(hl:s.gk (list.getD w U.zero) i a (list.getD y U.zero))
  (hU:UF k) (hkl:k.length=j.length) (hr:∀u,u<j.length->rep k u=if rep j u=max (rep j w) (rep j y) then min (rep j w) (rep j y) else rep j u):dA s list k w i (a+1):=by
 have hlen:=h.len;have e:=aa.eqv.lk hsp hl;have ewy:s.eqv (list.getD (rep j w) U.zero) (list.getD (rep j y) U.zero):=(h.v w hw).symm.trans (e.trans (h.v y hy));refine⟨hU,by omega,fun x hx=>?_,fun x i' a' q hx hc hl'=>?_⟩
 ·rw[hr x (by omega)]
  split
  ·rename_i hm
   have hv:=h.v x hx;rw[hm] at hv;rcases Nat.le_total (rep j w) (rep j y) with hh | hh
   ·rw[Nat.max_eq_right hh] at hv
    rw[Nat.min_eq_left hh];exact hv.trans ewy.symm
   ·rw[Nat.max_eq_left hh] at hv
    rw[Nat.min_eq_right hh];exact hv.trans ewy
  ·exact h.v x hx
 ·by_cases he:x=w/\i'=i/\a'=a
  ·obtain⟨rfl,rfl,rfl⟩:=he
   refine⟨y,hy,by rw[hl.2.2.2.2.2,hl'.2.2.2.2.2],?_⟩;rw[hr x (by omega),hr y (by omega)];split<;>split<;>omega
  ·obtain⟨z,z1,z2,z3⟩:=h.c x i' a' q hx (by omega) hl'
   exact⟨z,z1,z2,by rw[hr x (by omega),hr z (by omega),z3]⟩
theorem dA.cls{s:aa}{list:List U}(hA:dT s list)(hn:list.Nodup){j:List Int}(hj:dA s list j list.length 0 0){L:List Int}(hL:L.length=list.length)(hl:∀i,i<list.length->L.getD i 0=rep j i){cl:List Int}(hq:ng L cl):iH s list cl:=by
 refine⟨by rw[hq.len,hL],fun i hi=>by have:=hq.ge i (by omega);omega,fun i k hi hk=>?_⟩;rw[hq.eq i k (by omega) (by omega),hl i hi,hl k hk];constructor
 ·intro e
  have a:=hj.v i hi;have b:=hj.v k hk;rw[show rep j i=rep j k by omega] at a;exact a.trans b.symm
 ·intro e
  have:=FQ (s:=s) (φ:=fun p=>((rep j (mH list p.st p.ed).toNat:Nat):Int)) (fun p i a q hp hl'=>by
   obtain⟨y,hy⟩:=hp;obtain⟨x,hx,rfl⟩:=ff (d:=U.zero) (hA.a p y hy);obtain⟨z,z1,rfl,z2⟩:=hj.c x i a q hx (.inl hx) hl';show((rep j _:Nat):Int)=((rep j _:Nat):Int)
   rw[og hn hx,og hn z1,Int.toNat_natCast,Int.toNat_natCast,z2]) e
  simp only[og hn hi,og hn hk,Int.toNat_natCast] at this;exact this
end Go.D3
namespace Go.D3
open Go
def ey(a b:List Int):Int:=if lexB a b=true then -1 else if a=b then 0 else 1
theorem yd{a b:List Int}:ey a b<0↔lexB a b=true:=by
 unfold ey;split
 ·rename_i h;simp[h]
 ·rename_i h;simp only[h];split<;>simp
theorem uU{a b:List Int}:ey a b=0↔a=b:=by
 unfold ey;split
 ·rename_i h
  refine⟨fun h=>by omega,fun e=>?_⟩;rw[e,Hc] at h;cases h
 ·split
  ·rename_i h;simp[h]
  ·rename_i h;simp[h]
def oY(p q:U):Int:=if(p.ed.length:Int)-q.ed.length≠0 then(p.ed.length:Int)-q.ed.length else ey p.ed q.ed
theorem O3{s:aa}{p q:U}(h:p.st=q.st)(e:s.aO p=s.aO q):oY p q<0↔s.lt p q:=by
 unfold aa.lt fC aa.en oY;rw[h,e];simp only[List.cons_append,List.nil_append,lexB,if_true];by_cases hl:(p.ed.length:Int)=q.ed.length
 ·rw[if_neg (by omega),if_pos hl,yd]
 ·rw[if_pos (by omega),if_neg hl,decide_eq_true_eq];omega
def oX(s:aa)(p q:U):Int:=if ey [p.st,s.en p] [q.st,s.en q]≠0 then ey [p.st,s.en p] [q.st,s.en q] else oY p q
theorem uV{s:aa}{p q:U}:oX s p q<0↔s.lt p q:=by
 unfold oX;by_cases h:[p.st,s.en p]=[q.st,s.en q]
 ·rw[if_neg (by rw[Decidable.not_not];exact uU.2 h)]
  simp only[List.cons.injEq,and_true] at h;unfold aa.lt fC oY;rw[h.1,h.2];simp only[List.cons_append,List.nil_append,lexB,if_true];by_cases hl:(p.ed.length:Int)=q.ed.length
  ·rw[if_neg (by omega),if_pos hl,yd]
  ·rw[if_pos (by omega),if_neg hl,decide_eq_true_eq];omega
 ·rw[if_pos (by intro e;exact h (uU.1 e)),yd]
  unfold aa.lt fC;simp only[List.cons_append,List.nil_append,lexB];simp only[List.cons.injEq,and_true] at h;by_cases h1:p.st=q.st
  ·rw[if_pos h1,if_pos h1,if_neg (fun e=>h ⟨h1,e⟩),if_neg (fun e=>h ⟨h1,e⟩)]
  ·rw[if_neg h1,if_neg h1]
structure iJ(s:aa)(list:List U)(cl:List Int)(nc i:Nat)(M:List (Option U)):Prop where
 len:M.length=nc
 no:∀c,c<nc->M.getD c none=none->∀k,i<=k->k<list.length->cl.getD k 0≠c
 yes:∀c p,c<nc->M.getD c none=some p->∃m,i<=m/\m<list.length/\cl.getD m 0=c/\p=list.getD m U.zero/\∀k,i<=k->k<list.length->cl.getD k 0=c->¬s.lt (list.getD k U.zero) p
theorem iJ.zero{s:aa}{list:List U}{cl:List Int}{nc:Nat}:iJ s list cl nc list.length (List.replicate nc none):=by
 refine⟨List.length_replicate,fun c _ _ k h1 h2=>by omega,fun c p hc h=>?_⟩;rw[List.getD_eq_getElem?_getD,List.getElem?_replicate] at h;split at h<;>cases h
theorem Mo{α:Type}{l:List (Option α)}{i k:Nat}{v:Option α}(hi:i<l.length):(l.set i v).getD k none=if k=i then v else l.getD k none:=by
 by_cases h:k=i
 ·subst h;rw[if_pos rfl,List.getD_eq_getElem?_getD,List.getElem?_set_self hi];rfl
 ·rw[if_neg h,List.getD_eq_getElem?_getD,List.getElem?_set_ne (Ne.symm h),List.getD_eq_getElem?_getD]
theorem iJ.set{s:aa}{list:List U}{cl:List Int}{nc i c:Nat}{M:List (Option U)}(h:iJ s list cl nc (i+1) M)(hi:i<list.length)(hc:cl.getD i 0=c)(hcn:c<nc)(hp:∀p,M.getD c none=some p->s.lt (list.getD i U.zero) p):iJ s list cl nc i (M.set c (some (list.getD i U.zero))):=by
 have hl:=h.len;refine⟨by rw[List.length_set];exact hl,fun d hd h1 k h2 h3=>?_,fun d p hd h1=>?_⟩
 ·rw[Mo (by omega)] at h1
  split at h1
  ·cases h1
  ·by_cases hk:k=i
   ·subst hk;omega
   ·exact h.no d hd h1 k (by omega) h3
 ·rw[Mo (by omega)] at h1
  split at h1
  ·rename_i e
   subst e;injection h1 with h1
   subst h1;refine⟨i,Nat.le_refl _,hi,hc,rfl,fun k h2 h3 h4=>?_⟩;by_cases hk:k=i
   ·subst hk;exact ra
   ·cases hM:M.getD d none with
    | none=>exact absurd h4 (h.no d hd hM k (by omega) h3)
    | some q =>
     obtain⟨_,_,_,_,_,h9⟩:=h.yes d q hd hM;exact fun hlt=>h9 k (by omega) h3 h4 (lt_trans hlt (hp q hM))
  ·obtain⟨m,h5,h6,h7,h8,h9⟩:=h.yes d p hd h1
   exact⟨m,by omega,h6,h7,h8,fun k h2 h3 h4=>h9 k (by
    by_cases hk:k=i
    ·subst hk;omega
    ·omega) h3 h4⟩
theorem iJ.bW{s:aa}{list:List U}{cl:List Int}{nc i c:Nat}{M:List (Option U)}(h:iJ s list cl nc (i+1) M)(hc:cl.getD i 0=c)(hcn:c<nc){q:U}(hq:M.getD c none=some q)(hp:¬s.lt (list.getD i U.zero) q):iJ s list cl nc i M:=by
 refine⟨h.len,fun d hd h1 k h2 h3=>?_,fun d p hd h1=>?_⟩
 ·by_cases hk:k=i
  ·subst hk
   intro e;have:d=c:=by omega
   subst this;rw[hq] at h1;cases h1
  ·exact h.no d hd h1 k (by omega) h3
 ·obtain⟨m,h5,h6,h7,h8,h9⟩:=h.yes d p hd h1
  refine⟨m,by omega,h6,h7,h8,fun k h2 h3 h4=>?_⟩;by_cases hk:k=i
  ·subst hk
   have:d=c:=by omega
   subst this;rw[hq] at h1;injection h1 with h1
   subst h1;exact hp
  ·exact h9 k (by omega) h3 h4
structure jr(s:aa)(list:List U)(cl:List Int)(nc:Nat)(K:List U):Prop where
 len:K.length=nc
 lt:∀i,i<list.length->0<=cl.getD i 0/\cl.getD i 0<nc
 ex:∀c,c<nc->∃m,m<list.length/\cl.getD m 0=c/\K.getD c U.zero=list.getD m U.zero
 min:∀k c,k<list.length->c<nc->cl.getD k 0=c->¬s.lt (list.getD k U.zero) (K.getD c U.zero)
theorem iJ.done{s:aa}{list:List U}{cl:List Int}{nc:Nat}{M:List (Option U)}(h:iJ s list cl nc 0 M)(hlt:∀i,i<list.length->0<=cl.getD i 0/\cl.getD i 0<nc)(hex:∀c,c<nc->∃m,m<list.length/\cl.getD m 0=c):∃K,M=K.map some/\jr s list cl nc K:=by
 have hs:∀c,c<nc->∃p,M.getD c none=some p:=fun c hc=>by
  cases hM:M.getD c none with
  | none =>
   obtain⟨m,h1,h2⟩:=hex c hc;exact absurd h2 (h.no c hc hM m (Nat.zero_le _) h1)
  | some p=>exact⟨p,rfl⟩
 have hl:=h.len
 have hk:∀c,c<nc->(M.map fun o=>o.getD U.zero).getD c U.zero=(M.getD c none).getD U.zero:=fun c hc=>by
  rw[aN (by rw[List.length_map];omega),List.getElem_map,aN (by omega)]
 refine⟨M.map fun o=>o.getD U.zero,?_,by rw[List.length_map,hl],hlt,fun c hc=>?_,fun k c h1 h2 h3=>?_⟩
 ·refine List.ext_getElem (by simp) fun c h1 h2=>?_
  obtain⟨p,hp⟩:=hs c (by omega);rw[aN h1] at hp;simp[hp]
 ·obtain⟨p,hp⟩:=hs c hc
  obtain⟨m,_,h6,h7,h8,_⟩:=h.yes c p hc hp;exact⟨m,h6,h7,by rw[hk c hc,hp];exact h8⟩
 ·obtain⟨p,hp⟩:=hs c h2
  obtain⟨_,_,_,_,_,h9⟩:=h.yes c p h2 hp;rw[hk c h2,hp];exact h9 k (Nat.zero_le _) h1 h3
theorem jr.get{s:aa}{list:List U}{cl:List Int}(hc:iH s list cl){nc:Nat}{K:List U}(h:jr s list cl nc K){i:Nat}(hi:i<list.length) :
  ∃c:Nat,cl.getD i 0=c/\c<nc/\s.eqv (list.getD i U.zero) (K.getD c U.zero):=by
 have:=h.lt i hi;obtain⟨m,h1,h2,h3⟩:=h.ex (cl.getD i 0).toNat (by omega);refine⟨(cl.getD i 0).toNat,by omega,by omega,?_⟩;rw[h3];exact(hc.eq i m hi h1).1 (by omega)
theorem jr.ae{s:aa}(hok:s.ok=true){list:List U}(hA:dT s list){cl:List Int}(hc:iH s list cl){nc:Nat}{K:List U}(h:jr s list cl nc K){O:List Int}(hO:O.Perm (bB nc))(hs:O.Pairwise fun a b=>¬s.lt (K.getD b.toNat U.zero) (K.getD a.toNat U.zero)) :
  s.cQ (O.map fun c=>K.getD c.toNat U.zero):=by
 have hin:∀c∈O,∃d:Nat,c=d/\d<nc:=fun c hcO=>by
  have:=hO.mem_iff.1 hcO;unfold bB at this;obtain⟨d,hd,rfl⟩:=List.mem_map.1 this;exact⟨d,rfl,List.mem_range.1 hd⟩
 have hall:∀d:Nat,d<nc->(d:Int)∈O:=fun d hd=>hO.mem_iff.2 (List.mem_map.2 ⟨d,List.mem_range.2 hd,rfl⟩)
 have hkk:∀c d:Nat,c<nc->d<nc->s.eqv (K.getD c U.zero) (K.getD d U.zero)->c=d:=fun c d h1 h2 e=>by
  obtain⟨m,a1,a2,a3⟩:=h.ex c h1;obtain⟨n,b1,b2,b3⟩:=h.ex d h2;rw[a3,b3] at e;have:=(hc.eq m n a1 b1).2 e;omega
 have hsp:∀c:Nat,c<nc->s.sp (K.getD c U.zero):=fun c h1=>by
  obtain⟨m,a1,_,a3⟩:=h.ex c h1;rw[a3];exact hA.at' a1
 have hnd:O.Nodup:=hO.nodup_iff.2 (by
  unfold bB;rw[List.nodup_iff_pairwise_ne,List.pairwise_map]
  exact List.pairwise_lt_range.imp fun {a b} h e=>by omega)
 refine⟨fun p hp=>?_,?_,fun p hp q he hlt=>?_,fun p hp=>?_⟩
 ·obtain⟨c,hcO,rfl⟩:=List.mem_map.1 hp
  obtain⟨d,rfl,hd⟩:=hin c hcO;exact hsp d hd
 ·rw[List.pairwise_map]
  refine List.Pairwise.imp_of_mem ?_ (List.Pairwise.and hnd hs);intro a b ha hb hh;obtain⟨c,rfl,hc'⟩:=hin a ha;obtain⟨d,rfl,hd⟩:=hin b hb;by_cases hl:s.lt (K.getD (c:Int).toNat U.zero) (K.getD (d:Int).toNat U.zero)
  ·exact hl
  ·have:=lt_eq hl hh.2
   simp only[Int.toNat_natCast] at this;have:=hkk c d hc' hd (by rw[this];exact .refl (hsp d hd));exact absurd (by omega) hh.1
 ·obtain⟨c,hcO,rfl⟩:=List.mem_map.1 hp
  obtain⟨d,rfl,hd⟩:=hin c hcO;simp only[Int.toNat_natCast] at he hlt;obtain⟨y,hy⟩:=(nB hok he).2.2.2;obtain⟨k,hk,rfl⟩:=ff (d:=U.zero) (hA.a q y hy);obtain⟨m,a1,a2,a3⟩:=h.ex d hd;rw[a3] at he;have e:=(hc.eq m k a1 hk).2 he;exact h.min k d hk hd (by omega) hlt
 ·obtain⟨y,hy⟩:=hp
  obtain⟨k,hk,rfl⟩:=ff (d:=U.zero) (hA.a p y hy);obtain⟨c,_,h2,h3⟩:=h.get hc hk;exact⟨_,List.mem_map.2 ⟨(c:Int),hall c h2,rfl⟩,by simpa using h3⟩
theorem jr.no{s:aa}(_:s.ok=true){list:List U}(_:dT s list){cl:List Int}(hc:iH s list cl){nc:Nat}{K:List U}(h:jr s list cl nc K){O:List Int}(hL:s.cQ (O.map fun c=>K.getD c.toNat U.zero)){B:List Int}(hB:∀x,x<O.length->B.getD (O.getD x 0).toNat 0=x)(hall:∀d:Nat,d<nc->(d:Int)∈O)
  {k:Nat} (hk:k<list.length):∃c:Nat,cl.getD k 0=c/\c<nc/\∃x:Nat,B.getD c 0=x/\x<O.length/\O.getD x 0=c/\s.no (O.map fun c=>K.getD c.toNat U.zero) (list.getD k U.zero)=x:=by
 obtain⟨c,h1,h2,h3⟩:=h.get hc hk;obtain⟨x,hx,hxe⟩:=ff (d:=(0:Int)) (hall c h2);have hb:=hB x hx;rw[hxe,Int.toNat_natCast] at hb;refine⟨c,h1,h2,x,hb,hx,hxe,hL.vP (by rw[List.length_map];exact hx) ?_⟩
 have:(O.map fun c=>K.getD c.toNat U.zero).getD x U.zero=K.getD c U.zero:=by
  rw[aN (by rw[List.length_map];exact hx),List.getElem_map,<-aN (d:=0) hx,hxe,Int.toNat_natCast]
 rw[this];exact h3
end Go.D3
namespace Go.D3
open Go
def nw(n:Int):UInt8:=UInt8.ofNat n.toNat
def zb(l:List Int):List UInt8:=l.map nw++[255]
def sR(l:List (List Int)):List UInt8:=l.flatMap zb
def oB(l:List Int):Prop:=∀x∈l,0<=x/\x<255
theorem EK{a b:Int}(ha : 0<=a/\a<255)(hb : 0<=b/\b<255)(h:nw a=nw b):a=b:=by
 have:=congrArg UInt8.toNat h;simp only[nw,UInt8.toNat_ofNat'] at this;omega
theorem Hu:∀{a b:List Int},oB a->oB b->a.map nw=b.map nw->a=b
 | [],[],_,_,_=>rfl
 | [],_::_,_,_,h=>by cases h
 | _::_,[],_,_,h=>by cases h
 | x::a,y::b,ha,hb,h=>by
  simp only[List.map_cons,List.cons.injEq] at h;rw[EK (ha x List.mem_cons_self) (hb y List.mem_cons_self) h.1,Hu (fun z hz=>ha z (List.mem_cons_of_mem _ hz)) (fun z hz=>hb z (List.mem_cons_of_mem _ hz)) h.2]
def kL(p:U):List UInt8:=sR [[p.st],p.ed]
theorem Wl{p q:U}(hp:oB (p.st::p.ed))(hq:oB (q.st::q.ed))(h:kL p=kL q):p=q:=by
 unfold kL sR zb at h;simp only[List.flatMap_cons,List.flatMap_nil,List.map_cons,List.map_nil,List.cons_append,List.nil_append,List.append_nil,List.cons.injEq,true_and] at h;have e1:=EK (hp _ List.mem_cons_self) (hq _ List.mem_cons_self) h.1;have e2:=Hu (fun z hz=>hp z (List.mem_cons_of_mem _ hz)) (fun z hz=>hq z (List.mem_cons_of_mem _ hz)) (List.append_inj_left' h.2 rfl);cases p;cases q;simp only at e1 e2;rw[e1,e2]
theorem tY{s:aa}(hs:di s){p:U}(hp:s.sp p):oB (p.st::p.ed):=by
 obtain⟨y,hy⟩:=hp;obtain⟨h1,h2,h3⟩:=bP.1 hy;have h8:=hs.n8;have hf:=hs.f8;intro x hx;rcases List.mem_cons.1 hx with rfl | hx
 ·omega
 ·obtain⟨i,hi,rfl⟩:=List.getElem_of_mem hx
  have:=(qT h3).2 i hi;rw[aN hi] at this;omega
def mL(ks:Nat->List UInt8)(n:Nat):List (List UInt8×Int):=(List.range n).map fun j=>(ks j,(j:Int))
theorem Wr{ks:Nat->List UInt8}{n:Nat}:(mL ks n).length=n:=by simp[mL]
theorem Ws{ks:Nat->List UInt8}{n:Nat}(h:∀j,j<n->ks j≠ks n):gG (mL ks n) (ks n) (n:Int)=mL ks (n+1):=by
 have:eD (mL ks n) (ks n)=none:=by
  unfold eD;rw[List.findIdx?_eq_none_iff];intro e he;obtain⟨j,hj,rfl⟩:=List.mem_map.1 he;have:=h j (List.mem_range.1 hj);simp only[beq_eq_false_iff_ne,ne_eq];exact fun e=>this e.symm
 unfold gG;rw[this];simp only;unfold mL;rw[List.range_succ,List.map_append];rfl
theorem Wq{ks:Nat->List UInt8}{n i:Nat}(hi:i<n)(h:∀j,j<n->ks j=ks i->j=i)(z:Int):jH (mL ks n) (ks i) z=i:=by
 unfold jH;cases hf:(mL ks n).find? fun e=>ks i == e.1 with
 | none =>
  rw[List.find?_eq_none] at hf;exact absurd (by simp) (hf (ks i,(i:Int)) (List.mem_map.2 ⟨i,List.mem_range.2 hi,rfl⟩))
 | some e =>
  have h1:=List.find?_some hf;have h2:=List.mem_of_find?_eq_some hf;obtain⟨j,hj,rfl⟩:=List.mem_map.1 h2;have:j=i:=h j (List.mem_range.1 hj) (by have:=h1;simp only[beq_iff_eq] at this;exact this.symm);subst this;rfl
def qu(list:List U)(n:Nat):List (List UInt8×Int):=mL (fun j=>kL (list.getD j U.zero)) n
theorem EA{s:aa}(hs:di s){list:List U}(hv:∀p∈list,s.sp p)(hn:list.Nodup){i j:Nat}(hi:i<list.length)(hj:j<list.length)(h:kL (list.getD i U.zero)=kL (list.getD j U.zero)):i=j :=
 getD_inj hn hi hj (Wl (tY hs (hv _ (dv hi))) (tY hs (hv _ (dv hj))) h)
theorem Oe{s:aa}(hs:di s){list:List U}(hv:∀p∈list,s.sp p)(hn:list.Nodup){i:Nat}(hi:i<list.length):gG (qu list i) (kL (list.getD i U.zero)) (i:Int)=qu list (i+1) :=
 Ws (ks:=fun j=>kL (list.getD j U.zero)) fun j hj e=>by have:=EA hs hv hn (show j<list.length by omega) hi e;omega
theorem Ez{s:aa}(hs:di s){list:List U}(hv:∀p∈list,s.sp p)(hn:list.Nodup){p:U}(hp:p∈list):∃i:Nat,i<list.length/\list.getD i U.zero=p/\jH (qu list list.length) (kL p) 0=i:=by
 obtain⟨i,hi,rfl⟩:=ff (d:=U.zero) hp;exact⟨i,hi,rfl,Wq (ks:=fun j=>kL (list.getD j U.zero)) hi (fun j hj e=>EA hs hv hn hj hi e) 0⟩
end Go.D3
namespace Go.D3
open Go Proofs
set_option maxHeartbeats 4000000
set_option maxRecDepth 100000
theorem O0{a b:List Int}{i:Nat}(ha:i<a.length)(hb:i<b.length)(h:a.getD i 0=b.getD i 0)(hc:ey a b=ey (a.drop i) (b.drop i)):ey a b=ey (a.drop (i+1)) (b.drop (i+1)):=by
 rw[hc];rw[aN ha,aN hb] at h;unfold ey;rw[List.drop_eq_getElem_cons ha,List.drop_eq_getElem_cons hb];simp only[lexB,h,if_true,List.cons.injEq,true_and]
theorem Fb{x y:Int}{a b:List Int}(h:x≠y):ey (x::a) (y::b)=if x<y then -1 else 1:=by
 unfold ey;simp only[lexB,decide_eq_true_eq,List.cons.injEq,h,false_and,if_false]
theorem OZ{x:Int}{a:List Int}:ey (x::a) []=1:=by simp[ey,lexB]
theorem O1{x:Int}{a:List Int}:ey [] (x::a)=-1:=by simp[ey,lexB]
def Cd:List Nat:=[0,1,4,5,7,8]
def KB:Sl:=ah Tryz.types Tryz.f184 Cd []
theorem T3:aC Tryz.prog Tryz.f184 Cd KB 2=true:=by decide +kernel
theorem AM[Mode](a b:List Int)(hl:a.length<=1048576)(_:b.length<=1048576):aw Tryz.prog 184 [.v (ints a),.v (ints b)] (.int .i64 (ey a b)):=by
 refine aK Tryz.func184 T3 ?_;unfold KB ah Cd;simp only[go_sem];refine aE [3] (fun i:Nat=>[(5,.int .i64 i)]) (fun i=>i<=a.length/\i<=b.length/\ey a b=ey (a.drop i) (b.drop i)) (fun i=>a.length-i) 0 (by simp only[go_sem];rfl) ⟨Nat.zero_le _,Nat.zero_le _,rfl⟩ rfl ?_;rintro i ⟨hi,hj,hc⟩;simp only[go_sem];refine⟨fun h1=>⟨fun h2=>?_,fun h2=>?_⟩,fun h1=>?_⟩
 ·have e:i=b.length:=by omega
  rw[hc,List.drop_of_length_le (show b.length<=i by omega),List.drop_eq_getElem_cons h1,OZ]
 ·rw[beq_eq_false_iff_ne] at h2
  have h3:i<b.length:=by omega
  refine⟨h1,h3,fun h4=>⟨h1,h3,fun h5=>?_,fun h5=>?_⟩,fun h4=>?_⟩
  all_goals(try rw[bne_iff_ne] at h4)
  ·rw[aN h1,aN h3] at h4 h5
   rw[hc,List.drop_eq_getElem_cons h1,List.drop_eq_getElem_cons h3,Fb h4,if_pos h5]
  ·rw[aN h1,aN h3] at h4 h5
   rw[hc,List.drop_eq_getElem_cons h1,List.drop_eq_getElem_cons h3,Fb h4,if_neg h5]
  ·rw[bne_eq_false_iff_eq] at h4
   exact⟨i+1,⟨h1,h3,O0 h1 h3 h4 hc⟩,by omega,by rw[aL h1 (by simp only[maxLen];omega)]⟩
 ·have e:i=a.length:=by omega
  refine⟨fun h2=>?_,fun h2=>?_⟩
  ·rw[hc,List.drop_of_length_le (show a.length<=i by omega),List.drop_eq_getElem_cons (show i<b.length by omega),O1]
  ·rw[hc,List.drop_of_length_le (show a.length<=i by omega),List.drop_of_length_le (show b.length<=i by omega)]
   simp[ey,lexB]
def CJ:List Nat:=[0,1,4]
def K8:Sl:=ah Tryz.types Tryz.f207 CJ []
theorem UA:aC Tryz.prog Tryz.f207 CJ K8 2=true:=by decide +kernel
theorem Yf(a b:List Int)(hl:a.length<=1048576)(hm:b.length<=1048576):aw Tryz.prog 207 [.v (ints a),.v (ints b)] (.bool (a == b)):=by
 refine aK Tryz.func207 UA ?_;unfold K8 ah CJ;simp only[go_sem];refine an (AM a b hl hm) rfl (.inl rfl) ?_;simp only[go_sem];by_cases h:a=b
 ·rw[uU.2 h];simp[h]
 ·rw[show(ey a b == 0)=false from beq_eq_false_iff_ne.2 fun e=>h (uU.1 e),show(a == b)=false from beq_eq_false_iff_ne.2 h]
def Ce:List Nat:=[0,1,4,2,3,5]
def KC:Sl:=ah Tryz.types Tryz.f180 Ce []
theorem T4:aC Tryz.prog Tryz.f180 Ce KC 2=true:=by decide +kernel
theorem JC[Mode](p q:U)(hl:p.ed.length<=1048576)(hm:q.ed.length<=1048576):aw Tryz.prog 180 [.v (U.d p),.v (U.d q)] (.int .i64 (oY p q)):=by
 refine aK Tryz.func180 T4 ?_;unfold KC ah Ce;simp only[go_sem];rw[wrap_small (by omega) (by omega)];refine⟨fun h=>?_,fun h=>?_⟩
 ·unfold oY
  rw[if_pos (by rw[bne_iff_ne] at h;exact h)]
 ·unfold oY
  rw[if_neg (by rw[bne_eq_false_iff_eq] at h;omega)];refine an (AM p.ed q.ed hl hm) rfl (.inl rfl) ?_;simp only[go_sem]
def mi(ll:List (List Int)):List Int:=ll.flatMap fun l=>l++[255]
theorem QE{ll:List (List Int)}{l:List Int}:mi (ll++[l])=mi ll++l++[255]:=by simp[mi]
theorem QD{ll:List (List Int)}:(mi ll).map nw=sR ll:=by
 induction ll with
 | nil=>rfl
 | cons l r ih =>
  show((l++[255])++mi r).map nw=zb l++sR r;rw[List.map_append,ih,List.map_append];rfl
theorem QC{ll:List (List Int)}(h:∀l∈ll,l.length<=64):(mi ll).length<=ll.length*65:=by
 induction ll with
 | nil=>exact Nat.le_refl _
 | cons l r ih =>
  have h1:=h l List.mem_cons_self;have h2:=ih fun m hm=>h m (List.mem_cons_of_mem _ hm)
  show((l++[255])++mi r).length<=_;simp only[List.length_append,List.length_cons,List.length_nil];omega
theorem abp{n:Int}(h : 0<=n/\n<255):IntKind.u8.wrap n=n:=iG ⟨by simp only[IntKind.min,IntKind.signed];simpa using h.1,by simp only[IntKind.max,IntKind.signed,IntKind.bits];simp;omega⟩
def Ct:List Nat:=[0,2,3,5,7,9,10,11,15,16,17]
def KS:Sl:=ah Tryz.types Tryz.f206 Ct []
theorem Uk:aC Tryz.prog Tryz.f206 Ct KS 1=true:=by decide +kernel
theorem X5(ll:List (List Int))(hs:∀l∈ll,oB l/\l.length<=64)(hl:ll.length<=64):aw Tryz.prog 206 [.v (aF ll)] (.str (sR ll)):=by
 have hb:=fun i=>QC (ll:=ll.take i) fun l hm=>(hs l (List.mem_of_mem_take hm)).2
 refine aK Tryz.func206 Uk ?_;unfold KS ah Ct;simp only[go_sem];refine aE [3,4,8,9,10] (fun(i:Nat)=>[(7,.int .i64 i),(2,.o (bytes (mi (ll.take i))))]) (fun i=>i<=ll.length) (fun i=>ll.length-i) 0 (by simp only[go_sem];rfl) (Nat.zero_le _) rfl ?_;intro i hi;have hbi:=hb i;rw[List.length_take] at hbi;simp only[go_sem];refine⟨fun h1=>⟨h1,?_⟩,fun h1=>?_⟩
 ·have hm:ll.getD i []∈ll:=dv h1
  obtain⟨hsm,hl64⟩:=hs _ hm;refine aE [4] (fun(j:Nat)=>[(10,.int .i64 j),(2,.o (bytes (mi (ll.take i)++(ll.getD i []).take j)))]) (fun j=>j<=(ll.getD i []).length) (fun j=>(ll.getD i []).length-j) 0 (by simp only[go_sem];rfl) (Nat.zero_le _) (by simp only[go_sem,List.take_zero,List.append_nil];rfl) ?_;intro j hj;simp only[go_sem];refine⟨fun h2=>⟨h2,?_⟩,fun h2=>?_⟩
  ·rw[abp (hsm _ (dv h2))]
   refine⟨by rw[List.length_append,List.length_take];omega,j+1,h2,by omega,?_⟩;rw[aL h2 (by simp only[maxLen];omega),bN h2 0,List.append_assoc]
  ·rw[List.take_of_length_le (show(ll.getD i []).length<=j by omega)]
   refine⟨by rw[List.length_append];omega,i+1,h1,by omega,?_⟩;rw[aL h1 (by simp only[maxLen];omega),bN h1 [],QE]
 ·rw[List.take_of_length_le (by omega)]
  exact congrArg D.str QD
def CF:List Nat:=[0,1,4]
def K4:Sl:=ah Tryz.types Tryz.f173 CF []
theorem Uw:aC Tryz.prog Tryz.f173 CF K4 2=true:=by decide +kernel
theorem AP(x:Int)(ed:List Int)(hs:oB (x::ed))(hl:ed.length<=64):aw Tryz.prog 173 [.v (.int .i64 x),.v (ints ed)] (.str (kL ⟨x,ed⟩)):=by
 have h1:∀l∈[[x],ed],oB l/\l.length<=64:=fun l hm=>by
  simp only[List.mem_cons,List.not_mem_nil,or_false] at hm;rcases hm with rfl | rfl
  ·exact⟨fun y hy=>hs y (by simp only[List.mem_singleton] at hy;rw[hy];exact List.mem_cons_self),Nat.le_of_ble_eq_true rfl⟩
  ·exact⟨fun y hy=>hs y (List.mem_cons_of_mem _ hy),hl⟩
 refine aK Tryz.func173 Uw ?_;unfold K4 ah CF;simp only[go_sem];refine an (X5 [[x],ed] h1 (Nat.le_of_ble_eq_true rfl)) rfl (.inl rfl) ?_;simp only[go_sem];rfl
end Go.D3
namespace Go.D3
open Go Proofs
set_option maxHeartbeats 4000000
set_option maxRecDepth 100000
theorem Ti{n i:Nat}(h:i<n):(bB n).getD i 0=i:=by
 unfold bB;rw[List.getD_eq_getElem?_getD,List.getElem?_map,List.getElem?_range h];rfl
def Cy:List Nat:=[0,2,3,4,8,9]
def KX:Sl:=ah Tryz.types Tryz.f181 Cy []
theorem Up:aC Tryz.prog Tryz.f181 Cy KX 1=true:=by decide +kernel
theorem JD(n:Nat)(h1:n<=1048576):aw Tryz.prog 181 [.v (.int .i64 n)] (ints (bB n)):=by
 have hm:(bB n).length<=maxLen:=by rw[eE];simp only[maxLen];omega
 refine aK Tryz.func181 Up ?_;unfold KX ah Cy;simp only[go_sem];refine⟨⟨Nat.le_refl _,by omega⟩,?_⟩;refine aE [3] (fun(i:Nat)=>[(2,.o (ints (fe (bB n) 0 i))),(5,.int .i64 i)]) (fun i=>i<=n) (fun i=>n-i) 0 (by simp only[go_sem];rfl) (Nat.zero_le _) ?_ ?_
 ·simp only[go_sem,O8,eE];rfl
 rintro i hi;simp only[go_sem];refine⟨fun h=>?_,fun h=>?_⟩
 ·have hi':i<n:=by simp only[List.length_replicate] at h;omega
  refine⟨by rw[Fi (by rw[eE];omega),eE];exact hi',by rw[Fi (by rw[eE];omega),eE];exact hi',i+1,by omega,by omega,?_⟩;have:=O7 (d:=0) (z:=0) (l:=bB n) (i:=i) (by rw[eE];omega);rw[Ti hi'] at this;rw[this,aL (n:=n) hi' (by simp only[maxLen];omega)]
 ·rw[O5 (by rw[eE];simp only[List.length_replicate] at h;omega)]
def Cn:List Nat:=[0,2]
def KM:Sl:=ah Tryz.types Tryz.f174 Cn []
theorem Ud:aC Tryz.prog Tryz.f174 Cn KM 1=true:=by decide +kernel
theorem XY(n:Nat)(h1:n<=1048576):aw Tryz.prog 174 [.v (.int .i64 n)] (ints (bB n)):=by
 refine aK Tryz.func174 Ud ?_;unfold KM ah Cn;simp only[go_sem];refine an (JD n h1) rfl (.inl (bT _)) ?_;simp only[go_sem]
def Cq:List Nat:=[0,1,4]
def KP:Sl:=ah Tryz.types Tryz.f208 Cq []
theorem Ug:aC Tryz.prog Tryz.f208 Cq KP 2=true:=by decide +kernel
theorem AN(J:List Int)(hU:UF J)(_:J.length<=1048576)(x:Nat)(hx:x<J.length) :
  aw Tryz.prog 208 [.io (.o (ints J)) (.o (ints (eO (x+1) J x).2)),.v (.int .i64 x)] (.int .i64 (rep J x)):=by
 refine aK Tryz.func208 Ug ?_;unfold KP ah Cq;simp only[go_sem];refine aE [] (fun(p:List Int×Nat×Nat)=>[(3,.o (ints p.1)),(1,.int .i64 p.2.1)]) (fun p=>UF p.1/\p.1.length=J.length/\p.2.1<J.length/\p.2.1<p.2.2/\eO p.2.2 p.1 p.2.1=eO (x+1) J x) (fun p=>p.2.1) (J,x,x+1) (by simp only[go_sem];rfl) ⟨hU,rfl,hx,Nat.lt_succ_self _,rfl⟩ rfl ?_;rintro⟨K,y,f⟩ ⟨hK,hKl,hy,hf,hr⟩;simp only at hK hKl hy hf hr;obtain⟨z,e1,hz⟩:=hK.get (show y<K.length by omega);obtain⟨u,e2,hu⟩:=hK.get (show z<K.length by omega);simp only[go_sem,e1,e2];refine⟨by omega,fun h=>?_,fun h=>?_⟩
 ·have hzy:z<y:=by
   rw[bne_iff_ne] at h;omega
  refine⟨by omega,by omega,by omega,by omega,by rw[List.length_set];omega,?_⟩;obtain⟨g,rfl⟩:∃g,f=g+1:=⟨f-1,by omega⟩;have aM:=Zf (f:=g) (J:=K) (x:=y) (by omega);rw[e1,Int.toNat_natCast,e2,Int.toNat_natCast] at aM;obtain⟨h1,h2⟩:=hK.Gt (show y<K.length by omega) e1 hzy e2;exact⟨(K.set y (u:Int),u,g),⟨h1,by show(K.set y (u:Int)).length=_;rw[List.length_set,hKl],by show u<_;omega,by show u<g;omega,by rw[<-aM];exact hr⟩,by show u<y;omega,by rw[kP (by omega),if_pos rfl]⟩
 ·rw[bne_eq_false_iff_eq] at h
  have e3:K.getD y 0=(y:Int):=by rw[e1,h]
  obtain⟨g,rfl⟩:∃g,f=g+1:=⟨f-1,by omega⟩;have e4:eO (g+1) K y=(y,K):=by rw[eO,if_pos e3]
  have e5:=(p4 (x+1) hU hx (Nat.lt_succ_self _)).1;rw[e4] at hr;rw[<-hr] at e5|-
  rw[<-e5];exact⟨rfl,rfl⟩
noncomputable def mg(J:List Int)(x y:Nat):List Int :=
 ((eO (y+1) (eO (x+1) J x).2 y).2).set (max (rep J x) (rep J y)) ((min (rep J x) (rep J y):Nat):Int)
theorem Qw{J:List Int}(hU:UF J){x y:Nat}(hx:x<J.length)(hy:y<J.length):UF (mg J x y)/\(mg J x y).length=J.length/\∀u,u<J.length->rep (mg J x y) u=if rep J u=max (rep J x) (rep J y) then min (rep J x) (rep J y) else rep J u:=by
 obtain⟨_,a2,a3,a4⟩:=p4 (x+1) hU hx (Nat.lt_succ_self _);obtain⟨_,b2,b3,b4⟩:=p4 (y+1) a2 (show y<_ by omega) (Nat.lt_succ_self _);have hr:∀u,u<J.length->rep (eO (y+1) (eO (x+1) J x).2 y).2 u=rep J u:=fun u hu=>(b4 u (by omega)).trans (a4 u hu)
 obtain⟨c1,c2⟩:=b2.join (show x<_ by omega) (show y<_ by omega);rw[hr x hx,hr y hy] at c1 c2;refine⟨c1,by unfold mg;rw[List.length_set];omega,fun u hu=>?_⟩;unfold mg;rw[c2 u (by omega),hr u hu]
def Co:List Nat:=[0,1,2,6,7,8]
def KN:Sl:=ah Tryz.types Tryz.f177 Co [(2,208)]
theorem Ue:aC Tryz.prog Tryz.f177 Co KN 3=true:=by decide +kernel
theorem XZ(J:List Int)(hU:UF J)(hl:J.length<=1048576)(x y:Nat)(hx:x<J.length)(hy:y<J.length) :
  aw Tryz.prog 177 [.io (.o (ints J)) (.o (ints (mg J x y))),.v (.int .i64 x),.v (.int .i64 y)] (.bool (rep J x != rep J y)):=by
 obtain⟨_,a2,a3,a4⟩:=p4 (x+1) hU hx (Nat.lt_succ_self _);obtain⟨_,b2,b3,b4⟩:=p4 (y+1) a2 (show y<_ by omega) (Nat.lt_succ_self _);refine aK Tryz.func177 Ue ?_;unfold KN ah Co;simp only[go_sem];refine yV (AN J hU hl x hx) rfl trivial rfl ?_;simp only[go_sem];refine yV (AN (eO (x+1) J x).2 a2 (by omega) y (by omega)) rfl trivial rfl ?_;rw[a4 y hy];simp only[go_sem];have hrx:=(hU.oq hx).1;have hry:=(hU.oq hy).1;have emax:max ((rep J x:Nat):Int) ((rep J y:Nat):Int)=((max (rep J x) (rep J y):Nat):Int):=by omega
 have emin:min ((rep J x:Nat):Int) ((rep J y:Nat):Int)=((min (rep J x) (rep J y):Nat):Int):=by omega
 rw[emax,emin,Int.toNat_natCast];refine⟨⟨by omega,by omega⟩,by omega,?_,rfl⟩;by_cases h:rep J x=rep J y
 ·simp[h]
 ·have h2:((rep J x:Nat):Int)≠(rep J y:Nat):=by omega
  rw[bne_iff_ne.2 h2,bne_iff_ne.2 h]
def CD:List Nat:=[0,2,3,5,6,7,8]
def K2:Sl:=ah Tryz.types Tryz.f179 CD []
theorem Uu:aC Tryz.prog Tryz.f179 CD K2 1=true:=by decide +kernel
theorem Yb(l:List Int)(hl:l.length<=1048576)(hb:∀i,i<l.length->0<=l.getD i 0/\l.getD i 0<1048576):aw Tryz.prog 179 [.v (ints l)] (.int .i64 (l.foldl (fun m k=>max m (k+1)) 0)):=by
 refine aK Tryz.func179 Uu ?_;unfold K2 ah CD;simp only[go_sem];refine aE [3] (fun(i:Nat)=>[(2,.int .i64 ((l.take i).foldl (fun m k=>max m (k+1)) 0)),(6,.int .i64 i)]) (fun i=>i<=l.length) (fun i=>l.length-i) 0 (by simp only[go_sem];rfl) (Nat.zero_le _) rfl ?_;intro i hi;simp only[go_sem];refine⟨fun h=>⟨h,i+1,h,by omega,?_⟩,fun h=>?_⟩
 ·have:=hb i h
  rw[bN h 0,List.foldl_append,aL h (by simp only[maxLen];omega),wrap_small (n:=l.getD i 0+1) (by omega) (by omega)];rfl
 ·rw[List.take_of_length_le (by omega)]
def B9:List Nat:=[0,2,3,4,5,9,10,11]
def Kx:Sl:=ah Tryz.types Tryz.f142 B9 []
theorem TZ:aC Tryz.prog Tryz.f142 B9 Kx 1=true:=by decide +kernel
theorem XP(l:List Int)(hl:l.length<=1048576)(hb:∀i,i<l.length->0<=l.getD i 0/\l.getD i 0<l.length) :
  aw Tryz.prog 142 [.v (ints l)] (ints ((List.range l.length).foldl (fun o x=>o.set (l.getD x 0).toNat (x:Int)) (List.replicate l.length 0))):=by
 have hlen:∀i,((List.range i).foldl (fun o x=>o.set (l.getD x 0).toNat (x:Int)) (List.replicate l.length 0)).length=l.length:=fun i=>by
  induction i with
  | zero=>simp
  | succ i ih=>rw[List.range_succ,List.foldl_append];show(List.set _ _ _).length=_;rw[List.length_set,ih]
 refine aK Tryz.func142 TZ ?_;unfold Kx ah B9;simp only[go_sem];refine⟨⟨Nat.le_refl _,by omega⟩,?_⟩;refine aE [3,4] (fun(i:Nat)=>[(2,.o (ints ((List.range i).foldl (fun o x=>o.set (l.getD x 0).toNat (x:Int)) (List.replicate l.length 0)))),(7,.int .i64 i)]) (fun i=>i<=l.length) (fun i=>l.length-i) 0 (by simp only[go_sem];rfl) (Nat.zero_le _) rfl ?_;intro i hi;simp only[go_sem];simp only[hlen];refine⟨fun h=>⟨h,hb i h,by have:=hb i h;omega,i+1,h,by omega,?_⟩,fun h=>by rw[show i=l.length by omega]⟩;rw[List.range_succ,List.foldl_append,aL h (by simp only[maxLen];omega)];rfl
end Go.D3
namespace Go.D3
open Go Proofs
set_option maxHeartbeats 4000000
set_option maxRecDepth 100000
def fh:Nat->List Int->List (Int×Int)
 | _,[]=>[]
 | k,x::r=>(x,(k:Int))::fh (k+1) r
theorem y5:∀{k:Nat}{s:List Int},(fh k s).length=s.length
 | _,[]=>rfl
 | k,_::r=>by show(fh (k+1) r).length+1=_;rw[y5];rfl
theorem GL:∀{k:Nat}{s:List Int}{x:Int},fh k (s++[x])=fh k s++[(x,((k+s.length:Nat):Int))]
 | _,[],_=>rfl
 | k,y::r,x=>by
  show(y,(k:Int))::fh (k+1) (r++[x])=(y,(k:Int))::(fh (k+1) r++_);rw[GL,List.length_cons,show k+1+r.length=k+(r.length+1) by omega]
theorem y6:∀{k:Nat}{s:List Int}{x:Int},x ∉ s->eD (fh k s) x=none/\lD (fh k s) x=false
 | _,[],_,_=>⟨rfl,rfl⟩
 | k,y::r,x,h=>by
  have hxy:(x == y)=false:=beq_eq_false_iff_ne.2 fun e=>h (e▸List.mem_cons_self)
  obtain⟨h1,h2⟩:=y6 (k:=k+1) (s:=r) (x:=x) fun hm=>h (List.mem_cons_of_mem _ hm)
  constructor
  ·show eD ((y,(k:Int))::fh (k+1) r) x=none
   unfold eD at h1|-
   rw[List.findIdx?_cons];simp only[hxy,h1,Option.map_none,Bool.false_eq_true,if_false]
  ·show lD ((y,(k:Int))::fh (k+1) r) x=false
   unfold lD at h2|-
   rw[List.any_cons,hxy,h2];rfl
theorem GK:∀{k:Nat}{s:List Int}{x z:Int},x∈s->jH (fh k s) x z=((k+s.findIdx (·== x):Nat):Int)/\lD (fh k s) x=true
 | k,y::r,x,z,h=>by
  by_cases e:x=y
  ·subst e
   constructor
   ·show jH ((x,(k:Int))::fh (k+1) r) x z=_
    unfold jH;rw[List.find?_cons,List.findIdx_cons];simp
   ·show lD ((x,(k:Int))::fh (k+1) r) x=true
    unfold lD;rw[List.any_cons];simp
  ·have hxy:(x == y)=false:=beq_eq_false_iff_ne.2 e
   have hyx:(y == x)=false:=beq_eq_false_iff_ne.2 (Ne.symm e);obtain⟨h1,h2⟩:=GK (k:=k+1) (s:=r) (x:=x) (z:=z) ((List.mem_cons.1 h).resolve_left e);constructor
   ·show jH ((y,(k:Int))::fh (k+1) r) x z=_
    unfold jH at h1|-
    rw[List.find?_cons,List.findIdx_cons];simp only[hxy,hyx,cond_false];rw[h1];omega
   ·show lD ((y,(k:Int))::fh (k+1) r) x=true
    unfold lD at h2|-
    rw[List.any_cons,hxy,h2];rfl
theorem Qs{s:List Int}{x:Int}(h:x ∉ s):gG (fh 0 s) x (s.length:Int)=fh 0 (s++[x]):=by
 unfold gG;rw[(y6 h).1,GL,Nat.zero_add]
theorem OX{p:List Int×List Int}{x:Int}(h:x∈p.1):j5 p x=(p.1,p.2++[((p.1.findIdx (·== x):Nat):Int)]):=by
 have hl:p.1.findIdx (·== x)<p.1.length:=List.findIdx_lt_length_of_exists ⟨x,h,by simp⟩;unfold j5 jF;rw[if_pos hl,if_neg (by omega)]
theorem OW{p:List Int×List Int}{x:Int}(h:x ∉ p.1):j5 p x=(p.1++[x],p.2++[(p.1.length:Int)]):=by
 have hl:¬p.1.findIdx (·== x)<p.1.length:=fun hl=>by
  have:=List.findIdx_getElem (w:=hl);have e:p.1[p.1.findIdx (·== x)]=x:=by simpa using this
  exact h (e▸List.getElem_mem hl)
 unfold j5 jF;rw[if_neg hl,if_pos (by omega)]
def oW(l:List Int)(i:Nat):List Int:=(eL (l.take i)).2++List.replicate (l.length-i) 0
theorem OU{l:List Int}{i:Nat}(h:i<=l.length):(oW l i).length=l.length:=by
 have:=(oV (L:=l) i h).len;unfold oW;rw[List.length_append,this,List.length_replicate];omega
theorem Fa{l:List Int}{i:Nat}{v:Int}(h:i<l.length)(hs:(eL (l.take (i+1))).2=(eL (l.take i)).2++[v]):(oW l i).set i v=oW l (i+1):=by
 have:=(oV (L:=l) i (by omega)).len;unfold oW;rw[List.set_append_right _ _ (by omega),this,Nat.sub_self,hs,show l.length-i=(l.length-(i+1))+1 by omega,List.replicate_succ,List.set_cons_zero,List.append_assoc];rfl
def Cx:List Nat:=[0,2,3,4,5,6,7,8,13,14,15]
def KW:Sl:=ah Tryz.types Tryz.f209 Cx []
theorem Uo:aC Tryz.prog Tryz.f209 Cx KW 1=true:=by decide +kernel
theorem X8(l:List Int)(hl:l.length<=1048576):aw Tryz.prog 209 [.v (ints l)] (ints (eK l)):=by
 refine aK Tryz.func209 Uo ?_;unfold KW ah Cx;simp only[go_sem];refine⟨⟨Nat.le_refl _,by omega⟩,?_⟩;refine aE [4,5,6,7] (fun(i:Nat)=>[(2,.o (bI (D.int .i64) (D.int .i64) (fh 0 (eL (l.take i)).1))),(3,.o (ints (oW l i))),(10,.int .i64 i)]) (fun i=>i<=l.length) (fun i=>l.length-i) 0 (by simp only[go_sem];rfl) (Nat.zero_le _) ?_ ?_
 ·simp only[go_sem];rfl
 intro i hi;simp only[go_sem];have hI:=oV (L:=l) i hi;have hsl:=hI.sle hi;have hcl:=OU hi;refine⟨fun h=>?_,fun h=>?_⟩
 ·have hw:=aL h (show l.length<=maxLen by simp only[maxLen];omega)
  have hs:eL (l.take (i+1))=j5 (eL (l.take i)) (l.getD i 0):=by rw[bN h 0,yb]
  by_cases hm:l.getD i 0∈(eL (l.take i)).1
  ·obtain⟨g1,g2⟩:=GK (k:=0) (z:=0) hm
   rw[g1,g2,Nat.zero_add];rw[OX hm] at hs;refine⟨h,fun h2=>by(cases h2),fun _=>⟨by omega,by omega,i+1,h,by omega,?_⟩⟩;rw[hw,Fa h (by rw[hs]),hs]
  ·obtain⟨_,g2⟩:=y6 (k:=0) hm
   rw[g2];rw[OW hm] at hs;refine⟨h,fun _=>⟨by rw[y5];simp only[maxLen];omega,by omega,by omega,i+1,h,by omega,?_⟩,fun h2=>by(cases h2)⟩;rw[hw,y5,Fa h (by rw[hs]),Qs hm,hs]
 ·have e:i=l.length:=by omega
  unfold oW eK;rw[e,Nat.sub_self,List.replicate_zero,List.append_nil,List.take_length]
noncomputable def gU(J:List Int)(i:Nat):List Int:=(List.range i).map fun x:Nat=>((rep J x:Nat):Int)
def iL(J:List Int)(i:Nat):List Int:=(List.range i).foldl (fun K x=>(eO (x+1) K x).2) J
theorem Ec{J:List Int}(hU:UF J):∀i,i<=J.length->UF (iL J i)/\(iL J i).length=J.length/\∀u,u<J.length->rep (iL J i) u=rep J u
 | 0,_=>⟨hU,rfl,fun _ _=>rfl⟩
 | i+1,h=>by
  obtain⟨h1,h2,h3⟩:=Ec hU i (by omega);have e:iL J (i+1)=(eO (i+1) (iL J i) i).2:=by unfold iL;rw[List.range_succ,List.foldl_append];rfl
  obtain⟨_,a2,a3,a4⟩:=p4 (i+1) h1 (show i<_ by omega) (Nat.lt_succ_self _);rw[e];exact⟨a2,a3.trans h2,fun u hu=>(a4 u (by omega)).trans (h3 u hu)⟩
theorem qX{J:List Int}{i:Nat}:(gU J i).length=i:=by simp[gU]
theorem QL{J:List Int}{i x:Nat}(h:x<i):(gU J i).getD x 0=rep J x:=by
 unfold gU;rw[aN (by simpa using h)];simp
def Cp:List Nat:=[0,2,3,4,9,10]
def KO:Sl:=ah Tryz.types Tryz.f178 Cp [(2,208)]
theorem Uf:aC Tryz.prog Tryz.f178 Cp KO 1=true:=by decide +kernel
theorem X1(J:List Int)(hU:UF J)(hl:J.length<=1048576):aw Tryz.prog 178 [.io (.o (ints J)) (.o (ints (iL J J.length)))] (ints (eK (gU J J.length))):=by
 refine aK Tryz.func178 Uf ?_;unfold KO ah Cp;simp only[go_sem];refine⟨⟨Nat.le_refl _,by omega⟩,?_⟩;refine aE [3] (fun(i:Nat)=>[(2,.o (ints (gU J i++List.replicate (J.length-i) 0))),(5,.int .i64 i),(6,.o (ints (iL J i)))]) (fun i=>i<=J.length) (fun i=>J.length-i) 0 (by simp only[go_sem];rfl) (Nat.zero_le _) rfl ?_;intro i hi;obtain⟨h1,h2,h3⟩:=Ec hU i hi;simp only[go_sem];refine⟨fun h=>?_,fun h=>?_⟩
 ·refine yV (AN (iL J i) h1 (by omega) i (by omega)) rfl trivial rfl ?_
  rw[h3 i h];simp only[go_sem];have hlen:(gU J i++List.replicate (J.length-i) 0).length=J.length:=by rw[List.length_append,qX,List.length_replicate];omega
  rw[hlen];have e:iL J (i+1)=(eO (i+1) (iL J i) i).2:=by unfold iL;rw[List.range_succ,List.foldl_append];rfl
  have e2:(gU J i++List.replicate (J.length-i) 0).set i (rep J i:Int)=gU J (i+1)++List.replicate (J.length-(i+1)) 0:=by
   rw[List.set_append_right _ _ (by rw[qX];omega),qX,Nat.sub_self,show J.length-i=(J.length-(i+1))+1 by omega,List.replicate_succ,List.set_cons_zero];unfold gU;rw[List.range_succ,List.map_append,List.append_assoc];rfl
  refine⟨h,h,i+1,h,by omega,?_⟩;rw[e2,e,aL h (by simp only[maxLen];omega)]
 ·have e:i=J.length:=by omega
  subst e;rw[Nat.sub_self,List.replicate_zero,List.append_nil];refine an (X8 (gU J J.length) (by rw[qX];exact hl)) rfl (.inl (bT _)) ?_;simp only[go_sem]
end Go.D3
namespace Go.D3
open Go Proofs
set_option maxHeartbeats 4000000
set_option maxRecDepth 100000
def uz(s:aa)(o:List U):Prop:=s.nd.toNat<=o.length/\(∀j,s.nd.toNat<=j->j<o.length->(o.getD j U.zero).ed≠[])/\∀j,j<s.nd.toNat->(o.getD j U.zero).ed=[]
structure xm(s:aa)(o:List U):Prop where
 a:dT s o
 nd:o.Nodup
 len:o.length<=400
 f:uz s o
def Nn(s:aa)(rc:D)(gs:List D):Prop:=gs=[]/\∃l,rc=.o (.al l)/\((∃o,l=[ae U.d U.zero o,.aY]/\xm s o)\/∃m,l=[ae U.d U.zero [],.bf 181 (.agg [.str m])]/\¬s.fits)
def B7:List Nat:=[0,2,3,4,5,6,7,9,10,15,16,50,51,52]
def Kv:Sl:=ah Tryz.types Tryz.f172 B7 []
theorem TX:aC Tryz.prog Tryz.f172 B7 Kv 1=true:=by decide +kernel
theorem XN(s:aa)(hs:di s):bK Tryz.prog 172 [.ptr s.cells] [] (Nn s):=by
 have h0:=hs.n0;have h8:=hs.n8;have hf:=hs.f8;have hto:=hs.to;refine jc .tree Tryz.func172 TX ?_;unfold Kv ah B7;simp only[go_sem];refine aE [4] (fun(i:Nat)=>[(3,.o (ae U.d U.zero (iY i))),(10,.int .i64 i)]) (fun i=>(i:Int)<=s.nd) (fun i=>s.nd.toNat-i) 0 (by simp only[go_sem];rfl) h0 rfl ?_;intro i hi;simp only[go_sem];refine⟨fun h=>?_,fun h=>?_⟩
 ·rw[pF]
  exact⟨by omega,i+1,by omega,by omega,by rw[aL (n:=9) (by omega) (by decide),HN]⟩
 obtain rfl:i=s.nd.toNat:=by omega
 refine aE [6,7,8,11,12,13] (fun(p:Nat×List U)=>[(3,.o (ae U.d U.zero p.2)),(5,.int .i64 p.1)]) (fun p=>p.1<=p.2.length/\p.2.length<=400/\fL s p.2 p.1/\ju p.2 p.1 0/\uz s p.2) (fun p=>400-p.1) (0,iY s.nd.toNat) (by simp only[go_sem];rfl) ⟨Nat.zero_le _,by rw[pF];omega,HO hs,.zero,⟨by rw[pF];exact Nat.le_refl _,fun j h1 h2=>by rw[pF] at h2;omega,fun j hj=>by rw[aN (by rw[pF];exact hj)];simp[iY]⟩⟩ rfl ?_;clear hi h;rintro⟨i,o⟩ ⟨hi,hl,hI,hN,hF⟩;simp only at hi hl hI hN hF;simp only[go_sem];refine⟨fun h=>⟨h,h,fun h6=>?_,fun h6=>⟨h,h,?_⟩⟩,fun h=>?_⟩
 ·exact⟨(i+1,o),⟨h,hl,hI.ib (by omega),hN.mono (.inl (Nat.lt_succ_self _)),hF⟩,by show 400-(i+1)<400-i;omega,by rw[aL h (by simp only[maxLen];omega)]⟩
 ·obtain⟨y,hy⟩:=hI.at' h
  have hp6:=(bP.1 hy).2.1;rw[beq_eq_false_iff_ne] at h6;generalize hP:o.getD i U.zero=P at hy hp6 h6;have hP6:P.ed.length<6:=by omega
  have hend:=pW s P hto h0;rw[hy] at hend;simp only[lp] at hend;refine an hend rfl (.inl rfl) ?_;simp only[go_sem]
  refine aE [7,8] (fun(p:Nat×List U)=>[(3,.o (ae U.d U.zero p.2)),(13,.int .i64 p.1)]) (fun p=>p.1<=s.fr.length/\o.length<=p.2.length/\p.2.length<=400/\fL s p.2 i/\ju p.2 i p.1/\uz s p.2/\p.2.getD i U.zero=P /\
   ∀e:Nat,e<p.1->s.aO P=some (s.fr.getD e 0)->(⟨P.st,P.ed++[(e:Int)]⟩:U)∈p.2) (fun p=>s.fr.length-p.1) (0,o) (by simp only[go_sem];rfl) ⟨Nat.zero_le _,Nat.le_refl _,hl,hI,hN,hF,hP,fun e he=>absurd he (Nat.not_lt_zero _)⟩ rfl ?_
  rintro⟨k,q⟩ ⟨hk,hq1,hq2,hqI,hqN,hqF,hqP,hqc⟩;simp only at hk hq1 hq2 hqI hqN hqF hqP hqc;simp only[go_sem];refine⟨fun h2=>⟨h2,fun h3=>?_,fun h3=>?_⟩,fun h2=>?_⟩
  ·rw[bne_iff_ne] at h3
   refine⟨(k+1,q),⟨h2,hq1,hq2,hqI,hqN.mono (.inr ⟨rfl,Nat.le_succ k⟩),hqF,hqP,fun e he hE=>?_⟩,by show s.fr.length-(k+1)<s.fr.length-k;omega,by rw[aL h2 (by simp only[maxLen];omega)]⟩;by_cases hek:e=k
   ·subst hek
    rw[hy] at hE;injection hE with hE
    exact absurd hE.symm h3
   ·exact hqc e (by simp only at he;omega) hE
  ·rw[bne_eq_false_iff_eq] at h3
   have hE:=o5 (p:=P) (e:=k) (by rw[h3];exact hy) h2 hP6;have hadd:=hqI.add (by omega) hE;have hadN:=hqN.add (k:=k) (show i<q.length by omega);rw[hqP] at hadN;have hlen:(q++[(⟨P.st,P.ed++[(k:Int)]⟩:U)]).length=q.length+1:=by rw[List.length_append];rfl
   have hget:(q++[(⟨P.st,P.ed++[(k:Int)]⟩:U)]).getD i U.zero=P:=by rw[gL (by omega),if_neg (by omega),hqP]
   have hcc:∀e:Nat,e<k+1->s.aO P=some (s.fr.getD e 0)->(⟨P.st,P.ed++[(e:Int)]⟩:U)∈q++[(⟨P.st,P.ed++[(k:Int)]⟩:U)]:=fun e he hE=>by
    by_cases hek:e=k
    ·subst hek;simp
    ·exact List.mem_append_left _ (hqc e (by omega) hE)
   have hFF:uz s (q++[(⟨P.st,P.ed++[(k:Int)]⟩:U)]):=by
    refine⟨by rw[hlen];exact Nat.le_succ_of_le hqF.1,fun j h5 h6=>?_,fun j h5=>by have:=hqF.1;rw[gL (by omega),if_neg (by omega)];exact hqF.2.2 j h5⟩;rw[gL (by rw[hlen] at h6;omega)];split
    ·simp
    ·rw[hlen] at h6;exact hqF.2.1 j h5 (by omega)
   have hw:=aL h2 (show s.fr.length<=maxLen by simp only[maxLen];omega);refine⟨fun h7=>?_,fun h7=>?_⟩
   ·exact⟨_,_,⟨rfl,_,rfl,.inr ⟨_,rfl,HR hadN.nd hadd.v (by rw[hlen];omega)⟩⟩,rfl,rfl,trivial⟩
   ·rw[hqP]
    rw[beq_eq_false_iff_ne] at h7
    with_reducible (repeat' apply And.intro)
    all_goals(try(show i<q.length;omega))
    all_goals(
     try rw[hqP]
     refine an (kN P.ed (by omega)) rfl (.inl (bT _)) ?_;simp only[go_sem,hqP]
     with_reducible (repeat' apply And.intro)
     all_goals(first
      | exact⟨(k+1,_),⟨h2,by rw[hlen];omega,by rw[hlen];omega,hadd,hadN,hFF,hget,hcc⟩,by simp only;omega,by rw[hw]⟩
      | omega))
  ·exact⟨(i+1,q),⟨by show i+1<=q.length;omega,hq2,hqI.next fun e he hE=>by rw[hqP] at hE|-;exact hqc e (by omega) hE,hqN.mono (.inl (Nat.lt_succ_self _)),hqF⟩,by show 400-(i+1)<400-i;omega,by rw[aL h (by simp only[maxLen];omega)]⟩
 ·exact⟨_,_,⟨rfl,_,rfl,.inl ⟨o,rfl,hI.done (by omega),hN.nd,hl,hF⟩⟩,rfl,rfl,trivial⟩
end Go.D3
namespace Go.D3
open Go Proofs
set_option maxHeartbeats 4000000
set_option maxRecDepth 100000
@[go_sem] theorem acz{α β:Type}{f:α->D}{g:β->D}{l:List (α×β)}{ob:Nat->D}:mapOf ob (bI f g l)=some (mK f l,mV g l):=rfl
abbrev lU(list:List U):D:=bI D.str (D.int .i64) (qu list list.length)
abbrev MX(list:List U)(w:Nat)(p:U)(X Y:D)(J:List Int):List D:=[.box [.o (ints J)],.box [.int .i64 w],.box [.o (.ptr [lU list,X,Y])],.box p.cells]
abbrev abg:List D:=[.av 0 [(0,0)],.av 1 [(0,0)],.av 2 [(0,0)],.av 3 [(0,0)]]
def B4:List Nat:=[0,1,2,3,4]
def Ks:Sl:=ah Tryz.types Tryz.f176 B4 [(2,177)]
theorem TU:aC Tryz.prog Tryz.f176 B4 Ks 5=true:=by decide +kernel
theorem Yy(X Y:D)(s:aa)(hs:di s)(list:List U)(hv:∀p∈list,s.sp p)(hn:list.Nodup)(hl:list.length<=400)(J:List Int)(hU:UF J)(hJ:J.length=list.length)(w y:Nat)(p:U)(ed:List Int)(hw:w<list.length)(hy:y<list.length)(hq:list.getD y U.zero=⟨p.st,ed⟩) :
  fK Tryz.prog 176 [.sub 4 [],.av 0 [(0,0)],.av 1 [(0,0)],.av 2 [(0,0)],.av 3 [(0,0)]] [.box [.o (ints J)],.box [.int .i64 w],.box [.o (.ptr [lU list,X,Y])],.box p.cells,.o (ints ed)] (.o (.al []))
   [.box [.o (ints (mg J w y))],.box [.int .i64 w],.box [.o (.ptr [lU list,X,Y])],.box p.cells,.o (ints ed)]:=by
 refine rC .tree Tryz.func176 TU ?_;unfold Ks ah B4;simp only[go_sem];have hsp:s.sp ⟨p.st,ed⟩:=hq▸hv _ (dv hy);have h6:ed.length<=6:=by obtain⟨z,hz⟩:=hsp;exact(bP.1 hz).2.1
 refine an (AP p.st ed (tY hs hsp) (by omega)) rfl (.inl rfl) ?_;simp only[go_sem];obtain⟨y',hy',e1,e2⟩:=Ez hs hv hn (p:=⟨p.st,ed⟩) (hq▸dv hy);obtain rfl:y'=y:=getD_inj hn hy' hy (e1.trans hq.symm);rw[e2];refine lv (XZ J hU (by omega) w y' (by omega) (by omega)) trivial ?_;simp only[go_sem];exact⟨_,_,rfl,rfl,rfl,rfl,rfl⟩
def Nf(X Y:D)(s:aa)(list:List U)(w i:Nat)(W:U)(rc:D)(gs:List D):Prop:=∃J,rc=.o (.al [])/\gs=MX list w W X Y J/\dA s list J w i (W.ed.length+1)
def BZ:List Nat:=[0,1,2,3,4,6,7,8,10,11,12,13]
def Km:Sl:=ah Tryz.types Tryz.f175 BZ []
theorem TP:aC Tryz.prog Tryz.f175 BZ Km 5=true:=by decide +kernel
theorem XI(s:aa)(h:s.ok=true)(list:List U)(hA:dT s list)(hv:∀p∈list,s.sp p)(hn:list.Nodup)(hl:list.length<=400)(J:List Int)(w i:Nat)(hw:w<list.length)(hi:i<s.lf.length)(hJ:dA s list J w i 0)(X Y:D) :
  bK Tryz.prog 175 [.ptr s.cells,(list.getD w U.zero).d,(s.lf.getD i U.zero).d,(s.rt.getD i U.zero).d,(.fn 176 abg)] (MX list w (list.getD w U.zero) X Y J) (Nf X Y s list w i (list.getD w U.zero)):=by
 obtain⟨hk1,hlf,hrt⟩:=fj h;have hs:=gw hk1;have hto:=hs.to;obtain⟨y,hy⟩:=hA.at' hw;have hw6:=(bP.1 hy).2.1;obtain⟨z,hp,hq,aM⟩:=ok_eq h hi;have hp6:=(bP.1 hp).2.1;have hq6:=(bP.1 hq).2.1;generalize hW:list.getD w U.zero=W at hy hw6;generalize hLp:s.lf.getD i U.zero=p at hp aM hp6;generalize hRq:s.rt.getD i U.zero=q at hq aM hq6;refine jc .tree Tryz.func175 TP ?_;unfold Km ah BZ;simp only[go_sem];refine aE [10,11] (fun(p:Nat×Int×List Int)=>[(8,.int .i64 p.2.1),(9,.int .i64 p.1),(12,.box [.o (ints p.2.2)])]) (fun p=>p.1<=W.ed.length+1/\dA s list p.2.2 w i p.1/\(p.1<=W.ed.length->bw s.fr s.to W.st (W.ed.take p.1)=some p.2.1)) (fun p=>W.ed.length+1-p.1) (0,W.st,J) (by simp only[go_sem];rfl) ⟨Nat.zero_le _,hJ,fun _=>rfl⟩ rfl ?_;rintro⟨a,m,K⟩ ⟨ha,hK,hm⟩;simp only at ha hK hm;simp only[go_sem];have hwr:IntKind.i64.wrap ((a:Int)+(p.ed.length:Int))=((a+p.ed.length:Nat):Int):=by rw[wrap_small (by omega) (by omega)];omega
 simp only[hwr,Int.toNat_natCast];refine⟨fun hal=>⟨fun h1=>?_,bu (fun _=>Yf _ _ (by rw[List.length_drop,List.length_take];omega) (by omega)) rfl (fun h=>h) (.inl rfl) ?_⟩,fun hal=>⟨_,_,⟨K,rfl,rfl,by rw[show W.ed.length+1=a by omega];exact hK⟩,rfl,rfl,rfl,rfl,rfl,rfl,trivial⟩⟩
 ·simp only[Bool.and_eq_true,decide_eq_true_eq] at h1
  exact⟨by simp only[Bool.and_eq_true,decide_eq_true_eq];exact h1,by omega,h1.2⟩
 have hw7:IntKind.i64.wrap ((a:Int)+1)=((a+1:Nat):Int):=aL (n:=9) (by omega) (by decide)
 have hmid:∀_:a<W.ed.length,bw s.fr s.to W.st (W.ed.take (a+1))=some (s.to.getD (W.ed.getD a 0).toNat 0):=fun h5=>by
  have:=qN hy (i:=a+1) (by omega);rw[if_neg (by omega),Nat.add_sub_cancel] at this;exact this
 have hrg:∀_:a<W.ed.length,0<=W.ed.getD a 0/\W.ed.getD a 0<(s.to.length:Int):=fun h5=>by
  have:=(qT (bP.1 hy).2.2).2 a h5;exact⟨this.1,by omega⟩
 simp only[go_sem];refine⟨fun h1=>?_,fun h1=>?_⟩
 ·simp only[Bool.and_eq_true,decide_eq_true_eq,beq_iff_eq] at h1
  obtain⟨⟨e1,e0⟩,e2⟩:=h1;have htl:(W.ed.take a).length<=6:=by rw[List.length_take];omega
  have hll:(W.ed.take a++q.ed++W.ed.drop (a+p.ed.length)).length=W.ed.length-p.ed.length+q.ed.length:=by
   rw[List.length_append,List.length_append,List.length_take,List.length_drop];omega
  with_reducible (repeat' apply And.intro)
  all_goals(try omega)
  all_goals(
   refine an (kN (W.ed.take a) (by omega)) rfl (.inl (bT _)) ?_;simp only[go_sem];simp only[List.take_length,List.length_map]
   with_reducible (repeat' apply And.intro)
   all_goals(first
    | exact p6 _
    | omega
    | (simp only[List.length_append,List.length_take,List.length_drop];omega)
    | skip))
  all_goals(intro h8)
  all_goals(first
   | (have hK1:dA s list K w i (a+1):=hK.skip fun q' hlk=>by
       unfold aa.gk at hlk;rw[hW,hLp,hRq] at hlk;obtain⟨_,_,_,_,g3,_⟩:=hlk;rw[hll] at h8;omega
      exact⟨fun h5=>⟨h5,hrg h5,(a+1,s.to.getD (W.ed.getD a 0).toNat 0,K),⟨by simp only;omega,hK1,fun _=>hmid h5⟩,by simp only;omega,by rw[hw7]⟩,fun h5=>⟨(a+1,m,K),⟨by simp only;omega,hK1,fun h6=>by simp only at h6;omega⟩,by simp only;omega,by rw[hw7]⟩⟩)
   | (have hlen6:W.ed.length-p.ed.length+q.ed.length<=6:=by rw[hll] at h8;omega
      have hsw:=u6 hy hp hq aM e0 (hm hal) e1 e2 (by omega);obtain⟨j,hj,hjq⟩:=ff (d:=U.zero) (hA.a _ _ hsw);have hlk:s.gk (list.getD w U.zero) i a (list.getD j U.zero):=by unfold aa.gk;rw[hW,hLp,hRq,hjq];exact⟨hi,e0,by rw[hm hal,e1],e2,hlen6,rfl⟩
      obtain⟨u1,u2,u3⟩:=Qw hK.uf (show w<K.length by rw[hK.len];exact hw) (show j<K.length by rw[hK.len];exact hj);have hK1:=hK.add hw hj (hv _ (dv hw)) hlk u1 u2 u3;refine jB [12,13,14,15,11] false (Yy X Y s hs list hv hn hl K hK.uf hK.len w j W _ hw hj hjq) ?_;simp only[go_sem]
      exact⟨fun h5=>⟨h5,hrg h5,(a+1,s.to.getD (W.ed.getD a 0).toNat 0,mg K w j),⟨by simp only;omega,hK1,fun _=>hmid h5⟩,by simp only;omega,by rw[hw7]⟩,fun h5=>⟨(a+1,m,mg K w j),⟨by simp only;omega,hK1,fun h6=>by simp only at h6;omega⟩,by simp only;omega,by rw[hw7]⟩⟩))
 ·have hK1:dA s list K w i (a+1):=hK.skip fun q' hlk=>by
   unfold aa.gk at hlk;rw[hW,hLp,hRq,hm hal] at hlk;obtain⟨_,g0,g1,g2,_⟩:=hlk;injection g1 with g1
   simp only[Bool.and_eq_false_iff,decide_eq_false_iff_not,beq_eq_false_iff_ne] at h1;rcases h1 with(h1 | h1) | h1
   ·exact h1 g1
   ·exact h1 g0
   ·exact h1 g2
  exact⟨fun h5=>⟨h5,hrg h5,(a+1,s.to.getD (W.ed.getD a 0).toNat 0,K),⟨by simp only;omega,hK1,fun _=>hmid h5⟩,by simp only;omega,by rw[hw7]⟩,fun h5=>⟨(a+1,m,K),⟨by simp only;omega,hK1,fun h6=>by simp only at h6;omega⟩,by simp only;omega,by rw[hw7]⟩⟩
end Go.D3
namespace Go.D3
open Go
theorem zk:∀{l:List Int}{m:Int},m<=l.foldl (fun m k=>max m (k+1)) m/\∀x∈l,x+1<=l.foldl (fun m k=>max m (k+1)) m
 | [],m=>⟨Int.le_refl _,fun x hx=>by cases hx⟩
 | y::l,m=>by
  obtain⟨h1,h2⟩:=zk (l:=l) (m:=max m (y+1));rw[List.foldl_cons];refine⟨by omega,fun x hx=>?_⟩;rcases List.mem_cons.1 hx with rfl | hx
  ·omega
  ·exact h2 x hx
theorem Hx:∀{l:List Int}{m n:Int},m<=n->(∀x∈l,x+1<=n)->l.foldl (fun m k=>max m (k+1)) m<=n
 | [],_,_,h,_=>h
 | y::l,m,n,h,hl=>Hx (l:=l) (m:=max m (y+1)) (by have:=hl y List.mem_cons_self;omega) fun x hx=>hl x (List.mem_cons_of_mem _ hx)
theorem OY(L:List Int):∃nc:Nat,(eK L).foldl (fun m k=>max m (k+1)) 0=(nc:Int)/\nc<=L.length/\(∀i,i<L.length->0<=(eK L).getD i 0/\(eK L).getD i 0<nc)/\∀c,c<nc->∃m,m<L.length/\(eK L).getD m 0=c:=by
 have h:=oV (L:=L) L.length (Nat.le_refl _);rw[List.take_length] at h;have hlen:(eK L).length=L.length:=h.len;have hsl:=h.sle (Nat.le_refl _);refine⟨(eL L).1.length,?_,hsl,fun i hi=>?_,fun c hc=>h.s c hc⟩
 ·refine Int.le_antisymm (Hx (by omega) fun x hx=>?_) ?_
  ·obtain⟨i,hi,rfl⟩:=ff (d:=0) hx
   obtain⟨k,h1,h2,_⟩:=h.o i (by omega);have:(eK L).getD i 0=k:=h2;omega
  ·by_cases h0:(eL L).1.length=0
   ·have:=(zk (l:=eK L) (m:=0)).1
    omega
   ·obtain⟨m,h1,h2⟩:=h.s ((eL L).1.length-1) (by omega)
    have:=(zk (l:=eK L) (m:=0)).2 _ (dv (d:=0) (show m<(eK L).length by omega));have e:(eK L).getD m 0=((((eL L).1.length-1:Nat)):Int):=h2;omega
 ·obtain⟨k,h1,h2,_⟩:=h.o i hi
  have:(eK L).getD i 0=k:=h2;omega
theorem jr.iA{s:aa}(hok:s.ok=true){list:List U}(hA:dT s list)(hn:list.Nodup){cl:List Int}(hc:iH s list cl){nc:Nat}{K:List U}(h:jr s list cl nc K){c:Nat}(hcn:c<nc)(h6:(K.getD c U.zero).ed.length=6):s.gA none:=by
 obtain⟨ls,hL⟩:=aa.cQ.Mu hok hn hA;obtain⟨m,a1,a2,a3⟩:=h.ex c hcn;have hsp:s.sp (K.getD c U.zero):=by rw[a3];exact hA.at' a1
 obtain⟨q,hq,he⟩:=hL.ex _ hsp
 have e:K.getD c U.zero=q:=by
  refine lt_eq (hL.min q hq _ he.symm) fun hlt=>?_
  obtain⟨y,hy⟩:=hL.sp q hq;obtain⟨k,hk,rfl⟩:=ff (d:=U.zero) (hA.a q y hy);rw[a3] at he;have:=(hc.eq m k a1 hk).2 he;exact h.min k c hk hcn (by omega) hlt
 refine .iA ls hL fun hall=>?_
 have:=hall.1 q hq;rw[<-e] at this;omega
end Go.D3
namespace Go.D3
open Go Proofs
set_option maxHeartbeats 4000000
set_option maxRecDepth 100000
theorem aaW{A B C:Prop}(hA:C->A)(hB:C->B)(hC:C):A/\B:=⟨hA hC,hB hC⟩
def gr:Option U->D
 | some p=>.agg [.int .i64 p.st,ints p.ed]
 | none=>.agg [.int .i64 0,.vw (.aB (.int .i64 0))]
theorem Xp{n:Nat}:D.slice (.agg [.int .i64 0,.vw (.aB (.int .i64 0))]) (List.replicate n (.agg [.int .i64 0,.vw (.aB (.int .i64 0))]))=ae gr none (List.replicate n none):=by unfold ae;rw[List.map_replicate];rfl
theorem IV{M:List (Option U)}{c:Nat}(h:c<M.length){a:Int}{b:List Int}:((ae gr none M).eG c 0 (.int .i64 a)).eG c 1 (ae (.int .i64) 0 b)=ae gr none (M.set c (some ⟨a,b⟩)):=by
 unfold ae;simp only[D.eG,D.dx];have e:(M.map gr).getD c (gr none)=gr (M.getD c none):=by rw[getD_map']
 rw[e];have h2:dQ (gr (M.getD c none)) 0 (.int .i64 a)=.agg [.int .i64 a,(match M.getD c none with | some p=>ints p.ed | none=>.vw (.aB (.int .i64 0)))]:=by cases M.getD c none<;>rfl
 rw[h2,List.set_set,List.getD_eq_getElem?_getD,List.getElem?_set_self (by simpa using h),List.map_set];rfl
theorem WA{K:List U}{i:Nat}(h:i<K.length):(K.map some).getD i none=some (K.getD i U.zero):=by rw[aN (by simpa using h),List.getElem_map,aN h]
attribute [go_sem] Xp
def D2(s:aa)(l:List D):Prop:=(∃o,l=[ae U.d U.zero o,.aY]/\xm s o)\/∃m,l=[ae U.d U.zero [],.bf 181 (.agg [.str m])]/\¬s.fits
theorem YB(s:aa)(hs:di s):bK Tryz.prog 172 [.ptr s.cells] [] fun rc gs=>gs=[]/\∃l,rc=.al l/\D2 s l:=bK.view (Q:=D2 s) (XN s hs)
structure kU(s:aa)(list:List U)(cl:List Int)(K:List U):Prop where
 sh:xm s list
 c:iH s list cl
 k:jr s list cl K.length K
 ib:∀p∈K,p.ed.length<6
def Ni(s:aa)(rc:D)(gs:List D):Prop:=gs=[]/\∃l,rc=.al l/\((∃list cl K,l=[.ptr [lU list,ints cl,ae gr none (K.map some)],.aY]/\kU s list cl K)\/∃m,l=[.bc,.bf 181 (.agg [.str m])]/\s.gA none)
def B3:List Nat:=[0,2,3,4,5,6,7,8,9,10,11,12,13,14,16,28,29,30,49,50,51,60,61,157,158,159]
def Kr:Sl:=ah Tryz.types Tryz.f140 B3 [(0,172),(0,175),(2,178),(4,2),(7,86),(9,1),(12,95)]
theorem TT:aC Tryz.prog Tryz.f140 B3 Kr 1=true:=by decide +kernel
theorem XL(s:aa)(h:s.ok=true):bK Tryz.prog 140 [.ptr s.cells] [] (Ni s):=by
 obtain⟨hk1,hlf,hrt⟩:=fj h;have hs:=gw hk1;refine jc .view Tryz.func140 TT ?_;unfold Kr ah B3;simp only[go_sem];refine gP [] false (YB s hs) ?_;rintro _ _ ⟨rfl,l,rfl,hq⟩;refine⟨(by repeat(first | exact trivial | refine⟨(fun h=>by cases h),?_⟩)),(fun h=>by cases h),?_⟩;rcases hq with⟨o,rfl,hq⟩ | ⟨m,rfl,hq⟩
 rotate_left
 ·simp only[go_sem]
  exact⟨_,_,⟨rfl,_,rfl,.inr ⟨_,rfl,.many hq⟩⟩,rfl,rfl,trivial⟩
 simp only[go_sem];have hl:=hq.len;have hv:∀p∈o,s.sp p:=hq.a.v;refine aE [6,7] (fun(i:Nat)=>[(5,.box [.o (.ptr [bI D.str (D.int .i64) (qu o i),ints [],ae U.d U.zero []])]),(17,.int .i64 i)]) (fun i=>i<=o.length) (fun i=>o.length-i) 0 (by simp only[go_sem];rfl) (Nat.zero_le _) rfl ?_;intro i hi;simp only[go_sem];refine⟨fun h1=>?_,fun h1=>?_⟩
 ·have hp:=dv (d:=U.zero) h1
  have hsp:=hv _ hp;have h6:(o.getD i U.zero).ed.length<=6:=by obtain⟨z,hz⟩:=hsp;exact(bP.1 hz).2.1
  refine⟨h1,an (AP _ _ (tY hs hsp) (by omega)) rfl (.inl rfl) ?_⟩;simp only[go_sem];rw[show(⟨(o.getD i U.zero).st,(o.getD i U.zero).ed⟩:U)=o.getD i U.zero from rfl,Oe hs hv hq.nd h1,aL h1 (by simp only[maxLen];omega)];exact⟨by unfold qu;rw[Wr];simp only[maxLen];omega,i+1,h1,by omega,rfl⟩
 obtain rfl:i=o.length:=by omega
 refine an (XY o.length (by omega)) rfl (.inl (bT _)) ?_;simp only[go_sem];refine aE [9,10,11,21,22] (fun(p:Nat×List Int)=>[(8,.box [.o (ints p.2)]),(20,.int .i64 p.1)]) (fun p=>p.1<=o.length/\dA s o p.2 p.1 0 0) (fun p=>o.length-p.1) (0,bB o.length) (by simp only[go_sem];rfl) ⟨Nat.zero_le _,dA.zero hq.a⟩ rfl ?_;rintro⟨w,J⟩ ⟨hw,hJ⟩;simp only at hw hJ;simp only[go_sem];refine⟨fun h2=>⟨h2,?_⟩,fun h2=>?_⟩
 ·refine aE [11] (fun(p:Nat×List Int)=>[(8,.box [.o (ints p.2)]),(22,.int .i64 p.1)]) (fun p=>p.1<=s.lf.length/\dA s o p.2 w p.1 0) (fun p=>s.lf.length-p.1) (0,J) (by simp only[go_sem];rfl) ⟨Nat.zero_le _,hJ⟩ rfl ?_
  rintro⟨i,L⟩ ⟨hi2,hL⟩;simp only at hi2 hL;simp only[go_sem];refine⟨fun h3=>⟨h3,by omega,?_⟩,fun h3=>?_⟩
  ·refine gP [8,9,5,10] false (XI s h o hq.a hv hq.nd hl L w i h2 h3 hL (ints []) (ae U.d U.zero [])) ?_
   rintro _ _ ⟨K,rfl,rfl,hK⟩;refine⟨(by repeat(first | exact trivial | refine⟨(fun h=>by cases h),?_⟩)),(fun h=>by cases h),?_⟩;simp only[go_sem];exact⟨(i+1,K),⟨h3,hK.zr (Nat.lt_succ_self _)⟩,by simp only;omega,by rw[aL h3 (by simp only[maxLen];omega)]⟩
  ·exact⟨(w+1,L),⟨h2,hL.zt (by omega)⟩,by simp only;omega,by rw[aL h2 (by simp only[maxLen];omega)]⟩
 obtain rfl:w=o.length:=by omega
 have hU:=hJ.uf;have hjl:=hJ.len;have hio:∀K:St->Prop,∀st:St,b6 [.sub 8 [(0,0)]] (fun l st=>∃x y,l=[x]/\[Arg.io (.o (ints J)) (.o (ints (iL J J.length)))]=.io (.o x) (.o y)::[].map .v/\fy [.sub 8 [(0,0)]] [y] (fun st=>K (st.push (aQ (ints (eK (gU J J.length)))))) st) st->@kq _ Tryz.prog 178 (.sub 8 [(0,0)]) (some []) true True none ⟨K⟩ st:=fun K st hh=>lv (X1 J hU (by omega)) trivial hh
 apply aaW
 ·intro hc
  refine hio _ _ ?_;simp only[go_sem];exact⟨_,_,rfl,rfl,rfl,hc⟩
 ·intro hc
  refine hio _ _ ?_;simp only[go_sem];exact⟨_,_,rfl,rfl,rfl,hc⟩
 clear hio;obtain⟨nc,hnc,hncl,hb,hex⟩:=OY (gU J J.length);have hcl:iH s o (eK (gU J J.length)):=hJ.cls hq.a hq.nd (qX.trans hjl) (fun i hi=>QL (by omega)) ya;rw[qX,hjl] at hncl hb hex;rw[hjl];rw[hjl] at hcl hnc;generalize eK (gU J o.length)=cl at hcl hnc hb hex;have hcll:=hcl.len;refine an (Yb cl (by omega) (fun i hi=>by have:=hb i (by omega);omega)) rfl (.inl rfl) ?_;rw[hnc];simp only[go_sem];refine⟨⟨Nat.le_refl _,by omega⟩,?_⟩;rw[wrap_small (by omega) (by omega)];refine aE [13] (fun(p:Nat×List (Option U))=>[(5,.box [.o (.ptr [lU o,ints cl,ae gr none p.2])]),(12,.int .i64 ((p.1:Int)-1))]) (fun p=>p.1<=o.length/\iJ s o cl nc p.1 p.2) (fun p=>p.1) (o.length,List.replicate nc none) (by simp only[go_sem];rfl) ⟨Nat.le_refl _,iJ.zero⟩ rfl ?_;rintro⟨i,M⟩ ⟨hi3,hM⟩;simp only at hi3 hM;simp only[go_sem];have hMl:=hM.len;refine⟨fun h3=>?_,fun h3=>?_⟩
 ·obtain⟨j,rfl⟩:∃j,i=j+1:=⟨i-1,by omega⟩
  have ej:((j+1:Nat):Int)-1=j:=by omega
  obtain⟨hb1,hb2⟩:=hb j (by omega);obtain⟨c,hc⟩:∃c:Nat,cl.getD j 0=c:=⟨(cl.getD j 0).toNat,by omega⟩;simp only[ej,Int.toNat_natCast,hc];have hj6:(o.getD j U.zero).ed.length<=6:=by obtain⟨z,hz⟩:=hv _ (dv (d:=U.zero) (show j<o.length by omega));exact(bP.1 hz).2.1
  have fin:M.getD c none=none\/(∃q,M.getD c none=some q/\s.lt (o.getD j U.zero) q)->iJ s o cl nc j (M.set c (some (o.getD j U.zero))):=fun hh=>hM.set (by omega) hc (by omega) fun p hp=>by
   rcases hh with hh | ⟨q,hh,hlt⟩
   ·rw[hh] at hp;cases hp
   ·rw[hh] at hp;injection hp with hp;rw[<-hp];exact hlt
  cases hMc:M.getD c none with
  | none =>
   simp only[go_sem,gr,hMc];refine⟨by omega,by omega,by omega,bu (res:=.int .i64 0) (fun h=>by cases h) rfl (fun h=>by cases h) (.inl rfl) ?_⟩;simp only[go_sem];refine⟨by omega,by omega,an (kN _ (by omega)) rfl (.inl (bT _)) ?_⟩;simp only[go_sem,gr,hMc];rw[IV (by omega)];exact⟨by omega,by omega,(j,_),⟨by simp only;omega,fin (.inl hMc)⟩,by simp only;omega,by rw[wrap_small (by omega) (by omega)]⟩
  | some q =>
   obtain⟨m,m1,m2,m3,m4,m5⟩:=hM.yes c q (by omega) hMc;have heq:=(hcl.eq j m (by omega) m2).1 (by omega);have hee:=nB h heq;rw[<-m4] at hee;have hq6:q.ed.length<=6:=by obtain⟨z,hz⟩:=hee.2.2.2;exact(bP.1 hz).2.1
   have hqn:q.ed≠[]:=fun e=>by
    have hmn:m<s.nd.toNat:=Nat.lt_of_not_le fun hh=>hq.f.2.1 m hh m2 (m4▸e)
    have:=hq.f.2.2 j (by omega)
    have e2:o.getD j U.zero=q:=by
     cases hx:o.getD j U.zero;cases q;rw[hx] at this hee;simp only at this hee e;rw[this,hee.1,e]
    have:=getD_inj hq.nd (show j<o.length by omega) m2 (e2.trans m4);omega
   have hql : 0<q.ed.length:=List.length_pos_iff.2 hqn;simp only[go_sem,gr,hMc];refine⟨by omega,by omega,by omega,by omega,by omega,by omega,by omega,bu (fun _=>JC (o.getD j U.zero) q (by omega) (by omega)) rfl (fun h=>h) (.inl rfl) ?_⟩;simp only[go_sem];have hlt:=O3 (s:=s) (p:=o.getD j U.zero) (q:=q) hee.1 hee.2.1;refine⟨fun h4=>?_,fun h4=>?_⟩
   ·refine⟨by omega,by omega,an (kN _ (by omega)) rfl (.inl (bT _)) ?_⟩
    simp only[go_sem,gr,hMc];rw[IV (by omega)];exact⟨by omega,by omega,(j,_),⟨by simp only;omega,fin (.inr ⟨q,hMc,hlt.1 h4⟩)⟩,by simp only;omega,by rw[wrap_small (by omega) (by omega)]⟩
   ·exact⟨(j,M),⟨by simp only;omega,hM.bW hc (by omega) hMc fun hh=>h4 (hlt.2 hh)⟩,by simp only;omega,by rw[wrap_small (by omega) (by omega)]⟩
 obtain rfl:i=0:=by omega
 obtain⟨K,rfl,hK⟩:=hM.done hb hex;have hKl:=hK.len;refine aE [14] (fun(i:Nat)=>[(25,.int .i64 i)]) (fun i=>i<=K.length/\∀k,k<i->(K.getD k U.zero).ed.length≠6) (fun i=>K.length-i) 0 (by simp only[go_sem];rfl) ⟨Nat.zero_le _,fun k hk=>absurd hk (Nat.not_lt_zero _)⟩ rfl ?_;rintro i ⟨hi5,h6⟩;by_cases h7:i<K.length
 ·simp only[go_sem,WA h7,gr,List.length_map]
  refine⟨fun _=>⟨h7,h7,fun h8=>?_,fun h8=>?_⟩,fun h8=>absurd h7 h8⟩
  ·exact⟨_,_,⟨rfl,_,rfl,.inr ⟨_,rfl,hK.iA h hq.a hq.nd hcl (c:=i) (by omega) (by omega)⟩⟩,rfl,rfl,trivial⟩
  ·refine⟨i+1,⟨h7,fun k hk=>?_⟩,by omega,by rw[aL h7 (by simp only[maxLen];omega)]⟩
   by_cases hki:k=i
   ·subst hki
    rw[beq_eq_false_iff_ne] at h8;omega
   ·exact h6 k (by omega)
 ·simp only[go_sem,List.length_map]
  refine⟨fun h8=>absurd h8 h7,fun _=>⟨_,_,⟨rfl,_,rfl,.inl ⟨o,cl,K,rfl,hq,hcl,by rw[hKl];exact hK,fun p hp=>?_⟩⟩,rfl,rfl,trivial⟩⟩;obtain⟨k,hk,rfl⟩:=ff (d:=U.zero) hp;obtain⟨m,m1,_,m3⟩:=hK.ex k (by omega);have h9:=h6 k (by omega);obtain⟨z,hz⟩:=hv _ (dv (d:=U.zero) m1);rw[<-m3] at hz;have:=(bP.1 hz).2.1;omega
def Nj(s:aa)(l:List D):Prop:=(∃list cl K,l=[.ptr [lU list,ints cl,ae U.d U.zero K],.aY]/\kU s list cl K)\/∃m,l=[.bc,.bf 181 (.agg [.str m])]/\s.gA none
theorem WB{K:List U}:(ae gr none (K.map some)).strip=ae U.d U.zero K:=by
 rw[wU (g:=U.d) (e:=U.zero) (t:=fun o:Option U=>o.getD U.zero) rfl (fun x hx=>?_),List.map_map]
 ·congr 1
  exact List.map_id K
 ·obtain⟨p,_,rfl⟩:=List.mem_map.1 hx
  show D.agg [_,(ints p.ed).strip]=_;rw[fX];rfl
theorem Yx(s:aa)(h:s.ok=true):bK Tryz.prog 140 [.ptr s.cells] [] fun rc gs=>gs=[]/\∃l,rc=.al l/\Nj s l:=by
 refine(bK.clean (Q:=fun l=>(∃list cl K,l=[.ptr [lU list,ints cl,ae gr none (K.map some)],.aY]/\kU s list cl K)\/∃m,l=[.bc,.bf 181 (.agg [.str m])]/\s.gA none) (XL s h) fun l hl=>?_).imp fun r g ⟨hg,l,hr,hl⟩=>⟨hg,_,hr,?_⟩
 ·rcases hl with⟨_,_,_,rfl,_⟩ | ⟨_,rfl,_⟩<;>exact⟨trivial,trivial,trivial⟩
 ·rcases hl with⟨o,cl,K,rfl,hh⟩ | ⟨m,rfl,hh⟩
  ·refine .inl ⟨o,cl,K,?_,hh⟩
   show[D.ptr [_,(ints cl).strip,(ae gr none (K.map some)).strip],_]=_;rw[fX,WB];rfl
  ·exact .inr ⟨m,rfl,hh⟩
end Go.D3
