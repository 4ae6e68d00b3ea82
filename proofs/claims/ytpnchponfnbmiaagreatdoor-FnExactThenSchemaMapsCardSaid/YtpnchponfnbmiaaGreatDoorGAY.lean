/- CONTRACTS: labels are numbered; the classes that have been joined: the program's side. -/
import Derived.Test.YtpnchponfnbmiaaGreatDoorGAG
import Derived.Test.YtpnchponfnbmiaaGreatDoorGAB
namespace Go.D3
open Go
structure UF(j:List Int):Prop where
 le:∀i,i<j.length->0<=j.getD i 0/\j.getD i 0<=i
inductive gW(j:List Int):Nat->Nat->Prop
 | root {x:Nat}:j.getD x 0=x->gW j x x
 | step {x y r:Nat}:j.getD x 0=y->y<x->gW j y r->gW j x r
theorem gW.fn{j:List Int}{x r t:Nat}(h:gW j x r)(g:gW j x t):r=t:=by
 induction h with
 | root e=>cases g with
  | root=>rfl
  | step e2 hl=>omega
 | step e hl _ ih=>cases g with
  | root e2=>omega
  | step e2 hl2 g=>exact ih (by rw[show _=_ from Int.ofNat.inj (e.symm.trans e2)];exact g)
theorem gW.is{j:List Int}{x r:Nat}(h:gW j x r):j.getD r 0=r/\r<=x:=by
 induction h with
 | root e=>exact⟨e,Nat.le_refl _⟩
 | step _ hl _ ih=>exact⟨ih.1,by omega⟩
theorem UF.get{j:List Int}(h:UF j){x:Nat}(hx:x<j.length):∃y:Nat,j.getD x 0=y/\y<=x:=by
 have:=h.le x hx;exact⟨(j.getD x 0).toNat,by omega,by omega⟩
theorem UF.ex{j:List Int}(h:UF j):∀(n x:Nat),x<=n->x<j.length->∃r,gW j x r
 | 0,x,hn,hx=>by
  obtain⟨y,h1,h2⟩:=h.get hx;exact⟨x,.root (by rw[h1];omega)⟩
 | n+1,x,hn,hx=>by
  obtain⟨y,h1,h2⟩:=h.get hx;by_cases hy:y=x
  ·exact⟨x,.root (by rw[h1,hy])⟩
  ·obtain⟨r,hr⟩:=UF.ex h n y (by omega) (by omega)
   exact⟨r,.step h1 (by omega) hr⟩
open Classical in
noncomputable def rep(j:List Int)(x:Nat):Nat:=if h:∃r,gW j x r then Classical.choose h else x
theorem UF.rp{j:List Int}(h:UF j){x:Nat}(hx:x<j.length):gW j x (rep j x):=by
 have hr:=h.ex x x (Nat.le_refl _) hx;unfold rep;rw[dif_pos hr];exact Classical.choose_spec hr
theorem Gz{j:List Int}{x r:Nat}(h:gW j x r):rep j x=r:=by
 have hr:∃r,gW j x r:=⟨r,h⟩;unfold rep;rw[dif_pos hr];exact(Classical.choose_spec hr).fn h
theorem UF.mF{j:List Int}(h:UF j){x:Nat}(hx:x<j.length):rep j x<=x/\j.getD (rep j x) 0=rep j x:=⟨(h.rp hx).is.2,(h.rp hx).is.1⟩
theorem UF.root{j:List Int}(_:UF j){x:Nat}(_:x<j.length)(e:j.getD x 0=x):rep j x=x:=Gz (.root e)
theorem UF.step{j:List Int}(h:UF j){x y:Nat}(hx:x<j.length)(e:j.getD x 0=y):rep j x=rep j y:=by
 obtain⟨z,h1,h2⟩:=h.get hx;obtain rfl:y=z:=by omega
 by_cases hy:y=x
 ·rw[hy]
 ·exact Gz (.step e (by omega) (h.rp (by omega)))
theorem jH{l:List Int}{i k:Nat}{v:Int}(hi:i<l.length):(l.set i v).getD k 0=if k=i then v else l.getD k 0:=by
 by_cases h:k=i
 ·subst h;rw[if_pos rfl,List.getD_eq_getElem?_getD,List.getElem?_set_self hi];rfl
 ·rw[if_neg h,List.getD_eq_getElem?_getD,List.getElem?_set_ne (Ne.symm h),List.getD_eq_getElem?_getD]
theorem UF.DU{j:List Int}(h:UF j){x y z:Nat}(hx:x<j.length)(e1:j.getD x 0=y)(hy:y<x)(e2:j.getD y 0=z):UF (j.set x (z:Int))/\∀u,u<j.length->rep (j.set x (z:Int)) u=rep j u:=by
 have hz:=h.le y (by omega)
 have hU:UF (j.set x (z:Int)):=⟨fun i hi=>by
  rw[List.length_set] at hi;rw[jH hx];have:=h.le i hi;split
  ·omega
  ·exact this⟩
 refine⟨hU,?_⟩
 have key:∀n u,u<=n->u<j.length->rep (j.set x (z:Int)) u=rep j u:=by
  intro n;induction n with
  | zero =>
   intro u hu hl;have:=hU.mF (x:=u) (by rw[List.length_set];exact hl);have:=h.mF hl;omega
  | succ n ih =>
   intro u hu hl;have hl':u<(j.set x (z:Int)).length:=by rw[List.length_set];exact hl
   by_cases hux:u=x
   ·subst hux
    have a:=hU.step hl' (show(j.set u (z:Int)).getD u 0=(z:Int) by rw[jH hl,if_pos rfl]);have b:=h.step hl e1;have c:=h.step (show y<j.length by omega) e2;rw[a,ih z (by omega) (by omega),b,c]
   ·obtain⟨w,w1,w2⟩:=h.get hl
    by_cases hwu:w=u
    ·rw[hU.root hl' (by rw[jH hx,if_neg hux,w1,hwu]),h.root hl (by rw[w1,hwu])]
    ·rw[hU.step hl' (show(j.set x (z:Int)).getD u 0=(w:Int) by rw[jH hx,if_neg hux,w1]),h.step hl w1,ih w (by omega) (by omega)]
 exact fun u hu=>key u u (Nat.le_refl _) hu
theorem UF.link{j:List Int}(h:UF j){a b:Nat}(ha:a<j.length)(hb:b<=a)(ea:j.getD a 0=a)(eb:j.getD b 0=b):UF (j.set a (b:Int))/\∀u,u<j.length->rep (j.set a (b:Int)) u=if rep j u=a then b else rep j u:=by
 have hU:UF (j.set a (b:Int)):=⟨fun i hi=>by
  rw[List.length_set] at hi;rw[jH ha];have:=h.le i hi;split
  ·omega
  ·exact this⟩
 refine⟨hU,?_⟩
 have hrb:rep (j.set a (b:Int)) b=b:=hU.root (by rw[List.length_set];omega) (by
  rw[jH ha];split
  ·rfl
  ·exact eb)
 have key:∀n u,u<=n->u<j.length->rep (j.set a (b:Int)) u=if rep j u=a then b else rep j u:=by
  intro n;induction n with
  | zero =>
   intro u hu hl;have:=hU.mF (x:=u) (by rw[List.length_set];exact hl);have:=h.mF hl;split<;>omega
  | succ n ih =>
   intro u hu hl;have hl':u<(j.set a (b:Int)).length:=by rw[List.length_set];exact hl
   by_cases hua:u=a
   ·subst hua
    rw[hU.step hl' (show(j.set u (b:Int)).getD u 0=(b:Int) by rw[jH hl,if_pos rfl]),hrb,h.root hl ea,if_pos rfl]
   ·obtain⟨w,w1,w2⟩:=h.get hl
    by_cases hwu:w=u
    ·rw[hU.root hl' (by rw[jH ha,if_neg hua,w1,hwu]),h.root hl (by rw[w1,hwu]),if_neg hua]
    ·rw[hU.step hl' (show(j.set a (b:Int)).getD u 0=(w:Int) by rw[jH ha,if_neg hua,w1]),h.step hl w1,ih w (by omega) (by omega)]
 exact fun u hu=>key u u (Nat.le_refl _) hu
theorem UF.join{j:List Int}(h:UF j){x y:Nat}(hx:x<j.length)(hy:y<j.length):UF (j.set (max (rep j x) (rep j y)) ((min (rep j x) (rep j y):Nat):Int)) /\
  ∀u,u<j.length->rep (j.set (max (rep j x) (rep j y)) ((min (rep j x) (rep j y):Nat):Int)) u=if rep j u=max (rep j x) (rep j y) then min (rep j x) (rep j y) else rep j u:=by
 have h1:=h.mF hx;have h2:=h.mF hy;refine h.link (by omega) (by omega) ?_ ?_
 ·rcases Nat.le_total (rep j x) (rep j y) with hh | hh
  ·rw[Nat.max_eq_right hh];exact h2.2
  ·rw[Nat.max_eq_left hh];exact h1.2
 ·rcases Nat.le_total (rep j x) (rep j y) with hh | hh
  ·rw[Nat.min_eq_left hh];exact h1.2
  ·rw[Nat.min_eq_right hh];exact h2.2
theorem UF.E7{n:Nat}:UF (bw n)/\∀u,u<n->rep (bw n) u=u:=by
 have hg:∀{i},i<n->(bw n).getD i 0=i:=fun hi=>by
  unfold bw;rw[List.getD_eq_getElem?_getD,List.getElem?_map,List.getElem?_range hi];rfl
 have hU:UF (bw n):=⟨fun i hi=>by rw[dI] at hi;rw[hg hi];omega⟩;exact⟨hU,fun u hu=>hU.root (by rw[dI];exact hu) (hg hu)⟩
def dV:Nat->List Int->Nat->Nat×List Int
 | 0,J,x=>(x,J)
 | f+1,J,x=>if J.getD x 0=(x:Int) then(x,J) else dV f (J.set x (J.getD (J.getD x 0).toNat 0)) (J.getD (J.getD x 0).toNat 0).toNat
theorem ox:∀(f:Nat){J:List Int}{x:Nat},UF J->x<J.length->x<f->(dV f J x).1=rep J x/\UF (dV f J x).2/\(dV f J x).2.length=J.length/\∀u,u<J.length->rep (dV f J x).2 u=rep J u
 | 0,_,_,_,_,h=>absurd h (Nat.not_lt_zero _)
 | f+1,J,x,hU,hx,hf=>by
  unfold dV;by_cases e:J.getD x 0=(x:Int)
  ·rw[if_pos e]
   exact⟨(hU.root hx e).symm,hU,rfl,fun _ _=>rfl⟩
  ·rw[if_neg e]
   obtain⟨y,e1,hy⟩:=hU.get hx;have hyx:y<x:=by omega
   obtain⟨z,e2,hz⟩:=hU.get (show y<J.length by omega);rw[e1,Int.toNat_natCast,e2,Int.toNat_natCast];obtain⟨h1,h2⟩:=hU.DU hx e1 hyx e2;have hl:(J.set x (z:Int)).length=J.length:=List.length_set;obtain⟨i1,i2,i3,i4⟩:=ox f h1 (show z<(J.set x (z:Int)).length by omega) (by omega);refine⟨?_,i2,i3.trans hl,fun u hu=>(i4 u (by omega)).trans (h2 u hu)⟩;rw[i1,h2 z (by omega),hU.step hx e1,hU.step (by omega) e2]
theorem T4{f:Nat}{J:List Int}{x:Nat}(e:¬J.getD x 0=(x:Int)):dV (f+1) J x=dV f (J.set x (J.getD (J.getD x 0).toNat 0)) (J.getD (J.getD x 0).toNat 0).toNat:=by
 rw[dV,if_neg e]
structure cU(s:Sch)(list:List Pth)(j:List Int)(w i a:Nat):Prop where
 uf:UF j
 len:j.length=list.length
 v:∀x,x<list.length->s.eqv (list.getD x Pth.zero) (list.getD (rep j x) Pth.zero)
 c:∀(x i' a':Nat)(q:Pth),x<list.length->(x<w\/x=w/\(i'<i\/i'=i/\a'<a))->s.fu (list.getD x Pth.zero) i' a' q->∃y:Nat,y<list.length/\list.getD y Pth.zero=q/\rep j x=rep j y
theorem cU.zero{s:Sch}{list:List Pth}(hA:di s list):cU s list (bw list.length) 0 0 0 :=
 ⟨UF.E7.1,dI,fun x hx=>by rw[UF.E7.2 x hx];exact .refl (hA.at' hx),fun x i' a' q _ h=>by omega⟩
theorem cU.same{s:Sch}{list:List Pth}{j k:List Int}{w i a:Nat}(h:cU s list j w i a)(hU:UF k)(hl:k.length=j.length)(hr:∀u,u<j.length->rep k u=rep j u):cU s list k w i a:=by
 have hlen:=h.len;refine⟨hU,by omega,fun x hx=>by rw[hr x (by omega)];exact h.v x hx,fun x i' a' q hx hc hl=>?_⟩;obtain⟨y,y1,y2,y3⟩:=h.c x i' a' q hx hc hl;exact⟨y,y1,y2,by rw[hr x (by omega),hr y (by omega)];exact y3⟩
theorem cU.skip{s:Sch}{list:List Pth}{P:List Int}{w i a:Nat}(h:cU s list P w i a)(hn:∀q,¬s.fu (list.getD w Pth.zero) i a q):cU s list P w i (a+1) :=
 ⟨h.uf,h.len,h.v,fun x i' a' q hx hc hl=>by
  by_cases he:x=w/\i'=i/\a'=a
  ·obtain⟨rfl,rfl,rfl⟩:=he;exact absurd hl (hn q)
  ·exact h.c x i' a' q hx (by omega) hl⟩
theorem cU.xu{s:Sch}{list:List Pth}{P:List Int}{w i a:Nat}(h:cU s list P w i a)(hn:(list.getD w Pth.zero).ed.length<a):cU s list P w (i+1) 0 :=
 ⟨h.uf,h.len,h.v,fun x i' a' q hx hc hl=>by
  by_cases he:x=w/\i'=i/\a<=a'
  ·obtain⟨rfl,rfl,ha⟩:=he
   have:=hl.2.1;omega
  ·exact h.c x i' a' q hx (by omega) hl⟩
theorem cU.xw{s:Sch}{list:List Pth}{P:List Int}{w i a:Nat}(h:cU s list P w i a)(hn:s.lf.length<=i):cU s list P (w+1) 0 0 :=
 ⟨h.uf,h.len,h.v,fun x i' a' q hx hc hl=>by
  by_cases he:x=w/\i<=i'
  ·have:=hl.1;omega
  ·exact h.c x i' a' q hx (by omega) hl⟩
theorem cU.add{s:Sch}{list:List Pth}{j k:List Int}{w i a y:Nat}(h:cU s list j w i a)(hw:w<list.length)(hy:y<list.length)(hsp:s.sp (list.getD w Pth.zero))(hl:s.fu (list.getD w Pth.zero) i a (list.getD y Pth.zero))
  (hU:UF k) (hkl:k.length=j.length) (hr:∀u,u<j.length->rep k u=if rep j u=max (rep j w) (rep j y) then min (rep j w) (rep j y) else rep j u):cU s list k w i (a+1):=by
 have hlen:=h.len;have e:=Sch.eqv.lk hsp hl;have ewy:s.eqv (list.getD (rep j w) Pth.zero) (list.getD (rep j y) Pth.zero):=(h.v w hw).symm.trans (e.trans (h.v y hy));refine⟨hU,by omega,fun x hx=>?_,fun x i' a' q hx hc hl'=>?_⟩
 ·rw[hr x (by omega)]
  split
  ·rename_i hm
   have hv:=h.v x hx;rw[hm] at hv;rcases Nat.le_total (rep j w) (rep j y) with hh | hh
   ·rw[Nat.max_eq_right hh] at hv
    rw[Nat.min_eq_left hh];exact hv.trans ewy.symm
   ·rw[Nat.max_eq_left hh] at hv
    rw[Nat.min_eq_right hh];exact hv.trans ewy
  ·exact h.v x hx
 ·by_cases he:x=w/\i'=i/\a'=a
  ·obtain⟨rfl,rfl,rfl⟩:=he
   refine⟨y,hy,by rw[hl.2.2.2.2.2,hl'.2.2.2.2.2],?_⟩;rw[hr x (by omega),hr y (by omega)];split<;>split<;>omega
  ·obtain⟨z,z1,z2,z3⟩:=h.c x i' a' q hx (by omega) hl'
   exact⟨z,z1,z2,by rw[hr x (by omega),hr z (by omega),z3]⟩
theorem cU.cls{s:Sch}{list:List Pth}(hA:di s list)(hn:list.Nodup){j:List Int}(hj:cU s list j list.length 0 0){L:List Int}(hL:L.length=list.length)(hl:∀i,i<list.length->L.getD i 0=rep j i){cl:List Int}(hq:lL L cl):gU s list cl:=by
 refine⟨by rw[hq.len,hL],fun i hi=>by have:=hq.ge i (by omega);omega,fun i k hi hk=>?_⟩;rw[hq.eq i k (by omega) (by omega),hl i hi,hl k hk];constructor
 ·intro e
  have a:=hj.v i hi;have b:=hj.v k hk;rw[show rep j i=rep j k by omega] at a;exact a.trans b.symm
 ·intro e
  have:=Dq (s:=s) (φ:=fun p=>((rep j (lq list p.st p.ed).toNat:Nat):Int)) (fun p i a q hp hl'=>by
   obtain⟨y,hy⟩:=hp;obtain⟨x,hx,rfl⟩:=ew (d:=Pth.zero) (hA.a p y hy);obtain⟨z,z1,rfl,z2⟩:=hj.c x i a q hx (.inl hx) hl';show((rep j _:Nat):Int)=((rep j _:Nat):Int)
   rw[mz hn hx,mz hn z1,Int.toNat_natCast,Int.toNat_natCast,z2]) e
  simp only[mz hn hi,mz hn hk,Int.toNat_natCast] at this;exact this
end Go.D3
namespace Go.D3
open Go
def dA(a b:List Int):Int:=if lexB a b=true then -1 else if a=b then 0 else 1
theorem wa{a b:List Int}:dA a b<0↔lexB a b=true:=by
 unfold dA;split
 ·rename_i h;simp[h]
 ·rename_i h;simp only[h];split<;>simp
theorem sP{a b:List Int}:dA a b=0↔a=b:=by
 unfold dA;split
 ·rename_i h
  refine⟨fun h=>by omega,fun e=>?_⟩;rw[e,Es] at h;cases h
 ·split
  ·rename_i h;simp[h]
  ·rename_i h;simp[h]
def nA(p q:Pth):Int:=if(p.ed.length:Int)-q.ed.length≠0 then(p.ed.length:Int)-q.ed.length else dA p.ed q.ed
theorem LN{s:Sch}{p q:Pth}(h:p.st=q.st)(e:s.aB p=s.aB q):nA p q<0↔s.lt p q:=by
 unfold Sch.lt eM Sch.en nA;rw[h,e];simp only[List.cons_append,List.nil_append,lexB,if_true];by_cases hl:(p.ed.length:Int)=q.ed.length
 ·rw[if_neg (by omega),if_pos hl,wa]
 ·rw[if_pos (by omega),if_neg hl,decide_eq_true_eq];omega
def nz(s:Sch)(p q:Pth):Int:=if dA [p.st,s.en p] [q.st,s.en q]≠0 then dA [p.st,s.en p] [q.st,s.en q] else nA p q
theorem sQ{s:Sch}{p q:Pth}:nz s p q<0↔s.lt p q:=by
 unfold nz;by_cases h:[p.st,s.en p]=[q.st,s.en q]
 ·rw[if_neg (by rw[Decidable.not_not];exact sP.2 h)]
  simp only[List.cons.injEq,and_true] at h;unfold Sch.lt eM nA;rw[h.1,h.2];simp only[List.cons_append,List.nil_append,lexB,if_true];by_cases hl:(p.ed.length:Int)=q.ed.length
  ·rw[if_neg (by omega),if_pos hl,wa]
  ·rw[if_pos (by omega),if_neg hl,decide_eq_true_eq];omega
 ·rw[if_pos (by intro e;exact h (sP.1 e)),wa]
  unfold Sch.lt eM;simp only[List.cons_append,List.nil_append,lexB];simp only[List.cons.injEq,and_true] at h;by_cases h1:p.st=q.st
  ·rw[if_pos h1,if_pos h1,if_neg (fun e=>h ⟨h1,e⟩),if_neg (fun e=>h ⟨h1,e⟩)]
  ·rw[if_neg h1,if_neg h1]
structure gV(s:Sch)(list:List Pth)(cl:List Int)(nc i:Nat)(M:List (Option Pth)):Prop where
 len:M.length=nc
 no:∀c,c<nc->M.getD c none=none->∀k,i<=k->k<list.length->cl.getD k 0≠c
 yes:∀c p,c<nc->M.getD c none=some p->∃m,i<=m/\m<list.length/\cl.getD m 0=c/\p=list.getD m Pth.zero/\∀k,i<=k->k<list.length->cl.getD k 0=c->¬s.lt (list.getD k Pth.zero) p
theorem gV.zero{s:Sch}{list:List Pth}{cl:List Int}{nc:Nat}:gV s list cl nc list.length (List.replicate nc none):=by
 refine⟨List.length_replicate,fun c _ _ k h1 h2=>by omega,fun c p hc h=>?_⟩;rw[List.getD_eq_getElem?_getD,List.getElem?_replicate] at h;split at h<;>cases h
theorem Jp{α:Type}{l:List (Option α)}{i k:Nat}{v:Option α}(hi:i<l.length):(l.set i v).getD k none=if k=i then v else l.getD k none:=by
 by_cases h:k=i
 ·subst h;rw[if_pos rfl,List.getD_eq_getElem?_getD,List.getElem?_set_self hi];rfl
 ·rw[if_neg h,List.getD_eq_getElem?_getD,List.getElem?_set_ne (Ne.symm h),List.getD_eq_getElem?_getD]
theorem gV.set{s:Sch}{list:List Pth}{cl:List Int}{nc i c:Nat}{M:List (Option Pth)}(h:gV s list cl nc (i+1) M)(hi:i<list.length)(hc:cl.getD i 0=c)(hcn:c<nc)(hp:∀p,M.getD c none=some p->s.lt (list.getD i Pth.zero) p):gV s list cl nc i (M.set c (some (list.getD i Pth.zero))):=by
 have hl:=h.len;refine⟨by rw[List.length_set];exact hl,fun d hd h1 k h2 h3=>?_,fun d p hd h1=>?_⟩
 ·rw[Jp (by omega)] at h1
  split at h1
  ·cases h1
  ·by_cases hk:k=i
   ·subst hk;omega
   ·exact h.no d hd h1 k (by omega) h3
 ·rw[Jp (by omega)] at h1
  split at h1
  ·rename_i e
   subst e;injection h1 with h1
   subst h1;refine⟨i,Nat.le_refl _,hi,hc,rfl,fun k h2 h3 h4=>?_⟩;by_cases hk:k=i
   ·subst hk;exact pC
   ·cases hM:M.getD d none with
    | none=>exact absurd h4 (h.no d hd hM k (by omega) h3)
    | some q =>
     obtain⟨_,_,_,_,_,h9⟩:=h.yes d q hd hM;exact fun hlt=>h9 k (by omega) h3 h4 (lt_trans hlt (hp q hM))
  ·obtain⟨m,h5,h6,h7,h8,h9⟩:=h.yes d p hd h1
   exact⟨m,by omega,h6,h7,h8,fun k h2 h3 h4=>h9 k (by
    by_cases hk:k=i
    ·subst hk;omega
    ·omega) h3 h4⟩
theorem gV.bM{s:Sch}{list:List Pth}{cl:List Int}{nc i c:Nat}{M:List (Option Pth)}(h:gV s list cl nc (i+1) M)(hc:cl.getD i 0=c)(hcn:c<nc){q:Pth}(hq:M.getD c none=some q)(hp:¬s.lt (list.getD i Pth.zero) q):gV s list cl nc i M:=by
 refine⟨h.len,fun d hd h1 k h2 h3=>?_,fun d p hd h1=>?_⟩
 ·by_cases hk:k=i
  ·subst hk
   intro e;have:d=c:=by omega
   subst this;rw[hq] at h1;cases h1
  ·exact h.no d hd h1 k (by omega) h3
 ·obtain⟨m,h5,h6,h7,h8,h9⟩:=h.yes d p hd h1
  refine⟨m,by omega,h6,h7,h8,fun k h2 h3 h4=>?_⟩;by_cases hk:k=i
  ·subst hk
   have:d=c:=by omega
   subst this;rw[hq] at h1;injection h1 with h1
   subst h1;exact hp
  ·exact h9 k (by omega) h3 h4
structure iD(s:Sch)(list:List Pth)(cl:List Int)(nc:Nat)(K:List Pth):Prop where
 len:K.length=nc
 lt:∀i,i<list.length->0<=cl.getD i 0/\cl.getD i 0<nc
 ex:∀c,c<nc->∃m,m<list.length/\cl.getD m 0=c/\K.getD c Pth.zero=list.getD m Pth.zero
 min:∀k c,k<list.length->c<nc->cl.getD k 0=c->¬s.lt (list.getD k Pth.zero) (K.getD c Pth.zero)
theorem gV.done{s:Sch}{list:List Pth}{cl:List Int}{nc:Nat}{M:List (Option Pth)}(h:gV s list cl nc 0 M)(hlt:∀i,i<list.length->0<=cl.getD i 0/\cl.getD i 0<nc)(hex:∀c,c<nc->∃m,m<list.length/\cl.getD m 0=c):∃K,M=K.map some/\iD s list cl nc K:=by
 have hs:∀c,c<nc->∃p,M.getD c none=some p:=fun c hc=>by
  cases hM:M.getD c none with
  | none =>
   obtain⟨m,h1,h2⟩:=hex c hc;exact absurd h2 (h.no c hc hM m (Nat.zero_le _) h1)
  | some p=>exact⟨p,rfl⟩
 have hl:=h.len
 have hk:∀c,c<nc->(M.map fun o=>o.getD Pth.zero).getD c Pth.zero=(M.getD c none).getD Pth.zero:=fun c hc=>by
  rw[aO (by rw[List.length_map];omega),List.getElem_map,aO (by omega)]
 refine⟨M.map fun o=>o.getD Pth.zero,?_,by rw[List.length_map,hl],hlt,fun c hc=>?_,fun k c h1 h2 h3=>?_⟩
 ·refine List.ext_getElem (by simp) fun c h1 h2=>?_
  obtain⟨p,hp⟩:=hs c (by omega);rw[aO h1] at hp;simp[hp]
 ·obtain⟨p,hp⟩:=hs c hc
  obtain⟨m,_,h6,h7,h8,_⟩:=h.yes c p hc hp;exact⟨m,h6,h7,by rw[hk c hc,hp];exact h8⟩
 ·obtain⟨p,hp⟩:=hs c h2
  obtain⟨_,_,_,_,_,h9⟩:=h.yes c p h2 hp;rw[hk c h2,hp];exact h9 k (Nat.zero_le _) h1 h3
theorem iD.get{s:Sch}{list:List Pth}{cl:List Int}(hc:gU s list cl){nc:Nat}{K:List Pth}(h:iD s list cl nc K){i:Nat}(hi:i<list.length) :
  ∃c:Nat,cl.getD i 0=c/\c<nc/\s.eqv (list.getD i Pth.zero) (K.getD c Pth.zero):=by
 have:=h.lt i hi;obtain⟨m,h1,h2,h3⟩:=h.ex (cl.getD i 0).toNat (by omega);refine⟨(cl.getD i 0).toNat,by omega,by omega,?_⟩;rw[h3];exact(hc.eq i m hi h1).1 (by omega)
theorem iD.U{s:Sch}(hok:s.ok=true){list:List Pth}(hA:di s list){cl:List Int}(hc:gU s list cl){nc:Nat}{K:List Pth}(h:iD s list cl nc K){O:List Int}(hO:O.Perm (bw nc))(hs:O.Pairwise fun a b=>¬s.lt (K.getD b.toNat Pth.zero) (K.getD a.toNat Pth.zero)) :
  s.cB (O.map fun c=>K.getD c.toNat Pth.zero):=by
 have hin:∀c∈O,∃d:Nat,c=d/\d<nc:=fun c hcO=>by
  have:=hO.mem_iff.1 hcO;unfold bw at this;obtain⟨d,hd,rfl⟩:=List.mem_map.1 this;exact⟨d,rfl,List.mem_range.1 hd⟩
 have hall:∀d:Nat,d<nc->(d:Int)∈O:=fun d hd=>hO.mem_iff.2 (List.mem_map.2 ⟨d,List.mem_range.2 hd,rfl⟩)
 have hkk:∀c d:Nat,c<nc->d<nc->s.eqv (K.getD c Pth.zero) (K.getD d Pth.zero)->c=d:=fun c d h1 h2 e=>by
  obtain⟨m,a1,a2,a3⟩:=h.ex c h1;obtain⟨n,b1,b2,b3⟩:=h.ex d h2;rw[a3,b3] at e;have:=(hc.eq m n a1 b1).2 e;omega
 have hsp:∀c:Nat,c<nc->s.sp (K.getD c Pth.zero):=fun c h1=>by
  obtain⟨m,a1,_,a3⟩:=h.ex c h1;rw[a3];exact hA.at' a1
 have hnd:O.Nodup:=hO.nodup_iff.2 (by
  unfold bw;rw[List.nodup_iff_pairwise_ne,List.pairwise_map]
  exact List.pairwise_lt_range.imp fun {a b} h e=>by omega)
 refine⟨fun p hp=>?_,?_,fun p hp q he hlt=>?_,fun p hp=>?_⟩
 ·obtain⟨c,hcO,rfl⟩:=List.mem_map.1 hp
  obtain⟨d,rfl,hd⟩:=hin c hcO;exact hsp d hd
 ·rw[List.pairwise_map]
  refine List.Pairwise.imp_of_mem ?_ (List.Pairwise.and hnd hs);intro a b ha hb hh;obtain⟨c,rfl,hc'⟩:=hin a ha;obtain⟨d,rfl,hd⟩:=hin b hb;by_cases hl:s.lt (K.getD (c:Int).toNat Pth.zero) (K.getD (d:Int).toNat Pth.zero)
  ·exact hl
  ·have:=lt_eq hl hh.2
   simp only[Int.toNat_natCast] at this;have:=hkk c d hc' hd (by rw[this];exact .refl (hsp d hd));exact absurd (by omega) hh.1
 ·obtain⟨c,hcO,rfl⟩:=List.mem_map.1 hp
  obtain⟨d,rfl,hd⟩:=hin c hcO;simp only[Int.toNat_natCast] at he hlt;obtain⟨y,hy⟩:=(lX hok he).2.2.2;obtain⟨k,hk,rfl⟩:=ew (d:=Pth.zero) (hA.a q y hy);obtain⟨m,a1,a2,a3⟩:=h.ex d hd;rw[a3] at he;have e:=(hc.eq m k a1 hk).2 he;exact h.min k d hk hd (by omega) hlt
 ·obtain⟨y,hy⟩:=hp
  obtain⟨k,hk,rfl⟩:=ew (d:=Pth.zero) (hA.a p y hy);obtain⟨c,_,h2,h3⟩:=h.get hc hk;exact⟨_,List.mem_map.2 ⟨(c:Int),hall c h2,rfl⟩,by simpa using h3⟩
theorem iD.no{s:Sch}(_:s.ok=true){list:List Pth}(_:di s list){cl:List Int}(hc:gU s list cl){nc:Nat}{K:List Pth}(h:iD s list cl nc K){O:List Int}(hL:s.cB (O.map fun c=>K.getD c.toNat Pth.zero)){B:List Int}(hB:∀x,x<O.length->B.getD (O.getD x 0).toNat 0=x)(hall:∀d:Nat,d<nc->(d:Int)∈O)
  {k:Nat} (hk:k<list.length):∃c:Nat,cl.getD k 0=c/\c<nc/\∃x:Nat,B.getD c 0=x/\x<O.length/\O.getD x 0=c/\s.no (O.map fun c=>K.getD c.toNat Pth.zero) (list.getD k Pth.zero)=x:=by
 obtain⟨c,h1,h2,h3⟩:=h.get hc hk;obtain⟨x,hx,hxe⟩:=ew (d:=(0:Int)) (hall c h2);have hb:=hB x hx;rw[hxe,Int.toNat_natCast] at hb;refine⟨c,h1,h2,x,hb,hx,hxe,hL.tP (by rw[List.length_map];exact hx) ?_⟩
 have:(O.map fun c=>K.getD c.toNat Pth.zero).getD x Pth.zero=K.getD c Pth.zero:=by
  rw[aO (by rw[List.length_map];exact hx),List.getElem_map,<-aO (d:=0) hx,hxe,Int.toNat_natCast]
 rw[this];exact h3
end Go.D3
namespace Go.D3
open Go
def lS(n:Int):UInt8:=UInt8.ofNat n.toNat
def xd(l:List Int):List UInt8:=l.map lS++[255]
def rk(l:List (List Int)):List UInt8:=l.flatMap xd
def mT(l:List Int):Prop:=∀x∈l,0<=x/\x<255
theorem Cv{a b:Int}(ha : 0<=a/\a<255)(hb : 0<=b/\b<255)(h:lS a=lS b):a=b:=by
 have:=congrArg UInt8.toNat h;simp only[lS,UInt8.toNat_ofNat'] at this;omega
theorem EF:∀{a b:List Int},mT a->mT b->a.map lS=b.map lS->a=b
 | [],[],_,_,_=>rfl
 | [],_::_,_,_,h=>by cases h
 | _::_,[],_,_,h=>by cases h
 | x::a,y::b,ha,hb,h=>by
  simp only[List.map_cons,List.cons.injEq] at h;rw[Cv (ha x List.mem_cons_self) (hb y List.mem_cons_self) h.1,EF (fun z hz=>ha z (List.mem_cons_of_mem _ hz)) (fun z hz=>hb z (List.mem_cons_of_mem _ hz)) h.2]
def jE(p:Pth):List UInt8:=rk [[p.st],p.ed]
theorem RP{p q:Pth}(hp:mT (p.st::p.ed))(hq:mT (q.st::q.ed))(h:jE p=jE q):p=q:=by
 unfold jE rk xd at h;simp only[List.flatMap_cons,List.flatMap_nil,List.map_cons,List.map_nil,List.cons_append,List.nil_append,List.append_nil,List.cons.injEq,true_and] at h;have e1:=Cv (hp _ List.mem_cons_self) (hq _ List.mem_cons_self) h.1;have e2:=EF (fun z hz=>hp z (List.mem_cons_of_mem _ hz)) (fun z hz=>hq z (List.mem_cons_of_mem _ hz)) (List.append_inj_left' h.2 rfl);cases p;cases q;simp only at e1 e2;rw[e1,e2]
theorem rY{s:Sch}(hs:gD s){p:Pth}(hp:s.sp p):mT (p.st::p.ed):=by
 obtain⟨y,hy⟩:=hp;obtain⟨h1,h2,h3⟩:=bx.1 hy;have h8:=hs.n8;have hf:=hs.f8;intro x hx;rcases List.mem_cons.1 hx with rfl | hx
 ·omega
 ·obtain⟨i,hi,rfl⟩:=List.getElem_of_mem hx
  have:=(pk h3).2 i hi;rw[aO hi] at this;omega
def lu(ks:Nat->List UInt8)(n:Nat):List (List UInt8×Int):=(List.range n).map fun j=>(ks j,(j:Int))
theorem RX{ks:Nat->List UInt8}{n:Nat}:(lu ks n).length=n:=by simp[lu]
theorem RY{ks:Nat->List UInt8}{n:Nat}(h:∀j,j<n->ks j≠ks n):fR (lu ks n) (ks n) (n:Int)=lu ks (n+1):=by
 have:dG (lu ks n) (ks n)=none:=by
  unfold dG;rw[List.findIdx?_eq_none_iff];intro e he;obtain⟨j,hj,rfl⟩:=List.mem_map.1 he;have:=h j (List.mem_range.1 hj);simp only[beq_eq_false_iff_ne,ne_eq];exact fun e=>this e.symm
 unfold fR;rw[this];simp only;unfold lu;rw[List.range_succ,List.map_append];rfl
theorem RW{ks:Nat->List UInt8}{n i:Nat}(hi:i<n)(h:∀j,j<n->ks j=ks i->j=i)(z:Int):iR (lu ks n) (ks i) z=i:=by
 unfold iR;cases hf:(lu ks n).find? fun e=>ks i == e.1 with
 | none =>
  rw[List.find?_eq_none] at hf;exact absurd (by simp) (hf (ks i,(i:Int)) (List.mem_map.2 ⟨i,List.mem_range.2 hi,rfl⟩))
 | some e =>
  have h1:=List.find?_some hf;have h2:=List.mem_of_find?_eq_some hf;obtain⟨j,hj,rfl⟩:=List.mem_map.1 h2;have:j=i:=h j (List.mem_range.1 hj) (by have:=h1;simp only[beq_iff_eq] at this;exact this.symm);subst this;rfl
def oV(list:List Pth)(n:Nat):List (List UInt8×Int):=lu (fun j=>jE (list.getD j Pth.zero)) n
theorem Cm{s:Sch}(hs:gD s){list:List Pth}(hv:∀p∈list,s.sp p)(hn:list.Nodup){i j:Nat}(hi:i<list.length)(hj:j<list.length)(h:jE (list.getD i Pth.zero)=jE (list.getD j Pth.zero)):i=j :=
 getD_inj hn hi hj (RP (rY hs (hv _ (cH hi))) (rY hs (hv _ (cH hj))) h)
theorem K9{s:Sch}(hs:gD s){list:List Pth}(hv:∀p∈list,s.sp p)(hn:list.Nodup){i:Nat}(hi:i<list.length):fR (oV list i) (jE (list.getD i Pth.zero)) (i:Int)=oV list (i+1) :=
 RY (ks:=fun j=>jE (list.getD j Pth.zero)) fun j hj e=>by have:=Cm hs hv hn (show j<list.length by omega) hi e;omega
theorem Cl{s:Sch}(hs:gD s){list:List Pth}(hv:∀p∈list,s.sp p)(hn:list.Nodup){p:Pth}(hp:p∈list):∃i:Nat,i<list.length/\list.getD i Pth.zero=p/\iR (oV list list.length) (jE p) 0=i:=by
 obtain⟨i,hi,rfl⟩:=ew (d:=Pth.zero) hp;exact⟨i,hi,rfl,RW (ks:=fun j=>jE (list.getD j Pth.zero)) hi (fun j hj e=>Cm hs hv hn hj hi e) 0⟩
end Go.D3
namespace Go.D3
open Go
set_option maxHeartbeats 4000000
set_option maxRecDepth 100000
theorem LJ{a b:List Int}{i:Nat}(ha:i<a.length)(hb:i<b.length)(h:a.getD i 0=b.getD i 0)(hc:dA a b=dA (a.drop i) (b.drop i)):dA a b=dA (a.drop (i+1)) (b.drop (i+1)):=by
 rw[hc];rw[aO ha,aO hb] at h;unfold dA;rw[List.drop_eq_getElem_cons ha,List.drop_eq_getElem_cons hb];simp only[lexB,h,if_true,List.cons.injEq,true_and]
theorem CS{x y:Int}{a b:List Int}(h:x≠y):dA (x::a) (y::b)=if x<y then -1 else 1:=by
 unfold dA;simp only[lexB,decide_eq_true_eq,List.cons.injEq,h,false_and,if_false]
theorem LI{x:Int}{a:List Int}:dA (x::a) []=1:=by simp[dA,lexB]
theorem LK{x:Int}{a:List Int}:dA [] (x::a)=-1:=by simp[dA,lexB]
def Ak:List Nat:=[0,1,4,5,7,8]
def HQ:Sl:=ae Go.Proofs.Tryz.types Go.Proofs.Tryz.f184 Ak []
theorem PK:aD Go.Proofs.Tryz.prog Go.Proofs.Tryz.f184 Ak HQ 2=true:=by decide +kernel
theorem yL[Mode](a b:List Int)(hl:a.length<=1048576)(_:b.length<=1048576):al Go.Proofs.Tryz.prog 184 [.v (ints a),.v (ints b)] (.int .i64 (dA a b)):=by
 refine aC Go.Proofs.Tryz.func184 PK ?_;unfold HQ ae Ak;simp only[go_sem];refine aJ [3] (fun i:Nat=>[(5,.int .i64 i)]) (fun i=>i<=a.length/\i<=b.length/\dA a b=dA (a.drop i) (b.drop i)) (fun i=>a.length-i) 0 (by simp only[go_sem];rfl) ⟨Nat.zero_le _,Nat.zero_le _,rfl⟩ rfl ?_;rintro i ⟨hi,hj,hc⟩;simp only[go_sem];refine⟨fun h1=>⟨fun h2=>?_,fun h2=>?_⟩,fun h1=>?_⟩
 ·have e:i=b.length:=by omega
  rw[hc,List.drop_of_length_le (show b.length<=i by omega),List.drop_eq_getElem_cons h1,LI]
 ·rw[beq_eq_false_iff_ne] at h2
  have h3:i<b.length:=by omega
  refine⟨h1,h3,fun h4=>⟨h1,h3,fun h5=>?_,fun h5=>?_⟩,fun h4=>?_⟩
  all_goals(try rw[bne_iff_ne] at h4)
  ·rw[aO h1,aO h3] at h4 h5
   rw[hc,List.drop_eq_getElem_cons h1,List.drop_eq_getElem_cons h3,CS h4,if_pos h5]
  ·rw[aO h1,aO h3] at h4 h5
   rw[hc,List.drop_eq_getElem_cons h1,List.drop_eq_getElem_cons h3,CS h4,if_neg h5]
  ·rw[bne_eq_false_iff_eq] at h4
   exact⟨i+1,⟨h1,h3,LJ h1 h3 h4 hc⟩,by omega,by rw[aH h1 (by simp only[maxLen];omega)]⟩
 ·have e:i=a.length:=by omega
  refine⟨fun h2=>?_,fun h2=>?_⟩
  ·rw[hc,List.drop_of_length_le (show a.length<=i by omega),List.drop_eq_getElem_cons (show i<b.length by omega),LK]
  ·rw[hc,List.drop_of_length_le (show a.length<=i by omega),List.drop_of_length_le (show b.length<=i by omega)]
   simp[dA,lexB]
def AF:List Nat:=[0,1,4]
def Ib:Sl:=ae Go.Proofs.Tryz.types Go.Proofs.Tryz.f207 AF []
theorem P7:aD Go.Proofs.Tryz.prog Go.Proofs.Tryz.f207 AF Ib 2=true:=by decide +kernel
theorem Tp(a b:List Int)(hl:a.length<=1048576)(hm:b.length<=1048576):al Go.Proofs.Tryz.prog 207 [.v (ints a),.v (ints b)] (.bool (a == b)):=by
 refine aC Go.Proofs.Tryz.func207 P7 ?_;unfold Ib ae AF;simp only[go_sem];refine af (yL a b hl hm) rfl (.inl rfl) ?_;simp only[go_sem];by_cases h:a=b
 ·rw[sP.2 h];simp[h]
 ·rw[show(dA a b == 0)=false from beq_eq_false_iff_ne.2 fun e=>h (sP.1 e),show(a == b)=false from beq_eq_false_iff_ne.2 h]
def Al:List Nat:=[0,1,4,2,3,5]
def HR:Sl:=ae Go.Proofs.Tryz.types Go.Proofs.Tryz.f180 Al []
theorem PL:aD Go.Proofs.Tryz.prog Go.Proofs.Tryz.f180 Al HR 2=true:=by decide +kernel
theorem GM[Mode](p q:Pth)(hl:p.ed.length<=1048576)(hm:q.ed.length<=1048576):al Go.Proofs.Tryz.prog 180 [.v (Pth.d p),.v (Pth.d q)] (.int .i64 (nA p q)):=by
 refine aC Go.Proofs.Tryz.func180 PL ?_;unfold HR ae Al;simp only[go_sem];rw[wrap_small (by omega) (by omega)];refine⟨fun h=>?_,fun h=>?_⟩
 ·unfold nA
  rw[if_pos (by rw[bne_iff_ne] at h;exact h)]
 ·unfold nA
  rw[if_neg (by rw[bne_eq_false_iff_eq] at h;omega)];refine af (yL p.ed q.ed hl hm) rfl (.inl rfl) ?_;simp only[go_sem]
def kR(ll:List (List Int)):List Int:=ll.flatMap fun l=>l++[255]
theorem MV{ll:List (List Int)}{l:List Int}:kR (ll++[l])=kR ll++l++[255]:=by simp[kR]
theorem MU{ll:List (List Int)}:(kR ll).map lS=rk ll:=by
 induction ll with
 | nil=>rfl
 | cons l r ih =>
  show((l++[255])++kR r).map lS=xd l++rk r;rw[List.map_append,ih,List.map_append];rfl
theorem MT{ll:List (List Int)}(h:∀l∈ll,l.length<=64):(kR ll).length<=ll.length*65:=by
 induction ll with
 | nil=>exact Nat.le_refl _
 | cons l r ih =>
  have h1:=h l List.mem_cons_self;have h2:=ih fun m hm=>h m (List.mem_cons_of_mem _ hm)
  show((l++[255])++kR r).length<=_;simp only[List.length_append,List.length_cons,List.length_nil];omega
theorem V1{n:Int}(h : 0<=n/\n<255):IntKind.u8.wrap n=n:=kr ⟨by simp only[IntKind.min,IntKind.signed];simpa using h.1,by simp only[IntKind.max,IntKind.signed,IntKind.bits];simp;omega⟩
def As:List Nat:=[0,2,3,5,7,9,10,11,15,16,17]
def HY:Sl:=ae Go.Proofs.Tryz.types Go.Proofs.Tryz.f206 As []
theorem PU:aD Go.Proofs.Tryz.prog Go.Proofs.Tryz.f206 As HY 1=true:=by decide +kernel
theorem Tm(ll:List (List Int))(hs:∀l∈ll,mT l/\l.length<=64)(hl:ll.length<=64):al Go.Proofs.Tryz.prog 206 [.v (aW ll)] (.str (rk ll)):=by
 have hb:=fun i=>MT (ll:=ll.take i) fun l hm=>(hs l (List.mem_of_mem_take hm)).2
 refine aC Go.Proofs.Tryz.func206 PU ?_;unfold HY ae As;simp only[go_sem];refine aJ [3,4,8,9,10] (fun(i:Nat)=>[(7,.int .i64 i),(2,.o (bytes (kR (ll.take i))))]) (fun i=>i<=ll.length) (fun i=>ll.length-i) 0 (by simp only[go_sem];rfl) (Nat.zero_le _) rfl ?_;intro i hi;have hbi:=hb i;rw[List.length_take] at hbi;simp only[go_sem];refine⟨fun h1=>⟨h1,?_⟩,fun h1=>?_⟩
 ·have hm:ll.getD i []∈ll:=cH h1
  obtain⟨hsm,hl64⟩:=hs _ hm;refine aJ [4] (fun(j:Nat)=>[(10,.int .i64 j),(2,.o (bytes (kR (ll.take i)++(ll.getD i []).take j)))]) (fun j=>j<=(ll.getD i []).length) (fun j=>(ll.getD i []).length-j) 0 (by simp only[go_sem];rfl) (Nat.zero_le _) (by simp only[go_sem,List.take_zero,List.append_nil];rfl) ?_;intro j hj;simp only[go_sem];refine⟨fun h2=>⟨h2,?_⟩,fun h2=>?_⟩
  ·rw[V1 (hsm _ (cH h2))]
   refine⟨by rw[List.length_append,List.length_take];omega,j+1,h2,by omega,?_⟩;rw[aH h2 (by simp only[maxLen];omega),bT h2 0,List.append_assoc]
  ·rw[List.take_of_length_le (show(ll.getD i []).length<=j by omega)]
   refine⟨by rw[List.length_append];omega,i+1,h1,by omega,?_⟩;rw[aH h1 (by simp only[maxLen];omega),bT h1 [],MV]
 ·rw[List.take_of_length_le (by omega)]
  exact congrArg D.str MU
def AB:List Nat:=[0,1,4]
def H8:Sl:=ae Go.Proofs.Tryz.types Go.Proofs.Tryz.f173 AB []
theorem P4:aD Go.Proofs.Tryz.prog Go.Proofs.Tryz.f173 AB H8 2=true:=by decide +kernel
theorem yO(x:Int)(ed:List Int)(hs:mT (x::ed))(hl:ed.length<=64):al Go.Proofs.Tryz.prog 173 [.v (.int .i64 x),.v (ints ed)] (.str (jE ⟨x,ed⟩)):=by
 have h1:∀l∈[[x],ed],mT l/\l.length<=64:=fun l hm=>by
  simp only[List.mem_cons,List.not_mem_nil,or_false] at hm;rcases hm with rfl | rfl
  ·exact⟨fun y hy=>hs y (by simp only[List.mem_singleton] at hy;rw[hy];exact List.mem_cons_self),Nat.le_of_ble_eq_true rfl⟩
  ·exact⟨fun y hy=>hs y (List.mem_cons_of_mem _ hy),hl⟩
 refine aC Go.Proofs.Tryz.func173 P4 ?_;unfold H8 ae AB;simp only[go_sem];refine af (Tm [[x],ed] h1 (Nat.le_of_ble_eq_true rfl)) rfl (.inl rfl) ?_;simp only[go_sem];rfl
end Go.D3
namespace Go.D3
open Go
set_option maxHeartbeats 4000000
set_option maxRecDepth 100000
theorem O9{n i:Nat}(h:i<n):(bw n).getD i 0=i:=by
 unfold bw;rw[List.getD_eq_getElem?_getD,List.getElem?_map,List.getElem?_range h];rfl
def Ax:List Nat:=[0,2,3,4,8,9]
def H3:Sl:=ae Go.Proofs.Tryz.types Go.Proofs.Tryz.f181 Ax []
theorem PY:aD Go.Proofs.Tryz.prog Go.Proofs.Tryz.f181 Ax H3 1=true:=by decide +kernel
theorem GO(n:Nat)(h1:n<=1048576):al Go.Proofs.Tryz.prog 181 [.v (.int .i64 n)] (ints (bw n)):=by
 have hm:(bw n).length<=maxLen:=by rw[dI];simp only[maxLen];omega
 refine aC Go.Proofs.Tryz.func181 PY ?_;unfold H3 ae Ax;simp only[go_sem];refine⟨⟨Nat.le_refl _,by omega⟩,?_⟩;refine aJ [3] (fun(i:Nat)=>[(2,.o (ints (dB (bw n) 0 i))),(5,.int .i64 i)]) (fun i=>i<=n) (fun i=>n-i) 0 (by simp only[go_sem];rfl) (Nat.zero_le _) ?_ ?_
 ·simp only[go_sem,sU,dI];rfl
 rintro i hi;simp only[go_sem];refine⟨fun h=>?_,fun h=>?_⟩
 ·have hi':i<n:=by simp only[List.length_replicate] at h;omega
  refine⟨by rw[lW (by rw[dI];omega),dI];exact hi',by rw[lW (by rw[dI];omega),dI];exact hi',i+1,by omega,by omega,?_⟩;have:=sT (d:=0) (z:=0) (l:=bw n) (i:=i) (by rw[dI];omega);rw[O9 hi'] at this;rw[this,aH (n:=n) hi' (by simp only[maxLen];omega)]
 ·rw[sS (by rw[dI];simp only[List.length_replicate] at h;omega)]
def Ao:List Nat:=[0,2]
def HU:Sl:=ae Go.Proofs.Tryz.types Go.Proofs.Tryz.f174 Ao []
theorem PO:aD Go.Proofs.Tryz.prog Go.Proofs.Tryz.f174 Ao HU 1=true:=by decide +kernel
theorem Ti(n:Nat)(h1:n<=1048576):al Go.Proofs.Tryz.prog 174 [.v (.int .i64 n)] (ints (bw n)):=by
 refine aC Go.Proofs.Tryz.func174 PO ?_;unfold HU ae Ao;simp only[go_sem];refine af (GO n h1) rfl (.inl (bJ _)) ?_;simp only[go_sem]
def Ar:List Nat:=[0,1,4]
def HX:Sl:=ae Go.Proofs.Tryz.types Go.Proofs.Tryz.f208 Ar []
theorem PT:aD Go.Proofs.Tryz.prog Go.Proofs.Tryz.f208 Ar HX 2=true:=by decide +kernel
theorem yN(J:List Int)(hU:UF J)(_:J.length<=1048576)(x:Nat)(hx:x<J.length) :
  al Go.Proofs.Tryz.prog 208 [.io (.o (ints J)) (.o (ints (dV (x+1) J x).2)),.v (.int .i64 x)] (.int .i64 (rep J x)):=by
 refine aC Go.Proofs.Tryz.func208 PT ?_;unfold HX ae Ar;simp only[go_sem];refine aJ [] (fun(p:List Int×Nat×Nat)=>[(3,.o (ints p.1)),(1,.int .i64 p.2.1)]) (fun p=>UF p.1/\p.1.length=J.length/\p.2.1<J.length/\p.2.1<p.2.2/\dV p.2.2 p.1 p.2.1=dV (x+1) J x) (fun p=>p.2.1) (J,x,x+1) (by simp only[go_sem];rfl) ⟨hU,rfl,hx,Nat.lt_succ_self _,rfl⟩ rfl ?_;rintro⟨K,y,f⟩ ⟨hK,hKl,hy,hf,hr⟩;simp only at hK hKl hy hf hr;obtain⟨z,e1,hz⟩:=hK.get (show y<K.length by omega);obtain⟨u,e2,hu⟩:=hK.get (show z<K.length by omega);simp only[go_sem,e1,e2];refine⟨by omega,fun h=>?_,fun h=>?_⟩
 ·have hzy:z<y:=by
   rw[bne_iff_ne] at h;omega
  refine⟨by omega,by omega,by omega,by omega,by rw[List.length_set];omega,?_⟩;obtain⟨g,rfl⟩:∃g,f=g+1:=⟨f-1,by omega⟩;have aI:=T4 (f:=g) (J:=K) (x:=y) (by omega);rw[e1,Int.toNat_natCast,e2,Int.toNat_natCast] at aI;obtain⟨h1,h2⟩:=hK.DU (show y<K.length by omega) e1 hzy e2;exact⟨(K.set y (u:Int),u,g),⟨h1,by show(K.set y (u:Int)).length=_;rw[List.length_set,hKl],by show u<_;omega,by show u<g;omega,by rw[<-aI];exact hr⟩,by show u<y;omega,by rw[jH (by omega),if_pos rfl]⟩
 ·rw[bne_eq_false_iff_eq] at h
  have e3:K.getD y 0=(y:Int):=by rw[e1,h]
  obtain⟨g,rfl⟩:∃g,f=g+1:=⟨f-1,by omega⟩;have e4:dV (g+1) K y=(y,K):=by rw[dV,if_pos e3]
  have e5:=(ox (x+1) hU hx (Nat.lt_succ_self _)).1;rw[e4] at hr;rw[<-hr] at e5|-
  rw[<-e5];exact⟨rfl,rfl⟩
noncomputable def kP(J:List Int)(x y:Nat):List Int :=
 ((dV (y+1) (dV (x+1) J x).2 y).2).set (max (rep J x) (rep J y)) ((min (rep J x) (rep J y):Nat):Int)
theorem MR{J:List Int}(hU:UF J){x y:Nat}(hx:x<J.length)(hy:y<J.length):UF (kP J x y)/\(kP J x y).length=J.length/\∀u,u<J.length->rep (kP J x y) u=if rep J u=max (rep J x) (rep J y) then min (rep J x) (rep J y) else rep J u:=by
 obtain⟨_,a2,a3,a4⟩:=ox (x+1) hU hx (Nat.lt_succ_self _);obtain⟨_,b2,b3,b4⟩:=ox (y+1) a2 (show y<_ by omega) (Nat.lt_succ_self _);have hr:∀u,u<J.length->rep (dV (y+1) (dV (x+1) J x).2 y).2 u=rep J u:=fun u hu=>(b4 u (by omega)).trans (a4 u hu)
 obtain⟨c1,c2⟩:=b2.join (show x<_ by omega) (show y<_ by omega);rw[hr x hx,hr y hy] at c1 c2;refine⟨c1,by unfold kP;rw[List.length_set];omega,fun u hu=>?_⟩;unfold kP;rw[c2 u (by omega),hr u hu]
def Ap:List Nat:=[0,1,2,6,7,8]
def HV:Sl:=ae Go.Proofs.Tryz.types Go.Proofs.Tryz.f177 Ap [(2,208)]
theorem PQ:aD Go.Proofs.Tryz.prog Go.Proofs.Tryz.f177 Ap HV 3=true:=by decide +kernel
theorem Tj(J:List Int)(hU:UF J)(hl:J.length<=1048576)(x y:Nat)(hx:x<J.length)(hy:y<J.length) :
  al Go.Proofs.Tryz.prog 177 [.io (.o (ints J)) (.o (ints (kP J x y))),.v (.int .i64 x),.v (.int .i64 y)] (.bool (rep J x != rep J y)):=by
 obtain⟨_,a2,a3,a4⟩:=ox (x+1) hU hx (Nat.lt_succ_self _);obtain⟨_,b2,b3,b4⟩:=ox (y+1) a2 (show y<_ by omega) (Nat.lt_succ_self _);refine aC Go.Proofs.Tryz.func177 PQ ?_;unfold HV ae Ap;simp only[go_sem];refine wY (yN J hU hl x hx) rfl trivial rfl ?_;simp only[go_sem];refine wY (yN (dV (x+1) J x).2 a2 (by omega) y (by omega)) rfl trivial rfl ?_;rw[a4 y hy];simp only[go_sem];have hrx:=(hU.mF hx).1;have hry:=(hU.mF hy).1;have emax:max ((rep J x:Nat):Int) ((rep J y:Nat):Int)=((max (rep J x) (rep J y):Nat):Int):=by omega
 have emin:min ((rep J x:Nat):Int) ((rep J y:Nat):Int)=((min (rep J x) (rep J y):Nat):Int):=by omega
 rw[emax,emin,Int.toNat_natCast];refine⟨⟨by omega,by omega⟩,by omega,?_,rfl⟩;by_cases h:rep J x=rep J y
 ·simp[h]
 ·have h2:((rep J x:Nat):Int)≠(rep J y:Nat):=by omega
  rw[bne_iff_ne.2 h2,bne_iff_ne.2 h]
def Az:List Nat:=[0,2,3,5,6,7,8]
def H5:Sl:=ae Go.Proofs.Tryz.types Go.Proofs.Tryz.f179 Az []
theorem P0:aD Go.Proofs.Tryz.prog Go.Proofs.Tryz.f179 Az H5 1=true:=by decide +kernel
theorem To(l:List Int)(hl:l.length<=1048576)(hb:∀i,i<l.length->0<=l.getD i 0/\l.getD i 0<1048576):al Go.Proofs.Tryz.prog 179 [.v (ints l)] (.int .i64 (l.foldl (fun m k=>max m (k+1)) 0)):=by
 refine aC Go.Proofs.Tryz.func179 P0 ?_;unfold H5 ae Az;simp only[go_sem];refine aJ [3] (fun(i:Nat)=>[(2,.int .i64 ((l.take i).foldl (fun m k=>max m (k+1)) 0)),(6,.int .i64 i)]) (fun i=>i<=l.length) (fun i=>l.length-i) 0 (by simp only[go_sem];rfl) (Nat.zero_le _) rfl ?_;intro i hi;simp only[go_sem];refine⟨fun h=>⟨h,i+1,h,by omega,?_⟩,fun h=>?_⟩
 ·have:=hb i h
  rw[bT h 0,List.foldl_append,aH h (by simp only[maxLen];omega),wrap_small (n:=l.getD i 0+1) (by omega) (by omega)];rfl
 ·rw[List.take_of_length_le (by omega)]
def Ai:List Nat:=[0,2,3,4,5,9,10,11]
def HO:Sl:=ae Go.Proofs.Tryz.types Go.Proofs.Tryz.f142 Ai []
theorem PI:aD Go.Proofs.Tryz.prog Go.Proofs.Tryz.f142 Ai HO 1=true:=by decide +kernel
theorem Th(l:List Int)(hl:l.length<=1048576)(hb:∀i,i<l.length->0<=l.getD i 0/\l.getD i 0<l.length) :
  al Go.Proofs.Tryz.prog 142 [.v (ints l)] (ints ((List.range l.length).foldl (fun o x=>o.set (l.getD x 0).toNat (x:Int)) (List.replicate l.length 0))):=by
 have hlen:∀i,((List.range i).foldl (fun o x=>o.set (l.getD x 0).toNat (x:Int)) (List.replicate l.length 0)).length=l.length:=fun i=>by
  induction i with
  | zero=>simp
  | succ i ih=>rw[List.range_succ,List.foldl_append];show(List.set _ _ _).length=_;rw[List.length_set,ih]
 refine aC Go.Proofs.Tryz.func142 PI ?_;unfold HO ae Ai;simp only[go_sem];refine⟨⟨Nat.le_refl _,by omega⟩,?_⟩;refine aJ [3,4] (fun(i:Nat)=>[(2,.o (ints ((List.range i).foldl (fun o x=>o.set (l.getD x 0).toNat (x:Int)) (List.replicate l.length 0)))),(7,.int .i64 i)]) (fun i=>i<=l.length) (fun i=>l.length-i) 0 (by simp only[go_sem];rfl) (Nat.zero_le _) rfl ?_;intro i hi;simp only[go_sem];simp only[hlen];refine⟨fun h=>⟨h,hb i h,by have:=hb i h;omega,i+1,h,by omega,?_⟩,fun h=>by rw[show i=l.length by omega]⟩;rw[List.range_succ,List.foldl_append,aH h (by simp only[maxLen];omega)];rfl
end Go.D3
namespace Go.D3
open Go
set_option maxHeartbeats 4000000
set_option maxRecDepth 100000
def ez:Nat->List Int->List (Int×Int)
 | _,[]=>[]
 | k,x::r=>(x,(k:Int))::ez (k+1) r
theorem xa:∀{k:Nat}{s:List Int},(ez k s).length=s.length
 | _,[]=>rfl
 | k,_::r=>by show(ez (k+1) r).length+1=_;rw[xa];rfl
theorem D8:∀{k:Nat}{s:List Int}{x:Int},ez k (s++[x])=ez k s++[(x,((k+s.length:Nat):Int))]
 | _,[],_=>rfl
 | k,y::r,x=>by
  show(y,(k:Int))::ez (k+1) (r++[x])=(y,(k:Int))::(ez (k+1) r++_);rw[D8,List.length_cons,show k+1+r.length=k+(r.length+1) by omega]
theorem xb:∀{k:Nat}{s:List Int}{x:Int},x ∉ s->dG (ez k s) x=none/\j9 (ez k s) x=false
 | _,[],_,_=>⟨rfl,rfl⟩
 | k,y::r,x,h=>by
  have hxy:(x == y)=false:=beq_eq_false_iff_ne.2 fun e=>h (e▸List.mem_cons_self)
  obtain⟨h1,h2⟩:=xb (k:=k+1) (s:=r) (x:=x) fun hm=>h (List.mem_cons_of_mem _ hm)
  constructor
  ·show dG ((y,(k:Int))::ez (k+1) r) x=none
   unfold dG at h1|-
   rw[List.findIdx?_cons];simp only[hxy,h1,Option.map_none,Bool.false_eq_true,if_false]
  ·show j9 ((y,(k:Int))::ez (k+1) r) x=false
   unfold j9 at h2|-
   rw[List.any_cons,hxy,h2];rfl
theorem D7:∀{k:Nat}{s:List Int}{x z:Int},x∈s->iR (ez k s) x z=((k+s.findIdx (·== x):Nat):Int)/\j9 (ez k s) x=true
 | k,y::r,x,z,h=>by
  by_cases e:x=y
  ·subst e
   constructor
   ·show iR ((x,(k:Int))::ez (k+1) r) x z=_
    unfold iR;rw[List.find?_cons,List.findIdx_cons];simp
   ·show j9 ((x,(k:Int))::ez (k+1) r) x=true
    unfold j9;rw[List.any_cons];simp
  ·have hxy:(x == y)=false:=beq_eq_false_iff_ne.2 e
   have hyx:(y == x)=false:=beq_eq_false_iff_ne.2 (Ne.symm e);obtain⟨h1,h2⟩:=D7 (k:=k+1) (s:=r) (x:=x) (z:=z) ((List.mem_cons.1 h).resolve_left e);constructor
   ·show iR ((y,(k:Int))::ez (k+1) r) x z=_
    unfold iR at h1|-
    rw[List.find?_cons,List.findIdx_cons];simp only[hxy,hyx,cond_false];rw[h1];omega
   ·show j9 ((y,(k:Int))::ez (k+1) r) x=true
    unfold j9 at h2|-
    rw[List.any_cons,hxy,h2];rfl
theorem MN{s:List Int}{x:Int}(h:x ∉ s):fR (ez 0 s) x (s.length:Int)=ez 0 (s++[x]):=by
 unfold fR;rw[(xb h).1,D8,Nat.zero_add]
theorem LF{p:List Int×List Int}{x:Int}(h:x∈p.1):jj p x=(p.1,p.2++[((p.1.findIdx (·== x):Nat):Int)]):=by
 have hl:p.1.findIdx (·== x)<p.1.length:=List.findIdx_lt_length_of_exists ⟨x,h,by simp⟩;unfold jj iP;rw[if_pos hl,if_neg (by omega)]
theorem LD{p:List Int×List Int}{x:Int}(h:x ∉ p.1):jj p x=(p.1++[x],p.2++[(p.1.length:Int)]):=by
 have hl:¬p.1.findIdx (·== x)<p.1.length:=fun hl=>by
  have:=List.findIdx_getElem (w:=hl);have e:p.1[p.1.findIdx (·== x)]=x:=by simpa using this
  exact h (e▸List.getElem_mem hl)
 unfold jj iP;rw[if_neg hl,if_pos (by omega)]
def ny(l:List Int)(i:Nat):List Int:=(dP (l.take i)).2++List.replicate (l.length-i) 0
theorem LB{l:List Int}{i:Nat}(h:i<=l.length):(ny l i).length=l.length:=by
 have:=(nx (L:=l) i h).len;unfold ny;rw[List.length_append,this,List.length_replicate];omega
theorem CR{l:List Int}{i:Nat}{v:Int}(h:i<l.length)(hs:(dP (l.take (i+1))).2=(dP (l.take i)).2++[v]):(ny l i).set i v=ny l (i+1):=by
 have:=(nx (L:=l) i (by omega)).len;unfold ny;rw[List.set_append_right _ _ (by omega),this,Nat.sub_self,hs,show l.length-i=(l.length-(i+1))+1 by omega,List.replicate_succ,List.set_cons_zero,List.append_assoc];rfl
def Aw:List Nat:=[0,2,3,4,5,6,7,8,13,14,15]
def H2:Sl:=ae Go.Proofs.Tryz.types Go.Proofs.Tryz.f209 Aw []
theorem PX:aD Go.Proofs.Tryz.prog Go.Proofs.Tryz.f209 Aw H2 1=true:=by decide +kernel
theorem Tn(l:List Int)(hl:l.length<=1048576):al Go.Proofs.Tryz.prog 209 [.v (ints l)] (ints (dO l)):=by
 refine aC Go.Proofs.Tryz.func209 PX ?_;unfold H2 ae Aw;simp only[go_sem];refine⟨⟨Nat.le_refl _,by omega⟩,?_⟩;refine aJ [4,5,6,7] (fun(i:Nat)=>[(2,.o (bC (D.int .i64) (D.int .i64) (ez 0 (dP (l.take i)).1))),(3,.o (ints (ny l i))),(10,.int .i64 i)]) (fun i=>i<=l.length) (fun i=>l.length-i) 0 (by simp only[go_sem];rfl) (Nat.zero_le _) ?_ ?_
 ·simp only[go_sem];rfl
 intro i hi;simp only[go_sem];have hI:=nx (L:=l) i hi;have hsl:=hI.sle hi;have hcl:=LB hi;refine⟨fun h=>?_,fun h=>?_⟩
 ·have hw:=aH h (show l.length<=maxLen by simp only[maxLen];omega)
  have hs:dP (l.take (i+1))=jj (dP (l.take i)) (l.getD i 0):=by rw[bT h 0,v8]
  by_cases hm:l.getD i 0∈(dP (l.take i)).1
  ·obtain⟨g1,g2⟩:=D7 (k:=0) (z:=0) hm
   rw[g1,g2,Nat.zero_add];rw[LF hm] at hs;refine⟨h,fun h2=>by(cases h2),fun _=>⟨by omega,by omega,i+1,h,by omega,?_⟩⟩;rw[hw,CR h (by rw[hs]),hs]
  ·obtain⟨_,g2⟩:=xb (k:=0) hm
   rw[g2];rw[LD hm] at hs;refine⟨h,fun _=>⟨by rw[xa];simp only[maxLen];omega,by omega,by omega,i+1,h,by omega,?_⟩,fun h2=>by(cases h2)⟩;rw[hw,xa,CR h (by rw[hs]),MN hm,hs]
 ·have e:i=l.length:=by omega
  unfold ny dO;rw[e,Nat.sub_self,List.replicate_zero,List.append_nil,List.take_length]
noncomputable def gj(J:List Int)(i:Nat):List Int:=(List.range i).map fun x:Nat=>((rep J x:Nat):Int)
def gX(J:List Int)(i:Nat):List Int:=(List.range i).foldl (fun K x=>(dV (x+1) K x).2) J
theorem B0{J:List Int}(hU:UF J):∀i,i<=J.length->UF (gX J i)/\(gX J i).length=J.length/\∀u,u<J.length->rep (gX J i) u=rep J u
 | 0,_=>⟨hU,rfl,fun _ _=>rfl⟩
 | i+1,h=>by
  obtain⟨h1,h2,h3⟩:=B0 hU i (by omega);have e:gX J (i+1)=(dV (i+1) (gX J i) i).2:=by unfold gX;rw[List.range_succ,List.foldl_append];rfl
  obtain⟨_,a2,a3,a4⟩:=ox (i+1) h1 (show i<_ by omega) (Nat.lt_succ_self _);rw[e];exact⟨a2,a3.trans h2,fun u hu=>(a4 u (by omega)).trans (h3 u hu)⟩
theorem pz{J:List Int}{i:Nat}:(gj J i).length=i:=by simp[gj]
theorem M3{J:List Int}{i x:Nat}(h:x<i):(gj J i).getD x 0=rep J x:=by
 unfold gj;rw[aO (by simpa using h)];simp
def Aq:List Nat:=[0,2,3,4,9,10]
def HW:Sl:=ae Go.Proofs.Tryz.types Go.Proofs.Tryz.f178 Aq [(2,208)]
theorem PS:aD Go.Proofs.Tryz.prog Go.Proofs.Tryz.f178 Aq HW 1=true:=by decide +kernel
theorem Tl(J:List Int)(hU:UF J)(hl:J.length<=1048576):al Go.Proofs.Tryz.prog 178 [.io (.o (ints J)) (.o (ints (gX J J.length)))] (ints (dO (gj J J.length))):=by
 refine aC Go.Proofs.Tryz.func178 PS ?_;unfold HW ae Aq;simp only[go_sem];refine⟨⟨Nat.le_refl _,by omega⟩,?_⟩;refine aJ [3] (fun(i:Nat)=>[(2,.o (ints (gj J i++List.replicate (J.length-i) 0))),(5,.int .i64 i),(6,.o (ints (gX J i)))]) (fun i=>i<=J.length) (fun i=>J.length-i) 0 (by simp only[go_sem];rfl) (Nat.zero_le _) rfl ?_;intro i hi;obtain⟨h1,h2,h3⟩:=B0 hU i hi;simp only[go_sem];refine⟨fun h=>?_,fun h=>?_⟩
 ·refine wY (yN (gX J i) h1 (by omega) i (by omega)) rfl trivial rfl ?_
  rw[h3 i h];simp only[go_sem];have hlen:(gj J i++List.replicate (J.length-i) 0).length=J.length:=by rw[List.length_append,pz,List.length_replicate];omega
  rw[hlen];have e:gX J (i+1)=(dV (i+1) (gX J i) i).2:=by unfold gX;rw[List.range_succ,List.foldl_append];rfl
  have e2:(gj J i++List.replicate (J.length-i) 0).set i (rep J i:Int)=gj J (i+1)++List.replicate (J.length-(i+1)) 0:=by
   rw[List.set_append_right _ _ (by rw[pz];omega),pz,Nat.sub_self,show J.length-i=(J.length-(i+1))+1 by omega,List.replicate_succ,List.set_cons_zero];unfold gj;rw[List.range_succ,List.map_append,List.append_assoc];rfl
  refine⟨h,h,i+1,h,by omega,?_⟩;rw[e2,e,aH h (by simp only[maxLen];omega)]
 ·have e:i=J.length:=by omega
  subst e;rw[Nat.sub_self,List.replicate_zero,List.append_nil];refine af (Tn (gj J J.length) (by rw[pz];exact hl)) rfl (.inl (bJ _)) ?_;simp only[go_sem]
end Go.D3
