/- CONTRACTS: lists compared, keys, numbers: small functions of the program. -/
import Derived.Test.YtpnchponfnbmiaaGreatDoorGAE
import Derived.Test.YtpnchponfnbmiaaGreatDoorGAA
namespace Go.D3
open Go
structure UF(j:List Int):Prop where
 le:∀i,i<j.length->0<=j.getD i 0/\j.getD i 0<=i
inductive gH(j:List Int):Nat->Nat->Prop
 | root {x:Nat}:j.getD x 0=x->gH j x x
 | step {x y r:Nat}:j.getD x 0=y->y<x->gH j y r->gH j x r
theorem gH.fn{j:List Int}{x r t:Nat}(h:gH j x r)(g:gH j x t):r=t:=by
 induction h with
 | root e=>cases g with
  | root=>rfl
  | step e2 hl=>omega
 | step e hl _ ih=>cases g with
  | root e2=>omega
  | step e2 hl2 g=>exact ih (by rw[show _=_ from Int.ofNat.inj (e.symm.trans e2)];exact g)
theorem gH.is{j:List Int}{x r:Nat}(h:gH j x r):j.getD r 0=r/\r<=x:=by
 induction h with
 | root e=>exact⟨e,Nat.le_refl _⟩
 | step _ hl _ ih=>exact⟨ih.1,by omega⟩
theorem UF.get{j:List Int}(h:UF j){x:Nat}(hx:x<j.length):∃y:Nat,j.getD x 0=y/\y<=x:=by
 have:=h.le x hx;exact⟨(j.getD x 0).toNat,by omega,by omega⟩
theorem UF.ex{j:List Int}(h:UF j):∀(n x:Nat),x<=n->x<j.length->∃r,gH j x r
 | 0,x,hn,hx=>by
  obtain⟨y,h1,h2⟩:=h.get hx;exact⟨x,.root (by rw[h1];omega)⟩
 | n+1,x,hn,hx=>by
  obtain⟨y,h1,h2⟩:=h.get hx;by_cases hy:y=x
  ·exact⟨x,.root (by rw[h1,hy])⟩
  ·obtain⟨r,hr⟩:=UF.ex h n y (by omega) (by omega)
   exact⟨r,.step h1 (by omega) hr⟩
open Classical in
noncomputable def rep(j:List Int)(x:Nat):Nat:=if h:∃r,gH j x r then Classical.choose h else x
theorem UF.rp{j:List Int}(h:UF j){x:Nat}(hx:x<j.length):gH j x (rep j x):=by
 have hr:=h.ex x x (Nat.le_refl _) hx;unfold rep;rw[dif_pos hr];exact Classical.choose_spec hr
theorem ES{j:List Int}{x r:Nat}(h:gH j x r):rep j x=r:=by
 have hr:∃r,gH j x r:=⟨r,h⟩;unfold rep;rw[dif_pos hr];exact(Classical.choose_spec hr).fn h
theorem UF.ma{j:List Int}(h:UF j){x:Nat}(hx:x<j.length):rep j x<=x/\j.getD (rep j x) 0=rep j x:=⟨(h.rp hx).is.2,(h.rp hx).is.1⟩
theorem UF.root{j:List Int}(_:UF j){x:Nat}(_:x<j.length)(e:j.getD x 0=x):rep j x=x:=ES (.root e)
theorem UF.step{j:List Int}(h:UF j){x y:Nat}(hx:x<j.length)(e:j.getD x 0=y):rep j x=rep j y:=by
 obtain⟨z,h1,h2⟩:=h.get hx;obtain rfl:y=z:=by omega
 by_cases hy:y=x
 ·rw[hy]
 ·exact ES (.step e (by omega) (h.rp (by omega)))
theorem jn{l:List Int}{i k:Nat}{v:Int}(hi:i<l.length):(l.set i v).getD k 0=if k=i then v else l.getD k 0:=by
 by_cases h:k=i
 ·subst h;rw[if_pos rfl,List.getD_eq_getElem?_getD,List.getElem?_set_self hi];rfl
 ·rw[if_neg h,List.getD_eq_getElem?_getD,List.getElem?_set_ne (Ne.symm h),List.getD_eq_getElem?_getD]
theorem UF.Cw{j:List Int}(h:UF j){x y z:Nat}(hx:x<j.length)(e1:j.getD x 0=y)(hy:y<x)(e2:j.getD y 0=z):UF (j.set x (z:Int))/\∀u,u<j.length->rep (j.set x (z:Int)) u=rep j u:=by
 have hz:=h.le y (by omega)
 have hU:UF (j.set x (z:Int)):=⟨fun i hi=>by
  rw[List.length_set] at hi;rw[jn hx];have:=h.le i hi;split
  ·omega
  ·exact this⟩
 refine⟨hU,?_⟩
 have key:∀n u,u<=n->u<j.length->rep (j.set x (z:Int)) u=rep j u:=by
  intro n;induction n with
  | zero =>
   intro u hu hl;have:=hU.ma (x:=u) (by rw[List.length_set];exact hl);have:=h.ma hl;omega
  | succ n ih =>
   intro u hu hl;have hl':u<(j.set x (z:Int)).length:=by rw[List.length_set];exact hl
   by_cases hux:u=x
   ·subst hux
    have a:=hU.step hl' (show(j.set u (z:Int)).getD u 0=(z:Int) by rw[jn hl,if_pos rfl]);have b:=h.step hl e1;have c:=h.step (show y<j.length by omega) e2;rw[a,ih z (by omega) (by omega),b,c]
   ·obtain⟨w,w1,w2⟩:=h.get hl
    by_cases hwu:w=u
    ·rw[hU.root hl' (by rw[jn hx,if_neg hux,w1,hwu]),h.root hl (by rw[w1,hwu])]
    ·rw[hU.step hl' (show(j.set x (z:Int)).getD u 0=(w:Int) by rw[jn hx,if_neg hux,w1]),h.step hl w1,ih w (by omega) (by omega)]
 exact fun u hu=>key u u (Nat.le_refl _) hu
theorem UF.link{j:List Int}(h:UF j){a b:Nat}(ha:a<j.length)(hb:b<=a)(ea:j.getD a 0=a)(eb:j.getD b 0=b):UF (j.set a (b:Int))/\∀u,u<j.length->rep (j.set a (b:Int)) u=if rep j u=a then b else rep j u:=by
 have hU:UF (j.set a (b:Int)):=⟨fun i hi=>by
  rw[List.length_set] at hi;rw[jn ha];have:=h.le i hi;split
  ·omega
  ·exact this⟩
 refine⟨hU,?_⟩
 have hrb:rep (j.set a (b:Int)) b=b:=hU.root (by rw[List.length_set];omega) (by
  rw[jn ha];split
  ·rfl
  ·exact eb)
 have key:∀n u,u<=n->u<j.length->rep (j.set a (b:Int)) u=if rep j u=a then b else rep j u:=by
  intro n;induction n with
  | zero =>
   intro u hu hl;have:=hU.ma (x:=u) (by rw[List.length_set];exact hl);have:=h.ma hl;split<;>omega
  | succ n ih =>
   intro u hu hl;have hl':u<(j.set a (b:Int)).length:=by rw[List.length_set];exact hl
   by_cases hua:u=a
   ·subst hua
    rw[hU.step hl' (show(j.set u (b:Int)).getD u 0=(b:Int) by rw[jn hl,if_pos rfl]),hrb,h.root hl ea,if_pos rfl]
   ·obtain⟨w,w1,w2⟩:=h.get hl
    by_cases hwu:w=u
    ·rw[hU.root hl' (by rw[jn ha,if_neg hua,w1,hwu]),h.root hl (by rw[w1,hwu]),if_neg hua]
    ·rw[hU.step hl' (show(j.set a (b:Int)).getD u 0=(w:Int) by rw[jn ha,if_neg hua,w1]),h.step hl w1,ih w (by omega) (by omega)]
 exact fun u hu=>key u u (Nat.le_refl _) hu
theorem UF.join{j:List Int}(h:UF j){x y:Nat}(hx:x<j.length)(hy:y<j.length):UF (j.set (max (rep j x) (rep j y)) ((min (rep j x) (rep j y):Nat):Int)) /\
  ∀u,u<j.length->rep (j.set (max (rep j x) (rep j y)) ((min (rep j x) (rep j y):Nat):Int)) u=if rep j u=max (rep j x) (rep j y) then min (rep j x) (rep j y) else rep j u:=by
 have h1:=h.ma hx;have h2:=h.ma hy;refine h.link (by omega) (by omega) ?_ ?_
 ·rcases Nat.le_total (rep j x) (rep j y) with hh | hh
  ·rw[Nat.max_eq_right hh];exact h2.2
  ·rw[Nat.max_eq_left hh];exact h1.2
 ·rcases Nat.le_total (rep j x) (rep j y) with hh | hh
  ·rw[Nat.min_eq_left hh];exact h1.2
  ·rw[Nat.min_eq_right hh];exact h2.2
theorem UF.DC{n:Nat}:UF (br n)/\∀u,u<n->rep (br n) u=u:=by
 have hg:∀{i},i<n->(br n).getD i 0=i:=fun hi=>by
  unfold br;rw[List.getD_eq_getElem?_getD,List.getElem?_map,List.getElem?_range hi];rfl
 have hU:UF (br n):=⟨fun i hi=>by rw[dF] at hi;rw[hg hi];omega⟩;exact⟨hU,fun u hu=>hU.root (by rw[dF];exact hu) (hg hu)⟩
def dP:Nat->List Int->Nat->Nat×List Int
 | 0,J,x=>(x,J)
 | f+1,J,x=>if J.getD x 0=(x:Int) then(x,J) else dP f (J.set x (J.getD (J.getD x 0).toNat 0)) (J.getD (J.getD x 0).toNat 0).toNat
theorem nQ:∀(f:Nat){J:List Int}{x:Nat},UF J->x<J.length->x<f->(dP f J x).1=rep J x/\UF (dP f J x).2/\(dP f J x).2.length=J.length/\∀u,u<J.length->rep (dP f J x).2 u=rep J u
 | 0,_,_,_,_,h=>absurd h (Nat.not_lt_zero _)
 | f+1,J,x,hU,hx,hf=>by
  unfold dP;by_cases e:J.getD x 0=(x:Int)
  ·rw[if_pos e]
   exact⟨(hU.root hx e).symm,hU,rfl,fun _ _=>rfl⟩
  ·rw[if_neg e]
   obtain⟨y,e1,hy⟩:=hU.get hx;have hyx:y<x:=by omega
   obtain⟨z,e2,hz⟩:=hU.get (show y<J.length by omega);rw[e1,Int.toNat_natCast,e2,Int.toNat_natCast];obtain⟨h1,h2⟩:=hU.Cw hx e1 hyx e2;have hl:(J.set x (z:Int)).length=J.length:=List.length_set;obtain⟨i1,i2,i3,i4⟩:=nQ f h1 (show z<(J.set x (z:Int)).length by omega) (by omega);refine⟨?_,i2,i3.trans hl,fun u hu=>(i4 u (by omega)).trans (h2 u hu)⟩;rw[i1,h2 z (by omega),hU.step hx e1,hU.step (by omega) e2]
theorem R0{f:Nat}{J:List Int}{x:Nat}(e:¬J.getD x 0=(x:Int)):dP (f+1) J x=dP f (J.set x (J.getD (J.getD x 0).toNat 0)) (J.getD (J.getD x 0).toNat 0).toNat:=by
 rw[dP,if_neg e]
structure cV(s:Sch)(list:List Pth)(j:List Int)(w i a:Nat):Prop where
 uf:UF j
 len:j.length=list.length
 v:∀x,x<list.length->s.eqv (list.getD x Pth.zero) (list.getD (rep j x) Pth.zero)
 c:∀(x i' a':Nat)(q:Pth),x<list.length->(x<w\/x=w/\(i'<i\/i'=i/\a'<a))->s.ff (list.getD x Pth.zero) i' a' q->∃y:Nat,y<list.length/\list.getD y Pth.zero=q/\rep j x=rep j y
theorem cV.zero{s:Sch}{list:List Pth}(hA:dp s list):cV s list (br list.length) 0 0 0 :=
 ⟨UF.DC.1,dF,fun x hx=>by rw[UF.DC.2 x hx];exact .refl (hA.at' hx),fun x i' a' q _ h=>by omega⟩
theorem cV.same{s:Sch}{list:List Pth}{j k:List Int}{w i a:Nat}(h:cV s list j w i a)(hU:UF k)(hl:k.length=j.length)(hr:∀u,u<j.length->rep k u=rep j u):cV s list k w i a:=by
 have hlen:=h.len;refine⟨hU,by omega,fun x hx=>by rw[hr x (by omega)];exact h.v x hx,fun x i' a' q hx hc hl=>?_⟩;obtain⟨y,y1,y2,y3⟩:=h.c x i' a' q hx hc hl;exact⟨y,y1,y2,by rw[hr x (by omega),hr y (by omega)];exact y3⟩
theorem cV.skip{s:Sch}{list:List Pth}{P:List Int}{w i a:Nat}(h:cV s list P w i a)(hn:∀q,¬s.ff (list.getD w Pth.zero) i a q):cV s list P w i (a+1) :=
 ⟨h.uf,h.len,h.v,fun x i' a' q hx hc hl=>by
  by_cases he:x=w/\i'=i/\a'=a
  ·obtain⟨rfl,rfl,rfl⟩:=he;exact absurd hl (hn q)
  ·exact h.c x i' a' q hx (by omega) hl⟩
theorem cV.wo{s:Sch}{list:List Pth}{P:List Int}{w i a:Nat}(h:cV s list P w i a)(hn:(list.getD w Pth.zero).ed.length<a):cV s list P w (i+1) 0 :=
 ⟨h.uf,h.len,h.v,fun x i' a' q hx hc hl=>by
  by_cases he:x=w/\i'=i/\a<=a'
  ·obtain⟨rfl,rfl,ha⟩:=he
   have:=hl.2.1;omega
  ·exact h.c x i' a' q hx (by omega) hl⟩
theorem cV.wq{s:Sch}{list:List Pth}{P:List Int}{w i a:Nat}(h:cV s list P w i a)(hn:s.lf.length<=i):cV s list P (w+1) 0 0 :=
 ⟨h.uf,h.len,h.v,fun x i' a' q hx hc hl=>by
  by_cases he:x=w/\i<=i'
  ·have:=hl.1;omega
  ·exact h.c x i' a' q hx (by omega) hl⟩
theorem cV.add{s:Sch}{list:List Pth}{j k:List Int}{w i a y:Nat}(h:cV s list j w i a)(hw:w<list.length)(hy:y<list.length)(hsp:s.sp (list.getD w Pth.zero))(hl:s.ff (list.getD w Pth.zero) i a (list.getD y Pth.zero))
  (hU:UF k) (hkl:k.length=j.length) (hr:∀u,u<j.length->rep k u=if rep j u=max (rep j w) (rep j y) then min (rep j w) (rep j y) else rep j u):cV s list k w i (a+1):=by
 have hlen:=h.len;have e:=Sch.eqv.lk hsp hl;have ewy:s.eqv (list.getD (rep j w) Pth.zero) (list.getD (rep j y) Pth.zero):=(h.v w hw).symm.trans (e.trans (h.v y hy));refine⟨hU,by omega,fun x hx=>?_,fun x i' a' q hx hc hl'=>?_⟩
 ·rw[hr x (by omega)]
  split
  ·rename_i hm
   have hv:=h.v x hx;rw[hm] at hv;rcases Nat.le_total (rep j w) (rep j y) with hh | hh
   ·rw[Nat.max_eq_right hh] at hv
    rw[Nat.min_eq_left hh];exact hv.trans ewy.symm
   ·rw[Nat.max_eq_left hh] at hv
    rw[Nat.min_eq_right hh];exact hv.trans ewy
  ·exact h.v x hx
 ·by_cases he:x=w/\i'=i/\a'=a
  ·obtain⟨rfl,rfl,rfl⟩:=he
   refine⟨y,hy,by rw[hl.2.2.2.2.2,hl'.2.2.2.2.2],?_⟩;rw[hr x (by omega),hr y (by omega)];split<;>split<;>omega
  ·obtain⟨z,z1,z2,z3⟩:=h.c x i' a' q hx (by omega) hl'
   exact⟨z,z1,z2,by rw[hr x (by omega),hr z (by omega),z3]⟩
theorem cV.cls{s:Sch}{list:List Pth}(hA:dp s list)(hn:list.Nodup){j:List Int}(hj:cV s list j list.length 0 0){L:List Int}(hL:L.length=list.length)(hl:∀i,i<list.length->L.getD i 0=rep j i){cl:List Int}(hq:lj L cl):gF s list cl:=by
 refine⟨by rw[hq.len,hL],fun i hi=>by have:=hq.ge i (by omega);omega,fun i k hi hk=>?_⟩;rw[hq.eq i k (by omega) (by omega),hl i hi,hl k hk];constructor
 ·intro e
  have a:=hj.v i hi;have b:=hj.v k hk;rw[show rep j i=rep j k by omega] at a;exact a.trans b.symm
 ·intro e
  have:=B2 (s:=s) (φ:=fun p=>((rep j (kP list p.st p.ed).toNat:Nat):Int)) (fun p i a q hp hl'=>by
   obtain⟨y,hy⟩:=hp;obtain⟨x,hx,rfl⟩:=dZ (d:=Pth.zero) (hA.a p y hy);obtain⟨z,z1,rfl,z2⟩:=hj.c x i a q hx (.inl hx) hl';show((rep j _:Nat):Int)=((rep j _:Nat):Int)
   rw[lZ hn hx,lZ hn z1,Int.toNat_natCast,Int.toNat_natCast,z2]) e
  simp only[lZ hn hi,lZ hn hk,Int.toNat_natCast] at this;exact this
end Go.D3
namespace Go.D3
open Go
def dA(a b:List Int):Int:=if lexB a b=true then -1 else if a=b then 0 else 1
theorem uV{a b:List Int}:dA a b<0↔lexB a b=true:=by
 unfold dA;split
 ·rename_i h;simp[h]
 ·rename_i h;simp only[h];split<;>simp
theorem rU{a b:List Int}:dA a b=0↔a=b:=by
 unfold dA;split
 ·rename_i h
  refine⟨fun h=>by omega,fun e=>?_⟩;rw[e,CX] at h;cases h
 ·split
  ·rename_i h;simp[h]
  ·rename_i h;simp[h]
def mQ(p q:Pth):Int:=if(p.ed.length:Int)-q.ed.length≠0 then(p.ed.length:Int)-q.ed.length else dA p.ed q.ed
theorem JO{s:Sch}{p q:Pth}(h:p.st=q.st)(e:s.aF p=s.aF q):mQ p q<0↔s.lt p q:=by
 unfold Sch.lt eE Sch.en mQ;rw[h,e];simp only[List.cons_append,List.nil_append,lexB,if_true];by_cases hl:(p.ed.length:Int)=q.ed.length
 ·rw[if_neg (by omega),if_pos hl,uV]
 ·rw[if_pos (by omega),if_neg hl,decide_eq_true_eq];omega
def mP(s:Sch)(p q:Pth):Int:=if dA [p.st,s.en p] [q.st,s.en q]≠0 then dA [p.st,s.en p] [q.st,s.en q] else mQ p q
theorem rV{s:Sch}{p q:Pth}:mP s p q<0↔s.lt p q:=by
 unfold mP;by_cases h:[p.st,s.en p]=[q.st,s.en q]
 ·rw[if_neg (by rw[Decidable.not_not];exact rU.2 h)]
  simp only[List.cons.injEq,and_true] at h;unfold Sch.lt eE mQ;rw[h.1,h.2];simp only[List.cons_append,List.nil_append,lexB,if_true];by_cases hl:(p.ed.length:Int)=q.ed.length
  ·rw[if_neg (by omega),if_pos hl,uV]
  ·rw[if_pos (by omega),if_neg hl,decide_eq_true_eq];omega
 ·rw[if_pos (by intro e;exact h (rU.1 e)),uV]
  unfold Sch.lt eE;simp only[List.cons_append,List.nil_append,lexB];simp only[List.cons.injEq,and_true] at h;by_cases h1:p.st=q.st
  ·rw[if_pos h1,if_pos h1,if_neg (fun e=>h ⟨h1,e⟩),if_neg (fun e=>h ⟨h1,e⟩)]
  ·rw[if_neg h1,if_neg h1]
structure gG(s:Sch)(list:List Pth)(cl:List Int)(nc i:Nat)(M:List (Option Pth)):Prop where
 len:M.length=nc
 no:∀c,c<nc->M.getD c none=none->∀k,i<=k->k<list.length->cl.getD k 0≠c
 yes:∀c p,c<nc->M.getD c none=some p->∃m,i<=m/\m<list.length/\cl.getD m 0=c/\p=list.getD m Pth.zero/\∀k,i<=k->k<list.length->cl.getD k 0=c->¬s.lt (list.getD k Pth.zero) p
theorem gG.zero{s:Sch}{list:List Pth}{cl:List Int}{nc:Nat}:gG s list cl nc list.length (List.replicate nc none):=by
 refine⟨List.length_replicate,fun c _ _ k h1 h2=>by omega,fun c p hc h=>?_⟩;rw[List.getD_eq_getElem?_getD,List.getElem?_replicate] at h;split at h<;>cases h
theorem HA{α:Type}{l:List (Option α)}{i k:Nat}{v:Option α}(hi:i<l.length):(l.set i v).getD k none=if k=i then v else l.getD k none:=by
 by_cases h:k=i
 ·subst h;rw[if_pos rfl,List.getD_eq_getElem?_getD,List.getElem?_set_self hi];rfl
 ·rw[if_neg h,List.getD_eq_getElem?_getD,List.getElem?_set_ne (Ne.symm h),List.getD_eq_getElem?_getD]
theorem gG.set{s:Sch}{list:List Pth}{cl:List Int}{nc i c:Nat}{M:List (Option Pth)}(h:gG s list cl nc (i+1) M)(hi:i<list.length)(hc:cl.getD i 0=c)(hcn:c<nc)(hp:∀p,M.getD c none=some p->s.lt (list.getD i Pth.zero) p):gG s list cl nc i (M.set c (some (list.getD i Pth.zero))):=by
 have hl:=h.len;refine⟨by rw[List.length_set];exact hl,fun d hd h1 k h2 h3=>?_,fun d p hd h1=>?_⟩
 ·rw[HA (by omega)] at h1
  split at h1
  ·cases h1
  ·by_cases hk:k=i
   ·subst hk;omega
   ·exact h.no d hd h1 k (by omega) h3
 ·rw[HA (by omega)] at h1
  split at h1
  ·rename_i e
   subst e;injection h1 with h1
   subst h1;refine⟨i,Nat.le_refl _,hi,hc,rfl,fun k h2 h3 h4=>?_⟩;by_cases hk:k=i
   ·subst hk;exact o7
   ·cases hM:M.getD d none with
    | none=>exact absurd h4 (h.no d hd hM k (by omega) h3)
    | some q =>
     obtain⟨_,_,_,_,_,h9⟩:=h.yes d q hd hM;exact fun hlt=>h9 k (by omega) h3 h4 (lt_trans hlt (hp q hM))
  ·obtain⟨m,h5,h6,h7,h8,h9⟩:=h.yes d p hd h1
   exact⟨m,by omega,h6,h7,h8,fun k h2 h3 h4=>h9 k (by
    by_cases hk:k=i
    ·subst hk;omega
    ·omega) h3 h4⟩
theorem gG.bJ{s:Sch}{list:List Pth}{cl:List Int}{nc i c:Nat}{M:List (Option Pth)}(h:gG s list cl nc (i+1) M)(hc:cl.getD i 0=c)(hcn:c<nc){q:Pth}(hq:M.getD c none=some q)(hp:¬s.lt (list.getD i Pth.zero) q):gG s list cl nc i M:=by
 refine⟨h.len,fun d hd h1 k h2 h3=>?_,fun d p hd h1=>?_⟩
 ·by_cases hk:k=i
  ·subst hk
   intro e;have:d=c:=by omega
   subst this;rw[hq] at h1;cases h1
  ·exact h.no d hd h1 k (by omega) h3
 ·obtain⟨m,h5,h6,h7,h8,h9⟩:=h.yes d p hd h1
  refine⟨m,by omega,h6,h7,h8,fun k h2 h3 h4=>?_⟩;by_cases hk:k=i
  ·subst hk
   have:d=c:=by omega
   subst this;rw[hq] at h1;injection h1 with h1
   subst h1;exact hp
  ·exact h9 k (by omega) h3 h4
structure ie(s:Sch)(list:List Pth)(cl:List Int)(nc:Nat)(K:List Pth):Prop where
 len:K.length=nc
 lt:∀i,i<list.length->0<=cl.getD i 0/\cl.getD i 0<nc
 ex:∀c,c<nc->∃m,m<list.length/\cl.getD m 0=c/\K.getD c Pth.zero=list.getD m Pth.zero
 min:∀k c,k<list.length->c<nc->cl.getD k 0=c->¬s.lt (list.getD k Pth.zero) (K.getD c Pth.zero)
theorem gG.done{s:Sch}{list:List Pth}{cl:List Int}{nc:Nat}{M:List (Option Pth)}(h:gG s list cl nc 0 M)(hlt:∀i,i<list.length->0<=cl.getD i 0/\cl.getD i 0<nc)(hex:∀c,c<nc->∃m,m<list.length/\cl.getD m 0=c):∃K,M=K.map some/\ie s list cl nc K:=by
 have hs:∀c,c<nc->∃p,M.getD c none=some p:=fun c hc=>by
  cases hM:M.getD c none with
  | none =>
   obtain⟨m,h1,h2⟩:=hex c hc;exact absurd h2 (h.no c hc hM m (Nat.zero_le _) h1)
  | some p=>exact⟨p,rfl⟩
 have hl:=h.len
 have hk:∀c,c<nc->(M.map fun o=>o.getD Pth.zero).getD c Pth.zero=(M.getD c none).getD Pth.zero:=fun c hc=>by
  rw[aX (by rw[List.length_map];omega),List.getElem_map,aX (by omega)]
 refine⟨M.map fun o=>o.getD Pth.zero,?_,by rw[List.length_map,hl],hlt,fun c hc=>?_,fun k c h1 h2 h3=>?_⟩
 ·refine List.ext_getElem (by simp) fun c h1 h2=>?_
  obtain⟨p,hp⟩:=hs c (by omega);rw[aX h1] at hp;simp[hp]
 ·obtain⟨p,hp⟩:=hs c hc
  obtain⟨m,_,h6,h7,h8,_⟩:=h.yes c p hc hp;exact⟨m,h6,h7,by rw[hk c hc,hp];exact h8⟩
 ·obtain⟨p,hp⟩:=hs c h2
  obtain⟨_,_,_,_,_,h9⟩:=h.yes c p h2 hp;rw[hk c h2,hp];exact h9 k (Nat.zero_le _) h1 h3
theorem ie.get{s:Sch}{list:List Pth}{cl:List Int}(hc:gF s list cl){nc:Nat}{K:List Pth}(h:ie s list cl nc K){i:Nat}(hi:i<list.length) :
  ∃c:Nat,cl.getD i 0=c/\c<nc/\s.eqv (list.getD i Pth.zero) (K.getD c Pth.zero):=by
 have:=h.lt i hi;obtain⟨m,h1,h2,h3⟩:=h.ex (cl.getD i 0).toNat (by omega);refine⟨(cl.getD i 0).toNat,by omega,by omega,?_⟩;rw[h3];exact(hc.eq i m hi h1).1 (by omega)
theorem ie.U{s:Sch}(hok:s.ok=true){list:List Pth}(hA:dp s list){cl:List Int}(hc:gF s list cl){nc:Nat}{K:List Pth}(h:ie s list cl nc K){O:List Int}(hO:O.Perm (br nc))(hs:O.Pairwise fun a b=>¬s.lt (K.getD b.toNat Pth.zero) (K.getD a.toNat Pth.zero)) :
  s.cu (O.map fun c=>K.getD c.toNat Pth.zero):=by
 have hin:∀c∈O,∃d:Nat,c=d/\d<nc:=fun c hcO=>by
  have:=hO.mem_iff.1 hcO;unfold br at this;obtain⟨d,hd,rfl⟩:=List.mem_map.1 this;exact⟨d,rfl,List.mem_range.1 hd⟩
 have hall:∀d:Nat,d<nc->(d:Int)∈O:=fun d hd=>hO.mem_iff.2 (List.mem_map.2 ⟨d,List.mem_range.2 hd,rfl⟩)
 have hkk:∀c d:Nat,c<nc->d<nc->s.eqv (K.getD c Pth.zero) (K.getD d Pth.zero)->c=d:=fun c d h1 h2 e=>by
  obtain⟨m,a1,a2,a3⟩:=h.ex c h1;obtain⟨n,b1,b2,b3⟩:=h.ex d h2;rw[a3,b3] at e;have:=(hc.eq m n a1 b1).2 e;omega
 have hsp:∀c:Nat,c<nc->s.sp (K.getD c Pth.zero):=fun c h1=>by
  obtain⟨m,a1,_,a3⟩:=h.ex c h1;rw[a3];exact hA.at' a1
 have hnd:O.Nodup:=hO.nodup_iff.2 (by
  unfold br;rw[List.nodup_iff_pairwise_ne,List.pairwise_map]
  exact List.pairwise_lt_range.imp fun {a b} h e=>by omega)
 refine⟨fun p hp=>?_,?_,fun p hp q he hlt=>?_,fun p hp=>?_⟩
 ·obtain⟨c,hcO,rfl⟩:=List.mem_map.1 hp
  obtain⟨d,rfl,hd⟩:=hin c hcO;exact hsp d hd
 ·rw[List.pairwise_map]
  refine List.Pairwise.imp_of_mem ?_ (List.Pairwise.and hnd hs);intro a b ha hb hh;obtain⟨c,rfl,hc'⟩:=hin a ha;obtain⟨d,rfl,hd⟩:=hin b hb;by_cases hl:s.lt (K.getD (c:Int).toNat Pth.zero) (K.getD (d:Int).toNat Pth.zero)
  ·exact hl
  ·have:=lt_eq hl hh.2
   simp only[Int.toNat_natCast] at this;have:=hkk c d hc' hd (by rw[this];exact .refl (hsp d hd));exact absurd (by omega) hh.1
 ·obtain⟨c,hcO,rfl⟩:=List.mem_map.1 hp
  obtain⟨d,rfl,hd⟩:=hin c hcO;simp only[Int.toNat_natCast] at he hlt;obtain⟨y,hy⟩:=(lC hok he).2.2.2;obtain⟨k,hk,rfl⟩:=dZ (d:=Pth.zero) (hA.a q y hy);obtain⟨m,a1,a2,a3⟩:=h.ex d hd;rw[a3] at he;have e:=(hc.eq m k a1 hk).2 he;exact h.min k d hk hd (by omega) hlt
 ·obtain⟨y,hy⟩:=hp
  obtain⟨k,hk,rfl⟩:=dZ (d:=Pth.zero) (hA.a p y hy);obtain⟨c,_,h2,h3⟩:=h.get hc hk;exact⟨_,List.mem_map.2 ⟨(c:Int),hall c h2,rfl⟩,by simpa using h3⟩
theorem ie.no{s:Sch}(_:s.ok=true){list:List Pth}(_:dp s list){cl:List Int}(hc:gF s list cl){nc:Nat}{K:List Pth}(h:ie s list cl nc K){O:List Int}(hL:s.cu (O.map fun c=>K.getD c.toNat Pth.zero)){B:List Int}(hB:∀x,x<O.length->B.getD (O.getD x 0).toNat 0=x)(hall:∀d:Nat,d<nc->(d:Int)∈O)
  {k:Nat} (hk:k<list.length):∃c:Nat,cl.getD k 0=c/\c<nc/\∃x:Nat,B.getD c 0=x/\x<O.length/\O.getD x 0=c/\s.no (O.map fun c=>K.getD c.toNat Pth.zero) (list.getD k Pth.zero)=x:=by
 obtain⟨c,h1,h2,h3⟩:=h.get hc hk;obtain⟨x,hx,hxe⟩:=dZ (d:=(0:Int)) (hall c h2);have hb:=hB x hx;rw[hxe,Int.toNat_natCast] at hb;refine⟨c,h1,h2,x,hb,hx,hxe,hL.sO (by rw[List.length_map];exact hx) ?_⟩
 have:(O.map fun c=>K.getD c.toNat Pth.zero).getD x Pth.zero=K.getD c Pth.zero:=by
  rw[aX (by rw[List.length_map];exact hx),List.getElem_map,<-aX (d:=0) hx,hxe,Int.toNat_natCast]
 rw[this];exact h3
end Go.D3
namespace Go.D3
open Go
def ly(n:Int):UInt8:=UInt8.ofNat n.toNat
def vU(l:List Int):List UInt8:=l.map ly++[255]
def qy(l:List (List Int)):List UInt8:=l.flatMap vU
def ml(l:List Int):Prop:=∀x∈l,0<=x/\x<255
theorem Bo{a b:Int}(ha : 0<=a/\a<255)(hb : 0<=b/\b<255)(h:ly a=ly b):a=b:=by
 have:=congrArg UInt8.toNat h;simp only[ly,UInt8.toNat_ofNat'] at this;omega
theorem C8:∀{a b:List Int},ml a->ml b->a.map ly=b.map ly->a=b
 | [],[],_,_,_=>rfl
 | [],_::_,_,_,h=>by cases h
 | _::_,[],_,_,h=>by cases h
 | x::a,y::b,ha,hb,h=>by
  simp only[List.map_cons,List.cons.injEq] at h;rw[Bo (ha x List.mem_cons_self) (hb y List.mem_cons_self) h.1,C8 (fun z hz=>ha z (List.mem_cons_of_mem _ hz)) (fun z hz=>hb z (List.mem_cons_of_mem _ hz)) h.2]
def jj(p:Pth):List UInt8:=qy [[p.st],p.ed]
theorem PI{p q:Pth}(hp:ml (p.st::p.ed))(hq:ml (q.st::q.ed))(h:jj p=jj q):p=q:=by
 unfold jj qy vU at h;simp only[List.flatMap_cons,List.flatMap_nil,List.map_cons,List.map_nil,List.cons_append,List.nil_append,List.append_nil,List.cons.injEq,true_and] at h;have e1:=Bo (hp _ List.mem_cons_self) (hq _ List.mem_cons_self) h.1;have e2:=C8 (fun z hz=>hp z (List.mem_cons_of_mem _ hz)) (fun z hz=>hq z (List.mem_cons_of_mem _ hz)) (List.append_inj_left' h.2 rfl);cases p;cases q;simp only at e1 e2;rw[e1,e2]
theorem rl{s:Sch}(hs:gi s){p:Pth}(hp:s.sp p):ml (p.st::p.ed):=by
 obtain⟨y,hy⟩:=hp;obtain⟨h1,h2,h3⟩:=bw.1 hy;have h8:=hs.n8;have hf:=hs.f8;intro x hx;rcases List.mem_cons.1 hx with rfl | hx
 ·omega
 ·obtain⟨i,hi,rfl⟩:=List.getElem_of_mem hx
  have:=(oR h3).2 i hi;rw[aX hi] at this;omega
def kR(ks:Nat->List UInt8)(n:Nat):List (List UInt8×Int):=(List.range n).map fun j=>(ks j,(j:Int))
theorem PO{ks:Nat->List UInt8}{n:Nat}:(kR ks n).length=n:=by simp[kR]
theorem PQ{ks:Nat->List UInt8}{n:Nat}(h:∀j,j<n->ks j≠ks n):fD (kR ks n) (ks n) (n:Int)=kR ks (n+1):=by
 have:dE (kR ks n) (ks n)=none:=by
  unfold dE;rw[List.findIdx?_eq_none_iff];intro e he;obtain⟨j,hj,rfl⟩:=List.mem_map.1 he;have:=h j (List.mem_range.1 hj);simp only[beq_eq_false_iff_ne,ne_eq];exact fun e=>this e.symm
 unfold fD;rw[this];simp only;unfold kR;rw[List.range_succ,List.map_append];rfl
theorem PN{ks:Nat->List UInt8}{n i:Nat}(hi:i<n)(h:∀j,j<n->ks j=ks i->j=i)(z:Int):iz (kR ks n) (ks i) z=i:=by
 unfold iz;cases hf:(kR ks n).find? fun e=>ks i == e.1 with
 | none =>
  rw[List.find?_eq_none] at hf;exact absurd (by simp) (hf (ks i,(i:Int)) (List.mem_map.2 ⟨i,List.mem_range.2 hi,rfl⟩))
 | some e =>
  have h1:=List.find?_some hf;have h2:=List.mem_of_find?_eq_some hf;obtain⟨j,hj,rfl⟩:=List.mem_map.1 h2;have:j=i:=h j (List.mem_range.1 hj) (by have:=h1;simp only[beq_iff_eq] at this;exact this.symm);subst this;rfl
def ow(list:List Pth)(n:Nat):List (List UInt8×Int):=kR (fun j=>jj (list.getD j Pth.zero)) n
theorem Be{s:Sch}(hs:gi s){list:List Pth}(hv:∀p∈list,s.sp p)(hn:list.Nodup){i j:Nat}(hi:i<list.length)(hj:j<list.length)(h:jj (list.getD i Pth.zero)=jj (list.getD j Pth.zero)):i=j :=
 getD_inj hn hi hj (PI (rl hs (hv _ (cR hi))) (rl hs (hv _ (cR hj))) h)
theorem Je{s:Sch}(hs:gi s){list:List Pth}(hv:∀p∈list,s.sp p)(hn:list.Nodup){i:Nat}(hi:i<list.length):fD (ow list i) (jj (list.getD i Pth.zero)) (i:Int)=ow list (i+1) :=
 PQ (ks:=fun j=>jj (list.getD j Pth.zero)) fun j hj e=>by have:=Be hs hv hn (show j<list.length by omega) hi e;omega
theorem Bd{s:Sch}(hs:gi s){list:List Pth}(hv:∀p∈list,s.sp p)(hn:list.Nodup){p:Pth}(hp:p∈list):∃i:Nat,i<list.length/\list.getD i Pth.zero=p/\iz (ow list list.length) (jj p) 0=i:=by
 obtain⟨i,hi,rfl⟩:=dZ (d:=Pth.zero) hp;exact⟨i,hi,rfl,PN (ks:=fun j=>jj (list.getD j Pth.zero)) hi (fun j hj e=>Be hs hv hn hj hi e) 0⟩
end Go.D3
namespace Go.D3
open Go
set_option maxHeartbeats 4000000
set_option maxRecDepth 100000
theorem JL{a b:List Int}{i:Nat}(ha:i<a.length)(hb:i<b.length)(h:a.getD i 0=b.getD i 0)(hc:dA a b=dA (a.drop i) (b.drop i)):dA a b=dA (a.drop (i+1)) (b.drop (i+1)):=by
 rw[hc];rw[aX ha,aX hb] at h;unfold dA;rw[List.drop_eq_getElem_cons ha,List.drop_eq_getElem_cons hb];simp only[lexB,h,if_true,List.cons.injEq,true_and]
theorem BL{x y:Int}{a b:List Int}(h:x≠y):dA (x::a) (y::b)=if x<y then -1 else 1:=by
 unfold dA;simp only[lexB,decide_eq_true_eq,List.cons.injEq,h,false_and,if_false]
theorem JK{x:Int}{a:List Int}:dA (x::a) []=1:=by simp[dA,lexB]
theorem JM{x:Int}{a:List Int}:dA [] (x::a)=-1:=by simp[dA,lexB]
def y6:List Nat:=[0,1,4,5,7,8]
def FX:Sl:=ae Go.Proofs.Tryz.types Go.Proofs.Tryz.f184 y6 []
theorem NF:aD Go.Proofs.Tryz.prog Go.Proofs.Tryz.f184 y6 FX 2=true:=by decide +kernel
theorem xC[Mode](a b:List Int)(hl:a.length<=1048576)(_:b.length<=1048576):al Go.Proofs.Tryz.prog 184 [.v (ints a),.v (ints b)] (.int .i64 (dA a b)):=by
 refine aA Go.Proofs.Tryz.func184 NF ?_;unfold FX ae y6;simp only[go_sem];refine aI [3] (fun i:Nat=>[(5,.int .i64 i)]) (fun i=>i<=a.length/\i<=b.length/\dA a b=dA (a.drop i) (b.drop i)) (fun i=>a.length-i) 0 (by simp only[go_sem];rfl) ⟨Nat.zero_le _,Nat.zero_le _,rfl⟩ rfl ?_;rintro i ⟨hi,hj,hc⟩;simp only[go_sem];refine⟨fun h1=>⟨fun h2=>?_,fun h2=>?_⟩,fun h1=>?_⟩
 ·have e:i=b.length:=by omega
  rw[hc,List.drop_of_length_le (show b.length<=i by omega),List.drop_eq_getElem_cons h1,JK]
 ·rw[beq_eq_false_iff_ne] at h2
  have h3:i<b.length:=by omega
  refine⟨h1,h3,fun h4=>⟨h1,h3,fun h5=>?_,fun h5=>?_⟩,fun h4=>?_⟩
  all_goals(try rw[bne_iff_ne] at h4)
  ·rw[aX h1,aX h3] at h4 h5
   rw[hc,List.drop_eq_getElem_cons h1,List.drop_eq_getElem_cons h3,BL h4,if_pos h5]
  ·rw[aX h1,aX h3] at h4 h5
   rw[hc,List.drop_eq_getElem_cons h1,List.drop_eq_getElem_cons h3,BL h4,if_neg h5]
  ·rw[bne_eq_false_iff_eq] at h4
   exact⟨i+1,⟨h1,h3,JL h1 h3 h4 hc⟩,by omega,by rw[aH h1 (by simp only[maxLen];omega)]⟩
 ·have e:i=a.length:=by omega
  refine⟨fun h2=>?_,fun h2=>?_⟩
  ·rw[hc,List.drop_of_length_le (show a.length<=i by omega),List.drop_eq_getElem_cons (show i<b.length by omega),JM]
  ·rw[hc,List.drop_of_length_le (show a.length<=i by omega),List.drop_of_length_le (show b.length<=i by omega)]
   simp[dA,lexB]
def zr:List Nat:=[0,1,4]
def Gj:Sl:=ae Go.Proofs.Tryz.types Go.Proofs.Tryz.f207 zr []
theorem NY:aD Go.Proofs.Tryz.prog Go.Proofs.Tryz.f207 zr Gj 2=true:=by decide +kernel
theorem Rf(a b:List Int)(hl:a.length<=1048576)(hm:b.length<=1048576):al Go.Proofs.Tryz.prog 207 [.v (ints a),.v (ints b)] (.bool (a == b)):=by
 refine aA Go.Proofs.Tryz.func207 NY ?_;unfold Gj ae zr;simp only[go_sem];refine ak (xC a b hl hm) rfl (.inl rfl) ?_;simp only[go_sem];by_cases h:a=b
 ·rw[rU.2 h];simp[h]
 ·rw[show(dA a b == 0)=false from beq_eq_false_iff_ne.2 fun e=>h (rU.1 e),show(a == b)=false from beq_eq_false_iff_ne.2 h]
def y7:List Nat:=[0,1,4,2,3,5]
def FY:Sl:=ae Go.Proofs.Tryz.types Go.Proofs.Tryz.f180 y7 []
theorem NG:aD Go.Proofs.Tryz.prog Go.Proofs.Tryz.f180 y7 FY 2=true:=by decide +kernel
theorem E1[Mode](p q:Pth)(hl:p.ed.length<=1048576)(hm:q.ed.length<=1048576):al Go.Proofs.Tryz.prog 180 [.v (Pth.d p),.v (Pth.d q)] (.int .i64 (mQ p q)):=by
 refine aA Go.Proofs.Tryz.func180 NG ?_;unfold FY ae y7;simp only[go_sem];rw[wrap_small (by omega) (by omega)];refine⟨fun h=>?_,fun h=>?_⟩
 ·unfold mQ
  rw[if_pos (by rw[bne_iff_ne] at h;exact h)]
 ·unfold mQ
  rw[if_neg (by rw[bne_eq_false_iff_eq] at h;omega)];refine ak (xC p.ed q.ed hl hm) rfl (.inl rfl) ?_;simp only[go_sem]
def ky(ll:List (List Int)):List Int:=ll.flatMap fun l=>l++[255]
theorem KT{ll:List (List Int)}{l:List Int}:ky (ll++[l])=ky ll++l++[255]:=by simp[ky]
theorem KS{ll:List (List Int)}:(ky ll).map ly=qy ll:=by
 induction ll with
 | nil=>rfl
 | cons l r ih =>
  show((l++[255])++ky r).map ly=vU l++qy r;rw[List.map_append,ih,List.map_append];rfl
theorem KR{ll:List (List Int)}(h:∀l∈ll,l.length<=64):(ky ll).length<=ll.length*65:=by
 induction ll with
 | nil=>exact Nat.le_refl _
 | cons l r ih =>
  have h1:=h l List.mem_cons_self;have h2:=ih fun m hm=>h m (List.mem_cons_of_mem _ hm)
  show((l++[255])++ky r).length<=_;simp only[List.length_append,List.length_cons,List.length_nil];omega
theorem TZ{n:Int}(h : 0<=n/\n<255):IntKind.u8.wrap n=n:=lh ⟨by simp only[IntKind.min,IntKind.signed];simpa using h.1,by simp only[IntKind.max,IntKind.signed,IntKind.bits];simp;omega⟩
def zg:List Nat:=[0,2,3,5,7,9,10,11,15,16,17]
def F8:Sl:=ae Go.Proofs.Tryz.types Go.Proofs.Tryz.f206 zg []
theorem NN:aD Go.Proofs.Tryz.prog Go.Proofs.Tryz.f206 zg F8 1=true:=by decide +kernel
theorem Q7(ll:List (List Int))(hs:∀l∈ll,ml l/\l.length<=64)(hl:ll.length<=64):al Go.Proofs.Tryz.prog 206 [.v (aO ll)] (.str (qy ll)):=by
 have hb:=fun i=>KR (ll:=ll.take i) fun l hm=>(hs l (List.mem_of_mem_take hm)).2
 refine aA Go.Proofs.Tryz.func206 NN ?_;unfold F8 ae zg;simp only[go_sem];refine aI [3,4,8,9,10] (fun(i:Nat)=>[(7,.int .i64 i),(2,.o (bytes (ky (ll.take i))))]) (fun i=>i<=ll.length) (fun i=>ll.length-i) 0 (by simp only[go_sem];rfl) (Nat.zero_le _) rfl ?_;intro i hi;have hbi:=hb i;rw[List.length_take] at hbi;simp only[go_sem];refine⟨fun h1=>⟨h1,?_⟩,fun h1=>?_⟩
 ·have hm:ll.getD i []∈ll:=cR h1
  obtain⟨hsm,hl64⟩:=hs _ hm;refine aI [4] (fun(j:Nat)=>[(10,.int .i64 j),(2,.o (bytes (ky (ll.take i)++(ll.getD i []).take j)))]) (fun j=>j<=(ll.getD i []).length) (fun j=>(ll.getD i []).length-j) 0 (by simp only[go_sem];rfl) (Nat.zero_le _) (by simp only[go_sem,List.take_zero,List.append_nil];rfl) ?_;intro j hj;simp only[go_sem];refine⟨fun h2=>⟨h2,?_⟩,fun h2=>?_⟩
  ·rw[TZ (hsm _ (cR h2))]
   refine⟨by rw[List.length_append,List.length_take];omega,j+1,h2,by omega,?_⟩;rw[aH h2 (by simp only[maxLen];omega),b9 h2 0,List.append_assoc]
  ·rw[List.take_of_length_le (show(ll.getD i []).length<=j by omega)]
   refine⟨by rw[List.length_append];omega,i+1,h1,by omega,?_⟩;rw[aH h1 (by simp only[maxLen];omega),b9 h1 [],KT]
 ·rw[List.take_of_length_le (by omega)]
  exact congrArg D.str KS
def zo:List Nat:=[0,1,4]
def Gg:Sl:=ae Go.Proofs.Tryz.types Go.Proofs.Tryz.f173 zo []
theorem NV:aD Go.Proofs.Tryz.prog Go.Proofs.Tryz.f173 zo Gg 2=true:=by decide +kernel
theorem xE(x:Int)(ed:List Int)(hs:ml (x::ed))(hl:ed.length<=64):al Go.Proofs.Tryz.prog 173 [.v (.int .i64 x),.v (ints ed)] (.str (jj ⟨x,ed⟩)):=by
 have h1:∀l∈[[x],ed],ml l/\l.length<=64:=fun l hm=>by
  simp only[List.mem_cons,List.not_mem_nil,or_false] at hm;rcases hm with rfl | rfl
  ·exact⟨fun y hy=>hs y (by simp only[List.mem_singleton] at hy;rw[hy];exact List.mem_cons_self),Nat.le_of_ble_eq_true rfl⟩
  ·exact⟨fun y hy=>hs y (List.mem_cons_of_mem _ hy),hl⟩
 refine aA Go.Proofs.Tryz.func173 NV ?_;unfold Gg ae zo;simp only[go_sem];refine ak (Q7 [[x],ed] h1 (Nat.le_of_ble_eq_true rfl)) rfl (.inl rfl) ?_;simp only[go_sem];rfl
end Go.D3
