/- CONTRACTS: links of short paths, the reference's side. -/
import Derived.Test.YtpnchponfnbmiaaGreatDoorGAD
namespace Go.D3
open Go
theorem wv{α:Type}:∀{A B:List α},A.Nodup->(∀x∈A,x∈B)->A.length<=B.length
 | [],_,_,_=>Nat.zero_le _
 | x::A,B,h,hs=>by
  classical
  rw[List.nodup_cons] at h;have hx:=hs x List.mem_cons_self;have:=wv (A:=A) (B:=B.erase x) h.2 fun y hy=>(List.mem_erase_of_ne (show y≠x from fun e=>h.1 (by rw[<-e];exact hy))).2 (hs y (List.mem_cons_of_mem _ hy))
  rw[List.length_erase_of_mem hx] at this;have:=List.length_pos_of_mem hx;rw[List.length_cons];omega
theorem M1{α:Type}{l:List α}{x:α}(h:l.Nodup)(hx:x ∉ l):(l++[x]).Nodup:=by
 rw[List.nodup_append];refine⟨h,by simp,fun a ha b hb=>?_⟩;rw[List.mem_singleton] at hb;rintro rfl;exact hx (hb▸ha)
theorem getD_inj{α:Type}{l:List α}{d:α}(h:l.Nodup){i j:Nat}(hi:i<l.length)(hj:j<l.length)(e:l.getD i d=l.getD j d):i=j:=by
 rw[aX hi,aX hj] at e;exact(List.getElem_inj h).1 e
structure ij(o:List Pth)(i k:Nat):Prop where
 nd:o.Nodup
 f:∀p∈o,p.ed=[]\/∃j e:Nat,j<o.length/\(j<i\/j=i/\e<k)/\p=⟨(o.getD j Pth.zero).st,(o.getD j Pth.zero).ed++[(e:Int)]⟩
theorem ij.zero{n:Nat}:ij (gU n) 0 0:=by
 refine⟨?_,fun p hp=>.inl ?_⟩
 ·unfold gU
  rw[List.nodup_iff_pairwise_ne,List.pairwise_map];refine List.pairwise_lt_range.imp fun {a b} h e=>?_
  injection e with e
  omega
 ·obtain⟨x,_,rfl⟩:=List.mem_map.1 hp;rfl
theorem ij.mono{o:List Pth}{i k i' k':Nat}(h:ij o i k)(hi:i<i'\/i=i'/\k<=k'):ij o i' k':=by
 refine⟨h.nd,fun p hp=>?_⟩;rcases h.f p hp with h1 | ⟨j,e,h1,h2,h3⟩
 ·exact .inl h1
 ·exact .inr ⟨j,e,h1,by omega,h3⟩
theorem ij.add{o:List Pth}{i k:Nat}(h:ij o i k)(hi:i<o.length):ij (o++[⟨(o.getD i Pth.zero).st,(o.getD i Pth.zero).ed++[(k:Int)]⟩]) i (k+1):=by
 have hg:∀{j},j<o.length->(o++[(⟨(o.getD i Pth.zero).st,(o.getD i Pth.zero).ed++[(k:Int)]⟩:Pth)]).getD j Pth.zero=o.getD j Pth.zero:=fun hj=>by rw[fI (by omega),if_neg (by omega)]
 refine⟨M1 h.nd fun hm=>?_,fun p hp=>?_⟩
 ·rcases h.f _ hm with h1 | ⟨j,e,h1,h2,h3⟩
  ·simp at h1
  ·injection h3 with h3 h4
   have h5:=List.append_inj_left' h4 rfl;have h6:=List.append_inj_right' h4 rfl
   have:o.getD i Pth.zero=o.getD j Pth.zero:=by
    cases hx:o.getD i Pth.zero;cases hy:o.getD j Pth.zero;rw[hx,hy] at h3 h5;simp only at h3 h5;rw[h3,h5]
   have:=getD_inj h.nd hi h1 this;simp at h6;omega
 ·rcases List.mem_append.1 hp with hp | hp
  ·rcases h.f p hp with h1 | ⟨j,e,h1,h2,h3⟩
   ·exact .inl h1
   ·exact .inr ⟨j,e,by rw[List.length_append];omega,by omega,by rw[hg h1];exact h3⟩
  ·rw[List.mem_singleton] at hp
   exact .inr ⟨i,k,by rw[List.length_append];omega,.inr ⟨rfl,by omega⟩,by rw[hg hi];exact hp⟩
theorem Dv{s:Sch}{o:List Pth}(hn:o.Nodup)(hv:∀p∈o,∃y,s.aF p=some y)(hl : 400<o.length):¬s.fits:=fun⟨m,_,hA,hm⟩=>by
 have:=wv hn fun p hp=>by obtain⟨y,hy⟩:=hv p hp;exact hA.a p y hy
 omega
theorem Sch.cu.of{s:Sch}(h:s.ok=true){list:List Pth}(hA:dp s list)(hs:list.Pairwise s.lt):∃ls,s.cu ls:=by
 classical
 refine⟨list.filter fun p=>decide (∀q,s.eqv p q->¬s.lt q p),fun p hp=>?_,hs.filter _,fun p hp=>?_,fun p hp=>?_⟩
 ·exact hA.v p (List.mem_filter.1 hp).1
 ·simpa using(List.mem_filter.1 hp).2
 ·
  obtain⟨y,hy⟩:=hp;have hm:=hA.a p y hy;have hx:list.findIdx (fun q=>decide (s.eqv p q))<list.length:=List.findIdx_lt_length_of_exists ⟨p,hm,by simpa using Sch.eqv.refl ⟨y,hy⟩⟩;have he:=List.findIdx_getElem (w:=hx);have he:s.eqv p list[list.findIdx fun q=>decide (s.eqv p q)]:=by simpa using he
  refine⟨_,List.mem_filter.2 ⟨List.getElem_mem hx,?_⟩,he⟩;simp only[decide_eq_true_eq];intro q hq hlt;obtain⟨z,hz⟩:=(lC h hq).2.2.2;obtain⟨j,hj,rfl⟩:=List.getElem_of_mem (hA.a q z hz)
  have hne:¬j<list.findIdx fun q=>decide (s.eqv p q):=fun hh=>by
   have:=List.not_of_lt_findIdx hh;rw[decide_eq_false_iff_not] at this;exact this (he.trans hq)
  by_cases hjj:j=list.findIdx fun q=>decide (s.eqv p q)
  ·subst hjj;exact o7 hlt
  ·exact lt_asymm hlt ((List.pairwise_iff_getElem.1 hs) _ _ hx hj (by omega))
theorem HJ{s:Sch}{o:List Pth}(hn:o.Nodup)(h:o.Pairwise fun p q=>¬s.lt q p):o.Pairwise s.lt:=by
 refine(List.Pairwise.and hn h).imp fun {a b} hh=>?_
 by_cases hl:s.lt a b
 ·exact hl
 ·exact absurd (lt_eq hl hh.2) hh.1
theorem Sch.cu.HG{s:Sch}(h:s.ok=true){o:List Pth}(hn:o.Nodup)(hA:dp s o):∃ls,s.cu ls:=by
 have hp:=List.mergeSort_perm o fun p q=>!lexB (eE q (s.en q)) (eE p (s.en p))
 refine Sch.cu.of h (hA.perm hp) (HJ (hp.nodup_iff.2 hn) ?_);refine(List.pairwise_mergeSort (le:=fun p q=>!lexB (eE q (s.en q)) (eE p (s.en p))) (fun a b c h1 h2=>?_) (fun a b=>?_) o).imp fun {a b} hh hl=>?_
 ·simp only[Bool.not_eq_true'] at h1 h2|-;exact sE h1 h2
 ·cases hh:lexB (eE b (s.en b)) (eE a (s.en a))
  ·simp
  ·simp[qz hh]
 ·unfold Sch.lt at hl;rw[hl] at hh;cases hh
structure dI(s:Sch)(list:List Pth)(P:List (List Int))(w i a:Nat):Prop where
 v:∀p∈P,∃x y i' a':Nat,p=[(x:Int),(y:Int)]/\x<list.length/\y<list.length/\s.ff (list.getD x Pth.zero) i' a' (list.getD y Pth.zero)
 c:∀(x i' a':Nat)(q:Pth),x<list.length->(x<w\/x=w/\(i'<i\/i'=i/\a'<a))->s.ff (list.getD x Pth.zero) i' a' q->∃y:Nat,y<list.length/\list.getD y Pth.zero=q/\[(x:Int),(y:Int)]∈P
theorem dI.zero{s:Sch}{list:List Pth}:dI s list [] 0 0 0:=⟨fun p hp=>(by cases hp),fun x i' a' q _ h=>by omega⟩
theorem dI.ok{s:Sch}(h:s.ok=true){list:List Pth}(hA:dp s list){P:List (List Int)}{w i a:Nat}(hx:dI s list P w i a):lp s list P:=fun p hp=>by
 obtain⟨x,y,i',a',h1,h2,h3,h4⟩:=hx.v p hp;obtain⟨z,hz⟩:=hA.at' h2;have:=CZ h hz h4;exact⟨x,y,h1,h2,h3,this.1.symm,by rw[hz,this.2]⟩
theorem dI.skip{s:Sch}{list:List Pth}{P:List (List Int)}{w i a:Nat}(h:dI s list P w i a)(hn:∀q,¬s.ff (list.getD w Pth.zero) i a q):dI s list P w i (a+1) :=
 ⟨h.v,fun x i' a' q hx hc hl=>by
  by_cases he:x=w/\i'=i/\a'=a
  ·obtain⟨rfl,rfl,rfl⟩:=he;exact absurd hl (hn q)
  ·exact h.c x i' a' q hx (by omega) hl⟩
theorem dI.wo{s:Sch}{list:List Pth}{P:List (List Int)}{w i a:Nat}(h:dI s list P w i a)(hn:(list.getD w Pth.zero).ed.length<a+(s.lf.getD i Pth.zero).ed.length):dI s list P w (i+1) 0 :=
 ⟨h.v,fun x i' a' q hx hc hl=>by
  by_cases he:x=w/\i'=i/\a<=a'
  ·obtain⟨rfl,rfl,ha⟩:=he
   have:=hl.2.1;omega
  ·exact h.c x i' a' q hx (by omega) hl⟩
theorem dI.wq{s:Sch}{list:List Pth}{P:List (List Int)}{w i a:Nat}(h:dI s list P w i a)(hn:s.lf.length<=i):dI s list P (w+1) 0 0 :=
 ⟨h.v,fun x i' a' q hx hc hl=>by
  by_cases he:x=w/\i<=i'
  ·have:=hl.1;omega
  ·exact h.c x i' a' q hx (by omega) hl⟩
theorem dI.add{s:Sch}{list:List Pth}{P:List (List Int)}{w i a y:Nat}(h:dI s list P w i a)(hw:w<list.length)(hy:y<list.length)(hl:s.ff (list.getD w Pth.zero) i a (list.getD y Pth.zero)):dI s list (P++[[(w:Int),(y:Int)]]) w i (a+1):=by
 refine⟨fun p hp=>?_,fun x i' a' q hx hc hl'=>?_⟩
 ·rcases List.mem_append.1 hp with hp | hp
  ·exact h.v p hp
  ·rw[List.mem_singleton] at hp;exact⟨w,y,i,a,hp,hw,hy,hl⟩
 ·by_cases he:x=w/\i'=i/\a'=a
  ·obtain⟨rfl,rfl,rfl⟩:=he
   exact⟨y,hy,by rw[hl.2.2.2.2.2,hl'.2.2.2.2.2],by simp⟩
  ·obtain⟨z,z1,z2,z3⟩:=h.c x i' a' q hx (by omega) hl'
   exact⟨z,z1,z2,List.mem_append_left _ z3⟩
structure gF(s:Sch)(list:List Pth)(cl:List Int):Prop where
 len:cl.length=list.length
 ge:∀i,i<list.length->0<=cl.getD i 0/\cl.getD i 0<list.length
 eq:∀i j,i<list.length->j<list.length->(cl.getD i 0=cl.getD j 0↔s.eqv (list.getD i Pth.zero) (list.getD j Pth.zero))
theorem B2{s:Sch}{φ:Pth->Int}(hφ:∀p i a q,s.sp p->s.ff p i a q->φ p=φ q){p q:Pth}(e:s.eqv p q):φ p=φ q:=by
 induction e with
 | refl=>rfl
 | lk hp hl=>exact hφ _ _ _ _ hp hl
 | symm _ ih=>exact ih.symm
 | trans _ _ i1 i2=>exact i1.trans i2
theorem J1{s:Sch}{p q:Pth}(e:s.eqv p q):s.eqv p=s.eqv q:=funext fun _=>propext ⟨e.symm.trans,e.trans⟩
end Go.D3
namespace Go.D3
open Go
theorem lZ{l:List Pth}(hn:l.Nodup){j:Nat}(hj:j<l.length):kP l (l.getD j Pth.zero).st (l.getD j Pth.zero).ed=j:=by
 obtain⟨k,h1,h2,h3⟩:=qW (l:=l) (x:=(l.getD j Pth.zero).st) (ed:=(l.getD j Pth.zero).ed) (cR hj);have:l.getD k Pth.zero=l.getD j Pth.zero:=by rw[h3]
 rw[h1,getD_inj hn h2 hj this]
theorem gF.Na{s:Sch}(h:s.ok=true){list:List Pth}(hA:dp s list)(hn:list.Nodup){P:List (List Int)}(hP:dI s list P list.length 0 0){cl:List Int}(hj:lj (b7 (br list.length) P) cl):gF s list cl:=by
 have hl:(b7 (br list.length) P).length=list.length:=by rw[qx,dF]
 have hc:=(hP.ok h hA).cls hj;refine⟨hc.len,hc.ge,fun i j hi hj'=>⟨fun e=>?_,fun e=>?_⟩⟩
 ·have:=hj.same (fun i=>s.eqv (list.getD i Pth.zero)) (fun p hp=>by
   obtain⟨x,y,i',a',h1,h2,h3,h4⟩:=hP.v p hp
   exact⟨x,y,h2,h3,by rw[h1];rfl,by rw[h1];rfl,J1 (.lk (hA.at' h2) h4)⟩) hi hj' e
  exact(show s.eqv _=s.eqv _ from this)▸Sch.eqv.refl (hA.at' hj')
 ·have:=B2 (s:=s) (φ:=fun p=>cl.getD (kP list p.st p.ed).toNat 0) (fun p i a q hp hl'=>by
   obtain⟨y,hy⟩:=hp;obtain⟨x,hx,rfl⟩:=dZ (d:=Pth.zero) (hA.a p y hy);obtain⟨z,z1,rfl,z2⟩:=hP.c x i a q hx (.inl hx) hl';show cl.getD _ 0=cl.getD _ 0;rw[lZ hn hx,lZ hn z1,Int.toNat_natCast,Int.toNat_natCast,hj.eq x z (by omega) (by omega)]
   exact KN z2 rfl rfl (by rw[dF];exact hx) (by rw[dF];exact z1)) e
  simp only[lZ hn hi,lZ hn hj',Int.toNat_natCast] at this;exact this
structure eZ(s:Sch)(list:List Pth)(cl:List Int)(i:Nat)(ls:List Pth):Prop where
 lt:∀j,j<i->cl.getD j 0<ls.length
 ex:∀k:Nat,k<ls.length->∃j,j<i/\j<list.length/\cl.getD j 0=k/\ls.getD k Pth.zero=list.getD j Pth.zero/\∀j',j'<j->cl.getD j' 0<k
theorem eZ.zero{s:Sch}{list:List Pth}{cl:List Int}:eZ s list cl 0 []:=⟨fun _ hj=>absurd hj (Nat.not_lt_zero _),fun _ hk=>absurd hk (Nat.not_lt_zero _)⟩
theorem eZ.old{s:Sch}{list:List Pth}{cl:List Int}{i:Nat}{ls:List Pth}(hf:∀(m:Nat),(∀q,q<i->cl.getD q 0<m)->cl.getD i 0<=m)(h:eZ s list cl i ls)(hn:cl.getD i 0≠ls.length):eZ s list cl (i+1) ls:=by
 refine⟨fun j hj=>?_,fun k hk=>?_⟩
 ·by_cases hji:j<i
  ·exact h.lt j hji
  ·rw[show j=i by omega]
   have:=hf ls.length h.lt;omega
 ·obtain⟨j,h1,h2⟩:=h.ex k hk
  exact⟨j,by omega,h2⟩
theorem eZ.new{s:Sch}{list:List Pth}{cl:List Int}{i:Nat}{ls:List Pth}(h:eZ s list cl i ls)(hi:i<list.length)(he:cl.getD i 0=ls.length):eZ s list cl (i+1) (ls++[list.getD i Pth.zero]):=by
 have hlt:∀{k},k<ls.length->(ls++[list.getD i Pth.zero]).getD k Pth.zero=ls.getD k Pth.zero:=fun hk=>by rw[fI (by omega),if_neg (by omega)]
 have hel:(ls++[list.getD i Pth.zero]).getD ls.length Pth.zero=list.getD i Pth.zero:=by rw[fI (Nat.le_refl _),if_pos rfl]
 refine⟨fun j hj=>?_,fun k hk=>?_⟩
 ·rw[List.length_append,List.length_singleton]
  by_cases hji:j<i
  ·have:=h.lt j hji;omega
  ·rw[show j=i by omega];omega
 ·rw[List.length_append,List.length_singleton] at hk
  by_cases hkl:k<ls.length
  ·obtain⟨j,h1,h2,h3,h4,h5⟩:=h.ex k hkl
   exact⟨j,by omega,h2,h3,by rw[hlt hkl,h4],h5⟩
  ·obtain rfl:k=ls.length:=by omega
   exact⟨i,by omega,hi,he,hel,fun j' hj'=>h.lt j' hj'⟩
theorem eZ.done{s:Sch}(hok:s.ok=true){list:List Pth}(hA:dp s list)(hs:list.Pairwise s.lt){cl:List Int}(hc:gF s list cl){ls:List Pth}(h:eZ s list cl list.length ls):s.cu ls:=by
 have hp:=List.pairwise_iff_getElem.1 hs;refine⟨fun p hp=>?_,?_,fun p hp' q he hlt=>?_,fun p hp'=>?_⟩
 ·obtain⟨k,hk,rfl⟩:=dZ (d:=Pth.zero) hp
  obtain⟨j,_,h2,_,h4,_⟩:=h.ex k hk;rw[h4];exact hA.at' h2
 ·refine List.pairwise_iff_getElem.2 fun i j hi hj hij=>?_
  obtain⟨a,_,a2,a3,a4,a5⟩:=h.ex i hi;obtain⟨b,_,b2,b3,b4,b5⟩:=h.ex j hj;rw[<-aX (d:=Pth.zero) hi,<-aX (d:=Pth.zero) hj,a4,b4,aX a2,aX b2];refine hp a b a2 b2 ?_;by_cases hab:b<a
  ·have:=a5 b hab;omega
  ·by_cases hab2:a=b
   ·subst hab2;omega
   ·omega
 ·obtain⟨k,hk,rfl⟩:=dZ (d:=Pth.zero) hp'
  obtain⟨a,_,a2,a3,a4,a5⟩:=h.ex k hk;obtain⟨y,hy⟩:=(lC hok he).2.2.2;obtain⟨b,hb,rfl⟩:=dZ (d:=Pth.zero) (hA.a q y hy);rw[a4] at he hlt;have e:=(hc.eq a b a2 hb).2 he;by_cases hab:b<a
  ·have:=a5 b hab;omega
  ·by_cases hab2:a=b
   ·subst hab2;exact o7 hlt
   ·refine lt_asymm hlt ?_
    rw[aX a2,aX hb];exact hp a b a2 hb (by omega)
 ·obtain⟨y,hy⟩:=hp'
  obtain⟨b,hb,rfl⟩:=dZ (d:=Pth.zero) (hA.a p y hy);have h1:=h.lt b hb;have h2:=(hc.ge b hb).1;obtain⟨a,_,a2,a3,a4,_⟩:=h.ex (cl.getD b 0).toNat (by omega);refine⟨_,cR (i:=(cl.getD b 0).toNat) (d:=Pth.zero) (by omega),?_⟩;rw[a4];exact(hc.eq b a hb a2).1 (by omega)
theorem eZ.fZ{s:Sch}(hok:s.ok=true){list:List Pth}(hA:dp s list)(hs:list.Pairwise s.lt){cl:List Int}(hc:gF s list cl){i:Nat}{ls:List Pth}(h:eZ s list cl i ls)(hi:i<list.length)(he:cl.getD i 0=ls.length)(h6:¬(list.getD i Pth.zero).ed.length<6):s.fv none:=by
 obtain⟨m,hm⟩:=Sch.cu.of hok hA hs;refine .iE m hm fun ha=>?_
 obtain⟨q,hq,hqe⟩:=hm.ex _ (hA.at' hi);refine h6 ?_;have hp:=List.pairwise_iff_getElem.1 hs
 have:list.getD i Pth.zero=q:=by
  refine lt_eq (hm.min q hq _ hqe.symm) fun hlt=>?_
  obtain⟨y,hy⟩:=(lC hok hqe).2.2.2;obtain⟨b,hb,rfl⟩:=dZ (d:=Pth.zero) (hA.a q y hy);have e:=(hc.eq i b hi hb).2 hqe;by_cases hb2:b<i
  ·have:=h.lt b hb2;omega
  ·by_cases hb3:i=b
   ·subst hb3;exact o7 hlt
   ·refine lt_asymm hlt ?_
    rw[aX hi,aX hb];exact hp i b hi hb (by omega)
 rw[this];exact ha.1 q hq
theorem eZ.no{s:Sch}(hok:s.ok=true){list:List Pth}(hA:dp s list)(hs:list.Pairwise s.lt){cl:List Int}(hc:gF s list cl){ls:List Pth}(h:eZ s list cl list.length ls){x:Int}{ed:List Int}{y:Int}(hy:s.aF ⟨x,ed⟩=some y) :
  ∃j k:Nat,kP list x ed=j/\j<cl.length/\cl.getD j 0=k/\k<ls.length/\s.no ls ⟨x,ed⟩=k/\(ls.getD k Pth.zero).st=x/\s.aF (ls.getD k Pth.zero)=some y:=by
 obtain⟨j,h1,h2,h3⟩:=qW (hA.a _ _ hy);have h4:=(hc.ge j h2).1;have h5:=h.lt j h2;obtain⟨k,hk⟩:∃k:Nat,cl.getD j 0=k:=⟨(cl.getD j 0).toNat,by omega⟩;obtain⟨a,_,a2,a3,a4,_⟩:=h.ex k (by omega);have he:=(hc.eq j a h2 a2).1 (by omega);rw[h3] at he;rw[<-a4] at he;have hE:=lC hok he;exact⟨j,k,h1,by rw[hc.len];exact h2,hk,by omega,(h.done hok hA hs hc).sO (by omega) he,hE.1.symm,by rw[<-hE.2.1,hy]⟩
theorem L3{s:Sch}{p q r:Pth}(h1:¬s.lt q p)(h2:¬s.lt r q):¬s.lt r p:=fun h=>by
 unfold Sch.lt at h h1 h2;rw[Bool.not_eq_true] at h1 h2;rw[sE h1 h2] at h;cases h
theorem HM{o:List Pth}{k:Nat}(hk0 : 0<k)(hk:k<o.length)(q:Nat):(mw o k).getD q Pth.zero=if q=k-1 then o.getD k Pth.zero else if q=k then o.getD (k-1) Pth.zero else o.getD q Pth.zero:=by
 unfold mw;have gs:∀{L:List Pth}{j:Nat}{x:Pth},j<L.length->(L.set j x).getD j Pth.zero=x:=fun h=>by rw[List.getD_eq_getElem?_getD,List.getElem?_set_self h];rfl
 have gn:∀{L:List Pth}{j q:Nat}{x:Pth},q≠j->(L.set j x).getD q Pth.zero=L.getD q Pth.zero:=fun h=>by rw[List.getD_eq_getElem?_getD,List.getElem?_set_ne (Ne.symm h),List.getD_eq_getElem?_getD]
 by_cases h1:q=k-1
 ·subst h1;rw[if_pos rfl,gs (by rw[List.length_set];omega)]
 ·rw[if_neg h1,gn h1]
  by_cases h2:q=k
  ·subst h2;rw[if_pos rfl,gs hk]
  ·rw[if_neg h2,gn h2]
theorem To{s:Sch}{o:List Pth}{k i:Nat}(hk0 : 0<k)(hk:k<o.length)(hlx:s.lt (o.getD k Pth.zero) (o.getD (k-1) Pth.zero))
  (hs:∀(p q:Nat),p<q->q<=i->q≠k->¬s.lt (o.getD q Pth.zero) (o.getD p Pth.zero)) (p q:Nat) (hpq:p<q) (hq:q<=i) (hqk:q≠k-1):¬s.lt ((mw o k).getD q Pth.zero) ((mw o k).getD p Pth.zero):=by
 rw[HM hk0 hk,HM hk0 hk,if_neg hqk];by_cases h1:q=k
 ·rw[if_pos h1]
  by_cases h2:p=k-1
  ·rw[if_pos h2];exact lt_asymm hlx
  ·rw[if_neg h2,if_neg (by omega)];exact hs p (k-1) (by omega) (by omega) (by omega)
 ·rw[if_neg h1]
  by_cases h2:p=k-1
  ·rw[if_pos h2];exact hs k q (by omega) hq h1
  ·rw[if_neg h2]
   by_cases h3:p=k
   ·rw[if_pos h3];exact hs (k-1) q (by omega) hq h1
   ·rw[if_neg h3];exact hs p q hpq hq h1
end Go.D3
namespace Go.D3
open Go
set_option maxHeartbeats 4000000
set_option maxRecDepth 100000
theorem Cr{L:List D}{k:Nat}{x z:D}(hk:k<L.length):(L.set k x).getD k z=x:=by
 rw[List.getD_eq_getElem?_getD,List.getElem?_set_self hk];rfl
theorem vB{L:List D}{k j:Nat}{x z:D}(hj:j≠k):(L.set k x).getD j z=L.getD j z:=by
 rw[List.getD_eq_getElem?_getD,List.getElem?_set_ne (Ne.symm hj),List.getD_eq_getElem?_getD]
theorem Em{r:List Pth}{j:Nat}:(r.map Pth.d).getD j (D.agg [D.int .i64 Pth.zero.st,ints Pth.zero.ed])=D.agg [D.int .i64 (r.getD j Pth.zero).st,ints (r.getD j Pth.zero).ed]:=getD_map' _ _ _ _
theorem Tn{m:List D}{i j:Nat}{a b c A d B:D}(h:i≠j):(((((m.set i a).set j b).set i c).set i A).set j d).set j B=(m.set i A).set j B:=by
 rw[List.set_set,List.set_set,List.set_comm b A (Ne.symm h),List.set_set,List.set_set]
structure AM(s:Sch)(o:List Pth):Prop where
 a:dp s o
 nd:o.Nodup
 len:o.length<=400
 nZ:o.Pairwise s.lt
def AL(s:Sch)(rc:D)(gs:List D):Prop:=gs=[]/\∃l,rc=.o (.af l)/\∃(o:List Pth)(ok:Bool),l=[U Pth.d Pth.zero o,.bool ok]/\o.length<=500/\(ok=true->AM s o)/\(ok=false->¬s.fits)
def Av:List Nat:=[0,2,3,1,4,5,6,7,8,9,10]
def Hl:Sl:=ae Go.Proofs.Tryz.types Go.Proofs.Tryz.f99 Av []
theorem OW:aD Go.Proofs.Tryz.prog Go.Proofs.Tryz.f99 Av Hl 1=true:=by decide +kernel
theorem RQ(s:Sch)(hs:gi s):bV Go.Proofs.Tryz.prog 99 [Sch.d s] [] (AL s):=by
 have h0:=hs.n0;have h8:=hs.n8;have hf:=hs.f8;have hto:=hs.to;have no:¬s.fits->AL s (.o (.af [U Pth.d Pth.zero [],.bool false])) []:=fun hf=>⟨rfl,_,rfl,[],false,rfl,Nat.zero_le _,fun h=>by(cases h),fun _=>hf⟩
 refine nK .tree Go.Proofs.Tryz.func99 OW ?_;unfold Hl ae Av;simp only[go_sem];refine aI [] (fun(i:Nat)=>[(4,.o (U Pth.d Pth.zero (gU i))),(5,.int .i64 i)]) (fun i=>(i:Int)<=s.nd) (fun i=>s.nd.toNat-i) 0 (by simp only[go_sem];rfl) h0 rfl ?_;intro i hi;simp only[go_sem];refine⟨fun h=>?_,fun h=>?_⟩
 ·rw[nx]
  exact⟨by omega,i+1,by omega,by omega,by rw[aH (n:=9) (by omega) (by decide),Dr]⟩
 obtain rfl:i=s.nd.toNat:=by omega
 refine aI [7] (fun(p:Nat×List Pth)=>[(4,.o (U Pth.d Pth.zero p.2)),(6,.int .i64 p.1)]) (fun p=>p.1<=p.2.length/\p.2.length<=400/\eM s p.2 p.1/\ij p.2 p.1 0) (fun p=>400-p.1) (0,gU s.nd.toNat) (by simp only[go_sem];rfl) ⟨Nat.zero_le _,by rw[nx];omega,Ds hs,.zero⟩ rfl ?_;clear hi h;rintro⟨i,o⟩ ⟨hi,hl,hI,hN⟩;simp only at hi hl hI hN;simp only[go_sem];refine⟨fun h=>⟨h,h,fun h6=>?_,fun h6=>?_⟩,fun h=>?_⟩
 ·exact⟨(i+1,o),⟨h,hl,hI.fZ (by omega),hN.mono (.inl (Nat.lt_succ_self _))⟩,by show 400-(i+1)<400-i;omega,by rw[aH h (by simp only[maxLen];omega)]⟩
 ·obtain⟨y,hy⟩:=hI.at' h
  have hp6:=(bw.1 hy).2.1;generalize hP:o.getD i Pth.zero=P at hy hp6 h6;have hP6:P.ed.length<6:=by simp at h6;omega
  refine aI [] (fun(p:Nat×List Pth)=>[(4,.o (U Pth.d Pth.zero p.2)),(7,.int .i64 p.1)]) (fun p=>p.1<=s.fr.length/\o.length<=p.2.length/\p.2.length<=o.length+p.1/\eM s p.2 i/\ij p.2 i p.1/\p.2.getD i Pth.zero=P /\
   ∀e:Nat,e<p.1->s.aF P=some (s.fr.getD e 0)->(⟨P.st,P.ed++[(e:Int)]⟩:Pth)∈p.2) (fun p=>s.fr.length-p.1) (0,o) (by simp only[go_sem];rfl) ⟨Nat.zero_le _,Nat.le_refl _,Nat.le_refl _,hI,hN,hP,fun e he=>absurd he (Nat.not_lt_zero _)⟩ rfl ?_
  rintro⟨k,q⟩ ⟨hk,hq1,hq2,hqI,hqN,hqP,hqc⟩;simp only at hk hq1 hq2 hqI hqN hqP hqc;simp only[go_sem];rw[hqP];refine⟨fun h2=>⟨h2,by omega,by omega,ak (me s P y hto hy) rfl (.inl rfl) ?_⟩,fun h2=>?_⟩
  ·simp only[go_sem]
   refine⟨fun hfk=>?_,fun hfk=>⟨(k+1,q),⟨h2,hq1,by show q.length<=o.length+(k+1);omega,hqI,hqN.mono (.inr ⟨rfl,Nat.le_succ k⟩),hqP,fun e he hE=>?_⟩,by show s.fr.length-(k+1)<s.fr.length-k;omega,by rw[aH h2 (by simp only[maxLen];omega)]⟩⟩
   ·rw[hqP]
    have hE:=mT (p:=P) (e:=k) (by rw[hfk];exact hy) h2 hP6;have hadd:=hqI.add (by omega) hE;have hadN:=hqN.add (k:=k) (show i<q.length by omega);rw[hqP] at hadN;have hget:(q++[(⟨P.st,P.ed++[(k:Int)]⟩:Pth)]).getD i Pth.zero=P:=by rw[fI (by omega),if_neg (by omega),hqP]
    have hcc:∀e:Nat,e<k+1->s.aF P=some (s.fr.getD e 0)->(⟨P.st,P.ed++[(e:Int)]⟩:Pth)∈q++[(⟨P.st,P.ed++[(k:Int)]⟩:Pth)]:=fun e he hE=>by
     by_cases hek:e=k
     ·subst hek;simp
     ·exact List.mem_append_left _ (hqc e (by omega) hE)
    have hlen:(q++[(⟨P.st,P.ed++[(k:Int)]⟩:Pth)]).length=q.length+1:=by rw[List.length_append];rfl
    have hw:=aH h2 (show s.fr.length<=maxLen by simp only[maxLen];omega)
    with_reducible (repeat' apply And.intro)
    all_goals(try(show i<q.length;omega))
    all_goals(
     refine ak (jV P.ed (by omega)) rfl (.inl (bL _)) ?_;simp only[go_sem,hqP]
     with_reducible (repeat' apply And.intro)
     all_goals(first
      | exact⟨(k+1,_),⟨h2,by rw[hlen];omega,by rw[hlen];simp only;omega,hadd,hadN,hget,hcc⟩,by simp only;omega,by rw[hw]⟩
      | omega))
   ·by_cases hek:e=k
    ·subst hek
     rw[hy] at hE;injection hE with hE
     simp[hE] at hfk
    ·exact hqc e (by simp only at he;omega) hE
  ·refine⟨fun h3=>⟨_,_,no (Dv hqN.nd hqI.v (by omega)),rfl,rfl,trivial⟩,fun h3=>⟨(i+1,q),⟨by show i+1<=q.length;omega,by show q.length<=400;omega,hqI.next fun e he hE=>?_,hqN.mono (.inl (Nat.lt_succ_self _))⟩,by show 400-(i+1)<400-i;omega,by rw[aH h (by simp only[maxLen];omega)]⟩⟩
   rw[hqP] at hE|-
   exact hqc e (by omega) hE
 have hA:=hI.done (by omega);have hnd:=hN.nd;refine aI [9,10] (fun(p:Nat×List Pth)=>[(4,.o (U Pth.d Pth.zero p.2)),(8,.int .i64 p.1)]) (fun p=>p.2.Perm o/\p.1<=max 1 o.length/\∀a b,a<b->b<p.1->b<o.length->¬s.lt (p.2.getD b Pth.zero) (p.2.getD a Pth.zero)) (fun p=>max 1 o.length-p.1) (1,o) (by simp only[go_sem];rfl) ⟨.refl _,by simp only;omega,fun a b h1 h2=>by simp only at h2;omega⟩ rfl ?_;rintro⟨j,q⟩ ⟨hp,hj,hso⟩;simp only at hp hj hso;have hql:=hp.length_eq;simp only[go_sem];refine⟨fun h2=>?_,fun h2=>⟨_,_,⟨rfl,_,rfl,q,true,rfl,by omega,fun _=>⟨hA.perm hp,hp.nodup_iff.2 hnd,by omega,HJ (hp.nodup_iff.2 hnd) (List.pairwise_iff_getElem.2 fun a b ha hb hab=>?_)⟩,fun h=>by cases h⟩,rfl,rfl,trivial⟩⟩
 rotate_left
 ·have:=hso a b hab (by omega) (by omega)
  rwa [aX ha,aX hb] at this
 refine aI [10] (fun(p:Nat×List Pth)=>[(4,.o (U Pth.d Pth.zero p.2)),(9,.int .i64 p.1)]) (fun p=>p.2.Perm o/\p.1<=j/\∀a b,a<b->b<=j->b≠p.1->¬s.lt (p.2.getD b Pth.zero) (p.2.getD a Pth.zero)) (fun p=>p.1) (j,q) (by simp only[go_sem];rfl) ⟨hp,Nat.le_refl _,fun a b h1 h2 h3=>hso a b h1 (by simp only at h3;omega) (by omega)⟩ rfl ?_;rintro⟨k,r⟩ ⟨hp2,hk,hsr⟩;simp only at hp2 hk hsr;have hrl:=hp2.length_eq;have hrA:=hA.perm hp2;simp only[go_sem];have wk : 0<(k:Int)->IntKind.i64.wrap ((k:Int)-1)=((k-1:Nat):Int):=fun h=>by rw[wrap_small (by omega) (by omega)];omega
 refine⟨fun h3=>⟨h3,by omega⟩,fun h3=>⟨h3,by omega⟩,fun h3=>⟨h3,by rw[wk h3];omega⟩,fun h3=>⟨h3,by rw[wk h3];omega⟩,?_⟩
 have hE:∀{m:Nat},m<r.length->s.aF (r.getD m Pth.zero)=some (s.en (r.getD m Pth.zero)):=fun hm=>by
  obtain⟨y,hy⟩:=hrA.at' hm;unfold Sch.en;rw[hy];rfl
 refine bO (fun h3=>RO s (r.getD k Pth.zero) (r.getD (IntKind.i64.wrap ((k:Int)-1)).toNat Pth.zero) _ _ hto (hE (by omega)) (hE (by
  have h3 : 0<(k:Int):=by simpa using h3
  rw[wk h3,Int.toNat_natCast];omega))) rfl (fun h=>h) (.inl rfl) ?_
 simp only[go_sem]
 have hlx : 0<k->(lexB (eE (r.getD k Pth.zero) (s.en (r.getD k Pth.zero))) (eE (r.getD (IntKind.i64.wrap ((k:Int)-1)).toNat Pth.zero) (s.en (r.getD (IntKind.i64.wrap ((k:Int)-1)).toNat Pth.zero)))=true↔s.lt (r.getD k Pth.zero) (r.getD (k-1) Pth.zero)):=fun h=>by
  rw[wk (by omega),Int.toNat_natCast];rfl
 generalize lexB _ _=lx at hlx;refine⟨fun h3=>?_,fun h3=>⟨(j+1,r),⟨hp2,by simp only;omega,fun a b h4 h5 h6=>?_⟩,by simp only;omega,by rw[aH h2 (by simp only[maxLen];omega)]⟩⟩
 rotate_left
 ·simp only at h5
  by_cases hbk:b=k
  ·subst hbk
   have hk0 : 0<b:=by omega
   have hn:¬s.lt (r.getD b Pth.zero) (r.getD (b-1) Pth.zero):=fun hl=>by
    rw[(hlx hk0).2 hl] at h3;simp at h3;omega
   by_cases hab:a=b-1
   ·rw[hab];exact hn
   ·exact L3 (hsr a (b-1) (by omega) (by omega) (by omega)) hn
  ·exact hsr a b h4 (by omega) hbk
 simp only[Bool.and_eq_true,decide_eq_true_eq] at h3;obtain⟨hk0,hlt⟩:=h3;have hlt:=(hlx (by omega)).1 hlt;have hk1:k-1≠k:=by omega
 have hkr:k<r.length:=by omega
 have hk2:k-1<r.length:=by omega
 simp only[wk hk0,Int.toNat_natCast,List.length_set,List.length_map,Cr,vB hk1,Em,hkr,hk2];simp only[go_sem,wk hk0,Int.toNat_natCast,List.length_set,List.length_map,Cr,vB hk1,vB (Ne.symm hk1),Em,hkr,hk2];refine⟨(k-1,mw r k),⟨(Tp hkr).trans hp2,by simp only;omega,fun a b h4 h5 h6=>To (by omega) hkr hlt hsr a b h4 h5 h6⟩,by simp only;omega,?_⟩;rw[Tn (Ne.symm hk1)];unfold mw;simp only[U,List.map_set];rfl
end Go.D3
namespace Go.D3
open Go
set_option maxHeartbeats 4000000
set_option maxRecDepth 100000
theorem CY{m st:Int}{A B:List Int}{a b c:Nat}(h:(m != st || !(A == B) || decide (6<IntKind.i64.wrap (IntKind.i64.wrap ((a:Int)-b)+c)))=true)(h1:b<=a)(h2:a<=6/\c<=6):¬(m=st/\A=B/\a-b+c<=6):=fun⟨e1,e2,e3⟩=>by
 simp only[Bool.or_eq_true,bne_iff_ne,Bool.not_eq_true',beq_eq_false_iff_ne,decide_eq_true_eq] at h;rcases h with(h | h) | h
 ·exact h e1
 ·exact h e2
 ·rw[wrap_small (n:=(a:Int)-b) (by omega) (by omega),wrap_small (by omega) (by omega)] at h;omega
def Ii(s:Sch)(list:List Pth)(rc:D)(gs:List D):Prop:=gs=[]/\∃P,rc=.o (aO P)/\P.length<=30000/\dI s list P list.length 0 0
def Ar:List Nat:=[0,1,4,2,5,6,7,8,9,10,11,12,13]
def Hi:Sl:=ae Go.Proofs.Tryz.types Go.Proofs.Tryz.f101 Ar []
theorem OT:aD Go.Proofs.Tryz.prog Go.Proofs.Tryz.f101 Ar Hi 2=true:=by decide +kernel
theorem RP(s:Sch)(list:List Pth)(h:s.ok=true)(hA:dp s list)(hl:list.length<=500):bV Go.Proofs.Tryz.prog 101 [Sch.d s,U Pth.d Pth.zero list] [] (Ii s list):=by
 obtain⟨hk1,hlf,hrt⟩:=fg h;have hs:=ga hk1;have hto:=hs.to
 have h6:∀{i},i<list.length->(list.getD i Pth.zero).ed.length<=6:=fun hi=>by
  obtain⟨y,hy⟩:=hA.at' hi;exact(bw.1 hy).2.1
 refine nK .tree Go.Proofs.Tryz.func101 OT ?_;unfold Hi ae Ar;simp only[go_sem];refine aI [6,7,8,9,10,11,12] (fun(p:Nat×List (List Int))=>[(4,.o (aO p.2)),(5,.int .i64 p.1)]) (fun p=>p.1<=list.length/\p.2.length<=p.1*56/\dI s list p.2 p.1 0 0) (fun p=>list.length-p.1) (0,[]) (by simp only[go_sem];rfl) ⟨Nat.zero_le _,Nat.le_refl _,.zero⟩ rfl ?_;rintro⟨w,P⟩ ⟨hw,hPl,hP⟩;simp only at hw hPl hP;simp only[go_sem];refine⟨fun hwl=>⟨hwl,?_⟩,fun hwl=>⟨_,_,⟨rfl,P,rfl,by omega,by rw[show w=list.length by omega] at hP;exact hP⟩,rfl,rfl,trivial⟩⟩;obtain⟨y,hy⟩:=hA.at' hwl;have hw6:=h6 hwl;generalize hW:list.getD w Pth.zero=W at hy hw6;refine aI [8,9,10,11,12] (fun(p:Nat×List (List Int))=>[(4,.o (aO p.2)),(7,.int .i64 p.1)]) (fun p=>p.1<=s.lf.length/\p.2.length<=w*56+p.1*7/\dI s list p.2 w p.1 0) (fun p=>s.lf.length-p.1) (0,P) (by simp only[go_sem];rfl) ⟨Nat.zero_le _,by simp only;omega,hP⟩ rfl ?_;rintro⟨i,P1⟩ ⟨hi,hPl1,hP1⟩;simp only at hi hPl1 hP1;simp only[go_sem];refine⟨fun hil=>?_,fun hil=>⟨(w+1,P1),⟨hwl,by simp only;omega,hP1.wq (by omega)⟩,by simp only;omega,by rw[aH hwl (by simp only[maxLen];omega)]⟩⟩;obtain⟨z,hp,hq,aG⟩:=ok_eq h hil;have hp6:=(bw.1 hp).2.1;have hq6:=(bw.1 hq).2.1;have hp0:=(bw.1 hp).1;generalize hLp:s.lf.getD i Pth.zero=p at hp aG hp6 hp0;generalize hRq:s.rt.getD i Pth.zero=q at hq aG hq6;refine⟨hil,by omega,?_⟩;refine aI [11,12] (fun(p:Nat×List (List Int))=>[(4,.o (aO p.2)),(10,.int .i64 p.1)]) (fun p=>p.1<=7/\p.2.length<=w*56+i*7+p.1/\dI s list p.2 w i p.1) (fun p=>7-p.1) (0,P1) (by simp only[go_sem];rfl) ⟨Nat.zero_le _,by simp only;omega,hP1⟩ rfl ?_;rintro⟨at',P2⟩ ⟨hat,hPl2,hP2⟩;simp only at hat hPl2 hP2;simp only[go_sem];have hwr:IntKind.i64.wrap ((at':Int)+(p.ed.length:Int))=((at'+p.ed.length:Nat):Int):=by rw[wrap_small (by omega) (by omega)];omega
 simp only[hwr,Int.toNat_natCast]
 have hsk:∀m,bp s.fr s.to W.st (W.ed.take at')=some m->¬(m=p.st/\(W.ed.take (at'+p.ed.length)).drop at'=p.ed/\W.ed.length-p.ed.length+q.ed.length<=6)->dI s list P2 w i (at'+1):=fun m hm hn=>hP2.skip fun q' hl=>by
  unfold Sch.ff at hl;rw[hW,hLp,hRq] at hl;obtain⟨_,_,g1,g2,g3,_⟩:=hl;rw[hm] at g1;injection g1 with g1
  exact hn ⟨g1,g2,g3⟩
 refine⟨fun hc=>⟨hwl,fun h0=>?_,fun h0=>?_⟩,fun hc=>⟨(i+1,P2),⟨by simp only;omega,by simp only;omega,hP2.wo (by rw[hW,hLp];omega)⟩,by simp only;omega,by rw[aH hil (by simp only[maxLen];omega)]⟩⟩
 ·have hm:=kf hy (i:=at') (by omega)
  rw[if_neg (by omega)] at hm;have hr:=(oR (bw.1 hy).2.2).2 (at'-1) (by omega);rw[show IntKind.i64.wrap ((at':Int)-1)=((at'-1:Nat):Int) by rw[wrap_small (by omega) (by omega)];omega,Int.toNat_natCast];refine⟨by omega,by omega,?_⟩;generalize s.to.getD (W.ed.getD (at'-1) 0).toNat 0=m at hm
  try rw[hW]
  refine⟨fun h1=>⟨h1,by omega,hc⟩,bO (fun _=>xL _ _ (by rw[List.length_drop,List.length_take];omega)) rfl (fun h=>h) (.inl rfl) ?_⟩;simp only[go_sem];refine⟨fun h1=>by rw[h1];rfl,fun h1=>?_,fun h1=>⟨(at'+1,P2),⟨by simp only;omega,by simp only;omega,hsk m hm (CY h1 (by omega) (by omega))⟩,by simp only;omega,by rw[aH (n:=9) (by omega) (by decide)]⟩,fun h1=>?_⟩
  ·revert h1
   generalize(m != p.st)=b1;generalize((W.ed.take (at'+p.ed.length)).drop at' == p.ed)=b2;cases b1<;>cases b2<;>simp
  ·simp only[Bool.or_eq_false_iff,bne_eq_false_iff_eq,Bool.not_eq_false',beq_iff_eq,decide_eq_false_iff_not] at h1
   obtain⟨⟨e1,e2⟩,e3⟩:=h1;rw[wrap_small (n:=(W.ed.length:Int)-p.ed.length) (by omega) (by omega),wrap_small (by omega) (by omega)] at e3;have hsw:=rZ hy hp hq aG (by omega) hm e1 e2 (by omega);obtain⟨j,hj1,hj2,hj3⟩:=qW (hA.a _ _ hsw);have hadd:=hP2.add hwl hj2 (by unfold Sch.ff;rw[hW,hj3,hLp,hRq];exact⟨hil,by omega,by rw[hm,e1],e2,by omega,rfl⟩);have hlen:(P2++[[(w:Int),(j:Int)]]).length<=w*56+i*7+(at'+1):=by rw[List.length_append,List.length_singleton];omega
   have htl:(W.ed.take at').length<=6:=by rw[List.length_take];omega
   with_reducible (repeat' apply And.intro)
   all_goals(try omega)
   all_goals(
    refine ak (jV (W.ed.take at') (by omega)) rfl (.inl (bL _)) ?_;simp only[go_sem];simp only[hwr,Int.toNat_natCast,List.take_length,hW,List.length_map]
    with_reducible (repeat' apply And.intro)
    all_goals(first
     | exact nS _
     | omega
     | (simp only[List.length_append,List.length_take,List.length_drop];omega)
     | (refine ak (re list W.st _ (by omega) fun i hi=>Nat.le_trans (h6 hi) (by decide)) rfl (.inl rfl) ?_
        simp only[go_sem,hj1]
        exact⟨by omega,(at'+1,_),⟨by simp only;omega,hlen,hadd⟩,by simp only;omega,by rw[aH (n:=9) (by omega) (by decide)]⟩)))
 ·have hm:=kf hy (i:=at') (by omega)
  rw[if_pos (by omega)] at hm;rw[hW];obtain⟨m,hme⟩:∃m,m=W.st:=⟨_,rfl⟩;rw[<-hme];have hm:bp s.fr s.to W.st (W.ed.take at')=some m:=by rw[hm,hme]
  refine⟨fun h1=>⟨h1,by omega,hc⟩,bO (fun _=>xL _ _ (by rw[List.length_drop,List.length_take];omega)) rfl (fun h=>h) (.inl rfl) ?_⟩;simp only[go_sem];refine⟨fun h1=>by rw[h1];rfl,fun h1=>?_,fun h1=>⟨(at'+1,P2),⟨by simp only;omega,by simp only;omega,hsk m hm (CY h1 (by omega) (by omega))⟩,by simp only;omega,by rw[aH (n:=9) (by omega) (by decide)]⟩,fun h1=>?_⟩
  ·revert h1
   generalize(m != p.st)=b1;generalize((W.ed.take (at'+p.ed.length)).drop at' == p.ed)=b2;cases b1<;>cases b2<;>simp
  ·simp only[Bool.or_eq_false_iff,bne_eq_false_iff_eq,Bool.not_eq_false',beq_iff_eq,decide_eq_false_iff_not] at h1
   obtain⟨⟨e1,e2⟩,e3⟩:=h1;rw[wrap_small (n:=(W.ed.length:Int)-p.ed.length) (by omega) (by omega),wrap_small (by omega) (by omega)] at e3;have hsw:=rZ hy hp hq aG (by omega) hm e1 e2 (by omega);obtain⟨j,hj1,hj2,hj3⟩:=qW (hA.a _ _ hsw);have hadd:=hP2.add hwl hj2 (by unfold Sch.ff;rw[hW,hj3,hLp,hRq];exact⟨hil,by omega,by rw[hm,e1],e2,by omega,rfl⟩);have hlen:(P2++[[(w:Int),(j:Int)]]).length<=w*56+i*7+(at'+1):=by rw[List.length_append,List.length_singleton];omega
   have htl:(W.ed.take at').length<=6:=by rw[List.length_take];omega
   with_reducible (repeat' apply And.intro)
   all_goals(try omega)
   all_goals(
    refine ak (jV (W.ed.take at') (by omega)) rfl (.inl (bL _)) ?_;simp only[go_sem];simp only[hwr,Int.toNat_natCast,List.take_length,hW,List.length_map]
    with_reducible (repeat' apply And.intro)
    all_goals(first
     | exact nS _
     | omega
     | (simp only[List.length_append,List.length_take,List.length_drop];omega)
     | (refine ak (re list W.st _ (by omega) fun i hi=>Nat.le_trans (h6 hi) (by decide)) rfl (.inl rfl) ?_
        simp only[go_sem,hj1]
        exact⟨by omega,(at'+1,_),⟨by simp only;omega,hlen,hadd⟩,by simp only;omega,by rw[aH (n:=9) (by omega) (by decide)]⟩)))
end Go.D3
