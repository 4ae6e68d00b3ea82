/- CONTRACTS: a journal is made short, the reference's side. -/
import Derived.Test.YtpjbamibcngihaaGreatDoorGAZ
import Derived.Test.YtpjbamibcngihaaGreatDoorGBA
import Derived.Test.YtpjbamibcngihaaGreatDoorGAY
namespace Go.D3
open Go
theorem head_take{t u:List UInt8}{n:Nat}{p:aa×Nat}(h:cL t=some p)(hn:p.2<=n)(hu:u.take n=t.take n):cL u=some p:=by
 rcases rf (t:=t) (a:=0) with⟨i,_,h2,h3,h4⟩ | hf
 ·have e:=nH (fun j hj=>h4 j (Nat.zero_le _) hj) h2 h3
  have hi:i+1<=n:=by
   unfold cL at h;split at h
   ·rw[Option.map_eq_some_iff] at h
    obtain⟨s,_,rfl⟩:=h;rw[e] at hn;have:(t.take i).length=i:=by rw[List.length_take];omega
    dsimp only at hn;omega
   ·cases h
  have hui:u.getD i 0=10:=by rw[vu hu (by omega)];exact h3
  have e2:=nH (fun j hj=>by rw[vu hu (by omega)];exact h4 j (Nat.zero_le _) hj) (Fk hui) hui;unfold cL at h|-
  rw[e] at h;rw[e2,vv hu (by omega)];exact h
 ·have e:=qJ fun j hj=>hf j (Nat.zero_le _) hj
  unfold cL at h;rw[e] at h;cases h
theorem Fq{t l r:List UInt8}(h:(10:UInt8) ∉ l):dk (t++(l++10::r)) t.length=some l:=by
 unfold dk;rw[List.drop_left,qK h];rfl
theorem qY{t y:List UInt8}(h:(10:UInt8) ∉ y):dk (t++y) t.length=none:=by
 unfold dk;rw[List.drop_left,DL h];rfl
theorem GP{l r y:List UInt8}(h:y <+: l++10::r)(hl:(10:UInt8) ∉ l):(10:UInt8) ∉ y\/∃z,y=l++10::z/\z <+: r:=by
 obtain⟨q,hq⟩:=h;rcases List.append_eq_append_iff.1 hq with⟨a,h1,_⟩ | ⟨c,h1,h2⟩
 ·exact .inl fun hm=>hl (by rw[h1];exact List.mem_append_left _ hm)
 ·cases c with
  | nil=>exact .inl (by rw[h1,List.append_nil];exact hl)
  | cons x z =>
   rw[List.cons_append,List.cons.injEq] at h2;exact .inr ⟨z,by rw[h1,<-h2.1],q,h2.2.symm⟩
theorem D8{x:List UInt8}:(10:UInt8) ∉ cR x:=fun hm=>by
 unfold cR at hm;rcases List.mem_append.1 hm with hm | hm
 ·revert hm;decide
 ·have:=mh (jY (t:=x)).1 hm
  revert this;decide
theorem Oj{c:ah}{x:List UInt8}:¬c.line=cR x:=fun h=>by
 have h2:c.line.getD 0 0=(cR x).getD 0 0:=by rw[h]
 unfold ah.line cR at h2;split at h2
 all_goals revert h2;simp
theorem Ol{c:ah}{l:List ah}:bu (c::l)=c.line++10::bu l:=by unfold bu;simp
theorem Ok{c:ah}{l:List ah}{x:List UInt8}:bu (c::l)++x=c.line++10::(bu l++x):=by rw[Ol];simp
theorem Cj{T:List UInt8}:∀(l2 l1:List ah)(y:List UInt8),l1.length+l2.length<=40->(∀c∈l2,c.tl)->y <+: bu l2++(cR (T++bu (l1++l2))++[10]) ->
  gO (T++bu l1++y) (T++bu l1).length l1=if y=bu l2++(cR (T++bu (l1++l2))++[10]) then some (l1++l2,(T++bu l1++y).length) else none
 | [],l1,y,_,_,hy=>by
  have e0:bu []=[]:=rfl;rw[e0,List.nil_append,List.append_nil] at hy|-
  rcases GP hy D8 with hn | ⟨z,rfl,hz⟩
  ·rw[iE,qY hn,if_neg (fun h=>hn (by rw[h];simp))];rfl
  ·have:z=[]:=List.prefix_nil.1 hz
   subst this;rw[iE,Fq D8,Option.bind_some,List.take_left,if_pos rfl,if_pos rfl];congr 2;simp only[List.length_append,List.length_cons,List.length_nil];omega
 | c::l2,l1,y,h40,hl,hy=>by
  have hc:=hl c List.mem_cons_self;rw[List.length_cons] at h40;rw[Ok] at hy|-
  rcases GP hy (Fp hc.1) with hn | ⟨z,rfl,hz⟩
  ·rw[iE,qY hn,if_neg (fun h=>hn (by rw[h];simp))];rfl
  ·have ih:=Cj (T:=T) l2 (l1++[c]) z (by rw[List.length_append,List.length_cons,List.length_nil];omega) (fun x hx=>hl x (List.mem_cons_of_mem _ hx))
   rw[List.append_assoc,List.singleton_append] at ih;have ih:=ih hz;rw[iE,Fq (Fp hc.1),Option.bind_some,if_neg Oj,Mf hc,Option.bind_some,if_neg (by omega)];have e1:T++bu (l1++[c])++z=T++bu l1++(c.line++10::z):=by rw[tV];simp
   have e2:(T++bu (l1++[c])).length=(T++bu l1).length+c.line.length+1:=by rw[tV];simp only[List.length_append,List.length_cons,List.length_nil];omega
   rw[e1,e2] at ih;rw[ih]
   have hi:(z=bu l2++(cR (T++bu (l1++c::l2))++[10]))=(c.line++10::z=c.line++10::(bu l2++(cR (T++bu (l1++c::l2))++[10]))):=propext ⟨fun h=>by rw[h],fun h=>by
    have:=List.append_cancel_left h
    injection this⟩
   simp only[hi]
theorem wg{s:aa}(hs:cQ s):∀{l:List ah}{d e:af},br s d->af.all s d l=some e->∀c∈l,c.tl
 | [],_,_,_,_,c,hc=>by cases hc
 | x::l,d,e,h,ha,c,hc=>by
  rw[af.all] at ha;split at ha
  ·rename_i hcan
   rcases List.mem_cons.1 hc with rfl | hc
   ·refine⟨Dp hs h hcan,?_⟩
    unfold af.can at hcan;rw[Bool.and_eq_true] at hcan;exact hcan.1
   ·exact wg hs (h.app hs hcan) ha c hc
  ·cases ha
theorem DK{t y:List UInt8}{p:aa×Hs}(h:bn t=some p){l:List ah}{d:af}(hg:ca p.1 p.2.last l=some d)(hy:y <+: bu l++(cR (t.take p.2.gd++bu l)++[10])) :
  bn (t.take p.2.gd++y)=some (p.1,if y=bu l++(cR (t.take p.2.gd++bu l)++[10]) then p.2.push d l (t.take p.2.gd++y).length else p.2):=by
 obtain⟨ho,hk⟩:=gJ h;have hs:=eA (dM ho).1;obtain⟨g1,g2,g3⟩:=pq hg;have htl:=wg hs hk.last g1;have hgl:=hk.gl;have hT:(t.take p.2.gd).length=p.2.gd:=by rw[List.length_take];omega
 have hu:(t.take p.2.gd++y).take p.2.gd=t.take p.2.gd:=by
  conv=>lhs;rw[<-hT]
  rw[hT,List.take_append_of_le_length (by omega),List.take_take,Nat.min_self]
 have hx:=Cj (T:=t.take p.2.gd) l [] y (by simpa using g2) htl (by simpa using hy);have e0:bu []=[]:=rfl;rw[e0,List.append_nil,List.nil_append,hT] at hx;unfold bn at h|-
 rw[Option.map_eq_some_iff] at h;obtain⟨q,h1,rfl⟩:=h;dsimp only at *;have hm:=Ie (s:=q.1) (t:=t) _ q.2 ⟨[bW q.1],[],q.2⟩ (Nat.le_refl _) (Nat.le_refl _);have ht:=Vx (s:=q.1) (t:=t) _ q.2 ⟨[bW q.1],[],q.2⟩ (Nat.le_refl _) rfl hu;rw[head_take h1 hm hu,Option.map_some,ht];generalize dh q.1 t q.2 [] ⟨[bW q.1],[],q.2⟩=R at *;rw[pY _ R.gd [] (Nat.le_refl _),hx];by_cases hw:y=bu l++(cR (t.take R.gd++bu l)++[10])
 ·rw[if_pos hw,if_pos hw]
  dsimp only;rw[hg];dsimp only;rw[ia];have hz:=qY (t:=t.take R.gd++y) (y:=[]) (by simp);rw[List.append_nil] at hz;rw[hz]
 ·rw[if_neg hw,if_neg hw]
end Go.D3
namespace Go.D3
open Go
theorem oV{s:aa}:∀{l m:List ah}{d:af},af.all s d (l++m)=(af.all s d l).bind fun e=>af.all s e m
 | [],m,d=>rfl
 | c::l,m,d=>by
  rw[List.cons_append,af.all,af.all];split
  ·exact oV
  ·rfl
theorem CP{s:aa}{d:af}{c:ah}(h:d.can s c=true):af.all s d [c]=some (d.app s c):=by
 rw[af.all,if_pos h];rfl
theorem xR{α:Type}{l m:List α}(z:α)(h:l.length=m.length)(hg:∀i,i<l.length->l.getD i z=m.getD i z):l=m:=by
 refine List.ext_getElem h fun i h1 h2=>?_
 have:=hg i h1
 rwa [aS h1,aS h2] at this
theorem Mx{s:aa}{d e:af}(hd:br s d)(he:br s e)(hz:∀j,e.sz.getD j 0=d.sz.getD j 0)(hv:∀k i,k<s.fr.length->i<d.ln k->e.vl k i=d.vl k i):e=d:=by
 have h1:=hd.nd;have h2:=he.nd;have h3:=hd.mp;have h4:=he.mp;have hsz:e.sz=d.sz:=xR 0 (by omega) fun i _=>hz i
 have hmp:e.mp=d.mp:=xR [] (by omega) fun k hk=>by
  have l1:=hd.len k (by omega);have l2:=he.len k hk;rw[hz] at l2;refine xR 0 (by omega) fun i hi=>?_
  exact hv k i (by omega) (by show i<(d.mp.getD k []).length;omega)
 cases e;cases d;dsimp only at hsz hmp;rw[hsz,hmp]
theorem CJ{s:aa}(hs:cQ s){e:af}(he:br s e){x:Nat}(hx:(x:Int)<s.nd)(h0:e.sz.getD x 0=0):∀r:Nat,r<=16 ->
  ∃f,af.all s e (List.replicate r ⟨1,x,0,0⟩)=some f/\br s f/\∀j,f.sz.getD j 0=if j=x then(r:Int) else e.sz.getD j 0
 | 0,_=>⟨e,rfl,he,fun j=>by
  split
  ·rename_i h;rw[h];exact h0
  ·rfl⟩
 | r+1,hr=>by
  obtain⟨f,h1,h2,h3⟩:=CJ hs he hx h0 r (by omega)
  have hc:f.can s ⟨1,x,0,0⟩=true:=by
   have hz:=h3 x;rw[if_pos rfl] at hz;unfold af.can ah.okB aP;dsimp only;rw[if_pos rfl,if_pos rfl,Int.toNat_natCast,hz];simp only[beq_self_eq_true,Bool.and_self,Bool.true_and,Bool.and_eq_true,decide_eq_true_eq,Bool.not_eq_true',beq_eq_false_iff_ne];omega
  refine⟨f.app s ⟨1,x,0,0⟩,?_,h2.app hs hc,fun j=>?_⟩
  ·rw[List.replicate_succ',oV,h1,Option.bind_some,CP hc]
  ·have hn:=h2.nd
   unfold af.app;rw[if_pos rfl];dsimp only;rw[Int.toNat_natCast,jv (by omega),h3 j,h3 x,if_pos rfl];split
   ·omega
   ·rfl
theorem CI{s:aa}(hs:cQ s){d:af}(hd:br s d):∀x:Nat,x<=d.sz.length ->
  ∃f,af.all s (bW s) (fJ d x)=some f/\br s f/\∀j,f.sz.getD j 0=if j<x then d.sz.getD j 0 else 0
 | 0,_=>⟨bW s,rfl,rh hs,fun j=>by rw[if_neg (Nat.not_lt_zero _)];exact mO⟩
 | x+1,hx=>by
  obtain⟨f,h1,h2,h3⟩:=CI hs hd x (by omega);have hn:=hd.nd;have hz:=hd.eH x (by omega);obtain⟨g,g1,g2,g3⟩:=CJ hs h2 (x:=x) (by omega) (by rw[h3,if_neg (Nat.lt_irrefl _)]) (d.sz.getD x 0).toNat (by omega);refine⟨g,?_,g2,fun j=>?_⟩
  ·rw[sG,oV,h1,Option.bind_some,g1]
  ·rw[g3,h3]
   by_cases h4:j=x
   ·subst h4
    rw[if_pos rfl,if_pos (by omega)];omega
   ·rw[if_neg h4]
    by_cases h5:j<x
    ·rw[if_pos h5,if_pos (by omega)]
    ·rw[if_neg h5,if_neg (by omega)]
theorem Kx{s:aa}(hs:cQ s){d:af}(hd:br s d)(hn:d.nn){k:Nat}(hk:k<s.fr.length){e:af}(he:br s e)(hz:∀j,e.sz.getD j 0=d.sz.getD j 0):∀r:Nat,r<=d.ln k ->
  ∃f,af.all s e (fm d k r)=some f/\br s f/\(∀j,f.sz.getD j 0=d.sz.getD j 0)/\∀q i,q<s.fr.length->f.vl q i=if q=k/\i<r then d.vl q i else e.vl q i
 | 0,_=>⟨e,rfl,he,hz,fun q i _=>by rw[if_neg (fun h=>Nat.not_lt_zero _ h.2)]⟩
 | r+1,hr=>by
  obtain⟨f,h1,h2,h3,h4⟩:=Kx hs hd hn hk he hz r (by omega);have hm:=hd.mp;have hf:=h2.mp;have hl:=hd.len k (by omega);have hl2:=h2.len k (by omega);rw[h3] at hl2;have hr2:r<(d.mp.getD k []).length:=hr;have hv:=hd.val k r (by omega) hr2;have hv0:=hn k r (by omega) hr2
  have hc:f.can s ⟨2,k,r,(d.mp.getD k []).getD r 0⟩=true:=by
   unfold af.can ah.okB aP;dsimp only;rw[if_neg (by decide),if_neg (by decide),Int.toNat_natCast,h3,h3];simp only[beq_self_eq_true,Bool.true_and,Bool.and_eq_true,decide_eq_true_eq];omega
  refine⟨f.app s ⟨2,k,r,(d.mp.getD k []).getD r 0⟩,?_,h2.app hs hc,fun j=>?_,fun q i hq=>?_⟩
  ·rw[zT,oV,h1,Option.bind_some,CP hc]
  ·unfold af.app
   rw[if_neg (fun h=>by cases h)];exact h3 j
  ·have h5:=h4 q i hq
   unfold af.app af.vl at *;rw[if_neg (fun h=>by cases h)];dsimp only;rw[Int.toNat_natCast,Int.toNat_natCast,jv (by omega)];by_cases hqk:q=k
   ·subst hqk
    rw[if_pos rfl,jv (by omega)];by_cases hi:i=r
    ·subst hi
     rw[if_pos rfl,if_pos ⟨rfl,by omega⟩]
    ·rw[if_neg hi,h5]
     by_cases h6:i<r
     ·rw[if_pos ⟨rfl,h6⟩,if_pos ⟨rfl,by omega⟩]
     ·rw[if_neg (fun h=>h6 h.2),if_neg (fun h=>by have:=h.2;omega)]
   ·rw[if_neg hqk,h5,if_neg (fun h=>hqk h.1),if_neg (fun h=>hqk h.1)]
theorem Kw{s:aa}(hs:cQ s){d:af}(hd:br s d)(hn:d.nn){e:af}(he:br s e)(hz:∀j,e.sz.getD j 0=d.sz.getD j 0):∀k:Nat,k<=s.fr.length ->
  ∃f,af.all s e (gM d k)=some f/\br s f/\(∀j,f.sz.getD j 0=d.sz.getD j 0)/\∀q i,q<k->i<d.ln q->f.vl q i=d.vl q i
 | 0,_=>⟨e,rfl,he,hz,fun q i h _=>absurd h (Nat.not_lt_zero _)⟩
 | k+1,hk=>by
  obtain⟨f,h1,h2,h3,h4⟩:=Kw hs hd hn he hz k (by omega);obtain⟨g,g1,g2,g3,g4⟩:=Kx hs hd hn (k:=k) (by omega) h2 h3 (d.ln k) (Nat.le_refl _);refine⟨g,?_,g2,g3,fun q i hq hi=>?_⟩
  ·rw[vg,oV,h1,Option.bind_some];exact g1
  ·rw[g4 q i (by omega)]
   by_cases h5:q=k
   ·subst h5;rw[if_pos ⟨rfl,hi⟩]
   ·rw[if_neg (fun h=>h5 h.1)]
    exact h4 q i (by omega) hi
theorem Wm{s:aa}(hs:cQ s){d:af}(hd:br s d)(hn:d.nn):af.all s (bW s) (db d)=some d:=by
 obtain⟨f,h1,h2,h3⟩:=CI hs hd d.sz.length (Nat.le_refl _)
 have hz:∀j,f.sz.getD j 0=d.sz.getD j 0:=fun j=>by
  rw[h3];split
  ·rfl
  ·rename_i h
   rw[List.getD_eq_getElem?_getD,List.getElem?_eq_none (by omega)];rfl
 have hm:=hd.mp;obtain⟨g,g1,g2,g3,g4⟩:=Kw hs hd hn h2 hz d.mp.length (by omega);unfold db;rw[oV,h1,Option.bind_some,g1,Mx hd g2 g3 fun k i hk hi=>g4 k i (by omega) hi]
end Go.D3
namespace Go.D3
open Go
theorem Ni{t:List UInt8}{p:aa×Nat}(h:cL t=some p):eE p.1.aL=some p.1/\(10:UInt8) ∉ p.1.aL:=by
 rcases rf (t:=t) (a:=0) with⟨i,_,h2,h3,h4⟩ | hf
 ·have e:=nH (fun j hj=>h4 j (Nat.zero_le _) hj) h2 h3
  unfold cL at h;rw[e] at h;split at h
  ·rw[Option.map_eq_some_iff] at h
   obtain⟨s,h5,rfl⟩:=h;dsimp only at h5|-
   have h6:=(uO h5).2;rw[h6] at h5;refine⟨h5,fun hm=>?_⟩;rw[<-h6] at hm;exact ya (fun j hj _=>h4 j (Nat.zero_le _) hj) (List.mem_of_mem_drop hm)
  ·cases h
 ·have e:=qJ fun j hj=>hf j (Nat.zero_le _) hj
  unfold cL at h;rw[e] at h;cases h
theorem EN{s:aa}(h:eE s.aL=some s)(hn:(10:UInt8) ∉ s.aL)(y:List UInt8):cL (cA s++y)=some (s,(cA s).length):=by
 have hn2:(10:UInt8) ∉ eR++s.aL:=fun hm=>by
  rcases List.mem_append.1 hm with hm | hm
  ·revert hm;decide
  ·exact hn hm
 have e:cA s++y=(eR++s.aL)++10::y:=by unfold cA eR;simp
 have hp:Lib.hasPrefix (eR++s.aL) eR=true:=by
  unfold Lib.hasPrefix;simp
 have hd:(eR++s.aL).drop 7=s.aL:=rfl;unfold cL;rw[e,qK hn2];dsimp only;rw[hp,hd,h,Bool.and_self,if_pos rfl,Option.map_some];congr 2;unfold cA eR;simp
theorem Wo{s:aa}:db (bW s)=[]:=by
 unfold db fJ gM fm bW;simp only[mO];rw[List.append_eq_nil_iff];constructor<;>(rw[List.flatMap_eq_nil_iff];intro x _;rfl)
theorem Mn{t:List UInt8}{p:aa×Hs}(h:bn t=some p)(h40:(db p.2.last).length<=40) :
  (db p.2.last=[]->bn (cA p.1)=some (p.1,⟨[p.2.last],[],(cA p.1).length⟩)) /\
  (db p.2.last≠[]->bn (dE (cA p.1) (db p.2.last))=some (p.1,⟨[bW p.1,p.2.last],[db p.2.last],(dE (cA p.1) (db p.2.last)).length⟩)):=by
 obtain⟨ho,hk⟩:=gJ h;have hc:=zj h;have hs:=eA (dM ho).1;have ha:=Wm hs hk.last hk.tN
 have hh:eE p.1.aL=some p.1/\(10:UInt8) ∉ p.1.aL:=by
  unfold bn at h;rw[Option.map_eq_some_iff] at h;obtain⟨q,h1,rfl⟩:=h;exact Ni h1
 obtain⟨s,H⟩:=p;dsimp only at *;have hnew:=EN hh.1 hh.2;refine⟨fun h0=>?_,fun h0=>?_⟩
 ·rw[h0] at ha
  have hl:bW s=H.last:=by injection ha
  have e:=hnew [];rw[List.append_nil] at e;unfold bn;rw[e,Option.map_some];dsimp only;have hz:=qY (t:=cA s) (y:=[]) (by simp);rw[List.append_nil] at hz;rw[ia,hz,hl]
 ·have hw:H.last.dP s=true:=by
   rcases Nat.eq_zero_or_pos H.tx.length with h1 | h1
   ·exfalso
    have h2:=hc.dl
    have h3:H.last=bW s:=by
     unfold Hs.last;rw[show H.dt.length-1=0 by omega];exact hc.d0
    rw[h3] at h0;exact h0 Wo
   ·have h2:=hc.dl
    have h3:=hc.st (H.tx.length-1) (by omega)
    have h4:H.dt.getD (H.tx.length-1+1) af.zero=H.last:=by
     unfold Hs.last;rw[show H.dt.length-1=H.tx.length-1+1 by omega]
    rw[h4] at h3;exact(pq h3).2.2
  have hg:ca s (bW s) (db H.last)=some H.last:=by
   unfold ca;rw[ha,Option.bind_some,if_pos];rw[hw,Bool.and_true,decide_eq_true_eq];exact h40
  have htl:=wg hs (rh hs) ha;have hx:=Cj (T:=cA s) (db H.last) [] _ (by simpa using h40) htl (List.prefix_refl _);have e0:bu []=[]:=rfl;rw[e0,List.append_nil,List.nil_append,if_pos rfl] at hx;have ep:cA s++(bu (db H.last)++(cR (cA s++bu (db H.last))++[10]))=dE (cA s) (db H.last):=by unfold dE;simp
  rw[ep] at hx;have e:=hnew (bu (db H.last)++(cR (cA s++bu (db H.last))++[10]));rw[ep] at e;unfold bn;rw[e,Option.map_some];dsimp only;rw[pY _ _ [] (Nat.le_refl _),hx];dsimp only;have hl0:Hs.last ⟨[bW s],[],(cA s).length⟩=bW s:=rfl;rw[hl0,hg];dsimp only;have hz:=qY (t:=dE (cA s) (db H.last)) (y:=[]) (by simp);rw[List.append_nil] at hz;rw[ia,hz];rfl
end Go.D3
namespace Go.D3
open Go
set_option maxHeartbeats 4000000
set_option maxRecDepth 100000
theorem WJ{s:aa}{d:af}(hd:br s d)(i:Nat):d.sz.getD i 0<=16:=by
 by_cases h:i<d.sz.length
 ·exact(hd.eH i h).2
 ·rw[List.getD_eq_getElem?_getD,List.getElem?_eq_none (by omega)];show(0:Int)<=16;omega
theorem zY{s:aa}{d:af}(hs:cQ s)(hd:br s d)(hn:d.nn):∀c∈db d,lJ c:=fun c hc=>by
 have h1:=hd.nd;have h2:=hs.n8;have h3:=hd.mp;have h4:=hs.f8;rcases List.mem_append.1 hc with hc | hc
 ·obtain⟨i,hi,hc⟩:=List.mem_flatMap.1 hc
  rw[List.mem_range] at hi;have:=List.eq_of_mem_replicate hc;subst this;exact⟨⟨Int.natCast_nonneg _,by show(i:Int)<=_;omega⟩,fun h=>absurd rfl h⟩
 ·obtain⟨k,hk,hc⟩:=List.mem_flatMap.1 hc
  rw[List.mem_range] at hk;obtain⟨r,hr,rfl⟩:=List.mem_map.1 hc;rw[List.mem_range] at hr;have hm:=hd.mA hs k;have hv:=hd.val k r hk hr;have hz:=WJ hd (s.to.getD k 0).toNat;exact⟨⟨Int.natCast_nonneg _,by show(k:Int)<=_;omega⟩,fun _=>⟨⟨Int.natCast_nonneg _,by show(r:Int)<=_;omega⟩,hn k r hk hr,by show(d.mp.getD k []).getD r 0<=_;omega⟩⟩
def jk:Option (aa×Hs)->D
 | some p=>if 40<(db p.2.last).length then .au [.str [],.int .i64 3] else if(db p.2.last).length=0 then .au [.str (cA p.1),.int .i64 0] else .au [.str (dE (cA p.1) (db p.2.last)),.int .i64 0]
 | none=>.au [.str [],.int .i64 6]
def Be:List Nat:=[0,2,3,4,5,6,7]
def Jd:Sl:=ak Go.Proofs.Tryz.types Go.Proofs.Tryz.f23 Be [(0,28),(0,32)]
theorem Rl:aF Go.Proofs.Tryz.prog Go.Proofs.Tryz.f23 Be Jd 1=true:=by decide +kernel
theorem UL(t:List UInt8)(ht:t.length<=1048576):aC Go.Proofs.Tryz.prog 23 [.v (.str t)] (jk (bn t)):=by
 refine aQ Go.Proofs.Tryz.func23 Rl ?_;unfold Jd ak Be;simp only[go_sem];refine en [] false (u4 t (by omega)) ?_;cases hr:bn t with
 | none =>
  simp only[lv];simp only[go_sem];rfl
 | some p =>
  obtain⟨hok,hH⟩:=gJ hr;have hs:=eA (dM hok).1;have hdl:=hH.dl;have h6:=hH.t6;have hgl:=hH.gl;have htk:=cJ hok;have htl:=sd htk;simp only[lv,Hs.pl];simp only[go_sem];refine en [] false (u7 (bX.of p.1 p.2) (by show 0<p.2.dt.length;omega) (by show p.2.dt.length<=_;omega)) ?_;rw[tO];simp only[go_sem];refine av (Vm p.1 p.2.last hs hH.last) rfl (.inl (kr yf _)) ?_;have hsm:=KA hs hH.last;have hck:=zY hs hH.last hH.tN;simp only[go_sem];refine⟨fun h=>?_,fun h=>?_⟩
  ·simp only[jk]
   rw[if_pos (by omega)]
  ·refine av (zw p.1 htk) rfl (.inl rfl) ?_
   simp only[go_sem];refine⟨(by simp only[maxLen];omega),(by simp only[maxLen];omega),?_⟩;rw[show 115::99::104::101::109::97::32::(p.1.aL++[10])=cA p.1 from rfl];have hnl:(cA p.1).length<=4000:=by simp only[cA,List.length_append,List.length_cons,List.length_nil];omega
   refine⟨fun h2=>?_,fun h2=>?_⟩
   ·simp only[jk]
    rw[if_neg (by omega),if_pos (by omega)]
   ·refine av (H7 (cA p.1) (db p.2.last) (by omega) (by omega) hck) rfl (.inl rfl) ?_
    simp only[go_sem];simp only[jk];rw[if_neg (by omega),if_neg (by intro hz;rw[hz] at h2;revert h2;decide)]
end Go.D3
