/- CONTRACTS: links of short paths, the reference's side. -/
import Derived.Test.YtpnchponfnbmiaaGreatDoorGAA
namespace Go.D3
open Go Proofs
set_option maxHeartbeats 4000000
set_option maxRecDepth 100000
theorem Gl{L:List D}{k:Nat}{x z:D}(hk:k<L.length):(L.set k x).getD k z=x:=by
 rw[List.getD_eq_getElem?_getD,List.getElem?_set_self hk];rfl
theorem yL{L:List D}{k j:Nat}{x z:D}(hj:j≠k):(L.set k x).getD j z=L.getD j z:=by
 rw[List.getD_eq_getElem?_getD,List.getElem?_set_ne (Ne.symm hj),List.getD_eq_getElem?_getD]
theorem IW{r:List U}{j:Nat}:(r.map U.d).getD j (D.agg [D.int .i64 U.zero.st,ints U.zero.ed])=D.agg [D.int .i64 (r.getD j U.zero).st,ints (r.getD j U.zero).ed]:=getD_map' _ _ _ _
theorem aax{m:List D}{i j:Nat}{a b c A d B:D}(h:i≠j):(((((m.set i a).set j b).set i c).set i A).set j d).set j B=(m.set i A).set j B:=by
 rw[List.set_set,List.set_set,List.set_comm b A (Ne.symm h),List.set_set,List.set_set]
structure D5(s:aa)(o:List U):Prop where
 a:dT s o
 nd:o.Nodup
 len:o.length<=400
 qd:o.Pairwise s.lt
def D4(s:aa)(rc:D)(gs:List D):Prop:=gs=[]/\∃l,rc=.o (.al l)/\∃(o:List U)(ok:Bool),l=[ae U.d U.zero o,.bool ok]/\o.length<=500/\(ok=true->D5 s o)/\(ok=false->¬s.fits)
def Dz:List Nat:=[0,2,3,1,4,5,6,7,8,9,10]
def L1:Sl:=ah Tryz.types Tryz.f99 Dz []
theorem Vq:aC Tryz.prog Tryz.f99 Dz L1 1=true:=by decide +kernel
theorem YY(s:aa)(hs:di s):bK Tryz.prog 99 [aa.d s] [] (D4 s):=by
 have h0:=hs.n0;have h8:=hs.n8;have hf:=hs.f8;have hto:=hs.to;have no:¬s.fits->D4 s (.o (.al [ae U.d U.zero [],.bool false])) []:=fun hf=>⟨rfl,_,rfl,[],false,rfl,Nat.zero_le _,fun h=>by(cases h),fun _=>hf⟩
 refine jc .tree Tryz.func99 Vq ?_;unfold L1 ah Dz;simp only[go_sem];refine aE [] (fun(i:Nat)=>[(4,.o (ae U.d U.zero (iY i))),(5,.int .i64 i)]) (fun i=>(i:Int)<=s.nd) (fun i=>s.nd.toNat-i) 0 (by simp only[go_sem];rfl) h0 rfl ?_;intro i hi;simp only[go_sem];refine⟨fun h=>?_,fun h=>?_⟩
 ·rw[pF]
  exact⟨by omega,i+1,by omega,by omega,by rw[aL (n:=9) (by omega) (by decide),HN]⟩
 obtain rfl:i=s.nd.toNat:=by omega
 refine aE [7] (fun(p:Nat×List U)=>[(4,.o (ae U.d U.zero p.2)),(6,.int .i64 p.1)]) (fun p=>p.1<=p.2.length/\p.2.length<=400/\fL s p.2 p.1/\ju p.2 p.1 0) (fun p=>400-p.1) (0,iY s.nd.toNat) (by simp only[go_sem];rfl) ⟨Nat.zero_le _,by rw[pF];omega,HO hs,.zero⟩ rfl ?_;clear hi h;rintro⟨i,o⟩ ⟨hi,hl,hI,hN⟩;simp only at hi hl hI hN;simp only[go_sem];refine⟨fun h=>⟨h,h,fun h6=>?_,fun h6=>?_⟩,fun h=>?_⟩
 ·exact⟨(i+1,o),⟨h,hl,hI.ib (by omega),hN.mono (.inl (Nat.lt_succ_self _))⟩,by show 400-(i+1)<400-i;omega,by rw[aL h (by simp only[maxLen];omega)]⟩
 ·obtain⟨y,hy⟩:=hI.at' h
  have hp6:=(bP.1 hy).2.1;generalize hP:o.getD i U.zero=P at hy hp6 h6;have hP6:P.ed.length<6:=by simp at h6;omega
  refine aE [] (fun(p:Nat×List U)=>[(4,.o (ae U.d U.zero p.2)),(7,.int .i64 p.1)]) (fun p=>p.1<=s.fr.length/\o.length<=p.2.length/\p.2.length<=o.length+p.1/\fL s p.2 i/\ju p.2 i p.1/\p.2.getD i U.zero=P /\
   ∀e:Nat,e<p.1->s.aO P=some (s.fr.getD e 0)->(⟨P.st,P.ed++[(e:Int)]⟩:U)∈p.2) (fun p=>s.fr.length-p.1) (0,o) (by simp only[go_sem];rfl) ⟨Nat.zero_le _,Nat.le_refl _,Nat.le_refl _,hI,hN,hP,fun e he=>absurd he (Nat.not_lt_zero _)⟩ rfl ?_
  rintro⟨k,q⟩ ⟨hk,hq1,hq2,hqI,hqN,hqP,hqc⟩;simp only at hk hq1 hq2 hqI hqN hqP hqc;simp only[go_sem];rw[hqP];refine⟨fun h2=>⟨h2,by omega,by omega,an (pZ s P y hto hy) rfl (.inl rfl) ?_⟩,fun h2=>?_⟩
  ·simp only[go_sem]
   refine⟨fun hfk=>?_,fun hfk=>⟨(k+1,q),⟨h2,hq1,by show q.length<=o.length+(k+1);omega,hqI,hqN.mono (.inr ⟨rfl,Nat.le_succ k⟩),hqP,fun e he hE=>?_⟩,by show s.fr.length-(k+1)<s.fr.length-k;omega,by rw[aL h2 (by simp only[maxLen];omega)]⟩⟩
   ·rw[hqP]
    have hE:=o5 (p:=P) (e:=k) (by rw[hfk];exact hy) h2 hP6;have hadd:=hqI.add (by omega) hE;have hadN:=hqN.add (k:=k) (show i<q.length by omega);rw[hqP] at hadN;have hget:(q++[(⟨P.st,P.ed++[(k:Int)]⟩:U)]).getD i U.zero=P:=by rw[gL (by omega),if_neg (by omega),hqP]
    have hcc:∀e:Nat,e<k+1->s.aO P=some (s.fr.getD e 0)->(⟨P.st,P.ed++[(e:Int)]⟩:U)∈q++[(⟨P.st,P.ed++[(k:Int)]⟩:U)]:=fun e he hE=>by
     by_cases hek:e=k
     ·subst hek;simp
     ·exact List.mem_append_left _ (hqc e (by omega) hE)
    have hlen:(q++[(⟨P.st,P.ed++[(k:Int)]⟩:U)]).length=q.length+1:=by rw[List.length_append];rfl
    have hw:=aL h2 (show s.fr.length<=maxLen by simp only[maxLen];omega)
    with_reducible (repeat' apply And.intro)
    all_goals(try(show i<q.length;omega))
    all_goals(
     refine an (jf P.ed (by omega)) rfl (.inl (bT _)) ?_;simp only[go_sem,hqP]
     with_reducible (repeat' apply And.intro)
     all_goals(first
      | exact⟨(k+1,_),⟨h2,by rw[hlen];omega,by rw[hlen];simp only;omega,hadd,hadN,hget,hcc⟩,by simp only;omega,by rw[hw]⟩
      | omega))
   ·by_cases hek:e=k
    ·subst hek
     rw[hy] at hE;injection hE with hE
     simp[hE] at hfk
    ·exact hqc e (by simp only at he;omega) hE
  ·refine⟨fun h3=>⟨_,_,no (HR hqN.nd hqI.v (by omega)),rfl,rfl,trivial⟩,fun h3=>⟨(i+1,q),⟨by show i+1<=q.length;omega,by show q.length<=400;omega,hqI.next fun e he hE=>?_,hqN.mono (.inl (Nat.lt_succ_self _))⟩,by show 400-(i+1)<400-i;omega,by rw[aL h (by simp only[maxLen];omega)]⟩⟩
   rw[hqP] at hE|-
   exact hqc e (by omega) hE
 have hA:=hI.done (by omega);have hnd:=hN.nd;refine aE [9,10] (fun(p:Nat×List U)=>[(4,.o (ae U.d U.zero p.2)),(8,.int .i64 p.1)]) (fun p=>p.2.Perm o/\p.1<=max 1 o.length/\∀a b,a<b->b<p.1->b<o.length->¬s.lt (p.2.getD b U.zero) (p.2.getD a U.zero)) (fun p=>max 1 o.length-p.1) (1,o) (by simp only[go_sem];rfl) ⟨.refl _,by simp only;omega,fun a b h1 h2=>by simp only at h2;omega⟩ rfl ?_;rintro⟨j,q⟩ ⟨hp,hj,hso⟩;simp only at hp hj hso;have hql:=hp.length_eq;simp only[go_sem];refine⟨fun h2=>?_,fun h2=>⟨_,_,⟨rfl,_,rfl,q,true,rfl,by omega,fun _=>⟨hA.perm hp,hp.nodup_iff.2 hnd,by omega,MG (hp.nodup_iff.2 hnd) (List.pairwise_iff_getElem.2 fun a b ha hb hab=>?_)⟩,fun h=>by cases h⟩,rfl,rfl,trivial⟩⟩
 rotate_left
 ·have:=hso a b hab (by omega) (by omega)
  rwa [aN ha,aN hb] at this
 refine aE [10] (fun(p:Nat×List U)=>[(4,.o (ae U.d U.zero p.2)),(9,.int .i64 p.1)]) (fun p=>p.2.Perm o/\p.1<=j/\∀a b,a<b->b<=j->b≠p.1->¬s.lt (p.2.getD b U.zero) (p.2.getD a U.zero)) (fun p=>p.1) (j,q) (by simp only[go_sem];rfl) ⟨hp,Nat.le_refl _,fun a b h1 h2 h3=>hso a b h1 (by simp only at h3;omega) (by omega)⟩ rfl ?_;rintro⟨k,r⟩ ⟨hp2,hk,hsr⟩;simp only at hp2 hk hsr;have hrl:=hp2.length_eq;have hrA:=hA.perm hp2;simp only[go_sem];have wk : 0<(k:Int)->IntKind.i64.wrap ((k:Int)-1)=((k-1:Nat):Int):=fun h=>by rw[wrap_small (by omega) (by omega)];omega
 refine⟨fun h3=>⟨h3,by omega⟩,fun h3=>⟨h3,by omega⟩,fun h3=>⟨h3,by rw[wk h3];omega⟩,fun h3=>⟨h3,by rw[wk h3];omega⟩,?_⟩
 have hE:∀{m:Nat},m<r.length->s.aO (r.getD m U.zero)=some (s.en (r.getD m U.zero)):=fun hm=>by
  obtain⟨y,hy⟩:=hrA.at' hm;unfold aa.en;rw[hy];rfl
 refine bu (fun h3=>YV s (r.getD k U.zero) (r.getD (IntKind.i64.wrap ((k:Int)-1)).toNat U.zero) _ _ hto (hE (by omega)) (hE (by
  have h3 : 0<(k:Int):=by simpa using h3
  rw[wk h3,Int.toNat_natCast];omega))) rfl (fun h=>h) (.inl rfl) ?_
 simp only[go_sem]
 have hlx : 0<k->(lexB (fC (r.getD k U.zero) (s.en (r.getD k U.zero))) (fC (r.getD (IntKind.i64.wrap ((k:Int)-1)).toNat U.zero) (s.en (r.getD (IntKind.i64.wrap ((k:Int)-1)).toNat U.zero)))=true↔s.lt (r.getD k U.zero) (r.getD (k-1) U.zero)):=fun h=>by
  rw[wk (by omega),Int.toNat_natCast];rfl
 generalize lexB _ _=lx at hlx;refine⟨fun h3=>?_,fun h3=>⟨(j+1,r),⟨hp2,by simp only;omega,fun a b h4 h5 h6=>?_⟩,by simp only;omega,by rw[aL h2 (by simp only[maxLen];omega)]⟩⟩
 rotate_left
 ·simp only at h5
  by_cases hbk:b=k
  ·subst hbk
   have hk0 : 0<b:=by omega
   have hn:¬s.lt (r.getD b U.zero) (r.getD (b-1) U.zero):=fun hl=>by
    rw[(hlx hk0).2 hl] at h3;simp at h3;omega
   by_cases hab:a=b-1
   ·rw[hab];exact hn
   ·exact R2 (hsr a (b-1) (by omega) (by omega) (by omega)) hn
  ·exact hsr a b h4 (by omega) hbk
 simp only[Bool.and_eq_true,decide_eq_true_eq] at h3;obtain⟨hk0,hlt⟩:=h3;have hlt:=(hlx (by omega)).1 hlt;have hk1:k-1≠k:=by omega
 have hkr:k<r.length:=by omega
 have hk2:k-1<r.length:=by omega
 simp only[wk hk0,Int.toNat_natCast,List.length_set,List.length_map,Gl,yL hk1,IW,hkr,hk2];simp only[go_sem,wk hk0,Int.toNat_natCast,List.length_set,List.length_map,Gl,yL hk1,yL (Ne.symm hk1),IW,hkr,hk2];refine⟨(k-1,oI r k),⟨(aaz hkr).trans hp2,by simp only;omega,fun a b h4 h5 h6=>aay (by omega) hkr hlt hsr a b h4 h5 h6⟩,by simp only;omega,?_⟩;rw[aax (Ne.symm hk1)];unfold oI;simp only[ae,List.map_set];rfl
end Go.D3
namespace Go.D3
open Go Proofs
set_option maxHeartbeats 4000000
set_option maxRecDepth 100000
theorem Hf{m st:Int}{A B:List Int}{a b c:Nat}(h:(m != st || !(A == B) || decide (6<IntKind.i64.wrap (IntKind.i64.wrap ((a:Int)-b)+c)))=true)(h1:b<=a)(h2:a<=6/\c<=6):¬(m=st/\A=B/\a-b+c<=6):=fun⟨e1,e2,e3⟩=>by
 simp only[Bool.or_eq_true,bne_iff_ne,Bool.not_eq_true',beq_eq_false_iff_ne,decide_eq_true_eq] at h;rcases h with(h | h) | h
 ·exact h e1
 ·exact h e2
 ·rw[wrap_small (n:=(a:Int)-b) (by omega) (by omega),wrap_small (by omega) (by omega)] at h;omega
def Ng(s:aa)(list:List U)(rc:D)(gs:List D):Prop:=gs=[]/\∃P,rc=.o (aF P)/\P.length<=30000/\eI s list P list.length 0 0
def Du:List Nat:=[0,1,4,2,5,6,7,8,9,10,11,12,13]
def LW:Sl:=ah Tryz.types Tryz.f101 Du []
theorem Vl:aC Tryz.prog Tryz.f101 Du LW 2=true:=by decide +kernel
theorem YW(s:aa)(list:List U)(h:s.ok=true)(hA:dT s list)(hl:list.length<=500):bK Tryz.prog 101 [aa.d s,ae U.d U.zero list] [] (Ng s list):=by
 obtain⟨hk1,hlf,hrt⟩:=fj h;have hs:=gw hk1;have hto:=hs.to
 have h6:∀{i},i<list.length->(list.getD i U.zero).ed.length<=6:=fun hi=>by
  obtain⟨y,hy⟩:=hA.at' hi;exact(bP.1 hy).2.1
 refine jc .tree Tryz.func101 Vl ?_;unfold LW ah Du;simp only[go_sem];refine aE [6,7,8,9,10,11,12] (fun(p:Nat×List (List Int))=>[(4,.o (aF p.2)),(5,.int .i64 p.1)]) (fun p=>p.1<=list.length/\p.2.length<=p.1*56/\eI s list p.2 p.1 0 0) (fun p=>list.length-p.1) (0,[]) (by simp only[go_sem];rfl) ⟨Nat.zero_le _,Nat.le_refl _,.zero⟩ rfl ?_;rintro⟨w,P⟩ ⟨hw,hPl,hP⟩;simp only at hw hPl hP;simp only[go_sem];refine⟨fun hwl=>⟨hwl,?_⟩,fun hwl=>⟨_,_,⟨rfl,P,rfl,by omega,by rw[show w=list.length by omega] at hP;exact hP⟩,rfl,rfl,trivial⟩⟩;obtain⟨y,hy⟩:=hA.at' hwl;have hw6:=h6 hwl;generalize hW:list.getD w U.zero=W at hy hw6;refine aE [8,9,10,11,12] (fun(p:Nat×List (List Int))=>[(4,.o (aF p.2)),(7,.int .i64 p.1)]) (fun p=>p.1<=s.lf.length/\p.2.length<=w*56+p.1*7/\eI s list p.2 w p.1 0) (fun p=>s.lf.length-p.1) (0,P) (by simp only[go_sem];rfl) ⟨Nat.zero_le _,by simp only;omega,hP⟩ rfl ?_;rintro⟨i,P1⟩ ⟨hi,hPl1,hP1⟩;simp only at hi hPl1 hP1;simp only[go_sem];refine⟨fun hil=>?_,fun hil=>⟨(w+1,P1),⟨hwl,by simp only;omega,hP1.zt (by omega)⟩,by simp only;omega,by rw[aL hwl (by simp only[maxLen];omega)]⟩⟩;obtain⟨z,hp,hq,aM⟩:=ok_eq h hil;have hp6:=(bP.1 hp).2.1;have hq6:=(bP.1 hq).2.1;have hp0:=(bP.1 hp).1;generalize hLp:s.lf.getD i U.zero=p at hp aM hp6 hp0;generalize hRq:s.rt.getD i U.zero=q at hq aM hq6;refine⟨hil,by omega,?_⟩;refine aE [11,12] (fun(p:Nat×List (List Int))=>[(4,.o (aF p.2)),(10,.int .i64 p.1)]) (fun p=>p.1<=7/\p.2.length<=w*56+i*7+p.1/\eI s list p.2 w i p.1) (fun p=>7-p.1) (0,P1) (by simp only[go_sem];rfl) ⟨Nat.zero_le _,by simp only;omega,hP1⟩ rfl ?_;rintro⟨at',P2⟩ ⟨hat,hPl2,hP2⟩;simp only at hat hPl2 hP2;simp only[go_sem];have hwr:IntKind.i64.wrap ((at':Int)+(p.ed.length:Int))=((at'+p.ed.length:Nat):Int):=by rw[wrap_small (by omega) (by omega)];omega
 simp only[hwr,Int.toNat_natCast]
 have hsk:∀m,bw s.fr s.to W.st (W.ed.take at')=some m->¬(m=p.st/\(W.ed.take (at'+p.ed.length)).drop at'=p.ed/\W.ed.length-p.ed.length+q.ed.length<=6)->eI s list P2 w i (at'+1):=fun m hm hn=>hP2.skip fun q' hl=>by
  unfold aa.gk at hl;rw[hW,hLp,hRq] at hl;obtain⟨_,_,g1,g2,g3,_⟩:=hl;rw[hm] at g1;injection g1 with g1
  exact hn ⟨g1,g2,g3⟩
 refine⟨fun hc=>⟨hwl,fun h0=>?_,fun h0=>?_⟩,fun hc=>⟨(i+1,P2),⟨by simp only;omega,by simp only;omega,hP2.zr (by rw[hW,hLp];omega)⟩,by simp only;omega,by rw[aL hil (by simp only[maxLen];omega)]⟩⟩
 ·have hm:=qN hy (i:=at') (by omega)
  rw[if_neg (by omega)] at hm;have hr:=(qT (bP.1 hy).2.2).2 (at'-1) (by omega);rw[show IntKind.i64.wrap ((at':Int)-1)=((at'-1:Nat):Int) by rw[wrap_small (by omega) (by omega)];omega,Int.toNat_natCast];refine⟨by omega,by omega,?_⟩;generalize s.to.getD (W.ed.getD (at'-1) 0).toNat 0=m at hm
  try rw[hW]
  refine⟨fun h1=>⟨h1,by omega,hc⟩,bu (fun _=>AR _ _ (by rw[List.length_drop,List.length_take];omega)) rfl (fun h=>h) (.inl rfl) ?_⟩;simp only[go_sem];refine⟨fun h1=>by rw[h1];rfl,fun h1=>?_,fun h1=>⟨(at'+1,P2),⟨by simp only;omega,by simp only;omega,hsk m hm (Hf h1 (by omega) (by omega))⟩,by simp only;omega,by rw[aL (n:=9) (by omega) (by decide)]⟩,fun h1=>?_⟩
  ·revert h1
   generalize(m != p.st)=b1;generalize((W.ed.take (at'+p.ed.length)).drop at' == p.ed)=b2;cases b1<;>cases b2<;>simp
  ·simp only[Bool.or_eq_false_iff,bne_eq_false_iff_eq,Bool.not_eq_false',beq_iff_eq,decide_eq_false_iff_not] at h1
   obtain⟨⟨e1,e2⟩,e3⟩:=h1;rw[wrap_small (n:=(W.ed.length:Int)-p.ed.length) (by omega) (by omega),wrap_small (by omega) (by omega)] at e3;have hsw:=u6 hy hp hq aM (by omega) hm e1 e2 (by omega);obtain⟨j,hj1,hj2,hj3⟩:=tu (hA.a _ _ hsw);have hadd:=hP2.add hwl hj2 (by unfold aa.gk;rw[hW,hj3,hLp,hRq];exact⟨hil,by omega,by rw[hm,e1],e2,by omega,rfl⟩);have hlen:(P2++[[(w:Int),(j:Int)]]).length<=w*56+i*7+(at'+1):=by rw[List.length_append,List.length_singleton];omega
   have htl:(W.ed.take at').length<=6:=by rw[List.length_take];omega
   with_reducible (repeat' apply And.intro)
   all_goals(try omega)
   all_goals(
    refine an (jf (W.ed.take at') (by omega)) rfl (.inl (bT _)) ?_;simp only[go_sem];simp only[hwr,Int.toNat_natCast,List.take_length,hW,List.length_map]
    with_reducible (repeat' apply And.intro)
    all_goals(first
     | exact p6 _
     | omega
     | (simp only[List.length_append,List.length_take,List.length_drop];omega)
     | (refine an (tN list W.st _ (by omega) fun i hi=>Nat.le_trans (h6 hi) (by decide)) rfl (.inl rfl) ?_
        simp only[go_sem,hj1]
        exact⟨by omega,(at'+1,_),⟨by simp only;omega,hlen,hadd⟩,by simp only;omega,by rw[aL (n:=9) (by omega) (by decide)]⟩)))
 ·have hm:=qN hy (i:=at') (by omega)
  rw[if_pos (by omega)] at hm;rw[hW];obtain⟨m,hme⟩:∃m,m=W.st:=⟨_,rfl⟩;rw[<-hme];have hm:bw s.fr s.to W.st (W.ed.take at')=some m:=by rw[hm,hme]
  refine⟨fun h1=>⟨h1,by omega,hc⟩,bu (fun _=>AR _ _ (by rw[List.length_drop,List.length_take];omega)) rfl (fun h=>h) (.inl rfl) ?_⟩;simp only[go_sem];refine⟨fun h1=>by rw[h1];rfl,fun h1=>?_,fun h1=>⟨(at'+1,P2),⟨by simp only;omega,by simp only;omega,hsk m hm (Hf h1 (by omega) (by omega))⟩,by simp only;omega,by rw[aL (n:=9) (by omega) (by decide)]⟩,fun h1=>?_⟩
  ·revert h1
   generalize(m != p.st)=b1;generalize((W.ed.take (at'+p.ed.length)).drop at' == p.ed)=b2;cases b1<;>cases b2<;>simp
  ·simp only[Bool.or_eq_false_iff,bne_eq_false_iff_eq,Bool.not_eq_false',beq_iff_eq,decide_eq_false_iff_not] at h1
   obtain⟨⟨e1,e2⟩,e3⟩:=h1;rw[wrap_small (n:=(W.ed.length:Int)-p.ed.length) (by omega) (by omega),wrap_small (by omega) (by omega)] at e3;have hsw:=u6 hy hp hq aM (by omega) hm e1 e2 (by omega);obtain⟨j,hj1,hj2,hj3⟩:=tu (hA.a _ _ hsw);have hadd:=hP2.add hwl hj2 (by unfold aa.gk;rw[hW,hj3,hLp,hRq];exact⟨hil,by omega,by rw[hm,e1],e2,by omega,rfl⟩);have hlen:(P2++[[(w:Int),(j:Int)]]).length<=w*56+i*7+(at'+1):=by rw[List.length_append,List.length_singleton];omega
   have htl:(W.ed.take at').length<=6:=by rw[List.length_take];omega
   with_reducible (repeat' apply And.intro)
   all_goals(try omega)
   all_goals(
    refine an (jf (W.ed.take at') (by omega)) rfl (.inl (bT _)) ?_;simp only[go_sem];simp only[hwr,Int.toNat_natCast,List.take_length,hW,List.length_map]
    with_reducible (repeat' apply And.intro)
    all_goals(first
     | exact p6 _
     | omega
     | (simp only[List.length_append,List.length_take,List.length_drop];omega)
     | (refine an (tN list W.st _ (by omega) fun i hi=>Nat.le_trans (h6 hi) (by decide)) rfl (.inl rfl) ?_
        simp only[go_sem,hj1]
        exact⟨by omega,(at'+1,_),⟨by simp only;omega,hlen,hadd⟩,by simp only;omega,by rw[aL (n:=9) (by omega) (by decide)]⟩)))
end Go.D3
