/- CONTRACTS: all short paths in order, the reference's side. -/
import Derived.Test.YtaknpcdnmecblaaGreatDoorGAB
namespace Go.D3
open Go Proofs
set_option maxHeartbeats 4000000
set_option maxRecDepth 100000
theorem vN{L:List D}{k:Nat}{x z:D}(hk:k<L.length):(L.set k x).getD k z=x:=by
 rw[List.getD_eq_getElem?_getD,List.getElem?_set_self hk];rfl
theorem rB{L:List D}{k j:Nat}{x z:D}(I:j≠k):(L.set k x).getD j z=L.getD j z:=by
 rw[List.getD_eq_getElem?_getD,List.getElem?_set_ne (Ne.symm I),List.getD_eq_getElem?_getD]
theorem IL{r:List U}{j:Nat}:(r.map U.d).getD j (D.agg [D.int .i64 U.zero.st,ints U.zero.ed])=D.agg [D.int .i64 (r.getD j U.zero).st,ints (r.getD j U.zero).ed]:=getD_map' _ _ _ _
theorem aaN{m:List D}{i j:Nat}{a b c A d B:D}(h:i≠j):(((((m.set i a).set j b).set i c).set i A).set j d).set j B=(m.set i A).set j B:=by
 rw[List.set_set,List.set_set,List.set_comm b A (Ne.symm h),List.set_set,List.set_set]
structure Eo(s:aa)(o:List U):Prop where
 a:dQ s o
 nd:o.Nodup
 len:o.length<=400
 qI:o.Pairwise s.lt
def En(s:aa)(rc:D)(gs:List D):Prop:=gs=[]/\∃l,rc=.o (.av l)/\∃(o:List U)(ok:Bool),l=[ae U.d U.zero o,.bool ok]/\o.length<=500/\(ok=true->Eo s o)/\(ok=false->¬s.fits)
def D5:List Nat:=[0,2,3,1,4,5,6,7,8,9,10]
def Md:Sl:=ah Tryz.types Tryz.f104 D5 []
theorem VL:aE Tryz.prog Tryz.f104 D5 Md 1=true:=by decide +kernel
theorem Zh(s:aa)(hs:iM s):bn Tryz.prog 104 [aa.d s] [] (En s):=by
 have h0:=hs.n0;have h8:=hs.n8;have hf:=hs.f8;have cc:=hs.to;have no:¬s.fits->En s (.o (.av [ae U.d U.zero [],.bool false])) []:=fun hf=>⟨rfl,_,rfl,[],false,rfl,Nat.zero_le _,fun h=>by(cases h),fun _=>hf⟩
 refine dB .tree Tryz.func104 VL ?_;unfold Md ah D5;simp only[go_sem];refine au [] (fun(i:Nat)=>[(4,.o (ae U.d U.zero (jm i))),(5,.int .i64 i)]) (fun i=>(i:Int)<=s.nd) (fun i=>s.nd.toNat-i) 0 (by simp only[go_sem];rfl) h0 rfl ?_;intro i hi;simp only[go_sem];refine⟨fun h=>?_,fun h=>?_⟩
 ·rw[p8]
  exact⟨by omega,i+1,by omega,by omega,by rw[aw (n:=9) (by omega) (by decide),HO]⟩
 obtain rfl:i=s.nd.toNat:=by omega
 refine au [7] (fun(p:Nat×List U)=>[(4,.o (ae U.d U.zero p.2)),(6,.int .i64 p.1)]) (fun p=>p.1<=p.2.length/\p.2.length<=400/\fO s p.2 p.1/\jE p.2 p.1 0) (fun p=>400-p.1) (0,jm s.nd.toNat) (by simp only[go_sem];rfl) ⟨Nat.zero_le _,by rw[p8];omega,HP hs,.zero⟩ rfl ?_;clear hi h;rintro⟨i,o⟩ ⟨hi,hl,hI,hN⟩;simp only at hi hl hI hN;simp only[go_sem];refine⟨fun h=>⟨h,h,fun h6=>?_,fun h6=>?_⟩,fun h=>?_⟩
 ·exact⟨(i+1,o),⟨h,hl,hI.iD (by omega),hN.mono (.inl (Nat.lt_succ_self _))⟩,by show 400-(i+1)<400-i;omega,by rw[aw h (by simp only[maxLen];omega)]⟩
 ·obtain⟨y,hy⟩:=hI.at' h
  have cj:=(bN.1 hy).2.1;generalize hP:o.getD i U.zero=P at hy cj h6;have cd:P.ed.length<6:=by simp at h6;omega
  refine au [] (fun(p:Nat×List U)=>[(4,.o (ae U.d U.zero p.2)),(7,.int .i64 p.1)]) (fun p=>p.1<=s.fr.length/\o.length<=p.2.length/\p.2.length<=o.length+p.1/\fO s p.2 i/\jE p.2 i p.1/\p.2.getD i U.zero=P /\
   ∀e:Nat,e<p.1->s.aO P=some (s.fr.getD e 0)->(⟨P.st,P.ed++[(e:Int)]⟩:U)∈p.2) (fun p=>s.fr.length-p.1) (0,o) (by simp only[go_sem];rfl) ⟨Nat.zero_le _,Nat.le_refl _,Nat.le_refl _,hI,hN,hP,fun e he=>absurd he (Nat.not_lt_zero _)⟩ rfl ?_
  rintro⟨k,q⟩ ⟨hk,b9,cm,Z,ab,S,ax⟩;simp only at hk b9 cm Z ab S ax;simp only[go_sem];rw[S];refine⟨fun W=>⟨W,by omega,by omega,aj (qw s P y cc hy) rfl (.inl rfl) ?_⟩,fun W=>?_⟩
  ·simp only[go_sem]
   refine⟨fun bg=>?_,fun bg=>⟨(k+1,q),⟨W,b9,by show q.length<=o.length+(k+1);omega,Z,ab.mono (.inr ⟨rfl,Nat.le_succ k⟩),S,fun e he V=>?_⟩,by show s.fr.length-(k+1)<s.fr.length-k;omega,by rw[aw W (by simp only[maxLen];omega)]⟩⟩
   ·rw[S]
    have V:=pB (p:=P) (e:=k) (by rw[bg];exact hy) W cd;have b1:=Z.add (by omega) V;have a6:=ab.add (k:=k) (show i<q.length by omega);rw[S] at a6;have b3:(q++[(⟨P.st,P.ed++[(k:Int)]⟩:U)]).getD i U.zero=P:=by rw[ee (by omega),if_neg (by omega),S]
    have cg:∀e:Nat,e<k+1->s.aO P=some (s.fr.getD e 0)->(⟨P.st,P.ed++[(e:Int)]⟩:U)∈q++[(⟨P.st,P.ed++[(k:Int)]⟩:U)]:=fun e he V=>by
     by_cases a8:e=k
     ·subst a8;simp
     ·exact List.mem_append_left _ (ax e (by omega) V)
    have hlen:(q++[(⟨P.st,P.ed++[(k:Int)]⟩:U)]).length=q.length+1:=by rw[List.length_append];rfl
    have hw:=aw W (show s.fr.length<=maxLen by simp only[maxLen];omega)
    with_reducible (repeat' apply And.intro)
    all_goals(try(show i<q.length;omega))
    all_goals(
     refine aj (eE P.ed (by omega)) rfl (.inl (bJ _)) ?_;simp only[go_sem,S]
     with_reducible (repeat' apply And.intro)
     all_goals(first
      | exact⟨(k+1,_),⟨W,by rw[hlen];omega,by rw[hlen];simp only;omega,b1,a6,b3,cg⟩,by simp only;omega,by rw[hw]⟩
      | omega))
   ·by_cases a8:e=k
    ·subst a8
     rw[hy] at V;injection V with V
     simp[V] at bg
    ·exact ax e (by simp only at he;omega) V
  ·refine⟨fun I=>⟨_,_,no (HR ab.nd Z.v (by omega)),rfl,rfl,trivial⟩,fun I=>⟨(i+1,q),⟨by show i+1<=q.length;omega,by show q.length<=400;omega,Z.next fun e he V=>?_,ab.mono (.inl (Nat.lt_succ_self _))⟩,by show 400-(i+1)<400-i;omega,by rw[aw h (by simp only[maxLen];omega)]⟩⟩
   rw[S] at V|-
   exact ax e (by omega) V
 have hA:=hI.done (by omega);have b5:=hN.nd;refine au [9,10] (fun(p:Nat×List U)=>[(4,.o (ae U.d U.zero p.2)),(8,.int .i64 p.1)]) (fun p=>p.2.Perm o/\p.1<=max 1 o.length/\∀a b,a<b->b<p.1->b<o.length->¬s.lt (p.2.getD b U.zero) (p.2.getD a U.zero)) (fun p=>max 1 o.length-p.1) (1,o) (by simp only[go_sem];rfl) ⟨.refl _,by simp only;omega,fun a b h1 W=>by simp only at W;omega⟩ rfl ?_;rintro⟨j,q⟩ ⟨hp,hj,b0⟩;simp only at hp hj b0;have cq:=hp.length_eq;simp only[go_sem];refine⟨fun W=>?_,fun W=>⟨_,_,⟨rfl,_,rfl,q,true,rfl,by omega,fun _=>⟨hA.perm hp,hp.nodup_iff.2 b5,by omega,MP (hp.nodup_iff.2 b5) (List.pairwise_iff_getElem.2 fun a b ha hb a7=>?_)⟩,fun h=>by cases h⟩,rfl,rfl,trivial⟩⟩
 rotate_left
 ·have:=b0 a b a7 (by omega) (by omega)
  rwa [aM ha,aM hb] at this
 refine au [10] (fun(p:Nat×List U)=>[(4,.o (ae U.d U.zero p.2)),(9,.int .i64 p.1)]) (fun p=>p.2.Perm o/\p.1<=j/\∀a b,a<b->b<=j->b≠p.1->¬s.lt (p.2.getD b U.zero) (p.2.getD a U.zero)) (fun p=>p.1) (j,q) (by simp only[go_sem];rfl) ⟨hp,Nat.le_refl _,fun a b h1 W I=>b0 a b h1 (by simp only at I;omega) (by omega)⟩ rfl ?_;rintro⟨k,r⟩ ⟨Y,hk,a1⟩;simp only at Y hk a1;have cr:=Y.length_eq;have cp:=hA.perm Y;simp only[go_sem];have wk : 0<(k:Int)->IntKind.i64.wrap ((k:Int)-1)=((k-1:Nat):Int):=fun h=>by rw[wrap_small (by omega) (by omega)];omega
 refine⟨fun I=>⟨I,by omega⟩,fun I=>⟨I,by omega⟩,fun I=>⟨I,by rw[wk I];omega⟩,fun I=>⟨I,by rw[wk I];omega⟩,?_⟩
 have V:∀{m:Nat},m<r.length->s.aO (r.getD m U.zero)=some (s.en (r.getD m U.zero)):=fun hm=>by
  obtain⟨y,hy⟩:=cp.at' hm;unfold aa.en;rw[hy];rfl
 refine bf (fun I=>Zd s (r.getD k U.zero) (r.getD (IntKind.i64.wrap ((k:Int)-1)).toNat U.zero) _ _ cc (V (by omega)) (V (by
  have I : 0<(k:Int):=by simpa using I
  rw[wk I,Int.toNat_natCast];omega))) rfl (fun h=>h) (.inl rfl) ?_
 simp only[go_sem]
 have bT : 0<k->(lexB (fH (r.getD k U.zero) (s.en (r.getD k U.zero))) (fH (r.getD (IntKind.i64.wrap ((k:Int)-1)).toNat U.zero) (s.en (r.getD (IntKind.i64.wrap ((k:Int)-1)).toNat U.zero)))=true↔s.lt (r.getD k U.zero) (r.getD (k-1) U.zero)):=fun h=>by
  rw[wk (by omega),Int.toNat_natCast];rfl
 generalize lexB _ _=lx at bT;refine⟨fun I=>?_,fun I=>⟨(j+1,r),⟨Y,by simp only;omega,fun a b h4 h5 h6=>?_⟩,by simp only;omega,by rw[aw W (by simp only[maxLen];omega)]⟩⟩
 rotate_left
 ·simp only at h5
  by_cases b2:b=k
  ·subst b2
   have ad : 0<b:=by omega
   have hn:¬s.lt (r.getD b U.zero) (r.getD (b-1) U.zero):=fun hl=>by
    rw[(bT ad).2 hl] at I;simp at I;omega
   by_cases a7:a=b-1
   ·rw[a7];exact hn
   ·exact Sw (a1 a (b-1) (by omega) (by omega) (by omega)) hn
  ·exact a1 a b h4 (by omega) b2
 simp only[Bool.and_eq_true,decide_eq_true_eq] at I;obtain⟨ad,bF⟩:=I;have bF:=(bT (by omega)).1 bF;have ag:k-1≠k:=by omega
 have ao:k<r.length:=by omega
 have b4:k-1<r.length:=by omega
 simp only[wk ad,Int.toNat_natCast,List.length_set,List.length_map,vN,rB ag,IL,ao,b4];simp only[go_sem,wk ad,Int.toNat_natCast,List.length_set,List.length_map,vN,rB ag,rB (Ne.symm ag),IL,ao,b4];refine⟨(k-1,o9 r k),⟨(aaP ao).trans Y,by simp only;omega,fun a b h4 h5 h6=>aaO (by omega) ao bF a1 a b h4 h5 h6⟩,by simp only;omega,?_⟩;rw[aaN (Ne.symm ag)];unfold o9;simp only[ae,List.map_set];rfl
end Go.D3
