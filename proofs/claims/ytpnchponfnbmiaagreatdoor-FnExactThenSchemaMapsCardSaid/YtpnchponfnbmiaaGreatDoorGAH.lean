/- CONTRACTS: all short paths in order, the reference's side. -/
import Derived.Test.YtpnchponfnbmiaaGreatDoorGAG
namespace Go.D3
open Go
set_option maxHeartbeats 4000000
set_option maxRecDepth 100000
theorem DP{L:List D}{k:Nat}{x z:D}(hk:k<L.length):(L.set k x).getD k z=x:=by
 rw[List.getD_eq_getElem?_getD,List.getElem?_set_self hk];rfl
theorem wQ{L:List D}{k j:Nat}{x z:D}(hj:j≠k):(L.set k x).getD j z=L.getD j z:=by
 rw[List.getD_eq_getElem?_getD,List.getElem?_set_ne (Ne.symm hj),List.getD_eq_getElem?_getD]
theorem FX{r:List Pth}{j:Nat}:(r.map Pth.d).getD j (D.agg [D.int .i64 Pth.zero.st,ints Pth.zero.ed])=D.agg [D.int .i64 (r.getD j Pth.zero).st,ints (r.getD j Pth.zero).ed]:=getD_map' _ _ _ _
theorem Vk{m:List D}{i j:Nat}{a b c A d B:D}(h:i≠j):(((((m.set i a).set j b).set i c).set i A).set j d).set j B=(m.set i A).set j B:=by
 rw[List.set_set,List.set_set,List.set_comm b A (Ne.symm h),List.set_set,List.set_set]
structure BU(s:Sch)(o:List Pth):Prop where
 a:di s o
 nd:o.Nodup
 len:o.length<=400
 oH:o.Pairwise s.lt
def BT(s:Sch)(rc:D)(gs:List D):Prop:=gs=[]/\∃l,rc=.o (.ah l)/\∃(o:List Pth)(ok:Bool),l=[U Pth.d Pth.zero o,.bool ok]/\o.length<=500/\(ok=true->BU s o)/\(ok=false->¬s.fits)
def By:List Nat:=[0,2,3,1,4,5,6,7,8,9,10]
def I7:Sl:=ae Go.Proofs.Tryz.types Go.Proofs.Tryz.f99 By []
theorem QY:aD Go.Proofs.Tryz.prog Go.Proofs.Tryz.f99 By I7 1=true:=by decide +kernel
theorem TU(s:Sch)(hs:gD s):bY Go.Proofs.Tryz.prog 99 [Sch.d s] [] (BT s):=by
 have h0:=hs.n0;have h8:=hs.n8;have hf:=hs.f8;have hto:=hs.to;have no:¬s.fits->BT s (.o (.ah [U Pth.d Pth.zero [],.bool false])) []:=fun hf=>⟨rfl,_,rfl,[],false,rfl,Nat.zero_le _,fun h=>by(cases h),fun _=>hf⟩
 refine oi .tree Go.Proofs.Tryz.func99 QY ?_;unfold I7 ae By;simp only[go_sem];refine aJ [] (fun(i:Nat)=>[(4,.o (U Pth.d Pth.zero (im i))),(5,.int .i64 i)]) (fun i=>(i:Int)<=s.nd) (fun i=>s.nd.toNat-i) 0 (by simp only[go_sem];rfl) h0 rfl ?_;intro i hi;simp only[go_sem];refine⟨fun h=>?_,fun h=>?_⟩
 ·rw[nV]
  exact⟨by omega,i+1,by omega,by omega,by rw[aH (n:=9) (by omega) (by decide),EW]⟩
 obtain rfl:i=s.nd.toNat:=by omega
 refine aJ [7] (fun(p:Nat×List Pth)=>[(4,.o (U Pth.d Pth.zero p.2)),(6,.int .i64 p.1)]) (fun p=>p.1<=p.2.length/\p.2.length<=400/\eU s p.2 p.1/\iF p.2 p.1 0) (fun p=>400-p.1) (0,im s.nd.toNat) (by simp only[go_sem];rfl) ⟨Nat.zero_le _,by rw[nV];omega,EX hs,.zero⟩ rfl ?_;clear hi h;rintro⟨i,o⟩ ⟨hi,hl,hI,hN⟩;simp only at hi hl hI hN;simp only[go_sem];refine⟨fun h=>⟨h,h,fun h6=>?_,fun h6=>?_⟩,fun h=>?_⟩
 ·exact⟨(i+1,o),⟨h,hl,hI.gz (by omega),hN.mono (.inl (Nat.lt_succ_self _))⟩,by show 400-(i+1)<400-i;omega,by rw[aH h (by simp only[maxLen];omega)]⟩
 ·obtain⟨y,hy⟩:=hI.at' h
  have hp6:=(bx.1 hy).2.1;generalize hP:o.getD i Pth.zero=P at hy hp6 h6;have hP6:P.ed.length<6:=by simp at h6;omega
  refine aJ [] (fun(p:Nat×List Pth)=>[(4,.o (U Pth.d Pth.zero p.2)),(7,.int .i64 p.1)]) (fun p=>p.1<=s.fr.length/\o.length<=p.2.length/\p.2.length<=o.length+p.1/\eU s p.2 i/\iF p.2 i p.1/\p.2.getD i Pth.zero=P /\
   ∀e:Nat,e<p.1->s.aB P=some (s.fr.getD e 0)->(⟨P.st,P.ed++[(e:Int)]⟩:Pth)∈p.2) (fun p=>s.fr.length-p.1) (0,o) (by simp only[go_sem];rfl) ⟨Nat.zero_le _,Nat.le_refl _,Nat.le_refl _,hI,hN,hP,fun e he=>absurd he (Nat.not_lt_zero _)⟩ rfl ?_
  rintro⟨k,q⟩ ⟨hk,hq1,hq2,hqI,hqN,hqP,hqc⟩;simp only at hk hq1 hq2 hqI hqN hqP hqc;simp only[go_sem];rw[hqP];refine⟨fun h2=>⟨h2,by omega,by omega,af (mM s P y hto hy) rfl (.inl rfl) ?_⟩,fun h2=>?_⟩
  ·simp only[go_sem]
   refine⟨fun hfk=>?_,fun hfk=>⟨(k+1,q),⟨h2,hq1,by show q.length<=o.length+(k+1);omega,hqI,hqN.mono (.inr ⟨rfl,Nat.le_succ k⟩),hqP,fun e he hE=>?_⟩,by show s.fr.length-(k+1)<s.fr.length-k;omega,by rw[aH h2 (by simp only[maxLen];omega)]⟩⟩
   ·rw[hqP]
    have hE:=nD (p:=P) (e:=k) (by rw[hfk];exact hy) h2 hP6;have hadd:=hqI.add (by omega) hE;have hadN:=hqN.add (k:=k) (show i<q.length by omega);rw[hqP] at hadN;have hget:(q++[(⟨P.st,P.ed++[(k:Int)]⟩:Pth)]).getD i Pth.zero=P:=by rw[fV (by omega),if_neg (by omega),hqP]
    have hcc:∀e:Nat,e<k+1->s.aB P=some (s.fr.getD e 0)->(⟨P.st,P.ed++[(e:Int)]⟩:Pth)∈q++[(⟨P.st,P.ed++[(k:Int)]⟩:Pth)]:=fun e he hE=>by
     by_cases hek:e=k
     ·subst hek;simp
     ·exact List.mem_append_left _ (hqc e (by omega) hE)
    have hlen:(q++[(⟨P.st,P.ed++[(k:Int)]⟩:Pth)]).length=q.length+1:=by rw[List.length_append];rfl
    have hw:=aH h2 (show s.fr.length<=maxLen by simp only[maxLen];omega)
    with_reducible (repeat' apply And.intro)
    all_goals(try(show i<q.length;omega))
    all_goals(
     refine af (gP P.ed (by omega)) rfl (.inl (bJ _)) ?_;simp only[go_sem,hqP]
     with_reducible (repeat' apply And.intro)
     all_goals(first
      | exact⟨(k+1,_),⟨h2,by rw[hlen];omega,by rw[hlen];simp only;omega,hadd,hadN,hget,hcc⟩,by simp only;omega,by rw[hw]⟩
      | omega))
   ·by_cases hek:e=k
    ·subst hek
     rw[hy] at hE;injection hE with hE
     simp[hE] at hfk
    ·exact hqc e (by simp only at he;omega) hE
  ·refine⟨fun h3=>⟨_,_,no (E0 hqN.nd hqI.v (by omega)),rfl,rfl,trivial⟩,fun h3=>⟨(i+1,q),⟨by show i+1<=q.length;omega,by show q.length<=400;omega,hqI.next fun e he hE=>?_,hqN.mono (.inl (Nat.lt_succ_self _))⟩,by show 400-(i+1)<400-i;omega,by rw[aH h (by simp only[maxLen];omega)]⟩⟩
   rw[hqP] at hE|-
   exact hqc e (by omega) hE
 have hA:=hI.done (by omega);have hnd:=hN.nd;refine aJ [9,10] (fun(p:Nat×List Pth)=>[(4,.o (U Pth.d Pth.zero p.2)),(8,.int .i64 p.1)]) (fun p=>p.2.Perm o/\p.1<=max 1 o.length/\∀a b,a<b->b<p.1->b<o.length->¬s.lt (p.2.getD b Pth.zero) (p.2.getD a Pth.zero)) (fun p=>max 1 o.length-p.1) (1,o) (by simp only[go_sem];rfl) ⟨.refl _,by simp only;omega,fun a b h1 h2=>by simp only at h2;omega⟩ rfl ?_;rintro⟨j,q⟩ ⟨hp,hj,hso⟩;simp only at hp hj hso;have hql:=hp.length_eq;simp only[go_sem];refine⟨fun h2=>?_,fun h2=>⟨_,_,⟨rfl,_,rfl,q,true,rfl,by omega,fun _=>⟨hA.perm hp,hp.nodup_iff.2 hnd,by omega,JF (hp.nodup_iff.2 hnd) (List.pairwise_iff_getElem.2 fun a b ha hb hab=>?_)⟩,fun h=>by cases h⟩,rfl,rfl,trivial⟩⟩
 rotate_left
 ·have:=hso a b hab (by omega) (by omega)
  rwa [aO ha,aO hb] at this
 refine aJ [10] (fun(p:Nat×List Pth)=>[(4,.o (U Pth.d Pth.zero p.2)),(9,.int .i64 p.1)]) (fun p=>p.2.Perm o/\p.1<=j/\∀a b,a<b->b<=j->b≠p.1->¬s.lt (p.2.getD b Pth.zero) (p.2.getD a Pth.zero)) (fun p=>p.1) (j,q) (by simp only[go_sem];rfl) ⟨hp,Nat.le_refl _,fun a b h1 h2 h3=>hso a b h1 (by simp only at h3;omega) (by omega)⟩ rfl ?_;rintro⟨k,r⟩ ⟨hp2,hk,hsr⟩;simp only at hp2 hk hsr;have hrl:=hp2.length_eq;have hrA:=hA.perm hp2;simp only[go_sem];have wk : 0<(k:Int)->IntKind.i64.wrap ((k:Int)-1)=((k-1:Nat):Int):=fun h=>by rw[wrap_small (by omega) (by omega)];omega
 refine⟨fun h3=>⟨h3,by omega⟩,fun h3=>⟨h3,by omega⟩,fun h3=>⟨h3,by rw[wk h3];omega⟩,fun h3=>⟨h3,by rw[wk h3];omega⟩,?_⟩
 have hE:∀{m:Nat},m<r.length->s.aB (r.getD m Pth.zero)=some (s.en (r.getD m Pth.zero)):=fun hm=>by
  obtain⟨y,hy⟩:=hrA.at' hm;unfold Sch.en;rw[hy];rfl
 refine bt (fun h3=>TS s (r.getD k Pth.zero) (r.getD (IntKind.i64.wrap ((k:Int)-1)).toNat Pth.zero) _ _ hto (hE (by omega)) (hE (by
  have h3 : 0<(k:Int):=by simpa using h3
  rw[wk h3,Int.toNat_natCast];omega))) rfl (fun h=>h) (.inl rfl) ?_
 simp only[go_sem]
 have hlx : 0<k->(lexB (eM (r.getD k Pth.zero) (s.en (r.getD k Pth.zero))) (eM (r.getD (IntKind.i64.wrap ((k:Int)-1)).toNat Pth.zero) (s.en (r.getD (IntKind.i64.wrap ((k:Int)-1)).toNat Pth.zero)))=true↔s.lt (r.getD k Pth.zero) (r.getD (k-1) Pth.zero)):=fun h=>by
  rw[wk (by omega),Int.toNat_natCast];rfl
 generalize lexB _ _=lx at hlx;refine⟨fun h3=>?_,fun h3=>⟨(j+1,r),⟨hp2,by simp only;omega,fun a b h4 h5 h6=>?_⟩,by simp only;omega,by rw[aH h2 (by simp only[maxLen];omega)]⟩⟩
 rotate_left
 ·simp only at h5
  by_cases hbk:b=k
  ·subst hbk
   have hk0 : 0<b:=by omega
   have hn:¬s.lt (r.getD b Pth.zero) (r.getD (b-1) Pth.zero):=fun hl=>by
    rw[(hlx hk0).2 hl] at h3;simp at h3;omega
   by_cases hab:a=b-1
   ·rw[hab];exact hn
   ·exact N6 (hsr a (b-1) (by omega) (by omega) (by omega)) hn
  ·exact hsr a b h4 (by omega) hbk
 simp only[Bool.and_eq_true,decide_eq_true_eq] at h3;obtain⟨hk0,hlt⟩:=h3;have hlt:=(hlx (by omega)).1 hlt;have hk1:k-1≠k:=by omega
 have hkr:k<r.length:=by omega
 have hk2:k-1<r.length:=by omega
 simp only[wk hk0,Int.toNat_natCast,List.length_set,List.length_map,DP,wQ hk1,FX,hkr,hk2];simp only[go_sem,wk hk0,Int.toNat_natCast,List.length_set,List.length_map,DP,wQ hk1,wQ (Ne.symm hk1),FX,hkr,hk2];refine⟨(k-1,nb r k),⟨(Vm hkr).trans hp2,by simp only;omega,fun a b h4 h5 h6=>Vl (by omega) hkr hlt hsr a b h4 h5 h6⟩,by simp only;omega,?_⟩;rw[Vk (Ne.symm hk1)];unfold nb;simp only[U,List.map_set];rfl
end Go.D3
