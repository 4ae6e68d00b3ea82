/- CONTRACTS: all short paths in order, the reference's side. -/
import Derived.Test.YtpjbamibcngihaaGreatDoorGBE
namespace Go.D3
open Go
set_option maxHeartbeats 4000000
set_option maxRecDepth 100000
theorem EF{L:List D}{k:Nat}{x z:D}(hk:k<L.length):(L.set k x).getD k z=x:=by
 rw[List.getD_eq_getElem?_getD,List.getElem?_set_self hk];rfl
theorem xp{L:List D}{k j:Nat}{x z:D}(hj:j≠k):(L.set k x).getD j z=L.getD j z:=by
 rw[List.getD_eq_getElem?_getD,List.getElem?_set_ne (Ne.symm hj),List.getD_eq_getElem?_getD]
theorem GU{r:List U}{j:Nat}:(r.map U.d).getD j (D.agg [D.int .i64 U.zero.st,ints U.zero.ed])=D.agg [D.int .i64 (r.getD j U.zero).st,ints (r.getD j U.zero).ed]:=getD_map' _ _ _ _
theorem WE{m:List D}{i j:Nat}{a b c A d B:D}(h:i≠j):(((((m.set i a).set j b).set i c).set i A).set j d).set j B=(m.set i A).set j B:=by
 rw[List.set_set,List.set_set,List.set_comm b A (Ne.symm h),List.set_set,List.set_set]
def CC(s:aa)(rc:D)(gs:List D):Prop:=gs=[]/\∃l,rc=.o (.au l)/\∃(o:List U)(ok:Bool),l=[ae U.d U.zero o,.bool ok]/\o.length<=500/\(ok=true->jS s o)
def BZ:List Nat:=[0,2,3,1,4,5,6,7,8,9,10]
def JX:Sl:=ak Go.Proofs.Tryz.types Go.Proofs.Tryz.f113 BZ []
theorem Sb:aF Go.Proofs.Tryz.prog Go.Proofs.Tryz.f113 BZ JX 1=true:=by decide +kernel
theorem Vd(s:aa)(hs:cQ s):bM Go.Proofs.Tryz.prog 113 [aa.d s] [] (CC s):=by
 have h0:=hs.n0;have h8:=hs.n8;have hf:=hs.f8;have hto:=hs.to;have no:CC s (.o (.au [ae U.d U.zero [],.bool false])) []:=⟨rfl,_,rfl,[],false,rfl,Nat.zero_le _,fun h=>by cases h⟩;refine dN .tree Go.Proofs.Tryz.func113 Sb ?_;unfold JX ak BZ;simp only[go_sem];refine aE [] (fun(i:Nat)=>[(4,.o (ae U.d U.zero (mD i))),(5,.int .i64 i)]) (fun i=>(i:Int)<=s.nd) (fun i=>s.nd.toNat-i) 0 (by simp only[go_sem];rfl) h0 rfl ?_;intro i hi;simp only[go_sem];refine⟨fun h=>?_,fun h=>?_⟩
 ·rw[FQ]
  exact⟨by omega,i+1,by omega,by omega,by rw[aM (n:=9) (by omega) (by decide),Qc]⟩
 obtain rfl:i=s.nd.toNat:=by omega
 refine aE [7] (fun(p:Nat×List U)=>[(4,.o (ae U.d U.zero p.2)),(6,.int .i64 p.1)]) (fun p=>p.1<=p.2.length/\p.2.length<=400/\fW s p.2 p.1) (fun p=>400-p.1) (0,mD s.nd.toNat) (by simp only[go_sem];rfl) ⟨Nat.zero_le _,by rw[FQ];omega,Qd hs⟩ rfl ?_;clear hi h;rintro⟨i,o⟩ ⟨hi,hl,hI⟩;simp only at hi hl hI;simp only[go_sem];refine⟨fun h=>⟨h,h,fun h6=>?_,fun h6=>?_⟩,fun h=>?_⟩
 ·exact⟨(i+1,o),⟨h,hl,hI.p8 (by omega)⟩,by show 400-(i+1)<400-i;omega,by rw[aM h (by simp only[maxLen];omega)]⟩
 ·obtain⟨y,hy⟩:=hI.at' h
  have hp6:=(dS.1 hy).2.1;generalize hP:o.getD i U.zero=P at hy hp6 h6;have hP6:P.ed.length<6:=by simp at h6;omega
  refine aE [] (fun(p:Nat×List U)=>[(4,.o (ae U.d U.zero p.2)),(7,.int .i64 p.1)]) (fun p=>p.1<=s.fr.length/\o.length<=p.2.length/\p.2.length<=o.length+p.1/\fW s p.2 i/\p.2.getD i U.zero=P /\
   ∀e:Nat,e<p.1->s.aU P=some (s.fr.getD e 0)->(⟨P.st,P.ed++[(e:Int)]⟩:U)∈p.2) (fun p=>s.fr.length-p.1) (0,o) (by simp only[go_sem];rfl) ⟨Nat.zero_le _,Nat.le_refl _,Nat.le_refl _,hI,hP,fun e he=>absurd he (Nat.not_lt_zero _)⟩ rfl ?_
  rintro⟨k,q⟩ ⟨hk,hq1,hq2,hqI,hqP,hqc⟩;simp only at hk hq1 hq2 hqI hqP hqc;simp only[go_sem];rw[hqP];refine⟨fun h2=>⟨h2,by omega,by omega,av (oB s P y hto hy) rfl (.inl rfl) ?_⟩,fun h2=>?_⟩
  ·simp only[go_sem]
   refine⟨fun hfk=>?_,fun hfk=>⟨(k+1,q),⟨h2,hq1,by show q.length<=o.length+(k+1);omega,hqI,hqP,fun e he hE=>?_⟩,by show s.fr.length-(k+1)<s.fr.length-k;omega,by rw[aM h2 (by simp only[maxLen];omega)]⟩⟩
   ·rw[hqP]
    have hE:=xb (p:=P) (e:=k) (by rw[hfk];exact hy) h2 hP6;have hadd:=hqI.add (by omega) hE;have hget:(q++[(⟨P.st,P.ed++[(k:Int)]⟩:U)]).getD i U.zero=P:=by rw[eG (by omega),if_neg (by omega),hqP]
    have hcc:∀e:Nat,e<k+1->s.aU P=some (s.fr.getD e 0)->(⟨P.st,P.ed++[(e:Int)]⟩:U)∈q++[(⟨P.st,P.ed++[(k:Int)]⟩:U)]:=fun e he hE=>by
     by_cases hek:e=k
     ·subst hek;simp
     ·exact List.mem_append_left _ (hqc e (by omega) hE)
    have hlen:(q++[(⟨P.st,P.ed++[(k:Int)]⟩:U)]).length=q.length+1:=by rw[List.length_append];rfl
    have hw:=aM h2 (show s.fr.length<=maxLen by simp only[maxLen];omega)
    with_reducible (repeat' apply And.intro)
    all_goals(try(show i<q.length;omega))
    all_goals(
     refine av (iX P.ed (by omega)) rfl (.inl (bZ _)) ?_;simp only[go_sem,hqP]
     with_reducible (repeat' apply And.intro)
     all_goals(first
      | exact⟨(k+1,_),⟨h2,by rw[hlen];omega,by rw[hlen];simp only;omega,hadd,hget,hcc⟩,by simp only;omega,by rw[hw]⟩
      | omega))
   ·by_cases hek:e=k
    ·subst hek
     rw[hy] at hE;injection hE with hE
     simp[hE] at hfk
    ·exact hqc e (by simp only at he;omega) hE
  ·refine⟨fun h3=>⟨_,_,no,rfl,rfl,trivial⟩,fun h3=>⟨(i+1,q),⟨by show i+1<=q.length;omega,by show q.length<=400;omega,hqI.next fun e he hE=>?_⟩,by show 400-(i+1)<400-i;omega,by rw[aM h (by simp only[maxLen];omega)]⟩⟩
   rw[hqP] at hE|-
   exact hqc e (by omega) hE
 have hA:=hI.done (by omega);refine aE [9,10] (fun(p:Nat×List U)=>[(4,.o (ae U.d U.zero p.2)),(8,.int .i64 p.1)]) (fun p=>p.2.Perm o/\p.1<=max 1 o.length) (fun p=>max 1 o.length-p.1) (1,o) (by simp only[go_sem];rfl) ⟨.refl _,by simp only;omega⟩ rfl ?_;rintro⟨j,q⟩ ⟨hp,hj⟩;simp only at hp hj;have hql:=hp.length_eq;simp only[go_sem];refine⟨fun h2=>?_,fun h2=>⟨_,_,⟨rfl,_,rfl,q,true,rfl,by omega,fun _=>hA.perm hp⟩,rfl,rfl,trivial⟩⟩;refine aE [10] (fun(p:Nat×List U)=>[(4,.o (ae U.d U.zero p.2)),(9,.int .i64 p.1)]) (fun p=>p.2.Perm o/\p.1<=j) (fun p=>p.1) (j,q) (by simp only[go_sem];rfl) ⟨hp,Nat.le_refl _⟩ rfl ?_;rintro⟨k,r⟩ ⟨hp2,hk⟩;simp only at hp2 hk;have hrl:=hp2.length_eq;have hrA:=hA.perm hp2;simp only[go_sem];have wk : 0<(k:Int)->IntKind.i64.wrap ((k:Int)-1)=((k-1:Nat):Int):=fun h=>by rw[wrap_small (by omega) (by omega)];omega
 refine⟨fun h3=>⟨h3,by omega⟩,fun h3=>⟨h3,by omega⟩,fun h3=>⟨h3,by rw[wk h3];omega⟩,fun h3=>⟨h3,by rw[wk h3];omega⟩,?_⟩
 have hE:∀{m:Nat},m<r.length->s.aU (r.getD m U.zero)=some ((s.aU (r.getD m U.zero)).getD 0):=fun hm=>by
  obtain⟨y,hy⟩:=hrA.at' hm;rw[hy];rfl
 refine bt (fun h3=>Vb s (r.getD k U.zero) (r.getD (IntKind.i64.wrap ((k:Int)-1)).toNat U.zero) _ _ hto (hE (by omega)) (hE (by
  have h3 : 0<(k:Int):=by simpa using h3
  rw[wk h3,Int.toNat_natCast];omega))) rfl (fun h=>h) (.inl rfl) ?_
 simp only[go_sem];generalize lexB _ _=lx;refine⟨fun h3=>?_,fun h3=>⟨(j+1,r),⟨hp2,by simp only;omega⟩,by simp only;omega,by rw[aM h2 (by simp only[maxLen];omega)]⟩⟩;simp only[Bool.and_eq_true,decide_eq_true_eq] at h3;obtain⟨hk0,-⟩:=h3;have hk1:k-1≠k:=by omega
 have hkr:k<r.length:=by omega
 have hk2:k-1<r.length:=by omega
 simp only[wk hk0,Int.toNat_natCast,List.length_set,List.length_map,EF,xp hk1,GU,hkr,hk2];simp only[go_sem,wk hk0,Int.toNat_natCast,List.length_set,List.length_map,EF,xp hk1,xp (Ne.symm hk1),GU,hkr,hk2];refine⟨(k-1,vq r k),⟨(WG hkr).trans hp2,by simp only;omega⟩,by simp only;omega,?_⟩;rw[WE (Ne.symm hk1)];unfold vq;simp only[ae,List.map_set];rfl
end Go.D3
