/- CONTRACTS: schemas that are read, the program's side. -/
import Derived.Test.YtpjbamibcngihaaGreatDoorGAJ
namespace Go.D3
open Go
set_option maxHeartbeats 4000000
set_option maxRecDepth 100000
inductive qo:D->Prop
 | one:qo eS
 | join {a b:Bool} (h:(a || b)=true):qo (jz a b)
def CB(t:List UInt8)(rc:D)(gs:List D):Prop:=gs=[]/\∃(s:aa)(e:D),rc=.o (.au [aa.d s,e])/\(e=.bj\/qo e)/\∀q:aa,q.ok=true->t=q.aL->s=q/\e=.bj
def AY:List Nat:=[0,2,3,4,5,6,7,9,10,11,13,14,15,17,18,19,20,21,45,46,47,81,82,83]
def IY:Sl:=ak Go.Proofs.Tryz.types Go.Proofs.Tryz.f102 AY [(0,135),(0,136),(0,137)]
theorem Q4:aF Go.Proofs.Tryz.prog Go.Proofs.Tryz.f102 AY IY 1=true:=by decide +kernel
theorem Uz(t:List UInt8)(ht:t.length<=4294966000):bM Go.Proofs.Tryz.prog 102 [.str t] [] (CB t):=by
 have no:∀e,qo e->(∀q:aa,q.ok=true->t≠q.aL)->CB t (.o (.au [aa.d aa.zero,e])) []:=fun e he h=>⟨rfl,aa.zero,e,rfl,.inr he,fun q h1 h2=>absurd h2 (h q h1)⟩
 refine dN .tree Go.Proofs.Tryz.func102 Q4 ?_;unfold IY ak AY;simp only[go_sem];refine av (zx (by decide) (by omega)) rfl (.inl (jH _)) ?_;have hps:∀q:aa,q.ok=true->t=q.aL->aT [32,124,32] 0 t=[Lib.itoa q.nd,da (q.dA q.fr.length),da (q.c6 q.lf.length)]:=fun q h1 h2=>by rw[h2];exact GI (cJ h1)
 have hpl:∀x∈aT [32,124,32] 0 t,x.length<=t.length:=fun x hx=>ic hx
 generalize aT [32,124,32] 0 t=ps at hps hpl;simp only[go_sem];refine⟨fun h=>⟨_,_,no eS .one (fun q h1 h2=>by rw[hps q h1 h2] at h;simp at h),rfl,rfl,trivial⟩,fun h=>?_⟩
 have h3:ps.length=3:=by
  have:(ps.length:Int)=3:=by simpa using h
  omega
 obtain⟨p0,p1,p2,rfl⟩:∃p0 p1 p2,ps=[p0,p1,p2]:=by
  match ps,h3 with
  | [a,b,c],_=>exact⟨a,b,c,rfl⟩
 clear h h3;have l1:=hpl p1 (by simp);have l2:=hpl p2 (by simp);simp only[go_sem];refine⟨by decide,av (rM _) rfl (.inr trivial) ?_⟩
 have hdq:∀q:aa,q.ok=true->t=q.aL->bA 6 p0=some q.nd.toNat/\p1=da (q.dA q.fr.length)/\p2=da (q.c6 q.lf.length):=fun q h1 h2=>by
  have h3:=hps q h1 h2;simp only[List.cons.injEq,and_true] at h3;have:=(cJ h1).nd;exact⟨by rw[h3.1];exact mi this.1 (by rw[mj this.1 (by omega)];decide),h3.2.1,h3.2.2⟩
 clear hps hpl;cases hd:bA 6 p0 with
 | none =>
  rw[hd] at hdq;simp only[jl];simp only[go_sem];exact⟨_,_,no eS .one (fun q h1 h2=>by have:=(hdq q h1 h2).1;cases this),rfl,rfl,trivial⟩
 | some n =>
  rw[hd] at hdq;simp only[jl];simp only[go_sem];refine⟨by decide,av (HL _ (by omega)) rfl (.inl (jH _)) ?_⟩;have hw1:∀q:aa,q.ok=true->t=q.aL->dv p1=q.dA q.fr.length:=fun q h1 h2=>by rw[(hdq q h1 h2).2.1];exact K3 (cJ h1)
  have hn1:(dv p1).length<=p1.length+1/\∀x∈dv p1,x.length<=p1.length:=by
   unfold dv;split
   ·exact⟨by simp,fun x hx=>by cases hx⟩
   ·exact⟨mY,fun x hx=>ic hx⟩
  generalize dv p1=ws at hw1 hn1;simp only[go_sem];refine aE [7,8,9] (fun(p:Nat×List Int×List Int)=>[(6,.box [.int .i64 n,.o (ints p.2.1),.o (ints p.2.2),.o (ae U.d U.zero []),.o (ae U.d U.zero [])]),(20,.int .i64 p.1)]) (fun p=>p.1<=ws.length/\p.2.1.length=p.1/\p.2.2.length=p.1/\∀q:aa,q.ok=true->t=q.aL->p.2.1=q.fr.take p.1/\p.2.2=q.to.take p.1) (fun p=>ws.length-p.1) (0,[],[]) (by simp only[go_sem];rfl) ⟨Nat.zero_le _,rfl,rfl,fun _ _ _=>⟨rfl,rfl⟩⟩ rfl ?_;rintro⟨i,fr,to⟩ ⟨hi,hf,ht2,hq⟩;simp only at hi hf ht2 hq;simp only[go_sem];refine⟨fun h=>⟨h,?_⟩,fun h=>?_⟩
  ·have hx:ws.getD i []∈ws:=by rw[aS h];exact List.getElem_mem _
   have hxl:=hn1.2 _ hx;refine en [1001] false (UA (ws.getD i []) (by omega)) ?_;cases hs:iB (ws.getD i []) with
   | none =>
    simp only[zZ];simp only[go_sem];refine⟨_,_,no eS .one (fun q h1 h2=>?_),rfl,rfl,trivial⟩;have hw:=hw1 q h1 h2;rw[hw,w7 (by rw[hw,gT] at h;exact h),KK (cJ h1) (by rw[hw,gT] at h;exact h)] at hs;cases hs
   | some ab =>
    obtain⟨a,b⟩:=ab;simp only[zZ];simp only[go_sem];refine⟨by decide,by omega,by decide,by omega,(i+1,fr++[(a:Int)],to++[(b:Int)]),⟨h,by simp[hf],by simp[ht2],fun q h1 h2=>?_⟩,by show ws.length-(i+1)<_;omega,by rw[wrap_small (by omega) (by omega)];rfl⟩;have hw:=hw1 q h1 h2;have hlt:i<q.fr.length:=by rw[hw,gT] at h;exact h
    have hT:=cJ h1;obtain⟨a1,b1⟩:=hT.ed i hlt;rw[hw,w7 hlt,KK hT hlt] at hs;simp only[Option.some.injEq,Prod.mk.injEq] at hs;obtain⟨q1,q2⟩:=hq q h1 h2;show fr++_=q.fr.take (i+1)/\to++_=q.to.take (i+1);rw[cH hlt 0,cH (by rw[hT.to];exact hlt) 0,q1,q2,<-hs.1,<-hs.2,Int.toNat_of_nonneg a1.1,Int.toNat_of_nonneg b1.1];exact⟨rfl,rfl⟩
  ·refine⟨by decide,?_⟩
   have e3:([p0,p1,p2]:List (List UInt8)).getD (Int.toNat 2) []=p2:=rfl;rw[e3];refine av (HL _ (by omega)) rfl (.inl (jH _)) ?_
   have hqf:∀q:aa,q.ok=true->t=q.aL->fr=q.fr/\to=q.to:=fun q h1 h2=>by
    obtain⟨q1,q2⟩:=hq q h1 h2;have hw:=hw1 q h1 h2;rw[hw,gT] at h hi;have:=(cJ h1).to;rw[List.take_of_length_le (by omega)] at q1 q2;exact⟨q1,q2⟩
   have hw2:∀q:aa,q.ok=true->t=q.aL->dv p2=q.c6 q.lf.length:=fun q h1 h2=>by rw[(hdq q h1 h2).2.2];exact K4 (cJ h1)
   have hn2:(dv p2).length<=p2.length+1/\∀x∈dv p2,x.length<=p2.length:=by
    unfold dv;split
    ·exact⟨by simp,fun x hx=>by cases hx⟩
    ·exact⟨mY,fun x hx=>ic hx⟩
   have hdn:∀q:aa,q.ok=true->t=q.aL->(n:Int)=q.nd:=fun q h1 h2=>by
    have h3:=(hdq q h1 h2).1;have:=(cJ h1).nd;injection h3 with h3
    omega
   clear hdq hq hw1 hn1;generalize dv p2=vs at hw2 hn2;simp only[go_sem];refine aE [10,11,12,13,14,15,16,17] (fun(p:Nat×List U×List U)=>[(6,.box [.int .i64 n,.o (ints fr),.o (ints to),.o (ae U.d U.zero p.2.1),.o (ae U.d U.zero p.2.2)]),(23,.int .i64 p.1)]) (fun p=>p.1<=vs.length/\p.2.1.length=p.1/\p.2.2.length=p.1/\∀q:aa,q.ok=true->t=q.aL->p.2.1=q.lf.take p.1/\p.2.2=q.rt.take p.1) (fun p=>vs.length-p.1) (0,[],[]) (by simp only[go_sem];rfl) ⟨Nat.zero_le _,rfl,rfl,fun _ _ _=>⟨rfl,rfl⟩⟩ rfl ?_;rintro⟨j,lf,rt⟩ ⟨hj,hlf,hrt,hq⟩;simp only at hj hlf hrt hq;simp only[go_sem];refine⟨fun h2=>⟨h2,?_⟩,fun h2=>?_⟩
   ·have hx:vs.getD j []∈vs:=by rw[aS h2];exact List.getElem_mem _
    have hxl:=hn2.2 _ hx;refine av (rL (by omega)) rfl (.inl rfl) ?_
    have hc:(Lib.cut (vs.getD j []) [61]).1.length<=t.length/\(Lib.cut (vs.getD j []) [61]).2.1.length<=t.length:=by
     unfold Lib.cut;split
     ·exact⟨by simp only[List.length_take];omega,by simp only[List.length_drop];omega⟩
     ·exact⟨by show(vs.getD j []).length<=_;omega,by simp⟩
    have hcq:∀q:aa,q.ok=true->t=q.aL->j<q.lf.length/\(Lib.cut (vs.getD j []) [61]).1=(q.lf.getD j U.zero).aL/\(Lib.cut (vs.getD j []) [61]).2.1=(q.rt.getD j U.zero).aL:=fun q h3 h4=>by
     have hw:=hw2 q h3 h4;have hlt:j<q.lf.length:=by rw[hw,jq] at h2;exact h2
     rw[hw,Eb hlt,Ms (cJ h3) hlt];exact⟨hlt,rfl,rfl⟩
    generalize Lib.cut (vs.getD j []) [61]=cc at hc hcq;simp only[go_sem];refine bf [] false (HI cc.1 (by omega)) ?_;rintro _ _ ⟨rfl,p,e1,rfl,hp⟩;refine⟨(by repeat(first | exact trivial | refine⟨(fun h=>by cases h),?_⟩)),(fun h=>by cases h),?_⟩
    have hpp:∀q:aa,q.ok=true->t=q.aL->j<q.lf.length/\p=q.lf.getD j U.zero/\e1=false:=fun q h3 h4=>by
     obtain⟨a1,a2,a3⟩:=hcq q h3 h4;exact⟨a1,hp _ ((cJ h3).eq j a1).1 a2⟩
    cases e1<;>simp only[gy]<;>simp only[go_sem]
    all_goals
     refine bf [] false (HI cc.2.1 (by omega)) ?_;rintro _ _ ⟨rfl,p',e2,rfl,hp2⟩;refine⟨(by repeat(first | exact trivial | refine⟨(fun h=>by cases h),?_⟩)),(fun h=>by cases h),?_⟩
     have hpp2:∀q:aa,q.ok=true->t=q.aL->p'=q.rt.getD j U.zero/\e2=false:=fun q h3 h4=>by
      obtain⟨a1,a2,a3⟩:=hcq q h3 h4;exact hp2 _ ((cJ h3).eq j a1).2 a3
     cases e2<;>simp only[gy]<;>simp only[go_sem]
    ·refine en [1002] false (u3 (a:=false) (b:=false)) ?_
     simp only[jz];simp only[go_sem];refine⟨by omega,by omega,(j+1,lf++[p],rt++[p']),⟨h2,by simp[hlf],by simp[hrt],fun q h3 h4=>?_⟩,by show vs.length-(j+1)<_;omega,by rw[wrap_small (by omega) (by omega)];rfl⟩;obtain⟨a1,a2,_⟩:=hpp q h3 h4;obtain⟨a3,_⟩:=hpp2 q h3 h4;obtain⟨q1,q2⟩:=hq q h3 h4;show lf++_=q.lf.take (j+1)/\rt++_=q.rt.take (j+1);rw[cH a1 U.zero,cH (by rw[(cJ h3).rt];exact a1) U.zero,q1,q2,a2,a3];exact⟨rfl,rfl⟩
    ·refine en [1002] false (u3 (a:=false) (b:=true)) ?_
     simp only[jz,iq];simp only[go_sem];exact⟨_,_,no (jz false true) (.join rfl) (fun q h3 h4=>by have:=(hpp2 q h3 h4).2;cases this),rfl,rfl,trivial⟩
    ·refine en [1002] false (u3 (a:=true) (b:=false)) ?_
     simp only[jz,iq];simp only[go_sem];exact⟨_,_,no (jz true false) (.join rfl) (fun q h3 h4=>by have:=(hpp q h3 h4).2.2;cases this),rfl,rfl,trivial⟩
    ·refine en [1002] false (u3 (a:=true) (b:=true)) ?_
     simp only[jz,iq];simp only[go_sem];exact⟨_,_,no (jz true true) (.join rfl) (fun q h3 h4=>by have:=(hpp q h3 h4).2.2;cases this),rfl,rfl,trivial⟩
   ·refine⟨_,_,⟨rfl,⟨n,fr,to,lf,rt⟩,.bj,rfl,.inl rfl,fun q h3 h4=>⟨?_,rfl⟩⟩,rfl,rfl,trivial⟩
    obtain⟨a1,a2⟩:=hqf q h3 h4;obtain⟨a3,a4⟩:=hq q h3 h4;have hw:=hw2 q h3 h4;have:=(cJ h3).rt;rw[hw,jq] at h2;rw[List.take_of_length_le (by omega)] at a3 a4;rw[a1,a2,a3,a4,hdn q h3 h4]
end Go.D3
