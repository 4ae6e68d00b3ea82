/- CONTRACTS: schemas that are read: the reference's ParseSchema. -/
import Derived.Test.YtpjbamibcngihaaGreatDoorGAN
namespace Go.D3
open Go
set_option maxHeartbeats 4000000
set_option maxRecDepth 100000
set_option maxHeartbeats 8000000
theorem FK{l:List U}:∀e∈l.map U.d,e.uh 2=true:=fun e he=>by obtain⟨p,_,rfl⟩:=List.mem_map.1 he;rfl
def Bj:List Nat:=[0,2,3,4,5,6,7,8,9,10,11,12,13,14,15]
def Ji:Sl:=ak Go.Proofs.Tryz.types Go.Proofs.Tryz.f82 Bj [(0,109),(0,110)]
theorem Rq:aF Go.Proofs.Tryz.prog Go.Proofs.Tryz.f82 Bj Ji 1=true:=by decide +kernel
theorem HR(t:List UInt8)(ht:t.length<=4294966000):aC Go.Proofs.Tryz.prog 82 [.v (.str t)] (kA (eE t)):=by
 have no:(∀q:aa,q.ok=true->t≠q.aL)->D.au [aa.d aa.zero,.int .i64 6]=kA (eE t):=fun h=>by rw[uN h];rfl
 refine aQ Go.Proofs.Tryz.func82 Rq ?_;unfold Ji ak Bj;simp only[go_sem];refine av (U2 t (by omega)) rfl (.inl (jH _)) ?_;have hps:∀q:aa,q.ok=true->t=q.aL->aT [32,124,32] 0 t=[Lib.itoa q.nd,da (q.dA q.fr.length),da (q.c6 q.lf.length)]:=fun q h1 h2=>by rw[h2];exact GI (cJ h1)
 have hpl:∀x∈aT [32,124,32] 0 t,x.length<=t.length:=fun x hx=>ic hx
 generalize aT [32,124,32] 0 t=ps at hps hpl;simp only[go_sem];refine⟨fun h=>no fun q h1 h2=>by rw[hps q h1 h2] at h;simp at h,fun h=>?_⟩
 have h3:ps.length=3:=by
  have:(ps.length:Int)=3:=by simpa using h
  omega
 obtain⟨p0,p1,p2,rfl⟩:∃p0 p1 p2,ps=[p0,p1,p2]:=by
  match ps,h3 with
  | [a,b,c],_=>exact⟨a,b,c,rfl⟩
 clear h h3;have l1:=hpl p1 (by simp);have l2:=hpl p2 (by simp);simp only[go_sem];refine⟨by decide,bf [] false (U1 p1 (by omega)) ?_⟩;rintro _ _ ⟨rfl,fr,to,e,rfl,he⟩;refine⟨(by repeat(first | exact trivial | refine⟨(fun h=>by cases h),?_⟩)),(fun h=>by cases h),?_⟩
 have hdq:∀q:aa,q.ok=true->t=q.aL->(bA 9 p0=some q.nd.toNat/\0<=q.nd)/\(fr=q.fr/\to=q.to/\e=true)/\p2=da (q.c6 q.lf.length):=fun q h1 h2=>by
  have h3:=hps q h1 h2;simp only[List.cons.injEq,and_true] at h3;have:=(cJ h1).nd;exact⟨⟨by rw[h3.1];exact mi this.1 (by rw[mj this.1 (by omega)];decide),this.1⟩,he q h1 h3.2.1,h3.2.2⟩
 clear hps hpl he
 obtain⟨n,hn,hnq⟩:∃n:Int,kL (bA 9 p0)=.int .i64 n/\∀q:aa,q.ok=true->t=q.aL->n=q.nd:=by
  cases hd:bA 9 p0 with
  | none=>exact⟨-1,rfl,fun q h1 h2=>by have:=(hdq q h1 h2).1.1;rw[hd] at this;cases this⟩
  | some m=>exact⟨m,rfl,fun q h1 h2=>by obtain⟨⟨a1,a2⟩,_⟩:=hdq q h1 h2;rw[hd] at a1;injection a1 with a1;omega⟩
 simp only[go_sem];refine⟨by decide,av (pX p0) rfl (.inl (by cases bA 9 p0<;>rfl)) ?_⟩;rw[hn];simp only[go_sem];have e3:([p0,p1,p2]:List (List UInt8)).getD (Int.toNat 2) []=p2:=rfl;rw[e3]
 have hw2:∀q:aa,q.ok=true->t=q.aL->dv p2=q.c6 q.lf.length/\fr=q.fr/\to=q.to/\e=true:=fun q h1 h2=>by
  obtain⟨_,a2,a3⟩:=hdq q h1 h2;rw[a3];exact⟨K4 (cJ h1),a2⟩
 have hn2:∀x∈dv p2,x.length<=p2.length:=by
  unfold dv;split
  ·exact fun x hx=>by cases hx
  ·exact fun x hx=>ic hx
 clear hdq;refine⟨by decide,fun h=>⟨by decide,?_⟩,fun h=>?_⟩
 case' refine_1 =>
  have hw0:dv p2=aT [32] 0 p2:=by unfold dv;rw[if_neg (by simpa using h)]
  refine av (rP p2 32 (by omega)) rfl (.inl (jH _)) ?_;rw[<-hw0];generalize dv p2=ws at hw2 hn2;simp only[go_sem];refine⟨by simp,fun h1=>no fun q h2 h3=>?_,fun h1=>?_⟩
  ·obtain⟨a1,_,_,a4⟩:=hw2 q h2 h3
   have:=(cJ h2).l8;rw[a1,jq,a4] at h1;simp at h1;omega
  have he:e=true/\ws.length<=8:=by simp at h1;exact⟨h1.1,by omega⟩
 case' refine_2 =>
  have hw0:dv p2=[]:=by unfold dv;rw[if_pos (by simpa using h)]
  generalize dv p2=ws at hw2 hn2 hw0;refine⟨by simp,fun h1=>no fun q h2 h3=>?_,fun h1=>?_⟩
  ·rw[(hw2 q h2 h3).2.2.2] at h1
   simp at h1
  have he:e=true/\ws.length<=8:=by rw[hw0];simp at h1;exact⟨h1,by simp⟩
  rw[<-hw0]
 all_goals
  refine aE [10,11,12,13,14] (fun(p:Nat×List U×List U)=>[(7,.box [.int .i64 n,.o (ints fr),.o (ints to),.o (ae U.d U.zero p.2.1),.o (ae U.d U.zero p.2.2)]),(9,.int .i64 p.1)]) (fun p=>p.1<=ws.length/\p.2.1.length=p.1/\p.2.2.length=p.1/\∀q:aa,q.ok=true->t=q.aL->p.2.1=q.lf.take p.1/\p.2.2=q.rt.take p.1) (fun p=>ws.length-p.1) (0,[],[]) (by simp only[go_sem];rfl) ⟨Nat.zero_le _,rfl,rfl,fun _ _ _=>⟨rfl,rfl⟩⟩ rfl ?_;rintro⟨j,lf,rt⟩ ⟨hj,hlf,hrt,hq⟩;simp only at hj hlf hrt hq;simp only[go_sem];refine⟨fun h2=>⟨h2,?_⟩,fun h2=>?_⟩
  ·have hx:ws.getD j []∈ws:=by rw[aS h2];exact List.getElem_mem _
   have hxl:=hn2 _ hx;refine av (rP (ws.getD j []) 61 (by omega)) rfl (.inl (jH _)) ?_
   have hcq:∀q:aa,q.ok=true->t=q.aL->j<q.lf.length/\aT [61] 0 (ws.getD j [])=[(q.lf.getD j U.zero).aL,(q.rt.getD j U.zero).aL]:=fun q h3 h4=>by
    have hw:=(hw2 q h3 h4).1;have hlt:j<q.lf.length:=by rw[hw,jq] at h2;exact h2
    rw[hw,Eb hlt,Wr (cJ h3) hlt];exact⟨hlt,rfl⟩
   have hel:∀x∈aT [61] 0 (ws.getD j []),x.length<=(ws.getD j []).length:=fun x hx=>ic hx
   generalize aT [61] 0 (ws.getD j [])=es at hcq hel;simp only[go_sem];refine⟨fun h3=>no fun q h4 h5=>by rw[(hcq q h4 h5).2] at h3;simp at h3,fun h3=>?_⟩
   obtain⟨a,b,rfl⟩:=Fu (l:=es) (by
    have:(es.length:Int)=2:=by simpa using h3
    omega)
   have la:=hel a (by simp);have lb:=hel b (by simp)
   have hcq2:∀q:aa,q.ok=true->t=q.aL->j<q.lf.length/\a=(q.lf.getD j U.zero).aL/\b=(q.rt.getD j U.zero).aL:=fun q h4 h5=>by
    obtain⟨a1,a2⟩:=hcq q h4 h5;simp only[List.cons.injEq,and_true] at a2;exact⟨a1,a2⟩
   clear hcq hel;simp only[go_sem];refine⟨by decide,bf [] false (HY a (by omega)) ?_⟩;rintro _ _ ⟨rfl,p,e1,rfl,hp⟩;refine⟨(by repeat(first | exact trivial | refine⟨(fun h=>by cases h),?_⟩)),(fun h=>by cases h),?_⟩;simp only[go_sem];refine⟨by decide,bf [] false (HY b (by omega)) ?_⟩;rintro _ _ ⟨rfl,p',e2,rfl,hp2⟩;refine⟨(by repeat(first | exact trivial | refine⟨(fun h=>by cases h),?_⟩)),(fun h=>by cases h),?_⟩
   have hpp:∀q:aa,q.ok=true->t=q.aL->j<q.lf.length/\(p=q.lf.getD j U.zero/\e1=true)/\p'=q.rt.getD j U.zero/\e2=true:=fun q h4 h5=>by
    obtain⟨a1,a2,a3⟩:=hcq2 q h4 h5;exact⟨a1,hp _ ((cJ h4).eq j a1).1 a2,hp2 _ ((cJ h4).eq j a1).2 a3⟩
   simp only[go_sem];refine⟨by simp,fun h4=>no fun q h5 h6=>?_,fun h4=>?_⟩
   ·obtain⟨_,⟨_,a2⟩,_,a4⟩:=hpp q h5 h6
    rw[a2,a4] at h4;cases h4
   refine⟨FK,by rw[List.length_map];omega,by omega,FK,by rw[List.length_map];omega,by omega,(j+1,lf++[p],rt++[p']),⟨h2,by simp[hlf],by simp[hrt],fun q h5 h6=>?_⟩,by show ws.length-(j+1)<_;omega,by rw[wrap_small (by omega) (by omega)];rfl⟩;obtain⟨a1,⟨a2,_⟩,a3,_⟩:=hpp q h5 h6;obtain⟨q1,q2⟩:=hq q h5 h6;show lf++_=q.lf.take (j+1)/\rt++_=q.rt.take (j+1);rw[cH a1 U.zero,cH (by rw[(cJ h5).rt];exact a1) U.zero,q1,q2,a2,a3];exact⟨rfl,rfl⟩
  ·have hu:∀q:aa,q.ok=true->t=q.aL->(⟨n,fr,to,lf,rt⟩:aa)=q:=fun q h3 h4=>by
    obtain⟨a1,a2,a3,_⟩:=hw2 q h3 h4;obtain⟨a4,a5⟩:=hq q h3 h4;have:=(cJ h3).rt;rw[a1,jq] at h2;rw[List.take_of_length_le (by omega)] at a4 a5;rw[a2,a3,a4,a5,hnq q h3 h4]
   refine av (UO ⟨n,fr,to,lf,rt⟩) rfl (.inl rfl) ?_;simp only[go_sem];cases hok:(⟨n,fr,to,lf,rt⟩:aa).ok with
   | false =>
    refine bt (res:=.str []) (fun h=>by cases h) rfl (fun h=>by cases h) (.inl rfl) ?_;simp only[go_sem];exact no fun q h3 h4=>by rw[hu q h3 h4,h3] at hok;cases hok
   | true =>
    refine bt (fun _=>zw ⟨n,fr,to,lf,rt⟩ (cJ hok)) rfl (fun h=>h) (.inl rfl) ?_;simp only[go_sem];refine⟨fun h3=>no fun q h4 h5=>?_,fun h3=>?_⟩
    ·rw[hu q h4 h5,<-h5] at h3;simp at h3
    ·rw[GS hok (by simpa using Eq.symm (by simpa using h3)) hu]
     rfl
end Go.D3
