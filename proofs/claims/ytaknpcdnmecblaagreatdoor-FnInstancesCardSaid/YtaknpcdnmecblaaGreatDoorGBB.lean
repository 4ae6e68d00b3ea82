/- CONTRACTS: schemas that are read: the reference's ParseSchema. -/
import Derived.Test.YtaknpcdnmecblaaGreatDoorGBA
namespace Go.D3
open Go Proofs
set_option maxHeartbeats 4000000
set_option maxRecDepth 100000
set_option maxHeartbeats 8000000
theorem HI{l:List U}:∀e∈l.map U.d,e.wo 2=true:=fun e he=>by obtain⟨p,_,rfl⟩:=List.mem_map.1 he;rfl
def C6:List Nat:=[0,2,3,4,5,6,7,8,9,10,11,12,13,14,15]
def K8:Sl:=ah Tryz.types Tryz.f150 C6 [(0,208),(0,210)]
theorem UM:aE Tryz.prog Tryz.f150 C6 K8 1=true:=by decide +kernel
theorem YM(t:List UInt8)(ht:t.length<=4294966000):aA Tryz.prog 150 [.v (.str t)] (uu (j8 t)):=by
 have no:(∀q:aa,q.ok=true->t≠q.bK)->D.av [aa.d aa.zero,.int .i64 6]=uu (j8 t):=fun h=>by rw[W1 h];rfl
 refine aQ Tryz.func150 UM ?_;unfold K8 ah C6;simp only[go_sem];refine aj (Y1 t (by omega)) rfl (.inl (tN _)) ?_;have a7:∀q:aa,q.ok=true->t=q.bK->bx [32,124,32] 0 t=[Lib.itoa q.nd,eC (q.dS q.fr.length),eC (q.dy q.lf.length)]:=fun q h1 S=>by rw[S];exact Wv (gD h1)
 have a6:∀x∈bx [32,124,32] 0 t,x.length<=t.length:=fun x hx=>oV hx
 generalize bx [32,124,32] 0 t=ps at a7 a6;simp only[go_sem];refine⟨fun h=>no fun q h1 S=>by rw[a7 q h1 S] at h;simp at h,fun h=>?_⟩
 have I:ps.length=3:=by
  have:(ps.length:Int)=3:=by simpa using h
  omega
 obtain⟨p0,p1,Y,rfl⟩:∃p0 p1 Y,ps=[p0,p1,Y]:=by
  match ps,I with
  | [a,b,c],_=>exact⟨a,b,c,rfl⟩
 clear h I;have l1:=a6 p1 (by simp);have l2:=a6 Y (by simp);simp only[go_sem];refine⟨by decide,bj [] false (YZ p1 (by omega)) ?_⟩;rintro _ _ ⟨rfl,fr,to,e,rfl,he⟩;refine⟨(by repeat(first | exact trivial | refine⟨(fun h=>by cases h),?_⟩)),(fun h=>by cases h),?_⟩
 have ao:∀q:aa,q.ok=true->t=q.bK->(eW 9 p0=some q.nd.toNat/\0<=q.nd)/\(fr=q.fr/\to=q.to/\e=true)/\Y=eC (q.dy q.lf.length):=fun q h1 S=>by
  have I:=a7 q h1 S;simp only[List.cons.injEq,and_true] at I;have:=(gD h1).nd;exact⟨⟨by rw[I.1];exact zu this.1 (by rw[zw this.1 (by omega)];decide),this.1⟩,he q h1 I.2.1,I.2.2⟩
 clear a7 a6 he
 obtain⟨n,hn,b2⟩:∃n:Int,pd (eW 9 p0)=.int .i64 n/\∀q:aa,q.ok=true->t=q.bK->n=q.nd:=by
  cases hd:eW 9 p0 with
  | none=>exact⟨-1,rfl,fun q h1 S=>by have:=(ao q h1 S).1.1;rw[hd] at this;cases this⟩
  | some m=>exact⟨m,rfl,fun q h1 S=>by obtain⟨⟨W,a2⟩,_⟩:=ao q h1 S;rw[hd] at W;injection W with W;omega⟩
 simp only[go_sem];refine⟨by decide,aj (uz p0) rfl (.inl (by cases eW 9 p0<;>rfl)) ?_⟩;rw[hn];simp only[go_sem];have e3:([p0,p1,Y]:List (List UInt8)).getD (Int.toNat 2) []=Y:=rfl;rw[e3]
 have ab:∀q:aa,q.ok=true->t=q.bK->gH Y=q.dy q.lf.length/\fr=q.fr/\to=q.to/\e=true:=fun q h1 S=>by
  obtain⟨_,a2,a3⟩:=ao q h1 S;rw[a3];exact⟨abk (gD h1),a2⟩
 have bg:∀x∈gH Y,x.length<=Y.length:=by
  unfold gH;split
  ·exact fun x hx=>by cases hx
  ·exact fun x hx=>oV hx
 clear ao;refine⟨by decide,fun h=>⟨by decide,?_⟩,fun h=>?_⟩
 case' refine_1 =>
  have ad:gH Y=bx [32] 0 Y:=by unfold gH;rw[if_neg (by simpa using h)]
  refine aj (xa Y 32 (by omega)) rfl (.inl (tN _)) ?_;rw[<-ad];generalize gH Y=ws at ab bg;simp only[go_sem];refine⟨by simp,fun h1=>no fun q S I=>?_,fun h1=>?_⟩
  ·obtain⟨W,_,_,a4⟩:=ab q S I
   have:=(gD S).l8;rw[W,tf,a4] at h1;simp at h1;omega
  have he:e=true/\ws.length<=8:=by simp at h1;exact⟨h1.1,by omega⟩
 case' refine_2 =>
  have ad:gH Y=[]:=by unfold gH;rw[if_pos (by simpa using h)]
  generalize gH Y=ws at ab bg ad;refine⟨by simp,fun h1=>no fun q S I=>?_,fun h1=>?_⟩
  ·rw[(ab q S I).2.2.2] at h1
   simp at h1
  have he:e=true/\ws.length<=8:=by rw[ad];simp at h1;exact⟨h1,by simp⟩
  rw[<-ad]
 all_goals
  refine au [10,11,12,13,14] (fun(p:Nat×List U×List U)=>[(7,.box [.int .i64 n,.o (ints fr),.o (ints to),.o (ae U.d U.zero p.2.1),.o (ae U.d U.zero p.2.2)]),(9,.int .i64 p.1)]) (fun p=>p.1<=ws.length/\p.2.1.length=p.1/\p.2.2.length=p.1/\∀q:aa,q.ok=true->t=q.bK->p.2.1=q.lf.take p.1/\p.2.2=q.rt.take p.1) (fun p=>ws.length-p.1) (0,[],[]) (by simp only[go_sem];rfl) ⟨Nat.zero_le _,rfl,rfl,fun _ _ _=>⟨rfl,rfl⟩⟩ rfl ?_;rintro⟨j,lf,rt⟩ ⟨hj,bT,b1,hq⟩;simp only at hj bT b1 hq;simp only[go_sem];refine⟨fun S=>⟨S,?_⟩,fun S=>?_⟩
  ·have hx:ws.getD j []∈ws:=by rw[aM S];exact List.getElem_mem _
   have b4:=bg _ hx;refine aj (xa (ws.getD j []) 61 (by omega)) rfl (.inl (tN _)) ?_
   have ag:∀q:aa,q.ok=true->t=q.bK->j<q.lf.length/\bx [61] 0 (ws.getD j [])=[(q.lf.getD j U.zero).bK,(q.rt.getD j U.zero).bK]:=fun q I V=>by
    have hw:=(ab q I V).1;have a8:j<q.lf.length:=by rw[hw,tf] at S;exact S
    rw[hw,PS a8,aax (gD I) a8];exact⟨a8,rfl⟩
   have ax:∀x∈bx [61] 0 (ws.getD j []),x.length<=(ws.getD j []).length:=fun x hx=>oV hx
   generalize bx [61] 0 (ws.getD j [])=es at ag ax;simp only[go_sem];refine⟨fun I=>no fun q V Z=>by rw[(ag q V Z).2] at I;simp at I,fun I=>?_⟩
   obtain⟨a,b,rfl⟩:=Ho (l:=es) (by
    have:(es.length:Int)=2:=by simpa using I
    omega)
   have la:=ax a (by simp);have lb:=ax b (by simp)
   have bF:∀q:aa,q.ok=true->t=q.bK->j<q.lf.length/\a=(q.lf.getD j U.zero).bK/\b=(q.rt.getD j U.zero).bK:=fun q V Z=>by
    obtain⟨W,a2⟩:=ag q V Z;simp only[List.cons.injEq,and_true] at a2;exact⟨W,a2⟩
   clear ag ax;simp only[go_sem];refine⟨by decide,bj [] false (JK a (by omega)) ?_⟩;rintro _ _ ⟨rfl,p,e1,rfl,hp⟩;refine⟨(by repeat(first | exact trivial | refine⟨(fun h=>by cases h),?_⟩)),(fun h=>by cases h),?_⟩;simp only[go_sem];refine⟨by decide,bj [] false (JK b (by omega)) ?_⟩;rintro _ _ ⟨rfl,p',e2,rfl,b3⟩;refine⟨(by repeat(first | exact trivial | refine⟨(fun h=>by cases h),?_⟩)),(fun h=>by cases h),?_⟩
   have b0:∀q:aa,q.ok=true->t=q.bK->j<q.lf.length/\(p=q.lf.getD j U.zero/\e1=true)/\p'=q.rt.getD j U.zero/\e2=true:=fun q V Z=>by
    obtain⟨W,a2,a3⟩:=bF q V Z;exact⟨W,hp _ ((gD V).eq j W).1 a2,b3 _ ((gD V).eq j W).2 a3⟩
   simp only[go_sem];refine⟨by simp,fun V=>no fun q Z h6=>?_,fun V=>?_⟩
   ·obtain⟨_,⟨_,a2⟩,_,a4⟩:=b0 q Z h6
    rw[a2,a4] at V;cases V
   refine⟨HI,by rw[List.length_map];omega,by omega,HI,by rw[List.length_map];omega,by omega,(j+1,lf++[p],rt++[p']),⟨S,by simp[bT],by simp[b1],fun q Z h6=>?_⟩,by show ws.length-(j+1)<_;omega,by rw[wrap_small (by omega) (by omega)];rfl⟩;obtain⟨W,⟨a2,_⟩,a3,_⟩:=b0 q Z h6;obtain⟨q1,q2⟩:=hq q Z h6;show lf++_=q.lf.take (j+1)/\rt++_=q.rt.take (j+1);rw[b7 W U.zero,b7 (by rw[(gD Z).rt];exact W) U.zero,q1,q2,a2,a3];exact⟨rfl,rfl⟩
  ·have hu:∀q:aa,q.ok=true->t=q.bK->(⟨n,fr,to,lf,rt⟩:aa)=q:=fun q I V=>by
    obtain⟨W,a2,a3,_⟩:=ab q I V;obtain⟨a4,a5⟩:=hq q I V;have:=(gD I).rt;rw[W,tf] at S;rw[List.take_of_length_le (by omega)] at a4 a5;rw[a2,a3,a4,a5,b2 q I V]
   refine aj (w9 ⟨n,fr,to,lf,rt⟩) rfl (.inl rfl) ?_;simp only[go_sem];cases hok:(⟨n,fr,to,lf,rt⟩:aa).ok with
   | false =>
    refine bf (res:=.str []) (fun h=>by cases h) rfl (fun h=>by cases h) (.inl rfl) ?_;simp only[go_sem];exact no fun q I V=>by rw[hu q I V,I] at hok;cases hok
   | true =>
    refine bf (fun _=>Zk ⟨n,fr,to,lf,rt⟩ (gD hok)) rfl (fun h=>h) (.inl rfl) ?_;simp only[go_sem];refine⟨fun I=>no fun q V Z=>?_,fun I=>?_⟩
    ·rw[hu q V Z,<-Z] at I;simp at I
    ·rw[W2 hok (by simpa using Eq.symm (by simpa using I)) hu]
     rfl
end Go.D3
