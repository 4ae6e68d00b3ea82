/- CONTRACTS: drawn small categories, the reference's side. -/
import Derived.Test.YtaknpcdnmecblaaGreatDoorGBE
import Derived.Test.YtaknpcdnmecblaaGreatDoorGBF
import Derived.Test.YtaknpcdnmecblaaGreatDoorGBG
namespace Go.D3
open Go Proofs
set_option maxHeartbeats 4000000
set_option maxRecDepth 100000
def Nx(I:List Int)(rc:D)(gs:List D):Prop:=∃(a:Nat)(h:Int)(c:af),a<=I.length/\gJ c/\rc=.o c.d/\gs=[bR I a h]
theorem rP:∀i,i<8->(iU i).length<=1048576/\da List.length (iU i)<=1048576:=by
 intro i hi
 match i,hi with
 | 0,_=>decide
 | 1,_=>decide
 | 2,_=>decide
 | 3,_=>decide
 | 4,_=>decide
 | 5,_=>decide
 | 6,_=>decide
 | 7,_=>decide
theorem VV:gi 1 [[1]]:=uK (by decide)
theorem N3{n:Nat}:gi n (List.replicate n (List.replicate n (1:Int))):=⟨List.length_replicate,fun i hi=>by rw[mN hi,List.length_replicate],fun i hi=>by unfold aL;rw[mN hi,mN hi];rfl⟩
theorem GD{n:Nat}:∀{k:Nat}{g:List Int×List Int},g∈jR n k->g.1.length=k/\g.2.length=k
 | 0,g,h=>by
  rw[jR,List.mem_singleton] at h;subst h;exact⟨rfl,rfl⟩
 | k+1,g,h=>by
  rw[jR,List.mem_flatMap] at h;obtain⟨S,h1,I⟩:=h;obtain⟨e,_,rfl⟩:=List.mem_map.1 I;have:=GD h1;simp[this.1,this.2]
theorem A7:aA Tryz.prog 155 [.v (aC [[1]])] jX.d:=su 1 [[1]] VV (by decide)
def Dq:List Nat:=[0,2,3,4,5,6,7,8,9,10,11,12,14]
def Lt:Sl:=ah Tryz.types Tryz.f151 Dq [(0,84),(0,212),(0,215),(15,26),(15,33),(15,67),(15,85),(15,95)]
theorem U6:aE Tryz.prog Tryz.f151 Dq Lt 1=true:=by decide +kernel
theorem Ba{cc:List Int}(S:ij cc){a:Nat}{h:Int}(ha:a<=cc.length):bn Tryz.prog 151 [.aG 0 [(0,0)]] [bR cc a h] (Nx cc):=by
 refine dB .tree Tryz.func151 U6 ?_;unfold Lt ah Dq;simp only[go_sem];refine bj [13] false (cN S ha 12) ?_;rintro _ _ ⟨a1,h1,x1,V,-,rfl,rfl⟩;refine⟨(by repeat(first | exact trivial | refine⟨(fun h=>by cases h),?_⟩)),(fun h=>by cases h),?_⟩;simp only[go_sem];refine⟨fun _=>?_,fun _=>⟨fun _=>?_,fun _=>⟨fun _=>?_,fun _=>⟨fun _=>?_,fun _=>⟨fun _=>?_,fun _=>⟨fun _=>?_,fun _=>⟨fun _=>?_,fun _=>⟨fun _=>?_,fun _=>⟨fun _=>?_,fun _=>⟨fun _=>?_,fun _=>⟨fun _=>?_,fun _=>?_⟩⟩⟩⟩⟩⟩⟩⟩⟩⟩⟩
 ·refine bj [13] false (cN S V 5) ?_
  rintro _ _ ⟨a2,Z,W,I,⟨x0,-,x5⟩,rfl,rfl⟩;refine⟨(by repeat(first | exact trivial | refine⟨(fun h=>by cases h),?_⟩)),(fun h=>by cases h),?_⟩;have x6:=x5 (by decide);obtain⟨n,rfl⟩:∃n:Nat,W=n:=⟨W.toNat,by omega⟩;simp only[go_sem];refine bj [13] false (JG S I n (by omega)) ?_;rintro _ _ ⟨a3,h3,R,Y,hS,hT,rfl,rfl⟩;refine⟨(by repeat(first | exact trivial | refine⟨(fun h=>by cases h),?_⟩)),(fun h=>by cases h),?_⟩;simp only[go_sem];refine aj (su n R hS (by omega)) rfl (.inl (dA _)) ?_;simp only[go_sem];exact⟨_,_,⟨a3,h3,_,Y,tj hS hT (by omega),rfl,rfl⟩,rfl,rfl,rfl,trivial⟩
 ·refine aj (su 2 [[1,1],[0,1]] (uK (by decide)) (by decide)) rfl (.inl (dA _)) ?_
  simp only[go_sem];exact⟨_,_,⟨a1,h1,_,V,P9,rfl,rfl⟩,rfl,rfl,rfl,trivial⟩
 ·refine aj (su 3 [[1,1,1],[0,1,0],[0,0,1]] (uK (by decide)) (by decide)) rfl (.inl (dA _)) ?_
  simp only[go_sem];exact⟨_,_,⟨a1,h1,_,V,P6,rfl,rfl⟩,rfl,rfl,rfl,trivial⟩
 ·refine aj (Be 2 [0,0] [1,1] (by decide) (by decide) rfl) rfl (.inl (dA _)) ?_
  simp only[go_sem];exact⟨_,_,⟨a1,h1,_,V,P4,rfl,rfl⟩,rfl,rfl,rfl,trivial⟩
 ·refine bj [13] false (Bc S V) ?_
  rintro _ _ ⟨a2,Z,i,I,hi,rfl,rfl⟩;refine⟨(by repeat(first | exact trivial | refine⟨(fun h=>by cases h),?_⟩)),(fun h=>by cases h),?_⟩;simp only[go_sem];refine aj (Bd (iU i) (rP i hi).1 (rP i hi).2) rfl (.inl (dA _)) ?_;simp only[go_sem];exact⟨_,_,⟨a2,Z,_,I,(yY i hi).1,rfl,rfl⟩,rfl,rfl,rfl,trivial⟩
 ·refine bj [13] false (cN S V 3) ?_
  rintro _ _ ⟨a2,Z,W,I,⟨x0,-,x5⟩,rfl,rfl⟩;refine⟨(by repeat(first | exact trivial | refine⟨(fun h=>by cases h),?_⟩)),(fun h=>by cases h),?_⟩;have x6:=x5 (by decide);obtain⟨n,hn⟩:∃n:Nat,1+W=n:=⟨(1+W).toNat,by omega⟩;simp only[go_sem];rw[wrap_small (n:=1+W) (by omega) (by omega),hn];have hw:∀{k:Nat},k<n->IntKind.i64.wrap ((k:Int)+1)=((k+1:Nat):Int):=fun h=>aw h (by simp only[maxLen];omega)
  refine au [5,6] (fun(i:Nat)=>[(4,.int .i64 i),(3,.o (aC (List.replicate i (List.replicate n (1:Int)))))]) (fun i=>i<=n) (fun i=>n-i) 0 (by simp only[go_sem];rfl) (Nat.zero_le _) rfl ?_;intro i hi;have li:(List.replicate i (List.replicate n (1:Int))).length=i:=List.length_replicate;simp only[go_sem];refine⟨fun h3=>?_,fun h3=>?_⟩
  ·refine au [] (fun(j:Nat)=>[(6,.int .i64 j),(5,.o (ints (List.replicate j (1:Int))))]) (fun j=>j<=n) (fun j=>n-j) 0 (by simp only[go_sem];rfl) (Nat.zero_le _) rfl ?_
   intro j hj;have lj:(List.replicate j (1:Int)).length=j:=List.length_replicate;simp only[go_sem];refine⟨fun h4=>⟨by omega,j+1,by omega,by omega,by rw[hw (by omega),<-List.replicate_succ']⟩,fun h4=>?_⟩;obtain rfl:j=n:=by omega
   exact⟨fun e he=>by rw[List.mem_singleton] at he;subst he;rfl,by omega,i+1,by omega,by omega,by rw[hw (by omega),<-List.replicate_succ']⟩
  ·obtain rfl:i=n:=by omega
   refine aj (su i (List.replicate i (List.replicate i 1)) N3 (by omega)) rfl (.inl (dA _)) ?_;simp only[go_sem];exact⟨_,_,⟨a2,Z,_,I,P0 (by omega),rfl,rfl⟩,rfl,rfl,rfl,trivial⟩
 ·refine aj (Be 3 [0,1,0] [1,2,2] (by decide) (by decide) rfl) rfl (.inl (dA _)) ?_
  simp only[go_sem];exact⟨_,_,⟨a1,h1,_,V,P8,rfl,rfl⟩,rfl,rfl,rfl,trivial⟩
 ·refine aj YU rfl (.inl (dA _)) ?_
  simp only[go_sem];exact⟨_,_,⟨a1,h1,_,V,P7,rfl,rfl⟩,rfl,rfl,rfl,trivial⟩
 ·refine bj [13] false (Bc S V) ?_
  rintro _ _ ⟨a2,Z,i,I,hi,rfl,rfl⟩;refine⟨(by repeat(first | exact trivial | refine⟨(fun h=>by cases h),?_⟩)),(fun h=>by cases h),?_⟩;simp only[go_sem];refine aj (Bd (iU i) (rP i hi).1 (rP i hi).2) rfl (.inl (dA _)) ?_;simp only[go_sem];obtain⟨f1,f2,f3⟩:=yY i hi;have fj:=Gc f1 f2 f3;refine aj A7 rfl (.inl (dA _)) ?_;simp only[go_sem];refine aj (JH (om (iU i)) jX f1.wf vC.wf (by omega) (by decide) (by omega) (by decide)) rfl (.inl (dA _)) ?_;simp only[go_sem];refine aj (YX _ fj.wf (by have:=fj.ar;omega) (by have:=fj.wf.cP;have:=fj.ob;omega)) rfl (.inl (dA _)) ?_;simp only[go_sem];exact⟨_,_,⟨a2,Z,_,I,P3 fj,rfl,rfl⟩,rfl,rfl,rfl,trivial⟩
 ·refine bj [13] false (Bc S V) ?_
  rintro _ _ ⟨a2,Z,i,I,hi,rfl,rfl⟩;refine⟨(by repeat(first | exact trivial | refine⟨(fun h=>by cases h),?_⟩)),(fun h=>by cases h),?_⟩;simp only[go_sem];refine aj (Bd (iU i) (rP i hi).1 (rP i hi).2) rfl (.inl (dA _)) ?_;simp only[go_sem];obtain⟨f1,f2,f3⟩:=yY i hi;have fj:=Gc f1 f2 f3;refine aj A7 rfl (.inl (dA _)) ?_;simp only[go_sem];refine aj (JH (om (iU i)) jX f1.wf vC.wf (by omega) (by decide) (by omega) (by decide)) rfl (.inl (dA _)) ?_;simp only[go_sem];exact⟨_,_,⟨a2,Z,_,I,fj,rfl,rfl⟩,rfl,rfl,rfl,trivial⟩
 ·refine bj [13] false (cN S V 2) ?_
  rintro _ _ ⟨a2,Z,W,I,⟨x0,-,x5⟩,rfl,rfl⟩;refine⟨(by repeat(first | exact trivial | refine⟨(fun h=>by cases h),?_⟩)),(fun h=>by cases h),?_⟩;have x6:=x5 (by decide);obtain⟨n,hn⟩:∃n:Nat,2+W=n:=⟨(2+W).toNat,by omega⟩;simp only[go_sem];rw[wrap_small (n:=2+W) (by omega) (by omega),hn];refine bj [13] false (JG S I n (by omega)) ?_;rintro _ _ ⟨a3,h3,R,Y,hS,hT,rfl,rfl⟩;refine⟨(by repeat(first | exact trivial | refine⟨(fun h=>by cases h),?_⟩)),(fun h=>by cases h),?_⟩;simp only[go_sem];refine aj (su n R hS (by omega)) rfl (.inl (dA _)) ?_;simp only[go_sem];exact⟨_,_,⟨a3,h3,_,Y,tj hS hT (by omega),rfl,rfl⟩,rfl,rfl,rfl,trivial⟩
 ·refine bj [13] false (cN S V 2) ?_
  rintro _ _ ⟨a2,Z,W,I,⟨x0,-,x5⟩,rfl,rfl⟩;refine⟨(by repeat(first | exact trivial | refine⟨(fun h=>by cases h),?_⟩)),(fun h=>by cases h),?_⟩;have x6:=x5 (by decide);obtain⟨n,hn⟩:∃n:Nat,W=n:=⟨W.toNat,by omega⟩;simp only[go_sem];rw[wrap_small (n:=2+W) (by omega) (by omega),show 2+W=((n+2:Nat):Int) by omega];refine bj [13] false (cN S I 4) ?_;rintro _ _ ⟨a3,h3,x3,Y,⟨y0,-,y5⟩,rfl,rfl⟩;refine⟨(by repeat(first | exact trivial | refine⟨(fun h=>by cases h),?_⟩)),(fun h=>by cases h),?_⟩;have y6:=y5 (by decide);obtain⟨k0,rfl⟩:∃n:Nat,x3=n:=⟨x3.toNat,by omega⟩;simp only[go_sem];refine au [11] (fun(p:Nat×(List Int×List Int)×Nat×Int)=>[(10,.int .i64 p.1),(8,.o (ints p.2.1.1)),(9,.o (ints p.2.1.2)),(13,bR cc p.2.2.1 p.2.2.2)]) (fun p=>(∃m,m+p.1<=3/\p.2.1∈jR (n+2) m)/\p.2.2.1<=cc.length) (fun p=>p.1) (k0,([],[]),a3,h3) (by simp only[go_sem];rfl) ⟨⟨0,by simp only;omega,Qy⟩,Y⟩ rfl ?_;rintro⟨k,⟨F,T⟩,a4,h4⟩ ⟨⟨m,hm,hg⟩,ab⟩;simp only at hm hg ab;obtain⟨lF,lT⟩:=GD hg;simp only at lF lT;simp only[go_sem];refine⟨fun h5=>?_,fun h5=>?_⟩
  ·rw[wrap_small (n:=((n+2:Nat):Int)-1) (by omega) (by omega)]
   refine bj [13] false (cN S ab (((n+2:Nat):Int)-1)) ?_;rintro _ _ ⟨a5,h6,x,ad,⟨u0,-,u5⟩,rfl,rfl⟩;refine⟨(by repeat(first | exact trivial | refine⟨(fun h=>by cases h),?_⟩)),(fun h=>by cases h),?_⟩;have u6:=u5 (by omega);simp only[go_sem];refine⟨by omega,?_⟩;rw[wrap_small (n:=((n+2:Nat):Int)-1) (by omega) (by omega),wrap_small (n:=((n+2:Nat):Int)-1-x) (by omega) (by omega)];refine bj [13] false (cN S ad (((n+2:Nat):Int)-1-x)) ?_;rintro _ _ ⟨a6,h7,y,ag,⟨v0,-,v5⟩,rfl,rfl⟩;refine⟨(by repeat(first | exact trivial | refine⟨(fun h=>by cases h),?_⟩)),(fun h=>by cases h),?_⟩;have v6:=v5 (by omega);simp only[go_sem];rw[wrap_small (n:=x+1) (by omega) (by omega),wrap_small (n:=x+1+y) (by omega) (by omega),wrap_small (n:=(k:Int)-1) (by omega) (by omega),show(k:Int)-1=((k-1:Nat):Int) by omega];exact⟨by omega,(k-1,(F++[x],T++[x+1+y]),a6,h7),⟨⟨m+1,by simp only;omega,QA hg (PN (by omega) u0 u6 v0 v6)⟩,ag⟩,by simp only;omega,rfl⟩
  ·refine aj (Be (n+2) F T (by omega) (by omega) (by omega)) rfl (.inl (dA _)) ?_
   simp only[go_sem];exact⟨_,_,⟨a4,h4,_,ab,P5 (by omega) (by omega) hg,rfl,rfl⟩,rfl,rfl,rfl,trivial⟩
end Go.D3
