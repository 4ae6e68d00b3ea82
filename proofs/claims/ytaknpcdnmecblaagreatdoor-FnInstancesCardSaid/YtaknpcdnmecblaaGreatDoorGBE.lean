/- CONTRACTS: drawn small categories, the reference's side: monoids, relations. -/
import Derived.Test.YtaknpcdnmecblaaGreatDoorGBD
import Derived.Test.YtaknpcdnmecblaaGreatDoorGBC
namespace Go.D3
open Go Proofs
set_option maxHeartbeats 4000000
set_option maxRecDepth 100000
def Dy:List Nat:=[0]
def LB:Sl:=ah Tryz.types Tryz.f216 Dy [(15,9)]
theorem Ve:aE Tryz.prog Tryz.f216 Dy LB 0=true:=by decide +kernel
theorem YU:aA Tryz.prog 216 [] xm.d:=by
 unfold xm;refine aQ Tryz.func216 Ve ?_;unfold LB ah Dy;simp only[go_sem];rfl
def NC(c:List Int)(rc:D)(gs:List D):Prop:=∃(a:Nat)(h:Int)(i:Nat),a<=c.length/\i<8/\rc=.o (aC (iU i))/\gs=[bR c a h]
def Du:List Nat:=[0,2,4]
def Lx:Sl:=ah Tryz.types Tryz.f215 Du [(0,84),(15,8),(15,13),(15,18),(15,24),(15,30),(15,36),(15,43),(15,47)]
theorem Va:aE Tryz.prog Tryz.f215 Du Lx 1=true:=by decide +kernel
theorem Bc{c:List Int}(W:ij c){a:Nat}{h:Int}(V:a<=c.length):bn Tryz.prog 215 [.aG 0 [(0,0)]] [bR c a h] (NC c):=by
 refine dB .tree Tryz.func215 Va ?_;unfold Lx ah Du;simp only[go_sem];refine bj [3] false (cN W V 8) ?_;rintro _ _ ⟨S,h1,Z,I,⟨Y,-,x4⟩,rfl,rfl⟩;refine⟨(by repeat(first | exact trivial | refine⟨(fun h=>by cases h),?_⟩)),(fun h=>by cases h),?_⟩;simp only[go_sem];refine⟨fun _=>?_,fun _=>⟨fun _=>?_,fun _=>⟨fun _=>?_,fun _=>⟨fun _=>?_,fun _=>⟨fun _=>?_,fun _=>⟨fun _=>?_,fun _=>⟨fun _=>?_,fun _=>?_⟩⟩⟩⟩⟩⟩⟩
 ·exact⟨_,_,⟨S,h1,0,I,by decide,rfl,rfl⟩,rfl,rfl,rfl,trivial⟩
 ·exact⟨_,_,⟨S,h1,1,I,by decide,rfl,rfl⟩,rfl,rfl,rfl,trivial⟩
 ·exact⟨_,_,⟨S,h1,2,I,by decide,rfl,rfl⟩,rfl,rfl,rfl,trivial⟩
 ·exact⟨_,_,⟨S,h1,3,I,by decide,rfl,rfl⟩,rfl,rfl,rfl,trivial⟩
 ·exact⟨_,_,⟨S,h1,4,I,by decide,rfl,rfl⟩,rfl,rfl,rfl,trivial⟩
 ·exact⟨_,_,⟨S,h1,5,I,by decide,rfl,rfl⟩,rfl,rfl,rfl,trivial⟩
 ·exact⟨_,_,⟨S,h1,6,I,by decide,rfl,rfl⟩,rfl,rfl,rfl,trivial⟩
 ·exact⟨_,_,⟨S,h1,7,I,by decide,rfl,rfl⟩,rfl,rfl,rfl,trivial⟩
def NL(c:List Int)(n:Nat)(rc:D)(gs:List D):Prop:=∃(a:Nat)(h:Int)(R:List (List Int)),a<=c.length/\gi n R/\Tr n n R/\rc=.o (aC R)/\gs=[bR c a h]
structure nL(n i:Nat)(R:List (List Int)):Prop where
 len:R.length=i
 row:∀k,k<i->(R.getD k []).length=n/\(R.getD k []).getD k 0=1
theorem nL.zero{n:Nat}:nL n 0 []:=⟨rfl,fun _ hk=>absurd hk (Nat.not_lt_zero _)⟩
theorem nL.add{n i:Nat}{R:List (List Int)}(h:nL n i R){r:List Int}(S:r.length=n)(h1:r.getD i 0=1):nL n (i+1) (R++[r]):=by
 have I:=h.len;refine⟨by rw[List.length_append,I];rfl,fun k hk=>?_⟩;by_cases e:k<i
 ·rw[fF (by omega)];exact h.row k e
 ·obtain rfl:k=i:=by omega
  rw[fS (by omega),I,Nat.sub_self];exact⟨S,h1⟩
theorem nL.sqr{n:Nat}{R:List (List Int)}(h:nL n n R):gi n R:=⟨h.len,fun i hi=>(h.row i hi).1,fun i hi=>by unfold aL;rw[(h.row i hi).2];rfl⟩
def Dw:List Nat:=[0,1,4,5,6,7,8,9,10,11]
def Lz:Sl:=ah Tryz.types Tryz.f212 Dw [(0,84)]
theorem Vc:aE Tryz.prog Tryz.f212 Dw Lz 2=true:=by decide +kernel
theorem JG{c:List Int}(hc:ij c){a:Nat}{h:Int}(ha:a<=c.length)(n:Nat)(hn:n<=100):bn Tryz.prog 212 [.aG 0 [(0,0)],.int .i64 n] [bR c a h] (NL c n):=by
 refine dB .tree Tryz.func212 Vc ?_;unfold Lz ah Dw;simp only[go_sem];refine au [5,6] (fun(p:Nat×List (List Int)×Nat×Int)=>[(4,.int .i64 p.1),(3,.o (aC p.2.1)),(10,bR c p.2.2.1 p.2.2.2)]) (fun p=>p.1<=n/\nL n p.1 p.2.1/\p.2.2.1<=c.length) (fun p=>n-p.1) (0,[],a,h) (by simp only[go_sem];rfl) ⟨Nat.zero_le _,.zero,ha⟩ rfl ?_;rintro⟨i,R,a1,h1⟩ ⟨hi,hR,ao⟩;simp only at hi hR ao;have b3:=hR.len;simp only[go_sem];refine⟨fun h2=>?_,fun h2=>?_⟩
 ·have b1:((List.replicate n (0:Int)).set i 1).length=n:=by rw[List.length_set,List.length_replicate]
  have ad:i<n:=by omega
  refine⟨⟨Nat.le_refl _,by omega⟩,by rw[List.length_replicate];omega,by rw[List.length_replicate];omega,?_⟩;have hw:∀{k:Nat},k<n->IntKind.i64.wrap ((k:Int)+1)=((k+1:Nat):Int):=fun h=>aw h (by simp only[maxLen];omega)
  rw[hw ad];refine au [] (fun(p:Nat×List Int×Nat×Int)=>[(6,.int .i64 p.1),(5,.o (ints p.2.1)),(10,bR c p.2.2.1 p.2.2.2)]) (fun p=>(i<p.1/\p.1<=n)/\(p.2.1.length=n/\p.2.1.getD i 0=1)/\p.2.2.1<=c.length) (fun p=>n-p.1) (i+1,(List.replicate n (0:Int)).set i 1,a1,h1) (by simp only[go_sem];rfl) ⟨⟨Nat.lt_succ_self i,ad⟩,⟨b1,by rw[List.getD_eq_getElem?_getD,List.getElem?_set_self (by rw[List.length_replicate];exact ad)];rfl⟩,ao⟩ rfl ?_;rintro⟨j,r,a2,bF⟩ ⟨⟨bT,b0⟩,⟨a6,ax⟩,W⟩;simp only at bT b0 a6 ax W;simp only[go_sem];refine⟨fun h3=>?_,fun h3=>?_⟩
  ·refine bj [10] false (cN hc W 2) ?_
   rintro _ _ ⟨a3,h4,x,a8,-,rfl,rfl⟩;refine⟨(by repeat(first | exact trivial | refine⟨(fun h=>by cases h),?_⟩)),(fun h=>by cases h),?_⟩;simp only[go_sem];refine⟨by omega,by omega,(j+1,r.set j x,a3,h4),⟨⟨by simp only;omega,by simp only;omega⟩,⟨by simp only[List.length_set];exact a6,?_⟩,a8⟩,by simp only;omega,by rw[hw (show j<n by omega)]⟩;show(r.set j x).getD i 0=1;rw[List.getD_eq_getElem?_getD,List.getElem?_set_ne (by omega),<-List.getD_eq_getElem?_getD];exact ax
  ·refine⟨by omega,(i+1,R++[r],a2,bF),⟨by simp only;omega,hR.add a6 ax,W⟩,by simp only;omega,by rw[hw ad]⟩
 obtain rfl:i=n:=by omega
 have hS:=hR.sqr;clear h2 hi;have bg : 1<(i:Int)->IntKind.i64.wrap ((i:Int)-1)=((i-1:Nat):Int):=fun h=>by rw[wrap_small (by omega) (by omega)];omega
 refine PH (fun hr=>?_) (fun hr=>?_)
 rotate_left
 simp only[go_sem];refine⟨by simpa using hr,fun h=>(by simp at hr;omega),?_⟩;have I:=hS;generalize R=R3 at I|-
 rotate_left
 simp only[go_sem];refine FN [10] false hr (cN hc ao 4) (by exact⟨by decide,rfl⟩) (by repeat(first | exact trivial | refine⟨rfl,?_⟩)) (by repeat(first | exact trivial | refine⟨.inl rfl,?_⟩ | refine⟨.inr ⟨rfl,rfl⟩,?_⟩)) ?_;rintro _ _ ⟨a2,h2,x,W,-,rfl,rfl⟩;refine⟨(by repeat(first | exact trivial | refine⟨(fun h=>by cases h),?_⟩)),(fun h=>by cases h),rfl,?_⟩;simp only[go_sem];refine⟨fun h3=>?_,fun h3=>?_⟩
 rotate_left
 have I:=hS;generalize R=R3 at I|-
 rotate_left 2
 simp only[Bool.and_eq_true,decide_eq_true_eq] at h3;rw[bg h3.1];have b2:i-1<R.length:=by have:=hS.len;omega
 have cc:=hS.row (i-1) (by omega)
 with_reducible (repeat' apply And.intro)
 all_goals try omega
 all_goals first
  | (refine bj [10] false (cN hc W i) ?_
     rintro _ _ ⟨a3,h4,y,a8,⟨y0,-,y1⟩,rfl,rfl⟩;refine⟨(by repeat(first | exact trivial | refine⟨(fun h=>by cases h),?_⟩)),(fun h=>by cases h),?_⟩;have y2:=y1 (by omega);obtain⟨y,rfl⟩:∃n:Nat,y=n:=⟨y.toNat,by omega⟩;simp only[go_sem]
     try rw[bg h3.1,Int.toNat_natCast]
     have I:=Mx (j:=y) hS (show i-1<i by omega) (by omega);unfold qC at I
     with_reducible (repeat' apply And.intro)
     all_goals try omega
     all_goals(generalize R.set (i-1) ((R.getD (i-1) []).set y 1)=R3 at I|-))
  | skip
 all_goals(
  refine au [8,9] (fun(p:Nat×List (List Int))=>[(7,.int .i64 p.1),(3,.o (aC p.2))]) (fun p=>p.1<=i/\gi i p.2/\Tr i p.1 p.2) (fun p=>i-p.1) (0,R3) (by simp only[go_sem];rfl) ⟨Nat.zero_le _,I,fun _ k _ _ hk=>absurd hk (Nat.not_lt_zero _)⟩ rfl ?_;rintro⟨k,R0⟩ ⟨hk,V,ag⟩;simp only at hk V ag;simp only[go_sem];refine⟨fun h5=>?_,fun h5=>?_⟩
  rotate_left
  obtain rfl:k=i:=by omega
  exact⟨_,_,⟨_,_,R0,(by assumption),V,ag,rfl,rfl⟩,rfl,rfl,rfl,trivial⟩;have hw:∀{k:Nat},k<i->IntKind.i64.wrap ((k:Int)+1)=((k+1:Nat):Int):=fun h=>aw h (by simp only[maxLen];omega)
  have Y:k<i:=by omega
  refine au [9] (fun(p:Nat×List (List Int))=>[(8,.int .i64 p.1),(3,.o (aC p.2))]) (fun p=>p.1<=i/\iL i k R0 p.2 p.1 0) (fun p=>i-p.1) (0,R0) (by simp only[go_sem];rfl) ⟨Nat.zero_le _,.zero V⟩ rfl ?_;rintro⟨u,R1⟩ ⟨hu,ab⟩;simp only at hu ab;simp only[go_sem];refine⟨fun h6=>?_,fun h6=>?_⟩
  rotate_left
  obtain rfl:u=i:=by omega
  refine⟨(k+1,R1),⟨Y,ab.1,ab.tr V Y ag⟩,by simp only;omega,by rw[hw Y]⟩;have a7:u<i:=by omega
  refine au [] (fun(p:Nat×List (List Int))=>[(9,.int .i64 p.1),(3,.o (aC p.2))]) (fun p=>p.1<=i/\iL i k R0 p.2 u p.1) (fun p=>i-p.1) (0,R1) (by simp only[go_sem];rfl) ⟨Nat.zero_le _,ab⟩ rfl ?_;rintro⟨v,R2⟩ ⟨hv,S⟩;simp only at hv S;simp only[go_sem];refine⟨fun h7=>?_,fun h7=>?_⟩
  rotate_left
  obtain rfl:v=i:=by omega
  exact⟨(u+1,R2),⟨by simp only;omega,S.row⟩,by simp only;omega,by rw[hw a7]⟩;have Z:v<i:=by omega
  have b4:=S.1.len;have b5:=S.1.row u a7;have b9:=S.1.row k Y;have aK:=S.step V Y a7 Z;have eB:∀{p q:Nat},aL R2 p q=((R2.getD p []).getD q 0 == 1):=rfl;rw[eB,eB] at aK
  refine⟨by omega,by omega,fun h=>⟨h,by omega⟩,fun h=>⟨h,by omega⟩,fun h8=>⟨by omega,by omega,⟨by omega,by omega⟩,(v+1,_),⟨Z,by rw[if_pos h8] at aK;exact aK⟩,by simp only;omega,by rw[hw Z]⟩,fun h8=>⟨(v+1,R2),⟨Z,by rw[if_neg (by rw[h8];decide)] at aK;exact aK⟩,by simp only;omega,by rw[hw Z]⟩⟩)
end Go.D3
