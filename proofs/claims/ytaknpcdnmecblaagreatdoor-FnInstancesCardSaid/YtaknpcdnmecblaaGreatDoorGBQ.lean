/- CONTRACTS: drawn instances, the reference's side. -/
import Derived.Test.YtaknpcdnmecblaaGreatDoorGBM
import Derived.Test.YtaknpcdnmecblaaGreatDoorGBP
import Derived.Test.YtaknpcdnmecblaaGreatDoorGAT
namespace Go.D3
open Go Proofs
set_option maxHeartbeats 4000000
set_option maxRecDepth 100000
theorem XX{I:List Int}(W:ij I){a:Nat}{h:Int}(S:a<=I.length):bn Tryz.prog 37 [.aG 0 [(0,0)]] [bR I a h] (fun rc gs=>∃(a:Nat)(h:Int)(s:aa),a<=I.length/\rc=aa.d s/\gs=[bR I a h]):=by
 have aK:∀s:aa,(aa.d s).strip=aa.d s:=fun s=>by
  show D.agg [_,(ints s.fr).strip,(ints s.to).strip,(ae U.d U.zero s.lf).strip,(ae U.d U.zero s.rt).strip]=_;rw[dD,dD,o6,o6];rfl
 refine((Zb W S).freeze fun rc V Z=>?_).imp fun rc V Z=>?_
 ·obtain⟨a,h,s,S,rfl,rfl⟩:=Z
  exact⟨⟨_,rfl,by rw[aK];rfl⟩,a,h,rfl⟩
 ·obtain⟨d,⟨a,h,s,S,Y,rfl⟩,rfl⟩:=Z
  injection Y with Y
  subst Y;exact⟨a,h,s,S,by rw[aK];rfl,rfl⟩
def NO(I:List Int)(rc:D)(gs:List D):Prop:=∃(a:Nat)(h:Int)(sz:List Int)(mp:List (List Int)),a<=I.length/\rc=.o (.av [ints sz,aC mp])/\gs=[bR I a h]
def D2:List Nat:=[0,1,4,5,3,6,7,8,9,10,11,12,13,14,15,16]
def Mb:Sl:=ah Tryz.types Tryz.f38 D2 [(0,84),(0,87),(0,89),(15,72),(15,105),(15,154)]
theorem VJ:aE Tryz.prog Tryz.f38 D2 Mb 2=true:=by decide +kernel
theorem Zf{cc:List Int}(I:ij cc){a:Nat}{h:Int}(ha:a<=cc.length)(s:aa):bn Tryz.prog 38 [.aG 0 [(0,0)],aa.d s] [bR cc a h] (NO cc):=by
 refine dB .tree Tryz.func38 VJ ?_;unfold Mb ah D2;simp only[go_sem];refine aj (w9 s) rfl (.inl rfl) ?_;cases hs:s.ok with
 | false =>
  simp only[go_sem];exact⟨_,_,⟨a,h,[],[],ha,rfl,rfl⟩,rfl,rfl,rfl,trivial⟩
 | true =>
  simp only[go_sem];have Y:=ic (eX hs).1;have cg:=Y.f8;have cp:=Y.n0;have dk:=Y.n8;have ea:=Y.to;have h3:=JM s hs;have a6:∀{k n:Nat},k<n->n<=8->IntKind.i64.wrap ((k:Int)+1)=((k+1:Nat):Int):=fun h h8=>aw h (by simp only[maxLen];omega)
  rcases hp:s.cn with _ | x;rw[M1 hp] at h3;unfold aW.sL aW.none at h3;refine aj h3 rfl (.inr trivial) ?_;simp only[go_sem];have W:=ha;generalize a=a9 at W|-
  generalize h=h9
  rotate_left
  rw[M3 hp] at h3;have hx:=ql hs hp;unfold aW.sL at h3;refine aj h3 rfl (.inr trivial) ?_;simp only[go_sem];refine FN [16] false rfl (cN I ha 4) (by exact⟨by decide,rfl⟩) (by repeat(first | exact trivial | refine⟨rfl,?_⟩)) (by repeat(first | exact trivial | refine⟨.inl rfl,?_⟩ | refine⟨.inr ⟨rfl,rfl⟩,?_⟩)) ?_;rintro _ _ ⟨a2,h2,y,a7,-,rfl,rfl⟩;refine⟨(by repeat(first | exact trivial | refine⟨(fun h=>by cases h),?_⟩)),(fun h=>by cases h),rfl,?_⟩;simp only[go_sem];refine⟨fun _=>?_,fun _=>?_⟩
  rotate_left
  have W:=a7;generalize a2=a9 at W|-
  generalize h2=h9
  rotate_left 2
  refine bj [16] false (Y6 I a7 x.c hx.sh 5 (by decide)) ?_;rintro _ _ ⟨a9,h9,⟨ay,ag,act⟩,W,hf,rfl,rfl⟩;refine⟨(by repeat(first | exact trivial | refine⟨(fun h=>by cases h),?_⟩)),(fun h=>by cases h),?_⟩;obtain rfl:ay=x.c:=hf.ay;simp only[go_sem];have eb:=hx.ed;have b0:=hf.al;have cj:=hf.nC;simp only at b0 cj;have ec:=hx.ob;refine au [] (fun(k:Nat)=>[(10,.int .i64 k),(6,.o (aC ((List.range k).map fun k=>act.getD (x.ed.getD k 0).toNat [])))]) (fun k=>k<=x.ed.length) (fun k=>x.ed.length-k) 0 (by simp only[go_sem];rfl) (Nat.zero_le _) rfl ?_;intro k hk;have lk:((List.range k).map fun k=>act.getD (x.ed.getD k 0).toNat []).length=k:=by simp
  simp only[go_sem];refine⟨fun h4=>?_,fun h4=>?_⟩;have cy:=hx.ar k (by omega);have cq:=hf.row (x.ed.getD k 0).toNat (by omega);have cI:=db hx.sh.rz (i:=(x.ed.getD k 0).toNat) (by omega);have cr:=hf.sz (x.c.fr.getD (x.ed.getD k 0).toNat 0).toNat (show _<ag.length by omega);simp only at cq cr;refine⟨h4,⟨by omega,by omega⟩,aj (eE (act.getD (x.ed.getD k 0).toNat []) (by omega)) rfl (.inl (bJ _)) ?_⟩;simp only[go_sem];exact⟨by omega,k+1,by omega,by omega,by rw[a6 h4 (by omega),zH]⟩;obtain rfl:k=x.ed.length:=by omega
  generalize(List.range x.ed.length).map (fun k=>act.getD (x.ed.getD k 0).toNat [])=S;refine aj (eE ag (by omega)) rfl (.inl (bJ _)) ?_;simp only[go_sem];generalize ag=V
  rotate_left
  iterate 2 (
   refine au [] (fun(p:Nat×List Int×Nat×Int)=>[(11,.int .i64 p.1),(5,.o (ints p.2.1)),(16,bR cc p.2.2.1 p.2.2.2)]) (fun p=>(p.1:Int)<=s.nd/\(p.2.1.length=p.1/\∀i,i<p.2.1.length->1<=p.2.1.getD i 0/\p.2.1.getD i 0<=3)/\p.2.2.1<=cc.length) (fun p=>s.nd.toNat-p.1) (0,[],a9,h9) (by simp only[go_sem];rfl) ⟨cp,⟨rfl,fun i hi=>absurd hi (Nat.not_lt_zero _)⟩,W⟩ rfl ?_;rintro⟨q,V,b1,g1⟩ ⟨hq,⟨bT,a1⟩,ao⟩;simp only at hq bT a1 ao;simp only[go_sem];refine⟨fun h4=>?_,fun h4=>?_⟩;refine bj [16] false (cN I ao 3) ?_;rintro _ _ ⟨b2,g2,z,Z,⟨z0,-,z3⟩,rfl,rfl⟩;refine⟨(by repeat(first | exact trivial | refine⟨(fun h=>by cases h),?_⟩)),(fun h=>by cases h),?_⟩;have z4:=z3 (by decide);simp only[go_sem];rw[wrap_small (n:=1+z) (by omega) (by omega)];refine⟨fun e he=>by rw[List.mem_singleton] at he;subst he;rfl,by omega,(q+1,V++[1+z],b2,g2),⟨by simp only;omega,⟨by simp only[List.length_append,List.length_singleton];omega,fun i hi=>?_⟩,Z⟩,by simp only;omega,by rw[a6 (n:=8) (by omega) (by omega)]⟩;simp only[List.length_append,List.length_singleton] at hi;show 1<=(V++[1+z]).getD i 0/\(V++[1+z]).getD i 0<=3;by_cases e:i<V.length;rw[fF e];exact a1 i e;rw[fS (by omega),show i-V.length=0 by omega];show 1<=1+z/\1+z<=3;omega;have dm:(V.length:Int)=s.nd:=by omega
   clear h4 hq bT;refine au [13,14] (fun(p:Nat×List (List Int)×Nat×Int)=>[(12,.int .i64 p.1),(6,.o (aC p.2.1)),(16,bR cc p.2.2.1 p.2.2.2)]) (fun p=>p.1<=s.fr.length/\p.2.1.length=p.1/\p.2.2.1<=cc.length) (fun p=>s.fr.length-p.1) (0,[],b1,g1) (by simp only[go_sem];rfl) ⟨Nat.zero_le _,rfl,ao⟩ rfl ?_;rintro⟨k,S,b2,g2⟩ ⟨hk,cm,Z⟩;simp only at hk cm Z;simp only[go_sem];refine⟨fun h4=>?_,fun h4=>?_⟩;have hF:=db Y.fr h4;have hT:=db Y.BW (show k<s.to.length by omega);have dn:=a1 (s.fr.getD k 0).toNat (by omega);refine au [] (fun(p:Nat×List Int×Nat×Int)=>[(14,.int .i64 p.1),(13,.o (ints p.2.1)),(16,bR cc p.2.2.1 p.2.2.2)]) (fun p=>p.1<=3/\p.2.1.length=p.1/\p.2.2.1<=cc.length) (fun p=>3-p.1) (0,[],b2,g2) (by simp only[go_sem];rfl) ⟨Nat.zero_le _,rfl,Z⟩ rfl ?_;rintro⟨u,l,b3,g3⟩ ⟨hu,cv,ax⟩;simp only at hu cv ax;simp only[go_sem];refine⟨by omega,by omega,fun h5=>?_,fun h5=>?_⟩;refine⟨by omega,⟨by omega,by omega⟩,?_⟩;refine bj [16] false (cN I ax (V.getD (s.to.getD k 0).toNat 0)) ?_;rintro _ _ ⟨b4,g4,z,b5,-,rfl,rfl⟩;refine⟨(by repeat(first | exact trivial | refine⟨(fun h=>by cases h),?_⟩)),(fun h=>by cases h),?_⟩;simp only[go_sem];exact⟨fun e he=>by rw[List.mem_singleton] at he;subst he;rfl,by omega,(u+1,l++[z],b4,g4),⟨by simp only;omega,by simp only[List.length_append,List.length_singleton];omega,b5⟩,by simp only;omega,by rw[aw (i:=u) (n:=3) (by omega) (by decide)]⟩;exact⟨by omega,(k+1,S++[l],b3,g3),⟨by simp only;omega,by simp only[List.length_append,List.length_singleton];omega,ax⟩,by simp only;omega,by rw[a6 h4 cg]⟩;have W:=Z;generalize b2=a9 at W|-
   generalize g2=h9
   rotate_left)
  all_goals(
   refine bj [16] false (cN I W 16) ?_;rintro _ _ ⟨c1,k1,y1,a8,-,rfl,rfl⟩;refine⟨(by repeat(first | exact trivial | refine⟨(fun h=>by cases h),?_⟩)),(fun h=>by cases h),?_⟩;simp only[go_sem];refine⟨fun h5=>?_,fun _=>?_⟩
   rotate_left
   have ab:=a8;generalize c1=c9 at ab|-
   generalize k1=k9;generalize S=ad
   rotate_left
   simp only[Bool.and_eq_true,decide_eq_true_eq] at h5;refine bj [16] false (cN I a8 S.length) ?_;rintro _ _ ⟨c2,k2,e,bg,⟨e0,-,e1⟩,rfl,rfl⟩;refine⟨(by repeat(first | exact trivial | refine⟨(fun h=>by cases h),?_⟩)),(fun h=>by cases h),?_⟩;have e2:=e1 (by omega);obtain⟨e,rfl⟩:∃n:Nat,e=n:=⟨e.toNat,by omega⟩;have e3:e<S.length:=by omega
   simp only[go_sem];refine⟨e3,fun h6=>?_,fun _=>?_⟩
   rotate_left
   have ab:=bg;generalize c2=c9 at ab|-
   generalize k2=k9;generalize S=ad
   rotate_left
   with_reducible (repeat' apply And.intro)
   all_goals try omega
   all_goals first
    | (refine bj [16] false (cN I bg ((S.getD e []).length:Nat)) ?_
       rintro _ _ ⟨c3,k3,u,b9,⟨u0,-,u1⟩,rfl,rfl⟩;refine⟨(by repeat(first | exact trivial | refine⟨(fun h=>by cases h),?_⟩)),(fun h=>by cases h),?_⟩;have u2:=u1 (by omega);obtain⟨u,rfl⟩:∃n:Nat,u=n:=⟨u.toNat,by omega⟩;simp only[go_sem]
       with_reducible (repeat' apply And.intro)
       all_goals try omega
       refine bj [16] false (cN I b9 5) ?_;rintro _ _ ⟨c9,k9,v,ab,-,rfl,rfl⟩;refine⟨(by repeat(first | exact trivial | refine⟨(fun h=>by cases h),?_⟩)),(fun h=>by cases h),?_⟩;simp only[go_sem]
       with_reducible (repeat' apply And.intro)
       all_goals try omega
       generalize S.set e ((S.getD e []).set u _)=ad)
    | skip
   all_goals(
    refine bj [16] false (cN I ab 40) ?_;rintro _ _ ⟨d1,j1,y2,bF,-,rfl,rfl⟩;refine⟨(by repeat(first | exact trivial | refine⟨(fun h=>by cases h),?_⟩)),(fun h=>by cases h),?_⟩;simp only[go_sem];refine⟨fun h7=>?_,fun _=>⟨_,_,⟨d1,j1,V,ad,bF,rfl,rfl⟩,rfl,rfl,rfl,trivial⟩⟩;simp only[Bool.and_eq_true,decide_eq_true_eq] at h7;refine bj [16,1002] false (JD I bF [-1,17] (by decide)) ?_;rintro _ _ ⟨d2,j2,y3,cd,-,rfl,rfl⟩;refine⟨(by repeat(first | exact trivial | refine⟨(fun h=>by cases h),?_⟩)),(fun h=>by cases h),?_⟩;simp only[go_sem]
    exact⟨⟨by omega,by omega⟩,by omega,_,_,⟨d2,j2,_,ad,cd,rfl,rfl⟩,rfl,rfl,rfl,trivial⟩))
end Go.D3
