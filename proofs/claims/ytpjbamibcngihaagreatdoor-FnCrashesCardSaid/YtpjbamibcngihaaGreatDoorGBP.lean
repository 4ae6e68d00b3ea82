/- CONTRACTS: drawn journals, often spoilt. -/
import Derived.Test.YtpjbamibcngihaaGreatDoorGBC
import Derived.Test.YtpjbamibcngihaaGreatDoorGBO
import Derived.Test.YtpjbamibcngihaaGreatDoorGBA
namespace Go.D3
open Go
set_option maxHeartbeats 4000000
set_option maxRecDepth 100000
def Ch:List Nat:=[0,2,3,4,5,6,8,9,10,11]
def Kf:Sl:=ak Go.Proofs.Tryz.types Go.Proofs.Tryz.f51 Ch [(0,28),(0,29),(0,32),(0,61),(0,62),(0,81)]
theorem SA:aF Go.Proofs.Tryz.prog Go.Proofs.Tryz.f51 Ch Kf 1=true:=by decide +kernel
theorem Vn{cc:List Int}(hcc:fq cc){a:Nat}{h:Int}(ha:a<=cc.length):bM Go.Proofs.Tryz.prog 51 [.aw 0 [(0,0)]] [bU cc a h] (vV cc 6000):=by
 refine dN .tree Go.Proofs.Tryz.func51 SA ?_;unfold Kf ak Ch;simp only[go_sem];refine bf [10] false (Va hcc ha) ?_;rintro _ _ ⟨a,h,m,ha,hm,rfl,rfl⟩;refine⟨(by repeat(first | exact trivial | refine⟨(fun h=>by cases h),?_⟩)),(fun h=>by cases h),?_⟩;have hok:=hm.ok;have hs:=eA (dM hok).1;simp only[go_sem];refine av (zw m (cJ hok)) rfl (.inl rfl) ?_;have hl:=hm.len;simp only[go_sem];refine⟨by simp only[maxLen];omega,by simp only[maxLen];omega,?_⟩;rw[show 115::99::104::101::109::97::32::(m.aL++[10])=cA m from by unfold cA;simp];refine bf [10] false (dG hcc ha 5) ?_;rintro _ _ ⟨a,h,k,ha,⟨k0,-,k5⟩,rfl,rfl⟩;have k5:=k5 (by decide);refine⟨(by repeat(first | exact trivial | refine⟨(fun h=>by cases h),?_⟩)),(fun h=>by cases h),?_⟩;obtain⟨k,rfl⟩:∃n:Nat,k=n:=⟨k.toNat,by omega⟩;simp only[go_sem];refine aE [5,6,7,8,9] (fun(p:Nat×List UInt8×Nat×Int)=>[(3,.str p.2.1),(4,.int .i64 p.1),(10,bU cc p.2.2.1 p.2.2.2)]) (fun p=>p.1<=k/\(p.2.1.length<=6000/\∃H,bn p.2.1=some (m,H))/\p.2.2.1<=cc.length) (fun p=>p.1) (k,cA m,a,h) (by simp only[go_sem];rfl) ⟨Nat.le_refl _,⟨P0 hm,P3 hm⟩,ha⟩ rfl ?_;rintro⟨j,t,a,h⟩ ⟨hj,⟨ht,H,hH⟩,ha⟩;simp only at hj ht hH ha;simp only[go_sem];refine⟨fun h1=>?_,fun h1=>?_⟩
 ·refine en [] false (u4 t (by omega)) ?_
  obtain⟨-,hHk⟩:=gJ hH;have hdl:=hHk.dl;have h6:=hHk.t6;have hgl:=hHk.gl;have hcom:=fun l=>Ml t l hH
  have hcm:=fun l=>HQ t l (by omega)
  simp only[hH,lv,Hs.pl];simp only[go_sem];simp only at hHk hdl h6 hgl;have hlast:=u7 (bX.of m H) (by show 0<H.dt.length;omega) (by show H.dt.length<=_;omega);rw[tO] at hlast;refine en [] false hlast ?_;simp only[go_sem];refine bf [10] false (H5 hcc ha m H.last hok hs hHk.last) ?_;rintro _ _ ⟨a,h,l,ha,rfl,rfl⟩;refine⟨(by repeat(first | exact trivial | refine⟨(fun h=>by cases h),?_⟩)),(fun h=>by cases h),?_⟩;simp only[go_sem];refine bf [10] false (dG hcc ha 4) ?_;rintro _ _ ⟨a,h,x,ha,-,rfl,rfl⟩;refine⟨(by repeat(first | exact trivial | refine⟨(fun h=>by cases h),?_⟩)),(fun h=>by cases h),?_⟩;simp only[go_sem];refine⟨fun h2=>?_,fun h2=>?_⟩
  case' refine_1 =>
   refine bf [10] false (u6 hcc ha m H.last hs hHk.last) ?_;rintro _ _ ⟨a,h,c,ha,rfl,rfl⟩;refine⟨(by repeat(first | exact trivial | refine⟨(fun h=>by cases h),?_⟩)),(fun h=>by cases h),?_⟩;simp only[go_sem];obtain⟨u,e,hc,hu⟩:=hcom [c];have hcm:=hcm [c]
  case' refine_2 =>
   obtain⟨u,e,hc,hu⟩:=hcom l;have hcm:=hcm l
  all_goals
   rw[hc] at hcm;refine av hcm rfl (.inl rfl) ?_;simp only[go_sem];have hw:IntKind.i64.wrap ((j:Int)-1)=((j-1:Nat):Int):=by rw[wrap_small (by omega) (by omega)];omega
   refine⟨fun h3=>⟨(j-1,u,a,h),⟨by simp only;omega,hu (by simpa using h3),ha⟩,by simp only;omega,by rw[hw]⟩,fun h3=>⟨(j-1,t,a,h),⟨by simp only;omega,⟨ht,H,hH⟩,ha⟩,by simp only;omega,by rw[hw]⟩⟩
 ·exact⟨_,_,⟨a,h,t,ha,ht,rfl,rfl⟩,rfl,rfl,rfl,trivial⟩
end Go.D3
namespace Go.D3
open Go
set_option maxRecDepth 100000
def B6:List Nat:=[0,2,3,7,8]
def J4:Sl:=ak Go.Proofs.Tryz.types Go.Proofs.Tryz.f27 B6 [(0,29),(0,51),(0,52)]
theorem Sn:aF Go.Proofs.Tryz.prog Go.Proofs.Tryz.f27 B6 J4 1=true:=by decide +kernel
theorem H4{cc:List Int}(hcc:fq cc){a:Nat}{h:Int}(ha:a<=cc.length):bM Go.Proofs.Tryz.prog 27 [.aw 0 [(0,0)]] [bU cc a h] (vV cc 6020):=by
 refine dN .tree Go.Proofs.Tryz.func27 Sn ?_;unfold J4 ak B6;simp only[go_sem];refine bf [5] false (Vn hcc ha) ?_;rintro _ _ ⟨a,h,t,ha,ht,rfl,rfl⟩;refine⟨(by repeat(first | exact trivial | refine⟨(fun h=>by cases h),?_⟩)),(fun h=>by cases h),?_⟩;simp only[go_sem];refine bf [5] false (dG hcc ha 8) ?_;rintro _ _ ⟨a,h,x,ha,-,rfl,rfl⟩;refine⟨(by repeat(first | exact trivial | refine⟨(fun h=>by cases h),?_⟩)),(fun h=>by cases h),?_⟩;simp only[go_sem];have hw:IntKind.i64.wrap ((t.length:Int)+1)=(t.length:Int)+1:=wrap_small (by omega) (by omega);rw[hw]
 with_reducible (repeat' first | apply And.intro | intro _)
 all_goals(first
  | (simp only[maxLen];omega)
  | exact⟨_,_,⟨a,h,_,ha,by simp only[List.length_append,List.length_cons,List.length_nil];omega,rfl,rfl⟩,rfl,rfl,rfl,trivial⟩
  | exact⟨_,_,⟨a,h,t,ha,by omega,rfl,rfl⟩,rfl,rfl,rfl,trivial⟩
  | (refine bf [5] false (UR hcc ha t (by omega)) ?_
     rintro _ _ ⟨a,h,u,ha,hu,rfl,rfl⟩;refine⟨(by repeat(first | exact trivial | refine⟨(fun h=>by cases h),?_⟩)),(fun h=>by cases h),?_⟩;simp only[go_sem]
     exact⟨_,_,⟨a,h,u,ha,by omega,rfl,rfl⟩,rfl,rfl,rfl,trivial⟩)
  | (refine bf [5] false (dG hcc ha ((t.length:Int)+1)) ?_
     rintro _ _ ⟨a,h,k,ha,⟨k0,-,k1⟩,rfl,rfl⟩;refine⟨(by repeat(first | exact trivial | refine⟨(fun h=>by cases h),?_⟩)),(fun h=>by cases h),?_⟩;have k1:=k1 (by omega);obtain⟨k,rfl⟩:∃n:Nat,k=n:=⟨k.toNat,by omega⟩;simp only[go_sem]
     exact⟨⟨Nat.zero_le _,by omega⟩,_,_,⟨a,h,t.take k,ha,by rw[List.length_take];omega,rfl,rfl⟩,rfl,rfl,rfl,trivial⟩))
end Go.D3
