/- CONTRACTS: drawn journals,often spoilt. -/
import Derived.Test.YtpjbamibcngihaaGreatDoorGAY
import Derived.Test.YtpjbamibcngihaaGreatDoorGBK
import Derived.Test.YtpjbamibcngihaaGreatDoorGAX
namespace Go.D3
open Go
set_option maxHeartbeats 4000000
set_option maxRecDepth 100000
def w6:List Nat:=[0,2,3,4,5,6,8,9,10,11]
def Dq:Sl:=ak Go.Proofs.Tryz.types Go.Proofs.Tryz.f51 w6 [(0,28),(0,29),(0,32),(0,61),(0,62),(0,81)]
theorem Mk:aI Go.Proofs.Tryz.prog Go.Proofs.Tryz.f51 w6 Dq 1=true:=by decide +kernel
theorem Lw{cc:List Int}(hcc:ir cc){a:Nat}{h:Int}(ha:a<=cc.length):bR Go.Proofs.Tryz.prog 51 [.av 0 [(0,0)]] [cE cc a h] (Bi cc 6000):=by
 refine eu .tree Go.Proofs.Tryz.func51 Mk ?_;unfold Dq ak w6;simp only[go_sem];refine bm [10] false (Lc hcc ha) ?_;rintro _ _ ⟨a,h,m,ha,hm,rfl,rfl⟩;refine⟨(by repeat(first | exact trivial | refine⟨(fun h=>by cases h),?_⟩)),(fun h=>by cases h),?_⟩;have hok:=hm.ok;have hs:=eQ (eK hok).1;simp only[go_sem];refine ax (Cc m (cJ hok)) rfl (.inl rfl) ?_;have hl:=hm.len;simp only[go_sem];refine⟨by simp only[maxLen];omega,by simp only[maxLen];omega,?_⟩;rw[show 115::99::104::101::109::97::32::(m.aM++[10])=ju m from by unfold ju;simp];refine bm [10] false (dj hcc ha 5) ?_;rintro _ _ ⟨a,h,k,ha,⟨k0,-,k5⟩,rfl,rfl⟩;have k5:=k5 (by decide);refine⟨(by repeat(first | exact trivial | refine⟨(fun h=>by cases h),?_⟩)),(fun h=>by cases h),?_⟩;obtain⟨k,rfl⟩:∃n:Nat,k=n:=⟨k.toNat,by omega⟩;simp only[go_sem];refine aG [5,6,7,8,9] (fun(p:Nat×List UInt8×Nat×Int)=>[(3,.str p.2.1),(4,.int .i64 p.1),(10,cE cc p.2.2.1 p.2.2.2)]) (fun p=>p.1<=k/\(p.2.1.length<=6000/\∃H,bO p.2.1=some (m,H))/\p.2.2.1<=cc.length) (fun p=>p.1) (k,ju m,a,h) (by simp only[go_sem];rfl) ⟨Nat.le_refl _,⟨SY hm,Sk hm⟩,ha⟩ rfl ?_;rintro⟨j,t,a,h⟩ ⟨hj,⟨ht,H,hH⟩,ha⟩;simp only at hj ht hH ha;simp only[go_sem];refine⟨fun h1=>?_,fun h1=>?_⟩
 ·refine eD [] false (tf t (by omega)) ?_
  obtain⟨-,hHk⟩:=jT hH;have hdl:=hHk.dl;have h6:=hHk.t6;have hgl:=hHk.gl;have hcom:=fun l=>O3 t l hH
  have hcm:=fun l=>Ke t l (by omega)
  simp only[hH,lu,Hs.pl];simp only[go_sem];simp only at hHk hdl h6 hgl;have hlast:=wG (bT.of m H) (by show 0<H.dt.length;omega) (by show H.dt.length<=_;omega);rw[tI] at hlast;refine eD [] false hlast ?_;simp only[go_sem];refine bm [10] false (LD hcc ha m H.last hok hs hHk.last) ?_;rintro _ _ ⟨a,h,l,ha,rfl,rfl⟩;refine⟨(by repeat(first | exact trivial | refine⟨(fun h=>by cases h),?_⟩)),(fun h=>by cases h),?_⟩;simp only[go_sem];refine bm [10] false (dj hcc ha 4) ?_;rintro _ _ ⟨a,h,x,ha,-,rfl,rfl⟩;refine⟨(by repeat(first | exact trivial | refine⟨(fun h=>by cases h),?_⟩)),(fun h=>by cases h),?_⟩;simp only[go_sem];refine⟨fun h2=>?_,fun h2=>?_⟩
  case' refine_1 =>
   refine bm [10] false (C1 hcc ha m H.last hs hHk.last) ?_;rintro _ _ ⟨a,h,c,ha,rfl,rfl⟩;refine⟨(by repeat(first | exact trivial | refine⟨(fun h=>by cases h),?_⟩)),(fun h=>by cases h),?_⟩;simp only[go_sem];obtain⟨u,e,hc,hu⟩:=hcom [c];have hcm:=hcm [c]
  case' refine_2 =>
   obtain⟨u,e,hc,hu⟩:=hcom l;have hcm:=hcm l
  all_goals
   rw[hc] at hcm;refine ax hcm rfl (.inl rfl) ?_;simp only[go_sem];have hw:IntKind.i64.wrap ((j:Int)-1)=((j-1:Nat):Int):=by rw[wrap_small (by omega) (by omega)];omega
   refine⟨fun h3=>⟨(j-1,u,a,h),⟨by simp only;omega,hu (by simpa using h3),ha⟩,by simp only;omega,by rw[hw]⟩,fun h3=>⟨(j-1,t,a,h),⟨by simp only;omega,⟨ht,H,hH⟩,ha⟩,by simp only;omega,by rw[hw]⟩⟩
 ·exact⟨_,_,⟨a,h,t,ha,ht,rfl,rfl⟩,rfl,rfl,rfl,trivial⟩
end Go.D3
namespace Go.D3
open Go
set_option maxRecDepth 100000
def xo:List Nat:=[0,2,3,7,8]
def C5:Sl:=ak Go.Proofs.Tryz.types Go.Proofs.Tryz.f27 xo [(0,29),(0,51),(0,52)]
theorem L5:aI Go.Proofs.Tryz.prog Go.Proofs.Tryz.f27 xo C5 1=true:=by decide +kernel
theorem Lx{cc:List Int}(hcc:ir cc){a:Nat}{h:Int}(ha:a<=cc.length):bR Go.Proofs.Tryz.prog 27 [.av 0 [(0,0)]] [cE cc a h] (Bi cc 6020):=by
 refine eu .tree Go.Proofs.Tryz.func27 L5 ?_;unfold C5 ak xo;simp only[go_sem];refine bm [5] false (Lw hcc ha) ?_;rintro _ _ ⟨a,h,t,ha,ht,rfl,rfl⟩;refine⟨(by repeat(first | exact trivial | refine⟨(fun h=>by cases h),?_⟩)),(fun h=>by cases h),?_⟩;simp only[go_sem];refine bm [5] false (dj hcc ha 8) ?_;rintro _ _ ⟨a,h,x,ha,-,rfl,rfl⟩;refine⟨(by repeat(first | exact trivial | refine⟨(fun h=>by cases h),?_⟩)),(fun h=>by cases h),?_⟩;simp only[go_sem];have hw:IntKind.i64.wrap ((t.length:Int)+1)=(t.length:Int)+1:=wrap_small (by omega) (by omega);rw[hw]
 with_reducible (repeat' first | apply And.intro | intro _)
 all_goals(first
  | (simp only[maxLen];omega)
  | exact⟨_,_,⟨a,h,_,ha,by simp only[List.length_append,List.length_cons,List.length_nil];omega,rfl,rfl⟩,rfl,rfl,rfl,trivial⟩
  | exact⟨_,_,⟨a,h,t,ha,by omega,rfl,rfl⟩,rfl,rfl,rfl,trivial⟩
  | (refine bm [5] false (KN hcc ha t (by omega)) ?_
     rintro _ _ ⟨a,h,u,ha,hu,rfl,rfl⟩;refine⟨(by repeat(first | exact trivial | refine⟨(fun h=>by cases h),?_⟩)),(fun h=>by cases h),?_⟩;simp only[go_sem]
     exact⟨_,_,⟨a,h,u,ha,by omega,rfl,rfl⟩,rfl,rfl,rfl,trivial⟩)
  | (refine bm [5] false (dj hcc ha ((t.length:Int)+1)) ?_
     rintro _ _ ⟨a,h,k,ha,⟨k0,-,k1⟩,rfl,rfl⟩;refine⟨(by repeat(first | exact trivial | refine⟨(fun h=>by cases h),?_⟩)),(fun h=>by cases h),?_⟩;have k1:=k1 (by omega);obtain⟨k,rfl⟩:∃n:Nat,k=n:=⟨k.toNat,by omega⟩;simp only[go_sem]
     exact⟨⟨Nat.zero_le _,by omega⟩,_,_,⟨a,h,t.take k,ha,by rw[List.length_take];omega,rfl,rfl⟩,rfl,rfl,rfl,trivial⟩))
end Go.D3
