/- CONTRACTS: the draw of FnSources,the draw of FnStates. -/
import Derived.Test.YtpjbamibcngihaaGreatDoorGBL
import Derived.Test.YtpjbamibcngihaaGreatDoorGAW
namespace Go.D3
open Go
set_option maxHeartbeats 4000000
set_option maxRecDepth 100000
def Wn(rc:D)(gs:List D):Prop:=gs=[]/\∃(t:List UInt8)(k r:Int),t.length<=6020/\rc=.o (.au [.str t,.int .i64 k,.int .i64 r])
def wu:List Nat:=[0,2,3,4,5,6,7,8,9]
def Cm:Sl:=ak Go.Proofs.Tryz.types Go.Proofs.Tryz.f7 wu [(0,26),(0,27),(0,28),(0,29),(0,30),(0,32),(1,26)]
theorem K4:aI Go.Proofs.Tryz.prog Go.Proofs.Tryz.f7 wu Cm 1=true:=by decide +kernel
theorem KQ{c:List Int}(hc:ir c):bR Go.Proofs.Tryz.prog 7 [ae (D.int .u8) 0 c] [] Wn:=by
 refine eu .tree Go.Proofs.Tryz.func7 K4 ?_;unfold Cm ak wu;simp only[go_sem];refine bm [] false (LB c hc) ?_;rintro _ _ ⟨rfl,h,rfl⟩;refine⟨(by repeat(first | exact trivial | refine⟨(fun h=>by cases h),?_⟩)),(fun h=>by cases h),?_⟩;unfold cE;simp only[go_sem];refine bm [4] false (Lx hc (Nat.zero_le _)) ?_;rintro _ _ ⟨a,h,t,ha,ht,rfl,rfl⟩;refine⟨(by repeat(first | exact trivial | refine⟨(fun h=>by cases h),?_⟩)),(fun h=>by cases h),?_⟩;simp only[go_sem];refine eD [] false (tf t (by omega)) ?_;cases hr:bO t with
 | none =>
  simp only[lu];simp only[go_sem];refine bm [4] false (dj hc ha 2) ?_;rintro _ _ ⟨a,h,x,ha,-,rfl,rfl⟩;refine⟨(by repeat(first | exact trivial | refine⟨(fun h=>by cases h),?_⟩)),(fun h=>by cases h),?_⟩;simp only[go_sem];refine bm [4] false (dj hc ha 2) ?_;rintro _ _ ⟨a,h,y,ha,-,rfl,rfl⟩;refine⟨(by repeat(first | exact trivial | refine⟨(fun h=>by cases h),?_⟩)),(fun h=>by cases h),?_⟩;simp only[go_sem];exact⟨_,_,⟨rfl,t,x,y,ht,rfl⟩,rfl,rfl,trivial⟩
 | some p =>
  obtain⟨hok,hH⟩:=jT hr;have hs:=eQ (eK hok).1;have hdl:=hH.dl;have h6:=hH.t6;have hgl:=hH.gl;simp only[lu,Hs.pl];simp only[go_sem];refine⟨fun h1=>?_,fun h1=>?_⟩
  ·refine bm [4] false (dj hc ha 2) ?_
   rintro _ _ ⟨a,h,x,ha,-,rfl,rfl⟩;refine⟨(by repeat(first | exact trivial | refine⟨(fun h=>by cases h),?_⟩)),(fun h=>by cases h),?_⟩;simp only[go_sem];refine bm [4] false (dj hc ha 2) ?_;rintro _ _ ⟨a,h,y,ha,-,rfl,rfl⟩;refine⟨(by repeat(first | exact trivial | refine⟨(fun h=>by cases h),?_⟩)),(fun h=>by cases h),?_⟩;simp only[go_sem];exact⟨_,_,⟨rfl,t,x,y,ht,rfl⟩,rfl,rfl,trivial⟩
  ·refine bm [4] false (qb hc ha p.1.fr.length) ?_
   rintro _ _ ⟨a,h,k,ha,rfl,rfl⟩;refine⟨(by repeat(first | exact trivial | refine⟨(fun h=>by cases h),?_⟩)),(fun h=>by cases h),?_⟩;simp only[go_sem];refine ax (jK _ _ _) rfl (.inl rfl) ?_;simp only[go_sem];have hf8:=hs.f8;rw[wrap_small (n:=(p.1.fr.length:Int)-1) (by omega) (by omega)];refine⟨fun h2=>⟨_,_,⟨rfl,t,k,0,ht,rfl⟩,rfl,rfl,trivial⟩,fun h2=>?_⟩;have hk : 0<=k/\k<p.1.fr.length:=by simp[aL] at h2;omega
   obtain⟨k,rfl⟩:∃n:Nat,k=n:=⟨k.toNat,by omega⟩;have hF:=dJ hs.fr (i:=k) (by omega);have hnd:=hH.last.nd;have hlast:=wG (bT.of p.1 p.2) (by show 0<p.2.dt.length;omega) (by show p.2.dt.length<=_;omega);rw[tI] at hlast
   with_reducible (repeat' apply And.intro)
   all_goals(first
    | omega
    | (refine eD [] false hlast ?_
       simp only[go_sem]
       with_reducible (repeat' apply And.intro)
       all_goals(first
        | omega
        | (refine bm [4] false (qb hc ha (p.2.last.sz.getD (p.1.fr.getD k 0).toNat 0)) ?_
           rintro _ _ ⟨a,h,r,ha,rfl,rfl⟩;refine⟨(by repeat(first | exact trivial | refine⟨(fun h=>by cases h),?_⟩)),(fun h=>by cases h),?_⟩;simp only[go_sem]
           exact⟨_,_,⟨rfl,t,k,r,ht,rfl⟩,rfl,rfl,trivial⟩))))
end Go.D3
