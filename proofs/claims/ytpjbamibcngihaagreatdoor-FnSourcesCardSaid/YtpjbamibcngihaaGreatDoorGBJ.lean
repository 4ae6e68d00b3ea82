/- CONTRACTS: drawn schemas,drawn changes. -/
import Derived.Test.YtpjbamibcngihaaGreatDoorGAY
import Derived.Test.YtpjbamibcngihaaGreatDoorGAO
import Derived.Test.YtpjbamibcngihaaGreatDoorGAQ
import Derived.Test.YtpjbamibcngihaaGreatDoorGBH
import Derived.Test.YtpjbamibcngihaaGreatDoorGAT
namespace Go.D3
open Go
set_option maxHeartbeats 4000000
set_option maxRecDepth 100000
def Jk(s:aa):D:=.agg [.int .i64 s.nd,.vw (ints s.fr),.vw (ints s.to),.vw (ae U.d U.zero s.lf),.vw (ae U.d U.zero s.rt)]
attribute [go_sem] Jk.eq_1
def Wq(cc:List Int)(rc:D)(gs:List D):Prop:=∃(a:Nat)(h:Int)(s:aa),a<=cc.length/\pL s/\rc=.o (Jk s)/\gs=[cE cc a h]
def wA:List Nat:=[0,2,3,4]
def CR:Sl:=ak Go.Proofs.Tryz.types Go.Proofs.Tryz.f81 wA [(0,29),(0,82)]
theorem Lp:aI Go.Proofs.Tryz.prog Go.Proofs.Tryz.f81 wA CR 1=true:=by decide +kernel
theorem Lc{cc:List Int}(hcc:ir cc){a:Nat}{h:Int}(ha:a<=cc.length):bR Go.Proofs.Tryz.prog 81 [.av 0 [(0,0)]] [cE cc a h] (Wq cc):=by
 refine eu .tree Go.Proofs.Tryz.func81 Lp ?_;unfold CR ak wA;simp only[go_sem];refine bm [4] false (dj hcc ha 20) ?_;rintro _ _ ⟨a1,h1,x1,ha1,⟨x0,-,x4⟩,rfl,rfl⟩;refine⟨(by repeat(first | exact trivial | refine⟨(fun h=>by cases h),?_⟩)),(fun h=>by cases h),?_⟩;obtain⟨k,rfl⟩:∃k:Nat,x1=k:=⟨x1.toNat,by omega⟩;have hk:k<20:=by have:=x4 (by decide);omega
 obtain⟨s,hs,hs1,hs2⟩:=VO hk;have e:=z8 (L:=mY) (k:=k);generalize mY.getD k ([]:List UInt8)=u at e hs hs2;simp only[mY,List.map_cons,List.map_nil] at e;simp only[go_sem,e,yX];refine⟨hk,?_⟩;have hp:=BT u (by omega);rw[hs] at hp;refine eD [] false (aC.view (xs:=[.str u]) (by decide +kernel) (fun x hx=>by simp at hx;subst hx;trivial) rfl hp) ?_;unfold kC;simp only[go_sem];exact⟨_,_,⟨a1,h1,s,ha1,hs1,rfl,rfl⟩,rfl,rfl,rfl,trivial⟩
def Wr(cc:List Int)(rc:D)(gs:List D):Prop:=∃(a:Nat)(h:Int)(x:ah),a<=cc.length/\rc=.o (ah.d x)/\gs=[cE cc a h]
def xD:List Nat:=[0,1,2,6,4,5,7]
def DK:Sl:=ak Go.Proofs.Tryz.types Go.Proofs.Tryz.f61 xD [(0,29),(0,30)]
theorem MN:aI Go.Proofs.Tryz.prog Go.Proofs.Tryz.f61 xD DK 3=true:=by decide +kernel
theorem C1{cc:List Int}(hcc:ir cc){a:Nat}{h:Int}(ha:a<=cc.length)(s:aa)(d:af)(hs:dT s)(hd:bX s d):bR Go.Proofs.Tryz.prog 61 [.av 0 [(0,0)],aa.d s,af.d d] [cE cc a h] (Wr cc):=by
 refine eu .tree Go.Proofs.Tryz.func61 MN ?_;unfold DK ak xD;simp only[go_sem];have hf8:=hs.f8;have hto:=hs.to;have hmp:=hd.mp;have hnd:=hd.nd;refine bm [7] false (dj hcc ha 4) ?_;rintro _ _ ⟨a1,h1,x1,ha1,-,rfl,rfl⟩;refine⟨(by repeat(first | exact trivial | refine⟨(fun h=>by cases h),?_⟩)),(fun h=>by cases h),?_⟩;simp only[go_sem];refine⟨fun h=>by rw[h];rfl,fun h2=>?_,fun h2=>?_⟩
 ·refine bm [7] false (qb hcc ha1 s.nd) ?_
  rintro _ _ ⟨a2,h3,x2,ha2,rfl,rfl⟩;refine⟨(by repeat(first | exact trivial | refine⟨(fun h=>by cases h),?_⟩)),(fun h=>by cases h),?_⟩;simp only[go_sem];exact⟨_,_,⟨a2,h3,⟨1,x2,0,0⟩,ha2,rfl,rfl⟩,rfl,rfl,rfl,trivial⟩
 ·simp only[Bool.or_eq_false_iff,beq_eq_false_iff_ne] at h2
  refine bm [7] false (dj hcc ha1 s.fr.length) ?_;rintro _ _ ⟨a2,h3,e,ha2,⟨e0,-,e1⟩,rfl,rfl⟩;refine⟨(by repeat(first | exact trivial | refine⟨(fun h=>by cases h),?_⟩)),(fun h=>by cases h),?_⟩;have e2:=e1 (by omega);obtain⟨e,rfl⟩:∃n:Nat,e=n:=⟨e.toNat,by omega⟩;simp only[go_sem];have hF:=dJ hs.fr (i:=e) (by omega);have hT:=dJ hs.pT (i:=e) (by omega)
  with_reducible (repeat' apply And.intro)
  all_goals(first
   | omega
   | (refine bm [7] false (qb hcc ha2 (d.sz.getD (s.fr.getD e 0).toNat 0)) ?_
      rintro _ _ ⟨a3,h4,u,ha3,rfl,rfl⟩;refine⟨(by repeat(first | exact trivial | refine⟨(fun h=>by cases h),?_⟩)),(fun h=>by cases h),?_⟩;simp only[go_sem]
      with_reducible (repeat' apply And.intro)
      all_goals(first
       | omega
       | (refine bm [7] false (qb hcc ha3 (d.sz.getD (s.to.getD e 0).toNat 0)) ?_
          rintro _ _ ⟨a4,h5,v,ha4,rfl,rfl⟩;refine⟨(by repeat(first | exact trivial | refine⟨(fun h=>by cases h),?_⟩)),(fun h=>by cases h),?_⟩;simp only[go_sem]
          exact⟨_,_,⟨a4,h5,⟨2,e,u,v⟩,ha4,rfl,rfl⟩,rfl,rfl,rfl,trivial⟩))))
end Go.D3
