/- CONTRACTS: drawn schemas, drawn changes. -/
import Derived.Test.YtpjbamibcngihaaGreatDoorGBC
import Derived.Test.YtpjbamibcngihaaGreatDoorGAO
import Derived.Test.YtpjbamibcngihaaGreatDoorGAQ
import Derived.Test.YtpjbamibcngihaaGreatDoorGBL
import Derived.Test.YtpjbamibcngihaaGreatDoorGAT
namespace Go.D3
open Go
set_option maxHeartbeats 4000000
set_option maxRecDepth 100000
def Kj(s:aa):D:=.agg [.int .i64 s.nd,.vw (ints s.fr),.vw (ints s.to),.vw (ae U.d U.zero s.lf),.vw (ae U.d U.zero s.rt)]
attribute [go_sem] Kj.eq_1
def Li(cc:List Int)(rc:D)(gs:List D):Prop:=∃(a:Nat)(h:Int)(s:aa),a<=cc.length/\oP s/\rc=.o (Kj s)/\gs=[bU cc a h]
def BT:List Nat:=[0,2,3,4]
def JR:Sl:=ak Go.Proofs.Tryz.types Go.Proofs.Tryz.f81 BT [(0,29),(0,82)]
theorem R5:aF Go.Proofs.Tryz.prog Go.Proofs.Tryz.f81 BT JR 1=true:=by decide +kernel
theorem Va{cc:List Int}(hcc:fq cc){a:Nat}{h:Int}(ha:a<=cc.length):bM Go.Proofs.Tryz.prog 81 [.aw 0 [(0,0)]] [bU cc a h] (Li cc):=by
 refine dN .tree Go.Proofs.Tryz.func81 R5 ?_;unfold JR ak BT;simp only[go_sem];refine bf [4] false (dG hcc ha 20) ?_;rintro _ _ ⟨a1,h1,x1,ha1,⟨x0,-,x4⟩,rfl,rfl⟩;refine⟨(by repeat(first | exact trivial | refine⟨(fun h=>by cases h),?_⟩)),(fun h=>by cases h),?_⟩;obtain⟨k,rfl⟩:∃k:Nat,x1=k:=⟨x1.toNat,by omega⟩;have hk:k<20:=by have:=x4 (by decide);omega
 obtain⟨s,hs,hs1,hs2⟩:=NY hk;have e:=Ae (L:=mn) (k:=k);generalize mn.getD k ([]:List UInt8)=u at e hs hs2;simp only[mn,List.map_cons,List.map_nil] at e;simp only[go_sem,e,Ad];refine⟨hk,?_⟩;have hp:=HR u (by omega);rw[hs] at hp;refine en [] false (aC.view (xs:=[.str u]) (by decide +kernel) (fun x hx=>by simp at hx;subst hx;trivial) rfl hp) ?_;unfold kA;simp only[go_sem];exact⟨_,_,⟨a1,h1,s,ha1,hs1,rfl,rfl⟩,rfl,rfl,rfl,trivial⟩
def Le(cc:List Int)(rc:D)(gs:List D):Prop:=∃(a:Nat)(h:Int)(x:ah),a<=cc.length/\rc=.o (ah.d x)/\gs=[bU cc a h]
def B3:List Nat:=[0,1,2,6,4,5,7]
def J1:Sl:=ak Go.Proofs.Tryz.types Go.Proofs.Tryz.f61 B3 [(0,29),(0,30)]
theorem Sj:aF Go.Proofs.Tryz.prog Go.Proofs.Tryz.f61 B3 J1 3=true:=by decide +kernel
theorem u6{cc:List Int}(hcc:fq cc){a:Nat}{h:Int}(ha:a<=cc.length)(s:aa)(d:af)(hs:cQ s)(hd:br s d):bM Go.Proofs.Tryz.prog 61 [.aw 0 [(0,0)],aa.d s,af.d d] [bU cc a h] (Le cc):=by
 refine dN .tree Go.Proofs.Tryz.func61 Sj ?_;unfold J1 ak B3;simp only[go_sem];have hf8:=hs.f8;have hto:=hs.to;have hmp:=hd.mp;have hnd:=hd.nd;refine bf [7] false (dG hcc ha 4) ?_;rintro _ _ ⟨a1,h1,x1,ha1,-,rfl,rfl⟩;refine⟨(by repeat(first | exact trivial | refine⟨(fun h=>by cases h),?_⟩)),(fun h=>by cases h),?_⟩;simp only[go_sem];refine⟨fun h=>by rw[h];rfl,fun h2=>?_,fun h2=>?_⟩
 ·refine bf [7] false (zt hcc ha1 s.nd) ?_
  rintro _ _ ⟨a2,h3,x2,ha2,rfl,rfl⟩;refine⟨(by repeat(first | exact trivial | refine⟨(fun h=>by cases h),?_⟩)),(fun h=>by cases h),?_⟩;simp only[go_sem];exact⟨_,_,⟨a2,h3,⟨1,x2,0,0⟩,ha2,rfl,rfl⟩,rfl,rfl,rfl,trivial⟩
 ·simp only[Bool.or_eq_false_iff,beq_eq_false_iff_ne] at h2
  refine bf [7] false (dG hcc ha1 s.fr.length) ?_;rintro _ _ ⟨a2,h3,e,ha2,⟨e0,-,e1⟩,rfl,rfl⟩;refine⟨(by repeat(first | exact trivial | refine⟨(fun h=>by cases h),?_⟩)),(fun h=>by cases h),?_⟩;have e2:=e1 (by omega);obtain⟨e,rfl⟩:∃n:Nat,e=n:=⟨e.toNat,by omega⟩;simp only[go_sem];have hF:=ew hs.fr (i:=e) (by omega);have hT:=ew hs.qe (i:=e) (by omega)
  with_reducible (repeat' apply And.intro)
  all_goals(first
   | omega
   | (refine bf [7] false (zt hcc ha2 (d.sz.getD (s.fr.getD e 0).toNat 0)) ?_
      rintro _ _ ⟨a3,h4,u,ha3,rfl,rfl⟩;refine⟨(by repeat(first | exact trivial | refine⟨(fun h=>by cases h),?_⟩)),(fun h=>by cases h),?_⟩;simp only[go_sem]
      with_reducible (repeat' apply And.intro)
      all_goals(first
       | omega
       | (refine bf [7] false (zt hcc ha3 (d.sz.getD (s.to.getD e 0).toNat 0)) ?_
          rintro _ _ ⟨a4,h5,v,ha4,rfl,rfl⟩;refine⟨(by repeat(first | exact trivial | refine⟨(fun h=>by cases h),?_⟩)),(fun h=>by cases h),?_⟩;simp only[go_sem]
          exact⟨_,_,⟨a4,h5,⟨2,e,u,v⟩,ha4,rfl,rfl⟩,rfl,rfl,rfl,trivial⟩))))
end Go.D3
