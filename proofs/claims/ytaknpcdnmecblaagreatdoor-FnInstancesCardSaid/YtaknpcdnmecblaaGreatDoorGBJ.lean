/- CONTRACTS: drawn categories, the reference's side. -/
import Derived.Test.YtaknpcdnmecblaaGreatDoorGBH
import Derived.Test.YtaknpcdnmecblaaGreatDoorGBI
namespace Go.D3
open Go Proofs
set_option maxHeartbeats 4000000
set_option maxRecDepth 100000
def NQ(I:List Int)(ob ar:Int)(rc:D)(gs:List D):Prop:=∃(a:Nat)(h:Int)(c:af),a<=I.length/\c.Shape/\c.ob<=ob/\(c.fr.length:Int)<=ar/\rc=.o c.d/\gs=[bR I a h]
def Dx:List Nat:=[0,1,2,6,7,8]
def LA:Sl:=ah Tryz.types Tryz.f85 Dx [(0,84),(0,151),(15,46)]
theorem Vd:aE Tryz.prog Tryz.f85 Dx LA 3=true:=by decide +kernel
theorem YT{cc:List Int}(S:ij cc){a:Nat}{h:Int}(ha:a<=cc.length)(ob ar:Int)(a6 : 1<=ob)(ax : 1<=ar):bn Tryz.prog 85 [.aG 0 [(0,0)],.int .i64 ob,.int .i64 ar] [bR cc a h] (NQ cc ob ar):=by
 refine dB .tree Tryz.func85 Vd ?_;unfold LA ah Dx;simp only[go_sem];refine au [5] (fun(p:Nat×Nat×Int)=>[(4,.int .i64 p.1),(6,bR cc p.2.1 p.2.2)]) (fun p=>p.1<=12/\p.2.1<=cc.length) (fun p=>12-p.1) (0,a,h) (by simp only[go_sem];rfl) ⟨Nat.zero_le _,ha⟩ rfl ?_;rintro⟨t,a1,h1⟩ ⟨ht,Z⟩;simp only at ht Z;simp only[go_sem];refine⟨fun h2=>?_,fun h2=>?_⟩
 ·refine bj [6] false (Ba S Z) ?_
  rintro _ _ ⟨a2,h3,c,ao,hc,rfl,rfl⟩;refine⟨(by repeat(first | exact trivial | refine⟨(fun h=>by cases h),?_⟩)),(fun h=>by cases h),?_⟩;simp only[go_sem];refine bj [6] false (cN S ao 5) ?_;rintro _ _ ⟨a3,h4,x,ad,-,rfl,rfl⟩;refine⟨(by repeat(first | exact trivial | refine⟨(fun h=>by cases h),?_⟩)),(fun h=>by cases h),?_⟩;simp only[go_sem];have Y:c.Wf/\c.ob<=8/\c.fr.length<=32:=⟨hc.wf,by have:=hc.ob;omega,by have:=hc.ar;omega⟩;refine⟨fun _=>⟨?_,?_⟩,fun _=>?_⟩
  rotate_left 2
  have ab:=ad;generalize a3=a9 at ab|-
  generalize h4=h9;generalize c=cs at Y|-
  rotate_left
  all_goals first
   | (refine bj [6] false (Ba S ad) ?_
      rintro _ _ ⟨a9,h9,c2,ab,I,rfl,rfl⟩;refine⟨(by repeat(first | exact trivial | refine⟨(fun h=>by cases h),?_⟩)),(fun h=>by cases h),?_⟩;simp only[go_sem];refine aj (JI c c2 Y.1 I.wf (by omega) (by have:=I.ar;omega) (by omega) (by have:=I.ob;omega)) rfl (.inl (dA _)) ?_;simp only[go_sem]
      have Y:(aS c c2).Wf/\(aS c c2).ob<=8/\(aS c c2).fr.length<=32:=by
       have e:=aaL (c:=c) (d:=c2);have:=I.ar;have:=I.ob;have:=hc.ar;have:=hc.ob;exact⟨BO hc.wf I.wf,by omega,by omega⟩
      generalize aS c c2=cs at Y|-)
   | skip
  all_goals(
   refine bj [6] false (cN S ab 8) ?_;rintro _ _ ⟨b1,g1,y,ag,-,rfl,rfl⟩;refine⟨(by repeat(first | exact trivial | refine⟨(fun h=>by cases h),?_⟩)),(fun h=>by cases h),?_⟩;simp only[go_sem];have hR:cs.Wf:=Y.1;refine⟨fun _=>⟨?_,?_⟩,fun _=>?_⟩
   rotate_left 2
   have V:=ag;generalize b1=b9 at V|-
   generalize g1=g9;generalize cs=cp at hR|-
   rotate_left
   all_goals first
    | (refine bj [6] false (Ba S ag) ?_
       rintro _ _ ⟨b9,g9,c3,V,W,rfl,rfl⟩;refine⟨(by repeat(first | exact trivial | refine⟨(fun h=>by cases h),?_⟩)),(fun h=>by cases h),?_⟩;simp only[go_sem];refine aj (YY cs c3 Y.1 W.wf (by omega) (by have:=W.ar;omega) (by omega) (by have:=W.ob;omega)) rfl (.inl (dA _)) ?_;simp only[go_sem];have hR:(gX cs c3).Wf:=WY Y.1 W.wf
       generalize gX cs c3=cp at hR|-)
    | skip)
  all_goals(
   refine bf (fun _=>JF cp) rfl (fun h=>h) (.inl rfl) ?_;simp only[go_sem];refine⟨fun hq=>?_,fun _=>⟨(t+1,b9,g9),⟨by simp only;omega,V⟩,by simp only;omega,by rw[aw (n:=12) (by omega) (by decide)]⟩⟩;simp only[Bool.and_eq_true,decide_eq_true_eq] at hq
   exact⟨_,_,⟨b9,g9,cp,V,hR.shape (by omega) (by omega),by omega,by omega,rfl,rfl⟩,rfl,rfl,rfl,trivial⟩)
 ·refine aj A7 rfl (.inl (dA _)) ?_
  simp only[go_sem];exact⟨_,_,⟨a1,h1,jX,Z,vC.wf.shape (by decide) (by decide),a6,ax,rfl,rfl⟩,rfl,rfl,rfl,trivial⟩
end Go.D3
