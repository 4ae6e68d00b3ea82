/- CONTRACTS: drawn schemas, the reference's side. -/
import Derived.Test.YtaknpcdnmecblaaGreatDoorGBA
import Derived.Test.YtaknpcdnmecblaaGreatDoorGBB
import Derived.Test.YtaknpcdnmecblaaGreatDoorGBC
import Derived.Test.YtaknpcdnmecblaaGreatDoorGBJ
import Derived.Test.YtaknpcdnmecblaaGreatDoorGBL
namespace Go.D3
open Go Proofs
set_option maxHeartbeats 4000000
set_option maxRecDepth 100000
def Zw(s:aa):D:=.agg [.int .i64 s.nd,.vw (ints s.fr),.vw (ints s.to),.vw (ae U.d U.zero s.lf),.vw (ae U.d U.zero s.rt)]
attribute [go_sem] Zw.eq_1
def Nz(I:List Int)(rc:D)(gs:List D):Prop:=∃(a:Nat)(h:Int)(s:aa),a<=I.length/\s.ok=true/\rc=.o (aa.d s)/\gs=[bR I a h]
def DW:List Nat:=[0,2,3,4]
def L5:Sl:=ah Tryz.types Tryz.f83 DW [(0,84)]
theorem VD:aE Tryz.prog Tryz.f83 DW L5 1=true:=by decide +kernel
theorem Zc{I:List Int}(V:ij I){a:Nat}{h:Int}(ha:a<=I.length):bn Tryz.prog 83 [.aG 0 [(0,0)]] [bR I a h] (Nz I):=by
 refine dB .tree Tryz.func83 VD ?_;unfold L5 ah DW;simp only[go_sem];refine bj [4] false (cN V ha 20) ?_;rintro _ _ ⟨a1,h1,x1,S,⟨x0,-,x4⟩,rfl,rfl⟩;refine⟨(by repeat(first | exact trivial | refine⟨(fun h=>by cases h),?_⟩)),(fun h=>by cases h),?_⟩;obtain⟨k,rfl⟩:∃k:Nat,x1=k:=⟨x1.toNat,by omega⟩;have hk:k<20:=by have:=x4 (by decide);omega
 obtain⟨s,Z,W,Y⟩:=Ri hk;have e:=aaJ (L:=og) (k:=k);generalize og.getD k ([]:List UInt8)=u at e Z Y;simp only[og,List.map_cons,List.map_nil] at e;simp only[go_sem,e,aaI];refine⟨hk,?_⟩;have hp:=YM u (by omega);rw[Z] at hp;refine aj hp rfl (.inl (WZ _)) ?_;unfold uu;simp only[go_sem];exact⟨_,_,⟨a1,h1,s,S,W.ok,rfl,rfl⟩,rfl,rfl,rfl,trivial⟩
def Nw(I:List Int)(rc:D)(gs:List D):Prop:=∃(a:Nat)(h:Int)(s:aa),a<=I.length/\rc=.o (aa.d s)/\gs=[bR I a h]
def DU:List Nat:=[0,2,3,4,5,6,23]
def L3:Sl:=ah Tryz.types Tryz.f37 DU [(0,83),(0,84),(0,85),(0,86),(0,87),(15,27),(15,35)]
theorem VB:aE Tryz.prog Tryz.f37 DU L3 1=true:=by decide +kernel
theorem Zb{cc:List Int}(S:ij cc){a:Nat}{h:Int}(ha:a<=cc.length):bn Tryz.prog 37 [.aG 0 [(0,0)]] [bR cc a h] (Nw cc):=by
 refine dB .tree Tryz.func37 VB ?_;unfold L3 ah DU;simp only[go_sem];refine bj [7] false (Zc S ha) ?_;rintro _ _ ⟨a1,h1,s,ad,Z,rfl,rfl⟩;refine⟨(by repeat(first | exact trivial | refine⟨(fun h=>by cases h),?_⟩)),(fun h=>by cases h),?_⟩;simp only[go_sem];refine bj [7] false (cN S ad 4) ?_;rintro _ _ ⟨a2,h2,x,ab,-,rfl,rfl⟩;refine⟨(by repeat(first | exact trivial | refine⟨(fun h=>by cases h),?_⟩)),(fun h=>by cases h),?_⟩;simp only[go_sem];refine⟨fun _=>?_,fun _=>?_⟩
 rotate_left
 have W:=ab;generalize a2=a9 at W|-
 generalize h2=h9;generalize s=I at Z|-
 rotate_left
 refine bj [7] false (YT S ab 4 9 (by decide) (by decide)) ?_;rintro _ _ ⟨a9,h9,c,W,hc,-,-,rfl,rfl⟩;refine⟨(by repeat(first | exact trivial | refine⟨(fun h=>by cases h),?_⟩)),(fun h=>by cases h),?_⟩;simp only[go_sem];refine bj [] true (YN c) ?_;rintro _ _ ⟨rfl,_,rfl,s2,e,rfl,he⟩;refine⟨(by repeat(first | exact trivial | refine⟨(fun h=>by cases h),?_⟩)),(fun _=>⟨?_,rfl⟩),?_⟩
 ·simp only[D.iF,D.pb,D.bA,eR,H4,Bool.and_true]
 simp only[go_sem];refine⟨fun h=>?_,fun _=>?_⟩;have Z:=he h;clear he;generalize s2=I at Z|-
 rotate_left
 generalize s=I at Z|-
 rotate_left
 all_goals(
  refine bj [7] false (cN S W 40) ?_;rintro _ _ ⟨b1,g1,y,V,-,rfl,rfl⟩;refine⟨(by repeat(first | exact trivial | refine⟨(fun h=>by cases h),?_⟩)),(fun h=>by cases h),?_⟩;have ag:=ic (eX Z).1;have ao:=ag.f8;have ax:=(eX Z).2.1;simp only[go_sem]
  refine⟨fun _=>?_,fun _=>⟨fun _=>?_,fun _=>⟨fun _=>?_,fun _=>?_⟩⟩⟩)
 all_goals first
  | exact⟨_,_,⟨b1,g1,I,V,rfl,rfl⟩,rfl,rfl,rfl,trivial⟩
  | (refine bj [7,1001] false (JD S V [-1,9,0] (by decide)) ?_
     rintro _ _ ⟨b2,g2,k,Y,-,rfl,rfl⟩;refine⟨(by repeat(first | exact trivial | refine⟨(fun h=>by cases h),?_⟩)),(fun h=>by cases h),?_⟩;simp only[go_sem]
     exact⟨_,_,⟨b2,g2,⟨_,I.fr,I.to,I.lf,I.rt⟩,Y,rfl,rfl⟩,rfl,rfl,rfl,trivial⟩)
  | (refine aj (eE I.fr (by omega)) rfl (.inl (bJ _)) ?_
     simp only[go_sem]
     refine⟨fun e he=>by rw[List.mem_singleton] at he;subst he;rfl,by omega,_,_,⟨b1,g1,⟨I.nd,I.fr++[0],I.to,I.lf,I.rt⟩,V,rfl,rfl⟩,rfl,rfl,rfl,trivial⟩)
  | (refine⟨zO,by rw[List.length_map];omega,?_⟩
     refine bj [7] false (cN S V 3) ?_;rintro _ _ ⟨b2,g2,z,Y,-,rfl,rfl⟩;refine⟨(by repeat(first | exact trivial | refine⟨(fun h=>by cases h),?_⟩)),(fun h=>by cases h),?_⟩;simp only[go_sem]
     exact⟨by omega,_,_,⟨b2,g2,⟨I.nd,I.fr,I.to,I.lf++[⟨_,[]⟩],I.rt⟩,Y,rfl,rfl⟩,rfl,rfl,rfl,trivial⟩)
 all_goals done
end Go.D3
