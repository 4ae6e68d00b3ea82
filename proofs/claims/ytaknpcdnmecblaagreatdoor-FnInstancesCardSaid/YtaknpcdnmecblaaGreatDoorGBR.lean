/- CONTRACTS: drawn instances, the reference's side: DrawInstanceSets. -/
import Derived.Test.YtaknpcdnmecblaaGreatDoorGBQ
namespace Go.D3
open Go Proofs
set_option maxHeartbeats 4000000
set_option maxRecDepth 100000
def Eg(l:List D):Prop:=∃(s:aa)(sz:List Int)(mp:List (List Int)),l=[.agg [.int .i64 s.nd,.vw (ints s.fr),.vw (ints s.to),.vw (ae U.d U.zero s.lf),.vw (ae U.d U.zero s.rt)],ints sz,aC mp]
def C1:List Nat:=[0,2,3,4,5,6,7,8]
def K3:Sl:=ah Tryz.types Tryz.f7 C1 [(0,36),(0,37),(0,38),(1,36)]
theorem UH:aE Tryz.prog Tryz.f7 C1 K3 1=true:=by decide +kernel
theorem YI{c:List Int}(S:ij c):bn Tryz.prog 7 [ae (D.int .u8) 0 c] [] (fun rc gs=>gs=[]/\∃l,rc=.o (.av l)/\Eg l):=by
 refine dB .tree Tryz.func7 UH ?_;unfold K3 ah C1;simp only[go_sem];refine bj [] false (YQ c S) ?_;rintro _ _ ⟨rfl,h,rfl⟩;refine⟨(by repeat(first | exact trivial | refine⟨(fun h=>by cases h),?_⟩)),(fun h=>by cases h),?_⟩;unfold bR;simp only[go_sem];refine bj [4] false (XX S (Nat.zero_le _)) ?_;rintro _ _ ⟨W,h1,s,I,rfl,rfl⟩;refine⟨(by repeat(first | exact trivial | refine⟨(fun h=>by cases h),?_⟩)),(fun h=>by cases h),?_⟩;simp only[go_sem];refine bj [4] false (Zf S I s) ?_;rintro _ _ ⟨a2,Y,sz,mp,V,rfl,rfl⟩;refine⟨(by repeat(first | exact trivial | refine⟨(fun h=>by cases h),?_⟩)),(fun h=>by cases h),?_⟩;simp only[go_sem];exact⟨_,_,⟨rfl,_,rfl,s,sz,mp,rfl⟩,rfl,rfl,trivial⟩
theorem XW{c:List Int}(S:ij c):bn Tryz.prog 7 [ae (D.int .u8) 0 c] [] (fun rc gs=>gs=[]/\∃(s:aa)(sz:List Int)(mp:List (List Int)),rc=.av [aa.d s,ints sz,aC mp]):=by
 have Y:=bn.view (Q:=Eg) (YI S);have I:=bn.clean Y fun l V=>by obtain⟨_,_,_,rfl⟩:=V;exact⟨⟨trivial,trivial,trivial,trivial,trivial,trivial⟩,trivial,trivial,trivial⟩
 refine I.imp fun rc gs W=>?_
 obtain⟨hg,l,rfl,s,sz,mp,rfl⟩:=W;refine⟨hg,s,sz,mp,?_⟩;show D.av [.agg [_,(ints s.fr).strip,(ints s.to).strip,(ae U.d U.zero s.lf).strip,(ae U.d U.zero s.rt).strip],(ints sz).strip,(aC mp).strip]=_;rw[dD,dD,dD,o6,o6,uL];rfl
end Go.D3
