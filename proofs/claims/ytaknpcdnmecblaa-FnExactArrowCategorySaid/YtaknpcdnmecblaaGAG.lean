/- CONTRACTS: spec.AreBound. -/
import Derived.Test.YtaknpcdnmecblaaGAE
import Derived.Test.YtaknpcdnmecblaaGAF
namespace Go.D3
open Go Proofs
set_option maxHeartbeats 4000000
set_option maxRecDepth 100000
def yM:List Nat:=[0,2,1,3]
def EA:Sl:=al Try.types Try.f13 yM []
theorem KT:aX Try.prog Try.f13 yM EA 1=true:=by decide +kernel
theorem wZ(c:Cat):aD Try.prog 13 [.v c.d] (.bool c.cZ):=by
 refine a7 Try.func13 KT ?_;unfold EA al yM;simp only[go_sem];refine aC (Nl c) rfl (.inl rfl) ?_;simp only[go_sem];refine⟨fun h=>?_,fun h=>?_⟩
 ·unfold Cat.cZ;rw[Bool.not_eq_true'] at h;rw[h];rfl
 rw[Bool.not_eq_false'] at h;refine aC (Np c (Cat.tp.1 h)) rfl (.inl rfl) ?_;simp only[fd];simp only[go_sem];unfold Cat.cZ;rw[h];rfl
end Go.D3
