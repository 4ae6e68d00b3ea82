/- CONTRACTS: functors of maps of schemas: the program's side. -/
import Derived.Test.YtaknpcdnmecblaaGreatDoorGAO
import Derived.Test.YtaknpcdnmecblaaGreatDoorGAQ
namespace Go.D3
open Go Proofs
set_option maxHeartbeats 4000000
set_option maxRecDepth 100000
def BY:List Nat:=[0,2]
def JZ:Sl:=ah Tryz.types Tryz.f98 BY []
theorem TE:aE Tryz.prog Tryz.f98 BY JZ 1=true:=by decide +kernel
theorem X1(a:af)(I:af.cost a<=1048576):aA Tryz.prog 98 [.v (.ptr a.cells)] (af.d a):=by
 unfold af.cost at I;refine aQ Tryz.func98 TE ?_;unfold JZ ah BY;simp only[go_sem];refine aj (kc a.fr (by omega)) rfl (.inl (bJ _)) ?_;simp only[go_sem];refine aj (kc a.to (by omega)) rfl (.inl (bJ _)) ?_;simp only[go_sem];refine aj (kc a.an (by omega)) rfl (.inl (bJ _)) ?_;simp only[go_sem];refine aj (Ym a.co (by omega)) rfl (.inl (ow _)) ?_;simp only[go_sem]
 all_goals rfl
end Go.D3
namespace Go.D3
open Go
set_option maxHeartbeats 4000000
set_option maxRecDepth 100000
end Go.D3
