/- CONTRACTS: functors of maps of schemas: the program's side. -/
import Derived.Test.YtpnchponfnbmiaaGreatDoorGAJ
import Derived.Test.YtpnchponfnbmiaaGreatDoorGAL
namespace Go.D3
open Go Proofs
set_option maxHeartbeats 4000000
set_option maxRecDepth 100000
def BI:List Nat:=[0,2]
def J5:Sl:=ah Tryz.types Tryz.f111 BI []
theorem Tx:aC Tryz.prog Tryz.f111 BI J5 1=true:=by decide +kernel
theorem Xz(a:au)(hs:au.cost a<=1048576):aw Tryz.prog 111 [.v (.ptr a.cells)] (au.d a):=by
 unfold au.cost at hs;refine aK Tryz.func111 Tx ?_;unfold J5 ah BI;simp only[go_sem];refine an (kN a.fr (by omega)) rfl (.inl (bT _)) ?_;simp only[go_sem];refine an (kN a.to (by omega)) rfl (.inl (bT _)) ?_;simp only[go_sem];refine an (kN a.aU (by omega)) rfl (.inl (bT _)) ?_;simp only[go_sem];refine an (JB a.co (by omega)) rfl (.inl (mz _)) ?_;simp only[go_sem]
 all_goals rfl
end Go.D3
namespace Go.D3
open Go
set_option maxHeartbeats 4000000
set_option maxRecDepth 100000
end Go.D3
