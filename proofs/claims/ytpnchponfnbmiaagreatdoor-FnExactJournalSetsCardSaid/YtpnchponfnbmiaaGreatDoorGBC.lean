/- CONTRACTS: the data behind all transactions, the program's side. -/
import Derived.Test.YtpnchponfnbmiaaGreatDoorGAA
namespace Go.D3
open Go Proofs
set_option maxHeartbeats 4000000
set_option maxRecDepth 100000
def mc(s:aa)(dt:List ak)(tx:List (List az))(g:Nat):List D:=[.int .i64 s.nd,ints s.fr,ints s.to,ae U.d U.zero s.lf,ae U.d U.zero s.rt,ae ak.d ak.zero dt,ae (ae az.d az.zero) [] tx,.int .i64 g]
def w5:List Nat:=[0,2]
def A2:Sl:=ah Tryz.types Tryz.f66 w5 [(7,120)]
theorem Ic:aC Tryz.prog Tryz.f66 w5 A2 1=true:=by decide +kernel
def cE(s:aa)(dt:List ak)(tx:List (List az))(g:Nat):List D:=[.int .i64 s.nd,.o (ints s.fr),.o (ints s.to),.o (ae U.d U.zero s.lf),.o (ae U.d U.zero s.rt),.o (ae ak.d ak.zero dt),.o (ae (ae az.d az.zero) [] tx),.int .i64 g]
theorem Ys(s:aa)(dt:List ak)(tx:List (List az))(g:Nat)(h : 0<dt.length)(hl:dt.length<=4294966000):fK Tryz.prog 66 [.av 0 [(0,0)]] [.box (cE s dt tx g)] (.agg [.sub 0 [(0,5),(dt.length-1,0)],.sub 0 [(0,5),(dt.length-1,1)]]) [.box (cE s dt tx g)]:=by
 unfold cE;refine rC .refs Tryz.func66 Ic ?_;unfold A2 ah w5;simp only[go_sem];have hw:IntKind.i64.wrap ((dt.length:Int)-1)=((dt.length-1:Nat):Int):=by rw[wrap_small (by omega) (by omega)];omega
 rw[hw,Int.toNat_natCast];exact⟨⟨by omega,by omega⟩,by omega,rfl⟩
end Go.D3
