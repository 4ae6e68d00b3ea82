/- CONTRACTS: functors of maps of schemas: the reference's side. -/
import Derived.Test.YtaknpcdnmecblaaGreatDoorGAQ
import Derived.Test.YtaknpcdnmecblaaGreatDoorGAS
import Derived.Test.YtaknpcdnmecblaaGreatDoorHG
import Derived.Test.YtaknpcdnmecblaaGreatDoorGAC
namespace Go.D3
open Go Proofs
set_option maxRecDepth 100000
set_option maxHeartbeats 4000000
def aW.sL(x:aW):List D:=[.int .i64 x.c.ob,ints x.c.fr,ints x.c.to,ints x.c.an,aC x.c.co,ae U.d U.zero x.ls,ints x.ed]
def aW.none:aW:=⟨af.zero,[],[]⟩
noncomputable def lu(s:aa):D:=match s.cn with
 | some x=>.av [.agg x.sL,.bool true]
 | Option.none=>.av [.agg aW.none.sL,.bool false]
theorem M1{s:aa}(h:s.cn=none):lu s=.av [.agg aW.none.sL,.bool false]:=by unfold lu;rw[h]
theorem M3{s:aa}{x:aW}(h:s.cn=some x):lu s=.av [.agg x.sL,.bool true]:=by unfold lu;rw[h]
theorem JM(s:aa)(h:s.ok=true):aA Tryz.prog 46 [.v (aa.d s)] (.vw (lu s)):=by
 have Y:=bn.view (Q:=fun l=>∃(x:aW)(M:List (Option U))(ok:Bool),l=[x.dX (ae eZ none M),.bool ok]/\(ok=true->M=x.ls.map some/\s.cn=some x)/\(ok=false->s.cn=none/\x=⟨af.zero,[],[]⟩/\M=[])) (Zi s h);have V:=bn.clean Y fun l I=>by obtain⟨_,_,_,rfl,_⟩:=I;exact⟨⟨trivial,trivial,trivial,trivial,trivial,trivial,trivial,trivial⟩,trivial,trivial⟩
 have hg:lE Tryz.prog 46 [aa.d s] [] (lu s) []:=V.imp fun r g ⟨hg,l,W,x,M,ok,I,h1,S⟩=>⟨?_,hg⟩
 ·have:(lu s).cL=true/\(lu s).refs dW:=by unfold lu;cases s.cn<;>exact⟨rfl,⟨trivial,trivial,trivial,trivial,trivial,trivial,trivial,trivial⟩,trivial,trivial⟩
  exact hg.ret this.1 this.2
 ·rw[W,I]
  cases ok with
  | true =>
   obtain⟨rfl,hp⟩:=h1 rfl;unfold lu;rw[hp];show D.av [.agg [_,(ints x.c.fr).strip,(ints x.c.to).strip,(ints x.c.an).strip,(aC x.c.co).strip,(ae eZ none (x.ls.map some)).strip,(ints x.ed).strip],_]=_;rw[AN,uL,dD,dD,dD,dD];rfl
  | false =>
   obtain⟨hp,rfl,rfl⟩:=S rfl;unfold lu;rw[hp];rfl
end Go.D3
namespace Go.D3
open Go
set_option maxHeartbeats 4000000
set_option maxRecDepth 100000
end Go.D3
