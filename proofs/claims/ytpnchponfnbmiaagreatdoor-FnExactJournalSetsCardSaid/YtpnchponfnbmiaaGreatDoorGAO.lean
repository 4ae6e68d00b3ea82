/- CONTRACTS: functors of maps of schemas: the reference's side. -/
import Derived.Test.YtpnchponfnbmiaaGreatDoorGAL
import Derived.Test.YtpnchponfnbmiaaGreatDoorGAN
import Derived.Test.YtpnchponfnbmiaaGreatDoorHG
import Derived.Test.YtpnchponfnbmiaaGreatDoorGAI
namespace Go.D3
open Go Proofs
set_option maxRecDepth 100000
set_option maxHeartbeats 4000000
def bj.sL(x:bj):List D:=[.int .i64 x.c.ob,ints x.c.fr,ints x.c.to,ints x.c.aU,aF x.c.co,ae U.d U.zero x.ls,ints x.ed]
def bj.none:bj:=⟨au.zero,[],[]⟩
noncomputable def kT(s:aa):D:=match s.cO with
 | some x=>.al [.agg x.sL,.bool true]
 | Option.none=>.al [.agg bj.none.sL,.bool false]
theorem Zb(s:aa)(h:s.ok=true):aw Tryz.prog 61 [.v (aa.d s)] (.vw (kT s)):=by
 have hv:=bK.view (Q:=fun l=>∃(x:bj)(M:List (Option U))(ok:Bool),l=[x.dX (ae fm none M),.bool ok]/\(ok=true->M=x.ls.map some/\s.cO=some x)/\(ok=false->s.cO=none/\x=⟨au.zero,[],[]⟩/\M=[])) (YZ s h);have hc:=bK.clean hv fun l hl=>by obtain⟨_,_,_,rfl,_⟩:=hl;exact⟨⟨trivial,trivial,trivial,trivial,trivial,trivial,trivial,trivial⟩,trivial,trivial⟩
 have hg:fK Tryz.prog 61 [aa.d s] [] (kT s) []:=hc.imp fun r g ⟨hg,l,hr,x,M,ok,hl,h1,h2⟩=>⟨?_,hg⟩
 ·have:(kT s).cn=true/\(kT s).refs dD:=by unfold kT;cases s.cO<;>exact⟨rfl,⟨trivial,trivial,trivial,trivial,trivial,trivial,trivial,trivial⟩,trivial,trivial⟩
  exact hg.ret this.1 this.2
 ·rw[hr,hl]
  cases ok with
  | true =>
   obtain⟨rfl,hp⟩:=h1 rfl;unfold kT;rw[hp];show D.al [.agg [_,(ints x.c.fr).strip,(ints x.c.to).strip,(ints x.c.aU).strip,(aF x.c.co).strip,(ae fm none (x.ls.map some)).strip,(ints x.ed).strip],_]=_;rw[Ar,Bv,fX,fX,fX,fX];rfl
  | false =>
   obtain⟨hp,rfl,rfl⟩:=h2 rfl;unfold kT;rw[hp];rfl
end Go.D3
namespace Go.D3
open Go
set_option maxHeartbeats 4000000
set_option maxRecDepth 100000
end Go.D3
