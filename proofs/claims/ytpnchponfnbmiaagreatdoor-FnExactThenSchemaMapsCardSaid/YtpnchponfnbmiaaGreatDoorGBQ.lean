/- CONTRACTS: the law FnExactSchemaMapFunctor. -/
import Derived.Test.YtpnchponfnbmiaaGreatDoorGAO
import Derived.Test.YtpnchponfnbmiaaGreatDoorGBO
import Derived.Test.YtpnchponfnbmiaaGreatDoorGBM
namespace Go.D3
open Go
set_option maxHeartbeats 4000000
set_option maxRecDepth 100000
theorem qS{a:List Pth}:bu Pth.aZ a a.length<=b7 Pth.cost a:=by
 have h:∀l:List Pth,(l.map Pth.aZ).sum=l.length+(l.map Pth.cost).sum:=fun l=>by
  induction l with
  | nil=>rfl
  | cons x l ih=>simp only[List.map_cons,List.sum_cons,List.length_cons,ih,Pth.aZ,Pth.cost];omega
 unfold bu b7;rw[List.take_length,h];omega
theorem u4(m:Smp):m.bh<=Smp.cost m:=by
 have h1:=qS (a:=m.src.lf);have h2:=qS (a:=m.src.rt);have h3:=qS (a:=m.av.lf);have h4:=qS (a:=m.av.rt);have h5:=qS (a:=m.aL);unfold Smp.bh Smp.cost Sch.bh Sch.cost;omega
end Go.D3
