/- CONTRACTS: the law FnExactSchemaMapFunctor. -/
import Derived.Test.YtpnchponfnbmiaaGreatDoorGBJ
import Derived.Test.YtpnchponfnbmiaaGreatDoorGBK
import Derived.Test.YtpnchponfnbmiaaGreatDoorGAM
namespace Go.D3
open Go
set_option maxHeartbeats 4000000
set_option maxRecDepth 100000
theorem Ff{a:List (List Int)}:cL a a.length<=dB List.length a:=by
 have:∀i,i<=a.length->cL a i=((a.take i).map List.length).sum:=by
  intro i;induction i with
  | zero=>intro _;simp[cL]
  | succ i ih=>intro h;rw[cL,ih (by omega),uc (cost:=List.length) (by omega) []]
 rw[this _ (Nat.le_refl _),List.take_length];unfold dB;omega
theorem OF{c:au}(h:c.Shape):c.bM<=1048576:=by
 have h1:=Ff (a:=c.co);have h2:=h.yh;unfold au.cost at h2;unfold au.bM;omega
end Go.D3
