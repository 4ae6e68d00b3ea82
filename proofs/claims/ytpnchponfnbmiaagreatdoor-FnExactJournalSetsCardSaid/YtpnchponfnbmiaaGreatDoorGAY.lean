/- CONTRACTS: the lines of changes and transactions, both sides. -/
import Derived.Test.YtpnchponfnbmiaaGreatDoorGAV
import Derived.Test.YtpnchponfnbmiaaGreatDoorGAX
namespace Go.D3
open Go
set_option maxHeartbeats 4000000
set_option maxRecDepth 100000
set_option maxHeartbeats 1000000
def az.has(c:az):Prop:=IntKind.i64.has c.kd/\IntKind.i64.has c.fi/\IntKind.i64.has c.se/\IntKind.i64.has c.th
def j9(t:List UInt8):List UInt8:=[101,110,100,32]++Lib.itoa (gi 7 t)
theorem OR{t:List UInt8}:∀{n:Int},0<=n->n<=1000003->0<=gi n t/\gi n t<=1000003:=by
 induction t with
 | nil=>exact fun h1 h2=>⟨h1,h2⟩
 | cons b t ih =>
  intro n h1 h2;have:=b.toNat_lt;have e:((31*n+(b.toNat:Int)).tmod 1000003)=(31*n+(b.toNat:Int)) % 1000003:=Int.tmod_eq_emod_of_nonneg (by omega);exact ih (n:=(31*n+(b.toNat:Int)).tmod 1000003) (by rw[e];omega) (by rw[e];omega)
theorem uT{t:List UInt8} : 0<=gi 7 t/\gi 7 t<=1000003:=OR (by decide) (by decide)
theorem Hz{α:Type}{l:List α}{i:Nat}{d:α}(h:i<l.length):l.getD i d∈l:=by rw[aN h];exact List.getElem_mem _
end Go.D3
