/- THE ROWS' TYPE OF CATEGORIES. -/
import Derived.Test.YtaknpcdnmecblaaGAA
import Derived.Test.YtaknpcdnmecblaaHG
namespace Go.D3
open Go
def uw:Ty:=.cons (.int .i64) (.cons (.sl (.int .i64)) (.cons (.sl (.int .i64)) (.cons (.sl (.int .i64)) (.cons (.sl (.sl (.int .i64))) .nil))))
def OF:uw.V->Cat:=fun x=>⟨x.1,x.2.1,x.2.2.1,x.2.2.2.1,x.2.2.2.2.1⟩
end Go.D3
