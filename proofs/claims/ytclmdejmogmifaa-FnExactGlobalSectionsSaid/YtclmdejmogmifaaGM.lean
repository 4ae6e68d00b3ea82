/- THE ROWS' TYPE OF SET FUNCTORS. -/
import Derived.Test.YtclmdejmogmifaaGA
import Derived.Test.YtclmdejmogmifaaClaim
import Derived.Test.YtclmdejmogmifaaGI
/- THE ROWS' TYPE OF CATEGORIES. -/
namespace Go.D3
open Go
def catTy : Ty := .cons (.int .i64) (.cons (.sl (.int .i64)) (.cons (.sl (.int .i64)) (.cons (.sl (.int .i64)) (.cons (.sl (.sl (.int .i64))) .nil))))
def toCat : catTy.V → Cat := fun x => ⟨x.1, x.2.1, x.2.2.1, x.2.2.2.1, x.2.2.2.2.1⟩
theorem cat_d (x : catTy.V) : catTy.d x = (toCat x).d := rfl
end Go.D3

/- THE ROWS' TYPE OF SET FUNCTORS. -/
namespace Go.D3
open Go
def sfTy : Ty := .cons catTy (.cons (.sl (.int .i64)) (.cons (.sl (.sl (.int .i64))) .nil))
def toSf : sfTy.V → Sf := fun x => ⟨toCat x.1, x.2.1, x.2.2.1⟩
theorem sf_d (x : sfTy.V) : sfTy.d x = (toSf x).d := rfl
end Go.D3
