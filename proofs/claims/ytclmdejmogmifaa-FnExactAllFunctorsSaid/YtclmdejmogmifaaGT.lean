/- THE ROWS' TYPE OF CATEGORIES. -/
import Derived.Test.YtclmdejmogmifaaGA
import Derived.Test.YtclmdejmogmifaaClaim
/- THE ROWS' TYPE OF CATEGORIES. -/
namespace Go.D3
open Go
def catTy : Ty := .cons (.int .i64) (.cons (.sl (.int .i64)) (.cons (.sl (.int .i64)) (.cons (.sl (.int .i64)) (.cons (.sl (.sl (.int .i64))) .nil))))
def toCat : catTy.V → Cat := fun x => ⟨x.1, x.2.1, x.2.2.1, x.2.2.2.1, x.2.2.2.2.1⟩
theorem cat_d (x : catTy.V) : catTy.d x = (toCat x).d := rfl
end Go.D3
