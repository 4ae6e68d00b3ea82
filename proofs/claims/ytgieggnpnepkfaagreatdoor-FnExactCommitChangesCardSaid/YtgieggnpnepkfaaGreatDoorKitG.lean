/- WHAT CONTRACTS WITH LENT OBJECTS ARE PROVED WITH. Generic. -/
import Derived.Test.YtgieggnpnepkfaaGreatDoorKit
import Derived.Test.YtgieggnpnepkfaaGreatDoorFng
namespace Go.D3
open Go
section
variable {P:Program} {K:St→Prop} {st st':St} {env env':List D}
@[congr] theorem outG_congr {rs:List RS} {m:RM} {rc:D} {n:Nat} {gs gs':List D} (h:env=env'):outG rs m rc n gs gs' env=outG rs m rc n gs gs' env':=by rw [h]
@[congr] theorem outE_congr {rs:List RS} {m:RM} {Q:D→List D→Prop} {n:Nat} {gs:List D} (h:env=env'):outE rs m Q n gs env=outE rs m Q n gs env':=by rw [h]
end
section
variable {n a b c d e f:Nat} {r:List Nat}
theorem sg_0:sg n (a::r) 0=a:=rfl
theorem sg_1:sg n (a::b::r) 1=b:=rfl
theorem sg_2:sg n (a::b::c::r) 2=c:=rfl
theorem sg_3:sg n (a::b::c::d::r) 3=d:=rfl
theorem sg_4:sg n (a::b::c::d::e::r) 4=e:=rfl
theorem sg_5:sg n (a::b::c::d::e::f::r) 5=f:=rfl
end
attribute [go_sem] initG.eq_1 outG.eq_1 outE.eq_1 resG.eq_1 resG.eq_2 resG.eq_3 gpostG.eq_1 gpostG.eq_2 okcL.eq_1 okcL.eq_2 sg_0 sg_1 sg_2 sg_3 sg_4 sg_5 List.isEmpty_nil List.isEmpty_cons
attribute [go_sem ↓] dynVC.eq_1 dynVC.eq_2 dynVC.eq_3 dyn1.eq_1 boxdG.eq_1 takeL.eq_1 takeL.eq_2 takeL.eq_3
end Go.D3
