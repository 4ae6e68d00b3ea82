/- The row and the card of 'FnExactSchemaMapFunctor', from the law's contract. -/
import Derived.Test.YtpnchponfnbmiaaGreatDoorGAN
import Derived.Test.YtpnchponfnbmiaaGreatDoorGAF
import Derived.Test.YtpnchponfnbmiaaGreatDoorCards
import Derived.Test.YtpnchponfnbmiaaGreatDoorTie
import Derived.JoinedCond
import Derived.Deep.DeepHandedRow
import Derived.Lay
namespace Go.D3
open Go
def kT:Ty:=.cons (.int .i64) (.cons (.sl (.int .i64)) .nil)
def x8:Ty:=.cons (.int .i64) (.cons (.sl (.int .i64)) (.cons (.sl (.int .i64)) (.cons (.sl kT) (.cons (.sl kT) .nil))))
def rk:Ty:=.cons x8 (.cons x8 (.cons (.sl (.int .i64)) (.cons (.sl kT) .nil)))
def rm:kT.V->Pth:=fun x=>⟨x.1,x.2.1⟩
def HU:x8.V->Sch:=fun x=>⟨x.1,x.2.1,x.2.2.1,List.map rm x.2.2.2.1,List.map rm x.2.2.2.2.1⟩
def TG:rk.V->Smp:=fun x=>⟨HU x.1,HU x.2.1,x.2.2.1,List.map rm x.2.2.2.1⟩
theorem qY(l:List kT.V):(Ty.sl kT).d l=U Pth.d Pth.zero (l.map rm):=by
 show D.slice (kT.d kT.z) (l.map kT.d)=D.slice Pth.zero.d ((l.map rm).map Pth.d);rw[List.map_map];rfl
theorem S8{a b c d e f g l1 l2 l3 l4 l5 m1 m2 m3 m4 m5:D}(h1:l1=m1)(h2:l2=m2)(h3:l3=m3)(h4:l4=m4)(h5:l5=m5):D.agg [a,b,c,l1,l2,d,e,f,l3,l4,g,l5]=D.agg [a,b,c,m1,m2,d,e,f,m3,m4,g,m5]:=by
 subst h1 h2 h3 h4 h5;rfl
theorem S9(x:rk.V):rk.d x=(TG x).d :=
 S8 (a:=.int .i64 x.1.1) (b:=ints x.1.2.1) (c:=ints x.1.2.2.1) (d:=.int .i64 x.2.1.1) (e:=ints x.2.1.2.1) (f:=ints x.2.1.2.2.1) (g:=ints x.2.2.1) (qY x.1.2.2.2.1) (qY x.1.2.2.2.2.1) (qY x.2.1.2.2.2.1) (qY x.2.1.2.2.2.2.1) (qY x.2.2.2.1)
end Go.D3
namespace Go.Proofs.YtpnchponfnbmiaaGreatDoor
open Go
namespace fnExactSchemaMapFunctor
theorem own:ownKnob Go.Proofs.Tryz.prog.godebug=none:=by kernel_rfl
theorem laid:laidOutB Go.Proofs.Tryz.prog=true:=by kernel_rfl
theorem c8:(D3.Ty.cons D3.rk .nil).eC Go.Proofs.Tryz.prog Go.Proofs.Tryz.f3.params.toList=true:=by kernel_rfl
theorem res:Go.Proofs.Tryz.f3.resultTypes=#[4]:=by kernel_rfl
theorem tb:Go.Proofs.Tryz.prog.underlying 4=some .bool:=by kernel_rfl
theorem np:Go.Proofs.Tryz.f3.params.size=1:=by kernel_rfl
set_option maxRecDepth 100000 in
theorem lifted(hR:∀m:D3.Smp,D3.al Go.Proofs.Tryz.prog 3 [.v (D3.Smp.d m)] (.bool true))(os:Os)(started:os.Started)(H:Type)(enc:TypeId×Value->H)(F:Stop.Interp) :
  ReturnsInHanded {} Go.Proofs.Tryz.checked os 3 .any ((OpenSpec.ofChange Rows.fnExactSchemaMapFunctorSpec).preRow enc Go.Proofs.Tryz.prog Go.Proofs.Tryz.f3 Rows.fnExactSchemaMapFunctorRow.domain false Rows.fnExactSchemaMapFunctorRow.laid) (((OpenSpec.ofChange Rows.fnExactSchemaMapFunctorSpec).at F).post enc Go.Proofs.Tryz.prog Go.Proofs.Tryz.f3 false true false false):=by
 refine returnsInHanded_of_row (C:=Go.Proofs.Tryz.checked) (s:=OpenSpec.ofChange Rows.fnExactSchemaMapFunctorSpec) own started (by kernel_rfl) Go.Proofs.Tryz.func3
  (ChangeSpec.witness_shaped (enc:=enc) (C:=Go.Proofs.Tryz.checked) (os:=os) (s:=Rows.fnExactSchemaMapFunctorSpec) (conds:=Rows.fnExactSchemaMapFunctorRow.domain) (X:=fun w _=>laidMetH Go.Proofs.Tryz.prog Rows.fnExactSchemaMapFunctorRow.laid w) false (World.doorLaid Go.Proofs.Tryz.prog 98 os) #[.agg #[.int .i64 0,.slice none 0 0,.slice none 0 0,.slice none 0 0,.slice none 0 0,.int .i64 0,.slice none 0 0,.slice none 0 0,.slice none 0 0,.slice none 0 0,.slice none 0 0,.slice none 0 0]] 8 rfl
    (World.shaped_of_RefB (by kernel_rfl) (by kernel_rfl)) (by kernel_rfl) (by kernel_rfl) (by kernel_rfl) (D3.JW os _)) ?_
 intro W base args ds gs before hval hW _ _ _ hL _ _;refine D3.K1 (ty:=.cons D3.rk .nil) (s:=Rows.fnExactSchemaMapFunctorSpec) rfl res tb laid c8 (fun ds hd=>?_) (fun y=>?_) (D3.Ki hL) hval hW
 ·rw[np] at hd
  match ds,hd with
  | [d],_=>rfl
 ·exact Eq.mpr (congrArg (fun d=>D3.al Go.Proofs.Tryz.prog 3 [.v d] (.bool true)) (D3.S9 y.1)) (hR _)
end fnExactSchemaMapFunctor
end Go.Proofs.YtpnchponfnbmiaaGreatDoor
